/- Texts of the proof, packed: part 3. -/
import Derived.Test.YtokiohnjegbnpaaGreatP1
import Derived.Test.YtokiohnjegbnpaaGreatProg
import Derived.Shelf.SlLaysE0
import Derived.Shelf.RegionOpenPlain
import Derived.WalkKit
import Derived.Deep.LoopGhost
import Derived.Lib.Walk
import Derived.Lib.SliceRun
import Derived.Shelf.Lays2
import Derived.Lib.JoinLaws
import Derived.Lib.AppendZeros
import Derived.Lib.Overlaps
import Derived.Laws.Externs
import Derived.Laws.IdiomCopy
import Derived.Laws.CopyRow
import Derived.Maps.AppendAt
import Derived.Shelf.Small.Strs
import Derived.Shelf.Spec.SlicesInsert
import Derived.Shelf.SlicesE.DeleteFunc
set_option linter.unusedVariables false
set_option linter.unusedSimpArgs false
namespace Go.Proofs.YtokiohnjegbnpaaGreat.Core
open Go
def Ev (p:Nat->Prop):Prop:=∃ m,∀ k,m<=k->p k
theorem Ev.mono {p q:Nat->Prop} (h:Ev p) (f:∀ k,p k->q k):Ev q:=h.elim fun m hm=>⟨m,fun k hk=>f k (hm k hk)⟩
theorem Ev.const {p:Prop} (h:p):Ev fun _=>p:=⟨0,fun _ _=>h⟩
theorem Ev.all {p:Nat->Prop} (h:∀ k,p k):Ev p:=⟨0,fun k _=>h k⟩
theorem Ev.and {p q:Nat->Prop} (h:Ev p) (g:Ev q):Ev fun k=>p k/\q k:=by
 obtain ⟨m,hm⟩:=h
 obtain ⟨n,hn⟩:=g
 exact ⟨max m n,fun k hk=>⟨hm k (by omega),hn k (by omega)⟩⟩
noncomputable def Lm {ρ:Type} (u:Nat->Option ρ):Option ρ :=
 @dite _ (∃ r,Ev fun k=>u k=some r) (Classical.propDecidable _) (fun h=>some (Classical.choose h)) (fun _=>none)
theorem yu {ρ:Type} {u:Nat->Option ρ} {r:ρ} (h:Lm u=some r):Ev fun k=>u k=some r:=by
 unfold Lm at h
 split at h
 ·rename_i hx
  cases h
  exact Classical.choose_spec hx
 ·cases h
theorem AB9 {ρ:Type} {u:Nat->Option ρ} {r:ρ} (h:Ev fun k=>u k=some r):Lm u=some r:=by
 have hx:∃ r,Ev fun k=>u k=some r:=⟨r,h⟩
 unfold Lm
 rw [dif_pos hx]
 obtain ⟨m,hm⟩:=(Classical.choose_spec hx).and h
 obtain ⟨a,b⟩:=hm m (Nat.le_refl _)
 rw [<- b,a]
def Conv {ρ:Type} (kn:Nat->St->Option ρ) (kl:St->Option ρ):Prop:=∀ s r,kl s=some r->Ev fun j=>kn j s=some r
theorem Conv.refl {ρ:Type} (kl:St->Option ρ):Conv (fun _=>kl) kl:=fun _ _ h=>.const h
def Xp (cal:Nat->HM) (c:HM):Prop:=∀ f a b r,c f a b=some r->Ev fun j=>cal j f a b=some r
theorem Xp.refl (c:HM):Xp (fun _=>c) c:=fun _ _ _ _ h=>.const h
abbrev Lp (ρ:Type):Type:=((St->Option ρ)->St->Option ρ)->St->Option ρ
def AB_ {ρ:Type} (F:Nat->(St->Option ρ)->St->Option ρ) (FL:(St->Option ρ)->St->Option ρ):Prop :=
 ∀ (go:Nat->St->Option ρ) (gl:St->Option ρ),Conv go gl->Conv (fun j=>F j (go j)) (FL gl)
def ACA {ρ:Type} (lp:Nat->Lp ρ) (ll:Lp ρ):Prop:=∀ (F:Nat->(St->Option ρ)->St->Option ρ) (FL:(St->Option ρ)->St->Option ρ),AB_ F FL->(∀ j,AB_ (fun _=>F j) (F j))->Conv (fun j=>lp j (F j)) (ll FL)
noncomputable def MJ {ρ:Type}:Lp ρ:=fun F s=>Lm fun n=>PT n F s
theorem ACB {ρ:Type}:ACA (ρ:=ρ) PT MJ:=by
 intro F FL hF _ s r h
 have h:=yu h
 obtain ⟨m,hm⟩:=h
 have key:∀ n,∀ g:Nat->Nat,(∀ j,n<=g j)->Conv (fun j=>PT (g j) (F j)) (PT n FL):=by
  intro n
  induction n with
  | zero=>intro g _ s r h; cases h
  | succ n ih =>
   intro g hg s r h
   refine (hF (fun j=>PT (g j-1) (F j)) (PT n FL) (ih (fun j=>g j-1) fun j=>by have:=hg j; omega) s r h).mono fun j hj=>?_
   have e:g j=(g j-1)+1:=by have:=hg j; omega
   show PT (g j) (F j) s=some r
   rw [e]
   exact hj
 obtain ⟨k,hk⟩:=key m (fun j=>max j m) (fun j=>by omega) s r (hm m (Nat.le_refl _))
 refine ⟨max k m,fun j hj=>?_⟩
 have:=hk j (by omega)
 simp only [show max j m=j by omega] at this
 exact this
theorem yv {ρ:Type} (k:Nat):ACA (ρ:=ρ) (fun _=>PT k) (PT k):=by
 intro F FL hF _
 induction k with
 | zero=>intro s r h; cases h
 | succ k ih=>exact hF _ _ ih
theorem r_ {ρ:Type} {F:(St->Option ρ)->St->Option ρ} (hF:AB_ (fun _=>F) F) {s:St} {r:ρ} (h:F (MJ F) s=some r):MJ F s=some r:=by
 obtain ⟨m,hm⟩:=hF (fun j=>PT j F) (MJ F) (fun s r h=>yu h) s r h
 exact AB9 ⟨m+1,fun k hk=>by
  cases k with
  | zero=>omega
  | succ k=>exact hm k (by omega)⟩
theorem yw {ρ:Type}:ACA (ρ:=ρ) (fun _=>MJ) MJ:=by
 intro F FL hF hs s r h
 obtain ⟨m,hm⟩:=yu h
 have key:∀ n,Conv (fun j=>MJ (F j)) (PT n FL):=by
  intro n
  induction n with
  | zero=>intro s r h; cases h
  | succ n ih=>intro s r h; exact (hF _ _ ih s r h).mono fun j hj=>r_ (hs j) hj
 exact key m s r (hm m (Nat.le_refl _))
theorem DW {α β:Type} {x:Option α} {f:Nat->α->Option β} {g:α->Option β} (h:∀ a r,g a=some r->Ev fun j=>f j a=some r) (r:β) (hx:x.bind g=some r):Ev fun j=>x.bind (f j)=some r:=by
 cases x with
 | none=>cases hx
 | some a=>exact h a r hx
theorem sA {ρ:Type} {s:St} {v:AV} {K:Kd} {kn:Nat->List K.T->Option ρ} {kl:List K.T->Option ρ} (hk:∀ a r,kl a=some r->Ev fun j=>kn j a=some r) (r:ρ) (h:s.list v K kl=some r):Ev fun j=>s.list v K (kn j)=some r:=by
 unfold St.list at h ⊢
 split at h
 ·exact hk _ _ h
 ·split at h
  ·rename_i e
   simp only [dif_pos e]
   exact hk _ _ h
  ·cases h
 ·split at h
  ·rename_i e0
   split at h
   ·rename_i e
    simp only [e0,dif_pos e]
    exact hk _ _ h
   ·cases h
  ·rename_i e0
   split at h
   ·rename_i e
    simp only [e0,dif_pos e]
    exact hk _ _ h
   ·cases h
  ·rename_i e0
   split at h
   ·rename_i e
    simp only [e0,dif_pos e]
    exact hk _ _ h
   ·cases h
  ·cases h
 ·cases h
theorem ABJ {ρ:Type} {op:BinOp} {x y:AV} {kn:Nat->AV->Option ρ} {kl:AV->Option ρ} (hk:∀ a r,kl a=some r->Ev fun j=>kn j a=some r) (r:ρ) (h:oL op x y kl=some r):Ev fun j=>oL op x y (kn j)=some r:=by
 have e:∀ k:AV->Option ρ,oL op x y k=(oL op x y some).bind k:=by
  intro k
  unfold oL
  repeat' split
  all_goals rfl
 rw [e] at h
 simp only [e (kn _)]
 exact DW hk r h
theorem ACC {ρ:Type} {op:UnOp} {x:AV} {kn:Nat->AV->Option ρ} {kl:AV->Option ρ} (hk:∀ a r,kl a=some r->Ev fun j=>kn j a=some r) (r:ρ) (h:AAv op x kl=some r):Ev fun j=>AAv op x (kn j)=some r:=by
 unfold AAv at h ⊢
 split at h<;>first | exact hk _ _ h | cases h
theorem yx {α β:Type} {x:Nat->Option α} {xl:Option α} {f:Nat->α->Option β} {g:α->Option β} (hx:∀ a,xl=some a->Ev fun j=>x j=some a) (h:∀ a r,g a=some r->Ev fun j=>f j a=some r) (r:β) (hr:xl.bind g=some r):Ev fun j=>(x j).bind (f j)=some r:=by
 cases xl with
 | none=>cases hr
 | some a=>exact ((hx a rfl).and (h a r hr)).mono fun j hj=>by rw [hj.1]; exact hj.2
theorem AED {ρ:Type} {cal:Nat->HM} {c:HM} {d z:Nat} {x:DP} {lo hi:Option DP} {kn:Nat->St->Option ρ} {kl:St->Option ρ} (hk:Conv kn kl) (s:St) (r:ρ) (h:Fe c kl s (.sl d z x lo hi)=some r):Ev fun j=>Fe (cal j) (kn j) s (.sl d z x lo hi)=some r:=by
 simp only [Fe] at h ⊢
 split at h
 ·split at h
  ·rename_i ez
   split at h
   ·split at h
    ·rename_i g1
     split at h
     ·rename_i g2
      split at h
      ·rename_i g3
       simp only [if_pos ez,if_pos g1,if_pos g2,if_pos g3]
       exact hk _ _ h
      ·cases h
     ·cases h
    ·cases h
   ·cases h
  ·cases h
 ·split at h
  ·rename_i ez
   split at h
   ·split at h
    ·rename_i g1
     split at h
     ·rename_i g2
      split at h
      ·rename_i g3
       simp only [if_pos ez,if_pos g1,if_pos g2,if_pos g3]
       exact hk _ _ h
      ·cases h
     ·cases h
    ·cases h
   ·cases h
  ·cases h
 ·cases h
mutual
theorem sB {ρ:Type} {cal:Nat->HM} {c:HM} (hc:Xp cal c):∀ (ao:Gf) {kn:Nat->St->Option ρ} {kl:St->Option ρ},Conv kn kl->∀ s r,Fe c kl s ao=some r->Ev fun j=>Fe (cal j) (kn j) s ao=some r
 | .mv d x,kn,kl,hk,s,r,h=>hk _ _ h
 | .nilrow d t K,kn,kl,hk,s,r,h=>hk _ _ h
 | .pick d c a b,kn,kl,hk,s,r,h=>by
  simp only [Fe] at h ⊢
  split at h
  ·split at h<;>rename_i e<;>simp only [e,if_true,if_false,Bool.false_eq_true]<;>exact hk _ _ h
  ·cases h
 | .sc c want ops d a b,kn,kl,hk,s,r,h=>by
  simp only [Fe] at h ⊢
  split at h
  ·split at h
   ·rename_i e
    simp only [e,if_true]
    exact w4 hc ops (kn:=fun j s'=>kn j (s'.put d (if want then s'.opd a else s'.opd b))) (kl:=fun s'=>kl (s'.put d (if want then s'.opd a else s'.opd b))) (fun s r h=>hk _ _ h) s r h
   ·rename_i e
    simp only [if_neg e]
    exact hk _ _ h
  ·cases h
 | .alloc d cs,kn,kl,hk,s,r,h=>hk _ _ h
 | .box d x own,kn,kl,hk,s,r,h=>by
  simp only [Fe] at h ⊢
  exact DW (fun a r h=>hk _ _ h) r h
 | .build d zero parts,kn,kl,hk,s,r,h=>by
  simp only [Fe] at h ⊢
  exact DW (fun a r h=>hk _ _ h) r h
 | .bnew d zero parts,kn,kl,hk,s,r,h=>by
  simp only [Fe] at h ⊢
  exact DW (fun a r h=>hk _ _ h) r h
 | .brow d t K parts,kn,kl,hk,s,r,h=>by
  simp only [Fe] at h ⊢
  exact DW (fun a r h=>DW (fun a r h=>hk _ _ h) r h) r h
 | .blst d K parts,kn,kl,hk,s,r,h=>by
  simp only [Fe] at h ⊢
  exact DW (fun a r h=>DW (fun a r h=>hk _ _ h) r h) r h
 | .load d x n,kn,kl,hk,s,r,h=>by
  simp only [Fe] at h ⊢
  refine DW (fun a r h=>?_) r h
  split at h
  ·rename_i e
   simp only [if_pos e]
   exact hk _ _ h
  ·cases h
 | .store x y m own,kn,kl,hk,s,r,h=>by
  simp only [Fe] at h ⊢
  split at h
  ·rename_i e
   simp only [if_pos e]
   exact DW (fun a r h=>hk _ _ h) r h
  ·cases h
 | .nilc d x,kn,kl,hk,s,r,h=>by
  simp only [Fe] at h ⊢
  split at h<;>first | exact hk _ _ h | cases h
 | .bin d op x y,kn,kl,hk,s,r,h=>by
  simp only [Fe] at h ⊢
  exact ABJ (fun a r h=>hk _ _ h) r h
 | .eqs d neg K x y,kn,kl,hk,s,r,h=>by
  simp only [Fe] at h ⊢
  exact DW (fun a r h=>DW (fun a r h=>hk _ _ h) r h) r h
 | .un d op x,kn,kl,hk,s,r,h=>by
  simp only [Fe] at h ⊢
  exact ACC (fun a r h=>hk _ _ h) r h
 | .cvi d k x,kn,kl,hk,s,r,h=>by
  simp only [Fe] at h ⊢
  split at h<;>first | exact hk _ _ h | cases h
 | .bts d x,kn,kl,hk,s,r,h=>by
  simp only [Fe] at h ⊢
  exact sA (fun a r h=>hk _ _ h) r h
 | .fld d x off,kn,kl,hk,s,r,h=>by
  simp only [Fe] at h ⊢
  split at h<;>first | exact hk _ _ h | cases h
 | .field d x off n,kn,kl,hk,s,r,h=>by
  simp only [Fe] at h ⊢
  split at h
  ·split at h
   ·rename_i e
    simp only [if_pos e]
    exact hk _ _ h
   ·cases h
  ·cases h
 | .idx d z x i,kn,kl,hk,s,r,h=>by
  have e:∀ k:St->Option ρ,Fe (cal 0) k s (.idx d z x i)=(Fe (cal 0) some s (.idx d z x i)).bind k:=by
   intro k
   simp only [Fe]
   repeat' split
   all_goals rfl
  have e2:∀ k:St->Option ρ,∀ c:HM,Fe c k s (.idx d z x i)=Fe (cal 0) k s (.idx d z x i):=fun k c=>by simp only [Fe]
  rw [e2,e] at h
  simp only [e2 (kn _),e (kn _)]
  exact DW (fun a r h=>hk _ _ h) r h
 | .sidx d x i,kn,kl,hk,s,r,h=>by
  have e:∀ k:St->Option ρ,Fe (cal 0) k s (.sidx d x i)=(Fe (cal 0) some s (.sidx d x i)).bind k:=by
   intro k
   simp only [Fe]
   repeat' split
   all_goals rfl
  have e2:∀ k:St->Option ρ,∀ c:HM,Fe c k s (.sidx d x i)=Fe (cal 0) k s (.sidx d x i):=fun k c=>by simp only [Fe]
  rw [e2,e] at h
  simp only [e2 (kn _),e (kn _)]
  exact DW (fun a r h=>hk _ _ h) r h
 | .sl d z x lo hi,kn,kl,hk,s,r,h=>AED hk s r h
 | .mk d t K n,kn,kl,hk,s,r,h=>by
  have e:∀ k:St->Option ρ,Fe (cal 0) k s (.mk d t K n)=(Fe (cal 0) some s (.mk d t K n)).bind k:=by
   intro k
   simp only [Fe]
   repeat' split
   all_goals rfl
  have e2:∀ k:St->Option ρ,∀ c:HM,Fe c k s (.mk d t K n)=Fe (cal 0) k s (.mk d t K n):=fun k c=>by simp only [Fe]
  rw [e2,e] at h
  simp only [e2 (kn _),e (kn _)]
  exact DW (fun a r h=>hk _ _ h) r h
 | .fn d f caps,kn,kl,hk,s,r,h=>hk _ _ h
 | .clo d f K x,kn,kl,hk,s,r,h=>by
  simp only [Fe] at h ⊢
  split at h
  ·exact DW (fun a r h=>hk _ _ h) r h
  ·cases h
 | .fbox d x,kn,kl,hk,s,r,h=>by
  simp only [Fe] at h ⊢
  exact DW (fun a r h=>hk _ _ h) r h
 | .min d x y,kn,kl,hk,s,r,h=>by
  simp only [Fe] at h ⊢
  split at h
  ·split at h
   ·rename_i e
    simp only [if_pos e]
    exact hk _ _ h
   ·cases h
  ·cases h
 | .app d e K a b,kn,kl,hk,s,r,h=>by
  simp only [Fe] at h ⊢
  split at h
  ·split at h
   ·rename_i e1
    split at h
    ·rename_i e2
     split at h
     ·rename_i e3
      simp only [e1,dif_pos e2,if_pos e3]
      refine sA (fun a r h=>?_) r h
      split at h
      ·rename_i e4
       simp only [if_pos e4]
       exact hk _ _ h
      ·cases h
     ·cases h
    ·cases h
   ·cases h
  ·cases h
 | .apz d e K a b,kn,kl,hk,s,r,h=>by
  simp only [Fe] at h ⊢
  split at h
  ·split at h
   ·rename_i e1
    split at h
    ·rename_i e2
     split at h
     ·rename_i e3
      simp only [e1,dif_pos e2,if_pos e3]
      refine sA (fun a r h=>?_) r h
      split at h
      ·rename_i e4
       simp only [if_pos e4]
       exact hk _ _ h
      ·cases h
     ·cases h
    ·cases h
   ·cases h
  ·cases h
 | .len d t x,kn,kl,hk,s,r,h=>by
  have e:∀ k:St->Option ρ,Fe (cal 0) k s (.len d t x)=(Fe (cal 0) some s (.len d t x)).bind k:=by
   intro k
   simp only [Fe]
   repeat' split
   all_goals rfl
  have e2:∀ k:St->Option ρ,∀ c:HM,Fe c k s (.len d t x)=Fe (cal 0) k s (.len d t x):=fun k c=>by simp only [Fe]
  rw [e2,e] at h
  simp only [e2 (kn _),e (kn _)]
  exact DW (fun a r h=>hk _ _ h) r h
 | .call d f args res,kn,kl,hk,s,r,h=>by
  simp only [Fe] at h ⊢
  refine DW (fun q r h=>DW (fun bx r h=>?_) r h) r h
  split at h
  ·rename_i e
   simp only [if_pos e]
   refine yx (fun a ha=>?_) (fun y r h=>?_) r h
   ·exact yx (f:=fun _=>C7 _) (g:=C7 _) (fun a ha=>hc _ _ _ _ ha) (fun y r h=>.const h) a ha
   ·split at h
    ·rename_i e
     simp only [if_pos e]
     exact hk _ _ h
    ·cases h
  ·cases h
 | .ext d x i,kn,kl,hk,s,r,h=>by
  simp only [Fe] at h ⊢
  split at h
  ·split at h
   ·rename_i e
    simp only [if_pos e]
    exact hk _ _ h
   ·cases h
  ·cases h
theorem w4 {ρ:Type} {cal:Nat->HM} {c:HM} (hc:Xp cal c):∀ (aos:List Gf) {kn:Nat->St->Option ρ} {kl:St->Option ρ},Conv kn kl->∀ s r,mC c kl s aos=some r->Ev fun j=>mC (cal j) (kn j) s aos=some r
 | [],kn,kl,hk,s,r,h=>by simp only [mC] at h ⊢; exact hk _ _ h
 | o::os,kn,kl,hk,s,r,h=>by
  simp only [mC] at h ⊢
  exact sB hc o (fun s r h=>w4 hc os hk s r h) s r h
end
theorem bw {ρ:Type} {cal:Nat->HM} {c:HM} (hc:Xp cal c) (anc:List (List Nat)) {kn:Nat->St->Option ρ} {kl:St->Option ρ} (hk:Conv kn kl):∀ (t:DT) (T:List (Nat×Nat)) s r,dK c anc kl t T s=some r->Ev fun j=>dK (cal j) anc (kn j) t T s=some r
 | .done,T,s,r,h=>hk _ _ h
 | .take i g ao d,T,s,r,h=>by
  simp only [dK] at h ⊢
  split at h
  ·rename_i e
   simp only [if_pos e]
   exact sB hc ao (fun s r h=>bw hc anc hk d _ s r h) s r h
  ·cases h
 | .skip i g d t,T,s,r,h=>by
  simp only [dK] at h ⊢
  split at h
  ·rename_i e
   simp only [if_pos e]
   exact bw hc anc hk t _ _ r h
  ·cases h
 | .only i g ao e fl d,T,s,r,h=>by
  simp only [dK] at h ⊢
  split at h
  ·rename_i e
   simp only [if_pos e]
   exact sB hc ao (fun s r h=>bw hc anc hk d _ s r h) s r h
  ·cases h
 | .test c a b,T,s,r,h=>by
  simp only [dK] at h ⊢
  split at h
  ·split at h
   ·rename_i e
    simp only [if_pos e]
    exact bw hc anc hk a _ _ r h
   ·rename_i e
    simp only [if_neg e]
    exact bw hc anc hk b _ _ r h
  ·cases h
 | .fork i ai ri j aj rj,T,s,r,h=>by
  simp only [dK] at h ⊢
  obtain ⟨ha,hb⟩:=mD.1 h
  have ea:Ev fun n=>(if (I0 ai.dsts T&&Xa (anc.getD i []) (ai.touch s) s T)=true then Fe (cal n) (fun s'=>dK (cal n) anc (kn n) ri (IG (anc.getD i []) T) s') s ai else none)=some r:=by
   split at ha
   ·rename_i e
    simp only [if_pos e]
    exact sB hc ai (fun s r h=>bw hc anc hk ri _ s r h) s r ha
   ·cases ha
  have eb:Ev fun n=>(if (I0 aj.dsts T&&Xa (anc.getD j []) (aj.touch s) s T)=true then Fe (cal n) (fun s'=>dK (cal n) anc (kn n) rj (IG (anc.getD j []) T) s') s aj else none)=some r:=by
   split at hb
   ·rename_i e
    simp only [if_pos e]
    exact sB hc aj (fun s r h=>bw hc anc hk rj _ s r h) s r hb
   ·cases hb
  exact (ea.and eb).mono fun n h=>mD.2 h
noncomputable def HZ {ρ:Type} (cal:HM) (lp:Lp ρ):AG->(kn kr:St->Option ρ)->(ke:Nat->St->Option ρ)->St->Option ρ
 | .skip,kn,_,_,s=>kn s
 | .region ops live,kn,_,_,s=>mC cal (fun s'=>kn ⟨live.map fun t=>(t,Ga s'.fr t),s'.st⟩) s ops
 | .draw anc t live,kn,_,_,s=>dK cal anc (fun s'=>kn ⟨live.map fun t=>(t,Ga s'.fr t),s'.st⟩) t [] s
 | .seqc live a b,kn,kr,ke,s=>HZ cal lp a (fun s'=>HZ cal lp b kn kr ke (s'.cutH (EE s live) live s.st.length)) kr ke s
 | .seq a b,kn,kr,ke,s=>HZ cal lp a (fun s'=>HZ cal lp b kn kr ke s') kr ke s
 | .cond c a b,kn,kr,ke,s=>match s.opd c with
  | .bool t=>if t=true then HZ cal lp a kn kr ke s else HZ cal lp b kn kr ke s
  | _=>none
 | .block id live body,kn,kr,ke,s=>HZ cal lp body (fun s'=>kn (s'.cutH (EE s live) live s.st.length)) kr (fun i s'=>if i=id then kn (s'.cutH (EE s live) live s.st.length) else ke i s') s
 | .loop live body,_,kr,ke,s=>lp (fun go s'=>HZ cal lp body (fun s''=>go (s''.cutH (EE s live) live s.st.length)) kr ke s') (s.cut live s.st.length)
 | .exit id,_,_,ke,s=>ke id s
 | .ret,_,kr,_,s=>kr s
theorem Rl {ρ:Type} (cal:HM) (k:Nat):∀ (a:AG) (kn kr:St->Option ρ) (ke:Nat->St->Option ρ) (s:St),H6 cal k a kn kr ke s=HZ cal (PT k) a kn kr ke s
 | .skip,_,_,_,_=>rfl
 | .region ..,_,_,_,_=>rfl
 | .draw ..,_,_,_,_=>rfl
 | .seqc live a b,kn,kr,ke,s=>by simp only [H6,HZ,Rl cal k a,Rl cal k b]
 | .seq a b,kn,kr,ke,s=>by simp only [H6,HZ,Rl cal k a,Rl cal k b]
 | .cond c a b,kn,kr,ke,s=>by
  simp only [H6,HZ,Rl cal k a,Rl cal k b]
  cases s.opd c<;>rfl
 | .block id live a,kn,kr,ke,s=>by simp only [H6,HZ,Rl cal k a]
 | .loop live a,kn,kr,ke,s=>by simp only [H6,HZ,Rl cal k a]
 | .exit _,_,_,_,_=>rfl
 | .ret,_,_,_,_=>rfl
theorem Jb {ρ:Type}:∀ (a:AG) {cal:Nat->HM} {c:HM} {lp:Nat->Lp ρ} {ll:Lp ρ} {kn kr:Nat->St->Option ρ} {kl krl:St->Option ρ} {ke:Nat->Nat->St->Option ρ} {kel:Nat->St->Option ρ},Xp cal c->ACA lp ll->(∀ j,ACA (fun _=>lp j) (lp j)) ->
  Conv kn kl->Conv kr krl->(∀ i,Conv (fun j=>ke j i) (kel i))->Conv (fun j=>HZ (cal j) (lp j) a (kn j) (kr j) (ke j)) (HZ c ll a kl krl kel)
 | .skip,_,_,_,_,_,_,_,_,_,_,hc,hl,hl',hk,hr,he=>hk
 | .region ops live,_,_,_,_,_,_,_,_,_,_,hc,hl,hl',hk,hr,he=>fun s r h=>w4 hc ops (fun s r h=>hk _ r h) s r h
 | .draw anc t live,_,_,_,_,_,_,_,_,_,_,hc,hl,hl',hk,hr,he=>fun s r h=>bw hc anc (fun s r h=>hk _ r h) t [] s r h
 | .seqc live a b,_,_,_,_,_,_,_,_,_,_,hc,hl,hl',hk,hr,he=>fun s r h=>Jb a hc hl hl' (fun s' r h=>Jb b hc hl hl' hk hr he _ r h) hr he s r h
 | .seq a b,_,_,_,_,_,_,_,_,_,_,hc,hl,hl',hk,hr,he=>fun s r h=>Jb a hc hl hl' (fun s' r h=>Jb b hc hl hl' hk hr he _ r h) hr he s r h
 | .cond c a b,_,_,_,_,_,_,_,_,_,_,hc,hl,hl',hk,hr,he=>fun s r h=>by
  simp only [HZ] at h ⊢
  split at h
  ·split at h
   ·rename_i e
    simp only [if_pos e]
    exact Jb a hc hl hl' hk hr he s r h
   ·rename_i e
    simp only [if_neg e]
    exact Jb b hc hl hl' hk hr he s r h
  ·cases h
 | .block id live a,_,_,_,_,_,_,_,_,_,_,hc,hl,hl',hk,hr,he=>fun s r h=>by
  simp only [HZ] at h ⊢
  refine Jb a hc hl hl' (fun s r h=>hk _ r h) hr (fun i s' r h=>?_) s r h
  split at h
  ·rename_i e
   simp only [if_pos e]
   exact hk _ r h
  ·rename_i e
   simp only [if_neg e]
   exact he i _ r h
 | .loop live a,cal,c,lp,ll,kn,kr,kl,krl,ke,kel,hc,hl,hl',hk,hr,he=>fun s r h=>by
  simp only [HZ] at h ⊢
  refine hl _ _ (fun go gl hgo s' r h=>?_) (fun j go gl hgo s' r h=>?_) _ r h
  ·exact Jb a hc hl hl' (fun s r h=>hgo _ r h) hr he s' r h
  ·exact Jb (cal:=fun _=>cal j) (lp:=fun _=>lp j) (kn:=fun i s'=>go i (s'.cutH (EE s live) live s.st.length)) (kl:=fun s'=>gl (s'.cutH (EE s live) live s.st.length)) (kr:=fun _=>kr j) (krl:=kr j) (ke:=fun _=>ke j) (kel:=ke j) a (Xp.refl _) (hl' j) (fun _=>hl' j) (fun s r h=>hgo _ r h) (Conv.refl _) (fun i=>Conv.refl _) s' r h
 | .exit id,_,_,_,_,_,_,_,_,_,_,hc,hl,hl',hk,hr,he=>fun s r h=>he id s r h
 | .ret,_,_,_,_,_,_,_,_,_,_,hc,hl,hl',hk,hr,he=>hr
theorem ABK {ρ:Type} {cal:HM} {a:AG} {hs:List (Nat×Nat)} {live:List Nat} {n:Nat} {kr:St->Option ρ} {ke:Nat->St->Option ρ} {s:St} {r:ρ}
  (h:HZ cal MJ a (fun s''=>MJ (fun go s'=>HZ cal MJ a (fun s''=>go (s''.cutH hs live n)) kr ke s') (s''.cutH hs live n)) kr ke s=some r) :
  MJ (fun go s'=>HZ cal MJ a (fun s''=>go (s''.cutH hs live n)) kr ke s') s=some r :=
 r_ (F:=fun go s'=>HZ cal MJ a (fun s''=>go (s''.cutH hs live n)) kr ke s') (fun go gl hgo s' r h=>Jb (cal:=fun _=>cal) (lp:=fun _=>MJ) (kn:=fun i s'=>go i (s'.cutH hs live n)) (kl:=fun s'=>gl (s'.cutH hs live n)) (kr:=fun _=>kr) (krl:=kr) (ke:=fun _=>ke) (kel:=ke) a (Xp.refl _) yw (fun _=>yw) (fun s r h=>hgo _ r h) (Conv.refl _) (fun i=>Conv.refl _) s' r h) h
noncomputable def ACD (cal:HM) (fn:BE) (args bs:List AV):Option (RT fn.outs) :=
 HZ cal MJ fn.body (AH fn) (AH fn) (fun _ _=>none) ⟨Rj 0 (Dh (GD bs) args),Bh bs args⟩
noncomputable def w5 (fns:Nat->Option BE) (prims:HM):HM:=fun f a b=>Lm fun k=>oN fns prims k f a b
theorem Ob {fns:Nat->Option BE} {prims:HM} {f:Nat} {args bs r:List AV} (hf:fns f=none) (h:prims f args bs=some r):w5 fns prims f args bs=some r:=by
 refine AB9 ⟨1,fun k hk=>?_⟩
 cases k with
 | zero=>omega
 | succ k=>simp only [oN,hf,h]
theorem ABL {fns:Nat->Option BE} {prims:HM} {f:Nat} {fn:BE} {args bs:List AV} {r:RT fn.outs} (hf:fns f=some fn) (hl:args.length=fn.params.length/\bs.length=(Ek fn.params 0).length)
  (h:ACD (w5 fns prims) fn args bs=some r):w5 fns prims f args bs=some (ED fn.outs r):=by
 have hc:Xp (fun k=>oN fns prims k) (w5 fns prims):=fun f a b r h=>yu h
 obtain ⟨m,hm⟩:=Jb (lp:=PT) (ll:=MJ) fn.body (kn:=fun _=>AH fn) (kr:=fun _=>AH fn) (ke:=fun _ _ _=>none) hc ACB yv (Conv.refl _) (Conv.refl _) (fun i=>Conv.refl _) _ r h
 refine AB9 ⟨m+1,fun k hk=>?_⟩
 cases k with
 | zero=>omega
 | succ k =>
  simp only [oN,hf,if_pos hl]
  have:=hm k (by omega)
  simp only [<- Rl] at this
  unfold AAO
  rw [this]
  rfl
theorem Tn:∀ (K:Kd) (x:K.T) (r:List AV),K.dec (K.enc x++r)=some (x,r)
 | .int k,x,r=>by simp [Kd.enc,Kd.dec]
 | .bool,x,r=>rfl
 | .str,x,r=>rfl
 | .slice e,x,r=>by simp [Kd.enc,Kd.dec]
 | .pair a b,x,r=>by simp [Kd.enc,Kd.dec,Bs,Tn a,Tn b]
 | .own t e,x,r=>by simp [Kd.enc,Kd.dec]
 | .ref K,x,r=>by
  have:=Tn K x []
  rw [List.append_nil] at this
  simp [Kd.enc,Kd.dec,this]
 | .fun f,x,r=>by simp [Kd.enc,Kd.dec]
 | .clo f K,x,r=>by simp [Kd.enc,Kd.dec]
theorem sC (K:Kd) (x:K.T):K.of (K.av x)=some x:=by
 have h:K.ofCells (K.enc x)=some x:=by
  have:=Tn K x []
  rw [List.append_nil] at this
  simp [Kd.ofCells,this]
 unfold Kd.of
 cases K<;>exact h
theorem sD:∀ (Ks:List Kd) (x:RT Ks),C7 Ks (ED Ks x)=some x
 | [],_=>rfl
 | [K],x=>sC K x
 | K::L::Ks,x=>by
  simp only [ED,C7,sC,Y]
  rw [sD (L::Ks) x.2]
  rfl
theorem zw {fns:Nat->Option BE} {prims:HM} {f:Nat} {fn:BE} {args bs:List AV} {r:RT fn.outs} (hf:fns f=some fn) (hl:args.length=fn.params.length/\bs.length=(Ek fn.params 0).length)
  (h:ACD (w5 fns prims) fn args bs=some r):(w5 fns prims f args bs).bind (C7 fn.outs)=some r:=by
 rw [ABL hf hl h,Y,sD]
theorem ACE {P:Program} {fns:Nat->Option BE} {prims:HM} (ht:AB6 P fns) (hp:Ka P prims) {f:Nat} {args:List AV} (h:(w5 fns prims f args []).bind (C7 [.bool])=some true) {W:World} {cargs:List Value}
  (ha:Ax (VE (fw W)) args cargs):Calls P f cargs.toArray W fun e W'=>e=.returned (.bool true)/\RowKit.Below W.heap.size W W':=by
 cases hq:w5 fns prims f args [] with
 | none=>rw [hq] at h; cases h
 | some v =>
  rw [hq,Y] at h
  obtain ⟨m,hm⟩:=yu hq
  have hm:=hm m (Nat.le_refl _)
  have e:v=[.bool true]:=by
   match v,h with
   | [a],h =>
    have h:Kd.of .bool a=some true:=h
    unfold Kd.of Kd.ofCells at h
    cases a<;>simp [AV.cells,Kd.dec,AV.fits] at h<;>first | rw [h] | skip
  subst e
  exact ABI ht hp hm ha
def ADN (f:Nat):List (Nat×BE)->Option BE
 | []=>none
 | (g,a)::r=>if g=f then some a else ADN f r
inductive AAf (P:Program):List (Nat×BE)->Prop where
 | nil:AAf P []
 | cons {f:Nat} {a:BE} {r:List (Nat×BE)} (h:Au P f a=true) (t:AAf P r):AAf P ((f,a)::r)
theorem ABM {P:Program} {tab:List (Nat×BE)} (h:AAf P tab):AB6 P fun f=>ADN f tab:=by
 intro f a hf
 induction h with
 | nil=>cases hf
 | cons h _ ih =>
  simp only [ADN] at hf
  split at hf
  ·rename_i e
   cases hf
   rw [<- e]
   exact h
  ·exact ih hf
end Go.Proofs.YtokiohnjegbnpaaGreat.Core

namespace Go.Proofs.YtokiohnjegbnpaaGreat.Core
open Go IntKind
set_option maxRecDepth 100000
noncomputable section
abbrev AI:Kd:=(.pair (.int .i64) (.pair .str (.pair .str (.pair (.int .i64) (.pair (.int .i64) (.pair (.int .i64) (.pair (.int .i64) (.pair (.int .i64) .str))))))))
abbrev AC:Type:=Int×ByteArray×ByteArray×Int×Int×Int×Int×Int×ByteArray
abbrev AF:Kd:=(.pair .str (.pair .str (.int .i64)))
abbrev Z:Type:=ByteArray×ByteArray×Int
abbrev Mw:Kd:=(.pair (.int .i64) (.pair (.int .i64) (.pair (.int .i64) (.pair AF (.slice (.int .i64))))))
abbrev w6:Type:=Int×Int×Int×Z×List Int
abbrev X:Kd:=(.pair (.int .i64) (.pair (.int .i64) (.pair .bool (.pair .bool (.pair .bool (.pair .bool (.pair (.slice (.int .i64)) (.pair (.slice AF) (.pair (.int .i64) Mw)))))))))
abbrev U:Type:=Int×Int×Bool×Bool×Bool×Bool×List Int×List Z×Int×Int×Int×Int×Z×List Int
abbrev AJ:Kd:=(.pair (.int .i64) (.pair (.int .i64) (.pair (.int .i64) (.pair (.int .i64) (.pair (.int .i64) (.slice AF))))))
abbrev AA:Type:=Int×Int×Int×Int×Int×List Z
abbrev AO:Kd:=(.pair (.slice (.slice (.int .i64))) (.pair (.slice X) (.pair (.slice AJ) (.slice AI))))
abbrev AB:Type:=List (List Int)×List U×List AA×List AC
abbrev Ab:Kd:=(.pair (.int .i64) (.pair (.int .i64) (.pair (.int .i64) (.pair (.int .i64) (.pair .str .str)))))
abbrev AY:Type:=Int×Int×Int×Int×ByteArray×ByteArray
abbrev Af:Kd:=(.pair (.slice (.slice (.int .i64))) (.pair (.own 42 X) (.pair (.own 97 AJ) (.own 47 AI))))
abbrev BC:Kd:=(.pair (.int .i64) (.pair (.int .i64) (.pair (.int .i64) AF)))
abbrev AK:Type:=Int×Int×Int×ByteArray×ByteArray×Int
abbrev Gt:Kd:=(.pair (.slice (.slice (.int .i64))) (.pair (.own 42 X) (.pair (.slice AJ) (.slice AI))))
abbrev zx:Kd:=(.pair (.int .i64) (.pair (.int .i64) (.pair (.int .i64) (.pair AF (.own 3 (.int .i64))))))
abbrev J7:Kd:=(.pair (.int .i64) (.pair (.int .i64) (.pair .bool (.pair .bool (.pair .bool (.pair .bool (.pair (.own 3 (.int .i64)) (.pair (.own 38 AF) (.pair (.int .i64) zx)))))))))
abbrev gY:Kd:=(.pair (.slice (.slice (.int .i64))) (.slice Ab))
abbrev Xq:Type:=List (List Int)×List AY
abbrev BQ:Kd:=(.pair (.slice (.int .u8)) (.pair (.int .i64) (.int .i64)))
abbrev AU:Type:=List Int×Int×Int
abbrev bz:Kd:=(.pair (.slice (.slice (.int .i64))) (.own 55 Ab))
def zy:Nat×List PK×List Kd:=(9,[.bor (.slice (.int .u8))],[.bool])
def o6:Nat×List PK×List Kd:=(10,[.val (.slice (.int .u8))],[(.slice (.slice (.int .i64))),(.slice Ab)])
def o7:Nat×List PK×List Kd:=(11,[.val (.slice (.slice (.int .i64))),.val (.slice Ab)],[AO,(.slice (.int .i64)),.bool])
def o8:Nat×List PK×List Kd:=(12,[.val (.slice (.slice (.int .i64))),.val (.slice Ab)],[AO,(.slice (.int .i64)),.bool])
def P8:Nat×List PK×List Kd:=(13,[.bor X],[.bool])
def mW:Nat×List PK×List Kd:=(14,[.bor (.slice AI),.bor (.slice AI)],[.bool])
def ur:Nat×List PK×List Kd:=(15,[.bor (.slice AI)],[.bool])
def ut:Nat×List PK×List Kd:=(16,[.bor (.slice AI)],[.bool])
def IK:Nat×List PK×List Kd:=(17,[.val AI],[(.int .i64)])
def yy:Nat×List PK×List Kd:=(18,[.val AO,.val (.int .i64)],[AO])
def w7:Nat×List PK×List Kd:=(19,[.bor (.slice AI)],[.bool])
def w8:Nat×List PK×List Kd:=(20,[.bor (.slice AI)],[.bool])
def w9:Nat×List PK×List Kd:=(21,[.bor (.slice AI)],[.bool])
def w_:Nat×List PK×List Kd:=(22,[.bor (.slice AI)],[.bool])
def o9:Nat×List PK×List Kd:=(23,[.bor (.slice (.int .i64)),.bor (.slice (.int .i64))],[.bool])
def jQ:Nat×List PK×List Kd:=(24,[.bor AO],[.bool])
def jR:Nat×List PK×List Kd:=(25,[.bor AO],[.bool])
def mX:Nat×List PK×List Kd:=(27,[.bor AO],[.bool])
def mY:Nat×List PK×List Kd:=(28,[.bor AO],[.bool])
def xA:Nat×List PK×List Kd:=(29,[.bor AO],[.bool])
def xB:Nat×List PK×List Kd:=(30,[.bor AO],[.bool])
def sE:Nat×List PK×List Kd:=(32,[.ptr BQ,.val (.slice (.int .u8))],[gY])
def uu:Nat×List PK×List Kd:=(33,[.val (.slice (.int .u8))],[(.ref BQ)])
def o_:Nat×List PK×List Kd:=(34,[.val (.slice (.slice (.int .i64)))],[Af,.bool])
def sF:Nat×List PK×List Kd:=(35,[.val Ab],[.bool])
def gZ:Nat×List PK×List Kd:=(36,[.ptr Af,.val Ab,.val (.int .i64)],[.bool])
def uv:Nat×List PK×List Kd:=(37,[.val .bool],[(.int .i64)])
def Oc:Nat×List PK×List Kd:=(38,[.val AO],[Af])
def YU:Nat×List PK×List Kd:=(39,[.val (.slice (.slice (.int .i64)))],[AO,.bool])
def sG:Nat×List PK×List Kd:=(40,[.val Ab],[.bool])
def jT:Nat×List PK×List Kd:=(41,[.ptr AO,.val (.int .i64),.val Ab],[(.int .i64)])
def sH:Nat×List PK×List Kd:=(42,[.val AO],[AO])
def HJ:Nat×List PK×List Kd:=(43,[.val (.int .i64)],[.bool])
def At:Nat×List PK×List Kd:=(44,[.val (.int .i64),.val (.int .i64),.val (.int .i64)],[.bool])
def SG:Nat×List PK×List Kd:=(45,[.bor (.slice (.int .i64)),.val (.int .i64),.val (.int .i64)],[.bool])
def Mx:Nat×List PK×List Kd:=(46,[.bor (.slice AF)],[.bool])
def b8:Nat×List PK×List Kd:=(47,[.ptr X],[.bool])
def Ix:Nat×List PK×List Kd:=(48,[.val AI],[.bool])
def IL:Nat×List PK×List Kd:=(49,[.val AI],[(.int .i64)])
def b9:Nat×List PK×List Kd:=(50,[.ptr AO],[.bool])
def PZ:Nat×List PK×List Kd:=(51,[.ptr Af,.val (.int .i64),.val (.int .i64)],[])
def xC:Nat×List PK×List Kd:=(52,[.bor (.slice AI),.val AI],[.bool])
def uw:Nat×List PK×List Kd:=(53,[.val AI,.val AI],[.bool])
def To:Nat×List PK×List Kd:=(55,[.ptr AO,.val (.int .i64)],[(.slice (.int .i64))])
def Am:Nat×List PK×List Kd:=(56,[.val (.int .i64),.val (.int .i64),.val (.int .i64)],[.bool])
def EF:Nat×List PK×List Kd:=(57,[.bor (.slice (.int .i64)),.val (.int .i64)],[.bool])
def Ld:Nat×List PK×List Kd:=(58,[.bor (.slice AF),.bor (.slice AF)],[.bool])
def Fg:Nat×List PK×List Kd:=(59,[.bor (.slice (.int .i64)),.val (.int .i64)],[.bool])
def fE:Nat×List PK×List Kd:=(60,[.bor (.slice AF),.bor (.slice AF)],[.bool])
def Jc:Nat×List PK×List Kd:=(61,[.ptr BQ],[(.int .i64)])
def D7:Nat×List PK×List Kd:=(62,[.ptr BQ,.val (.int .i64)],[(.int .i64)])
def pA:Nat×List PK×List Kd:=(63,[.ptr BQ],[(.slice (.slice (.int .i64)))])
def sI:Nat×List PK×List Kd:=(64,[.ptr BQ,.ptr AO],[Ab])
def Ha:Nat×List PK×List Kd:=(65,[.bor (.slice (.slice (.int .i64)))],[.bool])
def Vo:Nat×List PK×List Kd:=(66,[.val (.slice (.slice (.int .i64)))],[(.slice (.slice (.int .i64)))])
def mZ:Nat×List PK×List Kd:=(67,[.val (.int .i64),.val (.slice (.slice (.int .i64)))],[X,.bool])
def jU:Nat×List PK×List Kd:=(68,[.val (.int .i64),.val (.int .i64),.val .str,.val .str],[.bool])
def ga:Nat×List PK×List Kd:=(69,[.ptr Af,.val Ab,.val (.int .i64)],[.bool])
def gd:Nat×List PK×List Kd:=(70,[.ptr Af,.val Ab,.val (.int .i64)],[.bool])
def HR:Nat×List PK×List Kd:=(71,[.ptr Af,.val (.int .i64)],[(.int .i64)])
def yz:Nat×List PK×List Kd:=(72,[.bor X],[J7])
def b_:Nat×List PK×List Kd:=(73,[.ptr Af,.val Ab,.val (.int .i64)],[.bool])
def Le:Nat×List PK×List Kd:=(74,[.bor (.slice AI)],[(.own 47 AI)])
def Gu:Nat×List PK×List Kd:=(75,[.val X],[X])
def SH:Nat×List PK×List Kd:=(76,[.val AJ],[AJ])
def Jd:Nat×List PK×List Kd:=(77,[.bor (.slice (.slice (.int .i64)))],[.bool])
def Qv:Nat×List PK×List Kd:=(78,[.val (.slice (.slice (.int .i64)))],[(.slice (.slice (.int .i64)))])
def ma:Nat×List PK×List Kd:=(79,[.val (.int .i64),.val (.slice (.slice (.int .i64)))],[X,.bool])
def pB:Nat×List PK×List Kd:=(80,[.ptr AO,.val (.int .i64),.val Ab],[(.int .i64)])
def pC:Nat×List PK×List Kd:=(81,[.ptr AO,.val (.int .i64),.val (.int .i64)],[(.int .i64)])
def J8:Nat×List PK×List Kd:=(82,[.ptr AO,.val X,.val (.slice AJ),.val (.slice BC),.val (.int .i64)],[])
def y_:Nat×List PK×List Kd:=(83,[.bor X],[J7])
def ux:Nat×List PK×List Kd:=(84,[.ptr AO,.val (.int .i64),.val Ab],[(.int .i64)])
def ge:Nat×List PK×List Kd:=(85,[.val (.slice AJ)],[(.slice AJ)])
def Hc:Nat×List PK×List Kd:=(86,[.val X],[X])
def jV:Nat×List PK×List Kd:=(87,[.val .str],[.bool])
def Gc:Nat×List PK×List Kd:=(88,[.mov (.own 97 AJ),.val (.int .i64),.val (.int .i64)],[(.own 97 AJ)])
def sJ:Nat×List PK×List Kd:=(89,[.val X,.val (.slice (.slice (.int .i64))),.val AJ],[X,(.slice AJ),(.slice BC)])
def My:Nat×List PK×List Kd:=(90,[.ptr Af,.val (.slice AJ),.val (.slice BC),.val (.int .i64)],[])
def Il:Nat×List PK×List Kd:=(91,[.bor (.slice AI),.val (.clo 92 AI)],[.bool])
def Mz:Nat×List PK×List Kd:=(95,[.bor (.slice (.int .i64)),.val (.int .i64)],[(.int .i64)])
def Tp:Nat×List PK×List Kd:=(96,[.ptr BQ,.val (.slice (.int .i64))],[(.int .i64)])
def M0:Nat×List PK×List Kd:=(97,[.ptr BQ,.val (.int .i64)],[.bool])
def cA:Nat×List PK×List Kd:=(98,[.ptr BQ,.val (.slice .str)],[.str])
def Cz:Nat×List PK×List Kd:=(99,[.bor (.slice (.int .i64))],[(.own 3 (.int .i64))])
def xD:Nat×List PK×List Kd:=(100,[.val X,.val (.slice (.slice (.int .i64))),.val (.int .i64),.val (.int .i64),.val .str,.val .str],[X,(.slice AJ),(.slice BC),.bool])
def xE:Nat×List PK×List Kd:=(101,[.val X,.val (.slice (.slice (.int .i64))),.val (.int .i64)],[X,(.slice AJ),.bool])
def IM:Nat×List PK×List Kd:=(102,[.bor (.slice X),.val (.clo 103 (.int .i64))],[(.int .i64)])
def BJ:Nat×List PK×List Kd:=(104,[.bor (.slice AF)],[(.own 38 AF)])
def sK:Nat×List PK×List Kd:=(105,[.bor (.slice (.int .i64))],[.bool])
def xF:Nat×List PK×List Kd:=(106,[.val X,.val (.slice (.slice (.int .i64))),.val (.int .i64),.val (.int .i64),.val .str,.val .str],[X,(.slice AJ),(.slice BC),.bool])
def xG:Nat×List PK×List Kd:=(107,[.val X,.val (.slice (.slice (.int .i64))),.val (.int .i64)],[X,(.slice AJ),.bool])
def sL:Nat×List PK×List Kd:=(108,[.val X,.val (.slice (.slice (.int .i64))),.val AJ],[X,(.slice AJ),(.slice BC)])
def xH:Nat×List PK×List Kd:=(109,[.bor AJ],[.bool])
def gf:Nat×List PK×List Kd:=(110,[.ptr X,.val (.slice (.slice (.int .i64))),.val AJ],[(.slice AJ),(.slice BC)])
def Je:Nat×List PK×List Kd:=(111,[.bor (.slice AI),.val (.clo 92 AI)],[(.int .i64)])
def Xr:Nat×List PK×List Kd:=(113,[.ptr X,.val (.slice (.slice (.int .i64)))],[.bool])
def f4:Nat×List PK×List Kd:=(114,[.bor (.slice AF),.val .str],[AF])
def Gv:Nat×List PK×List Kd:=(115,[.ptr X,.val (.slice (.int .i64))],[(.slice (.int .i64))])
def N_:Nat×List PK×List Kd:=(116,[.mut (.own 3 (.int .i64))],[])
def SI:Nat×List PK×List Kd:=(117,[.ptr X],[(.slice BC)])
def Bj:Nat×List PK×List Kd:=(118,[.ptr X,.val (.slice (.int .i64)),.val AJ],[(.slice AJ)])
def M1:Nat×List PK×List Kd:=(119,[.ptr X],[])
def M2:Nat×List PK×List Kd:=(120,[.ptr X,.val (.slice (.int .i64)),.val (.slice AF)],[(.slice AJ)])
def P9:Nat×List PK×List Kd:=(121,[.bor X],[.bool])
def f5:Nat×List PK×List Kd:=(122,[.bor (.slice AF),.val .str],[AF])
def SJ:Nat×List PK×List Kd:=(123,[.bor (.slice AF),.val AF],[(.own 38 AF)])
def Vp:Nat×List PK×List Kd:=(124,[.val (.slice (.int .i64)),.val (.int .i64)],[(.slice (.int .i64))])
def Vq:Nat×List PK×List Kd:=(125,[.ptr X],[(.slice BC)])
def f7:Nat×List PK×List Kd:=(126,[.ptr X,.val (.slice (.int .i64)),.val (.slice AF)],[(.slice AJ)])
def xI:Nat×List PK×List Kd:=(127,[.bor AJ],[.bool])
def uy:Nat×List PK×List Kd:=(128,[.val X,.val (.slice (.int .i64)),.val AJ],[X,(.slice AJ),(.slice BC)])
def cB:Nat×List PK×List Kd:=(129,[.val X,.val (.int .i64)],[X])
def LH:Nat×List PK×List Kd:=(130,[.val X,.val AJ,.val (.int .i64)],[(.slice AJ)])
def gh:Nat×List PK×List Kd:=(131,[.ptr X,.val (.slice (.slice (.int .i64))),.val AJ],[(.slice AJ)])
def bD:Nat×List PK×List Kd:=(132,[.ptr X,.val (.slice (.int .i64)),.val AJ],[(.slice AJ)])
def cC:Nat×List PK×List Kd:=(133,[.val (.slice (.int .i64)),.val (.int .i64)],[(.slice (.int .i64))])
def fF:Nat×List PK×List Kd:=(134,[.ptr X,.val AJ],[(.slice AJ)])
def Pa:Nat×List PK×List Kd:=(135,[.ptr X,.val (.int .i64),.val AJ],[(.slice BC)])
def Fh:Nat×List PK×List Kd:=(137,[.mut (.own 3 (.int .i64)),.val (.int .i64),.val (.int .i64),.val (.int .i64)],[])
def pD:Nat×List PK×List Kd:=(138,[.val (.int .u64)],[(.int .i64)])
def cD:Nat×List PK×List Kd:=(139,[.bor (.slice AF),.val AF],[(.own 38 AF)])
def f8:Nat×List PK×List Kd:=(140,[.bor (.slice (.int .i64))],[.bool])
def M3:Nat×List PK×List Kd:=(141,[.bor (.slice AF)],[.bool])
def mb:Nat×List PK×List Kd:=(142,[.bor Mw],[.bool])
def Tq:Nat×List PK×List Kd:=(143,[.val (.slice (.int .i64)),.val (.int .i64)],[(.slice (.int .i64))])
def Rm:Nat×List PK×List Kd:=(144,[.mov (.own 3 (.int .i64)),.val (.clo 145 (.int .i64))],[(.own 3 (.int .i64))])
def Mf:Nat×List PK×List Kd:=(148,[.mut (.own 3 (.int .i64)),.val (.int .i64),.val (.int .i64)],[])
def P_:Nat×List PK×List Kd:=(149,[.mut (.own 3 (.int .i64)),.val (.int .i64),.val (.int .i64)],[])
def Mg:Nat×List PK×List Kd:=(150,[.mut (.own 3 (.int .i64)),.val (.int .i64),.val (.int .i64)],[])
def N8:Nat×List PK×List Kd:=(151,[.mut (.own 3 (.int .i64)),.val (.int .i64),.val (.int .i64)],[(.int .i64),(.int .i64)])
def M4:Nat×List PK×List Kd:=(152,[.mut (.own 3 (.int .i64)),.val (.int .i64),.val (.int .i64)],[])
def I1:Nat×List PK×List Kd:=(153,[.mut (.own 3 (.int .i64)),.val (.int .i64),.val (.int .i64)],[.bool])
def cE:Nat×List PK×List Kd:=(154,[.val (.int .i64),.val (.int .i64)],[.bool])
def Lf:Nat×List PK×List Kd:=(155,[.mut (.own 3 (.int .i64)),.val (.int .i64),.val (.int .i64),.val (.int .i64)],[(.int .i64)])
def Pb:Nat×List PK×List Kd:=(156,[.mut (.own 3 (.int .i64)),.val (.int .i64),.val (.int .i64),.val (.int .i64)],[(.int .i64),.bool])
def jW:Nat×List PK×List Kd:=(157,[.val (.int .u32)],[(.int .i64)])
def jX:Nat×List PK×List Kd:=(158,[.val (.int .u64)],[(.int .i64)])
def Fi:Nat×List PK×List Kd:=(159,[.bor (.slice AF),.val .str,.val (.fun 160)],[(.int .i64),.bool])
def jY:Nat×List PK×List Kd:=(161,[.val .str,.val .str],[(.int .i64)])
def Kz:Nat×List PK×List Kd:=(162,[.mov (.own 38 AF),.val (.int .i64),.mov (.own 38 AF)],[(.own 38 AF)])
def YV:Nat×List PK×List Kd:=(169,[.val (.int .i64)],[.bool])
abbrev Le0 { ρ:Type} (t W:Option ρ):Prop:=∀ { r},t=some r->W=some r
abbrev Mk {A0 ρ:Type} (t W:A0->Option ρ):Prop:=∀ {a0 r},t a0=some r->W a0=some r
abbrev N7 {A0 A1 ρ:Type} (t W:A0->A1->Option ρ):Prop:=∀ {a0 a1 r},t a0 a1=some r->W a0 a1=some r
abbrev Rn {A0 A1 A2 ρ:Type} (t W:A0->A1->A2->Option ρ):Prop:=∀ {a0 a1 a2 r},t a0 a1 a2=some r->W a0 a1 a2=some r
abbrev cH {A0 A1 A2 A3 ρ:Type} (t W:A0->A1->A2->A3->Option ρ):Prop:=∀ {a0 a1 a2 a3 r},t a0 a1 a2 a3=some r->W a0 a1 a2 a3=some r
abbrev zf {A0 A1 A2 A3 A4 ρ:Type} (t W:A0->A1->A2->A3->A4->Option ρ):Prop:=∀ {a0 a1 a2 a3 a4 r},t a0 a1 a2 a3 a4=some r->W a0 a1 a2 a3 a4=some r
abbrev zz {A0 A1 A2 A3 A4 A5 ρ:Type} (t W:A0->A1->A2->A3->A4->A5->Option ρ):Prop:=∀ {a0 a1 a2 a3 a4 a5 r},t a0 a1 a2 a3 a4 a5=some r->W a0 a1 a2 a3 a4 a5=some r
abbrev Le7 {A0 A1 A2 A3 A4 A5 A6 ρ:Type} (t W:A0->A1->A2->A3->A4->A5->A6->Option ρ):Prop:=∀ {a0 a1 a2 a3 a4 a5 a6 r},t a0 a1 a2 a3 a4 a5 a6=some r->W a0 a1 a2 a3 a4 a5 a6=some r
abbrev z_ {A0 A1 A2 A3 A4 A5 A6 A7 ρ:Type} (t W:A0->A1->A2->A3->A4->A5->A6->A7->Option ρ):Prop:=∀ {a0 a1 a2 a3 a4 a5 a6 a7 r},t a0 a1 a2 a3 a4 a5 a6 a7=some r->W a0 a1 a2 a3 a4 a5 a6 a7=some r
abbrev Le9 {A0 A1 A2 A3 A4 A5 A6 A7 A8 ρ:Type} (t W:A0->A1->A2->A3->A4->A5->A6->A7->A8->Option ρ):Prop:=∀ {a0 a1 a2 a3 a4 a5 a6 a7 a8 r},t a0 a1 a2 a3 a4 a5 a6 a7 a8=some r->W a0 a1 a2 a3 a4 a5 a6 a7 a8=some r
abbrev uz {A0 A1 A2 A3 A4 A5 A6 A7 A8 A9 ρ:Type} (t W:A0->A1->A2->A3->A4->A5->A6->A7->A8->A9->Option ρ):Prop:=∀ {a0 a1 a2 a3 a4 a5 a6 a7 a8 a9 r},t a0 a1 a2 a3 a4 a5 a6 a7 a8 a9=some r->W a0 a1 a2 a3 a4 a5 a6 a7 a8 a9=some r
abbrev AEd {A0 A1 A2 A3 A4 A5 A6 A7 A8 A9 A10 ρ:Type} (t W:A0->A1->A2->A3->A4->A5->A6->A7->A8->A9->A10->Option ρ):Prop:=∀ {a0 a1 a2 a3 a4 a5 a6 a7 a8 a9 a10 r},t a0 a1 a2 a3 a4 a5 a6 a7 a8 a9 a10=some r->W a0 a1 a2 a3 a4 a5 a6 a7 a8 a9 a10=some r
abbrev AEE {A0 A1 A2 A3 A4 A5 A6 A7 A8 A9 A10 A11 ρ:Type} (t W:A0->A1->A2->A3->A4->A5->A6->A7->A8->A9->A10->A11->Option ρ):Prop:=∀ {a0 a1 a2 a3 a4 a5 a6 a7 a8 a9 a10 a11 r},t a0 a1 a2 a3 a4 a5 a6 a7 a8 a9 a10 a11=some r->W a0 a1 a2 a3 a4 a5 a6 a7 a8 a9 a10 a11=some r
abbrev AEo {A0 A1 A2 A3 A4 A5 A6 A7 A8 A9 A10 A11 A12 A13 ρ:Type} (t W:A0->A1->A2->A3->A4->A5->A6->A7->A8->A9->A10->A11->A12->A13->Option ρ):Prop:=∀ {a0 a1 a2 a3 a4 a5 a6 a7 a8 a9 a10 a11 a12 a13 r},t a0 a1 a2 a3 a4 a5 a6 a7 a8 a9 a10 a11 a12 a13=some r->W a0 a1 a2 a3 a4 a5 a6 a7 a8 a9 a10 a11 a12 a13=some r
abbrev AEe {A0 A1 A2 A3 A4 A5 A6 A7 A8 A9 A10 A11 A12 A13 A14 ρ:Type} (t W:A0->A1->A2->A3->A4->A5->A6->A7->A8->A9->A10->A11->A12->A13->A14->Option ρ):Prop:=∀ {a0 a1 a2 a3 a4 a5 a6 a7 a8 a9 a10 a11 a12 a13 a14 r},t a0 a1 a2 a3 a4 a5 a6 a7 a8 a9 a10 a11 a12 a13 a14=some r->W a0 a1 a2 a3 a4 a5 a6 a7 a8 a9 a10 a11 a12 a13 a14=some r

def cI:AG:=(.seq (.region [.ls 55 5 4,.cx (some 56) [.t 55,.c (.int .i64 300)] yy,.al 11 AO,.store (.t 11) (.t 56) 4 false] [5,11]) (.seq (.region [.ls 57 5 4,.cl 58 [57] jQ,.m 59 58,.sc 59 true [.ls 60 5 4,.cl 61 [60] jR] 62 (.t 61) (.c (.bool false)),.m 63 62,.sc 63 true [.ls 64 11 4,.cl 65 [64] jQ] 66 (.t 65) (.c (.bool false)),.m 67 66,.sc 67 true [.ls 68 11 4,.cl 69 [68] jR] 70 (.t 69) (.c (.bool false)),.m 2 70] [2]) .ret))
def J9:BE:=⟨[.val (.slice (.int .u8))],[⟨2,false,.bool⟩],(.seq (.region [.mv 2 (.c (.bool false))] [0]) (.seq (.seq (.region [.m 12 0,.cl 13 [12] zy] [0,13]) (.cond (.t 13) (.seq (.region [.mv 2 (.c (.bool true))] [2]) .ret) .skip)) (.seq (.region [.m 15 0,.cl 16 [15] o6,.m 14 16,.ext 17 (.t 14) 0,.ext 18 (.t 14) 1,.m 3 17,.m 4 18] [3,4]) (.seq (.region [.m 20 3,.m 21 4,.cl 22 [20,21] o7,.m 19 22,.ext 23 (.t 19) 0,.ext 24 (.t 19) 1,.ext 25 (.t 19) 2,.al 5 AO,.store (.t 5) (.t 23) 4 false,.m 6 24,.m 7 25] [3,4,5,6,7]) (.seq (.region [.m 27 3,.m 28 4,.cl 29 [27,28] o8,.m 26 29,.ext 30 (.t 26) 0,.ext 31 (.t 26) 1,.ext 32 (.t 26) 2,.al 8 AO,.store (.t 8) (.t 30) 4 false,.m 9 31,.m 10 32] [5,6,7,8,9]) (.seq (.seq (.region [.m 33 7,.un 34 .not (.t 33),.m 35 34,.sc 35 false [.m 36 6,.m 37 9,.cl 38 [36,37] o9,.un 39 .not (.t 38)] 40 (.c (.bool true)) (.t 39),.m 41 40,.sc 41 false [.f 42 5 3,.l 43 42,.f 44 8 3,.l 45 44,.cl 46 [43,45] mW,.un 47 .not (.t 46)] 48 (.c (.bool true)) (.t 47),.m 49 48,.sc 49 false [.f 50 5 1,.l 51 50,.len 52 false (.t 51),.bin 53 .neq (.t 52) (.i 6)] 54 (.c (.bool true)) (.t 53)] [5,54]) (.cond (.t 54) (.seq (.region [.mv 2 (.c (.bool false))] [2]) .ret) .skip)) cI))))))⟩
theorem xJ:Au Tryz.prog 6 J9=true:=by kernel_rfl
def Xs:BE:=⟨[.val (.slice (.int .u8))],[⟨2,false,.bool⟩],(.seq (.region [.mv 2 (.c (.bool false))] [0]) (.seq (.region [.m 3 0,.len 4 false (.t 3),.bin 5 .gtr (.t 4) (.i 1048576),.m 2 5] [2]) .ret))⟩
theorem AAA:Au Tryz.prog 9 Xs=true:=by kernel_rfl
def LI:BE:=⟨[.val (.slice (.int .u8))],[⟨2,false,(.slice (.slice (.int .i64)))⟩,⟨3,false,(.slice Ab)⟩],(.seq (.region [.mv 2 (.c (.nil)),.mv 3 (.c (.nil))] [0]) (.seq (.region [.m 5 0,.cl 6 [5] uu,.m 7 0,.cl 8 [6,7] sE,.al 4 gY,.store (.t 4) (.t 8) 2 false] [4]) (.seq (.draw (Ea 6 [(2,[]),(4,[1]),(5,[3,4])]) (.tk 6 [.m 3 12,.m 2 10,.l 12 11,.f 11 4 1,.l 10 9,.f 9 4 0] .done) [2,3]) .ret)))⟩
theorem pE:Au Tryz.prog 10 LI=true:=by kernel_rfl
def Tr:AG:=(.seq (.region [.b 31 .lss 30 29] [1,4,7,28,29,30,31]) (.seq (.cond (.t 31) .skip (.exit 0)) (.seq (.block 1 [1,4,7,28,29,30] (.seq (.region [.idx 32 6 (.t 28) (.t 30),.ls 33 32 6,.al 10 Ab,.store (.t 10) (.t 33) 6 false] [1,4,7,10,28,29,30]) (.seq (.region [.ls 34 10 6,.cl 35 [34] sF,.un 36 .not (.t 35)] [1,4,7,28,29,30,36]) (.cond (.t 36) (.seq (.region [.build 37 [.nil,.nil,.nil,.nil] [],.store (.t 4) (.t 37) 4 false,.mv 5 (.c (.nil)),.mv 6 (.c (.bool false))] [4,5,6]) .ret) .skip)))) (.region [.bin 38 .add (.t 30) (.i 1),.m 30 38] [1,4,7,28,29,30]))))
def SK:AG:=(.seq (.region [.b 42 .lss 41 40] [4,7,11,39,40,41,42]) (.seq (.cond (.t 42) .skip (.exit 2)) (.seq (.block 3 [4,7,11,39,40,41] (.seq (.region [.m 43 41,.idx 44 6 (.t 39) (.t 41),.ls 45 44 6,.al 13 Ab,.m 12 43,.store (.t 13) (.t 45) 6 false] [4,7,11,12,13,39,40,41]) (.seq (.region [.ls 46 13 6,.m 47 12,.cl 48 [7,46,47] gZ,.m 14 48] [4,7,11,14,39,40,41]) (.region [.m 49 11,.m 50 14,.cl 51 [50] uv,.blst 52 (.int .i64) [.t 51],.app 53 3 (.int .i64) (.t 49) (.t 52),.m 11 53] [4,7,11,39,40,41])))) (.region [.bin 54 .add (.t 41) (.i 1),.m 41 54] [4,7,11,39,40,41]))))
def SL:AG:=(.seq (.region [.ls 55 7 4,.cl 56 [55] Oc,.m 57 11,.store (.t 4) (.t 56) 4 false,.m 5 57,.mv 6 (.c (.bool true))] [4,5,6]) .ret)
def Lg:AG:=(.seq (.region [.nilrow 11 3 (.int .i64)] [1,4,7,11]) (.seq (.seq (.region [.m 39 1,.len 40 false (.t 39),.mv 41 (.i 0)] [4,7,11,39,40,41]) (.block 2 [4,7,11] (.loop [4,7,11,39,40,41] SK))) SL))
def SM:AG:=(.seq (.seq (.region [.m 28 1,.len 29 false (.t 28),.mv 30 (.i 0)] [1,4,7,28,29,30]) (.block 0 [1,4,7] (.loop [1,4,7,28,29,30] Tr))) Lg)
def BM:BE:=⟨[.val (.slice (.slice (.int .i64))),.val (.slice Ab)],[⟨4,true,AO⟩,⟨5,false,(.slice (.int .i64))⟩,⟨6,false,.bool⟩],(.seq (.region [.al 4 Af,.mv 5 (.c (.nil)),.mv 6 (.c (.bool false))] [0,1,4]) (.seq (.region [.m 16 0,.cl 17 [16] o_,.m 15 17,.ext 18 (.t 15) 0,.ext 19 (.t 15) 1,.al 7 Af,.store (.t 7) (.t 18) 4 false,.m 8 19] [1,4,7,8]) (.seq (.seq (.region [.m 20 8,.un 21 .not (.t 20),.m 22 21,.sc 22 false [.m 23 1,.len 24 false (.t 23),.bin 25 .gtr (.t 24) (.i 70)] 26 (.c (.bool true)) (.t 25)] [1,4,7,26]) (.cond (.t 26) (.seq (.region [.build 27 [.nil,.nil,.nil,.nil] [],.store (.t 4) (.t 27) 4 false,.mv 5 (.c (.nil)),.mv 6 (.c (.bool false))] [4,5,6]) .ret) .skip)) SM)))⟩
theorem pF:Au Tryz.prog 11 BM=true:=by kernel_rfl
def Ts:AG:=(.seq (.block 1 [1,4,7,8,9] (.region [.m 26 1,.len 27 false (.t 26),.bin 28 .leq (.t 27) (.i 70),.m 29 28,.sc 29 true [.m 30 1,.m 31 9,.idx 32 6 (.t 30) (.t 31),.ls 33 32 6,.cl 34 [33] sG] 35 (.t 34) (.c (.bool false)),.m 8 35] [1,4,7,8,9])) (.region [.m 24 9,.bin 25 .add (.t 24) (.i 1),.m 9 25] [1,4,7,8,9]))
def Tt:AG:=(.seq (.seq (.region [.m 17 9,.m 18 1,.len 19 false (.t 18),.b 20 .lss 17 19,.m 21 20,.sc 21 true [.m 22 8] 23 (.t 22) (.c (.bool false))] [1,4,7,8,9,23]) (.cond (.t 23) .skip (.exit 0))) Ts)
def Tu:AG:=(.seq (.seq (.region [.m 41 11,.m 42 1,.len 43 false (.t 42),.b 44 .lss 41 43] [1,4,7,10,11,44]) (.cond (.t 44) .skip (.exit 2))) (.seq (.block 3 [1,4,7,10,11] (.region [.m 47 10,.m 48 11,.m 49 1,.m 50 11,.idx 51 6 (.t 49) (.t 50),.ls 52 51 6,.cl 53 [7,48,52] jT,.blst 54 (.int .i64) [.t 53],.app 55 3 (.int .i64) (.t 47) (.t 54),.m 10 55] [1,4,7,10,11])) (.region [.m 45 11,.bin 46 .add (.t 45) (.i 1),.m 11 46] [1,4,7,10,11])))
def SN:AG:=(.seq (.region [.ls 56 7 4,.cl 57 [56] sH,.m 58 10,.store (.t 4) (.t 57) 4 false,.m 5 58,.mv 6 (.c (.bool true))] [4,5,6]) .ret)
def Lh:AG:=(.seq (.seq (.region [.m 36 8,.un 37 .not (.t 36)] [1,4,7,37]) (.cond (.t 37) (.seq (.region [.bu 38 AO [],.blst 39 (.int .i64) [],.store (.t 4) (.t 38) 4 false,.m 5 39,.mv 6 (.c (.bool false))] [4,5,6]) .ret) .skip)) (.seq (.region [.brow 40 3 (.int .i64) [],.m 10 40] [1,4,7,10]) (.seq (.seq (.region [.mv 11 (.i 0)] [1,4,7,10,11]) (.block 2 [4,7,10] (.loop [1,4,7,10,11] Tu))) SN)))
def BX:BE:=⟨[.val (.slice (.slice (.int .i64))),.val (.slice Ab)],[⟨4,true,AO⟩,⟨5,false,(.slice (.int .i64))⟩,⟨6,false,.bool⟩],(.seq (.region [.al 4 AO,.mv 5 (.c (.nil)),.mv 6 (.c (.bool false))] [0,1,4]) (.seq (.region [.m 13 0,.cl 14 [13] YU,.m 12 14,.ext 15 (.t 12) 0,.ext 16 (.t 12) 1,.al 7 AO,.store (.t 7) (.t 15) 4 false,.m 8 16] [1,4,7,8]) (.seq (.seq (.region [.mv 9 (.i 0)] [1,4,7,8,9]) (.block 0 [1,4,7,8] (.loop [1,4,7,8,9] Tt))) Lh)))⟩
theorem pG:Au Tryz.prog 12 BX=true:=by kernel_rfl
def Tv:AG:=(.seq (.seq (.region [.f 31 1 5,.l 32 31,.m 33 32,.sc 33 true [.f 34 1 3,.l 35 34,.un 36 .not (.t 35),.m 37 36,.sc 37 false [.f 38 1 4,.l 39 38,.un 40 .not (.t 39)] 41 (.c (.bool true)) (.t 40),.m 42 41,.sc 42 false [.f 43 1 6,.l 44 43,.len 45 false (.t 44),.bin 46 .gtr (.t 45) (.i 0)] 47 (.c (.bool true)) (.t 46)] 48 (.t 47) (.c (.bool false)),.m 49 48,.sc 49 false [.f 50 1 2,.l 51 50,.m 52 51,.sc 52 true [.f 53 1 3,.l 54 53,.m 55 54,.sc 55 false [.f 56 1 4,.l 57 56] 58 (.c (.bool true)) (.t 57)] 59 (.t 58) (.c (.bool false))] 60 (.c (.bool true)) (.t 59)] [1,60]) (.cond (.t 60) (.seq (.region [.mv 2 (.c (.bool false))] [2]) .ret) .skip)) (.seq (.region [.cl 61 [1] b8,.m 2 61] [2]) .ret))
def Gg:BE:=⟨[.val X],[⟨2,false,.bool⟩],(.seq (.region [.box 1 (.t 0) false,.mv 2 (.c (.bool false))] [1]) (.seq (.seq (.region [.f 3 1 0,.l 4 3,.cl 5 [4] HJ,.un 6 .not (.t 5),.m 7 6,.sc 7 false [.f 8 1 1,.l 9 8,.cx (some 10) [.t 9,.c (.int .i64 1),.c (.int .i64 9)] At,.un 11 .not (.t 10)] 12 (.c (.bool true)) (.t 11),.m 13 12,.sc 13 false [.f 14 1 6,.l 15 14,.cx (some 16) [.t 15,.c (.int .i64 1),.c (.int .i64 6)] SG,.un 17 .not (.t 16)] 18 (.c (.bool true)) (.t 17),.m 19 18,.sc 19 false [.f 20 1 7,.l 21 20,.cl 22 [21] Mx,.un 23 .not (.t 22)] 24 (.c (.bool true)) (.t 23),.m 25 24,.sc 25 false [.f 26 1 8,.l 27 26,.cx (some 28) [.t 27,.c (.int .i64 0),.c (.int .i64 900)] At,.un 29 .not (.t 28)] 30 (.c (.bool true)) (.t 29)] [1,30]) (.cond (.t 30) (.seq (.region [.mv 2 (.c (.bool false))] [2]) .ret) .skip)) Tv))⟩
theorem pH:Au Tryz.prog 13 Gg=true:=by kernel_rfl
def SO:AG:=(.seq (.seq (.region [.m 11 5,.m 12 0,.len 13 false (.t 12),.b 14 .lss 11 13] [0,1,5,14]) (.cond (.t 14) .skip (.exit 0))) (.seq (.block 1 [0,1,5] (.seq (.draw (Ea 9 [(1,[]),(2,[0,1]),(4,[]),(5,[]),(6,[4,5]),(8,[3,7])]) (.tk 9 [.eqs 25 true AI (.t 20) (.t 24),.ls 24 23 9,.idx 23 9 (.t 21) (.t 22),.m 22 5,.m 21 1,.ls 20 19 9,.idx 19 9 (.t 17) (.t 18),.m 18 5,.m 17 0] .done) [0,1,5,25]) (.cond (.t 25) (.seq (.region [.mv 4 (.c (.bool false))] [4]) .ret) .skip))) (.region [.m 15 5,.bin 16 .add (.t 15) (.i 1),.m 5 16] [0,1,5])))
def SP:AG:=(.seq (.region [.mv 4 (.c (.bool true))] [4]) .ret)
def DX:BE:=⟨[.val (.slice AI),.val (.slice AI)],[⟨4,false,.bool⟩],(.seq (.region [.mv 4 (.c (.bool false))] [0,1]) (.seq (.seq (.region [.m 6 0,.len 7 false (.t 6),.m 8 1,.len 9 false (.t 8),.b 10 .neq 7 9] [0,1,10]) (.cond (.t 10) (.seq (.region [.mv 4 (.c (.bool false))] [4]) .ret) .skip)) (.seq (.seq (.region [.mv 5 (.i 0)] [0,1,5]) (.block 0 [] (.loop [0,1,5] SO))) SP)))⟩
theorem mc:Au Tryz.prog 14 DX=true:=by kernel_rfl
def YW:DT:=(.tg 39 false 18 [.pick 51 (.t 45) (.t 50) (.c (.bool false))] (.tk 19 [.pick 52 (.t 39) (.c (.bool true)) (.t 51)] .done))
def YX:AG:=(.seq (.draw (Ea 19 [(2,[]),(3,[1,2]),(8,[5]),(10,[7,9]),(14,[11]),(15,[13,14])]) (.tk 1 [.ls 34 4 9] (.tk 3 [.ls 36 6 9] (.only 1 none (.cl 35 [34] IK) false [] (.only 3 none (.cl 37 [36] IK) false [] (.tk 6 [.m 39 38,.b 38 .eql 35 37] (.test 39 (.sk 39 false 6 12 46 (.sk 45 true 5 17 51 (.sk 39 false 1 18 52 (.tk 19 [.pick 52 (.t 39) (.c (.bool true)) (.t 51)] .done)))) (.tg 39 false 12 [.m 45 44,.b 44 .lss 41 43,.l 43 42,.f 42 6 3,.l 41 40,.f 40 4 4] (.test 45 (.tg 45 true 13 [.ls 46 4 9] (.tg 45 true 15 [.ls 48 6 9] (.only 13 (some (45,true)) (.cl 47 [46] IK) false [] (.only 15 (some (45,true)) (.cl 49 [48] IK) false [] (.tg 45 true 17 [.b 50 .gtr 47 49] YW))))) (.sk 45 true 5 17 51 YW))))))))) [0,3,4,7,8,9,14,15,16,52]) (.cond (.t 52) (.seq (.region [.mv 2 (.c (.bool false))] [2]) .ret) .skip))
def YY:AG:=(.region [.bin 53 .add (.t 16) (.i 1),.m 16 53] [0,3,4,7,8,9,14,15,16])
def YZ:AG:=(.seq (.region [.b 17 .lss 16 15] [0,3,4,7,8,9,14,15,16,17]) (.seq (.cond (.t 17) .skip (.exit 2)) (.seq (.block 3 [0,3,4,7,8,9,14,15,16] (.seq (.region [.m 18 16,.idx 19 9 (.t 14) (.t 16),.ls 20 19 9,.al 6 AI,.m 5 18,.store (.t 6) (.t 20) 9 false] [0,3,4,5,6,7,8,9,14,15,16]) (.seq (.seq (.region [.m 21 3,.m 22 5,.b 23 .eql 21 22,.m 24 23,.sc 24 false [.ls 25 4 9,.cl 26 [25] Ix,.un 27 .not (.t 26)] 28 (.c (.bool true)) (.t 27),.m 29 28,.sc 29 false [.ls 30 6 9,.cl 31 [30] Ix,.un 32 .not (.t 31)] 33 (.c (.bool true)) (.t 32)] [0,3,4,6,7,8,9,14,15,16,33]) (.cond (.t 33) (.exit 3) .skip)) YX))) YY)))
def Vr:AG:=(.region [.bin 54 .add (.t 9) (.i 1),.m 9 54] [0,7,8,9])
def Vs:AG:=(.seq (.region [.b 10 .lss 9 8] [0,7,8,9,10]) (.seq (.cond (.t 10) .skip (.exit 0)) (.seq (.block 1 [0,7,8,9] (.seq (.region [.m 11 9,.idx 12 9 (.t 7) (.t 9),.ls 13 12 9,.al 4 AI,.m 3 11,.store (.t 4) (.t 13) 9 false] [0,3,4,7,8,9]) (.seq (.region [.m 14 0,.len 15 false (.t 14),.mv 16 (.i 0)] [0,3,4,7,8,9,14,15,16]) (.block 2 [0,7,8,9] (.loop [0,3,4,7,8,9,14,15,16] YZ))))) Vr)))
def Vt:AG:=(.seq (.region [.mv 2 (.c (.bool true))] [2]) .ret)
def Cb:BE:=⟨[.val (.slice AI)],[⟨2,false,.bool⟩],(.seq (.region [.mv 2 (.c (.bool false))] [0]) (.seq (.seq (.region [.m 7 0,.len 8 false (.t 7),.mv 9 (.i 0)] [0,7,8,9]) (.block 0 [] (.loop [0,7,8,9] Vs))) Vt))⟩
theorem u9:Au Tryz.prog 15 Cb=true:=by kernel_rfl
def Ya:DT:=(.tg 45 false 18 [.pick 57 (.t 51) (.t 56) (.c (.bool false))] (.tk 19 [.pick 58 (.t 45) (.c (.bool true)) (.t 57)] .done))
def Yb:AG:=(.seq (.draw (Ea 19 [(2,[]),(3,[1,2]),(8,[5]),(10,[7,9]),(14,[11]),(15,[13,14])]) (.tk 1 [.ls 40 5 9] (.tk 3 [.ls 42 6 9] (.only 1 none (.cl 41 [40] IL) false [] (.only 3 none (.cl 43 [42] IL) false [] (.tk 6 [.m 45 44,.b 44 .eql 41 43] (.test 45 (.sk 45 false 6 12 52 (.sk 51 true 5 17 57 (.sk 45 false 1 18 58 (.tk 19 [.pick 58 (.t 45) (.c (.bool true)) (.t 57)] .done)))) (.tg 45 false 12 [.m 51 50,.b 50 .lss 47 49,.l 49 48,.f 48 6 3,.l 47 46,.f 46 5 4] (.test 51 (.tg 51 true 13 [.ls 52 5 9] (.tg 51 true 15 [.ls 54 6 9] (.only 13 (some (51,true)) (.cl 53 [52] IL) false [] (.only 15 (some (51,true)) (.cl 55 [54] IL) false [] (.tg 51 true 17 [.b 56 .geq 53 55] Ya))))) (.sk 51 true 5 17 57 Ya))))))))) [0,3,4,58]) (.cond (.t 58) (.seq (.region [.mv 2 (.c (.bool false))] [2]) .ret) .skip))
def Yc:AG:=(.region [.m 17 4,.bin 18 .add (.t 17) (.i 1),.m 4 18] [0,3,4])
def Vu:AG:=(.seq (.seq (.region [.m 13 4,.m 14 0,.len 15 false (.t 14),.b 16 .lss 13 15] [0,3,4,16]) (.cond (.t 16) .skip (.exit 2))) (.seq (.block 3 [0,3,4] (.seq (.region [.m 19 0,.m 20 3,.idx 21 9 (.t 19) (.t 20),.ls 22 21 9,.al 5 AI,.store (.t 5) (.t 22) 9 false] [0,3,4,5]) (.seq (.region [.m 23 0,.m 24 4,.idx 25 9 (.t 23) (.t 24),.ls 26 25 9,.al 6 AI,.store (.t 6) (.t 26) 9 false] [0,3,4,5,6]) (.seq (.seq (.region [.f 27 5 4,.l 28 27,.bin 29 .lss (.t 28) (.i 0),.m 30 29,.sc 30 false [.f 31 6 4,.l 32 31,.bin 33 .lss (.t 32) (.i 0)] 34 (.c (.bool true)) (.t 33),.m 35 34,.sc 35 false [.m 36 3,.m 37 4,.b 38 .eql 36 37] 39 (.c (.bool true)) (.t 38)] [0,3,4,5,6,39]) (.cond (.t 39) (.exit 3) .skip)) Yb)))) Yc))
def Vv:AG:=(.region [.m 11 3,.bin 12 .add (.t 11) (.i 1),.m 3 12] [0,3])
def Vw:AG:=(.seq (.seq (.region [.m 7 3,.m 8 0,.len 9 false (.t 8),.b 10 .lss 7 9] [0,3,10]) (.cond (.t 10) .skip (.exit 0))) (.seq (.block 1 [0,3] (.seq (.region [.mv 4 (.i 0)] [0,3,4]) (.block 2 [0,3] (.loop [0,3,4] Vu)))) Vv))
def Vx:AG:=(.seq (.region [.mv 2 (.c (.bool true))] [2]) .ret)
def Cc:BE:=⟨[.val (.slice AI)],[⟨2,false,.bool⟩],(.seq (.region [.mv 2 (.c (.bool false))] [0]) (.seq (.seq (.region [.mv 3 (.i 0)] [0,3]) (.block 0 [] (.loop [0,3] Vw))) Vx))⟩
theorem u_:Au Tryz.prog 16 Cc=true:=by kernel_rfl
def Ro:BE:=⟨[.val AI],[⟨2,false,(.int .i64)⟩],(.seq (.region [.box 1 (.t 0) false,.mv 2 (.i 0)] [1]) (.seq (.seq (.region [.f 3 1 6,.l 4 3,.cx (some 5) [.t 4,.c (.int .i64 0),.c (.int .i64 9)] At,.un 6 .not (.t 5),.m 7 6,.sc 7 false [.f 8 1 7,.l 9 8,.cx (some 10) [.t 9,.c (.int .i64 0),.c (.int .i64 999)] At,.un 11 .not (.t 10)] 12 (.c (.bool true)) (.t 11)] [1,12]) (.cond (.t 12) (.seq (.region [.mv 2 (.i 0)] [2]) .ret) .skip)) (.seq (.region [.f 13 1 6,.l 14 13,.bin 15 .mul (.i 1000) (.t 14),.f 16 1 7,.l 17 16,.b 18 .add 15 17,.m 2 18] [2]) .ret)))⟩
theorem xK:Au Tryz.prog 17 Ro=true:=by kernel_rfl
def f9:AG:=(.seq (.seq (.region [.m 14 6,.bin 15 .gtr (.t 14) (.i 0),.m 16 15,.sc 16 true [.f 17 5 2,.l 18 17,.len 19 false (.t 18),.bin 20 .gtr (.t 19) (.i 0)] 21 (.t 20) (.c (.bool false))] [4,5,6,21]) (.cond (.t 21) .skip (.exit 0))) (.seq (.block 1 [4,5,6] (.region [.cx (some 24) [.t 5,.c (.int .i64 0),.c (.int .i64 70)] PZ] [4,5,6])) (.region [.m 22 6,.bin 23 .sub (.t 22) (.i 1),.m 6 23] [4,5,6])))
def f_:AG:=(.seq (.region [.ls 25 5 4,.cl 26 [25] Oc,.store (.t 4) (.t 26) 4 false] [4]) .ret)
def H8:BE:=⟨[.val AO,.val (.int .i64)],[⟨4,true,AO⟩],(.seq (.region [.box 2 (.t 0) true,.al 4 Af] [1,2,4]) (.seq (.region [.ls 7 2 4,.cl 8 [7] Oc,.al 5 Af,.store (.t 5) (.t 8) 4 false] [1,2,4,5]) (.seq (.seq (.region [.cl 9 [2] b9,.un 10 .not (.t 9)] [1,4,5,10]) (.cond (.t 10) (.seq (.region [.ls 11 5 4,.store (.t 4) (.t 11) 4 false] [4]) .ret) .skip)) (.seq (.seq (.region [.m 12 1,.min 13 (.t 12) (.i 1000),.m 6 13] [4,5,6]) (.block 0 [4,5] (.loop [4,5,6] f9))) f_))))⟩
theorem zA:Au Tryz.prog 18 H8=true:=by kernel_rfl
def cJ:AG:=(.seq (.seq (.region [.f 19 4 5,.l 20 19,.bin 21 .eql (.t 20) (.i 0)] [0,4,5,6,7,21]) (.cond (.t 21) (.seq (.seq (.region [.f 22 4 8,.l 23 22,.bin 24 .neq (.t 23) (.c (.str ⟨#[]⟩))] [0,5,6,7,24]) (.cond (.t 24) (.seq (.region [.mv 2 (.c (.bool false))] [2]) .ret) .skip)) (.exit 1)) .skip)) (.seq (.draw (Ea 11 [(1,[]),(2,[0,1]),(7,[4]),(9,[6,8])]) (.tk 2 [.ls 26 4 9,.m 25 0] (.only 2 none (.cl 27 [25,26] xC) false [] (.tk 5 [.m 29 28,.un 28 .not (.t 27)] (.test 29 (.sk 29 false 5 10 35 (.tk 11 [.pick 35 (.t 29) (.c (.bool true)) (.t 34)] .done)) (.tg 29 false 8 [.ls 32 4 9,.l 31 30,.f 30 4 5] (.only 8 (some (29,false)) (.cl 33 [32] IK) false [] (.tg 29 false 10 [.b 34 .gtr 31 33] (.tk 11 [.pick 35 (.t 29) (.c (.bool true)) (.t 34)] .done)))))))) [0,5,6,7,35]) (.cond (.t 35) (.seq (.region [.mv 2 (.c (.bool false))] [2]) .ret) .skip)))
def cK:AG:=(.region [.bin 36 .add (.t 7) (.i 1),.m 7 36] [0,5,6,7])
def Yd:AG:=(.seq (.region [.b 8 .lss 7 6] [0,5,6,7,8]) (.seq (.cond (.t 8) .skip (.exit 0)) (.seq (.block 1 [0,5,6,7] (.seq (.region [.idx 9 9 (.t 5) (.t 7),.ls 10 9 9,.al 4 AI,.store (.t 4) (.t 10) 9 false] [0,4,5,6,7]) (.seq (.seq (.region [.f 11 4 0,.l 12 11,.bin 13 .neq (.t 12) (.i 2),.m 14 13,.sc 14 false [.ls 15 4 9,.cl 16 [15] Ix,.un 17 .not (.t 16)] 18 (.c (.bool true)) (.t 17)] [0,4,5,6,7,18]) (.cond (.t 18) (.exit 1) .skip)) cJ))) cK)))
def Ye:AG:=(.seq (.region [.mv 2 (.c (.bool true))] [2]) .ret)
def Ec:BE:=⟨[.val (.slice AI)],[⟨2,false,.bool⟩],(.seq (.region [.mv 2 (.c (.bool false))] [0]) (.seq (.seq (.region [.m 5 0,.len 6 false (.t 5),.mv 7 (.i 0)] [0,5,6,7]) (.block 0 [] (.loop [0,5,6,7] Yd))) Ye))⟩
theorem xL:Au Tryz.prog 19 Ec=true:=by kernel_rfl
def cL:AG:=(.seq (.seq (.region [.m 31 6,.m 32 0,.len 33 false (.t 32),.b 34 .lss 31 33] [0,3,4,5,6,34]) (.cond (.t 34) .skip (.exit 2))) (.seq (.block 3 [0,3,4,5,6] (.draw (Ea 10 [(3,[1]),(4,[1]),(5,[3,4]),(7,[2,6])]) (.tk 2 [.m 38 37,.m 37 5] (.test 38 (.sk 38 false 6 8 45 (.tk 10 [.m 5 45,.pick 45 (.t 38) (.c (.bool true)) (.t 44)] .done)) (.tg 38 false 7 [.ls 43 42 9,.idx 42 9 (.t 40) (.t 41),.m 41 6,.m 40 0,.ls 39 4 9] (.only 7 (some (38,false)) (.cl 44 [39,43] uw) false [] (.tk 10 [.m 5 45,.pick 45 (.t 38) (.c (.bool true)) (.t 44)] .done))))) [0,3,4,5,6])) (.region [.m 35 6,.bin 36 .add (.t 35) (.i 1),.m 6 36] [0,3,4,5,6])))
def QA:AG:=(.seq (.draw (Ea 9 [(5,[2]),(7,[4,6])]) (.tk 3 [.m 48 47,.un 47 .not (.t 46),.m 46 5] (.test 48 (.sk 48 false 5 8 54 (.tk 9 [.pick 54 (.t 48) (.c (.bool true)) (.t 53)] .done)) (.tg 48 false 6 [.ls 51 4 9,.l 50 49,.f 49 4 5] (.only 6 (some (48,false)) (.cl 52 [51] IL) false [] (.tg 48 false 8 [.b 53 .gtr 50 52] (.tk 9 [.pick 54 (.t 48) (.c (.bool true)) (.t 53)] .done)))))) [0,3,54]) (.cond (.t 54) (.seq (.region [.mv 2 (.c (.bool false))] [2]) .ret) .skip))
def Yf:AG:=(.seq (.seq (.region [.f 25 4 5,.l 26 25,.bin 27 .eql (.t 26) (.i 0)] [0,3,4,27]) (.cond (.t 27) (.seq (.seq (.region [.f 28 4 8,.l 29 28,.bin 30 .neq (.t 29) (.c (.str ⟨#[]⟩))] [0,3,30]) (.cond (.t 30) (.seq (.region [.mv 2 (.c (.bool false))] [2]) .ret) .skip)) (.exit 1)) .skip)) (.seq (.region [.mv 5 (.c (.bool false))] [0,3,4,5]) (.seq (.seq (.region [.mv 6 (.i 0)] [0,3,4,5,6]) (.block 2 [0,3,4,5] (.loop [0,3,4,5,6] cL))) QA)))
def Yg:AG:=(.region [.m 11 3,.bin 12 .add (.t 11) (.i 1),.m 3 12] [0,3])
def Yh:AG:=(.seq (.seq (.region [.m 7 3,.m 8 0,.len 9 false (.t 8),.b 10 .lss 7 9] [0,3,10]) (.cond (.t 10) .skip (.exit 0))) (.seq (.block 1 [0,3] (.seq (.region [.m 13 0,.m 14 3,.idx 15 9 (.t 13) (.t 14),.ls 16 15 9,.al 4 AI,.store (.t 4) (.t 16) 9 false] [0,3,4]) (.seq (.seq (.region [.f 17 4 0,.l 18 17,.bin 19 .neq (.t 18) (.i 2),.m 20 19,.sc 20 false [.f 21 4 4,.l 22 21,.bin 23 .lss (.t 22) (.i 0)] 24 (.c (.bool true)) (.t 23)] [0,3,4,24]) (.cond (.t 24) (.exit 1) .skip)) Yf))) Yg))
def Yi:AG:=(.seq (.region [.mv 2 (.c (.bool true))] [2]) .ret)
def Cg:BE:=⟨[.val (.slice AI)],[⟨2,false,.bool⟩],(.seq (.region [.mv 2 (.c (.bool false))] [0]) (.seq (.seq (.region [.mv 3 (.i 0)] [0,3]) (.block 0 [] (.loop [0,3] Yh))) Yi))⟩
theorem xM:Au Tryz.prog 20 Cg=true:=by kernel_rfl
def Yj:DT:=(.sk 47 true 5 25 53 (.tk 27 [.m 7 53,.pick 53 (.t 47) (.t 52) (.c (.bool false))] .done))
def Yk:DT:=(.sk 43 true 2 18 46 (.tk 20 [.m 47 46,.pick 46 (.t 43) (.t 45) (.c (.bool false))] Yj))
def Yl:DT:=(.tg 36 true 14 [.b 41 .eql 38 40,.l 40 39,.f 39 4 1,.l 38 37,.f 37 6 1] (.tk 16 [.m 43 42,.pick 42 (.t 36) (.t 41) (.c (.bool false))] (.test 43 (.tg 43 true 17 [.ls 44 6 9] (.only 17 (some (43,true)) (.cl 45 [44] Ix) false [] (.tk 20 [.m 47 46,.pick 46 (.t 43) (.t 45) (.c (.bool false))] (.test 47 (.tg 47 true 21 [.ls 48 6 9] (.tg 47 true 23 [.ls 50 4 9] (.only 21 (some (47,true)) (.cl 49 [48] IK) false [] (.only 23 (some (47,true)) (.cl 51 [50] IK) false [] (.tg 47 true 25 [.b 52 .lss 49 51] (.tk 27 [.m 7 53,.pick 53 (.t 47) (.t 52) (.c (.bool false))] .done)))))) Yj)))) Yk)))
def Ym:AG:=(.seq (.region [.m 54 7,.m 55 54,.sc 55 true [.f 56 4 5,.l 57 56,.f 58 6 5,.l 59 58,.b 60 .lss 57 59] 61 (.t 60) (.c (.bool false))] [0,4,8,9,10,22,23,24,61]) (.cond (.t 61) (.seq (.region [.mv 2 (.c (.bool false))] [2]) .ret) .skip))
def Yn:AG:=(.region [.bin 62 .add (.t 24) (.i 1),.m 24 62] [0,4,8,9,10,22,23,24])
def Yo:AG:=(.seq (.region [.b 25 .lss 24 23] [0,4,8,9,10,22,23,24,25]) (.seq (.cond (.t 25) .skip (.exit 2)) (.seq (.block 3 [0,4,8,9,10,22,23,24] (.seq (.region [.idx 26 9 (.t 22) (.t 24),.ls 27 26 9,.al 6 AI,.store (.t 6) (.t 27) 9 false] [0,4,6,8,9,10,22,23,24]) (.seq (.draw (Ea 27 [(11,[8]),(13,[10,12]),(22,[19]),(23,[21,22])]) (.tk 4 [.m 31 30,.bin 30 .eql (.t 29) (.i 1),.l 29 28,.f 28 6 0] (.test 31 (.sk 31 false 3 7 35 (.tk 9 [.m 36 35,.pick 35 (.t 31) (.c (.bool true)) (.t 34)] Yl)) (.tg 31 false 7 [.bin 34 .eql (.t 33) (.i 2),.l 33 32,.f 32 6 0] (.tk 9 [.m 36 35,.pick 35 (.t 31) (.c (.bool true)) (.t 34)] (.test 36 Yl (.sk 36 true 5 14 42 (.tk 16 [.m 43 42,.pick 42 (.t 36) (.t 41) (.c (.bool false))] Yk))))))) [0,4,6,7,8,9,10,22,23,24]) Ym))) Yn)))
def Yp:AG:=(.region [.bin 63 .add (.t 10) (.i 1),.m 10 63] [0,8,9,10])
def Yq:AG:=(.seq (.region [.b 11 .lss 10 9] [0,8,9,10,11]) (.seq (.cond (.t 11) .skip (.exit 0)) (.seq (.block 1 [0,8,9,10] (.seq (.region [.idx 12 9 (.t 8) (.t 10),.ls 13 12 9,.al 4 AI,.store (.t 4) (.t 13) 9 false] [0,4,8,9,10]) (.seq (.seq (.region [.f 14 4 0,.l 15 14,.bin 16 .neq (.t 15) (.i 2),.m 17 16,.sc 17 false [.ls 18 4 9,.cl 19 [18] Ix,.un 20 .not (.t 19)] 21 (.c (.bool true)) (.t 20)] [0,4,8,9,10,21]) (.cond (.t 21) (.exit 1) .skip)) (.seq (.region [.m 22 0,.len 23 false (.t 22),.mv 24 (.i 0)] [0,4,8,9,10,22,23,24]) (.block 2 [0,8,9,10] (.loop [0,4,8,9,10,22,23,24] Yo)))))) Yp)))
def Yr:AG:=(.seq (.region [.mv 2 (.c (.bool true))] [2]) .ret)
def C0:BE:=⟨[.val (.slice AI)],[⟨2,false,.bool⟩],(.seq (.region [.mv 2 (.c (.bool false))] [0]) (.seq (.seq (.region [.m 8 0,.len 9 false (.t 8),.mv 10 (.i 0)] [0,8,9,10]) (.block 0 [] (.loop [0,8,9,10] Yq))) Yr))⟩
theorem xN:Au Tryz.prog 21 C0=true:=by kernel_rfl
def cM:DT:=(.sk 54 true 5 33 60 (.tk 34 [.pick 60 (.t 54) (.t 59) (.c (.bool false))] .done))
def Ys:DT:=(.sk 47 true 5 26 53 (.tk 28 [.m 54 53,.pick 53 (.t 47) (.t 52) (.c (.bool false))] cM))
def Yt:DT:=(.sk 40 true 5 19 46 (.tk 21 [.m 47 46,.pick 46 (.t 40) (.t 45) (.c (.bool false))] Ys))
def Yu:DT:=(.sk 35 true 3 12 39 (.tk 14 [.m 40 39,.pick 39 (.t 35) (.t 38) (.c (.bool false))] Yt))
def Yv:AG:=(.seq (.seq (.region [.m 13 4,.m 14 0,.len 15 false (.t 14),.b 16 .lss 13 15] [0,3,4,16]) (.cond (.t 16) .skip (.exit 2))) (.seq (.block 3 [0,3,4] (.seq (.region [.m 19 0,.m 20 3,.idx 21 9 (.t 19) (.t 20),.ls 22 21 9,.al 5 AI,.store (.t 5) (.t 22) 9 false] [0,3,4,5]) (.seq (.region [.m 23 0,.m 24 4,.idx 25 9 (.t 23) (.t 24),.ls 26 25 9,.al 6 AI,.store (.t 6) (.t 26) 9 false] [0,3,4,5,6]) (.seq (.draw (Ea 34 [(16,[13]),(18,[15,17]),(23,[20]),(24,[22,23]),(30,[27]),(32,[29,31])]) (.tk 4 [.m 30 29,.bin 29 .eql (.t 28) (.i 2),.l 28 27,.f 27 5 0] (.test 30 (.tg 30 true 7 [.bin 33 .geq (.t 32) (.i 0),.l 32 31,.f 31 5 4] (.tk 9 [.m 35 34,.pick 34 (.t 30) (.t 33) (.c (.bool false))] (.test 35 (.tg 35 true 12 [.bin 38 .geq (.t 37) (.i 0),.l 37 36,.f 36 6 4] (.tk 14 [.m 40 39,.pick 39 (.t 35) (.t 38) (.c (.bool false))] (.test 40 (.tg 40 true 19 [.b 45 .eql 42 44,.l 44 43,.f 43 5 1,.l 42 41,.f 41 6 1] (.tk 21 [.m 47 46,.pick 46 (.t 40) (.t 45) (.c (.bool false))] (.test 47 (.tg 47 true 22 [.ls 48 6 9] (.tg 47 true 24 [.ls 50 5 9] (.only 22 (some (47,true)) (.cl 49 [48] IL) false [] (.only 24 (some (47,true)) (.cl 51 [50] IL) false [] (.tg 47 true 26 [.b 52 .lss 49 51] (.tk 28 [.m 54 53,.pick 53 (.t 47) (.t 52) (.c (.bool false))] (.test 54 (.tg 54 true 33 [.b 59 .gtr 56 58,.l 58 57,.f 57 5 5,.l 56 55,.f 55 6 5] (.tk 34 [.pick 60 (.t 54) (.t 59) (.c (.bool false))] .done)) cM))))))) Ys))) Yt))) Yu))) (.sk 30 true 3 7 34 (.tk 9 [.m 35 34,.pick 34 (.t 30) (.t 33) (.c (.bool false))] Yu)))) [0,3,4,60]) (.cond (.t 60) (.seq (.region [.mv 2 (.c (.bool false))] [2]) .ret) .skip))))) (.region [.m 17 4,.bin 18 .add (.t 17) (.i 1),.m 4 18] [0,3,4])))
def Yw:AG:=(.region [.m 11 3,.bin 12 .add (.t 11) (.i 1),.m 3 12] [0,3])
def Yx:AG:=(.seq (.seq (.region [.m 7 3,.m 8 0,.len 9 false (.t 8),.b 10 .lss 7 9] [0,3,10]) (.cond (.t 10) .skip (.exit 0))) (.seq (.block 1 [0,3] (.seq (.region [.mv 4 (.i 0)] [0,3,4]) (.block 2 [0,3] (.loop [0,3,4] Yv)))) Yw))
def Yy:AG:=(.seq (.region [.mv 2 (.c (.bool true))] [2]) .ret)
def Dp:BE:=⟨[.val (.slice AI)],[⟨2,false,.bool⟩],(.seq (.region [.mv 2 (.c (.bool false))] [0]) (.seq (.seq (.region [.mv 3 (.i 0)] [0,3]) (.block 0 [] (.loop [0,3] Yx))) Yy))⟩
theorem xO:Au Tryz.prog 22 Dp=true:=by kernel_rfl
def Tw:AG:=(.seq (.seq (.region [.m 11 5,.m 12 0,.len 13 false (.t 12),.b 14 .lss 11 13] [0,1,5,14]) (.cond (.t 14) .skip (.exit 0))) (.seq (.block 1 [0,1,5] (.seq (.draw (Ea 9 [(1,[]),(2,[0,1]),(4,[]),(5,[]),(6,[4,5]),(8,[3,7])]) (.tk 9 [.b 25 .neq 20 24,.l 24 23,.idx 23 1 (.t 21) (.t 22),.m 22 5,.m 21 1,.l 20 19,.idx 19 1 (.t 17) (.t 18),.m 18 5,.m 17 0] .done) [0,1,5,25]) (.cond (.t 25) (.seq (.region [.mv 4 (.c (.bool false))] [4]) .ret) .skip))) (.region [.m 15 5,.bin 16 .add (.t 15) (.i 1),.m 5 16] [0,1,5])))
def Tx:AG:=(.seq (.region [.mv 4 (.c (.bool true))] [4]) .ret)
def D8:BE:=⟨[.val (.slice (.int .i64)),.val (.slice (.int .i64))],[⟨4,false,.bool⟩],(.seq (.region [.mv 4 (.c (.bool false))] [0,1]) (.seq (.seq (.region [.m 6 0,.len 7 false (.t 6),.m 8 1,.len 9 false (.t 8),.b 10 .neq 7 9] [0,1,10]) (.cond (.t 10) (.seq (.region [.mv 4 (.c (.bool false))] [4]) .ret) .skip)) (.seq (.seq (.region [.mv 5 (.i 0)] [0,1,5]) (.block 0 [] (.loop [0,1,5] Tw))) Tx)))⟩
theorem pI:Au Tryz.prog 23 D8=true:=by kernel_rfl
def Rp:BE:=⟨[.val AO],[⟨2,false,.bool⟩],(.seq (.region [.box 1 (.t 0) true,.mv 2 (.c (.bool false))] [1]) (.seq (.region [.f 3 1 3,.l 4 3,.cl 5 [4] ur,.m 6 5,.sc 6 true [.f 7 1 3,.l 8 7,.cl 9 [8] w7] 10 (.t 9) (.c (.bool false)),.m 11 10,.sc 11 true [.f 12 1 3,.l 13 12,.cl 14 [13] w9] 15 (.t 14) (.c (.bool false)),.m 16 15,.sc 16 true [.ls 17 1 4,.cl 18 [17] mX] 19 (.t 18) (.c (.bool false)),.m 20 19,.sc 20 true [.ls 21 1 4,.cl 22 [21] xA] 23 (.t 22) (.c (.bool false)),.m 2 23] [2]) .ret))⟩
theorem xP:Au Tryz.prog 24 Rp=true:=by kernel_rfl
def Rq:BE:=⟨[.val AO],[⟨2,false,.bool⟩],(.seq (.region [.box 1 (.t 0) false,.mv 2 (.c (.bool false))] [1]) (.seq (.region [.f 3 1 3,.l 4 3,.cl 5 [4] ut,.m 6 5,.sc 6 true [.f 7 1 3,.l 8 7,.cl 9 [8] w8] 10 (.t 9) (.c (.bool false)),.m 11 10,.sc 11 true [.f 12 1 3,.l 13 12,.cl 14 [13] w_] 15 (.t 14) (.c (.bool false)),.m 16 15,.sc 16 true [.ls 17 1 4,.cl 18 [17] mY] 19 (.t 18) (.c (.bool false)),.m 20 19,.sc 20 true [.ls 21 1 4,.cl 22 [21] xB] 23 (.t 22) (.c (.bool false)),.m 2 23] [2]) .ret))⟩
theorem xQ:Au Tryz.prog 25 Rq=true:=by kernel_rfl
def SQ:AG:=(.seq (.region [.b 39 .lss 38 37] [1,4,9,10,11,36,37,38,39]) (.seq (.cond (.t 39) .skip (.exit 2)) (.seq (.block 3 [1,4,9,10,11,36,37,38] (.seq (.region [.idx 40 16 (.t 36) (.t 38),.ls 41 40 16,.al 7 X,.store (.t 7) (.t 41) 16 false] [1,4,7,9,10,11,36,37,38]) (.seq (.region [.f 42 7 5,.l 43 42,.m 44 43,.sc 44 true [.f 45 7 1,.l 46 45,.f 47 4 1,.l 48 47,.b 49 .eql 46 48] 50 (.t 49) (.c (.bool false))] [1,4,9,10,11,36,37,38,50]) (.cond (.t 50) (.seq (.region [.mv 2 (.c (.bool false))] [2]) .ret) .skip)))) (.region [.bin 51 .add (.t 38) (.i 1),.m 38 51] [1,4,9,10,11,36,37,38]))))
def SS:AG:=(.seq (.region [.f 33 1 1,.l 34 33,.m 35 3,.sl 36 16 (.t 34) none (some (.t 35)),.len 37 false (.t 36),.mv 38 (.i 0)] [1,4,9,10,11,36,37,38]) (.block 2 [1,9,10,11] (.loop [1,4,9,10,11,36,37,38] SQ)))
def Qw:AG:=(.region [.bin 52 .add (.t 11) (.i 1),.m 11 52] [1,9,10,11])
def Qx:AG:=(.seq (.region [.b 12 .lss 11 10] [1,9,10,11,12]) (.seq (.cond (.t 12) .skip (.exit 0)) (.seq (.block 1 [1,9,10,11] (.seq (.region [.m 13 11,.idx 14 16 (.t 9) (.t 11),.ls 15 14 16,.al 4 X,.m 3 13,.store (.t 4) (.t 15) 16 false] [1,3,4,9,10,11]) (.seq (.seq (.region [.f 16 4 5,.l 17 16,.un 18 .not (.t 17)] [1,3,4,9,10,11,18]) (.cond (.t 18) (.exit 1) .skip)) (.seq (.region [.f 19 4 1,.l 20 19,.cl 21 [1,20] To,.m 5 21] [1,3,4,5,9,10,11]) (.seq (.seq (.draw (Ea 11 [(7,[3]),(9,[6,8])]) (.tk 4 [.m 25 24,.bin 24 .eql (.t 23) (.i 0),.len 23 false (.t 22),.m 22 5] (.test 25 (.sk 25 false 6 10 32 (.tk 11 [.pick 32 (.t 25) (.c (.bool true)) (.t 31)] .done)) (.tg 25 false 10 [.b 31 .neq 28 30,.l 30 29,.f 29 4 0,.l 28 27,.idx 27 1 (.t 26) (.i 0),.m 26 5] (.tk 11 [.pick 32 (.t 25) (.c (.bool true)) (.t 31)] .done)))) [1,3,4,9,10,11,32]) (.cond (.t 32) (.seq (.region [.mv 2 (.c (.bool false))] [2]) .ret) .skip)) SS))))) Qw)))
def Qy:AG:=(.seq (.region [.mv 2 (.c (.bool true))] [2]) .ret)
def Br:BE:=⟨[.val AO],[⟨2,false,.bool⟩],(.seq (.region [.box 1 (.t 0) true,.mv 2 (.c (.bool false))] [1]) (.seq (.seq (.region [.f 8 1 1,.l 9 8,.len 10 false (.t 9),.mv 11 (.i 0)] [1,9,10,11]) (.block 0 [] (.loop [1,9,10,11] Qx))) Qy))⟩
theorem md:Au Tryz.prog 27 Br=true:=by kernel_rfl
def Qz:DT:=(.sk 39 false 12 31 52 (.tk 32 [.pick 52 (.t 39) (.c (.bool true)) (.t 51)] .done))
def Q0:AG:=(.seq (.seq (.region [.m 53 5,.m 54 3,.b 55 .lss 53 54] [1,3,4,5,55]) (.cond (.t 55) .skip (.exit 2))) (.seq (.block 3 [1,3,4,5] (.seq (.draw (Ea 17 [(2,[]),(3,[1,2]),(9,[6]),(10,[8,9]),(13,[6]),(15,[12,14])]) (.tk 7 [.m 64 63,.l 63 62,.f 62 61 5,.idx 61 16 (.t 59) (.t 60),.m 60 5,.l 59 58,.f 58 1 1] (.test 64 (.tg 64 true 16 [.b 73 .eql 70 72,.l 72 71,.f 71 4 1,.l 70 69,.f 69 68 1,.idx 68 16 (.t 66) (.t 67),.m 67 5,.l 66 65,.f 65 1 1] (.tk 17 [.pick 74 (.t 64) (.t 73) (.c (.bool false))] .done)) (.sk 64 true 9 16 74 (.tk 17 [.pick 74 (.t 64) (.t 73) (.c (.bool false))] .done)))) [1,3,4,5,74]) (.cond (.t 74) (.seq (.region [.mv 2 (.c (.bool false))] [2]) .ret) .skip))) (.region [.m 56 5,.bin 57 .add (.t 56) (.i 1),.m 5 57] [1,3,4,5])))
def Q1:AG:=(.region [.m 11 3,.bin 12 .add (.t 11) (.i 1),.m 3 12] [1,3])
def Q2:AG:=(.seq (.seq (.region [.m 6 3,.f 7 1 1,.l 8 7,.len 9 false (.t 8),.b 10 .lss 6 9] [1,3,10]) (.cond (.t 10) .skip (.exit 0))) (.seq (.block 1 [1,3] (.seq (.region [.f 13 1 1,.l 14 13,.m 15 3,.idx 16 16 (.t 14) (.t 15),.ls 17 16 16,.al 4 X,.store (.t 4) (.t 17) 16 false] [1,3,4]) (.seq (.seq (.region [.f 18 4 5,.l 19 18,.un 20 .not (.t 19)] [1,3,4,20]) (.cond (.t 20) (.exit 1) .skip)) (.seq (.seq (.draw (Ea 32 [(2,[]),(5,[1,4]),(10,[7]),(13,[9,12]),(21,[18]),(24,[20,23]),(28,[18]),(30,[27,29])]) (.tk 5 [.len 25 false (.t 24),.l 24 23,.f 23 1 0,.l 22 21,.f 21 4 1] (.only 5 none (.cx (some 26) [.t 22,.c (.int .i64 1),.t 25] Am) false [] (.tk 8 [.m 28 27,.un 27 .not (.t 26)] (.test 28 (.sk 28 false 9 17 38 (.tk 19 [.m 39 38,.pick 38 (.t 28) (.c (.bool true)) (.t 37)] Qz)) (.tg 28 false 17 [.bin 37 .eql (.t 36) (.i 0),.len 36 false (.t 35),.l 35 34,.idx 34 1 (.t 30) (.t 33),.bin 33 .sub (.t 32) (.i 1),.l 32 31,.f 31 4 1,.l 30 29,.f 29 1 0] (.tk 19 [.m 39 38,.pick 38 (.t 28) (.c (.bool true)) (.t 37)] (.test 39 Qz (.tg 39 false 31 [.b 51 .neq 48 50,.l 50 49,.f 49 4 0,.l 48 47,.idx 47 1 (.t 46) (.i 0),.l 46 45,.idx 45 1 (.t 41) (.t 44),.bin 44 .sub (.t 43) (.i 1),.l 43 42,.f 42 4 1,.l 41 40,.f 40 1 0] (.tk 32 [.pick 52 (.t 39) (.c (.bool true)) (.t 51)] .done))))))))) [1,3,4,52]) (.cond (.t 52) (.seq (.region [.mv 2 (.c (.bool false))] [2]) .ret) .skip)) (.seq (.region [.mv 5 (.i 0)] [1,3,4,5]) (.block 2 [1,3] (.loop [1,3,4,5] Q0))))))) Q1))
def Q3:AG:=(.seq (.region [.mv 2 (.c (.bool true))] [2]) .ret)
def CC:BE:=⟨[.val AO],[⟨2,false,.bool⟩],(.seq (.region [.box 1 (.t 0) false,.mv 2 (.c (.bool false))] [1]) (.seq (.seq (.region [.mv 3 (.i 0)] [1,3]) (.block 0 [] (.loop [1,3] Q2))) Q3))⟩
theorem me:Au Tryz.prog 28 CC=true:=by kernel_rfl
def cN:AG:=(.seq (.region [.b 32 .lss 31 30] [1,3,4,5,9,10,11,29,30,31,32]) (.seq (.cond (.t 32) .skip (.exit 2)) (.seq (.block 3 [1,3,4,5,9,10,11,29,30,31] (.seq (.region [.m 33 31,.idx 34 16 (.t 29) (.t 31),.ls 35 34 16,.al 7 X,.m 6 33,.store (.t 7) (.t 35) 16 false] [1,3,4,5,6,7,9,10,11,29,30,31]) (.seq (.region [.m 36 6,.m 37 3,.b 38 .neq 36 37,.m 39 38,.sc 39 true [.m 40 5,.f 41 7 0,.l 42 41,.cl 43 [40,42] EF] 44 (.t 43) (.c (.bool false)),.m 45 44,.sc 45 true [.f 46 7 3,.l 47 46] 48 (.t 47) (.c (.bool false)),.m 49 48,.sc 49 true [.f 50 7 1,.l 51 50,.f 52 4 1,.l 53 52,.b 54 .eql 51 53] 55 (.t 54) (.c (.bool false)),.m 56 55,.sc 56 true [.f 57 7 7,.l 58 57,.f 59 4 7,.l 60 59,.cl 61 [58,60] Ld,.un 62 .not (.t 61)] 63 (.t 62) (.c (.bool false))] [1,3,4,5,9,10,11,29,30,31,63]) (.cond (.t 63) (.seq (.region [.mv 2 (.c (.bool false))] [2]) .ret) .skip)))) (.region [.bin 64 .add (.t 31) (.i 1),.m 31 64] [1,3,4,5,9,10,11,29,30,31]))))
def cO:AG:=(.seq (.region [.f 25 4 1,.l 26 25,.cl 27 [1,26] To,.m 5 27] [1,3,4,5,9,10,11]) (.seq (.region [.f 28 1 1,.l 29 28,.len 30 false (.t 29),.mv 31 (.i 0)] [1,3,4,5,9,10,11,29,30,31]) (.block 2 [1,9,10,11] (.loop [1,3,4,5,9,10,11,29,30,31] cN))))
def Yz:AG:=(.region [.bin 65 .add (.t 11) (.i 1),.m 11 65] [1,9,10,11])
def Y0:AG:=(.seq (.region [.b 12 .lss 11 10] [1,9,10,11,12]) (.seq (.cond (.t 12) .skip (.exit 0)) (.seq (.block 1 [1,9,10,11] (.seq (.region [.m 13 11,.idx 14 16 (.t 9) (.t 11),.ls 15 14 16,.al 4 X,.m 3 13,.store (.t 4) (.t 15) 16 false] [1,3,4,9,10,11]) (.seq (.seq (.region [.f 16 4 5,.l 17 16,.un 18 .not (.t 17),.m 19 18,.sc 19 false [.f 20 4 9,.f 21 20 0,.l 22 21,.bin 23 .neq (.t 22) (.i 0)] 24 (.c (.bool true)) (.t 23)] [1,3,4,9,10,11,24]) (.cond (.t 24) (.exit 1) .skip)) cO))) Yz)))
def Y1:AG:=(.seq (.region [.mv 2 (.c (.bool true))] [2]) .ret)
def DK:BE:=⟨[.val AO],[⟨2,false,.bool⟩],(.seq (.region [.box 1 (.t 0) true,.mv 2 (.c (.bool false))] [1]) (.seq (.seq (.region [.f 8 1 1,.l 9 8,.len 10 false (.t 9),.mv 11 (.i 0)] [1,9,10,11]) (.block 0 [] (.loop [1,9,10,11] Y0))) Y1))⟩
theorem xR:Au Tryz.prog 29 DK=true:=by kernel_rfl
def cQ:DT:=(.sk 70 true 6 28 77 (.tk 29 [.pick 77 (.t 70) (.t 76) (.c (.bool false))] .done))
def Y2:DT:=(.sk 58 true 10 20 69 (.tk 22 [.m 70 69,.pick 69 (.t 58) (.t 68) (.c (.bool false))] cQ))
def Y3:AG:=(.seq (.seq (.region [.m 37 5,.f 38 1 1,.l 39 38,.len 40 false (.t 39),.b 41 .lss 37 40] [1,3,4,5,41]) (.cond (.t 41) .skip (.exit 2))) (.seq (.block 3 [1,3,4,5] (.seq (.region [.f 44 1 1,.l 45 44,.m 46 5,.idx 47 16 (.t 45) (.t 46),.ls 48 47 16,.al 6 X,.store (.t 6) (.t 48) 16 false] [1,3,4,5,6]) (.seq (.draw (Ea 29 [(2,[]),(4,[1,3]),(12,[9]),(15,[11,14]),(17,[9]),(19,[16,18]),(24,[21]),(26,[23,25])]) (.tk 6 [.m 54 53,.b 53 .eql 50 52,.l 52 51,.f 51 4 1,.l 50 49,.f 49 6 1] (.test 54 (.tg 54 true 8 [.l 56 55,.f 55 6 3] (.tk 10 [.m 58 57,.pick 57 (.t 54) (.t 56) (.c (.bool false))] (.test 58 (.tg 58 true 19 [.l 67 66,.f 66 6 0,.l 65 64,.idx 64 1 (.t 60) (.t 63),.bin 63 .sub (.t 62) (.i 1),.l 62 61,.f 61 4 1,.l 60 59,.f 59 1 0] (.only 19 (some (58,true)) (.cl 68 [65,67] Fg) false [] (.tk 22 [.m 70 69,.pick 69 (.t 58) (.t 68) (.c (.bool false))] (.test 70 (.tg 70 true 26 [.l 74 73,.f 73 4 7,.l 72 71,.f 71 6 7] (.only 26 (some (70,true)) (.cl 75 [72,74] fE) false [] (.tg 70 true 28 [.un 76 .not (.t 75)] (.tk 29 [.pick 77 (.t 70) (.t 76) (.c (.bool false))] .done)))) cQ)))) Y2))) (.sk 54 true 2 8 57 (.tk 10 [.m 58 57,.pick 57 (.t 54) (.t 56) (.c (.bool false))] Y2)))) [1,3,4,5,77]) (.cond (.t 77) (.seq (.region [.mv 2 (.c (.bool false))] [2]) .ret) .skip)))) (.region [.m 42 5,.bin 43 .add (.t 42) (.i 1),.m 5 43] [1,3,4,5])))
def Y4:AG:=(.region [.m 12 3,.bin 13 .add (.t 12) (.i 1),.m 3 13] [1,3])
def Y5:AG:=(.seq (.seq (.region [.m 7 3,.f 8 1 1,.l 9 8,.len 10 false (.t 9),.b 11 .lss 7 10] [1,3,11]) (.cond (.t 11) .skip (.exit 0))) (.seq (.block 1 [1,3] (.seq (.region [.f 14 1 1,.l 15 14,.m 16 3,.idx 17 16 (.t 15) (.t 16),.ls 18 17 16,.al 4 X,.store (.t 4) (.t 18) 16 false] [1,3,4]) (.seq (.seq (.region [.f 19 4 5,.l 20 19,.un 21 .not (.t 20),.m 22 21,.sc 22 false [.f 23 4 9,.f 24 23 0,.l 25 24,.bin 26 .neq (.t 25) (.i 0)] 27 (.c (.bool true)) (.t 26),.m 28 27,.sc 28 false [.f 29 4 1,.l 30 29,.f 31 1 0,.l 32 31,.len 33 false (.t 32),.cx (some 34) [.t 30,.c (.int .i64 1),.t 33] Am,.un 35 .not (.t 34)] 36 (.c (.bool true)) (.t 35)] [1,3,4,36]) (.cond (.t 36) (.exit 1) .skip)) (.seq (.region [.mv 5 (.i 0)] [1,3,4,5]) (.block 2 [1,3] (.loop [1,3,4,5] Y3)))))) Y4))
def Y6:AG:=(.seq (.region [.mv 2 (.c (.bool true))] [2]) .ret)
def Dq:BE:=⟨[.val AO],[⟨2,false,.bool⟩],(.seq (.region [.box 1 (.t 0) false,.mv 2 (.c (.bool false))] [1]) (.seq (.seq (.region [.mv 3 (.i 0)] [1,3]) (.block 0 [] (.loop [1,3] Y5))) Y6))⟩
theorem xS:Au Tryz.prog 30 Dq=true:=by kernel_rfl
def Vy:AG:=(.seq (.seq (.region [.m 26 9,.m 27 8,.b 28 .lss 26 27] [0,4,5,6,8,9,28]) (.cond (.t 28) .skip (.exit 0))) (.seq (.block 1 [0,4,5,6,8,9] (.seq (.region [.m 31 0,.cl 32 [31,6] sI,.al 10 Ab,.store (.t 10) (.t 32) 6 false] [0,4,5,6,8,9,10]) (.seq (.region [.m 33 9,.ls 34 10 6,.cl 35 [6,33,34] jT] [0,4,5,6,8,9,10]) (.region [.f 36 5 1,.l 37 36,.ls 38 10 6,.blst 39 Ab [.t 38],.app 40 55 Ab (.t 37) (.t 39),.f 41 5 1,.store (.t 41) (.t 40) 1 false] [0,4,5,6,8,9])))) (.region [.m 29 9,.bin 30 .add (.t 29) (.i 1),.m 9 30] [0,4,5,6,8,9])))
def Vz:AG:=(.seq (.region [.ls 42 5 2,.store (.t 4) (.t 42) 2 false] [4]) .ret)
def En:BE:=⟨[.ptr BQ,.val (.slice (.int .u8))],[⟨4,true,gY⟩],(.seq (.region [.al 4 bz] [0,1,4]) (.seq (.region [.m 11 0,.cl 12 [11] pA,.build 13 [.nil,.nil] [(0,1,.t 12)],.al 5 bz,.store (.t 5) (.t 13) 2 false] [0,1,4,5]) (.seq (.region [.f 15 5 0,.l 16 15,.cl 17 [16] YU,.m 14 17,.ext 18 (.t 14) 0,.ext 19 (.t 14) 1,.al 6 AO,.store (.t 6) (.t 18) 4 false,.m 7 19] [0,1,4,5,6]) (.seq (.region [.m 20 1,.len 21 false (.t 20),.bin 22 .quo (.t 21) (.i 4),.bin 23 .add (.i 20) (.t 22),.m 8 23] [0,4,5,6,8]) (.seqc [0,4,5,6,8] (.seq (.region [.m 24 8,.bin 25 .gtr (.t 24) (.i 69)] [0,4,5,6,8,25]) (.cond (.t 25) (.region [.mv 8 (.i 69)] [0,4,5,6,8]) .skip)) (.seq (.seq (.region [.mv 9 (.i 0)] [0,4,5,6,8,9]) (.block 0 [4,5] (.loop [0,4,5,6,8,9] Vy))) Vz))))))⟩
theorem sM:Au Tryz.prog 32 En=true:=by kernel_rfl
def Y7:AG:=(.seq (.block 1 [0,3,4] (.region [.m 18 3,.bin 19 .mul (.t 18) (.i 131),.m 20 0,.m 21 4,.idx 22 1 (.t 20) (.t 21),.l 23 22,.cvi 24 .i64 (.t 23),.b 25 .add 19 24,.bin 26 .add (.t 25) (.i 7),.bin 27 .and (.t 26) (.i 1073741823),.m 3 27] [0,3,4])) (.region [.m 16 4,.bin 17 .add (.t 16) (.i 1),.m 4 17] [0,3,4]))
def Y8:AG:=(.seq (.seq (.region [.m 8 4,.m 9 0,.len 10 false (.t 9),.b 11 .lss 8 10,.m 12 11,.sc 12 true [.m 13 4,.bin 14 .lss (.t 13) (.i 4000)] 15 (.t 14) (.c (.bool false))] [0,3,4,15]) (.cond (.t 15) .skip (.exit 0))) Y7)
def Y9:AG:=(.seq (.region [.m 28 0,.m 29 3,.bu 30 BQ [(0,1,.t 28),(2,1,.t 29)],.box 31 (.t 30) false,.m 2 31] [2]) .ret)
def Ed:BE:=⟨[.val (.slice (.int .u8))],[⟨2,false,(.ref BQ)⟩],(.seq (.region [.mv 2 (.c (.undef))] [0]) (.seq (.region [.m 5 0,.len 6 false (.t 5),.bin 7 .add (.i 14301) (.t 6),.m 3 7] [0,3]) (.seq (.seq (.region [.mv 4 (.i 0)] [0,3,4]) (.block 0 [0,3] (.loop [0,3,4] Y8))) Y9)))⟩
theorem vA:Au Tryz.prog 33 Ed=true:=by kernel_rfl
def Ty:AG:=(.seq (.seq (.region [.m 15 5,.bin 16 .leq (.t 15) (.i 6)] [0,2,4,5,16]) (.cond (.t 16) .skip (.exit 0))) (.seq (.block 1 [0,2,4,5] (.seq (.region [.m 20 5,.m 21 0,.cl 22 [20,21] mZ,.m 19 22,.ext 23 (.t 19) 0,.ext 24 (.t 19) 1,.al 6 X,.store (.t 6) (.t 23) 16 false,.m 7 24] [0,2,4,5,6]) (.region [.f 25 4 1,.l 26 25,.ls 27 6 16,.blst 28 X [.t 27],.app 29 42 X (.t 26) (.t 28),.f 30 4 1,.store (.t 30) (.t 29) 1 false] [0,2,4,5]))) (.region [.m 17 5,.bin 18 .add (.t 17) (.i 1),.m 5 18] [0,2,4,5])))
def Tz:AG:=(.seq (.region [.ls 31 4 4,.store (.t 2) (.t 31) 4 false,.mv 3 (.c (.bool true))] [2,3]) .ret)
def D9:BE:=⟨[.val (.slice (.slice (.int .i64)))],[⟨2,true,Af⟩,⟨3,false,.bool⟩],(.seq (.region [.al 2 Af,.mv 3 (.c (.bool false))] [0,2]) (.seq (.seq (.region [.m 8 0,.cl 9 [8] Ha,.un 10 .not (.t 9)] [0,2,10]) (.cond (.t 10) (.seq (.region [.build 11 [.nil,.nil,.nil,.nil] [],.store (.t 2) (.t 11) 4 false,.mv 3 (.c (.bool false))] [2,3]) .ret) .skip)) (.seq (.region [.m 12 0,.cl 13 [12] Vo,.build 14 [.nil,.nil,.nil,.nil] [(0,1,.t 13)],.al 4 Af,.store (.t 4) (.t 14) 4 false] [0,2,4]) (.seq (.seq (.region [.mv 5 (.i 1)] [0,2,4,5]) (.block 0 [2,4] (.loop [0,2,4,5] Ty))) Tz))))⟩
theorem pJ:Au Tryz.prog 34 D9=true:=by kernel_rfl
def V0:AG:=(.seq (.seq (.region [.f 18 1 0,.l 19 18,.bin 20 .eql (.t 19) (.i 1)] [1,20]) (.cond (.t 20) (.seq (.region [.f 21 1 3,.l 22 21,.f 23 1 4,.l 24 23,.f 25 1 5,.l 26 25,.cx (some 27) [.t 22,.c (.int .i64 0),.t 24,.t 26] jU,.m 2 27] [2]) .ret) .skip)) (.seq (.region [.f 28 1 3,.l 29 28,.bin 30 .eql (.t 29) (.i 0),.m 31 30,.sc 31 true [.f 32 1 4,.l 33 32,.bin 34 .eql (.t 33) (.c (.str ⟨#[]⟩))] 35 (.t 34) (.c (.bool false)),.m 36 35,.sc 36 true [.f 37 1 5,.l 38 37,.bin 39 .eql (.t 38) (.c (.str ⟨#[]⟩))] 40 (.t 39) (.c (.bool false)),.m 2 40] [2]) .ret))
def Hd:BE:=⟨[.val Ab],[⟨2,false,.bool⟩],(.seq (.region [.box 1 (.t 0) false,.mv 2 (.c (.bool false))] [1]) (.seq (.seq (.region [.f 3 1 0,.l 4 3,.cx (some 5) [.t 4,.c (.int .i64 1),.c (.int .i64 6)] At,.un 6 .not (.t 5),.m 7 6,.sc 7 false [.f 8 1 1,.l 9 8,.cl 10 [9] HJ,.un 11 .not (.t 10)] 12 (.c (.bool true)) (.t 11),.m 13 12,.sc 13 false [.f 14 1 2,.l 15 14,.bin 16 .lss (.t 15) (.i 0)] 17 (.c (.bool true)) (.t 16)] [1,17]) (.cond (.t 17) (.seq (.region [.mv 2 (.c (.bool false))] [2]) .ret) .skip)) V0))⟩
theorem sN:Au Tryz.prog 35 Hd=true:=by kernel_rfl
def IN:BE:=⟨[.ptr Af,.val Ab,.val (.int .i64)],[⟨6,false,.bool⟩],(.seq (.region [.box 4 (.t 1) false,.mv 6 (.c (.bool false))] [0,2,4]) (.seq (.seq (.region [.f 8 4 0,.l 9 8] [0,2,4,9]) (.block 0 [0,2,4] (.seq (.region [.bin 11 .eql (.t 9) (.i 1),.m 10 11] [0,2,4,9,10]) (.cond (.t 10) (.seq (.region [.m 12 0,.ls 13 4 6,.m 14 2,.cl 15 [12,13,14] ga,.m 6 15] [6]) .ret) (.seq (.region [.bin 17 .eql (.t 9) (.i 5),.m 16 17] [0,2,4,9,16]) (.cond (.t 16) (.seq (.region [.m 18 0,.ls 19 4 6,.m 20 2,.cl 21 [18,19,20] gd,.m 6 21] [6]) .ret) (.seq (.region [.bin 23 .eql (.t 9) (.i 6),.m 22 23] [0,2,4,22]) (.cond (.t 22) (.seq (.region [.m 24 0,.f 25 4 1,.l 26 25,.cl 27 [24,26] HR,.m 7 27] [0,7]) (.seq (.draw (Ea 15 [(4,[]),(5,[]),(9,[]),(10,[8,9]),(13,[3,4,12])]) (.tk 12 [.ls 39 38 16,.idx 38 16 (.t 36) (.t 37),.m 37 7,.l 36 35,.f 35 34 1,.n 34 33,.m 33 0,.m 32 7,.l 31 30,.f 30 29 1,.n 29 28,.m 28 0] (.only 12 none (.cl 40 [39] yz) false [] (.tk 14 [.idx 41 16 (.t 31) (.t 32)] (.only 14 none (.store (.t 41) (.t 40) 16 false) false [] .done)))) []) (.seq (.region [.mv 6 (.c (.bool true))] [6]) .ret))) .skip)))))))) (.seq (.region [.m 42 0,.ls 43 4 6,.m 44 2,.cl 45 [42,43,44] b_,.m 6 45] [6]) .ret)))⟩
theorem gj:Au Tryz.prog 36 IN=true:=by kernel_rfl
def PH:BE:=⟨[.val .bool],[⟨2,false,(.int .i64)⟩],(.seq (.region [.mv 2 (.i 0)] [0]) (.seq (.seq (.region [.m 3 0] [3]) (.cond (.t 3) (.seq (.region [.mv 2 (.i 0)] [2]) .ret) .skip)) (.seq (.region [.mv 2 (.i 1)] [2]) .ret)))⟩
theorem vB:Au Tryz.prog 37 PH=true:=by kernel_rfl
def ST:AG:=(.seq (.region [.b 19 .lss 18 17] [1,2,3,16,17,18,19]) (.seq (.cond (.t 19) .skip (.exit 0)) (.seq (.block 1 [1,2,3,16,17,18] (.seq (.region [.idx 20 16 (.t 16) (.t 18),.ls 21 20 16,.al 5 X,.store (.t 5) (.t 21) 16 false] [1,2,3,5,16,17,18]) (.draw (Ea 8 [(2,[]),(5,[1,4])]) (.tk 3 [.ls 24 5 16,.l 23 22,.f 22 3 1] (.only 3 none (.cl 25 [24] Gu) false [] (.only 4 none (.blst 26 X [.t 25]) false [] (.only 5 none (.app 27 42 X (.t 23) (.t 26)) false [] (.tk 7 [.f 28 3 1] (.only 7 none (.store (.t 28) (.t 27) 1 false) false [] .done)))))) [1,2,3,16,17,18]))) (.region [.bin 29 .add (.t 18) (.i 1),.m 18 29] [1,2,3,16,17,18]))))
def Q4:AG:=(.seq (.region [.b 34 .lss 33 32] [2,3,31,32,33,34]) (.seq (.cond (.t 34) .skip (.exit 2)) (.seq (.block 3 [2,3,31,32,33] (.seq (.region [.idx 35 6 (.t 31) (.t 33),.ls 36 35 6,.al 7 AJ,.store (.t 7) (.t 36) 6 false] [2,3,7,31,32,33]) (.draw (Ea 8 [(2,[]),(5,[1,4])]) (.tk 3 [.ls 39 7 6,.l 38 37,.f 37 3 2] (.only 3 none (.cl 40 [39] SH) false [] (.only 4 none (.blst 41 AJ [.t 40]) false [] (.only 5 none (.app 42 97 AJ (.t 38) (.t 41)) false [] (.tk 7 [.f 43 3 2] (.only 7 none (.store (.t 43) (.t 42) 1 false) false [] .done)))))) [2,3,31,32,33]))) (.region [.bin 44 .add (.t 33) (.i 1),.m 33 44] [2,3,31,32,33]))))
def Q5:AG:=(.seq (.region [.ls 45 3 4,.store (.t 2) (.t 45) 4 false] [2]) .ret)
def Kb:AG:=(.seq (.seq (.region [.f 30 1 2,.l 31 30,.len 32 false (.t 31),.mv 33 (.i 0)] [2,3,31,32,33]) (.block 2 [2,3] (.loop [2,3,31,32,33] Q4))) Q5)
def BW:BE:=⟨[.val AO],[⟨2,true,Af⟩],(.seq (.region [.box 1 (.t 0) true,.al 2 Af] [1,2]) (.seq (.draw (Ea 9 [(3,[]),(5,[2,4]),(7,[]),(8,[6,7])]) (.tk 2 [.l 9 8,.f 8 1 0] (.tk 5 [.l 12 11,.f 11 1 3] (.only 2 none (.cl 10 [9] Vo) false [(7,.al 3 Af)] (.only 5 none (.cl 13 [12] Le) false [(7,.al 3 Af)] (.tk 7 [.build 14 [.nil,.nil,.nil,.nil] [(0,1,.t 10),(3,1,.t 13)]] (.only 7 none (.al 3 Af) true [] (.only 8 none (.store (.t 3) (.t 14) 4 false) false [] .done))))))) [1,2,3]) (.seq (.seq (.region [.f 15 1 1,.l 16 15,.len 17 false (.t 16),.mv 18 (.i 0)] [1,2,3,16,17,18]) (.block 0 [1,2,3] (.loop [1,2,3,16,17,18] ST))) Kb)))⟩
theorem mf:Au Tryz.prog 38 BW=true:=by kernel_rfl
def T0:AG:=(.seq (.seq (.region [.m 15 5,.bin 16 .leq (.t 15) (.i 6)] [0,2,4,5,16]) (.cond (.t 16) .skip (.exit 0))) (.seq (.block 1 [0,2,4,5] (.seq (.region [.m 20 5,.m 21 0,.cl 22 [20,21] ma,.m 19 22,.ext 23 (.t 19) 0,.ext 24 (.t 19) 1,.al 6 X,.store (.t 6) (.t 23) 16 false,.m 7 24] [0,2,4,5,6]) (.region [.f 25 4 1,.l 26 25,.ls 27 6 16,.blst 28 X [.t 27],.app 29 42 X (.t 26) (.t 28),.f 30 4 1,.store (.t 30) (.t 29) 1 false] [0,2,4,5]))) (.region [.m 17 5,.bin 18 .add (.t 17) (.i 1),.m 5 18] [0,2,4,5])))
def T1:AG:=(.seq (.region [.ls 31 4 4,.store (.t 2) (.t 31) 4 false,.mv 3 (.c (.bool true))] [2,3]) .ret)
def D_:BE:=⟨[.val (.slice (.slice (.int .i64)))],[⟨2,true,AO⟩,⟨3,false,.bool⟩],(.seq (.region [.al 2 Gt,.mv 3 (.c (.bool false))] [0,2]) (.seq (.seq (.region [.m 8 0,.cl 9 [8] Jd,.un 10 .not (.t 9)] [0,2,10]) (.cond (.t 10) (.seq (.region [.build 11 [.nil,.nil,.nil,.nil] [],.store (.t 2) (.t 11) 4 false,.mv 3 (.c (.bool false))] [2,3]) .ret) .skip)) (.seq (.region [.m 12 0,.cl 13 [12] Qv,.build 14 [.nil,.nil,.nil,.nil] [(0,1,.t 13)],.al 4 Gt,.store (.t 4) (.t 14) 4 false] [0,2,4]) (.seq (.seq (.region [.mv 5 (.i 1)] [0,2,4,5]) (.block 0 [2,4] (.loop [0,2,4,5] T0))) T1))))⟩
theorem pK:Au Tryz.prog 39 D_=true:=by kernel_rfl
def V5:AG:=(.seq (.seq (.region [.f 18 1 0,.l 19 18,.bin 20 .neq (.t 19) (.i 1)] [1,20]) (.cond (.t 20) (.seq (.region [.f 21 1 3,.l 22 21,.bin 23 .eql (.t 22) (.i 0),.m 24 23,.sc 24 true [.f 25 1 4,.l 26 25,.bin 27 .eql (.t 26) (.c (.str ⟨#[]⟩))] 28 (.t 27) (.c (.bool false)),.m 29 28,.sc 29 true [.f 30 1 5,.l 31 30,.bin 32 .eql (.t 31) (.c (.str ⟨#[]⟩))] 33 (.t 32) (.c (.bool false)),.m 2 33] [2]) .ret) .skip)) (.seq (.region [.f 34 1 3,.l 35 34,.bin 36 .eql (.t 35) (.i 1),.m 37 36,.sc 37 false [.f 38 1 3,.l 39 38,.bin 40 .eql (.t 39) (.i 2)] 41 (.c (.bool true)) (.t 40),.m 42 41,.sc 42 true [.f 43 1 4,.l 44 43,.len 45 true (.t 44),.cx (some 46) [.t 45,.c (.int .i64 1),.c (.int .i64 12)] Am] 47 (.t 46) (.c (.bool false)),.m 48 47,.sc 48 true [.f 49 1 5,.l 50 49,.len 51 true (.t 50),.bin 52 .leq (.t 51) (.i 20)] 53 (.t 52) (.c (.bool false)),.m 54 53,.sc 54 true [.f 55 1 3,.l 56 55,.bin 57 .eql (.t 56) (.i 1),.m 58 57,.sc 58 false [.f 59 1 5,.l 60 59,.bin 61 .eql (.t 60) (.c (.str ⟨#[]⟩))] 62 (.c (.bool true)) (.t 61)] 63 (.t 62) (.c (.bool false)),.m 2 63] [2]) .ret))
def He:BE:=⟨[.val Ab],[⟨2,false,.bool⟩],(.seq (.region [.box 1 (.t 0) false,.mv 2 (.c (.bool false))] [1]) (.seq (.seq (.region [.f 3 1 0,.l 4 3,.cx (some 5) [.t 4,.c (.int .i64 1),.c (.int .i64 6)] Am,.un 6 .not (.t 5),.m 7 6,.sc 7 false [.f 8 1 1,.l 9 8,.cx (some 10) [.t 9,.c (.int .i64 1),.c (.int .i64 6)] Am,.un 11 .not (.t 10)] 12 (.c (.bool true)) (.t 11),.m 13 12,.sc 13 false [.f 14 1 2,.l 15 14,.bin 16 .lss (.t 15) (.i 0)] 17 (.c (.bool true)) (.t 16)] [1,17]) (.cond (.t 17) (.seq (.region [.mv 2 (.c (.bool false))] [2]) .ret) .skip)) V5))⟩
theorem sO:Au Tryz.prog 40 He=true:=by kernel_rfl

def Rr:BE:=⟨[.ptr AO,.val (.int .i64),.val Ab],[⟨6,false,(.int .i64)⟩],(.seq (.region [.box 5 (.t 2) false,.mv 6 (.i 0)] [0,1,5]) (.seq (.seq (.region [.f 7 5 0,.l 8 7] [0,1,5,8]) (.block 0 [0,1,5] (.seq (.region [.bin 10 .eql (.t 8) (.i 1),.m 9 10] [0,1,5,8,9]) (.cond (.t 9) (.seq (.region [.m 11 0,.m 12 1,.ls 13 5 6,.cl 14 [11,12,13] pB,.m 6 14] [6]) .ret) (.seq (.region [.bin 16 .eql (.t 8) (.i 5),.m 15 16] [0,1,5,8,15]) (.cond (.t 15) (.seq (.region [.m 17 0,.m 18 1,.f 19 5 1,.l 20 19,.cl 21 [17,18,20] pC,.m 6 21] [6]) .ret) (.seq (.region [.bin 23 .eql (.t 8) (.i 6),.m 22 23] [0,1,5,22]) (.cond (.t 22) (.seq (.draw (Ea 15 [(1,[]),(5,[]),(8,[4,7]),(11,[]),(12,[]),(13,[]),(14,[0,10,11,12,13])]) (.tk 10 [.ls 33 32 16,.idx 32 16 (.t 28) (.t 31),.bin 31 .sub (.t 30) (.i 1),.l 30 29,.f 29 5 1,.l 28 27,.f 27 26 1,.n 26 25,.m 25 0,.m 24 0] (.tk 14 [.m 37 1] (.only 10 none (.cl 34 [33] y_) false [(11,.brow 35 97 AJ []),(12,.brow 36 126 BC [])] (.only 11 none (.brow 35 97 AJ []) true [(12,.brow 36 126 BC [])] (.only 12 none (.brow 36 126 BC []) true [] (.only 14 none (.cl 38 [24,34,35,36,37] J8) false [] .done)))))) []) (.seq (.region [.mv 6 (.i 0)] [6]) .ret)) .skip)))))))) (.seq (.region [.m 39 0,.m 40 1,.ls 41 5 6,.cl 42 [39,40,41] ux,.m 6 42] [6]) .ret)))⟩
theorem xT:Au Tryz.prog 41 Rr=true:=by kernel_rfl
def V6:AG:=(.seq (.seq (.region [.m 16 4,.f 17 1 1,.l 18 17,.len 19 false (.t 18),.b 20 .lss 16 19] [1,2,3,4,20]) (.cond (.t 20) .skip (.exit 0))) (.seq (.block 1 [1,2,3,4] (.draw (Ea 12 [(2,[]),(4,[]),(5,[3,4]),(9,[1,8])]) (.tk 7 [.ls 29 28 16,.idx 28 16 (.t 26) (.t 27),.m 27 4,.l 26 25,.f 25 1 1,.l 24 23,.f 23 3 1] (.only 7 none (.cl 30 [29] Hc) false [] (.only 8 none (.blst 31 X [.t 30]) false [] (.only 9 none (.app 32 42 X (.t 24) (.t 31)) false [] (.tk 11 [.f 33 3 1] (.only 11 none (.store (.t 33) (.t 32) 1 false) false [] .done)))))) [1,2,3,4])) (.region [.m 21 4,.bin 22 .add (.t 21) (.i 1),.m 4 22] [1,2,3,4])))
def V7:AG:=(.seq (.region [.ls 34 3 4,.store (.t 2) (.t 34) 4 false] [2]) .ret)
def Eo:BE:=⟨[.val AO],[⟨2,true,AO⟩],(.seq (.region [.box 1 (.t 0) true,.al 2 Gt] [1,2]) (.seq (.draw (Ea 13 [(3,[]),(5,[2,4]),(6,[]),(7,[]),(9,[5,6,8]),(11,[]),(12,[10,11])]) (.tk 2 [.l 6 5,.f 5 1 0] (.tk 5 [.l 9 8,.f 8 1 2] (.tk 9 [.l 13 12,.f 12 1 3] (.only 2 none (.cl 7 [6] Qv) false [(6,.brow 11 47 AI []),(11,.al 3 Gt)] (.only 5 none (.cl 10 [9] ge) false [(6,.brow 11 47 AI []),(11,.al 3 Gt)] (.only 6 none (.brow 11 47 AI []) true [(11,.al 3 Gt)] (.only 9 none (.app 14 47 AI (.t 11) (.t 13)) false [(11,.al 3 Gt)] (.tk 11 [.build 15 [.nil,.nil,.nil,.nil] [(0,1,.t 7),(2,1,.t 10),(3,1,.t 14)]] (.only 11 none (.al 3 Gt) true [] (.only 12 none (.store (.t 3) (.t 15) 4 false) false [] .done)))))))))) [1,2,3]) (.seq (.seq (.region [.mv 4 (.i 0)] [1,2,3,4]) (.block 0 [2,3] (.loop [1,2,3,4] V6))) V7)))⟩
theorem sP:Au Tryz.prog 42 Eo=true:=by kernel_rfl
def PI:BE:=⟨[.val (.int .i64)],[⟨2,false,.bool⟩],(.seq (.region [.mv 2 (.c (.bool false))] [0]) (.seq (.region [.m 3 0,.cx (some 4) [.t 3,.c (.int .i64 1),.c (.int .i64 6)] At,.m 2 4] [2]) .ret))⟩
theorem vC:Au Tryz.prog 43 PI=true:=by kernel_rfl
def M5:BE:=⟨[.val (.int .i64),.val (.int .i64),.val (.int .i64)],[⟨6,false,.bool⟩],(.seq (.region [.mv 6 (.c (.bool false))] [0,1,2]) (.seq (.region [.m 7 0,.m 8 1,.b 9 .geq 7 8,.m 10 9,.sc 10 true [.m 11 0,.m 12 2,.b 13 .leq 11 12] 14 (.t 13) (.c (.bool false)),.m 6 14] [6]) .ret))⟩
theorem sQ:Au Tryz.prog 44 M5=true:=by kernel_rfl
def Pc:AG:=(.seq (.region [.b 12 .lss 11 10] [0,1,2,9,10,11,12]) (.seq (.cond (.t 12) .skip (.exit 0)) (.seq (.block 1 [0,1,2,9,10,11] (.seq (.region [.m 13 11,.idx 14 1 (.t 9) (.t 11),.l 15 14,.m 7 13,.m 8 15] [0,1,2,7,8,9,10,11]) (.seq (.region [.m 16 8,.m 17 1,.m 18 2,.cl 19 [16,17,18] At,.un 20 .not (.t 19),.m 21 20,.sc 21 false [.m 22 7,.bin 23 .gtr (.t 22) (.i 0),.m 24 23,.sc 24 true [.m 25 8,.m 26 0,.m 27 7,.bin 28 .sub (.t 27) (.i 1),.idx 29 1 (.t 26) (.t 28),.l 30 29,.b 31 .leq 25 30] 32 (.t 31) (.c (.bool false))] 33 (.c (.bool true)) (.t 32)] [0,1,2,9,10,11,33]) (.cond (.t 33) (.seq (.region [.mv 6 (.c (.bool false))] [6]) .ret) .skip)))) (.region [.bin 34 .add (.t 11) (.i 1),.m 11 34] [0,1,2,9,10,11]))))
def Pd:AG:=(.seq (.region [.mv 6 (.c (.bool true))] [6]) .ret)
def Co:BE:=⟨[.val (.slice (.int .i64)),.val (.int .i64),.val (.int .i64)],[⟨6,false,.bool⟩],(.seq (.region [.mv 6 (.c (.bool false))] [0,1,2]) (.seq (.seq (.region [.m 9 0,.len 10 false (.t 9),.mv 11 (.i 0)] [0,1,2,9,10,11]) (.block 0 [] (.loop [0,1,2,9,10,11] Pc))) Pd))⟩
theorem gm:Au Tryz.prog 45 Co=true:=by kernel_rfl
def T2:DT:=(.sk 28 false 3 20 32 (.sk 31 true 9 29 41 (.sk 28 false 1 30 42 (.tk 31 [.pick 42 (.t 28) (.c (.bool true)) (.t 41)] .done))))
def T3:DT:=(.sk 22 false 4 15 27 (.tk 17 [.m 28 27,.pick 27 (.t 22) (.c (.bool true)) (.t 26)] T2))
def T4:DT:=(.tg 28 false 30 [.pick 41 (.t 31) (.t 40) (.c (.bool false))] (.tk 31 [.pick 42 (.t 28) (.c (.bool true)) (.t 41)] .done))
def T5:AG:=(.seq (.region [.b 8 .lss 7 6] [0,5,6,7,8]) (.seq (.cond (.t 8) .skip (.exit 0)) (.seq (.block 1 [0,5,6,7] (.seq (.region [.m 9 7,.idx 10 3 (.t 5) (.t 7),.ls 11 10 3,.al 4 AF,.m 3 9,.store (.t 4) (.t 11) 3 false] [0,3,4,5,6,7]) (.seq (.draw (Ea 31 [(22,[19]),(23,[19]),(25,[22,24]),(28,[21,27])]) (.tk 2 [.l 13 12,.f 12 4 0] (.only 2 none (.cl 14 [13] jV) false [] (.tk 5 [.m 16 15,.un 15 .not (.t 14)] (.test 16 (.sk 16 false 4 9 21 (.tk 11 [.m 22 21,.pick 21 (.t 16) (.c (.bool true)) (.t 20)] T3)) (.tg 16 false 9 [.bin 20 .gtr (.t 19) (.i 20),.len 19 true (.t 18),.l 18 17,.f 17 4 1] (.tk 11 [.m 22 21,.pick 21 (.t 16) (.c (.bool true)) (.t 20)] (.test 22 T3 (.tg 22 false 13 [.l 24 23,.f 23 4 2] (.only 13 (some (22,false)) (.cx (some 25) [.t 24,.c (.int .i64 1),.c (.int .i64 1000000000)] At) false [] (.tg 22 false 15 [.un 26 .not (.t 25)] (.tk 17 [.m 28 27,.pick 27 (.t 22) (.c (.bool true)) (.t 26)] (.test 28 T2 (.tg 28 false 20 [.m 31 30,.bin 30 .gtr (.t 29) (.i 0),.m 29 3] (.test 31 (.tg 31 true 29 [.b 40 .leq 33 39,.l 39 38,.f 38 37 0,.idx 37 3 (.t 34) (.t 36),.bin 36 .sub (.t 35) (.i 1),.m 35 3,.m 34 0,.l 33 32,.f 32 4 0] T4) (.sk 31 true 9 29 41 T4))))))))))))))) [0,5,6,7,42]) (.cond (.t 42) (.seq (.region [.mv 2 (.c (.bool false))] [2]) .ret) .skip)))) (.region [.bin 43 .add (.t 7) (.i 1),.m 7 43] [0,5,6,7]))))
def T6:AG:=(.seq (.region [.m 44 0,.len 45 false (.t 44),.bin 46 .leq (.t 45) (.i 12),.m 2 46] [2]) .ret)
def Ep:BE:=⟨[.val (.slice AF)],[⟨2,false,.bool⟩],(.seq (.region [.mv 2 (.c (.bool false))] [0]) (.seq (.seq (.region [.m 5 0,.len 6 false (.t 5),.mv 7 (.i 0)] [0,5,6,7]) (.block 0 [0] (.loop [0,5,6,7] T5))) T6))⟩
theorem sR:Au Tryz.prog 46 Ep=true:=by kernel_rfl
def Gw:BE:=⟨[.ptr X],[⟨2,false,.bool⟩],(.seq (.region [.mv 2 (.c (.bool false))] [0]) (.seq (.region [.m 4 0,.n 5 4,.f 6 5 9,.ls 7 6 7,.al 3 Mw,.store (.t 3) (.t 7) 7 false] [0,3]) (.seq (.seq (.region [.f 8 3 0,.l 9 8,.bin 10 .eql (.t 9) (.i 0)] [0,3,10]) (.cond (.t 10) (.seq (.region [.f 11 3 1,.l 12 11,.bin 13 .eql (.t 12) (.i 0),.m 14 13,.sc 14 true [.f 15 3 2,.l 16 15,.bin 17 .eql (.t 16) (.i 0)] 18 (.t 17) (.c (.bool false)),.m 19 18,.sc 19 true [.f 20 3 3,.ls 21 20 3,.bu 22 AF [],.eqs 23 false AF (.t 21) (.t 22)] 24 (.t 23) (.c (.bool false)),.m 25 24,.sc 25 true [.f 26 3 6,.l 27 26,.len 28 false (.t 27),.bin 29 .eql (.t 28) (.i 0)] 30 (.t 29) (.c (.bool false)),.m 2 30] [2]) .ret) .skip)) (.seq (.region [.f 31 3 0,.l 32 31,.cx (some 33) [.t 32,.c (.int .i64 1),.c (.int .i64 2)] At,.m 34 33,.sc 34 true [.m 35 0,.n 36 35,.f 37 36 5,.l 38 37] 39 (.t 38) (.c (.bool false)),.m 40 39,.sc 40 true [.f 41 3 1,.l 42 41,.cx (some 43) [.t 42,.c (.int .i64 0),.c (.int .i64 1000)] At] 44 (.t 43) (.c (.bool false)),.m 45 44,.sc 45 true [.f 46 3 2,.l 47 46,.cx (some 48) [.t 47,.c (.int .i64 1),.c (.int .i64 900)] At] 49 (.t 48) (.c (.bool false)),.m 50 49,.sc 50 true [.f 51 3 6,.l 52 51,.cx (some 53) [.t 52,.c (.int .i64 1),.c (.int .i64 6)] SG] 54 (.t 53) (.c (.bool false)),.m 2 54] [2]) .ret))))⟩
theorem cR:Au Tryz.prog 47 Gw=true:=by kernel_rfl
def PJ:BE:=⟨[.val AI],[⟨2,false,.bool⟩],(.seq (.region [.box 1 (.t 0) false,.mv 2 (.c (.bool false))] [1]) (.seq (.region [.f 3 1 4,.l 4 3,.bin 5 .geq (.t 4) (.i 0),.m 2 5] [2]) .ret))⟩
theorem vD:Au Tryz.prog 48 PJ=true:=by kernel_rfl
def Rs:BE:=⟨[.val AI],[⟨2,false,(.int .i64)⟩],(.seq (.region [.box 1 (.t 0) false,.mv 2 (.i 0)] [1]) (.seq (.seq (.region [.f 3 1 6,.l 4 3,.cx (some 5) [.t 4,.c (.int .i64 0),.c (.int .i64 9)] Am,.un 6 .not (.t 5),.m 7 6,.sc 7 false [.f 8 1 7,.l 9 8,.cx (some 10) [.t 9,.c (.int .i64 0),.c (.int .i64 999)] Am,.un 11 .not (.t 10)] 12 (.c (.bool true)) (.t 11)] [1,12]) (.cond (.t 12) (.seq (.region [.mv 2 (.i 0)] [2]) .ret) .skip)) (.seq (.region [.f 13 1 6,.l 14 13,.bin 15 .mul (.i 1000) (.t 14),.f 16 1 7,.l 17 16,.b 18 .add 15 17,.m 2 18] [2]) .ret)))⟩
theorem xU:Au Tryz.prog 49 Rs=true:=by kernel_rfl
def M6:AG:=(.seq (.region [.b 13 .lss 12 11] [0,10,11,12,13]) (.seq (.cond (.t 13) .skip (.exit 0)) (.seq (.block 1 [0,10,11,12] (.seq (.region [.m 14 12,.idx 15 16 (.t 10) (.t 12),.ls 16 15 16,.al 4 X,.m 3 14,.store (.t 4) (.t 16) 16 false] [0,3,4,10,11,12]) (.seq (.region [.f 17 4 0,.l 18 17,.m 19 3,.bin 20 .add (.t 19) (.i 1),.b 21 .neq 18 20] [0,10,11,12,21]) (.cond (.t 21) (.seq (.region [.mv 2 (.c (.bool false))] [2]) .ret) .skip)))) (.region [.bin 22 .add (.t 12) (.i 1),.m 12 22] [0,10,11,12]))))
def MK:AG:=(.seq (.region [.b 29 .lss 28 27] [0,26,27,28,29]) (.seq (.cond (.t 29) .skip (.exit 2)) (.seq (.block 3 [0,26,27,28] (.seq (.region [.idx 30 6 (.t 26) (.t 28),.ls 31 30 6,.al 6 AJ,.store (.t 6) (.t 31) 6 false] [0,6,26,27,28]) (.seq (.region [.f 32 6 2,.l 33 32,.cl 34 [33] HJ,.un 35 .not (.t 34)] [0,26,27,28,35]) (.cond (.t 35) (.seq (.region [.mv 2 (.c (.bool false))] [2]) .ret) .skip)))) (.region [.bin 36 .add (.t 28) (.i 1),.m 28 36] [0,26,27,28]))))
def Hf:AG:=(.seq (.region [.m 37 0,.n 38 37,.f 39 38 1,.l 40 39,.len 41 false (.t 40),.bin 42 .eql (.t 41) (.i 6),.m 43 42,.sc 43 true [.m 44 0,.n 45 44,.f 46 45 0,.l 47 46,.cl 48 [47] Ha] 49 (.t 48) (.c (.bool false)),.m 2 49] [2]) .ret)
def Hg:AG:=(.seq (.seq (.region [.m 23 0,.n 24 23,.f 25 24 2,.l 26 25,.len 27 false (.t 26),.mv 28 (.i 0)] [0,26,27,28]) (.block 2 [0] (.loop [0,26,27,28] MK))) Hf)
def Al:BE:=⟨[.ptr AO],[⟨2,false,.bool⟩],(.seq (.region [.mv 2 (.c (.bool false))] [0]) (.seq (.seq (.region [.m 7 0,.n 8 7,.f 9 8 1,.l 10 9,.len 11 false (.t 10),.mv 12 (.i 0)] [0,10,11,12]) (.block 0 [0] (.loop [0,10,11,12] M6))) Hg))⟩
theorem cS:Au Tryz.prog 50 Al=true:=by kernel_rfl
def Gx:BE:=⟨[.ptr Af,.val (.int .i64),.val (.int .i64)],[],(.seq (.region [.m 11 0,.n 12 11,.f 13 12 2,.l 14 13,.m 15 1,.idx 16 6 (.t 14) (.t 15),.ls 17 16 6,.al 6 AJ,.store (.t 6) (.t 17) 6 false] [0,1,2,6]) (.seq (.region [.m 18 0,.m 19 0,.n 20 19,.f 21 20 2,.l 22 21,.m 23 1,.m 24 1,.bin 25 .add (.t 24) (.i 1),.cl 26 [22,23,25] Gc,.n 27 18,.f 28 27 2,.store (.t 28) (.t 26) 1 false] [0,2,6]) (.seq (.region [.m 29 0,.f 30 6 2,.l 31 30,.cl 32 [29,31] HR,.m 7 32] [0,2,6,7]) (.seq (.region [.m 33 7,.bin 34 .geq (.t 33) (.i 0)] [0,2,6,7,34]) (.cond (.t 34) (.seq (.draw (Ea 21 [(4,[]),(5,[3,4]),(7,[]),(11,[]),(12,[6,10,11]),(15,[13]),(16,[13]),(17,[]),(18,[14,17]),(19,[15,18]),(20,[16,19])]) (.tk 12 [.ls 47 6 6,.l 46 45,.f 45 44 0,.n 44 43,.m 43 0,.ls 42 41 16,.idx 41 16 (.t 39) (.t 40),.m 40 7,.l 39 38,.f 38 37 1,.n 37 36,.m 36 0] (.only 12 none (.cl 48 [42,46,47] sJ) false [(17,.al 8 X)] (.tk 17 [.ext 51 (.t 35) 2,.ext 50 (.t 35) 1,.ext 49 (.t 35) 0,.m 35 48] (.only 17 none (.al 8 X) true [] (.only 18 none (.store (.t 8) (.t 49) 16 false) false [] (.tk 21 [.m 10 51,.m 9 50] .done)))))) [0,2,7,8,9,10]) (.seq (.draw (Ea 8 [(4,[]),(5,[]),(6,[3,4,5])]) (.tk 7 [.idx 58 16 (.t 55) (.t 56),.ls 57 8 16,.m 56 7,.l 55 54,.f 54 53 1,.n 53 52,.m 52 0] (.only 7 none (.store (.t 58) (.t 57) 16 false) false [] .done)) [0,2,9,10]) (.region [.m 59 0,.m 60 9,.m 61 10,.m 62 2,.cl 63 [59,60,61,62] My] []))) .skip)))))⟩
theorem cU:Au Tryz.prog 51 Gx=true:=by kernel_rfl
def Rt:BE:=⟨[.val (.slice AI),.val AI],[⟨4,false,.bool⟩],(.seq (.region [.fbox 3 (.t 1),.mv 4 (.c (.bool false))] [0,3]) (.seq (.region [.m 5 0,.clo 6 92 AI (.t 3),.cl 7 [5,6] Il,.m 4 7] [4]) .ret))⟩
theorem xV:Au Tryz.prog 52 Rt=true:=by kernel_rfl
def PL:BE:=⟨[.val AI,.val AI],[⟨4,false,.bool⟩],(.seq (.region [.box 2 (.t 0) false,.box 3 (.t 1) false,.mv 4 (.c (.bool false))] [2,3]) (.seq (.region [.f 5 3 0,.l 6 5,.bin 7 .eql (.t 6) (.i 1),.m 8 7,.sc 8 true [.f 9 3 1,.l 10 9,.f 11 2 1,.l 12 11,.b 13 .eql 10 12] 14 (.t 13) (.c (.bool false)),.m 15 14,.sc 15 true [.f 16 3 2,.l 17 16,.f 18 2 8,.l 19 18,.b 20 .eql 17 19] 21 (.t 20) (.c (.bool false)),.m 22 21,.sc 22 true [.f 23 3 4,.l 24 23,.bin 25 .lss (.t 24) (.i 0),.m 26 25,.sc 26 false [.f 27 3 5,.l 28 27,.f 29 2 5,.l 30 29,.b 31 .eql 28 30] 32 (.c (.bool true)) (.t 31)] 33 (.t 32) (.c (.bool false)),.m 4 33] [4]) .ret))⟩
theorem vE:Au Tryz.prog 53 PL=true:=by kernel_rfl
def JD:BE:=⟨[.ptr AO,.val (.int .i64)],[⟨4,false,(.slice (.int .i64))⟩],(.seq (.region [.mv 4 (.c (.nil))] [0,1]) (.seq (.seq (.region [.m 5 1,.m 6 0,.n 7 6,.f 8 7 0,.l 9 8,.len 10 false (.t 9),.cx (some 11) [.t 5,.c (.int .i64 1),.t 10] At,.un 12 .not (.t 11)] [0,1,12]) (.cond (.t 12) (.seq (.region [.mv 4 (.c (.nil))] [4]) .ret) .skip)) (.seq (.region [.m 13 0,.n 14 13,.f 15 14 0,.l 16 15,.m 17 1,.bin 18 .sub (.t 17) (.i 1),.idx 19 1 (.t 16) (.t 18),.l 20 19,.m 4 20] [4]) .ret)))⟩
theorem jZ:Au Tryz.prog 55 JD=true:=by kernel_rfl
def Ru:BE:=⟨[.val (.int .i64),.val (.int .i64),.val (.int .i64)],[⟨6,false,.bool⟩],(.seq (.region [.mv 6 (.c (.bool false))] [0,1,2]) (.seq (.region [.m 7 0,.m 8 1,.b 9 .geq 7 8,.m 10 9,.sc 10 true [.m 11 0,.m 12 2,.b 13 .leq 11 12] 14 (.t 13) (.c (.bool false)),.m 6 14] [6]) .ret))⟩
theorem xW:Au Tryz.prog 56 Ru=true:=by kernel_rfl
def EG:BE:=⟨[.val (.slice (.int .i64)),.val (.int .i64)],[⟨4,false,.bool⟩],(.seq (.region [.mv 4 (.c (.bool false))] [0,1]) (.seq (.region [.m 5 0,.m 6 1,.cl 7 [5,6] Mz,.bin 8 .geq (.t 7) (.i 0),.m 4 8] [4]) .ret))⟩
theorem Tb:Au Tryz.prog 57 EG=true:=by kernel_rfl
def FR:AG:=(.seq (.region [.b 14 .lss 13 12] [0,1,12,13,14]) (.seq (.cond (.t 14) .skip (.exit 0)) (.seq (.block 1 [0,1,12,13] (.seq (.region [.m 15 13,.m 5 15] [0,1,5,12,13]) (.seq (.draw (Ea 9 [(1,[]),(2,[0,1]),(4,[]),(5,[]),(6,[4,5]),(8,[3,7])]) (.tk 9 [.eqs 24 true AF (.t 19) (.t 23),.ls 23 22 3,.idx 22 3 (.t 20) (.t 21),.m 21 5,.m 20 1,.ls 19 18 3,.idx 18 3 (.t 16) (.t 17),.m 17 5,.m 16 0] .done) [0,1,12,13,24]) (.cond (.t 24) (.seq (.region [.mv 4 (.c (.bool false))] [4]) .ret) .skip)))) (.region [.bin 25 .add (.t 13) (.i 1),.m 13 25] [0,1,12,13]))))
def FS:AG:=(.seq (.region [.mv 4 (.c (.bool true))] [4]) .ret)
def An:BE:=⟨[.val (.slice AF),.val (.slice AF)],[⟨4,false,.bool⟩],(.seq (.region [.mv 4 (.c (.bool false))] [0,1]) (.seq (.seq (.region [.m 6 0,.len 7 false (.t 6),.m 8 1,.len 9 false (.t 8),.b 10 .neq 7 9] [0,1,10]) (.cond (.t 10) (.seq (.region [.mv 4 (.c (.bool false))] [4]) .ret) .skip)) (.seq (.seq (.region [.m 11 0,.len 12 false (.t 11),.mv 13 (.i 0)] [0,1,12,13]) (.block 0 [] (.loop [0,1,12,13] FR))) FS)))⟩
theorem Li:Au Tryz.prog 58 An=true:=by kernel_rfl
def cV:AG:=(.seq (.seq (.region [.m 6 5,.m 7 0,.len 8 false (.t 7),.b 9 .lss 6 8] [0,1,5,9]) (.cond (.t 9) .skip (.exit 0))) (.seq (.block 1 [0,1,5] (.seq (.region [.m 12 0,.m 13 5,.idx 14 1 (.t 12) (.t 13),.l 15 14,.m 16 1,.b 17 .eql 15 16] [0,1,5,17]) (.cond (.t 17) (.seq (.region [.mv 4 (.c (.bool true))] [4]) .ret) .skip))) (.region [.m 10 5,.bin 11 .add (.t 10) (.i 1),.m 5 11] [0,1,5])))
def cW:AG:=(.seq (.region [.mv 4 (.c (.bool false))] [4]) .ret)
def Gy:BE:=⟨[.val (.slice (.int .i64)),.val (.int .i64)],[⟨4,false,.bool⟩],(.seq (.region [.mv 4 (.c (.bool false))] [0,1]) (.seq (.seq (.region [.mv 5 (.i 0)] [0,1,5]) (.block 0 [] (.loop [0,1,5] cV))) cW))⟩
theorem xX:Au Tryz.prog 59 Gy=true:=by kernel_rfl
def OA:AG:=(.seq (.seq (.region [.m 11 5,.m 12 0,.len 13 false (.t 12),.b 14 .lss 11 13] [0,1,5,14]) (.cond (.t 14) .skip (.exit 0))) (.seq (.block 1 [0,1,5] (.seq (.draw (Ea 9 [(1,[]),(2,[0,1]),(4,[]),(5,[]),(6,[4,5]),(8,[3,7])]) (.tk 9 [.eqs 25 true AF (.t 20) (.t 24),.ls 24 23 3,.idx 23 3 (.t 21) (.t 22),.m 22 5,.m 21 1,.ls 20 19 3,.idx 19 3 (.t 17) (.t 18),.m 18 5,.m 17 0] .done) [0,1,5,25]) (.cond (.t 25) (.seq (.region [.mv 4 (.c (.bool false))] [4]) .ret) .skip))) (.region [.m 15 5,.bin 16 .add (.t 15) (.i 1),.m 5 16] [0,1,5])))
def OB:AG:=(.seq (.region [.mv 4 (.c (.bool true))] [4]) .ret)
def Cd:BE:=⟨[.val (.slice AF),.val (.slice AF)],[⟨4,false,.bool⟩],(.seq (.region [.mv 4 (.c (.bool false))] [0,1]) (.seq (.seq (.region [.m 6 0,.len 7 false (.t 6),.m 8 1,.len 9 false (.t 8),.b 10 .neq 7 9] [0,1,10]) (.cond (.t 10) (.seq (.region [.mv 4 (.c (.bool false))] [4]) .ret) .skip)) (.seq (.seq (.region [.mv 5 (.i 0)] [0,1,5]) (.block 0 [] (.loop [0,1,5] OA))) OB)))⟩
theorem fG:Au Tryz.prog 60 Cd=true:=by kernel_rfl
def M7:BE:=⟨[.ptr BQ],[⟨2,false,(.int .i64)⟩],(.seq (.region [.mv 2 (.i 0)] [0]) (.seq (.region [.m 4 0,.m 5 0,.n 6 5,.f 7 6 2,.l 8 7,.bin 9 .mul (.t 8) (.i 6364136223846793005),.bin 10 .add (.t 9) (.i 1442695040888963407),.n 11 4,.f 12 11 2,.store (.t 12) (.t 10) 1 false] [0]) (.seq (.draw (Ea 13 [(5,[]),(10,[4,9])]) (.tk 13 [.m 3 24,.bin 24 .and (.t 23) (.i 255),.b 23 .xor 17 22,.bin 22 .shr (.t 21) (.c (.int .u64 45)),.l 21 20,.f 20 19 2,.n 19 18,.m 18 0,.bin 17 .shr (.t 16) (.c (.int .u64 33)),.l 16 15,.f 15 14 2,.n 14 13,.m 13 0] .done) [0,3]) (.seqc [3] (.seq (.draw (Ea 10 [(4,[]),(9,[3,8])]) (.tk 10 [.b 34 .lss 28 33,.len 33 false (.t 32),.l 32 31,.f 31 30 0,.n 30 29,.m 29 0,.l 28 27,.f 27 26 1,.n 26 25,.m 25 0] .done) [0,3,34]) (.cond (.t 34) (.seq (.draw (Ea 15 [(1,[]),(5,[]),(9,[4,8]),(12,[0,11])]) (.tk 15 [.m 3 48,.bin 48 .and (.t 47) (.i 255),.b 47 .add 35 46,.cvi 46 .i64 (.t 45),.l 45 44,.idx 44 1 (.t 39) (.t 43),.l 43 42,.f 42 41 1,.n 41 40,.m 40 0,.l 39 38,.f 38 37 0,.n 37 36,.m 36 0,.m 35 3] .done) [0,3]) (.region [.m 49 0,.m 50 0,.n 51 50,.f 52 51 1,.l 53 52,.bin 54 .add (.t 53) (.i 1),.n 55 49,.f 56 55 1,.store (.t 56) (.t 54) 1 false] [3])) .skip)) (.seq (.region [.m 57 3,.m 2 57] [2]) .ret)))))⟩
theorem sS:Au Tryz.prog 61 M7=true:=by kernel_rfl
def LJ:BE:=⟨[.ptr BQ,.val (.int .i64)],[⟨4,false,(.int .i64)⟩],(.seq (.region [.mv 4 (.i 0)] [0,1]) (.seq (.seq (.region [.m 9 1,.bin 10 .leq (.t 9) (.i 0)] [0,1,10]) (.cond (.t 10) (.seq (.region [.mv 4 (.i 0)] [4]) .ret) .skip)) (.seq (.seq (.region [.m 11 1,.bin 12 .leq (.t 11) (.i 256)] [0,1,12]) (.cond (.t 12) (.seq (.region [.m 13 0,.cl 14 [13] Jc,.m 15 1,.b 16 .rem 14 15,.m 4 16] [4]) .ret) .skip)) (.seq (.region [.m 17 0,.cl 18 [17] Jc,.m 5 18] [0,1,5]) (.seq (.region [.m 19 0,.cl 20 [19] Jc,.m 6 20] [0,1,5,6]) (.seq (.region [.m 21 0,.cl 22 [21] Jc,.m 7 22] [0,1,5,6,7]) (.seq (.region [.m 23 0,.cl 24 [23] Jc,.m 8 24] [1,5,6,7,8]) (.seq (.region [.m 25 5,.bin 26 .mul (.t 25) (.i 16777216),.m 27 6,.bin 28 .mul (.t 27) (.i 65536),.b 29 .add 26 28,.m 30 7,.bin 31 .mul (.t 30) (.i 256),.b 32 .add 29 31,.m 33 8,.b 34 .add 32 33,.m 35 1,.b 36 .rem 34 35,.m 4 36] [4]) .ret))))))))⟩
theorem pL:Au Tryz.prog 62 LJ=true:=by kernel_rfl
def T7:AG:=(.seq (.seq (.region [.m 17 6,.m 18 0,.cx (some 19) [.t 18,.c (.int .i64 3)] D7,.bin 20 .add (.i 1) (.t 19),.b 21 .lss 17 20] [0,3,4,5,6,21]) (.cond (.t 21) .skip (.exit 2))) (.seq (.block 3 [0,3,4,5,6] (.seq (.region [.m 24 0,.cx (some 25) [.t 24,.c (.int .i64 4)] D7,.bin 26 .add (.i 1) (.t 25),.m 7 26] [0,3,4,5,6,7]) (.seq (.region [.m 27 5,.m 28 7,.cl 29 [27,28] Fg,.un 30 .not (.t 29)] [0,3,4,5,6,7,30]) (.cond (.t 30) (.region [.m 31 5,.m 32 7,.blst 33 (.int .i64) [.t 32],.app 34 3 (.int .i64) (.t 31) (.t 33),.m 5 34] [0,3,4,5,6]) .skip)))) (.region [.m 22 6,.bin 23 .add (.t 22) (.i 1),.m 6 23] [0,3,4,5,6])))
def T8:AG:=(.region [.m 35 3,.m 36 5,.blst 37 (.slice (.int .i64)) [.t 36],.app 38 33 (.slice (.int .i64)) (.t 35) (.t 37),.m 3 38] [0,3,4])
def SU:AG:=(.region [.m 14 4,.bin 15 .add (.t 14) (.i 1),.m 4 15] [0,3,4])
def SV:AG:=(.seq (.seq (.region [.m 9 4,.m 10 0,.cx (some 11) [.t 10,.c (.int .i64 5)] D7,.bin 12 .add (.i 1) (.t 11),.b 13 .lss 9 12] [0,3,4,13]) (.cond (.t 13) .skip (.exit 0))) (.seq (.block 1 [0,3,4] (.seq (.region [.brow 16 3 (.int .i64) [],.m 5 16] [0,3,4,5]) (.seq (.seq (.region [.mv 6 (.i 0)] [0,3,4,5,6]) (.block 2 [0,3,4,5] (.loop [0,3,4,5,6] T7))) T8))) SU))
def SW:AG:=(.seq (.region [.m 39 3,.m 2 39] [2]) .ret)
def CA:BE:=⟨[.ptr BQ],[⟨2,false,(.slice (.slice (.int .i64)))⟩],(.seq (.region [.mv 2 (.c (.nil))] [0]) (.seq (.region [.brow 8 33 (.slice (.int .i64)) [],.m 3 8] [0,3]) (.seq (.seq (.region [.mv 4 (.i 0)] [0,3,4]) (.block 0 [3] (.loop [0,3,4] SV))) SW)))⟩
theorem pM:Au Tryz.prog 63 CA=true:=by kernel_rfl
def V8:AG:=(.seq (.seq (.region [.m 66 6,.m 67 1,.n 68 67,.f 69 68 1,.l 70 69,.len 71 false (.t 70),.b 72 .lss 66 71] [0,1,4,5,6,72]) (.cond (.t 72) .skip (.exit 1))) (.seq (.block 2 [0,1,4,5,6] (.seq (.region [.m 75 1,.n 76 75,.f 77 76 1,.l 78 77,.m 79 6,.idx 80 16 (.t 78) (.t 79),.f 81 80 5,.l 82 81,.m 83 82,.sc 83 true [.m 84 0,.cx (some 85) [.t 84,.c (.int .i64 4)] M0,.un 86 .not (.t 85)] 87 (.t 86) (.c (.bool false))] [0,1,4,5,6,87]) (.cond (.t 87) (.region [.m 88 6,.bin 89 .add (.t 88) (.i 1),.f 90 5 1,.store (.t 90) (.t 89) 1 false] [0,1,4,5,6]) .skip))) (.region [.m 73 6,.bin 74 .add (.t 73) (.i 1),.m 6 74] [0,1,4,5,6])))
def T9:DT:=(.sk 132 true 3 27 136 (.tk 28 [.pick 136 (.t 132) (.t 135) (.c (.bool false))] .done))
def T_:AG:=(.seq (.seq (.region [.m 93 7,.m 94 1,.n 95 94,.f 96 95 1,.l 97 96,.len 98 false (.t 97),.b 99 .lss 93 98] [0,1,4,5,7,99]) (.cond (.t 99) .skip (.exit 3))) (.seq (.block 4 [0,1,4,5,7] (.seq (.region [.m 102 1,.n 103 102,.f 104 103 1,.l 105 104,.m 106 7,.idx 107 16 (.t 105) (.t 106),.ls 108 107 16,.al 8 X,.store (.t 8) (.t 108) 16 false] [0,1,4,5,7,8]) (.seq (.draw (Ea 28 [(2,[]),(7,[1,6]),(13,[8]),(15,[12,14]),(19,[8]),(21,[18,20])]) (.tk 9 [.m 117 116,.b 116 .lss 110 115,.len 115 false (.t 114),.l 114 113,.f 113 112 0,.n 112 111,.m 111 1,.l 110 109,.f 109 8 1] (.test 117 (.tg 117 true 22 [.b 130 .eql 127 129,.l 129 128,.f 128 8 0,.l 127 126,.idx 126 1 (.t 125) (.i 0),.l 125 124,.idx 124 1 (.t 121) (.t 123),.l 123 122,.f 122 8 1,.l 121 120,.f 120 119 0,.n 119 118,.m 118 1] (.tk 24 [.m 132 131,.pick 131 (.t 117) (.t 130) (.c (.bool false))] (.test 132 (.tg 132 true 25 [.m 133 0] (.only 25 (some (132,true)) (.cx (some 134) [.t 133,.c (.int .i64 3)] M0) false [] (.tg 132 true 27 [.un 135 .not (.t 134)] (.tk 28 [.pick 136 (.t 132) (.t 135) (.c (.bool false))] .done)))) T9))) (.sk 117 true 13 22 131 (.tk 24 [.m 132 131,.pick 131 (.t 117) (.t 130) (.c (.bool false))] T9)))) [0,1,4,5,7,8,136]) (.cond (.t 136) (.region [.f 137 8 0,.l 138 137,.f 139 5 1,.store (.t 139) (.t 138) 1 false] [0,1,4,5,7]) .skip)))) (.region [.m 100 7,.bin 101 .add (.t 100) (.i 1),.m 7 101] [0,1,4,5,7])))
def UA:AG:=(.seq (.region [.ls 140 5 6,.store (.t 4) (.t 140) 6 false] [4]) .ret)
def UB:AG:=(.seq (.seq (.region [.f 47 5 0,.l 48 47] [0,1,4,5,48]) (.block 0 [4,5] (.seq (.region [.bin 50 .eql (.t 48) (.i 1),.m 49 50] [0,1,4,5,48,49]) (.cond (.t 49) (.seq (.region [.m 51 0,.brow 52 3 (.int .i64) [.c (.int .i64 1),.c (.int .i64 1),.c (.int .i64 2)],.cl 53 [51,52] Tp,.f 54 5 3,.store (.t 54) (.t 53) 1 false] [0,1,4,5]) (.seq (.region [.m 55 0,.brow 56 9 .str [.c (.str ⟨#[97]⟩),.c (.str ⟨#[98]⟩),.c (.str ⟨#[99]⟩)],.cl 57 [55,56] cA,.f 58 5 4,.store (.t 58) (.t 57) 1 false] [0,1,4,5]) (.seqc [0,1,4,5] (.seq (.region [.f 59 5 3,.l 60 59,.bin 61 .eql (.t 60) (.i 1)] [0,1,4,5,61]) (.cond (.t 61) (.region [.m 62 0,.brow 63 9 .str [.c (.str ⟨#[118]⟩),.c (.str ⟨#[119]⟩),.c (.str ⟨#[120]⟩),.c (.str ⟨#[121]⟩)],.cl 64 [62,63] cA,.f 65 5 5,.store (.t 65) (.t 64) 1 false] [0,1,4,5]) .skip)) (.seq (.region [.mv 6 (.i 0)] [0,1,4,5,6]) (.block 1 [4,5] (.loop [0,1,4,5,6] V8)))))) (.seq (.region [.bin 92 .eql (.t 48) (.i 5),.m 91 92] [0,1,4,5,91]) (.cond (.t 91) (.seq (.region [.mv 7 (.i 0)] [0,1,4,5,7]) (.block 3 [4,5] (.loop [0,1,4,5,7] T_))) .skip)))))) UA)
def UC:AG:=(.seqc [0,1,4,5] (.seq (.region [.f 39 5 0,.l 40 39,.bin 41 .eql (.t 40) (.i 2),.m 42 41,.sc 42 true [.m 43 0,.cx (some 44) [.t 43,.c (.int .i64 2)] M0] 45 (.t 44) (.c (.bool false))] [0,1,4,5,45]) (.cond (.t 45) (.region [.f 46 5 2,.store (.t 46) (.i 0) 1 false] [0,1,4,5]) .skip)) UB)
def UD:AG:=(.seqc [0,1,4,5] (.seq (.region [.m 18 1,.n 19 18,.f 20 19 2,.l 21 20,.len 22 false (.t 21),.bin 23 .eql (.t 22) (.i 0),.m 24 23,.sc 24 true [.f 25 5 0,.l 26 25,.cx (some 27) [.t 26,.c (.int .i64 2),.c (.int .i64 4)] Am] 28 (.t 27) (.c (.bool false))] [0,1,4,5,28]) (.cond (.t 28) (.region [.f 29 5 0,.store (.t 29) (.i 1) 1 false] [0,1,4,5]) .skip)) (.seqc [0,1,4,5] (.seq (.region [.f 30 5 0,.l 31 30,.bin 32 .eql (.t 31) (.i 6),.m 33 32,.sc 33 true [.m 34 0,.cx (some 35) [.t 34,.c (.int .i64 4)] M0,.un 36 .not (.t 35)] 37 (.t 36) (.c (.bool false))] [0,1,4,5,37]) (.cond (.t 37) (.region [.f 38 5 0,.store (.t 38) (.i 1) 1 false] [0,1,4,5]) .skip)) UC))
def Ba:BE:=⟨[.ptr BQ,.ptr AO],[⟨4,true,Ab⟩],(.seq (.region [.al 4 Ab] [0,1,4]) (.seq (.region [.m 9 0,.blst 10 (.int .i64) [.c (.int .i64 1),.c (.int .i64 1),.c (.int .i64 1),.c (.int .i64 2),.c (.int .i64 2),.c (.int .i64 2),.c (.int .i64 2),.c (.int .i64 2),.c (.int .i64 2),.c (.int .i64 2),.c (.int .i64 2),.c (.int .i64 3),.c (.int .i64 4),.c (.int .i64 5),.c (.int .i64 6)],.cl 11 [9,10] Tp,.m 12 0,.cx (some 13) [.t 12,.c (.int .i64 4)] D7,.bin 14 .add (.i 1) (.t 13),.m 15 0,.cx (some 16) [.t 15,.c (.int .i64 20)] D7,.bu 17 Ab [(0,1,.t 11),(1,1,.t 14),(2,1,.t 16)],.al 5 Ab,.store (.t 5) (.t 17) 6 false] [0,1,4,5]) UD))⟩
theorem sU:Au Tryz.prog 64 Ba=true:=by kernel_rfl
def V9:AG:=(.seq (.region [.b 16 .lss 15 14] [0,4,7,8,9,13,14,15,16]) (.seq (.cond (.t 16) .skip (.exit 2)) (.seq (.block 3 [0,4,7,8,9,13,14,15] (.seq (.region [.m 17 15,.idx 18 1 (.t 13) (.t 15),.l 19 18,.m 5 17,.m 6 19] [0,4,5,6,7,8,9,13,14,15]) (.seq (.region [.m 20 6,.cl 21 [20] HJ,.un 22 .not (.t 21),.m 23 22,.sc 23 false [.m 24 4,.m 25 6,.cl 26 [24,25] Mz,.m 27 5,.b 28 .neq 26 27] 29 (.c (.bool true)) (.t 28)] [0,4,7,8,9,13,14,15,29]) (.cond (.t 29) (.seq (.region [.mv 2 (.c (.bool false))] [2]) .ret) .skip)))) (.region [.bin 30 .add (.t 15) (.i 1),.m 15 30] [0,4,7,8,9,13,14,15]))))
def Od:AG:=(.seq (.region [.m 31 4,.len 32 false (.t 31),.cx (some 33) [.t 32,.c (.int .i64 1),.c (.int .i64 4)] At,.un 34 .not (.t 33)] [0,7,8,9,34]) (.cond (.t 34) (.seq (.region [.mv 2 (.c (.bool false))] [2]) .ret) .skip))
def UE:AG:=(.region [.bin 35 .add (.t 9) (.i 1),.m 9 35] [0,7,8,9])
def UF:AG:=(.seq (.region [.b 10 .lss 9 8] [0,7,8,9,10]) (.seq (.cond (.t 10) .skip (.exit 0)) (.seq (.block 1 [0,7,8,9] (.seq (.region [.idx 11 1 (.t 7) (.t 9),.l 12 11,.m 4 12] [0,4,7,8,9]) (.seq (.seq (.region [.m 13 4,.len 14 false (.t 13),.mv 15 (.i 0)] [0,4,7,8,9,13,14,15]) (.block 2 [0,4,7,8,9] (.loop [0,4,7,8,9,13,14,15] V9))) Od))) UE)))
def UG:AG:=(.seq (.region [.m 36 0,.len 37 false (.t 36),.cx (some 38) [.t 37,.c (.int .i64 1),.c (.int .i64 9)] At,.m 2 38] [2]) .ret)
def CD:BE:=⟨[.val (.slice (.slice (.int .i64)))],[⟨2,false,.bool⟩],(.seq (.region [.mv 2 (.c (.bool false))] [0]) (.seq (.seq (.region [.m 7 0,.len 8 false (.t 7),.mv 9 (.i 0)] [0,7,8,9]) (.block 0 [0] (.loop [0,7,8,9] UF))) UG))⟩
theorem sV:Au Tryz.prog 65 CD=true:=by kernel_rfl
def SX:AG:=(.seq (.region [.b 9 .lss 8 7] [3,6,7,8,9]) (.seq (.cond (.t 9) .skip (.exit 0)) (.seq (.block 1 [3,6,7,8] (.seq (.region [.idx 10 1 (.t 6) (.t 8),.l 11 10,.m 5 11] [3,5,6,7,8]) (.region [.m 12 3,.m 13 5,.cl 14 [13] Cz,.blst 15 (.slice (.int .i64)) [.t 14],.app 16 33 (.slice (.int .i64)) (.t 12) (.t 15),.m 3 16] [3,6,7,8]))) (.region [.bin 17 .add (.t 8) (.i 1),.m 8 17] [3,6,7,8]))))
def SY:AG:=(.seq (.region [.m 18 3,.m 2 18] [2]) .ret)
def DY:BE:=⟨[.val (.slice (.slice (.int .i64)))],[⟨2,false,(.slice (.slice (.int .i64)))⟩],(.seq (.region [.mv 2 (.c (.nil))] [0]) (.seq (.region [.nilrow 3 33 (.slice (.int .i64))] [0,3]) (.seq (.seq (.region [.m 6 0,.len 7 false (.t 6),.mv 8 (.i 0)] [3,6,7,8]) (.block 0 [3] (.loop [3,6,7,8] SX))) SY)))⟩
theorem mg:Au Tryz.prog 66 DY=true:=by kernel_rfl
def SZ:AG:=(.seq (.region [.m 16 1,.idx 17 1 (.t 16) (.i 0),.l 18 17,.idx 19 1 (.t 18) (.i 0),.l 20 19,.m 21 0,.b 22 .eql 20 21,.m 6 22] [0,1,4,6]) (.seq (.region [.m 23 0,.m 24 1,.idx 25 1 (.t 24) (.i 0),.l 26 25,.m 27 0,.cl 28 [26,27] EF,.m 29 6,.m 30 6,.bu 31 X [(0,1,.t 23),(1,1,.c (.int .i64 1)),(3,1,.t 28),(4,1,.t 29),(5,1,.t 30)],.store (.t 4) (.t 31) 16 false,.mv 5 (.c (.bool true))] [4,5]) .ret))
def F9:BE:=⟨[.val (.int .i64),.val (.slice (.slice (.int .i64)))],[⟨4,true,X⟩,⟨5,false,.bool⟩],(.seq (.region [.al 4 X,.mv 5 (.c (.bool false))] [0,1,4]) (.seq (.seq (.region [.m 7 0,.cl 8 [7] HJ,.un 9 .not (.t 8),.m 10 9,.sc 10 false [.m 11 1,.cl 12 [11] Ha,.un 13 .not (.t 12)] 14 (.c (.bool true)) (.t 13)] [0,1,4,14]) (.cond (.t 14) (.seq (.region [.bu 15 X [],.store (.t 4) (.t 15) 16 false,.mv 5 (.c (.bool false))] [4,5]) .ret) .skip)) SZ))⟩
theorem mh:Au Tryz.prog 67 F9=true:=by kernel_rfl
def cX:AG:=(.seq (.region [.m 27 0,.bin 28 .eql (.t 27) (.i 1),.m 29 28,.sc 29 false [.m 30 3,.bin 31 .eql (.t 30) (.c (.str ⟨#[]⟩))] 32 (.c (.bool true)) (.t 31),.m 8 32] [8]) .ret)
def J_:BE:=⟨[.val (.int .i64),.val (.int .i64),.val .str,.val .str],[⟨8,false,.bool⟩],(.seq (.region [.mv 8 (.c (.bool false))] [0,1,2,3]) (.seq (.seq (.region [.m 9 0,.cx (some 10) [.t 9,.c (.int .i64 1),.c (.int .i64 2)] At,.un 11 .not (.t 10),.m 12 11,.sc 12 false [.m 13 1,.cx (some 14) [.t 13,.c (.int .i64 0),.c (.int .i64 1000)] At,.un 15 .not (.t 14)] 16 (.c (.bool true)) (.t 15),.m 17 16,.sc 17 false [.m 18 2,.cl 19 [18] jV,.un 20 .not (.t 19)] 21 (.c (.bool true)) (.t 20),.m 22 21,.sc 22 false [.m 23 3,.len 24 true (.t 23),.bin 25 .gtr (.t 24) (.i 20)] 26 (.c (.bool true)) (.t 25)] [0,3,26]) (.cond (.t 26) (.seq (.region [.mv 8 (.c (.bool false))] [8]) .ret) .skip)) cX))⟩
theorem xY:Au Tryz.prog 68 J_=true:=by kernel_rfl
def IP:BE:=⟨[.ptr Af,.val Ab,.val (.int .i64)],[⟨6,false,.bool⟩],(.seq (.region [.box 4 (.t 1) false,.mv 6 (.c (.bool false))] [0,2,4]) (.seq (.region [.m 13 0,.n 14 13,.f 15 14 3,.l 16 15,.len 17 false (.t 16),.m 7 17] [0,2,4,7]) (.seq (.draw (Ea 18 [(1,[]),(5,[]),(7,[]),(9,[]),(11,[]),(12,[6,8,10,11]),(14,[4,13]),(15,[0,14])]) (.tk 13 [.bu 30 AI [(0,1,.t 24),(1,1,.t 26),(2,1,.t 28),(3,1,.t 29),(4,1,.c (.int .i64 (-1)))],.m 29 2,.l 28 27,.f 27 4 5,.l 26 25,.f 25 4 4,.l 24 23,.f 23 4 3,.l 22 21,.f 21 20 3,.n 20 19,.m 19 0,.m 18 0] (.only 13 none (.blst 31 AI [.t 30]) false [] (.only 14 none (.app 32 47 AI (.t 22) (.t 31)) false [] (.tk 17 [.f 34 33 3,.n 33 18] (.only 17 none (.store (.t 34) (.t 32) 1 false) false [] .done))))) [0,2,4,7]) (.seq (.region [.m 35 0,.f 36 4 1,.l 37 36,.cl 38 [35,37] HR,.m 8 38] [0,2,4,7,8]) (.seq (.draw (Ea 29 [(4,[]),(5,[3,4]),(7,[]),(11,[]),(13,[]),(14,[]),(16,[]),(18,[6,10,12,13,15,17]),(21,[19]),(22,[19]),(23,[19]),(24,[]),(25,[20,24]),(26,[21,25]),(27,[22,26]),(28,[23,27])]) (.tk 18 [.l 57 56,.f 56 4 5,.l 55 54,.f 54 4 4,.m 53 7,.l 52 51,.f 51 4 3,.l 50 49,.f 49 48 0,.n 48 47,.m 47 0,.ls 46 45 16,.idx 45 16 (.t 43) (.t 44),.m 44 8,.l 43 42,.f 42 41 1,.n 41 40,.m 40 0] (.only 18 none (.cl 58 [46,50,52,53,55,57] xD) false [(24,.al 9 X)] (.tk 24 [.ext 62 (.t 39) 3,.ext 61 (.t 39) 2,.ext 60 (.t 39) 1,.ext 59 (.t 39) 0,.m 39 58] (.only 24 none (.al 9 X) true [] (.only 25 none (.store (.t 9) (.t 59) 16 false) false [] (.tk 29 [.m 12 62,.m 11 61,.m 10 60] .done)))))) [0,2,8,9,10,11,12]) (.seq (.seq (.region [.m 63 12,.un 64 .not (.t 63)] [0,2,8,9,10,11,64]) (.cond (.t 64) (.seq (.region [.mv 6 (.c (.bool false))] [6]) .ret) .skip)) (.seq (.draw (Ea 8 [(4,[]),(5,[]),(6,[3,4,5])]) (.tk 7 [.idx 71 16 (.t 68) (.t 69),.ls 70 9 16,.m 69 8,.l 68 67,.f 67 66 1,.n 66 65,.m 65 0] (.only 7 none (.store (.t 71) (.t 70) 16 false) false [] .done)) [0,2,10,11]) (.seq (.region [.m 72 0,.m 73 10,.m 74 11,.m 75 2,.cl 76 [72,73,74,75] My] []) (.seq (.region [.mv 6 (.c (.bool true))] [6]) .ret)))))))))⟩
theorem gp:Au Tryz.prog 69 IP=true:=by kernel_rfl
def Pe:AG:=(.seq (.seq (.region [.m 25 8,.m 26 0,.n 27 26,.f 28 27 0,.l 29 28,.len 30 false (.t 29),.b 31 .leq 25 30] [0,2,4,7,8,31]) (.cond (.t 31) .skip (.exit 0))) (.seq (.block 1 [0,2,4,7,8] (.seq (.seq (.draw (Ea 13 [(4,[]),(6,[3,5]),(10,[]),(12,[9,11])]) (.tk 13 [.b 46 .neq 43 45,.l 45 44,.f 44 4 1,.l 43 42,.idx 42 1 (.t 41) (.i 0),.l 41 40,.idx 40 1 (.t 37) (.t 39),.bin 39 .sub (.t 38) (.i 1),.m 38 8,.l 37 36,.f 36 35 0,.n 35 34,.m 34 0] .done) [0,2,4,7,8,46]) (.cond (.t 46) (.exit 1) .skip)) (.seq (.draw (Ea 21 [(4,[]),(5,[3,4]),(7,[]),(11,[]),(12,[6,10,11]),(15,[13]),(16,[13]),(17,[]),(18,[14,17]),(19,[15,18]),(20,[16,19])]) (.tk 12 [.m 59 8,.l 58 57,.f 57 56 0,.n 56 55,.m 55 0,.ls 54 53 16,.idx 53 16 (.t 51) (.t 52),.m 52 7,.l 51 50,.f 50 49 1,.n 49 48,.m 48 0] (.only 12 none (.cl 60 [54,58,59] xE) false [(17,.al 9 X)] (.tk 17 [.ext 63 (.t 47) 2,.ext 62 (.t 47) 1,.ext 61 (.t 47) 0,.m 47 60] (.only 17 none (.al 9 X) true [] (.only 18 none (.store (.t 9) (.t 61) 16 false) false [] (.tk 21 [.m 11 63,.m 10 62] .done)))))) [0,2,7,9,10,11]) (.seqc [11] (.seq (.region [.m 64 11] [0,2,7,9,10,11,64]) (.cond (.t 64) (.seq (.draw (Ea 8 [(4,[]),(5,[]),(6,[3,4,5])]) (.tk 7 [.idx 71 16 (.t 68) (.t 69),.ls 70 9 16,.m 69 7,.l 68 67,.f 67 66 1,.n 66 65,.m 65 0] (.only 7 none (.store (.t 71) (.t 70) 16 false) false [] .done)) [0,2,10,11]) (.region [.m 72 0,.m 73 10,.m 74 2,.cx (some 75) [.t 72,.t 73,.c (.nil),.t 74] My] [11])) .skip)) (.seq (.region [.m 76 11,.m 6 76] [6]) .ret))))) (.region [.m 32 8,.bin 33 .add (.t 32) (.i 1),.m 8 33] [0,2,4,7,8])))
def OC:AG:=(.seq (.region [.mv 6 (.c (.bool false))] [6]) .ret)
def Cp:BE:=⟨[.ptr Af,.val Ab,.val (.int .i64)],[⟨6,false,.bool⟩],(.seq (.region [.box 4 (.t 1) false,.mv 6 (.c (.bool false))] [0,2,4]) (.seq (.region [.m 12 0,.f 13 4 1,.l 14 13,.cl 15 [12,14] HR,.m 7 15] [0,2,4,7]) (.seq (.seq (.region [.m 16 0,.n 17 16,.f 18 17 1,.l 19 18,.m 20 7,.idx 21 16 (.t 19) (.t 20),.f 22 21 1,.l 23 22,.bin 24 .add (.t 23) (.i 1),.m 8 24] [0,2,4,7,8]) (.block 0 [] (.loop [0,2,4,7,8] Pe))) OC)))⟩
theorem gq:Au Tryz.prog 70 Cp=true:=by kernel_rfl
def HS:BE:=⟨[.ptr Af,.val (.int .i64)],[⟨4,false,(.int .i64)⟩],(.seq (.region [.fbox 3 (.t 1),.mv 4 (.i 0)] [0,3]) (.seq (.region [.m 5 0,.n 6 5,.f 7 6 1,.l 8 7,.clo 9 103 (.int .i64) (.t 3),.cl 10 [8,9] IM,.m 4 10] [4]) .ret))⟩
theorem fH:Au Tryz.prog 71 HS=true:=by kernel_rfl
def UH:BE:=⟨[.val X],[⟨2,true,J7⟩],(.seq (.region [.box 1 (.t 0) true,.al 2 J7] [1,2]) (.seq (.region [.f 3 1 0,.l 4 3,.f 5 1 1,.l 6 5,.bnew 7 [.int .i64 0,.int .i64 0,.bool false,.bool false,.bool false,.bool false,.new 3 (.int .i64) [],.new 38 AF [],.int .i64 0,.int .i64 0,.int .i64 0,.int .i64 0,.str O,.str O,.int .i64 0,.new 3 (.int .i64) []] [(0,1,.t 4),(1,1,.t 6),(2,1,.c (.bool true))],.store (.t 2) (.t 7) 16 false] [2]) .ret))⟩
theorem zB:Au Tryz.prog 72 UH=true:=by kernel_rfl
def Gz:BE:=⟨[.ptr Af,.val Ab,.val (.int .i64)],[⟨6,false,.bool⟩],(.seq (.region [.box 4 (.t 1) false,.mv 6 (.c (.bool false))] [0,2,4]) (.seq (.seq (.region [.m 8 0,.n 9 8,.f 10 9 2,.l 11 10,.len 12 false (.t 11),.bin 13 .eql (.t 12) (.i 0)] [0,2,4,13]) (.cond (.t 13) (.seq (.region [.mv 6 (.c (.bool false))] [6]) .ret) .skip)) (.seq (.draw (Ea 9 [(2,[]),(7,[1,6])]) (.tk 9 [.m 7 21,.b 21 .rem 15 20,.len 20 false (.t 19),.l 19 18,.f 18 17 2,.n 17 16,.m 16 0,.l 15 14,.f 14 4 2] .done) [0,2,4,7]) (.seq (.seq (.region [.f 22 4 0,.l 23 22] [0,2,7,23]) (.block 0 [] (.seq (.region [.bin 25 .eql (.t 23) (.i 2),.m 24 25] [0,2,7,23,24]) (.cond (.t 24) (.region [.m 26 0,.m 27 7,.m 28 2,.cl 29 [26,27,28] PZ] []) (.seq (.region [.bin 31 .eql (.t 23) (.i 3),.m 30 31] [0,7,23,30]) (.cond (.t 30) (.region [.m 32 0,.m 33 0,.n 34 33,.f 35 34 2,.l 36 35,.m 37 7,.m 38 7,.bin 39 .add (.t 38) (.i 1),.cl 40 [36,37,39] Gc,.n 41 32,.f 42 41 2,.store (.t 42) (.t 40) 1 false] []) (.seq (.region [.bin 44 .eql (.t 23) (.i 4),.m 43 44] [0,7,43]) (.cond (.t 43) (.draw (Ea 18 [(1,[]),(5,[]),(9,[]),(10,[8,9]),(14,[4,13]),(15,[0,14])]) (.tk 12 [.ls 56 55 6,.idx 55 6 (.t 53) (.t 54),.m 54 7,.l 53 52,.f 52 51 2,.n 51 50,.m 50 0,.l 49 48,.f 48 47 2,.n 47 46,.m 46 0,.m 45 0] (.only 12 none (.cl 57 [56] SH) false [] (.only 13 none (.blst 58 AJ [.t 57]) false [] (.only 14 none (.app 59 97 AJ (.t 49) (.t 58)) false [] (.tk 17 [.f 61 60 2,.n 60 45] (.only 17 none (.store (.t 61) (.t 59) 1 false) false [] .done)))))) []) .skip)))))))) (.seq (.region [.mv 6 (.c (.bool true))] [6]) .ret)))))⟩
theorem cY:Au Tryz.prog 73 Gz=true:=by kernel_rfl
def JE:BE:=⟨[.val X],[⟨2,true,X⟩],(.seq (.region [.box 1 (.t 0) false,.al 2 X] [1,2]) (.seq (.draw (Ea 17 [(3,[]),(5,[2,4]),(6,[]),(9,[5,8]),(10,[2,4,8]),(11,[9,10])]) (.tk 2 [.l 4 3,.f 3 1 6] (.tk 5 [.l 7 6,.f 6 1 7] (.tk 9 [.l 11 10,.f 10 9 6,.f 9 1 9] (.only 2 none (.cl 5 [4] Cz) false [] (.tk 11 [.f 13 1 6] (.only 5 none (.cl 8 [7] BJ) false [] (.only 9 none (.cl 12 [11] Cz) false [] (.only 11 none (.store (.t 13) (.t 5) 1 false) false [] (.tk 13 [.f 14 1 7] (.only 13 none (.store (.t 14) (.t 8) 1 false) false [] (.tk 16 [.f 16 15 6,.f 15 1 9] (.only 16 none (.store (.t 16) (.t 12) 1 false) false [] .done)))))))))))) [1,2]) (.seq (.region [.ls 17 1 16,.store (.t 2) (.t 17) 16 false] [2]) .ret)))⟩
theorem ja:Au Tryz.prog 75 JE=true:=by kernel_rfl
def M8:BE:=⟨[.val AJ],[⟨2,true,AJ⟩],(.seq (.region [.box 1 (.t 0) false,.al 2 AJ] [1,2]) (.seq (.region [.f 3 1 5,.l 4 3,.cl 5 [4] BJ,.f 6 1 5,.store (.t 6) (.t 5) 1 false] [1,2]) (.seq (.region [.ls 7 1 6,.store (.t 2) (.t 7) 6 false] [2]) .ret)))⟩
theorem sW:Au Tryz.prog 76 M8=true:=by kernel_rfl
def V_:AG:=(.seq (.seq (.region [.m 4 3,.m 5 0,.len 6 false (.t 5),.b 7 .lss 4 6] [0,3,7]) (.cond (.t 7) .skip (.exit 0))) (.seq (.block 1 [0,3] (.seq (.region [.m 10 0,.m 11 3,.idx 12 1 (.t 10) (.t 11),.l 13 12,.cl 14 [13] sK,.un 15 .not (.t 14)] [0,3,15]) (.cond (.t 15) (.seq (.region [.mv 2 (.c (.bool false))] [2]) .ret) .skip))) (.region [.m 8 3,.bin 9 .add (.t 8) (.i 1),.m 3 9] [0,3])))
def WA:AG:=(.seq (.region [.m 16 0,.len 17 false (.t 16),.cx (some 18) [.t 17,.c (.int .i64 1),.c (.int .i64 9)] Am,.m 2 18] [2]) .ret)
def Er:BE:=⟨[.val (.slice (.slice (.int .i64)))],[⟨2,false,.bool⟩],(.seq (.region [.mv 2 (.c (.bool false))] [0]) (.seq (.seq (.region [.mv 3 (.i 0)] [0,3]) (.block 0 [0] (.loop [0,3] V_))) WA))⟩
theorem sX:Au Tryz.prog 77 Er=true:=by kernel_rfl
def OD:AG:=(.seq (.seq (.region [.m 6 4,.m 7 0,.len 8 false (.t 7),.b 9 .lss 6 8] [0,3,4,9]) (.cond (.t 9) .skip (.exit 0))) (.seq (.block 1 [0,3,4] (.region [.m 12 3,.brow 13 3 (.int .i64) [],.m 14 0,.m 15 4,.idx 16 1 (.t 14) (.t 15),.l 17 16,.app 18 3 (.int .i64) (.t 13) (.t 17),.blst 19 (.slice (.int .i64)) [.t 18],.app 20 33 (.slice (.int .i64)) (.t 12) (.t 19),.m 3 20] [0,3,4])) (.region [.m 10 4,.bin 11 .add (.t 10) (.i 1),.m 4 11] [0,3,4])))
def OE:AG:=(.seq (.region [.m 21 3,.m 2 21] [2]) .ret)
def Ce:BE:=⟨[.val (.slice (.slice (.int .i64)))],[⟨2,false,(.slice (.slice (.int .i64)))⟩],(.seq (.region [.mv 2 (.c (.nil))] [0]) (.seq (.region [.brow 5 33 (.slice (.int .i64)) [],.m 3 5] [0,3]) (.seq (.seq (.region [.mv 4 (.i 0)] [0,3,4]) (.block 0 [3] (.loop [0,3,4] OD))) OE)))⟩
theorem fI:Au Tryz.prog 78 Ce=true:=by kernel_rfl
def Sa:AG:=(.seq (.region [.m 16 0,.m 17 1,.idx 18 1 (.t 17) (.i 0),.l 19 18,.m 20 0,.cl 21 [19,20] Fg,.bu 22 X [(0,1,.t 16),(1,1,.c (.int .i64 1)),(3,1,.t 21)],.al 6 X,.store (.t 6) (.t 22) 16 false] [0,1,4,6]) (.seq (.region [.m 23 1,.idx 24 1 (.t 23) (.i 0),.l 25 24,.idx 26 1 (.t 25) (.i 0),.l 27 26,.m 28 0,.b 29 .eql 27 28,.f 30 6 4,.store (.t 30) (.t 29) 1 false] [4,6]) (.seq (.region [.f 31 6 4,.l 32 31,.f 33 6 5,.store (.t 33) (.t 32) 1 false] [4,6]) (.seq (.region [.ls 34 6 16,.store (.t 4) (.t 34) 16 false,.mv 5 (.c (.bool true))] [4,5]) .ret))))
def F_:BE:=⟨[.val (.int .i64),.val (.slice (.slice (.int .i64)))],[⟨4,true,X⟩,⟨5,false,.bool⟩],(.seq (.region [.al 4 X,.mv 5 (.c (.bool false))] [0,1,4]) (.seq (.seq (.region [.m 7 1,.cl 8 [7] Jd,.un 9 .not (.t 8),.m 10 9,.sc 10 false [.m 11 0,.cx (some 12) [.t 11,.c (.int .i64 1),.c (.int .i64 6)] Am,.un 13 .not (.t 12)] 14 (.c (.bool true)) (.t 13)] [0,1,4,14]) (.cond (.t 14) (.seq (.region [.bu 15 X [],.store (.t 4) (.t 15) 16 false,.mv 5 (.c (.bool false))] [4,5]) .ret) .skip)) Sa))⟩
theorem mi:Au Tryz.prog 79 F_=true:=by kernel_rfl
def LK:BE:=⟨[.ptr AO,.val (.int .i64),.val Ab],[⟨6,false,(.int .i64)⟩],(.seq (.region [.box 5 (.t 2) false,.mv 6 (.i 0)] [0,1,5]) (.seq (.draw (Ea 20 [(1,[]),(2,[]),(6,[1,5]),(7,[]),(9,[]),(11,[]),(13,[]),(14,[8,10,12,13]),(16,[6,15]),(17,[0,16])]) (.tk 1 [.m 11 0] (.tk 6 [.l 16 15,.f 15 14 3,.n 14 13,.m 13 0] (.tk 15 [.bu 25 AI [(0,1,.t 19),(1,1,.t 21),(2,1,.t 23),(3,1,.t 24),(4,1,.c (.int .i64 (-1)))],.m 24 1,.l 23 22,.f 22 5 5,.l 21 20,.f 20 5 4,.l 19 18,.f 18 5 3] (.only 1 none (.brow 12 47 AI []) false [(15,.blst 26 AI [.t 25])] (.only 6 none (.app 17 47 AI (.t 12) (.t 16)) false [(15,.blst 26 AI [.t 25])] (.only 15 none (.blst 26 AI [.t 25]) true [] (.only 16 none (.app 27 47 AI (.t 17) (.t 26)) false [] (.tk 19 [.f 29 28 3,.n 28 11] (.only 19 none (.store (.t 29) (.t 27) 1 false) false [] .done))))))))) [0,1,5]) (.seq (.draw (Ea 36 [(4,[]),(7,[3,6]),(9,[]),(13,[]),(15,[]),(21,[]),(23,[]),(25,[8,12,14,20,22,24]),(28,[26]),(29,[26]),(30,[26]),(31,[]),(32,[27,31]),(33,[28,32]),(34,[29,33]),(35,[30,34])]) (.tk 25 [.l 55 54,.f 54 5 5,.l 53 52,.f 52 5 4,.bin 51 .sub (.t 50) (.i 1),.len 50 false (.t 49),.l 49 48,.f 48 47 3,.n 47 46,.m 46 0,.l 45 44,.f 44 5 3,.l 43 42,.f 42 41 0,.n 41 40,.m 40 0,.ls 39 38 16,.idx 38 16 (.t 34) (.t 37),.bin 37 .sub (.t 36) (.i 1),.l 36 35,.f 35 5 1,.l 34 33,.f 33 32 1,.n 32 31,.m 31 0] (.only 25 none (.cl 56 [39,43,45,51,53,55] xF) false [(31,.al 7 X)] (.tk 31 [.ext 60 (.t 30) 3,.ext 59 (.t 30) 2,.ext 58 (.t 30) 1,.ext 57 (.t 30) 0,.m 30 56] (.only 31 none (.al 7 X) true [] (.only 32 none (.store (.t 7) (.t 57) 16 false) false [] (.tk 36 [.m 10 60,.m 9 59,.m 8 58] .done)))))) [0,1,7,8,9,10]) (.seq (.seq (.region [.m 61 10,.un 62 .not (.t 61)] [0,1,7,8,9,62]) (.cond (.t 62) (.seq (.region [.mv 6 (.i 1)] [6]) .ret) .skip)) (.seq (.region [.m 63 0,.ls 64 7 16,.m 65 8,.m 66 9,.m 67 1,.cl 68 [63,64,65,66,67] J8] []) (.seq (.region [.mv 6 (.i 0)] [6]) .ret))))))⟩
theorem pN:Au Tryz.prog 80 LK=true:=by kernel_rfl
def UI:AG:=(.seq (.seq (.region [.m 23 8,.m 24 0,.n 25 24,.f 26 25 0,.l 27 26,.len 28 false (.t 27),.b 29 .leq 23 28] [0,1,2,7,8,29]) (.cond (.t 29) .skip (.exit 0))) (.seq (.block 1 [0,1,2,7,8] (.seq (.seq (.region [.m 32 0,.n 33 32,.f 34 33 0,.l 35 34,.m 36 8,.bin 37 .sub (.t 36) (.i 1),.idx 38 1 (.t 35) (.t 37),.l 39 38,.idx 40 1 (.t 39) (.i 0),.l 41 40,.m 42 2,.b 43 .neq 41 42] [0,1,2,7,8,43]) (.cond (.t 43) (.exit 1) .skip)) (.seq (.draw (Ea 15 [(1,[]),(5,[]),(6,[0,4,5]),(9,[7]),(10,[7]),(11,[]),(12,[8,11]),(13,[9,12]),(14,[10,13])]) (.tk 6 [.m 50 8,.l 49 48,.f 48 47 0,.n 47 46,.m 46 0,.ls 45 7 16] (.only 6 none (.cl 51 [45,49,50] xG) false [(11,.al 9 X)] (.tk 11 [.ext 54 (.t 44) 2,.ext 53 (.t 44) 1,.ext 52 (.t 44) 0,.m 44 51] (.only 11 none (.al 9 X) true [] (.only 12 none (.store (.t 9) (.t 52) 16 false) false [] (.tk 15 [.m 11 54,.m 10 53] .done)))))) [0,1,9,10,11]) (.seq (.seq (.region [.m 55 11,.un 56 .not (.t 55)] [0,1,9,10,56]) (.cond (.t 56) (.seq (.region [.mv 6 (.i 1)] [6]) .ret) .skip)) (.seq (.region [.m 57 0,.ls 58 9 16,.m 59 10,.brow 60 126 BC [],.m 61 1,.cl 62 [57,58,59,60,61] J8] []) (.seq (.region [.mv 6 (.i 0)] [6]) .ret)))))) (.region [.m 30 8,.bin 31 .add (.t 30) (.i 1),.m 8 31] [0,1,2,7,8])))
def Sb:AG:=(.seq (.region [.mv 6 (.i 1)] [6]) .ret)
def EA:BE:=⟨[.ptr AO,.val (.int .i64),.val (.int .i64)],[⟨6,false,(.int .i64)⟩],(.seq (.region [.mv 6 (.i 0)] [0,1,2]) (.seq (.region [.m 12 0,.n 13 12,.f 14 13 1,.l 15 14,.m 16 2,.bin 17 .sub (.t 16) (.i 1),.idx 18 16 (.t 15) (.t 17),.ls 19 18 16,.al 7 X,.store (.t 7) (.t 19) 16 false] [0,1,2,7]) (.seq (.seq (.region [.f 20 7 1,.l 21 20,.bin 22 .add (.t 21) (.i 1),.m 8 22] [0,1,2,7,8]) (.block 0 [] (.loop [0,1,2,7,8] UI))) Sb)))⟩
theorem pO:Au Tryz.prog 81 EA=true:=by kernel_rfl
def Q6:AG:=(.seq (.region [.brow 72 47 AI [],.m 73 0,.n 74 73,.f 75 74 3,.l 76 75,.app 77 47 AI (.t 72) (.t 76),.m 13 77] [0,3,4,11,12,13]) (.seq (.region [.m 78 13,.f 79 12 0,.l 80 79,.idx 81 9 (.t 78) (.t 80),.m 14 81] [0,3,4,11,12,13,14]) (.seq (.region [.m 82 14,.m 83 4,.n 84 82,.f 85 84 4,.store (.t 85) (.t 83) 1 false] [0,3,4,11,12,13,14]) (.seq (.region [.m 86 14,.f 87 12 3,.f 88 87 2,.l 89 88,.n 90 86,.f 91 90 5,.store (.t 91) (.t 89) 1 false] [0,3,4,11,12,13,14]) (.seq (.region [.m 92 14,.f 93 12 1,.l 94 93,.n 95 92,.f 96 95 6,.store (.t 96) (.t 94) 1 false] [0,3,4,11,12,13,14]) (.seq (.region [.m 97 14,.f 98 12 2,.l 99 98,.n 100 97,.f 101 100 7,.store (.t 101) (.t 99) 1 false] [0,3,4,11,12,13,14]) (.seqc [0,3,4,11,13] (.seq (.region [.m 102 14,.n 103 102,.f 104 103 0,.l 105 104,.bin 106 .eql (.t 105) (.i 2)] [0,3,4,11,12,13,14,106]) (.cond (.t 106) (.region [.m 107 14,.f 108 12 3,.f 109 108 1,.l 110 109,.n 111 107,.f 112 111 8,.store (.t 112) (.t 110) 1 false] [0,3,4,11,13]) .skip)) (.region [.m 113 0,.m 114 13,.n 115 113,.f 116 115 3,.store (.t 116) (.t 114) 1 false] [0,3,4,11]))))))))
def Q7:AG:=(.region [.m 46 11,.bin 47 .add (.t 46) (.i 1),.m 11 47] [0,3,4,11])
def Q8:AG:=(.seq (.seq (.region [.m 42 11,.m 43 3,.len 44 false (.t 43),.b 45 .lss 42 44] [0,3,4,11,45]) (.cond (.t 45) .skip (.exit 0))) (.seq (.block 1 [0,3,4,11] (.seq (.region [.m 48 3,.m 49 11,.idx 50 6 (.t 48) (.t 49),.ls 51 50 6,.al 12 BC,.store (.t 12) (.t 51) 6 false] [0,3,4,11,12]) (.seq (.seq (.draw (Ea 20 [(2,[]),(7,[1,6]),(13,[8]),(15,[12,14])]) (.tk 9 [.m 60 59,.b 59 .geq 53 58,.len 58 false (.t 57),.l 57 56,.f 56 55 3,.n 55 54,.m 54 0,.l 53 52,.f 52 12 0] (.test 60 (.sk 60 false 10 19 71 (.tk 20 [.pick 71 (.t 60) (.c (.bool true)) (.t 70)] .done)) (.tg 60 false 19 [.bin 70 .geq (.t 69) (.i 0),.l 69 68,.f 68 67 4,.idx 67 9 (.t 64) (.t 66),.l 66 65,.f 65 12 0,.l 64 63,.f 63 62 3,.n 62 61,.m 61 0] (.tk 20 [.pick 71 (.t 60) (.c (.bool true)) (.t 70)] .done)))) [0,3,4,11,12,71]) (.cond (.t 71) (.exit 1) .skip)) Q6))) Q7))
def C1:BE:=⟨[.ptr AO,.val X,.val (.slice AJ),.val (.slice BC),.val (.int .i64)],[],(.seq (.region [.box 6 (.t 1) false] [0,2,3,4,6]) (.seq (.region [.brow 15 42 X [],.m 16 0,.n 17 16,.f 18 17 1,.l 19 18,.app 20 42 X (.t 15) (.t 19),.m 10 20] [0,2,3,4,6,10]) (.seq (.region [.m 21 10,.f 22 6 0,.l 23 22,.bin 24 .sub (.t 23) (.i 1),.ls 25 6 16,.idx 26 16 (.t 21) (.t 24),.store (.t 26) (.t 25) 16 false] [0,2,3,4,10]) (.seq (.region [.m 27 0,.m 28 10,.n 29 27,.f 30 29 1,.store (.t 30) (.t 28) 1 false] [0,2,3,4]) (.seq (.region [.m 31 0,.brow 32 97 AJ [],.m 33 0,.n 34 33,.f 35 34 2,.l 36 35,.app 37 97 AJ (.t 32) (.t 36),.m 38 2,.app 39 97 AJ (.t 37) (.t 38),.n 40 31,.f 41 40 2,.store (.t 41) (.t 39) 1 false] [0,3,4]) (.seq (.region [.mv 11 (.i 0)] [0,3,4,11]) (.block 0 [] (.loop [0,3,4,11] Q8))))))))⟩
theorem mj:Au Tryz.prog 82 C1=true:=by kernel_rfl
def UJ:BE:=⟨[.val X],[⟨2,true,J7⟩],(.seq (.region [.box 1 (.t 0) true,.al 2 J7] [1,2]) (.seq (.region [.f 3 1 0,.l 4 3,.f 5 1 1,.l 6 5,.bnew 7 [.int .i64 0,.int .i64 0,.bool false,.bool false,.bool false,.bool false,.new 3 (.int .i64) [],.new 38 AF [],.int .i64 0,.int .i64 0,.int .i64 0,.int .i64 0,.str O,.str O,.int .i64 0,.new 3 (.int .i64) []] [(0,1,.t 4),(1,1,.t 6),(2,1,.c (.bool true))],.store (.t 2) (.t 7) 16 false] [2]) .ret))⟩
theorem zC:Au Tryz.prog 83 UJ=true:=by kernel_rfl

def PN:BE:=⟨[.ptr AO,.val (.int .i64),.val Ab],[⟨6,false,(.int .i64)⟩],(.seq (.region [.box 5 (.t 2) false,.mv 6 (.i 0)] [0,1,5]) (.seq (.seq (.region [.m 12 0,.n 13 12,.f 14 13 2,.l 15 14,.len 16 false (.t 15),.bin 17 .eql (.t 16) (.i 0)] [0,1,5,17]) (.cond (.t 17) (.seq (.region [.mv 6 (.i 1)] [6]) .ret) .skip)) (.seq (.draw (Ea 9 [(2,[]),(7,[1,6])]) (.tk 9 [.m 7 25,.b 25 .rem 19 24,.len 24 false (.t 23),.l 23 22,.f 22 21 2,.n 21 20,.m 20 0,.l 19 18,.f 18 5 2] .done) [0,1,5,7]) (.seq (.region [.m 26 0,.n 27 26,.f 28 27 2,.l 29 28,.m 30 7,.idx 31 6 (.t 29) (.t 30),.ls 32 31 6,.al 8 AJ,.store (.t 8) (.t 32) 6 false] [0,1,5,7,8]) (.seq (.seq (.region [.f 33 5 0,.l 34 33,.bin 35 .eql (.t 34) (.i 4)] [0,1,5,7,8,35]) (.cond (.t 35) (.seq (.draw (Ea 13 [(1,[]),(2,[]),(6,[1,5]),(7,[]),(9,[6,8]),(10,[0,9])]) (.tk 1 [.m 36 0] (.tk 6 [.l 41 40,.f 40 39 2,.n 39 38,.m 38 0] (.tk 8 [.ls 43 8 6] (.only 1 none (.brow 37 97 AJ []) false [(8,.blst 44 AJ [.t 43])] (.only 6 none (.app 42 97 AJ (.t 37) (.t 41)) false [(8,.blst 44 AJ [.t 43])] (.only 8 none (.blst 44 AJ [.t 43]) true [] (.only 9 none (.app 45 97 AJ (.t 42) (.t 44)) false [] (.tk 12 [.f 47 46 2,.n 46 36] (.only 12 none (.store (.t 47) (.t 45) 1 false) false [] .done))))))))) []) (.seq (.region [.mv 6 (.i 0)] [6]) .ret)) .skip)) (.seq (.draw (Ea 20 [(1,[]),(2,[]),(6,[]),(7,[5,6]),(8,[1,7]),(9,[]),(13,[]),(15,[12,14]),(16,[8,15]),(17,[0,16])]) (.tk 1 [.m 48 0] (.tk 8 [.sl 55 6 (.t 53) none (some (.t 54)),.m 54 7,.l 53 52,.f 52 51 2,.n 51 50,.m 50 0] (.tk 16 [.sl 63 6 (.t 60) (some (.t 62)) none,.bin 62 .add (.t 61) (.i 1),.m 61 7,.l 60 59,.f 59 58 2,.n 58 57,.m 57 0] (.only 1 none (.brow 49 97 AJ []) false [] (.only 8 none (.app 56 97 AJ (.t 49) (.t 55)) false [] (.only 16 none (.app 64 97 AJ (.t 56) (.t 63)) false [] (.tk 19 [.f 66 65 2,.n 65 48] (.only 19 none (.store (.t 66) (.t 64) 1 false) false [] .done)))))))) [0,1,5,8]) (.seq (.seq (.region [.f 67 5 0,.l 68 67,.bin 69 .eql (.t 68) (.i 3)] [0,1,8,69]) (.cond (.t 69) (.seq (.region [.mv 6 (.i 0)] [6]) .ret) .skip)) (.seq (.draw (Ea 23 [(4,[]),(7,[3,6]),(9,[]),(13,[]),(14,[8,12,13]),(17,[15]),(18,[15]),(19,[]),(20,[16,19]),(21,[17,20]),(22,[18,21])]) (.tk 14 [.ls 84 8 6,.l 83 82,.f 82 81 0,.n 81 80,.m 80 0,.ls 79 78 16,.idx 78 16 (.t 74) (.t 77),.bin 77 .sub (.t 76) (.i 1),.l 76 75,.f 75 8 2,.l 74 73,.f 73 72 1,.n 72 71,.m 71 0] (.only 14 none (.cl 85 [79,83,84] sL) false [(19,.al 9 X)] (.tk 19 [.ext 88 (.t 70) 2,.ext 87 (.t 70) 1,.ext 86 (.t 70) 0,.m 70 85] (.only 19 none (.al 9 X) true [] (.only 20 none (.store (.t 9) (.t 86) 16 false) false [] (.tk 23 [.m 11 88,.m 10 87] .done)))))) [0,1,9,10,11]) (.seq (.region [.m 89 0,.ls 90 9 16,.m 91 10,.m 92 11,.m 93 1,.cl 94 [89,90,91,92,93] J8] []) (.seq (.region [.mv 6 (.i 0)] [6]) .ret))))))))))⟩
theorem vF:Au Tryz.prog 84 PN=true:=by kernel_rfl
def Pf:AG:=(.seq (.seq (.region [.m 7 4,.m 8 0,.len 9 false (.t 8),.b 10 .lss 7 9] [0,3,4,10]) (.cond (.t 10) .skip (.exit 0))) (.seq (.block 1 [0,3,4] (.seq (.region [.m 13 0,.m 14 4,.idx 15 6 (.t 13) (.t 14),.ls 16 15 6,.al 5 AJ,.store (.t 5) (.t 16) 6 false] [0,3,4,5]) (.seq (.region [.brow 17 38 AF [],.f 18 5 5,.l 19 18,.app 20 38 AF (.t 17) (.t 19),.f 21 5 5,.store (.t 21) (.t 20) 1 false] [0,3,4,5]) (.region [.m 22 3,.ls 23 5 6,.blst 24 AJ [.t 23],.app 25 97 AJ (.t 22) (.t 24),.m 3 25] [0,3,4])))) (.region [.m 11 4,.bin 12 .add (.t 11) (.i 1),.m 4 12] [0,3,4])))
def Pg:AG:=(.seq (.region [.m 26 3,.m 2 26] [2]) .ret)
def Cq:BE:=⟨[.val (.slice AJ)],[⟨2,false,(.slice AJ)⟩],(.seq (.region [.mv 2 (.c (.nil))] [0]) (.seq (.region [.brow 6 97 AJ [],.m 3 6] [0,3]) (.seq (.seq (.region [.mv 4 (.i 0)] [0,3,4]) (.block 0 [3] (.loop [0,3,4] Pf))) Pg)))⟩
theorem gu:Au Tryz.prog 85 Cq=true:=by kernel_rfl
def M9:BE:=⟨[.val X],[⟨2,true,X⟩],(.seq (.region [.box 1 (.t 0) false,.al 2 X] [1,2]) (.seq (.region [.brow 3 3 (.int .i64) [],.f 4 1 6,.l 5 4,.app 6 3 (.int .i64) (.t 3) (.t 5),.f 7 1 6,.store (.t 7) (.t 6) 1 false] [1,2]) (.seq (.region [.brow 8 38 AF [],.f 9 1 7,.l 10 9,.app 11 38 AF (.t 8) (.t 10),.f 12 1 7,.store (.t 12) (.t 11) 1 false] [1,2]) (.seq (.region [.brow 13 3 (.int .i64) [],.f 14 1 9,.f 15 14 6,.l 16 15,.app 17 3 (.int .i64) (.t 13) (.t 16),.f 18 1 9,.f 19 18 6,.store (.t 19) (.t 17) 1 false] [1,2]) (.seq (.region [.ls 20 1 16,.store (.t 2) (.t 20) 16 false] [2]) .ret)))))⟩
theorem sY:Au Tryz.prog 86 M9=true:=by kernel_rfl
def Rv:BE:=⟨[.val .str],[⟨2,false,.bool⟩],(.seq (.region [.mv 2 (.c (.bool false))] [0]) (.seq (.region [.m 3 0,.len 4 true (.t 3),.cx (some 5) [.t 4,.c (.int .i64 1),.c (.int .i64 12)] At,.m 2 5] [2]) .ret))⟩
theorem xZ:Au Tryz.prog 87 Rv=true:=by kernel_rfl
def WB:AG:=(.seq (.region [.m 50 1,.ls 51 5 6,.cl 52 [9,50,51] gf,.m 49 52,.ext 53 (.t 49) 0,.ext 54 (.t 49) 1,.m 10 53,.m 11 54] [6,9,10,11]) (.seq (.region [.ls 55 9 16,.cl 56 [55] Gu,.m 57 10,.m 58 11,.store (.t 6) (.t 56) 16 false,.m 7 57,.m 8 58] [6,7,8]) .ret))
def Hh:BE:=⟨[.val X,.val (.slice (.slice (.int .i64))),.val AJ],[⟨6,true,X⟩,⟨7,false,(.slice AJ)⟩,⟨8,false,(.slice BC)⟩],(.seq (.region [.box 3 (.t 0) false,.box 5 (.t 2) false,.al 6 X,.mv 7 (.c (.nil)),.mv 8 (.c (.nil))] [1,3,5,6]) (.seq (.region [.ls 12 3 16,.cl 13 [12] Gu,.al 9 X,.store (.t 9) (.t 13) 16 false] [1,3,5,6,9]) (.seq (.seq (.region [.f 14 5 2,.l 15 14,.f 16 3 0,.l 17 16,.b 18 .neq 15 17,.m 19 18,.sc 19 false [.f 20 5 3,.l 21 20,.f 22 3 1,.l 23 22,.b 24 .lss 21 23] 25 (.c (.bool true)) (.t 24),.m 26 25,.sc 26 false [.f 27 5 3,.l 28 27,.m 29 1,.len 30 false (.t 29),.b 31 .gtr 28 30] 32 (.c (.bool true)) (.t 31),.m 33 32,.sc 33 false [.ls 34 3 16,.cl 35 [34] P8,.un 36 .not (.t 35)] 37 (.c (.bool true)) (.t 36),.m 38 37,.sc 38 false [.m 39 1,.cl 40 [39] Ha,.un 41 .not (.t 40)] 42 (.c (.bool true)) (.t 41),.m 43 42,.sc 43 false [.ls 44 5 6,.cl 45 [44] xH,.un 46 .not (.t 45)] 47 (.c (.bool true)) (.t 46)] [1,5,6,9,47]) (.cond (.t 47) (.seq (.region [.ls 48 9 16,.store (.t 6) (.t 48) 16 false,.mv 7 (.c (.nil)),.mv 8 (.c (.nil))] [6,7,8]) .ret) .skip)) WB)))⟩
theorem sZ:Au Tryz.prog 89 Hh=true:=by kernel_rfl
def Q9:AG:=(.seq (.draw (Ea 8 [(4,[]),(6,[3,5])]) (.tk 8 [.m 10 54,.idx 54 9 (.t 51) (.t 53),.l 53 52,.f 52 9 0,.l 51 50,.f 50 49 3,.n 49 48,.m 48 0] .done) [0,3,9,10,20,21,22]) (.seq (.draw (Ea 24 [(1,[]),(2,[]),(3,[]),(4,[]),(5,[]),(8,[]),(10,[]),(12,[0,4]),(15,[1,7,14]),(18,[2,9,17]),(21,[3,11,20])]) (.tk 14 [.f 68 67 4,.n 67 55,.l 66 65,.f 65 9 2,.l 64 63,.f 63 9 1,.l 62 61,.f 61 60 2,.f 60 9 3,.m 59 3,.m 58 10,.m 57 10,.m 56 10,.m 55 10] (.only 14 none (.store (.t 68) (.t 59) 1 false) false [] (.tk 17 [.f 70 69 5,.n 69 56] (.only 17 none (.store (.t 70) (.t 62) 1 false) false [] (.tk 20 [.f 72 71 6,.n 71 57] (.only 20 none (.store (.t 72) (.t 64) 1 false) false [] (.tk 23 [.f 74 73 7,.n 73 58] (.only 23 none (.store (.t 74) (.t 66) 1 false) false [] .done)))))))) [0,3,9,10,20,21,22]) (.seq (.region [.m 75 10,.n 76 75,.f 77 76 0,.l 78 77,.bin 79 .eql (.t 78) (.i 2)] [0,3,9,10,20,21,22,79]) (.cond (.t 79) (.region [.m 80 10,.f 81 9 3,.f 82 81 1,.l 83 82,.n 84 80,.f 85 84 8,.store (.t 85) (.t 83) 1 false] [0,3,20,21,22]) .skip))))
def Q_:AG:=(.region [.bin 86 .add (.t 22) (.i 1),.m 22 86] [0,3,20,21,22])
def RA:AG:=(.seq (.region [.b 23 .lss 22 21] [0,3,20,21,22,23]) (.seq (.cond (.t 23) .skip (.exit 0)) (.seq (.block 1 [0,3,20,21,22] (.seq (.region [.idx 24 6 (.t 20) (.t 22),.ls 25 24 6,.al 9 BC,.store (.t 9) (.t 25) 6 false] [0,3,9,20,21,22]) (.seq (.seq (.draw (Ea 22 [(2,[]),(8,[1,7]),(15,[10]),(17,[14,16])]) (.tk 8 [.bin 33 .sub (.t 32) (.i 1),.len 32 false (.t 31),.l 31 30,.f 30 29 3,.n 29 28,.m 28 0,.l 27 26,.f 26 9 0] (.only 8 none (.cx (some 34) [.t 27,.c (.int .i64 0),.t 33] At) false [] (.tk 11 [.m 36 35,.un 35 .not (.t 34)] (.test 36 (.sk 36 false 10 21 47 (.tk 22 [.pick 47 (.t 36) (.c (.bool true)) (.t 46)] .done)) (.tg 36 false 21 [.bin 46 .neq (.t 45) (.c (.int .i64 (-1))),.l 45 44,.f 44 43 4,.idx 43 9 (.t 40) (.t 42),.l 42 41,.f 41 9 0,.l 40 39,.f 39 38 3,.n 38 37,.m 37 0] (.tk 22 [.pick 47 (.t 36) (.c (.bool true)) (.t 46)] .done)))))) [0,3,9,20,21,22,47]) (.cond (.t 47) (.exit 1) .skip)) Q9))) Q_)))
def Ch:BE:=⟨[.ptr Af,.val (.slice AJ),.val (.slice BC),.val (.int .i64)],[],(.seq (.region [.m 11 0,.m 12 0,.n 13 12,.f 14 13 2,.l 15 14,.m 16 1,.app 17 97 AJ (.t 15) (.t 16),.n 18 11,.f 19 18 2,.store (.t 19) (.t 17) 1 false] [0,2,3]) (.seq (.region [.m 20 2,.len 21 false (.t 20),.mv 22 (.i 0)] [0,3,20,21,22]) (.block 0 [] (.loop [0,3,20,21,22] RA))))⟩
theorem jb:Au Tryz.prog 90 Ch=true:=by kernel_rfl
def Bf:BE:=⟨[.val (.slice AI),.val (.clo 92 AI)],[⟨4,false,.bool⟩],(.seq (.region [.mv 4 (.c (.bool false))] [0,1]) (.seq (.region [.m 5 0,.m 6 1,.cl 7 [5,6] Je,.bin 8 .geq (.t 7) (.i 0),.m 4 8] [4]) .ret))⟩
theorem Im:Au Tryz.prog 91 Bf=true:=by kernel_rfl
def M_:BE:=⟨[.val AI,.val AI],[⟨3,false,.bool⟩],(.seq (.region [.box 2 (.t 0) false,.mv 3 (.c (.bool false))] [1,2]) (.seq (.region [.f 4 2 0,.l 5 4,.bin 6 .eql (.t 5) (.i 1),.m 7 6,.sc 7 true [.f 8 2 1,.l 9 8,.f 10 1 1,.l 11 10,.b 12 .eql 9 11] 13 (.t 12) (.c (.bool false)),.m 14 13,.sc 14 true [.f 15 2 2,.l 16 15,.f 17 1 8,.l 18 17,.b 19 .eql 16 18] 20 (.t 19) (.c (.bool false)),.m 21 20,.sc 21 true [.ls 22 2 9,.cl 23 [22] Ix,.un 24 .not (.t 23),.m 25 24,.sc 25 false [.f 26 2 5,.l 27 26,.f 28 1 5,.l 29 28,.b 30 .eql 27 29] 31 (.c (.bool true)) (.t 30)] 32 (.t 31) (.c (.bool false)),.m 3 32] [3]) .ret))⟩
theorem sa:Au Tryz.prog 92 M_=true:=by kernel_rfl
def K3:AG:=(.seq (.region [.b 9 .lss 8 7] [0,1,7,8,9]) (.seq (.cond (.t 9) .skip (.exit 0)) (.seq (.block 1 [0,1,7,8] (.seq (.region [.m 10 8,.m 5 10] [0,1,5,7,8]) (.seq (.region [.m 11 1,.m 12 0,.m 13 5,.idx 14 1 (.t 12) (.t 13),.l 15 14,.b 16 .eql 11 15] [0,1,5,7,8,16]) (.cond (.t 16) (.seq (.region [.m 17 5,.m 4 17] [4]) .ret) .skip)))) (.region [.bin 18 .add (.t 8) (.i 1),.m 8 18] [0,1,7,8]))))
def K4:AG:=(.seq (.region [.mv 4 (.c (.int .i64 (-1)))] [4]) .ret)
def Bu:BE:=⟨[.val (.slice (.int .i64)),.val (.int .i64)],[⟨4,false,(.int .i64)⟩],(.seq (.region [.mv 4 (.i 0)] [0,1]) (.seq (.seq (.region [.m 6 0,.len 7 false (.t 6),.mv 8 (.i 0)] [0,1,7,8]) (.block 0 [] (.loop [0,1,7,8] K3))) K4))⟩
theorem Xt:Au Tryz.prog 95 Bu=true:=by kernel_rfl
def JF:BE:=⟨[.ptr BQ,.val (.slice (.int .i64))],[⟨4,false,(.int .i64)⟩],(.seq (.region [.mv 4 (.i 0)] [0,1]) (.seq (.region [.m 5 1,.m 6 0,.m 7 1,.len 8 false (.t 7),.cl 9 [6,8] D7,.idx 10 1 (.t 5) (.t 9),.l 11 10,.m 4 11] [4]) .ret))⟩
theorem jc:Au Tryz.prog 96 JF=true:=by kernel_rfl
def NA:BE:=⟨[.ptr BQ,.val (.int .i64)],[⟨4,false,.bool⟩],(.seq (.region [.mv 4 (.c (.bool false))] [0,1]) (.seq (.region [.m 5 0,.m 6 1,.cl 7 [5,6] D7,.bin 8 .eql (.t 7) (.i 0),.m 4 8] [4]) .ret))⟩
theorem sb:Au Tryz.prog 97 NA=true:=by kernel_rfl
def NB:BE:=⟨[.ptr BQ,.val (.slice .str)],[⟨4,false,.str⟩],(.seq (.region [.mv 4 (.c (.str ⟨#[]⟩))] [0,1]) (.seq (.region [.m 5 1,.m 6 0,.m 7 1,.len 8 false (.t 7),.cl 9 [6,8] D7,.idx 10 1 (.t 5) (.t 9),.l 11 10,.m 4 11] [4]) .ret))⟩
theorem se:Au Tryz.prog 98 NB=true:=by kernel_rfl
def cZ:DT:=(.only 4 none (.store (.t 12) (.t 106) 16 false) false [] (.tk 8 [.mv 15 (.c (.bool true)),.mv 14 (.c (.nil)),.m 13 109] .done))
def ca:AG:=(.seq (.seq (.region [.m 100 18,.len 101 false (.t 100),.bin 102 .eql (.t 101) (.i 0)] [12,16,18,20,102]) (.cond (.t 102) (.seq (.region [.cl 103 [16] SI,.m 21 103] [12,16,21]) (.seq (.region [.ls 104 16 16,.m 105 21,.store (.t 12) (.t 104) 16 false,.mv 13 (.c (.nil)),.m 14 105,.mv 15 (.c (.bool true))] [12,13,14,15]) .ret)) .skip)) (.seq (.draw (Ea 8 [(1,[]),(2,[]),(3,[1,2]),(4,[0,3])]) (.tk 3 [.ls 108 20 6,.m 107 18] (.fork 0 (.ls 106 16 16) (.only 3 none (.cl 109 [16,107,108] Bj) false [] cZ) 3 (.cl 109 [16,107,108] Bj) (.tk 1 [.ls 106 16 16] cZ))) [12,13,14,15]) .ret))
def Y_:AG:=(.seq (.region [.m 71 1,.f 72 6 1,.l 73 72,.bin 74 .sub (.t 73) (.i 1),.idx 75 1 (.t 71) (.t 74),.l 76 75,.cl 77 [16,76] Gv,.m 18 77] [2,3,12,16,17,18]) (.seq (.region [.m 78 18,.cl 79 [78] Cz,.m 19 79] [2,3,12,16,17,18,19]) (.seq (.region [.m 80 19,.cl 81 [80] N_] [2,3,12,16,17,18,19]) (.seq (.region [.m 82 2,.m 83 3,.f 84 16 8,.l 85 84,.ls 86 17 3,.m 87 19,.bu 88 Mw [(0,1,.t 82),(1,1,.t 83),(2,1,.t 85),(3,3,.t 86),(6,1,.t 87)],.f 89 16 9,.store (.t 89) (.t 88) 7 false] [2,12,16,17,18]) (.seq (.region [.f 90 16 8,.l 91 90,.bu 92 AJ [(0,1,.c (.int .i64 7)),(4,1,.t 91)],.al 20 AJ,.store (.t 20) (.t 92) 6 false] [2,12,16,17,18,20]) (.seqc [12,16,18,20] (.seq (.region [.m 93 2,.bin 94 .eql (.t 93) (.i 1)] [12,16,17,18,20,94]) (.cond (.t 94) (.region [.f 95 16 8,.l 96 95,.ls 97 17 3,.brow 98 38 AF [.t 97],.bu 99 AJ [(0,1,.c (.int .i64 5)),(4,1,.t 96),(5,1,.t 98)],.store (.t 20) (.t 99) 6 false] [12,16,18,20]) .skip)) ca))))))
def ZA:AG:=(.seq (.region [.ls 39 6 16,.cl 40 [39] Gu,.al 16 X,.store (.t 16) (.t 40) 16 false] [1,2,3,4,5,6,12,16]) (.seq (.region [.f 41 16 8,.l 42 41,.bin 43 .add (.t 42) (.i 1),.f 44 16 8,.store (.t 44) (.t 43) 1 false] [1,2,3,4,5,6,12,16]) (.seq (.region [.m 45 4,.m 46 5,.f 47 6 1,.l 48 47,.bin 49 .mul (.i 1000) (.t 48),.f 50 16 8,.l 51 50,.b 52 .add 49 51,.bu 53 AF [(0,1,.t 45),(1,1,.t 46),(2,1,.t 52)],.al 17 AF,.store (.t 17) (.t 53) 3 false] [1,2,3,4,6,12,16,17]) (.seq (.seq (.region [.m 54 2,.bin 55 .eql (.t 54) (.i 1),.m 56 55,.sc 56 true [.f 57 6 7,.l 58 57,.len 59 false (.t 58),.bin 60 .eql (.t 59) (.i 12)] 61 (.t 60) (.c (.bool false)),.m 62 61,.sc 62 true [.f 63 6 7,.l 64 63,.m 65 4,.cl 66 [64,65] f4,.bu 67 AF [],.eqs 68 false AF (.t 66) (.t 67)] 69 (.t 68) (.c (.bool false))] [1,2,3,6,12,16,17,69]) (.cond (.t 69) (.seq (.region [.bu 70 X [],.store (.t 12) (.t 70) 16 false,.mv 13 (.c (.nil)),.mv 14 (.c (.nil)),.mv 15 (.c (.bool false))] [12,13,14,15]) .ret) .skip)) Y_))))
def Ee:BE:=⟨[.val X,.val (.slice (.slice (.int .i64))),.val (.int .i64),.val (.int .i64),.val .str,.val .str],[⟨12,true,X⟩,⟨13,false,(.slice AJ)⟩,⟨14,false,(.slice BC)⟩,⟨15,false,.bool⟩],(.seq (.region [.box 6 (.t 0) false,.al 12 X,.mv 13 (.c (.nil)),.mv 14 (.c (.nil)),.mv 15 (.c (.bool false))] [1,2,3,4,5,6,12]) (.seq (.seq (.region [.ls 22 6 16,.cl 23 [22] P8,.un 24 .not (.t 23),.m 25 24,.sc 25 false [.m 26 1,.cl 27 [6,26] Xr,.un 28 .not (.t 27)] 29 (.c (.bool true)) (.t 28),.m 30 29,.sc 30 false [.m 31 2,.m 32 3,.m 33 4,.m 34 5,.cl 35 [31,32,33,34] jU,.un 36 .not (.t 35)] 37 (.c (.bool true)) (.t 36)] [1,2,3,4,5,6,12,37]) (.cond (.t 37) (.seq (.region [.bu 38 X [],.store (.t 12) (.t 38) 16 false,.mv 13 (.c (.nil)),.mv 14 (.c (.nil)),.mv 15 (.c (.bool false))] [12,13,14,15]) .ret) .skip)) ZA))⟩
theorem xb:Au Tryz.prog 100 Ee=true:=by kernel_rfl
def cc:DT:=(.sk 33 false 10 32 44 (.tk 33 [.pick 44 (.t 33) (.c (.bool true)) (.t 43)] .done))
def ZB:DT:=(.sk 27 false 4 20 32 (.tk 22 [.m 33 32,.pick 32 (.t 27) (.c (.bool true)) (.t 31)] cc))
def ZD:DT:=(.sk 20 false 5 14 26 (.tk 16 [.m 27 26,.pick 26 (.t 20) (.c (.bool true)) (.t 25)] ZB))
def ZE:DT:=(.only 9 none (.store (.t 6) (.t 74) 16 false) false [] (.tk 12 [.mv 8 (.c (.bool true)),.m 7 82] .done))
def ZF:DT:=(.only 8 none (.cl 82 [9,80,81] Bj) false [] ZE)
def ZG:AG:=(.seq (.region [.cl 57 [9] M1] [1,2,6,9,10]) (.seq (.region [.m 58 2,.f 59 9 1,.store (.t 59) (.t 58) 1 false,.f 60 9 2,.store (.t 60) (.c (.bool false)) 1 false,.f 61 9 3,.store (.t 61) (.c (.bool false)) 1 false,.f 62 9 4,.store (.t 62) (.c (.bool true)) 1 false] [1,2,6,9,10]) (.seq (.seq (.region [.m 63 10] [1,2,6,9,63]) (.cond (.t 63) (.seq (.draw (Ea 9 [(1,[]),(3,[0,2]),(5,[]),(7,[4,6])]) (.tk 7 [.l 70 69,.f 69 9 7,.l 68 67,.idx 67 1 (.t 64) (.t 66),.bin 66 .sub (.t 65) (.i 1),.m 65 2,.m 64 1] (.only 7 none (.cl 71 [9,68,70] M2) false [] (.tk 9 [.m 11 71] .done))) [6,9,11]) (.seq (.region [.ls 72 9 16,.m 73 11,.store (.t 6) (.t 72) 16 false,.m 7 73,.mv 8 (.c (.bool true))] [6,7,8]) .ret)) .skip)) (.seq (.draw (Ea 12 [(1,[]),(2,[]),(4,[1,3]),(7,[]),(8,[6,7]),(9,[0,8])]) (.tk 6 [.l 79 78,.idx 78 1 (.t 75) (.t 77),.bin 77 .sub (.t 76) (.i 2),.m 76 2,.m 75 1] (.tk 8 [.bu 81 AJ [(0,1,.c (.int .i64 1))]] (.fork 0 (.ls 74 9 16) (.only 6 none (.cl 80 [9,79] Gv) false [] ZF) 6 (.cl 80 [9,79] Gv) (.fork 0 (.ls 74 9 16) ZF 8 (.cl 82 [9,80,81] Bj) (.tk 1 [.ls 74 9 16] ZE))))) [6,7,8]) .ret))))
def ZH:AG:=(.seq (.region [.ls 46 3 16,.cl 47 [46] Gu,.al 9 X,.store (.t 9) (.t 47) 16 false] [1,2,3,6,9]) (.seq (.region [.f 48 3 3,.l 49 48,.m 50 49,.sc 50 true [.f 51 3 1,.l 52 51,.m 53 2,.bin 54 .sub (.t 53) (.i 1),.b 55 .eql 52 54] 56 (.t 55) (.c (.bool false)),.m 10 56] [1,2,6,9,10]) ZG))
def G0:BE:=⟨[.val X,.val (.slice (.slice (.int .i64))),.val (.int .i64)],[⟨6,true,X⟩,⟨7,false,(.slice AJ)⟩,⟨8,false,.bool⟩],(.seq (.region [.box 3 (.t 0) false,.al 6 X,.mv 7 (.c (.nil)),.mv 8 (.c (.bool false))] [1,2,3,6]) (.seq (.seq (.draw (Ea 33 [(10,[8]),(12,[9,11]),(17,[15]),(19,[16,18]),(23,[21]),(25,[22,24]),(29,[21]),(31,[28,30])]) (.tk 1 [.ls 12 3 16] (.only 1 none (.cl 13 [12] P8) false [] (.tk 4 [.m 15 14,.un 14 .not (.t 13)] (.test 15 (.sk 15 false 3 7 19 (.tk 9 [.m 20 19,.pick 19 (.t 15) (.c (.bool true)) (.t 18)] ZD)) (.tg 15 false 5 [.m 16 1] (.only 5 (some (15,false)) (.cl 17 [16] Ha) false [] (.tg 15 false 7 [.un 18 .not (.t 17)] (.tk 9 [.m 20 19,.pick 19 (.t 15) (.c (.bool true)) (.t 18)] (.test 20 ZD (.tg 20 false 12 [.len 23 false (.t 22),.m 22 1,.m 21 2] (.only 12 (some (20,false)) (.cx (some 24) [.t 21,.c (.int .i64 2),.t 23] At) false [] (.tg 20 false 14 [.un 25 .not (.t 24)] (.tk 16 [.m 27 26,.pick 26 (.t 20) (.c (.bool true)) (.t 25)] (.test 27 ZB (.tg 27 false 20 [.b 31 .leq 28 30,.l 30 29,.f 29 3 1,.m 28 2] (.tk 22 [.m 33 32,.pick 32 (.t 27) (.c (.bool true)) (.t 31)] (.test 33 cc (.tg 33 false 32 [.b 43 .neq 40 42,.l 42 41,.f 41 3 0,.l 40 39,.idx 39 1 (.t 38) (.i 0),.l 38 37,.idx 37 1 (.t 34) (.t 36),.bin 36 .sub (.t 35) (.i 1),.m 35 2,.m 34 1] (.tk 33 [.pick 44 (.t 33) (.c (.bool true)) (.t 43)] .done))))))))))))))))))) [1,2,3,6,44]) (.cond (.t 44) (.seq (.region [.bu 45 X [],.store (.t 6) (.t 45) 16 false,.mv 7 (.c (.nil)),.mv 8 (.c (.bool false))] [6,7,8]) .ret) .skip)) ZH))⟩
theorem xc:Au Tryz.prog 101 G0=true:=by kernel_rfl
def DZ:AG:=(.seq (.region [.b 9 .lss 8 7] [0,1,7,8,9]) (.seq (.cond (.t 9) .skip (.exit 0)) (.seq (.block 1 [0,1,7,8] (.seq (.region [.m 10 8,.m 5 10] [0,1,5,7,8]) (.seq (.region [.m 11 1,.m 12 0,.m 13 5,.idx 14 16 (.t 12) (.t 13),.ls 15 14 16,.call (some 16) 103 [(.t 15,.bor X),(.t 11,.cap 103 (.int .i64))] [.bool]] [0,1,5,7,8,16]) (.cond (.t 16) (.seq (.region [.m 17 5,.m 4 17] [4]) .ret) .skip)))) (.region [.bin 18 .add (.t 8) (.i 1),.m 8 18] [0,1,7,8]))))
def Da:AG:=(.seq (.region [.mv 4 (.c (.int .i64 (-1)))] [4]) .ret)
def Ac:BE:=⟨[.val (.slice X),.val (.clo 103 (.int .i64))],[⟨4,false,(.int .i64)⟩],(.seq (.region [.mv 4 (.i 0)] [0,1]) (.seq (.seq (.region [.m 6 0,.len 7 false (.t 6),.mv 8 (.i 0)] [0,1,7,8]) (.block 0 [] (.loop [0,1,7,8] DZ))) Da))⟩
theorem IQ:Au Tryz.prog 102 Ac=true:=by kernel_rfl
def GV:BE:=⟨[.val X,.val (.int .i64)],[⟨3,false,.bool⟩],(.seq (.region [.box 2 (.t 0) false,.mv 3 (.c (.bool false))] [1,2]) (.seq (.region [.f 4 2 0,.l 5 4,.l 6 1,.b 7 .eql 5 6,.m 3 7] [3]) .ret))⟩
theorem bE:Au Tryz.prog 103 GV=true:=by kernel_rfl
def WC:AG:=(.seq (.seq (.region [.m 8 3,.m 9 0,.len 10 false (.t 9),.b 11 .lss 8 10] [0,3,11]) (.cond (.t 11) .skip (.exit 0))) (.seq (.block 1 [0,3] (.seq (.draw (Ea 16 [(1,[]),(2,[0,1]),(8,[6]),(9,[7,8]),(10,[6]),(11,[6]),(12,[10,11]),(14,[9,13])]) (.tk 4 [.l 17 16,.idx 16 1 (.t 14) (.t 15),.m 15 3,.m 14 0] (.only 4 none (.cx (some 18) [.t 17,.c (.int .i64 1),.c (.int .i64 6)] Am) false [] (.tk 7 [.m 20 19,.un 19 .not (.t 18)] (.test 20 (.sk 20 false 8 15 29 (.tk 16 [.pick 29 (.t 20) (.c (.bool true)) (.t 28)] .done)) (.tg 20 false 14 [.l 27 26,.idx 26 1 (.t 24) (.t 25),.m 25 3,.m 24 0,.sl 23 1 (.t 21) none (some (.t 22)),.m 22 3,.m 21 0] (.only 14 (some (20,false)) (.cl 28 [23,27] Fg) false [] (.tk 16 [.pick 29 (.t 20) (.c (.bool true)) (.t 28)] .done))))))) [0,3,29]) (.cond (.t 29) (.seq (.region [.mv 2 (.c (.bool false))] [2]) .ret) .skip))) (.region [.m 12 3,.bin 13 .add (.t 12) (.i 1),.m 3 13] [0,3])))
def WD:AG:=(.seq (.region [.mv 2 (.c (.bool true))] [2]) .ret)
def Es:BE:=⟨[.val (.slice (.int .i64))],[⟨2,false,.bool⟩],(.seq (.region [.mv 2 (.c (.bool false))] [0]) (.seq (.seq (.region [.m 4 0,.len 5 false (.t 4),.cx (some 6) [.t 5,.c (.int .i64 1),.c (.int .i64 4)] Am,.un 7 .not (.t 6)] [0,7]) (.cond (.t 7) (.seq (.region [.mv 2 (.c (.bool false))] [2]) .ret) .skip)) (.seq (.seq (.region [.mv 3 (.i 0)] [0,3]) (.block 0 [] (.loop [0,3] WC))) WD)))⟩
theorem sf:Au Tryz.prog 105 Es=true:=by kernel_rfl
def cd:DT:=(.sk 88 false 11 75 100 (.tk 76 [.pick 100 (.t 88) (.c (.bool true)) (.t 99)] .done))
def ZI:DT:=(.sk 81 false 5 62 87 (.tk 64 [.m 88 87,.pick 87 (.t 81) (.c (.bool true)) (.t 86)] cd))
def ZJ:DT:=(.sk 73 false 3 52 77 (.sk 76 true 2 54 79 (.sk 73 false 1 55 80 (.tk 57 [.m 81 80,.pick 80 (.t 73) (.c (.bool true)) (.t 79)] ZI))))
def ZK:DT:=(.sk 68 false 3 47 72 (.tk 49 [.m 73 72,.pick 72 (.t 68) (.c (.bool true)) (.t 71)] ZJ))
def ZL:DT:=(.sk 62 false 4 42 67 (.tk 44 [.m 68 67,.pick 67 (.t 62) (.c (.bool true)) (.t 66)] ZK))
def ZM:DT:=(.sk 57 false 3 36 61 (.tk 38 [.m 62 61,.pick 61 (.t 57) (.c (.bool true)) (.t 60)] ZL))
def ZN:DT:=(.sk 49 false 3 28 53 (.sk 52 true 2 30 55 (.sk 49 false 1 31 56 (.tk 33 [.m 57 56,.pick 56 (.t 49) (.c (.bool true)) (.t 55)] ZM))))
def ZO:DT:=(.sk 44 false 3 23 48 (.tk 25 [.m 49 48,.pick 48 (.t 44) (.c (.bool true)) (.t 47)] ZN))
def ZP:DT:=(.sk 38 false 4 18 43 (.tk 20 [.m 44 43,.pick 43 (.t 38) (.c (.bool true)) (.t 42)] ZO))
def ZQ:DT:=(.sk 33 false 3 12 37 (.tk 14 [.m 38 37,.pick 37 (.t 33) (.c (.bool true)) (.t 36)] ZP))
def ZR:DT:=(.tg 81 false 62 [.b 86 .gtr 83 85,.len 85 false (.t 84),.m 84 1,.l 83 82,.f 82 6 1] (.tk 64 [.m 88 87,.pick 87 (.t 81) (.c (.bool true)) (.t 86)] (.test 88 cd (.tg 88 false 75 [.b 99 .neq 96 98,.l 98 97,.f 97 6 0,.l 96 95,.idx 95 1 (.t 94) (.i 0),.l 94 93,.idx 93 1 (.t 89) (.t 92),.bin 92 .sub (.t 91) (.i 1),.l 91 90,.f 90 6 1,.m 89 1] (.tk 76 [.pick 100 (.t 88) (.c (.bool true)) (.t 99)] .done)))))
def WE:DT:=(.tg 57 false 34 [.m 58 3] (.only 34 (some (57,false)) (.cx (some 59) [.t 58,.c (.int .i64 0),.c (.int .i64 1000)] Am) false [] (.tg 57 false 36 [.un 60 .not (.t 59)] (.tk 38 [.m 62 61,.pick 61 (.t 57) (.c (.bool true)) (.t 60)] (.test 62 ZL (.tg 62 false 40 [.len 64 true (.t 63),.m 63 4] (.only 40 (some (62,false)) (.cx (some 65) [.t 64,.c (.int .i64 1),.c (.int .i64 12)] Am) false [] (.tg 62 false 42 [.un 66 .not (.t 65)] (.tk 44 [.m 68 67,.pick 67 (.t 62) (.c (.bool true)) (.t 66)] (.test 68 ZK (.tg 68 false 47 [.bin 71 .gtr (.t 70) (.i 20),.len 70 true (.t 69),.m 69 5] (.tk 49 [.m 73 72,.pick 72 (.t 68) (.c (.bool true)) (.t 71)] (.test 73 ZJ (.tg 73 false 52 [.m 76 75,.bin 75 .eql (.t 74) (.i 2),.m 74 2] (.test 76 (.tg 76 true 54 [.bin 78 .neq (.t 77) (.c (.str ⟨#[]⟩)),.m 77 5] (.tg 73 false 55 [.pick 79 (.t 76) (.t 78) (.c (.bool false))] (.tk 57 [.m 81 80,.pick 80 (.t 73) (.c (.bool true)) (.t 79)] (.test 81 ZI ZR)))) (.sk 76 true 2 54 79 (.tg 73 false 55 [.pick 79 (.t 76) (.t 78) (.c (.bool false))] (.tk 57 [.m 81 80,.pick 80 (.t 73) (.c (.bool true)) (.t 79)] ZR))))))))))))))))))
def Oe:AG:=(.seq (.seq (.region [.m 160 21,.m 161 20,.len 162 false (.t 161),.b 163 .lss 160 162] [2,6,12,16,17,18,19,20,21,163]) (.cond (.t 163) .skip (.exit 0))) (.seq (.block 1 [2,6,12,16,17,18,19,20,21] (.seq (.seq (.draw (Ea 7 [(1,[]),(2,[0,1]),(4,[]),(6,[3,5])]) (.tk 7 [.b 172 .eql 169 171,.l 171 170,.f 170 6 0,.l 169 168,.idx 168 1 (.t 166) (.t 167),.m 167 21,.m 166 20] .done) [2,6,12,16,17,18,19,20,21,172]) (.cond (.t 172) (.exit 1) .skip)) (.seq (.draw (Ea 13 [(2,[]),(3,[]),(4,[2,3]),(6,[]),(8,[]),(10,[1,5,7,9]),(11,[]),(12,[10,11])]) (.tk 11 [.bu 183 AJ [(0,1,.c (.int .i64 7)),(1,1,.t 174),(2,1,.t 178),(3,1,.t 180),(4,1,.t 182)],.l 182 181,.f 181 18 8,.l 180 179,.f 179 6 1,.l 178 177,.idx 177 1 (.t 175) (.t 176),.m 176 21,.m 175 20,.l 174 173,.f 173 6 0] (.only 11 none (.al 22 AJ) false [] (.only 12 none (.store (.t 22) (.t 183) 6 false) false [] .done))) [2,6,12,16,17,18,19,20,21,22]) (.seqc [2,6,12,16,17,18,19,20,21,22] (.seq (.region [.m 184 2,.bin 185 .eql (.t 184) (.i 1)] [2,6,12,16,17,18,19,20,21,22,185]) (.cond (.t 185) (.seq (.region [.f 186 22 0,.store (.t 186) (.i 5) 1 false] [2,6,12,16,17,18,19,20,21,22]) (.region [.ls 187 19 3,.brow 188 38 AF [.t 187],.f 189 22 5,.store (.t 189) (.t 188) 1 false] [2,6,12,16,17,18,19,20,21,22])) .skip)) (.region [.m 190 16,.ls 191 22 6,.blst 192 AJ [.t 191],.app 193 97 AJ (.t 190) (.t 192),.m 16 193] [2,6,12,16,17,18,19,20,21]))))) (.region [.m 164 21,.bin 165 .add (.t 164) (.i 1),.m 21 165] [2,6,12,16,17,18,19,20,21])))
def WF:AG:=(.seq (.region [.ls 194 18 16,.m 195 16,.m 196 17,.store (.t 12) (.t 194) 16 false,.m 13 195,.m 14 196,.mv 15 (.c (.bool true))] [12,13,14,15]) .ret)
def Of:AG:=(.seq (.region [.m 134 1,.f 135 6 1,.l 136 135,.bin 137 .sub (.t 136) (.i 1),.idx 138 1 (.t 134) (.t 137),.l 139 138,.m 20 139] [2,3,6,12,16,17,18,19,20]) (.seq (.draw (Ea 12 [(1,[]),(2,[]),(4,[]),(5,[]),(6,[]),(8,[5,7]),(9,[0,1,3,4,8])]) (.tk 8 [.l 147 146,.f 146 6 0,.m 145 20,.ls 144 19 3,.l 143 142,.f 142 18 8,.m 141 3,.m 140 2] (.only 8 none (.cl 148 [145,147] Vp) false [] (.tk 11 [.f 150 18 9,.bu 149 Mw [(0,1,.t 140),(1,1,.t 141),(2,1,.t 143),(3,3,.t 144),(6,1,.t 148)]] (.only 11 none (.store (.t 150) (.t 149) 7 false) false [] .done)))) [2,6,12,16,17,18,19,20]) (.seq (.seq (.region [.f 151 18 9,.f 152 151 6,.l 153 152,.len 154 false (.t 153),.bin 155 .eql (.t 154) (.i 0)] [2,6,12,16,17,18,19,20,155]) (.cond (.t 155) (.seq (.region [.cl 156 [18] Vq,.m 17 156] [12,16,17,18]) (.seq (.region [.ls 157 18 16,.m 158 16,.m 159 17,.store (.t 12) (.t 157) 16 false,.m 13 158,.m 14 159,.mv 15 (.c (.bool true))] [12,13,14,15]) .ret)) .skip)) (.seq (.seq (.region [.mv 21 (.i 0)] [2,6,12,16,17,18,19,20,21]) (.block 0 [12,16,17,18] (.loop [2,6,12,16,17,18,19,20,21] Oe))) WF))))
def WG:AG:=(.seq (.region [.ls 104 6 16,.cl 105 [104] Hc,.al 18 X,.store (.t 18) (.t 105) 16 false] [1,2,3,4,5,6,12,16,17,18]) (.seq (.region [.f 106 6 8,.l 107 106,.bin 108 .add (.t 107) (.i 1),.f 109 18 8,.store (.t 109) (.t 108) 1 false] [1,2,3,4,5,6,12,16,17,18]) (.seq (.region [.m 110 4,.m 111 5,.f 112 6 1,.l 113 112,.bin 114 .mul (.i 1000) (.t 113),.f 115 18 8,.l 116 115,.b 117 .add 114 116,.bu 118 AF [(0,1,.t 110),(1,1,.t 111),(2,1,.t 117)],.al 19 AF,.store (.t 19) (.t 118) 3 false] [1,2,3,4,6,12,16,17,18,19]) (.seq (.seq (.draw (Ea 12 [(5,[2]),(6,[4,5]),(7,[2]),(8,[6,7]),(9,[2]),(10,[8,9])]) (.tk 3 [.m 121 120,.bin 120 .eql (.t 119) (.i 1),.m 119 2] (.test 121 (.tg 121 true 6 [.ls 124 19 3,.l 123 122,.f 122 6 7] (.tg 121 true 8 [.m 126 4] (.tg 121 true 10 [.ls 128 19 3] (.only 6 (some (121,true)) (.cl 125 [123,124] SJ) false [] (.only 8 (some (121,true)) (.cl 127 [125,126] f5) false [] (.tg 121 true 11 [.eqs 129 true AF (.t 127) (.t 128)] (.tk 12 [.pick 130 (.t 121) (.t 129) (.c (.bool false))] .done))))))) (.sk 121 true 8 11 130 (.tk 12 [.pick 130 (.t 121) (.t 129) (.c (.bool false))] .done)))) [1,2,3,6,12,16,17,18,19,130]) (.cond (.t 130) (.seq (.region [.bu 131 X [],.m 132 16,.m 133 17,.store (.t 12) (.t 131) 16 false,.m 13 132,.m 14 133,.mv 15 (.c (.bool false))] [12,13,14,15]) .ret) .skip)) Of))))
def B5:BE:=⟨[.val X,.val (.slice (.slice (.int .i64))),.val (.int .i64),.val (.int .i64),.val .str,.val .str],[⟨12,true,X⟩,⟨13,false,(.slice AJ)⟩,⟨14,false,(.slice BC)⟩,⟨15,false,.bool⟩],(.seq (.region [.box 6 (.t 0) false,.al 12 X,.mv 13 (.c (.nil)),.mv 14 (.c (.nil)),.mv 15 (.c (.bool false))] [1,2,3,4,5,6,12]) (.seq (.region [.brow 23 97 AJ [],.m 16 23] [1,2,3,4,5,6,12,16]) (.seq (.region [.blst 24 BC [],.m 17 24] [1,2,3,4,5,6,12,16,17]) (.seq (.seq (.draw (Ea 76 [(59,[56]),(61,[58,60]),(65,[63]),(68,[64,67]),(72,[63]),(74,[71,73])]) (.tk 1 [.ls 25 6 16] (.only 1 none (.cl 26 [25] P9) false [] (.tk 4 [.m 28 27,.un 27 .not (.t 26)] (.test 28 (.sk 28 false 3 7 32 (.tk 9 [.m 33 32,.pick 32 (.t 28) (.c (.bool true)) (.t 31)] ZQ)) (.tg 28 false 5 [.m 29 1] (.only 5 (some (28,false)) (.cl 30 [29] Jd) false [] (.tg 28 false 7 [.un 31 .not (.t 30)] (.tk 9 [.m 33 32,.pick 32 (.t 28) (.c (.bool true)) (.t 31)] (.test 33 ZQ (.tg 33 false 12 [.un 36 .not (.t 35),.l 35 34,.f 34 6 5] (.tk 14 [.m 38 37,.pick 37 (.t 33) (.c (.bool true)) (.t 36)] (.test 38 ZP (.tg 38 false 18 [.bin 42 .neq (.t 41) (.i 0),.l 41 40,.f 40 39 0,.f 39 6 9] (.tk 20 [.m 44 43,.pick 43 (.t 38) (.c (.bool true)) (.t 42)] (.test 44 ZO (.tg 44 false 23 [.bin 47 .geq (.t 46) (.i 900),.l 46 45,.f 45 6 8] (.tk 25 [.m 49 48,.pick 48 (.t 44) (.c (.bool true)) (.t 47)] (.test 49 ZN (.tg 49 false 28 [.m 52 51,.bin 51 .neq (.t 50) (.i 1),.m 50 2] (.test 52 (.tg 52 true 30 [.bin 54 .neq (.t 53) (.i 2),.m 53 2] (.tg 49 false 31 [.pick 55 (.t 52) (.t 54) (.c (.bool false))] (.tk 33 [.m 57 56,.pick 56 (.t 49) (.c (.bool true)) (.t 55)] (.test 57 ZM WE)))) (.sk 52 true 2 30 55 (.tg 49 false 31 [.pick 55 (.t 52) (.t 54) (.c (.bool false))] (.tk 33 [.m 57 56,.pick 56 (.t 49) (.c (.bool true)) (.t 55)] WE))))))))))))))))))))))) [1,2,3,4,5,6,12,16,17,100]) (.cond (.t 100) (.seq (.region [.bu 101 X [],.m 102 16,.m 103 17,.store (.t 12) (.t 101) 16 false,.m 13 102,.m 14 103,.mv 15 (.c (.bool false))] [12,13,14,15]) .ret) .skip)) WG))))⟩
theorem xd:Au Tryz.prog 106 B5=true:=by kernel_rfl
def cf:DT:=(.sk 37 false 10 32 48 (.tk 33 [.pick 48 (.t 37) (.c (.bool true)) (.t 47)] .done))
def ZS:DT:=(.sk 31 false 4 20 36 (.tk 22 [.m 37 36,.pick 36 (.t 31) (.c (.bool true)) (.t 35)] cf))
def ZT:DT:=(.sk 24 false 5 14 30 (.tk 16 [.m 31 30,.pick 30 (.t 24) (.c (.bool true)) (.t 29)] ZS))
def ZU:DT:=(.sk 60 true 8 18 69 (.tk 20 [.m 10 69,.pick 69 (.t 60) (.t 68) (.c (.bool false))] .done))
def ZV:AG:=(.seq (.seq (.region [.m 90 13,.m 91 1,.m 92 2,.bin 93 .sub (.t 92) (.i 2),.idx 94 1 (.t 91) (.t 93),.l 95 94,.len 96 false (.t 95),.b 97 .lss 90 96] [1,2,3,6,9,11,13,97]) (.cond (.t 97) .skip (.exit 0))) (.seq (.block 1 [1,2,3,6,9,11,13] (.seq (.region [.m 100 1,.m 101 2,.bin 102 .sub (.t 101) (.i 2),.idx 103 1 (.t 100) (.t 102),.l 104 103,.m 105 13,.idx 106 1 (.t 104) (.t 105),.l 107 106,.m 14 107] [1,2,3,6,9,11,13,14]) (.seq (.region [.m 108 14,.f 109 3 0,.l 110 109,.b 111 .neq 108 110] [1,2,3,6,9,11,13,14,111]) (.cond (.t 111) (.region [.m 112 9,.f 113 3 0,.l 114 113,.m 115 14,.m 116 2,.bu 117 AJ [(0,1,.c (.int .i64 1)),(1,1,.t 114),(2,1,.t 115),(3,1,.t 116)],.blst 118 AJ [.t 117],.app 119 97 AJ (.t 112) (.t 118),.m 9 119] [1,2,3,6,9,11,13]) .skip)))) (.region [.m 98 13,.bin 99 .add (.t 98) (.i 1),.m 13 99] [1,2,3,6,9,11,13])))
def ZW:AG:=(.seq (.region [.ls 120 11 16,.cl 121 [120] Hc,.m 122 9,.store (.t 6) (.t 121) 16 false,.m 7 122,.mv 8 (.c (.bool true))] [6,7,8]) .ret)
def ZX:AG:=(.seq (.draw (Ea 10 [(2,[]),(3,[]),(4,[]),(6,[3,5]),(7,[1,2,6]),(8,[]),(9,[7,8])]) (.tk 3 [.m 72 2,.l 71 70,.f 70 3 0] (.tk 6 [.l 75 74,.f 74 3 7] (.only 3 none (.brow 73 38 AF []) false [(8,.al 11 X)] (.only 6 none (.apz 76 38 AF (.t 73) (.t 75)) false [(8,.al 11 X)] (.tk 8 [.bu 77 X [(0,1,.t 71),(1,1,.t 72),(4,1,.c (.bool true)),(7,1,.t 76)]] (.only 8 none (.al 11 X) true [] (.only 9 none (.store (.t 11) (.t 77) 16 false) false [] .done))))))) [1,2,3,6,9,10,11]) (.seq (.seq (.region [.m 78 10] [1,2,3,6,9,11,78]) (.cond (.t 78) (.seq (.draw (Ea 9 [(1,[]),(3,[0,2]),(5,[]),(7,[4,6])]) (.tk 7 [.l 85 84,.f 84 3 7,.l 83 82,.idx 82 1 (.t 79) (.t 81),.bin 81 .sub (.t 80) (.i 1),.m 80 2,.m 79 1] (.only 7 none (.cl 86 [11,83,85] f7) false [] (.tk 9 [.m 12 86] .done))) [6,11,12]) (.seq (.region [.ls 87 11 16,.cl 88 [87] Hc,.m 89 12,.store (.t 6) (.t 88) 16 false,.m 7 89,.mv 8 (.c (.bool true))] [6,7,8]) .ret)) .skip)) (.seq (.seq (.region [.mv 13 (.i 0)] [1,2,3,6,9,11,13]) (.block 0 [6,9,11] (.loop [1,2,3,6,9,11,13] ZV))) ZW)))
def ZY:AG:=(.seq (.draw (Ea 20 [(5,[2]),(7,[4,6]),(11,[9]),(13,[10,12]),(15,[9]),(17,[14,16])]) (.tk 3 [.m 53 52,.l 52 51,.f 51 3 3] (.test 53 (.tg 53 true 8 [.b 58 .eql 55 57,.bin 57 .sub (.t 56) (.i 1),.m 56 2,.l 55 54,.f 54 3 1] (.tk 10 [.m 60 59,.pick 59 (.t 53) (.t 58) (.c (.bool false))] (.test 60 (.tg 60 true 17 [.l 67 66,.f 66 3 0,.l 65 64,.idx 64 1 (.t 61) (.t 63),.bin 63 .sub (.t 62) (.i 2),.m 62 2,.m 61 1] (.only 17 (some (60,true)) (.cl 68 [65,67] Fg) false [] (.tk 20 [.m 10 69,.pick 69 (.t 60) (.t 68) (.c (.bool false))] .done))) ZU))) (.sk 53 true 5 8 59 (.tk 10 [.m 60 59,.pick 59 (.t 53) (.t 58) (.c (.bool false))] ZU)))) [1,2,3,6,9,10]) ZX)
def DL:BE:=⟨[.val X,.val (.slice (.slice (.int .i64))),.val (.int .i64)],[⟨6,true,X⟩,⟨7,false,(.slice AJ)⟩,⟨8,false,.bool⟩],(.seq (.region [.box 3 (.t 0) false,.al 6 X,.mv 7 (.c (.nil)),.mv 8 (.c (.bool false))] [1,2,3,6]) (.seq (.region [.brow 15 97 AJ [],.m 9 15] [1,2,3,6,9]) (.seq (.seq (.draw (Ea 33 [(10,[8]),(12,[9,11]),(17,[15]),(19,[16,18]),(23,[21]),(25,[22,24]),(29,[21]),(31,[28,30])]) (.tk 1 [.ls 16 3 16] (.only 1 none (.cl 17 [16] P9) false [] (.tk 4 [.m 19 18,.un 18 .not (.t 17)] (.test 19 (.sk 19 false 3 7 23 (.tk 9 [.m 24 23,.pick 23 (.t 19) (.c (.bool true)) (.t 22)] ZT)) (.tg 19 false 5 [.m 20 1] (.only 5 (some (19,false)) (.cl 21 [20] Jd) false [] (.tg 19 false 7 [.un 22 .not (.t 21)] (.tk 9 [.m 24 23,.pick 23 (.t 19) (.c (.bool true)) (.t 22)] (.test 24 ZT (.tg 24 false 12 [.len 27 false (.t 26),.m 26 1,.m 25 2] (.only 12 (some (24,false)) (.cx (some 28) [.t 25,.c (.int .i64 2),.t 27] Am) false [] (.tg 24 false 14 [.un 29 .not (.t 28)] (.tk 16 [.m 31 30,.pick 30 (.t 24) (.c (.bool true)) (.t 29)] (.test 31 ZS (.tg 31 false 20 [.b 35 .leq 32 34,.l 34 33,.f 33 3 1,.m 32 2] (.tk 22 [.m 37 36,.pick 36 (.t 31) (.c (.bool true)) (.t 35)] (.test 37 cf (.tg 37 false 32 [.b 47 .neq 44 46,.l 46 45,.f 45 3 0,.l 44 43,.idx 43 1 (.t 42) (.i 0),.l 42 41,.idx 41 1 (.t 38) (.t 40),.bin 40 .sub (.t 39) (.i 1),.m 39 2,.m 38 1] (.tk 33 [.pick 48 (.t 37) (.c (.bool true)) (.t 47)] .done))))))))))))))))))) [1,2,3,6,9,48]) (.cond (.t 48) (.seq (.region [.bu 49 X [],.m 50 9,.store (.t 6) (.t 49) 16 false,.m 7 50,.mv 8 (.c (.bool false))] [6,7,8]) .ret) .skip)) ZY)))⟩
theorem xe:Au Tryz.prog 107 DL=true:=by kernel_rfl
def WH:DT:=(.sk 95 true 9 25 105 (.tk 26 [.pick 105 (.t 95) (.t 104) (.c (.bool false))] .done))
def UK:DT:=(.sk 91 true 2 14 94 (.tk 16 [.m 95 94,.pick 94 (.t 91) (.t 93) (.c (.bool false))] WH))
def UL:AG:=(.cond (.t 105) (.seq (.region [.ls 106 3 16,.f 107 5 3,.l 108 107,.cl 109 [106,108] cB,.al 12 X,.store (.t 12) (.t 109) 16 false] [3,5,6,11,12]) (.seq (.draw (Ea 17 [(1,[]),(3,[]),(5,[]),(7,[]),(8,[]),(10,[7,9]),(11,[2,4,6,10]),(13,[]),(14,[0,10]),(15,[12,14]),(16,[13,15])]) (.tk 7 [.l 116 115,.f 115 5 3,.l 114 113,.f 113 5 1,.l 112 111,.f 111 3 0,.ls 110 12 16] (.tk 10 [.l 119 118,.f 118 3 7] (.tk 14 [.m 123 11] (.only 7 none (.brow 117 38 AF []) false [] (.only 10 none (.apz 120 38 AF (.t 117) (.t 119)) false [] (.tk 12 [.bu 121 AJ [(0,1,.c (.int .i64 2)),(1,1,.t 112),(2,1,.t 114),(3,1,.t 116),(5,1,.t 120)]] (.only 14 none (.store (.t 6) (.t 110) 16 false) false [(12,.brow 122 97 AJ [.t 121])] (.only 12 none (.brow 122 97 AJ [.t 121]) true [] (.tk 17 [.m 8 123,.m 7 122] .done))))))))) [6,7,8]) .ret)) .skip)
def UM:DT:=(.sk 139 true 6 16 146 (.tk 17 [.pick 146 (.t 139) (.t 145) (.c (.bool false))] .done))
def UN:AG:=(.cond (.t 146) (.seq (.draw (Ea 11 [(2,[]),(4,[]),(5,[]),(7,[4,6]),(8,[1,3,7]),(9,[]),(10,[8,9])]) (.tk 4 [.l 150 149,.f 149 5 3,.l 148 147,.f 147 3 0] (.tk 7 [.l 153 152,.f 152 5 5] (.only 4 none (.brow 151 38 AF []) false [(9,.al 14 X)] (.only 7 none (.apz 154 38 AF (.t 151) (.t 153)) false [(9,.al 14 X)] (.tk 9 [.bu 155 X [(0,1,.t 148),(1,1,.t 150),(3,1,.c (.bool true)),(7,1,.t 154)]] (.only 9 none (.al 14 X) true [] (.only 10 none (.store (.t 14) (.t 155) 16 false) false [] .done))))))) [3,5,6,11,14]) (.seq (.draw (Ea 8 [(1,[]),(2,[]),(3,[1,2]),(4,[]),(5,[0,3]),(7,[4,6])]) (.tk 3 [.ls 158 5 6,.ls 157 3 16,.ls 156 14 16] (.tk 5 [.m 160 11] (.only 3 none (.cx (some 159) [.t 157,.t 158,.c (.int .i64 4)] LH) false [] (.only 5 none (.store (.t 6) (.t 156) 16 false) false [] (.tk 8 [.m 8 160,.m 7 159] .done))))) [6,7,8]) .ret)) .skip)
def UO:AG:=(.seq (.region [.ls 161 9 16,.m 162 10,.m 163 11,.store (.t 6) (.t 161) 16 false,.m 7 162,.m 8 163] [6,7,8]) .ret)
def NC:AG:=(.seq (.region [.m 124 1,.f 125 5 3,.l 126 125,.bin 127 .sub (.t 126) (.i 1),.idx 128 1 (.t 124) (.t 127),.l 129 128,.m 13 129] [3,5,6,9,10,11,13]) (.seq (.seq (.draw (Ea 17 [(5,[3]),(7,[4,6]),(13,[9]),(15,[12,14])]) (.tk 4 [.m 133 132,.bin 132 .eql (.t 131) (.i 3),.l 131 130,.f 130 5 0] (.test 133 (.tg 133 true 7 [.l 136 135,.f 135 3 0,.m 134 13] (.only 7 (some (133,true)) (.cl 137 [134,136] Fg) false [] (.tk 10 [.m 139 138,.pick 138 (.t 133) (.t 137) (.c (.bool false))] (.test 139 (.tg 139 true 16 [.b 145 .neq 142 144,.l 144 143,.f 143 3 0,.l 142 141,.idx 141 1 (.t 140) (.i 0),.m 140 13] (.tk 17 [.pick 146 (.t 139) (.t 145) (.c (.bool false))] .done)) UM)))) (.sk 133 true 4 8 138 (.tk 10 [.m 139 138,.pick 138 (.t 133) (.t 137) (.c (.bool false))] UM)))) [3,5,6,9,10,11,146]) UN) UO))
def UP:AG:=(.seq (.seq (.region [.f 63 5 3,.l 64 63,.f 65 3 1,.l 66 65,.b 67 .eql 64 66] [1,3,5,6,9,10,11,67]) (.cond (.t 67) (.seq (.draw (Ea 15 [(1,[]),(2,[]),(5,[1,4]),(7,[]),(8,[0,6,7]),(10,[8]),(11,[8]),(12,[9,10,11])]) (.tk 8 [.ls 75 5 6,.l 74 73,.idx 73 1 (.t 69) (.t 72),.bin 72 .sub (.t 71) (.i 1),.l 71 70,.f 70 3 1,.m 69 1,.ls 68 3 16] (.only 8 none (.cl 76 [68,74,75] uy) false [] (.tk 12 [.ext 79 (.t 76) 2,.ext 78 (.t 76) 1,.ext 77 (.t 76) 0] (.only 12 none (.store (.t 6) (.t 77) 16 false) false [] (.tk 15 [.m 8 79,.m 7 78] .done))))) [6,7,8]) .ret) .skip)) (.seq (.seq (.draw (Ea 26 [(6,[3]),(9,[5,8]),(17,[15]),(20,[16,19]),(22,[15]),(24,[21,23])]) (.tk 4 [.m 83 82,.bin 82 .eql (.t 81) (.i 1),.l 81 80,.f 80 5 0] (.test 83 (.tg 83 true 10 [.b 89 .eql 85 88,.bin 88 .add (.t 87) (.i 1),.l 87 86,.f 86 3 1,.l 85 84,.f 84 5 3] (.tk 12 [.m 91 90,.pick 90 (.t 83) (.t 89) (.c (.bool false))] (.test 91 (.tg 91 true 14 [.l 93 92,.f 92 3 3] (.tk 16 [.m 95 94,.pick 94 (.t 91) (.t 93) (.c (.bool false))] (.test 95 (.tg 95 true 24 [.l 103 102,.f 102 3 0,.l 101 100,.idx 100 1 (.t 96) (.t 99),.bin 99 .sub (.t 98) (.i 1),.l 98 97,.f 97 3 1,.m 96 1] (.only 24 (some (95,true)) (.cl 104 [101,103] Fg) false [] (.tk 26 [.pick 105 (.t 95) (.t 104) (.c (.bool false))] .done))) WH))) UK))) (.sk 83 true 6 10 90 (.tk 12 [.m 91 90,.pick 90 (.t 83) (.t 89) (.c (.bool false))] UK)))) [1,3,5,6,9,10,11,105]) UL) NC))
def Bv:BE:=⟨[.val X,.val (.slice (.slice (.int .i64))),.val AJ],[⟨6,true,X⟩,⟨7,false,(.slice AJ)⟩,⟨8,false,(.slice BC)⟩],(.seq (.region [.box 3 (.t 0) false,.box 5 (.t 2) false,.al 6 X,.mv 7 (.c (.nil)),.mv 8 (.c (.nil))] [1,3,5,6]) (.seq (.region [.ls 15 3 16,.cl 16 [15] Hc,.al 9 X,.store (.t 9) (.t 16) 16 false] [1,3,5,6,9]) (.seq (.region [.blst 17 AJ [],.m 10 17] [1,3,5,6,9,10]) (.seq (.region [.blst 18 BC [],.m 11 18] [1,3,5,6,9,10,11]) (.seq (.seq (.region [.ls 19 3 16,.cl 20 [19] P9,.un 21 .not (.t 20),.m 22 21,.sc 22 false [.m 23 1,.cl 24 [23] Jd,.un 25 .not (.t 24)] 26 (.c (.bool true)) (.t 25),.m 27 26,.sc 27 false [.ls 28 5 6,.cl 29 [28] xI,.un 30 .not (.t 29)] 31 (.c (.bool true)) (.t 30),.m 32 31,.sc 32 false [.f 33 5 2,.l 34 33,.f 35 3 0,.l 36 35,.b 37 .neq 34 36] 38 (.c (.bool true)) (.t 37),.m 39 38,.sc 39 false [.f 40 5 3,.l 41 40,.f 42 3 1,.l 43 42,.b 44 .lss 41 43] 45 (.c (.bool true)) (.t 44),.m 46 45,.sc 46 false [.f 47 5 3,.l 48 47,.m 49 1,.len 50 false (.t 49),.b 51 .gtr 48 50] 52 (.c (.bool true)) (.t 51),.m 53 52,.sc 53 false [.f 54 3 1,.l 55 54,.m 56 1,.len 57 false (.t 56),.b 58 .gtr 55 57] 59 (.c (.bool true)) (.t 58)] [1,3,5,6,9,10,11,59]) (.cond (.t 59) (.seq (.region [.ls 60 9 16,.m 61 10,.m 62 11,.store (.t 6) (.t 60) 16 false,.m 7 61,.m 8 62] [6,7,8]) .ret) .skip)) UP)))))⟩
theorem sg:Au Tryz.prog 108 Bv=true:=by kernel_rfl
def cg:AG:=(.cond (.t 39) (.seq (.region [.mv 2 (.c (.bool true))] [2]) .ret) (.seq (.region [.bin 43 .eql (.t 38) (.i 5),.m 42 43] [1,42]) (.cond (.t 42) (.seq (.region [.f 44 1 5,.l 45 44,.len 46 false (.t 45),.bin 47 .eql (.t 46) (.i 1),.m 2 47] [2]) .ret) .skip)))
def ci:AG:=(.seq (.region [.f 48 1 5,.l 49 48,.len 50 false (.t 49),.bin 51 .eql (.t 50) (.i 0),.m 2 51] [2]) .ret)
def cj:AG:=(.seq (.seq (.region [.f 37 1 0,.l 38 37] [1,38]) (.block 0 [1] (.seqc [1,38,39] (.seq (.region [.bin 40 .eql (.t 38) (.i 2),.m 39 40] [1,38,39]) (.cond (.t 39) .skip (.region [.bin 41 .eql (.t 38) (.i 3),.m 39 41] [1,38,39]))) cg))) ci)
def Fj:BE:=⟨[.val AJ],[⟨2,false,.bool⟩],(.seq (.region [.box 1 (.t 0) false,.mv 2 (.c (.bool false))] [1]) (.seq (.seq (.region [.f 3 1 0,.l 4 3,.cx (some 5) [.t 4,.c (.int .i64 1),.c (.int .i64 8)] At,.un 6 .not (.t 5),.m 7 6,.sc 7 false [.f 8 1 1,.l 9 8,.cl 10 [9] HJ,.un 11 .not (.t 10)] 12 (.c (.bool true)) (.t 11),.m 13 12,.sc 13 false [.f 14 1 2,.l 15 14,.cl 16 [15] HJ,.un 17 .not (.t 16)] 18 (.c (.bool true)) (.t 17),.m 19 18,.sc 19 false [.f 20 1 3,.l 21 20,.cx (some 22) [.t 21,.c (.int .i64 1),.c (.int .i64 9)] At,.un 23 .not (.t 22)] 24 (.c (.bool true)) (.t 23),.m 25 24,.sc 25 false [.f 26 1 4,.l 27 26,.cx (some 28) [.t 27,.c (.int .i64 0),.c (.int .i64 1000000000)] At,.un 29 .not (.t 28)] 30 (.c (.bool true)) (.t 29),.m 31 30,.sc 31 false [.f 32 1 5,.l 33 32,.cl 34 [33] Mx,.un 35 .not (.t 34)] 36 (.c (.bool true)) (.t 35)] [1,36]) (.cond (.t 36) (.seq (.region [.mv 2 (.c (.bool false))] [2]) .ret) .skip)) cj))⟩
theorem xf:Au Tryz.prog 109 Fj=true:=by kernel_rfl
def Ph:DT:=(.sk 31 true 5 19 37 (.tk 20 [.pick 37 (.t 31) (.t 36) (.c (.bool false))] .done))
def Pi:AG:=(.cond (.t 37) (.seq (.draw (Ea 14 [(1,[]),(2,[]),(7,[1,6]),(9,[]),(11,[0,8,10])]) (.tk 11 [.l 48 47,.f 47 5 5,.l 46 45,.idx 45 1 (.t 39) (.t 44),.bin 44 .sub (.t 43) (.i 1),.l 43 42,.f 42 41 1,.n 41 40,.m 40 0,.m 39 1,.m 38 0] (.only 11 none (.cl 49 [38,46,48] M2) false [] (.tk 14 [.mv 7 (.c (.nil)),.m 6 49] .done))) [6,7]) .ret) .skip)
def Pj:AG:=(.cond (.t 75) (.seq (.draw (Ea 11 [(1,[]),(5,[]),(7,[4,6]),(8,[0,7])]) (.tk 7 [.l 82 81,.f 81 5 1,.l 80 79,.f 79 78 6,.n 78 77,.m 77 0,.m 76 0] (.only 7 none (.cl 83 [80,82] cC) false [] (.tk 10 [.f 85 84 6,.n 84 76] (.only 10 none (.store (.t 85) (.t 83) 1 false) false [] .done)))) [0]) (.region [.m 86 0,.m 87 0,.n 88 87,.f 89 88 5,.l 90 89,.m 91 90,.sc 91 false [.m 92 0,.n 93 92,.f 94 93 6,.l 95 94,.len 96 false (.t 95),.bin 97 .eql (.t 96) (.i 0),.m 98 97,.sc 98 true [.m 99 0,.n 100 99,.f 101 100 3,.l 102 101] 103 (.t 102) (.c (.bool false))] 104 (.c (.bool true)) (.t 103),.n 105 86,.f 106 105 5,.store (.t 106) (.t 104) 1 false] [])) .skip)
def OF:AG:=(.cond (.t 107) (.seq (.region [.m 110 0,.ls 111 5 6,.cl 112 [110,111] fF,.m 6 112,.mv 7 (.c (.nil))] [6,7]) .ret) (.seq (.region [.bin 114 .eql (.t 9) (.i 6),.m 113 114] [0,5,9,113]) (.cond (.t 113) (.seq (.region [.m 115 0,.ls 116 5 6,.cx (some 117) [.t 115,.c (.int .i64 1),.t 116] Pa,.mv 6 (.c (.nil)),.m 7 117] [6,7]) .ret) (.seq (.region [.bin 119 .eql (.t 9) (.i 8),.m 118 119] [0,5,118]) (.cond (.t 118) (.seq (.region [.m 120 0,.ls 121 5 6,.cx (some 122) [.t 120,.c (.int .i64 2),.t 121] Pa,.mv 6 (.c (.nil)),.m 7 122] [6,7]) .ret) .skip)))))
def OG:AG:=(.seq (.region [.mv 6 (.c (.nil)),.mv 7 (.c (.nil))] [6,7]) .ret)
def CS:BE:=⟨[.ptr X,.val (.slice (.slice (.int .i64))),.val AJ],[⟨6,false,(.slice AJ)⟩,⟨7,false,(.slice BC)⟩],(.seq (.region [.box 5 (.t 2) false,.mv 6 (.c (.nil)),.mv 7 (.c (.nil))] [0,1,5]) (.seq (.seq (.region [.f 8 5 0,.l 9 8] [0,1,5,9]) (.block 0 [] (.seq (.region [.bin 11 .eql (.t 9) (.i 1),.m 10 11] [0,1,5,9,10]) (.cond (.t 10) (.seq (.region [.m 12 0,.m 13 1,.ls 14 5 6,.cl 15 [12,13,14] gh,.m 6 15,.mv 7 (.c (.nil))] [6,7]) .ret) (.seq (.region [.bin 17 .eql (.t 9) (.i 2),.m 16 17] [0,1,5,9,16]) (.cond (.t 16) (.seq (.draw (Ea 20 [(2,[]),(6,[1,5])]) (.tk 8 [.m 25 24,.b 24 .eql 19 23,.l 23 22,.f 22 21 1,.n 21 20,.m 20 0,.l 19 18,.f 18 5 3] (.test 25 (.tg 25 true 12 [.l 29 28,.f 28 27 4,.n 27 26,.m 26 0] (.tk 14 [.m 31 30,.pick 30 (.t 25) (.t 29) (.c (.bool false))] (.test 31 (.tg 31 true 19 [.un 36 .not (.t 35),.l 35 34,.f 34 33 3,.n 33 32,.m 32 0] (.tk 20 [.pick 37 (.t 31) (.t 36) (.c (.bool false))] .done)) Ph))) (.sk 25 true 4 12 30 (.tk 14 [.m 31 30,.pick 30 (.t 25) (.t 29) (.c (.bool false))] Ph)))) [0,1,5,37]) Pi) (.seq (.region [.bin 51 .eql (.t 9) (.i 3),.m 50 51] [0,1,5,9,50]) (.cond (.t 50) (.seq (.draw (Ea 11 [(1,[]),(2,[]),(5,[1,4]),(7,[]),(8,[0,6,7])]) (.tk 8 [.ls 59 5 6,.l 58 57,.idx 57 1 (.t 53) (.t 56),.bin 56 .sub (.t 55) (.i 1),.l 55 54,.f 54 5 3,.m 53 1,.m 52 0] (.only 8 none (.cl 60 [52,58,59] bD) false [] (.tk 11 [.mv 7 (.c (.nil)),.m 6 60] .done))) [6,7]) .ret) (.seq (.region [.bin 62 .eql (.t 9) (.i 4),.m 61 62] [0,5,9,61]) (.cond (.t 61) (.seq (.draw (Ea 13 [(2,[]),(6,[1,5])]) (.tk 8 [.m 70 69,.b 69 .eql 64 68,.l 68 67,.f 67 66 1,.n 66 65,.m 65 0,.l 64 63,.f 63 5 3] (.test 70 (.tg 70 true 12 [.l 74 73,.f 73 72 4,.n 72 71,.m 71 0] (.tk 13 [.pick 75 (.t 70) (.t 74) (.c (.bool false))] .done)) (.sk 70 true 4 12 75 (.tk 13 [.pick 75 (.t 70) (.t 74) (.c (.bool false))] .done)))) [0,5,75]) Pj) (.seqc [0,5,9,107] (.seq (.region [.bin 108 .eql (.t 9) (.i 5),.m 107 108] [0,5,9,107]) (.cond (.t 107) .skip (.region [.bin 109 .eql (.t 9) (.i 7),.m 107 109] [0,5,9,107]))) OF))))))))))) OG))⟩
theorem gw:Au Tryz.prog 110 CS=true:=by kernel_rfl
def EH:AG:=(.seq (.region [.b 9 .lss 8 7] [0,1,7,8,9]) (.seq (.cond (.t 9) .skip (.exit 0)) (.seq (.block 1 [0,1,7,8] (.seq (.region [.m 10 8,.m 5 10] [0,1,5,7,8]) (.seq (.region [.m 11 1,.m 12 0,.m 13 5,.idx 14 9 (.t 12) (.t 13),.ls 15 14 9,.call (some 16) 92 [(.t 15,.val AI),(.t 11,.cap 92 AI)] [.bool]] [0,1,5,7,8,16]) (.cond (.t 16) (.seq (.region [.m 17 5,.m 4 17] [4]) .ret) .skip)))) (.region [.bin 18 .add (.t 8) (.i 1),.m 8 18] [0,1,7,8]))))
def EI:AG:=(.seq (.region [.mv 4 (.c (.int .i64 (-1)))] [4]) .ret)
def Ag:BE:=⟨[.val (.slice AI),.val (.clo 92 AI)],[⟨4,false,(.int .i64)⟩],(.seq (.region [.mv 4 (.i 0)] [0,1]) (.seq (.seq (.region [.m 6 0,.len 7 false (.t 6),.mv 8 (.i 0)] [0,1,7,8]) (.block 0 [] (.loop [0,1,7,8] EH))) EI))⟩
theorem Jf:Au Tryz.prog 111 Ag=true:=by kernel_rfl
def K5:AG:=(.seq (.draw (Ea 20 [(4,[2]),(9,[3,8]),(13,[2]),(17,[12,16])]) (.tk 1 [.m 34 1] (.only 1 none (.cl 35 [34] Ha) false [] (.tk 3 [.m 36 35] (.test 36 (.tg 36 true 18 [.b 51 .eql 46 50,.l 50 49,.f 49 48 0,.n 48 47,.m 47 0,.l 46 45,.idx 45 1 (.t 44) (.i 0),.l 44 43,.idx 43 1 (.t 37) (.t 42),.bin 42 .sub (.t 41) (.i 1),.l 41 40,.f 40 39 1,.n 39 38,.m 38 0,.m 37 1] (.tk 20 [.m 4 52,.pick 52 (.t 36) (.t 51) (.c (.bool false))] .done)) (.sk 36 true 15 18 52 (.tk 20 [.m 4 52,.pick 52 (.t 36) (.t 51) (.c (.bool false))] .done)))))) [4]) .ret)
def C2:BE:=⟨[.ptr X,.val (.slice (.slice (.int .i64)))],[⟨4,false,.bool⟩],(.seq (.region [.mv 4 (.c (.bool false))] [0,1]) (.seq (.seq (.region [.m 5 0,.n 6 5,.f 7 6 5,.l 8 7,.un 9 .not (.t 8),.m 10 9,.sc 10 false [.m 11 0,.n 12 11,.f 13 12 9,.f 14 13 0,.l 15 14,.bin 16 .neq (.t 15) (.i 0)] 17 (.c (.bool true)) (.t 16),.m 18 17,.sc 18 false [.m 19 0,.n 20 19,.f 21 20 8,.l 22 21,.bin 23 .eql (.t 22) (.i 900)] 24 (.c (.bool true)) (.t 23),.m 25 24,.sc 25 false [.m 26 0,.n 27 26,.f 28 27 1,.l 29 28,.m 30 1,.len 31 false (.t 30),.b 32 .gtr 29 31] 33 (.c (.bool true)) (.t 32)] [0,1,33]) (.cond (.t 33) (.seq (.region [.mv 4 (.c (.bool false))] [4]) .ret) .skip)) K5))⟩
theorem Xu:Au Tryz.prog 113 C2=true:=by kernel_rfl
def ZZ:AG:=(.seq (.region [.b 10 .lss 9 8] [1,4,7,8,9,10]) (.seq (.cond (.t 10) .skip (.exit 0)) (.seq (.block 1 [1,4,7,8,9] (.seq (.region [.idx 11 3 (.t 7) (.t 9),.ls 12 11 3,.al 6 AF,.store (.t 6) (.t 12) 3 false] [1,4,6,7,8,9]) (.seq (.region [.f 13 6 0,.l 14 13,.m 15 1,.b 16 .eql 14 15] [1,4,6,7,8,9,16]) (.cond (.t 16) (.seq (.region [.ls 17 6 3,.store (.t 4) (.t 17) 3 false] [4]) .ret) .skip)))) (.region [.bin 18 .add (.t 9) (.i 1),.m 9 18] [1,4,7,8,9]))))
def Za:AG:=(.seq (.region [.bu 19 AF [],.store (.t 4) (.t 19) 3 false] [4]) .ret)
def Fv:BE:=⟨[.val (.slice AF),.val .str],[⟨4,true,AF⟩],(.seq (.region [.al 4 AF] [0,1,4]) (.seq (.seq (.region [.m 7 0,.len 8 false (.t 7),.mv 9 (.i 0)] [1,4,7,8,9]) (.block 0 [4] (.loop [1,4,7,8,9] ZZ))) Za))⟩
theorem vG:Au Tryz.prog 114 Fv=true:=by kernel_rfl
def ND:AG:=(.seq (.region [.b 11 .lss 10 9] [0,5,8,9,10,11]) (.seq (.cond (.t 11) .skip (.exit 0)) (.seq (.block 1 [0,5,8,9,10] (.seq (.region [.idx 12 1 (.t 8) (.t 10),.l 13 12,.m 7 13] [0,5,7,8,9,10]) (.seq (.region [.m 14 7,.m 15 0,.n 16 15,.f 17 16 0,.l 18 17,.b 19 .neq 14 18] [0,5,7,8,9,10,19]) (.cond (.t 19) (.region [.m 20 5,.m 21 7,.blst 22 (.int .i64) [.t 21],.app 23 3 (.int .i64) (.t 20) (.t 22),.m 5 23] [0,5,8,9,10]) .skip)))) (.region [.bin 24 .add (.t 10) (.i 1),.m 10 24] [0,5,8,9,10]))))
def NE:AG:=(.seq (.region [.m 25 5,.m 4 25] [4]) .ret)
def CK:BE:=⟨[.ptr X,.val (.slice (.int .i64))],[⟨4,false,(.slice (.int .i64))⟩],(.seq (.region [.mv 4 (.c (.nil))] [0,1]) (.seq (.region [.nilrow 5 3 (.int .i64)] [0,1,5]) (.seq (.seq (.region [.m 8 1,.len 9 false (.t 8),.mv 10 (.i 0)] [0,5,8,9,10]) (.block 0 [5] (.loop [0,5,8,9,10] ND))) NE)))⟩
theorem cm:Au Tryz.prog 115 CK=true:=by kernel_rfl
def GW:BE:=⟨[.mut (.own 3 (.int .i64))],[],(.seq (.region [.m 3 0,.len 4 false (.t 3),.m 2 4] [0,2]) (.region [.m 5 0,.m 6 2,.m 7 2,.cvi 8 .u64 (.t 7),.cl 9 [8] pD,.cx (some 10) [.t 5,.c (.int .i64 0),.t 6,.t 9] Fh] []))⟩
theorem bF:Au Tryz.prog 116 GW=true:=by kernel_rfl

def Pk:AG:=(.seq (.region [.m 30 0,.bu 31 Mw [],.n 32 30,.f 33 32 9,.store (.t 33) (.t 31) 7 false] [0,3]) (.seq (.draw (Ea 13 [(2,[]),(6,[]),(8,[]),(10,[1,5,7,9])]) (.tk 11 [.bu 44 BC [(0,1,.t 35),(1,1,.t 39),(2,1,.t 41),(3,3,.t 43)],.ls 43 42 3,.f 42 3 3,.l 41 40,.f 40 3 2,.l 39 38,.f 38 37 1,.n 37 36,.m 36 0,.l 35 34,.f 34 3 1] (.only 11 none (.brow 45 126 BC [.t 44]) false [] (.tk 13 [.m 2 45] .done))) [2]) .ret))
def EP:BE:=⟨[.ptr X],[⟨2,false,(.slice BC)⟩],(.seq (.region [.mv 2 (.c (.nil))] [0]) (.seq (.region [.m 4 0,.n 5 4,.f 6 5 9,.ls 7 6 7,.al 3 Mw,.store (.t 3) (.t 7) 7 false] [0,3]) (.seqc [0,3] (.seq (.region [.f 8 3 0,.l 9 8,.bin 10 .eql (.t 9) (.i 1)] [0,3,10]) (.cond (.t 10) (.draw (Ea 11 [(1,[]),(5,[]),(7,[4,6]),(8,[0,7])]) (.tk 7 [.ls 17 16 3,.f 16 3 3,.l 15 14,.f 14 13 7,.n 13 12,.m 12 0,.m 11 0] (.only 7 none (.cl 18 [15,17] cD) false [] (.tk 10 [.f 20 19 7,.n 19 11] (.only 10 none (.store (.t 20) (.t 18) 1 false) false [] .done)))) [0,3]) (.draw (Ea 10 [(4,[]),(7,[3,6])]) (.tk 7 [.l 27 26,.f 26 25 0,.f 25 3 3,.l 24 23,.f 23 22 7,.n 22 21,.m 21 0] (.only 7 none (.cl 28 [24,27] f4) false [] (.tk 9 [.f 29 3 3] (.only 9 none (.store (.t 29) (.t 28) 3 false) false [] .done)))) [0,3]))) Pk)))⟩
theorem gx:Au Tryz.prog 117 EP=true:=by kernel_rfl
def ML:AG:=(.seq (.region [.b 14 .lss 13 12] [0,5,7,11,12,13,14]) (.seq (.cond (.t 14) .skip (.exit 0)) (.seq (.block 1 [0,5,7,11,12,13] (.seq (.region [.idx 15 1 (.t 11) (.t 13),.l 16 15,.m 9 16] [0,5,7,9,11,12,13]) (.seq (.region [.ls 17 5 6,.cl 18 [17] SH,.al 10 AJ,.store (.t 10) (.t 18) 6 false] [0,5,7,9,10,11,12,13]) (.seq (.draw (Ea 15 [(4,[]),(5,[]),(9,[3]),(11,[4,10]),(13,[8,12])]) (.tk 10 [.f 28 10 1,.l 27 26,.f 26 25 1,.n 25 24,.m 24 0,.m 23 9,.l 22 21,.f 21 20 0,.n 20 19,.m 19 0] (.only 10 none (.store (.t 28) (.t 22) 1 false) false [] (.tk 12 [.f 29 10 2] (.only 12 none (.store (.t 29) (.t 23) 1 false) false [] (.tk 14 [.f 30 10 3] (.only 14 none (.store (.t 30) (.t 27) 1 false) false [] .done)))))) [0,5,7,10,11,12,13]) (.region [.m 31 7,.ls 32 10 6,.blst 33 AJ [.t 32],.app 34 97 AJ (.t 31) (.t 33),.m 7 34] [0,5,7,11,12,13]))))) (.region [.bin 35 .add (.t 13) (.i 1),.m 13 35] [0,5,7,11,12,13]))))
def MM:AG:=(.seq (.region [.m 36 7,.m 6 36] [6]) .ret)
def B2:BE:=⟨[.ptr X,.val (.slice (.int .i64)),.val AJ],[⟨6,false,(.slice AJ)⟩],(.seq (.region [.box 5 (.t 2) false,.mv 6 (.c (.nil))] [0,1,5]) (.seq (.region [.nilrow 7 97 AJ] [0,1,5,7]) (.seq (.seq (.region [.m 11 1,.len 12 false (.t 11),.mv 13 (.i 0)] [0,5,7,11,12,13]) (.block 0 [7] (.loop [0,5,7,11,12,13] ML))) MM)))⟩
theorem bG:Au Tryz.prog 118 B2=true:=by kernel_rfl
def JG:BE:=⟨[.ptr X],[],(.region [.m 2 0,.m 3 0,.m 4 0,.m 5 0,.m 6 0,.bu 7 Mw [],.n 8 2,.f 9 8 4,.store (.t 9) (.c (.bool false)) 1 false,.n 10 3,.f 11 10 5,.store (.t 11) (.c (.bool false)) 1 false,.n 12 4,.f 13 12 6,.store (.t 13) (.c (.nil)) 1 false,.n 14 5,.f 15 14 8,.store (.t 15) (.i 0) 1 false,.n 16 6,.f 17 16 9,.store (.t 17) (.t 7) 7 false] [])⟩
theorem jd:Au Tryz.prog 119 JG=true:=by kernel_rfl
def Fk:BE:=⟨[.ptr X,.val (.slice (.int .i64)),.val (.slice AF)],[⟨6,false,(.slice AJ)⟩],(.seq (.region [.mv 6 (.c (.nil))] [0,1,2]) (.seq (.region [.m 8 0,.m 9 1,.cl 10 [8,9] Gv,.m 7 10] [0,2,7]) (.seq (.region [.m 11 0,.m 12 0,.m 13 2,.cl 14 [13] BJ,.n 15 11,.f 16 15 3,.store (.t 16) (.c (.bool true)) 1 true,.n 17 12,.f 18 17 7,.store (.t 18) (.t 14) 1 true] [0,2,7]) (.seq (.region [.m 19 0,.m 20 7,.cl 21 [20] Cz,.n 22 19,.f 23 22 6,.store (.t 23) (.t 21) 1 true] [0,2,7]) (.seq (.region [.m 24 0,.n 25 24,.f 26 25 6,.l 27 26,.cl 28 [27] N_] [0,2,7]) (.seqc [0,2,7] (.seq (.region [.m 29 7,.len 30 false (.t 29),.bin 31 .eql (.t 30) (.i 0)] [0,2,7,31]) (.cond (.t 31) (.region [.m 32 0,.n 33 32,.f 34 33 5,.store (.t 34) (.c (.bool true)) 1 true] [0,2,7]) .skip)) (.seq (.region [.m 35 0,.m 36 7,.m 37 2,.bu 38 AJ [(0,1,.c (.int .i64 3)),(5,1,.t 37)],.cl 39 [35,36,38] Bj,.m 6 39] [6]) .ret)))))))⟩
theorem Xv:Au Tryz.prog 120 Fk=true:=by kernel_rfl
def UQ:AG:=(.seq (.region [.f 71 1 9,.ls 72 71 7,.al 3 Mw,.store (.t 3) (.t 72) 7 false] [1,3]) (.seq (.region [.ls 73 3 7,.cl 74 [73] mb,.m 75 74,.sc 75 false [.f 76 3 0,.l 77 76,.bin 78 .eql (.t 77) (.i 1),.m 79 78,.sc 79 false [.f 80 3 0,.l 81 80,.bin 82 .eql (.t 81) (.i 2)] 83 (.c (.bool true)) (.t 82),.m 84 83,.sc 84 true [.f 85 1 5,.l 86 85] 87 (.t 86) (.c (.bool false)),.m 88 87,.sc 88 true [.f 89 3 1,.l 90 89,.cx (some 91) [.t 90,.c (.int .i64 0),.c (.int .i64 1000)] Am] 92 (.t 91) (.c (.bool false)),.m 93 92,.sc 93 true [.f 94 3 2,.l 95 94,.cx (some 96) [.t 95,.c (.int .i64 1),.c (.int .i64 900)] Am] 97 (.t 96) (.c (.bool false))] 98 (.c (.bool true)) (.t 97),.m 2 98] [2]) .ret))
def Gh:BE:=⟨[.val X],[⟨2,false,.bool⟩],(.seq (.region [.box 1 (.t 0) false,.mv 2 (.c (.bool false))] [1]) (.seq (.seq (.region [.f 4 1 0,.l 5 4,.cx (some 6) [.t 5,.c (.int .i64 1),.c (.int .i64 6)] Am,.un 7 .not (.t 6),.m 8 7,.sc 8 false [.f 9 1 1,.l 10 9,.cx (some 11) [.t 10,.c (.int .i64 1),.c (.int .i64 9)] Am,.un 12 .not (.t 11)] 13 (.c (.bool true)) (.t 12),.m 14 13,.sc 14 false [.f 15 1 5,.l 16 15,.m 17 16,.sc 17 true [.f 18 1 3,.l 19 18,.un 20 .not (.t 19),.m 21 20,.sc 21 false [.f 22 1 4,.l 23 22,.un 24 .not (.t 23)] 25 (.c (.bool true)) (.t 24),.m 26 25,.sc 26 false [.f 27 1 6,.l 28 27,.len 29 false (.t 28),.bin 30 .gtr (.t 29) (.i 0)] 31 (.c (.bool true)) (.t 30)] 32 (.t 31) (.c (.bool false))] 33 (.c (.bool true)) (.t 32),.m 34 33,.sc 34 false [.f 35 1 2,.l 36 35,.m 37 36,.sc 37 true [.f 38 1 3,.l 39 38,.m 40 39,.sc 40 false [.f 41 1 4,.l 42 41] 43 (.c (.bool true)) (.t 42)] 44 (.t 43) (.c (.bool false))] 45 (.c (.bool true)) (.t 44),.m 46 45,.sc 46 false [.f 47 1 6,.l 48 47,.cl 49 [48] f8,.un 50 .not (.t 49)] 51 (.c (.bool true)) (.t 50),.m 52 51,.sc 52 false [.f 53 1 9,.f 54 53 6,.l 55 54,.cl 56 [55] f8,.un 57 .not (.t 56)] 58 (.c (.bool true)) (.t 57),.m 59 58,.sc 59 false [.f 60 1 7,.l 61 60,.cl 62 [61] M3,.un 63 .not (.t 62)] 64 (.c (.bool true)) (.t 63),.m 65 64,.sc 65 false [.f 66 1 8,.l 67 66,.cx (some 68) [.t 67,.c (.int .i64 0),.c (.int .i64 900)] Am,.un 69 .not (.t 68)] 70 (.c (.bool true)) (.t 69)] [1,70]) (.cond (.t 70) (.seq (.region [.mv 2 (.c (.bool false))] [2]) .ret) .skip)) UQ))⟩
theorem pP:Au Tryz.prog 121 Gh=true:=by kernel_rfl
def Zb:AG:=(.seq (.seq (.region [.m 6 5,.m 7 0,.len 8 false (.t 7),.b 9 .lss 6 8] [0,1,4,5,9]) (.cond (.t 9) .skip (.exit 0))) (.seq (.block 1 [0,1,4,5] (.seq (.region [.m 12 0,.m 13 5,.idx 14 3 (.t 12) (.t 13),.f 15 14 0,.l 16 15,.m 17 1,.b 18 .eql 16 17] [0,1,4,5,18]) (.cond (.t 18) (.seq (.region [.m 19 0,.m 20 5,.idx 21 3 (.t 19) (.t 20),.ls 22 21 3,.store (.t 4) (.t 22) 3 false] [4]) .ret) .skip))) (.region [.m 10 5,.bin 11 .add (.t 10) (.i 1),.m 5 11] [0,1,4,5])))
def Zc:AG:=(.seq (.region [.bu 23 AF [],.store (.t 4) (.t 23) 3 false] [4]) .ret)
def Fw:BE:=⟨[.val (.slice AF),.val .str],[⟨4,true,AF⟩],(.seq (.region [.al 4 AF] [0,1,4]) (.seq (.seq (.region [.mv 5 (.i 0)] [0,1,4,5]) (.block 0 [4] (.loop [0,1,4,5] Zb))) Zc))⟩
theorem vH:Au Tryz.prog 122 Fw=true:=by kernel_rfl
def WI:AG:=(.seq (.draw (Ea 18 [(1,[]),(2,[0,1]),(5,[]),(7,[4,6]),(10,[8]),(11,[9,10]),(14,[8]),(16,[13,15])]) (.tk 9 [.m 42 41,.b 41 .eql 38 40,.l 40 39,.f 39 3 0,.l 38 37,.f 37 36 0,.idx 36 3 (.t 34) (.t 35),.m 35 7,.m 34 0] (.test 42 (.tg 42 true 17 [.b 50 .geq 47 49,.l 49 48,.f 48 3 2,.l 47 46,.f 46 45 2,.idx 45 3 (.t 43) (.t 44),.m 44 7,.m 43 0] (.tk 18 [.pick 51 (.t 42) (.t 50) (.c (.bool false))] .done)) (.sk 42 true 8 17 51 (.tk 18 [.pick 51 (.t 42) (.t 50) (.c (.bool false))] .done)))) [0,3,5,6,7,51]) (.cond (.t 51) (.seq (.region [.m 52 5,.m 4 52] [4]) .ret) .skip))
def WJ:AG:=(.region [.m 17 7,.bin 18 .add (.t 17) (.i 1),.m 7 18] [0,3,5,6,7])
def WK:AG:=(.seq (.seq (.region [.m 13 7,.m 14 0,.len 15 false (.t 14),.b 16 .lss 13 15] [0,3,5,6,7,16]) (.cond (.t 16) .skip (.exit 0))) (.seq (.block 1 [0,3,5,6,7] (.seqc [0,3,5,6,7] (.seq (.draw (Ea 8 [(1,[]),(2,[0,1]),(5,[]),(7,[4,6])]) (.tk 8 [.b 26 .lss 23 25,.l 25 24,.f 24 3 0,.l 23 22,.f 22 21 0,.idx 21 3 (.t 19) (.t 20),.m 20 7,.m 19 0] .done) [0,3,5,6,7,26]) (.cond (.t 26) (.region [.m 27 6,.m 28 0,.m 29 7,.idx 30 3 (.t 28) (.t 29),.ls 31 30 3,.blst 32 AF [.t 31],.app 33 38 AF (.t 27) (.t 32),.m 6 33] [0,3,5,6,7]) .skip)) WI)) WJ))
def UR:AG:=(.seq (.seq (.region [.m 57 8,.m 58 0,.len 59 false (.t 58),.b 60 .lss 57 59] [0,3,5,6,8,60]) (.cond (.t 60) .skip (.exit 2))) (.seq (.block 3 [0,3,5,6,8] (.seq (.draw (Ea 8 [(1,[]),(2,[0,1]),(5,[]),(7,[4,6])]) (.tk 8 [.b 70 .gtr 67 69,.l 69 68,.f 68 3 0,.l 67 66,.f 66 65 0,.idx 65 3 (.t 63) (.t 64),.m 64 8,.m 63 0] .done) [0,3,5,6,8,70]) (.cond (.t 70) (.region [.m 71 6,.m 72 0,.m 73 8,.idx 74 3 (.t 72) (.t 73),.ls 75 74 3,.blst 76 AF [.t 75],.app 77 38 AF (.t 71) (.t 76),.m 6 77] [0,3,5,6,8]) .skip))) (.region [.m 61 8,.bin 62 .add (.t 61) (.i 1),.m 8 62] [0,3,5,6,8])))
def NF:AG:=(.seq (.seq (.region [.m 78 0,.cl 79 [78] M3,.un 80 .not (.t 79),.m 81 80,.sc 81 false [.m 82 6,.cl 83 [82] M3,.un 84 .not (.t 83)] 85 (.c (.bool true)) (.t 84)] [5,6,85]) (.cond (.t 85) (.seq (.region [.m 86 5,.m 4 86] [4]) .ret) .skip)) (.seq (.region [.m 87 6,.m 4 87] [4]) .ret))
def NG:AG:=(.seq (.region [.m 53 6,.ls 54 3 3,.blst 55 AF [.t 54],.app 56 38 AF (.t 53) (.t 55),.m 6 56] [0,3,5,6]) (.seq (.seq (.region [.mv 8 (.i 0)] [0,3,5,6,8]) (.block 2 [0,5,6] (.loop [0,3,5,6,8] UR))) NF))
def BH:BE:=⟨[.val (.slice AF),.val AF],[⟨4,false,(.own 38 AF)⟩],(.seq (.region [.box 3 (.t 1) false,.mv 4 (.c (.nil))] [0,3]) (.seq (.region [.brow 9 38 AF [],.m 10 0,.app 11 38 AF (.t 9) (.t 10),.m 5 11] [0,3,5]) (.seq (.region [.brow 12 38 AF [],.m 6 12] [0,3,5,6]) (.seq (.seq (.region [.mv 7 (.i 0)] [0,3,5,6,7]) (.block 0 [0,3,5,6] (.loop [0,3,5,6,7] WK))) NG))))⟩
theorem sh:Au Tryz.prog 123 BH=true:=by kernel_rfl
def Sc:AG:=(.seq (.seq (.region [.m 8 6,.bin 9 .leq (.t 8) (.i 6)] [0,1,5,6,9]) (.cond (.t 9) .skip (.exit 0))) (.seq (.block 1 [0,1,5,6] (.seq (.region [.m 12 6,.m 13 1,.b 14 .neq 12 13,.m 15 14,.sc 15 true [.m 16 0,.m 17 6,.cl 18 [16,17] Fg] 19 (.t 18) (.c (.bool false))] [0,1,5,6,19]) (.cond (.t 19) (.region [.m 20 5,.m 21 6,.blst 22 (.int .i64) [.t 21],.app 23 3 (.int .i64) (.t 20) (.t 22),.m 5 23] [0,1,5,6]) .skip))) (.region [.m 10 6,.bin 11 .add (.t 10) (.i 1),.m 6 11] [0,1,5,6])))
def Sd:AG:=(.seq (.region [.m 24 5,.m 4 24] [4]) .ret)
def Db:BE:=⟨[.val (.slice (.int .i64)),.val (.int .i64)],[⟨4,false,(.slice (.int .i64))⟩],(.seq (.region [.mv 4 (.c (.nil))] [0,1]) (.seq (.region [.brow 7 3 (.int .i64) [],.m 5 7] [0,1,5]) (.seq (.seq (.region [.mv 6 (.i 1)] [0,1,5,6]) (.block 0 [5] (.loop [0,1,5,6] Sc))) Sd)))⟩
theorem mm:Au Tryz.prog 124 Db=true:=by kernel_rfl
def KA:BE:=⟨[.ptr X],[⟨2,false,(.slice BC)⟩],(.seq (.region [.mv 2 (.c (.nil))] [0]) (.seq (.region [.m 5 0,.n 6 5,.f 7 6 9,.ls 8 7 7,.al 3 Mw,.store (.t 3) (.t 8) 7 false] [0,3]) (.seq (.draw (Ea 13 [(2,[]),(6,[]),(8,[]),(10,[1,5,7,9]),(11,[]),(12,[10,11])]) (.tk 11 [.bu 19 BC [(0,1,.t 10),(1,1,.t 14),(2,1,.t 16),(3,3,.t 18)],.ls 18 17 3,.f 17 3 3,.l 16 15,.f 15 3 2,.l 14 13,.f 13 12 1,.n 12 11,.m 11 0,.l 10 9,.f 9 3 1] (.only 11 none (.al 4 BC) false [] (.only 12 none (.store (.t 4) (.t 19) 6 false) false [] .done))) [0,3,4]) (.seqc [0,4] (.seq (.region [.f 20 3 0,.l 21 20,.bin 22 .eql (.t 21) (.i 1)] [0,3,4,22]) (.cond (.t 22) (.draw (Ea 11 [(1,[]),(5,[]),(7,[4,6]),(8,[0,7])]) (.tk 7 [.ls 29 28 3,.f 28 3 3,.l 27 26,.f 26 25 7,.n 25 24,.m 24 0,.m 23 0] (.only 7 none (.cl 30 [27,29] SJ) false [] (.tk 10 [.f 32 31 7,.n 31 23] (.only 10 none (.store (.t 32) (.t 30) 1 false) false [] .done)))) [0,4]) (.draw (Ea 10 [(4,[]),(7,[3,6])]) (.tk 7 [.l 39 38,.f 38 37 0,.f 37 3 3,.l 36 35,.f 35 34 7,.n 34 33,.m 33 0] (.only 7 none (.cl 40 [36,39] f5) false [] (.tk 9 [.f 41 4 3] (.only 9 none (.store (.t 41) (.t 40) 3 false) false [] .done)))) [0,4]))) (.seq (.region [.m 42 0,.bu 43 Mw [],.n 44 42,.f 45 44 9,.store (.t 45) (.t 43) 7 false] [4]) (.seq (.region [.ls 46 4 6,.brow 47 126 BC [.t 46],.m 2 47] [2]) .ret))))))⟩
theorem mn:Au Tryz.prog 125 KA=true:=by kernel_rfl
def Zd:AG:=(.seq (.seq (.region [.m 37 8,.m 38 1,.len 39 false (.t 38),.b 40 .lss 37 39] [0,1,2,7,8,40]) (.cond (.t 40) .skip (.exit 0))) (.seq (.block 1 [0,1,2,7,8] (.seq (.draw (Ea 9 [(1,[]),(2,[0,1]),(4,[]),(8,[3,7])]) (.tk 9 [.b 51 .neq 46 50,.l 50 49,.f 49 48 0,.n 48 47,.m 47 0,.l 46 45,.idx 45 1 (.t 43) (.t 44),.m 44 8,.m 43 1] .done) [0,1,2,7,8,51]) (.cond (.t 51) (.draw (Ea 20 [(1,[]),(5,[]),(6,[]),(7,[5,6]),(9,[]),(13,[]),(14,[]),(15,[13,14]),(16,[4,8,12,15]),(18,[0,17])]) (.tk 13 [.l 64 63,.f 63 62 1,.n 62 61,.m 61 0,.l 60 59,.idx 59 1 (.t 57) (.t 58),.m 58 8,.m 57 1,.l 56 55,.f 55 54 0,.n 54 53,.m 53 0,.m 52 7] (.tk 15 [.m 66 2] (.only 13 none (.brow 65 38 AF []) false [] (.only 15 none (.apz 67 38 AF (.t 65) (.t 66)) false [] (.tk 17 [.bu 68 AJ [(0,1,.c (.int .i64 3)),(1,1,.t 56),(2,1,.t 60),(3,1,.t 64),(5,1,.t 67)]] (.only 17 none (.blst 69 AJ [.t 68]) false [] (.only 18 none (.app 70 97 AJ (.t 52) (.t 69)) false [] (.tk 20 [.m 7 70] .done)))))))) [0,1,2,7,8]) .skip))) (.region [.m 41 8,.bin 42 .add (.t 41) (.i 1),.m 8 42] [0,1,2,7,8])))
def Ze:AG:=(.seq (.region [.m 71 7,.m 6 71] [6]) .ret)
def Fx:BE:=⟨[.ptr X,.val (.slice (.int .i64)),.val (.slice AF)],[⟨6,false,(.slice AJ)⟩],(.seq (.region [.mv 6 (.c (.nil))] [0,1,2]) (.seq (.region [.brow 9 97 AJ [],.m 7 9] [0,1,2,7]) (.seq (.region [.m 10 0,.n 11 10,.f 12 11 3,.store (.t 12) (.c (.bool true)) 1 false] [0,1,2,7]) (.seq (.region [.m 13 0,.brow 14 38 AF [],.m 15 2,.app 16 38 AF (.t 14) (.t 15),.n 17 13,.f 18 17 7,.store (.t 18) (.t 16) 1 false] [0,1,2,7]) (.seq (.region [.m 19 0,.m 20 1,.m 21 0,.n 22 21,.f 23 22 0,.l 24 23,.cl 25 [20,24] Vp,.n 26 19,.f 27 26 6,.store (.t 27) (.t 25) 1 false] [0,1,2,7]) (.seq (.region [.m 28 0,.m 29 0,.n 30 29,.f 31 30 6,.l 32 31,.len 33 false (.t 32),.bin 34 .eql (.t 33) (.i 0),.n 35 28,.f 36 35 5,.store (.t 36) (.t 34) 1 false] [0,1,2,7]) (.seq (.seq (.region [.mv 8 (.i 0)] [0,1,2,7,8]) (.block 0 [7] (.loop [0,1,2,7,8] Zd))) Ze)))))))⟩
theorem vI:Au Tryz.prog 126 Fx=true:=by kernel_rfl
def cn:AG:=(.cond (.t 39) (.seq (.region [.mv 2 (.c (.bool true))] [2]) .ret) (.seq (.region [.bin 43 .eql (.t 38) (.i 5),.m 42 43] [1,42]) (.cond (.t 42) (.seq (.region [.f 44 1 5,.l 45 44,.len 46 false (.t 45),.bin 47 .eql (.t 46) (.i 1),.m 2 47] [2]) .ret) .skip)))
def cp:AG:=(.seq (.region [.f 48 1 5,.l 49 48,.len 50 false (.t 49),.bin 51 .eql (.t 50) (.i 0),.m 2 51] [2]) .ret)
def cq:AG:=(.seq (.seq (.region [.f 37 1 0,.l 38 37] [1,38]) (.block 0 [1] (.seqc [1,38,39] (.seq (.region [.bin 40 .eql (.t 38) (.i 2),.m 39 40] [1,38,39]) (.cond (.t 39) .skip (.region [.bin 41 .eql (.t 38) (.i 3),.m 39 41] [1,38,39]))) cn))) cp)
def Fl:BE:=⟨[.val AJ],[⟨2,false,.bool⟩],(.seq (.region [.box 1 (.t 0) false,.mv 2 (.c (.bool false))] [1]) (.seq (.seq (.region [.f 3 1 0,.l 4 3,.cx (some 5) [.t 4,.c (.int .i64 1),.c (.int .i64 8)] Am,.un 6 .not (.t 5),.m 7 6,.sc 7 false [.f 8 1 1,.l 9 8,.cx (some 10) [.t 9,.c (.int .i64 1),.c (.int .i64 6)] Am,.un 11 .not (.t 10)] 12 (.c (.bool true)) (.t 11),.m 13 12,.sc 13 false [.f 14 1 2,.l 15 14,.cx (some 16) [.t 15,.c (.int .i64 1),.c (.int .i64 6)] Am,.un 17 .not (.t 16)] 18 (.c (.bool true)) (.t 17),.m 19 18,.sc 19 false [.f 20 1 3,.l 21 20,.cx (some 22) [.t 21,.c (.int .i64 1),.c (.int .i64 9)] Am,.un 23 .not (.t 22)] 24 (.c (.bool true)) (.t 23),.m 25 24,.sc 25 false [.f 26 1 4,.l 27 26,.cx (some 28) [.t 27,.c (.int .i64 0),.c (.int .i64 1000000000)] Am,.un 29 .not (.t 28)] 30 (.c (.bool true)) (.t 29),.m 31 30,.sc 31 false [.f 32 1 5,.l 33 32,.cl 34 [33] M3,.un 35 .not (.t 34)] 36 (.c (.bool true)) (.t 35)] [1,36]) (.cond (.t 36) (.seq (.region [.mv 2 (.c (.bool false))] [2]) .ret) .skip)) cq))⟩
theorem xg:Au Tryz.prog 127 Fl=true:=by kernel_rfl
def Zf:AG:=(.cond (.t 28) (.seq (.region [.m 29 1,.f 30 5 5,.l 31 30,.cl 32 [9,29,31] f7,.m 12 32] [6,9,11,12]) (.seq (.region [.ls 33 9 16,.m 34 12,.m 35 11,.store (.t 6) (.t 33) 16 false,.m 7 34,.m 8 35] [6,7,8]) .ret)) .skip)
def Zg:AG:=(.seqc [3,5,6,9,11] (.seq (.region [.f 64 9 3,.l 65 64,.un 66 .not (.t 65)] [3,5,6,9,11,66]) (.cond (.t 66) (.seq (.region [.ls 67 3 16,.f 68 3 1,.l 69 68,.cl 70 [67,69] cB,.store (.t 9) (.t 70) 16 false] [3,5,6,9,11]) (.seq (.region [.f 71 9 3,.store (.t 71) (.c (.bool true)) 1 false] [3,5,6,9,11]) (.region [.brow 72 38 AF [],.f 73 5 5,.l 74 73,.app 75 38 AF (.t 72) (.t 74),.f 76 9 7,.store (.t 76) (.t 75) 1 false] [3,5,6,9,11]))) .skip)) (.seq (.draw (Ea 8 [(1,[]),(2,[]),(3,[1,2]),(4,[]),(5,[0,3]),(7,[4,6])]) (.tk 3 [.ls 79 5 6,.ls 78 3 16,.ls 77 9 16] (.tk 5 [.m 81 11] (.only 3 none (.cx (some 80) [.t 78,.t 79,.c (.int .i64 4)] LH) false [] (.only 5 none (.store (.t 6) (.t 77) 16 false) false [] (.tk 8 [.m 8 81,.m 7 80] .done))))) [6,7,8]) .ret))
def Zh:AG:=(.seq (.seq (.region [.f 54 9 3,.l 55 54,.un 56 .not (.t 55),.m 57 56,.sc 57 true [.f 58 9 2,.l 59 58] 60 (.t 59) (.c (.bool false))] [3,5,6,9,10,11,60]) (.cond (.t 60) (.seq (.region [.ls 61 9 16,.m 62 10,.m 63 11,.store (.t 6) (.t 61) 16 false,.m 7 62,.m 8 63] [6,7,8]) .ret) .skip)) Zg)
def WL:AG:=(.seq (.region [.f 149 9 9,.f 150 149 6,.l 151 150,.f 152 5 1,.l 153 152,.cl 154 [151,153] Tq,.f 155 9 9,.f 156 155 6,.store (.t 156) (.t 154) 1 false] [6,9,10,11]) (.seq (.region [.f 157 9 9,.f 158 157 6,.l 159 158,.len 160 false (.t 159),.bin 161 .eql (.t 160) (.i 0)] [6,9,10,11,161]) (.cond (.t 161) (.region [.cl 162 [9] Vq,.m 11 162] [6,9,10,11]) .skip)))
def WM:AG:=(.seq (.seq (.region [.f 133 9 9,.f 134 133 0,.l 135 134,.m 136 13,.b 137 .neq 135 136,.m 138 137,.sc 138 false [.f 139 9 9,.f 140 139 2,.l 141 140,.f 142 5 4,.l 143 142,.b 144 .neq 141 143] 145 (.c (.bool true)) (.t 144)] [5,6,9,10,11,145]) (.cond (.t 145) (.seq (.region [.ls 146 9 16,.m 147 10,.m 148 11,.store (.t 6) (.t 146) 16 false,.m 7 147,.m 8 148] [6,7,8]) .ret) .skip)) WL)
def WN:AG:=(.cond (.t 127) (.seq (.region [.mv 13 (.i 1)] [5,6,9,10,11,13]) (.seqc [5,6,9,10,11,13] (.seq (.region [.f 130 5 0,.l 131 130,.bin 132 .eql (.t 131) (.i 8)] [5,6,9,10,11,13,132]) (.cond (.t 132) (.region [.mv 13 (.i 2)] [5,6,9,10,11,13]) .skip)) WM)) .skip)
def WO:AG:=(.seq (.region [.ls 163 9 16,.m 164 10,.m 165 11,.store (.t 6) (.t 163) 16 false,.m 7 164,.m 8 165] [6,7,8]) .ret)
def Ct:BE:=⟨[.val X,.val (.slice (.int .i64)),.val AJ],[⟨6,true,X⟩,⟨7,false,(.slice AJ)⟩,⟨8,false,(.slice BC)⟩],(.seq (.region [.box 3 (.t 0) false,.box 5 (.t 2) false,.al 6 X,.mv 7 (.c (.nil)),.mv 8 (.c (.nil))] [1,3,5,6]) (.seq (.region [.ls 14 3 16,.cl 15 [14] Hc,.al 9 X,.store (.t 9) (.t 15) 16 false] [1,3,5,6,9]) (.seq (.region [.blst 16 AJ [],.m 10 16] [1,3,5,6,9,10]) (.seq (.region [.blst 17 BC [],.m 11 17] [1,3,5,6,9,10,11]) (.seq (.seq (.region [.f 18 5 0,.l 19 18] [1,3,5,6,9,10,11,19]) (.block 0 [6,9,10,11] (.seq (.region [.bin 21 .eql (.t 19) (.i 2),.m 20 21] [1,3,5,6,9,10,11,19,20]) (.cond (.t 20) (.seq (.region [.f 22 9 4,.l 23 22,.m 24 23,.sc 24 true [.f 25 9 3,.l 26 25,.un 27 .not (.t 26)] 28 (.t 27) (.c (.bool false))] [1,5,6,9,10,11,28]) Zf) (.seq (.region [.bin 37 .eql (.t 19) (.i 3),.m 36 37] [1,3,5,6,9,10,11,19,36]) (.cond (.t 36) (.seq (.seq (.draw (Ea 13 [(1,[]),(3,[0,2]),(9,[5]),(11,[8,10])]) (.tk 3 [.l 40 39,.f 39 3 0,.m 38 1] (.only 3 none (.cl 41 [38,40] Fg) false [] (.tk 6 [.m 43 42,.un 42 .not (.t 41)] (.test 43 (.sk 43 false 6 12 50 (.tk 13 [.pick 50 (.t 43) (.c (.bool true)) (.t 49)] .done)) (.tg 43 false 12 [.b 49 .eql 46 48,.l 48 47,.f 47 3 0,.l 46 45,.idx 45 1 (.t 44) (.i 0),.m 44 1] (.tk 13 [.pick 50 (.t 43) (.c (.bool true)) (.t 49)] .done)))))) [3,5,6,9,10,11,50]) (.cond (.t 50) (.seq (.region [.ls 51 9 16,.m 52 10,.m 53 11,.store (.t 6) (.t 51) 16 false,.m 7 52,.m 8 53] [6,7,8]) .ret) .skip)) Zh) (.seq (.region [.bin 83 .eql (.t 19) (.i 4),.m 82 83] [3,5,6,9,10,11,19,82]) (.cond (.t 82) (.seq (.region [.f 84 9 4,.l 85 84] [5,6,9,10,11,85]) (.cond (.t 85) (.seq (.region [.f 86 9 6,.l 87 86,.f 88 5 1,.l 89 88,.cl 90 [87,89] Tq,.f 91 9 6,.store (.t 91) (.t 90) 1 false] [6,9,10,11]) (.region [.f 92 9 3,.l 93 92,.m 94 93,.sc 94 true [.f 95 9 6,.l 96 95,.len 97 false (.t 96),.bin 98 .eql (.t 97) (.i 0)] 99 (.t 98) (.c (.bool false)),.f 100 9 5,.store (.t 100) (.t 99) 1 false] [6,9,10,11])) .skip)) (.seq (.region [.bin 102 .eql (.t 19) (.i 5),.m 101 102] [3,5,6,9,10,11,19,101]) (.cond (.t 101) (.seq (.region [.f 103 9 3,.l 104 103] [3,5,6,9,10,11,104]) (.cond (.t 104) (.seq (.draw (Ea 9 [(2,[]),(6,[1,5])]) (.tk 6 [.ls 110 109 3,.idx 109 3 (.t 108) (.i 0),.l 108 107,.f 107 5 5,.l 106 105,.f 105 9 7] (.only 6 none (.cl 111 [106,110] SJ) false [] (.tk 8 [.f 112 9 7] (.only 8 none (.store (.t 112) (.t 111) 1 false) false [] .done)))) [3,5,6,9,11]) (.seq (.draw (Ea 8 [(1,[]),(2,[]),(3,[1,2]),(4,[]),(5,[0,3]),(7,[4,6])]) (.tk 3 [.ls 115 5 6,.ls 114 3 16,.ls 113 9 16] (.tk 5 [.m 117 11] (.only 3 none (.cx (some 116) [.t 114,.t 115,.c (.int .i64 6)] LH) false [] (.only 5 none (.store (.t 6) (.t 113) 16 false) false [] (.tk 8 [.m 8 117,.m 7 116] .done))))) [6,7,8]) .ret)) .skip)) (.seq (.region [.bin 119 .eql (.t 19) (.i 7),.m 118 119] [3,5,6,9,10,11,19,118]) (.cond (.t 118) (.seq (.region [.f 120 9 3,.l 121 120] [3,5,6,9,10,11,121]) (.cond (.t 121) (.seq (.draw (Ea 8 [(1,[]),(2,[]),(3,[1,2]),(4,[]),(5,[0,3]),(7,[4,6])]) (.tk 3 [.ls 124 5 6,.ls 123 3 16,.ls 122 9 16] (.tk 5 [.m 126 11] (.only 3 none (.cx (some 125) [.t 123,.t 124,.c (.int .i64 8)] LH) false [] (.only 5 none (.store (.t 6) (.t 122) 16 false) false [] (.tk 8 [.m 8 126,.m 7 125] .done))))) [6,7,8]) .ret) .skip)) (.seqc [5,6,9,10,11,127] (.seq (.region [.bin 128 .eql (.t 19) (.i 6),.m 127 128] [5,6,9,10,11,19,127]) (.cond (.t 127) .skip (.region [.bin 129 .eql (.t 19) (.i 8),.m 127 129] [5,6,9,10,11,127]))) WN))))))))))))) WO)))))⟩
theorem vJ:Au Tryz.prog 128 Ct=true:=by kernel_rfl
def NH:BE:=⟨[.val X,.val (.int .i64)],[⟨4,true,X⟩],(.seq (.region [.box 2 (.t 0) false,.al 4 X] [1,2,4]) (.seq (.draw (Ea 9 [(2,[]),(3,[]),(4,[]),(6,[3,5]),(7,[1,2,6])]) (.tk 3 [.m 7 1,.l 6 5,.f 5 2 0] (.tk 6 [.l 10 9,.f 9 2 7] (.only 3 none (.brow 8 38 AF []) false [] (.only 6 none (.apz 11 38 AF (.t 8) (.t 10)) false [] (.tk 8 [.bu 12 X [(0,1,.t 6),(1,1,.t 7),(7,1,.t 11),(8,1,.c (.int .i64 0))]] (.only 8 none (.store (.t 4) (.t 12) 16 false) false [] .done)))))) [4]) .ret))⟩
theorem sj:Au Tryz.prog 129 NH=true:=by kernel_rfl
def LL:BE:=⟨[.val X,.val AJ,.val (.int .i64)],[⟨6,false,(.slice AJ)⟩],(.seq (.region [.box 3 (.t 0) false,.box 4 (.t 1) false,.mv 6 (.c (.nil))] [2,3,4]) (.seq (.region [.m 7 2,.f 8 3 0,.l 9 8,.f 10 4 1,.l 11 10,.f 12 4 3,.l 13 12,.f 14 4 4,.l 15 14,.bu 16 AJ [(0,1,.t 7),(1,1,.t 9),(2,1,.t 11),(3,1,.t 13),(4,1,.t 15)],.brow 17 97 AJ [.t 16],.m 6 17] [6]) .ret))⟩
theorem pQ:Au Tryz.prog 130 LL=true:=by kernel_rfl
def OH:DT:=(.sk 22 false 14 30 37 (.tk 31 [.pick 37 (.t 22) (.c (.bool true)) (.t 36)] .done))
def OI:AG:=(.seq (.region [.m 38 0,.m 39 0,.f 40 5 3,.l 41 40,.n 42 38,.f 43 42 1,.store (.t 43) (.t 41) 1 false,.n 44 39,.f 45 44 3,.store (.t 45) (.c (.bool false)) 1 false] [0,5]) (.seq (.region [.m 46 0,.cl 47 [46] M1] [0,5]) (.seq (.draw (Ea 11 [(1,[]),(4,[]),(9,[0,3,8])]) (.tk 3 [.l 50 49,.f 49 5 1,.m 48 0] (.tk 9 [.bu 56 AJ [(0,1,.c (.int .i64 2)),(5,1,.t 55)],.l 55 54,.f 54 53 7,.n 53 52,.m 52 0] (.only 3 none (.brow 51 3 (.int .i64) [.t 50]) false [] (.only 9 none (.cl 57 [48,51,56] Bj) false [] (.tk 11 [.m 6 57] .done))))) [6]) .ret)))
def EQ:BE:=⟨[.ptr X,.val (.slice (.slice (.int .i64))),.val AJ],[⟨6,false,(.slice AJ)⟩],(.seq (.region [.box 5 (.t 2) false,.mv 6 (.c (.nil))] [0,1,5]) (.seq (.seq (.draw (Ea 31 [(2,[]),(7,[1,6]),(17,[15]),(22,[16,21]),(24,[15]),(28,[23,27])]) (.tk 9 [.m 15 14,.b 14 .neq 8 13,.bin 13 .add (.t 12) (.i 1),.l 12 11,.f 11 10 1,.n 10 9,.m 9 0,.l 8 7,.f 7 5 3] (.test 15 (.sk 15 false 5 14 21 (.tk 16 [.m 22 21,.pick 21 (.t 15) (.c (.bool true)) (.t 20)] OH)) (.tg 15 false 14 [.un 20 .not (.t 19),.l 19 18,.f 18 17 3,.n 17 16,.m 16 0] (.tk 16 [.m 22 21,.pick 21 (.t 15) (.c (.bool true)) (.t 20)] (.test 22 OH (.tg 22 false 28 [.l 34 33,.f 33 32 0,.n 32 31,.m 31 0,.l 30 29,.idx 29 1 (.t 23) (.t 28),.bin 28 .sub (.t 27) (.i 1),.l 27 26,.f 26 25 1,.n 25 24,.m 24 0,.m 23 1] (.only 28 (some (22,false)) (.cl 35 [30,34] EF) false [] (.tg 22 false 30 [.un 36 .not (.t 35)] (.tk 31 [.pick 37 (.t 22) (.c (.bool true)) (.t 36)] .done))))))))) [0,5,37]) (.cond (.t 37) (.seq (.region [.mv 6 (.c (.nil))] [6]) .ret) .skip)) OI))⟩
theorem gy:Au Tryz.prog 131 EQ=true:=by kernel_rfl
def MN:DT:=(.tg 32 false 20 [.pick 44 (.t 38) (.t 43) (.c (.bool false))] (.tk 22 [.m 24 45,.pick 45 (.t 32) (.c (.bool true)) (.t 44)] .done))
def MO:AG:=(.cond (.t 24) (.seq (.draw (Ea 21 [(1,[]),(2,[]),(3,[]),(4,[]),(6,[]),(9,[0,5,8]),(12,[1,11]),(15,[2,14]),(18,[3,17])]) (.tk 8 [.l 53 52,.f 52 5 5,.l 51 50,.f 50 5 3,.m 49 0,.m 48 0,.m 47 0,.m 46 0] (.only 8 none (.cl 54 [53] BJ) false [] (.tk 11 [.f 56 55 1,.n 55 46] (.only 11 none (.store (.t 56) (.t 51) 1 false) false [] (.tk 14 [.f 58 57 3,.n 57 47] (.only 14 none (.store (.t 58) (.c (.bool true)) 1 false) false [] (.tk 17 [.f 60 59 2,.n 59 48] (.only 17 none (.store (.t 60) (.c (.bool false)) 1 false) false [] (.tk 20 [.f 62 61 7,.n 61 49] (.only 20 none (.store (.t 62) (.t 54) 1 false) false [] .done)))))))))) [0,5]) (.region [.m 63 0,.cl 64 [63] M1] [0,5])) (.seq (.region [.m 66 0,.n 67 66,.f 68 67 3,.l 69 68,.un 70 .not (.t 69),.m 65 70] [0,5,65]) (.cond (.t 65) (.seq (.region [.mv 6 (.c (.nil))] [6]) .ret) .skip)))
def MP:AG:=(.seq (.region [.m 71 0,.f 72 5 1,.l 73 72,.brow 74 3 (.int .i64) [.t 73],.bu 75 AJ [(0,1,.c (.int .i64 4))],.cl 76 [71,74,75] Bj,.m 6 76] [6]) .ret)
def MQ:AG:=(.seq (.block 0 [0,5] (.seq (.draw (Ea 22 [(2,[]),(6,[1,5])]) (.tk 8 [.m 32 31,.b 31 .gtr 26 30,.l 30 29,.f 29 28 1,.n 28 27,.m 27 0,.l 26 25,.f 25 5 3] (.test 32 (.sk 32 false 6 14 39 (.sk 38 true 5 19 44 (.sk 32 false 1 20 45 (.tk 22 [.m 24 45,.pick 45 (.t 32) (.c (.bool true)) (.t 44)] .done)))) (.tg 32 false 14 [.m 38 37,.un 37 .not (.t 36),.l 36 35,.f 35 34 3,.n 34 33,.m 33 0] (.test 38 (.tg 38 true 19 [.un 43 .not (.t 42),.l 42 41,.f 41 40 2,.n 40 39,.m 39 0] MN) (.sk 38 true 5 19 44 MN))))) [0,5,24]) MO)) MP)
def Bk:BE:=⟨[.ptr X,.val (.slice (.int .i64)),.val AJ],[⟨6,false,(.slice AJ)⟩],(.seq (.region [.box 5 (.t 2) false,.mv 6 (.c (.nil))] [0,1,5]) (.seq (.seq (.draw (Ea 17 [(1,[]),(5,[0,4]),(11,[7]),(15,[10,14])]) (.tk 5 [.l 11 10,.f 10 9 0,.n 9 8,.m 8 0,.m 7 1] (.only 5 none (.cl 12 [7,11] EF) false [] (.tk 8 [.m 14 13,.un 13 .not (.t 12)] (.test 14 (.sk 14 false 8 16 23 (.tk 17 [.pick 23 (.t 14) (.c (.bool true)) (.t 22)] .done)) (.tg 14 false 16 [.b 22 .eql 17 21,.l 21 20,.f 20 19 0,.n 19 18,.m 18 0,.l 17 16,.idx 16 1 (.t 15) (.i 0),.m 15 1] (.tk 17 [.pick 23 (.t 14) (.c (.bool true)) (.t 22)] .done)))))) [0,5,23]) (.cond (.t 23) (.seq (.region [.mv 6 (.c (.nil))] [6]) .ret) .skip)) MQ))⟩
theorem bH:Au Tryz.prog 132 Bk=true:=by kernel_rfl
def NI:BE:=⟨[.val (.slice (.int .i64)),.val (.int .i64)],[⟨4,false,(.slice (.int .i64))⟩],(.seq (.region [.fbox 3 (.t 1),.mv 4 (.c (.nil))] [0,3]) (.seq (.region [.m 5 0,.cl 6 [5] Cz,.clo 7 145 (.int .i64) (.t 3),.cl 8 [6,7] Rm,.m 4 8] [4]) .ret))⟩
theorem sm:Au Tryz.prog 133 NI=true:=by kernel_rfl
def OJ:AG:=(.seq (.seq (.region [.f 19 3 0,.l 20 19,.bin 21 .eql (.t 20) (.i 7)] [0,3,21]) (.cond (.t 21) (.seq (.region [.m 22 0,.f 23 3 1,.l 24 23,.brow 25 3 (.int .i64) [.t 24],.f 26 3 4,.l 27 26,.bu 28 AJ [(0,1,.c (.int .i64 8)),(4,1,.t 27)],.cl 29 [22,25,28] Bj,.m 4 29] [4]) .ret) .skip)) (.seq (.draw (Ea 13 [(1,[]),(5,[]),(9,[4,8]),(10,[0,9])]) (.tk 9 [.ls 38 37 3,.idx 37 3 (.t 36) (.i 0),.l 36 35,.f 35 3 5,.l 34 33,.f 33 32 7,.n 32 31,.m 31 0,.m 30 0] (.only 9 none (.cl 39 [34,38] cD) false [] (.tk 12 [.f 41 40 7,.n 40 30] (.only 12 none (.store (.t 41) (.t 39) 1 false) false [] .done)))) [0,3]) (.seq (.region [.m 42 0,.f 43 3 1,.l 44 43,.brow 45 3 (.int .i64) [.t 44],.f 46 3 4,.l 47 46,.bu 48 AJ [(0,1,.c (.int .i64 6)),(4,1,.t 47)],.cl 49 [42,45,48] Bj,.m 4 49] [4]) .ret)))
def D5:BE:=⟨[.ptr X,.val AJ],[⟨4,false,(.slice AJ)⟩],(.seq (.region [.box 3 (.t 1) false,.mv 4 (.c (.nil))] [0,3]) (.seq (.seq (.draw (Ea 14 [(2,[]),(6,[1,5])]) (.tk 8 [.m 12 11,.b 11 .neq 6 10,.l 10 9,.f 9 8 1,.n 8 7,.m 7 0,.l 6 5,.f 5 3 3] (.test 12 (.sk 12 false 5 13 18 (.tk 14 [.pick 18 (.t 12) (.c (.bool true)) (.t 17)] .done)) (.tg 12 false 13 [.un 17 .not (.t 16),.l 16 15,.f 15 14 3,.n 14 13,.m 13 0] (.tk 14 [.pick 18 (.t 12) (.c (.bool true)) (.t 17)] .done)))) [0,3,18]) (.cond (.t 18) (.seq (.region [.mv 4 (.c (.nil))] [4]) .ret) .skip)) OJ))⟩
theorem fJ:Au Tryz.prog 134 D5=true:=by kernel_rfl
def NJ:DT:=(.sk 23 false 8 25 32 (.tk 26 [.pick 32 (.t 23) (.c (.bool true)) (.t 31)] .done))
def MR:AG:=(.seq (.draw (Ea 13 [(1,[]),(6,[]),(8,[5,7]),(9,[0,8])]) (.tk 8 [.l 40 39,.f 39 5 1,.l 38 37,.f 37 36 6,.f 36 35 9,.n 35 34,.m 34 0,.m 33 0] (.only 8 none (.cl 41 [38,40] cC) false [] (.tk 12 [.f 44 43 6,.f 43 42 9,.n 42 33] (.only 12 none (.store (.t 44) (.t 41) 1 false) false [] .done)))) [0]) (.seq (.seq (.region [.m 45 0,.n 46 45,.f 47 46 9,.f 48 47 6,.l 49 48,.len 50 false (.t 49),.bin 51 .gtr (.t 50) (.i 0)] [0,51]) (.cond (.t 51) (.seq (.region [.mv 6 (.c (.nil))] [6]) .ret) .skip)) (.seq (.region [.m 52 0,.cl 53 [52] SI,.m 6 53] [6]) .ret)))
def Dc:BE:=⟨[.ptr X,.val (.int .i64),.val AJ],[⟨6,false,(.slice BC)⟩],(.seq (.region [.box 5 (.t 2) false,.mv 6 (.c (.nil))] [0,1,5]) (.seq (.seq (.draw (Ea 26 [(2,[]),(6,[1,5]),(13,[7]),(14,[12,13]),(22,[16]),(24,[21,23])]) (.tk 8 [.m 14 13,.b 13 .neq 8 12,.l 12 11,.f 11 10 1,.n 10 9,.m 9 0,.l 8 7,.f 7 5 3] (.test 14 (.sk 14 false 7 15 22 (.tk 17 [.m 23 22,.pick 22 (.t 14) (.c (.bool true)) (.t 21)] NJ)) (.tg 14 false 15 [.b 21 .neq 19 20,.m 20 1,.l 19 18,.f 18 17 0,.f 17 16 9,.n 16 15,.m 15 0] (.tk 17 [.m 23 22,.pick 22 (.t 14) (.c (.bool true)) (.t 21)] (.test 23 NJ (.tg 23 false 25 [.b 31 .neq 28 30,.l 30 29,.f 29 5 4,.l 28 27,.f 27 26 2,.f 26 25 9,.n 25 24,.m 24 0] (.tk 26 [.pick 32 (.t 23) (.c (.bool true)) (.t 31)] .done))))))) [0,5,32]) (.cond (.t 32) (.seq (.region [.mv 6 (.c (.nil))] [6]) .ret) .skip)) MR))⟩
theorem cr:Au Tryz.prog 135 Dc=true:=by kernel_rfl
def Hi:AG:=(.cond (.t 87) (.seq (.region [.m 88 0,.m 89 1,.m 90 2,.m 91 11,.cl 92 [88,89,90,91] Lf,.m 13 92] [0,2,3,8,9,13]) (.seq (.region [.m 93 13,.m 1 93] [0,1,2,3,8,9]) (.exit 1))) .skip)
def ER:AG:=(.seq (.region [.m 95 0,.m 96 1,.m 97 2,.m 98 11,.cl 99 [95,96,97,98] Pb,.m 94 99,.ext 100 (.t 94) 0,.ext 101 (.t 94) 1,.m 14 100,.m 15 101] [0,1,2,3,10,14,15]) (.seq (.region [.m 102 15,.m 9 102] [0,1,2,3,9,10,14]) (.seq (.region [.m 103 14,.m 104 1,.b 105 .sub 103 104,.m 106 2,.m 107 14,.b 108 .sub 106 107,.m 16 105,.m 17 108] [0,1,2,3,9,10,14,16,17]) (.seq (.region [.m 109 10,.bin 110 .quo (.t 109) (.i 8),.m 18 110] [0,1,2,3,9,14,16,17,18]) (.seq (.region [.m 111 16,.m 112 17,.b 113 .lss 111 112] [0,1,2,3,9,14,16,17,18,113]) (.cond (.t 113) (.seq (.region [.m 114 16,.m 115 18,.b 116 .geq 114 115,.m 8 116] [0,1,2,3,8,9,14]) (.seq (.region [.m 117 0,.m 118 1,.m 119 14,.m 120 3,.cl 121 [117,118,119,120] Fh] [0,2,3,8,9,14]) (.region [.m 122 14,.bin 123 .add (.t 122) (.i 1),.m 1 123] [0,1,2,3,8,9]))) (.seq (.region [.m 124 17,.m 125 18,.b 126 .geq 124 125,.m 8 126] [0,1,2,3,8,9,14]) (.seq (.region [.m 127 0,.m 128 14,.bin 129 .add (.t 128) (.i 1),.m 130 2,.m 131 3,.cl 132 [127,129,130,131] Fh] [0,1,3,8,9,14]) (.region [.m 133 14,.m 2 133] [0,1,2,3,8,9])))))))))
def Hj:AG:=(.seq (.seq (.draw (Ea 15 [(4,[2]),(6,[3,5]),(8,[2]),(9,[2]),(10,[8,9]),(12,[7,11])]) (.tk 3 [.m 75 74,.bin 74 .gtr (.t 73) (.i 0),.m 73 1] (.test 75 (.tg 75 true 12 [.l 84 83,.idx 83 1 (.t 81) (.t 82),.m 82 11,.m 81 0,.l 80 79,.idx 79 1 (.t 76) (.t 78),.bin 78 .sub (.t 77) (.i 1),.m 77 1,.m 76 0] (.only 12 (some (75,true)) (.cl 85 [80,84] cE) false [] (.tg 75 true 14 [.un 86 .not (.t 85)] (.tk 15 [.pick 87 (.t 75) (.t 86) (.c (.bool false))] .done)))) (.sk 75 true 11 14 87 (.tk 15 [.pick 87 (.t 75) (.t 86) (.c (.bool false))] .done)))) [0,1,2,3,8,9,10,11,87]) Hi) ER)
def Hk:AG:=(.seqc [0,1,2,3,8,9,10,11] (.seq (.region [.m 61 8,.m 62 61,.sc 62 true [.m 63 9] 64 (.t 63) (.c (.bool false)),.m 65 64,.sc 65 true [.m 66 12,.bin 67 .eql (.t 66) (.i 1)] 68 (.t 67) (.c (.bool false))] [0,1,2,3,8,9,10,11,68]) (.cond (.t 68) (.seq (.region [.m 69 0,.m 70 1,.m 71 2,.cl 72 [69,70,71] I1] [0,1,2,3,8,9,10,11,72]) (.cond (.t 72) .ret .skip)) .skip)) Hj)
def Hl:AG:=(.seq (.region [.m 43 0,.m 44 1,.m 45 2,.cl 46 [43,44,45] N8,.m 42 46,.ext 47 (.t 42) 0,.ext 48 (.t 42) 1,.m 11 47,.m 12 48] [0,1,2,3,8,9,10,11,12]) (.seqc [0,1,2,3,8,9,10,11,12] (.seq (.region [.m 49 12,.bin 50 .eql (.t 49) (.i 2)] [0,1,2,3,8,9,10,11,12,50]) (.cond (.t 50) (.seq (.region [.m 51 0,.m 52 1,.m 53 2,.cl 54 [51,52,53] M4] [0,1,2,3,8,9,10,11]) (.seq (.region [.m 55 2,.bin 56 .sub (.t 55) (.i 1),.m 57 11,.m 58 1,.b 59 .sub 57 58,.b 60 .sub 56 59,.m 11 60] [0,1,2,3,8,9,10,11]) (.region [.mv 12 (.i 1)] [0,1,2,3,8,9,10,11,12]))) .skip)) Hk))
def Hm:AG:=(.block 1 [0,1,2,3,8,9] (.seq (.region [.m 19 2,.m 20 1,.b 21 .sub 19 20,.m 10 21] [0,1,2,3,8,9,10]) (.seq (.seq (.region [.m 22 10,.bin 23 .leq (.t 22) (.i 12)] [0,1,2,3,8,9,10,23]) (.cond (.t 23) (.seq (.region [.m 24 0,.m 25 1,.m 26 2,.cl 27 [24,25,26] Mf] []) .ret) .skip)) (.seq (.seq (.region [.m 28 3,.bin 29 .eql (.t 28) (.i 0)] [0,1,2,3,8,9,10,29]) (.cond (.t 29) (.seq (.region [.m 30 0,.m 31 1,.m 32 2,.cl 33 [30,31,32] P_] []) .ret) .skip)) (.seqc [0,1,2,3,8,9,10] (.seq (.region [.m 34 8,.un 35 .not (.t 34)] [0,1,2,3,8,9,10,35]) (.cond (.t 35) (.seq (.region [.m 36 0,.m 37 1,.m 38 2,.cl 39 [36,37,38] Mg] [0,1,2,3,8,9,10]) (.region [.m 40 3,.bin 41 .sub (.t 40) (.i 1),.m 3 41] [0,1,2,3,8,9,10])) .skip)) Hl)))))
def Ad:BE:=⟨[.mut (.own 3 (.int .i64)),.val (.int .i64),.val (.int .i64),.val (.int .i64)],[],(.seq (.region [.mv 8 (.c (.bool true))] [0,1,2,3,8]) (.seq (.region [.mv 9 (.c (.bool true))] [0,1,2,3,8,9]) (.block 0 [] (.loop [0,1,2,3,8,9] Hm))))⟩
theorem Rw:Au Tryz.prog 137 Ad=true:=by kernel_rfl
def LN:BE:=⟨[.val (.int .u64)],[⟨2,false,(.int .i64)⟩],(.seq (.region [.mv 2 (.i 0)] [0]) (.seq (.cond (.c (.bool false)) (.seq (.region [.m 3 0,.cvi 4 .u32 (.t 3),.cl 5 [4] jW,.m 2 5] [2]) .ret) .skip) (.seq (.region [.m 6 0,.cl 7 [6] jX,.m 2 7] [2]) .ret)))⟩
theorem pR:Au Tryz.prog 138 LN=true:=by kernel_rfl
def WP:DT:=(.tg 20 false 15 [.pick 31 (.t 22) (.t 30) (.c (.bool false))] (.tk 16 [.pick 32 (.t 20) (.c (.bool true)) (.t 31)] .done))
def WQ:AG:=(.seq (.seq (.region [.m 44 5,.cl 45 [44] Mx,.un 46 .not (.t 45)] [0,5,46]) (.cond (.t 46) (.seq (.region [.m 47 0,.cl 48 [47] BJ,.m 4 48] [4]) .ret) .skip)) (.seq (.region [.m 49 5,.m 4 49] [4]) .ret))
def WR:AG:=(.seqc [0,5] (.seq (.region [.m 34 7] [0,3,5,6,34]) (.cond (.t 34) (.region [.m 35 5,.m 36 6,.ls 37 3 3,.idx 38 3 (.t 35) (.t 36),.store (.t 38) (.t 37) 3 false] [0,5]) (.region [.m 39 5,.m 40 6,.ls 41 3 3,.brow 42 38 AF [.t 41],.cl 43 [39,40,42] Kz,.m 5 43] [0,5]))) WQ)
def Et:BE:=⟨[.val (.slice AF),.val AF],[⟨4,false,(.own 38 AF)⟩],(.seq (.region [.box 3 (.t 1) false,.mv 4 (.c (.nil))] [0,3]) (.seq (.region [.m 8 0,.cl 9 [8] BJ,.m 5 9] [0,3,5]) (.seq (.region [.m 11 0,.f 12 3 0,.l 13 12,.cx (some 14) [.t 11,.t 13,.c (.fn 160 [])] Fi,.m 10 14,.ext 15 (.t 10) 0,.ext 16 (.t 10) 1,.m 6 15,.m 7 16] [0,3,5,6,7]) (.seq (.seq (.draw (Ea 16 [(7,[5]),(8,[6,7]),(11,[5]),(13,[10,12])]) (.tk 1 [.m 17 0] (.only 1 none (.cl 18 [17] Mx) false [] (.tk 4 [.m 20 19,.un 19 .not (.t 18)] (.test 20 (.sk 20 false 2 6 23 (.sk 22 true 8 14 31 (.sk 20 false 1 15 32 (.tk 16 [.pick 32 (.t 20) (.c (.bool true)) (.t 31)] .done)))) (.tg 20 false 6 [.m 22 21,.m 21 7] (.test 22 (.tg 22 true 14 [.b 30 .geq 27 29,.l 29 28,.f 28 3 2,.l 27 26,.f 26 25 2,.idx 25 3 (.t 23) (.t 24),.m 24 6,.m 23 0] WP) (.sk 22 true 8 14 31 WP))))))) [0,3,5,6,7,32]) (.cond (.t 32) (.seq (.region [.m 33 5,.m 4 33] [4]) .ret) .skip)) WR))))⟩
theorem sn:Au Tryz.prog 139 Et=true:=by kernel_rfl
def Zi:DT:=(.tg 16 false 21 [.pick 30 (.t 19) (.t 29) (.c (.bool false))] (.tk 22 [.pick 31 (.t 16) (.c (.bool true)) (.t 30)] .done))
def Zj:AG:=(.seq (.seq (.region [.m 4 3,.m 5 0,.len 6 false (.t 5),.b 7 .lss 4 6] [0,3,7]) (.cond (.t 7) .skip (.exit 0))) (.seq (.block 1 [0,3] (.seq (.draw (Ea 22 [(1,[]),(2,[0,1]),(11,[9]),(13,[10,12]),(15,[9]),(16,[9]),(17,[15,16]),(19,[14,18])]) (.tk 4 [.l 13 12,.idx 12 1 (.t 10) (.t 11),.m 11 3,.m 10 0] (.only 4 none (.cx (some 14) [.t 13,.c (.int .i64 1),.c (.int .i64 6)] Am) false [] (.tk 7 [.m 16 15,.un 15 .not (.t 14)] (.test 16 (.sk 16 false 3 10 20 (.sk 19 true 10 20 30 (.sk 16 false 1 21 31 (.tk 22 [.pick 31 (.t 16) (.c (.bool true)) (.t 30)] .done)))) (.tg 16 false 10 [.m 19 18,.bin 18 .gtr (.t 17) (.i 0),.m 17 3] (.test 19 (.tg 19 true 20 [.b 29 .geq 24 28,.l 28 27,.idx 27 1 (.t 25) (.t 26),.m 26 3,.m 25 0,.l 24 23,.idx 23 1 (.t 20) (.t 22),.bin 22 .sub (.t 21) (.i 1),.m 21 3,.m 20 0] Zi) (.sk 19 true 10 20 30 Zi))))))) [0,3,31]) (.cond (.t 31) (.seq (.region [.mv 2 (.c (.bool false))] [2]) .ret) .skip))) (.region [.m 8 3,.bin 9 .add (.t 8) (.i 1),.m 3 9] [0,3])))
def Zk:AG:=(.seq (.region [.mv 2 (.c (.bool true))] [2]) .ret)
def Fy:BE:=⟨[.val (.slice (.int .i64))],[⟨2,false,.bool⟩],(.seq (.region [.mv 2 (.c (.bool false))] [0]) (.seq (.seq (.region [.mv 3 (.i 0)] [0,3]) (.block 0 [] (.loop [0,3] Zj))) Zk))⟩
theorem vK:Au Tryz.prog 140 Fy=true:=by kernel_rfl
def US:DT:=(.sk 32 false 3 21 36 (.sk 35 true 9 30 45 (.sk 32 false 1 31 46 (.tk 32 [.pick 46 (.t 32) (.c (.bool true)) (.t 45)] .done))))
def UT:DT:=(.sk 26 false 4 16 31 (.tk 18 [.m 32 31,.pick 31 (.t 26) (.c (.bool true)) (.t 30)] US))
def UU:DT:=(.tg 32 false 31 [.pick 45 (.t 35) (.t 44) (.c (.bool false))] (.tk 32 [.pick 46 (.t 32) (.c (.bool true)) (.t 45)] .done))
def UV:AG:=(.seq (.seq (.region [.m 5 3,.m 6 0,.len 7 false (.t 6),.b 8 .lss 5 7] [0,3,8]) (.cond (.t 8) .skip (.exit 0))) (.seq (.block 1 [0,3] (.seq (.region [.m 11 0,.m 12 3,.idx 13 3 (.t 11) (.t 12),.ls 14 13 3,.al 4 AF,.store (.t 4) (.t 14) 3 false] [0,3,4]) (.seq (.draw (Ea 32 [(22,[20]),(24,[21,23]),(27,[20]),(29,[26,28])]) (.tk 3 [.len 17 true (.t 16),.l 16 15,.f 15 4 0] (.only 3 none (.cx (some 18) [.t 17,.c (.int .i64 1),.c (.int .i64 12)] Am) false [] (.tk 6 [.m 20 19,.un 19 .not (.t 18)] (.test 20 (.sk 20 false 4 10 25 (.tk 12 [.m 26 25,.pick 25 (.t 20) (.c (.bool true)) (.t 24)] UT)) (.tg 20 false 10 [.bin 24 .gtr (.t 23) (.i 20),.len 23 true (.t 22),.l 22 21,.f 21 4 1] (.tk 12 [.m 26 25,.pick 25 (.t 20) (.c (.bool true)) (.t 24)] (.test 26 UT (.tg 26 false 14 [.l 28 27,.f 27 4 2] (.only 14 (some (26,false)) (.cx (some 29) [.t 28,.c (.int .i64 1),.c (.int .i64 1000000000)] Am) false [] (.tg 26 false 16 [.un 30 .not (.t 29)] (.tk 18 [.m 32 31,.pick 31 (.t 26) (.c (.bool true)) (.t 30)] (.test 32 US (.tg 32 false 21 [.m 35 34,.bin 34 .gtr (.t 33) (.i 0),.m 33 3] (.test 35 (.tg 35 true 30 [.b 44 .geq 41 43,.l 43 42,.f 42 4 0,.l 41 40,.f 40 39 0,.idx 39 3 (.t 36) (.t 38),.bin 38 .sub (.t 37) (.i 1),.m 37 3,.m 36 0] UU) (.sk 35 true 9 30 45 UU))))))))))))))) [0,3,46]) (.cond (.t 46) (.seq (.region [.mv 2 (.c (.bool false))] [2]) .ret) .skip)))) (.region [.m 9 3,.bin 10 .add (.t 9) (.i 1),.m 3 10] [0,3])))
def UW:AG:=(.seq (.region [.m 47 0,.len 48 false (.t 47),.bin 49 .leq (.t 48) (.i 12),.m 2 49] [2]) .ret)
def Eu:BE:=⟨[.val (.slice AF)],[⟨2,false,.bool⟩],(.seq (.region [.mv 2 (.c (.bool false))] [0]) (.seq (.seq (.region [.mv 3 (.i 0)] [0,3]) (.block 0 [0] (.loop [0,3] UV))) UW))⟩
theorem so:Au Tryz.prog 141 Eu=true:=by kernel_rfl
def KB:BE:=⟨[.val Mw],[⟨2,false,.bool⟩],(.seq (.region [.box 1 (.t 0) false,.mv 2 (.c (.bool false))] [1]) (.seq (.region [.f 3 1 0,.l 4 3,.bin 5 .eql (.t 4) (.i 0),.m 6 5,.sc 6 true [.f 7 1 1,.l 8 7,.bin 9 .eql (.t 8) (.i 0)] 10 (.t 9) (.c (.bool false)),.m 11 10,.sc 11 true [.f 12 1 2,.l 13 12,.bin 14 .eql (.t 13) (.i 0)] 15 (.t 14) (.c (.bool false)),.m 16 15,.sc 16 true [.f 17 1 3,.ls 18 17 3,.bu 19 AF [],.eqs 20 false AF (.t 18) (.t 19)] 21 (.t 20) (.c (.bool false)),.m 22 21,.sc 22 true [.f 23 1 6,.l 24 23,.len 25 false (.t 24),.bin 26 .eql (.t 25) (.i 0)] 27 (.t 26) (.c (.bool false)),.m 2 27] [2]) .ret))⟩
theorem mo:Au Tryz.prog 142 KB=true:=by kernel_rfl
def RB:AG:=(.seq (.seq (.region [.m 8 6,.m 9 0,.len 10 false (.t 9),.b 11 .lss 8 10] [0,1,5,6,11]) (.cond (.t 11) .skip (.exit 0))) (.seq (.block 1 [0,1,5,6] (.seq (.region [.m 14 0,.m 15 6,.idx 16 1 (.t 14) (.t 15),.l 17 16,.m 18 1,.b 19 .neq 17 18] [0,1,5,6,19]) (.cond (.t 19) (.region [.m 20 5,.m 21 0,.m 22 6,.idx 23 1 (.t 21) (.t 22),.l 24 23,.blst 25 (.int .i64) [.t 24],.app 26 3 (.int .i64) (.t 20) (.t 25),.m 5 26] [0,1,5,6]) .skip))) (.region [.m 12 6,.bin 13 .add (.t 12) (.i 1),.m 6 13] [0,1,5,6])))
def RC:AG:=(.seq (.region [.m 27 5,.m 4 27] [4]) .ret)
def DB:BE:=⟨[.val (.slice (.int .i64)),.val (.int .i64)],[⟨4,false,(.slice (.int .i64))⟩],(.seq (.region [.mv 4 (.c (.nil))] [0,1]) (.seq (.region [.brow 7 3 (.int .i64) [],.m 5 7] [0,1,5]) (.seq (.seq (.region [.mv 6 (.i 0)] [0,1,5,6]) (.block 0 [5] (.loop [0,1,5,6] RB))) RC)))⟩
theorem je:Au Tryz.prog 143 DB=true:=by kernel_rfl
def Fz:AG:=(.seq (.block 3 [0,1,2,6,7] (.draw (Ea 18 [(1,[]),(2,[]),(3,[]),(5,[]),(6,[]),(8,[5,7]),(10,[]),(11,[]),(12,[10,11]),(14,[0,1,9,13]),(16,[2,4,15])]) (.tk 15 [.idx 47 1 (.t 33) (.t 34),.l 46 45,.idx 45 1 (.t 43) (.t 44),.m 44 7,.m 43 0,.l 42 41,.idx 41 1 (.t 38) (.t 40),.bin 40 .sub (.t 39) (.i 1),.m 39 7,.m 38 0,.bin 37 .sub (.t 36) (.i 1),.m 36 7,.m 35 0,.m 34 7,.m 33 0] (.only 15 none (.store (.t 47) (.t 42) 1 false) false [] (.tk 17 [.idx 48 1 (.t 35) (.t 37)] (.only 17 none (.store (.t 48) (.t 46) 1 false) false [] .done)))) [0,1,2,6,7])) (.region [.m 31 7,.bin 32 .sub (.t 31) (.i 1),.m 7 32] [0,1,2,6,7]))
def F0:AG:=(.seq (.seq (.draw (Ea 15 [(1,[]),(2,[0,1]),(5,[3]),(6,[4,5]),(8,[3]),(9,[3]),(11,[8,10]),(13,[7,12])]) (.tk 4 [.m 19 18,.b 18 .gtr 16 17,.m 17 1,.m 16 7] (.test 19 (.tg 19 true 13 [.l 28 27,.idx 27 1 (.t 24) (.t 26),.bin 26 .sub (.t 25) (.i 1),.m 25 7,.m 24 0,.l 23 22,.idx 22 1 (.t 20) (.t 21),.m 21 7,.m 20 0] (.only 13 (some (19,true)) (.cl 29 [23,28] cE) false [] (.tk 15 [.pick 30 (.t 19) (.t 29) (.c (.bool false))] .done))) (.sk 19 true 10 14 30 (.tk 15 [.pick 30 (.t 19) (.t 29) (.c (.bool false))] .done)))) [0,1,2,6,7,30]) (.cond (.t 30) .skip (.exit 2))) Fz)
def F3:AG:=(.region [.m 13 6,.bin 14 .add (.t 13) (.i 1),.m 6 14] [0,1,2,6])
def F4:AG:=(.seq (.seq (.region [.m 10 6,.m 11 2,.b 12 .lss 10 11] [0,1,2,6,12]) (.cond (.t 12) .skip (.exit 0))) (.seq (.block 1 [0,1,2,6] (.seq (.region [.m 15 6,.m 7 15] [0,1,2,6,7]) (.block 2 [0,1,2,6] (.loop [0,1,2,6,7] F0)))) F3))
def Aa:BE:=⟨[.mut (.own 3 (.int .i64)),.val (.int .i64),.val (.int .i64)],[],(.seq (.region [.m 8 1,.bin 9 .add (.t 8) (.i 1),.m 6 9] [0,1,2,6]) (.block 0 [] (.loop [0,1,2,6] F4)))⟩
theorem Mh:Au Tryz.prog 148 Aa=true:=by kernel_rfl
def NK:BE:=⟨[.val (.int .i64),.val (.int .i64)],[⟨4,false,.bool⟩],(.seq (.region [.mv 4 (.c (.bool false))] [0,1]) (.seq (.region [.m 5 0,.cl 6 [5] YV,.m 7 6,.sc 7 true [.m 8 1,.cl 9 [8] YV,.un 10 .not (.t 9)] 11 (.t 10) (.c (.bool false)),.m 12 11,.sc 12 false [.m 13 0,.m 14 1,.b 15 .lss 13 14] 16 (.c (.bool true)) (.t 15),.m 4 16] [4]) .ret))⟩
theorem sq:Au Tryz.prog 154 NK=true:=by kernel_rfl
def RD:AG:=(.seqc [0,2] (.seq (.region [.m 13 0,.bin 14 .geq (.t 13) (.c (.int .u64 256))] [0,2,14]) (.cond (.t 14) (.seq (.region [.m 15 0,.bin 16 .shr (.t 15) (.c (.int .u64 8)),.m 0 16] [0,2]) (.region [.m 17 2,.bin 18 .add (.t 17) (.i 8),.m 2 18] [0,2])) .skip)) (.seq (.region [.m 19 2,.m 20 0,.cvi 21 .u8 (.t 20),.sidx 22 (.c (.str ⟨#[0,1,2,2,3,3,3,3,4,4,4,4,4,4,4,4,5,5,5,5,5,5,5,5,5,5,5,5,5,5,5,5,6,6,6,6,6,6,6,6,6,6,6,6,6,6,6,6,6,6,6,6,6,6,6,6,6,6,6,6,6,6,6,6,7,7,7,7,7,7,7,7,7,7,7,7,7,7,7,7,7,7,7,7,7,7,7,7,7,7,7,7,7,7,7,7,7,7,7,7,7,7,7,7,7,7,7,7,7,7,7,7,7,7,7,7,7,7,7,7,7,7,7,7,7,7,7,7,8,8,8,8,8,8,8,8,8,8,8,8,8,8,8,8,8,8,8,8,8,8,8,8,8,8,8,8,8,8,8,8,8,8,8,8,8,8,8,8,8,8,8,8,8,8,8,8,8,8,8,8,8,8,8,8,8,8,8,8,8,8,8,8,8,8,8,8,8,8,8,8,8,8,8,8,8,8,8,8,8,8,8,8,8,8,8,8,8,8,8,8,8,8,8,8,8,8,8,8,8,8,8,8,8,8,8,8,8,8,8,8,8,8,8,8,8,8,8,8,8,8,8,8,8,8,8,8]⟩)) (.t 21),.cvi 23 .i64 (.t 22),.b 24 .add 19 23,.m 2 24] [2]) .ret))
def RE:AG:=(.seqc [0,2] (.seq (.region [.m 7 0,.bin 8 .geq (.t 7) (.c (.int .u64 65536))] [0,2,8]) (.cond (.t 8) (.seq (.region [.m 9 0,.bin 10 .shr (.t 9) (.c (.int .u64 16)),.m 0 10] [0,2]) (.region [.m 11 2,.bin 12 .add (.t 11) (.i 16),.m 2 12] [0,2])) .skip)) RD)
def DC:BE:=⟨[.val (.int .u64)],[⟨2,false,(.int .i64)⟩],(.seq (.region [.mv 2 (.i 0)] [0,2]) (.seqc [0,2] (.seq (.region [.m 3 0,.bin 4 .geq (.t 3) (.c (.int .u64 4294967296))] [0,2,4]) (.cond (.t 4) (.seq (.region [.m 5 0,.bin 6 .shr (.t 5) (.c (.int .u64 32)),.m 0 6] [0]) (.region [.mv 2 (.i 32)] [0,2])) .skip)) RE))⟩
theorem jf:Au Tryz.prog 158 DC=true:=by kernel_rfl
def CX:AG:=(.seq (.seq (.region [.m 15 9,.m 16 10,.b 17 .lss 15 16] [0,1,2,8,9,10,17]) (.cond (.t 17) .skip (.exit 0))) (.block 1 [0,1,2,8,9,10] (.seq (.region [.m 18 9,.m 19 10,.b 20 .add 18 19,.cvi 21 .u64 (.t 20),.bin 22 .shr (.t 21) (.c (.int .u64 1)),.cvi 23 .i64 (.t 22),.m 11 23] [0,1,2,8,9,10,11]) (.seq (.region [.m 24 2,.m 25 0,.m 26 11,.idx 27 3 (.t 25) (.t 26),.ls 28 27 3,.m 29 1,.call (some 30) 160 [(.t 28,.val AF),(.t 29,.val .str),(.t 24,.cap0 160)] [(.int .i64)],.bin 31 .lss (.t 30) (.i 0)] [0,1,2,8,9,10,11,31]) (.cond (.t 31) (.region [.m 32 11,.bin 33 .add (.t 32) (.i 1),.m 9 33] [0,1,2,8,9,10]) (.region [.m 34 11,.m 10 34] [0,1,2,8,9,10]))))))
def BY:AG:=(.seq (.region [.m 35 9,.m 36 9,.m 37 8,.b 38 .lss 36 37,.m 39 38,.sc 39 true [.m 40 2,.m 41 0,.m 42 9,.idx 43 3 (.t 41) (.t 42),.ls 44 43 3,.m 45 1,.call (some 46) 160 [(.t 44,.val AF),(.t 45,.val .str),(.t 40,.cap0 160)] [(.int .i64)],.bin 47 .eql (.t 46) (.i 0)] 48 (.t 47) (.c (.bool false)),.m 6 35,.m 7 48] [6,7]) .ret)
def AN:BE:=⟨[.val (.slice AF),.val .str,.val (.fun 160)],[⟨6,false,(.int .i64)⟩,⟨7,false,.bool⟩],(.seq (.region [.mv 6 (.i 0),.mv 7 (.c (.bool false))] [0,1,2]) (.seq (.region [.m 12 0,.len 13 false (.t 12),.m 8 13] [0,1,2,8]) (.seq (.region [.m 14 8,.mv 9 (.i 0),.m 10 14] [0,1,2,8,9,10]) (.seq (.block 0 [0,1,2,8,9] (.loop [0,1,2,8,9,10] CX)) BY))))⟩
theorem Fm:Au Tryz.prog 159 AN=true:=by kernel_rfl
def KC:BE:=⟨[.val AF,.val .str],[⟨4,false,(.int .i64)⟩],(.seq (.region [.box 2 (.t 0) false,.mv 4 (.i 0)] [1,2]) (.seq (.region [.f 5 2 0,.l 6 5,.m 7 1,.cl 8 [6,7] jY,.m 4 8] [4]) .ret))⟩
theorem mq:Au Tryz.prog 160 KC=true:=by kernel_rfl
def LO:BE:=⟨[.val (.int .i64)],[⟨2,false,.bool⟩],(.seq (.region [.mv 2 (.c (.bool false))] [0]) (.seq (.region [.m 3 0,.m 4 0,.b 5 .neq 3 4,.m 2 5] [2]) .ret))⟩
theorem pS:Au Tryz.prog 169 LO=true:=by kernel_rfl
end
end Go.Proofs.YtokiohnjegbnpaaGreat.Core

namespace Go.Proofs.YtokiohnjegbnpaaGreat.Core
open Go Go.Shelf Go.RowKit Go.Lib
variable {P:Program} {ρ:Ren}
set_option maxHeartbeats 2000000 in
set_option maxRecDepth 100000 in
theorem ACF (L:SlLaysE0.n41 P ρ) (i0:TypeInfo) (z:Value) (size bytes:Nat) (hi:P.info? (ρ.t 23)=some i0) (hz0:i0.zero=some z) (hz1:i0.size=size) (hz2:i0.bytes=bytes) (hzs:z.cells.size=size) (hsz:0<size)
  (z23:∀ w,(Go.sizeOf (ρ.t 23)).run P w=.ok size w) (ad:Addr) (n c:Nat) (news:List Value) (w:World) (hl:news.length=n*size) (hn:n<=maxLen) (hbig:n*bytes<=140737488355328)
  (hc:∀ j u,news[j]? = some u->w.cell? (ad.add j)=some u) (h1:∀ u∈news,u.oneCell'=true) :
  Calls P (ρ.f 41) #[.slice (some ad) n c] w fun e w'=>∃ v',e=.returned v'/\w'.ownsRow w.heap.size (ρ.t 23) size v' n news/\w.grownBy w' none:=by
 have mixed:=L.mixed; have t4:=L.t4; have a4:=L.a4; have z4:=L.z4; have v4:=L.v4; have t22:=L.t22; have a22:=L.a22; have z22:=L.z22; have v22:=L.v22
 have q22:∀ (w:World) (a:Option Addr) (n c n' c':Nat),(binOp .eql (ρ.t 22) (.slice a n c) (.slice none n' c')).run P w=.ok (.bool a.isNone) w:=fun w a n c n' c'=>Lib.run_eql_slice_nil w _ _ a n c n' c' L.t22
 have u22:∀ w,Sem.run P (underlying (ρ.t 22)) w=.ok (TypeDesc.slice (ρ.t 23)) w:=run_underlying t22
 have A:Aside (∀ j u,news[j]? = some u->w.cell? (ad.add j)=some u):=hc
 clear hc
 obtain ⟨_,_,FG⟩:=L.f41
 go_enter FG,SlBodyN.n41_ntmps ρ
 go_wp2_with (at_builtin; refine wpList_append_own _ rfl _ _ (ρ.t 22) rfl w.heap.size (ρ.t 23) i0 z size bytes t22 hi hz0 hz1 hz2 hzs hsz _ _ _ rfl (World.ownsRow_made w #[] 0 (Nat.le_refl _) (Nat.zero_le _) (by simp)) ad n c news rfl ?qc1 ?qc2 ?qc3 ?qc4 ?qc5 ?qc6 ?_)
 case qc1=>exact hl
 case qc2 =>
  intro j u hj
  exact Lib.cell?_alloc_some _ (A.out j u hj)
 case qc3=>exact h1
 case qc4=>rw [Nat.zero_add]; exact hn
 case qc5=>rw [Nat.zero_add]; exact hbig
 case qc6=>simp
 intro v' w1 hown hgrow hnil
 go_wp2
 go_ret
 refine ⟨v',rfl,by simpa using hown,⟨hgrow.os,hgrow.tape,hgrow.output,?_,fun k hk _=>?_⟩⟩
 ·have:=hgrow.size
  simp at this
  omega
 ·rw [hgrow.block k (by simp; omega) (by simp [Value.ownBlock]; omega)]
  simp only [World.alloc,Array.getElem?_push]
  rw [if_neg (by omega)]
set_option maxHeartbeats 1000000 in
theorem ABN (L:SlLaysE0.n41 P ρ) (n c:Nat) (w:World) :
  Calls P (ρ.f 41) #[.slice none n c] w fun e w'=>e=.returned (.slice none 0 0)/\w'=w:=by
 have mixed:=L.mixed; have t4:=L.t4; have a4:=L.a4; have z4:=L.z4; have v4:=L.v4; have t22:=L.t22; have a22:=L.a22; have z22:=L.z22; have v22:=L.v22
 have q22:∀ (w:World) (a:Option Addr) (n c n' c':Nat),(binOp .eql (ρ.t 22) (.slice a n c) (.slice none n' c')).run P w=.ok (.bool a.isNone) w:=fun w a n c n' c'=>Lib.run_eql_slice_nil w _ _ a n c n' c' L.t22
 obtain ⟨_,_,FG⟩:=L.f41
 go_enter FG,SlBodyN.n41_ntmps ρ
 go_wp2
 go_ret
 exact ⟨rfl,rfl⟩
def Xw (P:Program) (f:Nat) (args bs rs:List AV):Prop :=
 wh P f/\(∀ r∈rs,r.cells.all AV.nilFree=true)/\∃ n,n+bs.length=rs.length /\
  ∀ (H:HP) (φ:CN) (w:World) (cargs:List Value),SR H φ (Bh bs args) w->Ax (VB H φ (Bh bs args)) (Dh (GD bs) args) cargs ->
   Calls P f cargs.toArray w fun out w'=>match out with
    | .returned v=>PE H φ w args bs (rs.drop n) (rs.take n) v w'
    | _=>False
theorem zD {H H':HP} {φ φ':CN} {w w':World} {args rs:List AV} {v:Value} (h:Ar H φ (Bh [] args) w H' φ' (Bh [] rs) w') (hr:AD6 H' φ' (Bh [] rs) (Dh (GD []) rs) v):PE H φ w args [] [] rs v w':=by
 refine ⟨H',φ',h.le,h.sr,h.fr _ _ _ _ _ ⟨rfl,rfl,rfl,Nat.le_refl _,fun _ _ _=>rfl,fun _ _=>rfl,fun i bi hi _ b hb=>.inr ⟨i,(Aw.1 hi).1,hb⟩,fun j hj=>?_,fun _ _ _=>rfl⟩,hr⟩
 simp at hj
theorem ACG {K:Kd} (L:SlLaysE0.n41 P ρ) (he:yT P (ρ.t 23) K=true) {xs:List K.T} (hx:xs.length<=68719476736):Xw P (ρ.f 41) [.lst K xs] [] [.new (ρ.t 23) K xs]:=by
 obtain ⟨i,z,hi,hz,h1,h2,h3,h4⟩:=Vh he
 have hn:xs.length<=maxLen:=by unfold maxLen; omega
 refine ⟨?_,?_,1,rfl,fun H φ w cargs hs ha=>?_⟩
 ·obtain ⟨nm,hnm,hf⟩:=L.f41
  exact ⟨_,_,hf,hnm,rfl⟩
 ·intro r hr
  simp only [Cl] at hr
  subst hr
  rfl
 ·obtain ⟨v,rest,rfl,hv,hrest⟩:=ha
  have hrest:rest=[]:=hrest
  subst hrest
  ··obtain ⟨sl,cap,e,hc,hr⟩:=(show bd (HG H K) K.sz H xs v from hv)
    subst e
    have fin:∀ (v':Value) (w':World) (flat:List Value),w'.ownsRow w.heap.size (ρ.t 23) K.sz v' xs.length flat->El H K xs flat->w.grownBy w' none->PE H φ w [.lst K xs] [] [] [.new (ρ.t 23) K xs] v' w':=by
     intro v' w' flat ho hrr hg
     have hst:=bh (st:=Bh [] [.lst K xs]) hs hg ho hrr
     refine zD (rs:=[.new (ρ.t 23) K xs]) hst ?_
     exact ⟨rfl,rfl⟩
    cases sl with
    | none =>
     have:xs=[]:=by
      rcases hr with h | ⟨_,_,_,_,_,h,_⟩
      ·exact h
      ·cases h
     subst this
     refine Calls.mono (ABN L _ _ w) fun out w' h=>?_
     obtain ⟨rfl,rfl⟩:=h
     exact fin _ _ [] ⟨by simp,.inl ⟨rfl,rfl⟩⟩ (fun j x h=>by simp at h) ⟨rfl,rfl,rfl,Nat.le_refl _,fun _ _ _=>rfl⟩
    | some ad =>
     obtain ⟨sl2,cap2,flat,e2,_,hl,hrr,hcl⟩:=vp hs.hp (show bd (HG H K) K.sz H xs (.slice (some ad) xs.length cap) from ⟨some ad,cap,rfl,hc,hr⟩)
     cases e2
     refine Calls.mono (ACF L i z K.sz i.bytes hi hz h1 rfl h3 (Kd.sz_pos K) (fun w=>by simp [sizeOf,typeInfo,hi,h1]) ad xs.length cap flat w hl hn (Nat.le_trans (Nat.mul_le_mul hx h2) (by omega)) ?_ (Do hrr hl)) fun out w' h=>?_
     ·intro j u hj
      rcases hcl with rfl | ⟨b,off,c,el,fz,ea,hb,hcc⟩
      ·have:flat=[]:=E4.1 (by rw [hl]; simp)
       rw [this] at hj
       simp at hj
      ·cases ea
       rw [Addr.add_none]
       have:=hs.hp _ _ hb
       have h5:=hcc j u hj
       simp only [World.cell?,this]
       simpa using h5
     ·obtain ⟨v',rfl,ho,hg⟩:=h
      exact fin v' w' flat ho hrr hg

theorem UX (w:World) (dT sT ty elem:TypeId) (g o dLen dCap:Nat) (a:Addr) (sLen sCap:Nat) (cur:Array Value) (t:TypeId) (cs:List Value) (k:Nat) (i:TypeInfo)
  (hu:P.underlying dT=some (.slice elem)) (hi:P.info? elem=some i) (hg:w.heap[g]? = some (.cells cur t (0,0))) (hk:Nat.min sLen dLen=k) (hn:cs.length=k*i.size)
  (hsrc:∀ j v,cs[j]? = some v->w.cell? (a.add j)=some v) (hfit:o+cs.length<=cur.size) (h1:∀ v∈cs,v.oneCell'=true) :
  (Builtin.copy_ #[dT,sT] ty #[.slice (some ⟨g,o,none⟩) dLen dCap,.slice (some a) sLen sCap]).run P w =
   .ok (goInt k) (w.setRow g (cur.toList.take o++cs++cur.toList.drop (o+cs.length)).toArray):=by
 have hl:=run_loadCells_list (P:=P) w a cs hsrc
 have hst:=run_storeCells_at P g o t cs 0 cur w hg (by simpa using hfit) h1
 simp [Builtin.copy_,run_underlying hu,Builtin.lenOf,Builtin.firstCells,sizeOf,typeInfo,hi,hk,<- hn,hl,hst]
theorem mr (w:World) (t tn ty e:TypeId) (i:TypeInfo) (z:Value) (kn:IntKind) (ht:P.underlying t=some (.slice e)) (htn:P.underlying tn=some (.int kn)) (hi:P.info? e=some i) (hz:i.zero=some z)
  (b:Addr) (sLen sCap:Nat) (olds:List Value) (hlo:olds.length=sLen*i.size) (holds:∀ j v,olds[j]? = some v->w.cell? (b.add j)=some v) (n:Nat) (h0:0<n) (hs:0<i.size)
  (hg:sCap<sLen+n) (h63:((sLen+n:Nat):Int)<=9223372036854775807) (h48:n*i.bytes<=281474976710656) (hfit:Builtin.nextslicecap (sLen+n) sCap*i.bytes<=281474976710656) (k:IntKind) :
  (Builtin.append_ #[t,tn] ty #[.slice (some b) sLen sCap,.int k n]).run P w =
   .ok (.slice (some ⟨w.heap.size,0,none⟩) (sLen+n) (grownCap w (sLen+n) sCap e))
    (w.drew.alloc (.cells (olds.toArray++Builtin.zeroCells z.cells n++Builtin.zeroCells z.cells (grownCap w (sLen+n) sCap e-(sLen+n))) e)):=by
 have hn:¬ (sLen+n<=sCap):=by omega
 have hw:IntKind.i64.wrap (n:Int)=n:=by rw [IntKind.wrap_i64]; omega
 have h63':¬ (9223372036854775807<((sLen:Int)+(n:Int))):=by omega
 have h48':¬ (281474976710656<Builtin.nextslicecap (sLen+n) sCap*i.bytes):=by omega
 have h48i:¬ (281474976710656<(n:Int)*(i.bytes:Int)):=by
  rw [<- Int.natCast_mul]
  omega
 have hneg:¬ ((n:Int)<0):=by omega
 have hn0:n≠0:=by omega
 have hns:¬ (n*i.size=0):=Nat.mul_ne_zero hn0 (by omega)
 have hfo:=run_firstCells_some (P:=P) w.drew i.size sLen b sLen sCap olds hlo (by simpa using holds)
 simp [Builtin.append_,run_underlying ht,run_underlying htn,sizeOf,typeInfo,zeroValue,hi,hz,asInt,asIntOf,hw,hn,hn0,hneg,hns,h63',h48',h48i,Question.forced,hfo,newRow,grownCap]
 try (congr 2; apply Array.ext'; simp [Bs])
structure ABO (P:Program) (ρ:Ren):Prop where
 mixed:P.follows .mixedOrders=true
 f22:Bears P (ρ.f 22) (Body2.n22 ρ)
 ov:∀ args w,(callFunc (ρ.f 29) args).run P w=((Extern.SlicesOverlaps.overlaps #[(ρ.t 24),(ρ.t 24)] #[(ρ.t 4)] args).run P w).andThen fun v w'=>.ok (.value v) w'
 t3:P.underlying (ρ.t 3)=some (TypeDesc.int IntKind.i64)
 a3:∀ w,(isAgg (ρ.t 3)).run P w=.ok false w
 z3:∀ w,(Go.sizeOf (ρ.t 3)).run P w=.ok 1 w
 v3:∀ w,(zeroValue (ρ.t 3)).run P w=.ok (Value.int IntKind.i64 0) w
 t4:P.underlying (ρ.t 4)=some (TypeDesc.bool)
 a4:∀ w,(isAgg (ρ.t 4)).run P w=.ok false w
 z4:∀ w,(Go.sizeOf (ρ.t 4)).run P w=.ok 1 w
 v4:∀ w,(zeroValue (ρ.t 4)).run P w=.ok (Value.bool false) w
 t24:P.underlying (ρ.t 24)=some (TypeDesc.slice (ρ.t 9))
 a24:∀ w,(isAgg (ρ.t 24)).run P w=.ok false w
 z24:∀ w,(Go.sizeOf (ρ.t 24)).run P w=.ok 1 w
 v24:∀ w,(zeroValue (ρ.t 24)).run P w=.ok (Value.slice none 0 0) w
set_option maxHeartbeats 4000000 in
set_option maxRecDepth 100000 in
theorem AAB (L:ABO P ρ) (i0:TypeInfo) (z:Value) (size bytes:Nat) (hi:P.info? (ρ.t 9)=some i0) (hz0:i0.zero=some z) (hz1:i0.size=size) (hz2:i0.bytes=bytes) (hzs:z.cells.size=size) (hsz:0<size)
  (z9:∀ w,(Go.sizeOf (ρ.t 9)).run P w=.ok size w) (v:Value) (base:Option Addr) (n cap:Nat) (hv:v=.slice base n cap) (xs:List Value) (w:World) (hown:w.ownsRow 0 (ρ.t 9) size v n xs) (ad:Addr) (m vc:Nat) (news:List Value) (hm:0<m)
  (hl:news.length=m*size) (hn:n+m<=maxLen) (hbig:(n+m)*bytes<=140737488355328) (hnews:∀ j u,news[j]? = some u->w.cell? (ad.add j)=some u) (h1:∀ u∈news,u.oneCell'=true) :
  Calls P (ρ.f 22) #[v,.int .i64 n,.slice (some ad) m vc] w fun e w'=>∃ v',e=.returned v'/\w'.ownsRow 0 (ρ.t 9) size v' (n+m) (xs++news)/\w.grownBy w' v.ownBlock/\(v'.ownBlock=v.ownBlock\/v'.ownBlock=some w.heap.size):=by
 subst hv
 have mixed:=L.mixed; have t3:=L.t3; have a3:=L.a3; have z3:=L.z3; have v3:=L.v3; have t4:=L.t4; have a4:=L.a4; have z4:=L.z4; have v4:=L.v4; have t24:=L.t24; have a24:=L.a24; have z24:=L.z24; have v24:=L.v24
 have u3:=run_underlying L.t3; have u4:=run_underlying L.t4; have u24:=run_underlying L.t24
 have hz1':¬ ((m:Int)=0):=by omega
 have hob:∀ c,(Value.slice base n c).ownBlock=(Value.slice base n cap).ownBlock:=fun c=>by cases base<;>rfl
 have hcap:n<=cap:=by
  rcases hown.2 with ⟨e,e2⟩ | ⟨g,c,cur,e,_,_,h,_⟩
  ·omega
  ·cases e; exact h
 have A:Aside (∀ j u,news[j]? = some u->w.cell? (ad.add j)=some u):=hnews
 clear hnews
 obtain ⟨_,_,FG⟩:=L.f22
 go_enter FG,Body2.n22_ntmps ρ
 go_wp2_with (at_builtin; refine wpList_append_own_at _ rfl _ _ (ρ.t 24) rfl 0 (ρ.t 9) i0 z size bytes t24 hi hz0 hz1 hz2 hzs hsz _ _ _ rfl hown ad m vc news rfl ?qc1 ?qc2 ?qc3 ?qc4 ?qc5 ?qc6 ?_)
 all_goals first
  | exact hl
  | exact A.out
  | exact h1
  | exact hn
  | exact hbig
  | exact Nat.zero_le _
  | (
   intro v' w1 ho hgrow hnil hblk
   go_wp2
   go_ret
   exact ⟨v',rfl,ho,by rw [<- hob]; exact hgrow,by rw [<- hob]; exact hblk⟩)
theorem ACH {α:Type} (c V:List α) (I M N:Nat) (hI:I<=N) (hV:V.length=M) (hN:N+M<=c.length) :
  (((c.take (I+M)++(c.take N).drop I++c.drop (I+M+(N-I))).take I++V++(c.take (I+M)++(c.take N).drop I++c.drop (I+M+(N-I))).drop (I+M)).take (N+M))=c.take I++V++(c.take N).drop I:=by
 have l1:(c.take (I+M)).length=I+M:=by rw [List.length_take]; omega
 have l2:((c.take N).drop I).length=N-I:=by rw [List.length_drop,List.length_take]; omega
 have e1:(c.take (I+M)++(c.take N).drop I++c.drop (I+M+(N-I))).take I=c.take I:=by
  rw [Bs,List.take_append_of_le_length (by omega),List.take_take,Nat.min_eq_left (by omega)]
 have e2:(c.take (I+M)++(c.take N).drop I++c.drop (I+M+(N-I))).drop (I+M)=(c.take N).drop I++c.drop (I+M+(N-I)):=by
  rw [Bs,List.drop_append_of_le_length (by omega),List.drop_of_length_le (by omega),List.nil_append]
 rw [e1,e2,<- Bs]
 have l3:(c.take I++V++(c.take N).drop I).length=N+M:=by simp only [List.length_append,l2,hV,List.length_take]; omega
 rw [List.take_append_of_le_length (by omega),<- l3,List.take_length]
theorem KD (w:World) (g:Nat) (c:Array Value):(w.setRow g c).heap.size=w.heap.size:=by
 unfold World.setRow
 exact Array.size_modify
theorem zE {w:World} {b:Nat} {c:Array Value} {t:TypeId} {fz:Nat×Nat} (h:w.heap[b]? = some (.cells c t fz)):w.shape? b=some (t,c.size):=by simp [World.shape?,h]
theorem wF {w:World} {b o:Nat} {c:Array Value} {t:TypeId} (h:w.heap[b]? = some (.cells c t (0,0))):w.frozen? ⟨b,o,none⟩=false:=by simp [World.frozen?,h]
theorem Rx {w:World} {b o:Nat} {c:Array Value} {t:TypeId} {fz:Nat×Nat} (h:w.heap[b]? = some (.cells c t fz)):w.cell? ⟨b,o,none⟩=c[o]? := by simp [World.cell?,h]
set_option maxHeartbeats 8000000 in
set_option maxRecDepth 100000 in
theorem xh (L:ABO P ρ) (i0:TypeInfo) (z:Value) (size bytes:Nat) (hi:P.info? (ρ.t 9)=some i0) (hz0:i0.zero=some z) (hz1:i0.size=size) (hz2:i0.bytes=bytes) (hzs:z.cells.size=size) (hsz:0<size)
  (z9:∀ w,(Go.sizeOf (ρ.t 9)).run P w=.ok size w) (g n cap i:Nat) (cur:Array Value) (w:World) (hg:w.heap[g]? = some (.cells cur (ρ.t 9) (0,0))) (hcs:cur.size=cap*size) (hin:i<n) (vb m vc:Nat) (vcur:Array Value) (hgv:w.heap[vb]? = some (.cells vcur (ρ.t 9) (0,0))) (hvb:vb≠g)
  (hm:0<m) (hroom:n+m<=cap) (hcm:cap<=maxLen) (hvl:m*size<=vcur.size) (h1:∀ u∈cur.toList.take (n*size),u.oneCell'=true) (h1v:∀ u∈vcur.toList.take (m*size),u.oneCell'=true) (hkB:cur.size≠0) :
  Calls P (ρ.f 22) #[.slice (some ⟨g,0,none⟩) n cap,.int .i64 i,.slice (some ⟨vb,0,none⟩) m vc] w fun e w'=>e=.returned (.slice (some ⟨g,0,none⟩) (n+m) cap) /\
   ∃ cur',w'.heap[g]? = some (.cells cur' (ρ.t 9) (0,0))/\cur'.size=cap*size/\cur'.toList.take ((n+m)*size)=cur.toList.take (i*size)++vcur.toList.take (m*size)++(cur.toList.take (n*size)).drop (i*size)/\w.grownBy w' (some g):=by
 have mixed:=L.mixed; have t3:=L.t3; have a3:=L.a3; have z3:=L.z3; have v3:=L.v3; have t4:=L.t4; have a4:=L.a4; have z4:=L.z4; have v4:=L.v4; have t24:=L.t24; have a24:=L.a24; have z24:=L.z24; have v24:=L.v24
 have u3:=run_underlying L.t3; have u4:=run_underlying L.t4; have u24:=run_underlying L.t24
 have hcm':cap<=9223372036854775807:=hcm
 have hz1':¬ ((m:Int)=0):=by omega
 have hz2':¬ ((i:Int)=(n:Int)):=by omega
 have hw1:IntKind.i64.wrap ((i:Int)+(m:Int))=(i:Int)+(m:Int):=by rw [IntKind.wrap_i64]; omega
 have hw2:IntKind.i64.wrap ((n:Int)+(m:Int))=(n:Int)+(m:Int):=by rw [IntKind.wrap_i64]; omega
 have hb1:(0:Int)<=(i:Int)+(m:Int):=by omega
 have hin':i<=n:=by omega
 have htn:((i:Int)+(m:Int)).toNat=i+m:=by omega
 have htn2:((n:Int)+(m:Int)).toNat=n+m:=by omega
 have hb2:¬ (cap=i+m):=by omega
 have hb3:(i:Int)<=(n:Int)+(m:Int):=by omega
 have hb4:¬ (cap=i):=by omega
 have hb5:¬ ((n:Int)+(m:Int)>(cap:Int)):=by omega
 have hov:∀ o lb cb,(callFunc (ρ.f 29) #[.slice (some ⟨vb,0,none⟩) m vc,.slice (some ⟨g,o,none⟩) lb cb]).run P w=.ok (.value (.bool false)) w:=fun o lb cb=>by
  rw [L.ov,Lib.run_overlaps_apart w (ρ.t 24) (ρ.t 4) (ρ.t 9) L.t24 size z9 ⟨vb,0,none⟩ ⟨g,o,none⟩ m vc lb cb hvb _ _ _ _ (zE hgv) (zE hg) hkB (wF hgv) (wF hgv)]
  rfl
 have e1:(i+m)*size=i*size+m*size:=Nat.add_mul i m size
 have e2:(n+m)*size=n*size+m*size:=Nat.add_mul n m size
 have e3:(n-i)*size=n*size-i*size:=Nat.sub_mul n i size
 have e4:i*size<=n*size:=CH size hin'
 have e5:n*size+m*size<=cur.size:=by rw [hcs,<- e2]; exact CH size hroom
 have lm:((cur.toList.take (n*size)).drop (i*size)).length=(n-i)*size:=by rw [List.length_drop,List.length_take,Array.length_toList,e3]; omega
 have hcp1:∀ ty dc sc,(Builtin.copy_ #[(ρ.t 24),(ρ.t 24)] ty #[.slice (some ⟨g,(i+m)*size,none⟩) (n+m-(i+m)) dc,.slice (some ⟨g,i*size,none⟩) (n+m-i) sc]).run P w.drew=.ok (goInt ((n-i:Nat):Int)) (w.drew.setRow g (cur.toList.take ((i+m)*size)++(cur.toList.take (n*size)).drop (i*size)++cur.toList.drop ((i+m)*size+((cur.toList.take (n*size)).drop (i*size)).length)).toArray):=fun ty dc sc =>
  UX w.drew _ _ ty (ρ.t 9) g ((i+m)*size) (n+m-(i+m)) dc ⟨g,i*size,none⟩ (n+m-i) sc cur (ρ.t 9) _ (n-i) i0 L.t24 hi hg (by simp only [Nat.min_def]; split<;>omega) (by rw [lm,hz1])
   (fun j v hj=>by
    rw [Addr.add_none]
    have:w.drew.cell? ⟨g,i*size+j,none⟩=cur[i*size+j]? := Rx hg
    rw [this,<- hj,DA,B0]
    have:i*size+j<n*size:=by
     have:=(Aw.1 hj).1
     omega
    rw [if_pos this,Array.getElem?_toList])
   (by rw [lm,e1,e3]; omega) (fun v hv=>h1 v (List.mem_of_mem_drop hv))
 obtain ⟨cur1,hcur1⟩:∃ c1,c1=(cur.toList.take ((i+m)*size)++(cur.toList.take (n*size)).drop (i*size)++cur.toList.drop ((i+m)*size+((cur.toList.take (n*size)).drop (i*size)).length)).toArray:=⟨_,rfl⟩
 rw [<- hcur1] at hcp1
 have hs1:cur1.size=cap*size:=by
  rw [hcur1,List.size_toArray]
  simp only [List.length_append,List.length_take,List.length_drop,Array.length_toList,e1]
  omega
 have hg1:(w.drew.setRow g cur1).heap[g]? = some (.cells cur1 (ρ.t 9) (0,0)):=setRow_heap w.drew g cur cur1 (ρ.t 9) _ hg
 have hgv1:(w.drew.setRow g cur1).heap[vb]? = some (.cells vcur (ρ.t 9) (0,0)):=by rw [setRow_other w.drew g vb cur1 hvb]; exact hgv
 have lv:(vcur.toList.take (m*size)).length=m*size:=by rw [List.length_take,Array.length_toList]; omega
 have hcp2:∀ (W:World),W.heap=(w.drew.setRow g cur1).heap->∀ ty dc,(Builtin.copy_ #[(ρ.t 24),(ρ.t 24)] ty #[.slice (some ⟨g,i*size,none⟩) (n+m-i) dc,.slice (some ⟨vb,0,none⟩) m vc]).run P W=.ok (goInt m) (W.setRow g (cur1.toList.take (i*size)++vcur.toList.take (m*size)++cur1.toList.drop (i*size+(vcur.toList.take (m*size)).length)).toArray):=fun W hW ty dc =>
  UX W _ _ ty (ρ.t 9) g (i*size) (n+m-i) dc ⟨vb,0,none⟩ m vc cur1 (ρ.t 9) _ m i0 L.t24 hi (by rw [hW]; exact hg1) (by simp only [Nat.min_def]; split<;>omega) (by rw [lv,hz1])
   (fun j v hj=>by
    rw [Addr.add_none,Rx (by rw [hW]; exact hgv1),<- hj,B0,Nat.zero_add]
    have:j<m*size:=by
     have:=(Aw.1 hj).1
     omega
    rw [if_pos this,Array.getElem?_toList])
   (by rw [lv]; omega) h1v
 clear e1 e2 e3
 obtain ⟨_,_,FG⟩:=L.f22
 go_enter FG,Body2.n22_ntmps ρ
 go_wp2_with (simp only [hov])
 go_region_law_o (refine step_copy_runI rfl _ _ (ρ.t 24) (ρ.t 24) rfl _ _ (by simp [Act.eval,Act.put]) (by simp [Act.eval,Act.put]) (hcp1 _ _ _) ?_)
 go_wp2_with (at_builtin; refine wpList_copy_runI _ rfl _ _ (ρ.t 24) (ρ.t 24) rfl _ _ rfl rfl (hcp2 _ rfl _ _) ?_)
 go_ret
 have e1:(i+m)*size=i*size+m*size:=Nat.add_mul i m size
 have e2:(n+m)*size=n*size+m*size:=Nat.add_mul n m size
 have e3:(n-i)*size=n*size-i*size:=Nat.sub_mul n i size
 have e6:cur.toList.length=cap*size:=by rw [Array.length_toList,hcs]
 have e7:vcur.toList.length=vcur.size:=Array.length_toList
 refine ⟨rfl,_,setRow_heap _ g _ _ _ _ (setRow_heap w.drew g cur _ (ρ.t 9) _ hg),?_,?_,⟨rfl,rfl,rfl,by rw [KD,KD]; exact Nat.le_refl _,fun k hk hne=>?_⟩⟩
 ·simp only [List.size_toArray,List.length_append,List.length_take,List.length_drop,e1,e3,e6,e7]
  omega
 ·have:=ACH cur.toList (vcur.toList.take (m*size)) (i*size) (m*size) (n*size) e4 lv (by omega)
  simp only [e1,e2,e3]
  simpa only [Bs] using this
 ·have hk':k≠g:=fun e=>hne (by rw [e])
  rw [setRow_other _ g k _ hk',setRow_other _ g k _ hk']
  rfl
set_option maxHeartbeats 8000000 in
set_option maxRecDepth 100000 in
theorem zF (L:ABO P ρ) (i0:TypeInfo) (z:Value) (size bytes:Nat) (hi:P.info? (ρ.t 9)=some i0) (hz0:i0.zero=some z) (hz1:i0.size=size) (hz2:i0.bytes=bytes) (hzs:z.cells.size=size) (hsz:0<size)
  (z9:∀ w,(Go.sizeOf (ρ.t 9)).run P w=.ok size w) (g n cap i:Nat) (cur:Array Value) (w:World) (hg:w.heap[g]? = some (.cells cur (ρ.t 9) (0,0))) (hcs:cur.size=cap*size) (hin:i<n) (vb m vc:Nat) (vcur:Array Value) (hgv:w.heap[vb]? = some (.cells vcur (ρ.t 9) (0,0))) (hvb:vb≠g)
  (hm:0<m) (hnc:n<=cap) (hroom:cap<n+m) (hcm:n+m<=68719476736) (hby:bytes<=2048) (hvl:m*size<=vcur.size) (h1:∀ u∈cur.toList.take (n*size),u.oneCell'=true) (h1v:∀ u∈vcur.toList.take (m*size),u.oneCell'=true) :
  Calls P (ρ.f 22) #[.slice (some ⟨g,0,none⟩) n cap,.int .i64 i,.slice (some ⟨vb,0,none⟩) m vc] w fun e w'=>∃ cap',e=.returned (.slice (some ⟨w.heap.size,0,none⟩) (n+m) cap')/\n+m<=cap'/\cap'<=maxLen /\
   ∃ cur',w'.heap[w.heap.size]? = some (.cells cur' (ρ.t 9) (0,0))/\cur'.size=cap'*size/\cur'.toList.take ((n+m)*size)=cur.toList.take (i*size)++vcur.toList.take (m*size)++(cur.toList.take (n*size)).drop (i*size)/\w.grownBy w' none:=by
 have mixed:=L.mixed; have t3:=L.t3; have a3:=L.a3; have z3:=L.z3; have v3:=L.v3; have t4:=L.t4; have a4:=L.a4; have z4:=L.z4; have v4:=L.v4; have t24:=L.t24; have a24:=L.a24; have z24:=L.z24; have v24:=L.v24
 have u3:=run_underlying L.t3; have u4:=run_underlying L.t4; have u24:=run_underlying L.t24
 have hcm':n+m<=9223372036854775807:=by omega
 have hz1':¬ ((m:Int)=0):=by omega
 have hz2':¬ ((i:Int)=(n:Int)):=by omega
 have hw1:IntKind.i64.wrap ((i:Int)+(m:Int))=(i:Int)+(m:Int):=by rw [IntKind.wrap_i64]; omega
 have hw2:IntKind.i64.wrap ((n:Int)+(m:Int))=(n:Int)+(m:Int):=by rw [IntKind.wrap_i64]; omega
 have hw3:IntKind.i64.wrap ((n:Int)+(m:Int)-(i:Int))=(n:Int)+(m:Int)-(i:Int):=by rw [IntKind.wrap_i64]; omega
 have hb1:(0:Int)<=(i:Int)+(m:Int):=by omega
 have hin':i<=n:=by omega
 have htn:((i:Int)+(m:Int)).toNat=i+m:=by omega
 have htn2:((n:Int)+(m:Int)).toNat=n+m:=by omega
 have hb4:¬ (cap=i):=by omega
 have hb5:(n:Int)+(m:Int)>(cap:Int):=by omega
 have hb6:¬ (cap=0):=by omega
 have e1:(i+m)*size=i*size+m*size:=Nat.add_mul i m size
 have e2:(n+m)*size=n*size+m*size:=Nat.add_mul n m size
 have e3:(n-i)*size=n*size-i*size:=Nat.sub_mul n i size
 have e4:i*size<=n*size:=CH size hin'
 have e5:n*size<=cur.size:=by rw [hcs]; exact CH size hnc
 have lo:(cur.toList.take (i*size)).length=i*size:=by rw [List.length_take,Array.length_toList]; omega
 have lv:(vcur.toList.take (m*size)).length=m*size:=by rw [List.length_take,Array.length_toList]; omega
 have lm:((cur.toList.take (n*size)).drop (i*size)).length=(n-i)*size:=by rw [List.length_drop,List.length_take,Array.length_toList,e3]; omega
 have hgl:g<w.heap.size:=(Array.getElem?_eq_some_iff.1 hg).1
 have hvl2:vb<w.heap.size:=(Array.getElem?_eq_some_iff.1 hgv).1
 have hbb:(n+m)*bytes<=140737488355328:=Nat.le_trans (Nat.mul_le_mul hcm hby) (by omega)
 obtain ⟨C,new,hap,hC1,hC2,hns,hnt⟩:∃ (C:Nat) (new:Array Value),(∀ ty,(Builtin.append_ #[(ρ.t 24),(ρ.t 3)] ty #[.slice (some ⟨g,0,none⟩) i cap,.int .i64 ((n:Int)+(m:Int)-(i:Int))]).run P w=.ok (.slice (some ⟨w.heap.size,0,none⟩) (n+m) C) (w.drew.alloc (.cells new (ρ.t 9)))) /\
   n+m<=C/\C<=maxLen/\new.size=C*size/\new.toList.take (i*size)=cur.toList.take (i*size):=by
  have hsum:i+(n+m-i)=n+m:=by omega
  have hge:=grownCap_ge w (n+m) cap (ρ.t 9)
  refine ⟨grownCap w (n+m) cap (ρ.t 9),(cur.toList.take (i*size)).toArray++Builtin.zeroCells z.cells (n+m-i)++Builtin.zeroCells z.cells (grownCap w (n+m) cap (ρ.t 9)-(n+m)),fun ty=>?_,hge,grownCap_le_maxLen _ _ _ _ (by unfold maxLen; omega),?_,?_⟩
  ·have:=mr (P:=P) w (ρ.t 24) (ρ.t 3) ty (ρ.t 9) i0 z .i64 L.t24 L.t3 hi hz0 ⟨g,0,none⟩ i cap (cur.toList.take (i*size)) (by rw [lo,hz1]) (fun j v hj=>by
     rw [Addr.add_none,Rx hg,<- hj,B0,Nat.zero_add]
     have:j<i*size:=by
      have:=(Aw.1 hj).1
      omega
     rw [if_pos this,Array.getElem?_toList]) (n+m-i) (by omega) (by omega) (by omega) (by omega) (by rw [hz2]; exact Nat.le_trans (CH bytes (Nat.sub_le _ _)) (by omega)) (by rw [hsum,hz2]; exact growslice_fits hroom hbb) .i64
   rw [hsum,show ((n+m-i:Nat):Int)=(n:Int)+(m:Int)-(i:Int) by omega] at this
   exact this
  ·simp only [Array.size_append,List.size_toArray,size_zeroCells,hzs,lo,<- Nat.add_mul]
   congr 1
   omega
  ·simp only [Array.toList_append,Bs]
   exact (congrArg (fun k=>List.take k _) lo.symm).trans (by rw [List.take_left])
 have hW1:(w.drew.alloc (.cells new (ρ.t 9))).heap[w.heap.size]? = some (.cells new (ρ.t 9) (0,0)):=heap_alloc_new w.drew _
 have hW1o:∀ k,k<w.heap.size->(w.drew.alloc (.cells new (ρ.t 9))).heap[k]? = w.heap[k]? := fun k hk=>heap_alloc_old w.drew _ hk
 have e8:i*size+m*size<=new.size:=by rw [hns,<- e1]; exact CH size (by omega)
 have e9:n*size+m*size<=new.size:=by rw [hns,<- e2]; exact CH size (by omega)
 have hcp1:∀ (W:World),W.heap=(w.drew.alloc (.cells new (ρ.t 9))).heap->∀ ty dc,(Builtin.copy_ #[(ρ.t 24),(ρ.t 24)] ty #[.slice (some ⟨w.heap.size,i*size,none⟩) (n+m-i) dc,.slice (some ⟨vb,0,none⟩) m vc]).run P W=.ok (goInt m) (W.setRow w.heap.size (new.toList.take (i*size)++vcur.toList.take (m*size)++new.toList.drop (i*size+(vcur.toList.take (m*size)).length)).toArray):=fun W hW ty dc =>
  UX W _ _ ty (ρ.t 9) w.heap.size (i*size) (n+m-i) dc ⟨vb,0,none⟩ m vc new (ρ.t 9) _ m i0 L.t24 hi (by rw [hW]; exact hW1) (by simp only [Nat.min_def]; split<;>omega) (by rw [lv,hz1])
   (fun j v hj=>by
    rw [Addr.add_none,Rx (by rw [hW,hW1o vb hvl2]; exact hgv),<- hj,B0,Nat.zero_add]
    have:j<m*size:=by
     have:=(Aw.1 hj).1
     omega
    rw [if_pos this,Array.getElem?_toList])
   (by rw [lv]; omega) h1v
 obtain ⟨cur1,hcur1⟩:∃ c1,c1=(new.toList.take (i*size)++vcur.toList.take (m*size)++new.toList.drop (i*size+(vcur.toList.take (m*size)).length)).toArray:=⟨_,rfl⟩
 rw [<- hcur1] at hcp1
 have hln:new.toList.length=new.size:=Array.length_toList
 have hs1:cur1.size=C*size:=by
  rw [hcur1,List.size_toArray,<- hns]
  simp only [List.length_append,List.length_take,List.length_drop,hln,lv]
  omega
 have hcp2:∀ (W:World),W.heap=((w.drew.alloc (.cells new (ρ.t 9))).setRow w.heap.size cur1).heap->∀ ty dc sc,(Builtin.copy_ #[(ρ.t 24),(ρ.t 24)] ty #[.slice (some ⟨w.heap.size,(i+m)*size,none⟩) (n+m-(i+m)) dc,.slice (some ⟨g,i*size,none⟩) (n-i) sc]).run P W=.ok (goInt ((n-i:Nat):Int)) (W.setRow w.heap.size (cur1.toList.take ((i+m)*size)++(cur.toList.take (n*size)).drop (i*size)++cur1.toList.drop ((i+m)*size+((cur.toList.take (n*size)).drop (i*size)).length)).toArray):=fun W hW ty dc sc =>
  UX W _ _ ty (ρ.t 9) w.heap.size ((i+m)*size) (n+m-(i+m)) dc ⟨g,i*size,none⟩ (n-i) sc cur1 (ρ.t 9) _ (n-i) i0 L.t24 hi (by rw [hW]; exact setRow_heap _ _ new cur1 _ _ hW1) (by simp only [Nat.min_def]; split<;>omega) (by rw [lm,hz1])
   (fun j v hj=>by
    rw [Addr.add_none,Rx (by rw [hW,setRow_other _ _ g _ (by omega),hW1o g hgl]; exact hg),<- hj,DA,B0]
    have:i*size+j<n*size:=by
     have:=(Aw.1 hj).1
     omega
    rw [if_pos this,Array.getElem?_toList])
   (by rw [lm,hs1,<- hns,e1,e3]; omega) (fun v hv=>h1 v (List.mem_of_mem_drop hv))
 have fin:(cur1.toList.take ((i+m)*size)++(cur.toList.take (n*size)).drop (i*size)++cur1.toList.drop ((i+m)*size+((cur.toList.take (n*size)).drop (i*size)).length)).take ((n+m)*size)=cur.toList.take (i*size)++vcur.toList.take (m*size)++(cur.toList.take (n*size)).drop (i*size):=by
  have l1:(new.toList.take (i*size)).length=i*size:=by rw [List.length_take,hln]; omega
  have t1:cur1.toList.take ((i+m)*size)=cur.toList.take (i*size)++vcur.toList.take (m*size):=by
   rw [hcur1,<- hnt,e1]
   have l2:(new.toList.take (i*size)++vcur.toList.take (m*size)).length=i*size+m*size:=by rw [List.length_append,l1,lv]
   exact (congrArg (fun k=>List.take k _) l2.symm).trans (by rw [List.take_left])
  rw [t1]
  have l3:(cur.toList.take (i*size)++vcur.toList.take (m*size)++(cur.toList.take (n*size)).drop (i*size)).length=(n+m)*size:=by
   simp only [List.length_append,lo,lv,lm,e2,e3]
   omega
  exact (congrArg (fun k=>List.take k _) l3.symm).trans (by rw [List.take_left])
 obtain ⟨cur2,hcur2⟩:∃ c2,c2=(cur1.toList.take ((i+m)*size)++(cur.toList.take (n*size)).drop (i*size)++cur1.toList.drop ((i+m)*size+((cur.toList.take (n*size)).drop (i*size)).length)).toArray:=⟨_,rfl⟩
 rw [<- hcur2] at hcp2
 have hs2:cur2.size=C*size:=by
  rw [hcur2,List.size_toArray,<- hs1]
  simp only [List.length_append,List.length_take,List.length_drop,Array.length_toList,lm,e1,e3]
  omega
 have fin2:cur2.toList.take ((n+m)*size)=cur.toList.take (i*size)++vcur.toList.take (m*size)++(cur.toList.take (n*size)).drop (i*size):=by rw [hcur2]; exact fin
 clear e1 e2 e3 hcur1 hcur2 fin
 obtain ⟨W1,hW1d⟩:∃ W1,W1=w.drew.alloc (.cells new (ρ.t 9)):=⟨_,rfl⟩
 have hWs:W1.heap.size=w.heap.size+1:=by rw [hW1d]; exact Array.size_push _
 have hWos:W1.os=w.os/\W1.tape=w.tape/\W1.output=w.output:=by rw [hW1d]; exact ⟨rfl,rfl,rfl⟩
 rw [<- hW1d] at hW1 hW1o hcp1 hcp2 hap
 clear hW1d
 have hcp3:=hcp2 (W1.setRow w.heap.size cur1).drew rfl
 clear hcp2
 have hb7:¬ (C=i+m):=by omega
 have hb8:¬ (C=i):=by omega
 obtain ⟨_,_,FG⟩:=L.f22
 go_enter FG,Body2.n22_ntmps ρ
 go_wp2_with (at_builtin; refine Lib.wpList_append_run _ rfl _ _ (ρ.t 24) (ρ.t 3) rfl _ _ rfl rfl _ _ (hap _) ?_)
 go_region_law_o (refine step_copy_runI rfl _ _ (ρ.t 24) (ρ.t 24) rfl _ _ (by simp [Act.eval,Act.put]) (by simp [Act.eval,Act.put]) (hcp3 _ _ _) ?_)
 go_wp2
 go_ret
 refine ⟨C,rfl,hC1,hC2,cur2,setRow_heap _ _ cur1 cur2 _ _ (setRow_heap _ _ new cur1 _ _ hW1),hs2,fin2,⟨hWos.1,hWos.2.1,hWos.2.2,?_,fun k hk _=>?_⟩⟩
 ·rw [KD]
  show w.heap.size<=(W1.setRow w.heap.size cur1).heap.size
  rw [KD,hWs]
  omega
 ·rw [setRow_other _ _ k _ (by omega)]
  show (W1.setRow w.heap.size cur1).heap[k]? = _
  rw [setRow_other _ _ k _ (by omega),hW1o k hk]
theorem oe {H:HP} {K:Kd} {xs:List K.T} {f:List Value} (h:El H K xs f) (i:Nat):El H K (xs.take i) (f.take (i*K.sz)):=by
 intro j x hx
 rw [B0] at hx
 split at hx
 ·rename_i hj
  have:=h j x hx
  have hle:(j+1)*K.sz<=i*K.sz:=CH _ hj
  rw [Nat.succ_mul] at hle
  rw [List.drop_take,List.take_take,Nat.min_eq_left (by omega)]
  exact this
 ·cases hx
theorem og {H:HP} {K:Kd} {xs:List K.T} {f:List Value} (h:El H K xs f) (i:Nat):El H K (xs.drop i) (f.drop (i*K.sz)):=by
 intro j x hx
 rw [DA] at hx
 have:=h _ x hx
 rw [List.drop_drop,<- Nat.add_mul]
 exact this
theorem xi {H:HP} {φ:CN} {w w':World} {t:TypeId} {K:Kd} {xs vs ys:List K.T} {n:Int} {v':Value} {flat:List Value}
  (hs:SR H φ (Bh [] [.new t K xs,.int .i64 n,.new t K vs]) w) (hg:w.grownBy w' (F7 (φ 0))) (hb:∀ b,F7 v'=some b->F7 (φ 0)=some b\/w.heap.size<=b)
  (ho:w'.ownsRow 0 t K.sz v' ys.length flat) (hr:El H K ys flat):PE H φ w [.new t K xs,.int .i64 n,.new t K vs] [] [] [.new t K ys] v' w':=by
 have hout:∀ b,F7 (φ 0)=some b->H b=none:=fun b h=>hs.out 0 (.rows t K xs) rfl rfl b h
 have hlt:∀ b o,H b=some o->b<w.heap.size:=fun b o h=>(Array.getElem?_eq_some_iff.1 (hs.hp b o h)).1
 refine ⟨H,fun _=>v',HP.le_refl H,⟨fun b o h=>?_,fun id bx hid=>?_,fun i j bi bj hi hj _ _ hne=>?_,fun i bi hi _ b hv=>?_,fun id cs hid=>?_⟩,⟨hg.os,hg.tape,hg.output,hg.size,fun b hlt hne=>hg.block b hlt (fun e=>hne 0 (by show 0<2; omega) e.symm),fun j hj=>by simp at hj,fun i bi hi _ b hv=>?_,fun j hj=>by simp at hj,fun _ _ _=>rfl⟩,⟨rfl,rfl⟩⟩
 ·rw [hg.block b (hlt b o h) (fun e=>by rw [hout b e.symm] at h; cases h)]
  exact hs.hp b o h
 ·cases id with
  | zero=>cases hid; exact ⟨flat,ho,hr⟩
  | succ k=>cases hid
 ·cases i with
  | succ k=>cases hi
  | zero =>
   cases j with
   | succ k=>cases hj
   | zero=>exact absurd rfl hne
 ·cases hh:H b with
  | none=>rfl
  | some o =>
   rcases hb b hv with h | h
   ·rw [hout b h] at hh; cases hh
   ·have:=hlt b o hh; omega
 ·cases id with
  | zero=>cases hid
  | succ k=>cases hid
 ·rcases hb b hv with h | h
  ·exact .inr ⟨0,(by show 0<2; omega),h⟩
  ·exact .inl h
theorem ABP {K:Kd} (L:ABO P ρ) (he:yT P (ρ.t 9) K=true) {xs vs:List K.T} {i:Nat} (hx:xs.length+vs.length<=68719476736) (hv:vs≠[]) (hi:i<=xs.length) :
  Xw P (ρ.f 22) [.new (ρ.t 9) K xs,.int .i64 i,.new (ρ.t 9) K vs] [] [.new (ρ.t 9) K (xs.take i++vs++xs.drop i)]:=by
 obtain ⟨i0,z,hi0,hz,h1,h2,h3,h4⟩:=Vh he
 have hm:0<vs.length:=List.length_pos_iff.2 hv
 have hsz:=Kd.sz_pos K
 refine ⟨?_,?_,1,rfl,fun H φ w cargs hs ha=>?_⟩
 ·obtain ⟨nm,hnm,hf⟩:=L.f22
  exact ⟨_,_,hf,hnm,rfl⟩
 ·intro r hr
  simp only [Cl] at hr
  subst hr
  rfl
 ·obtain ⟨v0,r0,rfl,hv0,ha⟩:=ha
  obtain ⟨v1,r1,rfl,hv1,ha⟩:=ha
  obtain ⟨v2,r2,rfl,hv2,ha⟩:=ha
  have hr2:r2=[]:=ha
  subst hr2
  have e0:v0=φ 0:=hv0.1
  have e1:v1=.int .i64 i:=hv1
  have e2:v2=φ 1:=hv2.1
  subst e0 e1 e2
  obtain ⟨flat,ho,hr⟩:=hs.box 0 (.rows (ρ.t 9) K xs) rfl
  obtain ⟨flatv,hov,hrv⟩:=hs.box 1 (.rows (ρ.t 9) K vs) rfl
  have hnew:(xs.take i++vs++xs.drop i).length=xs.length+vs.length:=by simp only [List.length_append,List.length_take,List.length_drop]; omega
  have hnil:vs.length≠0:=by omega
  obtain ⟨gv,capv,curv,ev,_,hgv,hcv,hcmv,hsv,htv⟩:=hov.2.resolve_left (fun h=>hnil h.2)
  have hlv:vs.length*K.sz<=curv.size:=by rw [hsv]; exact CH _ hcv
  have hn:xs.length+vs.length<=maxLen:=by unfold maxLen; omega
  have hbb:(xs.length+vs.length)*i0.bytes<=140737488355328:=Nat.le_trans (Nat.mul_le_mul hx h2) (by omega)
  have hcv2:∀ j u,flatv[j]? = some u->w.cell? ((⟨gv,0,none⟩:Addr).add j)=some u:=fun j u hj=>by
   rw [Addr.add_none,Rx hgv,Nat.zero_add]
   rw [<- htv,B0] at hj
   split at hj
   ·rwa [Array.getElem?_toList] at hj
   ·cases hj
  have one:(w.ownsRow 0 (ρ.t 9) K.sz (φ 1) vs.length flatv):=hov
  rw [ev]
  by_cases hin:i=xs.length
  ·subst hin
   obtain ⟨base,n,cap,e0,hnn⟩:∃ base n cap,φ 0=.slice base n cap/\n=xs.length:=by
    rcases ho.2 with ⟨e,h⟩ | ⟨g,cap,cur,e,_⟩
    ·exact ⟨none,0,0,e,h.symm⟩
    ·exact ⟨_,_,_,e,rfl⟩
   subst hnn
   refine Calls.mono (AAB L i0 z K.sz i0.bytes hi0 hz h1 rfl h3 hsz (fun w=>by simp [sizeOf,typeInfo,hi0,h1]) (φ 0) base _ cap e0 flat w ho ⟨gv,0,none⟩ vs.length capv flatv hm hov.1 hn hbb hcv2 (Do hrv hov.1)) fun out w' h=>?_
   obtain ⟨v',rfl,ho',hg,hbk⟩:=h
   have hbv:∀ {v:Value} {n:Nat} {fl:List Value} {ww:World},ww.ownsRow 0 (ρ.t 9) K.sz v n fl->F7 v=v.ownBlock:=fun h=>by
    rcases h.2 with ⟨e,_⟩ | ⟨g,c,cu,e,_⟩<;>rw [e]<;>rfl
   have hbl:F7 (φ 0)=(φ 0).ownBlock:=by rw [e0]; cases base<;>rfl
   refine xi (flat:=flat++flatv) hs (by rw [hbl]; exact hg) (fun b hb=>?_) (by rw [hnew]; exact ho') ?_
   ·rw [hbv ho'] at hb
    rcases hbk with h | h
    ·exact .inl (by rw [hbl,<- h]; exact hb)
    ·rw [h] at hb
     cases hb
     exact .inr (Nat.le_refl _)
   ·rw [List.take_length,List.drop_length,List.append_nil]
    exact Iu hr ho.1 hrv
  ·have hlt:i<xs.length:=by omega
   obtain ⟨g,cap,cur,e0,_,hg,hc,hcm,hsc,ht⟩:=ho.2.resolve_left (fun h=>by omega)
   have hne:gv≠g:=fun e=>hs.sep 0 1 _ _ rfl rfl rfl rfl (by decide) g (by rw [e0]; rfl) (by rw [ev,e]; rfl)
   rw [e0]
   have z9:∀ w,(Go.sizeOf (ρ.t 9)).run P w=.ok K.sz w:=fun w=>by simp [sizeOf,typeInfo,hi0,h1]
   have hcap0:cur.size≠0:=by
    have:=CH K.sz hc
    have h5:0<xs.length*K.sz:=Nat.mul_pos (by omega) hsz
    omega
   have htk:cur.toList.take (i*K.sz)=flat.take (i*K.sz):=by
    rw [<- ht,List.take_take,Nat.min_eq_left (CH _ hi)]
   have hrow:∀ (cur':Array Value),cur'.toList.take ((xs.length+vs.length)*K.sz)=cur.toList.take (i*K.sz)++curv.toList.take (vs.length*K.sz)++(cur.toList.take (xs.length*K.sz)).drop (i*K.sz)->cur'.toList.take ((xs.length+vs.length)*K.sz)=flat.take (i*K.sz)++flatv++flat.drop (i*K.sz):=fun cur' h=>by rw [h,htk,htv,ht]
   have hlf:(flat.take (i*K.sz)++flatv++flat.drop (i*K.sz)).length=(xs.length+vs.length)*K.sz:=by
    have h5:=ho.1
    have h6:=hov.1
    have h7:i*K.sz<=xs.length*K.sz:=CH _ hi
    simp only [List.length_append,List.length_take,List.length_drop,h5,h6,Nat.add_mul]
    omega
   have hrr:El H K (xs.take i++vs++xs.drop i) (flat.take (i*K.sz)++flatv++flat.drop (i*K.sz)):=by
    have h5:=ho.1
    have h7:i*K.sz<=xs.length*K.sz:=CH _ hi
    have l1:(flat.take (i*K.sz)).length=(xs.take i).length*K.sz:=by rw [List.length_take,List.length_take,Nat.min_eq_left hi,h5]; omega
    refine Iu (Iu (oe hr i) l1 hrv) ?_ (og hr i)
    rw [List.length_append,List.length_append,l1,hov.1,Nat.add_mul]
   by_cases hroom:xs.length+vs.length<=cap
   ·refine Calls.mono (xh L i0 z K.sz i0.bytes hi0 hz h1 rfl h3 hsz z9 g xs.length cap i cur w hg hsc hlt gv vs.length capv curv hgv hne hm hroom hcm hlv (by rw [ht]; exact Do hr ho.1) (by rw [htv]; exact Do hrv hov.1) hcap0) fun out w' h=>?_
    obtain ⟨rfl,cur',g1,g2,g3,g4⟩:=h
    refine xi hs (by rw [e0]; exact g4) (fun b hb=>.inl (by rw [e0]; exact hb)) (flat:=flat.take (i*K.sz)++flatv++flat.drop (i*K.sz)) ?_ hrr
    rw [hnew]
    exact ⟨hlf,.inr ⟨g,cap,cur',rfl,Nat.zero_le _,g1,hroom,hcm,g2,hrow cur' g3⟩⟩
   ·refine Calls.mono (zF L i0 z K.sz i0.bytes hi0 hz h1 rfl h3 hsz z9 g xs.length cap i cur w hg hsc hlt gv vs.length capv curv hgv hne hm hc (by omega) hx h2 hlv (by rw [ht]; exact Do hr ho.1) (by rw [htv]; exact Do hrv hov.1)) fun out w' h=>?_
    obtain ⟨cap',rfl,g5,g6,cur',g1,g2,g3,g4⟩:=h
    refine xi hs ⟨g4.os,g4.tape,g4.output,g4.size,fun k hk _=>g4.block k hk (by simp)⟩ (fun b hb=>.inr (by cases hb; exact Nat.le_refl _)) (flat:=flat.take (i*K.sz)++flatv++flat.drop (i*K.sz)) ?_ hrr
    rw [hnew]
    exact ⟨hlf,.inr ⟨w.heap.size,cap',cur',rfl,Nat.zero_le _,g1,g5,g6,g2,hrow cur' g3⟩⟩
def ss (t:TypeId) (K:Kd) (args bs:List AV):Option (List AV) :=
 match args,bs with
 | [.lst K' xs],[]=>if h:K'=K then (if xs.length<=68719476736 then some [.new t K (h▸xs)] else none) else none
 | _,_=>none
theorem su {t:TypeId} {K:Kd} {xs:List K.T} (h:xs.length<=68719476736):ss t K [.lst K xs] []=some [.new t K xs]:=by simp [ss,h]
theorem sv {K:Kd} (L:SlLaysE0.n41 P ρ) (he:yT P (ρ.t 23) K=true) {args bs rs:List AV} (h:ss (ρ.t 23) K args bs=some rs):Xw P (ρ.f 41) args bs rs:=by
 unfold ss at h
 split at h
 ·split at h
  ·rename_i hk
   subst hk
   split at h
   ·cases h
    exact ACG L he (by assumption)
   ·cases h
  ·cases h
 ·cases h
def ACI (t:TypeId) (K:Kd) (args bs:List AV):Option (List AV) :=
 match args,bs with
 | [.new t1 K1 xs,.int k i,.new t2 K2 vs],[]=>if h1:K1=K then (if h2:K2=K then (if t1=t/\t2=t/\k=.i64/\0<=i/\i<=xs.length/\vs.length≠0/\xs.length+vs.length<=68719476736 then
   some [.new t K ((h1▸xs).take i.toNat++(h2▸vs)++(h1▸xs).drop i.toNat)] else none) else none) else none
 | _,_=>none
theorem ADO {t:TypeId} {K:Kd} {xs vs:List K.T} {i:Nat} (h:xs.length+vs.length<=68719476736) (hi:i<=xs.length) (hv:vs.length≠0):ACI t K [.new t K xs,.int .i64 i,.new t K vs] []=some [.new t K (xs.take i++vs++xs.drop i)]:=by
 have hi':(i:Int)<=(xs.length:Int):=by omega
 have h0:(0:Int)<=(i:Int):=by omega
 simp only [ACI,dif_pos,true_and]
 rw [if_pos ⟨h0,hi',hv,h⟩,Aj]
theorem ADP {K:Kd} (L:ABO P ρ) (he:yT P (ρ.t 9) K=true) {args bs rs:List AV} (h:ACI (ρ.t 9) K args bs=some rs):Xw P (ρ.f 22) args bs rs:=by
 unfold ACI at h
 split at h
 ·split at h
  ·rename_i hk
   subst hk
   split at h
   ·rename_i hk2
    subst hk2
    split at h
    ·rename_i hc
     obtain ⟨rfl,rfl,rfl,h0,hi,hv,hx⟩:=hc
     cases h
     rename_i n _
     obtain ⟨m,rfl⟩:=Int.eq_ofNat_of_zero_le h0
     exact ABP L he hx (fun e=>hv (by rw [e]; rfl)) (by omega)
    ·cases h
   ·cases h
  ·cases h
 ·cases h
def AEF (args bs:List AV):Option (List AV) :=
 match args,bs with
 | [.str a,.str b],[]=>some [.int .i64 (Lib.compareBytes a.data.toList b.data.toList)]
 | _,_=>none
theorem ADQ (L:Lays.n106 P ρ) {args bs rs:List AV} (h:AEF args bs=some rs):Xw P (ρ.f 106) args bs rs:=by
 unfold AEF at h
 split at h
 ·cases h
  rename_i a b
  refine ⟨⟨_,_,L.f106,by rfl,rfl⟩,?_,1,rfl,fun H φ w cargs hs ha=>?_⟩
  ·intro r hr
   simp only [Cl] at hr
   subst hr
   rfl
  ·obtain ⟨v0,r0,rfl,hv0,ha⟩:=ha
   obtain ⟨v1,r1,rfl,hv1,ha⟩:=ha
   have hr1:r1=[]:=ha
   subst hr1
   have e0:v0=.string a:=hv0
   have e1:v1=.string b:=hv1
   subst e0 e1
   refine Calls.mono (Any.strings_Compare L a b w) fun out w' h=>?_
   obtain ⟨rfl,rfl⟩:=h
   exact zD (rs:=[.int .i64 (Lib.compareBytes a.data.toList b.data.toList)]) (Ar.refl hs) rfl
 ·cases h
theorem rH {H:HP} {φ:CN} {w w':World} {t:TypeId} {K:Kd} {xs ys:List K.T} {ags:List AV} {v':Value} {flat:List Value} (hst:Bh [] (.new t K xs::ags)=[.rows t K xs])
  (hs:SR H φ (Bh [] (.new t K xs::ags)) w) (hg:w.grownBy w' (F7 (φ 0))) (hb:∀ b,F7 v'=some b->F7 (φ 0)=some b\/w.heap.size<=b)
  (ho:w'.ownsRow 0 t K.sz v' ys.length flat) (hr:El H K ys flat):PE H φ w (.new t K xs::ags) [] [] [.new t K ys] v' w':=by
 have hbx:(Bh [] (.new t K xs::ags))[0]? = some (.rows t K xs):=by rw [hst]; rfl
 have hout:∀ b,F7 (φ 0)=some b->H b=none:=fun b h=>hs.out 0 (.rows t K xs) hbx rfl b h
 have hlt:∀ b o,H b=some o->b<w.heap.size:=fun b o h=>(Array.getElem?_eq_some_iff.1 (hs.hp b o h)).1
 refine ⟨H,fun _=>v',HP.le_refl H,⟨fun b o h=>?_,fun id bx hid=>?_,fun i j bi bj hi hj _ _ hne=>?_,fun i bi hi _ b hv=>?_,fun id cs hid=>?_⟩,⟨hg.os,hg.tape,hg.output,hg.size,fun b hlt hne=>hg.block b hlt (fun e=>hne 0 (by rw [hst]; show 0<1; omega) e.symm),fun j hj=>by simp at hj,fun i bi hi _ b hv=>?_,fun j hj=>by simp at hj,fun _ _ _=>rfl⟩,⟨rfl,rfl⟩⟩
 ·rw [hg.block b (hlt b o h) (fun e=>by rw [hout b e.symm] at h; cases h)]
  exact hs.hp b o h
 ·cases id with
  | zero=>cases hid; exact ⟨flat,ho,hr⟩
  | succ k=>cases hid
 ·cases i with
  | succ k=>cases hi
  | zero =>
   cases j with
   | succ k=>cases hj
   | zero=>exact absurd rfl hne
 ·cases hh:H b with
  | none=>rfl
  | some o =>
   rcases hb b hv with h | h
   ·rw [hout b h] at hh; cases hh
   ·have:=hlt b o hh; omega
 ·cases id with
  | zero=>cases hid
  | succ k=>cases hid
 ·rcases hb b hv with h | h
  ·exact .inr ⟨0,(by rw [hst]; show 0<1; omega),h⟩
  ·exact .inl h

structure AEG (P:Program) (g:Nat):Prop where
 eg:∀ args w,(callFunc g args).run P w=.ok (.enter g args) w
 says:∀ (n x:Int) (b o:Nat) (W:World),W.cell? ⟨b,o,none⟩=some (.int .i64 n) ->
  Calls P g #[.int .i64 x,.pointer (some ⟨b,o,none⟩)] W fun e w'=>e=.returned (.bool (x==n))/\∃ q,w'=W.drewN q
set_option maxHeartbeats 2000000 in
theorem zG (L:SlLaysH.n10 P ρ) (fv:Value) (w:World) :
  Calls P (ρ.f 10) #[.slice none 0 0,fv] w fun e w'=>e=.returned (.slice none 0 0)/\w'=w:=by
 have mixed:=L.mixed; have t0:=L.t0; have a0:=L.a0; have z0:=L.z0; have v0:=L.v0; have t3:=L.t3; have a3:=L.a3; have z3:=L.z3; have v3:=L.v3; have t4:=L.t4; have a4:=L.a4; have z4:=L.z4; have v4:=L.v4; have t22:=L.t22; have a22:=L.a22; have z22:=L.z22; have v22:=L.v22; have a23:=L.a23; have z23:=L.z23; have t25:=L.t25; have a25:=L.a25; have z25:=L.z25; have v25:=L.v25
 have e6:∀ args w,(callFunc (ρ.f 6) args).run P w=.ok (.enter (ρ.f 6) args) w:=L.f6.enters rfl
 have hIF:=AnyE.slices_IndexFunc_empty (P:=P) (ρ:=ρ) { L with } none 0 fv w
 obtain ⟨_,_,FG⟩:=L.f10
 go_enter FG,SlBodyH.n10_ntmps ρ
 go_wp2_with (go_at_fn (ρ.f 6); refine hIF.mono ?_; rintro e w' ⟨rfl,rfl⟩)
 go_ret
 exact ⟨rfl,rfl⟩
theorem jg {α:Type} [Inhabited α] (enc:α->Value) (w:World) (b off:Nat) (d:Array α):(Sort.putRow enc w b off d).heap.size=w.heap.size:=by
 simp [Sort.putRow,Sort.mapBlock]
theorem jh {α:Type} [Inhabited α] (enc:α->Value) (w:World) (b off k:Nat) (d:Array α) (h:k≠b):(Sort.putRow enc w b off d).heap[k]? = w.heap[k]? := by
 simp only [Sort.putRow,Sort.mapBlock,Array.getElem?_modify]
 rw [if_neg (fun e=>h e.symm)]
theorem mt {α:Type} [Inhabited α] (enc:α->Value) (w:World) (b off:Nat) (d:Array α) {c:Array Value} {e:TypeId} {fr:Nat×Nat} (h:w.heap[b]? = some (.cells c e fr)) :
  (Sort.putRow enc w b off d).heap[b]? = some (.cells (Sort.putCells enc off d c) e fr):=by
 simp only [Sort.putRow,Sort.mapBlock,Array.getElem?_modify,if_true,h,Option.map_some,Sort.onCells]
theorem AAC (L:SlLaysH.n10 P ρ) (hv:∀ w,(zeroValue (ρ.t 23)).run P w=.ok (.int .i64 0) w) {g:Nat} (E:AEG P g) {xs:List Int} {n:Int} :
  Xw P (ρ.f 10) [.new (ρ.t 23) (.int .i64) xs,.clo g (.int .i64) n] [] [.new (ρ.t 23) (.int .i64) (xs.filter fun x=>!(x==n))]:=by
 refine ⟨?_,?_,1,rfl,fun H φ w cargs hs ha=>?_⟩
 ·obtain ⟨nm,hnm,hf⟩:=L.f10
  exact ⟨_,_,hf,hnm,rfl⟩
 ·intro r hr
  simp only [Cl] at hr
  subst hr
  rfl
 ·obtain ⟨v0,r0,rfl,hv0,ha⟩:=ha
  obtain ⟨v1,r1,rfl,hv1,ha⟩:=ha
  have hr1:r1=[]:=ha
  subst hr1
  have e0:v0=φ 0:=hv0.1
  subst e0
  obtain ⟨b,o,c,el,fz,e1,hb,vs,hvs,hvc⟩:=(show yY H g (HG H (.int .i64) n) v1 from hv1)
  have hvs:vs=[.int .i64 n]:=hvs
  subst hvs e1
  have hcn:c[o]? = some (.int .i64 n):=hvc 0 _ rfl
  have hwb:=hs.hp _ _ hb
  have hbl:b<w.heap.size:=(Array.getElem?_eq_some_iff.1 hwb).1
  have hcell:w.cell? ⟨b,o,none⟩=some (.int .i64 n):=by rw [Rx hwb]; exact hcn
  obtain ⟨flat,ho,hr⟩:=hs.box 0 (.rows (ρ.t 23) (.int .i64) xs) rfl
  have hstk:Bh [] [AV.new (ρ.t 23) (.int .i64) xs,.clo g (.int .i64) n]=[.rows (ρ.t 23) (.int .i64) xs]:=rfl
  have hout:∀ bb,F7 (φ 0)=some bb->H bb=none:=fun bb h=>hs.out 0 (.rows (ρ.t 23) (.int .i64) xs) rfl rfl bb h
  obtain ⟨hfl,⟨e0,hx⟩ | ⟨gb,cap,cur,e0,hle,hg,hc,hcm,hsc,ht⟩⟩:=ho
  ·have:xs=[]:=E4.1 (by omega)
   subst this
   rw [e0]
   refine Calls.mono (zG L _ w) fun out w' h=>?_
   obtain ⟨rfl,rfl⟩:=h
   exact rH hstk hs ⟨rfl,rfl,rfl,Nat.le_refl _,fun _ _ _=>rfl⟩ (fun b hb=>by simp [F7] at hb) (flat:=[]) ⟨by simp,.inl ⟨rfl,rfl⟩⟩ (fun j x h=>by simp at h)
  ·have hne:b≠gb:=fun e=>by
    have:=hout gb (by rw [e0]; rfl)
    rw [<- e] at this
    rw [this] at hb; cases hb
   have hgl:gb<w.heap.size:=(Array.getElem?_eq_some_iff.1 hg).1
   have hflat:∀ j (h:j<xs.length),cur[j]? = some (.int .i64 xs[j]):=fun j hj=>by
    have h1:(flat.drop (j*1)).take 1=[.int .i64 xs[j]]:=hr j xs[j] (List.getElem?_eq_getElem hj)
    have h4:((flat.drop (j*1)).take 1)[0]? = some (.int .i64 xs[j]):=by rw [h1]; rfl
    have h5:flat[j]? = some (.int .i64 xs[j]):=by simpa using h4
    rw [<- ht] at h5
    have h6:j<xs.length*Kd.sz (.int .i64):=by simpa [Kd.sz] using hj
    rw [B0,if_pos h6,Array.getElem?_toList] at h5
    exact h5
   have hH:Sort.Holds (Value.int .i64) w gb 0 xs.toArray:=fun j hj=>by
    have hj':j<xs.length:=by simpa using hj
    have hx:xs.toArray[j]! = xs[j]:=by simp [hj']
    refine ⟨?_,?_⟩
    ·rw [Rx hg,Nat.zero_add,hflat j hj',hx]
    ·simp [World.frozen?,hg]
   have hp:PredAt P g #[.pointer (some ⟨b,o,none⟩)] (Value.int .i64) (fun x=>x==n) w:=fun W x hB=>E.says n x b o W ((hB.cell (p:=⟨b,o,none⟩) hbl).trans hcell)
   have hpo:PredOver P g #[.pointer (some ⟨b,o,none⟩)] (Value.int .i64) (fun x=>x==n) gb 0 xs.toArray.size w:=fun k os dk x _=>E.says n x b o _ (by
    unfold sortWorld
    rw [Sort.cell?_grow _ _ _ (by show b<(Sort.putRow _ _ _ _ _).heap.size; rw [jg]; exact hbl),Sort.cell?_putRow_other _ _ gb 0 _ _ (Or.inl hne)]
    exact hcell)
   have hcm':cap<=9223372036854775807:=hcm
   have hcall:=AnyE.slices_DeleteFunc L (Value.int .i64) (fun _=>rfl) (fun x=>x==n) g #[.pointer (some ⟨b,o,none⟩)] E.eg 0 hv gb 0 cap xs.toArray w hp hpo hH (by simp; omega) (by simpa using hc)
   rw [e0]
   refine Calls.mono (by simpa using hcall) fun out w' h=>?_
   obtain ⟨rfl,q,rfl⟩:=h
   have hfl':(xs.filter fun x=>!(x==n)).length<=xs.length:=List.length_filter_le _ _
   generalize hys:(xs.filter fun x=>!(x==n))=ys at hfl' ⊢
   have hd:(ys++List.replicate (xs.length-ys.length) 0).length=xs.length:=by simp; omega
   generalize hdd:(ys++List.replicate (xs.length-ys.length) (0:Int))=zs at hd ⊢
   refine rH (flat:=ys.map (Value.int .i64)) hstk hs ⟨rfl,rfl,rfl,?_,fun k hk hne2=>?_⟩ (fun b hb=>.inl (by rw [e0]; exact hb)) ?_ ?_
   ·rw [jg]; exact Nat.le_refl _
   ·rw [jh _ _ _ _ _ _ (fun e=>hne2 (by rw [e0,e]; rfl))]; rfl
   ·refine ⟨by simp [Kd.sz],.inr ⟨gb,cap,_,rfl,Nat.zero_le _,mt _ _ _ _ _ (show (Sort.ahead w q).heap[gb]? = _ from hg),by omega,hcm,by simpa [Sort.putCells] using hsc,?_⟩⟩
    apply List.ext_getElem?
    intro j
    have hcs:cur.size=cap:=by simpa [Kd.sz] using hsc
    rw [B0]
    by_cases hj:j<ys.length
    ·have h6:j<ys.length*Kd.sz (.int .i64):=by simpa [Kd.sz] using hj
     have hj2:j<cur.size:=by omega
     rw [if_pos h6,Array.getElem?_toList,Sort.putCells,Array.getElem?_mapIdx,Array.getElem?_eq_getElem hj2]
     have h7:zs.toArray[j-0]! = ys[j]:=by
      subst hdd
      simp [BG hj,hj]
     simp only [Option.map_some,Cn,List.getElem?_eq_getElem hj]
     rw [if_pos ⟨Nat.zero_le _,by simp; omega⟩,h7]
    ·have h6:¬ j<ys.length*Kd.sz (.int .i64):=by simpa [Kd.sz] using hj
     rw [if_neg h6,Cn,Dl (by omega)]; rfl
   ·intro j x hx
    show ((ys.map (Value.int .i64)).drop (j*1)).take 1=[.int .i64 x]
    have hj:=(Aw.1 hx).1
    have hxj:=(Aw.1 hx).2
    rw [Nat.mul_one,List.drop_eq_getElem_cons (by simpa using hj)]
    simp [hxj]
def zH (t g:Nat) (args bs:List AV):Option (List AV) :=
 match args,bs with
 | [.new t1 (.int k) xs,.clo g1 (.int k1) n],[]=>if t1=t/\g1=g/\k=.i64/\k1=.i64 then
   some [.new t (.int .i64) ((show List Int from xs).filter fun x=>!(x==(show Int from n)))] else none
 | _,_=>none
theorem ACJ {t g:Nat} {xs:List Int} {n:Int}:zH t g [.new t (.int .i64) xs,.clo g (.int .i64) n] []=some [.new t (.int .i64) (xs.filter fun x=>!(x==n))]:=by
 simp [zH]
theorem ACK (L:SlLaysH.n10 P ρ) (hv:∀ w,(zeroValue (ρ.t 23)).run P w=.ok (.int .i64 0) w) {g:Nat} (E:AEG P g) {args bs rs:List AV} (h:zH (ρ.t 23) g args bs=some rs):Xw P (ρ.f 10) args bs rs:=by
 unfold zH at h
 split at h
 ·split at h
  ·rename_i hc
   obtain ⟨rfl,rfl,rfl,rfl⟩:=hc
   cases h
   exact AAC L hv E
  ·cases h
 ·cases h
end Go.Proofs.YtokiohnjegbnpaaGreat.Core
