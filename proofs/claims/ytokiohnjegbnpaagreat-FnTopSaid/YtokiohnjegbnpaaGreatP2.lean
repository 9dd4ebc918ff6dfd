/- Texts of the proof, packed: part 3. -/
import Derived.Test.YtokiohnjegbnpaaGreatP1
import Derived.Test.YtokiohnjegbnpaaGreatProg
import Derived.Shelf.SlLaysE0
import Derived.Shelf.RegionOpenPlain
import Derived.WalkKit
import Derived.Deep.LoopGhost
import Derived.Lib.Walk
import Derived.Lib.SliceRun
import Derived.Shelf.Lays2
import Derived.Lib.JoinLaws
import Derived.Lib.AppendZeros
import Derived.Lib.Overlaps
import Derived.Laws.Externs
import Derived.Laws.IdiomCopy
import Derived.Laws.CopyRow
import Derived.Maps.AppendAt
import Derived.Shelf.Small.Strs
import Derived.Shelf.Spec.SlicesInsert
import Derived.Shelf.SlicesE.DeleteFunc
set_option linter.unusedVariables false
set_option linter.unusedSimpArgs false
namespace Go.Proofs.YtokiohnjegbnpaaGreat.Core
open Go
def Ev (p:Nat->Prop):Prop:=∃ m,∀ k,m<=k->p k
theorem Ev.mono {p q:Nat->Prop} (h:Ev p) (f:∀ k,p k->q k):Ev q:=h.elim fun m hm=>⟨m,fun k hk=>f k (hm k hk)⟩
theorem Ev.const {p:Prop} (h:p):Ev fun _=>p:=⟨0,fun _ _=>h⟩
theorem Ev.all {p:Nat->Prop} (h:∀ k,p k):Ev p:=⟨0,fun k _=>h k⟩
theorem Ev.and {p q:Nat->Prop} (h:Ev p) (g:Ev q):Ev fun k=>p k/\q k:=by
 obtain ⟨m,hm⟩:=h
 obtain ⟨n,hn⟩:=g
 exact ⟨max m n,fun k hk=>⟨hm k (by omega),hn k (by omega)⟩⟩
noncomputable def Lm {ρ:Type} (u:Nat->Option ρ):Option ρ :=
 @dite _ (∃ r,Ev fun k=>u k=some r) (Classical.propDecidable _) (fun h=>some (Classical.choose h)) (fun _=>none)
theorem yQ {ρ:Type} {u:Nat->Option ρ} {r:ρ} (h:Lm u=some r):Ev fun k=>u k=some r:=by
 unfold Lm at h
 split at h
 ·rename_i hx
  cases h
  exact Classical.choose_spec hx
 ·cases h
theorem ABk {ρ:Type} {u:Nat->Option ρ} {r:ρ} (h:Ev fun k=>u k=some r):Lm u=some r:=by
 have hx:∃ r,Ev fun k=>u k=some r:=⟨r,h⟩
 unfold Lm
 rw [dif_pos hx]
 obtain ⟨m,hm⟩:=(Classical.choose_spec hx).and h
 obtain ⟨a,b⟩:=hm m (Nat.le_refl _)
 rw [<- b,a]
def Conv {ρ:Type} (kn:Nat->St->Option ρ) (kl:St->Option ρ):Prop:=∀ s r,kl s=some r->Ev fun j=>kn j s=some r
theorem Conv.refl {ρ:Type} (kl:St->Option ρ):Conv (fun _=>kl) kl:=fun _ _ h=>.const h
def XQ (cal:Nat->Gz) (c:Gz):Prop:=∀ f a b r,c f a b=some r->Ev fun j=>cal j f a b=some r
theorem XQ.refl (c:Gz):XQ (fun _=>c) c:=fun _ _ _ _ h=>.const h
abbrev Lp (ρ:Type):Type:=((St->Option ρ)->St->Option ρ)->St->Option ρ
def ABl {ρ:Type} (F:Nat->(St->Option ρ)->St->Option ρ) (FL:(St->Option ρ)->St->Option ρ):Prop :=
 ∀ (go:Nat->St->Option ρ) (gl:St->Option ρ),Conv go gl->Conv (fun j=>F j (go j)) (FL gl)
def ABm {ρ:Type} (lp:Nat->Lp ρ) (ll:Lp ρ):Prop:=∀ (F:Nat->(St->Option ρ)->St->Option ρ) (FL:(St->Option ρ)->St->Option ρ),ABl F FL->(∀ j,ABl (fun _=>F j) (F j))->Conv (fun j=>lp j (F j)) (ll FL)
noncomputable def Ln {ρ:Type}:Lp ρ:=fun F s=>Lm fun n=>O2 n F s
theorem ABn {ρ:Type}:ABm (ρ:=ρ) O2 Ln:=by
 intro F FL hF _ s r h
 have h:=yQ h
 obtain ⟨m,hm⟩:=h
 have key:∀ n,∀ g:Nat->Nat,(∀ j,n<=g j)->Conv (fun j=>O2 (g j) (F j)) (O2 n FL):=by
  intro n
  induction n with
  | zero=>intro g _ s r h; cases h
  | succ n ih =>
   intro g hg s r h
   refine (hF (fun j=>O2 (g j-1) (F j)) (O2 n FL) (ih (fun j=>g j-1) fun j=>by have:=hg j; omega) s r h).mono fun j hj=>?_
   have e:g j=(g j-1)+1:=by have:=hg j; omega
   show O2 (g j) (F j) s=some r
   rw [e]
   exact hj
 obtain ⟨k,hk⟩:=key m (fun j=>max j m) (fun j=>by omega) s r (hm m (Nat.le_refl _))
 refine ⟨max k m,fun j hj=>?_⟩
 have:=hk j (by omega)
 simp only [show max j m=j by omega] at this
 exact this
theorem yR {ρ:Type} (k:Nat):ABm (ρ:=ρ) (fun _=>O2 k) (O2 k):=by
 intro F FL hF _
 induction k with
 | zero=>intro s r h; cases h
 | succ k ih=>exact hF _ _ ih
theorem rQ {ρ:Type} {F:(St->Option ρ)->St->Option ρ} (hF:ABl (fun _=>F) F) {s:St} {r:ρ} (h:F (Ln F) s=some r):Ln F s=some r:=by
 obtain ⟨m,hm⟩:=hF (fun j=>O2 j F) (Ln F) (fun s r h=>yQ h) s r h
 exact ABk ⟨m+1,fun k hk=>by
  cases k with
  | zero=>omega
  | succ k=>exact hm k (by omega)⟩
theorem yS {ρ:Type}:ABm (ρ:=ρ) (fun _=>Ln) Ln:=by
 intro F FL hF hs s r h
 obtain ⟨m,hm⟩:=yQ h
 have key:∀ n,Conv (fun j=>Ln (F j)) (O2 n FL):=by
  intro n
  induction n with
  | zero=>intro s r h; cases h
  | succ n ih=>intro s r h; exact (hF _ _ ih s r h).mono fun j hj=>rQ (hs j) hj
 exact key m s r (hm m (Nat.le_refl _))
theorem DC {α β:Type} {x:Option α} {f:Nat->α->Option β} {g:α->Option β} (h:∀ a r,g a=some r->Ev fun j=>f j a=some r) (r:β) (hx:x.bind g=some r):Ev fun j=>x.bind (f j)=some r:=by
 cases x with
 | none=>cases hx
 | some a=>exact h a r hx
theorem rR {ρ:Type} {s:St} {v:AV} {K:Kd} {kn:Nat->List K.T->Option ρ} {kl:List K.T->Option ρ} (hk:∀ a r,kl a=some r->Ev fun j=>kn j a=some r) (r:ρ) (h:s.list v K kl=some r):Ev fun j=>s.list v K (kn j)=some r:=by
 unfold St.list at h ⊢
 split at h
 ·exact hk _ _ h
 ·split at h
  ·rename_i e
   simp only [dif_pos e]
   exact hk _ _ h
  ·cases h
 ·split at h
  ·rename_i e0
   split at h
   ·rename_i e
    simp only [e0,dif_pos e]
    exact hk _ _ h
   ·cases h
  ·rename_i e0
   split at h
   ·rename_i e
    simp only [e0,dif_pos e]
    exact hk _ _ h
   ·cases h
  ·rename_i e0
   split at h
   ·rename_i e
    simp only [e0,dif_pos e]
    exact hk _ _ h
   ·cases h
  ·cases h
 ·cases h
theorem AAv {ρ:Type} {op:BinOp} {x y:AV} {kn:Nat->AV->Option ρ} {kl:AV->Option ρ} (hk:∀ a r,kl a=some r->Ev fun j=>kn j a=some r) (r:ρ) (h:nq op x y kl=some r):Ev fun j=>nq op x y (kn j)=some r:=by
 have e:∀ k:AV->Option ρ,nq op x y k=(nq op x y some).bind k:=by
  intro k
  unfold nq
  repeat' split
  all_goals rfl
 rw [e] at h
 simp only [e (kn _)]
 exact DC hk r h
theorem ABo {ρ:Type} {op:UnOp} {x:AV} {kn:Nat->AV->Option ρ} {kl:AV->Option ρ} (hk:∀ a r,kl a=some r->Ev fun j=>kn j a=some r) (r:ρ) (h:AAW op x kl=some r):Ev fun j=>AAW op x (kn j)=some r:=by
 unfold AAW at h ⊢
 split at h<;>first | exact hk _ _ h | cases h
theorem yT {α β:Type} {x:Nat->Option α} {xl:Option α} {f:Nat->α->Option β} {g:α->Option β} (hx:∀ a,xl=some a->Ev fun j=>x j=some a) (h:∀ a r,g a=some r->Ev fun j=>f j a=some r) (r:β) (hr:xl.bind g=some r):Ev fun j=>(x j).bind (f j)=some r:=by
 cases xl with
 | none=>cases hr
 | some a=>exact ((hx a rfl).and (h a r hr)).mono fun j hj=>by rw [hj.1]; exact hj.2
theorem ADp {ρ:Type} {cal:Nat->Gz} {c:Gz} {d z:Nat} {x:C7} {lo hi:Option C7} {kn:Nat->St->Option ρ} {kl:St->Option ρ} (hk:Conv kn kl) (s:St) (r:ρ) (h:FD c kl s (.sl d z x lo hi)=some r):Ev fun j=>FD (cal j) (kn j) s (.sl d z x lo hi)=some r:=by
 simp only [FD] at h ⊢
 split at h
 ·split at h
  ·rename_i ez
   split at h
   ·split at h
    ·rename_i g1
     split at h
     ·rename_i g2
      split at h
      ·rename_i g3
       simp only [if_pos ez,if_pos g1,if_pos g2,if_pos g3]
       exact hk _ _ h
      ·cases h
     ·cases h
    ·cases h
   ·cases h
  ·cases h
 ·split at h
  ·rename_i ez
   split at h
   ·split at h
    ·rename_i g1
     split at h
     ·rename_i g2
      split at h
      ·rename_i g3
       simp only [if_pos ez,if_pos g1,if_pos g2,if_pos g3]
       exact hk _ _ h
      ·cases h
     ·cases h
    ·cases h
   ·cases h
  ·cases h
 ·cases h
mutual
theorem rS {ρ:Type} {cal:Nat->Gz} {c:Gz} (hc:XQ cal c):∀ (ao:GG) {kn:Nat->St->Option ρ} {kl:St->Option ρ},Conv kn kl->∀ s r,FD c kl s ao=some r->Ev fun j=>FD (cal j) (kn j) s ao=some r
 | .mv d x,kn,kl,hk,s,r,h=>hk _ _ h
 | .nilrow d t K,kn,kl,hk,s,r,h=>hk _ _ h
 | .pick d c a b,kn,kl,hk,s,r,h=>by
  simp only [FD] at h ⊢
  split at h
  ·split at h<;>rename_i e<;>simp only [e,if_true,if_false,Bool.false_eq_true]<;>exact hk _ _ h
  ·cases h
 | .sc c want ops d a b,kn,kl,hk,s,r,h=>by
  simp only [FD] at h ⊢
  split at h
  ·split at h
   ·rename_i e
    simp only [e,if_true]
    exact wI hc ops (kn:=fun j s'=>kn j (s'.put d (if want then s'.opd a else s'.opd b))) (kl:=fun s'=>kl (s'.put d (if want then s'.opd a else s'.opd b))) (fun s r h=>hk _ _ h) s r h
   ·rename_i e
    simp only [if_neg e]
    exact hk _ _ h
  ·cases h
 | .alloc d cs,kn,kl,hk,s,r,h=>hk _ _ h
 | .box d x own,kn,kl,hk,s,r,h=>by
  simp only [FD] at h ⊢
  exact DC (fun a r h=>hk _ _ h) r h
 | .build d zero parts,kn,kl,hk,s,r,h=>by
  simp only [FD] at h ⊢
  exact DC (fun a r h=>hk _ _ h) r h
 | .bnew d zero parts,kn,kl,hk,s,r,h=>by
  simp only [FD] at h ⊢
  exact DC (fun a r h=>hk _ _ h) r h
 | .brow d t K parts,kn,kl,hk,s,r,h=>by
  simp only [FD] at h ⊢
  exact DC (fun a r h=>DC (fun a r h=>hk _ _ h) r h) r h
 | .blst d K parts,kn,kl,hk,s,r,h=>by
  simp only [FD] at h ⊢
  exact DC (fun a r h=>DC (fun a r h=>hk _ _ h) r h) r h
 | .load d x n,kn,kl,hk,s,r,h=>by
  simp only [FD] at h ⊢
  refine DC (fun a r h=>?_) r h
  split at h
  ·rename_i e
   simp only [if_pos e]
   exact hk _ _ h
  ·cases h
 | .store x y m own,kn,kl,hk,s,r,h=>by
  simp only [FD] at h ⊢
  split at h
  ·rename_i e
   simp only [if_pos e]
   exact DC (fun a r h=>hk _ _ h) r h
  ·cases h
 | .nilc d x,kn,kl,hk,s,r,h=>by
  simp only [FD] at h ⊢
  split at h<;>first | exact hk _ _ h | cases h
 | .bin d op x y,kn,kl,hk,s,r,h=>by
  simp only [FD] at h ⊢
  exact AAv (fun a r h=>hk _ _ h) r h
 | .eqs d neg K x y,kn,kl,hk,s,r,h=>by
  simp only [FD] at h ⊢
  exact DC (fun a r h=>DC (fun a r h=>hk _ _ h) r h) r h
 | .un d op x,kn,kl,hk,s,r,h=>by
  simp only [FD] at h ⊢
  exact ABo (fun a r h=>hk _ _ h) r h
 | .cvi d k x,kn,kl,hk,s,r,h=>by
  simp only [FD] at h ⊢
  split at h<;>first | exact hk _ _ h | cases h
 | .bts d x,kn,kl,hk,s,r,h=>by
  simp only [FD] at h ⊢
  exact rR (fun a r h=>hk _ _ h) r h
 | .fld d x off,kn,kl,hk,s,r,h=>by
  simp only [FD] at h ⊢
  split at h<;>first | exact hk _ _ h | cases h
 | .field d x off n,kn,kl,hk,s,r,h=>by
  simp only [FD] at h ⊢
  split at h
  ·split at h
   ·rename_i e
    simp only [if_pos e]
    exact hk _ _ h
   ·cases h
  ·cases h
 | .idx d z x i,kn,kl,hk,s,r,h=>by
  have e:∀ k:St->Option ρ,FD (cal 0) k s (.idx d z x i)=(FD (cal 0) some s (.idx d z x i)).bind k:=by
   intro k
   simp only [FD]
   repeat' split
   all_goals rfl
  have e2:∀ k:St->Option ρ,∀ c:Gz,FD c k s (.idx d z x i)=FD (cal 0) k s (.idx d z x i):=fun k c=>by simp only [FD]
  rw [e2,e] at h
  simp only [e2 (kn _),e (kn _)]
  exact DC (fun a r h=>hk _ _ h) r h
 | .sidx d x i,kn,kl,hk,s,r,h=>by
  have e:∀ k:St->Option ρ,FD (cal 0) k s (.sidx d x i)=(FD (cal 0) some s (.sidx d x i)).bind k:=by
   intro k
   simp only [FD]
   repeat' split
   all_goals rfl
  have e2:∀ k:St->Option ρ,∀ c:Gz,FD c k s (.sidx d x i)=FD (cal 0) k s (.sidx d x i):=fun k c=>by simp only [FD]
  rw [e2,e] at h
  simp only [e2 (kn _),e (kn _)]
  exact DC (fun a r h=>hk _ _ h) r h
 | .sl d z x lo hi,kn,kl,hk,s,r,h=>ADp hk s r h
 | .mk d t K n,kn,kl,hk,s,r,h=>by
  have e:∀ k:St->Option ρ,FD (cal 0) k s (.mk d t K n)=(FD (cal 0) some s (.mk d t K n)).bind k:=by
   intro k
   simp only [FD]
   repeat' split
   all_goals rfl
  have e2:∀ k:St->Option ρ,∀ c:Gz,FD c k s (.mk d t K n)=FD (cal 0) k s (.mk d t K n):=fun k c=>by simp only [FD]
  rw [e2,e] at h
  simp only [e2 (kn _),e (kn _)]
  exact DC (fun a r h=>hk _ _ h) r h
 | .fn d f caps,kn,kl,hk,s,r,h=>hk _ _ h
 | .clo d f K x,kn,kl,hk,s,r,h=>by
  simp only [FD] at h ⊢
  split at h
  ·exact DC (fun a r h=>hk _ _ h) r h
  ·cases h
 | .fbox d x,kn,kl,hk,s,r,h=>by
  simp only [FD] at h ⊢
  exact DC (fun a r h=>hk _ _ h) r h
 | .min d x y,kn,kl,hk,s,r,h=>by
  simp only [FD] at h ⊢
  split at h
  ·split at h
   ·rename_i e
    simp only [if_pos e]
    exact hk _ _ h
   ·cases h
  ·cases h
 | .app d e K a b,kn,kl,hk,s,r,h=>by
  simp only [FD] at h ⊢
  split at h
  ·split at h
   ·rename_i e1
    split at h
    ·rename_i e2
     split at h
     ·rename_i e3
      simp only [e1,dif_pos e2,if_pos e3]
      refine rR (fun a r h=>?_) r h
      split at h
      ·rename_i e4
       simp only [if_pos e4]
       exact hk _ _ h
      ·cases h
     ·cases h
    ·cases h
   ·cases h
  ·cases h
 | .apz d e K a b,kn,kl,hk,s,r,h=>by
  simp only [FD] at h ⊢
  split at h
  ·split at h
   ·rename_i e1
    split at h
    ·rename_i e2
     split at h
     ·rename_i e3
      simp only [e1,dif_pos e2,if_pos e3]
      refine rR (fun a r h=>?_) r h
      split at h
      ·rename_i e4
       simp only [if_pos e4]
       exact hk _ _ h
      ·cases h
     ·cases h
    ·cases h
   ·cases h
  ·cases h
 | .len d t x,kn,kl,hk,s,r,h=>by
  have e:∀ k:St->Option ρ,FD (cal 0) k s (.len d t x)=(FD (cal 0) some s (.len d t x)).bind k:=by
   intro k
   simp only [FD]
   repeat' split
   all_goals rfl
  have e2:∀ k:St->Option ρ,∀ c:Gz,FD c k s (.len d t x)=FD (cal 0) k s (.len d t x):=fun k c=>by simp only [FD]
  rw [e2,e] at h
  simp only [e2 (kn _),e (kn _)]
  exact DC (fun a r h=>hk _ _ h) r h
 | .call d f args res,kn,kl,hk,s,r,h=>by
  simp only [FD] at h ⊢
  refine DC (fun q r h=>DC (fun bx r h=>?_) r h) r h
  split at h
  ·rename_i e
   simp only [if_pos e]
   refine yT (fun a ha=>?_) (fun y r h=>?_) r h
   ·exact yT (f:=fun _=>Cp _) (g:=Cp _) (fun a ha=>hc _ _ _ _ ha) (fun y r h=>.const h) a ha
   ·split at h
    ·rename_i e
     simp only [if_pos e]
     exact hk _ _ h
    ·cases h
  ·cases h
 | .ext d x i,kn,kl,hk,s,r,h=>by
  simp only [FD] at h ⊢
  split at h
  ·split at h
   ·rename_i e
    simp only [if_pos e]
    exact hk _ _ h
   ·cases h
  ·cases h
theorem wI {ρ:Type} {cal:Nat->Gz} {c:Gz} (hc:XQ cal c):∀ (aos:List GG) {kn:Nat->St->Option ρ} {kl:St->Option ρ},Conv kn kl->∀ s r,lT c kl s aos=some r->Ev fun j=>lT (cal j) (kn j) s aos=some r
 | [],kn,kl,hk,s,r,h=>by simp only [lT] at h ⊢; exact hk _ _ h
 | o::os,kn,kl,hk,s,r,h=>by
  simp only [lT] at h ⊢
  exact rS hc o (fun s r h=>wI hc os hk s r h) s r h
end
theorem bP {ρ:Type} {cal:Nat->Gz} {c:Gz} (hc:XQ cal c) (anc:List (List Nat)) {kn:Nat->St->Option ρ} {kl:St->Option ρ} (hk:Conv kn kl):∀ (t:DT) (T:List (Nat×Nat)) s r,dK c anc kl t T s=some r->Ev fun j=>dK (cal j) anc (kn j) t T s=some r
 | .done,T,s,r,h=>hk _ _ h
 | .take i g ao d,T,s,r,h=>by
  simp only [dK] at h ⊢
  split at h
  ·rename_i e
   simp only [if_pos e]
   exact rS hc ao (fun s r h=>bP hc anc hk d _ s r h) s r h
  ·cases h
 | .skip i g d t,T,s,r,h=>by
  simp only [dK] at h ⊢
  split at h
  ·rename_i e
   simp only [if_pos e]
   exact bP hc anc hk t _ _ r h
  ·cases h
 | .only i g ao e fl d,T,s,r,h=>by
  simp only [dK] at h ⊢
  split at h
  ·rename_i e
   simp only [if_pos e]
   exact rS hc ao (fun s r h=>bP hc anc hk d _ s r h) s r h
  ·cases h
 | .test c a b,T,s,r,h=>by
  simp only [dK] at h ⊢
  split at h
  ·split at h
   ·rename_i e
    simp only [if_pos e]
    exact bP hc anc hk a _ _ r h
   ·rename_i e
    simp only [if_neg e]
    exact bP hc anc hk b _ _ r h
  ·cases h
 | .fork i ai ri j aj rj,T,s,r,h=>by
  simp only [dK] at h ⊢
  obtain ⟨ha,hb⟩:=lU.1 h
  have ea:Ev fun n=>(if (Ia ai.dsts T&&XA (anc.getD i []) (ai.touch s) s T)=true then FD (cal n) (fun s'=>dK (cal n) anc (kn n) ri (Hj (anc.getD i []) T) s') s ai else none)=some r:=by
   split at ha
   ·rename_i e
    simp only [if_pos e]
    exact rS hc ai (fun s r h=>bP hc anc hk ri _ s r h) s r ha
   ·cases ha
  have eb:Ev fun n=>(if (Ia aj.dsts T&&XA (anc.getD j []) (aj.touch s) s T)=true then FD (cal n) (fun s'=>dK (cal n) anc (kn n) rj (Hj (anc.getD j []) T) s') s aj else none)=some r:=by
   split at hb
   ·rename_i e
    simp only [if_pos e]
    exact rS hc aj (fun s r h=>bP hc anc hk rj _ s r h) s r hb
   ·cases hb
  exact (ea.and eb).mono fun n h=>lU.2 h
noncomputable def HA {ρ:Type} (cal:Gz) (lp:Lp ρ):AE->(kn kr:St->Option ρ)->(ke:Nat->St->Option ρ)->St->Option ρ
 | .skip,kn,_,_,s=>kn s
 | .region ops live,kn,_,_,s=>lT cal (fun s'=>kn ⟨live.map fun t=>(t,GB s'.fr t),s'.st⟩) s ops
 | .draw anc t live,kn,_,_,s=>dK cal anc (fun s'=>kn ⟨live.map fun t=>(t,GB s'.fr t),s'.st⟩) t [] s
 | .seqc live a b,kn,kr,ke,s=>HA cal lp a (fun s'=>HA cal lp b kn kr ke (s'.cutH (Du s live) live s.st.length)) kr ke s
 | .seq a b,kn,kr,ke,s=>HA cal lp a (fun s'=>HA cal lp b kn kr ke s') kr ke s
 | .cond c a b,kn,kr,ke,s=>match s.opd c with
  | .bool t=>if t=true then HA cal lp a kn kr ke s else HA cal lp b kn kr ke s
  | _=>none
 | .block id live body,kn,kr,ke,s=>HA cal lp body (fun s'=>kn (s'.cutH (Du s live) live s.st.length)) kr (fun i s'=>if i=id then kn (s'.cutH (Du s live) live s.st.length) else ke i s') s
 | .loop live body,_,kr,ke,s=>lp (fun go s'=>HA cal lp body (fun s''=>go (s''.cutH (Du s live) live s.st.length)) kr ke s') (s.cut live s.st.length)
 | .exit id,_,_,ke,s=>ke id s
 | .ret,_,kr,_,s=>kr s
theorem RM {ρ:Type} (cal:Gz) (k:Nat):∀ (a:AE) (kn kr:St->Option ρ) (ke:Nat->St->Option ρ) (s:St),Hd cal k a kn kr ke s=HA cal (O2 k) a kn kr ke s
 | .skip,_,_,_,_=>rfl
 | .region ..,_,_,_,_=>rfl
 | .draw ..,_,_,_,_=>rfl
 | .seqc live a b,kn,kr,ke,s=>by simp only [Hd,HA,RM cal k a,RM cal k b]
 | .seq a b,kn,kr,ke,s=>by simp only [Hd,HA,RM cal k a,RM cal k b]
 | .cond c a b,kn,kr,ke,s=>by
  simp only [Hd,HA,RM cal k a,RM cal k b]
  cases s.opd c<;>rfl
 | .block id live a,kn,kr,ke,s=>by simp only [Hd,HA,RM cal k a]
 | .loop live a,kn,kr,ke,s=>by simp only [Hd,HA,RM cal k a]
 | .exit _,_,_,_,_=>rfl
 | .ret,_,_,_,_=>rfl
theorem JD {ρ:Type}:∀ (a:AE) {cal:Nat->Gz} {c:Gz} {lp:Nat->Lp ρ} {ll:Lp ρ} {kn kr:Nat->St->Option ρ} {kl krl:St->Option ρ} {ke:Nat->Nat->St->Option ρ} {kel:Nat->St->Option ρ},XQ cal c->ABm lp ll->(∀ j,ABm (fun _=>lp j) (lp j)) ->
  Conv kn kl->Conv kr krl->(∀ i,Conv (fun j=>ke j i) (kel i))->Conv (fun j=>HA (cal j) (lp j) a (kn j) (kr j) (ke j)) (HA c ll a kl krl kel)
 | .skip,_,_,_,_,_,_,_,_,_,_,hc,hl,hl',hk,hr,he=>hk
 | .region ops live,_,_,_,_,_,_,_,_,_,_,hc,hl,hl',hk,hr,he=>fun s r h=>wI hc ops (fun s r h=>hk _ r h) s r h
 | .draw anc t live,_,_,_,_,_,_,_,_,_,_,hc,hl,hl',hk,hr,he=>fun s r h=>bP hc anc (fun s r h=>hk _ r h) t [] s r h
 | .seqc live a b,_,_,_,_,_,_,_,_,_,_,hc,hl,hl',hk,hr,he=>fun s r h=>JD a hc hl hl' (fun s' r h=>JD b hc hl hl' hk hr he _ r h) hr he s r h
 | .seq a b,_,_,_,_,_,_,_,_,_,_,hc,hl,hl',hk,hr,he=>fun s r h=>JD a hc hl hl' (fun s' r h=>JD b hc hl hl' hk hr he _ r h) hr he s r h
 | .cond c a b,_,_,_,_,_,_,_,_,_,_,hc,hl,hl',hk,hr,he=>fun s r h=>by
  simp only [HA] at h ⊢
  split at h
  ·split at h
   ·rename_i e
    simp only [if_pos e]
    exact JD a hc hl hl' hk hr he s r h
   ·rename_i e
    simp only [if_neg e]
    exact JD b hc hl hl' hk hr he s r h
  ·cases h
 | .block id live a,_,_,_,_,_,_,_,_,_,_,hc,hl,hl',hk,hr,he=>fun s r h=>by
  simp only [HA] at h ⊢
  refine JD a hc hl hl' (fun s r h=>hk _ r h) hr (fun i s' r h=>?_) s r h
  split at h
  ·rename_i e
   simp only [if_pos e]
   exact hk _ r h
  ·rename_i e
   simp only [if_neg e]
   exact he i _ r h
 | .loop live a,cal,c,lp,ll,kn,kr,kl,krl,ke,kel,hc,hl,hl',hk,hr,he=>fun s r h=>by
  simp only [HA] at h ⊢
  refine hl _ _ (fun go gl hgo s' r h=>?_) (fun j go gl hgo s' r h=>?_) _ r h
  ·exact JD a hc hl hl' (fun s r h=>hgo _ r h) hr he s' r h
  ·exact JD (cal:=fun _=>cal j) (lp:=fun _=>lp j) (kn:=fun i s'=>go i (s'.cutH (Du s live) live s.st.length)) (kl:=fun s'=>gl (s'.cutH (Du s live) live s.st.length)) (kr:=fun _=>kr j) (krl:=kr j) (ke:=fun _=>ke j) (kel:=ke j) a (XQ.refl _) (hl' j) (fun _=>hl' j) (fun s r h=>hgo _ r h) (Conv.refl _) (fun i=>Conv.refl _) s' r h
 | .exit id,_,_,_,_,_,_,_,_,_,_,hc,hl,hl',hk,hr,he=>fun s r h=>he id s r h
 | .ret,_,_,_,_,_,_,_,_,_,_,hc,hl,hl',hk,hr,he=>hr
theorem AAw {ρ:Type} {cal:Gz} {a:AE} {hs:List (Nat×Nat)} {live:List Nat} {n:Nat} {kr:St->Option ρ} {ke:Nat->St->Option ρ} {s:St} {r:ρ}
  (h:HA cal Ln a (fun s''=>Ln (fun go s'=>HA cal Ln a (fun s''=>go (s''.cutH hs live n)) kr ke s') (s''.cutH hs live n)) kr ke s=some r) :
  Ln (fun go s'=>HA cal Ln a (fun s''=>go (s''.cutH hs live n)) kr ke s') s=some r :=
 rQ (F:=fun go s'=>HA cal Ln a (fun s''=>go (s''.cutH hs live n)) kr ke s') (fun go gl hgo s' r h=>JD (cal:=fun _=>cal) (lp:=fun _=>Ln) (kn:=fun i s'=>go i (s'.cutH hs live n)) (kl:=fun s'=>gl (s'.cutH hs live n)) (kr:=fun _=>kr) (krl:=kr) (ke:=fun _=>ke) (kel:=ke) a (XQ.refl _) yS (fun _=>yS) (fun s r h=>hgo _ r h) (Conv.refl _) (fun i=>Conv.refl _) s' r h) h
noncomputable def ABp (cal:Gz) (fn:A_) (args bs:List AV):Option (RT fn.outs) :=
 HA cal Ln fn.body (AF fn) (AF fn) (fun _ _=>none) ⟨RK 0 (DN (Fm bs) args),BX bs args⟩
noncomputable def wJ (fns:Nat->Option A_) (prims:Gz):Gz:=fun f a b=>Lm fun k=>nt fns prims k f a b
theorem OD {fns:Nat->Option A_} {prims:Gz} {f:Nat} {args bs r:List AV} (hf:fns f=none) (h:prims f args bs=some r):wJ fns prims f args bs=some r:=by
 refine ABk ⟨1,fun k hk=>?_⟩
 cases k with
 | zero=>omega
 | succ k=>simp only [nt,hf,h]
theorem AAx {fns:Nat->Option A_} {prims:Gz} {f:Nat} {fn:A_} {args bs:List AV} {r:RT fn.outs} (hf:fns f=some fn) (hl:args.length=fn.params.length/\bs.length=(EN fn.params 0).length)
  (h:ABp (wJ fns prims) fn args bs=some r):wJ fns prims f args bs=some (Dt fn.outs r):=by
 have hc:XQ (fun k=>nt fns prims k) (wJ fns prims):=fun f a b r h=>yQ h
 obtain ⟨m,hm⟩:=JD (lp:=O2) (ll:=Ln) fn.body (kn:=fun _=>AF fn) (kr:=fun _=>AF fn) (ke:=fun _ _ _=>none) hc ABn yR (Conv.refl _) (Conv.refl _) (fun i=>Conv.refl _) _ r h
 refine ABk ⟨m+1,fun k hk=>?_⟩
 cases k with
 | zero=>omega
 | succ k =>
  simp only [nt,hf,if_pos hl]
  have:=hm k (by omega)
  simp only [<- RM] at this
  unfold zp
  rw [this]
  rfl
theorem TN:∀ (K:Kd) (x:K.T) (r:List AV),K.dec (K.enc x++r)=some (x,r)
 | .int k,x,r=>by simp [Kd.enc,Kd.dec]
 | .bool,x,r=>rfl
 | .str,x,r=>rfl
 | .slice e,x,r=>by simp [Kd.enc,Kd.dec]
 | .pair a b,x,r=>by simp [Kd.enc,Kd.dec,List.append_assoc,TN a,TN b]
 | .own t e,x,r=>by simp [Kd.enc,Kd.dec]
 | .ref K,x,r=>by
  have:=TN K x []
  rw [List.append_nil] at this
  simp [Kd.enc,Kd.dec,this]
 | .fun f,x,r=>by simp [Kd.enc,Kd.dec]
 | .clo f K,x,r=>by simp [Kd.enc,Kd.dec]
theorem rT (K:Kd) (x:K.T):K.of (K.av x)=some x:=by
 have h:K.ofCells (K.enc x)=some x:=by
  have:=TN K x []
  rw [List.append_nil] at this
  simp [Kd.ofCells,this]
 unfold Kd.of
 cases K<;>exact h
theorem rU:∀ (Ks:List Kd) (x:RT Ks),Cp Ks (Dt Ks x)=some x
 | [],_=>rfl
 | [K],x=>rT K x
 | K::L::Ks,x=>by
  simp only [Dt,Cp,rT,X]
  rw [rU (L::Ks) x.2]
  rfl
theorem zW {fns:Nat->Option A_} {prims:Gz} {f:Nat} {fn:A_} {args bs:List AV} {r:RT fn.outs} (hf:fns f=some fn) (hl:args.length=fn.params.length/\bs.length=(EN fn.params 0).length)
  (h:ABp (wJ fns prims) fn args bs=some r):(wJ fns prims f args bs).bind (Cp fn.outs)=some r:=by
 rw [AAx hf hl h,X,rU]
theorem ABq {P:Program} {fns:Nat->Option A_} {prims:Gz} (ht:ABh P fns) (hp:J_ P prims) {f:Nat} {args:List AV} (h:(wJ fns prims f args []).bind (Cp [.bool])=some true) {W:World} {cargs:List Value}
  (ha:As (VE (fP W)) args cargs):Calls P f cargs.toArray W fun e W'=>e=.returned (.bool true)/\RowKit.Below W.heap.size W W':=by
 cases hq:wJ fns prims f args [] with
 | none=>rw [hq] at h; cases h
 | some v =>
  rw [hq,X] at h
  obtain ⟨m,hm⟩:=yQ hq
  have hm:=hm m (Nat.le_refl _)
  have e:v=[.bool true]:=by
   match v,h with
   | [a],h =>
    have h:Kd.of .bool a=some true:=h
    unfold Kd.of Kd.ofCells at h
    cases a<;>simp [AV.cells,Kd.dec,AV.fits] at h<;>first | rw [h] | skip
  subst e
  exact AAu ht hp hm ha
def ACz (f:Nat):List (Nat×A_)->Option A_
 | []=>none
 | (g,a)::r=>if g=f then some a else ACz f r
inductive AAG (P:Program):List (Nat×A_)->Prop where
 | nil:AAG P []
 | cons {f:Nat} {a:A_} {r:List (Nat×A_)} (h:Aq P f a=true) (t:AAG P r):AAG P ((f,a)::r)
theorem AAy {P:Program} {tab:List (Nat×A_)} (h:AAG P tab):ABh P fun f=>ACz f tab:=by
 intro f a hf
 induction h with
 | nil=>cases hf
 | cons h _ ih =>
  simp only [ACz] at hf
  split at hf
  ·rename_i e
   cases hf
   rw [<- e]
   exact h
  ·exact ih hf
end Go.Proofs.YtokiohnjegbnpaaGreat.Core

namespace Go.Proofs.YtokiohnjegbnpaaGreat.Core
open Go IntKind
set_option maxRecDepth 100000
noncomputable section
abbrev AG:Kd:=(.pair (.int .i64) (.pair .str (.pair .str (.pair (.int .i64) (.pair (.int .i64) (.pair (.int .i64) (.pair (.int .i64) (.pair (.int .i64) .str))))))))
abbrev AB:Type:=Int×ByteArray×ByteArray×Int×Int×Int×Int×Int×ByteArray
abbrev AD:Kd:=(.pair .str (.pair .str (.int .i64)))
abbrev Y:Type:=ByteArray×ByteArray×Int
abbrev MX:Kd:=(.pair (.int .i64) (.pair (.int .i64) (.pair (.int .i64) (.pair AD (.slice (.int .i64))))))
abbrev wK:Type:=Int×Int×Int×Y×List Int
abbrev U:Kd:=(.pair (.int .i64) (.pair (.int .i64) (.pair .bool (.pair .bool (.pair .bool (.pair .bool (.pair (.slice (.int .i64)) (.pair (.slice AD) (.pair (.int .i64) MX)))))))))
abbrev O:Type:=Int×Int×Bool×Bool×Bool×Bool×List Int×List Y×Int×Int×Int×Int×Y×List Int
abbrev AH:Kd:=(.pair (.int .i64) (.pair (.int .i64) (.pair (.int .i64) (.pair (.int .i64) (.pair (.int .i64) (.slice AD))))))
abbrev Z:Type:=Int×Int×Int×Int×Int×List Y
abbrev AM:Kd:=(.pair (.slice (.slice (.int .i64))) (.pair (.slice U) (.pair (.slice AH) (.slice AG))))
abbrev AA:Type:=List (List Int)×List O×List Z×List AB
abbrev AZ:Kd:=(.pair (.int .i64) (.pair (.int .i64) (.pair (.int .i64) (.pair (.int .i64) (.pair .str .str)))))
abbrev AW:Type:=Int×Int×Int×Int×ByteArray×ByteArray
abbrev Ad:Kd:=(.pair (.slice (.slice (.int .i64))) (.pair (.own 42 U) (.pair (.own 97 AH) (.own 47 AG))))
abbrev Ay:Kd:=(.pair (.int .i64) (.pair (.int .i64) (.pair (.int .i64) AD)))
abbrev AI:Type:=Int×Int×Int×ByteArray×ByteArray×Int
abbrev GU:Kd:=(.pair (.slice (.slice (.int .i64))) (.pair (.own 42 U) (.pair (.slice AH) (.slice AG))))
abbrev zX:Kd:=(.pair (.int .i64) (.pair (.int .i64) (.pair (.int .i64) (.pair AD (.own 3 (.int .i64))))))
abbrev Jb:Kd:=(.pair (.int .i64) (.pair (.int .i64) (.pair .bool (.pair .bool (.pair .bool (.pair .bool (.pair (.own 3 (.int .i64)) (.pair (.own 38 AD) (.pair (.int .i64) zX)))))))))
abbrev f9:Kd:=(.pair (.slice (.slice (.int .i64))) (.slice AZ))
abbrev XR:Type:=List (List Int)×List AW
abbrev BI:Kd:=(.pair (.slice (.int .u8)) (.pair (.int .i64) (.int .i64)))
abbrev AS:Type:=List Int×Int×Int
abbrev bQ:Kd:=(.pair (.slice (.slice (.int .i64))) (.own 55 AZ))
def zY:Nat×List PK×List Kd:=(9,[.bor (.slice (.int .u8))],[.bool])
def oQ:Nat×List PK×List Kd:=(10,[.val (.slice (.int .u8))],[(.slice (.slice (.int .i64))),(.slice AZ)])
def oR:Nat×List PK×List Kd:=(11,[.val (.slice (.slice (.int .i64))),.val (.slice AZ)],[AM,(.slice (.int .i64)),.bool])
def oS:Nat×List PK×List Kd:=(12,[.val (.slice (.slice (.int .i64))),.val (.slice AZ)],[AM,(.slice (.int .i64)),.bool])
def Pk:Nat×List PK×List Kd:=(13,[.bor U],[.bool])
def l8:Nat×List PK×List Kd:=(14,[.bor (.slice AG),.bor (.slice AG)],[.bool])
def uQ:Nat×List PK×List Kd:=(15,[.bor (.slice AG)],[.bool])
def uR:Nat×List PK×List Kd:=(16,[.bor (.slice AG)],[.bool])
def Hm:Nat×List PK×List Kd:=(17,[.val AG],[(.int .i64)])
def yU:Nat×List PK×List Kd:=(18,[.val AM,.val (.int .i64)],[AM])
def wL:Nat×List PK×List Kd:=(19,[.bor (.slice AG)],[.bool])
def wM:Nat×List PK×List Kd:=(20,[.bor (.slice AG)],[.bool])
def wN:Nat×List PK×List Kd:=(21,[.bor (.slice AG)],[.bool])
def wO:Nat×List PK×List Kd:=(22,[.bor (.slice AG)],[.bool])
def oT:Nat×List PK×List Kd:=(23,[.bor (.slice (.int .i64)),.bor (.slice (.int .i64))],[.bool])
def iy:Nat×List PK×List Kd:=(24,[.bor AM],[.bool])
def iz:Nat×List PK×List Kd:=(25,[.bor AM],[.bool])
def l9:Nat×List PK×List Kd:=(27,[.bor AM],[.bool])
def l_:Nat×List PK×List Kd:=(28,[.bor AM],[.bool])
def wP:Nat×List PK×List Kd:=(29,[.bor AM],[.bool])
def wQ:Nat×List PK×List Kd:=(30,[.bor AM],[.bool])
def rV:Nat×List PK×List Kd:=(32,[.ptr BI,.val (.slice (.int .u8))],[f9])
def uS:Nat×List PK×List Kd:=(33,[.val (.slice (.int .u8))],[(.ref BI)])
def oU:Nat×List PK×List Kd:=(34,[.val (.slice (.slice (.int .i64)))],[Ad,.bool])
def rW:Nat×List PK×List Kd:=(35,[.val AZ],[.bool])
def f_:Nat×List PK×List Kd:=(36,[.ptr Ad,.val AZ,.val (.int .i64)],[.bool])
def uT:Nat×List PK×List Kd:=(37,[.val .bool],[(.int .i64)])
def OE:Nat×List PK×List Kd:=(38,[.val AM],[Ad])
def X6:Nat×List PK×List Kd:=(39,[.val (.slice (.slice (.int .i64)))],[AM,.bool])
def rX:Nat×List PK×List Kd:=(40,[.val AZ],[.bool])
def i4:Nat×List PK×List Kd:=(41,[.ptr AM,.val (.int .i64),.val AZ],[(.int .i64)])
def rY:Nat×List PK×List Kd:=(42,[.val AM],[AM])
def Gw:Nat×List PK×List Kd:=(43,[.val (.int .i64)],[.bool])
def Ap:Nat×List PK×List Kd:=(44,[.val (.int .i64),.val (.int .i64),.val (.int .i64)],[.bool])
def Rt:Nat×List PK×List Kd:=(45,[.bor (.slice (.int .i64)),.val (.int .i64),.val (.int .i64)],[.bool])
def MY:Nat×List PK×List Kd:=(46,[.bor (.slice AD)],[.bool])
def bR:Nat×List PK×List Kd:=(47,[.ptr U],[.bool])
def IW:Nat×List PK×List Kd:=(48,[.val AG],[.bool])
def Hn:Nat×List PK×List Kd:=(49,[.val AG],[(.int .i64)])
def bS:Nat×List PK×List Kd:=(50,[.ptr AM],[.bool])
def O7:Nat×List PK×List Kd:=(51,[.ptr Ad,.val (.int .i64),.val (.int .i64)],[])
def wR:Nat×List PK×List Kd:=(52,[.bor (.slice AG),.val AG],[.bool])
def uU:Nat×List PK×List Kd:=(53,[.val AG,.val AG],[.bool])
def TO:Nat×List PK×List Kd:=(55,[.ptr AM,.val (.int .i64)],[(.slice (.int .i64))])
def Aj:Nat×List PK×List Kd:=(56,[.val (.int .i64),.val (.int .i64),.val (.int .i64)],[.bool])
def Dv:Nat×List PK×List Kd:=(57,[.bor (.slice (.int .i64)),.val (.int .i64)],[.bool])
def K_:Nat×List PK×List Kd:=(58,[.bor (.slice AD),.bor (.slice AD)],[.bool])
def FF:Nat×List PK×List Kd:=(59,[.bor (.slice (.int .i64)),.val (.int .i64)],[.bool])
def eN:Nat×List PK×List Kd:=(60,[.bor (.slice AD),.bor (.slice AD)],[.bool])
def JE:Nat×List PK×List Kd:=(61,[.ptr BI],[(.int .i64)])
def Dm:Nat×List PK×List Kd:=(62,[.ptr BI,.val (.int .i64)],[(.int .i64)])
def oV:Nat×List PK×List Kd:=(63,[.ptr BI],[(.slice (.slice (.int .i64)))])
def rZ:Nat×List PK×List Kd:=(64,[.ptr BI,.ptr AM],[AZ])
def HB:Nat×List PK×List Kd:=(65,[.bor (.slice (.slice (.int .i64)))],[.bool])
def VN:Nat×List PK×List Kd:=(66,[.val (.slice (.slice (.int .i64)))],[(.slice (.slice (.int .i64)))])
def mA:Nat×List PK×List Kd:=(67,[.val (.int .i64),.val (.slice (.slice (.int .i64)))],[U,.bool])
def i5:Nat×List PK×List Kd:=(68,[.val (.int .i64),.val (.int .i64),.val .str,.val .str],[.bool])
def gA:Nat×List PK×List Kd:=(69,[.ptr Ad,.val AZ,.val (.int .i64)],[.bool])
def gC:Nat×List PK×List Kd:=(70,[.ptr Ad,.val AZ,.val (.int .i64)],[.bool])
def G3:Nat×List PK×List Kd:=(71,[.ptr Ad,.val (.int .i64)],[(.int .i64)])
def yV:Nat×List PK×List Kd:=(72,[.bor U],[Jb])
def bT:Nat×List PK×List Kd:=(73,[.ptr Ad,.val AZ,.val (.int .i64)],[.bool])
def LA:Nat×List PK×List Kd:=(74,[.bor (.slice AG)],[(.own 47 AG)])
def GV:Nat×List PK×List Kd:=(75,[.val U],[U])
def Ru:Nat×List PK×List Kd:=(76,[.val AH],[AH])
def JF:Nat×List PK×List Kd:=(77,[.bor (.slice (.slice (.int .i64)))],[.bool])
def QX:Nat×List PK×List Kd:=(78,[.val (.slice (.slice (.int .i64)))],[(.slice (.slice (.int .i64)))])
def mB:Nat×List PK×List Kd:=(79,[.val (.int .i64),.val (.slice (.slice (.int .i64)))],[U,.bool])
def oW:Nat×List PK×List Kd:=(80,[.ptr AM,.val (.int .i64),.val AZ],[(.int .i64)])
def oX:Nat×List PK×List Kd:=(81,[.ptr AM,.val (.int .i64),.val (.int .i64)],[(.int .i64)])
def Jc:Nat×List PK×List Kd:=(82,[.ptr AM,.val U,.val (.slice AH),.val (.slice Ay),.val (.int .i64)],[])
def yW:Nat×List PK×List Kd:=(83,[.bor U],[Jb])
def uV:Nat×List PK×List Kd:=(84,[.ptr AM,.val (.int .i64),.val AZ],[(.int .i64)])
def gD:Nat×List PK×List Kd:=(85,[.val (.slice AH)],[(.slice AH)])
def HC:Nat×List PK×List Kd:=(86,[.val U],[U])
def i6:Nat×List PK×List Kd:=(87,[.val .str],[.bool])
def GD:Nat×List PK×List Kd:=(88,[.mov (.own 97 AH),.val (.int .i64),.val (.int .i64)],[(.own 97 AH)])
def rc:Nat×List PK×List Kd:=(89,[.val U,.val (.slice (.slice (.int .i64))),.val AH],[U,(.slice AH),(.slice Ay)])
def MZ:Nat×List PK×List Kd:=(90,[.ptr Ad,.val (.slice AH),.val (.slice Ay),.val (.int .i64)],[])
def II:Nat×List PK×List Kd:=(91,[.bor (.slice AG),.val (.clo 92 AG)],[.bool])
def Ma:Nat×List PK×List Kd:=(95,[.bor (.slice (.int .i64)),.val (.int .i64)],[(.int .i64)])
def TP:Nat×List PK×List Kd:=(96,[.ptr BI,.val (.slice (.int .i64))],[(.int .i64)])
def Mb:Nat×List PK×List Kd:=(97,[.ptr BI,.val (.int .i64)],[.bool])
def bU:Nat×List PK×List Kd:=(98,[.ptr BI,.val (.slice .str)],[.str])
def Ch:Nat×List PK×List Kd:=(99,[.bor (.slice (.int .i64))],[(.own 3 (.int .i64))])
def wS:Nat×List PK×List Kd:=(100,[.val U,.val (.slice (.slice (.int .i64))),.val (.int .i64),.val (.int .i64),.val .str,.val .str],[U,(.slice AH),(.slice Ay),.bool])
def wT:Nat×List PK×List Kd:=(101,[.val U,.val (.slice (.slice (.int .i64))),.val (.int .i64)],[U,(.slice AH),.bool])
def Ho:Nat×List PK×List Kd:=(102,[.bor (.slice U),.val (.clo 103 (.int .i64))],[(.int .i64)])
def BD:Nat×List PK×List Kd:=(104,[.bor (.slice AD)],[(.own 38 AD)])
def rd:Nat×List PK×List Kd:=(105,[.bor (.slice (.int .i64))],[.bool])
def wU:Nat×List PK×List Kd:=(106,[.val U,.val (.slice (.slice (.int .i64))),.val (.int .i64),.val (.int .i64),.val .str,.val .str],[U,(.slice AH),(.slice Ay),.bool])
def wV:Nat×List PK×List Kd:=(107,[.val U,.val (.slice (.slice (.int .i64))),.val (.int .i64)],[U,(.slice AH),.bool])
def re:Nat×List PK×List Kd:=(108,[.val U,.val (.slice (.slice (.int .i64))),.val AH],[U,(.slice AH),(.slice Ay)])
def wW:Nat×List PK×List Kd:=(109,[.bor AH],[.bool])
def gE:Nat×List PK×List Kd:=(110,[.ptr U,.val (.slice (.slice (.int .i64))),.val AH],[(.slice AH),(.slice Ay)])
def JG:Nat×List PK×List Kd:=(111,[.bor (.slice AG),.val (.clo 92 AG)],[(.int .i64)])
def XS:Nat×List PK×List Kd:=(113,[.ptr U,.val (.slice (.slice (.int .i64)))],[.bool])
def fQ:Nat×List PK×List Kd:=(114,[.bor (.slice AD),.val .str],[AD])
def GW:Nat×List PK×List Kd:=(115,[.ptr U,.val (.slice (.int .i64))],[(.slice (.int .i64))])
def Nl:Nat×List PK×List Kd:=(116,[.mut (.own 3 (.int .i64))],[])
def Rv:Nat×List PK×List Kd:=(117,[.ptr U],[(.slice Ay)])
def BZ:Nat×List PK×List Kd:=(118,[.ptr U,.val (.slice (.int .i64)),.val AH],[(.slice AH)])
def Mc:Nat×List PK×List Kd:=(119,[.ptr U],[])
def Md:Nat×List PK×List Kd:=(120,[.ptr U,.val (.slice (.int .i64)),.val (.slice AD)],[(.slice AH)])
def Pl:Nat×List PK×List Kd:=(121,[.bor U],[.bool])
def fR:Nat×List PK×List Kd:=(122,[.bor (.slice AD),.val .str],[AD])
def Rw:Nat×List PK×List Kd:=(123,[.bor (.slice AD),.val AD],[(.own 38 AD)])
def VO:Nat×List PK×List Kd:=(124,[.val (.slice (.int .i64)),.val (.int .i64)],[(.slice (.int .i64))])
def VP:Nat×List PK×List Kd:=(125,[.ptr U],[(.slice Ay)])
def fS:Nat×List PK×List Kd:=(126,[.ptr U,.val (.slice (.int .i64)),.val (.slice AD)],[(.slice AH)])
def wX:Nat×List PK×List Kd:=(127,[.bor AH],[.bool])
def uW:Nat×List PK×List Kd:=(128,[.val U,.val (.slice (.int .i64)),.val AH],[U,(.slice AH),(.slice Ay)])
def bV:Nat×List PK×List Kd:=(129,[.val U,.val (.int .i64)],[U])
def Km:Nat×List PK×List Kd:=(130,[.val U,.val AH,.val (.int .i64)],[(.slice AH)])
def gF:Nat×List PK×List Kd:=(131,[.ptr U,.val (.slice (.slice (.int .i64))),.val AH],[(.slice AH)])
def aT:Nat×List PK×List Kd:=(132,[.ptr U,.val (.slice (.int .i64)),.val AH],[(.slice AH)])
def bW:Nat×List PK×List Kd:=(133,[.val (.slice (.int .i64)),.val (.int .i64)],[(.slice (.int .i64))])
def eO:Nat×List PK×List Kd:=(134,[.ptr U,.val AH],[(.slice AH)])
def O8:Nat×List PK×List Kd:=(135,[.ptr U,.val (.int .i64),.val AH],[(.slice Ay)])
def FH:Nat×List PK×List Kd:=(137,[.mut (.own 3 (.int .i64)),.val (.int .i64),.val (.int .i64),.val (.int .i64)],[])
def oY:Nat×List PK×List Kd:=(138,[.val (.int .u64)],[(.int .i64)])
def bX:Nat×List PK×List Kd:=(139,[.bor (.slice AD),.val AD],[(.own 38 AD)])
def fT:Nat×List PK×List Kd:=(140,[.bor (.slice (.int .i64))],[.bool])
def Me:Nat×List PK×List Kd:=(141,[.bor (.slice AD)],[.bool])
def mC:Nat×List PK×List Kd:=(142,[.bor MX],[.bool])
def TQ:Nat×List PK×List Kd:=(143,[.val (.slice (.int .i64)),.val (.int .i64)],[(.slice (.int .i64))])
def RN:Nat×List PK×List Kd:=(144,[.mov (.own 3 (.int .i64)),.val (.clo 145 (.int .i64))],[(.own 3 (.int .i64))])
def ME:Nat×List PK×List Kd:=(148,[.mut (.own 3 (.int .i64)),.val (.int .i64),.val (.int .i64)],[])
def Pm:Nat×List PK×List Kd:=(149,[.mut (.own 3 (.int .i64)),.val (.int .i64),.val (.int .i64)],[])
def MF:Nat×List PK×List Kd:=(150,[.mut (.own 3 (.int .i64)),.val (.int .i64),.val (.int .i64)],[])
def Nj:Nat×List PK×List Kd:=(151,[.mut (.own 3 (.int .i64)),.val (.int .i64),.val (.int .i64)],[(.int .i64),(.int .i64)])
def Mf:Nat×List PK×List Kd:=(152,[.mut (.own 3 (.int .i64)),.val (.int .i64),.val (.int .i64)],[])
def Ib:Nat×List PK×List Kd:=(153,[.mut (.own 3 (.int .i64)),.val (.int .i64),.val (.int .i64)],[.bool])
def bY:Nat×List PK×List Kd:=(154,[.val (.int .i64),.val (.int .i64)],[.bool])
def LB:Nat×List PK×List Kd:=(155,[.mut (.own 3 (.int .i64)),.val (.int .i64),.val (.int .i64),.val (.int .i64)],[(.int .i64)])
def O9:Nat×List PK×List Kd:=(156,[.mut (.own 3 (.int .i64)),.val (.int .i64),.val (.int .i64),.val (.int .i64)],[(.int .i64),.bool])
def i7:Nat×List PK×List Kd:=(157,[.val (.int .u32)],[(.int .i64)])
def i8:Nat×List PK×List Kd:=(158,[.val (.int .u64)],[(.int .i64)])
def FI:Nat×List PK×List Kd:=(159,[.bor (.slice AD),.val .str,.val (.fun 160)],[(.int .i64),.bool])
def i9:Nat×List PK×List Kd:=(161,[.val .str,.val .str],[(.int .i64)])
def KW:Nat×List PK×List Kd:=(162,[.mov (.own 38 AD),.val (.int .i64),.mov (.own 38 AD)],[(.own 38 AD)])
def X7:Nat×List PK×List Kd:=(169,[.val (.int .i64)],[.bool])
abbrev Le0 { ρ:Type} (t W:Option ρ):Prop:=∀ { r},t=some r->W=some r
abbrev MJ {A0 ρ:Type} (t W:A0->Option ρ):Prop:=∀ {a0 r},t a0=some r->W a0=some r
abbrev Ni {A0 A1 ρ:Type} (t W:A0->A1->Option ρ):Prop:=∀ {a0 a1 r},t a0 a1=some r->W a0 a1=some r
abbrev RO {A0 A1 A2 ρ:Type} (t W:A0->A1->A2->Option ρ):Prop:=∀ {a0 a1 a2 r},t a0 a1 a2=some r->W a0 a1 a2=some r
abbrev bZ {A0 A1 A2 A3 ρ:Type} (t W:A0->A1->A2->A3->Option ρ):Prop:=∀ {a0 a1 a2 a3 r},t a0 a1 a2 a3=some r->W a0 a1 a2 a3=some r
abbrev zG {A0 A1 A2 A3 A4 ρ:Type} (t W:A0->A1->A2->A3->A4->Option ρ):Prop:=∀ {a0 a1 a2 a3 a4 r},t a0 a1 a2 a3 a4=some r->W a0 a1 a2 a3 a4=some r
abbrev zZ {A0 A1 A2 A3 A4 A5 ρ:Type} (t W:A0->A1->A2->A3->A4->A5->Option ρ):Prop:=∀ {a0 a1 a2 a3 a4 a5 r},t a0 a1 a2 a3 a4 a5=some r->W a0 a1 a2 a3 a4 a5=some r
abbrev Le7 {A0 A1 A2 A3 A4 A5 A6 ρ:Type} (t W:A0->A1->A2->A3->A4->A5->A6->Option ρ):Prop:=∀ {a0 a1 a2 a3 a4 a5 a6 r},t a0 a1 a2 a3 a4 a5 a6=some r->W a0 a1 a2 a3 a4 a5 a6=some r
abbrev za {A0 A1 A2 A3 A4 A5 A6 A7 ρ:Type} (t W:A0->A1->A2->A3->A4->A5->A6->A7->Option ρ):Prop:=∀ {a0 a1 a2 a3 a4 a5 a6 a7 r},t a0 a1 a2 a3 a4 a5 a6 a7=some r->W a0 a1 a2 a3 a4 a5 a6 a7=some r
abbrev Le9 {A0 A1 A2 A3 A4 A5 A6 A7 A8 ρ:Type} (t W:A0->A1->A2->A3->A4->A5->A6->A7->A8->Option ρ):Prop:=∀ {a0 a1 a2 a3 a4 a5 a6 a7 a8 r},t a0 a1 a2 a3 a4 a5 a6 a7 a8=some r->W a0 a1 a2 a3 a4 a5 a6 a7 a8=some r
abbrev uX {A0 A1 A2 A3 A4 A5 A6 A7 A8 A9 ρ:Type} (t W:A0->A1->A2->A3->A4->A5->A6->A7->A8->A9->Option ρ):Prop:=∀ {a0 a1 a2 a3 a4 a5 a6 a7 a8 a9 r},t a0 a1 a2 a3 a4 a5 a6 a7 a8 a9=some r->W a0 a1 a2 a3 a4 a5 a6 a7 a8 a9=some r
abbrev AEE {A0 A1 A2 A3 A4 A5 A6 A7 A8 A9 A10 ρ:Type} (t W:A0->A1->A2->A3->A4->A5->A6->A7->A8->A9->A10->Option ρ):Prop:=∀ {a0 a1 a2 a3 a4 a5 a6 a7 a8 a9 a10 r},t a0 a1 a2 a3 a4 a5 a6 a7 a8 a9 a10=some r->W a0 a1 a2 a3 a4 a5 a6 a7 a8 a9 a10=some r
abbrev ADq {A0 A1 A2 A3 A4 A5 A6 A7 A8 A9 A10 A11 ρ:Type} (t W:A0->A1->A2->A3->A4->A5->A6->A7->A8->A9->A10->A11->Option ρ):Prop:=∀ {a0 a1 a2 a3 a4 a5 a6 a7 a8 a9 a10 a11 r},t a0 a1 a2 a3 a4 a5 a6 a7 a8 a9 a10 a11=some r->W a0 a1 a2 a3 a4 a5 a6 a7 a8 a9 a10 a11=some r
abbrev AEO {A0 A1 A2 A3 A4 A5 A6 A7 A8 A9 A10 A11 A12 A13 ρ:Type} (t W:A0->A1->A2->A3->A4->A5->A6->A7->A8->A9->A10->A11->A12->A13->Option ρ):Prop:=∀ {a0 a1 a2 a3 a4 a5 a6 a7 a8 a9 a10 a11 a12 a13 r},t a0 a1 a2 a3 a4 a5 a6 a7 a8 a9 a10 a11 a12 a13=some r->W a0 a1 a2 a3 a4 a5 a6 a7 a8 a9 a10 a11 a12 a13=some r
abbrev AEF {A0 A1 A2 A3 A4 A5 A6 A7 A8 A9 A10 A11 A12 A13 A14 ρ:Type} (t W:A0->A1->A2->A3->A4->A5->A6->A7->A8->A9->A10->A11->A12->A13->A14->Option ρ):Prop:=∀ {a0 a1 a2 a3 a4 a5 a6 a7 a8 a9 a10 a11 a12 a13 a14 r},t a0 a1 a2 a3 a4 a5 a6 a7 a8 a9 a10 a11 a12 a13 a14=some r->W a0 a1 a2 a3 a4 a5 a6 a7 a8 a9 a10 a11 a12 a13 a14=some r

def ba:AE:=(.seq (.region [.ls 55 5 4,.cx (some 56) [.t 55,.c (.int .i64 300)] yU,.al 11 AM,.store (.t 11) (.t 56) 4 false] [5,11]) (.seq (.region [.ls 57 5 4,.cl 58 [57] iy,.m 59 58,.sc 59 true [.ls 60 5 4,.cl 61 [60] iz] 62 (.t 61) (.c (.bool false)),.m 63 62,.sc 63 true [.ls 64 11 4,.cl 65 [64] iy] 66 (.t 65) (.c (.bool false)),.m 67 66,.sc 67 true [.ls 68 11 4,.cl 69 [68] iz] 70 (.t 69) (.c (.bool false)),.m 2 70] [2]) .ret))
def Jd:A_:=⟨[.val (.slice (.int .u8))],[⟨2,false,.bool⟩],(.seq (.region [.mv 2 (.c (.bool false))] [0]) (.seq (.seq (.region [.m 12 0,.cl 13 [12] zY] [0,13]) (.cond (.t 13) (.seq (.region [.mv 2 (.c (.bool true))] [2]) .ret) .skip)) (.seq (.region [.m 15 0,.cl 16 [15] oQ,.m 14 16,.ext 17 (.t 14) 0,.ext 18 (.t 14) 1,.m 3 17,.m 4 18] [3,4]) (.seq (.region [.m 20 3,.m 21 4,.cl 22 [20,21] oR,.m 19 22,.ext 23 (.t 19) 0,.ext 24 (.t 19) 1,.ext 25 (.t 19) 2,.al 5 AM,.store (.t 5) (.t 23) 4 false,.m 6 24,.m 7 25] [3,4,5,6,7]) (.seq (.region [.m 27 3,.m 28 4,.cl 29 [27,28] oS,.m 26 29,.ext 30 (.t 26) 0,.ext 31 (.t 26) 1,.ext 32 (.t 26) 2,.al 8 AM,.store (.t 8) (.t 30) 4 false,.m 9 31,.m 10 32] [5,6,7,8,9]) (.seq (.seq (.region [.m 33 7,.un 34 .not (.t 33),.m 35 34,.sc 35 false [.m 36 6,.m 37 9,.cl 38 [36,37] oT,.un 39 .not (.t 38)] 40 (.c (.bool true)) (.t 39),.m 41 40,.sc 41 false [.f 42 5 3,.l 43 42,.f 44 8 3,.l 45 44,.cl 46 [43,45] l8,.un 47 .not (.t 46)] 48 (.c (.bool true)) (.t 47),.m 49 48,.sc 49 false [.f 50 5 1,.l 51 50,.len 52 false (.t 51),.bin 53 .neq (.t 52) (.i 6)] 54 (.c (.bool true)) (.t 53)] [5,54]) (.cond (.t 54) (.seq (.region [.mv 2 (.c (.bool false))] [2]) .ret) .skip)) ba))))))⟩
theorem wY:Aq Tryz.prog 6 Jd=true:=by kernel_rfl
def XT:A_:=⟨[.val (.slice (.int .u8))],[⟨2,false,.bool⟩],(.seq (.region [.mv 2 (.c (.bool false))] [0]) (.seq (.region [.m 3 0,.len 4 false (.t 3),.bin 5 .gtr (.t 4) (.i 1048576),.m 2 5] [2]) .ret))⟩
theorem zb:Aq Tryz.prog 9 XT=true:=by kernel_rfl
def Kn:A_:=⟨[.val (.slice (.int .u8))],[⟨2,false,(.slice (.slice (.int .i64)))⟩,⟨3,false,(.slice AZ)⟩],(.seq (.region [.mv 2 (.c (.nil)),.mv 3 (.c (.nil))] [0]) (.seq (.region [.m 5 0,.cl 6 [5] uS,.m 7 0,.cl 8 [6,7] rV,.al 4 f9,.store (.t 4) (.t 8) 2 false] [4]) (.seq (.draw (EE 6 [(2,[]),(4,[1]),(5,[3,4])]) (.tk 6 [.m 3 12,.m 2 10,.l 12 11,.f 11 4 1,.l 10 9,.f 9 4 0] .done) [2,3]) .ret)))⟩
theorem oZ:Aq Tryz.prog 10 Kn=true:=by kernel_rfl
def TR:AE:=(.seq (.region [.b 31 .lss 30 29] [1,4,7,28,29,30,31]) (.seq (.cond (.t 31) .skip (.exit 0)) (.seq (.block 1 [1,4,7,28,29,30] (.seq (.region [.idx 32 6 (.t 28) (.t 30),.ls 33 32 6,.al 10 AZ,.store (.t 10) (.t 33) 6 false] [1,4,7,10,28,29,30]) (.seq (.region [.ls 34 10 6,.cl 35 [34] rW,.un 36 .not (.t 35)] [1,4,7,28,29,30,36]) (.cond (.t 36) (.seq (.region [.build 37 [.nil,.nil,.nil,.nil] [],.store (.t 4) (.t 37) 4 false,.mv 5 (.c (.nil)),.mv 6 (.c (.bool false))] [4,5,6]) .ret) .skip)))) (.region [.bin 38 .add (.t 30) (.i 1),.m 30 38] [1,4,7,28,29,30]))))
def Rx:AE:=(.seq (.region [.b 42 .lss 41 40] [4,7,11,39,40,41,42]) (.seq (.cond (.t 42) .skip (.exit 2)) (.seq (.block 3 [4,7,11,39,40,41] (.seq (.region [.m 43 41,.idx 44 6 (.t 39) (.t 41),.ls 45 44 6,.al 13 AZ,.m 12 43,.store (.t 13) (.t 45) 6 false] [4,7,11,12,13,39,40,41]) (.seq (.region [.ls 46 13 6,.m 47 12,.cl 48 [7,46,47] f_,.m 14 48] [4,7,11,14,39,40,41]) (.region [.m 49 11,.m 50 14,.cl 51 [50] uT,.blst 52 (.int .i64) [.t 51],.app 53 3 (.int .i64) (.t 49) (.t 52),.m 11 53] [4,7,11,39,40,41])))) (.region [.bin 54 .add (.t 41) (.i 1),.m 41 54] [4,7,11,39,40,41]))))
def Ry:AE:=(.seq (.region [.ls 55 7 4,.cl 56 [55] OE,.m 57 11,.store (.t 4) (.t 56) 4 false,.m 5 57,.mv 6 (.c (.bool true))] [4,5,6]) .ret)
def LC:AE:=(.seq (.region [.nilrow 11 3 (.int .i64)] [1,4,7,11]) (.seq (.seq (.region [.m 39 1,.len 40 false (.t 39),.mv 41 (.i 0)] [4,7,11,39,40,41]) (.block 2 [4,7,11] (.loop [4,7,11,39,40,41] Rx))) Ry))
def Rz:AE:=(.seq (.seq (.region [.m 28 1,.len 29 false (.t 28),.mv 30 (.i 0)] [1,4,7,28,29,30]) (.block 0 [1,4,7] (.loop [1,4,7,28,29,30] TR))) LC)
def BG:A_:=⟨[.val (.slice (.slice (.int .i64))),.val (.slice AZ)],[⟨4,true,AM⟩,⟨5,false,(.slice (.int .i64))⟩,⟨6,false,.bool⟩],(.seq (.region [.al 4 Ad,.mv 5 (.c (.nil)),.mv 6 (.c (.bool false))] [0,1,4]) (.seq (.region [.m 16 0,.cl 17 [16] oU,.m 15 17,.ext 18 (.t 15) 0,.ext 19 (.t 15) 1,.al 7 Ad,.store (.t 7) (.t 18) 4 false,.m 8 19] [1,4,7,8]) (.seq (.seq (.region [.m 20 8,.un 21 .not (.t 20),.m 22 21,.sc 22 false [.m 23 1,.len 24 false (.t 23),.bin 25 .gtr (.t 24) (.i 70)] 26 (.c (.bool true)) (.t 25)] [1,4,7,26]) (.cond (.t 26) (.seq (.region [.build 27 [.nil,.nil,.nil,.nil] [],.store (.t 4) (.t 27) 4 false,.mv 5 (.c (.nil)),.mv 6 (.c (.bool false))] [4,5,6]) .ret) .skip)) Rz)))⟩
theorem ob:Aq Tryz.prog 11 BG=true:=by kernel_rfl
def TS:AE:=(.seq (.block 1 [1,4,7,8,9] (.region [.m 26 1,.len 27 false (.t 26),.bin 28 .leq (.t 27) (.i 70),.m 29 28,.sc 29 true [.m 30 1,.m 31 9,.idx 32 6 (.t 30) (.t 31),.ls 33 32 6,.cl 34 [33] rX] 35 (.t 34) (.c (.bool false)),.m 8 35] [1,4,7,8,9])) (.region [.m 24 9,.bin 25 .add (.t 24) (.i 1),.m 9 25] [1,4,7,8,9]))
def TU:AE:=(.seq (.seq (.region [.m 17 9,.m 18 1,.len 19 false (.t 18),.b 20 .lss 17 19,.m 21 20,.sc 21 true [.m 22 8] 23 (.t 22) (.c (.bool false))] [1,4,7,8,9,23]) (.cond (.t 23) .skip (.exit 0))) TS)
def TV:AE:=(.seq (.seq (.region [.m 41 11,.m 42 1,.len 43 false (.t 42),.b 44 .lss 41 43] [1,4,7,10,11,44]) (.cond (.t 44) .skip (.exit 2))) (.seq (.block 3 [1,4,7,10,11] (.region [.m 47 10,.m 48 11,.m 49 1,.m 50 11,.idx 51 6 (.t 49) (.t 50),.ls 52 51 6,.cl 53 [7,48,52] i4,.blst 54 (.int .i64) [.t 53],.app 55 3 (.int .i64) (.t 47) (.t 54),.m 10 55] [1,4,7,10,11])) (.region [.m 45 11,.bin 46 .add (.t 45) (.i 1),.m 11 46] [1,4,7,10,11])))
def R0:AE:=(.seq (.region [.ls 56 7 4,.cl 57 [56] rY,.m 58 10,.store (.t 4) (.t 57) 4 false,.m 5 58,.mv 6 (.c (.bool true))] [4,5,6]) .ret)
def LD:AE:=(.seq (.seq (.region [.m 36 8,.un 37 .not (.t 36)] [1,4,7,37]) (.cond (.t 37) (.seq (.region [.bu 38 AM [],.blst 39 (.int .i64) [],.store (.t 4) (.t 38) 4 false,.m 5 39,.mv 6 (.c (.bool false))] [4,5,6]) .ret) .skip)) (.seq (.region [.brow 40 3 (.int .i64) [],.m 10 40] [1,4,7,10]) (.seq (.seq (.region [.mv 11 (.i 0)] [1,4,7,10,11]) (.block 2 [4,7,10] (.loop [1,4,7,10,11] TV))) R0)))
def BO:A_:=⟨[.val (.slice (.slice (.int .i64))),.val (.slice AZ)],[⟨4,true,AM⟩,⟨5,false,(.slice (.int .i64))⟩,⟨6,false,.bool⟩],(.seq (.region [.al 4 AM,.mv 5 (.c (.nil)),.mv 6 (.c (.bool false))] [0,1,4]) (.seq (.region [.m 13 0,.cl 14 [13] X6,.m 12 14,.ext 15 (.t 12) 0,.ext 16 (.t 12) 1,.al 7 AM,.store (.t 7) (.t 15) 4 false,.m 8 16] [1,4,7,8]) (.seq (.seq (.region [.mv 9 (.i 0)] [1,4,7,8,9]) (.block 0 [1,4,7,8] (.loop [1,4,7,8,9] TU))) LD)))⟩
theorem oc:Aq Tryz.prog 12 BO=true:=by kernel_rfl
def TW:AE:=(.seq (.seq (.region [.f 31 1 5,.l 32 31,.m 33 32,.sc 33 true [.f 34 1 3,.l 35 34,.un 36 .not (.t 35),.m 37 36,.sc 37 false [.f 38 1 4,.l 39 38,.un 40 .not (.t 39)] 41 (.c (.bool true)) (.t 40),.m 42 41,.sc 42 false [.f 43 1 6,.l 44 43,.len 45 false (.t 44),.bin 46 .gtr (.t 45) (.i 0)] 47 (.c (.bool true)) (.t 46)] 48 (.t 47) (.c (.bool false)),.m 49 48,.sc 49 false [.f 50 1 2,.l 51 50,.m 52 51,.sc 52 true [.f 53 1 3,.l 54 53,.m 55 54,.sc 55 false [.f 56 1 4,.l 57 56] 58 (.c (.bool true)) (.t 57)] 59 (.t 58) (.c (.bool false))] 60 (.c (.bool true)) (.t 59)] [1,60]) (.cond (.t 60) (.seq (.region [.mv 2 (.c (.bool false))] [2]) .ret) .skip)) (.seq (.region [.cl 61 [1] bR,.m 2 61] [2]) .ret))
def GH:A_:=⟨[.val U],[⟨2,false,.bool⟩],(.seq (.region [.box 1 (.t 0) false,.mv 2 (.c (.bool false))] [1]) (.seq (.seq (.region [.f 3 1 0,.l 4 3,.cl 5 [4] Gw,.un 6 .not (.t 5),.m 7 6,.sc 7 false [.f 8 1 1,.l 9 8,.cx (some 10) [.t 9,.c (.int .i64 1),.c (.int .i64 9)] Ap,.un 11 .not (.t 10)] 12 (.c (.bool true)) (.t 11),.m 13 12,.sc 13 false [.f 14 1 6,.l 15 14,.cx (some 16) [.t 15,.c (.int .i64 1),.c (.int .i64 6)] Rt,.un 17 .not (.t 16)] 18 (.c (.bool true)) (.t 17),.m 19 18,.sc 19 false [.f 20 1 7,.l 21 20,.cl 22 [21] MY,.un 23 .not (.t 22)] 24 (.c (.bool true)) (.t 23),.m 25 24,.sc 25 false [.f 26 1 8,.l 27 26,.cx (some 28) [.t 27,.c (.int .i64 0),.c (.int .i64 900)] Ap,.un 29 .not (.t 28)] 30 (.c (.bool true)) (.t 29)] [1,30]) (.cond (.t 30) (.seq (.region [.mv 2 (.c (.bool false))] [2]) .ret) .skip)) TW))⟩
theorem oe:Aq Tryz.prog 13 GH=true:=by kernel_rfl
def R1:AE:=(.seq (.seq (.region [.m 11 5,.m 12 0,.len 13 false (.t 12),.b 14 .lss 11 13] [0,1,5,14]) (.cond (.t 14) .skip (.exit 0))) (.seq (.block 1 [0,1,5] (.seq (.draw (EE 9 [(1,[]),(2,[0,1]),(4,[]),(5,[]),(6,[4,5]),(8,[3,7])]) (.tk 9 [.eqs 25 true AG (.t 20) (.t 24),.ls 24 23 9,.idx 23 9 (.t 21) (.t 22),.m 22 5,.m 21 1,.ls 20 19 9,.idx 19 9 (.t 17) (.t 18),.m 18 5,.m 17 0] .done) [0,1,5,25]) (.cond (.t 25) (.seq (.region [.mv 4 (.c (.bool false))] [4]) .ret) .skip))) (.region [.m 15 5,.bin 16 .add (.t 15) (.i 1),.m 5 16] [0,1,5])))
def R2:AE:=(.seq (.region [.mv 4 (.c (.bool true))] [4]) .ret)
def DD:A_:=⟨[.val (.slice AG),.val (.slice AG)],[⟨4,false,.bool⟩],(.seq (.region [.mv 4 (.c (.bool false))] [0,1]) (.seq (.seq (.region [.m 6 0,.len 7 false (.t 6),.m 8 1,.len 9 false (.t 8),.b 10 .neq 7 9] [0,1,10]) (.cond (.t 10) (.seq (.region [.mv 4 (.c (.bool false))] [4]) .ret) .skip)) (.seq (.seq (.region [.mv 5 (.i 0)] [0,1,5]) (.block 0 [] (.loop [0,1,5] R1))) R2)))⟩
theorem mD:Aq Tryz.prog 14 DD=true:=by kernel_rfl
def X8:DT:=(.tg 39 false 18 [.pick 51 (.t 45) (.t 50) (.c (.bool false))] (.tk 19 [.pick 52 (.t 39) (.c (.bool true)) (.t 51)] .done))
def X9:AE:=(.seq (.draw (EE 19 [(2,[]),(3,[1,2]),(8,[5]),(10,[7,9]),(14,[11]),(15,[13,14])]) (.tk 1 [.ls 34 4 9] (.tk 3 [.ls 36 6 9] (.only 1 none (.cl 35 [34] Hm) false [] (.only 3 none (.cl 37 [36] Hm) false [] (.tk 6 [.m 39 38,.b 38 .eql 35 37] (.test 39 (.sk 39 false 6 12 46 (.sk 45 true 5 17 51 (.sk 39 false 1 18 52 (.tk 19 [.pick 52 (.t 39) (.c (.bool true)) (.t 51)] .done)))) (.tg 39 false 12 [.m 45 44,.b 44 .lss 41 43,.l 43 42,.f 42 6 3,.l 41 40,.f 40 4 4] (.test 45 (.tg 45 true 13 [.ls 46 4 9] (.tg 45 true 15 [.ls 48 6 9] (.only 13 (some (45,true)) (.cl 47 [46] Hm) false [] (.only 15 (some (45,true)) (.cl 49 [48] Hm) false [] (.tg 45 true 17 [.b 50 .gtr 47 49] X8))))) (.sk 45 true 5 17 51 X8))))))))) [0,3,4,7,8,9,14,15,16,52]) (.cond (.t 52) (.seq (.region [.mv 2 (.c (.bool false))] [2]) .ret) .skip))
def X_:AE:=(.region [.bin 53 .add (.t 16) (.i 1),.m 16 53] [0,3,4,7,8,9,14,15,16])
def YA:AE:=(.seq (.region [.b 17 .lss 16 15] [0,3,4,7,8,9,14,15,16,17]) (.seq (.cond (.t 17) .skip (.exit 2)) (.seq (.block 3 [0,3,4,7,8,9,14,15,16] (.seq (.region [.m 18 16,.idx 19 9 (.t 14) (.t 16),.ls 20 19 9,.al 6 AG,.m 5 18,.store (.t 6) (.t 20) 9 false] [0,3,4,5,6,7,8,9,14,15,16]) (.seq (.seq (.region [.m 21 3,.m 22 5,.b 23 .eql 21 22,.m 24 23,.sc 24 false [.ls 25 4 9,.cl 26 [25] IW,.un 27 .not (.t 26)] 28 (.c (.bool true)) (.t 27),.m 29 28,.sc 29 false [.ls 30 6 9,.cl 31 [30] IW,.un 32 .not (.t 31)] 33 (.c (.bool true)) (.t 32)] [0,3,4,6,7,8,9,14,15,16,33]) (.cond (.t 33) (.exit 3) .skip)) X9))) X_)))
def VQ:AE:=(.region [.bin 54 .add (.t 9) (.i 1),.m 9 54] [0,7,8,9])
def VR:AE:=(.seq (.region [.b 10 .lss 9 8] [0,7,8,9,10]) (.seq (.cond (.t 10) .skip (.exit 0)) (.seq (.block 1 [0,7,8,9] (.seq (.region [.m 11 9,.idx 12 9 (.t 7) (.t 9),.ls 13 12 9,.al 4 AG,.m 3 11,.store (.t 4) (.t 13) 9 false] [0,3,4,7,8,9]) (.seq (.region [.m 14 0,.len 15 false (.t 14),.mv 16 (.i 0)] [0,3,4,7,8,9,14,15,16]) (.block 2 [0,7,8,9] (.loop [0,3,4,7,8,9,14,15,16] YA))))) VQ)))
def VS:AE:=(.seq (.region [.mv 2 (.c (.bool true))] [2]) .ret)
def CL:A_:=⟨[.val (.slice AG)],[⟨2,false,.bool⟩],(.seq (.region [.mv 2 (.c (.bool false))] [0]) (.seq (.seq (.region [.m 7 0,.len 8 false (.t 7),.mv 9 (.i 0)] [0,7,8,9]) (.block 0 [] (.loop [0,7,8,9] VR))) VS))⟩
theorem uY:Aq Tryz.prog 15 CL=true:=by kernel_rfl
def YB:DT:=(.tg 45 false 18 [.pick 57 (.t 51) (.t 56) (.c (.bool false))] (.tk 19 [.pick 58 (.t 45) (.c (.bool true)) (.t 57)] .done))
def YC:AE:=(.seq (.draw (EE 19 [(2,[]),(3,[1,2]),(8,[5]),(10,[7,9]),(14,[11]),(15,[13,14])]) (.tk 1 [.ls 40 5 9] (.tk 3 [.ls 42 6 9] (.only 1 none (.cl 41 [40] Hn) false [] (.only 3 none (.cl 43 [42] Hn) false [] (.tk 6 [.m 45 44,.b 44 .eql 41 43] (.test 45 (.sk 45 false 6 12 52 (.sk 51 true 5 17 57 (.sk 45 false 1 18 58 (.tk 19 [.pick 58 (.t 45) (.c (.bool true)) (.t 57)] .done)))) (.tg 45 false 12 [.m 51 50,.b 50 .lss 47 49,.l 49 48,.f 48 6 3,.l 47 46,.f 46 5 4] (.test 51 (.tg 51 true 13 [.ls 52 5 9] (.tg 51 true 15 [.ls 54 6 9] (.only 13 (some (51,true)) (.cl 53 [52] Hn) false [] (.only 15 (some (51,true)) (.cl 55 [54] Hn) false [] (.tg 51 true 17 [.b 56 .geq 53 55] YB))))) (.sk 51 true 5 17 57 YB))))))))) [0,3,4,58]) (.cond (.t 58) (.seq (.region [.mv 2 (.c (.bool false))] [2]) .ret) .skip))
def YD:AE:=(.region [.m 17 4,.bin 18 .add (.t 17) (.i 1),.m 4 18] [0,3,4])
def VT:AE:=(.seq (.seq (.region [.m 13 4,.m 14 0,.len 15 false (.t 14),.b 16 .lss 13 15] [0,3,4,16]) (.cond (.t 16) .skip (.exit 2))) (.seq (.block 3 [0,3,4] (.seq (.region [.m 19 0,.m 20 3,.idx 21 9 (.t 19) (.t 20),.ls 22 21 9,.al 5 AG,.store (.t 5) (.t 22) 9 false] [0,3,4,5]) (.seq (.region [.m 23 0,.m 24 4,.idx 25 9 (.t 23) (.t 24),.ls 26 25 9,.al 6 AG,.store (.t 6) (.t 26) 9 false] [0,3,4,5,6]) (.seq (.seq (.region [.f 27 5 4,.l 28 27,.bin 29 .lss (.t 28) (.i 0),.m 30 29,.sc 30 false [.f 31 6 4,.l 32 31,.bin 33 .lss (.t 32) (.i 0)] 34 (.c (.bool true)) (.t 33),.m 35 34,.sc 35 false [.m 36 3,.m 37 4,.b 38 .eql 36 37] 39 (.c (.bool true)) (.t 38)] [0,3,4,5,6,39]) (.cond (.t 39) (.exit 3) .skip)) YC)))) YD))
def VU:AE:=(.region [.m 11 3,.bin 12 .add (.t 11) (.i 1),.m 3 12] [0,3])
def VV:AE:=(.seq (.seq (.region [.m 7 3,.m 8 0,.len 9 false (.t 8),.b 10 .lss 7 9] [0,3,10]) (.cond (.t 10) .skip (.exit 0))) (.seq (.block 1 [0,3] (.seq (.region [.mv 4 (.i 0)] [0,3,4]) (.block 2 [0,3] (.loop [0,3,4] VT)))) VU))
def VX:AE:=(.seq (.region [.mv 2 (.c (.bool true))] [2]) .ret)
def CM:A_:=⟨[.val (.slice AG)],[⟨2,false,.bool⟩],(.seq (.region [.mv 2 (.c (.bool false))] [0]) (.seq (.seq (.region [.mv 3 (.i 0)] [0,3]) (.block 0 [] (.loop [0,3] VV))) VX))⟩
theorem uZ:Aq Tryz.prog 16 CM=true:=by kernel_rfl
def RP:A_:=⟨[.val AG],[⟨2,false,(.int .i64)⟩],(.seq (.region [.box 1 (.t 0) false,.mv 2 (.i 0)] [1]) (.seq (.seq (.region [.f 3 1 6,.l 4 3,.cx (some 5) [.t 4,.c (.int .i64 0),.c (.int .i64 9)] Ap,.un 6 .not (.t 5),.m 7 6,.sc 7 false [.f 8 1 7,.l 9 8,.cx (some 10) [.t 9,.c (.int .i64 0),.c (.int .i64 999)] Ap,.un 11 .not (.t 10)] 12 (.c (.bool true)) (.t 11)] [1,12]) (.cond (.t 12) (.seq (.region [.mv 2 (.i 0)] [2]) .ret) .skip)) (.seq (.region [.f 13 1 6,.l 14 13,.bin 15 .mul (.i 1000) (.t 14),.f 16 1 7,.l 17 16,.b 18 .add 15 17,.m 2 18] [2]) .ret)))⟩
theorem wZ:Aq Tryz.prog 17 RP=true:=by kernel_rfl
def fU:AE:=(.seq (.seq (.region [.m 14 6,.bin 15 .gtr (.t 14) (.i 0),.m 16 15,.sc 16 true [.f 17 5 2,.l 18 17,.len 19 false (.t 18),.bin 20 .gtr (.t 19) (.i 0)] 21 (.t 20) (.c (.bool false))] [4,5,6,21]) (.cond (.t 21) .skip (.exit 0))) (.seq (.block 1 [4,5,6] (.region [.cx (some 24) [.t 5,.c (.int .i64 0),.c (.int .i64 70)] O7] [4,5,6])) (.region [.m 22 6,.bin 23 .sub (.t 22) (.i 1),.m 6 23] [4,5,6])))
def fV:AE:=(.seq (.region [.ls 25 5 4,.cl 26 [25] OE,.store (.t 4) (.t 26) 4 false] [4]) .ret)
def He:A_:=⟨[.val AM,.val (.int .i64)],[⟨4,true,AM⟩],(.seq (.region [.box 2 (.t 0) true,.al 4 Ad] [1,2,4]) (.seq (.region [.ls 7 2 4,.cl 8 [7] OE,.al 5 Ad,.store (.t 5) (.t 8) 4 false] [1,2,4,5]) (.seq (.seq (.region [.cl 9 [2] bS,.un 10 .not (.t 9)] [1,4,5,10]) (.cond (.t 10) (.seq (.region [.ls 11 5 4,.store (.t 4) (.t 11) 4 false] [4]) .ret) .skip)) (.seq (.seq (.region [.m 12 1,.min 13 (.t 12) (.i 1000),.m 6 13] [4,5,6]) (.block 0 [4,5] (.loop [4,5,6] fU))) fV))))⟩
theorem yX:Aq Tryz.prog 18 He=true:=by kernel_rfl
def bc:AE:=(.seq (.seq (.region [.f 19 4 5,.l 20 19,.bin 21 .eql (.t 20) (.i 0)] [0,4,5,6,7,21]) (.cond (.t 21) (.seq (.seq (.region [.f 22 4 8,.l 23 22,.bin 24 .neq (.t 23) (.c (.str ⟨#[]⟩))] [0,5,6,7,24]) (.cond (.t 24) (.seq (.region [.mv 2 (.c (.bool false))] [2]) .ret) .skip)) (.exit 1)) .skip)) (.seq (.draw (EE 11 [(1,[]),(2,[0,1]),(7,[4]),(9,[6,8])]) (.tk 2 [.ls 26 4 9,.m 25 0] (.only 2 none (.cl 27 [25,26] wR) false [] (.tk 5 [.m 29 28,.un 28 .not (.t 27)] (.test 29 (.sk 29 false 5 10 35 (.tk 11 [.pick 35 (.t 29) (.c (.bool true)) (.t 34)] .done)) (.tg 29 false 8 [.ls 32 4 9,.l 31 30,.f 30 4 5] (.only 8 (some (29,false)) (.cl 33 [32] Hm) false [] (.tg 29 false 10 [.b 34 .gtr 31 33] (.tk 11 [.pick 35 (.t 29) (.c (.bool true)) (.t 34)] .done)))))))) [0,5,6,7,35]) (.cond (.t 35) (.seq (.region [.mv 2 (.c (.bool false))] [2]) .ret) .skip)))
def bd:AE:=(.region [.bin 36 .add (.t 7) (.i 1),.m 7 36] [0,5,6,7])
def YE:AE:=(.seq (.region [.b 8 .lss 7 6] [0,5,6,7,8]) (.seq (.cond (.t 8) .skip (.exit 0)) (.seq (.block 1 [0,5,6,7] (.seq (.region [.idx 9 9 (.t 5) (.t 7),.ls 10 9 9,.al 4 AG,.store (.t 4) (.t 10) 9 false] [0,4,5,6,7]) (.seq (.seq (.region [.f 11 4 0,.l 12 11,.bin 13 .neq (.t 12) (.i 2),.m 14 13,.sc 14 false [.ls 15 4 9,.cl 16 [15] IW,.un 17 .not (.t 16)] 18 (.c (.bool true)) (.t 17)] [0,4,5,6,7,18]) (.cond (.t 18) (.exit 1) .skip)) bc))) bd)))
def YF:AE:=(.seq (.region [.mv 2 (.c (.bool true))] [2]) .ret)
def EF:A_:=⟨[.val (.slice AG)],[⟨2,false,.bool⟩],(.seq (.region [.mv 2 (.c (.bool false))] [0]) (.seq (.seq (.region [.m 5 0,.len 6 false (.t 5),.mv 7 (.i 0)] [0,5,6,7]) (.block 0 [] (.loop [0,5,6,7] YE))) YF))⟩
theorem wa:Aq Tryz.prog 19 EF=true:=by kernel_rfl
def be:AE:=(.seq (.seq (.region [.m 31 6,.m 32 0,.len 33 false (.t 32),.b 34 .lss 31 33] [0,3,4,5,6,34]) (.cond (.t 34) .skip (.exit 2))) (.seq (.block 3 [0,3,4,5,6] (.draw (EE 10 [(3,[1]),(4,[1]),(5,[3,4]),(7,[2,6])]) (.tk 2 [.m 38 37,.m 37 5] (.test 38 (.sk 38 false 6 8 45 (.tk 10 [.m 5 45,.pick 45 (.t 38) (.c (.bool true)) (.t 44)] .done)) (.tg 38 false 7 [.ls 43 42 9,.idx 42 9 (.t 40) (.t 41),.m 41 6,.m 40 0,.ls 39 4 9] (.only 7 (some (38,false)) (.cl 44 [39,43] uU) false [] (.tk 10 [.m 5 45,.pick 45 (.t 38) (.c (.bool true)) (.t 44)] .done))))) [0,3,4,5,6])) (.region [.m 35 6,.bin 36 .add (.t 35) (.i 1),.m 6 36] [0,3,4,5,6])))
def Pn:AE:=(.seq (.draw (EE 9 [(5,[2]),(7,[4,6])]) (.tk 3 [.m 48 47,.un 47 .not (.t 46),.m 46 5] (.test 48 (.sk 48 false 5 8 54 (.tk 9 [.pick 54 (.t 48) (.c (.bool true)) (.t 53)] .done)) (.tg 48 false 6 [.ls 51 4 9,.l 50 49,.f 49 4 5] (.only 6 (some (48,false)) (.cl 52 [51] Hn) false [] (.tg 48 false 8 [.b 53 .gtr 50 52] (.tk 9 [.pick 54 (.t 48) (.c (.bool true)) (.t 53)] .done)))))) [0,3,54]) (.cond (.t 54) (.seq (.region [.mv 2 (.c (.bool false))] [2]) .ret) .skip))
def YG:AE:=(.seq (.seq (.region [.f 25 4 5,.l 26 25,.bin 27 .eql (.t 26) (.i 0)] [0,3,4,27]) (.cond (.t 27) (.seq (.seq (.region [.f 28 4 8,.l 29 28,.bin 30 .neq (.t 29) (.c (.str ⟨#[]⟩))] [0,3,30]) (.cond (.t 30) (.seq (.region [.mv 2 (.c (.bool false))] [2]) .ret) .skip)) (.exit 1)) .skip)) (.seq (.region [.mv 5 (.c (.bool false))] [0,3,4,5]) (.seq (.seq (.region [.mv 6 (.i 0)] [0,3,4,5,6]) (.block 2 [0,3,4,5] (.loop [0,3,4,5,6] be))) Pn)))
def YH:AE:=(.region [.m 11 3,.bin 12 .add (.t 11) (.i 1),.m 3 12] [0,3])
def YI:AE:=(.seq (.seq (.region [.m 7 3,.m 8 0,.len 9 false (.t 8),.b 10 .lss 7 9] [0,3,10]) (.cond (.t 10) .skip (.exit 0))) (.seq (.block 1 [0,3] (.seq (.region [.m 13 0,.m 14 3,.idx 15 9 (.t 13) (.t 14),.ls 16 15 9,.al 4 AG,.store (.t 4) (.t 16) 9 false] [0,3,4]) (.seq (.seq (.region [.f 17 4 0,.l 18 17,.bin 19 .neq (.t 18) (.i 2),.m 20 19,.sc 20 false [.f 21 4 4,.l 22 21,.bin 23 .lss (.t 22) (.i 0)] 24 (.c (.bool true)) (.t 23)] [0,3,4,24]) (.cond (.t 24) (.exit 1) .skip)) YG))) YH))
def YJ:AE:=(.seq (.region [.mv 2 (.c (.bool true))] [2]) .ret)
def CR:A_:=⟨[.val (.slice AG)],[⟨2,false,.bool⟩],(.seq (.region [.mv 2 (.c (.bool false))] [0]) (.seq (.seq (.region [.mv 3 (.i 0)] [0,3]) (.block 0 [] (.loop [0,3] YI))) YJ))⟩
theorem wg:Aq Tryz.prog 20 CR=true:=by kernel_rfl
def YK:DT:=(.sk 47 true 5 25 53 (.tk 27 [.m 7 53,.pick 53 (.t 47) (.t 52) (.c (.bool false))] .done))
def YL:DT:=(.sk 43 true 2 18 46 (.tk 20 [.m 47 46,.pick 46 (.t 43) (.t 45) (.c (.bool false))] YK))
def YM:DT:=(.tg 36 true 14 [.b 41 .eql 38 40,.l 40 39,.f 39 4 1,.l 38 37,.f 37 6 1] (.tk 16 [.m 43 42,.pick 42 (.t 36) (.t 41) (.c (.bool false))] (.test 43 (.tg 43 true 17 [.ls 44 6 9] (.only 17 (some (43,true)) (.cl 45 [44] IW) false [] (.tk 20 [.m 47 46,.pick 46 (.t 43) (.t 45) (.c (.bool false))] (.test 47 (.tg 47 true 21 [.ls 48 6 9] (.tg 47 true 23 [.ls 50 4 9] (.only 21 (some (47,true)) (.cl 49 [48] Hm) false [] (.only 23 (some (47,true)) (.cl 51 [50] Hm) false [] (.tg 47 true 25 [.b 52 .lss 49 51] (.tk 27 [.m 7 53,.pick 53 (.t 47) (.t 52) (.c (.bool false))] .done)))))) YK)))) YL)))
def YN:AE:=(.seq (.region [.m 54 7,.m 55 54,.sc 55 true [.f 56 4 5,.l 57 56,.f 58 6 5,.l 59 58,.b 60 .lss 57 59] 61 (.t 60) (.c (.bool false))] [0,4,8,9,10,22,23,24,61]) (.cond (.t 61) (.seq (.region [.mv 2 (.c (.bool false))] [2]) .ret) .skip))
def YO:AE:=(.region [.bin 62 .add (.t 24) (.i 1),.m 24 62] [0,4,8,9,10,22,23,24])
def YP:AE:=(.seq (.region [.b 25 .lss 24 23] [0,4,8,9,10,22,23,24,25]) (.seq (.cond (.t 25) .skip (.exit 2)) (.seq (.block 3 [0,4,8,9,10,22,23,24] (.seq (.region [.idx 26 9 (.t 22) (.t 24),.ls 27 26 9,.al 6 AG,.store (.t 6) (.t 27) 9 false] [0,4,6,8,9,10,22,23,24]) (.seq (.draw (EE 27 [(11,[8]),(13,[10,12]),(22,[19]),(23,[21,22])]) (.tk 4 [.m 31 30,.bin 30 .eql (.t 29) (.i 1),.l 29 28,.f 28 6 0] (.test 31 (.sk 31 false 3 7 35 (.tk 9 [.m 36 35,.pick 35 (.t 31) (.c (.bool true)) (.t 34)] YM)) (.tg 31 false 7 [.bin 34 .eql (.t 33) (.i 2),.l 33 32,.f 32 6 0] (.tk 9 [.m 36 35,.pick 35 (.t 31) (.c (.bool true)) (.t 34)] (.test 36 YM (.sk 36 true 5 14 42 (.tk 16 [.m 43 42,.pick 42 (.t 36) (.t 41) (.c (.bool false))] YL))))))) [0,4,6,7,8,9,10,22,23,24]) YN))) YO)))
def YQ:AE:=(.region [.bin 63 .add (.t 10) (.i 1),.m 10 63] [0,8,9,10])
def YR:AE:=(.seq (.region [.b 11 .lss 10 9] [0,8,9,10,11]) (.seq (.cond (.t 11) .skip (.exit 0)) (.seq (.block 1 [0,8,9,10] (.seq (.region [.idx 12 9 (.t 8) (.t 10),.ls 13 12 9,.al 4 AG,.store (.t 4) (.t 13) 9 false] [0,4,8,9,10]) (.seq (.seq (.region [.f 14 4 0,.l 15 14,.bin 16 .neq (.t 15) (.i 2),.m 17 16,.sc 17 false [.ls 18 4 9,.cl 19 [18] IW,.un 20 .not (.t 19)] 21 (.c (.bool true)) (.t 20)] [0,4,8,9,10,21]) (.cond (.t 21) (.exit 1) .skip)) (.seq (.region [.m 22 0,.len 23 false (.t 22),.mv 24 (.i 0)] [0,4,8,9,10,22,23,24]) (.block 2 [0,8,9,10] (.loop [0,4,8,9,10,22,23,24] YP)))))) YQ)))
def YS:AE:=(.seq (.region [.mv 2 (.c (.bool true))] [2]) .ret)
def Ci:A_:=⟨[.val (.slice AG)],[⟨2,false,.bool⟩],(.seq (.region [.mv 2 (.c (.bool false))] [0]) (.seq (.seq (.region [.m 8 0,.len 9 false (.t 8),.mv 10 (.i 0)] [0,8,9,10]) (.block 0 [] (.loop [0,8,9,10] YR))) YS))⟩
theorem wh:Aq Tryz.prog 21 Ci=true:=by kernel_rfl
def bf:DT:=(.sk 54 true 5 33 60 (.tk 34 [.pick 60 (.t 54) (.t 59) (.c (.bool false))] .done))
def YT:DT:=(.sk 47 true 5 26 53 (.tk 28 [.m 54 53,.pick 53 (.t 47) (.t 52) (.c (.bool false))] bf))
def YU:DT:=(.sk 40 true 5 19 46 (.tk 21 [.m 47 46,.pick 46 (.t 40) (.t 45) (.c (.bool false))] YT))
def YV:DT:=(.sk 35 true 3 12 39 (.tk 14 [.m 40 39,.pick 39 (.t 35) (.t 38) (.c (.bool false))] YU))
def YW:AE:=(.seq (.seq (.region [.m 13 4,.m 14 0,.len 15 false (.t 14),.b 16 .lss 13 15] [0,3,4,16]) (.cond (.t 16) .skip (.exit 2))) (.seq (.block 3 [0,3,4] (.seq (.region [.m 19 0,.m 20 3,.idx 21 9 (.t 19) (.t 20),.ls 22 21 9,.al 5 AG,.store (.t 5) (.t 22) 9 false] [0,3,4,5]) (.seq (.region [.m 23 0,.m 24 4,.idx 25 9 (.t 23) (.t 24),.ls 26 25 9,.al 6 AG,.store (.t 6) (.t 26) 9 false] [0,3,4,5,6]) (.seq (.draw (EE 34 [(16,[13]),(18,[15,17]),(23,[20]),(24,[22,23]),(30,[27]),(32,[29,31])]) (.tk 4 [.m 30 29,.bin 29 .eql (.t 28) (.i 2),.l 28 27,.f 27 5 0] (.test 30 (.tg 30 true 7 [.bin 33 .geq (.t 32) (.i 0),.l 32 31,.f 31 5 4] (.tk 9 [.m 35 34,.pick 34 (.t 30) (.t 33) (.c (.bool false))] (.test 35 (.tg 35 true 12 [.bin 38 .geq (.t 37) (.i 0),.l 37 36,.f 36 6 4] (.tk 14 [.m 40 39,.pick 39 (.t 35) (.t 38) (.c (.bool false))] (.test 40 (.tg 40 true 19 [.b 45 .eql 42 44,.l 44 43,.f 43 5 1,.l 42 41,.f 41 6 1] (.tk 21 [.m 47 46,.pick 46 (.t 40) (.t 45) (.c (.bool false))] (.test 47 (.tg 47 true 22 [.ls 48 6 9] (.tg 47 true 24 [.ls 50 5 9] (.only 22 (some (47,true)) (.cl 49 [48] Hn) false [] (.only 24 (some (47,true)) (.cl 51 [50] Hn) false [] (.tg 47 true 26 [.b 52 .lss 49 51] (.tk 28 [.m 54 53,.pick 53 (.t 47) (.t 52) (.c (.bool false))] (.test 54 (.tg 54 true 33 [.b 59 .gtr 56 58,.l 58 57,.f 57 5 5,.l 56 55,.f 55 6 5] (.tk 34 [.pick 60 (.t 54) (.t 59) (.c (.bool false))] .done)) bf))))))) YT))) YU))) YV))) (.sk 30 true 3 7 34 (.tk 9 [.m 35 34,.pick 34 (.t 30) (.t 33) (.c (.bool false))] YV)))) [0,3,4,60]) (.cond (.t 60) (.seq (.region [.mv 2 (.c (.bool false))] [2]) .ret) .skip))))) (.region [.m 17 4,.bin 18 .add (.t 17) (.i 1),.m 4 18] [0,3,4])))
def YX:AE:=(.region [.m 11 3,.bin 12 .add (.t 11) (.i 1),.m 3 12] [0,3])
def YY:AE:=(.seq (.seq (.region [.m 7 3,.m 8 0,.len 9 false (.t 8),.b 10 .lss 7 9] [0,3,10]) (.cond (.t 10) .skip (.exit 0))) (.seq (.block 1 [0,3] (.seq (.region [.mv 4 (.i 0)] [0,3,4]) (.block 2 [0,3] (.loop [0,3,4] YW)))) YX))
def YZ:AE:=(.seq (.region [.mv 2 (.c (.bool true))] [2]) .ret)
def DU:A_:=⟨[.val (.slice AG)],[⟨2,false,.bool⟩],(.seq (.region [.mv 2 (.c (.bool false))] [0]) (.seq (.seq (.region [.mv 3 (.i 0)] [0,3]) (.block 0 [] (.loop [0,3] YY))) YZ))⟩
theorem wi:Aq Tryz.prog 22 DU=true:=by kernel_rfl
def TX:AE:=(.seq (.seq (.region [.m 11 5,.m 12 0,.len 13 false (.t 12),.b 14 .lss 11 13] [0,1,5,14]) (.cond (.t 14) .skip (.exit 0))) (.seq (.block 1 [0,1,5] (.seq (.draw (EE 9 [(1,[]),(2,[0,1]),(4,[]),(5,[]),(6,[4,5]),(8,[3,7])]) (.tk 9 [.b 25 .neq 20 24,.l 24 23,.idx 23 1 (.t 21) (.t 22),.m 22 5,.m 21 1,.l 20 19,.idx 19 1 (.t 17) (.t 18),.m 18 5,.m 17 0] .done) [0,1,5,25]) (.cond (.t 25) (.seq (.region [.mv 4 (.c (.bool false))] [4]) .ret) .skip))) (.region [.m 15 5,.bin 16 .add (.t 15) (.i 1),.m 5 16] [0,1,5])))
def TY:AE:=(.seq (.region [.mv 4 (.c (.bool true))] [4]) .ret)
def Dn:A_:=⟨[.val (.slice (.int .i64)),.val (.slice (.int .i64))],[⟨4,false,.bool⟩],(.seq (.region [.mv 4 (.c (.bool false))] [0,1]) (.seq (.seq (.region [.m 6 0,.len 7 false (.t 6),.m 8 1,.len 9 false (.t 8),.b 10 .neq 7 9] [0,1,10]) (.cond (.t 10) (.seq (.region [.mv 4 (.c (.bool false))] [4]) .ret) .skip)) (.seq (.seq (.region [.mv 5 (.i 0)] [0,1,5]) (.block 0 [] (.loop [0,1,5] TX))) TY)))⟩
theorem og:Aq Tryz.prog 23 Dn=true:=by kernel_rfl
def RQ:A_:=⟨[.val AM],[⟨2,false,.bool⟩],(.seq (.region [.box 1 (.t 0) true,.mv 2 (.c (.bool false))] [1]) (.seq (.region [.f 3 1 3,.l 4 3,.cl 5 [4] uQ,.m 6 5,.sc 6 true [.f 7 1 3,.l 8 7,.cl 9 [8] wL] 10 (.t 9) (.c (.bool false)),.m 11 10,.sc 11 true [.f 12 1 3,.l 13 12,.cl 14 [13] wN] 15 (.t 14) (.c (.bool false)),.m 16 15,.sc 16 true [.ls 17 1 4,.cl 18 [17] l9] 19 (.t 18) (.c (.bool false)),.m 20 19,.sc 20 true [.ls 21 1 4,.cl 22 [21] wP] 23 (.t 22) (.c (.bool false)),.m 2 23] [2]) .ret))⟩
theorem wo:Aq Tryz.prog 24 RQ=true:=by kernel_rfl
def RR:A_:=⟨[.val AM],[⟨2,false,.bool⟩],(.seq (.region [.box 1 (.t 0) false,.mv 2 (.c (.bool false))] [1]) (.seq (.region [.f 3 1 3,.l 4 3,.cl 5 [4] uR,.m 6 5,.sc 6 true [.f 7 1 3,.l 8 7,.cl 9 [8] wM] 10 (.t 9) (.c (.bool false)),.m 11 10,.sc 11 true [.f 12 1 3,.l 13 12,.cl 14 [13] wO] 15 (.t 14) (.c (.bool false)),.m 16 15,.sc 16 true [.ls 17 1 4,.cl 18 [17] l_] 19 (.t 18) (.c (.bool false)),.m 20 19,.sc 20 true [.ls 21 1 4,.cl 22 [21] wQ] 23 (.t 22) (.c (.bool false)),.m 2 23] [2]) .ret))⟩
theorem wr:Aq Tryz.prog 25 RR=true:=by kernel_rfl
def R3:AE:=(.seq (.region [.b 39 .lss 38 37] [1,4,9,10,11,36,37,38,39]) (.seq (.cond (.t 39) .skip (.exit 2)) (.seq (.block 3 [1,4,9,10,11,36,37,38] (.seq (.region [.idx 40 16 (.t 36) (.t 38),.ls 41 40 16,.al 7 U,.store (.t 7) (.t 41) 16 false] [1,4,7,9,10,11,36,37,38]) (.seq (.region [.f 42 7 5,.l 43 42,.m 44 43,.sc 44 true [.f 45 7 1,.l 46 45,.f 47 4 1,.l 48 47,.b 49 .eql 46 48] 50 (.t 49) (.c (.bool false))] [1,4,9,10,11,36,37,38,50]) (.cond (.t 50) (.seq (.region [.mv 2 (.c (.bool false))] [2]) .ret) .skip)))) (.region [.bin 51 .add (.t 38) (.i 1),.m 38 51] [1,4,9,10,11,36,37,38]))))
def R4:AE:=(.seq (.region [.f 33 1 1,.l 34 33,.m 35 3,.sl 36 16 (.t 34) none (some (.t 35)),.len 37 false (.t 36),.mv 38 (.i 0)] [1,4,9,10,11,36,37,38]) (.block 2 [1,9,10,11] (.loop [1,4,9,10,11,36,37,38] R3)))
def QY:AE:=(.region [.bin 52 .add (.t 11) (.i 1),.m 11 52] [1,9,10,11])
def QZ:AE:=(.seq (.region [.b 12 .lss 11 10] [1,9,10,11,12]) (.seq (.cond (.t 12) .skip (.exit 0)) (.seq (.block 1 [1,9,10,11] (.seq (.region [.m 13 11,.idx 14 16 (.t 9) (.t 11),.ls 15 14 16,.al 4 U,.m 3 13,.store (.t 4) (.t 15) 16 false] [1,3,4,9,10,11]) (.seq (.seq (.region [.f 16 4 5,.l 17 16,.un 18 .not (.t 17)] [1,3,4,9,10,11,18]) (.cond (.t 18) (.exit 1) .skip)) (.seq (.region [.f 19 4 1,.l 20 19,.cl 21 [1,20] TO,.m 5 21] [1,3,4,5,9,10,11]) (.seq (.seq (.draw (EE 11 [(7,[3]),(9,[6,8])]) (.tk 4 [.m 25 24,.bin 24 .eql (.t 23) (.i 0),.len 23 false (.t 22),.m 22 5] (.test 25 (.sk 25 false 6 10 32 (.tk 11 [.pick 32 (.t 25) (.c (.bool true)) (.t 31)] .done)) (.tg 25 false 10 [.b 31 .neq 28 30,.l 30 29,.f 29 4 0,.l 28 27,.idx 27 1 (.t 26) (.i 0),.m 26 5] (.tk 11 [.pick 32 (.t 25) (.c (.bool true)) (.t 31)] .done)))) [1,3,4,9,10,11,32]) (.cond (.t 32) (.seq (.region [.mv 2 (.c (.bool false))] [2]) .ret) .skip)) R4))))) QY)))
def Qa:AE:=(.seq (.region [.mv 2 (.c (.bool true))] [2]) .ret)
def Bg:A_:=⟨[.val AM],[⟨2,false,.bool⟩],(.seq (.region [.box 1 (.t 0) true,.mv 2 (.c (.bool false))] [1]) (.seq (.seq (.region [.f 8 1 1,.l 9 8,.len 10 false (.t 9),.mv 11 (.i 0)] [1,9,10,11]) (.block 0 [] (.loop [1,9,10,11] QZ))) Qa))⟩
theorem mE:Aq Tryz.prog 27 Bg=true:=by kernel_rfl
def Qb:DT:=(.sk 39 false 12 31 52 (.tk 32 [.pick 52 (.t 39) (.c (.bool true)) (.t 51)] .done))
def Qc:AE:=(.seq (.seq (.region [.m 53 5,.m 54 3,.b 55 .lss 53 54] [1,3,4,5,55]) (.cond (.t 55) .skip (.exit 2))) (.seq (.block 3 [1,3,4,5] (.seq (.draw (EE 17 [(2,[]),(3,[1,2]),(9,[6]),(10,[8,9]),(13,[6]),(15,[12,14])]) (.tk 7 [.m 64 63,.l 63 62,.f 62 61 5,.idx 61 16 (.t 59) (.t 60),.m 60 5,.l 59 58,.f 58 1 1] (.test 64 (.tg 64 true 16 [.b 73 .eql 70 72,.l 72 71,.f 71 4 1,.l 70 69,.f 69 68 1,.idx 68 16 (.t 66) (.t 67),.m 67 5,.l 66 65,.f 65 1 1] (.tk 17 [.pick 74 (.t 64) (.t 73) (.c (.bool false))] .done)) (.sk 64 true 9 16 74 (.tk 17 [.pick 74 (.t 64) (.t 73) (.c (.bool false))] .done)))) [1,3,4,5,74]) (.cond (.t 74) (.seq (.region [.mv 2 (.c (.bool false))] [2]) .ret) .skip))) (.region [.m 56 5,.bin 57 .add (.t 56) (.i 1),.m 5 57] [1,3,4,5])))
def Qd:AE:=(.region [.m 11 3,.bin 12 .add (.t 11) (.i 1),.m 3 12] [1,3])
def Qe:AE:=(.seq (.seq (.region [.m 6 3,.f 7 1 1,.l 8 7,.len 9 false (.t 8),.b 10 .lss 6 9] [1,3,10]) (.cond (.t 10) .skip (.exit 0))) (.seq (.block 1 [1,3] (.seq (.region [.f 13 1 1,.l 14 13,.m 15 3,.idx 16 16 (.t 14) (.t 15),.ls 17 16 16,.al 4 U,.store (.t 4) (.t 17) 16 false] [1,3,4]) (.seq (.seq (.region [.f 18 4 5,.l 19 18,.un 20 .not (.t 19)] [1,3,4,20]) (.cond (.t 20) (.exit 1) .skip)) (.seq (.seq (.draw (EE 32 [(2,[]),(5,[1,4]),(10,[7]),(13,[9,12]),(21,[18]),(24,[20,23]),(28,[18]),(30,[27,29])]) (.tk 5 [.len 25 false (.t 24),.l 24 23,.f 23 1 0,.l 22 21,.f 21 4 1] (.only 5 none (.cx (some 26) [.t 22,.c (.int .i64 1),.t 25] Aj) false [] (.tk 8 [.m 28 27,.un 27 .not (.t 26)] (.test 28 (.sk 28 false 9 17 38 (.tk 19 [.m 39 38,.pick 38 (.t 28) (.c (.bool true)) (.t 37)] Qb)) (.tg 28 false 17 [.bin 37 .eql (.t 36) (.i 0),.len 36 false (.t 35),.l 35 34,.idx 34 1 (.t 30) (.t 33),.bin 33 .sub (.t 32) (.i 1),.l 32 31,.f 31 4 1,.l 30 29,.f 29 1 0] (.tk 19 [.m 39 38,.pick 38 (.t 28) (.c (.bool true)) (.t 37)] (.test 39 Qb (.tg 39 false 31 [.b 51 .neq 48 50,.l 50 49,.f 49 4 0,.l 48 47,.idx 47 1 (.t 46) (.i 0),.l 46 45,.idx 45 1 (.t 41) (.t 44),.bin 44 .sub (.t 43) (.i 1),.l 43 42,.f 42 4 1,.l 41 40,.f 40 1 0] (.tk 32 [.pick 52 (.t 39) (.c (.bool true)) (.t 51)] .done))))))))) [1,3,4,52]) (.cond (.t 52) (.seq (.region [.mv 2 (.c (.bool false))] [2]) .ret) .skip)) (.seq (.region [.mv 5 (.i 0)] [1,3,4,5]) (.block 2 [1,3] (.loop [1,3,4,5] Qc))))))) Qd))
def Qf:AE:=(.seq (.region [.mv 2 (.c (.bool true))] [2]) .ret)
def By:A_:=⟨[.val AM],[⟨2,false,.bool⟩],(.seq (.region [.box 1 (.t 0) false,.mv 2 (.c (.bool false))] [1]) (.seq (.seq (.region [.mv 3 (.i 0)] [1,3]) (.block 0 [] (.loop [1,3] Qe))) Qf))⟩
theorem mF:Aq Tryz.prog 28 By=true:=by kernel_rfl
def bg:AE:=(.seq (.region [.b 32 .lss 31 30] [1,3,4,5,9,10,11,29,30,31,32]) (.seq (.cond (.t 32) .skip (.exit 2)) (.seq (.block 3 [1,3,4,5,9,10,11,29,30,31] (.seq (.region [.m 33 31,.idx 34 16 (.t 29) (.t 31),.ls 35 34 16,.al 7 U,.m 6 33,.store (.t 7) (.t 35) 16 false] [1,3,4,5,6,7,9,10,11,29,30,31]) (.seq (.region [.m 36 6,.m 37 3,.b 38 .neq 36 37,.m 39 38,.sc 39 true [.m 40 5,.f 41 7 0,.l 42 41,.cl 43 [40,42] Dv] 44 (.t 43) (.c (.bool false)),.m 45 44,.sc 45 true [.f 46 7 3,.l 47 46] 48 (.t 47) (.c (.bool false)),.m 49 48,.sc 49 true [.f 50 7 1,.l 51 50,.f 52 4 1,.l 53 52,.b 54 .eql 51 53] 55 (.t 54) (.c (.bool false)),.m 56 55,.sc 56 true [.f 57 7 7,.l 58 57,.f 59 4 7,.l 60 59,.cl 61 [58,60] K_,.un 62 .not (.t 61)] 63 (.t 62) (.c (.bool false))] [1,3,4,5,9,10,11,29,30,31,63]) (.cond (.t 63) (.seq (.region [.mv 2 (.c (.bool false))] [2]) .ret) .skip)))) (.region [.bin 64 .add (.t 31) (.i 1),.m 31 64] [1,3,4,5,9,10,11,29,30,31]))))
def bh:AE:=(.seq (.region [.f 25 4 1,.l 26 25,.cl 27 [1,26] TO,.m 5 27] [1,3,4,5,9,10,11]) (.seq (.region [.f 28 1 1,.l 29 28,.len 30 false (.t 29),.mv 31 (.i 0)] [1,3,4,5,9,10,11,29,30,31]) (.block 2 [1,9,10,11] (.loop [1,3,4,5,9,10,11,29,30,31] bg))))
def Ya:AE:=(.region [.bin 65 .add (.t 11) (.i 1),.m 11 65] [1,9,10,11])
def Yb:AE:=(.seq (.region [.b 12 .lss 11 10] [1,9,10,11,12]) (.seq (.cond (.t 12) .skip (.exit 0)) (.seq (.block 1 [1,9,10,11] (.seq (.region [.m 13 11,.idx 14 16 (.t 9) (.t 11),.ls 15 14 16,.al 4 U,.m 3 13,.store (.t 4) (.t 15) 16 false] [1,3,4,9,10,11]) (.seq (.seq (.region [.f 16 4 5,.l 17 16,.un 18 .not (.t 17),.m 19 18,.sc 19 false [.f 20 4 9,.f 21 20 0,.l 22 21,.bin 23 .neq (.t 22) (.i 0)] 24 (.c (.bool true)) (.t 23)] [1,3,4,9,10,11,24]) (.cond (.t 24) (.exit 1) .skip)) bh))) Ya)))
def Yc:AE:=(.seq (.region [.mv 2 (.c (.bool true))] [2]) .ret)
def C2:A_:=⟨[.val AM],[⟨2,false,.bool⟩],(.seq (.region [.box 1 (.t 0) true,.mv 2 (.c (.bool false))] [1]) (.seq (.seq (.region [.f 8 1 1,.l 9 8,.len 10 false (.t 9),.mv 11 (.i 0)] [1,9,10,11]) (.block 0 [] (.loop [1,9,10,11] Yb))) Yc))⟩
theorem wu:Aq Tryz.prog 29 C2=true:=by kernel_rfl
def bl:DT:=(.sk 70 true 6 28 77 (.tk 29 [.pick 77 (.t 70) (.t 76) (.c (.bool false))] .done))
def Yd:DT:=(.sk 58 true 10 20 69 (.tk 22 [.m 70 69,.pick 69 (.t 58) (.t 68) (.c (.bool false))] bl))
def Ye:AE:=(.seq (.seq (.region [.m 37 5,.f 38 1 1,.l 39 38,.len 40 false (.t 39),.b 41 .lss 37 40] [1,3,4,5,41]) (.cond (.t 41) .skip (.exit 2))) (.seq (.block 3 [1,3,4,5] (.seq (.region [.f 44 1 1,.l 45 44,.m 46 5,.idx 47 16 (.t 45) (.t 46),.ls 48 47 16,.al 6 U,.store (.t 6) (.t 48) 16 false] [1,3,4,5,6]) (.seq (.draw (EE 29 [(2,[]),(4,[1,3]),(12,[9]),(15,[11,14]),(17,[9]),(19,[16,18]),(24,[21]),(26,[23,25])]) (.tk 6 [.m 54 53,.b 53 .eql 50 52,.l 52 51,.f 51 4 1,.l 50 49,.f 49 6 1] (.test 54 (.tg 54 true 8 [.l 56 55,.f 55 6 3] (.tk 10 [.m 58 57,.pick 57 (.t 54) (.t 56) (.c (.bool false))] (.test 58 (.tg 58 true 19 [.l 67 66,.f 66 6 0,.l 65 64,.idx 64 1 (.t 60) (.t 63),.bin 63 .sub (.t 62) (.i 1),.l 62 61,.f 61 4 1,.l 60 59,.f 59 1 0] (.only 19 (some (58,true)) (.cl 68 [65,67] FF) false [] (.tk 22 [.m 70 69,.pick 69 (.t 58) (.t 68) (.c (.bool false))] (.test 70 (.tg 70 true 26 [.l 74 73,.f 73 4 7,.l 72 71,.f 71 6 7] (.only 26 (some (70,true)) (.cl 75 [72,74] eN) false [] (.tg 70 true 28 [.un 76 .not (.t 75)] (.tk 29 [.pick 77 (.t 70) (.t 76) (.c (.bool false))] .done)))) bl)))) Yd))) (.sk 54 true 2 8 57 (.tk 10 [.m 58 57,.pick 57 (.t 54) (.t 56) (.c (.bool false))] Yd)))) [1,3,4,5,77]) (.cond (.t 77) (.seq (.region [.mv 2 (.c (.bool false))] [2]) .ret) .skip)))) (.region [.m 42 5,.bin 43 .add (.t 42) (.i 1),.m 5 43] [1,3,4,5])))
def Yf:AE:=(.region [.m 12 3,.bin 13 .add (.t 12) (.i 1),.m 3 13] [1,3])
def Yg:AE:=(.seq (.seq (.region [.m 7 3,.f 8 1 1,.l 9 8,.len 10 false (.t 9),.b 11 .lss 7 10] [1,3,11]) (.cond (.t 11) .skip (.exit 0))) (.seq (.block 1 [1,3] (.seq (.region [.f 14 1 1,.l 15 14,.m 16 3,.idx 17 16 (.t 15) (.t 16),.ls 18 17 16,.al 4 U,.store (.t 4) (.t 18) 16 false] [1,3,4]) (.seq (.seq (.region [.f 19 4 5,.l 20 19,.un 21 .not (.t 20),.m 22 21,.sc 22 false [.f 23 4 9,.f 24 23 0,.l 25 24,.bin 26 .neq (.t 25) (.i 0)] 27 (.c (.bool true)) (.t 26),.m 28 27,.sc 28 false [.f 29 4 1,.l 30 29,.f 31 1 0,.l 32 31,.len 33 false (.t 32),.cx (some 34) [.t 30,.c (.int .i64 1),.t 33] Aj,.un 35 .not (.t 34)] 36 (.c (.bool true)) (.t 35)] [1,3,4,36]) (.cond (.t 36) (.exit 1) .skip)) (.seq (.region [.mv 5 (.i 0)] [1,3,4,5]) (.block 2 [1,3] (.loop [1,3,4,5] Ye)))))) Yf))
def Yh:AE:=(.seq (.region [.mv 2 (.c (.bool true))] [2]) .ret)
def DV:A_:=⟨[.val AM],[⟨2,false,.bool⟩],(.seq (.region [.box 1 (.t 0) false,.mv 2 (.c (.bool false))] [1]) (.seq (.seq (.region [.mv 3 (.i 0)] [1,3]) (.block 0 [] (.loop [1,3] Yg))) Yh))⟩
theorem w4:Aq Tryz.prog 30 DV=true:=by kernel_rfl
def VY:AE:=(.seq (.seq (.region [.m 26 9,.m 27 8,.b 28 .lss 26 27] [0,4,5,6,8,9,28]) (.cond (.t 28) .skip (.exit 0))) (.seq (.block 1 [0,4,5,6,8,9] (.seq (.region [.m 31 0,.cl 32 [31,6] rZ,.al 10 AZ,.store (.t 10) (.t 32) 6 false] [0,4,5,6,8,9,10]) (.seq (.region [.m 33 9,.ls 34 10 6,.cl 35 [6,33,34] i4] [0,4,5,6,8,9,10]) (.region [.f 36 5 1,.l 37 36,.ls 38 10 6,.blst 39 AZ [.t 38],.app 40 55 AZ (.t 37) (.t 39),.f 41 5 1,.store (.t 41) (.t 40) 1 false] [0,4,5,6,8,9])))) (.region [.m 29 9,.bin 30 .add (.t 29) (.i 1),.m 9 30] [0,4,5,6,8,9])))
def VZ:AE:=(.seq (.region [.ls 42 5 2,.store (.t 4) (.t 42) 2 false] [4]) .ret)
def EQ:A_:=⟨[.ptr BI,.val (.slice (.int .u8))],[⟨4,true,f9⟩],(.seq (.region [.al 4 bQ] [0,1,4]) (.seq (.region [.m 11 0,.cl 12 [11] oV,.build 13 [.nil,.nil] [(0,1,.t 12)],.al 5 bQ,.store (.t 5) (.t 13) 2 false] [0,1,4,5]) (.seq (.region [.f 15 5 0,.l 16 15,.cl 17 [16] X6,.m 14 17,.ext 18 (.t 14) 0,.ext 19 (.t 14) 1,.al 6 AM,.store (.t 6) (.t 18) 4 false,.m 7 19] [0,1,4,5,6]) (.seq (.region [.m 20 1,.len 21 false (.t 20),.bin 22 .quo (.t 21) (.i 4),.bin 23 .add (.i 20) (.t 22),.m 8 23] [0,4,5,6,8]) (.seqc [0,4,5,6,8] (.seq (.region [.m 24 8,.bin 25 .gtr (.t 24) (.i 69)] [0,4,5,6,8,25]) (.cond (.t 25) (.region [.mv 8 (.i 69)] [0,4,5,6,8]) .skip)) (.seq (.seq (.region [.mv 9 (.i 0)] [0,4,5,6,8,9]) (.block 0 [4,5] (.loop [0,4,5,6,8,9] VY))) VZ))))))⟩
theorem rf:Aq Tryz.prog 32 EQ=true:=by kernel_rfl
def Yi:AE:=(.seq (.block 1 [0,3,4] (.region [.m 18 3,.bin 19 .mul (.t 18) (.i 131),.m 20 0,.m 21 4,.idx 22 1 (.t 20) (.t 21),.l 23 22,.cvi 24 .i64 (.t 23),.b 25 .add 19 24,.bin 26 .add (.t 25) (.i 7),.bin 27 .and (.t 26) (.i 1073741823),.m 3 27] [0,3,4])) (.region [.m 16 4,.bin 17 .add (.t 16) (.i 1),.m 4 17] [0,3,4]))
def Yj:AE:=(.seq (.seq (.region [.m 8 4,.m 9 0,.len 10 false (.t 9),.b 11 .lss 8 10,.m 12 11,.sc 12 true [.m 13 4,.bin 14 .lss (.t 13) (.i 4000)] 15 (.t 14) (.c (.bool false))] [0,3,4,15]) (.cond (.t 15) .skip (.exit 0))) Yi)
def Yk:AE:=(.seq (.region [.m 28 0,.m 29 3,.bu 30 BI [(0,1,.t 28),(2,1,.t 29)],.box 31 (.t 30) false,.m 2 31] [2]) .ret)
def EG:A_:=⟨[.val (.slice (.int .u8))],[⟨2,false,(.ref BI)⟩],(.seq (.region [.mv 2 (.c (.undef))] [0]) (.seq (.region [.m 5 0,.len 6 false (.t 5),.bin 7 .add (.i 14301) (.t 6),.m 3 7] [0,3]) (.seq (.seq (.region [.mv 4 (.i 0)] [0,3,4]) (.block 0 [0,3] (.loop [0,3,4] Yj))) Yk)))⟩
theorem ua:Aq Tryz.prog 33 EG=true:=by kernel_rfl
def TZ:AE:=(.seq (.seq (.region [.m 15 5,.bin 16 .leq (.t 15) (.i 6)] [0,2,4,5,16]) (.cond (.t 16) .skip (.exit 0))) (.seq (.block 1 [0,2,4,5] (.seq (.region [.m 20 5,.m 21 0,.cl 22 [20,21] mA,.m 19 22,.ext 23 (.t 19) 0,.ext 24 (.t 19) 1,.al 6 U,.store (.t 6) (.t 23) 16 false,.m 7 24] [0,2,4,5,6]) (.region [.f 25 4 1,.l 26 25,.ls 27 6 16,.blst 28 U [.t 27],.app 29 42 U (.t 26) (.t 28),.f 30 4 1,.store (.t 30) (.t 29) 1 false] [0,2,4,5]))) (.region [.m 17 5,.bin 18 .add (.t 17) (.i 1),.m 5 18] [0,2,4,5])))
def Ta:AE:=(.seq (.region [.ls 31 4 4,.store (.t 2) (.t 31) 4 false,.mv 3 (.c (.bool true))] [2,3]) .ret)
def Do:A_:=⟨[.val (.slice (.slice (.int .i64)))],[⟨2,true,Ad⟩,⟨3,false,.bool⟩],(.seq (.region [.al 2 Ad,.mv 3 (.c (.bool false))] [0,2]) (.seq (.seq (.region [.m 8 0,.cl 9 [8] HB,.un 10 .not (.t 9)] [0,2,10]) (.cond (.t 10) (.seq (.region [.build 11 [.nil,.nil,.nil,.nil] [],.store (.t 2) (.t 11) 4 false,.mv 3 (.c (.bool false))] [2,3]) .ret) .skip)) (.seq (.region [.m 12 0,.cl 13 [12] VN,.build 14 [.nil,.nil,.nil,.nil] [(0,1,.t 13)],.al 4 Ad,.store (.t 4) (.t 14) 4 false] [0,2,4]) (.seq (.seq (.region [.mv 5 (.i 1)] [0,2,4,5]) (.block 0 [2,4] (.loop [0,2,4,5] TZ))) Ta))))⟩
theorem oh:Aq Tryz.prog 34 Do=true:=by kernel_rfl
def Va:AE:=(.seq (.seq (.region [.f 18 1 0,.l 19 18,.bin 20 .eql (.t 19) (.i 1)] [1,20]) (.cond (.t 20) (.seq (.region [.f 21 1 3,.l 22 21,.f 23 1 4,.l 24 23,.f 25 1 5,.l 26 25,.cx (some 27) [.t 22,.c (.int .i64 0),.t 24,.t 26] i5,.m 2 27] [2]) .ret) .skip)) (.seq (.region [.f 28 1 3,.l 29 28,.bin 30 .eql (.t 29) (.i 0),.m 31 30,.sc 31 true [.f 32 1 4,.l 33 32,.bin 34 .eql (.t 33) (.c (.str ⟨#[]⟩))] 35 (.t 34) (.c (.bool false)),.m 36 35,.sc 36 true [.f 37 1 5,.l 38 37,.bin 39 .eql (.t 38) (.c (.str ⟨#[]⟩))] 40 (.t 39) (.c (.bool false)),.m 2 40] [2]) .ret))
def HD:A_:=⟨[.val AZ],[⟨2,false,.bool⟩],(.seq (.region [.box 1 (.t 0) false,.mv 2 (.c (.bool false))] [1]) (.seq (.seq (.region [.f 3 1 0,.l 4 3,.cx (some 5) [.t 4,.c (.int .i64 1),.c (.int .i64 6)] Ap,.un 6 .not (.t 5),.m 7 6,.sc 7 false [.f 8 1 1,.l 9 8,.cl 10 [9] Gw,.un 11 .not (.t 10)] 12 (.c (.bool true)) (.t 11),.m 13 12,.sc 13 false [.f 14 1 2,.l 15 14,.bin 16 .lss (.t 15) (.i 0)] 17 (.c (.bool true)) (.t 16)] [1,17]) (.cond (.t 17) (.seq (.region [.mv 2 (.c (.bool false))] [2]) .ret) .skip)) Va))⟩
theorem rg:Aq Tryz.prog 35 HD=true:=by kernel_rfl
def Hp:A_:=⟨[.ptr Ad,.val AZ,.val (.int .i64)],[⟨6,false,.bool⟩],(.seq (.region [.box 4 (.t 1) false,.mv 6 (.c (.bool false))] [0,2,4]) (.seq (.seq (.region [.f 8 4 0,.l 9 8] [0,2,4,9]) (.block 0 [0,2,4] (.seq (.region [.bin 11 .eql (.t 9) (.i 1),.m 10 11] [0,2,4,9,10]) (.cond (.t 10) (.seq (.region [.m 12 0,.ls 13 4 6,.m 14 2,.cl 15 [12,13,14] gA,.m 6 15] [6]) .ret) (.seq (.region [.bin 17 .eql (.t 9) (.i 5),.m 16 17] [0,2,4,9,16]) (.cond (.t 16) (.seq (.region [.m 18 0,.ls 19 4 6,.m 20 2,.cl 21 [18,19,20] gC,.m 6 21] [6]) .ret) (.seq (.region [.bin 23 .eql (.t 9) (.i 6),.m 22 23] [0,2,4,22]) (.cond (.t 22) (.seq (.region [.m 24 0,.f 25 4 1,.l 26 25,.cl 27 [24,26] G3,.m 7 27] [0,7]) (.seq (.draw (EE 15 [(4,[]),(5,[]),(9,[]),(10,[8,9]),(13,[3,4,12])]) (.tk 12 [.ls 39 38 16,.idx 38 16 (.t 36) (.t 37),.m 37 7,.l 36 35,.f 35 34 1,.n 34 33,.m 33 0,.m 32 7,.l 31 30,.f 30 29 1,.n 29 28,.m 28 0] (.only 12 none (.cl 40 [39] yV) false [] (.tk 14 [.idx 41 16 (.t 31) (.t 32)] (.only 14 none (.store (.t 41) (.t 40) 16 false) false [] .done)))) []) (.seq (.region [.mv 6 (.c (.bool true))] [6]) .ret))) .skip)))))))) (.seq (.region [.m 42 0,.ls 43 4 6,.m 44 2,.cl 45 [42,43,44] bT,.m 6 45] [6]) .ret)))⟩
theorem gG:Aq Tryz.prog 36 Hp=true:=by kernel_rfl
def Oq:A_:=⟨[.val .bool],[⟨2,false,(.int .i64)⟩],(.seq (.region [.mv 2 (.i 0)] [0]) (.seq (.seq (.region [.m 3 0] [3]) (.cond (.t 3) (.seq (.region [.mv 2 (.i 0)] [2]) .ret) .skip)) (.seq (.region [.mv 2 (.i 1)] [2]) .ret)))⟩
theorem ub:Aq Tryz.prog 37 Oq=true:=by kernel_rfl
def R5:AE:=(.seq (.region [.b 19 .lss 18 17] [1,2,3,16,17,18,19]) (.seq (.cond (.t 19) .skip (.exit 0)) (.seq (.block 1 [1,2,3,16,17,18] (.seq (.region [.idx 20 16 (.t 16) (.t 18),.ls 21 20 16,.al 5 U,.store (.t 5) (.t 21) 16 false] [1,2,3,5,16,17,18]) (.draw (EE 8 [(2,[]),(5,[1,4])]) (.tk 3 [.ls 24 5 16,.l 23 22,.f 22 3 1] (.only 3 none (.cl 25 [24] GV) false [] (.only 4 none (.blst 26 U [.t 25]) false [] (.only 5 none (.app 27 42 U (.t 23) (.t 26)) false [] (.tk 7 [.f 28 3 1] (.only 7 none (.store (.t 28) (.t 27) 1 false) false [] .done)))))) [1,2,3,16,17,18]))) (.region [.bin 29 .add (.t 18) (.i 1),.m 18 29] [1,2,3,16,17,18]))))
def Qg:AE:=(.seq (.region [.b 34 .lss 33 32] [2,3,31,32,33,34]) (.seq (.cond (.t 34) .skip (.exit 2)) (.seq (.block 3 [2,3,31,32,33] (.seq (.region [.idx 35 6 (.t 31) (.t 33),.ls 36 35 6,.al 7 AH,.store (.t 7) (.t 36) 6 false] [2,3,7,31,32,33]) (.draw (EE 8 [(2,[]),(5,[1,4])]) (.tk 3 [.ls 39 7 6,.l 38 37,.f 37 3 2] (.only 3 none (.cl 40 [39] Ru) false [] (.only 4 none (.blst 41 AH [.t 40]) false [] (.only 5 none (.app 42 97 AH (.t 38) (.t 41)) false [] (.tk 7 [.f 43 3 2] (.only 7 none (.store (.t 43) (.t 42) 1 false) false [] .done)))))) [2,3,31,32,33]))) (.region [.bin 44 .add (.t 33) (.i 1),.m 33 44] [2,3,31,32,33]))))
def Qh:AE:=(.seq (.region [.ls 45 3 4,.store (.t 2) (.t 45) 4 false] [2]) .ret)
def KA:AE:=(.seq (.seq (.region [.f 30 1 2,.l 31 30,.len 32 false (.t 31),.mv 33 (.i 0)] [2,3,31,32,33]) (.block 2 [2,3] (.loop [2,3,31,32,33] Qg))) Qh)
def BN:A_:=⟨[.val AM],[⟨2,true,Ad⟩],(.seq (.region [.box 1 (.t 0) true,.al 2 Ad] [1,2]) (.seq (.draw (EE 9 [(3,[]),(5,[2,4]),(7,[]),(8,[6,7])]) (.tk 2 [.l 9 8,.f 8 1 0] (.tk 5 [.l 12 11,.f 11 1 3] (.only 2 none (.cl 10 [9] VN) false [(7,.al 3 Ad)] (.only 5 none (.cl 13 [12] LA) false [(7,.al 3 Ad)] (.tk 7 [.build 14 [.nil,.nil,.nil,.nil] [(0,1,.t 10),(3,1,.t 13)]] (.only 7 none (.al 3 Ad) true [] (.only 8 none (.store (.t 3) (.t 14) 4 false) false [] .done))))))) [1,2,3]) (.seq (.seq (.region [.f 15 1 1,.l 16 15,.len 17 false (.t 16),.mv 18 (.i 0)] [1,2,3,16,17,18]) (.block 0 [1,2,3] (.loop [1,2,3,16,17,18] R5))) KA)))⟩
theorem mG:Aq Tryz.prog 38 BN=true:=by kernel_rfl
def Tb:AE:=(.seq (.seq (.region [.m 15 5,.bin 16 .leq (.t 15) (.i 6)] [0,2,4,5,16]) (.cond (.t 16) .skip (.exit 0))) (.seq (.block 1 [0,2,4,5] (.seq (.region [.m 20 5,.m 21 0,.cl 22 [20,21] mB,.m 19 22,.ext 23 (.t 19) 0,.ext 24 (.t 19) 1,.al 6 U,.store (.t 6) (.t 23) 16 false,.m 7 24] [0,2,4,5,6]) (.region [.f 25 4 1,.l 26 25,.ls 27 6 16,.blst 28 U [.t 27],.app 29 42 U (.t 26) (.t 28),.f 30 4 1,.store (.t 30) (.t 29) 1 false] [0,2,4,5]))) (.region [.m 17 5,.bin 18 .add (.t 17) (.i 1),.m 5 18] [0,2,4,5])))
def Tc:AE:=(.seq (.region [.ls 31 4 4,.store (.t 2) (.t 31) 4 false,.mv 3 (.c (.bool true))] [2,3]) .ret)
def Dp:A_:=⟨[.val (.slice (.slice (.int .i64)))],[⟨2,true,AM⟩,⟨3,false,.bool⟩],(.seq (.region [.al 2 GU,.mv 3 (.c (.bool false))] [0,2]) (.seq (.seq (.region [.m 8 0,.cl 9 [8] JF,.un 10 .not (.t 9)] [0,2,10]) (.cond (.t 10) (.seq (.region [.build 11 [.nil,.nil,.nil,.nil] [],.store (.t 2) (.t 11) 4 false,.mv 3 (.c (.bool false))] [2,3]) .ret) .skip)) (.seq (.region [.m 12 0,.cl 13 [12] QX,.build 14 [.nil,.nil,.nil,.nil] [(0,1,.t 13)],.al 4 GU,.store (.t 4) (.t 14) 4 false] [0,2,4]) (.seq (.seq (.region [.mv 5 (.i 1)] [0,2,4,5]) (.block 0 [2,4] (.loop [0,2,4,5] Tb))) Tc))))⟩
theorem ol:Aq Tryz.prog 39 Dp=true:=by kernel_rfl
def Vb:AE:=(.seq (.seq (.region [.f 18 1 0,.l 19 18,.bin 20 .neq (.t 19) (.i 1)] [1,20]) (.cond (.t 20) (.seq (.region [.f 21 1 3,.l 22 21,.bin 23 .eql (.t 22) (.i 0),.m 24 23,.sc 24 true [.f 25 1 4,.l 26 25,.bin 27 .eql (.t 26) (.c (.str ⟨#[]⟩))] 28 (.t 27) (.c (.bool false)),.m 29 28,.sc 29 true [.f 30 1 5,.l 31 30,.bin 32 .eql (.t 31) (.c (.str ⟨#[]⟩))] 33 (.t 32) (.c (.bool false)),.m 2 33] [2]) .ret) .skip)) (.seq (.region [.f 34 1 3,.l 35 34,.bin 36 .eql (.t 35) (.i 1),.m 37 36,.sc 37 false [.f 38 1 3,.l 39 38,.bin 40 .eql (.t 39) (.i 2)] 41 (.c (.bool true)) (.t 40),.m 42 41,.sc 42 true [.f 43 1 4,.l 44 43,.len 45 true (.t 44),.cx (some 46) [.t 45,.c (.int .i64 1),.c (.int .i64 12)] Aj] 47 (.t 46) (.c (.bool false)),.m 48 47,.sc 48 true [.f 49 1 5,.l 50 49,.len 51 true (.t 50),.bin 52 .leq (.t 51) (.i 20)] 53 (.t 52) (.c (.bool false)),.m 54 53,.sc 54 true [.f 55 1 3,.l 56 55,.bin 57 .eql (.t 56) (.i 1),.m 58 57,.sc 58 false [.f 59 1 5,.l 60 59,.bin 61 .eql (.t 60) (.c (.str ⟨#[]⟩))] 62 (.c (.bool true)) (.t 61)] 63 (.t 62) (.c (.bool false)),.m 2 63] [2]) .ret))
def HE:A_:=⟨[.val AZ],[⟨2,false,.bool⟩],(.seq (.region [.box 1 (.t 0) false,.mv 2 (.c (.bool false))] [1]) (.seq (.seq (.region [.f 3 1 0,.l 4 3,.cx (some 5) [.t 4,.c (.int .i64 1),.c (.int .i64 6)] Aj,.un 6 .not (.t 5),.m 7 6,.sc 7 false [.f 8 1 1,.l 9 8,.cx (some 10) [.t 9,.c (.int .i64 1),.c (.int .i64 6)] Aj,.un 11 .not (.t 10)] 12 (.c (.bool true)) (.t 11),.m 13 12,.sc 13 false [.f 14 1 2,.l 15 14,.bin 16 .lss (.t 15) (.i 0)] 17 (.c (.bool true)) (.t 16)] [1,17]) (.cond (.t 17) (.seq (.region [.mv 2 (.c (.bool false))] [2]) .ret) .skip)) Vb))⟩
theorem rh:Aq Tryz.prog 40 HE=true:=by kernel_rfl

def RS:A_:=⟨[.ptr AM,.val (.int .i64),.val AZ],[⟨6,false,(.int .i64)⟩],(.seq (.region [.box 5 (.t 2) false,.mv 6 (.i 0)] [0,1,5]) (.seq (.seq (.region [.f 7 5 0,.l 8 7] [0,1,5,8]) (.block 0 [0,1,5] (.seq (.region [.bin 10 .eql (.t 8) (.i 1),.m 9 10] [0,1,5,8,9]) (.cond (.t 9) (.seq (.region [.m 11 0,.m 12 1,.ls 13 5 6,.cl 14 [11,12,13] oW,.m 6 14] [6]) .ret) (.seq (.region [.bin 16 .eql (.t 8) (.i 5),.m 15 16] [0,1,5,8,15]) (.cond (.t 15) (.seq (.region [.m 17 0,.m 18 1,.f 19 5 1,.l 20 19,.cl 21 [17,18,20] oX,.m 6 21] [6]) .ret) (.seq (.region [.bin 23 .eql (.t 8) (.i 6),.m 22 23] [0,1,5,22]) (.cond (.t 22) (.seq (.draw (EE 15 [(1,[]),(5,[]),(8,[4,7]),(11,[]),(12,[]),(13,[]),(14,[0,10,11,12,13])]) (.tk 10 [.ls 33 32 16,.idx 32 16 (.t 28) (.t 31),.bin 31 .sub (.t 30) (.i 1),.l 30 29,.f 29 5 1,.l 28 27,.f 27 26 1,.n 26 25,.m 25 0,.m 24 0] (.tk 14 [.m 37 1] (.only 10 none (.cl 34 [33] yW) false [(11,.brow 35 97 AH []),(12,.brow 36 126 Ay [])] (.only 11 none (.brow 35 97 AH []) true [(12,.brow 36 126 Ay [])] (.only 12 none (.brow 36 126 Ay []) true [] (.only 14 none (.cl 38 [24,34,35,36,37] Jc) false [] .done)))))) []) (.seq (.region [.mv 6 (.i 0)] [6]) .ret)) .skip)))))))) (.seq (.region [.m 39 0,.m 40 1,.ls 41 5 6,.cl 42 [39,40,41] uV,.m 6 42] [6]) .ret)))⟩
theorem w5:Aq Tryz.prog 41 RS=true:=by kernel_rfl
def Vc:AE:=(.seq (.seq (.region [.m 16 4,.f 17 1 1,.l 18 17,.len 19 false (.t 18),.b 20 .lss 16 19] [1,2,3,4,20]) (.cond (.t 20) .skip (.exit 0))) (.seq (.block 1 [1,2,3,4] (.draw (EE 12 [(2,[]),(4,[]),(5,[3,4]),(9,[1,8])]) (.tk 7 [.ls 29 28 16,.idx 28 16 (.t 26) (.t 27),.m 27 4,.l 26 25,.f 25 1 1,.l 24 23,.f 23 3 1] (.only 7 none (.cl 30 [29] HC) false [] (.only 8 none (.blst 31 U [.t 30]) false [] (.only 9 none (.app 32 42 U (.t 24) (.t 31)) false [] (.tk 11 [.f 33 3 1] (.only 11 none (.store (.t 33) (.t 32) 1 false) false [] .done)))))) [1,2,3,4])) (.region [.m 21 4,.bin 22 .add (.t 21) (.i 1),.m 4 22] [1,2,3,4])))
def Vd:AE:=(.seq (.region [.ls 34 3 4,.store (.t 2) (.t 34) 4 false] [2]) .ret)
def ER:A_:=⟨[.val AM],[⟨2,true,AM⟩],(.seq (.region [.box 1 (.t 0) true,.al 2 GU] [1,2]) (.seq (.draw (EE 13 [(3,[]),(5,[2,4]),(6,[]),(7,[]),(9,[5,6,8]),(11,[]),(12,[10,11])]) (.tk 2 [.l 6 5,.f 5 1 0] (.tk 5 [.l 9 8,.f 8 1 2] (.tk 9 [.l 13 12,.f 12 1 3] (.only 2 none (.cl 7 [6] QX) false [(6,.brow 11 47 AG []),(11,.al 3 GU)] (.only 5 none (.cl 10 [9] gD) false [(6,.brow 11 47 AG []),(11,.al 3 GU)] (.only 6 none (.brow 11 47 AG []) true [(11,.al 3 GU)] (.only 9 none (.app 14 47 AG (.t 11) (.t 13)) false [(11,.al 3 GU)] (.tk 11 [.build 15 [.nil,.nil,.nil,.nil] [(0,1,.t 7),(2,1,.t 10),(3,1,.t 14)]] (.only 11 none (.al 3 GU) true [] (.only 12 none (.store (.t 3) (.t 15) 4 false) false [] .done)))))))))) [1,2,3]) (.seq (.seq (.region [.mv 4 (.i 0)] [1,2,3,4]) (.block 0 [2,3] (.loop [1,2,3,4] Vc))) Vd)))⟩
theorem rk:Aq Tryz.prog 42 ER=true:=by kernel_rfl
def Ot:A_:=⟨[.val (.int .i64)],[⟨2,false,.bool⟩],(.seq (.region [.mv 2 (.c (.bool false))] [0]) (.seq (.region [.m 3 0,.cx (some 4) [.t 3,.c (.int .i64 1),.c (.int .i64 6)] Ap,.m 2 4] [2]) .ret))⟩
theorem uc:Aq Tryz.prog 43 Ot=true:=by kernel_rfl
def Mg:A_:=⟨[.val (.int .i64),.val (.int .i64),.val (.int .i64)],[⟨6,false,.bool⟩],(.seq (.region [.mv 6 (.c (.bool false))] [0,1,2]) (.seq (.region [.m 7 0,.m 8 1,.b 9 .geq 7 8,.m 10 9,.sc 10 true [.m 11 0,.m 12 2,.b 13 .leq 11 12] 14 (.t 13) (.c (.bool false)),.m 6 14] [6]) .ret))⟩
theorem rl:Aq Tryz.prog 44 Mg=true:=by kernel_rfl
def O_:AE:=(.seq (.region [.b 12 .lss 11 10] [0,1,2,9,10,11,12]) (.seq (.cond (.t 12) .skip (.exit 0)) (.seq (.block 1 [0,1,2,9,10,11] (.seq (.region [.m 13 11,.idx 14 1 (.t 9) (.t 11),.l 15 14,.m 7 13,.m 8 15] [0,1,2,7,8,9,10,11]) (.seq (.region [.m 16 8,.m 17 1,.m 18 2,.cl 19 [16,17,18] Ap,.un 20 .not (.t 19),.m 21 20,.sc 21 false [.m 22 7,.bin 23 .gtr (.t 22) (.i 0),.m 24 23,.sc 24 true [.m 25 8,.m 26 0,.m 27 7,.bin 28 .sub (.t 27) (.i 1),.idx 29 1 (.t 26) (.t 28),.l 30 29,.b 31 .leq 25 30] 32 (.t 31) (.c (.bool false))] 33 (.c (.bool true)) (.t 32)] [0,1,2,9,10,11,33]) (.cond (.t 33) (.seq (.region [.mv 6 (.c (.bool false))] [6]) .ret) .skip)))) (.region [.bin 34 .add (.t 11) (.i 1),.m 11 34] [0,1,2,9,10,11]))))
def PA:AE:=(.seq (.region [.mv 6 (.c (.bool true))] [6]) .ret)
def CW:A_:=⟨[.val (.slice (.int .i64)),.val (.int .i64),.val (.int .i64)],[⟨6,false,.bool⟩],(.seq (.region [.mv 6 (.c (.bool false))] [0,1,2]) (.seq (.seq (.region [.m 9 0,.len 10 false (.t 9),.mv 11 (.i 0)] [0,1,2,9,10,11]) (.block 0 [] (.loop [0,1,2,9,10,11] O_))) PA))⟩
theorem gH:Aq Tryz.prog 45 CW=true:=by kernel_rfl
def Td:DT:=(.sk 28 false 3 20 32 (.sk 31 true 9 29 41 (.sk 28 false 1 30 42 (.tk 31 [.pick 42 (.t 28) (.c (.bool true)) (.t 41)] .done))))
def Te:DT:=(.sk 22 false 4 15 27 (.tk 17 [.m 28 27,.pick 27 (.t 22) (.c (.bool true)) (.t 26)] Td))
def Tf:DT:=(.tg 28 false 30 [.pick 41 (.t 31) (.t 40) (.c (.bool false))] (.tk 31 [.pick 42 (.t 28) (.c (.bool true)) (.t 41)] .done))
def Tg:AE:=(.seq (.region [.b 8 .lss 7 6] [0,5,6,7,8]) (.seq (.cond (.t 8) .skip (.exit 0)) (.seq (.block 1 [0,5,6,7] (.seq (.region [.m 9 7,.idx 10 3 (.t 5) (.t 7),.ls 11 10 3,.al 4 AD,.m 3 9,.store (.t 4) (.t 11) 3 false] [0,3,4,5,6,7]) (.seq (.draw (EE 31 [(22,[19]),(23,[19]),(25,[22,24]),(28,[21,27])]) (.tk 2 [.l 13 12,.f 12 4 0] (.only 2 none (.cl 14 [13] i6) false [] (.tk 5 [.m 16 15,.un 15 .not (.t 14)] (.test 16 (.sk 16 false 4 9 21 (.tk 11 [.m 22 21,.pick 21 (.t 16) (.c (.bool true)) (.t 20)] Te)) (.tg 16 false 9 [.bin 20 .gtr (.t 19) (.i 20),.len 19 true (.t 18),.l 18 17,.f 17 4 1] (.tk 11 [.m 22 21,.pick 21 (.t 16) (.c (.bool true)) (.t 20)] (.test 22 Te (.tg 22 false 13 [.l 24 23,.f 23 4 2] (.only 13 (some (22,false)) (.cx (some 25) [.t 24,.c (.int .i64 1),.c (.int .i64 1000000000)] Ap) false [] (.tg 22 false 15 [.un 26 .not (.t 25)] (.tk 17 [.m 28 27,.pick 27 (.t 22) (.c (.bool true)) (.t 26)] (.test 28 Td (.tg 28 false 20 [.m 31 30,.bin 30 .gtr (.t 29) (.i 0),.m 29 3] (.test 31 (.tg 31 true 29 [.b 40 .leq 33 39,.l 39 38,.f 38 37 0,.idx 37 3 (.t 34) (.t 36),.bin 36 .sub (.t 35) (.i 1),.m 35 3,.m 34 0,.l 33 32,.f 32 4 0] Tf) (.sk 31 true 9 29 41 Tf))))))))))))))) [0,5,6,7,42]) (.cond (.t 42) (.seq (.region [.mv 2 (.c (.bool false))] [2]) .ret) .skip)))) (.region [.bin 43 .add (.t 7) (.i 1),.m 7 43] [0,5,6,7]))))
def Th:AE:=(.seq (.region [.m 44 0,.len 45 false (.t 44),.bin 46 .leq (.t 45) (.i 12),.m 2 46] [2]) .ret)
def ES:A_:=⟨[.val (.slice AD)],[⟨2,false,.bool⟩],(.seq (.region [.mv 2 (.c (.bool false))] [0]) (.seq (.seq (.region [.m 5 0,.len 6 false (.t 5),.mv 7 (.i 0)] [0,5,6,7]) (.block 0 [0] (.loop [0,5,6,7] Tg))) Th))⟩
theorem rm:Aq Tryz.prog 46 ES=true:=by kernel_rfl
def GX:A_:=⟨[.ptr U],[⟨2,false,.bool⟩],(.seq (.region [.mv 2 (.c (.bool false))] [0]) (.seq (.region [.m 4 0,.n 5 4,.f 6 5 9,.ls 7 6 7,.al 3 MX,.store (.t 3) (.t 7) 7 false] [0,3]) (.seq (.seq (.region [.f 8 3 0,.l 9 8,.bin 10 .eql (.t 9) (.i 0)] [0,3,10]) (.cond (.t 10) (.seq (.region [.f 11 3 1,.l 12 11,.bin 13 .eql (.t 12) (.i 0),.m 14 13,.sc 14 true [.f 15 3 2,.l 16 15,.bin 17 .eql (.t 16) (.i 0)] 18 (.t 17) (.c (.bool false)),.m 19 18,.sc 19 true [.f 20 3 3,.ls 21 20 3,.bu 22 AD [],.eqs 23 false AD (.t 21) (.t 22)] 24 (.t 23) (.c (.bool false)),.m 25 24,.sc 25 true [.f 26 3 6,.l 27 26,.len 28 false (.t 27),.bin 29 .eql (.t 28) (.i 0)] 30 (.t 29) (.c (.bool false)),.m 2 30] [2]) .ret) .skip)) (.seq (.region [.f 31 3 0,.l 32 31,.cx (some 33) [.t 32,.c (.int .i64 1),.c (.int .i64 2)] Ap,.m 34 33,.sc 34 true [.m 35 0,.n 36 35,.f 37 36 5,.l 38 37] 39 (.t 38) (.c (.bool false)),.m 40 39,.sc 40 true [.f 41 3 1,.l 42 41,.cx (some 43) [.t 42,.c (.int .i64 0),.c (.int .i64 1000)] Ap] 44 (.t 43) (.c (.bool false)),.m 45 44,.sc 45 true [.f 46 3 2,.l 47 46,.cx (some 48) [.t 47,.c (.int .i64 1),.c (.int .i64 900)] Ap] 49 (.t 48) (.c (.bool false)),.m 50 49,.sc 50 true [.f 51 3 6,.l 52 51,.cx (some 53) [.t 52,.c (.int .i64 1),.c (.int .i64 6)] Rt] 54 (.t 53) (.c (.bool false)),.m 2 54] [2]) .ret))))⟩
theorem bm:Aq Tryz.prog 47 GX=true:=by kernel_rfl
def Ou:A_:=⟨[.val AG],[⟨2,false,.bool⟩],(.seq (.region [.box 1 (.t 0) false,.mv 2 (.c (.bool false))] [1]) (.seq (.region [.f 3 1 4,.l 4 3,.bin 5 .geq (.t 4) (.i 0),.m 2 5] [2]) .ret))⟩
theorem ud:Aq Tryz.prog 48 Ou=true:=by kernel_rfl
def RU:A_:=⟨[.val AG],[⟨2,false,(.int .i64)⟩],(.seq (.region [.box 1 (.t 0) false,.mv 2 (.i 0)] [1]) (.seq (.seq (.region [.f 3 1 6,.l 4 3,.cx (some 5) [.t 4,.c (.int .i64 0),.c (.int .i64 9)] Aj,.un 6 .not (.t 5),.m 7 6,.sc 7 false [.f 8 1 7,.l 9 8,.cx (some 10) [.t 9,.c (.int .i64 0),.c (.int .i64 999)] Aj,.un 11 .not (.t 10)] 12 (.c (.bool true)) (.t 11)] [1,12]) (.cond (.t 12) (.seq (.region [.mv 2 (.i 0)] [2]) .ret) .skip)) (.seq (.region [.f 13 1 6,.l 14 13,.bin 15 .mul (.i 1000) (.t 14),.f 16 1 7,.l 17 16,.b 18 .add 15 17,.m 2 18] [2]) .ret)))⟩
theorem w6:Aq Tryz.prog 49 RU=true:=by kernel_rfl
def Mh:AE:=(.seq (.region [.b 13 .lss 12 11] [0,10,11,12,13]) (.seq (.cond (.t 13) .skip (.exit 0)) (.seq (.block 1 [0,10,11,12] (.seq (.region [.m 14 12,.idx 15 16 (.t 10) (.t 12),.ls 16 15 16,.al 4 U,.m 3 14,.store (.t 4) (.t 16) 16 false] [0,3,4,10,11,12]) (.seq (.region [.f 17 4 0,.l 18 17,.m 19 3,.bin 20 .add (.t 19) (.i 1),.b 21 .neq 18 20] [0,10,11,12,21]) (.cond (.t 21) (.seq (.region [.mv 2 (.c (.bool false))] [2]) .ret) .skip)))) (.region [.bin 22 .add (.t 12) (.i 1),.m 12 22] [0,10,11,12]))))
def Lo:AE:=(.seq (.region [.b 29 .lss 28 27] [0,26,27,28,29]) (.seq (.cond (.t 29) .skip (.exit 2)) (.seq (.block 3 [0,26,27,28] (.seq (.region [.idx 30 6 (.t 26) (.t 28),.ls 31 30 6,.al 6 AH,.store (.t 6) (.t 31) 6 false] [0,6,26,27,28]) (.seq (.region [.f 32 6 2,.l 33 32,.cl 34 [33] Gw,.un 35 .not (.t 34)] [0,26,27,28,35]) (.cond (.t 35) (.seq (.region [.mv 2 (.c (.bool false))] [2]) .ret) .skip)))) (.region [.bin 36 .add (.t 28) (.i 1),.m 28 36] [0,26,27,28]))))
def HF:AE:=(.seq (.region [.m 37 0,.n 38 37,.f 39 38 1,.l 40 39,.len 41 false (.t 40),.bin 42 .eql (.t 41) (.i 6),.m 43 42,.sc 43 true [.m 44 0,.n 45 44,.f 46 45 0,.l 47 46,.cl 48 [47] HB] 49 (.t 48) (.c (.bool false)),.m 2 49] [2]) .ret)
def HG:AE:=(.seq (.seq (.region [.m 23 0,.n 24 23,.f 25 24 2,.l 26 25,.len 27 false (.t 26),.mv 28 (.i 0)] [0,26,27,28]) (.block 2 [0] (.loop [0,26,27,28] Lo))) HF)
def Ai:A_:=⟨[.ptr AM],[⟨2,false,.bool⟩],(.seq (.region [.mv 2 (.c (.bool false))] [0]) (.seq (.seq (.region [.m 7 0,.n 8 7,.f 9 8 1,.l 10 9,.len 11 false (.t 10),.mv 12 (.i 0)] [0,10,11,12]) (.block 0 [0] (.loop [0,10,11,12] Mh))) HG))⟩
theorem bn:Aq Tryz.prog 50 Ai=true:=by kernel_rfl
def GY:A_:=⟨[.ptr Ad,.val (.int .i64),.val (.int .i64)],[],(.seq (.region [.m 11 0,.n 12 11,.f 13 12 2,.l 14 13,.m 15 1,.idx 16 6 (.t 14) (.t 15),.ls 17 16 6,.al 6 AH,.store (.t 6) (.t 17) 6 false] [0,1,2,6]) (.seq (.region [.m 18 0,.m 19 0,.n 20 19,.f 21 20 2,.l 22 21,.m 23 1,.m 24 1,.bin 25 .add (.t 24) (.i 1),.cl 26 [22,23,25] GD,.n 27 18,.f 28 27 2,.store (.t 28) (.t 26) 1 false] [0,2,6]) (.seq (.region [.m 29 0,.f 30 6 2,.l 31 30,.cl 32 [29,31] G3,.m 7 32] [0,2,6,7]) (.seq (.region [.m 33 7,.bin 34 .geq (.t 33) (.i 0)] [0,2,6,7,34]) (.cond (.t 34) (.seq (.draw (EE 21 [(4,[]),(5,[3,4]),(7,[]),(11,[]),(12,[6,10,11]),(15,[13]),(16,[13]),(17,[]),(18,[14,17]),(19,[15,18]),(20,[16,19])]) (.tk 12 [.ls 47 6 6,.l 46 45,.f 45 44 0,.n 44 43,.m 43 0,.ls 42 41 16,.idx 41 16 (.t 39) (.t 40),.m 40 7,.l 39 38,.f 38 37 1,.n 37 36,.m 36 0] (.only 12 none (.cl 48 [42,46,47] rc) false [(17,.al 8 U)] (.tk 17 [.ext 51 (.t 35) 2,.ext 50 (.t 35) 1,.ext 49 (.t 35) 0,.m 35 48] (.only 17 none (.al 8 U) true [] (.only 18 none (.store (.t 8) (.t 49) 16 false) false [] (.tk 21 [.m 10 51,.m 9 50] .done)))))) [0,2,7,8,9,10]) (.seq (.draw (EE 8 [(4,[]),(5,[]),(6,[3,4,5])]) (.tk 7 [.idx 58 16 (.t 55) (.t 56),.ls 57 8 16,.m 56 7,.l 55 54,.f 54 53 1,.n 53 52,.m 52 0] (.only 7 none (.store (.t 58) (.t 57) 16 false) false [] .done)) [0,2,9,10]) (.region [.m 59 0,.m 60 9,.m 61 10,.m 62 2,.cl 63 [59,60,61,62] MZ] []))) .skip)))))⟩
theorem bo:Aq Tryz.prog 51 GY=true:=by kernel_rfl
def RV:A_:=⟨[.val (.slice AG),.val AG],[⟨4,false,.bool⟩],(.seq (.region [.fbox 3 (.t 1),.mv 4 (.c (.bool false))] [0,3]) (.seq (.region [.m 5 0,.clo 6 92 AG (.t 3),.cl 7 [5,6] II,.m 4 7] [4]) .ret))⟩
theorem w7:Aq Tryz.prog 52 RV=true:=by kernel_rfl
def Ov:A_:=⟨[.val AG,.val AG],[⟨4,false,.bool⟩],(.seq (.region [.box 2 (.t 0) false,.box 3 (.t 1) false,.mv 4 (.c (.bool false))] [2,3]) (.seq (.region [.f 5 3 0,.l 6 5,.bin 7 .eql (.t 6) (.i 1),.m 8 7,.sc 8 true [.f 9 3 1,.l 10 9,.f 11 2 1,.l 12 11,.b 13 .eql 10 12] 14 (.t 13) (.c (.bool false)),.m 15 14,.sc 15 true [.f 16 3 2,.l 17 16,.f 18 2 8,.l 19 18,.b 20 .eql 17 19] 21 (.t 20) (.c (.bool false)),.m 22 21,.sc 22 true [.f 23 3 4,.l 24 23,.bin 25 .lss (.t 24) (.i 0),.m 26 25,.sc 26 false [.f 27 3 5,.l 28 27,.f 29 2 5,.l 30 29,.b 31 .eql 28 30] 32 (.c (.bool true)) (.t 31)] 33 (.t 32) (.c (.bool false)),.m 4 33] [4]) .ret))⟩
theorem ue:Aq Tryz.prog 53 Ov=true:=by kernel_rfl
def Iq:A_:=⟨[.ptr AM,.val (.int .i64)],[⟨4,false,(.slice (.int .i64))⟩],(.seq (.region [.mv 4 (.c (.nil))] [0,1]) (.seq (.seq (.region [.m 5 1,.m 6 0,.n 7 6,.f 8 7 0,.l 9 8,.len 10 false (.t 9),.cx (some 11) [.t 5,.c (.int .i64 1),.t 10] Ap,.un 12 .not (.t 11)] [0,1,12]) (.cond (.t 12) (.seq (.region [.mv 4 (.c (.nil))] [4]) .ret) .skip)) (.seq (.region [.m 13 0,.n 14 13,.f 15 14 0,.l 16 15,.m 17 1,.bin 18 .sub (.t 17) (.i 1),.idx 19 1 (.t 16) (.t 18),.l 20 19,.m 4 20] [4]) .ret)))⟩
theorem i_:Aq Tryz.prog 55 Iq=true:=by kernel_rfl
def RW:A_:=⟨[.val (.int .i64),.val (.int .i64),.val (.int .i64)],[⟨6,false,.bool⟩],(.seq (.region [.mv 6 (.c (.bool false))] [0,1,2]) (.seq (.region [.m 7 0,.m 8 1,.b 9 .geq 7 8,.m 10 9,.sc 10 true [.m 11 0,.m 12 2,.b 13 .leq 11 12] 14 (.t 13) (.c (.bool false)),.m 6 14] [6]) .ret))⟩
theorem w8:Aq Tryz.prog 56 RW=true:=by kernel_rfl
def Dw:A_:=⟨[.val (.slice (.int .i64)),.val (.int .i64)],[⟨4,false,.bool⟩],(.seq (.region [.mv 4 (.c (.bool false))] [0,1]) (.seq (.region [.m 5 0,.m 6 1,.cl 7 [5,6] Ma,.bin 8 .geq (.t 7) (.i 0),.m 4 8] [4]) .ret))⟩
theorem TC:Aq Tryz.prog 57 Dw=true:=by kernel_rfl
def E1:AE:=(.seq (.region [.b 14 .lss 13 12] [0,1,12,13,14]) (.seq (.cond (.t 14) .skip (.exit 0)) (.seq (.block 1 [0,1,12,13] (.seq (.region [.m 15 13,.m 5 15] [0,1,5,12,13]) (.seq (.draw (EE 9 [(1,[]),(2,[0,1]),(4,[]),(5,[]),(6,[4,5]),(8,[3,7])]) (.tk 9 [.eqs 24 true AD (.t 19) (.t 23),.ls 23 22 3,.idx 22 3 (.t 20) (.t 21),.m 21 5,.m 20 1,.ls 19 18 3,.idx 18 3 (.t 16) (.t 17),.m 17 5,.m 16 0] .done) [0,1,12,13,24]) (.cond (.t 24) (.seq (.region [.mv 4 (.c (.bool false))] [4]) .ret) .skip)))) (.region [.bin 25 .add (.t 13) (.i 1),.m 13 25] [0,1,12,13]))))
def E2:AE:=(.seq (.region [.mv 4 (.c (.bool true))] [4]) .ret)
def Ak:A_:=⟨[.val (.slice AD),.val (.slice AD)],[⟨4,false,.bool⟩],(.seq (.region [.mv 4 (.c (.bool false))] [0,1]) (.seq (.seq (.region [.m 6 0,.len 7 false (.t 6),.m 8 1,.len 9 false (.t 8),.b 10 .neq 7 9] [0,1,10]) (.cond (.t 10) (.seq (.region [.mv 4 (.c (.bool false))] [4]) .ret) .skip)) (.seq (.seq (.region [.m 11 0,.len 12 false (.t 11),.mv 13 (.i 0)] [0,1,12,13]) (.block 0 [] (.loop [0,1,12,13] E1))) E2)))⟩
theorem LE:Aq Tryz.prog 58 Ak=true:=by kernel_rfl
def bp:AE:=(.seq (.seq (.region [.m 6 5,.m 7 0,.len 8 false (.t 7),.b 9 .lss 6 8] [0,1,5,9]) (.cond (.t 9) .skip (.exit 0))) (.seq (.block 1 [0,1,5] (.seq (.region [.m 12 0,.m 13 5,.idx 14 1 (.t 12) (.t 13),.l 15 14,.m 16 1,.b 17 .eql 15 16] [0,1,5,17]) (.cond (.t 17) (.seq (.region [.mv 4 (.c (.bool true))] [4]) .ret) .skip))) (.region [.m 10 5,.bin 11 .add (.t 10) (.i 1),.m 5 11] [0,1,5])))
def br:AE:=(.seq (.region [.mv 4 (.c (.bool false))] [4]) .ret)
def GZ:A_:=⟨[.val (.slice (.int .i64)),.val (.int .i64)],[⟨4,false,.bool⟩],(.seq (.region [.mv 4 (.c (.bool false))] [0,1]) (.seq (.seq (.region [.mv 5 (.i 0)] [0,1,5]) (.block 0 [] (.loop [0,1,5] bp))) br))⟩
theorem w9:Aq Tryz.prog 59 GZ=true:=by kernel_rfl
def Nm:AE:=(.seq (.seq (.region [.m 11 5,.m 12 0,.len 13 false (.t 12),.b 14 .lss 11 13] [0,1,5,14]) (.cond (.t 14) .skip (.exit 0))) (.seq (.block 1 [0,1,5] (.seq (.draw (EE 9 [(1,[]),(2,[0,1]),(4,[]),(5,[]),(6,[4,5]),(8,[3,7])]) (.tk 9 [.eqs 25 true AD (.t 20) (.t 24),.ls 24 23 3,.idx 23 3 (.t 21) (.t 22),.m 22 5,.m 21 1,.ls 20 19 3,.idx 19 3 (.t 17) (.t 18),.m 18 5,.m 17 0] .done) [0,1,5,25]) (.cond (.t 25) (.seq (.region [.mv 4 (.c (.bool false))] [4]) .ret) .skip))) (.region [.m 15 5,.bin 16 .add (.t 15) (.i 1),.m 5 16] [0,1,5])))
def Nn:AE:=(.seq (.region [.mv 4 (.c (.bool true))] [4]) .ret)
def CN:A_:=⟨[.val (.slice AD),.val (.slice AD)],[⟨4,false,.bool⟩],(.seq (.region [.mv 4 (.c (.bool false))] [0,1]) (.seq (.seq (.region [.m 6 0,.len 7 false (.t 6),.m 8 1,.len 9 false (.t 8),.b 10 .neq 7 9] [0,1,10]) (.cond (.t 10) (.seq (.region [.mv 4 (.c (.bool false))] [4]) .ret) .skip)) (.seq (.seq (.region [.mv 5 (.i 0)] [0,1,5]) (.block 0 [] (.loop [0,1,5] Nm))) Nn)))⟩
theorem eP:Aq Tryz.prog 60 CN=true:=by kernel_rfl
def Mi:A_:=⟨[.ptr BI],[⟨2,false,(.int .i64)⟩],(.seq (.region [.mv 2 (.i 0)] [0]) (.seq (.region [.m 4 0,.m 5 0,.n 6 5,.f 7 6 2,.l 8 7,.bin 9 .mul (.t 8) (.i 6364136223846793005),.bin 10 .add (.t 9) (.i 1442695040888963407),.n 11 4,.f 12 11 2,.store (.t 12) (.t 10) 1 false] [0]) (.seq (.draw (EE 13 [(5,[]),(10,[4,9])]) (.tk 13 [.m 3 24,.bin 24 .and (.t 23) (.i 255),.b 23 .xor 17 22,.bin 22 .shr (.t 21) (.c (.int .u64 45)),.l 21 20,.f 20 19 2,.n 19 18,.m 18 0,.bin 17 .shr (.t 16) (.c (.int .u64 33)),.l 16 15,.f 15 14 2,.n 14 13,.m 13 0] .done) [0,3]) (.seqc [3] (.seq (.draw (EE 10 [(4,[]),(9,[3,8])]) (.tk 10 [.b 34 .lss 28 33,.len 33 false (.t 32),.l 32 31,.f 31 30 0,.n 30 29,.m 29 0,.l 28 27,.f 27 26 1,.n 26 25,.m 25 0] .done) [0,3,34]) (.cond (.t 34) (.seq (.draw (EE 15 [(1,[]),(5,[]),(9,[4,8]),(12,[0,11])]) (.tk 15 [.m 3 48,.bin 48 .and (.t 47) (.i 255),.b 47 .add 35 46,.cvi 46 .i64 (.t 45),.l 45 44,.idx 44 1 (.t 39) (.t 43),.l 43 42,.f 42 41 1,.n 41 40,.m 40 0,.l 39 38,.f 38 37 0,.n 37 36,.m 36 0,.m 35 3] .done) [0,3]) (.region [.m 49 0,.m 50 0,.n 51 50,.f 52 51 1,.l 53 52,.bin 54 .add (.t 53) (.i 1),.n 55 49,.f 56 55 1,.store (.t 56) (.t 54) 1 false] [3])) .skip)) (.seq (.region [.m 57 3,.m 2 57] [2]) .ret)))))⟩
theorem rn:Aq Tryz.prog 61 Mi=true:=by kernel_rfl
def Ko:A_:=⟨[.ptr BI,.val (.int .i64)],[⟨4,false,(.int .i64)⟩],(.seq (.region [.mv 4 (.i 0)] [0,1]) (.seq (.seq (.region [.m 9 1,.bin 10 .leq (.t 9) (.i 0)] [0,1,10]) (.cond (.t 10) (.seq (.region [.mv 4 (.i 0)] [4]) .ret) .skip)) (.seq (.seq (.region [.m 11 1,.bin 12 .leq (.t 11) (.i 256)] [0,1,12]) (.cond (.t 12) (.seq (.region [.m 13 0,.cl 14 [13] JE,.m 15 1,.b 16 .rem 14 15,.m 4 16] [4]) .ret) .skip)) (.seq (.region [.m 17 0,.cl 18 [17] JE,.m 5 18] [0,1,5]) (.seq (.region [.m 19 0,.cl 20 [19] JE,.m 6 20] [0,1,5,6]) (.seq (.region [.m 21 0,.cl 22 [21] JE,.m 7 22] [0,1,5,6,7]) (.seq (.region [.m 23 0,.cl 24 [23] JE,.m 8 24] [1,5,6,7,8]) (.seq (.region [.m 25 5,.bin 26 .mul (.t 25) (.i 16777216),.m 27 6,.bin 28 .mul (.t 27) (.i 65536),.b 29 .add 26 28,.m 30 7,.bin 31 .mul (.t 30) (.i 256),.b 32 .add 29 31,.m 33 8,.b 34 .add 32 33,.m 35 1,.b 36 .rem 34 35,.m 4 36] [4]) .ret))))))))⟩
theorem om:Aq Tryz.prog 62 Ko=true:=by kernel_rfl
def Ti:AE:=(.seq (.seq (.region [.m 17 6,.m 18 0,.cx (some 19) [.t 18,.c (.int .i64 3)] Dm,.bin 20 .add (.i 1) (.t 19),.b 21 .lss 17 20] [0,3,4,5,6,21]) (.cond (.t 21) .skip (.exit 2))) (.seq (.block 3 [0,3,4,5,6] (.seq (.region [.m 24 0,.cx (some 25) [.t 24,.c (.int .i64 4)] Dm,.bin 26 .add (.i 1) (.t 25),.m 7 26] [0,3,4,5,6,7]) (.seq (.region [.m 27 5,.m 28 7,.cl 29 [27,28] FF,.un 30 .not (.t 29)] [0,3,4,5,6,7,30]) (.cond (.t 30) (.region [.m 31 5,.m 32 7,.blst 33 (.int .i64) [.t 32],.app 34 3 (.int .i64) (.t 31) (.t 33),.m 5 34] [0,3,4,5,6]) .skip)))) (.region [.m 22 6,.bin 23 .add (.t 22) (.i 1),.m 6 23] [0,3,4,5,6])))
def Tj:AE:=(.region [.m 35 3,.m 36 5,.blst 37 (.slice (.int .i64)) [.t 36],.app 38 33 (.slice (.int .i64)) (.t 35) (.t 37),.m 3 38] [0,3,4])
def R6:AE:=(.region [.m 14 4,.bin 15 .add (.t 14) (.i 1),.m 4 15] [0,3,4])
def R7:AE:=(.seq (.seq (.region [.m 9 4,.m 10 0,.cx (some 11) [.t 10,.c (.int .i64 5)] Dm,.bin 12 .add (.i 1) (.t 11),.b 13 .lss 9 12] [0,3,4,13]) (.cond (.t 13) .skip (.exit 0))) (.seq (.block 1 [0,3,4] (.seq (.region [.brow 16 3 (.int .i64) [],.m 5 16] [0,3,4,5]) (.seq (.seq (.region [.mv 6 (.i 0)] [0,3,4,5,6]) (.block 2 [0,3,4,5] (.loop [0,3,4,5,6] Ti))) Tj))) R6))
def R8:AE:=(.seq (.region [.m 39 3,.m 2 39] [2]) .ret)
def Bw:A_:=⟨[.ptr BI],[⟨2,false,(.slice (.slice (.int .i64)))⟩],(.seq (.region [.mv 2 (.c (.nil))] [0]) (.seq (.region [.brow 8 33 (.slice (.int .i64)) [],.m 3 8] [0,3]) (.seq (.seq (.region [.mv 4 (.i 0)] [0,3,4]) (.block 0 [3] (.loop [0,3,4] R7))) R8)))⟩
theorem oo:Aq Tryz.prog 63 Bw=true:=by kernel_rfl
def Ve:AE:=(.seq (.seq (.region [.m 66 6,.m 67 1,.n 68 67,.f 69 68 1,.l 70 69,.len 71 false (.t 70),.b 72 .lss 66 71] [0,1,4,5,6,72]) (.cond (.t 72) .skip (.exit 1))) (.seq (.block 2 [0,1,4,5,6] (.seq (.region [.m 75 1,.n 76 75,.f 77 76 1,.l 78 77,.m 79 6,.idx 80 16 (.t 78) (.t 79),.f 81 80 5,.l 82 81,.m 83 82,.sc 83 true [.m 84 0,.cx (some 85) [.t 84,.c (.int .i64 4)] Mb,.un 86 .not (.t 85)] 87 (.t 86) (.c (.bool false))] [0,1,4,5,6,87]) (.cond (.t 87) (.region [.m 88 6,.bin 89 .add (.t 88) (.i 1),.f 90 5 1,.store (.t 90) (.t 89) 1 false] [0,1,4,5,6]) .skip))) (.region [.m 73 6,.bin 74 .add (.t 73) (.i 1),.m 6 74] [0,1,4,5,6])))
def Tk:DT:=(.sk 132 true 3 27 136 (.tk 28 [.pick 136 (.t 132) (.t 135) (.c (.bool false))] .done))
def Tl:AE:=(.seq (.seq (.region [.m 93 7,.m 94 1,.n 95 94,.f 96 95 1,.l 97 96,.len 98 false (.t 97),.b 99 .lss 93 98] [0,1,4,5,7,99]) (.cond (.t 99) .skip (.exit 3))) (.seq (.block 4 [0,1,4,5,7] (.seq (.region [.m 102 1,.n 103 102,.f 104 103 1,.l 105 104,.m 106 7,.idx 107 16 (.t 105) (.t 106),.ls 108 107 16,.al 8 U,.store (.t 8) (.t 108) 16 false] [0,1,4,5,7,8]) (.seq (.draw (EE 28 [(2,[]),(7,[1,6]),(13,[8]),(15,[12,14]),(19,[8]),(21,[18,20])]) (.tk 9 [.m 117 116,.b 116 .lss 110 115,.len 115 false (.t 114),.l 114 113,.f 113 112 0,.n 112 111,.m 111 1,.l 110 109,.f 109 8 1] (.test 117 (.tg 117 true 22 [.b 130 .eql 127 129,.l 129 128,.f 128 8 0,.l 127 126,.idx 126 1 (.t 125) (.i 0),.l 125 124,.idx 124 1 (.t 121) (.t 123),.l 123 122,.f 122 8 1,.l 121 120,.f 120 119 0,.n 119 118,.m 118 1] (.tk 24 [.m 132 131,.pick 131 (.t 117) (.t 130) (.c (.bool false))] (.test 132 (.tg 132 true 25 [.m 133 0] (.only 25 (some (132,true)) (.cx (some 134) [.t 133,.c (.int .i64 3)] Mb) false [] (.tg 132 true 27 [.un 135 .not (.t 134)] (.tk 28 [.pick 136 (.t 132) (.t 135) (.c (.bool false))] .done)))) Tk))) (.sk 117 true 13 22 131 (.tk 24 [.m 132 131,.pick 131 (.t 117) (.t 130) (.c (.bool false))] Tk)))) [0,1,4,5,7,8,136]) (.cond (.t 136) (.region [.f 137 8 0,.l 138 137,.f 139 5 1,.store (.t 139) (.t 138) 1 false] [0,1,4,5,7]) .skip)))) (.region [.m 100 7,.bin 101 .add (.t 100) (.i 1),.m 7 101] [0,1,4,5,7])))
def Tm:AE:=(.seq (.region [.ls 140 5 6,.store (.t 4) (.t 140) 6 false] [4]) .ret)
def Tn:AE:=(.seq (.seq (.region [.f 47 5 0,.l 48 47] [0,1,4,5,48]) (.block 0 [4,5] (.seq (.region [.bin 50 .eql (.t 48) (.i 1),.m 49 50] [0,1,4,5,48,49]) (.cond (.t 49) (.seq (.region [.m 51 0,.brow 52 3 (.int .i64) [.c (.int .i64 1),.c (.int .i64 1),.c (.int .i64 2)],.cl 53 [51,52] TP,.f 54 5 3,.store (.t 54) (.t 53) 1 false] [0,1,4,5]) (.seq (.region [.m 55 0,.brow 56 9 .str [.c (.str ⟨#[97]⟩),.c (.str ⟨#[98]⟩),.c (.str ⟨#[99]⟩)],.cl 57 [55,56] bU,.f 58 5 4,.store (.t 58) (.t 57) 1 false] [0,1,4,5]) (.seqc [0,1,4,5] (.seq (.region [.f 59 5 3,.l 60 59,.bin 61 .eql (.t 60) (.i 1)] [0,1,4,5,61]) (.cond (.t 61) (.region [.m 62 0,.brow 63 9 .str [.c (.str ⟨#[118]⟩),.c (.str ⟨#[119]⟩),.c (.str ⟨#[120]⟩),.c (.str ⟨#[121]⟩)],.cl 64 [62,63] bU,.f 65 5 5,.store (.t 65) (.t 64) 1 false] [0,1,4,5]) .skip)) (.seq (.region [.mv 6 (.i 0)] [0,1,4,5,6]) (.block 1 [4,5] (.loop [0,1,4,5,6] Ve)))))) (.seq (.region [.bin 92 .eql (.t 48) (.i 5),.m 91 92] [0,1,4,5,91]) (.cond (.t 91) (.seq (.region [.mv 7 (.i 0)] [0,1,4,5,7]) (.block 3 [4,5] (.loop [0,1,4,5,7] Tl))) .skip)))))) Tm)
def To:AE:=(.seqc [0,1,4,5] (.seq (.region [.f 39 5 0,.l 40 39,.bin 41 .eql (.t 40) (.i 2),.m 42 41,.sc 42 true [.m 43 0,.cx (some 44) [.t 43,.c (.int .i64 2)] Mb] 45 (.t 44) (.c (.bool false))] [0,1,4,5,45]) (.cond (.t 45) (.region [.f 46 5 2,.store (.t 46) (.i 0) 1 false] [0,1,4,5]) .skip)) Tn)
def Tp:AE:=(.seqc [0,1,4,5] (.seq (.region [.m 18 1,.n 19 18,.f 20 19 2,.l 21 20,.len 22 false (.t 21),.bin 23 .eql (.t 22) (.i 0),.m 24 23,.sc 24 true [.f 25 5 0,.l 26 25,.cx (some 27) [.t 26,.c (.int .i64 2),.c (.int .i64 4)] Aj] 28 (.t 27) (.c (.bool false))] [0,1,4,5,28]) (.cond (.t 28) (.region [.f 29 5 0,.store (.t 29) (.i 1) 1 false] [0,1,4,5]) .skip)) (.seqc [0,1,4,5] (.seq (.region [.f 30 5 0,.l 31 30,.bin 32 .eql (.t 31) (.i 6),.m 33 32,.sc 33 true [.m 34 0,.cx (some 35) [.t 34,.c (.int .i64 4)] Mb,.un 36 .not (.t 35)] 37 (.t 36) (.c (.bool false))] [0,1,4,5,37]) (.cond (.t 37) (.region [.f 38 5 0,.store (.t 38) (.i 1) 1 false] [0,1,4,5]) .skip)) To))
def BR:A_:=⟨[.ptr BI,.ptr AM],[⟨4,true,AZ⟩],(.seq (.region [.al 4 AZ] [0,1,4]) (.seq (.region [.m 9 0,.blst 10 (.int .i64) [.c (.int .i64 1),.c (.int .i64 1),.c (.int .i64 1),.c (.int .i64 2),.c (.int .i64 2),.c (.int .i64 2),.c (.int .i64 2),.c (.int .i64 2),.c (.int .i64 2),.c (.int .i64 2),.c (.int .i64 2),.c (.int .i64 3),.c (.int .i64 4),.c (.int .i64 5),.c (.int .i64 6)],.cl 11 [9,10] TP,.m 12 0,.cx (some 13) [.t 12,.c (.int .i64 4)] Dm,.bin 14 .add (.i 1) (.t 13),.m 15 0,.cx (some 16) [.t 15,.c (.int .i64 20)] Dm,.bu 17 AZ [(0,1,.t 11),(1,1,.t 14),(2,1,.t 16)],.al 5 AZ,.store (.t 5) (.t 17) 6 false] [0,1,4,5]) Tp))⟩
theorem ro:Aq Tryz.prog 64 BR=true:=by kernel_rfl
def Vf:AE:=(.seq (.region [.b 16 .lss 15 14] [0,4,7,8,9,13,14,15,16]) (.seq (.cond (.t 16) .skip (.exit 2)) (.seq (.block 3 [0,4,7,8,9,13,14,15] (.seq (.region [.m 17 15,.idx 18 1 (.t 13) (.t 15),.l 19 18,.m 5 17,.m 6 19] [0,4,5,6,7,8,9,13,14,15]) (.seq (.region [.m 20 6,.cl 21 [20] Gw,.un 22 .not (.t 21),.m 23 22,.sc 23 false [.m 24 4,.m 25 6,.cl 26 [24,25] Ma,.m 27 5,.b 28 .neq 26 27] 29 (.c (.bool true)) (.t 28)] [0,4,7,8,9,13,14,15,29]) (.cond (.t 29) (.seq (.region [.mv 2 (.c (.bool false))] [2]) .ret) .skip)))) (.region [.bin 30 .add (.t 15) (.i 1),.m 15 30] [0,4,7,8,9,13,14,15]))))
def OF:AE:=(.seq (.region [.m 31 4,.len 32 false (.t 31),.cx (some 33) [.t 32,.c (.int .i64 1),.c (.int .i64 4)] Ap,.un 34 .not (.t 33)] [0,7,8,9,34]) (.cond (.t 34) (.seq (.region [.mv 2 (.c (.bool false))] [2]) .ret) .skip))
def Tq:AE:=(.region [.bin 35 .add (.t 9) (.i 1),.m 9 35] [0,7,8,9])
def Tr:AE:=(.seq (.region [.b 10 .lss 9 8] [0,7,8,9,10]) (.seq (.cond (.t 10) .skip (.exit 0)) (.seq (.block 1 [0,7,8,9] (.seq (.region [.idx 11 1 (.t 7) (.t 9),.l 12 11,.m 4 12] [0,4,7,8,9]) (.seq (.seq (.region [.m 13 4,.len 14 false (.t 13),.mv 15 (.i 0)] [0,4,7,8,9,13,14,15]) (.block 2 [0,4,7,8,9] (.loop [0,4,7,8,9,13,14,15] Vf))) OF))) Tq)))
def Ts:AE:=(.seq (.region [.m 36 0,.len 37 false (.t 36),.cx (some 38) [.t 37,.c (.int .i64 1),.c (.int .i64 9)] Ap,.m 2 38] [2]) .ret)
def Bz:A_:=⟨[.val (.slice (.slice (.int .i64)))],[⟨2,false,.bool⟩],(.seq (.region [.mv 2 (.c (.bool false))] [0]) (.seq (.seq (.region [.m 7 0,.len 8 false (.t 7),.mv 9 (.i 0)] [0,7,8,9]) (.block 0 [0] (.loop [0,7,8,9] Tr))) Ts))⟩
theorem rp:Aq Tryz.prog 65 Bz=true:=by kernel_rfl
def R9:AE:=(.seq (.region [.b 9 .lss 8 7] [3,6,7,8,9]) (.seq (.cond (.t 9) .skip (.exit 0)) (.seq (.block 1 [3,6,7,8] (.seq (.region [.idx 10 1 (.t 6) (.t 8),.l 11 10,.m 5 11] [3,5,6,7,8]) (.region [.m 12 3,.m 13 5,.cl 14 [13] Ch,.blst 15 (.slice (.int .i64)) [.t 14],.app 16 33 (.slice (.int .i64)) (.t 12) (.t 15),.m 3 16] [3,6,7,8]))) (.region [.bin 17 .add (.t 8) (.i 1),.m 8 17] [3,6,7,8]))))
def R_:AE:=(.seq (.region [.m 18 3,.m 2 18] [2]) .ret)
def DE:A_:=⟨[.val (.slice (.slice (.int .i64)))],[⟨2,false,(.slice (.slice (.int .i64)))⟩],(.seq (.region [.mv 2 (.c (.nil))] [0]) (.seq (.region [.nilrow 3 33 (.slice (.int .i64))] [0,3]) (.seq (.seq (.region [.m 6 0,.len 7 false (.t 6),.mv 8 (.i 0)] [3,6,7,8]) (.block 0 [3] (.loop [3,6,7,8] R9))) R_)))⟩
theorem mH:Aq Tryz.prog 66 DE=true:=by kernel_rfl
def SA:AE:=(.seq (.region [.m 16 1,.idx 17 1 (.t 16) (.i 0),.l 18 17,.idx 19 1 (.t 18) (.i 0),.l 20 19,.m 21 0,.b 22 .eql 20 21,.m 6 22] [0,1,4,6]) (.seq (.region [.m 23 0,.m 24 1,.idx 25 1 (.t 24) (.i 0),.l 26 25,.m 27 0,.cl 28 [26,27] Dv,.m 29 6,.m 30 6,.bu 31 U [(0,1,.t 23),(1,1,.c (.int .i64 1)),(3,1,.t 28),(4,1,.t 29),(5,1,.t 30)],.store (.t 4) (.t 31) 16 false,.mv 5 (.c (.bool true))] [4,5]) .ret))
def Fh:A_:=⟨[.val (.int .i64),.val (.slice (.slice (.int .i64)))],[⟨4,true,U⟩,⟨5,false,.bool⟩],(.seq (.region [.al 4 U,.mv 5 (.c (.bool false))] [0,1,4]) (.seq (.seq (.region [.m 7 0,.cl 8 [7] Gw,.un 9 .not (.t 8),.m 10 9,.sc 10 false [.m 11 1,.cl 12 [11] HB,.un 13 .not (.t 12)] 14 (.c (.bool true)) (.t 13)] [0,1,4,14]) (.cond (.t 14) (.seq (.region [.bu 15 U [],.store (.t 4) (.t 15) 16 false,.mv 5 (.c (.bool false))] [4,5]) .ret) .skip)) SA))⟩
theorem mI:Aq Tryz.prog 67 Fh=true:=by kernel_rfl
def bt:AE:=(.seq (.region [.m 27 0,.bin 28 .eql (.t 27) (.i 1),.m 29 28,.sc 29 false [.m 30 3,.bin 31 .eql (.t 30) (.c (.str ⟨#[]⟩))] 32 (.c (.bool true)) (.t 31),.m 8 32] [8]) .ret)
def Je:A_:=⟨[.val (.int .i64),.val (.int .i64),.val .str,.val .str],[⟨8,false,.bool⟩],(.seq (.region [.mv 8 (.c (.bool false))] [0,1,2,3]) (.seq (.seq (.region [.m 9 0,.cx (some 10) [.t 9,.c (.int .i64 1),.c (.int .i64 2)] Ap,.un 11 .not (.t 10),.m 12 11,.sc 12 false [.m 13 1,.cx (some 14) [.t 13,.c (.int .i64 0),.c (.int .i64 1000)] Ap,.un 15 .not (.t 14)] 16 (.c (.bool true)) (.t 15),.m 17 16,.sc 17 false [.m 18 2,.cl 19 [18] i6,.un 20 .not (.t 19)] 21 (.c (.bool true)) (.t 20),.m 22 21,.sc 22 false [.m 23 3,.len 24 true (.t 23),.bin 25 .gtr (.t 24) (.i 20)] 26 (.c (.bool true)) (.t 25)] [0,3,26]) (.cond (.t 26) (.seq (.region [.mv 8 (.c (.bool false))] [8]) .ret) .skip)) bt))⟩
theorem w_:Aq Tryz.prog 68 Je=true:=by kernel_rfl
def Hq:A_:=⟨[.ptr Ad,.val AZ,.val (.int .i64)],[⟨6,false,.bool⟩],(.seq (.region [.box 4 (.t 1) false,.mv 6 (.c (.bool false))] [0,2,4]) (.seq (.region [.m 13 0,.n 14 13,.f 15 14 3,.l 16 15,.len 17 false (.t 16),.m 7 17] [0,2,4,7]) (.seq (.draw (EE 18 [(1,[]),(5,[]),(7,[]),(9,[]),(11,[]),(12,[6,8,10,11]),(14,[4,13]),(15,[0,14])]) (.tk 13 [.bu 30 AG [(0,1,.t 24),(1,1,.t 26),(2,1,.t 28),(3,1,.t 29),(4,1,.c (.int .i64 (-1)))],.m 29 2,.l 28 27,.f 27 4 5,.l 26 25,.f 25 4 4,.l 24 23,.f 23 4 3,.l 22 21,.f 21 20 3,.n 20 19,.m 19 0,.m 18 0] (.only 13 none (.blst 31 AG [.t 30]) false [] (.only 14 none (.app 32 47 AG (.t 22) (.t 31)) false [] (.tk 17 [.f 34 33 3,.n 33 18] (.only 17 none (.store (.t 34) (.t 32) 1 false) false [] .done))))) [0,2,4,7]) (.seq (.region [.m 35 0,.f 36 4 1,.l 37 36,.cl 38 [35,37] G3,.m 8 38] [0,2,4,7,8]) (.seq (.draw (EE 29 [(4,[]),(5,[3,4]),(7,[]),(11,[]),(13,[]),(14,[]),(16,[]),(18,[6,10,12,13,15,17]),(21,[19]),(22,[19]),(23,[19]),(24,[]),(25,[20,24]),(26,[21,25]),(27,[22,26]),(28,[23,27])]) (.tk 18 [.l 57 56,.f 56 4 5,.l 55 54,.f 54 4 4,.m 53 7,.l 52 51,.f 51 4 3,.l 50 49,.f 49 48 0,.n 48 47,.m 47 0,.ls 46 45 16,.idx 45 16 (.t 43) (.t 44),.m 44 8,.l 43 42,.f 42 41 1,.n 41 40,.m 40 0] (.only 18 none (.cl 58 [46,50,52,53,55,57] wS) false [(24,.al 9 U)] (.tk 24 [.ext 62 (.t 39) 3,.ext 61 (.t 39) 2,.ext 60 (.t 39) 1,.ext 59 (.t 39) 0,.m 39 58] (.only 24 none (.al 9 U) true [] (.only 25 none (.store (.t 9) (.t 59) 16 false) false [] (.tk 29 [.m 12 62,.m 11 61,.m 10 60] .done)))))) [0,2,8,9,10,11,12]) (.seq (.seq (.region [.m 63 12,.un 64 .not (.t 63)] [0,2,8,9,10,11,64]) (.cond (.t 64) (.seq (.region [.mv 6 (.c (.bool false))] [6]) .ret) .skip)) (.seq (.draw (EE 8 [(4,[]),(5,[]),(6,[3,4,5])]) (.tk 7 [.idx 71 16 (.t 68) (.t 69),.ls 70 9 16,.m 69 8,.l 68 67,.f 67 66 1,.n 66 65,.m 65 0] (.only 7 none (.store (.t 71) (.t 70) 16 false) false [] .done)) [0,2,10,11]) (.seq (.region [.m 72 0,.m 73 10,.m 74 11,.m 75 2,.cl 76 [72,73,74,75] MZ] []) (.seq (.region [.mv 6 (.c (.bool true))] [6]) .ret)))))))))⟩
theorem gI:Aq Tryz.prog 69 Hq=true:=by kernel_rfl
def PB:AE:=(.seq (.seq (.region [.m 25 8,.m 26 0,.n 27 26,.f 28 27 0,.l 29 28,.len 30 false (.t 29),.b 31 .leq 25 30] [0,2,4,7,8,31]) (.cond (.t 31) .skip (.exit 0))) (.seq (.block 1 [0,2,4,7,8] (.seq (.seq (.draw (EE 13 [(4,[]),(6,[3,5]),(10,[]),(12,[9,11])]) (.tk 13 [.b 46 .neq 43 45,.l 45 44,.f 44 4 1,.l 43 42,.idx 42 1 (.t 41) (.i 0),.l 41 40,.idx 40 1 (.t 37) (.t 39),.bin 39 .sub (.t 38) (.i 1),.m 38 8,.l 37 36,.f 36 35 0,.n 35 34,.m 34 0] .done) [0,2,4,7,8,46]) (.cond (.t 46) (.exit 1) .skip)) (.seq (.draw (EE 21 [(4,[]),(5,[3,4]),(7,[]),(11,[]),(12,[6,10,11]),(15,[13]),(16,[13]),(17,[]),(18,[14,17]),(19,[15,18]),(20,[16,19])]) (.tk 12 [.m 59 8,.l 58 57,.f 57 56 0,.n 56 55,.m 55 0,.ls 54 53 16,.idx 53 16 (.t 51) (.t 52),.m 52 7,.l 51 50,.f 50 49 1,.n 49 48,.m 48 0] (.only 12 none (.cl 60 [54,58,59] wT) false [(17,.al 9 U)] (.tk 17 [.ext 63 (.t 47) 2,.ext 62 (.t 47) 1,.ext 61 (.t 47) 0,.m 47 60] (.only 17 none (.al 9 U) true [] (.only 18 none (.store (.t 9) (.t 61) 16 false) false [] (.tk 21 [.m 11 63,.m 10 62] .done)))))) [0,2,7,9,10,11]) (.seqc [11] (.seq (.region [.m 64 11] [0,2,7,9,10,11,64]) (.cond (.t 64) (.seq (.draw (EE 8 [(4,[]),(5,[]),(6,[3,4,5])]) (.tk 7 [.idx 71 16 (.t 68) (.t 69),.ls 70 9 16,.m 69 7,.l 68 67,.f 67 66 1,.n 66 65,.m 65 0] (.only 7 none (.store (.t 71) (.t 70) 16 false) false [] .done)) [0,2,10,11]) (.region [.m 72 0,.m 73 10,.m 74 2,.cx (some 75) [.t 72,.t 73,.c (.nil),.t 74] MZ] [11])) .skip)) (.seq (.region [.m 76 11,.m 6 76] [6]) .ret))))) (.region [.m 32 8,.bin 33 .add (.t 32) (.i 1),.m 8 33] [0,2,4,7,8])))
def No:AE:=(.seq (.region [.mv 6 (.c (.bool false))] [6]) .ret)
def CX:A_:=⟨[.ptr Ad,.val AZ,.val (.int .i64)],[⟨6,false,.bool⟩],(.seq (.region [.box 4 (.t 1) false,.mv 6 (.c (.bool false))] [0,2,4]) (.seq (.region [.m 12 0,.f 13 4 1,.l 14 13,.cl 15 [12,14] G3,.m 7 15] [0,2,4,7]) (.seq (.seq (.region [.m 16 0,.n 17 16,.f 18 17 1,.l 19 18,.m 20 7,.idx 21 16 (.t 19) (.t 20),.f 22 21 1,.l 23 22,.bin 24 .add (.t 23) (.i 1),.m 8 24] [0,2,4,7,8]) (.block 0 [] (.loop [0,2,4,7,8] PB))) No)))⟩
theorem gJ:Aq Tryz.prog 70 CX=true:=by kernel_rfl
def G4:A_:=⟨[.ptr Ad,.val (.int .i64)],[⟨4,false,(.int .i64)⟩],(.seq (.region [.fbox 3 (.t 1),.mv 4 (.i 0)] [0,3]) (.seq (.region [.m 5 0,.n 6 5,.f 7 6 1,.l 8 7,.clo 9 103 (.int .i64) (.t 3),.cl 10 [8,9] Ho,.m 4 10] [4]) .ret))⟩
theorem eQ:Aq Tryz.prog 71 G4=true:=by kernel_rfl
def Tt:A_:=⟨[.val U],[⟨2,true,Jb⟩],(.seq (.region [.box 1 (.t 0) true,.al 2 Jb] [1,2]) (.seq (.region [.f 3 1 0,.l 4 3,.f 5 1 1,.l 6 5,.bnew 7 [.int .i64 0,.int .i64 0,.bool false,.bool false,.bool false,.bool false,.new 3 (.int .i64) [],.new 38 AD [],.int .i64 0,.int .i64 0,.int .i64 0,.int .i64 0,.str ByteArray.empty,.str ByteArray.empty,.int .i64 0,.new 3 (.int .i64) []] [(0,1,.t 4),(1,1,.t 6),(2,1,.c (.bool true))],.store (.t 2) (.t 7) 16 false] [2]) .ret))⟩
theorem yY:Aq Tryz.prog 72 Tt=true:=by kernel_rfl
def Ga:A_:=⟨[.ptr Ad,.val AZ,.val (.int .i64)],[⟨6,false,.bool⟩],(.seq (.region [.box 4 (.t 1) false,.mv 6 (.c (.bool false))] [0,2,4]) (.seq (.seq (.region [.m 8 0,.n 9 8,.f 10 9 2,.l 11 10,.len 12 false (.t 11),.bin 13 .eql (.t 12) (.i 0)] [0,2,4,13]) (.cond (.t 13) (.seq (.region [.mv 6 (.c (.bool false))] [6]) .ret) .skip)) (.seq (.draw (EE 9 [(2,[]),(7,[1,6])]) (.tk 9 [.m 7 21,.b 21 .rem 15 20,.len 20 false (.t 19),.l 19 18,.f 18 17 2,.n 17 16,.m 16 0,.l 15 14,.f 14 4 2] .done) [0,2,4,7]) (.seq (.seq (.region [.f 22 4 0,.l 23 22] [0,2,7,23]) (.block 0 [] (.seq (.region [.bin 25 .eql (.t 23) (.i 2),.m 24 25] [0,2,7,23,24]) (.cond (.t 24) (.region [.m 26 0,.m 27 7,.m 28 2,.cl 29 [26,27,28] O7] []) (.seq (.region [.bin 31 .eql (.t 23) (.i 3),.m 30 31] [0,7,23,30]) (.cond (.t 30) (.region [.m 32 0,.m 33 0,.n 34 33,.f 35 34 2,.l 36 35,.m 37 7,.m 38 7,.bin 39 .add (.t 38) (.i 1),.cl 40 [36,37,39] GD,.n 41 32,.f 42 41 2,.store (.t 42) (.t 40) 1 false] []) (.seq (.region [.bin 44 .eql (.t 23) (.i 4),.m 43 44] [0,7,43]) (.cond (.t 43) (.draw (EE 18 [(1,[]),(5,[]),(9,[]),(10,[8,9]),(14,[4,13]),(15,[0,14])]) (.tk 12 [.ls 56 55 6,.idx 55 6 (.t 53) (.t 54),.m 54 7,.l 53 52,.f 52 51 2,.n 51 50,.m 50 0,.l 49 48,.f 48 47 2,.n 47 46,.m 46 0,.m 45 0] (.only 12 none (.cl 57 [56] Ru) false [] (.only 13 none (.blst 58 AH [.t 57]) false [] (.only 14 none (.app 59 97 AH (.t 49) (.t 58)) false [] (.tk 17 [.f 61 60 2,.n 60 45] (.only 17 none (.store (.t 61) (.t 59) 1 false) false [] .done)))))) []) .skip)))))))) (.seq (.region [.mv 6 (.c (.bool true))] [6]) .ret)))))⟩
theorem bw:Aq Tryz.prog 73 Ga=true:=by kernel_rfl
def Ir:A_:=⟨[.val U],[⟨2,true,U⟩],(.seq (.region [.box 1 (.t 0) false,.al 2 U] [1,2]) (.seq (.draw (EE 17 [(3,[]),(5,[2,4]),(6,[]),(9,[5,8]),(10,[2,4,8]),(11,[9,10])]) (.tk 2 [.l 4 3,.f 3 1 6] (.tk 5 [.l 7 6,.f 6 1 7] (.tk 9 [.l 11 10,.f 10 9 6,.f 9 1 9] (.only 2 none (.cl 5 [4] Ch) false [] (.tk 11 [.f 13 1 6] (.only 5 none (.cl 8 [7] BD) false [] (.only 9 none (.cl 12 [11] Ch) false [] (.only 11 none (.store (.t 13) (.t 5) 1 false) false [] (.tk 13 [.f 14 1 7] (.only 13 none (.store (.t 14) (.t 8) 1 false) false [] (.tk 16 [.f 16 15 6,.f 15 1 9] (.only 16 none (.store (.t 16) (.t 12) 1 false) false [] .done)))))))))))) [1,2]) (.seq (.region [.ls 17 1 16,.store (.t 2) (.t 17) 16 false] [2]) .ret)))⟩
theorem jA:Aq Tryz.prog 75 Ir=true:=by kernel_rfl
def Mj:A_:=⟨[.val AH],[⟨2,true,AH⟩],(.seq (.region [.box 1 (.t 0) false,.al 2 AH] [1,2]) (.seq (.region [.f 3 1 5,.l 4 3,.cl 5 [4] BD,.f 6 1 5,.store (.t 6) (.t 5) 1 false] [1,2]) (.seq (.region [.ls 7 1 6,.store (.t 2) (.t 7) 6 false] [2]) .ret)))⟩
theorem rq:Aq Tryz.prog 76 Mj=true:=by kernel_rfl
def Vg:AE:=(.seq (.seq (.region [.m 4 3,.m 5 0,.len 6 false (.t 5),.b 7 .lss 4 6] [0,3,7]) (.cond (.t 7) .skip (.exit 0))) (.seq (.block 1 [0,3] (.seq (.region [.m 10 0,.m 11 3,.idx 12 1 (.t 10) (.t 11),.l 13 12,.cl 14 [13] rd,.un 15 .not (.t 14)] [0,3,15]) (.cond (.t 15) (.seq (.region [.mv 2 (.c (.bool false))] [2]) .ret) .skip))) (.region [.m 8 3,.bin 9 .add (.t 8) (.i 1),.m 3 9] [0,3])))
def Vh:AE:=(.seq (.region [.m 16 0,.len 17 false (.t 16),.cx (some 18) [.t 17,.c (.int .i64 1),.c (.int .i64 9)] Aj,.m 2 18] [2]) .ret)
def ET:A_:=⟨[.val (.slice (.slice (.int .i64)))],[⟨2,false,.bool⟩],(.seq (.region [.mv 2 (.c (.bool false))] [0]) (.seq (.seq (.region [.mv 3 (.i 0)] [0,3]) (.block 0 [0] (.loop [0,3] Vg))) Vh))⟩
theorem ru:Aq Tryz.prog 77 ET=true:=by kernel_rfl
def Np:AE:=(.seq (.seq (.region [.m 6 4,.m 7 0,.len 8 false (.t 7),.b 9 .lss 6 8] [0,3,4,9]) (.cond (.t 9) .skip (.exit 0))) (.seq (.block 1 [0,3,4] (.region [.m 12 3,.brow 13 3 (.int .i64) [],.m 14 0,.m 15 4,.idx 16 1 (.t 14) (.t 15),.l 17 16,.app 18 3 (.int .i64) (.t 13) (.t 17),.blst 19 (.slice (.int .i64)) [.t 18],.app 20 33 (.slice (.int .i64)) (.t 12) (.t 19),.m 3 20] [0,3,4])) (.region [.m 10 4,.bin 11 .add (.t 10) (.i 1),.m 4 11] [0,3,4])))
def Nq:AE:=(.seq (.region [.m 21 3,.m 2 21] [2]) .ret)
def CO:A_:=⟨[.val (.slice (.slice (.int .i64)))],[⟨2,false,(.slice (.slice (.int .i64)))⟩],(.seq (.region [.mv 2 (.c (.nil))] [0]) (.seq (.region [.brow 5 33 (.slice (.int .i64)) [],.m 3 5] [0,3]) (.seq (.seq (.region [.mv 4 (.i 0)] [0,3,4]) (.block 0 [3] (.loop [0,3,4] Np))) Nq)))⟩
theorem eR:Aq Tryz.prog 78 CO=true:=by kernel_rfl
def SB:AE:=(.seq (.region [.m 16 0,.m 17 1,.idx 18 1 (.t 17) (.i 0),.l 19 18,.m 20 0,.cl 21 [19,20] FF,.bu 22 U [(0,1,.t 16),(1,1,.c (.int .i64 1)),(3,1,.t 21)],.al 6 U,.store (.t 6) (.t 22) 16 false] [0,1,4,6]) (.seq (.region [.m 23 1,.idx 24 1 (.t 23) (.i 0),.l 25 24,.idx 26 1 (.t 25) (.i 0),.l 27 26,.m 28 0,.b 29 .eql 27 28,.f 30 6 4,.store (.t 30) (.t 29) 1 false] [4,6]) (.seq (.region [.f 31 6 4,.l 32 31,.f 33 6 5,.store (.t 33) (.t 32) 1 false] [4,6]) (.seq (.region [.ls 34 6 16,.store (.t 4) (.t 34) 16 false,.mv 5 (.c (.bool true))] [4,5]) .ret))))
def Fi:A_:=⟨[.val (.int .i64),.val (.slice (.slice (.int .i64)))],[⟨4,true,U⟩,⟨5,false,.bool⟩],(.seq (.region [.al 4 U,.mv 5 (.c (.bool false))] [0,1,4]) (.seq (.seq (.region [.m 7 1,.cl 8 [7] JF,.un 9 .not (.t 8),.m 10 9,.sc 10 false [.m 11 0,.cx (some 12) [.t 11,.c (.int .i64 1),.c (.int .i64 6)] Aj,.un 13 .not (.t 12)] 14 (.c (.bool true)) (.t 13)] [0,1,4,14]) (.cond (.t 14) (.seq (.region [.bu 15 U [],.store (.t 4) (.t 15) 16 false,.mv 5 (.c (.bool false))] [4,5]) .ret) .skip)) SB))⟩
theorem mJ:Aq Tryz.prog 79 Fi=true:=by kernel_rfl
def Kp:A_:=⟨[.ptr AM,.val (.int .i64),.val AZ],[⟨6,false,(.int .i64)⟩],(.seq (.region [.box 5 (.t 2) false,.mv 6 (.i 0)] [0,1,5]) (.seq (.draw (EE 20 [(1,[]),(2,[]),(6,[1,5]),(7,[]),(9,[]),(11,[]),(13,[]),(14,[8,10,12,13]),(16,[6,15]),(17,[0,16])]) (.tk 1 [.m 11 0] (.tk 6 [.l 16 15,.f 15 14 3,.n 14 13,.m 13 0] (.tk 15 [.bu 25 AG [(0,1,.t 19),(1,1,.t 21),(2,1,.t 23),(3,1,.t 24),(4,1,.c (.int .i64 (-1)))],.m 24 1,.l 23 22,.f 22 5 5,.l 21 20,.f 20 5 4,.l 19 18,.f 18 5 3] (.only 1 none (.brow 12 47 AG []) false [(15,.blst 26 AG [.t 25])] (.only 6 none (.app 17 47 AG (.t 12) (.t 16)) false [(15,.blst 26 AG [.t 25])] (.only 15 none (.blst 26 AG [.t 25]) true [] (.only 16 none (.app 27 47 AG (.t 17) (.t 26)) false [] (.tk 19 [.f 29 28 3,.n 28 11] (.only 19 none (.store (.t 29) (.t 27) 1 false) false [] .done))))))))) [0,1,5]) (.seq (.draw (EE 36 [(4,[]),(7,[3,6]),(9,[]),(13,[]),(15,[]),(21,[]),(23,[]),(25,[8,12,14,20,22,24]),(28,[26]),(29,[26]),(30,[26]),(31,[]),(32,[27,31]),(33,[28,32]),(34,[29,33]),(35,[30,34])]) (.tk 25 [.l 55 54,.f 54 5 5,.l 53 52,.f 52 5 4,.bin 51 .sub (.t 50) (.i 1),.len 50 false (.t 49),.l 49 48,.f 48 47 3,.n 47 46,.m 46 0,.l 45 44,.f 44 5 3,.l 43 42,.f 42 41 0,.n 41 40,.m 40 0,.ls 39 38 16,.idx 38 16 (.t 34) (.t 37),.bin 37 .sub (.t 36) (.i 1),.l 36 35,.f 35 5 1,.l 34 33,.f 33 32 1,.n 32 31,.m 31 0] (.only 25 none (.cl 56 [39,43,45,51,53,55] wU) false [(31,.al 7 U)] (.tk 31 [.ext 60 (.t 30) 3,.ext 59 (.t 30) 2,.ext 58 (.t 30) 1,.ext 57 (.t 30) 0,.m 30 56] (.only 31 none (.al 7 U) true [] (.only 32 none (.store (.t 7) (.t 57) 16 false) false [] (.tk 36 [.m 10 60,.m 9 59,.m 8 58] .done)))))) [0,1,7,8,9,10]) (.seq (.seq (.region [.m 61 10,.un 62 .not (.t 61)] [0,1,7,8,9,62]) (.cond (.t 62) (.seq (.region [.mv 6 (.i 1)] [6]) .ret) .skip)) (.seq (.region [.m 63 0,.ls 64 7 16,.m 65 8,.m 66 9,.m 67 1,.cl 68 [63,64,65,66,67] Jc] []) (.seq (.region [.mv 6 (.i 0)] [6]) .ret))))))⟩
theorem oq:Aq Tryz.prog 80 Kp=true:=by kernel_rfl
def Tu:AE:=(.seq (.seq (.region [.m 23 8,.m 24 0,.n 25 24,.f 26 25 0,.l 27 26,.len 28 false (.t 27),.b 29 .leq 23 28] [0,1,2,7,8,29]) (.cond (.t 29) .skip (.exit 0))) (.seq (.block 1 [0,1,2,7,8] (.seq (.seq (.region [.m 32 0,.n 33 32,.f 34 33 0,.l 35 34,.m 36 8,.bin 37 .sub (.t 36) (.i 1),.idx 38 1 (.t 35) (.t 37),.l 39 38,.idx 40 1 (.t 39) (.i 0),.l 41 40,.m 42 2,.b 43 .neq 41 42] [0,1,2,7,8,43]) (.cond (.t 43) (.exit 1) .skip)) (.seq (.draw (EE 15 [(1,[]),(5,[]),(6,[0,4,5]),(9,[7]),(10,[7]),(11,[]),(12,[8,11]),(13,[9,12]),(14,[10,13])]) (.tk 6 [.m 50 8,.l 49 48,.f 48 47 0,.n 47 46,.m 46 0,.ls 45 7 16] (.only 6 none (.cl 51 [45,49,50] wV) false [(11,.al 9 U)] (.tk 11 [.ext 54 (.t 44) 2,.ext 53 (.t 44) 1,.ext 52 (.t 44) 0,.m 44 51] (.only 11 none (.al 9 U) true [] (.only 12 none (.store (.t 9) (.t 52) 16 false) false [] (.tk 15 [.m 11 54,.m 10 53] .done)))))) [0,1,9,10,11]) (.seq (.seq (.region [.m 55 11,.un 56 .not (.t 55)] [0,1,9,10,56]) (.cond (.t 56) (.seq (.region [.mv 6 (.i 1)] [6]) .ret) .skip)) (.seq (.region [.m 57 0,.ls 58 9 16,.m 59 10,.brow 60 126 Ay [],.m 61 1,.cl 62 [57,58,59,60,61] Jc] []) (.seq (.region [.mv 6 (.i 0)] [6]) .ret)))))) (.region [.m 30 8,.bin 31 .add (.t 30) (.i 1),.m 8 31] [0,1,2,7,8])))
def SC:AE:=(.seq (.region [.mv 6 (.i 1)] [6]) .ret)
def Dq:A_:=⟨[.ptr AM,.val (.int .i64),.val (.int .i64)],[⟨6,false,(.int .i64)⟩],(.seq (.region [.mv 6 (.i 0)] [0,1,2]) (.seq (.region [.m 12 0,.n 13 12,.f 14 13 1,.l 15 14,.m 16 2,.bin 17 .sub (.t 16) (.i 1),.idx 18 16 (.t 15) (.t 17),.ls 19 18 16,.al 7 U,.store (.t 7) (.t 19) 16 false] [0,1,2,7]) (.seq (.seq (.region [.f 20 7 1,.l 21 20,.bin 22 .add (.t 21) (.i 1),.m 8 22] [0,1,2,7,8]) (.block 0 [] (.loop [0,1,2,7,8] Tu))) SC)))⟩
theorem ot:Aq Tryz.prog 81 Dq=true:=by kernel_rfl
def Qi:AE:=(.seq (.region [.brow 72 47 AG [],.m 73 0,.n 74 73,.f 75 74 3,.l 76 75,.app 77 47 AG (.t 72) (.t 76),.m 13 77] [0,3,4,11,12,13]) (.seq (.region [.m 78 13,.f 79 12 0,.l 80 79,.idx 81 9 (.t 78) (.t 80),.m 14 81] [0,3,4,11,12,13,14]) (.seq (.region [.m 82 14,.m 83 4,.n 84 82,.f 85 84 4,.store (.t 85) (.t 83) 1 false] [0,3,4,11,12,13,14]) (.seq (.region [.m 86 14,.f 87 12 3,.f 88 87 2,.l 89 88,.n 90 86,.f 91 90 5,.store (.t 91) (.t 89) 1 false] [0,3,4,11,12,13,14]) (.seq (.region [.m 92 14,.f 93 12 1,.l 94 93,.n 95 92,.f 96 95 6,.store (.t 96) (.t 94) 1 false] [0,3,4,11,12,13,14]) (.seq (.region [.m 97 14,.f 98 12 2,.l 99 98,.n 100 97,.f 101 100 7,.store (.t 101) (.t 99) 1 false] [0,3,4,11,12,13,14]) (.seqc [0,3,4,11,13] (.seq (.region [.m 102 14,.n 103 102,.f 104 103 0,.l 105 104,.bin 106 .eql (.t 105) (.i 2)] [0,3,4,11,12,13,14,106]) (.cond (.t 106) (.region [.m 107 14,.f 108 12 3,.f 109 108 1,.l 110 109,.n 111 107,.f 112 111 8,.store (.t 112) (.t 110) 1 false] [0,3,4,11,13]) .skip)) (.region [.m 113 0,.m 114 13,.n 115 113,.f 116 115 3,.store (.t 116) (.t 114) 1 false] [0,3,4,11]))))))))
def Qj:AE:=(.region [.m 46 11,.bin 47 .add (.t 46) (.i 1),.m 11 47] [0,3,4,11])
def Qk:AE:=(.seq (.seq (.region [.m 42 11,.m 43 3,.len 44 false (.t 43),.b 45 .lss 42 44] [0,3,4,11,45]) (.cond (.t 45) .skip (.exit 0))) (.seq (.block 1 [0,3,4,11] (.seq (.region [.m 48 3,.m 49 11,.idx 50 6 (.t 48) (.t 49),.ls 51 50 6,.al 12 Ay,.store (.t 12) (.t 51) 6 false] [0,3,4,11,12]) (.seq (.seq (.draw (EE 20 [(2,[]),(7,[1,6]),(13,[8]),(15,[12,14])]) (.tk 9 [.m 60 59,.b 59 .geq 53 58,.len 58 false (.t 57),.l 57 56,.f 56 55 3,.n 55 54,.m 54 0,.l 53 52,.f 52 12 0] (.test 60 (.sk 60 false 10 19 71 (.tk 20 [.pick 71 (.t 60) (.c (.bool true)) (.t 70)] .done)) (.tg 60 false 19 [.bin 70 .geq (.t 69) (.i 0),.l 69 68,.f 68 67 4,.idx 67 9 (.t 64) (.t 66),.l 66 65,.f 65 12 0,.l 64 63,.f 63 62 3,.n 62 61,.m 61 0] (.tk 20 [.pick 71 (.t 60) (.c (.bool true)) (.t 70)] .done)))) [0,3,4,11,12,71]) (.cond (.t 71) (.exit 1) .skip)) Qi))) Qj))
def Cj:A_:=⟨[.ptr AM,.val U,.val (.slice AH),.val (.slice Ay),.val (.int .i64)],[],(.seq (.region [.box 6 (.t 1) false] [0,2,3,4,6]) (.seq (.region [.brow 15 42 U [],.m 16 0,.n 17 16,.f 18 17 1,.l 19 18,.app 20 42 U (.t 15) (.t 19),.m 10 20] [0,2,3,4,6,10]) (.seq (.region [.m 21 10,.f 22 6 0,.l 23 22,.bin 24 .sub (.t 23) (.i 1),.ls 25 6 16,.idx 26 16 (.t 21) (.t 24),.store (.t 26) (.t 25) 16 false] [0,2,3,4,10]) (.seq (.region [.m 27 0,.m 28 10,.n 29 27,.f 30 29 1,.store (.t 30) (.t 28) 1 false] [0,2,3,4]) (.seq (.region [.m 31 0,.brow 32 97 AH [],.m 33 0,.n 34 33,.f 35 34 2,.l 36 35,.app 37 97 AH (.t 32) (.t 36),.m 38 2,.app 39 97 AH (.t 37) (.t 38),.n 40 31,.f 41 40 2,.store (.t 41) (.t 39) 1 false] [0,3,4]) (.seq (.region [.mv 11 (.i 0)] [0,3,4,11]) (.block 0 [] (.loop [0,3,4,11] Qk))))))))⟩
theorem mK:Aq Tryz.prog 82 Cj=true:=by kernel_rfl
def Tv:A_:=⟨[.val U],[⟨2,true,Jb⟩],(.seq (.region [.box 1 (.t 0) true,.al 2 Jb] [1,2]) (.seq (.region [.f 3 1 0,.l 4 3,.f 5 1 1,.l 6 5,.bnew 7 [.int .i64 0,.int .i64 0,.bool false,.bool false,.bool false,.bool false,.new 3 (.int .i64) [],.new 38 AD [],.int .i64 0,.int .i64 0,.int .i64 0,.int .i64 0,.str ByteArray.empty,.str ByteArray.empty,.int .i64 0,.new 3 (.int .i64) []] [(0,1,.t 4),(1,1,.t 6),(2,1,.c (.bool true))],.store (.t 2) (.t 7) 16 false] [2]) .ret))⟩
theorem yZ:Aq Tryz.prog 83 Tv=true:=by kernel_rfl

def Ow:A_:=⟨[.ptr AM,.val (.int .i64),.val AZ],[⟨6,false,(.int .i64)⟩],(.seq (.region [.box 5 (.t 2) false,.mv 6 (.i 0)] [0,1,5]) (.seq (.seq (.region [.m 12 0,.n 13 12,.f 14 13 2,.l 15 14,.len 16 false (.t 15),.bin 17 .eql (.t 16) (.i 0)] [0,1,5,17]) (.cond (.t 17) (.seq (.region [.mv 6 (.i 1)] [6]) .ret) .skip)) (.seq (.draw (EE 9 [(2,[]),(7,[1,6])]) (.tk 9 [.m 7 25,.b 25 .rem 19 24,.len 24 false (.t 23),.l 23 22,.f 22 21 2,.n 21 20,.m 20 0,.l 19 18,.f 18 5 2] .done) [0,1,5,7]) (.seq (.region [.m 26 0,.n 27 26,.f 28 27 2,.l 29 28,.m 30 7,.idx 31 6 (.t 29) (.t 30),.ls 32 31 6,.al 8 AH,.store (.t 8) (.t 32) 6 false] [0,1,5,7,8]) (.seq (.seq (.region [.f 33 5 0,.l 34 33,.bin 35 .eql (.t 34) (.i 4)] [0,1,5,7,8,35]) (.cond (.t 35) (.seq (.draw (EE 13 [(1,[]),(2,[]),(6,[1,5]),(7,[]),(9,[6,8]),(10,[0,9])]) (.tk 1 [.m 36 0] (.tk 6 [.l 41 40,.f 40 39 2,.n 39 38,.m 38 0] (.tk 8 [.ls 43 8 6] (.only 1 none (.brow 37 97 AH []) false [(8,.blst 44 AH [.t 43])] (.only 6 none (.app 42 97 AH (.t 37) (.t 41)) false [(8,.blst 44 AH [.t 43])] (.only 8 none (.blst 44 AH [.t 43]) true [] (.only 9 none (.app 45 97 AH (.t 42) (.t 44)) false [] (.tk 12 [.f 47 46 2,.n 46 36] (.only 12 none (.store (.t 47) (.t 45) 1 false) false [] .done))))))))) []) (.seq (.region [.mv 6 (.i 0)] [6]) .ret)) .skip)) (.seq (.draw (EE 20 [(1,[]),(2,[]),(6,[]),(7,[5,6]),(8,[1,7]),(9,[]),(13,[]),(15,[12,14]),(16,[8,15]),(17,[0,16])]) (.tk 1 [.m 48 0] (.tk 8 [.sl 55 6 (.t 53) none (some (.t 54)),.m 54 7,.l 53 52,.f 52 51 2,.n 51 50,.m 50 0] (.tk 16 [.sl 63 6 (.t 60) (some (.t 62)) none,.bin 62 .add (.t 61) (.i 1),.m 61 7,.l 60 59,.f 59 58 2,.n 58 57,.m 57 0] (.only 1 none (.brow 49 97 AH []) false [] (.only 8 none (.app 56 97 AH (.t 49) (.t 55)) false [] (.only 16 none (.app 64 97 AH (.t 56) (.t 63)) false [] (.tk 19 [.f 66 65 2,.n 65 48] (.only 19 none (.store (.t 66) (.t 64) 1 false) false [] .done)))))))) [0,1,5,8]) (.seq (.seq (.region [.f 67 5 0,.l 68 67,.bin 69 .eql (.t 68) (.i 3)] [0,1,8,69]) (.cond (.t 69) (.seq (.region [.mv 6 (.i 0)] [6]) .ret) .skip)) (.seq (.draw (EE 23 [(4,[]),(7,[3,6]),(9,[]),(13,[]),(14,[8,12,13]),(17,[15]),(18,[15]),(19,[]),(20,[16,19]),(21,[17,20]),(22,[18,21])]) (.tk 14 [.ls 84 8 6,.l 83 82,.f 82 81 0,.n 81 80,.m 80 0,.ls 79 78 16,.idx 78 16 (.t 74) (.t 77),.bin 77 .sub (.t 76) (.i 1),.l 76 75,.f 75 8 2,.l 74 73,.f 73 72 1,.n 72 71,.m 71 0] (.only 14 none (.cl 85 [79,83,84] re) false [(19,.al 9 U)] (.tk 19 [.ext 88 (.t 70) 2,.ext 87 (.t 70) 1,.ext 86 (.t 70) 0,.m 70 85] (.only 19 none (.al 9 U) true [] (.only 20 none (.store (.t 9) (.t 86) 16 false) false [] (.tk 23 [.m 11 88,.m 10 87] .done)))))) [0,1,9,10,11]) (.seq (.region [.m 89 0,.ls 90 9 16,.m 91 10,.m 92 11,.m 93 1,.cl 94 [89,90,91,92,93] Jc] []) (.seq (.region [.mv 6 (.i 0)] [6]) .ret))))))))))⟩
theorem uf:Aq Tryz.prog 84 Ow=true:=by kernel_rfl
def PD:AE:=(.seq (.seq (.region [.m 7 4,.m 8 0,.len 9 false (.t 8),.b 10 .lss 7 9] [0,3,4,10]) (.cond (.t 10) .skip (.exit 0))) (.seq (.block 1 [0,3,4] (.seq (.region [.m 13 0,.m 14 4,.idx 15 6 (.t 13) (.t 14),.ls 16 15 6,.al 5 AH,.store (.t 5) (.t 16) 6 false] [0,3,4,5]) (.seq (.region [.brow 17 38 AD [],.f 18 5 5,.l 19 18,.app 20 38 AD (.t 17) (.t 19),.f 21 5 5,.store (.t 21) (.t 20) 1 false] [0,3,4,5]) (.region [.m 22 3,.ls 23 5 6,.blst 24 AH [.t 23],.app 25 97 AH (.t 22) (.t 24),.m 3 25] [0,3,4])))) (.region [.m 11 4,.bin 12 .add (.t 11) (.i 1),.m 4 12] [0,3,4])))
def PE:AE:=(.seq (.region [.m 26 3,.m 2 26] [2]) .ret)
def CY:A_:=⟨[.val (.slice AH)],[⟨2,false,(.slice AH)⟩],(.seq (.region [.mv 2 (.c (.nil))] [0]) (.seq (.region [.brow 6 97 AH [],.m 3 6] [0,3]) (.seq (.seq (.region [.mv 4 (.i 0)] [0,3,4]) (.block 0 [3] (.loop [0,3,4] PD))) PE)))⟩
theorem gK:Aq Tryz.prog 85 CY=true:=by kernel_rfl
def Mk:A_:=⟨[.val U],[⟨2,true,U⟩],(.seq (.region [.box 1 (.t 0) false,.al 2 U] [1,2]) (.seq (.region [.brow 3 3 (.int .i64) [],.f 4 1 6,.l 5 4,.app 6 3 (.int .i64) (.t 3) (.t 5),.f 7 1 6,.store (.t 7) (.t 6) 1 false] [1,2]) (.seq (.region [.brow 8 38 AD [],.f 9 1 7,.l 10 9,.app 11 38 AD (.t 8) (.t 10),.f 12 1 7,.store (.t 12) (.t 11) 1 false] [1,2]) (.seq (.region [.brow 13 3 (.int .i64) [],.f 14 1 9,.f 15 14 6,.l 16 15,.app 17 3 (.int .i64) (.t 13) (.t 16),.f 18 1 9,.f 19 18 6,.store (.t 19) (.t 17) 1 false] [1,2]) (.seq (.region [.ls 20 1 16,.store (.t 2) (.t 20) 16 false] [2]) .ret)))))⟩
theorem rz:Aq Tryz.prog 86 Mk=true:=by kernel_rfl
def RX:A_:=⟨[.val .str],[⟨2,false,.bool⟩],(.seq (.region [.mv 2 (.c (.bool false))] [0]) (.seq (.region [.m 3 0,.len 4 true (.t 3),.cx (some 5) [.t 4,.c (.int .i64 1),.c (.int .i64 12)] Ap,.m 2 5] [2]) .ret))⟩
theorem xA:Aq Tryz.prog 87 RX=true:=by kernel_rfl
def Vi:AE:=(.seq (.region [.m 50 1,.ls 51 5 6,.cl 52 [9,50,51] gE,.m 49 52,.ext 53 (.t 49) 0,.ext 54 (.t 49) 1,.m 10 53,.m 11 54] [6,9,10,11]) (.seq (.region [.ls 55 9 16,.cl 56 [55] GV,.m 57 10,.m 58 11,.store (.t 6) (.t 56) 16 false,.m 7 57,.m 8 58] [6,7,8]) .ret))
def HH:A_:=⟨[.val U,.val (.slice (.slice (.int .i64))),.val AH],[⟨6,true,U⟩,⟨7,false,(.slice AH)⟩,⟨8,false,(.slice Ay)⟩],(.seq (.region [.box 3 (.t 0) false,.box 5 (.t 2) false,.al 6 U,.mv 7 (.c (.nil)),.mv 8 (.c (.nil))] [1,3,5,6]) (.seq (.region [.ls 12 3 16,.cl 13 [12] GV,.al 9 U,.store (.t 9) (.t 13) 16 false] [1,3,5,6,9]) (.seq (.seq (.region [.f 14 5 2,.l 15 14,.f 16 3 0,.l 17 16,.b 18 .neq 15 17,.m 19 18,.sc 19 false [.f 20 5 3,.l 21 20,.f 22 3 1,.l 23 22,.b 24 .lss 21 23] 25 (.c (.bool true)) (.t 24),.m 26 25,.sc 26 false [.f 27 5 3,.l 28 27,.m 29 1,.len 30 false (.t 29),.b 31 .gtr 28 30] 32 (.c (.bool true)) (.t 31),.m 33 32,.sc 33 false [.ls 34 3 16,.cl 35 [34] Pk,.un 36 .not (.t 35)] 37 (.c (.bool true)) (.t 36),.m 38 37,.sc 38 false [.m 39 1,.cl 40 [39] HB,.un 41 .not (.t 40)] 42 (.c (.bool true)) (.t 41),.m 43 42,.sc 43 false [.ls 44 5 6,.cl 45 [44] wW,.un 46 .not (.t 45)] 47 (.c (.bool true)) (.t 46)] [1,5,6,9,47]) (.cond (.t 47) (.seq (.region [.ls 48 9 16,.store (.t 6) (.t 48) 16 false,.mv 7 (.c (.nil)),.mv 8 (.c (.nil))] [6,7,8]) .ret) .skip)) Vi)))⟩
theorem r_:Aq Tryz.prog 89 HH=true:=by kernel_rfl
def Ql:AE:=(.seq (.draw (EE 8 [(4,[]),(6,[3,5])]) (.tk 8 [.m 10 54,.idx 54 9 (.t 51) (.t 53),.l 53 52,.f 52 9 0,.l 51 50,.f 50 49 3,.n 49 48,.m 48 0] .done) [0,3,9,10,20,21,22]) (.seq (.draw (EE 24 [(1,[]),(2,[]),(3,[]),(4,[]),(5,[]),(8,[]),(10,[]),(12,[0,4]),(15,[1,7,14]),(18,[2,9,17]),(21,[3,11,20])]) (.tk 14 [.f 68 67 4,.n 67 55,.l 66 65,.f 65 9 2,.l 64 63,.f 63 9 1,.l 62 61,.f 61 60 2,.f 60 9 3,.m 59 3,.m 58 10,.m 57 10,.m 56 10,.m 55 10] (.only 14 none (.store (.t 68) (.t 59) 1 false) false [] (.tk 17 [.f 70 69 5,.n 69 56] (.only 17 none (.store (.t 70) (.t 62) 1 false) false [] (.tk 20 [.f 72 71 6,.n 71 57] (.only 20 none (.store (.t 72) (.t 64) 1 false) false [] (.tk 23 [.f 74 73 7,.n 73 58] (.only 23 none (.store (.t 74) (.t 66) 1 false) false [] .done)))))))) [0,3,9,10,20,21,22]) (.seq (.region [.m 75 10,.n 76 75,.f 77 76 0,.l 78 77,.bin 79 .eql (.t 78) (.i 2)] [0,3,9,10,20,21,22,79]) (.cond (.t 79) (.region [.m 80 10,.f 81 9 3,.f 82 81 1,.l 83 82,.n 84 80,.f 85 84 8,.store (.t 85) (.t 83) 1 false] [0,3,20,21,22]) .skip))))
def Qm:AE:=(.region [.bin 86 .add (.t 22) (.i 1),.m 22 86] [0,3,20,21,22])
def Qn:AE:=(.seq (.region [.b 23 .lss 22 21] [0,3,20,21,22,23]) (.seq (.cond (.t 23) .skip (.exit 0)) (.seq (.block 1 [0,3,20,21,22] (.seq (.region [.idx 24 6 (.t 20) (.t 22),.ls 25 24 6,.al 9 Ay,.store (.t 9) (.t 25) 6 false] [0,3,9,20,21,22]) (.seq (.seq (.draw (EE 22 [(2,[]),(8,[1,7]),(15,[10]),(17,[14,16])]) (.tk 8 [.bin 33 .sub (.t 32) (.i 1),.len 32 false (.t 31),.l 31 30,.f 30 29 3,.n 29 28,.m 28 0,.l 27 26,.f 26 9 0] (.only 8 none (.cx (some 34) [.t 27,.c (.int .i64 0),.t 33] Ap) false [] (.tk 11 [.m 36 35,.un 35 .not (.t 34)] (.test 36 (.sk 36 false 10 21 47 (.tk 22 [.pick 47 (.t 36) (.c (.bool true)) (.t 46)] .done)) (.tg 36 false 21 [.bin 46 .neq (.t 45) (.c (.int .i64 (-1))),.l 45 44,.f 44 43 4,.idx 43 9 (.t 40) (.t 42),.l 42 41,.f 41 9 0,.l 40 39,.f 39 38 3,.n 38 37,.m 37 0] (.tk 22 [.pick 47 (.t 36) (.c (.bool true)) (.t 46)] .done)))))) [0,3,9,20,21,22,47]) (.cond (.t 47) (.exit 1) .skip)) Ql))) Qm)))
def CS:A_:=⟨[.ptr Ad,.val (.slice AH),.val (.slice Ay),.val (.int .i64)],[],(.seq (.region [.m 11 0,.m 12 0,.n 13 12,.f 14 13 2,.l 15 14,.m 16 1,.app 17 97 AH (.t 15) (.t 16),.n 18 11,.f 19 18 2,.store (.t 19) (.t 17) 1 false] [0,2,3]) (.seq (.region [.m 20 2,.len 21 false (.t 20),.mv 22 (.i 0)] [0,3,20,21,22]) (.block 0 [] (.loop [0,3,20,21,22] Qn))))⟩
theorem jB:Aq Tryz.prog 90 CS=true:=by kernel_rfl
def BV:A_:=⟨[.val (.slice AG),.val (.clo 92 AG)],[⟨4,false,.bool⟩],(.seq (.region [.mv 4 (.c (.bool false))] [0,1]) (.seq (.region [.m 5 0,.m 6 1,.cl 7 [5,6] JG,.bin 8 .geq (.t 7) (.i 0),.m 4 8] [4]) .ret))⟩
theorem IJ:Aq Tryz.prog 91 BV=true:=by kernel_rfl
def Ml:A_:=⟨[.val AG,.val AG],[⟨3,false,.bool⟩],(.seq (.region [.box 2 (.t 0) false,.mv 3 (.c (.bool false))] [1,2]) (.seq (.region [.f 4 2 0,.l 5 4,.bin 6 .eql (.t 5) (.i 1),.m 7 6,.sc 7 true [.f 8 2 1,.l 9 8,.f 10 1 1,.l 11 10,.b 12 .eql 9 11] 13 (.t 12) (.c (.bool false)),.m 14 13,.sc 14 true [.f 15 2 2,.l 16 15,.f 17 1 8,.l 18 17,.b 19 .eql 16 18] 20 (.t 19) (.c (.bool false)),.m 21 20,.sc 21 true [.ls 22 2 9,.cl 23 [22] IW,.un 24 .not (.t 23),.m 25 24,.sc 25 false [.f 26 2 5,.l 27 26,.f 28 1 5,.l 29 28,.b 30 .eql 27 29] 31 (.c (.bool true)) (.t 30)] 32 (.t 31) (.c (.bool false)),.m 3 32] [3]) .ret))⟩
theorem sA:Aq Tryz.prog 92 Ml=true:=by kernel_rfl
def KX:AE:=(.seq (.region [.b 9 .lss 8 7] [0,1,7,8,9]) (.seq (.cond (.t 9) .skip (.exit 0)) (.seq (.block 1 [0,1,7,8] (.seq (.region [.m 10 8,.m 5 10] [0,1,5,7,8]) (.seq (.region [.m 11 1,.m 12 0,.m 13 5,.idx 14 1 (.t 12) (.t 13),.l 15 14,.b 16 .eql 11 15] [0,1,5,7,8,16]) (.cond (.t 16) (.seq (.region [.m 17 5,.m 4 17] [4]) .ret) .skip)))) (.region [.bin 18 .add (.t 8) (.i 1),.m 8 18] [0,1,7,8]))))
def KY:AE:=(.seq (.region [.mv 4 (.c (.int .i64 (-1)))] [4]) .ret)
def Bi:A_:=⟨[.val (.slice (.int .i64)),.val (.int .i64)],[⟨4,false,(.int .i64)⟩],(.seq (.region [.mv 4 (.i 0)] [0,1]) (.seq (.seq (.region [.m 6 0,.len 7 false (.t 6),.mv 8 (.i 0)] [0,1,7,8]) (.block 0 [] (.loop [0,1,7,8] KX))) KY))⟩
theorem XU:Aq Tryz.prog 95 Bi=true:=by kernel_rfl
def Is:A_:=⟨[.ptr BI,.val (.slice (.int .i64))],[⟨4,false,(.int .i64)⟩],(.seq (.region [.mv 4 (.i 0)] [0,1]) (.seq (.region [.m 5 1,.m 6 0,.m 7 1,.len 8 false (.t 7),.cl 9 [6,8] Dm,.idx 10 1 (.t 5) (.t 9),.l 11 10,.m 4 11] [4]) .ret))⟩
theorem jC:Aq Tryz.prog 96 Is=true:=by kernel_rfl
def Mm:A_:=⟨[.ptr BI,.val (.int .i64)],[⟨4,false,.bool⟩],(.seq (.region [.mv 4 (.c (.bool false))] [0,1]) (.seq (.region [.m 5 0,.m 6 1,.cl 7 [5,6] Dm,.bin 8 .eql (.t 7) (.i 0),.m 4 8] [4]) .ret))⟩
theorem sB:Aq Tryz.prog 97 Mm=true:=by kernel_rfl
def Mn:A_:=⟨[.ptr BI,.val (.slice .str)],[⟨4,false,.str⟩],(.seq (.region [.mv 4 (.c (.str ⟨#[]⟩))] [0,1]) (.seq (.region [.m 5 1,.m 6 0,.m 7 1,.len 8 false (.t 7),.cl 9 [6,8] Dm,.idx 10 1 (.t 5) (.t 9),.l 11 10,.m 4 11] [4]) .ret))⟩
theorem sC:Aq Tryz.prog 98 Mn=true:=by kernel_rfl
def bz:DT:=(.only 4 none (.store (.t 12) (.t 106) 16 false) false [] (.tk 8 [.mv 15 (.c (.bool true)),.mv 14 (.c (.nil)),.m 13 109] .done))
def b8:AE:=(.seq (.seq (.region [.m 100 18,.len 101 false (.t 100),.bin 102 .eql (.t 101) (.i 0)] [12,16,18,20,102]) (.cond (.t 102) (.seq (.region [.cl 103 [16] Rv,.m 21 103] [12,16,21]) (.seq (.region [.ls 104 16 16,.m 105 21,.store (.t 12) (.t 104) 16 false,.mv 13 (.c (.nil)),.m 14 105,.mv 15 (.c (.bool true))] [12,13,14,15]) .ret)) .skip)) (.seq (.draw (EE 8 [(1,[]),(2,[]),(3,[1,2]),(4,[0,3])]) (.tk 3 [.ls 108 20 6,.m 107 18] (.fork 0 (.ls 106 16 16) (.only 3 none (.cl 109 [16,107,108] BZ) false [] bz) 3 (.cl 109 [16,107,108] BZ) (.tk 1 [.ls 106 16 16] bz))) [12,13,14,15]) .ret))
def Yl:AE:=(.seq (.region [.m 71 1,.f 72 6 1,.l 73 72,.bin 74 .sub (.t 73) (.i 1),.idx 75 1 (.t 71) (.t 74),.l 76 75,.cl 77 [16,76] GW,.m 18 77] [2,3,12,16,17,18]) (.seq (.region [.m 78 18,.cl 79 [78] Ch,.m 19 79] [2,3,12,16,17,18,19]) (.seq (.region [.m 80 19,.cl 81 [80] Nl] [2,3,12,16,17,18,19]) (.seq (.region [.m 82 2,.m 83 3,.f 84 16 8,.l 85 84,.ls 86 17 3,.m 87 19,.bu 88 MX [(0,1,.t 82),(1,1,.t 83),(2,1,.t 85),(3,3,.t 86),(6,1,.t 87)],.f 89 16 9,.store (.t 89) (.t 88) 7 false] [2,12,16,17,18]) (.seq (.region [.f 90 16 8,.l 91 90,.bu 92 AH [(0,1,.c (.int .i64 7)),(4,1,.t 91)],.al 20 AH,.store (.t 20) (.t 92) 6 false] [2,12,16,17,18,20]) (.seqc [12,16,18,20] (.seq (.region [.m 93 2,.bin 94 .eql (.t 93) (.i 1)] [12,16,17,18,20,94]) (.cond (.t 94) (.region [.f 95 16 8,.l 96 95,.ls 97 17 3,.brow 98 38 AD [.t 97],.bu 99 AH [(0,1,.c (.int .i64 5)),(4,1,.t 96),(5,1,.t 98)],.store (.t 20) (.t 99) 6 false] [12,16,18,20]) .skip)) b8))))))
def Ym:AE:=(.seq (.region [.ls 39 6 16,.cl 40 [39] GV,.al 16 U,.store (.t 16) (.t 40) 16 false] [1,2,3,4,5,6,12,16]) (.seq (.region [.f 41 16 8,.l 42 41,.bin 43 .add (.t 42) (.i 1),.f 44 16 8,.store (.t 44) (.t 43) 1 false] [1,2,3,4,5,6,12,16]) (.seq (.region [.m 45 4,.m 46 5,.f 47 6 1,.l 48 47,.bin 49 .mul (.i 1000) (.t 48),.f 50 16 8,.l 51 50,.b 52 .add 49 51,.bu 53 AD [(0,1,.t 45),(1,1,.t 46),(2,1,.t 52)],.al 17 AD,.store (.t 17) (.t 53) 3 false] [1,2,3,4,6,12,16,17]) (.seq (.seq (.region [.m 54 2,.bin 55 .eql (.t 54) (.i 1),.m 56 55,.sc 56 true [.f 57 6 7,.l 58 57,.len 59 false (.t 58),.bin 60 .eql (.t 59) (.i 12)] 61 (.t 60) (.c (.bool false)),.m 62 61,.sc 62 true [.f 63 6 7,.l 64 63,.m 65 4,.cl 66 [64,65] fQ,.bu 67 AD [],.eqs 68 false AD (.t 66) (.t 67)] 69 (.t 68) (.c (.bool false))] [1,2,3,6,12,16,17,69]) (.cond (.t 69) (.seq (.region [.bu 70 U [],.store (.t 12) (.t 70) 16 false,.mv 13 (.c (.nil)),.mv 14 (.c (.nil)),.mv 15 (.c (.bool false))] [12,13,14,15]) .ret) .skip)) Yl))))
def EH:A_:=⟨[.val U,.val (.slice (.slice (.int .i64))),.val (.int .i64),.val (.int .i64),.val .str,.val .str],[⟨12,true,U⟩,⟨13,false,(.slice AH)⟩,⟨14,false,(.slice Ay)⟩,⟨15,false,.bool⟩],(.seq (.region [.box 6 (.t 0) false,.al 12 U,.mv 13 (.c (.nil)),.mv 14 (.c (.nil)),.mv 15 (.c (.bool false))] [1,2,3,4,5,6,12]) (.seq (.seq (.region [.ls 22 6 16,.cl 23 [22] Pk,.un 24 .not (.t 23),.m 25 24,.sc 25 false [.m 26 1,.cl 27 [6,26] XS,.un 28 .not (.t 27)] 29 (.c (.bool true)) (.t 28),.m 30 29,.sc 30 false [.m 31 2,.m 32 3,.m 33 4,.m 34 5,.cl 35 [31,32,33,34] i5,.un 36 .not (.t 35)] 37 (.c (.bool true)) (.t 36)] [1,2,3,4,5,6,12,37]) (.cond (.t 37) (.seq (.region [.bu 38 U [],.store (.t 12) (.t 38) 16 false,.mv 13 (.c (.nil)),.mv 14 (.c (.nil)),.mv 15 (.c (.bool false))] [12,13,14,15]) .ret) .skip)) Ym))⟩
theorem xB:Aq Tryz.prog 100 EH=true:=by kernel_rfl
def b9:DT:=(.sk 33 false 10 32 44 (.tk 33 [.pick 44 (.t 33) (.c (.bool true)) (.t 43)] .done))
def Yn:DT:=(.sk 27 false 4 20 32 (.tk 22 [.m 33 32,.pick 32 (.t 27) (.c (.bool true)) (.t 31)] b9))
def Yo:DT:=(.sk 20 false 5 14 26 (.tk 16 [.m 27 26,.pick 26 (.t 20) (.c (.bool true)) (.t 25)] Yn))
def Yp:DT:=(.only 9 none (.store (.t 6) (.t 74) 16 false) false [] (.tk 12 [.mv 8 (.c (.bool true)),.m 7 82] .done))
def Yq:DT:=(.only 8 none (.cl 82 [9,80,81] BZ) false [] Yp)
def Yr:AE:=(.seq (.region [.cl 57 [9] Mc] [1,2,6,9,10]) (.seq (.region [.m 58 2,.f 59 9 1,.store (.t 59) (.t 58) 1 false,.f 60 9 2,.store (.t 60) (.c (.bool false)) 1 false,.f 61 9 3,.store (.t 61) (.c (.bool false)) 1 false,.f 62 9 4,.store (.t 62) (.c (.bool true)) 1 false] [1,2,6,9,10]) (.seq (.seq (.region [.m 63 10] [1,2,6,9,63]) (.cond (.t 63) (.seq (.draw (EE 9 [(1,[]),(3,[0,2]),(5,[]),(7,[4,6])]) (.tk 7 [.l 70 69,.f 69 9 7,.l 68 67,.idx 67 1 (.t 64) (.t 66),.bin 66 .sub (.t 65) (.i 1),.m 65 2,.m 64 1] (.only 7 none (.cl 71 [9,68,70] Md) false [] (.tk 9 [.m 11 71] .done))) [6,9,11]) (.seq (.region [.ls 72 9 16,.m 73 11,.store (.t 6) (.t 72) 16 false,.m 7 73,.mv 8 (.c (.bool true))] [6,7,8]) .ret)) .skip)) (.seq (.draw (EE 12 [(1,[]),(2,[]),(4,[1,3]),(7,[]),(8,[6,7]),(9,[0,8])]) (.tk 6 [.l 79 78,.idx 78 1 (.t 75) (.t 77),.bin 77 .sub (.t 76) (.i 2),.m 76 2,.m 75 1] (.tk 8 [.bu 81 AH [(0,1,.c (.int .i64 1))]] (.fork 0 (.ls 74 9 16) (.only 6 none (.cl 80 [9,79] GW) false [] Yq) 6 (.cl 80 [9,79] GW) (.fork 0 (.ls 74 9 16) Yq 8 (.cl 82 [9,80,81] BZ) (.tk 1 [.ls 74 9 16] Yp))))) [6,7,8]) .ret))))
def Ys:AE:=(.seq (.region [.ls 46 3 16,.cl 47 [46] GV,.al 9 U,.store (.t 9) (.t 47) 16 false] [1,2,3,6,9]) (.seq (.region [.f 48 3 3,.l 49 48,.m 50 49,.sc 50 true [.f 51 3 1,.l 52 51,.m 53 2,.bin 54 .sub (.t 53) (.i 1),.b 55 .eql 52 54] 56 (.t 55) (.c (.bool false)),.m 10 56] [1,2,6,9,10]) Yr))
def Gb:A_:=⟨[.val U,.val (.slice (.slice (.int .i64))),.val (.int .i64)],[⟨6,true,U⟩,⟨7,false,(.slice AH)⟩,⟨8,false,.bool⟩],(.seq (.region [.box 3 (.t 0) false,.al 6 U,.mv 7 (.c (.nil)),.mv 8 (.c (.bool false))] [1,2,3,6]) (.seq (.seq (.draw (EE 33 [(10,[8]),(12,[9,11]),(17,[15]),(19,[16,18]),(23,[21]),(25,[22,24]),(29,[21]),(31,[28,30])]) (.tk 1 [.ls 12 3 16] (.only 1 none (.cl 13 [12] Pk) false [] (.tk 4 [.m 15 14,.un 14 .not (.t 13)] (.test 15 (.sk 15 false 3 7 19 (.tk 9 [.m 20 19,.pick 19 (.t 15) (.c (.bool true)) (.t 18)] Yo)) (.tg 15 false 5 [.m 16 1] (.only 5 (some (15,false)) (.cl 17 [16] HB) false [] (.tg 15 false 7 [.un 18 .not (.t 17)] (.tk 9 [.m 20 19,.pick 19 (.t 15) (.c (.bool true)) (.t 18)] (.test 20 Yo (.tg 20 false 12 [.len 23 false (.t 22),.m 22 1,.m 21 2] (.only 12 (some (20,false)) (.cx (some 24) [.t 21,.c (.int .i64 2),.t 23] Ap) false [] (.tg 20 false 14 [.un 25 .not (.t 24)] (.tk 16 [.m 27 26,.pick 26 (.t 20) (.c (.bool true)) (.t 25)] (.test 27 Yn (.tg 27 false 20 [.b 31 .leq 28 30,.l 30 29,.f 29 3 1,.m 28 2] (.tk 22 [.m 33 32,.pick 32 (.t 27) (.c (.bool true)) (.t 31)] (.test 33 b9 (.tg 33 false 32 [.b 43 .neq 40 42,.l 42 41,.f 41 3 0,.l 40 39,.idx 39 1 (.t 38) (.i 0),.l 38 37,.idx 37 1 (.t 34) (.t 36),.bin 36 .sub (.t 35) (.i 1),.m 35 2,.m 34 1] (.tk 33 [.pick 44 (.t 33) (.c (.bool true)) (.t 43)] .done))))))))))))))))))) [1,2,3,6,44]) (.cond (.t 44) (.seq (.region [.bu 45 U [],.store (.t 6) (.t 45) 16 false,.mv 7 (.c (.nil)),.mv 8 (.c (.bool false))] [6,7,8]) .ret) .skip)) Ys))⟩
theorem xC:Aq Tryz.prog 101 Gb=true:=by kernel_rfl
def DF:AE:=(.seq (.region [.b 9 .lss 8 7] [0,1,7,8,9]) (.seq (.cond (.t 9) .skip (.exit 0)) (.seq (.block 1 [0,1,7,8] (.seq (.region [.m 10 8,.m 5 10] [0,1,5,7,8]) (.seq (.region [.m 11 1,.m 12 0,.m 13 5,.idx 14 16 (.t 12) (.t 13),.ls 15 14 16,.call (some 16) 103 [(.t 15,.bor U),(.t 11,.cap 103 (.int .i64))] [.bool]] [0,1,5,7,8,16]) (.cond (.t 16) (.seq (.region [.m 17 5,.m 4 17] [4]) .ret) .skip)))) (.region [.bin 18 .add (.t 8) (.i 1),.m 8 18] [0,1,7,8]))))
def DG:AE:=(.seq (.region [.mv 4 (.c (.int .i64 (-1)))] [4]) .ret)
def Aa:A_:=⟨[.val (.slice U),.val (.clo 103 (.int .i64))],[⟨4,false,(.int .i64)⟩],(.seq (.region [.mv 4 (.i 0)] [0,1]) (.seq (.seq (.region [.m 6 0,.len 7 false (.t 6),.mv 8 (.i 0)] [0,1,7,8]) (.block 0 [] (.loop [0,1,7,8] DF))) DG))⟩
theorem Hr:Aq Tryz.prog 102 Aa=true:=by kernel_rfl
def F7:A_:=⟨[.val U,.val (.int .i64)],[⟨3,false,.bool⟩],(.seq (.region [.box 2 (.t 0) false,.mv 3 (.c (.bool false))] [1,2]) (.seq (.region [.f 4 2 0,.l 5 4,.l 6 1,.b 7 .eql 5 6,.m 3 7] [3]) .ret))⟩
theorem aU:Aq Tryz.prog 103 F7=true:=by kernel_rfl
def Vj:AE:=(.seq (.seq (.region [.m 8 3,.m 9 0,.len 10 false (.t 9),.b 11 .lss 8 10] [0,3,11]) (.cond (.t 11) .skip (.exit 0))) (.seq (.block 1 [0,3] (.seq (.draw (EE 16 [(1,[]),(2,[0,1]),(8,[6]),(9,[7,8]),(10,[6]),(11,[6]),(12,[10,11]),(14,[9,13])]) (.tk 4 [.l 17 16,.idx 16 1 (.t 14) (.t 15),.m 15 3,.m 14 0] (.only 4 none (.cx (some 18) [.t 17,.c (.int .i64 1),.c (.int .i64 6)] Aj) false [] (.tk 7 [.m 20 19,.un 19 .not (.t 18)] (.test 20 (.sk 20 false 8 15 29 (.tk 16 [.pick 29 (.t 20) (.c (.bool true)) (.t 28)] .done)) (.tg 20 false 14 [.l 27 26,.idx 26 1 (.t 24) (.t 25),.m 25 3,.m 24 0,.sl 23 1 (.t 21) none (some (.t 22)),.m 22 3,.m 21 0] (.only 14 (some (20,false)) (.cl 28 [23,27] FF) false [] (.tk 16 [.pick 29 (.t 20) (.c (.bool true)) (.t 28)] .done))))))) [0,3,29]) (.cond (.t 29) (.seq (.region [.mv 2 (.c (.bool false))] [2]) .ret) .skip))) (.region [.m 12 3,.bin 13 .add (.t 12) (.i 1),.m 3 13] [0,3])))
def Vk:AE:=(.seq (.region [.mv 2 (.c (.bool true))] [2]) .ret)
def EU:A_:=⟨[.val (.slice (.int .i64))],[⟨2,false,.bool⟩],(.seq (.region [.mv 2 (.c (.bool false))] [0]) (.seq (.seq (.region [.m 4 0,.len 5 false (.t 4),.cx (some 6) [.t 5,.c (.int .i64 1),.c (.int .i64 4)] Aj,.un 7 .not (.t 6)] [0,7]) (.cond (.t 7) (.seq (.region [.mv 2 (.c (.bool false))] [2]) .ret) .skip)) (.seq (.seq (.region [.mv 3 (.i 0)] [0,3]) (.block 0 [] (.loop [0,3] Vj))) Vk)))⟩
theorem sD:Aq Tryz.prog 105 EU=true:=by kernel_rfl
def b_:DT:=(.sk 88 false 11 75 100 (.tk 76 [.pick 100 (.t 88) (.c (.bool true)) (.t 99)] .done))
def Yt:DT:=(.sk 81 false 5 62 87 (.tk 64 [.m 88 87,.pick 87 (.t 81) (.c (.bool true)) (.t 86)] b_))
def Yu:DT:=(.sk 73 false 3 52 77 (.sk 76 true 2 54 79 (.sk 73 false 1 55 80 (.tk 57 [.m 81 80,.pick 80 (.t 73) (.c (.bool true)) (.t 79)] Yt))))
def Yv:DT:=(.sk 68 false 3 47 72 (.tk 49 [.m 73 72,.pick 72 (.t 68) (.c (.bool true)) (.t 71)] Yu))
def Yw:DT:=(.sk 62 false 4 42 67 (.tk 44 [.m 68 67,.pick 67 (.t 62) (.c (.bool true)) (.t 66)] Yv))
def Yx:DT:=(.sk 57 false 3 36 61 (.tk 38 [.m 62 61,.pick 61 (.t 57) (.c (.bool true)) (.t 60)] Yw))
def Yy:DT:=(.sk 49 false 3 28 53 (.sk 52 true 2 30 55 (.sk 49 false 1 31 56 (.tk 33 [.m 57 56,.pick 56 (.t 49) (.c (.bool true)) (.t 55)] Yx))))
def Yz:DT:=(.sk 44 false 3 23 48 (.tk 25 [.m 49 48,.pick 48 (.t 44) (.c (.bool true)) (.t 47)] Yy))
def Y0:DT:=(.sk 38 false 4 18 43 (.tk 20 [.m 44 43,.pick 43 (.t 38) (.c (.bool true)) (.t 42)] Yz))
def Y1:DT:=(.sk 33 false 3 12 37 (.tk 14 [.m 38 37,.pick 37 (.t 33) (.c (.bool true)) (.t 36)] Y0))
def Y2:DT:=(.tg 81 false 62 [.b 86 .gtr 83 85,.len 85 false (.t 84),.m 84 1,.l 83 82,.f 82 6 1] (.tk 64 [.m 88 87,.pick 87 (.t 81) (.c (.bool true)) (.t 86)] (.test 88 b_ (.tg 88 false 75 [.b 99 .neq 96 98,.l 98 97,.f 97 6 0,.l 96 95,.idx 95 1 (.t 94) (.i 0),.l 94 93,.idx 93 1 (.t 89) (.t 92),.bin 92 .sub (.t 91) (.i 1),.l 91 90,.f 90 6 1,.m 89 1] (.tk 76 [.pick 100 (.t 88) (.c (.bool true)) (.t 99)] .done)))))
def Vl:DT:=(.tg 57 false 34 [.m 58 3] (.only 34 (some (57,false)) (.cx (some 59) [.t 58,.c (.int .i64 0),.c (.int .i64 1000)] Aj) false [] (.tg 57 false 36 [.un 60 .not (.t 59)] (.tk 38 [.m 62 61,.pick 61 (.t 57) (.c (.bool true)) (.t 60)] (.test 62 Yw (.tg 62 false 40 [.len 64 true (.t 63),.m 63 4] (.only 40 (some (62,false)) (.cx (some 65) [.t 64,.c (.int .i64 1),.c (.int .i64 12)] Aj) false [] (.tg 62 false 42 [.un 66 .not (.t 65)] (.tk 44 [.m 68 67,.pick 67 (.t 62) (.c (.bool true)) (.t 66)] (.test 68 Yv (.tg 68 false 47 [.bin 71 .gtr (.t 70) (.i 20),.len 70 true (.t 69),.m 69 5] (.tk 49 [.m 73 72,.pick 72 (.t 68) (.c (.bool true)) (.t 71)] (.test 73 Yu (.tg 73 false 52 [.m 76 75,.bin 75 .eql (.t 74) (.i 2),.m 74 2] (.test 76 (.tg 76 true 54 [.bin 78 .neq (.t 77) (.c (.str ⟨#[]⟩)),.m 77 5] (.tg 73 false 55 [.pick 79 (.t 76) (.t 78) (.c (.bool false))] (.tk 57 [.m 81 80,.pick 80 (.t 73) (.c (.bool true)) (.t 79)] (.test 81 Yt Y2)))) (.sk 76 true 2 54 79 (.tg 73 false 55 [.pick 79 (.t 76) (.t 78) (.c (.bool false))] (.tk 57 [.m 81 80,.pick 80 (.t 73) (.c (.bool true)) (.t 79)] Y2))))))))))))))))))
def OG:AE:=(.seq (.seq (.region [.m 160 21,.m 161 20,.len 162 false (.t 161),.b 163 .lss 160 162] [2,6,12,16,17,18,19,20,21,163]) (.cond (.t 163) .skip (.exit 0))) (.seq (.block 1 [2,6,12,16,17,18,19,20,21] (.seq (.seq (.draw (EE 7 [(1,[]),(2,[0,1]),(4,[]),(6,[3,5])]) (.tk 7 [.b 172 .eql 169 171,.l 171 170,.f 170 6 0,.l 169 168,.idx 168 1 (.t 166) (.t 167),.m 167 21,.m 166 20] .done) [2,6,12,16,17,18,19,20,21,172]) (.cond (.t 172) (.exit 1) .skip)) (.seq (.draw (EE 13 [(2,[]),(3,[]),(4,[2,3]),(6,[]),(8,[]),(10,[1,5,7,9]),(11,[]),(12,[10,11])]) (.tk 11 [.bu 183 AH [(0,1,.c (.int .i64 7)),(1,1,.t 174),(2,1,.t 178),(3,1,.t 180),(4,1,.t 182)],.l 182 181,.f 181 18 8,.l 180 179,.f 179 6 1,.l 178 177,.idx 177 1 (.t 175) (.t 176),.m 176 21,.m 175 20,.l 174 173,.f 173 6 0] (.only 11 none (.al 22 AH) false [] (.only 12 none (.store (.t 22) (.t 183) 6 false) false [] .done))) [2,6,12,16,17,18,19,20,21,22]) (.seqc [2,6,12,16,17,18,19,20,21,22] (.seq (.region [.m 184 2,.bin 185 .eql (.t 184) (.i 1)] [2,6,12,16,17,18,19,20,21,22,185]) (.cond (.t 185) (.seq (.region [.f 186 22 0,.store (.t 186) (.i 5) 1 false] [2,6,12,16,17,18,19,20,21,22]) (.region [.ls 187 19 3,.brow 188 38 AD [.t 187],.f 189 22 5,.store (.t 189) (.t 188) 1 false] [2,6,12,16,17,18,19,20,21,22])) .skip)) (.region [.m 190 16,.ls 191 22 6,.blst 192 AH [.t 191],.app 193 97 AH (.t 190) (.t 192),.m 16 193] [2,6,12,16,17,18,19,20,21]))))) (.region [.m 164 21,.bin 165 .add (.t 164) (.i 1),.m 21 165] [2,6,12,16,17,18,19,20,21])))
def Vm:AE:=(.seq (.region [.ls 194 18 16,.m 195 16,.m 196 17,.store (.t 12) (.t 194) 16 false,.m 13 195,.m 14 196,.mv 15 (.c (.bool true))] [12,13,14,15]) .ret)
def OH:AE:=(.seq (.region [.m 134 1,.f 135 6 1,.l 136 135,.bin 137 .sub (.t 136) (.i 1),.idx 138 1 (.t 134) (.t 137),.l 139 138,.m 20 139] [2,3,6,12,16,17,18,19,20]) (.seq (.draw (EE 12 [(1,[]),(2,[]),(4,[]),(5,[]),(6,[]),(8,[5,7]),(9,[0,1,3,4,8])]) (.tk 8 [.l 147 146,.f 146 6 0,.m 145 20,.ls 144 19 3,.l 143 142,.f 142 18 8,.m 141 3,.m 140 2] (.only 8 none (.cl 148 [145,147] VO) false [] (.tk 11 [.f 150 18 9,.bu 149 MX [(0,1,.t 140),(1,1,.t 141),(2,1,.t 143),(3,3,.t 144),(6,1,.t 148)]] (.only 11 none (.store (.t 150) (.t 149) 7 false) false [] .done)))) [2,6,12,16,17,18,19,20]) (.seq (.seq (.region [.f 151 18 9,.f 152 151 6,.l 153 152,.len 154 false (.t 153),.bin 155 .eql (.t 154) (.i 0)] [2,6,12,16,17,18,19,20,155]) (.cond (.t 155) (.seq (.region [.cl 156 [18] VP,.m 17 156] [12,16,17,18]) (.seq (.region [.ls 157 18 16,.m 158 16,.m 159 17,.store (.t 12) (.t 157) 16 false,.m 13 158,.m 14 159,.mv 15 (.c (.bool true))] [12,13,14,15]) .ret)) .skip)) (.seq (.seq (.region [.mv 21 (.i 0)] [2,6,12,16,17,18,19,20,21]) (.block 0 [12,16,17,18] (.loop [2,6,12,16,17,18,19,20,21] OG))) Vm))))
def Vn:AE:=(.seq (.region [.ls 104 6 16,.cl 105 [104] HC,.al 18 U,.store (.t 18) (.t 105) 16 false] [1,2,3,4,5,6,12,16,17,18]) (.seq (.region [.f 106 6 8,.l 107 106,.bin 108 .add (.t 107) (.i 1),.f 109 18 8,.store (.t 109) (.t 108) 1 false] [1,2,3,4,5,6,12,16,17,18]) (.seq (.region [.m 110 4,.m 111 5,.f 112 6 1,.l 113 112,.bin 114 .mul (.i 1000) (.t 113),.f 115 18 8,.l 116 115,.b 117 .add 114 116,.bu 118 AD [(0,1,.t 110),(1,1,.t 111),(2,1,.t 117)],.al 19 AD,.store (.t 19) (.t 118) 3 false] [1,2,3,4,6,12,16,17,18,19]) (.seq (.seq (.draw (EE 12 [(5,[2]),(6,[4,5]),(7,[2]),(8,[6,7]),(9,[2]),(10,[8,9])]) (.tk 3 [.m 121 120,.bin 120 .eql (.t 119) (.i 1),.m 119 2] (.test 121 (.tg 121 true 6 [.ls 124 19 3,.l 123 122,.f 122 6 7] (.tg 121 true 8 [.m 126 4] (.tg 121 true 10 [.ls 128 19 3] (.only 6 (some (121,true)) (.cl 125 [123,124] Rw) false [] (.only 8 (some (121,true)) (.cl 127 [125,126] fR) false [] (.tg 121 true 11 [.eqs 129 true AD (.t 127) (.t 128)] (.tk 12 [.pick 130 (.t 121) (.t 129) (.c (.bool false))] .done))))))) (.sk 121 true 8 11 130 (.tk 12 [.pick 130 (.t 121) (.t 129) (.c (.bool false))] .done)))) [1,2,3,6,12,16,17,18,19,130]) (.cond (.t 130) (.seq (.region [.bu 131 U [],.m 132 16,.m 133 17,.store (.t 12) (.t 131) 16 false,.m 13 132,.m 14 133,.mv 15 (.c (.bool false))] [12,13,14,15]) .ret) .skip)) OH))))
def Br:A_:=⟨[.val U,.val (.slice (.slice (.int .i64))),.val (.int .i64),.val (.int .i64),.val .str,.val .str],[⟨12,true,U⟩,⟨13,false,(.slice AH)⟩,⟨14,false,(.slice Ay)⟩,⟨15,false,.bool⟩],(.seq (.region [.box 6 (.t 0) false,.al 12 U,.mv 13 (.c (.nil)),.mv 14 (.c (.nil)),.mv 15 (.c (.bool false))] [1,2,3,4,5,6,12]) (.seq (.region [.brow 23 97 AH [],.m 16 23] [1,2,3,4,5,6,12,16]) (.seq (.region [.blst 24 Ay [],.m 17 24] [1,2,3,4,5,6,12,16,17]) (.seq (.seq (.draw (EE 76 [(59,[56]),(61,[58,60]),(65,[63]),(68,[64,67]),(72,[63]),(74,[71,73])]) (.tk 1 [.ls 25 6 16] (.only 1 none (.cl 26 [25] Pl) false [] (.tk 4 [.m 28 27,.un 27 .not (.t 26)] (.test 28 (.sk 28 false 3 7 32 (.tk 9 [.m 33 32,.pick 32 (.t 28) (.c (.bool true)) (.t 31)] Y1)) (.tg 28 false 5 [.m 29 1] (.only 5 (some (28,false)) (.cl 30 [29] JF) false [] (.tg 28 false 7 [.un 31 .not (.t 30)] (.tk 9 [.m 33 32,.pick 32 (.t 28) (.c (.bool true)) (.t 31)] (.test 33 Y1 (.tg 33 false 12 [.un 36 .not (.t 35),.l 35 34,.f 34 6 5] (.tk 14 [.m 38 37,.pick 37 (.t 33) (.c (.bool true)) (.t 36)] (.test 38 Y0 (.tg 38 false 18 [.bin 42 .neq (.t 41) (.i 0),.l 41 40,.f 40 39 0,.f 39 6 9] (.tk 20 [.m 44 43,.pick 43 (.t 38) (.c (.bool true)) (.t 42)] (.test 44 Yz (.tg 44 false 23 [.bin 47 .geq (.t 46) (.i 900),.l 46 45,.f 45 6 8] (.tk 25 [.m 49 48,.pick 48 (.t 44) (.c (.bool true)) (.t 47)] (.test 49 Yy (.tg 49 false 28 [.m 52 51,.bin 51 .neq (.t 50) (.i 1),.m 50 2] (.test 52 (.tg 52 true 30 [.bin 54 .neq (.t 53) (.i 2),.m 53 2] (.tg 49 false 31 [.pick 55 (.t 52) (.t 54) (.c (.bool false))] (.tk 33 [.m 57 56,.pick 56 (.t 49) (.c (.bool true)) (.t 55)] (.test 57 Yx Vl)))) (.sk 52 true 2 30 55 (.tg 49 false 31 [.pick 55 (.t 52) (.t 54) (.c (.bool false))] (.tk 33 [.m 57 56,.pick 56 (.t 49) (.c (.bool true)) (.t 55)] Vl))))))))))))))))))))))) [1,2,3,4,5,6,12,16,17,100]) (.cond (.t 100) (.seq (.region [.bu 101 U [],.m 102 16,.m 103 17,.store (.t 12) (.t 101) 16 false,.m 13 102,.m 14 103,.mv 15 (.c (.bool false))] [12,13,14,15]) .ret) .skip)) Vn))))⟩
theorem xD:Aq Tryz.prog 106 Br=true:=by kernel_rfl
def cA:DT:=(.sk 37 false 10 32 48 (.tk 33 [.pick 48 (.t 37) (.c (.bool true)) (.t 47)] .done))
def Y3:DT:=(.sk 31 false 4 20 36 (.tk 22 [.m 37 36,.pick 36 (.t 31) (.c (.bool true)) (.t 35)] cA))
def Y4:DT:=(.sk 24 false 5 14 30 (.tk 16 [.m 31 30,.pick 30 (.t 24) (.c (.bool true)) (.t 29)] Y3))
def Y5:DT:=(.sk 60 true 8 18 69 (.tk 20 [.m 10 69,.pick 69 (.t 60) (.t 68) (.c (.bool false))] .done))
def Y6:AE:=(.seq (.seq (.region [.m 90 13,.m 91 1,.m 92 2,.bin 93 .sub (.t 92) (.i 2),.idx 94 1 (.t 91) (.t 93),.l 95 94,.len 96 false (.t 95),.b 97 .lss 90 96] [1,2,3,6,9,11,13,97]) (.cond (.t 97) .skip (.exit 0))) (.seq (.block 1 [1,2,3,6,9,11,13] (.seq (.region [.m 100 1,.m 101 2,.bin 102 .sub (.t 101) (.i 2),.idx 103 1 (.t 100) (.t 102),.l 104 103,.m 105 13,.idx 106 1 (.t 104) (.t 105),.l 107 106,.m 14 107] [1,2,3,6,9,11,13,14]) (.seq (.region [.m 108 14,.f 109 3 0,.l 110 109,.b 111 .neq 108 110] [1,2,3,6,9,11,13,14,111]) (.cond (.t 111) (.region [.m 112 9,.f 113 3 0,.l 114 113,.m 115 14,.m 116 2,.bu 117 AH [(0,1,.c (.int .i64 1)),(1,1,.t 114),(2,1,.t 115),(3,1,.t 116)],.blst 118 AH [.t 117],.app 119 97 AH (.t 112) (.t 118),.m 9 119] [1,2,3,6,9,11,13]) .skip)))) (.region [.m 98 13,.bin 99 .add (.t 98) (.i 1),.m 13 99] [1,2,3,6,9,11,13])))
def Y7:AE:=(.seq (.region [.ls 120 11 16,.cl 121 [120] HC,.m 122 9,.store (.t 6) (.t 121) 16 false,.m 7 122,.mv 8 (.c (.bool true))] [6,7,8]) .ret)
def Y8:AE:=(.seq (.draw (EE 10 [(2,[]),(3,[]),(4,[]),(6,[3,5]),(7,[1,2,6]),(8,[]),(9,[7,8])]) (.tk 3 [.m 72 2,.l 71 70,.f 70 3 0] (.tk 6 [.l 75 74,.f 74 3 7] (.only 3 none (.brow 73 38 AD []) false [(8,.al 11 U)] (.only 6 none (.apz 76 38 AD (.t 73) (.t 75)) false [(8,.al 11 U)] (.tk 8 [.bu 77 U [(0,1,.t 71),(1,1,.t 72),(4,1,.c (.bool true)),(7,1,.t 76)]] (.only 8 none (.al 11 U) true [] (.only 9 none (.store (.t 11) (.t 77) 16 false) false [] .done))))))) [1,2,3,6,9,10,11]) (.seq (.seq (.region [.m 78 10] [1,2,3,6,9,11,78]) (.cond (.t 78) (.seq (.draw (EE 9 [(1,[]),(3,[0,2]),(5,[]),(7,[4,6])]) (.tk 7 [.l 85 84,.f 84 3 7,.l 83 82,.idx 82 1 (.t 79) (.t 81),.bin 81 .sub (.t 80) (.i 1),.m 80 2,.m 79 1] (.only 7 none (.cl 86 [11,83,85] fS) false [] (.tk 9 [.m 12 86] .done))) [6,11,12]) (.seq (.region [.ls 87 11 16,.cl 88 [87] HC,.m 89 12,.store (.t 6) (.t 88) 16 false,.m 7 89,.mv 8 (.c (.bool true))] [6,7,8]) .ret)) .skip)) (.seq (.seq (.region [.mv 13 (.i 0)] [1,2,3,6,9,11,13]) (.block 0 [6,9,11] (.loop [1,2,3,6,9,11,13] Y6))) Y7)))
def Y9:AE:=(.seq (.draw (EE 20 [(5,[2]),(7,[4,6]),(11,[9]),(13,[10,12]),(15,[9]),(17,[14,16])]) (.tk 3 [.m 53 52,.l 52 51,.f 51 3 3] (.test 53 (.tg 53 true 8 [.b 58 .eql 55 57,.bin 57 .sub (.t 56) (.i 1),.m 56 2,.l 55 54,.f 54 3 1] (.tk 10 [.m 60 59,.pick 59 (.t 53) (.t 58) (.c (.bool false))] (.test 60 (.tg 60 true 17 [.l 67 66,.f 66 3 0,.l 65 64,.idx 64 1 (.t 61) (.t 63),.bin 63 .sub (.t 62) (.i 2),.m 62 2,.m 61 1] (.only 17 (some (60,true)) (.cl 68 [65,67] FF) false [] (.tk 20 [.m 10 69,.pick 69 (.t 60) (.t 68) (.c (.bool false))] .done))) Y5))) (.sk 53 true 5 8 59 (.tk 10 [.m 60 59,.pick 59 (.t 53) (.t 58) (.c (.bool false))] Y5)))) [1,2,3,6,9,10]) Y8)
def C3:A_:=⟨[.val U,.val (.slice (.slice (.int .i64))),.val (.int .i64)],[⟨6,true,U⟩,⟨7,false,(.slice AH)⟩,⟨8,false,.bool⟩],(.seq (.region [.box 3 (.t 0) false,.al 6 U,.mv 7 (.c (.nil)),.mv 8 (.c (.bool false))] [1,2,3,6]) (.seq (.region [.brow 15 97 AH [],.m 9 15] [1,2,3,6,9]) (.seq (.seq (.draw (EE 33 [(10,[8]),(12,[9,11]),(17,[15]),(19,[16,18]),(23,[21]),(25,[22,24]),(29,[21]),(31,[28,30])]) (.tk 1 [.ls 16 3 16] (.only 1 none (.cl 17 [16] Pl) false [] (.tk 4 [.m 19 18,.un 18 .not (.t 17)] (.test 19 (.sk 19 false 3 7 23 (.tk 9 [.m 24 23,.pick 23 (.t 19) (.c (.bool true)) (.t 22)] Y4)) (.tg 19 false 5 [.m 20 1] (.only 5 (some (19,false)) (.cl 21 [20] JF) false [] (.tg 19 false 7 [.un 22 .not (.t 21)] (.tk 9 [.m 24 23,.pick 23 (.t 19) (.c (.bool true)) (.t 22)] (.test 24 Y4 (.tg 24 false 12 [.len 27 false (.t 26),.m 26 1,.m 25 2] (.only 12 (some (24,false)) (.cx (some 28) [.t 25,.c (.int .i64 2),.t 27] Aj) false [] (.tg 24 false 14 [.un 29 .not (.t 28)] (.tk 16 [.m 31 30,.pick 30 (.t 24) (.c (.bool true)) (.t 29)] (.test 31 Y3 (.tg 31 false 20 [.b 35 .leq 32 34,.l 34 33,.f 33 3 1,.m 32 2] (.tk 22 [.m 37 36,.pick 36 (.t 31) (.c (.bool true)) (.t 35)] (.test 37 cA (.tg 37 false 32 [.b 47 .neq 44 46,.l 46 45,.f 45 3 0,.l 44 43,.idx 43 1 (.t 42) (.i 0),.l 42 41,.idx 41 1 (.t 38) (.t 40),.bin 40 .sub (.t 39) (.i 1),.m 39 2,.m 38 1] (.tk 33 [.pick 48 (.t 37) (.c (.bool true)) (.t 47)] .done))))))))))))))))))) [1,2,3,6,9,48]) (.cond (.t 48) (.seq (.region [.bu 49 U [],.m 50 9,.store (.t 6) (.t 49) 16 false,.m 7 50,.mv 8 (.c (.bool false))] [6,7,8]) .ret) .skip)) Y9)))⟩
theorem xE:Aq Tryz.prog 107 C3=true:=by kernel_rfl
def Vo:DT:=(.sk 95 true 9 25 105 (.tk 26 [.pick 105 (.t 95) (.t 104) (.c (.bool false))] .done))
def Tw:DT:=(.sk 91 true 2 14 94 (.tk 16 [.m 95 94,.pick 94 (.t 91) (.t 93) (.c (.bool false))] Vo))
def Tx:AE:=(.cond (.t 105) (.seq (.region [.ls 106 3 16,.f 107 5 3,.l 108 107,.cl 109 [106,108] bV,.al 12 U,.store (.t 12) (.t 109) 16 false] [3,5,6,11,12]) (.seq (.draw (EE 17 [(1,[]),(3,[]),(5,[]),(7,[]),(8,[]),(10,[7,9]),(11,[2,4,6,10]),(13,[]),(14,[0,10]),(15,[12,14]),(16,[13,15])]) (.tk 7 [.l 116 115,.f 115 5 3,.l 114 113,.f 113 5 1,.l 112 111,.f 111 3 0,.ls 110 12 16] (.tk 10 [.l 119 118,.f 118 3 7] (.tk 14 [.m 123 11] (.only 7 none (.brow 117 38 AD []) false [] (.only 10 none (.apz 120 38 AD (.t 117) (.t 119)) false [] (.tk 12 [.bu 121 AH [(0,1,.c (.int .i64 2)),(1,1,.t 112),(2,1,.t 114),(3,1,.t 116),(5,1,.t 120)]] (.only 14 none (.store (.t 6) (.t 110) 16 false) false [(12,.brow 122 97 AH [.t 121])] (.only 12 none (.brow 122 97 AH [.t 121]) true [] (.tk 17 [.m 8 123,.m 7 122] .done))))))))) [6,7,8]) .ret)) .skip)
def Ty:DT:=(.sk 139 true 6 16 146 (.tk 17 [.pick 146 (.t 139) (.t 145) (.c (.bool false))] .done))
def Tz:AE:=(.cond (.t 146) (.seq (.draw (EE 11 [(2,[]),(4,[]),(5,[]),(7,[4,6]),(8,[1,3,7]),(9,[]),(10,[8,9])]) (.tk 4 [.l 150 149,.f 149 5 3,.l 148 147,.f 147 3 0] (.tk 7 [.l 153 152,.f 152 5 5] (.only 4 none (.brow 151 38 AD []) false [(9,.al 14 U)] (.only 7 none (.apz 154 38 AD (.t 151) (.t 153)) false [(9,.al 14 U)] (.tk 9 [.bu 155 U [(0,1,.t 148),(1,1,.t 150),(3,1,.c (.bool true)),(7,1,.t 154)]] (.only 9 none (.al 14 U) true [] (.only 10 none (.store (.t 14) (.t 155) 16 false) false [] .done))))))) [3,5,6,11,14]) (.seq (.draw (EE 8 [(1,[]),(2,[]),(3,[1,2]),(4,[]),(5,[0,3]),(7,[4,6])]) (.tk 3 [.ls 158 5 6,.ls 157 3 16,.ls 156 14 16] (.tk 5 [.m 160 11] (.only 3 none (.cx (some 159) [.t 157,.t 158,.c (.int .i64 4)] Km) false [] (.only 5 none (.store (.t 6) (.t 156) 16 false) false [] (.tk 8 [.m 8 160,.m 7 159] .done))))) [6,7,8]) .ret)) .skip)
def T0:AE:=(.seq (.region [.ls 161 9 16,.m 162 10,.m 163 11,.store (.t 6) (.t 161) 16 false,.m 7 162,.m 8 163] [6,7,8]) .ret)
def Mo:AE:=(.seq (.region [.m 124 1,.f 125 5 3,.l 126 125,.bin 127 .sub (.t 126) (.i 1),.idx 128 1 (.t 124) (.t 127),.l 129 128,.m 13 129] [3,5,6,9,10,11,13]) (.seq (.seq (.draw (EE 17 [(5,[3]),(7,[4,6]),(13,[9]),(15,[12,14])]) (.tk 4 [.m 133 132,.bin 132 .eql (.t 131) (.i 3),.l 131 130,.f 130 5 0] (.test 133 (.tg 133 true 7 [.l 136 135,.f 135 3 0,.m 134 13] (.only 7 (some (133,true)) (.cl 137 [134,136] FF) false [] (.tk 10 [.m 139 138,.pick 138 (.t 133) (.t 137) (.c (.bool false))] (.test 139 (.tg 139 true 16 [.b 145 .neq 142 144,.l 144 143,.f 143 3 0,.l 142 141,.idx 141 1 (.t 140) (.i 0),.m 140 13] (.tk 17 [.pick 146 (.t 139) (.t 145) (.c (.bool false))] .done)) Ty)))) (.sk 133 true 4 8 138 (.tk 10 [.m 139 138,.pick 138 (.t 133) (.t 137) (.c (.bool false))] Ty)))) [3,5,6,9,10,11,146]) Tz) T0))
def T1:AE:=(.seq (.seq (.region [.f 63 5 3,.l 64 63,.f 65 3 1,.l 66 65,.b 67 .eql 64 66] [1,3,5,6,9,10,11,67]) (.cond (.t 67) (.seq (.draw (EE 15 [(1,[]),(2,[]),(5,[1,4]),(7,[]),(8,[0,6,7]),(10,[8]),(11,[8]),(12,[9,10,11])]) (.tk 8 [.ls 75 5 6,.l 74 73,.idx 73 1 (.t 69) (.t 72),.bin 72 .sub (.t 71) (.i 1),.l 71 70,.f 70 3 1,.m 69 1,.ls 68 3 16] (.only 8 none (.cl 76 [68,74,75] uW) false [] (.tk 12 [.ext 79 (.t 76) 2,.ext 78 (.t 76) 1,.ext 77 (.t 76) 0] (.only 12 none (.store (.t 6) (.t 77) 16 false) false [] (.tk 15 [.m 8 79,.m 7 78] .done))))) [6,7,8]) .ret) .skip)) (.seq (.seq (.draw (EE 26 [(6,[3]),(9,[5,8]),(17,[15]),(20,[16,19]),(22,[15]),(24,[21,23])]) (.tk 4 [.m 83 82,.bin 82 .eql (.t 81) (.i 1),.l 81 80,.f 80 5 0] (.test 83 (.tg 83 true 10 [.b 89 .eql 85 88,.bin 88 .add (.t 87) (.i 1),.l 87 86,.f 86 3 1,.l 85 84,.f 84 5 3] (.tk 12 [.m 91 90,.pick 90 (.t 83) (.t 89) (.c (.bool false))] (.test 91 (.tg 91 true 14 [.l 93 92,.f 92 3 3] (.tk 16 [.m 95 94,.pick 94 (.t 91) (.t 93) (.c (.bool false))] (.test 95 (.tg 95 true 24 [.l 103 102,.f 102 3 0,.l 101 100,.idx 100 1 (.t 96) (.t 99),.bin 99 .sub (.t 98) (.i 1),.l 98 97,.f 97 3 1,.m 96 1] (.only 24 (some (95,true)) (.cl 104 [101,103] FF) false [] (.tk 26 [.pick 105 (.t 95) (.t 104) (.c (.bool false))] .done))) Vo))) Tw))) (.sk 83 true 6 10 90 (.tk 12 [.m 91 90,.pick 90 (.t 83) (.t 89) (.c (.bool false))] Tw)))) [1,3,5,6,9,10,11,105]) Tx) Mo))
def Bj:A_:=⟨[.val U,.val (.slice (.slice (.int .i64))),.val AH],[⟨6,true,U⟩,⟨7,false,(.slice AH)⟩,⟨8,false,(.slice Ay)⟩],(.seq (.region [.box 3 (.t 0) false,.box 5 (.t 2) false,.al 6 U,.mv 7 (.c (.nil)),.mv 8 (.c (.nil))] [1,3,5,6]) (.seq (.region [.ls 15 3 16,.cl 16 [15] HC,.al 9 U,.store (.t 9) (.t 16) 16 false] [1,3,5,6,9]) (.seq (.region [.blst 17 AH [],.m 10 17] [1,3,5,6,9,10]) (.seq (.region [.blst 18 Ay [],.m 11 18] [1,3,5,6,9,10,11]) (.seq (.seq (.region [.ls 19 3 16,.cl 20 [19] Pl,.un 21 .not (.t 20),.m 22 21,.sc 22 false [.m 23 1,.cl 24 [23] JF,.un 25 .not (.t 24)] 26 (.c (.bool true)) (.t 25),.m 27 26,.sc 27 false [.ls 28 5 6,.cl 29 [28] wX,.un 30 .not (.t 29)] 31 (.c (.bool true)) (.t 30),.m 32 31,.sc 32 false [.f 33 5 2,.l 34 33,.f 35 3 0,.l 36 35,.b 37 .neq 34 36] 38 (.c (.bool true)) (.t 37),.m 39 38,.sc 39 false [.f 40 5 3,.l 41 40,.f 42 3 1,.l 43 42,.b 44 .lss 41 43] 45 (.c (.bool true)) (.t 44),.m 46 45,.sc 46 false [.f 47 5 3,.l 48 47,.m 49 1,.len 50 false (.t 49),.b 51 .gtr 48 50] 52 (.c (.bool true)) (.t 51),.m 53 52,.sc 53 false [.f 54 3 1,.l 55 54,.m 56 1,.len 57 false (.t 56),.b 58 .gtr 55 57] 59 (.c (.bool true)) (.t 58)] [1,3,5,6,9,10,11,59]) (.cond (.t 59) (.seq (.region [.ls 60 9 16,.m 61 10,.m 62 11,.store (.t 6) (.t 60) 16 false,.m 7 61,.m 8 62] [6,7,8]) .ret) .skip)) T1)))))⟩
theorem sE:Aq Tryz.prog 108 Bj=true:=by kernel_rfl
def cB:AE:=(.cond (.t 39) (.seq (.region [.mv 2 (.c (.bool true))] [2]) .ret) (.seq (.region [.bin 43 .eql (.t 38) (.i 5),.m 42 43] [1,42]) (.cond (.t 42) (.seq (.region [.f 44 1 5,.l 45 44,.len 46 false (.t 45),.bin 47 .eql (.t 46) (.i 1),.m 2 47] [2]) .ret) .skip)))
def cC:AE:=(.seq (.region [.f 48 1 5,.l 49 48,.len 50 false (.t 49),.bin 51 .eql (.t 50) (.i 0),.m 2 51] [2]) .ret)
def cD:AE:=(.seq (.seq (.region [.f 37 1 0,.l 38 37] [1,38]) (.block 0 [1] (.seqc [1,38,39] (.seq (.region [.bin 40 .eql (.t 38) (.i 2),.m 39 40] [1,38,39]) (.cond (.t 39) .skip (.region [.bin 41 .eql (.t 38) (.i 3),.m 39 41] [1,38,39]))) cB))) cC)
def FJ:A_:=⟨[.val AH],[⟨2,false,.bool⟩],(.seq (.region [.box 1 (.t 0) false,.mv 2 (.c (.bool false))] [1]) (.seq (.seq (.region [.f 3 1 0,.l 4 3,.cx (some 5) [.t 4,.c (.int .i64 1),.c (.int .i64 8)] Ap,.un 6 .not (.t 5),.m 7 6,.sc 7 false [.f 8 1 1,.l 9 8,.cl 10 [9] Gw,.un 11 .not (.t 10)] 12 (.c (.bool true)) (.t 11),.m 13 12,.sc 13 false [.f 14 1 2,.l 15 14,.cl 16 [15] Gw,.un 17 .not (.t 16)] 18 (.c (.bool true)) (.t 17),.m 19 18,.sc 19 false [.f 20 1 3,.l 21 20,.cx (some 22) [.t 21,.c (.int .i64 1),.c (.int .i64 9)] Ap,.un 23 .not (.t 22)] 24 (.c (.bool true)) (.t 23),.m 25 24,.sc 25 false [.f 26 1 4,.l 27 26,.cx (some 28) [.t 27,.c (.int .i64 0),.c (.int .i64 1000000000)] Ap,.un 29 .not (.t 28)] 30 (.c (.bool true)) (.t 29),.m 31 30,.sc 31 false [.f 32 1 5,.l 33 32,.cl 34 [33] MY,.un 35 .not (.t 34)] 36 (.c (.bool true)) (.t 35)] [1,36]) (.cond (.t 36) (.seq (.region [.mv 2 (.c (.bool false))] [2]) .ret) .skip)) cD))⟩
theorem xF:Aq Tryz.prog 109 FJ=true:=by kernel_rfl
def PF:DT:=(.sk 31 true 5 19 37 (.tk 20 [.pick 37 (.t 31) (.t 36) (.c (.bool false))] .done))
def PH:AE:=(.cond (.t 37) (.seq (.draw (EE 14 [(1,[]),(2,[]),(7,[1,6]),(9,[]),(11,[0,8,10])]) (.tk 11 [.l 48 47,.f 47 5 5,.l 46 45,.idx 45 1 (.t 39) (.t 44),.bin 44 .sub (.t 43) (.i 1),.l 43 42,.f 42 41 1,.n 41 40,.m 40 0,.m 39 1,.m 38 0] (.only 11 none (.cl 49 [38,46,48] Md) false [] (.tk 14 [.mv 7 (.c (.nil)),.m 6 49] .done))) [6,7]) .ret) .skip)
def PI:AE:=(.cond (.t 75) (.seq (.draw (EE 11 [(1,[]),(5,[]),(7,[4,6]),(8,[0,7])]) (.tk 7 [.l 82 81,.f 81 5 1,.l 80 79,.f 79 78 6,.n 78 77,.m 77 0,.m 76 0] (.only 7 none (.cl 83 [80,82] bW) false [] (.tk 10 [.f 85 84 6,.n 84 76] (.only 10 none (.store (.t 85) (.t 83) 1 false) false [] .done)))) [0]) (.region [.m 86 0,.m 87 0,.n 88 87,.f 89 88 5,.l 90 89,.m 91 90,.sc 91 false [.m 92 0,.n 93 92,.f 94 93 6,.l 95 94,.len 96 false (.t 95),.bin 97 .eql (.t 96) (.i 0),.m 98 97,.sc 98 true [.m 99 0,.n 100 99,.f 101 100 3,.l 102 101] 103 (.t 102) (.c (.bool false))] 104 (.c (.bool true)) (.t 103),.n 105 86,.f 106 105 5,.store (.t 106) (.t 104) 1 false] [])) .skip)
def Nr:AE:=(.cond (.t 107) (.seq (.region [.m 110 0,.ls 111 5 6,.cl 112 [110,111] eO,.m 6 112,.mv 7 (.c (.nil))] [6,7]) .ret) (.seq (.region [.bin 114 .eql (.t 9) (.i 6),.m 113 114] [0,5,9,113]) (.cond (.t 113) (.seq (.region [.m 115 0,.ls 116 5 6,.cx (some 117) [.t 115,.c (.int .i64 1),.t 116] O8,.mv 6 (.c (.nil)),.m 7 117] [6,7]) .ret) (.seq (.region [.bin 119 .eql (.t 9) (.i 8),.m 118 119] [0,5,118]) (.cond (.t 118) (.seq (.region [.m 120 0,.ls 121 5 6,.cx (some 122) [.t 120,.c (.int .i64 2),.t 121] O8,.mv 6 (.c (.nil)),.m 7 122] [6,7]) .ret) .skip)))))
def Ns:AE:=(.seq (.region [.mv 6 (.c (.nil)),.mv 7 (.c (.nil))] [6,7]) .ret)
def CB:A_:=⟨[.ptr U,.val (.slice (.slice (.int .i64))),.val AH],[⟨6,false,(.slice AH)⟩,⟨7,false,(.slice Ay)⟩],(.seq (.region [.box 5 (.t 2) false,.mv 6 (.c (.nil)),.mv 7 (.c (.nil))] [0,1,5]) (.seq (.seq (.region [.f 8 5 0,.l 9 8] [0,1,5,9]) (.block 0 [] (.seq (.region [.bin 11 .eql (.t 9) (.i 1),.m 10 11] [0,1,5,9,10]) (.cond (.t 10) (.seq (.region [.m 12 0,.m 13 1,.ls 14 5 6,.cl 15 [12,13,14] gF,.m 6 15,.mv 7 (.c (.nil))] [6,7]) .ret) (.seq (.region [.bin 17 .eql (.t 9) (.i 2),.m 16 17] [0,1,5,9,16]) (.cond (.t 16) (.seq (.draw (EE 20 [(2,[]),(6,[1,5])]) (.tk 8 [.m 25 24,.b 24 .eql 19 23,.l 23 22,.f 22 21 1,.n 21 20,.m 20 0,.l 19 18,.f 18 5 3] (.test 25 (.tg 25 true 12 [.l 29 28,.f 28 27 4,.n 27 26,.m 26 0] (.tk 14 [.m 31 30,.pick 30 (.t 25) (.t 29) (.c (.bool false))] (.test 31 (.tg 31 true 19 [.un 36 .not (.t 35),.l 35 34,.f 34 33 3,.n 33 32,.m 32 0] (.tk 20 [.pick 37 (.t 31) (.t 36) (.c (.bool false))] .done)) PF))) (.sk 25 true 4 12 30 (.tk 14 [.m 31 30,.pick 30 (.t 25) (.t 29) (.c (.bool false))] PF)))) [0,1,5,37]) PH) (.seq (.region [.bin 51 .eql (.t 9) (.i 3),.m 50 51] [0,1,5,9,50]) (.cond (.t 50) (.seq (.draw (EE 11 [(1,[]),(2,[]),(5,[1,4]),(7,[]),(8,[0,6,7])]) (.tk 8 [.ls 59 5 6,.l 58 57,.idx 57 1 (.t 53) (.t 56),.bin 56 .sub (.t 55) (.i 1),.l 55 54,.f 54 5 3,.m 53 1,.m 52 0] (.only 8 none (.cl 60 [52,58,59] aT) false [] (.tk 11 [.mv 7 (.c (.nil)),.m 6 60] .done))) [6,7]) .ret) (.seq (.region [.bin 62 .eql (.t 9) (.i 4),.m 61 62] [0,5,9,61]) (.cond (.t 61) (.seq (.draw (EE 13 [(2,[]),(6,[1,5])]) (.tk 8 [.m 70 69,.b 69 .eql 64 68,.l 68 67,.f 67 66 1,.n 66 65,.m 65 0,.l 64 63,.f 63 5 3] (.test 70 (.tg 70 true 12 [.l 74 73,.f 73 72 4,.n 72 71,.m 71 0] (.tk 13 [.pick 75 (.t 70) (.t 74) (.c (.bool false))] .done)) (.sk 70 true 4 12 75 (.tk 13 [.pick 75 (.t 70) (.t 74) (.c (.bool false))] .done)))) [0,5,75]) PI) (.seqc [0,5,9,107] (.seq (.region [.bin 108 .eql (.t 9) (.i 5),.m 107 108] [0,5,9,107]) (.cond (.t 107) .skip (.region [.bin 109 .eql (.t 9) (.i 7),.m 107 109] [0,5,9,107]))) Nr))))))))))) Ns))⟩
theorem gL:Aq Tryz.prog 110 CB=true:=by kernel_rfl
def Dx:AE:=(.seq (.region [.b 9 .lss 8 7] [0,1,7,8,9]) (.seq (.cond (.t 9) .skip (.exit 0)) (.seq (.block 1 [0,1,7,8] (.seq (.region [.m 10 8,.m 5 10] [0,1,5,7,8]) (.seq (.region [.m 11 1,.m 12 0,.m 13 5,.idx 14 9 (.t 12) (.t 13),.ls 15 14 9,.call (some 16) 92 [(.t 15,.val AG),(.t 11,.cap 92 AG)] [.bool]] [0,1,5,7,8,16]) (.cond (.t 16) (.seq (.region [.m 17 5,.m 4 17] [4]) .ret) .skip)))) (.region [.bin 18 .add (.t 8) (.i 1),.m 8 18] [0,1,7,8]))))
def Dy:AE:=(.seq (.region [.mv 4 (.c (.int .i64 (-1)))] [4]) .ret)
def Ae:A_:=⟨[.val (.slice AG),.val (.clo 92 AG)],[⟨4,false,(.int .i64)⟩],(.seq (.region [.mv 4 (.i 0)] [0,1]) (.seq (.seq (.region [.m 6 0,.len 7 false (.t 6),.mv 8 (.i 0)] [0,1,7,8]) (.block 0 [] (.loop [0,1,7,8] Dx))) Dy))⟩
theorem JH:Aq Tryz.prog 111 Ae=true:=by kernel_rfl
def KZ:AE:=(.seq (.draw (EE 20 [(4,[2]),(9,[3,8]),(13,[2]),(17,[12,16])]) (.tk 1 [.m 34 1] (.only 1 none (.cl 35 [34] HB) false [] (.tk 3 [.m 36 35] (.test 36 (.tg 36 true 18 [.b 51 .eql 46 50,.l 50 49,.f 49 48 0,.n 48 47,.m 47 0,.l 46 45,.idx 45 1 (.t 44) (.i 0),.l 44 43,.idx 43 1 (.t 37) (.t 42),.bin 42 .sub (.t 41) (.i 1),.l 41 40,.f 40 39 1,.n 39 38,.m 38 0,.m 37 1] (.tk 20 [.m 4 52,.pick 52 (.t 36) (.t 51) (.c (.bool false))] .done)) (.sk 36 true 15 18 52 (.tk 20 [.m 4 52,.pick 52 (.t 36) (.t 51) (.c (.bool false))] .done)))))) [4]) .ret)
def Ck:A_:=⟨[.ptr U,.val (.slice (.slice (.int .i64)))],[⟨4,false,.bool⟩],(.seq (.region [.mv 4 (.c (.bool false))] [0,1]) (.seq (.seq (.region [.m 5 0,.n 6 5,.f 7 6 5,.l 8 7,.un 9 .not (.t 8),.m 10 9,.sc 10 false [.m 11 0,.n 12 11,.f 13 12 9,.f 14 13 0,.l 15 14,.bin 16 .neq (.t 15) (.i 0)] 17 (.c (.bool true)) (.t 16),.m 18 17,.sc 18 false [.m 19 0,.n 20 19,.f 21 20 8,.l 22 21,.bin 23 .eql (.t 22) (.i 900)] 24 (.c (.bool true)) (.t 23),.m 25 24,.sc 25 false [.m 26 0,.n 27 26,.f 28 27 1,.l 29 28,.m 30 1,.len 31 false (.t 30),.b 32 .gtr 29 31] 33 (.c (.bool true)) (.t 32)] [0,1,33]) (.cond (.t 33) (.seq (.region [.mv 4 (.c (.bool false))] [4]) .ret) .skip)) KZ))⟩
theorem XV:Aq Tryz.prog 113 Ck=true:=by kernel_rfl
def Y_:AE:=(.seq (.region [.b 10 .lss 9 8] [1,4,7,8,9,10]) (.seq (.cond (.t 10) .skip (.exit 0)) (.seq (.block 1 [1,4,7,8,9] (.seq (.region [.idx 11 3 (.t 7) (.t 9),.ls 12 11 3,.al 6 AD,.store (.t 6) (.t 12) 3 false] [1,4,6,7,8,9]) (.seq (.region [.f 13 6 0,.l 14 13,.m 15 1,.b 16 .eql 14 15] [1,4,6,7,8,9,16]) (.cond (.t 16) (.seq (.region [.ls 17 6 3,.store (.t 4) (.t 17) 3 false] [4]) .ret) .skip)))) (.region [.bin 18 .add (.t 9) (.i 1),.m 9 18] [1,4,7,8,9]))))
def ZA:AE:=(.seq (.region [.bu 19 AD [],.store (.t 4) (.t 19) 3 false] [4]) .ret)
def FV:A_:=⟨[.val (.slice AD),.val .str],[⟨4,true,AD⟩],(.seq (.region [.al 4 AD] [0,1,4]) (.seq (.seq (.region [.m 7 0,.len 8 false (.t 7),.mv 9 (.i 0)] [1,4,7,8,9]) (.block 0 [4] (.loop [1,4,7,8,9] Y_))) ZA))⟩
theorem ug:Aq Tryz.prog 114 FV=true:=by kernel_rfl
def Mp:AE:=(.seq (.region [.b 11 .lss 10 9] [0,5,8,9,10,11]) (.seq (.cond (.t 11) .skip (.exit 0)) (.seq (.block 1 [0,5,8,9,10] (.seq (.region [.idx 12 1 (.t 8) (.t 10),.l 13 12,.m 7 13] [0,5,7,8,9,10]) (.seq (.region [.m 14 7,.m 15 0,.n 16 15,.f 17 16 0,.l 18 17,.b 19 .neq 14 18] [0,5,7,8,9,10,19]) (.cond (.t 19) (.region [.m 20 5,.m 21 7,.blst 22 (.int .i64) [.t 21],.app 23 3 (.int .i64) (.t 20) (.t 22),.m 5 23] [0,5,8,9,10]) .skip)))) (.region [.bin 24 .add (.t 10) (.i 1),.m 10 24] [0,5,8,9,10]))))
def Mq:AE:=(.seq (.region [.m 25 5,.m 4 25] [4]) .ret)
def B5:A_:=⟨[.ptr U,.val (.slice (.int .i64))],[⟨4,false,(.slice (.int .i64))⟩],(.seq (.region [.mv 4 (.c (.nil))] [0,1]) (.seq (.region [.nilrow 5 3 (.int .i64)] [0,1,5]) (.seq (.seq (.region [.m 8 1,.len 9 false (.t 8),.mv 10 (.i 0)] [0,5,8,9,10]) (.block 0 [5] (.loop [0,5,8,9,10] Mp))) Mq)))⟩
theorem cE:Aq Tryz.prog 115 B5=true:=by kernel_rfl
def F8:A_:=⟨[.mut (.own 3 (.int .i64))],[],(.seq (.region [.m 3 0,.len 4 false (.t 3),.m 2 4] [0,2]) (.region [.m 5 0,.m 6 2,.m 7 2,.cvi 8 .u64 (.t 7),.cl 9 [8] oY,.cx (some 10) [.t 5,.c (.int .i64 0),.t 6,.t 9] FH] []))⟩
theorem aV:Aq Tryz.prog 116 F8=true:=by kernel_rfl

def PJ:AE:=(.seq (.region [.m 30 0,.bu 31 MX [],.n 32 30,.f 33 32 9,.store (.t 33) (.t 31) 7 false] [0,3]) (.seq (.draw (EE 13 [(2,[]),(6,[]),(8,[]),(10,[1,5,7,9])]) (.tk 11 [.bu 44 Ay [(0,1,.t 35),(1,1,.t 39),(2,1,.t 41),(3,3,.t 43)],.ls 43 42 3,.f 42 3 3,.l 41 40,.f 40 3 2,.l 39 38,.f 38 37 1,.n 37 36,.m 36 0,.l 35 34,.f 34 3 1] (.only 11 none (.brow 45 126 Ay [.t 44]) false [] (.tk 13 [.m 2 45] .done))) [2]) .ret))
def D5:A_:=⟨[.ptr U],[⟨2,false,(.slice Ay)⟩],(.seq (.region [.mv 2 (.c (.nil))] [0]) (.seq (.region [.m 4 0,.n 5 4,.f 6 5 9,.ls 7 6 7,.al 3 MX,.store (.t 3) (.t 7) 7 false] [0,3]) (.seqc [0,3] (.seq (.region [.f 8 3 0,.l 9 8,.bin 10 .eql (.t 9) (.i 1)] [0,3,10]) (.cond (.t 10) (.draw (EE 11 [(1,[]),(5,[]),(7,[4,6]),(8,[0,7])]) (.tk 7 [.ls 17 16 3,.f 16 3 3,.l 15 14,.f 14 13 7,.n 13 12,.m 12 0,.m 11 0] (.only 7 none (.cl 18 [15,17] bX) false [] (.tk 10 [.f 20 19 7,.n 19 11] (.only 10 none (.store (.t 20) (.t 18) 1 false) false [] .done)))) [0,3]) (.draw (EE 10 [(4,[]),(7,[3,6])]) (.tk 7 [.l 27 26,.f 26 25 0,.f 25 3 3,.l 24 23,.f 23 22 7,.n 22 21,.m 21 0] (.only 7 none (.cl 28 [24,27] fQ) false [] (.tk 9 [.f 29 3 3] (.only 9 none (.store (.t 29) (.t 28) 3 false) false [] .done)))) [0,3]))) PJ)))⟩
theorem gM:Aq Tryz.prog 117 D5=true:=by kernel_rfl
def Lq:AE:=(.seq (.region [.b 14 .lss 13 12] [0,5,7,11,12,13,14]) (.seq (.cond (.t 14) .skip (.exit 0)) (.seq (.block 1 [0,5,7,11,12,13] (.seq (.region [.idx 15 1 (.t 11) (.t 13),.l 16 15,.m 9 16] [0,5,7,9,11,12,13]) (.seq (.region [.ls 17 5 6,.cl 18 [17] Ru,.al 10 AH,.store (.t 10) (.t 18) 6 false] [0,5,7,9,10,11,12,13]) (.seq (.draw (EE 15 [(4,[]),(5,[]),(9,[3]),(11,[4,10]),(13,[8,12])]) (.tk 10 [.f 28 10 1,.l 27 26,.f 26 25 1,.n 25 24,.m 24 0,.m 23 9,.l 22 21,.f 21 20 0,.n 20 19,.m 19 0] (.only 10 none (.store (.t 28) (.t 22) 1 false) false [] (.tk 12 [.f 29 10 2] (.only 12 none (.store (.t 29) (.t 23) 1 false) false [] (.tk 14 [.f 30 10 3] (.only 14 none (.store (.t 30) (.t 27) 1 false) false [] .done)))))) [0,5,7,10,11,12,13]) (.region [.m 31 7,.ls 32 10 6,.blst 33 AH [.t 32],.app 34 97 AH (.t 31) (.t 33),.m 7 34] [0,5,7,11,12,13]))))) (.region [.bin 35 .add (.t 13) (.i 1),.m 13 35] [0,5,7,11,12,13]))))
def Lr:AE:=(.seq (.region [.m 36 7,.m 6 36] [6]) .ret)
def Bp:A_:=⟨[.ptr U,.val (.slice (.int .i64)),.val AH],[⟨6,false,(.slice AH)⟩],(.seq (.region [.box 5 (.t 2) false,.mv 6 (.c (.nil))] [0,1,5]) (.seq (.region [.nilrow 7 97 AH] [0,1,5,7]) (.seq (.seq (.region [.m 11 1,.len 12 false (.t 11),.mv 13 (.i 0)] [0,5,7,11,12,13]) (.block 0 [7] (.loop [0,5,7,11,12,13] Lq))) Lr)))⟩
theorem aW:Aq Tryz.prog 118 Bp=true:=by kernel_rfl
def It:A_:=⟨[.ptr U],[],(.region [.m 2 0,.m 3 0,.m 4 0,.m 5 0,.m 6 0,.bu 7 MX [],.n 8 2,.f 9 8 4,.store (.t 9) (.c (.bool false)) 1 false,.n 10 3,.f 11 10 5,.store (.t 11) (.c (.bool false)) 1 false,.n 12 4,.f 13 12 6,.store (.t 13) (.c (.nil)) 1 false,.n 14 5,.f 15 14 8,.store (.t 15) (.i 0) 1 false,.n 16 6,.f 17 16 9,.store (.t 17) (.t 7) 7 false] [])⟩
theorem jD:Aq Tryz.prog 119 It=true:=by kernel_rfl
def FK:A_:=⟨[.ptr U,.val (.slice (.int .i64)),.val (.slice AD)],[⟨6,false,(.slice AH)⟩],(.seq (.region [.mv 6 (.c (.nil))] [0,1,2]) (.seq (.region [.m 8 0,.m 9 1,.cl 10 [8,9] GW,.m 7 10] [0,2,7]) (.seq (.region [.m 11 0,.m 12 0,.m 13 2,.cl 14 [13] BD,.n 15 11,.f 16 15 3,.store (.t 16) (.c (.bool true)) 1 true,.n 17 12,.f 18 17 7,.store (.t 18) (.t 14) 1 true] [0,2,7]) (.seq (.region [.m 19 0,.m 20 7,.cl 21 [20] Ch,.n 22 19,.f 23 22 6,.store (.t 23) (.t 21) 1 true] [0,2,7]) (.seq (.region [.m 24 0,.n 25 24,.f 26 25 6,.l 27 26,.cl 28 [27] Nl] [0,2,7]) (.seqc [0,2,7] (.seq (.region [.m 29 7,.len 30 false (.t 29),.bin 31 .eql (.t 30) (.i 0)] [0,2,7,31]) (.cond (.t 31) (.region [.m 32 0,.n 33 32,.f 34 33 5,.store (.t 34) (.c (.bool true)) 1 true] [0,2,7]) .skip)) (.seq (.region [.m 35 0,.m 36 7,.m 37 2,.bu 38 AH [(0,1,.c (.int .i64 3)),(5,1,.t 37)],.cl 39 [35,36,38] BZ,.m 6 39] [6]) .ret)))))))⟩
theorem XW:Aq Tryz.prog 120 FK=true:=by kernel_rfl
def T2:AE:=(.seq (.region [.f 71 1 9,.ls 72 71 7,.al 3 MX,.store (.t 3) (.t 72) 7 false] [1,3]) (.seq (.region [.ls 73 3 7,.cl 74 [73] mC,.m 75 74,.sc 75 false [.f 76 3 0,.l 77 76,.bin 78 .eql (.t 77) (.i 1),.m 79 78,.sc 79 false [.f 80 3 0,.l 81 80,.bin 82 .eql (.t 81) (.i 2)] 83 (.c (.bool true)) (.t 82),.m 84 83,.sc 84 true [.f 85 1 5,.l 86 85] 87 (.t 86) (.c (.bool false)),.m 88 87,.sc 88 true [.f 89 3 1,.l 90 89,.cx (some 91) [.t 90,.c (.int .i64 0),.c (.int .i64 1000)] Aj] 92 (.t 91) (.c (.bool false)),.m 93 92,.sc 93 true [.f 94 3 2,.l 95 94,.cx (some 96) [.t 95,.c (.int .i64 1),.c (.int .i64 900)] Aj] 97 (.t 96) (.c (.bool false))] 98 (.c (.bool true)) (.t 97),.m 2 98] [2]) .ret))
def GI:A_:=⟨[.val U],[⟨2,false,.bool⟩],(.seq (.region [.box 1 (.t 0) false,.mv 2 (.c (.bool false))] [1]) (.seq (.seq (.region [.f 4 1 0,.l 5 4,.cx (some 6) [.t 5,.c (.int .i64 1),.c (.int .i64 6)] Aj,.un 7 .not (.t 6),.m 8 7,.sc 8 false [.f 9 1 1,.l 10 9,.cx (some 11) [.t 10,.c (.int .i64 1),.c (.int .i64 9)] Aj,.un 12 .not (.t 11)] 13 (.c (.bool true)) (.t 12),.m 14 13,.sc 14 false [.f 15 1 5,.l 16 15,.m 17 16,.sc 17 true [.f 18 1 3,.l 19 18,.un 20 .not (.t 19),.m 21 20,.sc 21 false [.f 22 1 4,.l 23 22,.un 24 .not (.t 23)] 25 (.c (.bool true)) (.t 24),.m 26 25,.sc 26 false [.f 27 1 6,.l 28 27,.len 29 false (.t 28),.bin 30 .gtr (.t 29) (.i 0)] 31 (.c (.bool true)) (.t 30)] 32 (.t 31) (.c (.bool false))] 33 (.c (.bool true)) (.t 32),.m 34 33,.sc 34 false [.f 35 1 2,.l 36 35,.m 37 36,.sc 37 true [.f 38 1 3,.l 39 38,.m 40 39,.sc 40 false [.f 41 1 4,.l 42 41] 43 (.c (.bool true)) (.t 42)] 44 (.t 43) (.c (.bool false))] 45 (.c (.bool true)) (.t 44),.m 46 45,.sc 46 false [.f 47 1 6,.l 48 47,.cl 49 [48] fT,.un 50 .not (.t 49)] 51 (.c (.bool true)) (.t 50),.m 52 51,.sc 52 false [.f 53 1 9,.f 54 53 6,.l 55 54,.cl 56 [55] fT,.un 57 .not (.t 56)] 58 (.c (.bool true)) (.t 57),.m 59 58,.sc 59 false [.f 60 1 7,.l 61 60,.cl 62 [61] Me,.un 63 .not (.t 62)] 64 (.c (.bool true)) (.t 63),.m 65 64,.sc 65 false [.f 66 1 8,.l 67 66,.cx (some 68) [.t 67,.c (.int .i64 0),.c (.int .i64 900)] Aj,.un 69 .not (.t 68)] 70 (.c (.bool true)) (.t 69)] [1,70]) (.cond (.t 70) (.seq (.region [.mv 2 (.c (.bool false))] [2]) .ret) .skip)) T2))⟩
theorem ou:Aq Tryz.prog 121 GI=true:=by kernel_rfl
def ZB:AE:=(.seq (.seq (.region [.m 6 5,.m 7 0,.len 8 false (.t 7),.b 9 .lss 6 8] [0,1,4,5,9]) (.cond (.t 9) .skip (.exit 0))) (.seq (.block 1 [0,1,4,5] (.seq (.region [.m 12 0,.m 13 5,.idx 14 3 (.t 12) (.t 13),.f 15 14 0,.l 16 15,.m 17 1,.b 18 .eql 16 17] [0,1,4,5,18]) (.cond (.t 18) (.seq (.region [.m 19 0,.m 20 5,.idx 21 3 (.t 19) (.t 20),.ls 22 21 3,.store (.t 4) (.t 22) 3 false] [4]) .ret) .skip))) (.region [.m 10 5,.bin 11 .add (.t 10) (.i 1),.m 5 11] [0,1,4,5])))
def ZD:AE:=(.seq (.region [.bu 23 AD [],.store (.t 4) (.t 23) 3 false] [4]) .ret)
def FW:A_:=⟨[.val (.slice AD),.val .str],[⟨4,true,AD⟩],(.seq (.region [.al 4 AD] [0,1,4]) (.seq (.seq (.region [.mv 5 (.i 0)] [0,1,4,5]) (.block 0 [4] (.loop [0,1,4,5] ZB))) ZD))⟩
theorem uh:Aq Tryz.prog 122 FW=true:=by kernel_rfl
def Vp:AE:=(.seq (.draw (EE 18 [(1,[]),(2,[0,1]),(5,[]),(7,[4,6]),(10,[8]),(11,[9,10]),(14,[8]),(16,[13,15])]) (.tk 9 [.m 42 41,.b 41 .eql 38 40,.l 40 39,.f 39 3 0,.l 38 37,.f 37 36 0,.idx 36 3 (.t 34) (.t 35),.m 35 7,.m 34 0] (.test 42 (.tg 42 true 17 [.b 50 .geq 47 49,.l 49 48,.f 48 3 2,.l 47 46,.f 46 45 2,.idx 45 3 (.t 43) (.t 44),.m 44 7,.m 43 0] (.tk 18 [.pick 51 (.t 42) (.t 50) (.c (.bool false))] .done)) (.sk 42 true 8 17 51 (.tk 18 [.pick 51 (.t 42) (.t 50) (.c (.bool false))] .done)))) [0,3,5,6,7,51]) (.cond (.t 51) (.seq (.region [.m 52 5,.m 4 52] [4]) .ret) .skip))
def Vq:AE:=(.region [.m 17 7,.bin 18 .add (.t 17) (.i 1),.m 7 18] [0,3,5,6,7])
def Vr:AE:=(.seq (.seq (.region [.m 13 7,.m 14 0,.len 15 false (.t 14),.b 16 .lss 13 15] [0,3,5,6,7,16]) (.cond (.t 16) .skip (.exit 0))) (.seq (.block 1 [0,3,5,6,7] (.seqc [0,3,5,6,7] (.seq (.draw (EE 8 [(1,[]),(2,[0,1]),(5,[]),(7,[4,6])]) (.tk 8 [.b 26 .lss 23 25,.l 25 24,.f 24 3 0,.l 23 22,.f 22 21 0,.idx 21 3 (.t 19) (.t 20),.m 20 7,.m 19 0] .done) [0,3,5,6,7,26]) (.cond (.t 26) (.region [.m 27 6,.m 28 0,.m 29 7,.idx 30 3 (.t 28) (.t 29),.ls 31 30 3,.blst 32 AD [.t 31],.app 33 38 AD (.t 27) (.t 32),.m 6 33] [0,3,5,6,7]) .skip)) Vp)) Vq))
def T3:AE:=(.seq (.seq (.region [.m 57 8,.m 58 0,.len 59 false (.t 58),.b 60 .lss 57 59] [0,3,5,6,8,60]) (.cond (.t 60) .skip (.exit 2))) (.seq (.block 3 [0,3,5,6,8] (.seq (.draw (EE 8 [(1,[]),(2,[0,1]),(5,[]),(7,[4,6])]) (.tk 8 [.b 70 .gtr 67 69,.l 69 68,.f 68 3 0,.l 67 66,.f 66 65 0,.idx 65 3 (.t 63) (.t 64),.m 64 8,.m 63 0] .done) [0,3,5,6,8,70]) (.cond (.t 70) (.region [.m 71 6,.m 72 0,.m 73 8,.idx 74 3 (.t 72) (.t 73),.ls 75 74 3,.blst 76 AD [.t 75],.app 77 38 AD (.t 71) (.t 76),.m 6 77] [0,3,5,6,8]) .skip))) (.region [.m 61 8,.bin 62 .add (.t 61) (.i 1),.m 8 62] [0,3,5,6,8])))
def Mr:AE:=(.seq (.seq (.region [.m 78 0,.cl 79 [78] Me,.un 80 .not (.t 79),.m 81 80,.sc 81 false [.m 82 6,.cl 83 [82] Me,.un 84 .not (.t 83)] 85 (.c (.bool true)) (.t 84)] [5,6,85]) (.cond (.t 85) (.seq (.region [.m 86 5,.m 4 86] [4]) .ret) .skip)) (.seq (.region [.m 87 6,.m 4 87] [4]) .ret))
def Ms:AE:=(.seq (.region [.m 53 6,.ls 54 3 3,.blst 55 AD [.t 54],.app 56 38 AD (.t 53) (.t 55),.m 6 56] [0,3,5,6]) (.seq (.seq (.region [.mv 8 (.i 0)] [0,3,5,6,8]) (.block 2 [0,5,6] (.loop [0,3,5,6,8] T3))) Mr))
def BB:A_:=⟨[.val (.slice AD),.val AD],[⟨4,false,(.own 38 AD)⟩],(.seq (.region [.box 3 (.t 1) false,.mv 4 (.c (.nil))] [0,3]) (.seq (.region [.brow 9 38 AD [],.m 10 0,.app 11 38 AD (.t 9) (.t 10),.m 5 11] [0,3,5]) (.seq (.region [.brow 12 38 AD [],.m 6 12] [0,3,5,6]) (.seq (.seq (.region [.mv 7 (.i 0)] [0,3,5,6,7]) (.block 0 [0,3,5,6] (.loop [0,3,5,6,7] Vr))) Ms))))⟩
theorem sF:Aq Tryz.prog 123 BB=true:=by kernel_rfl
def SD:AE:=(.seq (.seq (.region [.m 8 6,.bin 9 .leq (.t 8) (.i 6)] [0,1,5,6,9]) (.cond (.t 9) .skip (.exit 0))) (.seq (.block 1 [0,1,5,6] (.seq (.region [.m 12 6,.m 13 1,.b 14 .neq 12 13,.m 15 14,.sc 15 true [.m 16 0,.m 17 6,.cl 18 [16,17] FF] 19 (.t 18) (.c (.bool false))] [0,1,5,6,19]) (.cond (.t 19) (.region [.m 20 5,.m 21 6,.blst 22 (.int .i64) [.t 21],.app 23 3 (.int .i64) (.t 20) (.t 22),.m 5 23] [0,1,5,6]) .skip))) (.region [.m 10 6,.bin 11 .add (.t 10) (.i 1),.m 6 11] [0,1,5,6])))
def SE:AE:=(.seq (.region [.m 24 5,.m 4 24] [4]) .ret)
def DH:A_:=⟨[.val (.slice (.int .i64)),.val (.int .i64)],[⟨4,false,(.slice (.int .i64))⟩],(.seq (.region [.mv 4 (.c (.nil))] [0,1]) (.seq (.region [.brow 7 3 (.int .i64) [],.m 5 7] [0,1,5]) (.seq (.seq (.region [.mv 6 (.i 1)] [0,1,5,6]) (.block 0 [5] (.loop [0,1,5,6] SD))) SE)))⟩
theorem mL:Aq Tryz.prog 124 DH=true:=by kernel_rfl
def Jf:A_:=⟨[.ptr U],[⟨2,false,(.slice Ay)⟩],(.seq (.region [.mv 2 (.c (.nil))] [0]) (.seq (.region [.m 5 0,.n 6 5,.f 7 6 9,.ls 8 7 7,.al 3 MX,.store (.t 3) (.t 8) 7 false] [0,3]) (.seq (.draw (EE 13 [(2,[]),(6,[]),(8,[]),(10,[1,5,7,9]),(11,[]),(12,[10,11])]) (.tk 11 [.bu 19 Ay [(0,1,.t 10),(1,1,.t 14),(2,1,.t 16),(3,3,.t 18)],.ls 18 17 3,.f 17 3 3,.l 16 15,.f 15 3 2,.l 14 13,.f 13 12 1,.n 12 11,.m 11 0,.l 10 9,.f 9 3 1] (.only 11 none (.al 4 Ay) false [] (.only 12 none (.store (.t 4) (.t 19) 6 false) false [] .done))) [0,3,4]) (.seqc [0,4] (.seq (.region [.f 20 3 0,.l 21 20,.bin 22 .eql (.t 21) (.i 1)] [0,3,4,22]) (.cond (.t 22) (.draw (EE 11 [(1,[]),(5,[]),(7,[4,6]),(8,[0,7])]) (.tk 7 [.ls 29 28 3,.f 28 3 3,.l 27 26,.f 26 25 7,.n 25 24,.m 24 0,.m 23 0] (.only 7 none (.cl 30 [27,29] Rw) false [] (.tk 10 [.f 32 31 7,.n 31 23] (.only 10 none (.store (.t 32) (.t 30) 1 false) false [] .done)))) [0,4]) (.draw (EE 10 [(4,[]),(7,[3,6])]) (.tk 7 [.l 39 38,.f 38 37 0,.f 37 3 3,.l 36 35,.f 35 34 7,.n 34 33,.m 33 0] (.only 7 none (.cl 40 [36,39] fR) false [] (.tk 9 [.f 41 4 3] (.only 9 none (.store (.t 41) (.t 40) 3 false) false [] .done)))) [0,4]))) (.seq (.region [.m 42 0,.bu 43 MX [],.n 44 42,.f 45 44 9,.store (.t 45) (.t 43) 7 false] [4]) (.seq (.region [.ls 46 4 6,.brow 47 126 Ay [.t 46],.m 2 47] [2]) .ret))))))⟩
theorem mM:Aq Tryz.prog 125 Jf=true:=by kernel_rfl
def ZE:AE:=(.seq (.seq (.region [.m 37 8,.m 38 1,.len 39 false (.t 38),.b 40 .lss 37 39] [0,1,2,7,8,40]) (.cond (.t 40) .skip (.exit 0))) (.seq (.block 1 [0,1,2,7,8] (.seq (.draw (EE 9 [(1,[]),(2,[0,1]),(4,[]),(8,[3,7])]) (.tk 9 [.b 51 .neq 46 50,.l 50 49,.f 49 48 0,.n 48 47,.m 47 0,.l 46 45,.idx 45 1 (.t 43) (.t 44),.m 44 8,.m 43 1] .done) [0,1,2,7,8,51]) (.cond (.t 51) (.draw (EE 20 [(1,[]),(5,[]),(6,[]),(7,[5,6]),(9,[]),(13,[]),(14,[]),(15,[13,14]),(16,[4,8,12,15]),(18,[0,17])]) (.tk 13 [.l 64 63,.f 63 62 1,.n 62 61,.m 61 0,.l 60 59,.idx 59 1 (.t 57) (.t 58),.m 58 8,.m 57 1,.l 56 55,.f 55 54 0,.n 54 53,.m 53 0,.m 52 7] (.tk 15 [.m 66 2] (.only 13 none (.brow 65 38 AD []) false [] (.only 15 none (.apz 67 38 AD (.t 65) (.t 66)) false [] (.tk 17 [.bu 68 AH [(0,1,.c (.int .i64 3)),(1,1,.t 56),(2,1,.t 60),(3,1,.t 64),(5,1,.t 67)]] (.only 17 none (.blst 69 AH [.t 68]) false [] (.only 18 none (.app 70 97 AH (.t 52) (.t 69)) false [] (.tk 20 [.m 7 70] .done)))))))) [0,1,2,7,8]) .skip))) (.region [.m 41 8,.bin 42 .add (.t 41) (.i 1),.m 8 42] [0,1,2,7,8])))
def ZF:AE:=(.seq (.region [.m 71 7,.m 6 71] [6]) .ret)
def FX:A_:=⟨[.ptr U,.val (.slice (.int .i64)),.val (.slice AD)],[⟨6,false,(.slice AH)⟩],(.seq (.region [.mv 6 (.c (.nil))] [0,1,2]) (.seq (.region [.brow 9 97 AH [],.m 7 9] [0,1,2,7]) (.seq (.region [.m 10 0,.n 11 10,.f 12 11 3,.store (.t 12) (.c (.bool true)) 1 false] [0,1,2,7]) (.seq (.region [.m 13 0,.brow 14 38 AD [],.m 15 2,.app 16 38 AD (.t 14) (.t 15),.n 17 13,.f 18 17 7,.store (.t 18) (.t 16) 1 false] [0,1,2,7]) (.seq (.region [.m 19 0,.m 20 1,.m 21 0,.n 22 21,.f 23 22 0,.l 24 23,.cl 25 [20,24] VO,.n 26 19,.f 27 26 6,.store (.t 27) (.t 25) 1 false] [0,1,2,7]) (.seq (.region [.m 28 0,.m 29 0,.n 30 29,.f 31 30 6,.l 32 31,.len 33 false (.t 32),.bin 34 .eql (.t 33) (.i 0),.n 35 28,.f 36 35 5,.store (.t 36) (.t 34) 1 false] [0,1,2,7]) (.seq (.seq (.region [.mv 8 (.i 0)] [0,1,2,7,8]) (.block 0 [7] (.loop [0,1,2,7,8] ZE))) ZF)))))))⟩
theorem ui:Aq Tryz.prog 126 FX=true:=by kernel_rfl
def cH:AE:=(.cond (.t 39) (.seq (.region [.mv 2 (.c (.bool true))] [2]) .ret) (.seq (.region [.bin 43 .eql (.t 38) (.i 5),.m 42 43] [1,42]) (.cond (.t 42) (.seq (.region [.f 44 1 5,.l 45 44,.len 46 false (.t 45),.bin 47 .eql (.t 46) (.i 1),.m 2 47] [2]) .ret) .skip)))
def cI:AE:=(.seq (.region [.f 48 1 5,.l 49 48,.len 50 false (.t 49),.bin 51 .eql (.t 50) (.i 0),.m 2 51] [2]) .ret)
def cJ:AE:=(.seq (.seq (.region [.f 37 1 0,.l 38 37] [1,38]) (.block 0 [1] (.seqc [1,38,39] (.seq (.region [.bin 40 .eql (.t 38) (.i 2),.m 39 40] [1,38,39]) (.cond (.t 39) .skip (.region [.bin 41 .eql (.t 38) (.i 3),.m 39 41] [1,38,39]))) cH))) cI)
def FM:A_:=⟨[.val AH],[⟨2,false,.bool⟩],(.seq (.region [.box 1 (.t 0) false,.mv 2 (.c (.bool false))] [1]) (.seq (.seq (.region [.f 3 1 0,.l 4 3,.cx (some 5) [.t 4,.c (.int .i64 1),.c (.int .i64 8)] Aj,.un 6 .not (.t 5),.m 7 6,.sc 7 false [.f 8 1 1,.l 9 8,.cx (some 10) [.t 9,.c (.int .i64 1),.c (.int .i64 6)] Aj,.un 11 .not (.t 10)] 12 (.c (.bool true)) (.t 11),.m 13 12,.sc 13 false [.f 14 1 2,.l 15 14,.cx (some 16) [.t 15,.c (.int .i64 1),.c (.int .i64 6)] Aj,.un 17 .not (.t 16)] 18 (.c (.bool true)) (.t 17),.m 19 18,.sc 19 false [.f 20 1 3,.l 21 20,.cx (some 22) [.t 21,.c (.int .i64 1),.c (.int .i64 9)] Aj,.un 23 .not (.t 22)] 24 (.c (.bool true)) (.t 23),.m 25 24,.sc 25 false [.f 26 1 4,.l 27 26,.cx (some 28) [.t 27,.c (.int .i64 0),.c (.int .i64 1000000000)] Aj,.un 29 .not (.t 28)] 30 (.c (.bool true)) (.t 29),.m 31 30,.sc 31 false [.f 32 1 5,.l 33 32,.cl 34 [33] Me,.un 35 .not (.t 34)] 36 (.c (.bool true)) (.t 35)] [1,36]) (.cond (.t 36) (.seq (.region [.mv 2 (.c (.bool false))] [2]) .ret) .skip)) cJ))⟩
theorem xG:Aq Tryz.prog 127 FM=true:=by kernel_rfl
def ZG:AE:=(.cond (.t 28) (.seq (.region [.m 29 1,.f 30 5 5,.l 31 30,.cl 32 [9,29,31] fS,.m 12 32] [6,9,11,12]) (.seq (.region [.ls 33 9 16,.m 34 12,.m 35 11,.store (.t 6) (.t 33) 16 false,.m 7 34,.m 8 35] [6,7,8]) .ret)) .skip)
def ZH:AE:=(.seqc [3,5,6,9,11] (.seq (.region [.f 64 9 3,.l 65 64,.un 66 .not (.t 65)] [3,5,6,9,11,66]) (.cond (.t 66) (.seq (.region [.ls 67 3 16,.f 68 3 1,.l 69 68,.cl 70 [67,69] bV,.store (.t 9) (.t 70) 16 false] [3,5,6,9,11]) (.seq (.region [.f 71 9 3,.store (.t 71) (.c (.bool true)) 1 false] [3,5,6,9,11]) (.region [.brow 72 38 AD [],.f 73 5 5,.l 74 73,.app 75 38 AD (.t 72) (.t 74),.f 76 9 7,.store (.t 76) (.t 75) 1 false] [3,5,6,9,11]))) .skip)) (.seq (.draw (EE 8 [(1,[]),(2,[]),(3,[1,2]),(4,[]),(5,[0,3]),(7,[4,6])]) (.tk 3 [.ls 79 5 6,.ls 78 3 16,.ls 77 9 16] (.tk 5 [.m 81 11] (.only 3 none (.cx (some 80) [.t 78,.t 79,.c (.int .i64 4)] Km) false [] (.only 5 none (.store (.t 6) (.t 77) 16 false) false [] (.tk 8 [.m 8 81,.m 7 80] .done))))) [6,7,8]) .ret))
def ZI:AE:=(.seq (.seq (.region [.f 54 9 3,.l 55 54,.un 56 .not (.t 55),.m 57 56,.sc 57 true [.f 58 9 2,.l 59 58] 60 (.t 59) (.c (.bool false))] [3,5,6,9,10,11,60]) (.cond (.t 60) (.seq (.region [.ls 61 9 16,.m 62 10,.m 63 11,.store (.t 6) (.t 61) 16 false,.m 7 62,.m 8 63] [6,7,8]) .ret) .skip)) ZH)
def Vs:AE:=(.seq (.region [.f 149 9 9,.f 150 149 6,.l 151 150,.f 152 5 1,.l 153 152,.cl 154 [151,153] TQ,.f 155 9 9,.f 156 155 6,.store (.t 156) (.t 154) 1 false] [6,9,10,11]) (.seq (.region [.f 157 9 9,.f 158 157 6,.l 159 158,.len 160 false (.t 159),.bin 161 .eql (.t 160) (.i 0)] [6,9,10,11,161]) (.cond (.t 161) (.region [.cl 162 [9] VP,.m 11 162] [6,9,10,11]) .skip)))
def Vt:AE:=(.seq (.seq (.region [.f 133 9 9,.f 134 133 0,.l 135 134,.m 136 13,.b 137 .neq 135 136,.m 138 137,.sc 138 false [.f 139 9 9,.f 140 139 2,.l 141 140,.f 142 5 4,.l 143 142,.b 144 .neq 141 143] 145 (.c (.bool true)) (.t 144)] [5,6,9,10,11,145]) (.cond (.t 145) (.seq (.region [.ls 146 9 16,.m 147 10,.m 148 11,.store (.t 6) (.t 146) 16 false,.m 7 147,.m 8 148] [6,7,8]) .ret) .skip)) Vs)
def Vu:AE:=(.cond (.t 127) (.seq (.region [.mv 13 (.i 1)] [5,6,9,10,11,13]) (.seqc [5,6,9,10,11,13] (.seq (.region [.f 130 5 0,.l 131 130,.bin 132 .eql (.t 131) (.i 8)] [5,6,9,10,11,13,132]) (.cond (.t 132) (.region [.mv 13 (.i 2)] [5,6,9,10,11,13]) .skip)) Vt)) .skip)
def Vv:AE:=(.seq (.region [.ls 163 9 16,.m 164 10,.m 165 11,.store (.t 6) (.t 163) 16 false,.m 7 164,.m 8 165] [6,7,8]) .ret)
def Cb:A_:=⟨[.val U,.val (.slice (.int .i64)),.val AH],[⟨6,true,U⟩,⟨7,false,(.slice AH)⟩,⟨8,false,(.slice Ay)⟩],(.seq (.region [.box 3 (.t 0) false,.box 5 (.t 2) false,.al 6 U,.mv 7 (.c (.nil)),.mv 8 (.c (.nil))] [1,3,5,6]) (.seq (.region [.ls 14 3 16,.cl 15 [14] HC,.al 9 U,.store (.t 9) (.t 15) 16 false] [1,3,5,6,9]) (.seq (.region [.blst 16 AH [],.m 10 16] [1,3,5,6,9,10]) (.seq (.region [.blst 17 Ay [],.m 11 17] [1,3,5,6,9,10,11]) (.seq (.seq (.region [.f 18 5 0,.l 19 18] [1,3,5,6,9,10,11,19]) (.block 0 [6,9,10,11] (.seq (.region [.bin 21 .eql (.t 19) (.i 2),.m 20 21] [1,3,5,6,9,10,11,19,20]) (.cond (.t 20) (.seq (.region [.f 22 9 4,.l 23 22,.m 24 23,.sc 24 true [.f 25 9 3,.l 26 25,.un 27 .not (.t 26)] 28 (.t 27) (.c (.bool false))] [1,5,6,9,10,11,28]) ZG) (.seq (.region [.bin 37 .eql (.t 19) (.i 3),.m 36 37] [1,3,5,6,9,10,11,19,36]) (.cond (.t 36) (.seq (.seq (.draw (EE 13 [(1,[]),(3,[0,2]),(9,[5]),(11,[8,10])]) (.tk 3 [.l 40 39,.f 39 3 0,.m 38 1] (.only 3 none (.cl 41 [38,40] FF) false [] (.tk 6 [.m 43 42,.un 42 .not (.t 41)] (.test 43 (.sk 43 false 6 12 50 (.tk 13 [.pick 50 (.t 43) (.c (.bool true)) (.t 49)] .done)) (.tg 43 false 12 [.b 49 .eql 46 48,.l 48 47,.f 47 3 0,.l 46 45,.idx 45 1 (.t 44) (.i 0),.m 44 1] (.tk 13 [.pick 50 (.t 43) (.c (.bool true)) (.t 49)] .done)))))) [3,5,6,9,10,11,50]) (.cond (.t 50) (.seq (.region [.ls 51 9 16,.m 52 10,.m 53 11,.store (.t 6) (.t 51) 16 false,.m 7 52,.m 8 53] [6,7,8]) .ret) .skip)) ZI) (.seq (.region [.bin 83 .eql (.t 19) (.i 4),.m 82 83] [3,5,6,9,10,11,19,82]) (.cond (.t 82) (.seq (.region [.f 84 9 4,.l 85 84] [5,6,9,10,11,85]) (.cond (.t 85) (.seq (.region [.f 86 9 6,.l 87 86,.f 88 5 1,.l 89 88,.cl 90 [87,89] TQ,.f 91 9 6,.store (.t 91) (.t 90) 1 false] [6,9,10,11]) (.region [.f 92 9 3,.l 93 92,.m 94 93,.sc 94 true [.f 95 9 6,.l 96 95,.len 97 false (.t 96),.bin 98 .eql (.t 97) (.i 0)] 99 (.t 98) (.c (.bool false)),.f 100 9 5,.store (.t 100) (.t 99) 1 false] [6,9,10,11])) .skip)) (.seq (.region [.bin 102 .eql (.t 19) (.i 5),.m 101 102] [3,5,6,9,10,11,19,101]) (.cond (.t 101) (.seq (.region [.f 103 9 3,.l 104 103] [3,5,6,9,10,11,104]) (.cond (.t 104) (.seq (.draw (EE 9 [(2,[]),(6,[1,5])]) (.tk 6 [.ls 110 109 3,.idx 109 3 (.t 108) (.i 0),.l 108 107,.f 107 5 5,.l 106 105,.f 105 9 7] (.only 6 none (.cl 111 [106,110] Rw) false [] (.tk 8 [.f 112 9 7] (.only 8 none (.store (.t 112) (.t 111) 1 false) false [] .done)))) [3,5,6,9,11]) (.seq (.draw (EE 8 [(1,[]),(2,[]),(3,[1,2]),(4,[]),(5,[0,3]),(7,[4,6])]) (.tk 3 [.ls 115 5 6,.ls 114 3 16,.ls 113 9 16] (.tk 5 [.m 117 11] (.only 3 none (.cx (some 116) [.t 114,.t 115,.c (.int .i64 6)] Km) false [] (.only 5 none (.store (.t 6) (.t 113) 16 false) false [] (.tk 8 [.m 8 117,.m 7 116] .done))))) [6,7,8]) .ret)) .skip)) (.seq (.region [.bin 119 .eql (.t 19) (.i 7),.m 118 119] [3,5,6,9,10,11,19,118]) (.cond (.t 118) (.seq (.region [.f 120 9 3,.l 121 120] [3,5,6,9,10,11,121]) (.cond (.t 121) (.seq (.draw (EE 8 [(1,[]),(2,[]),(3,[1,2]),(4,[]),(5,[0,3]),(7,[4,6])]) (.tk 3 [.ls 124 5 6,.ls 123 3 16,.ls 122 9 16] (.tk 5 [.m 126 11] (.only 3 none (.cx (some 125) [.t 123,.t 124,.c (.int .i64 8)] Km) false [] (.only 5 none (.store (.t 6) (.t 122) 16 false) false [] (.tk 8 [.m 8 126,.m 7 125] .done))))) [6,7,8]) .ret) .skip)) (.seqc [5,6,9,10,11,127] (.seq (.region [.bin 128 .eql (.t 19) (.i 6),.m 127 128] [5,6,9,10,11,19,127]) (.cond (.t 127) .skip (.region [.bin 129 .eql (.t 19) (.i 8),.m 127 129] [5,6,9,10,11,127]))) Vu))))))))))))) Vv)))))⟩
theorem uj:Aq Tryz.prog 128 Cb=true:=by kernel_rfl
def Mt:A_:=⟨[.val U,.val (.int .i64)],[⟨4,true,U⟩],(.seq (.region [.box 2 (.t 0) false,.al 4 U] [1,2,4]) (.seq (.draw (EE 9 [(2,[]),(3,[]),(4,[]),(6,[3,5]),(7,[1,2,6])]) (.tk 3 [.m 7 1,.l 6 5,.f 5 2 0] (.tk 6 [.l 10 9,.f 9 2 7] (.only 3 none (.brow 8 38 AD []) false [] (.only 6 none (.apz 11 38 AD (.t 8) (.t 10)) false [] (.tk 8 [.bu 12 U [(0,1,.t 6),(1,1,.t 7),(7,1,.t 11),(8,1,.c (.int .i64 0))]] (.only 8 none (.store (.t 4) (.t 12) 16 false) false [] .done)))))) [4]) .ret))⟩
theorem sG:Aq Tryz.prog 129 Mt=true:=by kernel_rfl
def Kq:A_:=⟨[.val U,.val AH,.val (.int .i64)],[⟨6,false,(.slice AH)⟩],(.seq (.region [.box 3 (.t 0) false,.box 4 (.t 1) false,.mv 6 (.c (.nil))] [2,3,4]) (.seq (.region [.m 7 2,.f 8 3 0,.l 9 8,.f 10 4 1,.l 11 10,.f 12 4 3,.l 13 12,.f 14 4 4,.l 15 14,.bu 16 AH [(0,1,.t 7),(1,1,.t 9),(2,1,.t 11),(3,1,.t 13),(4,1,.t 15)],.brow 17 97 AH [.t 16],.m 6 17] [6]) .ret))⟩
theorem ow:Aq Tryz.prog 130 Kq=true:=by kernel_rfl
def Nt:DT:=(.sk 22 false 14 30 37 (.tk 31 [.pick 37 (.t 22) (.c (.bool true)) (.t 36)] .done))
def Nu:AE:=(.seq (.region [.m 38 0,.m 39 0,.f 40 5 3,.l 41 40,.n 42 38,.f 43 42 1,.store (.t 43) (.t 41) 1 false,.n 44 39,.f 45 44 3,.store (.t 45) (.c (.bool false)) 1 false] [0,5]) (.seq (.region [.m 46 0,.cl 47 [46] Mc] [0,5]) (.seq (.draw (EE 11 [(1,[]),(4,[]),(9,[0,3,8])]) (.tk 3 [.l 50 49,.f 49 5 1,.m 48 0] (.tk 9 [.bu 56 AH [(0,1,.c (.int .i64 2)),(5,1,.t 55)],.l 55 54,.f 54 53 7,.n 53 52,.m 52 0] (.only 3 none (.brow 51 3 (.int .i64) [.t 50]) false [] (.only 9 none (.cl 57 [48,51,56] BZ) false [] (.tk 11 [.m 6 57] .done))))) [6]) .ret)))
def D6:A_:=⟨[.ptr U,.val (.slice (.slice (.int .i64))),.val AH],[⟨6,false,(.slice AH)⟩],(.seq (.region [.box 5 (.t 2) false,.mv 6 (.c (.nil))] [0,1,5]) (.seq (.seq (.draw (EE 31 [(2,[]),(7,[1,6]),(17,[15]),(22,[16,21]),(24,[15]),(28,[23,27])]) (.tk 9 [.m 15 14,.b 14 .neq 8 13,.bin 13 .add (.t 12) (.i 1),.l 12 11,.f 11 10 1,.n 10 9,.m 9 0,.l 8 7,.f 7 5 3] (.test 15 (.sk 15 false 5 14 21 (.tk 16 [.m 22 21,.pick 21 (.t 15) (.c (.bool true)) (.t 20)] Nt)) (.tg 15 false 14 [.un 20 .not (.t 19),.l 19 18,.f 18 17 3,.n 17 16,.m 16 0] (.tk 16 [.m 22 21,.pick 21 (.t 15) (.c (.bool true)) (.t 20)] (.test 22 Nt (.tg 22 false 28 [.l 34 33,.f 33 32 0,.n 32 31,.m 31 0,.l 30 29,.idx 29 1 (.t 23) (.t 28),.bin 28 .sub (.t 27) (.i 1),.l 27 26,.f 26 25 1,.n 25 24,.m 24 0,.m 23 1] (.only 28 (some (22,false)) (.cl 35 [30,34] Dv) false [] (.tg 22 false 30 [.un 36 .not (.t 35)] (.tk 31 [.pick 37 (.t 22) (.c (.bool true)) (.t 36)] .done))))))))) [0,5,37]) (.cond (.t 37) (.seq (.region [.mv 6 (.c (.nil))] [6]) .ret) .skip)) Nu))⟩
theorem gN:Aq Tryz.prog 131 D6=true:=by kernel_rfl
def Ls:DT:=(.tg 32 false 20 [.pick 44 (.t 38) (.t 43) (.c (.bool false))] (.tk 22 [.m 24 45,.pick 45 (.t 32) (.c (.bool true)) (.t 44)] .done))
def Lt:AE:=(.cond (.t 24) (.seq (.draw (EE 21 [(1,[]),(2,[]),(3,[]),(4,[]),(6,[]),(9,[0,5,8]),(12,[1,11]),(15,[2,14]),(18,[3,17])]) (.tk 8 [.l 53 52,.f 52 5 5,.l 51 50,.f 50 5 3,.m 49 0,.m 48 0,.m 47 0,.m 46 0] (.only 8 none (.cl 54 [53] BD) false [] (.tk 11 [.f 56 55 1,.n 55 46] (.only 11 none (.store (.t 56) (.t 51) 1 false) false [] (.tk 14 [.f 58 57 3,.n 57 47] (.only 14 none (.store (.t 58) (.c (.bool true)) 1 false) false [] (.tk 17 [.f 60 59 2,.n 59 48] (.only 17 none (.store (.t 60) (.c (.bool false)) 1 false) false [] (.tk 20 [.f 62 61 7,.n 61 49] (.only 20 none (.store (.t 62) (.t 54) 1 false) false [] .done)))))))))) [0,5]) (.region [.m 63 0,.cl 64 [63] Mc] [0,5])) (.seq (.region [.m 66 0,.n 67 66,.f 68 67 3,.l 69 68,.un 70 .not (.t 69),.m 65 70] [0,5,65]) (.cond (.t 65) (.seq (.region [.mv 6 (.c (.nil))] [6]) .ret) .skip)))
def Lu:AE:=(.seq (.region [.m 71 0,.f 72 5 1,.l 73 72,.brow 74 3 (.int .i64) [.t 73],.bu 75 AH [(0,1,.c (.int .i64 4))],.cl 76 [71,74,75] BZ,.m 6 76] [6]) .ret)
def Lv:AE:=(.seq (.block 0 [0,5] (.seq (.draw (EE 22 [(2,[]),(6,[1,5])]) (.tk 8 [.m 32 31,.b 31 .gtr 26 30,.l 30 29,.f 29 28 1,.n 28 27,.m 27 0,.l 26 25,.f 25 5 3] (.test 32 (.sk 32 false 6 14 39 (.sk 38 true 5 19 44 (.sk 32 false 1 20 45 (.tk 22 [.m 24 45,.pick 45 (.t 32) (.c (.bool true)) (.t 44)] .done)))) (.tg 32 false 14 [.m 38 37,.un 37 .not (.t 36),.l 36 35,.f 35 34 3,.n 34 33,.m 33 0] (.test 38 (.tg 38 true 19 [.un 43 .not (.t 42),.l 42 41,.f 41 40 2,.n 40 39,.m 39 0] Ls) (.sk 38 true 5 19 44 Ls))))) [0,5,24]) Lt)) Lu)
def Ba:A_:=⟨[.ptr U,.val (.slice (.int .i64)),.val AH],[⟨6,false,(.slice AH)⟩],(.seq (.region [.box 5 (.t 2) false,.mv 6 (.c (.nil))] [0,1,5]) (.seq (.seq (.draw (EE 17 [(1,[]),(5,[0,4]),(11,[7]),(15,[10,14])]) (.tk 5 [.l 11 10,.f 10 9 0,.n 9 8,.m 8 0,.m 7 1] (.only 5 none (.cl 12 [7,11] Dv) false [] (.tk 8 [.m 14 13,.un 13 .not (.t 12)] (.test 14 (.sk 14 false 8 16 23 (.tk 17 [.pick 23 (.t 14) (.c (.bool true)) (.t 22)] .done)) (.tg 14 false 16 [.b 22 .eql 17 21,.l 21 20,.f 20 19 0,.n 19 18,.m 18 0,.l 17 16,.idx 16 1 (.t 15) (.i 0),.m 15 1] (.tk 17 [.pick 23 (.t 14) (.c (.bool true)) (.t 22)] .done)))))) [0,5,23]) (.cond (.t 23) (.seq (.region [.mv 6 (.c (.nil))] [6]) .ret) .skip)) Lv))⟩
theorem aX:Aq Tryz.prog 132 Ba=true:=by kernel_rfl
def Mu:A_:=⟨[.val (.slice (.int .i64)),.val (.int .i64)],[⟨4,false,(.slice (.int .i64))⟩],(.seq (.region [.fbox 3 (.t 1),.mv 4 (.c (.nil))] [0,3]) (.seq (.region [.m 5 0,.cl 6 [5] Ch,.clo 7 145 (.int .i64) (.t 3),.cl 8 [6,7] RN,.m 4 8] [4]) .ret))⟩
theorem sH:Aq Tryz.prog 133 Mu=true:=by kernel_rfl
def Nv:AE:=(.seq (.seq (.region [.f 19 3 0,.l 20 19,.bin 21 .eql (.t 20) (.i 7)] [0,3,21]) (.cond (.t 21) (.seq (.region [.m 22 0,.f 23 3 1,.l 24 23,.brow 25 3 (.int .i64) [.t 24],.f 26 3 4,.l 27 26,.bu 28 AH [(0,1,.c (.int .i64 8)),(4,1,.t 27)],.cl 29 [22,25,28] BZ,.m 4 29] [4]) .ret) .skip)) (.seq (.draw (EE 13 [(1,[]),(5,[]),(9,[4,8]),(10,[0,9])]) (.tk 9 [.ls 38 37 3,.idx 37 3 (.t 36) (.i 0),.l 36 35,.f 35 3 5,.l 34 33,.f 33 32 7,.n 32 31,.m 31 0,.m 30 0] (.only 9 none (.cl 39 [34,38] bX) false [] (.tk 12 [.f 41 40 7,.n 40 30] (.only 12 none (.store (.t 41) (.t 39) 1 false) false [] .done)))) [0,3]) (.seq (.region [.m 42 0,.f 43 3 1,.l 44 43,.brow 45 3 (.int .i64) [.t 44],.f 46 3 4,.l 47 46,.bu 48 AH [(0,1,.c (.int .i64 6)),(4,1,.t 47)],.cl 49 [42,45,48] BZ,.m 4 49] [4]) .ret)))
def Dk:A_:=⟨[.ptr U,.val AH],[⟨4,false,(.slice AH)⟩],(.seq (.region [.box 3 (.t 1) false,.mv 4 (.c (.nil))] [0,3]) (.seq (.seq (.draw (EE 14 [(2,[]),(6,[1,5])]) (.tk 8 [.m 12 11,.b 11 .neq 6 10,.l 10 9,.f 9 8 1,.n 8 7,.m 7 0,.l 6 5,.f 5 3 3] (.test 12 (.sk 12 false 5 13 18 (.tk 14 [.pick 18 (.t 12) (.c (.bool true)) (.t 17)] .done)) (.tg 12 false 13 [.un 17 .not (.t 16),.l 16 15,.f 15 14 3,.n 14 13,.m 13 0] (.tk 14 [.pick 18 (.t 12) (.c (.bool true)) (.t 17)] .done)))) [0,3,18]) (.cond (.t 18) (.seq (.region [.mv 4 (.c (.nil))] [4]) .ret) .skip)) Nv))⟩
theorem eS:Aq Tryz.prog 134 Dk=true:=by kernel_rfl
def Mv:DT:=(.sk 23 false 8 25 32 (.tk 26 [.pick 32 (.t 23) (.c (.bool true)) (.t 31)] .done))
def Lw:AE:=(.seq (.draw (EE 13 [(1,[]),(6,[]),(8,[5,7]),(9,[0,8])]) (.tk 8 [.l 40 39,.f 39 5 1,.l 38 37,.f 37 36 6,.f 36 35 9,.n 35 34,.m 34 0,.m 33 0] (.only 8 none (.cl 41 [38,40] bW) false [] (.tk 12 [.f 44 43 6,.f 43 42 9,.n 42 33] (.only 12 none (.store (.t 44) (.t 41) 1 false) false [] .done)))) [0]) (.seq (.seq (.region [.m 45 0,.n 46 45,.f 47 46 9,.f 48 47 6,.l 49 48,.len 50 false (.t 49),.bin 51 .gtr (.t 50) (.i 0)] [0,51]) (.cond (.t 51) (.seq (.region [.mv 6 (.c (.nil))] [6]) .ret) .skip)) (.seq (.region [.m 52 0,.cl 53 [52] Rv,.m 6 53] [6]) .ret)))
def DI:A_:=⟨[.ptr U,.val (.int .i64),.val AH],[⟨6,false,(.slice Ay)⟩],(.seq (.region [.box 5 (.t 2) false,.mv 6 (.c (.nil))] [0,1,5]) (.seq (.seq (.draw (EE 26 [(2,[]),(6,[1,5]),(13,[7]),(14,[12,13]),(22,[16]),(24,[21,23])]) (.tk 8 [.m 14 13,.b 13 .neq 8 12,.l 12 11,.f 11 10 1,.n 10 9,.m 9 0,.l 8 7,.f 7 5 3] (.test 14 (.sk 14 false 7 15 22 (.tk 17 [.m 23 22,.pick 22 (.t 14) (.c (.bool true)) (.t 21)] Mv)) (.tg 14 false 15 [.b 21 .neq 19 20,.m 20 1,.l 19 18,.f 18 17 0,.f 17 16 9,.n 16 15,.m 15 0] (.tk 17 [.m 23 22,.pick 22 (.t 14) (.c (.bool true)) (.t 21)] (.test 23 Mv (.tg 23 false 25 [.b 31 .neq 28 30,.l 30 29,.f 29 5 4,.l 28 27,.f 27 26 2,.f 26 25 9,.n 25 24,.m 24 0] (.tk 26 [.pick 32 (.t 23) (.c (.bool true)) (.t 31)] .done))))))) [0,5,32]) (.cond (.t 32) (.seq (.region [.mv 6 (.c (.nil))] [6]) .ret) .skip)) Lw))⟩
theorem cK:Aq Tryz.prog 135 DI=true:=by kernel_rfl
def HI:AE:=(.cond (.t 87) (.seq (.region [.m 88 0,.m 89 1,.m 90 2,.m 91 11,.cl 92 [88,89,90,91] LB,.m 13 92] [0,2,3,8,9,13]) (.seq (.region [.m 93 13,.m 1 93] [0,1,2,3,8,9]) (.exit 1))) .skip)
def D7:AE:=(.seq (.region [.m 95 0,.m 96 1,.m 97 2,.m 98 11,.cl 99 [95,96,97,98] O9,.m 94 99,.ext 100 (.t 94) 0,.ext 101 (.t 94) 1,.m 14 100,.m 15 101] [0,1,2,3,10,14,15]) (.seq (.region [.m 102 15,.m 9 102] [0,1,2,3,9,10,14]) (.seq (.region [.m 103 14,.m 104 1,.b 105 .sub 103 104,.m 106 2,.m 107 14,.b 108 .sub 106 107,.m 16 105,.m 17 108] [0,1,2,3,9,10,14,16,17]) (.seq (.region [.m 109 10,.bin 110 .quo (.t 109) (.i 8),.m 18 110] [0,1,2,3,9,14,16,17,18]) (.seq (.region [.m 111 16,.m 112 17,.b 113 .lss 111 112] [0,1,2,3,9,14,16,17,18,113]) (.cond (.t 113) (.seq (.region [.m 114 16,.m 115 18,.b 116 .geq 114 115,.m 8 116] [0,1,2,3,8,9,14]) (.seq (.region [.m 117 0,.m 118 1,.m 119 14,.m 120 3,.cl 121 [117,118,119,120] FH] [0,2,3,8,9,14]) (.region [.m 122 14,.bin 123 .add (.t 122) (.i 1),.m 1 123] [0,1,2,3,8,9]))) (.seq (.region [.m 124 17,.m 125 18,.b 126 .geq 124 125,.m 8 126] [0,1,2,3,8,9,14]) (.seq (.region [.m 127 0,.m 128 14,.bin 129 .add (.t 128) (.i 1),.m 130 2,.m 131 3,.cl 132 [127,129,130,131] FH] [0,1,3,8,9,14]) (.region [.m 133 14,.m 2 133] [0,1,2,3,8,9])))))))))
def HJ:AE:=(.seq (.seq (.draw (EE 15 [(4,[2]),(6,[3,5]),(8,[2]),(9,[2]),(10,[8,9]),(12,[7,11])]) (.tk 3 [.m 75 74,.bin 74 .gtr (.t 73) (.i 0),.m 73 1] (.test 75 (.tg 75 true 12 [.l 84 83,.idx 83 1 (.t 81) (.t 82),.m 82 11,.m 81 0,.l 80 79,.idx 79 1 (.t 76) (.t 78),.bin 78 .sub (.t 77) (.i 1),.m 77 1,.m 76 0] (.only 12 (some (75,true)) (.cl 85 [80,84] bY) false [] (.tg 75 true 14 [.un 86 .not (.t 85)] (.tk 15 [.pick 87 (.t 75) (.t 86) (.c (.bool false))] .done)))) (.sk 75 true 11 14 87 (.tk 15 [.pick 87 (.t 75) (.t 86) (.c (.bool false))] .done)))) [0,1,2,3,8,9,10,11,87]) HI) D7)
def HK:AE:=(.seqc [0,1,2,3,8,9,10,11] (.seq (.region [.m 61 8,.m 62 61,.sc 62 true [.m 63 9] 64 (.t 63) (.c (.bool false)),.m 65 64,.sc 65 true [.m 66 12,.bin 67 .eql (.t 66) (.i 1)] 68 (.t 67) (.c (.bool false))] [0,1,2,3,8,9,10,11,68]) (.cond (.t 68) (.seq (.region [.m 69 0,.m 70 1,.m 71 2,.cl 72 [69,70,71] Ib] [0,1,2,3,8,9,10,11,72]) (.cond (.t 72) .ret .skip)) .skip)) HJ)
def HL:AE:=(.seq (.region [.m 43 0,.m 44 1,.m 45 2,.cl 46 [43,44,45] Nj,.m 42 46,.ext 47 (.t 42) 0,.ext 48 (.t 42) 1,.m 11 47,.m 12 48] [0,1,2,3,8,9,10,11,12]) (.seqc [0,1,2,3,8,9,10,11,12] (.seq (.region [.m 49 12,.bin 50 .eql (.t 49) (.i 2)] [0,1,2,3,8,9,10,11,12,50]) (.cond (.t 50) (.seq (.region [.m 51 0,.m 52 1,.m 53 2,.cl 54 [51,52,53] Mf] [0,1,2,3,8,9,10,11]) (.seq (.region [.m 55 2,.bin 56 .sub (.t 55) (.i 1),.m 57 11,.m 58 1,.b 59 .sub 57 58,.b 60 .sub 56 59,.m 11 60] [0,1,2,3,8,9,10,11]) (.region [.mv 12 (.i 1)] [0,1,2,3,8,9,10,11,12]))) .skip)) HK))
def HM:AE:=(.block 1 [0,1,2,3,8,9] (.seq (.region [.m 19 2,.m 20 1,.b 21 .sub 19 20,.m 10 21] [0,1,2,3,8,9,10]) (.seq (.seq (.region [.m 22 10,.bin 23 .leq (.t 22) (.i 12)] [0,1,2,3,8,9,10,23]) (.cond (.t 23) (.seq (.region [.m 24 0,.m 25 1,.m 26 2,.cl 27 [24,25,26] ME] []) .ret) .skip)) (.seq (.seq (.region [.m 28 3,.bin 29 .eql (.t 28) (.i 0)] [0,1,2,3,8,9,10,29]) (.cond (.t 29) (.seq (.region [.m 30 0,.m 31 1,.m 32 2,.cl 33 [30,31,32] Pm] []) .ret) .skip)) (.seqc [0,1,2,3,8,9,10] (.seq (.region [.m 34 8,.un 35 .not (.t 34)] [0,1,2,3,8,9,10,35]) (.cond (.t 35) (.seq (.region [.m 36 0,.m 37 1,.m 38 2,.cl 39 [36,37,38] MF] [0,1,2,3,8,9,10]) (.region [.m 40 3,.bin 41 .sub (.t 40) (.i 1),.m 3 41] [0,1,2,3,8,9,10])) .skip)) HL)))))
def Ab:A_:=⟨[.mut (.own 3 (.int .i64)),.val (.int .i64),.val (.int .i64),.val (.int .i64)],[],(.seq (.region [.mv 8 (.c (.bool true))] [0,1,2,3,8]) (.seq (.region [.mv 9 (.c (.bool true))] [0,1,2,3,8,9]) (.block 0 [] (.loop [0,1,2,3,8,9] HM))))⟩
theorem RY:Aq Tryz.prog 137 Ab=true:=by kernel_rfl
def Kr:A_:=⟨[.val (.int .u64)],[⟨2,false,(.int .i64)⟩],(.seq (.region [.mv 2 (.i 0)] [0]) (.seq (.cond (.c (.bool false)) (.seq (.region [.m 3 0,.cvi 4 .u32 (.t 3),.cl 5 [4] i7,.m 2 5] [2]) .ret) .skip) (.seq (.region [.m 6 0,.cl 7 [6] i8,.m 2 7] [2]) .ret)))⟩
theorem oz:Aq Tryz.prog 138 Kr=true:=by kernel_rfl
def Vw:DT:=(.tg 20 false 15 [.pick 31 (.t 22) (.t 30) (.c (.bool false))] (.tk 16 [.pick 32 (.t 20) (.c (.bool true)) (.t 31)] .done))
def Vx:AE:=(.seq (.seq (.region [.m 44 5,.cl 45 [44] MY,.un 46 .not (.t 45)] [0,5,46]) (.cond (.t 46) (.seq (.region [.m 47 0,.cl 48 [47] BD,.m 4 48] [4]) .ret) .skip)) (.seq (.region [.m 49 5,.m 4 49] [4]) .ret))
def Vy:AE:=(.seqc [0,5] (.seq (.region [.m 34 7] [0,3,5,6,34]) (.cond (.t 34) (.region [.m 35 5,.m 36 6,.ls 37 3 3,.idx 38 3 (.t 35) (.t 36),.store (.t 38) (.t 37) 3 false] [0,5]) (.region [.m 39 5,.m 40 6,.ls 41 3 3,.brow 42 38 AD [.t 41],.cl 43 [39,40,42] KW,.m 5 43] [0,5]))) Vx)
def EV:A_:=⟨[.val (.slice AD),.val AD],[⟨4,false,(.own 38 AD)⟩],(.seq (.region [.box 3 (.t 1) false,.mv 4 (.c (.nil))] [0,3]) (.seq (.region [.m 8 0,.cl 9 [8] BD,.m 5 9] [0,3,5]) (.seq (.region [.m 11 0,.f 12 3 0,.l 13 12,.cx (some 14) [.t 11,.t 13,.c (.fn 160 [])] FI,.m 10 14,.ext 15 (.t 10) 0,.ext 16 (.t 10) 1,.m 6 15,.m 7 16] [0,3,5,6,7]) (.seq (.seq (.draw (EE 16 [(7,[5]),(8,[6,7]),(11,[5]),(13,[10,12])]) (.tk 1 [.m 17 0] (.only 1 none (.cl 18 [17] MY) false [] (.tk 4 [.m 20 19,.un 19 .not (.t 18)] (.test 20 (.sk 20 false 2 6 23 (.sk 22 true 8 14 31 (.sk 20 false 1 15 32 (.tk 16 [.pick 32 (.t 20) (.c (.bool true)) (.t 31)] .done)))) (.tg 20 false 6 [.m 22 21,.m 21 7] (.test 22 (.tg 22 true 14 [.b 30 .geq 27 29,.l 29 28,.f 28 3 2,.l 27 26,.f 26 25 2,.idx 25 3 (.t 23) (.t 24),.m 24 6,.m 23 0] Vw) (.sk 22 true 8 14 31 Vw))))))) [0,3,5,6,7,32]) (.cond (.t 32) (.seq (.region [.m 33 5,.m 4 33] [4]) .ret) .skip)) Vy))))⟩
theorem sI:Aq Tryz.prog 139 EV=true:=by kernel_rfl
def ZJ:DT:=(.tg 16 false 21 [.pick 30 (.t 19) (.t 29) (.c (.bool false))] (.tk 22 [.pick 31 (.t 16) (.c (.bool true)) (.t 30)] .done))
def ZK:AE:=(.seq (.seq (.region [.m 4 3,.m 5 0,.len 6 false (.t 5),.b 7 .lss 4 6] [0,3,7]) (.cond (.t 7) .skip (.exit 0))) (.seq (.block 1 [0,3] (.seq (.draw (EE 22 [(1,[]),(2,[0,1]),(11,[9]),(13,[10,12]),(15,[9]),(16,[9]),(17,[15,16]),(19,[14,18])]) (.tk 4 [.l 13 12,.idx 12 1 (.t 10) (.t 11),.m 11 3,.m 10 0] (.only 4 none (.cx (some 14) [.t 13,.c (.int .i64 1),.c (.int .i64 6)] Aj) false [] (.tk 7 [.m 16 15,.un 15 .not (.t 14)] (.test 16 (.sk 16 false 3 10 20 (.sk 19 true 10 20 30 (.sk 16 false 1 21 31 (.tk 22 [.pick 31 (.t 16) (.c (.bool true)) (.t 30)] .done)))) (.tg 16 false 10 [.m 19 18,.bin 18 .gtr (.t 17) (.i 0),.m 17 3] (.test 19 (.tg 19 true 20 [.b 29 .geq 24 28,.l 28 27,.idx 27 1 (.t 25) (.t 26),.m 26 3,.m 25 0,.l 24 23,.idx 23 1 (.t 20) (.t 22),.bin 22 .sub (.t 21) (.i 1),.m 21 3,.m 20 0] ZJ) (.sk 19 true 10 20 30 ZJ))))))) [0,3,31]) (.cond (.t 31) (.seq (.region [.mv 2 (.c (.bool false))] [2]) .ret) .skip))) (.region [.m 8 3,.bin 9 .add (.t 8) (.i 1),.m 3 9] [0,3])))
def ZL:AE:=(.seq (.region [.mv 2 (.c (.bool true))] [2]) .ret)
def FY:A_:=⟨[.val (.slice (.int .i64))],[⟨2,false,.bool⟩],(.seq (.region [.mv 2 (.c (.bool false))] [0]) (.seq (.seq (.region [.mv 3 (.i 0)] [0,3]) (.block 0 [] (.loop [0,3] ZK))) ZL))⟩
theorem uk:Aq Tryz.prog 140 FY=true:=by kernel_rfl
def T4:DT:=(.sk 32 false 3 21 36 (.sk 35 true 9 30 45 (.sk 32 false 1 31 46 (.tk 32 [.pick 46 (.t 32) (.c (.bool true)) (.t 45)] .done))))
def T5:DT:=(.sk 26 false 4 16 31 (.tk 18 [.m 32 31,.pick 31 (.t 26) (.c (.bool true)) (.t 30)] T4))
def T6:DT:=(.tg 32 false 31 [.pick 45 (.t 35) (.t 44) (.c (.bool false))] (.tk 32 [.pick 46 (.t 32) (.c (.bool true)) (.t 45)] .done))
def T7:AE:=(.seq (.seq (.region [.m 5 3,.m 6 0,.len 7 false (.t 6),.b 8 .lss 5 7] [0,3,8]) (.cond (.t 8) .skip (.exit 0))) (.seq (.block 1 [0,3] (.seq (.region [.m 11 0,.m 12 3,.idx 13 3 (.t 11) (.t 12),.ls 14 13 3,.al 4 AD,.store (.t 4) (.t 14) 3 false] [0,3,4]) (.seq (.draw (EE 32 [(22,[20]),(24,[21,23]),(27,[20]),(29,[26,28])]) (.tk 3 [.len 17 true (.t 16),.l 16 15,.f 15 4 0] (.only 3 none (.cx (some 18) [.t 17,.c (.int .i64 1),.c (.int .i64 12)] Aj) false [] (.tk 6 [.m 20 19,.un 19 .not (.t 18)] (.test 20 (.sk 20 false 4 10 25 (.tk 12 [.m 26 25,.pick 25 (.t 20) (.c (.bool true)) (.t 24)] T5)) (.tg 20 false 10 [.bin 24 .gtr (.t 23) (.i 20),.len 23 true (.t 22),.l 22 21,.f 21 4 1] (.tk 12 [.m 26 25,.pick 25 (.t 20) (.c (.bool true)) (.t 24)] (.test 26 T5 (.tg 26 false 14 [.l 28 27,.f 27 4 2] (.only 14 (some (26,false)) (.cx (some 29) [.t 28,.c (.int .i64 1),.c (.int .i64 1000000000)] Aj) false [] (.tg 26 false 16 [.un 30 .not (.t 29)] (.tk 18 [.m 32 31,.pick 31 (.t 26) (.c (.bool true)) (.t 30)] (.test 32 T4 (.tg 32 false 21 [.m 35 34,.bin 34 .gtr (.t 33) (.i 0),.m 33 3] (.test 35 (.tg 35 true 30 [.b 44 .geq 41 43,.l 43 42,.f 42 4 0,.l 41 40,.f 40 39 0,.idx 39 3 (.t 36) (.t 38),.bin 38 .sub (.t 37) (.i 1),.m 37 3,.m 36 0] T6) (.sk 35 true 9 30 45 T6))))))))))))))) [0,3,46]) (.cond (.t 46) (.seq (.region [.mv 2 (.c (.bool false))] [2]) .ret) .skip)))) (.region [.m 9 3,.bin 10 .add (.t 9) (.i 1),.m 3 10] [0,3])))
def T8:AE:=(.seq (.region [.m 47 0,.len 48 false (.t 47),.bin 49 .leq (.t 48) (.i 12),.m 2 49] [2]) .ret)
def EW:A_:=⟨[.val (.slice AD)],[⟨2,false,.bool⟩],(.seq (.region [.mv 2 (.c (.bool false))] [0]) (.seq (.seq (.region [.mv 3 (.i 0)] [0,3]) (.block 0 [0] (.loop [0,3] T7))) T8))⟩
theorem sJ:Aq Tryz.prog 141 EW=true:=by kernel_rfl
def Jg:A_:=⟨[.val MX],[⟨2,false,.bool⟩],(.seq (.region [.box 1 (.t 0) false,.mv 2 (.c (.bool false))] [1]) (.seq (.region [.f 3 1 0,.l 4 3,.bin 5 .eql (.t 4) (.i 0),.m 6 5,.sc 6 true [.f 7 1 1,.l 8 7,.bin 9 .eql (.t 8) (.i 0)] 10 (.t 9) (.c (.bool false)),.m 11 10,.sc 11 true [.f 12 1 2,.l 13 12,.bin 14 .eql (.t 13) (.i 0)] 15 (.t 14) (.c (.bool false)),.m 16 15,.sc 16 true [.f 17 1 3,.ls 18 17 3,.bu 19 AD [],.eqs 20 false AD (.t 18) (.t 19)] 21 (.t 20) (.c (.bool false)),.m 22 21,.sc 22 true [.f 23 1 6,.l 24 23,.len 25 false (.t 24),.bin 26 .eql (.t 25) (.i 0)] 27 (.t 26) (.c (.bool false)),.m 2 27] [2]) .ret))⟩
theorem mN:Aq Tryz.prog 142 Jg=true:=by kernel_rfl
def Qo:AE:=(.seq (.seq (.region [.m 8 6,.m 9 0,.len 10 false (.t 9),.b 11 .lss 8 10] [0,1,5,6,11]) (.cond (.t 11) .skip (.exit 0))) (.seq (.block 1 [0,1,5,6] (.seq (.region [.m 14 0,.m 15 6,.idx 16 1 (.t 14) (.t 15),.l 17 16,.m 18 1,.b 19 .neq 17 18] [0,1,5,6,19]) (.cond (.t 19) (.region [.m 20 5,.m 21 0,.m 22 6,.idx 23 1 (.t 21) (.t 22),.l 24 23,.blst 25 (.int .i64) [.t 24],.app 26 3 (.int .i64) (.t 20) (.t 25),.m 5 26] [0,1,5,6]) .skip))) (.region [.m 12 6,.bin 13 .add (.t 12) (.i 1),.m 6 13] [0,1,5,6])))
def Qp:AE:=(.seq (.region [.m 27 5,.m 4 27] [4]) .ret)
def Ct:A_:=⟨[.val (.slice (.int .i64)),.val (.int .i64)],[⟨4,false,(.slice (.int .i64))⟩],(.seq (.region [.mv 4 (.c (.nil))] [0,1]) (.seq (.region [.brow 7 3 (.int .i64) [],.m 5 7] [0,1,5]) (.seq (.seq (.region [.mv 6 (.i 0)] [0,1,5,6]) (.block 0 [5] (.loop [0,1,5,6] Qo))) Qp)))⟩
theorem jE:Aq Tryz.prog 143 Ct=true:=by kernel_rfl
def FZ:AE:=(.seq (.block 3 [0,1,2,6,7] (.draw (EE 18 [(1,[]),(2,[]),(3,[]),(5,[]),(6,[]),(8,[5,7]),(10,[]),(11,[]),(12,[10,11]),(14,[0,1,9,13]),(16,[2,4,15])]) (.tk 15 [.idx 47 1 (.t 33) (.t 34),.l 46 45,.idx 45 1 (.t 43) (.t 44),.m 44 7,.m 43 0,.l 42 41,.idx 41 1 (.t 38) (.t 40),.bin 40 .sub (.t 39) (.i 1),.m 39 7,.m 38 0,.bin 37 .sub (.t 36) (.i 1),.m 36 7,.m 35 0,.m 34 7,.m 33 0] (.only 15 none (.store (.t 47) (.t 42) 1 false) false [] (.tk 17 [.idx 48 1 (.t 35) (.t 37)] (.only 17 none (.store (.t 48) (.t 46) 1 false) false [] .done)))) [0,1,2,6,7])) (.region [.m 31 7,.bin 32 .sub (.t 31) (.i 1),.m 7 32] [0,1,2,6,7]))
def Fa:AE:=(.seq (.seq (.draw (EE 15 [(1,[]),(2,[0,1]),(5,[3]),(6,[4,5]),(8,[3]),(9,[3]),(11,[8,10]),(13,[7,12])]) (.tk 4 [.m 19 18,.b 18 .gtr 16 17,.m 17 1,.m 16 7] (.test 19 (.tg 19 true 13 [.l 28 27,.idx 27 1 (.t 24) (.t 26),.bin 26 .sub (.t 25) (.i 1),.m 25 7,.m 24 0,.l 23 22,.idx 22 1 (.t 20) (.t 21),.m 21 7,.m 20 0] (.only 13 (some (19,true)) (.cl 29 [23,28] bY) false [] (.tk 15 [.pick 30 (.t 19) (.t 29) (.c (.bool false))] .done))) (.sk 19 true 10 14 30 (.tk 15 [.pick 30 (.t 19) (.t 29) (.c (.bool false))] .done)))) [0,1,2,6,7,30]) (.cond (.t 30) .skip (.exit 2))) FZ)
def Fb:AE:=(.region [.m 13 6,.bin 14 .add (.t 13) (.i 1),.m 6 14] [0,1,2,6])
def Fc:AE:=(.seq (.seq (.region [.m 10 6,.m 11 2,.b 12 .lss 10 11] [0,1,2,6,12]) (.cond (.t 12) .skip (.exit 0))) (.seq (.block 1 [0,1,2,6] (.seq (.region [.m 15 6,.m 7 15] [0,1,2,6,7]) (.block 2 [0,1,2,6] (.loop [0,1,2,6,7] Fa)))) Fb))
def AY:A_:=⟨[.mut (.own 3 (.int .i64)),.val (.int .i64),.val (.int .i64)],[],(.seq (.region [.m 8 1,.bin 9 .add (.t 8) (.i 1),.m 6 9] [0,1,2,6]) (.block 0 [] (.loop [0,1,2,6] Fc)))⟩
theorem MG:Aq Tryz.prog 148 AY=true:=by kernel_rfl
def Mw:A_:=⟨[.val (.int .i64),.val (.int .i64)],[⟨4,false,.bool⟩],(.seq (.region [.mv 4 (.c (.bool false))] [0,1]) (.seq (.region [.m 5 0,.cl 6 [5] X7,.m 7 6,.sc 7 true [.m 8 1,.cl 9 [8] X7,.un 10 .not (.t 9)] 11 (.t 10) (.c (.bool false)),.m 12 11,.sc 12 false [.m 13 0,.m 14 1,.b 15 .lss 13 14] 16 (.c (.bool true)) (.t 15),.m 4 16] [4]) .ret))⟩
theorem sK:Aq Tryz.prog 154 Mw=true:=by kernel_rfl
def Qq:AE:=(.seqc [0,2] (.seq (.region [.m 13 0,.bin 14 .geq (.t 13) (.c (.int .u64 256))] [0,2,14]) (.cond (.t 14) (.seq (.region [.m 15 0,.bin 16 .shr (.t 15) (.c (.int .u64 8)),.m 0 16] [0,2]) (.region [.m 17 2,.bin 18 .add (.t 17) (.i 8),.m 2 18] [0,2])) .skip)) (.seq (.region [.m 19 2,.m 20 0,.cvi 21 .u8 (.t 20),.sidx 22 (.c (.str ⟨#[0,1,2,2,3,3,3,3,4,4,4,4,4,4,4,4,5,5,5,5,5,5,5,5,5,5,5,5,5,5,5,5,6,6,6,6,6,6,6,6,6,6,6,6,6,6,6,6,6,6,6,6,6,6,6,6,6,6,6,6,6,6,6,6,7,7,7,7,7,7,7,7,7,7,7,7,7,7,7,7,7,7,7,7,7,7,7,7,7,7,7,7,7,7,7,7,7,7,7,7,7,7,7,7,7,7,7,7,7,7,7,7,7,7,7,7,7,7,7,7,7,7,7,7,7,7,7,7,8,8,8,8,8,8,8,8,8,8,8,8,8,8,8,8,8,8,8,8,8,8,8,8,8,8,8,8,8,8,8,8,8,8,8,8,8,8,8,8,8,8,8,8,8,8,8,8,8,8,8,8,8,8,8,8,8,8,8,8,8,8,8,8,8,8,8,8,8,8,8,8,8,8,8,8,8,8,8,8,8,8,8,8,8,8,8,8,8,8,8,8,8,8,8,8,8,8,8,8,8,8,8,8,8,8,8,8,8,8,8,8,8,8,8,8,8,8,8,8,8,8,8,8,8,8,8,8]⟩)) (.t 21),.cvi 23 .i64 (.t 22),.b 24 .add 19 23,.m 2 24] [2]) .ret))
def Qr:AE:=(.seqc [0,2] (.seq (.region [.m 7 0,.bin 8 .geq (.t 7) (.c (.int .u64 65536))] [0,2,8]) (.cond (.t 8) (.seq (.region [.m 9 0,.bin 10 .shr (.t 9) (.c (.int .u64 16)),.m 0 10] [0,2]) (.region [.m 11 2,.bin 12 .add (.t 11) (.i 16),.m 2 12] [0,2])) .skip)) Qq)
def Cu:A_:=⟨[.val (.int .u64)],[⟨2,false,(.int .i64)⟩],(.seq (.region [.mv 2 (.i 0)] [0,2]) (.seqc [0,2] (.seq (.region [.m 3 0,.bin 4 .geq (.t 3) (.c (.int .u64 4294967296))] [0,2,4]) (.cond (.t 4) (.seq (.region [.m 5 0,.bin 6 .shr (.t 5) (.c (.int .u64 32)),.m 0 6] [0]) (.region [.mv 2 (.i 32)] [0,2])) .skip)) Qr))⟩
theorem jF:Aq Tryz.prog 158 Cu=true:=by kernel_rfl
def CH:AE:=(.seq (.seq (.region [.m 15 9,.m 16 10,.b 17 .lss 15 16] [0,1,2,8,9,10,17]) (.cond (.t 17) .skip (.exit 0))) (.block 1 [0,1,2,8,9,10] (.seq (.region [.m 18 9,.m 19 10,.b 20 .add 18 19,.cvi 21 .u64 (.t 20),.bin 22 .shr (.t 21) (.c (.int .u64 1)),.cvi 23 .i64 (.t 22),.m 11 23] [0,1,2,8,9,10,11]) (.seq (.region [.m 24 2,.m 25 0,.m 26 11,.idx 27 3 (.t 25) (.t 26),.ls 28 27 3,.m 29 1,.call (some 30) 160 [(.t 28,.val AD),(.t 29,.val .str),(.t 24,.cap0 160)] [(.int .i64)],.bin 31 .lss (.t 30) (.i 0)] [0,1,2,8,9,10,11,31]) (.cond (.t 31) (.region [.m 32 11,.bin 33 .add (.t 32) (.i 1),.m 9 33] [0,1,2,8,9,10]) (.region [.m 34 11,.m 10 34] [0,1,2,8,9,10]))))))
def BP:AE:=(.seq (.region [.m 35 9,.m 36 9,.m 37 8,.b 38 .lss 36 37,.m 39 38,.sc 39 true [.m 40 2,.m 41 0,.m 42 9,.idx 43 3 (.t 41) (.t 42),.ls 44 43 3,.m 45 1,.call (some 46) 160 [(.t 44,.val AD),(.t 45,.val .str),(.t 40,.cap0 160)] [(.int .i64)],.bin 47 .eql (.t 46) (.i 0)] 48 (.t 47) (.c (.bool false)),.m 6 35,.m 7 48] [6,7]) .ret)
def AL:A_:=⟨[.val (.slice AD),.val .str,.val (.fun 160)],[⟨6,false,(.int .i64)⟩,⟨7,false,.bool⟩],(.seq (.region [.mv 6 (.i 0),.mv 7 (.c (.bool false))] [0,1,2]) (.seq (.region [.m 12 0,.len 13 false (.t 12),.m 8 13] [0,1,2,8]) (.seq (.region [.m 14 8,.mv 9 (.i 0),.m 10 14] [0,1,2,8,9,10]) (.seq (.block 0 [0,1,2,8,9] (.loop [0,1,2,8,9,10] CH)) BP))))⟩
theorem FN:Aq Tryz.prog 159 AL=true:=by kernel_rfl
def Jh:A_:=⟨[.val AD,.val .str],[⟨4,false,(.int .i64)⟩],(.seq (.region [.box 2 (.t 0) false,.mv 4 (.i 0)] [1,2]) (.seq (.region [.f 5 2 0,.l 6 5,.m 7 1,.cl 8 [6,7] i9,.m 4 8] [4]) .ret))⟩
theorem mO:Aq Tryz.prog 160 Jh=true:=by kernel_rfl
def Kt:A_:=⟨[.val (.int .i64)],[⟨2,false,.bool⟩],(.seq (.region [.mv 2 (.c (.bool false))] [0]) (.seq (.region [.m 3 0,.m 4 0,.b 5 .neq 3 4,.m 2 5] [2]) .ret))⟩
theorem o4:Aq Tryz.prog 169 Kt=true:=by kernel_rfl
end
end Go.Proofs.YtokiohnjegbnpaaGreat.Core

namespace Go.Proofs.YtokiohnjegbnpaaGreat.Core
open Go Go.Shelf Go.RowKit Go.Lib
variable {P:Program} {ρ:Ren}
set_option maxHeartbeats 2000000 in
set_option maxRecDepth 100000 in
theorem ABr (L:SlLaysE0.n41 P ρ) (i0:TypeInfo) (z:Value) (size bytes:Nat) (hi:P.info? (ρ.t 23)=some i0) (hz0:i0.zero=some z) (hz1:i0.size=size) (hz2:i0.bytes=bytes) (hzs:z.cells.size=size) (hsz:0<size)
  (z23:∀ w,(Go.sizeOf (ρ.t 23)).run P w=.ok size w) (ad:Addr) (n c:Nat) (news:List Value) (w:World) (hl:news.length=n*size) (hn:n<=maxLen) (hbig:n*bytes<=140737488355328)
  (hc:∀ j u,news[j]? = some u->w.cell? (ad.add j)=some u) (h1:∀ u∈news,u.oneCell'=true) :
  Calls P (ρ.f 41) #[.slice (some ad) n c] w fun e w'=>∃ v',e=.returned v'/\w'.ownsRow w.heap.size (ρ.t 23) size v' n news/\w.grownBy w' none:=by
 have mixed:=L.mixed; have t4:=L.t4; have a4:=L.a4; have z4:=L.z4; have v4:=L.v4; have t22:=L.t22; have a22:=L.a22; have z22:=L.z22; have v22:=L.v22
 have q22:∀ (w:World) (a:Option Addr) (n c n' c':Nat),(binOp .eql (ρ.t 22) (.slice a n c) (.slice none n' c')).run P w=.ok (.bool a.isNone) w:=fun w a n c n' c'=>Lib.run_eql_slice_nil w _ _ a n c n' c' L.t22
 have u22:∀ w,Sem.run P (underlying (ρ.t 22)) w=.ok (TypeDesc.slice (ρ.t 23)) w:=run_underlying t22
 have A:Aside (∀ j u,news[j]? = some u->w.cell? (ad.add j)=some u):=hc
 clear hc
 obtain ⟨_,_,FG⟩:=L.f41
 go_enter FG,SlBodyN.n41_ntmps ρ
 go_wp2_with (at_builtin; refine wpList_append_own _ rfl _ _ (ρ.t 22) rfl w.heap.size (ρ.t 23) i0 z size bytes t22 hi hz0 hz1 hz2 hzs hsz _ _ _ rfl (World.ownsRow_made w #[] 0 (Nat.le_refl _) (Nat.zero_le _) (by simp)) ad n c news rfl ?qc1 ?qc2 ?qc3 ?qc4 ?qc5 ?qc6 ?_)
 case qc1=>exact hl
 case qc2 =>
  intro j u hj
  exact Lib.cell?_alloc_some _ (A.out j u hj)
 case qc3=>exact h1
 case qc4=>rw [Nat.zero_add]; exact hn
 case qc5=>rw [Nat.zero_add]; exact hbig
 case qc6=>simp
 intro v' w1 hown hgrow hnil
 go_wp2
 go_ret
 refine ⟨v',rfl,by simpa using hown,⟨hgrow.os,hgrow.tape,hgrow.output,?_,fun k hk _=>?_⟩⟩
 ·have:=hgrow.size
  simp at this
  omega
 ·rw [hgrow.block k (by simp; omega) (by simp [Value.ownBlock]; omega)]
  simp only [World.alloc,Array.getElem?_push]
  rw [if_neg (by omega)]
set_option maxHeartbeats 1000000 in
theorem AAz (L:SlLaysE0.n41 P ρ) (n c:Nat) (w:World) :
  Calls P (ρ.f 41) #[.slice none n c] w fun e w'=>e=.returned (.slice none 0 0)/\w'=w:=by
 have mixed:=L.mixed; have t4:=L.t4; have a4:=L.a4; have z4:=L.z4; have v4:=L.v4; have t22:=L.t22; have a22:=L.a22; have z22:=L.z22; have v22:=L.v22
 have q22:∀ (w:World) (a:Option Addr) (n c n' c':Nat),(binOp .eql (ρ.t 22) (.slice a n c) (.slice none n' c')).run P w=.ok (.bool a.isNone) w:=fun w a n c n' c'=>Lib.run_eql_slice_nil w _ _ a n c n' c' L.t22
 obtain ⟨_,_,FG⟩:=L.f41
 go_enter FG,SlBodyN.n41_ntmps ρ
 go_wp2
 go_ret
 exact ⟨rfl,rfl⟩
def XX (P:Program) (f:Nat) (args bs rs:List AV):Prop :=
 wD P f/\(∀ r∈rs,r.cells.all AV.nilFree=true)/\∃ n,n+bs.length=rs.length /\
  ∀ (H:HP) (φ:CA) (w:World) (cargs:List Value),SR H φ (BX bs args) w->As (VB H φ (BX bs args)) (DN (Fm bs) args) cargs ->
   Calls P f cargs.toArray w fun out w'=>match out with
    | .returned v=>On H φ w args bs (rs.drop n) (rs.take n) v w'
    | _=>False
theorem yc {H H':HP} {φ φ':CA} {w w':World} {args rs:List AV} {v:Value} (h:Ao H φ (BX [] args) w H' φ' (BX [] rs) w') (hr:ADh H' φ' (BX [] rs) (DN (Fm []) rs) v):On H φ w args [] [] rs v w':=by
 refine ⟨H',φ',h.le,h.sr,h.fr _ _ _ _ _ ⟨rfl,rfl,rfl,Nat.le_refl _,fun _ _ _=>rfl,fun _ _=>rfl,fun i bi hi _ b hb=>.inr ⟨i,(List.getElem?_eq_some_iff.1 hi).1,hb⟩,fun j hj=>?_,fun _ _ _=>rfl⟩,hr⟩
 simp at hj
theorem ABs {K:Kd} (L:SlLaysE0.n41 P ρ) (he:xv P (ρ.t 23) K=true) {xs:List K.T} (hx:xs.length<=68719476736):XX P (ρ.f 41) [.lst K xs] [] [.new (ρ.t 23) K xs]:=by
 obtain ⟨i,z,hi,hz,h1,h2,h3,h4⟩:=VH he
 have hn:xs.length<=maxLen:=by unfold maxLen; omega
 refine ⟨?_,?_,1,rfl,fun H φ w cargs hs ha=>?_⟩
 ·obtain ⟨nm,hnm,hf⟩:=L.f41
  exact ⟨_,_,hf,hnm,rfl⟩
 ·intro r hr
  simp only [List.mem_singleton] at hr
  subst hr
  rfl
 ·obtain ⟨v,rest,rfl,hv,hrest⟩:=ha
  have hrest:rest=[]:=hrest
  subst hrest
  ··obtain ⟨sl,cap,e,hc,hr⟩:=(show bD (Gt H K) K.sz H xs v from hv)
    subst e
    have fin:∀ (v':Value) (w':World) (flat:List Value),w'.ownsRow w.heap.size (ρ.t 23) K.sz v' xs.length flat->EO H K xs flat->w.grownBy w' none->On H φ w [.lst K xs] [] [] [.new (ρ.t 23) K xs] v' w':=by
     intro v' w' flat ho hrr hg
     have hst:=bH (st:=BX [] [.lst K xs]) hs hg ho hrr
     refine yc (rs:=[.new (ρ.t 23) K xs]) hst ?_
     exact ⟨rfl,rfl⟩
    cases sl with
    | none =>
     have:xs=[]:=by
      rcases hr with h | ⟨_,_,_,_,_,h,_⟩
      ·exact h
      ·cases h
     subst this
     refine Calls.mono (AAz L _ _ w) fun out w' h=>?_
     obtain ⟨rfl,rfl⟩:=h
     exact fin _ _ [] ⟨by simp,.inl ⟨rfl,rfl⟩⟩ (fun j x h=>by simp at h) ⟨rfl,rfl,rfl,Nat.le_refl _,fun _ _ _=>rfl⟩
    | some ad =>
     obtain ⟨sl2,cap2,flat,e2,_,hl,hrr,hcl⟩:=vL hs.hp (show bD (Gt H K) K.sz H xs (.slice (some ad) xs.length cap) from ⟨some ad,cap,rfl,hc,hr⟩)
     cases e2
     refine Calls.mono (ABr L i z K.sz i.bytes hi hz h1 rfl h3 (Kd.sz_pos K) (fun w=>by simp [sizeOf,typeInfo,hi,h1]) ad xs.length cap flat w hl hn (Nat.le_trans (Nat.mul_le_mul hx h2) (by omega)) ?_ (DS hrr hl)) fun out w' h=>?_
     ·intro j u hj
      rcases hcl with rfl | ⟨b,off,c,el,fz,ea,hb,hcc⟩
      ·have:flat=[]:=List.length_eq_zero_iff.1 (by rw [hl]; simp)
       rw [this] at hj
       simp at hj
      ·cases ea
       rw [Addr.add_none]
       have:=hs.hp _ _ hb
       have h5:=hcc j u hj
       simp only [World.cell?,this]
       simpa using h5
     ·obtain ⟨v',rfl,ho,hg⟩:=h
      exact fin v' w' flat ho hrr hg

theorem T9 (w:World) (dT sT ty elem:TypeId) (g o dLen dCap:Nat) (a:Addr) (sLen sCap:Nat) (cur:Array Value) (t:TypeId) (cs:List Value) (k:Nat) (i:TypeInfo)
  (hu:P.underlying dT=some (.slice elem)) (hi:P.info? elem=some i) (hg:w.heap[g]? = some (.cells cur t (0,0))) (hk:Nat.min sLen dLen=k) (hn:cs.length=k*i.size)
  (hsrc:∀ j v,cs[j]? = some v->w.cell? (a.add j)=some v) (hfit:o+cs.length<=cur.size) (h1:∀ v∈cs,v.oneCell'=true) :
  (Builtin.copy_ #[dT,sT] ty #[.slice (some ⟨g,o,none⟩) dLen dCap,.slice (some a) sLen sCap]).run P w =
   .ok (goInt k) (w.setRow g (cur.toList.take o++cs++cur.toList.drop (o+cs.length)).toArray):=by
 have hl:=run_loadCells_list (P:=P) w a cs hsrc
 have hst:=run_storeCells_at P g o t cs 0 cur w hg (by simpa using hfit) h1
 simp [Builtin.copy_,run_underlying hu,Builtin.lenOf,Builtin.firstCells,sizeOf,typeInfo,hi,hk,<- hn,hl,hst]
theorem mP (w:World) (t tn ty e:TypeId) (i:TypeInfo) (z:Value) (kn:IntKind) (ht:P.underlying t=some (.slice e)) (htn:P.underlying tn=some (.int kn)) (hi:P.info? e=some i) (hz:i.zero=some z)
  (b:Addr) (sLen sCap:Nat) (olds:List Value) (hlo:olds.length=sLen*i.size) (holds:∀ j v,olds[j]? = some v->w.cell? (b.add j)=some v) (n:Nat) (h0:0<n) (hs:0<i.size)
  (hg:sCap<sLen+n) (h63:((sLen+n:Nat):Int)<=9223372036854775807) (h48:n*i.bytes<=281474976710656) (hfit:Builtin.nextslicecap (sLen+n) sCap*i.bytes<=281474976710656) (k:IntKind) :
  (Builtin.append_ #[t,tn] ty #[.slice (some b) sLen sCap,.int k n]).run P w =
   .ok (.slice (some ⟨w.heap.size,0,none⟩) (sLen+n) (grownCap w (sLen+n) sCap e))
    (w.drew.alloc (.cells (olds.toArray++Builtin.zeroCells z.cells n++Builtin.zeroCells z.cells (grownCap w (sLen+n) sCap e-(sLen+n))) e)):=by
 have hn:¬ (sLen+n<=sCap):=by omega
 have hw:IntKind.i64.wrap (n:Int)=n:=by rw [IntKind.wrap_i64]; omega
 have h63':¬ (9223372036854775807<((sLen:Int)+(n:Int))):=by omega
 have h48':¬ (281474976710656<Builtin.nextslicecap (sLen+n) sCap*i.bytes):=by omega
 have h48i:¬ (281474976710656<(n:Int)*(i.bytes:Int)):=by
  rw [<- Int.natCast_mul]
  omega
 have hneg:¬ ((n:Int)<0):=by omega
 have hn0:n≠0:=by omega
 have hns:¬ (n*i.size=0):=Nat.mul_ne_zero hn0 (by omega)
 have hfo:=run_firstCells_some (P:=P) w.drew i.size sLen b sLen sCap olds hlo (by simpa using holds)
 simp [Builtin.append_,run_underlying ht,run_underlying htn,sizeOf,typeInfo,zeroValue,hi,hz,asInt,asIntOf,hw,hn,hn0,hneg,hns,h63',h48',h48i,Question.forced,hfo,newRow,grownCap]
 try (congr 2; apply Array.ext'; simp [List.append_assoc])
structure AA0 (P:Program) (ρ:Ren):Prop where
 mixed:P.follows .mixedOrders=true
 f22:Bears P (ρ.f 22) (Body2.n22 ρ)
 ov:∀ args w,(callFunc (ρ.f 29) args).run P w=((Extern.SlicesOverlaps.overlaps #[(ρ.t 24),(ρ.t 24)] #[(ρ.t 4)] args).run P w).andThen fun v w'=>.ok (.value v) w'
 t3:P.underlying (ρ.t 3)=some (TypeDesc.int IntKind.i64)
 a3:∀ w,(isAgg (ρ.t 3)).run P w=.ok false w
 z3:∀ w,(Go.sizeOf (ρ.t 3)).run P w=.ok 1 w
 v3:∀ w,(zeroValue (ρ.t 3)).run P w=.ok (Value.int IntKind.i64 0) w
 t4:P.underlying (ρ.t 4)=some (TypeDesc.bool)
 a4:∀ w,(isAgg (ρ.t 4)).run P w=.ok false w
 z4:∀ w,(Go.sizeOf (ρ.t 4)).run P w=.ok 1 w
 v4:∀ w,(zeroValue (ρ.t 4)).run P w=.ok (Value.bool false) w
 t24:P.underlying (ρ.t 24)=some (TypeDesc.slice (ρ.t 9))
 a24:∀ w,(isAgg (ρ.t 24)).run P w=.ok false w
 z24:∀ w,(Go.sizeOf (ρ.t 24)).run P w=.ok 1 w
 v24:∀ w,(zeroValue (ρ.t 24)).run P w=.ok (Value.slice none 0 0) w
set_option maxHeartbeats 4000000 in
set_option maxRecDepth 100000 in
theorem zc (L:AA0 P ρ) (i0:TypeInfo) (z:Value) (size bytes:Nat) (hi:P.info? (ρ.t 9)=some i0) (hz0:i0.zero=some z) (hz1:i0.size=size) (hz2:i0.bytes=bytes) (hzs:z.cells.size=size) (hsz:0<size)
  (z9:∀ w,(Go.sizeOf (ρ.t 9)).run P w=.ok size w) (v:Value) (base:Option Addr) (n cap:Nat) (hv:v=.slice base n cap) (xs:List Value) (w:World) (hown:w.ownsRow 0 (ρ.t 9) size v n xs) (ad:Addr) (m vc:Nat) (news:List Value) (hm:0<m)
  (hl:news.length=m*size) (hn:n+m<=maxLen) (hbig:(n+m)*bytes<=140737488355328) (hnews:∀ j u,news[j]? = some u->w.cell? (ad.add j)=some u) (h1:∀ u∈news,u.oneCell'=true) :
  Calls P (ρ.f 22) #[v,.int .i64 n,.slice (some ad) m vc] w fun e w'=>∃ v',e=.returned v'/\w'.ownsRow 0 (ρ.t 9) size v' (n+m) (xs++news)/\w.grownBy w' v.ownBlock/\(v'.ownBlock=v.ownBlock\/v'.ownBlock=some w.heap.size):=by
 subst hv
 have mixed:=L.mixed; have t3:=L.t3; have a3:=L.a3; have z3:=L.z3; have v3:=L.v3; have t4:=L.t4; have a4:=L.a4; have z4:=L.z4; have v4:=L.v4; have t24:=L.t24; have a24:=L.a24; have z24:=L.z24; have v24:=L.v24
 have u3:=run_underlying L.t3; have u4:=run_underlying L.t4; have u24:=run_underlying L.t24
 have hz1':¬ ((m:Int)=0):=by omega
 have hob:∀ c,(Value.slice base n c).ownBlock=(Value.slice base n cap).ownBlock:=fun c=>by cases base<;>rfl
 have hcap:n<=cap:=by
  rcases hown.2 with ⟨e,e2⟩ | ⟨g,c,cur,e,_,_,h,_⟩
  ·omega
  ·cases e; exact h
 have A:Aside (∀ j u,news[j]? = some u->w.cell? (ad.add j)=some u):=hnews
 clear hnews
 obtain ⟨_,_,FG⟩:=L.f22
 go_enter FG,Body2.n22_ntmps ρ
 go_wp2_with (at_builtin; refine wpList_append_own_at _ rfl _ _ (ρ.t 24) rfl 0 (ρ.t 9) i0 z size bytes t24 hi hz0 hz1 hz2 hzs hsz _ _ _ rfl hown ad m vc news rfl ?qc1 ?qc2 ?qc3 ?qc4 ?qc5 ?qc6 ?_)
 all_goals first
  | exact hl
  | exact A.out
  | exact h1
  | exact hn
  | exact hbig
  | exact Nat.zero_le _
  | (
   intro v' w1 ho hgrow hnil hblk
   go_wp2
   go_ret
   exact ⟨v',rfl,ho,by rw [<- hob]; exact hgrow,by rw [<- hob]; exact hblk⟩)
theorem ABt {α:Type} (c V:List α) (I M N:Nat) (hI:I<=N) (hV:V.length=M) (hN:N+M<=c.length) :
  (((c.take (I+M)++(c.take N).drop I++c.drop (I+M+(N-I))).take I++V++(c.take (I+M)++(c.take N).drop I++c.drop (I+M+(N-I))).drop (I+M)).take (N+M))=c.take I++V++(c.take N).drop I:=by
 have l1:(c.take (I+M)).length=I+M:=by rw [List.length_take]; omega
 have l2:((c.take N).drop I).length=N-I:=by rw [List.length_drop,List.length_take]; omega
 have e1:(c.take (I+M)++(c.take N).drop I++c.drop (I+M+(N-I))).take I=c.take I:=by
  rw [List.append_assoc,List.take_append_of_le_length (by omega),List.take_take,Nat.min_eq_left (by omega)]
 have e2:(c.take (I+M)++(c.take N).drop I++c.drop (I+M+(N-I))).drop (I+M)=(c.take N).drop I++c.drop (I+M+(N-I)):=by
  rw [List.append_assoc,List.drop_append_of_le_length (by omega),List.drop_of_length_le (by omega),List.nil_append]
 rw [e1,e2,<- List.append_assoc]
 have l3:(c.take I++V++(c.take N).drop I).length=N+M:=by simp only [List.length_append,l2,hV,List.length_take]; omega
 rw [List.take_append_of_le_length (by omega),<- l3,List.take_length]
theorem Ji (w:World) (g:Nat) (c:Array Value):(w.setRow g c).heap.size=w.heap.size:=by
 unfold World.setRow
 exact Array.size_modify
theorem yd {w:World} {b:Nat} {c:Array Value} {t:TypeId} {fz:Nat×Nat} (h:w.heap[b]? = some (.cells c t fz)):w.shape? b=some (t,c.size):=by simp [World.shape?,h]
theorem ve {w:World} {b o:Nat} {c:Array Value} {t:TypeId} (h:w.heap[b]? = some (.cells c t (0,0))):w.frozen? ⟨b,o,none⟩=false:=by simp [World.frozen?,h]
theorem RZ {w:World} {b o:Nat} {c:Array Value} {t:TypeId} {fz:Nat×Nat} (h:w.heap[b]? = some (.cells c t fz)):w.cell? ⟨b,o,none⟩=c[o]? := by simp [World.cell?,h]
set_option maxHeartbeats 8000000 in
set_option maxRecDepth 100000 in
theorem xH (L:AA0 P ρ) (i0:TypeInfo) (z:Value) (size bytes:Nat) (hi:P.info? (ρ.t 9)=some i0) (hz0:i0.zero=some z) (hz1:i0.size=size) (hz2:i0.bytes=bytes) (hzs:z.cells.size=size) (hsz:0<size)
  (z9:∀ w,(Go.sizeOf (ρ.t 9)).run P w=.ok size w) (g n cap i:Nat) (cur:Array Value) (w:World) (hg:w.heap[g]? = some (.cells cur (ρ.t 9) (0,0))) (hcs:cur.size=cap*size) (hin:i<n) (vb m vc:Nat) (vcur:Array Value) (hgv:w.heap[vb]? = some (.cells vcur (ρ.t 9) (0,0))) (hvb:vb≠g)
  (hm:0<m) (hroom:n+m<=cap) (hcm:cap<=maxLen) (hvl:m*size<=vcur.size) (h1:∀ u∈cur.toList.take (n*size),u.oneCell'=true) (h1v:∀ u∈vcur.toList.take (m*size),u.oneCell'=true) (hkB:cur.size≠0) :
  Calls P (ρ.f 22) #[.slice (some ⟨g,0,none⟩) n cap,.int .i64 i,.slice (some ⟨vb,0,none⟩) m vc] w fun e w'=>e=.returned (.slice (some ⟨g,0,none⟩) (n+m) cap) /\
   ∃ cur',w'.heap[g]? = some (.cells cur' (ρ.t 9) (0,0))/\cur'.size=cap*size/\cur'.toList.take ((n+m)*size)=cur.toList.take (i*size)++vcur.toList.take (m*size)++(cur.toList.take (n*size)).drop (i*size)/\w.grownBy w' (some g):=by
 have mixed:=L.mixed; have t3:=L.t3; have a3:=L.a3; have z3:=L.z3; have v3:=L.v3; have t4:=L.t4; have a4:=L.a4; have z4:=L.z4; have v4:=L.v4; have t24:=L.t24; have a24:=L.a24; have z24:=L.z24; have v24:=L.v24
 have u3:=run_underlying L.t3; have u4:=run_underlying L.t4; have u24:=run_underlying L.t24
 have hcm':cap<=9223372036854775807:=hcm
 have hz1':¬ ((m:Int)=0):=by omega
 have hz2':¬ ((i:Int)=(n:Int)):=by omega
 have hw1:IntKind.i64.wrap ((i:Int)+(m:Int))=(i:Int)+(m:Int):=by rw [IntKind.wrap_i64]; omega
 have hw2:IntKind.i64.wrap ((n:Int)+(m:Int))=(n:Int)+(m:Int):=by rw [IntKind.wrap_i64]; omega
 have hb1:(0:Int)<=(i:Int)+(m:Int):=by omega
 have hin':i<=n:=by omega
 have htn:((i:Int)+(m:Int)).toNat=i+m:=by omega
 have htn2:((n:Int)+(m:Int)).toNat=n+m:=by omega
 have hb2:¬ (cap=i+m):=by omega
 have hb3:(i:Int)<=(n:Int)+(m:Int):=by omega
 have hb4:¬ (cap=i):=by omega
 have hb5:¬ ((n:Int)+(m:Int)>(cap:Int)):=by omega
 have hov:∀ o lb cb,(callFunc (ρ.f 29) #[.slice (some ⟨vb,0,none⟩) m vc,.slice (some ⟨g,o,none⟩) lb cb]).run P w=.ok (.value (.bool false)) w:=fun o lb cb=>by
  rw [L.ov,Lib.run_overlaps_apart w (ρ.t 24) (ρ.t 4) (ρ.t 9) L.t24 size z9 ⟨vb,0,none⟩ ⟨g,o,none⟩ m vc lb cb hvb _ _ _ _ (yd hgv) (yd hg) hkB (ve hgv) (ve hgv)]
  rfl
 have e1:(i+m)*size=i*size+m*size:=Nat.add_mul i m size
 have e2:(n+m)*size=n*size+m*size:=Nat.add_mul n m size
 have e3:(n-i)*size=n*size-i*size:=Nat.sub_mul n i size
 have e4:i*size<=n*size:=Nat.mul_le_mul_right size hin'
 have e5:n*size+m*size<=cur.size:=by rw [hcs,<- e2]; exact Nat.mul_le_mul_right size hroom
 have lm:((cur.toList.take (n*size)).drop (i*size)).length=(n-i)*size:=by rw [List.length_drop,List.length_take,Array.length_toList,e3]; omega
 have hcp1:∀ ty dc sc,(Builtin.copy_ #[(ρ.t 24),(ρ.t 24)] ty #[.slice (some ⟨g,(i+m)*size,none⟩) (n+m-(i+m)) dc,.slice (some ⟨g,i*size,none⟩) (n+m-i) sc]).run P w.drew=.ok (goInt ((n-i:Nat):Int)) (w.drew.setRow g (cur.toList.take ((i+m)*size)++(cur.toList.take (n*size)).drop (i*size)++cur.toList.drop ((i+m)*size+((cur.toList.take (n*size)).drop (i*size)).length)).toArray):=fun ty dc sc =>
  T9 w.drew _ _ ty (ρ.t 9) g ((i+m)*size) (n+m-(i+m)) dc ⟨g,i*size,none⟩ (n+m-i) sc cur (ρ.t 9) _ (n-i) i0 L.t24 hi hg (by simp only [Nat.min_def]; split<;>omega) (by rw [lm,hz1])
   (fun j v hj=>by
    rw [Addr.add_none]
    have:w.drew.cell? ⟨g,i*size+j,none⟩=cur[i*size+j]? := RZ hg
    rw [this,<- hj,List.getElem?_drop,List.getElem?_take]
    have:i*size+j<n*size:=by
     have:=(List.getElem?_eq_some_iff.1 hj).1
     omega
    rw [if_pos this,Array.getElem?_toList])
   (by rw [lm,e1,e3]; omega) (fun v hv=>h1 v (List.mem_of_mem_drop hv))
 obtain ⟨cur1,hcur1⟩:∃ c1,c1=(cur.toList.take ((i+m)*size)++(cur.toList.take (n*size)).drop (i*size)++cur.toList.drop ((i+m)*size+((cur.toList.take (n*size)).drop (i*size)).length)).toArray:=⟨_,rfl⟩
 rw [<- hcur1] at hcp1
 have hs1:cur1.size=cap*size:=by
  rw [hcur1,List.size_toArray]
  simp only [List.length_append,List.length_take,List.length_drop,Array.length_toList,e1]
  omega
 have hg1:(w.drew.setRow g cur1).heap[g]? = some (.cells cur1 (ρ.t 9) (0,0)):=setRow_heap w.drew g cur cur1 (ρ.t 9) _ hg
 have hgv1:(w.drew.setRow g cur1).heap[vb]? = some (.cells vcur (ρ.t 9) (0,0)):=by rw [setRow_other w.drew g vb cur1 hvb]; exact hgv
 have lv:(vcur.toList.take (m*size)).length=m*size:=by rw [List.length_take,Array.length_toList]; omega
 have hcp2:∀ (W:World),W.heap=(w.drew.setRow g cur1).heap->∀ ty dc,(Builtin.copy_ #[(ρ.t 24),(ρ.t 24)] ty #[.slice (some ⟨g,i*size,none⟩) (n+m-i) dc,.slice (some ⟨vb,0,none⟩) m vc]).run P W=.ok (goInt m) (W.setRow g (cur1.toList.take (i*size)++vcur.toList.take (m*size)++cur1.toList.drop (i*size+(vcur.toList.take (m*size)).length)).toArray):=fun W hW ty dc =>
  T9 W _ _ ty (ρ.t 9) g (i*size) (n+m-i) dc ⟨vb,0,none⟩ m vc cur1 (ρ.t 9) _ m i0 L.t24 hi (by rw [hW]; exact hg1) (by simp only [Nat.min_def]; split<;>omega) (by rw [lv,hz1])
   (fun j v hj=>by
    rw [Addr.add_none,RZ (by rw [hW]; exact hgv1),<- hj,List.getElem?_take,Nat.zero_add]
    have:j<m*size:=by
     have:=(List.getElem?_eq_some_iff.1 hj).1
     omega
    rw [if_pos this,Array.getElem?_toList])
   (by rw [lv]; omega) h1v
 clear e1 e2 e3
 obtain ⟨_,_,FG⟩:=L.f22
 go_enter FG,Body2.n22_ntmps ρ
 go_wp2_with (simp only [hov])
 go_region_law_o (refine step_copy_runI rfl _ _ (ρ.t 24) (ρ.t 24) rfl _ _ (by simp [Act.eval,Act.put]) (by simp [Act.eval,Act.put]) (hcp1 _ _ _) ?_)
 go_wp2_with (at_builtin; refine wpList_copy_runI _ rfl _ _ (ρ.t 24) (ρ.t 24) rfl _ _ rfl rfl (hcp2 _ rfl _ _) ?_)
 go_ret
 have e1:(i+m)*size=i*size+m*size:=Nat.add_mul i m size
 have e2:(n+m)*size=n*size+m*size:=Nat.add_mul n m size
 have e3:(n-i)*size=n*size-i*size:=Nat.sub_mul n i size
 have e6:cur.toList.length=cap*size:=by rw [Array.length_toList,hcs]
 have e7:vcur.toList.length=vcur.size:=Array.length_toList
 refine ⟨rfl,_,setRow_heap _ g _ _ _ _ (setRow_heap w.drew g cur _ (ρ.t 9) _ hg),?_,?_,⟨rfl,rfl,rfl,by rw [Ji,Ji]; exact Nat.le_refl _,fun k hk hne=>?_⟩⟩
 ·simp only [List.size_toArray,List.length_append,List.length_take,List.length_drop,e1,e3,e6,e7]
  omega
 ·have:=ABt cur.toList (vcur.toList.take (m*size)) (i*size) (m*size) (n*size) e4 lv (by omega)
  simp only [e1,e2,e3]
  simpa only [List.append_assoc] using this
 ·have hk':k≠g:=fun e=>hne (by rw [e])
  rw [setRow_other _ g k _ hk',setRow_other _ g k _ hk']
  rfl
set_option maxHeartbeats 8000000 in
set_option maxRecDepth 100000 in
theorem ye (L:AA0 P ρ) (i0:TypeInfo) (z:Value) (size bytes:Nat) (hi:P.info? (ρ.t 9)=some i0) (hz0:i0.zero=some z) (hz1:i0.size=size) (hz2:i0.bytes=bytes) (hzs:z.cells.size=size) (hsz:0<size)
  (z9:∀ w,(Go.sizeOf (ρ.t 9)).run P w=.ok size w) (g n cap i:Nat) (cur:Array Value) (w:World) (hg:w.heap[g]? = some (.cells cur (ρ.t 9) (0,0))) (hcs:cur.size=cap*size) (hin:i<n) (vb m vc:Nat) (vcur:Array Value) (hgv:w.heap[vb]? = some (.cells vcur (ρ.t 9) (0,0))) (hvb:vb≠g)
  (hm:0<m) (hnc:n<=cap) (hroom:cap<n+m) (hcm:n+m<=68719476736) (hby:bytes<=2048) (hvl:m*size<=vcur.size) (h1:∀ u∈cur.toList.take (n*size),u.oneCell'=true) (h1v:∀ u∈vcur.toList.take (m*size),u.oneCell'=true) :
  Calls P (ρ.f 22) #[.slice (some ⟨g,0,none⟩) n cap,.int .i64 i,.slice (some ⟨vb,0,none⟩) m vc] w fun e w'=>∃ cap',e=.returned (.slice (some ⟨w.heap.size,0,none⟩) (n+m) cap')/\n+m<=cap'/\cap'<=maxLen /\
   ∃ cur',w'.heap[w.heap.size]? = some (.cells cur' (ρ.t 9) (0,0))/\cur'.size=cap'*size/\cur'.toList.take ((n+m)*size)=cur.toList.take (i*size)++vcur.toList.take (m*size)++(cur.toList.take (n*size)).drop (i*size)/\w.grownBy w' none:=by
 have mixed:=L.mixed; have t3:=L.t3; have a3:=L.a3; have z3:=L.z3; have v3:=L.v3; have t4:=L.t4; have a4:=L.a4; have z4:=L.z4; have v4:=L.v4; have t24:=L.t24; have a24:=L.a24; have z24:=L.z24; have v24:=L.v24
 have u3:=run_underlying L.t3; have u4:=run_underlying L.t4; have u24:=run_underlying L.t24
 have hcm':n+m<=9223372036854775807:=by omega
 have hz1':¬ ((m:Int)=0):=by omega
 have hz2':¬ ((i:Int)=(n:Int)):=by omega
 have hw1:IntKind.i64.wrap ((i:Int)+(m:Int))=(i:Int)+(m:Int):=by rw [IntKind.wrap_i64]; omega
 have hw2:IntKind.i64.wrap ((n:Int)+(m:Int))=(n:Int)+(m:Int):=by rw [IntKind.wrap_i64]; omega
 have hw3:IntKind.i64.wrap ((n:Int)+(m:Int)-(i:Int))=(n:Int)+(m:Int)-(i:Int):=by rw [IntKind.wrap_i64]; omega
 have hb1:(0:Int)<=(i:Int)+(m:Int):=by omega
 have hin':i<=n:=by omega
 have htn:((i:Int)+(m:Int)).toNat=i+m:=by omega
 have htn2:((n:Int)+(m:Int)).toNat=n+m:=by omega
 have hb4:¬ (cap=i):=by omega
 have hb5:(n:Int)+(m:Int)>(cap:Int):=by omega
 have hb6:¬ (cap=0):=by omega
 have e1:(i+m)*size=i*size+m*size:=Nat.add_mul i m size
 have e2:(n+m)*size=n*size+m*size:=Nat.add_mul n m size
 have e3:(n-i)*size=n*size-i*size:=Nat.sub_mul n i size
 have e4:i*size<=n*size:=Nat.mul_le_mul_right size hin'
 have e5:n*size<=cur.size:=by rw [hcs]; exact Nat.mul_le_mul_right size hnc
 have lo:(cur.toList.take (i*size)).length=i*size:=by rw [List.length_take,Array.length_toList]; omega
 have lv:(vcur.toList.take (m*size)).length=m*size:=by rw [List.length_take,Array.length_toList]; omega
 have lm:((cur.toList.take (n*size)).drop (i*size)).length=(n-i)*size:=by rw [List.length_drop,List.length_take,Array.length_toList,e3]; omega
 have hgl:g<w.heap.size:=(Array.getElem?_eq_some_iff.1 hg).1
 have hvl2:vb<w.heap.size:=(Array.getElem?_eq_some_iff.1 hgv).1
 have hbb:(n+m)*bytes<=140737488355328:=Nat.le_trans (Nat.mul_le_mul hcm hby) (by omega)
 obtain ⟨C,new,hap,hC1,hC2,hns,hnt⟩:∃ (C:Nat) (new:Array Value),(∀ ty,(Builtin.append_ #[(ρ.t 24),(ρ.t 3)] ty #[.slice (some ⟨g,0,none⟩) i cap,.int .i64 ((n:Int)+(m:Int)-(i:Int))]).run P w=.ok (.slice (some ⟨w.heap.size,0,none⟩) (n+m) C) (w.drew.alloc (.cells new (ρ.t 9)))) /\
   n+m<=C/\C<=maxLen/\new.size=C*size/\new.toList.take (i*size)=cur.toList.take (i*size):=by
  have hsum:i+(n+m-i)=n+m:=by omega
  have hge:=grownCap_ge w (n+m) cap (ρ.t 9)
  refine ⟨grownCap w (n+m) cap (ρ.t 9),(cur.toList.take (i*size)).toArray++Builtin.zeroCells z.cells (n+m-i)++Builtin.zeroCells z.cells (grownCap w (n+m) cap (ρ.t 9)-(n+m)),fun ty=>?_,hge,grownCap_le_maxLen _ _ _ _ (by unfold maxLen; omega),?_,?_⟩
  ·have:=mP (P:=P) w (ρ.t 24) (ρ.t 3) ty (ρ.t 9) i0 z .i64 L.t24 L.t3 hi hz0 ⟨g,0,none⟩ i cap (cur.toList.take (i*size)) (by rw [lo,hz1]) (fun j v hj=>by
     rw [Addr.add_none,RZ hg,<- hj,List.getElem?_take,Nat.zero_add]
     have:j<i*size:=by
      have:=(List.getElem?_eq_some_iff.1 hj).1
      omega
     rw [if_pos this,Array.getElem?_toList]) (n+m-i) (by omega) (by omega) (by omega) (by omega) (by rw [hz2]; exact Nat.le_trans (Nat.mul_le_mul_right bytes (Nat.sub_le _ _)) (by omega)) (by rw [hsum,hz2]; exact growslice_fits hroom hbb) .i64
   rw [hsum,show ((n+m-i:Nat):Int)=(n:Int)+(m:Int)-(i:Int) by omega] at this
   exact this
  ·simp only [Array.size_append,List.size_toArray,size_zeroCells,hzs,lo,<- Nat.add_mul]
   congr 1
   omega
  ·simp only [Array.toList_append,List.append_assoc]
   exact (congrArg (fun k=>List.take k _) lo.symm).trans (by rw [List.take_left])
 have hW1:(w.drew.alloc (.cells new (ρ.t 9))).heap[w.heap.size]? = some (.cells new (ρ.t 9) (0,0)):=heap_alloc_new w.drew _
 have hW1o:∀ k,k<w.heap.size->(w.drew.alloc (.cells new (ρ.t 9))).heap[k]? = w.heap[k]? := fun k hk=>heap_alloc_old w.drew _ hk
 have e8:i*size+m*size<=new.size:=by rw [hns,<- e1]; exact Nat.mul_le_mul_right size (by omega)
 have e9:n*size+m*size<=new.size:=by rw [hns,<- e2]; exact Nat.mul_le_mul_right size (by omega)
 have hcp1:∀ (W:World),W.heap=(w.drew.alloc (.cells new (ρ.t 9))).heap->∀ ty dc,(Builtin.copy_ #[(ρ.t 24),(ρ.t 24)] ty #[.slice (some ⟨w.heap.size,i*size,none⟩) (n+m-i) dc,.slice (some ⟨vb,0,none⟩) m vc]).run P W=.ok (goInt m) (W.setRow w.heap.size (new.toList.take (i*size)++vcur.toList.take (m*size)++new.toList.drop (i*size+(vcur.toList.take (m*size)).length)).toArray):=fun W hW ty dc =>
  T9 W _ _ ty (ρ.t 9) w.heap.size (i*size) (n+m-i) dc ⟨vb,0,none⟩ m vc new (ρ.t 9) _ m i0 L.t24 hi (by rw [hW]; exact hW1) (by simp only [Nat.min_def]; split<;>omega) (by rw [lv,hz1])
   (fun j v hj=>by
    rw [Addr.add_none,RZ (by rw [hW,hW1o vb hvl2]; exact hgv),<- hj,List.getElem?_take,Nat.zero_add]
    have:j<m*size:=by
     have:=(List.getElem?_eq_some_iff.1 hj).1
     omega
    rw [if_pos this,Array.getElem?_toList])
   (by rw [lv]; omega) h1v
 obtain ⟨cur1,hcur1⟩:∃ c1,c1=(new.toList.take (i*size)++vcur.toList.take (m*size)++new.toList.drop (i*size+(vcur.toList.take (m*size)).length)).toArray:=⟨_,rfl⟩
 rw [<- hcur1] at hcp1
 have hln:new.toList.length=new.size:=Array.length_toList
 have hs1:cur1.size=C*size:=by
  rw [hcur1,List.size_toArray,<- hns]
  simp only [List.length_append,List.length_take,List.length_drop,hln,lv]
  omega
 have hcp2:∀ (W:World),W.heap=((w.drew.alloc (.cells new (ρ.t 9))).setRow w.heap.size cur1).heap->∀ ty dc sc,(Builtin.copy_ #[(ρ.t 24),(ρ.t 24)] ty #[.slice (some ⟨w.heap.size,(i+m)*size,none⟩) (n+m-(i+m)) dc,.slice (some ⟨g,i*size,none⟩) (n-i) sc]).run P W=.ok (goInt ((n-i:Nat):Int)) (W.setRow w.heap.size (cur1.toList.take ((i+m)*size)++(cur.toList.take (n*size)).drop (i*size)++cur1.toList.drop ((i+m)*size+((cur.toList.take (n*size)).drop (i*size)).length)).toArray):=fun W hW ty dc sc =>
  T9 W _ _ ty (ρ.t 9) w.heap.size ((i+m)*size) (n+m-(i+m)) dc ⟨g,i*size,none⟩ (n-i) sc cur1 (ρ.t 9) _ (n-i) i0 L.t24 hi (by rw [hW]; exact setRow_heap _ _ new cur1 _ _ hW1) (by simp only [Nat.min_def]; split<;>omega) (by rw [lm,hz1])
   (fun j v hj=>by
    rw [Addr.add_none,RZ (by rw [hW,setRow_other _ _ g _ (by omega),hW1o g hgl]; exact hg),<- hj,List.getElem?_drop,List.getElem?_take]
    have:i*size+j<n*size:=by
     have:=(List.getElem?_eq_some_iff.1 hj).1
     omega
    rw [if_pos this,Array.getElem?_toList])
   (by rw [lm,hs1,<- hns,e1,e3]; omega) (fun v hv=>h1 v (List.mem_of_mem_drop hv))
 have fin:(cur1.toList.take ((i+m)*size)++(cur.toList.take (n*size)).drop (i*size)++cur1.toList.drop ((i+m)*size+((cur.toList.take (n*size)).drop (i*size)).length)).take ((n+m)*size)=cur.toList.take (i*size)++vcur.toList.take (m*size)++(cur.toList.take (n*size)).drop (i*size):=by
  have l1:(new.toList.take (i*size)).length=i*size:=by rw [List.length_take,hln]; omega
  have t1:cur1.toList.take ((i+m)*size)=cur.toList.take (i*size)++vcur.toList.take (m*size):=by
   rw [hcur1,<- hnt,e1]
   have l2:(new.toList.take (i*size)++vcur.toList.take (m*size)).length=i*size+m*size:=by rw [List.length_append,l1,lv]
   exact (congrArg (fun k=>List.take k _) l2.symm).trans (by rw [List.take_left])
  rw [t1]
  have l3:(cur.toList.take (i*size)++vcur.toList.take (m*size)++(cur.toList.take (n*size)).drop (i*size)).length=(n+m)*size:=by
   simp only [List.length_append,lo,lv,lm,e2,e3]
   omega
  exact (congrArg (fun k=>List.take k _) l3.symm).trans (by rw [List.take_left])
 obtain ⟨cur2,hcur2⟩:∃ c2,c2=(cur1.toList.take ((i+m)*size)++(cur.toList.take (n*size)).drop (i*size)++cur1.toList.drop ((i+m)*size+((cur.toList.take (n*size)).drop (i*size)).length)).toArray:=⟨_,rfl⟩
 rw [<- hcur2] at hcp2
 have hs2:cur2.size=C*size:=by
  rw [hcur2,List.size_toArray,<- hs1]
  simp only [List.length_append,List.length_take,List.length_drop,Array.length_toList,lm,e1,e3]
  omega
 have fin2:cur2.toList.take ((n+m)*size)=cur.toList.take (i*size)++vcur.toList.take (m*size)++(cur.toList.take (n*size)).drop (i*size):=by rw [hcur2]; exact fin
 clear e1 e2 e3 hcur1 hcur2 fin
 obtain ⟨W1,hW1d⟩:∃ W1,W1=w.drew.alloc (.cells new (ρ.t 9)):=⟨_,rfl⟩
 have hWs:W1.heap.size=w.heap.size+1:=by rw [hW1d]; exact Array.size_push _
 have hWos:W1.os=w.os/\W1.tape=w.tape/\W1.output=w.output:=by rw [hW1d]; exact ⟨rfl,rfl,rfl⟩
 rw [<- hW1d] at hW1 hW1o hcp1 hcp2 hap
 clear hW1d
 have hcp3:=hcp2 (W1.setRow w.heap.size cur1).drew rfl
 clear hcp2
 have hb7:¬ (C=i+m):=by omega
 have hb8:¬ (C=i):=by omega
 obtain ⟨_,_,FG⟩:=L.f22
 go_enter FG,Body2.n22_ntmps ρ
 go_wp2_with (at_builtin; refine Lib.wpList_append_run _ rfl _ _ (ρ.t 24) (ρ.t 3) rfl _ _ rfl rfl _ _ (hap _) ?_)
 go_region_law_o (refine step_copy_runI rfl _ _ (ρ.t 24) (ρ.t 24) rfl _ _ (by simp [Act.eval,Act.put]) (by simp [Act.eval,Act.put]) (hcp3 _ _ _) ?_)
 go_wp2
 go_ret
 refine ⟨C,rfl,hC1,hC2,cur2,setRow_heap _ _ cur1 cur2 _ _ (setRow_heap _ _ new cur1 _ _ hW1),hs2,fin2,⟨hWos.1,hWos.2.1,hWos.2.2,?_,fun k hk _=>?_⟩⟩
 ·rw [Ji]
  show w.heap.size<=(W1.setRow w.heap.size cur1).heap.size
  rw [Ji,hWs]
  omega
 ·rw [setRow_other _ _ k _ (by omega)]
  show (W1.setRow w.heap.size cur1).heap[k]? = _
  rw [setRow_other _ _ k _ (by omega),hW1o k hk]
theorem oD {H:HP} {K:Kd} {xs:List K.T} {f:List Value} (h:EO H K xs f) (i:Nat):EO H K (xs.take i) (f.take (i*K.sz)):=by
 intro j x hx
 rw [List.getElem?_take] at hx
 split at hx
 ·rename_i hj
  have:=h j x hx
  have hle:(j+1)*K.sz<=i*K.sz:=Nat.mul_le_mul_right _ hj
  rw [Nat.succ_mul] at hle
  rw [List.drop_take,List.take_take,Nat.min_eq_left (by omega)]
  exact this
 ·cases hx
theorem oE {H:HP} {K:Kd} {xs:List K.T} {f:List Value} (h:EO H K xs f) (i:Nat):EO H K (xs.drop i) (f.drop (i*K.sz)):=by
 intro j x hx
 rw [List.getElem?_drop] at hx
 have:=h _ x hx
 rw [List.drop_drop,<- Nat.add_mul]
 exact this
theorem xI {H:HP} {φ:CA} {w w':World} {t:TypeId} {K:Kd} {xs vs ys:List K.T} {n:Int} {v':Value} {flat:List Value}
  (hs:SR H φ (BX [] [.new t K xs,.int .i64 n,.new t K vs]) w) (hg:w.grownBy w' (Ff (φ 0))) (hb:∀ b,Ff v'=some b->Ff (φ 0)=some b\/w.heap.size<=b)
  (ho:w'.ownsRow 0 t K.sz v' ys.length flat) (hr:EO H K ys flat):On H φ w [.new t K xs,.int .i64 n,.new t K vs] [] [] [.new t K ys] v' w':=by
 have hout:∀ b,Ff (φ 0)=some b->H b=none:=fun b h=>hs.out 0 (.rows t K xs) rfl rfl b h
 have hlt:∀ b o,H b=some o->b<w.heap.size:=fun b o h=>(Array.getElem?_eq_some_iff.1 (hs.hp b o h)).1
 refine ⟨H,fun _=>v',HP.le_refl H,⟨fun b o h=>?_,fun id bx hid=>?_,fun i j bi bj hi hj _ _ hne=>?_,fun i bi hi _ b hv=>?_,fun id cs hid=>?_⟩,⟨hg.os,hg.tape,hg.output,hg.size,fun b hlt hne=>hg.block b hlt (fun e=>hne 0 (by show 0<2; omega) e.symm),fun j hj=>by simp at hj,fun i bi hi _ b hv=>?_,fun j hj=>by simp at hj,fun _ _ _=>rfl⟩,⟨rfl,rfl⟩⟩
 ·rw [hg.block b (hlt b o h) (fun e=>by rw [hout b e.symm] at h; cases h)]
  exact hs.hp b o h
 ·cases id with
  | zero=>cases hid; exact ⟨flat,ho,hr⟩
  | succ k=>cases hid
 ·cases i with
  | succ k=>cases hi
  | zero =>
   cases j with
   | succ k=>cases hj
   | zero=>exact absurd rfl hne
 ·cases hh:H b with
  | none=>rfl
  | some o =>
   rcases hb b hv with h | h
   ·rw [hout b h] at hh; cases hh
   ·have:=hlt b o hh; omega
 ·cases id with
  | zero=>cases hid
  | succ k=>cases hid
 ·rcases hb b hv with h | h
  ·exact .inr ⟨0,(by show 0<2; omega),h⟩
  ·exact .inl h
theorem AA1 {K:Kd} (L:AA0 P ρ) (he:xv P (ρ.t 9) K=true) {xs vs:List K.T} {i:Nat} (hx:xs.length+vs.length<=68719476736) (hv:vs≠[]) (hi:i<=xs.length) :
  XX P (ρ.f 22) [.new (ρ.t 9) K xs,.int .i64 i,.new (ρ.t 9) K vs] [] [.new (ρ.t 9) K (xs.take i++vs++xs.drop i)]:=by
 obtain ⟨i0,z,hi0,hz,h1,h2,h3,h4⟩:=VH he
 have hm:0<vs.length:=List.length_pos_iff.2 hv
 have hsz:=Kd.sz_pos K
 refine ⟨?_,?_,1,rfl,fun H φ w cargs hs ha=>?_⟩
 ·obtain ⟨nm,hnm,hf⟩:=L.f22
  exact ⟨_,_,hf,hnm,rfl⟩
 ·intro r hr
  simp only [List.mem_singleton] at hr
  subst hr
  rfl
 ·obtain ⟨v0,r0,rfl,hv0,ha⟩:=ha
  obtain ⟨v1,r1,rfl,hv1,ha⟩:=ha
  obtain ⟨v2,r2,rfl,hv2,ha⟩:=ha
  have hr2:r2=[]:=ha
  subst hr2
  have e0:v0=φ 0:=hv0.1
  have e1:v1=.int .i64 i:=hv1
  have e2:v2=φ 1:=hv2.1
  subst e0 e1 e2
  obtain ⟨flat,ho,hr⟩:=hs.box 0 (.rows (ρ.t 9) K xs) rfl
  obtain ⟨flatv,hov,hrv⟩:=hs.box 1 (.rows (ρ.t 9) K vs) rfl
  have hnew:(xs.take i++vs++xs.drop i).length=xs.length+vs.length:=by simp only [List.length_append,List.length_take,List.length_drop]; omega
  have hnil:vs.length≠0:=by omega
  obtain ⟨gv,capv,curv,ev,_,hgv,hcv,hcmv,hsv,htv⟩:=hov.2.resolve_left (fun h=>hnil h.2)
  have hlv:vs.length*K.sz<=curv.size:=by rw [hsv]; exact Nat.mul_le_mul_right _ hcv
  have hn:xs.length+vs.length<=maxLen:=by unfold maxLen; omega
  have hbb:(xs.length+vs.length)*i0.bytes<=140737488355328:=Nat.le_trans (Nat.mul_le_mul hx h2) (by omega)
  have hcv2:∀ j u,flatv[j]? = some u->w.cell? ((⟨gv,0,none⟩:Addr).add j)=some u:=fun j u hj=>by
   rw [Addr.add_none,RZ hgv,Nat.zero_add]
   rw [<- htv,List.getElem?_take] at hj
   split at hj
   ·rwa [Array.getElem?_toList] at hj
   ·cases hj
  have one:(w.ownsRow 0 (ρ.t 9) K.sz (φ 1) vs.length flatv):=hov
  rw [ev]
  by_cases hin:i=xs.length
  ·subst hin
   obtain ⟨base,n,cap,e0,hnn⟩:∃ base n cap,φ 0=.slice base n cap/\n=xs.length:=by
    rcases ho.2 with ⟨e,h⟩ | ⟨g,cap,cur,e,_⟩
    ·exact ⟨none,0,0,e,h.symm⟩
    ·exact ⟨_,_,_,e,rfl⟩
   subst hnn
   refine Calls.mono (zc L i0 z K.sz i0.bytes hi0 hz h1 rfl h3 hsz (fun w=>by simp [sizeOf,typeInfo,hi0,h1]) (φ 0) base _ cap e0 flat w ho ⟨gv,0,none⟩ vs.length capv flatv hm hov.1 hn hbb hcv2 (DS hrv hov.1)) fun out w' h=>?_
   obtain ⟨v',rfl,ho',hg,hbk⟩:=h
   have hbv:∀ {v:Value} {n:Nat} {fl:List Value} {ww:World},ww.ownsRow 0 (ρ.t 9) K.sz v n fl->Ff v=v.ownBlock:=fun h=>by
    rcases h.2 with ⟨e,_⟩ | ⟨g,c,cu,e,_⟩<;>rw [e]<;>rfl
   have hbl:Ff (φ 0)=(φ 0).ownBlock:=by rw [e0]; cases base<;>rfl
   refine xI (flat:=flat++flatv) hs (by rw [hbl]; exact hg) (fun b hb=>?_) (by rw [hnew]; exact ho') ?_
   ·rw [hbv ho'] at hb
    rcases hbk with h | h
    ·exact .inl (by rw [hbl,<- h]; exact hb)
    ·rw [h] at hb
     cases hb
     exact .inr (Nat.le_refl _)
   ·rw [List.take_length,List.drop_length,List.append_nil]
    exact IS hr ho.1 hrv
  ·have hlt:i<xs.length:=by omega
   obtain ⟨g,cap,cur,e0,_,hg,hc,hcm,hsc,ht⟩:=ho.2.resolve_left (fun h=>by omega)
   have hne:gv≠g:=fun e=>hs.sep 0 1 _ _ rfl rfl rfl rfl (by decide) g (by rw [e0]; rfl) (by rw [ev,e]; rfl)
   rw [e0]
   have z9:∀ w,(Go.sizeOf (ρ.t 9)).run P w=.ok K.sz w:=fun w=>by simp [sizeOf,typeInfo,hi0,h1]
   have hcap0:cur.size≠0:=by
    have:=Nat.mul_le_mul_right K.sz hc
    have h5:0<xs.length*K.sz:=Nat.mul_pos (by omega) hsz
    omega
   have htk:cur.toList.take (i*K.sz)=flat.take (i*K.sz):=by
    rw [<- ht,List.take_take,Nat.min_eq_left (Nat.mul_le_mul_right _ hi)]
   have hrow:∀ (cur':Array Value),cur'.toList.take ((xs.length+vs.length)*K.sz)=cur.toList.take (i*K.sz)++curv.toList.take (vs.length*K.sz)++(cur.toList.take (xs.length*K.sz)).drop (i*K.sz)->cur'.toList.take ((xs.length+vs.length)*K.sz)=flat.take (i*K.sz)++flatv++flat.drop (i*K.sz):=fun cur' h=>by rw [h,htk,htv,ht]
   have hlf:(flat.take (i*K.sz)++flatv++flat.drop (i*K.sz)).length=(xs.length+vs.length)*K.sz:=by
    have h5:=ho.1
    have h6:=hov.1
    have h7:i*K.sz<=xs.length*K.sz:=Nat.mul_le_mul_right _ hi
    simp only [List.length_append,List.length_take,List.length_drop,h5,h6,Nat.add_mul]
    omega
   have hrr:EO H K (xs.take i++vs++xs.drop i) (flat.take (i*K.sz)++flatv++flat.drop (i*K.sz)):=by
    have h5:=ho.1
    have h7:i*K.sz<=xs.length*K.sz:=Nat.mul_le_mul_right _ hi
    have l1:(flat.take (i*K.sz)).length=(xs.take i).length*K.sz:=by rw [List.length_take,List.length_take,Nat.min_eq_left hi,h5]; omega
    refine IS (IS (oD hr i) l1 hrv) ?_ (oE hr i)
    rw [List.length_append,List.length_append,l1,hov.1,Nat.add_mul]
   by_cases hroom:xs.length+vs.length<=cap
   ·refine Calls.mono (xH L i0 z K.sz i0.bytes hi0 hz h1 rfl h3 hsz z9 g xs.length cap i cur w hg hsc hlt gv vs.length capv curv hgv hne hm hroom hcm hlv (by rw [ht]; exact DS hr ho.1) (by rw [htv]; exact DS hrv hov.1) hcap0) fun out w' h=>?_
    obtain ⟨rfl,cur',g1,g2,g3,g4⟩:=h
    refine xI hs (by rw [e0]; exact g4) (fun b hb=>.inl (by rw [e0]; exact hb)) (flat:=flat.take (i*K.sz)++flatv++flat.drop (i*K.sz)) ?_ hrr
    rw [hnew]
    exact ⟨hlf,.inr ⟨g,cap,cur',rfl,Nat.zero_le _,g1,hroom,hcm,g2,hrow cur' g3⟩⟩
   ·refine Calls.mono (ye L i0 z K.sz i0.bytes hi0 hz h1 rfl h3 hsz z9 g xs.length cap i cur w hg hsc hlt gv vs.length capv curv hgv hne hm hc (by omega) hx h2 hlv (by rw [ht]; exact DS hr ho.1) (by rw [htv]; exact DS hrv hov.1)) fun out w' h=>?_
    obtain ⟨cap',rfl,g5,g6,cur',g1,g2,g3,g4⟩:=h
    refine xI hs ⟨g4.os,g4.tape,g4.output,g4.size,fun k hk _=>g4.block k hk (by simp)⟩ (fun b hb=>.inr (by cases hb; exact Nat.le_refl _)) (flat:=flat.take (i*K.sz)++flatv++flat.drop (i*K.sz)) ?_ hrr
    rw [hnew]
    exact ⟨hlf,.inr ⟨w.heap.size,cap',cur',rfl,Nat.zero_le _,g1,g5,g6,g2,hrow cur' g3⟩⟩
def sL (t:TypeId) (K:Kd) (args bs:List AV):Option (List AV) :=
 match args,bs with
 | [.lst K' xs],[]=>if h:K'=K then (if xs.length<=68719476736 then some [.new t K (h▸xs)] else none) else none
 | _,_=>none
theorem sM {t:TypeId} {K:Kd} {xs:List K.T} (h:xs.length<=68719476736):sL t K [.lst K xs] []=some [.new t K xs]:=by simp [sL,h]
theorem sN {K:Kd} (L:SlLaysE0.n41 P ρ) (he:xv P (ρ.t 23) K=true) {args bs rs:List AV} (h:sL (ρ.t 23) K args bs=some rs):XX P (ρ.f 41) args bs rs:=by
 unfold sL at h
 split at h
 ·split at h
  ·rename_i hk
   subst hk
   split at h
   ·cases h
    exact ABs L he (by assumption)
   ·cases h
  ·cases h
 ·cases h
def ABu (t:TypeId) (K:Kd) (args bs:List AV):Option (List AV) :=
 match args,bs with
 | [.new t1 K1 xs,.int k i,.new t2 K2 vs],[]=>if h1:K1=K then (if h2:K2=K then (if t1=t/\t2=t/\k=.i64/\0<=i/\i<=xs.length/\vs.length≠0/\xs.length+vs.length<=68719476736 then
   some [.new t K ((h1▸xs).take i.toNat++(h2▸vs)++(h1▸xs).drop i.toNat)] else none) else none) else none
 | _,_=>none
theorem AC0 {t:TypeId} {K:Kd} {xs vs:List K.T} {i:Nat} (h:xs.length+vs.length<=68719476736) (hi:i<=xs.length) (hv:vs.length≠0):ABu t K [.new t K xs,.int .i64 i,.new t K vs] []=some [.new t K (xs.take i++vs++xs.drop i)]:=by
 have hi':(i:Int)<=(xs.length:Int):=by omega
 have h0:(0:Int)<=(i:Int):=by omega
 simp only [ABu,dif_pos,true_and]
 rw [if_pos ⟨h0,hi',hv,h⟩,Int.toNat_natCast]
theorem AC1 {K:Kd} (L:AA0 P ρ) (he:xv P (ρ.t 9) K=true) {args bs rs:List AV} (h:ABu (ρ.t 9) K args bs=some rs):XX P (ρ.f 22) args bs rs:=by
 unfold ABu at h
 split at h
 ·split at h
  ·rename_i hk
   subst hk
   split at h
   ·rename_i hk2
    subst hk2
    split at h
    ·rename_i hc
     obtain ⟨rfl,rfl,rfl,h0,hi,hv,hx⟩:=hc
     cases h
     rename_i n _
     obtain ⟨m,rfl⟩:=Int.eq_ofNat_of_zero_le h0
     exact AA1 L he hx (fun e=>hv (by rw [e]; rfl)) (by omega)
    ·cases h
   ·cases h
  ·cases h
 ·cases h
def ADr (args bs:List AV):Option (List AV) :=
 match args,bs with
 | [.str a,.str b],[]=>some [.int .i64 (Lib.compareBytes a.data.toList b.data.toList)]
 | _,_=>none
theorem AC2 (L:Lays.n106 P ρ) {args bs rs:List AV} (h:ADr args bs=some rs):XX P (ρ.f 106) args bs rs:=by
 unfold ADr at h
 split at h
 ·cases h
  rename_i a b
  refine ⟨⟨_,_,L.f106,by rfl,rfl⟩,?_,1,rfl,fun H φ w cargs hs ha=>?_⟩
  ·intro r hr
   simp only [List.mem_singleton] at hr
   subst hr
   rfl
  ·obtain ⟨v0,r0,rfl,hv0,ha⟩:=ha
   obtain ⟨v1,r1,rfl,hv1,ha⟩:=ha
   have hr1:r1=[]:=ha
   subst hr1
   have e0:v0=.string a:=hv0
   have e1:v1=.string b:=hv1
   subst e0 e1
   refine Calls.mono (Any.strings_Compare L a b w) fun out w' h=>?_
   obtain ⟨rfl,rfl⟩:=h
   exact yc (rs:=[.int .i64 (Lib.compareBytes a.data.toList b.data.toList)]) (Ao.refl hs) rfl
 ·cases h
theorem qi {H:HP} {φ:CA} {w w':World} {t:TypeId} {K:Kd} {xs ys:List K.T} {ags:List AV} {v':Value} {flat:List Value} (hst:BX [] (.new t K xs::ags)=[.rows t K xs])
  (hs:SR H φ (BX [] (.new t K xs::ags)) w) (hg:w.grownBy w' (Ff (φ 0))) (hb:∀ b,Ff v'=some b->Ff (φ 0)=some b\/w.heap.size<=b)
  (ho:w'.ownsRow 0 t K.sz v' ys.length flat) (hr:EO H K ys flat):On H φ w (.new t K xs::ags) [] [] [.new t K ys] v' w':=by
 have hbx:(BX [] (.new t K xs::ags))[0]? = some (.rows t K xs):=by rw [hst]; rfl
 have hout:∀ b,Ff (φ 0)=some b->H b=none:=fun b h=>hs.out 0 (.rows t K xs) hbx rfl b h
 have hlt:∀ b o,H b=some o->b<w.heap.size:=fun b o h=>(Array.getElem?_eq_some_iff.1 (hs.hp b o h)).1
 refine ⟨H,fun _=>v',HP.le_refl H,⟨fun b o h=>?_,fun id bx hid=>?_,fun i j bi bj hi hj _ _ hne=>?_,fun i bi hi _ b hv=>?_,fun id cs hid=>?_⟩,⟨hg.os,hg.tape,hg.output,hg.size,fun b hlt hne=>hg.block b hlt (fun e=>hne 0 (by rw [hst]; show 0<1; omega) e.symm),fun j hj=>by simp at hj,fun i bi hi _ b hv=>?_,fun j hj=>by simp at hj,fun _ _ _=>rfl⟩,⟨rfl,rfl⟩⟩
 ·rw [hg.block b (hlt b o h) (fun e=>by rw [hout b e.symm] at h; cases h)]
  exact hs.hp b o h
 ·cases id with
  | zero=>cases hid; exact ⟨flat,ho,hr⟩
  | succ k=>cases hid
 ·cases i with
  | succ k=>cases hi
  | zero =>
   cases j with
   | succ k=>cases hj
   | zero=>exact absurd rfl hne
 ·cases hh:H b with
  | none=>rfl
  | some o =>
   rcases hb b hv with h | h
   ·rw [hout b h] at hh; cases hh
   ·have:=hlt b o hh; omega
 ·cases id with
  | zero=>cases hid
  | succ k=>cases hid
 ·rcases hb b hv with h | h
  ·exact .inr ⟨0,(by rw [hst]; show 0<1; omega),h⟩
  ·exact .inl h

structure ADs (P:Program) (g:Nat):Prop where
 eg:∀ args w,(callFunc g args).run P w=.ok (.enter g args) w
 says:∀ (n x:Int) (b o:Nat) (W:World),W.cell? ⟨b,o,none⟩=some (.int .i64 n) ->
  Calls P g #[.int .i64 x,.pointer (some ⟨b,o,none⟩)] W fun e w'=>e=.returned (.bool (x==n))/\∃ q,w'=W.drewN q
set_option maxHeartbeats 2000000 in
theorem yf (L:SlLaysH.n10 P ρ) (fv:Value) (w:World) :
  Calls P (ρ.f 10) #[.slice none 0 0,fv] w fun e w'=>e=.returned (.slice none 0 0)/\w'=w:=by
 have mixed:=L.mixed; have t0:=L.t0; have a0:=L.a0; have z0:=L.z0; have v0:=L.v0; have t3:=L.t3; have a3:=L.a3; have z3:=L.z3; have v3:=L.v3; have t4:=L.t4; have a4:=L.a4; have z4:=L.z4; have v4:=L.v4; have t22:=L.t22; have a22:=L.a22; have z22:=L.z22; have v22:=L.v22; have a23:=L.a23; have z23:=L.z23; have t25:=L.t25; have a25:=L.a25; have z25:=L.z25; have v25:=L.v25
 have e6:∀ args w,(callFunc (ρ.f 6) args).run P w=.ok (.enter (ρ.f 6) args) w:=L.f6.enters rfl
 have hIF:=AnyE.slices_IndexFunc_empty (P:=P) (ρ:=ρ) { L with } none 0 fv w
 obtain ⟨_,_,FG⟩:=L.f10
 go_enter FG,SlBodyH.n10_ntmps ρ
 go_wp2_with (go_at_fn (ρ.f 6); refine hIF.mono ?_; rintro e w' ⟨rfl,rfl⟩)
 go_ret
 exact ⟨rfl,rfl⟩
theorem jG {α:Type} [Inhabited α] (enc:α->Value) (w:World) (b off:Nat) (d:Array α):(Sort.putRow enc w b off d).heap.size=w.heap.size:=by
 simp [Sort.putRow,Sort.mapBlock]
theorem jH {α:Type} [Inhabited α] (enc:α->Value) (w:World) (b off k:Nat) (d:Array α) (h:k≠b):(Sort.putRow enc w b off d).heap[k]? = w.heap[k]? := by
 simp only [Sort.putRow,Sort.mapBlock,Array.getElem?_modify]
 rw [if_neg (fun e=>h e.symm)]
theorem mQ {α:Type} [Inhabited α] (enc:α->Value) (w:World) (b off:Nat) (d:Array α) {c:Array Value} {e:TypeId} {fr:Nat×Nat} (h:w.heap[b]? = some (.cells c e fr)) :
  (Sort.putRow enc w b off d).heap[b]? = some (.cells (Sort.putCells enc off d c) e fr):=by
 simp only [Sort.putRow,Sort.mapBlock,Array.getElem?_modify,if_true,h,Option.map_some,Sort.onCells]
theorem zd (L:SlLaysH.n10 P ρ) (hv:∀ w,(zeroValue (ρ.t 23)).run P w=.ok (.int .i64 0) w) {g:Nat} (E:ADs P g) {xs:List Int} {n:Int} :
  XX P (ρ.f 10) [.new (ρ.t 23) (.int .i64) xs,.clo g (.int .i64) n] [] [.new (ρ.t 23) (.int .i64) (xs.filter fun x=>!(x==n))]:=by
 refine ⟨?_,?_,1,rfl,fun H φ w cargs hs ha=>?_⟩
 ·obtain ⟨nm,hnm,hf⟩:=L.f10
  exact ⟨_,_,hf,hnm,rfl⟩
 ·intro r hr
  simp only [List.mem_singleton] at hr
  subst hr
  rfl
 ·obtain ⟨v0,r0,rfl,hv0,ha⟩:=ha
  obtain ⟨v1,r1,rfl,hv1,ha⟩:=ha
  have hr1:r1=[]:=ha
  subst hr1
  have e0:v0=φ 0:=hv0.1
  subst e0
  obtain ⟨b,o,c,el,fz,e1,hb,vs,hvs,hvc⟩:=(show x_ H g (Gt H (.int .i64) n) v1 from hv1)
  have hvs:vs=[.int .i64 n]:=hvs
  subst hvs e1
  have hcn:c[o]? = some (.int .i64 n):=hvc 0 _ rfl
  have hwb:=hs.hp _ _ hb
  have hbl:b<w.heap.size:=(Array.getElem?_eq_some_iff.1 hwb).1
  have hcell:w.cell? ⟨b,o,none⟩=some (.int .i64 n):=by rw [RZ hwb]; exact hcn
  obtain ⟨flat,ho,hr⟩:=hs.box 0 (.rows (ρ.t 23) (.int .i64) xs) rfl
  have hstk:BX [] [AV.new (ρ.t 23) (.int .i64) xs,.clo g (.int .i64) n]=[.rows (ρ.t 23) (.int .i64) xs]:=rfl
  have hout:∀ bb,Ff (φ 0)=some bb->H bb=none:=fun bb h=>hs.out 0 (.rows (ρ.t 23) (.int .i64) xs) rfl rfl bb h
  obtain ⟨hfl,⟨e0,hx⟩ | ⟨gb,cap,cur,e0,hle,hg,hc,hcm,hsc,ht⟩⟩:=ho
  ·have:xs=[]:=List.length_eq_zero_iff.1 (by omega)
   subst this
   rw [e0]
   refine Calls.mono (yf L _ w) fun out w' h=>?_
   obtain ⟨rfl,rfl⟩:=h
   exact qi hstk hs ⟨rfl,rfl,rfl,Nat.le_refl _,fun _ _ _=>rfl⟩ (fun b hb=>by simp [Ff] at hb) (flat:=[]) ⟨by simp,.inl ⟨rfl,rfl⟩⟩ (fun j x h=>by simp at h)
  ·have hne:b≠gb:=fun e=>by
    have:=hout gb (by rw [e0]; rfl)
    rw [<- e] at this
    rw [this] at hb; cases hb
   have hgl:gb<w.heap.size:=(Array.getElem?_eq_some_iff.1 hg).1
   have hflat:∀ j (h:j<xs.length),cur[j]? = some (.int .i64 xs[j]):=fun j hj=>by
    have h1:(flat.drop (j*1)).take 1=[.int .i64 xs[j]]:=hr j xs[j] (List.getElem?_eq_getElem hj)
    have h4:((flat.drop (j*1)).take 1)[0]? = some (.int .i64 xs[j]):=by rw [h1]; rfl
    have h5:flat[j]? = some (.int .i64 xs[j]):=by simpa using h4
    rw [<- ht] at h5
    have h6:j<xs.length*Kd.sz (.int .i64):=by simpa [Kd.sz] using hj
    rw [List.getElem?_take,if_pos h6,Array.getElem?_toList] at h5
    exact h5
   have hH:Sort.Holds (Value.int .i64) w gb 0 xs.toArray:=fun j hj=>by
    have hj':j<xs.length:=by simpa using hj
    have hx:xs.toArray[j]! = xs[j]:=by simp [hj']
    refine ⟨?_,?_⟩
    ·rw [RZ hg,Nat.zero_add,hflat j hj',hx]
    ·simp [World.frozen?,hg]
   have hp:PredAt P g #[.pointer (some ⟨b,o,none⟩)] (Value.int .i64) (fun x=>x==n) w:=fun W x hB=>E.says n x b o W ((hB.cell (p:=⟨b,o,none⟩) hbl).trans hcell)
   have hpo:PredOver P g #[.pointer (some ⟨b,o,none⟩)] (Value.int .i64) (fun x=>x==n) gb 0 xs.toArray.size w:=fun k os dk x _=>E.says n x b o _ (by
    unfold sortWorld
    rw [Sort.cell?_grow _ _ _ (by show b<(Sort.putRow _ _ _ _ _).heap.size; rw [jG]; exact hbl),Sort.cell?_putRow_other _ _ gb 0 _ _ (Or.inl hne)]
    exact hcell)
   have hcm':cap<=9223372036854775807:=hcm
   have hcall:=AnyE.slices_DeleteFunc L (Value.int .i64) (fun _=>rfl) (fun x=>x==n) g #[.pointer (some ⟨b,o,none⟩)] E.eg 0 hv gb 0 cap xs.toArray w hp hpo hH (by simp; omega) (by simpa using hc)
   rw [e0]
   refine Calls.mono (by simpa using hcall) fun out w' h=>?_
   obtain ⟨rfl,q,rfl⟩:=h
   have hfl':(xs.filter fun x=>!(x==n)).length<=xs.length:=List.length_filter_le _ _
   generalize hys:(xs.filter fun x=>!(x==n))=ys at hfl' ⊢
   have hd:(ys++List.replicate (xs.length-ys.length) 0).length=xs.length:=by simp; omega
   generalize hdd:(ys++List.replicate (xs.length-ys.length) (0:Int))=zs at hd ⊢
   refine qi (flat:=ys.map (Value.int .i64)) hstk hs ⟨rfl,rfl,rfl,?_,fun k hk hne2=>?_⟩ (fun b hb=>.inl (by rw [e0]; exact hb)) ?_ ?_
   ·rw [jG]; exact Nat.le_refl _
   ·rw [jH _ _ _ _ _ _ (fun e=>hne2 (by rw [e0,e]; rfl))]; rfl
   ·refine ⟨by simp [Kd.sz],.inr ⟨gb,cap,_,rfl,Nat.zero_le _,mQ _ _ _ _ _ (show (Sort.ahead w q).heap[gb]? = _ from hg),by omega,hcm,by simpa [Sort.putCells] using hsc,?_⟩⟩
    apply List.ext_getElem?
    intro j
    have hcs:cur.size=cap:=by simpa [Kd.sz] using hsc
    rw [List.getElem?_take]
    by_cases hj:j<ys.length
    ·have h6:j<ys.length*Kd.sz (.int .i64):=by simpa [Kd.sz] using hj
     have hj2:j<cur.size:=by omega
     rw [if_pos h6,Array.getElem?_toList,Sort.putCells,Array.getElem?_mapIdx,Array.getElem?_eq_getElem hj2]
     have h7:zs.toArray[j-0]! = ys[j]:=by
      subst hdd
      simp [List.getElem?_append_left hj,hj]
     simp only [Option.map_some,List.getElem?_map,List.getElem?_eq_getElem hj]
     rw [if_pos ⟨Nat.zero_le _,by simp; omega⟩,h7]
    ·have h6:¬ j<ys.length*Kd.sz (.int .i64):=by simpa [Kd.sz] using hj
     rw [if_neg h6,List.getElem?_map,List.getElem?_eq_none (by omega)]; rfl
   ·intro j x hx
    show ((ys.map (Value.int .i64)).drop (j*1)).take 1=[.int .i64 x]
    have hj:=(List.getElem?_eq_some_iff.1 hx).1
    have hxj:=(List.getElem?_eq_some_iff.1 hx).2
    rw [Nat.mul_one,List.drop_eq_getElem_cons (by simpa using hj)]
    simp [hxj]
def yg (t g:Nat) (args bs:List AV):Option (List AV) :=
 match args,bs with
 | [.new t1 (.int k) xs,.clo g1 (.int k1) n],[]=>if t1=t/\g1=g/\k=.i64/\k1=.i64 then
   some [.new t (.int .i64) ((show List Int from xs).filter fun x=>!(x==(show Int from n)))] else none
 | _,_=>none
theorem ABv {t g:Nat} {xs:List Int} {n:Int}:yg t g [.new t (.int .i64) xs,.clo g (.int .i64) n] []=some [.new t (.int .i64) (xs.filter fun x=>!(x==n))]:=by
 simp [yg]
theorem ABw (L:SlLaysH.n10 P ρ) (hv:∀ w,(zeroValue (ρ.t 23)).run P w=.ok (.int .i64 0) w) {g:Nat} (E:ADs P g) {args bs rs:List AV} (h:yg (ρ.t 23) g args bs=some rs):XX P (ρ.f 10) args bs rs:=by
 unfold yg at h
 split at h
 ·split at h
  ·rename_i hc
   obtain ⟨rfl,rfl,rfl,rfl⟩:=hc
   cases h
   exact zd L hv E
  ·cases h
 ·cases h
end Go.Proofs.YtokiohnjegbnpaaGreat.Core
