/- Texts of the proof, packed: part 3. -/
import Derived.Test.YtffahmnodgnohaaP1
import Derived.IntWalk
import Derived.Test.YtffahmnodgnohaaProg
import Derived.JoinedOf
import Derived.Test.YtffahmnodgnohaaRows
import Derived.ProofKit
set_option linter.unusedVariables false
set_option linter.unusedSimpArgs false
namespace Go.Proofs.Ytffahmnodgnohaa.Core
open Go
def Ev (p:Nat->Prop):Prop:=∃ m,∀ k,m<=k->p k
theorem Ev.mono {p q:Nat->Prop} (h:Ev p) (f:∀ k,p k->q k):Ev q:=h.elim fun m hm=>⟨m,fun k hk=>f k (hm k hk)⟩
theorem Ev.const {p:Prop} (h:p):Ev fun _=>p:=⟨0,fun _ _=>h⟩
theorem Ev.all {p:Nat->Prop} (h:∀ k,p k):Ev p:=⟨0,fun k _=>h k⟩
theorem Ev.and {p q:Nat->Prop} (h:Ev p) (g:Ev q):Ev fun k=>p k/\q k:=by
 obtain ⟨m,hm⟩:=h
 obtain ⟨n,hn⟩:=g
 exact ⟨max m n,fun k hk=>⟨hm k (by omega),hn k (by omega)⟩⟩
noncomputable def Lm {ρ:Type} (u:Nat->Option ρ):Option ρ :=
 @dite _ (∃ r,Ev fun k=>u k=some r) (Classical.propDecidable _) (fun h=>some (Classical.choose h)) (fun _=>none)
theorem M3 {ρ:Type} {u:Nat->Option ρ} {r:ρ} (h:Lm u=some r):Ev fun k=>u k=some r:=by
 unfold Lm at h
 split at h
 ·rename_i hx
  cases h
  exact Classical.choose_spec hx
 ·cases h
theorem Ou {ρ:Type} {u:Nat->Option ρ} {r:ρ} (h:Ev fun k=>u k=some r):Lm u=some r:=by
 have hx:∃ r,Ev fun k=>u k=some r:=⟨r,h⟩
 unfold Lm
 rw [dif_pos hx]
 obtain ⟨m,hm⟩:=(Classical.choose_spec hx).and h
 obtain ⟨a,b⟩:=hm m (Nat.le_refl _)
 rw [<- b,a]
def Conv {ρ:Type} (kn:Nat->St->Option ρ) (kl:St->Option ρ):Prop:=∀ s r,kl s=some r->Ev fun j=>kn j s=some r
theorem Conv.refl {ρ:Type} (kl:St->Option ρ):Conv (fun _=>kl) kl:=fun _ _ h=>.const h
def GM (cal:Nat->Bv) (c:Bv):Prop:=∀ f a b r,c f a b=some r->Ev fun j=>cal j f a b=some r
theorem GM.refl (c:Bv):GM (fun _=>c) c:=fun _ _ _ _ h=>.const h
abbrev Lp (ρ:Type):Type:=((St->Option ρ)->St->Option ρ)->St->Option ρ
def Ov {ρ:Type} (F:Nat->(St->Option ρ)->St->Option ρ) (FL:(St->Option ρ)->St->Option ρ):Prop :=
 ∀ (go:Nat->St->Option ρ) (gl:St->Option ρ),Conv go gl->Conv (fun j=>F j (go j)) (FL gl)
def Ow {ρ:Type} (lp:Nat->Lp ρ) (ll:Lp ρ):Prop:=∀ (F:Nat->(St->Option ρ)->St->Option ρ) (FL:(St->Option ρ)->St->Option ρ),Ov F FL->(∀ j,Ov (fun _=>F j) (F j))->Conv (fun j=>lp j (F j)) (ll FL)
noncomputable def DM {ρ:Type}:Lp ρ:=fun F s=>Lm fun n=>D2 n F s
theorem Ox {ρ:Type}:Ow (ρ:=ρ) D2 DM:=by
 intro F FL hF _ s r h
 have h:=M3 h
 obtain ⟨m,hm⟩:=h
 have key:∀ n,∀ g:Nat->Nat,(∀ j,n<=g j)->Conv (fun j=>D2 (g j) (F j)) (D2 n FL):=by
  intro n
  induction n with
  | zero=>intro g _ s r h; cases h
  | succ n ih =>
   intro g hg s r h
   refine (hF (fun j=>D2 (g j-1) (F j)) (D2 n FL) (ih (fun j=>g j-1) fun j=>by have:=hg j; omega) s r h).mono fun j hj=>?_
   have e:g j=(g j-1)+1:=by have:=hg j; omega
   show D2 (g j) (F j) s=some r
   rw [e]
   exact hj
 obtain ⟨k,hk⟩:=key m (fun j=>max j m) (fun j=>by omega) s r (hm m (Nat.le_refl _))
 refine ⟨max k m,fun j hj=>?_⟩
 have:=hk j (by omega)
 simp only [show max j m=j by omega] at this
 exact this
theorem M4 {ρ:Type} (k:Nat):Ow (ρ:=ρ) (fun _=>D2 k) (D2 k):=by
 intro F FL hF _
 induction k with
 | zero=>intro s r h; cases h
 | succ k ih=>exact hF _ _ ih
theorem LL {ρ:Type} {F:(St->Option ρ)->St->Option ρ} (hF:Ov (fun _=>F) F) {s:St} {r:ρ} (h:F (DM F) s=some r):DM F s=some r:=by
 obtain ⟨m,hm⟩:=hF (fun j=>D2 j F) (DM F) (fun s r h=>M3 h) s r h
 exact Ou ⟨m+1,fun k hk=>by
  cases k with
  | zero=>omega
  | succ k=>exact hm k (by omega)⟩
theorem M5 {ρ:Type}:Ow (ρ:=ρ) (fun _=>DM) DM:=by
 intro F FL hF hs s r h
 obtain ⟨m,hm⟩:=M3 h
 have key:∀ n,Conv (fun j=>DM (F j)) (D2 n FL):=by
  intro n
  induction n with
  | zero=>intro s r h; cases h
  | succ n ih=>intro s r h; exact (hF _ _ ih s r h).mono fun j hj=>LL (hs j) hj
 exact key m s r (hm m (Nat.le_refl _))
theorem Az {α β:Type} {x:Option α} {f:Nat->α->Option β} {g:α->Option β} (h:∀ a r,g a=some r->Ev fun j=>f j a=some r) (r:β) (hx:x.bind g=some r):Ev fun j=>x.bind (f j)=some r:=by
 cases x with
 | none=>cases hx
 | some a=>exact h a r hx
theorem LN {ρ:Type} {s:St} {v:AV} {K:Kd} {kn:Nat->List K.T->Option ρ} {kl:List K.T->Option ρ} (hk:∀ a r,kl a=some r->Ev fun j=>kn j a=some r) (r:ρ) (h:s.list v K kl=some r):Ev fun j=>s.list v K (kn j)=some r:=by
 unfold St.list at h ⊢
 split at h
 ·exact hk _ _ h
 ·split at h
  ·rename_i e
   simp only [dif_pos e]
   exact hk _ _ h
  ·cases h
 ·split at h
  ·rename_i e0
   split at h
   ·rename_i e
    simp only [e0,dif_pos e]
    exact hk _ _ h
   ·cases h
  ·rename_i e0
   split at h
   ·rename_i e
    simp only [e0,dif_pos e]
    exact hk _ _ h
   ·cases h
  ·rename_i e0
   split at h
   ·rename_i e
    simp only [e0,dif_pos e]
    exact hk _ _ h
   ·cases h
  ·cases h
 ·cases h
theorem OD {ρ:Type} {op:BinOp} {x y:AV} {kn:Nat->AV->Option ρ} {kl:AV->Option ρ} (hk:∀ a r,kl a=some r->Ev fun j=>kn j a=some r) (r:ρ) (h:J0 op x y kl=some r):Ev fun j=>J0 op x y (kn j)=some r:=by
 have e:∀ k:AV->Option ρ,J0 op x y k=(J0 op x y some).bind k:=by
  intro k
  unfold J0
  repeat' split
  all_goals rfl
 rw [e] at h
 simp only [e (kn _)]
 exact Az hk r h
theorem Oy {ρ:Type} {op:UnOp} {x:AV} {kn:Nat->AV->Option ρ} {kl:AV->Option ρ} (hk:∀ a r,kl a=some r->Ev fun j=>kn j a=some r) (r:ρ) (h:Nn op x kl=some r):Ev fun j=>Nn op x (kn j)=some r:=by
 unfold Nn at h ⊢
 split at h<;>first | exact hk _ _ h | cases h
theorem M6 {α β:Type} {x:Nat->Option α} {xl:Option α} {f:Nat->α->Option β} {g:α->Option β} (hx:∀ a,xl=some a->Ev fun j=>x j=some a) (h:∀ a r,g a=some r->Ev fun j=>f j a=some r) (r:β) (hr:xl.bind g=some r):Ev fun j=>(x j).bind (f j)=some r:=by
 cases xl with
 | none=>cases hr
 | some a=>exact ((hx a rfl).and (h a r hr)).mono fun j hj=>by rw [hj.1]; exact hj.2
theorem QK {ρ:Type} {cal:Nat->Bv} {c:Bv} {d z:Nat} {x:Av} {lo hi:Option Av} {kn:Nat->St->Option ρ} {kl:St->Option ρ} (hk:Conv kn kl) (s:St) (r:ρ) (h:BZ c kl s (.sl d z x lo hi)=some r):Ev fun j=>BZ (cal j) (kn j) s (.sl d z x lo hi)=some r:=by
 simp only [BZ] at h ⊢
 split at h
 ·split at h
  ·rename_i ez
   split at h
   ·split at h
    ·rename_i g1
     split at h
     ·rename_i g2
      split at h
      ·rename_i g3
       simp only [if_pos ez,if_pos g1,if_pos g2,if_pos g3]
       exact hk _ _ h
      ·cases h
     ·cases h
    ·cases h
   ·cases h
  ·cases h
 ·split at h
  ·rename_i ez
   split at h
   ·split at h
    ·rename_i g1
     split at h
     ·rename_i g2
      split at h
      ·rename_i g3
       simp only [if_pos ez,if_pos g1,if_pos g2,if_pos g3]
       exact hk _ _ h
      ·cases h
     ·cases h
    ·cases h
   ·cases h
  ·cases h
 ·cases h
mutual
theorem LO {ρ:Type} {cal:Nat->Bv} {c:Bv} (hc:GM cal c):∀ (ao:Bp) {kn:Nat->St->Option ρ} {kl:St->Option ρ},Conv kn kl->∀ s r,BZ c kl s ao=some r->Ev fun j=>BZ (cal j) (kn j) s ao=some r
 | .mv d x,kn,kl,hk,s,r,h=>hk _ _ h
 | .nilrow d t K,kn,kl,hk,s,r,h=>hk _ _ h
 | .pick d c a b,kn,kl,hk,s,r,h=>by
  simp only [BZ] at h ⊢
  split at h
  ·split at h<;>rename_i e<;>simp only [e,if_true,if_false,Bool.false_eq_true]<;>exact hk _ _ h
  ·cases h
 | .sc c want ops d a b,kn,kl,hk,s,r,h=>by
  simp only [BZ] at h ⊢
  split at h
  ·split at h
   ·rename_i e
    simp only [e,if_true]
    exact MX hc ops (kn:=fun j s'=>kn j (s'.put d (if want then s'.opd a else s'.opd b))) (kl:=fun s'=>kl (s'.put d (if want then s'.opd a else s'.opd b))) (fun s r h=>hk _ _ h) s r h
   ·rename_i e
    simp only [if_neg e]
    exact hk _ _ h
  ·cases h
 | .alloc d cs,kn,kl,hk,s,r,h=>hk _ _ h
 | .box d x own,kn,kl,hk,s,r,h=>by
  simp only [BZ] at h ⊢
  exact Az (fun a r h=>hk _ _ h) r h
 | .build d zero parts,kn,kl,hk,s,r,h=>by
  simp only [BZ] at h ⊢
  exact Az (fun a r h=>hk _ _ h) r h
 | .bnew d zero parts,kn,kl,hk,s,r,h=>by
  simp only [BZ] at h ⊢
  exact Az (fun a r h=>hk _ _ h) r h
 | .brow d t K parts,kn,kl,hk,s,r,h=>by
  simp only [BZ] at h ⊢
  exact Az (fun a r h=>Az (fun a r h=>hk _ _ h) r h) r h
 | .blst d K parts,kn,kl,hk,s,r,h=>by
  simp only [BZ] at h ⊢
  exact Az (fun a r h=>Az (fun a r h=>hk _ _ h) r h) r h
 | .load d x n,kn,kl,hk,s,r,h=>by
  simp only [BZ] at h ⊢
  refine Az (fun a r h=>?_) r h
  split at h
  ·rename_i e
   simp only [if_pos e]
   exact hk _ _ h
  ·cases h
 | .store x y m own,kn,kl,hk,s,r,h=>by
  simp only [BZ] at h ⊢
  split at h
  ·rename_i e
   simp only [if_pos e]
   exact Az (fun a r h=>hk _ _ h) r h
  ·cases h
 | .nilc d x,kn,kl,hk,s,r,h=>by
  simp only [BZ] at h ⊢
  split at h<;>first | exact hk _ _ h | cases h
 | .bin d op x y,kn,kl,hk,s,r,h=>by
  simp only [BZ] at h ⊢
  exact OD (fun a r h=>hk _ _ h) r h
 | .eqs d neg K x y,kn,kl,hk,s,r,h=>by
  simp only [BZ] at h ⊢
  exact Az (fun a r h=>Az (fun a r h=>hk _ _ h) r h) r h
 | .un d op x,kn,kl,hk,s,r,h=>by
  simp only [BZ] at h ⊢
  exact Oy (fun a r h=>hk _ _ h) r h
 | .cvi d k x,kn,kl,hk,s,r,h=>by
  simp only [BZ] at h ⊢
  split at h<;>first | exact hk _ _ h | cases h
 | .bts d x,kn,kl,hk,s,r,h=>by
  simp only [BZ] at h ⊢
  exact LN (fun a r h=>hk _ _ h) r h
 | .fld d x off,kn,kl,hk,s,r,h=>by
  simp only [BZ] at h ⊢
  split at h<;>first | exact hk _ _ h | cases h
 | .field d x off n,kn,kl,hk,s,r,h=>by
  simp only [BZ] at h ⊢
  split at h
  ·split at h
   ·rename_i e
    simp only [if_pos e]
    exact hk _ _ h
   ·cases h
  ·cases h
 | .idx d z x i,kn,kl,hk,s,r,h=>by
  have e:∀ k:St->Option ρ,BZ (cal 0) k s (.idx d z x i)=(BZ (cal 0) some s (.idx d z x i)).bind k:=by
   intro k
   simp only [BZ]
   repeat' split
   all_goals rfl
  have e2:∀ k:St->Option ρ,∀ c:Bv,BZ c k s (.idx d z x i)=BZ (cal 0) k s (.idx d z x i):=fun k c=>by simp only [BZ]
  rw [e2,e] at h
  simp only [e2 (kn _),e (kn _)]
  exact Az (fun a r h=>hk _ _ h) r h
 | .aidx d n x i,kn,kl,hk,s,r,h=>by
  simp only [BZ] at h ⊢
  split at h
  ·refine Az (fun xs r h=>?_) r h
   split at h
   ·rename_i e1
    split at h
    ·rename_i e2
     split at h
     ·rename_i e3
      simp only [if_pos e1,if_pos e2,if_pos e3]
      exact hk _ _ h
     ·cases h
    ·cases h
   ·cases h
  ·cases h
 | .sidx d x i,kn,kl,hk,s,r,h=>by
  have e:∀ k:St->Option ρ,BZ (cal 0) k s (.sidx d x i)=(BZ (cal 0) some s (.sidx d x i)).bind k:=by
   intro k
   simp only [BZ]
   repeat' split
   all_goals rfl
  have e2:∀ k:St->Option ρ,∀ c:Bv,BZ c k s (.sidx d x i)=BZ (cal 0) k s (.sidx d x i):=fun k c=>by simp only [BZ]
  rw [e2,e] at h
  simp only [e2 (kn _),e (kn _)]
  exact Az (fun a r h=>hk _ _ h) r h
 | .sl d z x lo hi,kn,kl,hk,s,r,h=>QK hk s r h
 | .mk d t K n,kn,kl,hk,s,r,h=>by
  have e:∀ k:St->Option ρ,BZ (cal 0) k s (.mk d t K n)=(BZ (cal 0) some s (.mk d t K n)).bind k:=by
   intro k
   simp only [BZ]
   repeat' split
   all_goals rfl
  have e2:∀ k:St->Option ρ,∀ c:Bv,BZ c k s (.mk d t K n)=BZ (cal 0) k s (.mk d t K n):=fun k c=>by simp only [BZ]
  rw [e2,e] at h
  simp only [e2 (kn _),e (kn _)]
  exact Az (fun a r h=>hk _ _ h) r h
 | .fn d f caps,kn,kl,hk,s,r,h=>hk _ _ h
 | .clo d f K x,kn,kl,hk,s,r,h=>by
  simp only [BZ] at h ⊢
  split at h
  ·exact Az (fun a r h=>hk _ _ h) r h
  ·cases h
 | .fbox d x,kn,kl,hk,s,r,h=>by
  simp only [BZ] at h ⊢
  exact Az (fun a r h=>hk _ _ h) r h
 | .min d x y,kn,kl,hk,s,r,h=>by
  simp only [BZ] at h ⊢
  split at h
  ·split at h
   ·rename_i e
    simp only [if_pos e]
    exact hk _ _ h
   ·cases h
  ·cases h
 | .app d e K a b,kn,kl,hk,s,r,h=>by
  simp only [BZ] at h ⊢
  split at h
  ·split at h
   ·rename_i e1
    split at h
    ·rename_i e2
     split at h
     ·rename_i e3
      simp only [e1,dif_pos e2,if_pos e3]
      refine LN (fun a r h=>?_) r h
      split at h
      ·rename_i e4
       simp only [if_pos e4]
       exact hk _ _ h
      ·cases h
     ·cases h
    ·cases h
   ·cases h
  ·cases h
 | .apz d e K a b,kn,kl,hk,s,r,h=>by
  simp only [BZ] at h ⊢
  split at h
  ·split at h
   ·rename_i e1
    split at h
    ·rename_i e2
     split at h
     ·rename_i e3
      simp only [e1,dif_pos e2,if_pos e3]
      refine LN (fun a r h=>?_) r h
      split at h
      ·rename_i e4
       simp only [if_pos e4]
       exact hk _ _ h
      ·cases h
     ·cases h
    ·cases h
   ·cases h
  ·cases h
 | .len d t x,kn,kl,hk,s,r,h=>by
  have e:∀ k:St->Option ρ,BZ (cal 0) k s (.len d t x)=(BZ (cal 0) some s (.len d t x)).bind k:=by
   intro k
   simp only [BZ]
   repeat' split
   all_goals rfl
  have e2:∀ k:St->Option ρ,∀ c:Bv,BZ c k s (.len d t x)=BZ (cal 0) k s (.len d t x):=fun k c=>by simp only [BZ]
  rw [e2,e] at h
  simp only [e2 (kn _),e (kn _)]
  exact Az (fun a r h=>hk _ _ h) r h
 | .call d f args res,kn,kl,hk,s,r,h=>by
  simp only [BZ] at h ⊢
  refine Az (fun q r h=>Az (fun bx r h=>?_) r h) r h
  split at h
  ·rename_i e
   simp only [if_pos e]
   refine M6 (fun a ha=>?_) (fun y r h=>?_) r h
   ·exact M6 (f:=fun _=>Bo _) (g:=Bo _) (fun a ha=>hc _ _ _ _ ha) (fun y r h=>.const h) a ha
   ·split at h
    ·rename_i e
     simp only [if_pos e]
     exact hk _ _ h
    ·cases h
  ·cases h
 | .bld d k f t x y,kn,kl,hk,s,r,h=>by
  simp only [BZ] at h ⊢
  split at h
  ·rename_i id e1
   split at h
   ·rename_i T j e2
    split at h
    ·rename_i t' xs e3
     split at h
     ·rename_i e4
      cases e5:c (BS+f) [.int .i64 k,.int .i64 t,.int .i64 T] [] with
      | none=>rw [e5] at h; cases h
      | some q =>
       have hq:=hc _ _ _ _ e5
       rw [e5,J] at h
       cases e8:Bo [] q with
       | none=>rw [e8] at h; cases h
       | some u =>
        rw [e8,J] at h
        split at h
        ·rename_i e6
         split at h
         ·rename_i e7
          refine (hq.and (hk _ _ h)).mono fun j hj=>?_
          simp only [e2,e3,if_pos e4,hj.1,J,e8,if_pos e6,if_pos e7]
          exact hj.2
         ·cases h
        ·rename_i e6
         cases ha:O6 k (s.opd y) with
         | none=>rw [ha] at h; cases h
         | some ys =>
          rw [ha,J] at h
          split at h
          ·rename_i e7
           refine (hq.and (hk _ _ h)).mono fun j hj=>?_
           simp only [e2,e3,if_pos e4,hj.1,J,e8,if_neg e6,ha,if_pos e7]
           exact hj.2
          ·cases h
     ·cases h
    ·cases h
   ·cases h
  ·cases h
 | .ext d x i,kn,kl,hk,s,r,h=>by
  simp only [BZ] at h ⊢
  split at h
  ·split at h
   ·rename_i e
    simp only [if_pos e]
    exact hk _ _ h
   ·cases h
  ·cases h
theorem MX {ρ:Type} {cal:Nat->Bv} {c:Bv} (hc:GM cal c):∀ (aos:List Bp) {kn:Nat->St->Option ρ} {kl:St->Option ρ},Conv kn kl->∀ s r,JQ c kl s aos=some r->Ev fun j=>JQ (cal j) (kn j) s aos=some r
 | [],kn,kl,hk,s,r,h=>by simp only [JQ] at h ⊢; exact hk _ _ h
 | o::os,kn,kl,hk,s,r,h=>by
  simp only [JQ] at h ⊢
  exact LO hc o (fun s r h=>MX hc os hk s r h) s r h
end
theorem Gv {ρ:Type} {cal:Nat->Bv} {c:Bv} (hc:GM cal c) (anc:List (List Nat)) {kn:Nat->St->Option ρ} {kl:St->Option ρ} (hk:Conv kn kl):∀ (t:DT) (T:List (Nat×Nat)) s r,dK c anc kl t T s=some r->Ev fun j=>dK (cal j) anc (kn j) t T s=some r
 | .done,T,s,r,h=>hk _ _ h
 | .take i g ao d,T,s,r,h=>by
  simp only [dK] at h ⊢
  split at h
  ·rename_i e
   simp only [if_pos e]
   exact LO hc ao (fun s r h=>Gv hc anc hk d _ s r h) s r h
  ·cases h
 | .skip i g d t,T,s,r,h=>by
  simp only [dK] at h ⊢
  split at h
  ·rename_i e
   simp only [if_pos e]
   exact Gv hc anc hk t _ _ r h
  ·cases h
 | .only i g ao e fl d,T,s,r,h=>by
  simp only [dK] at h ⊢
  split at h
  ·rename_i e
   simp only [if_pos e]
   exact LO hc ao (fun s r h=>Gv hc anc hk d _ s r h) s r h
  ·cases h
 | .test c a b,T,s,r,h=>by
  simp only [dK] at h ⊢
  split at h
  ·split at h
   ·rename_i e
    simp only [if_pos e]
    exact Gv hc anc hk a _ _ r h
   ·rename_i e
    simp only [if_neg e]
    exact Gv hc anc hk b _ _ r h
  ·cases h
 | .fork i ai ri j aj rj,T,s,r,h=>by
  simp only [dK] at h ⊢
  obtain ⟨ha,hb⟩:=JR.1 h
  have ea:Ev fun n=>(if (CV ai.dsts T&&F9 (anc.getD i []) (ai.touch s) s T)=true then BZ (cal n) (fun s'=>dK (cal n) anc (kn n) ri (CC (anc.getD i []) T) s') s ai else none)=some r:=by
   split at ha
   ·rename_i e
    simp only [if_pos e]
    exact LO hc ai (fun s r h=>Gv hc anc hk ri _ s r h) s r ha
   ·cases ha
  have eb:Ev fun n=>(if (CV aj.dsts T&&F9 (anc.getD j []) (aj.touch s) s T)=true then BZ (cal n) (fun s'=>dK (cal n) anc (kn n) rj (CC (anc.getD j []) T) s') s aj else none)=some r:=by
   split at hb
   ·rename_i e
    simp only [if_pos e]
    exact LO hc aj (fun s r h=>Gv hc anc hk rj _ s r h) s r hb
   ·cases hb
  exact (ea.and eb).mono fun n h=>JR.2 h
noncomputable def B_ {ρ:Type} (cal:Bv) (lp:Lp ρ):AU->(kn kr:St->Option ρ)->(ke:Nat->St->Option ρ)->St->Option ρ
 | .skip,kn,_,_,s=>kn s
 | .region ops live,kn,_,_,s=>JQ cal (fun s'=>kn ⟨live.map fun t=>(t,Bl s'.fr t),s'.st⟩) s ops
 | .draw anc t live,kn,_,_,s=>dK cal anc (fun s'=>kn ⟨live.map fun t=>(t,Bl s'.fr t),s'.st⟩) t [] s
 | .seqc live a b,kn,kr,ke,s=>B_ cal lp a (fun s'=>B_ cal lp b kn kr ke (s'.cutH (BP s live) live s.st.length)) kr ke s
 | .seq a b,kn,kr,ke,s=>B_ cal lp a (fun s'=>B_ cal lp b kn kr ke s') kr ke s
 | .cond c a b,kn,kr,ke,s=>match s.opd c with
  | .bool t=>if t=true then B_ cal lp a kn kr ke s else B_ cal lp b kn kr ke s
  | _=>none
 | .block id live body,kn,kr,ke,s=>B_ cal lp body (fun s'=>kn (s'.cutH (BP s live) live s.st.length)) kr (fun i s'=>if i=id then kn (s'.cutH (BP s live) live s.st.length) else ke i s') s
 | .loop live body,_,kr,ke,s=>lp (fun go s'=>B_ cal lp body (fun s''=>go (s''.cutH (BP s live) live s.st.length)) kr ke s') (s.cut live s.st.length)
 | .exit id,_,_,ke,s=>ke id s
 | .ret,_,kr,_,s=>kr s
theorem Eo {ρ:Type} (cal:Bv) (k:Nat):∀ (a:AU) (kn kr:St->Option ρ) (ke:Nat->St->Option ρ) (s:St),CA cal k a kn kr ke s=B_ cal (D2 k) a kn kr ke s
 | .skip,_,_,_,_=>rfl
 | .region ..,_,_,_,_=>rfl
 | .draw ..,_,_,_,_=>rfl
 | .seqc live a b,kn,kr,ke,s=>by simp only [CA,B_,Eo cal k a,Eo cal k b]
 | .seq a b,kn,kr,ke,s=>by simp only [CA,B_,Eo cal k a,Eo cal k b]
 | .cond c a b,kn,kr,ke,s=>by
  simp only [CA,B_,Eo cal k a,Eo cal k b]
  cases s.opd c<;>rfl
 | .block id live a,kn,kr,ke,s=>by simp only [CA,B_,Eo cal k a]
 | .loop live a,kn,kr,ke,s=>by simp only [CA,B_,Eo cal k a]
 | .exit _,_,_,_,_=>rfl
 | .ret,_,_,_,_=>rfl
theorem Ci {ρ:Type}:∀ (a:AU) {cal:Nat->Bv} {c:Bv} {lp:Nat->Lp ρ} {ll:Lp ρ} {kn kr:Nat->St->Option ρ} {kl krl:St->Option ρ} {ke:Nat->Nat->St->Option ρ} {kel:Nat->St->Option ρ},GM cal c->Ow lp ll->(∀ j,Ow (fun _=>lp j) (lp j)) ->
  Conv kn kl->Conv kr krl->(∀ i,Conv (fun j=>ke j i) (kel i))->Conv (fun j=>B_ (cal j) (lp j) a (kn j) (kr j) (ke j)) (B_ c ll a kl krl kel)
 | .skip,_,_,_,_,_,_,_,_,_,_,hc,hl,hl',hk,hr,he=>hk
 | .region ops live,_,_,_,_,_,_,_,_,_,_,hc,hl,hl',hk,hr,he=>fun s r h=>MX hc ops (fun s r h=>hk _ r h) s r h
 | .draw anc t live,_,_,_,_,_,_,_,_,_,_,hc,hl,hl',hk,hr,he=>fun s r h=>Gv hc anc (fun s r h=>hk _ r h) t [] s r h
 | .seqc live a b,_,_,_,_,_,_,_,_,_,_,hc,hl,hl',hk,hr,he=>fun s r h=>Ci a hc hl hl' (fun s' r h=>Ci b hc hl hl' hk hr he _ r h) hr he s r h
 | .seq a b,_,_,_,_,_,_,_,_,_,_,hc,hl,hl',hk,hr,he=>fun s r h=>Ci a hc hl hl' (fun s' r h=>Ci b hc hl hl' hk hr he _ r h) hr he s r h
 | .cond c a b,_,_,_,_,_,_,_,_,_,_,hc,hl,hl',hk,hr,he=>fun s r h=>by
  simp only [B_] at h ⊢
  split at h
  ·split at h
   ·rename_i e
    simp only [if_pos e]
    exact Ci a hc hl hl' hk hr he s r h
   ·rename_i e
    simp only [if_neg e]
    exact Ci b hc hl hl' hk hr he s r h
  ·cases h
 | .block id live a,_,_,_,_,_,_,_,_,_,_,hc,hl,hl',hk,hr,he=>fun s r h=>by
  simp only [B_] at h ⊢
  refine Ci a hc hl hl' (fun s r h=>hk _ r h) hr (fun i s' r h=>?_) s r h
  split at h
  ·rename_i e
   simp only [if_pos e]
   exact hk _ r h
  ·rename_i e
   simp only [if_neg e]
   exact he i _ r h
 | .loop live a,cal,c,lp,ll,kn,kr,kl,krl,ke,kel,hc,hl,hl',hk,hr,he=>fun s r h=>by
  simp only [B_] at h ⊢
  refine hl _ _ (fun go gl hgo s' r h=>?_) (fun j go gl hgo s' r h=>?_) _ r h
  ·exact Ci a hc hl hl' (fun s r h=>hgo _ r h) hr he s' r h
  ·exact Ci (cal:=fun _=>cal j) (lp:=fun _=>lp j) (kn:=fun i s'=>go i (s'.cutH (BP s live) live s.st.length)) (kl:=fun s'=>gl (s'.cutH (BP s live) live s.st.length)) (kr:=fun _=>kr j) (krl:=kr j) (ke:=fun _=>ke j) (kel:=ke j) a (GM.refl _) (hl' j) (fun _=>hl' j) (fun s r h=>hgo _ r h) (Conv.refl _) (fun i=>Conv.refl _) s' r h
 | .exit id,_,_,_,_,_,_,_,_,_,_,hc,hl,hl',hk,hr,he=>fun s r h=>he id s r h
 | .ret,_,_,_,_,_,_,_,_,_,_,hc,hl,hl',hk,hr,he=>hr
theorem OE {ρ:Type} {cal:Bv} {a:AU} {hs:List (Nat×Nat)} {live:List Nat} {n:Nat} {kr:St->Option ρ} {ke:Nat->St->Option ρ} {s:St} {r:ρ}
  (h:B_ cal DM a (fun s''=>DM (fun go s'=>B_ cal DM a (fun s''=>go (s''.cutH hs live n)) kr ke s') (s''.cutH hs live n)) kr ke s=some r) :
  DM (fun go s'=>B_ cal DM a (fun s''=>go (s''.cutH hs live n)) kr ke s') s=some r :=
 LL (F:=fun go s'=>B_ cal DM a (fun s''=>go (s''.cutH hs live n)) kr ke s') (fun go gl hgo s' r h=>Ci (cal:=fun _=>cal) (lp:=fun _=>DM) (kn:=fun i s'=>go i (s'.cutH hs live n)) (kl:=fun s'=>gl (s'.cutH hs live n)) (kr:=fun _=>kr) (krl:=kr) (ke:=fun _=>ke) (kel:=ke) a (GM.refl _) M5 (fun _=>M5) (fun s r h=>hgo _ r h) (Conv.refl _) (fun i=>Conv.refl _) s' r h) h
noncomputable def Oz (cal:Bv) (fn:CQ) (args bs:List AV):Option (RT fn.outs) :=
 B_ cal DM fn.body (An fn) (An fn) (fun _ _=>none) ⟨Em 0 (BM (Bx bs) args),Ap bs args⟩
noncomputable def MY (HQ:Nat->Option CQ) (Bs:Bv):Bv:=fun f a b=>Lm fun k=>Id HQ Bs k f a b
theorem QR {HQ:Nat->Option CQ} {Bs:Bv} {f:Nat} {args bs r:List AV} (hf:HQ f=none) (h:Bs f args bs=some r):MY HQ Bs f args bs=some r:=by
 refine Ou ⟨1,fun k hk=>?_⟩
 cases k with
 | zero=>omega
 | succ k=>simp only [Id,hf,h]
theorem OF {HQ:Nat->Option CQ} {Bs:Bv} {f:Nat} {fn:CQ} {args bs:List AV} {r:RT fn.outs} (hf:HQ f=some fn) (hl:args.length=fn.params.length/\bs.length=(BU fn.params 0).length)
  (h:Oz (MY HQ Bs) fn args bs=some r):MY HQ Bs f args bs=some (BL fn.outs r):=by
 have hc:GM (fun k=>Id HQ Bs k) (MY HQ Bs):=fun f a b r h=>M3 h
 obtain ⟨m,hm⟩:=Ci (lp:=D2) (ll:=DM) fn.body (kn:=fun _=>An fn) (kr:=fun _=>An fn) (ke:=fun _ _ _=>none) hc Ox M4 (Conv.refl _) (Conv.refl _) (fun i=>Conv.refl _) _ r h
 refine Ou ⟨m+1,fun k hk=>?_⟩
 cases k with
 | zero=>omega
 | succ k =>
  simp only [Id,hf,if_pos hl]
  have:=hm k (by omega)
  simp only [<- Eo] at this
  unfold NS
  rw [this]
  rfl
theorem FQ:∀ (K:Kd) (x:K.T) (r:List AV),K.dec (K.enc x++r)=some (x,r)
 | .int k,x,r=>by simp [Kd.enc,Kd.dec]
 | .bool,x,r=>rfl
 | .str,x,r=>rfl
 | .slice e,x,r=>by simp [Kd.enc,Kd.dec]
 | .pair a b,x,r=>by simp [Kd.enc,Kd.dec,BO,FQ a,FQ b]
 | .own t e,x,r=>by simp [Kd.enc,Kd.dec]
 | .ref K,x,r=>by
  have:=FQ K x []
  rw [List.append_nil] at this
  simp [Kd.enc,Kd.dec,this]
 | .fun f,x,r=>by simp [Kd.enc,Kd.dec]
 | .clo f K,x,r=>by simp [Kd.enc,Kd.dec]
theorem LP (K:Kd) (x:K.T):K.of (K.av x)=some x:=by
 have h:K.ofCells (K.enc x)=some x:=by
  have:=FQ K x []
  rw [List.append_nil] at this
  simp [Kd.ofCells,this]
 unfold Kd.of
 cases K<;>exact h
theorem LQ:∀ (Ks:List Kd) (x:RT Ks),Bo Ks (BL Ks x)=some x
 | [],_=>rfl
 | [K],x=>LP K x
 | K::L::Ks,x=>by
  simp only [BL,Bo,LP,J]
  rw [LQ (L::Ks) x.2]
  rfl
theorem NP {HQ:Nat->Option CQ} {Bs:Bv} {f:Nat} {fn:CQ} {args bs:List AV} {r:RT fn.outs} (hf:HQ f=some fn) (hl:args.length=fn.params.length/\bs.length=(BU fn.params 0).length)
  (h:Oz (MY HQ Bs) fn args bs=some r):(MY HQ Bs f args bs).bind (Bo fn.outs)=some r:=by
 rw [OF hf hl h,J,LQ]
theorem O0 {P:Program} {HQ:Nat->Option CQ} {Bs:Bv} (ht:Or P HQ) (hp:Ch P Bs) {f:Nat} {args:List AV} (h:(MY HQ Bs f args []).bind (Bo [.bool])=some true) {W:World} {cargs:List Value}
  (ha:AE (VE (Hl W)) args cargs) (hlt:f<BS:=by decide):Calls P f cargs.toArray W fun e W'=>e=.returned (.bool true)/\RowKit.Below W.heap.size W W':=by
 cases hq:MY HQ Bs f args [] with
 | none=>rw [hq] at h; cases h
 | some v =>
  rw [hq,J] at h
  obtain ⟨m,hm⟩:=M3 hq
  have hm:=hm m (Nat.le_refl _)
  have e:v=[.bool true]:=by
   match v,h with
   | [a],h =>
    have h:Kd.of .bool a=some true:=h
    unfold Kd.of Kd.ofCells at h
    cases a<;>simp [AV.cells,Kd.dec,AV.fits] at h<;>first | rw [h] | skip
  subst e
  exact OC ht hp hm ha hlt
def Pm (f:Nat):List (Nat×CQ)->Option CQ
 | []=>none
 | (g,a)::r=>if g=f then some a else Pm f r
inductive Nm (P:Program):List (Nat×CQ)->Prop where
 | nil:Nm P []
 | cons {f:Nat} {a:CQ} {r:List (Nat×CQ)} (h:C2 P f a=true) (t:Nm P r):Nm P ((f,a)::r)
theorem OG {P:Program} {tab:List (Nat×CQ)} (h:Nm P tab):Or P fun f=>Pm f tab:=by
 intro f a hf
 induction h with
 | nil=>cases hf
 | cons h _ ih =>
  simp only [Pm] at hf
  split at hf
  ·rename_i e
   cases hf
   rw [<- e]
   exact h
  ·exact ih hf

theorem Bk {n:Int} (h:-9223372036854775808<=n/\n<=9223372036854775807):IntKind.i64.wrap n=n:=IntWalk.i64_in n h
theorem Dt {i:Nat} (h:i<9223372036854775807):IntKind.i64.wrap ((i:Int)+1)=((i+1:Nat):Int):=by
 rw [Bk (by omega)]
 omega
theorem QL {P:Nat->Prop} {n:Nat} (h0:P n) (h:∀ i,i<n->P (i+1)->P i):∀ i,i<=n->P i:=by
 intro i hi
 induction hk:n-i generalizing i with
 | zero =>
  have:i=n:=by omega
  subst this
  exact h0
 | succ k ih=>exact h i (by omega) (ih (i+1) (by omega) (by omega))
theorem Pn {α:Type} {xs:List α} {i:Nat} {d:α} (h:i<xs.length):xs.getD i d=xs[i]:=by
 simp [List.getD,h]
end Go.Proofs.Ytffahmnodgnohaa.Core

namespace Go.Proofs.Ytffahmnodgnohaa.Core
open Go IntKind
set_option maxRecDepth 100000
noncomputable section
abbrev Ae:Kd:=(.pair (.int .i64) (.pair (.int .i64) (.pair (.int .i64) (.pair (.int .i64) (.pair (.int .i64) .str)))))
abbrev X:Type:=Int×Int×Int×Int×Int×ByteArray
abbrev AO:Kd:=(.pair (.int .i64) (.pair (.int .i64) .str))
abbrev AD:Type:=Int×Int×ByteArray
abbrev BA:Kd:=(.pair (.int .i64) (.pair (.int .i64) (.pair .str (.pair (.slice Ae) (.pair .bool (.pair (.slice (.int .i64)) .bool))))))
abbrev AR:Type:=Int×Int×ByteArray×List X×Bool×List Int×Bool
abbrev Al:Kd:=(.pair (.own 94 AO) (.pair (.own 89 BA) (.pair (.own 183 Ae) (.own 9 .str))))
abbrev AS:Type:=List AD×List AR×List X×List ByteArray
abbrev Cs:Kd:=(.pair (.slice AO) (.pair (.slice BA) (.pair (.slice Ae) (.slice .str))))
def Iy:Nat×List PK×List Kd:=(37,[.val (.int .i64),.val (.int .i64)],[Al,.bool])
def FR:Nat×List PK×List Kd:=(38,[.val (.int .i64),.val (.int .i64)],[Al,.bool])
def Fy:Nat×List PK×List Kd:=(39,[.bor Cs,.bor Cs],[.bool])
def H5:Nat×List PK×List Kd:=(40,[.mut Al,.val (.int .i64)],[(.int .i64)])
def E4:Nat×List PK×List Kd:=(41,[.bor Cs,.val (.int .i64)],[(.int .i64)])
def Iz:Nat×List PK×List Kd:=(80,[.val (.int .i64),.val (.int .i64),.val (.int .i64)],[.bool])
def Gw:Nat×List PK×List Kd:=(82,[.val (.int .i64),.val (.int .i64),.val (.int .i64)],[.bool])
def Lj:Nat×List PK×List Kd:=(94,[.bor (.slice (.int .i64)),.bor (.slice (.int .i64))],[.bool])
def KN:Nat×List PK×List Kd:=(98,[.bor (.slice (.int .i64)),.val (.int .i64)],[(.int .i64)])
def KO:Nat×List PK×List Kd:=(100,[.bor (.slice AO),.bor (.slice AO)],[.bool])
def Lk:Nat×List PK×List Kd:=(101,[.bor (.slice BA),.bor (.slice BA)],[.bool])
def Gx:Nat×List PK×List Kd:=(102,[.bor (.slice Ae),.bor (.slice Ae)],[.bool])
def Jj:Nat×List PK×List Kd:=(103,[.bor (.slice .str),.bor (.slice .str)],[.bool])
def I0:Nat×List PK×List Kd:=(104,[.mut (.own 94 AO),.val (.int .i64)],[(.int .i64)])
def KP:Nat×List PK×List Kd:=(105,[.mut (.own 89 BA),.val (.int .i64)],[(.int .i64)])
def Jk:Nat×List PK×List Kd:=(106,[.mut (.own 183 Ae),.val (.int .i64)],[(.int .i64)])
def H6:Nat×List PK×List Kd:=(107,[.mut (.own 9 .str),.val (.int .i64)],[(.int .i64)])
def I1:Nat×List PK×List Kd:=(108,[.bor (.slice AO),.val (.int .i64)],[(.int .i64)])
def KQ:Nat×List PK×List Kd:=(109,[.bor (.slice BA),.val (.int .i64)],[(.int .i64)])
def Fz:Nat×List PK×List Kd:=(110,[.bor (.slice Ae),.val (.int .i64)],[(.int .i64)])
def H7:Nat×List PK×List Kd:=(111,[.bor (.slice .str),.val (.int .i64)],[(.int .i64)])
def A_:Nat×List PK×List Kd:=(141,[.val (.int .i64)],[.str])
def LR:Nat×List PK×List Kd:=(149,[.val AO,.val AO],[.bool])
def MZ:Nat×List PK×List Kd:=(150,[.bor BA,.bor BA],[.bool])
def Ll:Nat×List PK×List Kd:=(151,[.val Ae,.val Ae],[.bool])
def H8:Nat×List PK×List Kd:=(2000096,[.bor (.slice (.int .i64)),.val (.int .i64)],[(.int .i64)])
def HN:Nat×List PK×List Kd:=(2000106,[.bor (.slice Ae),.val (.int .i64)],[(.int .i64)])
abbrev RI { ρ:Type} (t W:Option ρ):Prop:=∀ { r},t=some r->W=some r
abbrev Q6 {A0 ρ:Type} (t W:A0->Option ρ):Prop:=∀ {a0 r},t a0=some r->W a0=some r
abbrev KR {A0 A1 ρ:Type} (t W:A0->A1->Option ρ):Prop:=∀ {a0 a1 r},t a0 a1=some r->W a0 a1=some r
abbrev Me {A0 A1 A2 ρ:Type} (t W:A0->A1->A2->Option ρ):Prop:=∀ {a0 a1 a2 r},t a0 a1 a2=some r->W a0 a1 a2=some r
abbrev Q7 {A0 A1 A2 A3 A4 ρ:Type} (t W:A0->A1->A2->A3->A4->Option ρ):Prop:=∀ {a0 a1 a2 a3 a4 r},t a0 a1 a2 a3 a4=some r->W a0 a1 a2 a3 a4=some r
abbrev Q2 {A0 A1 A2 A3 A4 A5 A6 ρ:Type} (t W:A0->A1->A2->A3->A4->A5->A6->Option ρ):Prop:=∀ {a0 a1 a2 a3 a4 a5 a6 r},t a0 a1 a2 a3 a4 a5 a6=some r->W a0 a1 a2 a3 a4 a5 a6=some r
abbrev Qf {A0 A1 A2 A3 A4 A5 A6 A7 A8 A9 ρ:Type} (t W:A0->A1->A2->A3->A4->A5->A6->A7->A8->A9->Option ρ):Prop:=∀ {a0 a1 a2 a3 a4 a5 a6 a7 a8 a9 r},t a0 a1 a2 a3 a4 a5 a6 a7 a8 a9=some r->W a0 a1 a2 a3 a4 a5 a6 a7 a8 a9=some r
abbrev Qw {A0 A1 A2 A3 A4 A5 A6 A7 A8 A9 A10 A11 ρ:Type} (t W:A0->A1->A2->A3->A4->A5->A6->A7->A8->A9->A10->A11->Option ρ):Prop:=∀ {a0 a1 a2 a3 a4 a5 a6 a7 a8 a9 a10 a11 r},t a0 a1 a2 a3 a4 a5 a6 a7 a8 a9 a10 a11=some r->W a0 a1 a2 a3 a4 a5 a6 a7 a8 a9 a10 a11=some r
abbrev Qx {A0 A1 A2 A3 A4 A5 A6 A7 A8 A9 A10 A11 A12 A13 ρ:Type} (t W:A0->A1->A2->A3->A4->A5->A6->A7->A8->A9->A10->A11->A12->A13->Option ρ):Prop:=∀ {a0 a1 a2 a3 a4 a5 a6 a7 a8 a9 a10 a11 a12 a13 r},t a0 a1 a2 a3 a4 a5 a6 a7 a8 a9 a10 a11 a12 a13=some r->W a0 a1 a2 a3 a4 a5 a6 a7 a8 a9 a10 a11 a12 a13=some r

def CY:AU:=(.seq (.region [.mv 10 (.i 1)] [7,9,10]) (.seq (.region [.ls 60 7 4,.m 61 10,.cl 62 [60,61] E4,.m 10 62] [9,10]) (.seq (.seq (.region [.m 63 10,.bin 64 .lss (.t 63) (.i 0)] [9,10,64]) (.cond (.t 64) (.seq (.region [.mv 4 (.c (.bool false))] [4]) .ret) .skip)) (.seq (.seq (.region [.m 65 10,.m 66 9,.b 67 .neq 65 66] [67]) (.cond (.t 67) (.seq (.region [.mv 4 (.c (.bool false))] [4]) .ret) .skip)) (.seq (.region [.mv 4 (.c (.bool true))] [4]) .ret)))))
def CZ:AU:=(.seq (.region [.mv 9 (.i 1)] [0,1,5,6,7,9]) (.seq (.region [.ls 34 7 4,.m 35 9,.cl 36 [34,35] H5,.m 9 36] [0,1,5,6,7,9]) (.seq (.region [.mv 10 (.i 1)] [0,1,5,6,7,9,10]) (.seq (.region [.ls 37 7 4,.m 38 10,.cl 39 [37,38] E4,.m 10 39] [0,1,5,6,7,9,10]) (.seq (.seq (.region [.m 40 10,.bin 41 .lss (.t 40) (.i 0)] [0,1,5,6,7,9,10,41]) (.cond (.t 41) (.seq (.region [.mv 4 (.c (.bool false))] [4]) .ret) .skip)) (.seq (.seq (.region [.m 42 10,.m 43 9,.b 44 .neq 42 43] [0,1,5,6,7,9,44]) (.cond (.t 44) (.seq (.region [.mv 4 (.c (.bool false))] [4]) .ret) .skip)) (.seq (.region [.m 46 0,.m 47 1,.cl 48 [46,47] FR,.m 45 48,.ext 49 (.t 45) 0,.ext 50 (.t 45) 1,.al 11 Al,.store (.t 11) (.t 49) 4 false,.m 12 50] [5,6,7,9,11,12]) (.seq (.seq (.region [.ls 51 11 4,.ls 52 5 4,.cl 53 [51,52] Fy,.un 54 .not (.t 53),.m 55 54,.sc 55 false [.m 56 12,.m 57 6,.eqs 58 true .bool (.t 56) (.t 57)] 59 (.c (.bool true)) (.t 58)] [7,9,59]) (.cond (.t 59) (.seq (.region [.mv 4 (.c (.bool false))] [4]) .ret) .skip)) CY))))))))
def AM:CQ:=⟨[.val (.int .i64),.val (.int .i64)],[⟨4,false,.bool⟩],(.seq (.region [.mv 4 (.c (.bool false))] [0,1]) (.seq (.region [.m 14 0,.m 15 1,.cl 16 [14,15] Iy,.m 13 16,.ext 17 (.t 13) 0,.ext 18 (.t 13) 1,.al 5 Al,.store (.t 5) (.t 17) 4 false,.m 6 18] [0,1,5,6]) (.seq (.region [.m 20 0,.m 21 1,.cl 22 [20,21] FR,.m 19 22,.ext 23 (.t 19) 0,.ext 24 (.t 19) 1,.al 7 Al,.store (.t 7) (.t 23) 4 false,.m 8 24] [0,1,5,6,7,8]) (.seq (.seq (.region [.ls 25 7 4,.ls 26 5 4,.cl 27 [25,26] Fy,.un 28 .not (.t 27),.m 29 28,.sc 29 false [.m 30 8,.m 31 6,.eqs 32 true .bool (.t 30) (.t 31)] 33 (.c (.bool true)) (.t 32)] [0,1,5,6,7,33]) (.cond (.t 33) (.seq (.region [.mv 4 (.c (.bool false))] [4]) .ret) .skip)) CZ))))⟩
theorem Fg:C2 Try.prog 7 AM=true:=by kernel_rfl
def EX:AU:=(.seq (.seq (.region [.m 20 7,.m 21 1,.b 22 .leq 20 21] [1,4,6,7,22]) (.cond (.t 22) .skip (.exit 0))) (.seq (.block 1 [1,4,6,7] (.region [.f 25 6 1,.l 26 25,.m 27 7,.bu 28 BA [(0,1,.t 27)],.blst 29 BA [.t 28],.app 30 89 BA (.t 26) (.t 29),.f 31 6 1,.store (.t 31) (.t 30) 1 false] [1,4,6,7])) (.region [.m 23 7,.bin 24 .add (.t 23) (.i 1),.m 7 24] [1,4,6,7])))
def EY:AU:=(.seq (.region [.ls 32 6 4,.store (.t 4) (.t 32) 4 false,.mv 5 (.c (.bool true))] [4,5]) .ret)
def EZ:AU:=(.seq (.region [.m 17 0,.mk 18 94 AO (.t 17),.build 19 [.nil,.nil,.nil,.nil] [(0,1,.t 18)],.al 6 Al,.store (.t 6) (.t 19) 4 false] [1,4,6]) (.seq (.seq (.region [.mv 7 (.i 1)] [1,4,6,7]) (.block 0 [4,6] (.loop [1,4,6,7] EX))) EY))
def Ag:CQ:=⟨[.val (.int .i64),.val (.int .i64)],[⟨4,true,Al⟩,⟨5,false,.bool⟩],(.seq (.region [.al 4 Al,.mv 5 (.c (.bool false))] [0,1,4]) (.seq (.seq (.region [.m 8 0,.cx (some 9) [.t 8,.c (.int .i64 1),.c (.int .i64 5)] Iz,.un 10 .not (.t 9),.m 11 10,.sc 11 false [.m 12 1,.cx (some 13) [.t 12,.c (.int .i64 1),.c (.int .i64 4)] Iz,.un 14 .not (.t 13)] 15 (.c (.bool true)) (.t 14)] [0,1,4,15]) (.cond (.t 15) (.seq (.region [.build 16 [.nil,.nil,.nil,.nil] [],.store (.t 4) (.t 16) 4 false,.mv 5 (.c (.bool false))] [4,5]) .ret) .skip)) EZ))⟩
theorem I2:C2 Try.prog 37 Ag=true:=by kernel_rfl
def Ea:AU:=(.seq (.region [.b 22 .lss 21 20] [4,6,20,21,22]) (.seq (.cond (.t 22) .skip (.exit 0)) (.seq (.block 1 [4,6,20,21] (.seq (.region [.m 23 21,.m 7 23] [4,6,7,20,21]) (.region [.f 24 6 1,.l 25 24,.m 26 7,.bin 27 .add (.t 26) (.i 1),.bu 28 BA [(0,1,.t 27)],.blst 29 BA [.t 28],.app 30 89 BA (.t 25) (.t 29),.f 31 6 1,.store (.t 31) (.t 30) 1 false] [4,6,20,21]))) (.region [.bin 32 .add (.t 21) (.i 1),.m 21 32] [4,6,20,21]))))
def Eb:AU:=(.seq (.region [.ls 33 6 4,.store (.t 4) (.t 33) 4 false,.mv 5 (.c (.bool true))] [4,5]) .ret)
def Ec:AU:=(.seq (.region [.m 17 0,.mk 18 94 AO (.t 17),.build 19 [.nil,.nil,.nil,.nil] [(0,1,.t 18)],.al 6 Al,.store (.t 6) (.t 19) 4 false] [1,4,6]) (.seq (.seq (.region [.m 20 1,.mv 21 (.i 0)] [4,6,20,21]) (.block 0 [4,6] (.loop [4,6,20,21] Ea))) Eb))
def Ah:CQ:=⟨[.val (.int .i64),.val (.int .i64)],[⟨4,true,Al⟩,⟨5,false,.bool⟩],(.seq (.region [.al 4 Al,.mv 5 (.c (.bool false))] [0,1,4]) (.seq (.seq (.region [.m 8 0,.cx (some 9) [.t 8,.c (.int .i64 1),.c (.int .i64 5)] Gw,.un 10 .not (.t 9),.m 11 10,.sc 11 false [.m 12 1,.cx (some 13) [.t 12,.c (.int .i64 1),.c (.int .i64 4)] Gw,.un 14 .not (.t 13)] 15 (.c (.bool true)) (.t 14)] [0,1,4,15]) (.cond (.t 15) (.seq (.region [.build 16 [.nil,.nil,.nil,.nil] [],.store (.t 4) (.t 16) 4 false,.mv 5 (.c (.bool false))] [4,5]) .ret) .skip)) Ec))⟩
theorem I3:C2 Try.prog 38 Ah=true:=by kernel_rfl
def Ct:CQ:=⟨[.val Cs,.val Cs],[⟨4,false,.bool⟩],(.seq (.region [.box 2 (.t 0) false,.box 3 (.t 1) false,.mv 4 (.c (.bool false))] [2,3]) (.seq (.seq (.region [.f 5 2 0,.l 6 5,.f 7 3 0,.l 8 7,.cl 9 [6,8] KO,.un 10 .not (.t 9)] [2,3,10]) (.cond (.t 10) (.seq (.region [.mv 4 (.c (.bool false))] [4]) .ret) .skip)) (.seq (.seq (.region [.f 11 2 1,.l 12 11,.f 13 3 1,.l 14 13,.cl 15 [12,14] Lk,.un 16 .not (.t 15)] [2,3,16]) (.cond (.t 16) (.seq (.region [.mv 4 (.c (.bool false))] [4]) .ret) .skip)) (.seq (.seq (.region [.f 17 2 2,.l 18 17,.f 19 3 2,.l 20 19,.cl 21 [18,20] Gx,.un 22 .not (.t 21)] [2,3,22]) (.cond (.t 22) (.seq (.region [.mv 4 (.c (.bool false))] [4]) .ret) .skip)) (.seq (.seq (.region [.f 23 2 3,.l 24 23,.f 25 3 3,.l 26 25,.cl 27 [24,26] Jj,.un 28 .not (.t 27)] [28]) (.cond (.t 28) (.seq (.region [.mv 4 (.c (.bool false))] [4]) .ret) .skip)) (.seq (.region [.mv 4 (.c (.bool true))] [4]) .ret))))))⟩
theorem Jl:C2 Try.prog 39 Ct=true:=by kernel_rfl
def CH:CQ:=⟨[.mut Al,.val (.int .i64)],[⟨4,false,(.int .i64)⟩],(.seq (.region [.box 2 (.t 0) true,.mv 4 (.i 0)] [1,2]) (.seq (.region [.f 5 2 0,.l 6 5,.m 7 1,.cl 8 [6,7] I0,.m 1 8] [1,2]) (.seq (.region [.f 9 2 1,.l 10 9,.m 11 1,.cl 12 [10,11] KP,.m 1 12] [1,2]) (.seq (.region [.f 13 2 2,.l 14 13,.m 15 1,.cl 16 [14,15] Jk,.m 1 16] [1,2]) (.seq (.region [.f 17 2 3,.l 18 17,.m 19 1,.cl 20 [18,19] H6,.m 1 20] [1]) (.seq (.region [.m 21 1,.m 4 21] [4]) .ret))))))⟩
theorem H9:C2 Try.prog 40 CH=true:=by kernel_rfl
def CI:CQ:=⟨[.val Cs,.val (.int .i64)],[⟨4,false,(.int .i64)⟩],(.seq (.region [.box 2 (.t 0) false,.mv 4 (.i 0)] [1,2]) (.seq (.region [.f 5 2 0,.l 6 5,.m 7 1,.cl 8 [6,7] I1,.m 1 8] [1,2]) (.seq (.seq (.region [.m 9 1,.bin 10 .lss (.t 9) (.i 0)] [1,2,10]) (.cond (.t 10) (.seq (.region [.mv 4 (.c (.int .i64 (-1)))] [4]) .ret) .skip)) (.seq (.region [.f 11 2 1,.l 12 11,.m 13 1,.cl 14 [12,13] KQ,.m 1 14] [1,2]) (.seq (.seq (.region [.m 15 1,.bin 16 .lss (.t 15) (.i 0)] [1,2,16]) (.cond (.t 16) (.seq (.region [.mv 4 (.c (.int .i64 (-1)))] [4]) .ret) .skip)) (.seq (.region [.f 17 2 2,.l 18 17,.m 19 1,.cl 20 [18,19] Fz,.m 1 20] [1,2]) (.seq (.seq (.region [.m 21 1,.bin 22 .lss (.t 21) (.i 0)] [1,2,22]) (.cond (.t 22) (.seq (.region [.mv 4 (.c (.int .i64 (-1)))] [4]) .ret) .skip)) (.seq (.region [.f 23 2 3,.l 24 23,.m 25 1,.cl 26 [24,25] H7,.m 1 26] [1]) (.seq (.seq (.region [.m 27 1,.bin 28 .lss (.t 27) (.i 0)] [1,28]) (.cond (.t 28) (.seq (.region [.mv 4 (.c (.int .i64 (-1)))] [4]) .ret) .skip)) (.seq (.region [.m 29 1,.m 4 29] [4]) .ret))))))))))⟩
theorem H_:C2 Try.prog 41 CI=true:=by kernel_rfl
def Ep:CQ:=⟨[.val (.int .i64),.val (.int .i64),.val (.int .i64)],[⟨6,false,.bool⟩],(.seq (.region [.mv 6 (.c (.bool false))] [0,1,2]) (.seq (.region [.m 7 0,.m 8 1,.b 9 .geq 7 8,.m 10 9,.sc 10 true [.m 11 0,.m 12 2,.b 13 .leq 11 12] 14 (.t 13) (.c (.bool false)),.m 6 14] [6]) .ret))⟩
theorem Ma:C2 Try.prog 80 Ep=true:=by kernel_rfl
def DZ:CQ:=⟨[.val (.int .i64),.val (.int .i64),.val (.int .i64)],[⟨6,false,.bool⟩],(.seq (.region [.mv 6 (.c (.bool false))] [0,1,2]) (.seq (.region [.m 7 0,.m 8 1,.b 9 .geq 7 8,.m 10 9,.sc 10 true [.m 11 0,.m 12 2,.b 13 .leq 11 12] 14 (.t 13) (.c (.bool false)),.m 6 14] [6]) .ret))⟩
theorem LT:C2 Try.prog 82 DZ=true:=by kernel_rfl
def GR:AU:=(.seq (.seq (.region [.m 11 5,.m 12 0,.len 13 false (.t 12),.b 14 .lss 11 13] [0,1,5,14]) (.cond (.t 14) .skip (.exit 0))) (.seq (.block 1 [0,1,5] (.seq (.draw (O8 9 [(1,[]),(2,[0,1]),(4,[]),(5,[]),(6,[4,5]),(8,[3,7])]) (.tk 9 [.b 25 .neq 20 24,.l 24 23,.idx 23 1 (.t 21) (.t 22),.m 22 5,.m 21 1,.l 20 19,.idx 19 1 (.t 17) (.t 18),.m 18 5,.m 17 0] .done) [0,1,5,25]) (.cond (.t 25) (.seq (.region [.mv 4 (.c (.bool false))] [4]) .ret) .skip))) (.region [.m 15 5,.bin 16 .add (.t 15) (.i 1),.m 5 16] [0,1,5])))
def GS:AU:=(.seq (.region [.mv 4 (.c (.bool true))] [4]) .ret)
def Bb:CQ:=⟨[.val (.slice (.int .i64)),.val (.slice (.int .i64))],[⟨4,false,.bool⟩],(.seq (.region [.mv 4 (.c (.bool false))] [0,1]) (.seq (.seq (.region [.m 6 0,.len 7 false (.t 6),.m 8 1,.len 9 false (.t 8),.b 10 .neq 7 9] [0,1,10]) (.cond (.t 10) (.seq (.region [.mv 4 (.c (.bool false))] [4]) .ret) .skip)) (.seq (.seq (.region [.mv 5 (.i 0)] [0,1,5]) (.block 0 [] (.loop [0,1,5] GR))) GS)))⟩
theorem Ln:C2 Try.prog 94 Bb=true:=by kernel_rfl
def FS:AU:=(.seq (.seq (.region [.m 6 5,.m 7 0,.len 8 false (.t 7),.b 9 .lss 6 8] [0,1,5,9]) (.cond (.t 9) .skip (.exit 0))) (.seq (.block 1 [0,1,5] (.seq (.seq (.region [.m 12 0,.m 13 5,.idx 14 1 (.t 12) (.t 13),.l 15 14,.m 16 1,.b 17 .neq 15 16] [0,1,5,17]) (.cond (.t 17) (.seq (.region [.mv 4 (.c (.int .i64 (-1)))] [4]) .ret) .skip)) (.region [.m 18 1,.bin 19 .add (.t 18) (.i 1),.m 1 19] [0,1,5]))) (.region [.m 10 5,.bin 11 .add (.t 10) (.i 1),.m 5 11] [0,1,5])))
def FT:AU:=(.seq (.region [.m 20 1,.m 4 20] [4]) .ret)
def BG:CQ:=⟨[.val (.slice (.int .i64)),.val (.int .i64)],[⟨4,false,(.int .i64)⟩],(.seq (.region [.mv 4 (.i 0)] [0,1]) (.seq (.seq (.region [.mv 5 (.i 0)] [0,1,5]) (.block 0 [1] (.loop [0,1,5] FS))) FT))⟩
theorem KS:C2 Try.prog 98 BG=true:=by kernel_rfl
def FU:AU:=(.seq (.seq (.region [.m 11 5,.m 12 0,.len 13 false (.t 12),.b 14 .lss 11 13] [0,1,5,14]) (.cond (.t 14) .skip (.exit 0))) (.seq (.block 1 [0,1,5] (.seq (.draw (O8 10 [(1,[]),(2,[0,1]),(4,[]),(5,[]),(6,[4,5]),(8,[3,7])]) (.tk 8 [.ls 24 23 3,.idx 23 3 (.t 21) (.t 22),.m 22 5,.m 21 1,.ls 20 19 3,.idx 19 3 (.t 17) (.t 18),.m 18 5,.m 17 0] (.only 8 none (.cl 25 [20,24] LR) false [] (.tk 10 [.un 26 .not (.t 25)] .done))) [0,1,5,26]) (.cond (.t 26) (.seq (.region [.mv 4 (.c (.bool false))] [4]) .ret) .skip))) (.region [.m 15 5,.bin 16 .add (.t 15) (.i 1),.m 5 16] [0,1,5])))
def FV:AU:=(.seq (.region [.mv 4 (.c (.bool true))] [4]) .ret)
def BH:CQ:=⟨[.val (.slice AO),.val (.slice AO)],[⟨4,false,.bool⟩],(.seq (.region [.mv 4 (.c (.bool false))] [0,1]) (.seq (.seq (.region [.m 6 0,.len 7 false (.t 6),.m 8 1,.len 9 false (.t 8),.b 10 .neq 7 9] [0,1,10]) (.cond (.t 10) (.seq (.region [.mv 4 (.c (.bool false))] [4]) .ret) .skip)) (.seq (.seq (.region [.mv 5 (.i 0)] [0,1,5]) (.block 0 [] (.loop [0,1,5] FU))) FV)))⟩
theorem KT:C2 Try.prog 100 BH=true:=by kernel_rfl
def GT:AU:=(.seq (.seq (.region [.m 11 5,.m 12 0,.len 13 false (.t 12),.b 14 .lss 11 13] [0,1,5,14]) (.cond (.t 14) .skip (.exit 0))) (.seq (.block 1 [0,1,5] (.seq (.draw (O8 10 [(1,[]),(2,[0,1]),(4,[]),(5,[]),(6,[4,5]),(8,[3,7])]) (.tk 8 [.ls 24 23 7,.idx 23 7 (.t 21) (.t 22),.m 22 5,.m 21 1,.ls 20 19 7,.idx 19 7 (.t 17) (.t 18),.m 18 5,.m 17 0] (.only 8 none (.cl 25 [20,24] MZ) false [] (.tk 10 [.un 26 .not (.t 25)] .done))) [0,1,5,26]) (.cond (.t 26) (.seq (.region [.mv 4 (.c (.bool false))] [4]) .ret) .skip))) (.region [.m 15 5,.bin 16 .add (.t 15) (.i 1),.m 5 16] [0,1,5])))
def GU:AU:=(.seq (.region [.mv 4 (.c (.bool true))] [4]) .ret)
def Bc:CQ:=⟨[.val (.slice BA),.val (.slice BA)],[⟨4,false,.bool⟩],(.seq (.region [.mv 4 (.c (.bool false))] [0,1]) (.seq (.seq (.region [.m 6 0,.len 7 false (.t 6),.m 8 1,.len 9 false (.t 8),.b 10 .neq 7 9] [0,1,10]) (.cond (.t 10) (.seq (.region [.mv 4 (.c (.bool false))] [4]) .ret) .skip)) (.seq (.seq (.region [.mv 5 (.i 0)] [0,1,5]) (.block 0 [] (.loop [0,1,5] GT))) GU)))⟩
theorem Lo:C2 Try.prog 101 Bc=true:=by kernel_rfl
def F0:AU:=(.seq (.seq (.region [.m 11 5,.m 12 0,.len 13 false (.t 12),.b 14 .lss 11 13] [0,1,5,14]) (.cond (.t 14) .skip (.exit 0))) (.seq (.block 1 [0,1,5] (.seq (.draw (O8 10 [(1,[]),(2,[0,1]),(4,[]),(5,[]),(6,[4,5]),(8,[3,7])]) (.tk 8 [.ls 24 23 6,.idx 23 6 (.t 21) (.t 22),.m 22 5,.m 21 1,.ls 20 19 6,.idx 19 6 (.t 17) (.t 18),.m 18 5,.m 17 0] (.only 8 none (.cl 25 [20,24] Ll) false [] (.tk 10 [.un 26 .not (.t 25)] .done))) [0,1,5,26]) (.cond (.t 26) (.seq (.region [.mv 4 (.c (.bool false))] [4]) .ret) .skip))) (.region [.m 15 5,.bin 16 .add (.t 15) (.i 1),.m 5 16] [0,1,5])))
def F3:AU:=(.seq (.region [.mv 4 (.c (.bool true))] [4]) .ret)
def BW:CQ:=⟨[.val (.slice Ae),.val (.slice Ae)],[⟨4,false,.bool⟩],(.seq (.region [.mv 4 (.c (.bool false))] [0,1]) (.seq (.seq (.region [.m 6 0,.len 7 false (.t 6),.m 8 1,.len 9 false (.t 8),.b 10 .neq 7 9] [0,1,10]) (.cond (.t 10) (.seq (.region [.mv 4 (.c (.bool false))] [4]) .ret) .skip)) (.seq (.seq (.region [.mv 5 (.i 0)] [0,1,5]) (.block 0 [] (.loop [0,1,5] F0))) F3)))⟩
theorem LU:C2 Try.prog 102 BW=true:=by kernel_rfl
def E5:AU:=(.seq (.seq (.region [.m 11 5,.m 12 0,.len 13 false (.t 12),.b 14 .lss 11 13] [0,1,5,14]) (.cond (.t 14) .skip (.exit 0))) (.seq (.block 1 [0,1,5] (.seq (.draw (O8 9 [(1,[]),(2,[0,1]),(4,[]),(5,[]),(6,[4,5]),(8,[3,7])]) (.tk 9 [.b 25 .neq 20 24,.l 24 23,.idx 23 1 (.t 21) (.t 22),.m 22 5,.m 21 1,.l 20 19,.idx 19 1 (.t 17) (.t 18),.m 18 5,.m 17 0] .done) [0,1,5,25]) (.cond (.t 25) (.seq (.region [.mv 4 (.c (.bool false))] [4]) .ret) .skip))) (.region [.m 15 5,.bin 16 .add (.t 15) (.i 1),.m 5 16] [0,1,5])))
def E6:AU:=(.seq (.region [.mv 4 (.c (.bool true))] [4]) .ret)
def BB:CQ:=⟨[.val (.slice .str),.val (.slice .str)],[⟨4,false,.bool⟩],(.seq (.region [.mv 4 (.c (.bool false))] [0,1]) (.seq (.seq (.region [.m 6 0,.len 7 false (.t 6),.m 8 1,.len 9 false (.t 8),.b 10 .neq 7 9] [0,1,10]) (.cond (.t 10) (.seq (.region [.mv 4 (.c (.bool false))] [4]) .ret) .skip)) (.seq (.seq (.region [.mv 5 (.i 0)] [0,1,5]) (.block 0 [] (.loop [0,1,5] E5))) E6)))⟩
theorem Jm:C2 Try.prog 103 BB=true:=by kernel_rfl
def Ed:AU:=(.seq (.seq (.region [.m 6 5,.m 7 0,.len 8 false (.t 7),.b 9 .lss 6 8] [0,1,5,9]) (.cond (.t 9) .skip (.exit 0))) (.seq (.block 1 [0,1,5] (.seq (.region [.m 12 0,.m 13 5,.m 14 1,.idx 15 3 (.t 12) (.t 13),.f 16 15 0,.store (.t 16) (.t 14) 1 false] [0,1,5]) (.seq (.region [.m 17 1,.bin 18 .add (.t 17) (.i 1),.m 1 18] [0,1,5]) (.seq (.region [.m 19 0,.m 20 5,.m 21 1,.idx 22 3 (.t 19) (.t 20),.f 23 22 1,.store (.t 23) (.t 21) 1 false] [0,1,5]) (.seq (.region [.m 24 1,.bin 25 .add (.t 24) (.i 1),.m 1 25] [0,1,5]) (.seq (.region [.m 26 0,.m 27 5,.m 28 1,.cl 29 [28] A_,.idx 30 3 (.t 26) (.t 27),.f 31 30 2,.store (.t 31) (.t 29) 1 false] [0,1,5]) (.region [.m 32 1,.bin 33 .add (.t 32) (.i 1),.m 1 33] [0,1,5]))))))) (.region [.m 10 5,.bin 11 .add (.t 10) (.i 1),.m 5 11] [0,1,5])))
def D7:AU:=(.seq (.region [.m 34 1,.m 4 34] [4]) .ret)
def Aw:CQ:=⟨[.mut (.own 94 AO),.val (.int .i64)],[⟨4,false,(.int .i64)⟩],(.seq (.region [.mv 4 (.i 0)] [0,1]) (.seq (.seq (.region [.mv 5 (.i 0)] [0,1,5]) (.block 0 [1] (.loop [0,1,5] Ed))) D7))⟩
theorem I4:C2 Try.prog 104 Aw=true:=by kernel_rfl
def E7:AU:=(.seq (.seq (.region [.m 6 5,.m 7 0,.len 8 false (.t 7),.b 9 .lss 6 8] [0,1,5,9]) (.cond (.t 9) .skip (.exit 0))) (.seq (.block 1 [0,1,5] (.seq (.region [.m 12 0,.m 13 5,.m 14 1,.idx 15 7 (.t 12) (.t 13),.f 16 15 0,.store (.t 16) (.t 14) 1 false] [0,1,5]) (.seq (.region [.m 17 1,.bin 18 .add (.t 17) (.i 1),.m 1 18] [0,1,5]) (.seq (.region [.m 19 0,.m 20 5,.m 21 1,.idx 22 7 (.t 19) (.t 20),.f 23 22 1,.store (.t 23) (.t 21) 1 false] [0,1,5]) (.seq (.region [.m 24 1,.bin 25 .add (.t 24) (.i 1),.m 1 25] [0,1,5]) (.seq (.region [.m 26 0,.m 27 5,.m 28 1,.cl 29 [28] A_,.idx 30 7 (.t 26) (.t 27),.f 31 30 2,.store (.t 31) (.t 29) 1 false] [0,1,5]) (.seq (.region [.m 32 1,.bin 33 .add (.t 32) (.i 1),.m 1 33] [0,1,5]) (.seq (.region [.m 34 0,.m 35 5,.idx 36 7 (.t 34) (.t 35),.f 37 36 3,.l 38 37,.m 39 1,.cl 40 [38,39] HN,.m 1 40] [0,1,5]) (.seq (.region [.m 41 0,.m 42 5,.m 43 1,.bin 44 .rem (.t 43) (.i 3),.bin 45 .eql (.t 44) (.i 0),.idx 46 7 (.t 41) (.t 42),.f 47 46 4,.store (.t 47) (.t 45) 1 false] [0,1,5]) (.seq (.region [.m 48 1,.bin 49 .add (.t 48) (.i 1),.m 1 49] [0,1,5]) (.seq (.region [.m 50 0,.m 51 5,.idx 52 7 (.t 50) (.t 51),.f 53 52 5,.l 54 53,.m 55 1,.cl 56 [54,55] H8,.m 1 56] [0,1,5]) (.seq (.region [.m 57 0,.m 58 5,.m 59 1,.bin 60 .rem (.t 59) (.i 3),.bin 61 .eql (.t 60) (.i 0),.idx 62 7 (.t 57) (.t 58),.f 63 62 6,.store (.t 63) (.t 61) 1 false] [0,1,5]) (.region [.m 64 1,.bin 65 .add (.t 64) (.i 1),.m 1 65] [0,1,5]))))))))))))) (.region [.m 10 5,.bin 11 .add (.t 10) (.i 1),.m 5 11] [0,1,5])))
def E8:AU:=(.seq (.region [.m 66 1,.m 4 66] [4]) .ret)
def BI:CQ:=⟨[.mut (.own 89 BA),.val (.int .i64)],[⟨4,false,(.int .i64)⟩],(.seq (.region [.mv 4 (.i 0)] [0,1]) (.seq (.seq (.region [.mv 5 (.i 0)] [0,1,5]) (.block 0 [1] (.loop [0,1,5] E7))) E8))⟩
theorem KU:C2 Try.prog 105 BI=true:=by kernel_rfl
def Ee:AU:=(.seq (.seq (.region [.m 6 5,.m 7 0,.len 8 false (.t 7),.b 9 .lss 6 8] [0,1,5,9]) (.cond (.t 9) .skip (.exit 0))) (.seq (.block 1 [0,1,5] (.seq (.region [.m 12 0,.m 13 5,.m 14 1,.idx 15 6 (.t 12) (.t 13),.f 16 15 0,.store (.t 16) (.t 14) 1 false] [0,1,5]) (.seq (.region [.m 17 1,.bin 18 .add (.t 17) (.i 1),.m 1 18] [0,1,5]) (.seq (.region [.m 19 0,.m 20 5,.m 21 1,.idx 22 6 (.t 19) (.t 20),.f 23 22 1,.store (.t 23) (.t 21) 1 false] [0,1,5]) (.seq (.region [.m 24 1,.bin 25 .add (.t 24) (.i 1),.m 1 25] [0,1,5]) (.seq (.region [.m 26 0,.m 27 5,.m 28 1,.idx 29 6 (.t 26) (.t 27),.f 30 29 2,.store (.t 30) (.t 28) 1 false] [0,1,5]) (.seq (.region [.m 31 1,.bin 32 .add (.t 31) (.i 1),.m 1 32] [0,1,5]) (.seq (.region [.m 33 0,.m 34 5,.m 35 1,.idx 36 6 (.t 33) (.t 34),.f 37 36 3,.store (.t 37) (.t 35) 1 false] [0,1,5]) (.seq (.region [.m 38 1,.bin 39 .add (.t 38) (.i 1),.m 1 39] [0,1,5]) (.seq (.region [.m 40 0,.m 41 5,.m 42 1,.idx 43 6 (.t 40) (.t 41),.f 44 43 4,.store (.t 44) (.t 42) 1 false] [0,1,5]) (.seq (.region [.m 45 1,.bin 46 .add (.t 45) (.i 1),.m 1 46] [0,1,5]) (.seq (.region [.m 47 0,.m 48 5,.m 49 1,.cl 50 [49] A_,.idx 51 6 (.t 47) (.t 48),.f 52 51 5,.store (.t 52) (.t 50) 1 false] [0,1,5]) (.region [.m 53 1,.bin 54 .add (.t 53) (.i 1),.m 1 54] [0,1,5]))))))))))))) (.region [.m 10 5,.bin 11 .add (.t 10) (.i 1),.m 5 11] [0,1,5])))
def Ef:AU:=(.seq (.region [.m 55 1,.m 4 55] [4]) .ret)
def BC:CQ:=⟨[.mut (.own 183 Ae),.val (.int .i64)],[⟨4,false,(.int .i64)⟩],(.seq (.region [.mv 4 (.i 0)] [0,1]) (.seq (.seq (.region [.mv 5 (.i 0)] [0,1,5]) (.block 0 [1] (.loop [0,1,5] Ee))) Ef))⟩
theorem Jn:C2 Try.prog 106 BC=true:=by kernel_rfl
def D8:AU:=(.seq (.seq (.region [.m 6 5,.m 7 0,.len 8 false (.t 7),.b 9 .lss 6 8] [0,1,5,9]) (.cond (.t 9) .skip (.exit 0))) (.seq (.block 1 [0,1,5] (.seq (.region [.m 12 0,.m 13 5,.m 14 1,.cl 15 [14] A_,.idx 16 1 (.t 12) (.t 13),.store (.t 16) (.t 15) 1 false] [0,1,5]) (.region [.m 17 1,.bin 18 .add (.t 17) (.i 1),.m 1 18] [0,1,5]))) (.region [.m 10 5,.bin 11 .add (.t 10) (.i 1),.m 5 11] [0,1,5])))
def D9:AU:=(.seq (.region [.m 19 1,.m 4 19] [4]) .ret)
def Aq:CQ:=⟨[.mut (.own 9 .str),.val (.int .i64)],[⟨4,false,(.int .i64)⟩],(.seq (.region [.mv 4 (.i 0)] [0,1]) (.seq (.seq (.region [.mv 5 (.i 0)] [0,1,5]) (.block 0 [1] (.loop [0,1,5] D8))) D9))⟩
theorem IA:C2 Try.prog 107 Aq=true:=by kernel_rfl
def D_:AU:=(.seq (.seq (.region [.m 6 5,.m 7 0,.len 8 false (.t 7),.b 9 .lss 6 8] [0,1,5,9]) (.cond (.t 9) .skip (.exit 0))) (.seq (.block 1 [0,1,5] (.seq (.seq (.region [.m 12 0,.m 13 5,.idx 14 3 (.t 12) (.t 13),.f 15 14 0,.l 16 15,.m 17 1,.b 18 .neq 16 17] [0,1,5,18]) (.cond (.t 18) (.seq (.region [.mv 4 (.c (.int .i64 (-1)))] [4]) .ret) .skip)) (.seq (.region [.m 19 1,.bin 20 .add (.t 19) (.i 1),.m 1 20] [0,1,5]) (.seq (.seq (.region [.m 21 0,.m 22 5,.idx 23 3 (.t 21) (.t 22),.f 24 23 1,.l 25 24,.m 26 1,.b 27 .neq 25 26] [0,1,5,27]) (.cond (.t 27) (.seq (.region [.mv 4 (.c (.int .i64 (-1)))] [4]) .ret) .skip)) (.seq (.region [.m 28 1,.bin 29 .add (.t 28) (.i 1),.m 1 29] [0,1,5]) (.seq (.seq (.draw (O8 8 [(1,[]),(2,[0,1]),(5,[]),(7,[4,6])]) (.tk 6 [.m 35 1,.l 34 33,.f 33 32 2,.idx 32 3 (.t 30) (.t 31),.m 31 5,.m 30 0] (.only 6 none (.cl 36 [35] A_) false [] (.tk 8 [.b 37 .neq 34 36] .done))) [0,1,5,37]) (.cond (.t 37) (.seq (.region [.mv 4 (.c (.int .i64 (-1)))] [4]) .ret) .skip)) (.region [.m 38 1,.bin 39 .add (.t 38) (.i 1),.m 1 39] [0,1,5]))))))) (.region [.m 10 5,.bin 11 .add (.t 10) (.i 1),.m 5 11] [0,1,5])))
def EA:AU:=(.seq (.region [.m 40 1,.m 4 40] [4]) .ret)
def Ax:CQ:=⟨[.val (.slice AO),.val (.int .i64)],[⟨4,false,(.int .i64)⟩],(.seq (.region [.mv 4 (.i 0)] [0,1]) (.seq (.seq (.region [.mv 5 (.i 0)] [0,1,5]) (.block 0 [1] (.loop [0,1,5] D_))) EA))⟩
theorem I5:C2 Try.prog 108 Ax=true:=by kernel_rfl
def E9:AU:=(.seq (.seq (.region [.m 6 5,.m 7 0,.len 8 false (.t 7),.b 9 .lss 6 8] [0,1,5,9]) (.cond (.t 9) .skip (.exit 0))) (.seq (.block 1 [0,1,5] (.seq (.seq (.region [.m 12 0,.m 13 5,.idx 14 7 (.t 12) (.t 13),.f 15 14 0,.l 16 15,.m 17 1,.b 18 .neq 16 17] [0,1,5,18]) (.cond (.t 18) (.seq (.region [.mv 4 (.c (.int .i64 (-1)))] [4]) .ret) .skip)) (.seq (.region [.m 19 1,.bin 20 .add (.t 19) (.i 1),.m 1 20] [0,1,5]) (.seq (.seq (.region [.m 21 0,.m 22 5,.idx 23 7 (.t 21) (.t 22),.f 24 23 1,.l 25 24,.m 26 1,.b 27 .neq 25 26] [0,1,5,27]) (.cond (.t 27) (.seq (.region [.mv 4 (.c (.int .i64 (-1)))] [4]) .ret) .skip)) (.seq (.region [.m 28 1,.bin 29 .add (.t 28) (.i 1),.m 1 29] [0,1,5]) (.seq (.seq (.draw (O8 8 [(1,[]),(2,[0,1]),(5,[]),(7,[4,6])]) (.tk 6 [.m 35 1,.l 34 33,.f 33 32 2,.idx 32 7 (.t 30) (.t 31),.m 31 5,.m 30 0] (.only 6 none (.cl 36 [35] A_) false [] (.tk 8 [.b 37 .neq 34 36] .done))) [0,1,5,37]) (.cond (.t 37) (.seq (.region [.mv 4 (.c (.int .i64 (-1)))] [4]) .ret) .skip)) (.seq (.region [.m 38 1,.bin 39 .add (.t 38) (.i 1),.m 1 39] [0,1,5]) (.seq (.region [.m 40 0,.m 41 5,.idx 42 7 (.t 40) (.t 41),.f 43 42 3,.l 44 43,.m 45 1,.cl 46 [44,45] Fz,.m 1 46] [0,1,5]) (.seq (.seq (.region [.m 47 1,.bin 48 .lss (.t 47) (.i 0)] [0,1,5,48]) (.cond (.t 48) (.seq (.region [.mv 4 (.c (.int .i64 (-1)))] [4]) .ret) .skip)) (.seq (.seq (.region [.m 49 0,.m 50 5,.idx 51 7 (.t 49) (.t 50),.f 52 51 4,.l 53 52,.m 54 1,.bin 55 .rem (.t 54) (.i 3),.bin 56 .eql (.t 55) (.i 0),.eqs 57 true .bool (.t 53) (.t 56)] [0,1,5,57]) (.cond (.t 57) (.seq (.region [.mv 4 (.c (.int .i64 (-1)))] [4]) .ret) .skip)) (.seq (.region [.m 58 1,.bin 59 .add (.t 58) (.i 1),.m 1 59] [0,1,5]) (.seq (.region [.m 60 0,.m 61 5,.idx 62 7 (.t 60) (.t 61),.f 63 62 5,.l 64 63,.m 65 1,.cl 66 [64,65] KN,.m 1 66] [0,1,5]) (.seq (.seq (.region [.m 67 1,.bin 68 .lss (.t 67) (.i 0)] [0,1,5,68]) (.cond (.t 68) (.seq (.region [.mv 4 (.c (.int .i64 (-1)))] [4]) .ret) .skip)) (.seq (.seq (.region [.m 69 0,.m 70 5,.idx 71 7 (.t 69) (.t 70),.f 72 71 6,.l 73 72,.m 74 1,.bin 75 .rem (.t 74) (.i 3),.bin 76 .eql (.t 75) (.i 0),.eqs 77 true .bool (.t 73) (.t 76)] [0,1,5,77]) (.cond (.t 77) (.seq (.region [.mv 4 (.c (.int .i64 (-1)))] [4]) .ret) .skip)) (.region [.m 78 1,.bin 79 .add (.t 78) (.i 1),.m 1 79] [0,1,5]))))))))))))))) (.region [.m 10 5,.bin 11 .add (.t 10) (.i 1),.m 5 11] [0,1,5])))
def E_:AU:=(.seq (.region [.m 80 1,.m 4 80] [4]) .ret)
def BJ:CQ:=⟨[.val (.slice BA),.val (.int .i64)],[⟨4,false,(.int .i64)⟩],(.seq (.region [.mv 4 (.i 0)] [0,1]) (.seq (.seq (.region [.mv 5 (.i 0)] [0,1,5]) (.block 0 [1] (.loop [0,1,5] E9))) E_))⟩
theorem KV:C2 Try.prog 109 BJ=true:=by kernel_rfl
def Eg:AU:=(.seq (.seq (.region [.m 6 5,.m 7 0,.len 8 false (.t 7),.b 9 .lss 6 8] [0,1,5,9]) (.cond (.t 9) .skip (.exit 0))) (.seq (.block 1 [0,1,5] (.seq (.seq (.region [.m 12 0,.m 13 5,.idx 14 6 (.t 12) (.t 13),.f 15 14 0,.l 16 15,.m 17 1,.b 18 .neq 16 17] [0,1,5,18]) (.cond (.t 18) (.seq (.region [.mv 4 (.c (.int .i64 (-1)))] [4]) .ret) .skip)) (.seq (.region [.m 19 1,.bin 20 .add (.t 19) (.i 1),.m 1 20] [0,1,5]) (.seq (.seq (.region [.m 21 0,.m 22 5,.idx 23 6 (.t 21) (.t 22),.f 24 23 1,.l 25 24,.m 26 1,.b 27 .neq 25 26] [0,1,5,27]) (.cond (.t 27) (.seq (.region [.mv 4 (.c (.int .i64 (-1)))] [4]) .ret) .skip)) (.seq (.region [.m 28 1,.bin 29 .add (.t 28) (.i 1),.m 1 29] [0,1,5]) (.seq (.seq (.region [.m 30 0,.m 31 5,.idx 32 6 (.t 30) (.t 31),.f 33 32 2,.l 34 33,.m 35 1,.b 36 .neq 34 35] [0,1,5,36]) (.cond (.t 36) (.seq (.region [.mv 4 (.c (.int .i64 (-1)))] [4]) .ret) .skip)) (.seq (.region [.m 37 1,.bin 38 .add (.t 37) (.i 1),.m 1 38] [0,1,5]) (.seq (.seq (.region [.m 39 0,.m 40 5,.idx 41 6 (.t 39) (.t 40),.f 42 41 3,.l 43 42,.m 44 1,.b 45 .neq 43 44] [0,1,5,45]) (.cond (.t 45) (.seq (.region [.mv 4 (.c (.int .i64 (-1)))] [4]) .ret) .skip)) (.seq (.region [.m 46 1,.bin 47 .add (.t 46) (.i 1),.m 1 47] [0,1,5]) (.seq (.seq (.region [.m 48 0,.m 49 5,.idx 50 6 (.t 48) (.t 49),.f 51 50 4,.l 52 51,.m 53 1,.b 54 .neq 52 53] [0,1,5,54]) (.cond (.t 54) (.seq (.region [.mv 4 (.c (.int .i64 (-1)))] [4]) .ret) .skip)) (.seq (.region [.m 55 1,.bin 56 .add (.t 55) (.i 1),.m 1 56] [0,1,5]) (.seq (.seq (.draw (O8 8 [(1,[]),(2,[0,1]),(5,[]),(7,[4,6])]) (.tk 6 [.m 62 1,.l 61 60,.f 60 59 5,.idx 59 6 (.t 57) (.t 58),.m 58 5,.m 57 0] (.only 6 none (.cl 63 [62] A_) false [] (.tk 8 [.b 64 .neq 61 63] .done))) [0,1,5,64]) (.cond (.t 64) (.seq (.region [.mv 4 (.c (.int .i64 (-1)))] [4]) .ret) .skip)) (.region [.m 65 1,.bin 66 .add (.t 65) (.i 1),.m 1 66] [0,1,5]))))))))))))) (.region [.m 10 5,.bin 11 .add (.t 10) (.i 1),.m 5 11] [0,1,5])))
def Eh:AU:=(.seq (.region [.m 67 1,.m 4 67] [4]) .ret)
def BD:CQ:=⟨[.val (.slice Ae),.val (.int .i64)],[⟨4,false,(.int .i64)⟩],(.seq (.region [.mv 4 (.i 0)] [0,1]) (.seq (.seq (.region [.mv 5 (.i 0)] [0,1,5]) (.block 0 [1] (.loop [0,1,5] Eg))) Eh))⟩
theorem Jo:C2 Try.prog 110 BD=true:=by kernel_rfl
def EB:AU:=(.seq (.seq (.region [.m 6 5,.m 7 0,.len 8 false (.t 7),.b 9 .lss 6 8] [0,1,5,9]) (.cond (.t 9) .skip (.exit 0))) (.seq (.block 1 [0,1,5] (.seq (.seq (.draw (O8 7 [(1,[]),(2,[0,1]),(4,[]),(6,[3,5])]) (.tk 5 [.m 16 1,.l 15 14,.idx 14 1 (.t 12) (.t 13),.m 13 5,.m 12 0] (.only 5 none (.cl 17 [16] A_) false [] (.tk 7 [.b 18 .neq 15 17] .done))) [0,1,5,18]) (.cond (.t 18) (.seq (.region [.mv 4 (.c (.int .i64 (-1)))] [4]) .ret) .skip)) (.region [.m 19 1,.bin 20 .add (.t 19) (.i 1),.m 1 20] [0,1,5]))) (.region [.m 10 5,.bin 11 .add (.t 10) (.i 1),.m 5 11] [0,1,5])))
def EC:AU:=(.seq (.region [.m 21 1,.m 4 21] [4]) .ret)
def Ar:CQ:=⟨[.val (.slice .str),.val (.int .i64)],[⟨4,false,(.int .i64)⟩],(.seq (.region [.mv 4 (.i 0)] [0,1]) (.seq (.seq (.region [.mv 5 (.i 0)] [0,1,5]) (.block 0 [1] (.loop [0,1,5] EB))) EC))⟩
theorem IB:C2 Try.prog 111 Ar=true:=by kernel_rfl
def FW:AU:=(.seq (.seq (.region [.m 6 0,.bin 7 .gtr (.t 6) (.i 0)] [0,3,7]) (.cond (.t 7) .skip (.exit 0))) (.block 1 [0,3] (.seq (.region [.m 8 0,.bin 9 .rem (.t 8) (.i 10),.bin 10 .add (.i 48) (.t 9),.cvi 11 .u8 (.t 10),.brow 12 5 (.int .u8) [.t 11],.bts 13 (.t 12),.m 14 3,.b 15 .add 13 14,.m 3 15] [0,3]) (.region [.m 16 0,.bin 17 .quo (.t 16) (.i 10),.m 0 17] [0,3]))))
def FX:AU:=(.seq (.region [.m 18 3,.bin 19 .add (.c (.str ⟨#[109]⟩)) (.t 18),.m 2 19] [2]) .ret)
def BK:CQ:=⟨[.val (.int .i64)],[⟨2,false,.str⟩],(.seq (.region [.mv 2 (.c (.str ⟨#[]⟩))] [0]) (.seq (.seq (.region [.m 4 0,.bin 5 .leq (.t 4) (.i 0)] [0,5]) (.cond (.t 5) (.seq (.region [.mv 2 (.c (.str ⟨#[109,48]⟩))] [2]) .ret) .skip)) (.seq (.region [.mv 3 (.c (.str ⟨#[]⟩))] [0,3]) (.seq (.block 0 [3] (.loop [0,3] FW)) FX))))⟩
theorem KW:C2 Try.prog 141 BK=true:=by kernel_rfl
def Da:CQ:=⟨[.val AO,.val AO],[⟨4,false,.bool⟩],(.seq (.region [.box 2 (.t 0) false,.box 3 (.t 1) false,.mv 4 (.c (.bool false))] [2,3]) (.seq (.seq (.region [.f 5 2 0,.l 6 5,.f 7 3 0,.l 8 7,.b 9 .neq 6 8] [2,3,9]) (.cond (.t 9) (.seq (.region [.mv 4 (.c (.bool false))] [4]) .ret) .skip)) (.seq (.seq (.region [.f 10 2 1,.l 11 10,.f 12 3 1,.l 13 12,.b 14 .neq 11 13] [2,3,14]) (.cond (.t 14) (.seq (.region [.mv 4 (.c (.bool false))] [4]) .ret) .skip)) (.seq (.seq (.region [.f 15 2 2,.l 16 15,.f 17 3 2,.l 18 17,.b 19 .neq 16 18] [19]) (.cond (.t 19) (.seq (.region [.mv 4 (.c (.bool false))] [4]) .ret) .skip)) (.seq (.region [.mv 4 (.c (.bool true))] [4]) .ret)))))⟩
theorem LV:C2 Try.prog 149 Da=true:=by kernel_rfl
def Eq:CQ:=⟨[.val BA,.val BA],[⟨4,false,.bool⟩],(.seq (.region [.box 2 (.t 0) false,.box 3 (.t 1) false,.mv 4 (.c (.bool false))] [2,3]) (.seq (.seq (.region [.f 5 2 0,.l 6 5,.f 7 3 0,.l 8 7,.b 9 .neq 6 8] [2,3,9]) (.cond (.t 9) (.seq (.region [.mv 4 (.c (.bool false))] [4]) .ret) .skip)) (.seq (.seq (.region [.f 10 2 1,.l 11 10,.f 12 3 1,.l 13 12,.b 14 .neq 11 13] [2,3,14]) (.cond (.t 14) (.seq (.region [.mv 4 (.c (.bool false))] [4]) .ret) .skip)) (.seq (.seq (.region [.f 15 2 2,.l 16 15,.f 17 3 2,.l 18 17,.b 19 .neq 16 18] [2,3,19]) (.cond (.t 19) (.seq (.region [.mv 4 (.c (.bool false))] [4]) .ret) .skip)) (.seq (.seq (.region [.f 20 2 3,.l 21 20,.f 22 3 3,.l 23 22,.cl 24 [21,23] Gx,.un 25 .not (.t 24)] [2,3,25]) (.cond (.t 25) (.seq (.region [.mv 4 (.c (.bool false))] [4]) .ret) .skip)) (.seq (.seq (.region [.f 26 2 4,.l 27 26,.f 28 3 4,.l 29 28,.eqs 30 true .bool (.t 27) (.t 29)] [2,3,30]) (.cond (.t 30) (.seq (.region [.mv 4 (.c (.bool false))] [4]) .ret) .skip)) (.seq (.seq (.region [.f 31 2 5,.l 32 31,.f 33 3 5,.l 34 33,.cl 35 [32,34] Lj,.un 36 .not (.t 35)] [2,3,36]) (.cond (.t 36) (.seq (.region [.mv 4 (.c (.bool false))] [4]) .ret) .skip)) (.seq (.seq (.region [.f 37 2 6,.l 38 37,.f 39 3 6,.l 40 39,.eqs 41 true .bool (.t 38) (.t 40)] [41]) (.cond (.t 41) (.seq (.region [.mv 4 (.c (.bool false))] [4]) .ret) .skip)) (.seq (.region [.mv 4 (.c (.bool true))] [4]) .ret)))))))))⟩
theorem Mb:C2 Try.prog 150 Eq=true:=by kernel_rfl
def Dz:CQ:=⟨[.val Ae,.val Ae],[⟨4,false,.bool⟩],(.seq (.region [.box 2 (.t 0) false,.box 3 (.t 1) false,.mv 4 (.c (.bool false))] [2,3]) (.seq (.seq (.region [.f 5 2 0,.l 6 5,.f 7 3 0,.l 8 7,.b 9 .neq 6 8] [2,3,9]) (.cond (.t 9) (.seq (.region [.mv 4 (.c (.bool false))] [4]) .ret) .skip)) (.seq (.seq (.region [.f 10 2 1,.l 11 10,.f 12 3 1,.l 13 12,.b 14 .neq 11 13] [2,3,14]) (.cond (.t 14) (.seq (.region [.mv 4 (.c (.bool false))] [4]) .ret) .skip)) (.seq (.seq (.region [.f 15 2 2,.l 16 15,.f 17 3 2,.l 18 17,.b 19 .neq 16 18] [2,3,19]) (.cond (.t 19) (.seq (.region [.mv 4 (.c (.bool false))] [4]) .ret) .skip)) (.seq (.seq (.region [.f 20 2 3,.l 21 20,.f 22 3 3,.l 23 22,.b 24 .neq 21 23] [2,3,24]) (.cond (.t 24) (.seq (.region [.mv 4 (.c (.bool false))] [4]) .ret) .skip)) (.seq (.seq (.region [.f 25 2 4,.l 26 25,.f 27 3 4,.l 28 27,.b 29 .neq 26 28] [2,3,29]) (.cond (.t 29) (.seq (.region [.mv 4 (.c (.bool false))] [4]) .ret) .skip)) (.seq (.seq (.region [.f 30 2 5,.l 31 30,.f 32 3 5,.l 33 32,.b 34 .neq 31 33] [34]) (.cond (.t 34) (.seq (.region [.mv 4 (.c (.bool false))] [4]) .ret) .skip)) (.seq (.region [.mv 4 (.c (.bool true))] [4]) .ret))))))))⟩
theorem Lq:C2 Try.prog 151 Dz=true:=by kernel_rfl
def ED:AU:=(.seq (.seq (.region [.m 6 5,.m 7 0,.len 8 false (.t 7),.b 9 .lss 6 8] [0,1,5,9]) (.cond (.t 9) .skip (.exit 0))) (.seq (.block 1 [0,1,5] (.seq (.region [.m 12 0,.m 13 5,.m 14 1,.idx 15 1 (.t 12) (.t 13),.store (.t 15) (.t 14) 1 false] [0,1,5]) (.region [.m 16 1,.bin 17 .add (.t 16) (.i 1),.m 1 17] [0,1,5]))) (.region [.m 10 5,.bin 11 .add (.t 10) (.i 1),.m 5 11] [0,1,5])))
def EE:AU:=(.seq (.region [.m 18 1,.m 4 18] [4]) .ret)
def As:CQ:=⟨[.val (.slice (.int .i64)),.val (.int .i64)],[⟨4,false,(.int .i64)⟩],(.seq (.region [.mv 4 (.i 0)] [0,1]) (.seq (.seq (.region [.mv 5 (.i 0)] [0,1,5]) (.block 0 [1] (.loop [0,1,5] ED))) EE))⟩
theorem IC:C2 Try.prog 2000096 As=true:=by kernel_rfl
def Db:AU:=(.seq (.seq (.region [.m 6 5,.m 7 0,.len 8 false (.t 7),.b 9 .lss 6 8] [0,1,5,9]) (.cond (.t 9) .skip (.exit 0))) (.seq (.block 1 [0,1,5] (.seq (.region [.m 12 0,.m 13 5,.m 14 1,.idx 15 6 (.t 12) (.t 13),.f 16 15 0,.store (.t 16) (.t 14) 1 false] [0,1,5]) (.seq (.region [.m 17 1,.bin 18 .add (.t 17) (.i 1),.m 1 18] [0,1,5]) (.seq (.region [.m 19 0,.m 20 5,.m 21 1,.idx 22 6 (.t 19) (.t 20),.f 23 22 1,.store (.t 23) (.t 21) 1 false] [0,1,5]) (.seq (.region [.m 24 1,.bin 25 .add (.t 24) (.i 1),.m 1 25] [0,1,5]) (.seq (.region [.m 26 0,.m 27 5,.m 28 1,.idx 29 6 (.t 26) (.t 27),.f 30 29 2,.store (.t 30) (.t 28) 1 false] [0,1,5]) (.seq (.region [.m 31 1,.bin 32 .add (.t 31) (.i 1),.m 1 32] [0,1,5]) (.seq (.region [.m 33 0,.m 34 5,.m 35 1,.idx 36 6 (.t 33) (.t 34),.f 37 36 3,.store (.t 37) (.t 35) 1 false] [0,1,5]) (.seq (.region [.m 38 1,.bin 39 .add (.t 38) (.i 1),.m 1 39] [0,1,5]) (.seq (.region [.m 40 0,.m 41 5,.m 42 1,.idx 43 6 (.t 40) (.t 41),.f 44 43 4,.store (.t 44) (.t 42) 1 false] [0,1,5]) (.seq (.region [.m 45 1,.bin 46 .add (.t 45) (.i 1),.m 1 46] [0,1,5]) (.seq (.region [.m 47 0,.m 48 5,.m 49 1,.cl 50 [49] A_,.idx 51 6 (.t 47) (.t 48),.f 52 51 5,.store (.t 52) (.t 50) 1 false] [0,1,5]) (.region [.m 53 1,.bin 54 .add (.t 53) (.i 1),.m 1 54] [0,1,5]))))))))))))) (.region [.m 10 5,.bin 11 .add (.t 10) (.i 1),.m 5 11] [0,1,5])))
def Dc:AU:=(.seq (.region [.m 55 1,.m 4 55] [4]) .ret)
def Am:CQ:=⟨[.val (.slice Ae),.val (.int .i64)],[⟨4,false,(.int .i64)⟩],(.seq (.region [.mv 4 (.i 0)] [0,1]) (.seq (.seq (.region [.mv 5 (.i 0)] [0,1,5]) (.block 0 [1] (.loop [0,1,5] Db))) Dc))⟩
theorem HO:C2 Try.prog 2000106 Am=true:=by kernel_rfl

def Qg:List (Nat×CQ):=[(7,AM),(37,Ag),(38,Ah),(39,Ct),(40,CH),(41,CI),(80,Ep),(82,DZ),(94,Bb),(98,BG),(100,BH),(101,Bc),(102,BW),(103,BB),(104,Aw),(105,BI),(106,BC),(107,Aq),(108,Ax),(109,BJ),(110,BD),(111,Ar),(141,BK),(149,Da),(150,Eq),(151,Dz),(2000096,As),(2000106,Am)]
def HQ (f:Nat):Option CQ:=Pm f Qg
theorem Qy:Or Try.prog HQ:=OG (.cons Fg <| .cons I2 <| .cons I3 <| .cons Jl <| .cons H9 <| .cons H_ <| .cons Ma <| .cons LT <| .cons Ln <| .cons KS <| .cons KT <| .cons Lo <| .cons LU <| .cons Jm <| .cons I4 <| .cons KU <| .cons Jn <| .cons IA <| .cons I5 <| .cons KV <| .cons Jo <| .cons IB <| .cons KW <| .cons LV <| .cons Mb <| .cons Lq <| .cons IC <| .cons HO .nil)
def Bs:Bv:=fun f args bs=>none
theorem Po:Ch Try.prog Bs:=by
 refine ⟨fun f k t T hf h=>?_,fun f args bs rs hf h=>?_⟩<;>unfold Bs at h
 ·cases h
 ·cases h
abbrev cP:Bv:=MY HQ Bs
def cG {ρ:Type} (c:AU) (kn kr:St->Option ρ) (ke:Nat->St->Option ρ):St->Option ρ:=B_ cP DM c kn kr ke
def lG {ρ:Type} (c:AU) (hs:List (Nat×Nat)) (l:List Nat) (n:Nat) (kr:St->Option ρ) (ke:Nat->St->Option ρ):St->Option ρ:=DM fun go s'=>B_ cP DM c (fun s''=>go (s''.cutH hs l n)) kr ke s'
def kJ {ρ:Type} (c:AU) (hs:List (Nat×Nat)) (l:List Nat) (n:Nat) (kn kr:St->Option ρ) (ke:Nat->St->Option ρ):St->Option ρ:=fun s=>cG c kn kr ke (s.cutH hs l n)
def kB {ρ:Type} (hs:List (Nat×Nat)) (l:List Nat) (n:Nat) (kn:St->Option ρ):St->Option ρ:=fun s=>kn (s.cutH hs l n)
def kE {ρ:Type} (b:Nat) (hs:List (Nat×Nat)) (l:List Nat) (n:Nat) (kn:St->Option ρ) (ke:Nat->St->Option ρ):Nat->St->Option ρ:=fun i s=>if i=b then kn (s.cutH hs l n) else ke i s
def kx {ρ:Type}:Nat->St->Option ρ:=fun _ _=>none
def cF (f:Nat) (a:CQ) (x b:List AV):Option (RT a.outs):=(cP f x b).bind (Bo a.outs)
theorem cT (a:CQ) {f:Nat} {x b:List AV} {t:Option (RT a.outs)} {r:RT a.outs} (hf:HQ f=some a) (hl:x.length=a.params.length/\b.length=(BU a.params 0).length) (e:Oz cP a x b=t) (h:t=some r):cF f a x b=some r:=NP hf hl (e.trans h)
theorem jS {ρ:Type} {t w:Option ρ} {r:ρ} (e:w=t) (h:t=some r):w=some r:=e.trans h
theorem lS {ρ:Type} {c:AU} {hs:List (Nat×Nat)} {l:List Nat} {n:Nat} {kr:St->Option ρ} {ke:Nat->St->Option ρ} {s:St} {t:Option ρ} {r:ρ} (e:B_ cP DM c (fun s=>lG c hs l n kr ke (s.cutH hs l n)) kr ke s=t) (h:t=some r):lG c hs l n kr ke s=some r:=OE (e.trans h)
def C3 (x0 x1:Int):Option Bool:=cF 7 AM [.int .i64 x0,.int .i64 x1] []
def Dd (x0 x1:Int):Option (AS×Bool):=cF 37 Ag [.int .i64 x0,.int .i64 x1] []
def Ca (x0 x1:Int):Option (AS×Bool):=cF 38 Ah [.int .i64 x0,.int .i64 x1] []
def Cu (x0 x1:AS):Option Bool:=cF 39 Ct [.agg (Cs.enc x0),.agg (Cs.enc x1)] []
def C_ (x1:Int) (b0:List AD) (b1:List AR) (b2:List X) (b3:List ByteArray):Option (Int×List AD×List AR×List X×List ByteArray):=cF 40 CH [.agg [.row 0,.row 1,.row 2,.row 3],.int .i64 x1] [.new 94 AO b0,.new 89 BA b1,.new 183 Ae b2,.new 9 .str b3]
def CJ (x0:AS) (x1:Int):Option Int:=cF 41 CI [.agg (Cs.enc x0),.int .i64 x1] []
def Er (x0 x1 x2:Int):Option Bool:=cF 80 Ep [.int .i64 x0,.int .i64 x1,.int .i64 x2] []
def De (x0 x1 x2:Int):Option Bool:=cF 82 DZ [.int .i64 x0,.int .i64 x1,.int .i64 x2] []
def Fh (x0 x1:List Int):Option Bool:=cF 94 Bb [.lst (.int .i64) x0,.lst (.int .i64) x1] []
def EP (x0:List Int) (x1:Int):Option Int:=cF 98 BG [.lst (.int .i64) x0,.int .i64 x1] []
def EQ (x0 x1:List AD):Option Bool:=cF 100 BH [.lst AO x0,.lst AO x1] []
def Fi (x0 x1:List AR):Option Bool:=cF 101 Bc [.lst BA x0,.lst BA x1] []
def Df (x0 x1:List X):Option Bool:=cF 102 BW [.lst Ae x0,.lst Ae x1] []
def Du (x0 x1:List ByteArray):Option Bool:=cF 103 BB [.lst .str x0,.lst .str x1] []
def Dg (x1:Int) (b0:List AD):Option (Int×List AD):=cF 104 Aw [.row 0,.int .i64 x1] [.new 94 AO b0]
def ER (x1:Int) (b0:List AR):Option (Int×List AR):=cF 105 BI [.row 0,.int .i64 x1] [.new 89 BA b0]
def Dv (x1:Int) (b0:List X):Option (Int×List X):=cF 106 BC [.row 0,.int .i64 x1] [.new 183 Ae b0]
def DA (x1:Int) (b0:List ByteArray):Option (Int×List ByteArray):=cF 107 Aq [.row 0,.int .i64 x1] [.new 9 .str b0]
def Dh (x0:List AD) (x1:Int):Option Int:=cF 108 Ax [.lst AO x0,.int .i64 x1] []
def ES (x0:List AR) (x1:Int):Option Int:=cF 109 BJ [.lst BA x0,.int .i64 x1] []
def Cv (x0:List X) (x1:Int):Option Int:=cF 110 BD [.lst Ae x0,.int .i64 x1] []
def DB (x0:List ByteArray) (x1:Int):Option Int:=cF 111 Ar [.lst .str x0,.int .i64 x1] []
def Ac (x0:Int):Option ByteArray:=cF 141 BK [.int .i64 x0] []
def Di (x0 x1:AD):Option Bool:=cF 149 Da [.agg (AO.enc x0),.agg (AO.enc x1)] []
def Es (x0 x1:AR):Option Bool:=cF 150 Eq [.agg (BA.enc x0),.agg (BA.enc x1)] []
def Hm (x0 x1:X):Option Bool:=cF 151 Dz [.agg (Ae.enc x0),.agg (Ae.enc x1)] []
def DC (x0:List Int) (x1:Int):Option Int:=cF 2000096 As [.lst (.int .i64) x0,.int .i64 x1] []
def Cy (x0:List X) (x1:Int):Option Int:=cF 2000106 Am [.lst Ae x0,.int .i64 x1] []

def Cb (x0:Int) (x1:Bool) (x2:List AD) (x3:List AR) (x4:List X) (x5:List ByteArray) (x6:List AD) (x7:List AR) (x8:List X) (x9:List ByteArray) (x10:List AD) (x11:List AR) (x12:List X) (x13:List ByteArray):Option Bool:=cG CY (An AM) (An AM) kx ⟨[(7,.ptr 17 0),(9,.int .i64 x0),(59,.bool x1)],[.dead,.dead,.dead,.dead,.rows 94 AO x2,.rows 89 BA x3,.rows 183 Ae x4,.rows 9 .str x5,.var [.row 4,.row 5,.row 6,.row 7],.dead,.dead,.dead,.dead,.rows 94 AO x6,.rows 89 BA x7,.rows 183 Ae x8,.rows 9 .str x9,.var [.row 13,.row 14,.row 15,.row 16],.dead,.dead,.dead,.dead,.rows 94 AO x10,.rows 89 BA x11,.rows 183 Ae x12,.rows 9 .str x13,.var [.row 22,.row 23,.row 24,.row 25]]⟩
def Cc (x0 x1:Int) (x2 x3:Bool) (x4:List AD) (x5:List AR) (x6:List X) (x7:List ByteArray) (x8:List AD) (x9:List AR) (x10:List X) (x11:List ByteArray):Option Bool:=cG CZ (An AM) (An AM) kx ⟨[(0,.int .i64 x0),(1,.int .i64 x1),(5,.ptr 8 0),(6,.bool x2),(7,.ptr 17 0),(33,.bool x3)],[.dead,.dead,.dead,.dead,.rows 94 AO x4,.rows 89 BA x5,.rows 183 Ae x6,.rows 9 .str x7,.var [.row 4,.row 5,.row 6,.row 7],.dead,.dead,.dead,.dead,.rows 94 AO x8,.rows 89 BA x9,.rows 183 Ae x10,.rows 9 .str x11,.var [.row 13,.row 14,.row 15,.row 16]]⟩
def Cd (x0:Int) (x1:Bool) (x2:List AD) (x3:List AR) (x4:List X) (x5:List ByteArray) (x6:List AD) (x7:List AR) (x8:List X) (x9:List ByteArray) (x10:List AD) (x11:List AR) (x12:List X) (x13:List ByteArray):Option Bool:=((CJ (x6,x7,x8,x9) 1).bind fun y8=>(if (decide (y8<0))=true then (some false) else (if (y8 != x0)=true then (some false) else (some true))))
def Ce (x0 x1:Int) (x2 x3:Bool) (x4:List AD) (x5:List AR) (x6:List X) (x7:List ByteArray) (x8:List AD) (x9:List AR) (x10:List X) (x11:List ByteArray):Option Bool:=((C_ 1 x8 x9 x10 x11).bind fun y4=>((CJ y4.2 1).bind fun y5=>(if (decide (y5<0))=true then (some false) else (if (y5 != y4.1)=true then (some false) else ((Ca x0 x1).bind fun y6=>((Cu y6.1 (x4,x5,x6,x7)).bind fun y7=>(if (!y7)=false then (if (true != JP .bool y6.2 x2)=true then (some false) else (Cb y4.1 (true != JP .bool y6.2 x2) x4 x5 x6 x7 y4.2.1 y4.2.2.1 y4.2.2.2.1 y4.2.2.2.2 y6.1.1 y6.1.2.1 y6.1.2.2.1 y6.1.2.2.2)) else (some false))))))))
def C4 (x0 x1:Int):Option Bool:=((Dd x0 x1).bind fun y1=>((Ca x0 x1).bind fun y2=>((Cu y2.1 y1.1).bind fun y3=>(if (!y3)=false then (if (true != JP .bool y2.2 y1.2)=true then (some false) else (Cc x0 x1 y1.2 (true != JP .bool y2.2 y1.2) y1.1.1 y1.1.2.1 y1.1.2.2.1 y1.1.2.2.2 y2.1.1 y2.1.2.1 y2.1.2.2.1 y2.1.2.2.2)) else (some false)))))
theorem Et:Qx Cd Cb:=jS (by kernel_rfl)
theorem Eu:Qw Ce Cc:=jS (by kernel_rfl)
theorem Fj:KR C4 C3:=cT AM rfl ⟨rfl,rfl⟩ (by kernel_rfl)
def HR:=cG EY (An Ag) (An Ag) kx
def HS:=kE 0 [] [4,6] 11 HR kx
def Gy:St->Option (RT (CQ.outs Ag)):=lG EX [] [1,4,6,7] 11 (An Ag) HS
def BX (x0 x1:Int) (x2:List AD) (x3:List AR) (x4:List X) (x5:List ByteArray) (x6:List AD) (x7:List AR) (x8:List X) (x9:List ByteArray):Option (AS×Bool):=Gy ⟨[(1,.int .i64 x0),(4,.ptr 4 0),(6,.ptr 10 0),(7,.int .i64 x1)],[.rows 94 AO x2,.rows 89 BA x3,.rows 183 Ae x4,.rows 9 .str x5,.var [.row 0,.row 1,.row 2,.row 3],.dead,.rows 94 AO x6,.rows 89 BA x7,.rows 183 Ae x8,.rows 9 .str x9,.var [.row 6,.row 7,.row 8,.row 9]]⟩
def EF (x0 x1:Int) (x2:Bool) (x3:List AD) (x4:List AR) (x5:List X) (x6:List ByteArray):Option (AS×Bool):=cG EZ (An Ag) (An Ag) kx ⟨[(0,.int .i64 x0),(1,.int .i64 x1),(4,.ptr 4 0),(15,.bool x2)],[.rows 94 AO x3,.rows 89 BA x4,.rows 183 Ae x5,.rows 9 .str x6,.var [.row 0,.row 1,.row 2,.row 3]]⟩
def Cj (x0 x1:Int) (x2:List AD) (x3:List AR) (x4:List X) (x5:List ByteArray) (x6:List AD) (x7:List AR) (x8:List X) (x9:List ByteArray):Option (AS×Bool):=(if (decide (x1<=x0))=true then (if x7.length+([(x1,0,AA,([]:List X),false,([]:List Int),false)]:List AR).length<=68719476736 then (BX x0 (i64.wrap (x1+1)) x2 x3 x4 x5 x6 (x7++([(x1,0,AA,([]:List X),false,([]:List Int),false)]:List AR)) x8 x9) else none) else (some ((x6,x7,x8,x9),true)))
def EG (x0 x1:Int) (x2:Bool) (x3:List AD) (x4:List AR) (x5:List X) (x6:List ByteArray):Option (AS×Bool):=(if 0<=x0 then (if x0<=68719476736 then (BX x1 1 x3 x4 x5 x6 (List.replicate x0.toNat (0,0,AA)) ([]:List AR) ([]:List X) ([]:List ByteArray)) else none) else none)
def FY (x0 x1:Int):Option (AS×Bool):=((Er x0 1 5).bind fun y1=>(if (!y1)=false then ((Er x1 1 4).bind fun y2=>(if (!y2)=true then (some ((([]:List AD),([]:List AR),([]:List X),([]:List ByteArray)),false)) else (EF x0 x1 (!y2) ([]:List AD) ([]:List AR) ([]:List X) ([]:List ByteArray)))) else (some ((([]:List AD),([]:List AR),([]:List X),([]:List ByteArray)),false))))
theorem EH:Qf Cj BX:=lS (by kernel_rfl)
theorem Gz:Q2 EG EF:=jS (by kernel_rfl)
theorem I6:KR FY Dd:=cT Ag rfl ⟨rfl,rfl⟩ (by kernel_rfl)
def HT:=cG Eb (An Ah) (An Ah) kx
def HU:=kE 0 [] [4,6] 11 HT kx
def G0:St->Option (RT (CQ.outs Ah)):=lG Ea [] [4,6,20,21] 11 (An Ah) HU
def BY (x0 x1:Int) (x2:List AD) (x3:List AR) (x4:List X) (x5:List ByteArray) (x6:List AD) (x7:List AR) (x8:List X) (x9:List ByteArray):Option (AS×Bool):=G0 ⟨[(4,.ptr 4 0),(6,.ptr 10 0),(20,.int .i64 x0),(21,.int .i64 x1)],[.rows 94 AO x2,.rows 89 BA x3,.rows 183 Ae x4,.rows 9 .str x5,.var [.row 0,.row 1,.row 2,.row 3],.dead,.rows 94 AO x6,.rows 89 BA x7,.rows 183 Ae x8,.rows 9 .str x9,.var [.row 6,.row 7,.row 8,.row 9]]⟩
def EI (x0 x1:Int) (x2:Bool) (x3:List AD) (x4:List AR) (x5:List X) (x6:List ByteArray):Option (AS×Bool):=cG Ec (An Ah) (An Ah) kx ⟨[(0,.int .i64 x0),(1,.int .i64 x1),(4,.ptr 4 0),(15,.bool x2)],[.rows 94 AO x3,.rows 89 BA x4,.rows 183 Ae x5,.rows 9 .str x6,.var [.row 0,.row 1,.row 2,.row 3]]⟩
def Ck (x0 x1:Int) (x2:List AD) (x3:List AR) (x4:List X) (x5:List ByteArray) (x6:List AD) (x7:List AR) (x8:List X) (x9:List ByteArray):Option (AS×Bool):=(if (decide (x1<x0))=true then (if x7.length+([((i64.wrap (x1+1)),0,AA,([]:List X),false,([]:List Int),false)]:List AR).length<=68719476736 then (BY x0 (i64.wrap (x1+1)) x2 x3 x4 x5 x6 (x7++([((i64.wrap (x1+1)),0,AA,([]:List X),false,([]:List Int),false)]:List AR)) x8 x9) else none) else (some ((x6,x7,x8,x9),true)))
def EJ (x0 x1:Int) (x2:Bool) (x3:List AD) (x4:List AR) (x5:List X) (x6:List ByteArray):Option (AS×Bool):=(if 0<=x0 then (if x0<=68719476736 then (BY x1 0 x3 x4 x5 x6 (List.replicate x0.toNat (0,0,AA)) ([]:List AR) ([]:List X) ([]:List ByteArray)) else none) else none)
def FZ (x0 x1:Int):Option (AS×Bool):=((De x0 1 5).bind fun y1=>(if (!y1)=false then ((De x1 1 4).bind fun y2=>(if (!y2)=true then (some ((([]:List AD),([]:List AR),([]:List X),([]:List ByteArray)),false)) else (EI x0 x1 (!y2) ([]:List AD) ([]:List AR) ([]:List X) ([]:List ByteArray)))) else (some ((([]:List AD),([]:List AR),([]:List X),([]:List ByteArray)),false))))
theorem EK:Qf Ck BY:=lS (by kernel_rfl)
theorem G1:Q2 EJ EI:=jS (by kernel_rfl)
theorem I7:KR FZ Ca:=cT Ah rfl ⟨rfl,rfl⟩ (by kernel_rfl)
def F4 (x0 x1:AS):Option Bool:=((EQ x0.1 x1.1).bind fun y1=>(if (!y1)=true then (some false) else ((Fi x0.2.1 x1.2.1).bind fun y2=>(if (!y2)=true then (some false) else ((Df x0.2.2.1 x1.2.2.1).bind fun y3=>(if (!y3)=true then (some false) else ((Du x0.2.2.2 x1.2.2.2).bind fun y4=>(if (!y4)=true then (some false) else (some true)))))))))
theorem Jp:KR F4 Cu:=cT Ct rfl ⟨rfl,rfl⟩ (by kernel_rfl)
def FA (x1:Int) (b0:List AD) (b1:List AR) (b2:List X) (b3:List ByteArray):Option (Int×List AD×List AR×List X×List ByteArray):=((Dg x1 b0).bind fun y1=>((ER y1.1 b1).bind fun y2=>((Dv y2.1 b2).bind fun y3=>((DA y3.1 b3).bind fun y4=>(some (y4.1,y1.2,y2.2,y3.2,y4.2))))))
theorem ID:Q7 FA C_:=cT CH rfl ⟨rfl,rfl⟩ (by kernel_rfl)
def FB (x0:AS) (x1:Int):Option Int:=((Dh x0.1 x1).bind fun y1=>(if (decide (y1<0))=true then (some (-1:Int)) else ((ES x0.2.1 y1).bind fun y2=>(if (decide (y2<0))=true then (some (-1:Int)) else ((Cv x0.2.2.1 y2).bind fun y3=>(if (decide (y3<0))=true then (some (-1:Int)) else ((DB x0.2.2.2 y3).bind fun y4=>(if (decide (y4<0))=true then (some (-1:Int)) else (some y4)))))))))
theorem IE:KR FB CJ:=cT CI rfl ⟨rfl,rfl⟩ (by kernel_rfl)
def I8 (x0 x1 x2:Int):Option Bool:=(if (decide (x0>=x1))=true then (some (decide (x0<=x2))) else (some false))
theorem Mc:Me I8 Er:=cT Ep rfl ⟨rfl,rfl⟩ (by kernel_rfl)
def G2 (x0 x1 x2:Int):Option Bool:=(if (decide (x0>=x1))=true then (some (decide (x0<=x2))) else (some false))
theorem LW:Me G2 De:=cT DZ rfl ⟨rfl,rfl⟩ (by kernel_rfl)
def KX:=cG GS (An Bb) (An Bb) kx
def KY:=kE 0 [] [] 0 KX kx
def Jq:St->Option (RT (CQ.outs Bb)):=lG GR [] [0,1,5] 0 (An Bb) KY
def Dw (x0 x1:List Int) (x2:Int):Option Bool:=Jq ⟨[(0,.lst (.int .i64) x0),(1,.lst (.int .i64) x1),(5,.int .i64 x2)],[]⟩
def F5 (x0 x1:List Int) (x2:Int):Option Bool:=(if (decide (x2<(x0.length:Int)))=true then (if 0<=x2 then (if x2<(x0.length:Int) then (if 0<=x2 then (if x2<(x1.length:Int) then (if ((x0.getD x2.toNat 0) != (x1.getD x2.toNat 0))=true then (some false) else (Dw x0 x1 (i64.wrap (x2+1)))) else none) else none) else none) else none) else (some true))
def Hn (x0 x1:List Int):Option Bool:=(if ((x0.length:Int) != (x1.length:Int))=true then (some false) else (Dw x0 x1 0))
theorem Jr:Me F5 Dw:=lS (by kernel_rfl)
theorem Lr:KR Hn Fh:=cT Bb rfl ⟨rfl,rfl⟩ (by kernel_rfl)
def I9:=cG FT (An BG) (An BG) kx
def I_:=kE 0 [] [1] 0 I9 kx
def IF:St->Option (RT (CQ.outs BG)):=lG FS [] [0,1,5] 0 (An BG) I_
def DD (x0:List Int) (x1 x2:Int):Option Int:=IF ⟨[(0,.lst (.int .i64) x0),(1,.int .i64 x1),(5,.int .i64 x2)],[]⟩
def FC (x0:List Int) (x1 x2:Int):Option Int:=(if (decide (x2<(x0.length:Int)))=true then (if 0<=x2 then (if x2<(x0.length:Int) then (if ((x0.getD x2.toNat 0) != x1)=true then (some (-1:Int)) else (DD x0 (i64.wrap (x1+1)) (i64.wrap (x2+1)))) else none) else none) else (some x1))
def GV (x0:List Int) (x1:Int):Option Int:=(DD x0 x1 0)
theorem IG:Me FC DD:=lS (by kernel_rfl)
theorem KZ:KR GV EP:=cT BG rfl ⟨rfl,rfl⟩ (by kernel_rfl)
def JA:=cG FV (An BH) (An BH) kx
def JB:=kE 0 [] [] 0 JA kx
def IH:St->Option (RT (CQ.outs BH)):=lG FU [] [0,1,5] 0 (An BH) JB
def CK (x0 x1:List AD) (x2:Int):Option Bool:=IH ⟨[(0,.lst AO x0),(1,.lst AO x1),(5,.int .i64 x2)],[]⟩
def II (x0 x1:List AD) (x2:Int):Option Bool:=(if (decide (x2<(x0.length:Int)))=true then (if 0<=x2 then (if x2<(x0.length:Int) then (if 0<=x2 then (if x2<(x1.length:Int) then ((Di (x0.getD x2.toNat (0,0,AA)) (x1.getD x2.toNat (0,0,AA))).bind fun y1=>(if (!y1)=true then (some false) else (CK x0 x1 (i64.wrap (x2+1))))) else none) else none) else none) else none) else (some true))
def GW (x0 x1:List AD):Option Bool:=(if ((x0.length:Int) != (x1.length:Int))=true then (some false) else (CK x0 x1 0))
theorem IJ:Me II CK:=lS (by kernel_rfl)
theorem Ka:KR GW EQ:=cT BH rfl ⟨rfl,rfl⟩ (by kernel_rfl)
def Kb:=cG GU (An Bc) (An Bc) kx
def Kc:=kE 0 [] [] 0 Kb kx
def Js:St->Option (RT (CQ.outs Bc)):=lG GT [] [0,1,5] 0 (An Bc) Kc
def Cw (x0 x1:List AR) (x2:Int):Option Bool:=Js ⟨[(0,.lst BA x0),(1,.lst BA x1),(5,.int .i64 x2)],[]⟩
def Jt (x0 x1:List AR) (x2:Int):Option Bool:=(if (decide (x2<(x0.length:Int)))=true then (if 0<=x2 then (if x2<(x0.length:Int) then (if 0<=x2 then (if x2<(x1.length:Int) then ((Es (x0.getD x2.toNat (0,0,AA,([]:List X),false,([]:List Int),false)) (x1.getD x2.toNat (0,0,AA,([]:List X),false,([]:List Int),false))).bind fun y1=>(if (!y1)=true then (some false) else (Cw x0 x1 (i64.wrap (x2+1))))) else none) else none) else none) else none) else (some true))
def Ho (x0 x1:List AR):Option Bool:=(if ((x0.length:Int) != (x1.length:Int))=true then (some false) else (Cw x0 x1 0))
theorem Ju:Me Jt Cw:=lS (by kernel_rfl)
theorem Ls:KR Ho Fi:=cT Bc rfl ⟨rfl,rfl⟩ (by kernel_rfl)
def Jv:=cG F3 (An BW) (An BW) kx
def Jw:=kE 0 [] [] 0 Jv kx
def JC:St->Option (RT (CQ.outs BW)):=lG F0 [] [0,1,5] 0 (An BW) Jw
def Dj (x0 x1:List X) (x2:Int):Option Bool:=JC ⟨[(0,.lst Ae x0),(1,.lst Ae x1),(5,.int .i64 x2)],[]⟩
def Fa (x0 x1:List X) (x2:Int):Option Bool:=(if (decide (x2<(x0.length:Int)))=true then (if 0<=x2 then (if x2<(x0.length:Int) then (if 0<=x2 then (if x2<(x1.length:Int) then ((Hm (x0.getD x2.toNat (0,0,0,0,0,AA)) (x1.getD x2.toNat (0,0,0,0,0,AA))).bind fun y1=>(if (!y1)=true then (some false) else (Dj x0 x1 (i64.wrap (x2+1))))) else none) else none) else none) else none) else (some true))
def G3 (x0 x1:List X):Option Bool:=(if ((x0.length:Int) != (x1.length:Int))=true then (some false) else (Dj x0 x1 0))
theorem JD:Me Fa Dj:=lS (by kernel_rfl)
theorem LX:KR G3 Df:=cT BW rfl ⟨rfl,rfl⟩ (by kernel_rfl)
def IK:=cG E6 (An BB) (An BB) kx
def IL:=kE 0 [] [] 0 IK kx
def HV:St->Option (RT (CQ.outs BB)):=lG E5 [] [0,1,5] 0 (An BB) IL
def Cz (x0 x1:List ByteArray) (x2:Int):Option Bool:=HV ⟨[(0,.lst .str x0),(1,.lst .str x1),(5,.int .i64 x2)],[]⟩
def Ei (x0 x1:List ByteArray) (x2:Int):Option Bool:=(if (decide (x2<(x0.length:Int)))=true then (if 0<=x2 then (if x2<(x0.length:Int) then (if 0<=x2 then (if x2<(x1.length:Int) then (if (!((x0.getD x2.toNat AA).toList==(x1.getD x2.toNat AA).toList))=true then (some false) else (Cz x0 x1 (i64.wrap (x2+1)))) else none) else none) else none) else none) else (some true))
def F6 (x0 x1:List ByteArray):Option Bool:=(if ((x0.length:Int) != (x1.length:Int))=true then (some false) else (Cz x0 x1 0))
theorem HW:Me Ei Cz:=lS (by kernel_rfl)
theorem Jx:KR F6 Du:=cT BB rfl ⟨rfl,rfl⟩ (by kernel_rfl)
def HX:=cG D7 (An Aw) (An Aw) kx
def HY:=kE 0 [] [1] 1 HX kx
def G4:St->Option (RT (CQ.outs Aw)):=lG Ed [(0,0)] [0,1,5] 1 (An Aw) HY
def Bt (x0 x1:Int) (x2:List AD):Option (Int×List AD):=G4 ⟨[(0,.row 0),(1,.int .i64 x0),(5,.int .i64 x1)],[.mrow 94 AO x2]⟩
def Cl (x0 x1:Int) (x2:List AD):Option (Int×List AD):=(if (decide (x1<(x2.length:Int)))=true then (if 0<=x1 then (if x1<(x2.length:Int) then (let z1:List AD:=x2.set x1.toNat (x0,(x2.getD x1.toNat (0,0,AA)).2); (if 0<=x1 then (if x1<(z1.length:Int) then (let z2:List AD:=z1.set x1.toNat ((z1.getD x1.toNat (0,0,AA)).1,(i64.wrap (x0+1)),((z1.getD x1.toNat (0,0,AA)).2).2); ((Ac (i64.wrap ((i64.wrap (x0+1))+1))).bind fun y3=>(if 0<=x1 then (if x1<(z2.length:Int) then (let z4:List AD:=z2.set x1.toNat ((z2.getD x1.toNat (0,0,AA)).1,((z2.getD x1.toNat (0,0,AA)).2).1,y3); (Bt (i64.wrap ((i64.wrap ((i64.wrap (x0+1))+1))+1)) (i64.wrap (x1+1)) z4)) else none) else none))) else none) else none)) else none) else none) else (some (x0,x2)))
def Fb (x1:Int) (b0:List AD):Option (Int×List AD):=(Bt x1 0 b0)
theorem EL:Me Cl Bt:=lS (by kernel_rfl)
theorem JE:KR Fb Dg:=cT Aw rfl ⟨rfl,rfl⟩ (by kernel_rfl)
def JF:=cG E8 (An BI) (An BI) kx
def JG:=kE 0 [] [1] 1 JF kx
def IM:St->Option (RT (CQ.outs BI)):=lG E7 [(0,0)] [0,1,5] 1 (An BI) JG
def CL (x0 x1:Int) (x2:List AR):Option (Int×List AR):=IM ⟨[(0,.row 0),(1,.int .i64 x0),(5,.int .i64 x1)],[.mrow 89 BA x2]⟩
def DE (x0 x1:Int) (x2:List AR):Option (Int×List AR):=(if (decide (x1<(x2.length:Int)))=true then (if 0<=x1 then (if x1<(x2.length:Int) then (let z1:List AR:=x2.set x1.toNat (x0,(x2.getD x1.toNat (0,0,AA,([]:List X),false,([]:List Int),false)).2); (if 0<=x1 then (if x1<(z1.length:Int) then (let z2:List AR:=z1.set x1.toNat ((z1.getD x1.toNat (0,0,AA,([]:List X),false,([]:List Int),false)).1,(i64.wrap (x0+1)),((z1.getD x1.toNat (0,0,AA,([]:List X),false,([]:List Int),false)).2).2); ((Ac (i64.wrap ((i64.wrap (x0+1))+1))).bind fun y3=>(if 0<=x1 then (if x1<(z2.length:Int) then (let z4:List AR:=z2.set x1.toNat ((z2.getD x1.toNat (0,0,AA,([]:List X),false,([]:List Int),false)).1,((z2.getD x1.toNat (0,0,AA,([]:List X),false,([]:List Int),false)).2).1,y3,(((z2.getD x1.toNat (0,0,AA,([]:List X),false,([]:List Int),false)).2).2).2); (if 0<=x1 then (if x1<(z4.length:Int) then ((Cy (((((z4.getD x1.toNat (0,0,AA,([]:List X),false,([]:List Int),false)).2).2).2).1) (i64.wrap ((i64.wrap ((i64.wrap (x0+1))+1))+1))).bind fun y5=>(if 3=0 then none else (if 0<=x1 then (if x1<(z4.length:Int) then (let z6:List AR:=z4.set x1.toNat ((z4.getD x1.toNat (0,0,AA,([]:List X),false,([]:List Int),false)).1,((z4.getD x1.toNat (0,0,AA,([]:List X),false,([]:List Int),false)).2).1,(((z4.getD x1.toNat (0,0,AA,([]:List X),false,([]:List Int),false)).2).2).1,((((z4.getD x1.toNat (0,0,AA,([]:List X),false,([]:List Int),false)).2).2).2).1,((Int.tmod y5 3)==0),(((((z4.getD x1.toNat (0,0,AA,([]:List X),false,([]:List Int),false)).2).2).2).2).2); (if 0<=x1 then (if x1<(z6.length:Int) then ((DC (((((((z6.getD x1.toNat (0,0,AA,([]:List X),false,([]:List Int),false)).2).2).2).2).2).1) (i64.wrap (y5+1))).bind fun y7=>(if 3=0 then none else (if 0<=x1 then (if x1<(z6.length:Int) then (let z8:List AR:=z6.set x1.toNat ((z6.getD x1.toNat (0,0,AA,([]:List X),false,([]:List Int),false)).1,((z6.getD x1.toNat (0,0,AA,([]:List X),false,([]:List Int),false)).2).1,(((z6.getD x1.toNat (0,0,AA,([]:List X),false,([]:List Int),false)).2).2).1,((((z6.getD x1.toNat (0,0,AA,([]:List X),false,([]:List Int),false)).2).2).2).1,(((((z6.getD x1.toNat (0,0,AA,([]:List X),false,([]:List Int),false)).2).2).2).2).1,((((((z6.getD x1.toNat (0,0,AA,([]:List X),false,([]:List Int),false)).2).2).2).2).2).1,((Int.tmod y7 3)==0)); (CL (i64.wrap (y7+1)) (i64.wrap (x1+1)) z8)) else none) else none))) else none) else none)) else none) else none))) else none) else none)) else none) else none))) else none) else none)) else none) else none) else (some (x0,x2)))
def GX (x1:Int) (b0:List AR):Option (Int×List AR):=(CL x1 0 b0)
theorem FD:Me DE CL:=lS (by kernel_rfl)
theorem Ke:KR GX ER:=cT BI rfl ⟨rfl,rfl⟩ (by kernel_rfl)
def IN:=cG Ef (An BC) (An BC) kx
def IP:=kE 0 [] [1] 1 IN kx
def HZ:St->Option (RT (CQ.outs BC)):=lG Ee [(0,0)] [0,1,5] 1 (An BC) IP
def C0 (x0 x1:Int) (x2:List X):Option (Int×List X):=HZ ⟨[(0,.row 0),(1,.int .i64 x0),(5,.int .i64 x1)],[.mrow 183 Ae x2]⟩
def Ej (x0 x1:Int) (x2:List X):Option (Int×List X):=(if (decide (x1<(x2.length:Int)))=true then (if 0<=x1 then (if x1<(x2.length:Int) then (let z1:List X:=x2.set x1.toNat (x0,(x2.getD x1.toNat (0,0,0,0,0,AA)).2); (if 0<=x1 then (if x1<(z1.length:Int) then (let z2:List X:=z1.set x1.toNat ((z1.getD x1.toNat (0,0,0,0,0,AA)).1,(i64.wrap (x0+1)),((z1.getD x1.toNat (0,0,0,0,0,AA)).2).2); (if 0<=x1 then (if x1<(z2.length:Int) then (let z3:List X:=z2.set x1.toNat ((z2.getD x1.toNat (0,0,0,0,0,AA)).1,((z2.getD x1.toNat (0,0,0,0,0,AA)).2).1,(i64.wrap ((i64.wrap (x0+1))+1)),(((z2.getD x1.toNat (0,0,0,0,0,AA)).2).2).2); (if 0<=x1 then (if x1<(z3.length:Int) then (let z4:List X:=z3.set x1.toNat ((z3.getD x1.toNat (0,0,0,0,0,AA)).1,((z3.getD x1.toNat (0,0,0,0,0,AA)).2).1,(((z3.getD x1.toNat (0,0,0,0,0,AA)).2).2).1,(i64.wrap ((i64.wrap ((i64.wrap (x0+1))+1))+1)),((((z3.getD x1.toNat (0,0,0,0,0,AA)).2).2).2).2); (if 0<=x1 then (if x1<(z4.length:Int) then (let z5:List X:=z4.set x1.toNat ((z4.getD x1.toNat (0,0,0,0,0,AA)).1,((z4.getD x1.toNat (0,0,0,0,0,AA)).2).1,(((z4.getD x1.toNat (0,0,0,0,0,AA)).2).2).1,((((z4.getD x1.toNat (0,0,0,0,0,AA)).2).2).2).1,(i64.wrap ((i64.wrap ((i64.wrap ((i64.wrap (x0+1))+1))+1))+1)),(((((z4.getD x1.toNat (0,0,0,0,0,AA)).2).2).2).2).2); ((Ac (i64.wrap ((i64.wrap ((i64.wrap ((i64.wrap ((i64.wrap (x0+1))+1))+1))+1))+1))).bind fun y6=>(if 0<=x1 then (if x1<(z5.length:Int) then (let z7:List X:=z5.set x1.toNat ((z5.getD x1.toNat (0,0,0,0,0,AA)).1,((z5.getD x1.toNat (0,0,0,0,0,AA)).2).1,(((z5.getD x1.toNat (0,0,0,0,0,AA)).2).2).1,((((z5.getD x1.toNat (0,0,0,0,0,AA)).2).2).2).1,(((((z5.getD x1.toNat (0,0,0,0,0,AA)).2).2).2).2).1,y6); (C0 (i64.wrap ((i64.wrap ((i64.wrap ((i64.wrap ((i64.wrap ((i64.wrap (x0+1))+1))+1))+1))+1))+1)) (i64.wrap (x1+1)) z7)) else none) else none))) else none) else none)) else none) else none)) else none) else none)) else none) else none)) else none) else none) else (some (x0,x2)))
def F7 (x1:Int) (b0:List X):Option (Int×List X):=(C0 x1 0 b0)
theorem Ha:Me Ej C0:=lS (by kernel_rfl)
theorem Jy:KR F7 Dv:=cT BC rfl ⟨rfl,rfl⟩ (by kernel_rfl)
def G5:=cG D9 (An Aq) (An Aq) kx
def G6:=kE 0 [] [1] 1 G5 kx
def Ga:St->Option (RT (CQ.outs Aq)):=lG D8 [(0,0)] [0,1,5] 1 (An Aq) G6
def CW (x0 x1:Int) (x2:List ByteArray):Option (Int×List ByteArray):=Ga ⟨[(0,.row 0),(1,.int .i64 x0),(5,.int .i64 x1)],[.mrow 9 .str x2]⟩
def Dm (x0 x1:Int) (x2:List ByteArray):Option (Int×List ByteArray):=(if (decide (x1<(x2.length:Int)))=true then ((Ac x0).bind fun y1=>(if 0<=x1 then (if x1<(x2.length:Int) then (let z2:List ByteArray:=x2.set x1.toNat y1; (CW (i64.wrap (x0+1)) (i64.wrap (x1+1)) z2)) else none) else none)) else (some (x0,x2)))
def FE (x1:Int) (b0:List ByteArray):Option (Int×List ByteArray):=(CW x1 0 b0)
theorem Gb:Me Dm CW:=lS (by kernel_rfl)
theorem IQ:KR FE DA:=cT Aq rfl ⟨rfl,rfl⟩ (by kernel_rfl)
def Hc:=cG EA (An Ax) (An Ax) kx
def Hd:=kE 0 [] [1] 0 Hc kx
def G7:St->Option (RT (CQ.outs Ax)):=lG D_ [] [0,1,5] 0 (An Ax) Hd
def Bu (x0:List AD) (x1 x2:Int):Option Int:=G7 ⟨[(0,.lst AO x0),(1,.int .i64 x1),(5,.int .i64 x2)],[]⟩
def Cm (x0:List AD) (x1 x2:Int):Option Int:=(if (decide (x2<(x0.length:Int)))=true then (if 0<=x2 then (if x2<(x0.length:Int) then (if (((x0.getD x2.toNat (0,0,AA)).1) != x1)=true then (some (-1:Int)) else (if 0<=x2 then (if x2<(x0.length:Int) then (if ((((x0.getD x2.toNat (0,0,AA)).2).1) != (i64.wrap (x1+1)))=true then (some (-1:Int)) else (if 0<=x2 then (if x2<(x0.length:Int) then ((Ac (i64.wrap ((i64.wrap (x1+1))+1))).bind fun y1=>(if (!((((x0.getD x2.toNat (0,0,AA)).2).2).toList==y1.toList))=true then (some (-1:Int)) else (Bu x0 (i64.wrap ((i64.wrap ((i64.wrap (x1+1))+1))+1)) (i64.wrap (x2+1))))) else none) else none)) else none) else none)) else none) else none) else (some x1))
def Fc (x0:List AD) (x1:Int):Option Int:=(Bu x0 x1 0)
theorem EM:Me Cm Bu:=lS (by kernel_rfl)
theorem JH:KR Fc Dh:=cT Ax rfl ⟨rfl,rfl⟩ (by kernel_rfl)
def JI:=cG E_ (An BJ) (An BJ) kx
def JJ:=kE 0 [] [1] 0 JI kx
def IR:St->Option (RT (CQ.outs BJ)):=lG E9 [] [0,1,5] 0 (An BJ) JJ
def CM (x0:List AR) (x1 x2:Int):Option Int:=IR ⟨[(0,.lst BA x0),(1,.int .i64 x1),(5,.int .i64 x2)],[]⟩
def DF (x0:List AR) (x1 x2:Int):Option Int:=(if (decide (x2<(x0.length:Int)))=true then (if 0<=x2 then (if x2<(x0.length:Int) then (if (((x0.getD x2.toNat (0,0,AA,([]:List X),false,([]:List Int),false)).1) != x1)=true then (some (-1:Int)) else (if 0<=x2 then (if x2<(x0.length:Int) then (if ((((x0.getD x2.toNat (0,0,AA,([]:List X),false,([]:List Int),false)).2).1) != (i64.wrap (x1+1)))=true then (some (-1:Int)) else (if 0<=x2 then (if x2<(x0.length:Int) then ((Ac (i64.wrap ((i64.wrap (x1+1))+1))).bind fun y1=>(if (!(((((x0.getD x2.toNat (0,0,AA,([]:List X),false,([]:List Int),false)).2).2).1).toList==y1.toList))=true then (some (-1:Int)) else (if 0<=x2 then (if x2<(x0.length:Int) then ((Cv (((((x0.getD x2.toNat (0,0,AA,([]:List X),false,([]:List Int),false)).2).2).2).1) (i64.wrap ((i64.wrap ((i64.wrap (x1+1))+1))+1))).bind fun y2=>(if (decide (y2<0))=true then (some (-1:Int)) else (if 0<=x2 then (if x2<(x0.length:Int) then (if 3=0 then none else (if (true != JP .bool ((((((x0.getD x2.toNat (0,0,AA,([]:List X),false,([]:List Int),false)).2).2).2).2).1) ((Int.tmod y2 3)==0))=true then (some (-1:Int)) else (if 0<=x2 then (if x2<(x0.length:Int) then ((EP (((((((x0.getD x2.toNat (0,0,AA,([]:List X),false,([]:List Int),false)).2).2).2).2).2).1) (i64.wrap (y2+1))).bind fun y3=>(if (decide (y3<0))=true then (some (-1:Int)) else (if 0<=x2 then (if x2<(x0.length:Int) then (if 3=0 then none else (if (true != JP .bool (((((((x0.getD x2.toNat (0,0,AA,([]:List X),false,([]:List Int),false)).2).2).2).2).2).2) ((Int.tmod y3 3)==0))=true then (some (-1:Int)) else (CM x0 (i64.wrap (y3+1)) (i64.wrap (x2+1))))) else none) else none))) else none) else none))) else none) else none))) else none) else none))) else none) else none)) else none) else none)) else none) else none) else (some x1))
def GY (x0:List AR) (x1:Int):Option Int:=(CM x0 x1 0)
theorem FF:Me DF CM:=lS (by kernel_rfl)
theorem Kf:KR GY ES:=cT BJ rfl ⟨rfl,rfl⟩ (by kernel_rfl)
def IS:=cG Eh (An BD) (An BD) kx
def IT:=kE 0 [] [1] 0 IS kx
def He:St->Option (RT (CQ.outs BD)):=lG Eg [] [0,1,5] 0 (An BD) IT
def C1 (x0:List X) (x1 x2:Int):Option Int:=He ⟨[(0,.lst Ae x0),(1,.int .i64 x1),(5,.int .i64 x2)],[]⟩
def Ek (x0:List X) (x1 x2:Int):Option Int:=(if (decide (x2<(x0.length:Int)))=true then (if 0<=x2 then (if x2<(x0.length:Int) then (if (((x0.getD x2.toNat (0,0,0,0,0,AA)).1) != x1)=true then (some (-1:Int)) else (if 0<=x2 then (if x2<(x0.length:Int) then (if ((((x0.getD x2.toNat (0,0,0,0,0,AA)).2).1) != (i64.wrap (x1+1)))=true then (some (-1:Int)) else (if 0<=x2 then (if x2<(x0.length:Int) then (if (((((x0.getD x2.toNat (0,0,0,0,0,AA)).2).2).1) != (i64.wrap ((i64.wrap (x1+1))+1)))=true then (some (-1:Int)) else (if 0<=x2 then (if x2<(x0.length:Int) then (if ((((((x0.getD x2.toNat (0,0,0,0,0,AA)).2).2).2).1) != (i64.wrap ((i64.wrap ((i64.wrap (x1+1))+1))+1)))=true then (some (-1:Int)) else (if 0<=x2 then (if x2<(x0.length:Int) then (if (((((((x0.getD x2.toNat (0,0,0,0,0,AA)).2).2).2).2).1) != (i64.wrap ((i64.wrap ((i64.wrap ((i64.wrap (x1+1))+1))+1))+1)))=true then (some (-1:Int)) else (if 0<=x2 then (if x2<(x0.length:Int) then ((Ac (i64.wrap ((i64.wrap ((i64.wrap ((i64.wrap ((i64.wrap (x1+1))+1))+1))+1))+1))).bind fun y1=>(if (!(((((((x0.getD x2.toNat (0,0,0,0,0,AA)).2).2).2).2).2).toList==y1.toList))=true then (some (-1:Int)) else (C1 x0 (i64.wrap ((i64.wrap ((i64.wrap ((i64.wrap ((i64.wrap ((i64.wrap (x1+1))+1))+1))+1))+1))+1)) (i64.wrap (x2+1))))) else none) else none)) else none) else none)) else none) else none)) else none) else none)) else none) else none)) else none) else none) else (some x1))
def F8 (x0:List X) (x1:Int):Option Int:=(C1 x0 x1 0)
theorem Hf:Me Ek C1:=lS (by kernel_rfl)
theorem Jz:KR F8 Cv:=cT BD rfl ⟨rfl,rfl⟩ (by kernel_rfl)
def G8:=cG EC (An Ar) (An Ar) kx
def G9:=kE 0 [] [1] 0 G8 kx
def Gc:St->Option (RT (CQ.outs Ar)):=lG EB [] [0,1,5] 0 (An Ar) G9
def CX (x0:List ByteArray) (x1 x2:Int):Option Int:=Gc ⟨[(0,.lst .str x0),(1,.int .i64 x1),(5,.int .i64 x2)],[]⟩
def Dn (x0:List ByteArray) (x1 x2:Int):Option Int:=(if (decide (x2<(x0.length:Int)))=true then (if 0<=x2 then (if x2<(x0.length:Int) then ((Ac x1).bind fun y1=>(if (!((x0.getD x2.toNat AA).toList==y1.toList))=true then (some (-1:Int)) else (CX x0 (i64.wrap (x1+1)) (i64.wrap (x2+1))))) else none) else none) else (some x1))
def FG (x0:List ByteArray) (x1:Int):Option Int:=(CX x0 x1 0)
theorem Gd:Me Dn CX:=lS (by kernel_rfl)
theorem IU:KR FG DB:=cT Ar rfl ⟨rfl,rfl⟩ (by kernel_rfl)
def JK:=cG FX (An BK) (An BK) kx
def JL:=kE 0 [] [3] 0 JK kx
def IV:St->Option (RT (CQ.outs BK)):=lG FW [] [0,3] 0 (An BK) JL
def CN (x0:Int) (x1:ByteArray):Option ByteArray:=IV ⟨[(0,.int .i64 x0),(3,.str x1)],[]⟩
def CO (x0:Int) (x1:ByteArray):Option ByteArray:=(if (decide (x0>0))=true then (if 10=0 then none else (if (Dx ([(IntKind.u8.wrap (i64.wrap (48+(Int.tmod x0 10))))]:List Int)).size+x1.size<=1099511627776 then (if 10=0 then none else (CN (i64.wrap (Int.tdiv x0 10)) ((Dx ([(IntKind.u8.wrap (i64.wrap (48+(Int.tmod x0 10))))]:List Int))++x1))) else none)) else (if (⟨#[109]⟩:ByteArray).size+x1.size<=1099511627776 then (some ((⟨#[109]⟩:ByteArray)++x1)) else none))
def ET (x0:Int):Option ByteArray:=(if (decide (x0<=0))=true then (some (⟨#[109,48]⟩:ByteArray)) else (CN x0 (⟨#[]⟩:ByteArray)))
theorem DG:KR CO CN:=lS (by kernel_rfl)
theorem GZ:Q6 ET Ac:=cT BK rfl ⟨rfl,rfl⟩ (by kernel_rfl)
def G_ (x0 x1:AD):Option Bool:=(if (x0.1 != x1.1)=true then (some false) else (if (x0.2.1 != x1.2.1)=true then (some false) else (if (!(x0.2.2.toList==x1.2.2.toList))=true then (some false) else (some true))))
theorem LY:KR G_ Di:=cT Da rfl ⟨rfl,rfl⟩ (by kernel_rfl)
def JM (x0 x1:AR):Option Bool:=(if (x0.1 != x1.1)=true then (some false) else (if (x0.2.1 != x1.2.1)=true then (some false) else (if (!(x0.2.2.1.toList==x1.2.2.1.toList))=true then (some false) else ((Df x0.2.2.2.1 x1.2.2.2.1).bind fun y1=>(if (!y1)=true then (some false) else (if (true != JP .bool x0.2.2.2.2.1 x1.2.2.2.2.1)=true then (some false) else ((Fh x0.2.2.2.2.2.1 x1.2.2.2.2.2.1).bind fun y2=>(if (!y2)=true then (some false) else (if (true != JP .bool x0.2.2.2.2.2.2 x1.2.2.2.2.2.2)=true then (some false) else (some true))))))))))
theorem Md:KR JM Es:=cT Eq rfl ⟨rfl,rfl⟩ (by kernel_rfl)
def Lt (x0 x1:X):Option Bool:=(if (x0.1 != x1.1)=true then (some false) else (if (x0.2.1 != x1.2.1)=true then (some false) else (if (x0.2.2.1 != x1.2.2.1)=true then (some false) else (if (x0.2.2.2.1 != x1.2.2.2.1)=true then (some false) else (if (x0.2.2.2.2.1 != x1.2.2.2.2.1)=true then (some false) else (if (!(x0.2.2.2.2.2.toList==x1.2.2.2.2.2.toList))=true then (some false) else (some true)))))))
theorem O5:KR Lt Hm:=cT Dz rfl ⟨rfl,rfl⟩ (by kernel_rfl)
def HA:=cG EE (An As) (An As) kx
def HB:=kE 0 [] [1] 0 HA kx
def Ge:St->Option (RT (CQ.outs As)):=lG ED [] [0,1,5] 0 (An As) HB
def Do (x0:List Int) (x1 x2:Int):Option Int:=Ge ⟨[(0,.lst (.int .i64) x0),(1,.int .i64 x1),(5,.int .i64 x2)],[]⟩
def Dp (x0:List Int) (x1 x2:Int):Option Int:=(if (decide (x2<(x0.length:Int)))=true then (if 0<=x2 then (if x2<(x0.length:Int) then none else none) else none) else (some x1))
def FH (x0:List Int) (x1:Int):Option Int:=(Do x0 x1 0)
theorem Gf:Me Dp Do:=lS (by kernel_rfl)
theorem IW:KR FH DC:=cT As rfl ⟨rfl,rfl⟩ (by kernel_rfl)
def Gg:=cG Dc (An Am) (An Am) kx
def Gh:=kE 0 [] [1] 0 Gg kx
def GN:St->Option (RT (CQ.outs Am)):=lG Db [] [0,1,5] 0 (An Am) Gh
def Dk (x0:List X) (x1 x2:Int):Option Int:=GN ⟨[(0,.lst Ae x0),(1,.int .i64 x1),(5,.int .i64 x2)],[]⟩
def Dl (x0:List X) (x1 x2:Int):Option Int:=(if (decide (x2<(x0.length:Int)))=true then (if 0<=x2 then (if x2<(x0.length:Int) then none else none) else none) else (some x1))
def El (x0:List X) (x1:Int):Option Int:=(Dk x0 x1 0)
theorem GO:Me Dl Dk:=lS (by kernel_rfl)
theorem Hg:KR El Cy:=cT Am rfl ⟨rfl,rfl⟩ (by kernel_rfl)
end
end Go.Proofs.Ytffahmnodgnohaa.Core


namespace Go.Proofs.Ytffahmnodgnohaa.Core
open Go
theorem M7 {α:Type} {p r:List α} {v w:α} {i:Nat} (h:p.length=i):(p++v::r).set i w=p++w::r:=by
 subst h
 rw [List.set_append_right _ _ (Nat.le_refl _),Nat.sub_self,List.set_cons_zero]
theorem JN {α:Type} {p r:List α} {v d:α} {i:Nat} (h:p.length=i):(p++v::r).getD i d=v:=by
 subst h
 simp [List.getD]
theorem Qh {k:Int} (h0:0<=k) (h1:k<=9223372036854775807):IntKind.i64.wrap (Int.tdiv k 10)=k / 10:=by
 rw [Int.tdiv_eq_ediv_of_nonneg h0,Bk (by omega)]
theorem LZ:∀ (n:Nat) (k:Int) (s:ByteArray),0<=k->k<10^n->k<=9223372036854775807->s.size+n<=1000->∃ r,CN k s=some r
 | 0,k,s,h0,h1,h2,h3=>by
  have:k=0:=by simp at h1; omega
  subst this
  refine ⟨(⟨#[109]⟩:ByteArray)++s,DG ?_⟩
  unfold CO
  rw [if_neg (by decide),if_pos (by
   have:(⟨#[109]⟩:ByteArray).size=1:=rfl
   omega)]
 | n+1,k,s,h0,h1,h2,h3=>by
  by_cases hk:k>0
  ·have hs:∀ d:Int,(Dx ([d]:List Int)).size=1:=fun d=>rfl
   obtain ⟨r,hr⟩:=LZ n (k / 10) (Dx ([(IntKind.u8.wrap (IntKind.i64.wrap (48+(Int.tmod k 10))))]:List Int)++s) (by omega) (by rw [Int.pow_succ] at h1; omega) (by omega) (by rw [ByteArray.size_append,hs]; omega)
   refine ⟨r,DG ?_⟩
   unfold CO
   rw [if_pos (by simpa using hk),if_neg (by decide),if_pos (by rw [hs]; omega),if_neg (by decide),Qh h0 h2]
   exact hr
  ·have:k=0:=by omega
   subst this
   refine ⟨(⟨#[109]⟩:ByteArray)++s,DG ?_⟩
   unfold CO
   rw [if_neg (by decide),if_pos (by
    have:(⟨#[109]⟩:ByteArray).size=1:=rfl
    omega)]
noncomputable def Hp (k:Int):ByteArray:=(Ac k).getD AA
theorem CP {k:Int} (h:k<=9223372036854775807):Ac k=some (Hp k):=by
 have:∃ r,Ac k=some r:=by
  by_cases h0:k<=0
  ·refine ⟨(⟨#[109,48]⟩:ByteArray),GZ ?_⟩
   unfold ET
   rw [if_pos (by simpa using h0)]
  ·obtain ⟨r,hr⟩:=LZ 19 k ⟨#[]⟩ (by omega) (by omega) h (by decide)
   refine ⟨r,GZ ?_⟩
   unfold ET
   rw [if_neg (by simpa using h0)]
   exact hr
 obtain ⟨r,hr⟩:=this
 unfold Hp
 rw [hr]
 rfl

theorem Kg (a b c:Int):Er a b c=some (decide (b<=a)&&decide (a<=c)):=Mc (by
 unfold I8
 by_cases h:b<=a<;>simp [h])
theorem JO (a b c:Int):De a b c=some (decide (b<=a)&&decide (a<=c)):=LW (by
 unfold G2
 by_cases h:b<=a<;>simp [h])

abbrev OH:Type:=Int×Int×ByteArray×List (Int×Int×Int×Int×Int×ByteArray)×Bool×List Int×Bool
abbrev QS:Type:=Int×Int×ByteArray
def NQ (k:Nat):OH:=(((k+1:Nat):Int),(0:Int),AA,[],false,[],false)
def B4 (v t:Int):(List QS×List OH×List (Int×Int×Int×Int×Int×ByteArray)×List ByteArray)×Bool :=
 if (1<=v/\v<=5)/\(1<=t/\t<=4) then ((List.replicate v.toNat ((0:Int),(0:Int),AA),(List.range' 0 t.toNat).map NQ,[],[]),true) else (([],[],[],[]),false)
theorem Q8 (n:Nat) (hn:n<=4) (a b c d e g i):∀ k,k<=n->∀ z:List OH,z.length=k->BY (n:Int) (k:Int) a b c d e z g i=some ((e,z++(List.range' k (n-k)).map NQ,g,i),true) :=
 QL (P:=fun k=>∀ z:List OH,z.length=k->BY (n:Int) (k:Int) a b c d e z g i=some ((e,z++(List.range' k (n-k)).map NQ,g,i),true)) (fun z hz=>EK (by
  unfold Ck
  rw [if_neg (by simp),Nat.sub_self]
  simp)) (fun k hk ih z hz=>EK (by
  unfold Ck
  rw [if_pos (by simpa using hk),if_pos (by rw [hz]; simp; omega),Dt (show k<9223372036854775807 by omega),ih _ (by simp [hz])]
  have e1:n-k=(n-(k+1))+1:=by omega
  rw [e1,List.range'_succ]
  simp [NQ]))
theorem Q9 (n:Nat) (hn:n<=4) (a b c d e g i):∀ k,k<=n->∀ z:List OH,z.length=k->BX (n:Int) ((k+1:Nat):Int) a b c d e z g i=some ((e,z++(List.range' k (n-k)).map NQ,g,i),true) :=
 QL (P:=fun k=>∀ z:List OH,z.length=k->BX (n:Int) ((k+1:Nat):Int) a b c d e z g i=some ((e,z++(List.range' k (n-k)).map NQ,g,i),true)) (fun z hz=>EH (by
  unfold Cj
  rw [if_neg (by simp; omega),Nat.sub_self]
  simp)) (fun k hk ih z hz=>EH (by
  unfold Cj
  rw [if_pos (by simp; omega),if_pos (by rw [hz]; simp; omega),Dt (show k+1<9223372036854775807 by omega),ih _ (by simp [hz])]
  have e1:n-k=(n-(k+1))+1:=by omega
  rw [e1,List.range'_succ]
  simp [NQ]))
theorem KH (v t:Int):Ca v t=some (B4 v t):=I7 (by
 unfold FZ B4
 simp only [JO,J]
 by_cases h1:1<=v/\v<=5
 ·by_cases h2:1<=t/\t<=4
  ·rw [if_pos (by simp; omega),if_neg (by simp; omega),if_pos ⟨h1,h2⟩]
   refine G1 ?_
   unfold EJ
   have:=Q8 t.toNat (by omega) [] [] [] [] (List.replicate v.toNat ((0:Int),(0:Int),AA)) [] [] 0 (by omega) [] rfl
   rw [show ((t.toNat:Nat):Int)=t by omega] at this
   rw [if_pos (by omega),if_pos (by omega)]
   exact this
  ·rw [if_pos (by simp; omega),if_pos (by rw [<- Bool.decide_and,decide_eq_false h2]; rfl),if_neg (fun h=>h2 h.2)]
 ·rw [if_neg (by rw [<- Bool.decide_and,decide_eq_false h1]; simp),if_neg (fun h=>h1 h.1)])
theorem M8 (v t:Int):Dd v t=some (B4 v t):=I6 (by
 unfold FY B4
 simp only [Kg,J]
 by_cases h1:1<=v/\v<=5
 ·by_cases h2:1<=t/\t<=4
  ·rw [if_pos (by simp; omega),if_neg (by simp; omega),if_pos ⟨h1,h2⟩]
   refine Gz ?_
   unfold EG
   have:=Q9 t.toNat (by omega) [] [] [] [] (List.replicate v.toNat ((0:Int),(0:Int),AA)) [] [] 0 (by omega) [] rfl
   rw [show ((t.toNat:Nat):Int)=t by omega] at this
   rw [if_pos (by omega),if_pos (by omega)]
   exact this
  ·rw [if_pos (by simp; omega),if_pos (by rw [<- Bool.decide_and,decide_eq_false h2]; rfl),if_neg (fun h=>h2 h.2)]
 ·rw [if_neg (by rw [<- Bool.decide_and,decide_eq_false h1]; simp),if_neg (fun h=>h1 h.1)])
noncomputable def EU:Int->Nat->List QS
 | _,0=>[]
 | k,n+1=>(k,k+1,Hp (k+2))::EU (k+3) n
noncomputable def EV:Int->Nat->List OH
 | _,0=>[]
 | k,n+1=>(k,k+1,Hp (k+2),[],(Int.tmod (k+3) 3==0),[],(Int.tmod (k+4) 3==0))::EV (k+5) n
theorem La:∀ (r p:List QS) (k:Int),0<=k->k+3*(r.length:Int)<=4611686018427387904->p.length+r.length<=4611686018427387904 ->
  Bt k (p.length:Int) (p++r)=some (k+3*(r.length:Int),p++EU k r.length)
 | [],p,k,h0,h1,h2=>EL (by
  unfold Cl
  rw [if_neg (by simp)]
  simp [EU])
 | v::r,p,k,h0,h1,h2=>EL (by
  simp only [List.length_cons] at h1 h2
  unfold Cl
  have w1:IntKind.i64.wrap (k+1)=k+1:=Bk (by omega)
  have w2:IntKind.i64.wrap (k+1+1)=k+2:=by rw [Bk (by omega)]; omega
  have w3:IntKind.i64.wrap (k+2+1)=k+3:=by rw [Bk (by omega)]; omega
  have hl:∀ m:QS,((p.length:Int)<((p++m::r).length:Int)):=fun m=>by simp only [List.length_append,List.length_cons]; omega
  have ih:=La r (p++[(k,k+1,Hp (k+2))]) (k+3) (by omega) (by omega) (by simp only [List.length_append,List.length_cons,List.length_nil]; omega)
  simp only [List.length_append,List.length_cons,List.length_nil,BO,List.cons_append,List.nil_append] at ih
  simp only [hl,decide_true,if_true,show (0:Int)<=(p.length:Int) from by omega,CP (show k+2<=9223372036854775807 by omega),J,w1,w2,w3,Ko,M7 rfl,JN rfl,Dt (show p.length<9223372036854775807 by omega)]
  rw [show p.length+(0+1)=p.length+1 from rfl] at ih
  rw [ih]
  simp only [EU,List.length_cons]
  congr 2
  omega)
theorem Lb:∀ (n:Nat) (p:List QS) (k:Int),0<=k->k+3*(n:Int)<=4611686018427387904->p.length+n<=4611686018427387904 ->
  Bu (p++EU k n) k (p.length:Int)=some (k+3*(n:Int))
 | 0,p,k,h0,h1,h2=>EM (by
  unfold Cm
  rw [if_neg (by simp [EU])]
  simp)
 | n+1,p,k,h0,h1,h2=>EM (by
  unfold Cm
  simp only [EU]
  have w1:IntKind.i64.wrap (k+1)=k+1:=Bk (by omega)
  have w2:IntKind.i64.wrap (k+1+1)=k+2:=by rw [Bk (by omega)]; omega
  have w3:IntKind.i64.wrap (k+2+1)=k+3:=by rw [Bk (by omega)]; omega
  have hl:((p.length:Int)<((p++(k,k+1,Hp (k+2))::EU (k+3) n).length:Int)):=by simp only [List.length_append,List.length_cons]; omega
  have ih:=Lb n (p++[(k,k+1,Hp (k+2))]) (k+3) (by omega) (by omega) (by simp only [List.length_append,List.length_cons,List.length_nil]; omega)
  simp only [List.length_append,List.length_cons,List.length_nil,BO,List.cons_append,List.nil_append] at ih
  simp only [hl,decide_true,if_true,show (0:Int)<=(p.length:Int) from by omega,CP (show k+2<=9223372036854775807 by omega),J,w1,w2,w3,Ko,JN rfl,Dt (show p.length<9223372036854775807 by omega)]
  rw [show p.length+(0+1)=p.length+1 from rfl] at ih
  rw [ih]
  simp
  omega)
theorem Q_ (k:Int):Cy [] k=some k:=Hg (by
 unfold El
 exact GO (by unfold Dl; rfl))
theorem RA (k:Int):DC [] k=some k:=IW (by
 unfold FH
 exact Gf (by unfold Dp; rfl))
theorem hN (k:Int):Cv [] k=some k:=Jz (by
 unfold F8
 exact Hf (by unfold Ek; rfl))
theorem hI (k:Int):EP [] k=some k:=KZ (by
 unfold GV
 exact IG (by unfold FC; rfl))
def QM (x:OH):Prop:=x.2.2.2.1=[]/\x.2.2.2.2.2.1=[]
theorem Lc:∀ (r p:List OH) (k:Int),(∀ x∈r,QM x)->0<=k->k+5*(r.length:Int)<=4611686018427387904->p.length+r.length<=4611686018427387904 ->
  CL k (p.length:Int) (p++r)=some (k+5*(r.length:Int),p++EV k r.length)
 | [],p,k,hb,h0,h1,h2=>FD (by
  unfold DE
  rw [if_neg (by simp)]
  simp [EV])
 | v::r,p,k,hb,h0,h1,h2=>FD (by
  simp only [List.length_cons] at h1 h2
  unfold DE
  obtain ⟨b1,b2⟩:=hb v (List.mem_cons_self ..)
  have w1:IntKind.i64.wrap (k+1)=k+1:=Bk (by omega)
  have w2:IntKind.i64.wrap (k+1+1)=k+2:=by rw [Bk (by omega)]; omega
  have w3:IntKind.i64.wrap (k+2+1)=k+3:=by rw [Bk (by omega)]; omega
  have w4:IntKind.i64.wrap (k+3+1)=k+4:=by rw [Bk (by omega)]; omega
  have w5:IntKind.i64.wrap (k+4+1)=k+5:=by rw [Bk (by omega)]; omega
  have hl:∀ m:OH,((p.length:Int)<((p++m::r).length:Int)):=fun m=>by simp only [List.length_append,List.length_cons]; omega
  have ih:=Lc r (p++[(k,k+1,Hp (k+2),[],(Int.tmod (k+3) 3==0),[],(Int.tmod (k+4) 3==0))]) (k+5) (fun x hx=>hb x (List.mem_cons_of_mem _ hx)) (by omega) (by omega) (by simp only [List.length_append,List.length_cons,List.length_nil]; omega)
  simp only [List.length_append,List.length_cons,List.length_nil,BO,List.cons_append,List.nil_append] at ih
  have n3:¬ (3:Int)=0:=by omega
  have n4:¬ (3:Nat)=0:=by omega
  simp only [hl,decide_true,if_true,show (0:Int)<=(p.length:Int) from by omega,CP (show k+2<=9223372036854775807 by omega),J,w1,w2,w3,Ko,M7 rfl,JN rfl,Dt (show p.length<9223372036854775807 by omega),b1,b2,Q_,RA,w4,w5,if_neg n3,if_neg n4]
  rw [show p.length+(0+1)=p.length+1 from rfl] at ih
  rw [ih]
  simp only [EV,List.length_cons]
  congr 2
  omega)
theorem Ld:∀ (n:Nat) (p:List OH) (k:Int),0<=k->k+5*(n:Int)<=4611686018427387904->p.length+n<=4611686018427387904 ->
  CM (p++EV k n) k (p.length:Int)=some (k+5*(n:Int))
 | 0,p,k,h0,h1,h2=>FF (by
  unfold DF
  rw [if_neg (by simp [EV])]
  simp)
 | n+1,p,k,h0,h1,h2=>FF (by
  unfold DF
  simp only [EV]
  have w1:IntKind.i64.wrap (k+1)=k+1:=Bk (by omega)
  have w2:IntKind.i64.wrap (k+1+1)=k+2:=by rw [Bk (by omega)]; omega
  have w3:IntKind.i64.wrap (k+2+1)=k+3:=by rw [Bk (by omega)]; omega
  have w4:IntKind.i64.wrap (k+3+1)=k+4:=by rw [Bk (by omega)]; omega
  have w5:IntKind.i64.wrap (k+4+1)=k+5:=by rw [Bk (by omega)]; omega
  have hl:((p.length:Int)<((p++(k,k+1,Hp (k+2),[],(Int.tmod (k+3) 3==0),[],(Int.tmod (k+4) 3==0))::EV (k+5) n).length:Int)):=by simp only [List.length_append,List.length_cons]; omega
  have ih:=Ld n (p++[(k,k+1,Hp (k+2),[],(Int.tmod (k+3) 3==0),[],(Int.tmod (k+4) 3==0))]) (k+5) (by omega) (by omega) (by simp only [List.length_append,List.length_cons,List.length_nil]; omega)
  simp only [List.length_append,List.length_cons,List.length_nil,BO,List.cons_append,List.nil_append] at ih
  have n3:¬ (3:Int)=0:=by omega
  have n4:¬ (3:Nat)=0:=by omega
  have c3:decide (k+3<0)=false:=by simp; omega
  have c4:decide (k+4<0)=false:=by simp; omega
  simp only [hl,decide_true,if_true,show (0:Int)<=(p.length:Int) from by omega,CP (show k+2<=9223372036854775807 by omega),J,w1,w2,w3,w4,w5,Ko,JN rfl,Dt (show p.length<9223372036854775807 by omega),hN,hI,if_neg n3,if_neg n4,c3,c4,JP,beq_self_eq_true,bne_self_eq_false,Bool.false_eq_true,if_false,Bool.not_true]
  rw [show p.length+(0+1)=p.length+1 from rfl] at ih
  rw [ih]
  congr 1
  omega)
theorem Le (v t:Int):(B4 v t).1.1.length<=5/\(B4 v t).1.2.1.length<=4/\(B4 v t).1.2.2=([],[])/\∀ x∈(B4 v t).1.2.1,QM x:=by
 unfold B4
 split
 ·refine ⟨by simp; omega,by simp; omega,rfl,fun x hx=>?_⟩
  obtain ⟨k,_,rfl⟩:=List.mem_map.1 hx
  exact ⟨rfl,rfl⟩
 ·exact ⟨by simp,by simp,rfl,fun x hx=>by simp at hx⟩
theorem RB (a:QS):Di a a=some true:=LY (by unfold G_; simp)
theorem Q3:Df [] []=some true:=LX (by
 unfold G3
 rw [if_neg (by simp)]
 exact JD (by unfold Fa; rfl))
theorem RC:Fh [] []=some true:=Lr (by
 unfold Hn
 rw [if_neg (by simp)]
 exact Jr (by unfold F5; rfl))
theorem RD:Du [] []=some true:=Jx (by
 unfold F6
 rw [if_neg (by simp)]
 exact HW (by unfold Ei; rfl))
theorem RE {a:OH} (h:QM a):Es a a=some true:=Md (by
 unfold JM
 rw [h.1,h.2,Q3,RC]
 simp [JP])
theorem Pt {α:Type} {x:List α} {d:α} {L:Int->Option Bool} {f:α->α->Option Bool} (hf:∀ a∈x,f a a=some true) (hn:x.length<=68719476736)
  (h:∀ i r,(if decide (i<(x.length:Int))=true then (if 0<=i then (if i<(x.length:Int) then (if 0<=i then (if i<(x.length:Int) then ((f (x.getD i.toNat d) (x.getD i.toNat d)).bind fun y=>(if (!y)=true then some false else L (IntKind.i64.wrap (i+(1:Int))))) else none) else none) else none) else none) else some true)=some r->L i=some r) :
  L 0=some true :=
 QL (n:=x.length) (P:=fun i=>L (i:Int)=some true) (by
  refine h _ _ ?_
  simp) (fun i hi ih=>by
  refine h _ _ ?_
  simp only [show ((i:Int)<(x.length:Int)) from by omega,decide_true,if_true,show (0:Int)<=(i:Int) from by omega,Ko,hf _ (Pn hi▸Kh _),J,Dt (show i<9223372036854775807 by omega)]
  simpa using ih) 0 (by omega)
theorem Q4 (v t:Int):Cu (B4 v t).1 (B4 v t).1=some true:=Jp (by
 obtain ⟨h1,h2,h3,h4⟩:=Le v t
 unfold F4
 have e1:EQ (B4 v t).1.1 (B4 v t).1.1=some true:=Ka (by
  unfold GW
  rw [if_neg (by simp)]
  exact Pt (L:=fun i=>CK _ _ i) (f:=Di) (fun a _=>RB a) (by omega) (fun i r h=>IJ h))
 have e2:Fi (B4 v t).1.2.1 (B4 v t).1.2.1=some true:=Ls (by
  unfold Ho
  rw [if_neg (by simp)]
  exact Pt (L:=fun i=>Cw _ _ i) (f:=Es) (fun a ha=>RE (h4 a ha)) (by omega) (fun i r h=>Ju h))
 rw [e1,J,if_neg (by simp),e2,J,if_neg (by simp),h3,Q3,J,if_neg (by simp),RD,J,if_neg (by simp)])
theorem Qi (v t:Int):C_ 1 (B4 v t).1.1 (B4 v t).1.2.1 (B4 v t).1.2.2.1 (B4 v t).1.2.2.2 =
  some (1+3*((B4 v t).1.1.length:Int)+5*((B4 v t).1.2.1.length:Int),EU 1 (B4 v t).1.1.length,EV (1+3*((B4 v t).1.1.length:Int)) (B4 v t).1.2.1.length,[],[]):=ID (by
 obtain ⟨h1,h2,h3,h4⟩:=Le v t
 unfold FA
 have e1:Dg 1 (B4 v t).1.1=some (1+3*((B4 v t).1.1.length:Int),EU 1 (B4 v t).1.1.length):=JE (by
  unfold Fb
  simpa using La (B4 v t).1.1 [] 1 (by omega) (by omega) (by simp; omega))
 have e2:ER (1+3*((B4 v t).1.1.length:Int)) (B4 v t).1.2.1=some (1+3*((B4 v t).1.1.length:Int)+5*((B4 v t).1.2.1.length:Int),EV (1+3*((B4 v t).1.1.length:Int)) (B4 v t).1.2.1.length):=Ke (by
  unfold GX
  simpa using Lc (B4 v t).1.2.1 [] (1+3*((B4 v t).1.1.length:Int)) h4 (by omega) (by omega) (by simp; omega))
 have e3:∀ k,Dv k []=some (k,[]):=fun k=>Jy (by
  unfold F7
  exact Ha (by unfold Ej; rfl))
 have e4:∀ k,DA k []=some (k,[]):=fun k=>IQ (by
  unfold FE
  exact Gb (by unfold Dm; rfl))
 rw [e1,J,e2,J,h3,e3,J,e4]
 rfl)
theorem Qj (n m:Nat) (hn:n<=5) (hm:m<=4):CJ (EU 1 n,EV (1+3*(n:Int)) m,[],[]) 1=some (1+3*(n:Int)+5*(m:Int)):=IE (by
 unfold FB
 have e1:Dh (EU 1 n) 1=some (1+3*(n:Int)):=JH (by
  unfold Fc
  simpa using Lb n [] 1 (by omega) (by omega) (by simp; omega))
 have e2:ES (EV (1+3*(n:Int)) m) (1+3*(n:Int))=some (1+3*(n:Int)+5*(m:Int)):=Kf (by
  unfold GY
  simpa using Ld m [] (1+3*(n:Int)) (by omega) (by omega) (by simp; omega))
 have e4:∀ k,DB [] k=some k:=fun k=>IU (by
  unfold FG
  exact Gd (by unfold Dn; rfl))
 simp only [e1,J,e2,hN,e4]
 rw [if_neg (by simp; omega),if_neg (by simp; omega),if_neg (by simp; omega),if_neg (by simp; omega)])
theorem Gi (x0:Int) (_:Kd.ok (.int .i64) x0) (x1:Int) (_:Kd.ok (.int .i64) x1):C3 x0 x1=some true:=Fj (by
 unfold C4
 obtain ⟨h1,h2,h3,h4⟩:=Le x0 x1
 have hh:=Qj (B4 x0 x1).1.1.length (B4 x0 x1).1.2.1.length h1 h2
 rw [M8,J,KH,J,Q4,J,if_pos (by simp),if_neg (by simp [JP])]
 refine Eu ?_
 unfold Ce
 rw [Qi,J]
 simp only [hh,J]
 rw [if_neg (by simp; omega),if_neg (by simp),KH,J,show ((B4 x0 x1).1.1,(B4 x0 x1).1.2.1,(B4 x0 x1).1.2.2.1,(B4 x0 x1).1.2.2.2)=(B4 x0 x1).1 from rfl,Q4,J,if_pos (by simp),if_neg (by simp [JP])]
 refine Et ?_
 unfold Cd
 simp only [hh,J]
 rw [if_neg (by simp; omega),if_neg (by simp)])

theorem O1 {P:Program} {c:List Char} {rest:List (List Char)} (h:behindMainWord (wordsSigns P.initOrder.toList)=c::rest) (h1:(c == "gc".toList||c == "spec".toList)=false) (h2:(c == "cut".toList||(c == "finals".toList&&rest.head? == some "cut".toList))=true):P.make=some .cut:=by
 unfold Program.make
 rw [h]
 simp only [h1,h2]
 rfl
theorem O2 {P:Program} {c:List Char} {rest:List (List Char)} (h:behindMainWord (wordsSigns P.initOrder.toList)=c::rest) (h1:((stripLifts liftWords (c::rest)).2.head? == some "cut".toList)=true) (h2:(stripLifts liftWords (c::rest)).1=[])
  (h3:P.laysLater=false) (h4:P.bearsReflect=false) (h5:P.doorFits []=true):P.mayEnter=true:=by
 unfold Program.mayEnter
 rw [h]
 simp only [h1,h2,h3,h4,h5]
 simp
theorem O3 {P:Program} {c:List Char} {rest:List (List Char)} (h:behindMainWord (wordsSigns P.initOrder.toList)=c::rest) (h1:(c == "carried".toList)=false) (h2:(stripLifts liftWords (c::rest)).1=[]):P.liftsFinal=false:=by
 have e:(some c==some "carried".toList)=false:=h1
 unfold Program.liftsFinal Program.headLifts
 rw [h]
 simp only [List.head?_cons,e,h2]
 simp
theorem DH {a b:Bool} (h:a=true) (g:b=true):(a&&b)=true:=by rw [h,g]; rfl
theorem O4 {α:Type} [BEq α] [LawfulBEq α] {a b:α} (h:a=b):(a==b)=true:=by rw [h]; exact beq_self_eq_true b
end Go.Proofs.Ytffahmnodgnohaa.Core

namespace Go.Proofs.Ytffahmnodgnohaa.Core
open Go
set_option maxRecDepth 100000
def Q5:List Nat:=[104,97,114,110,101,115,115,32,57,52,51,54,48,100,51,54,48,102,97,48,51,101,55,56,99,49,99,55,102,52,101,50,52,51,100,50,100,97,57,53,55,57,52,98,57,49,49,99,102,51,55,51,101,101,49,49,101,100,97,49,52,100,97,99,49,98,51,56,98,51,55,99,32,99,117,116,32,97,116,32,108,111,111,112,46,101,120,97,109,112,108,101,47,103,48,48,49,56,48,47,108,97,119,115,46,70,110,69,120,97,99,116,77,115,103,84,101,120,116,32,108,111,111,112,46,101,120,97,109,112,108,101,47,103,48,48,49,56,48,47,108,97,119,115,46,70,110,69,120,97,99,116,82,101,97,100,77,115,103,32,108,111,111,112,46,101,120,97,109,112,108,101,47,103,48,48,49,56,48,47,108,97,119,115,46,70,110,77,115,103,115,32,108,111,111,112,46,101,120,97,109,112,108,101,47,103,48,48,49,56,48,47,108,97,119,115,46,70,110,69,120,97,99,116,77,101,109,98,101,114,78,101,119,32,108,111,111,112,46,101,120,97,109,112,108,101,47,103,48,48,49,56,48,47,108,97,119,115,46,70,110,69,120,97,99,116,67,111,117,110,99,105,108,78,101,119,32,108,111,111,112,46,101,120,97,109,112,108,101,47,103,48,48,49,56,48,47,108,97,119,115,46,70,110,69,120,97,99,116,71,114,111,117,112,78,101,119,32,108,111,111,112,46,101,120,97,109,112,108,101,47,103,48,48,49,56,48,47,108,97,119,115,46,70,110,65,108,111,110,101,49,50,32,108,111,111,112,46,101,120,97,109,112,108,101,47,103,48,48,49,56,48,47,108,97,119,115,46,70,110,67,104,111,115,101,110,32,108,111,111,112,46,101,120,97,109,112,108,101,47,103,48,48,49,56,48,47,108,97,119,115,46,70,110,68,101,99,105,100,101,115]
def RF:List Nat:=[99,117,116]
def RG:List (List Nat):=[[97,116],[108,111,111,112,46,101,120,97,109,112,108,101,47,103,48,48,49,56,48,47,108,97,119,115,46,70,110,69,120,97,99,116,77,115,103,84,101,120,116],[108,111,111,112,46,101,120,97,109,112,108,101,47,103,48,48,49,56,48,47,108,97,119,115,46,70,110,69,120,97,99,116,82,101,97,100,77,115,103],[108,111,111,112,46,101,120,97,109,112,108,101,47,103,48,48,49,56,48,47,108,97,119,115,46,70,110,77,115,103,115],[108,111,111,112,46,101,120,97,109,112,108,101,47,103,48,48,49,56,48,47,108,97,119,115,46,70,110,69,120,97,99,116,77,101,109,98,101,114,78,101,119],[108,111,111,112,46,101,120,97,109,112,108,101,47,103,48,48,49,56,48,47,108,97,119,115,46,70,110,69,120,97,99,116,67,111,117,110,99,105,108,78,101,119],[108,111,111,112,46,101,120,97,109,112,108,101,47,103,48,48,49,56,48,47,108,97,119,115,46,70,110,69,120,97,99,116,71,114,111,117,112,78,101,119],[108,111,111,112,46,101,120,97,109,112,108,101,47,103,48,48,49,56,48,47,108,97,119,115,46,70,110,65,108,111,110,101,49,50],[108,111,111,112,46,101,120,97,109,112,108,101,47,103,48,48,49,56,48,47,108,97,119,115,46,70,110,67,104,111,115,101,110],[108,111,111,112,46,101,120,97,109,112,108,101,47,103,48,48,49,56,48,47,108,97,119,115,46,70,110,68,101,99,105,100,101,115]]
theorem io:Try.prog.initOrder.toList=Q5.map Char.ofNat:=(congrArg String.toList (show Try.prog.initOrder=String.ofList (Q5.map Char.ofNat) from by kernel_rfl)).trans String.toList_ofList
theorem Qz:behindMainWord (wordsSigns Try.prog.initOrder.toList)=RF.map Char.ofNat::RG.map fun w=>w.map Char.ofNat:=by
 rw [io]
 kernel_rfl
theorem Q0:Try.prog.make=some .cut:=O1 Qz (by kernel_rfl) (by kernel_rfl)
theorem QN:Try.prog.mayEnter=true:=O2 Qz (by kernel_rfl) (by kernel_rfl) (by kernel_rfl) (by kernel_rfl) (by kernel_rfl)
theorem Pp:Try.prog.liftsFinal=false:=O3 Qz (by kernel_rfl) (by kernel_rfl)
theorem M9:laidOutB Try.prog=true:=by kernel_rfl
theorem NR:mapsRowed Try.prog=true:=by kernel_rfl
theorem QO:Try.prog.stopsHeard=true:=by kernel_rfl
end Go.Proofs.Ytffahmnodgnohaa.Core
