/- Texts of the proof, packed: part 3. -/
import Derived.Test.YtffahmnodgnohaaP1
import Derived.ChangeArms
import Derived.Below
import Derived.Test.YtffahmnodgnohaaProg
import Derived.Shelf.SlLaysE0
import Derived.Shelf.RegionOpenPlain
import Derived.WalkKit
import Derived.Deep.LoopGhost
import Derived.Lib.Walk
import Derived.Lib.SliceRun
import Derived.Shelf.Lays2
import Derived.Lib.JoinLaws
import Derived.Lib.AppendZeros
import Derived.Lib.Overlaps
import Derived.Laws.Externs
import Derived.Laws.IdiomCopy
import Derived.Laws.CopyRow
import Derived.Maps.AppendAt
import Derived.Shelf.Small.Strs
import Derived.Shelf.Spec.SlicesInsert
import Derived.Shelf.SlicesE.DeleteFunc
import Derived.Shelf.Strings.Builder1
import Derived.IntWalk
set_option linter.unusedVariables false
set_option linter.unusedSimpArgs false
namespace Go.Proofs.Ytffahmnodgnohaa.Core
open Go
def Kd.ok:(K:Kd)->K.T->Prop
 | .int k,n=>k.min<=n/\n<=k.max
 | .bool,_=>True
 | .str,s=>s.size<=maxLen
 | .slice e,xs=>xs.length<=maxLen/\∀ x∈xs,Kd.ok e x
 | .pair a b,x=>a.ok x.1/\b.ok x.2
 | .own _ _,_=>False
 | .ref _,_=>False
 | .fun _,_=>False
 | .clo _ _,_=>False
mutual
def NU (P:Program):Nat->TypeId->Kd->Bool
 | 0,_,_=>false
 | D+1,t,K=>match P.underlying t with
  | some (.int k)=>(match K with | .int k'=>decide (k=k') | _=>false)
  | some .bool=>(match K with | .bool=>true | _=>false)
  | some .string=>(match K with | .str=>true | _=>false)
  | some (.slice te)=>(match K with | .slice e=>P.cellsOf te==e.sz&&NU P D te e | _=>false)
  | some (.struct fs)=>P.cellsOf t==K.sz&&(match K with | .pair _ _=>true | _=>false)&&LR P D fs.toList 0 K
  | _=>false
def LR (P:Program):Nat->List Field->Nat->Kd->Bool
 | 0,_,_,_=>false
 | _+1,[],_,_=>false
 | D+1,[f],off,K=>f.offset==off&&P.cellsOf f.type==K.sz&&NU P D f.type K
 | D+1,f::g::fs,off,K=>match K with
  | .pair a b=>f.offset==off&&P.cellsOf f.type==a.sz&&NU P D f.type a&&LR P D (g::fs) (off+a.sz) b
  | _=>false
end
def NV (w:World):HP:=fun b=>w.heap[b]?
theorem SJ {w:World} {base:Nat} {a:Addr} {n:Nat} {cs:List Value} (h:w.cells? base a n=some cs):cs.length=n/\∀ i,i<n->w.cell? (a.add i)=cs[i]? := by
 unfold World.cells? at h
 split at h
 ·exact ⟨by simpa using mapM_some_length h,fun i hi=>mapM_some_get h i i (by simp [hi])⟩
 ·cases h
theorem UE (a:Addr):a.add 0=a:=by unfold Addr.add; split<;>simp_all
theorem UF {w:World} {a:Addr} {u:Value} (h:w.cell? a=some u):a=⟨a.block,a.off,none⟩/\∃ c el fz,w.heap[a.block]? = some (.cells c el fz)/\c[a.off]? = some u:=by
 obtain ⟨b,o,sp⟩:=a
 simp only [World.cell?] at h
 split at h
 ·rename_i c el fz hc
  cases sp with
  | some sp=>simp at h
  | none =>
   simp only [Option.isSome_none,Bool.false_eq_true,if_false] at h
   exact ⟨rfl,c,el,fz,hc,h⟩
 ·cases h
mutual
theorem Rl {H:Type} {enc:TypeId×Value->H} {P:Program} {w:World} {base:Nat} {spare:Nat->Bool} {held:Bool}:∀ (D:Nat) (t:TypeId) (K:Kd) (fuel:Nat) (cs:List Value) (x:DataW H×List MemPlace),NU P D t K=true ->
  DataW.trod enc P w base spare held fuel t cs=some x->∃ y:K.T,DH (NV w) K y cs/\Kd.ok K y
 | 0,t,K,fuel,cs,x,h,_=>by simp [NU] at h
 | D+1,t,K,fuel,cs,x,h,hd=>by
  unfold NU at h
  split at h
  ·rename_i k hu
   cases K<;>first | cases h | skip
   simp only [decide_eq_true_eq] at h
   subst h
   obtain ⟨n,rfl,_,hw⟩:=DataW.trod_int hu hd
   simp only [Lit.wf,O,decide_eq_true_eq] at hw
   exact ⟨n,rfl,hw⟩
  ·rename_i hu
   cases K<;>first | cases h | skip
   obtain ⟨b,rfl,_⟩:=DataW.trod_bool hu hd
   exact ⟨b,rfl,trivial⟩
  ·rename_i hu
   cases K<;>first | cases h | skip
   obtain ⟨s,rfl,_,hs⟩:=DataW.trod_string hu hd
   exact ⟨s,rfl,hs⟩
  ·rename_i te hu
   cases K<;>first | cases h | skip
   rename_i e
   simp only [O,beq_iff_eq] at h
   rcases DataW.trod_slice hu hd with ⟨rfl,_⟩ | ⟨a,len,cap,elems,rest,n,_,rfl,_,_,hl,hm,hlen,hel,_⟩
   ·exact ⟨[],⟨_,rfl,KA⟩,by simp [Kd.ok]⟩
   ·have each:∀ i,i<len->∃ y:e.T,∃ cs',w.cells? base (a.add (i*e.sz)) e.sz=some cs'/\DH (NV w) e y cs'/\Kd.ok e y:=by
     intro i hi
     have h1:=hel i hi
     rw [h.1] at h1
     have h2:elems[i]? = some (elems[i]'(by omega)):=by simp
     rw [h2] at h1
     cases hq:w.cells? base (a.add (i*e.sz)) e.sz with
     | none=>rw [hq] at h1; cases h1
     | some cs' =>
      rw [hq] at h1
      simp only [J] at h1
      obtain ⟨y,h3,h4⟩:=Rl D te e n cs' _ h.2 h1
      exact ⟨y,cs',rfl,h3,h4⟩
    have all:∀ m,m<=len->∃ ys:List e.T,ys.length=m/\∀ i y,ys[i]? = some y->∃ cs',w.cells? base (a.add (i*e.sz)) e.sz=some cs'/\DH (NV w) e y cs'/\Kd.ok e y:=by
     intro m
     induction m with
     | zero=>intro _; exact ⟨[],rfl,fun i y h=>by simp at h⟩
     | succ m ih =>
      intro hm
      obtain ⟨ys,l,hy⟩:=ih (by omega)
      obtain ⟨y,cs',g1,g2,g3⟩:=each m (by omega)
      refine ⟨ys++[y],by simp [l],fun i z hz=>?_⟩
      rcases Aw i ys.length with hi | hi
      ·rw [Ab hi] at hz
       exact hy i z hz
      ·rw [BG hi] at hz
       have hi0:i-ys.length=0:=by
        have:=(AQ.1 hz).1
        simp at this
        omega
       rw [hi0] at hz
       simp at hz
       subst hz
       have:i=m:=by omega
       subst this
       exact ⟨cs',g1,g2,g3⟩
    obtain ⟨ys,l,hy⟩:=all len (Nat.le_refl _)
    have hok:ys.length<=maxLen/\∀ y∈ys,Kd.ok e y:=by
     refine ⟨by omega,fun y hm=>?_⟩
     obtain ⟨i,hi⟩:=List.mem_iff_getElem?.1 hm
     obtain ⟨_,_,_,g⟩:=hy i y hi
     exact g
    refine ⟨ys,⟨_,rfl,some a,cap,by rw [l],by omega,?_⟩,hok⟩
    cases hys:ys with
    | nil=>exact .inl rfl
    | cons y0 yr =>
     right
     have hsz:=Kd.sz_pos e
     obtain ⟨cs0,g1,g2,_⟩:=hy 0 y0 (by rw [hys]; rfl)
     obtain ⟨l0,c0⟩:=SJ g1
     have hc0:=c0 0 hsz
     have hcs0:cs0[0]? = some (cs0[0]'(by omega)):=by simp
     rw [hcs0,Nat.zero_mul,UE,UE] at hc0
     obtain ⟨ea,c,el,fz,hb,_⟩:=UF hc0
     have addadd:∀ x y:Nat,(a.add x).add y=⟨a.block,a.off+(x+y),none⟩:=by
      intro x y
      rw [ea,Addr.add_none,Addr.add_none,Nat.add_assoc]
     refine ⟨a.block,a.off,c,el,fz,by rw [<- ea],hb,fun j y hj=>?_⟩
     obtain ⟨cs',g3,g4,_⟩:=hy j y (by rw [hys]; exact hj)
     obtain ⟨l1,c1⟩:=SJ g3
     refine ⟨cs',g4,l1,fun i u hu=>?_⟩
     have hi:i<e.sz:=by rw [<- l1]; exact (AQ.1 hu).1
     have h3:=c1 i hi
     rw [hu,addadd] at h3
     obtain ⟨_,c2,el2,fz2,hb2,h4⟩:=UF h3
     rw [hb] at hb2
     cases hb2
     rw [Nat.add_assoc]
     exact h4
  ·rename_i fs hu
   simp only [O,beq_iff_eq] at h
   obtain ⟨⟨hc,_⟩,h⟩:=h
   obtain ⟨xs,n,_,_,hl,_,hf⟩:=DataW.trod_struct hu hd
   have:=Q_ (w:=w) (P:=P) D fs.toList 0 K n cs xs h (fun i f hi=>hf i f (by simpa using hi)) (by
    have:xs.length=fs.size:=by assumption
    simpa using this)
   obtain ⟨y,h1,h2⟩:=this
   refine ⟨y,?_,h2⟩
   rw [hc] at hl
   rw [List.drop_zero,List.take_of_length_le (by omega)] at h1
   exact h1
  ·cases h
theorem Q_ {H:Type} {enc:TypeId×Value->H} {P:Program} {w:World} {base:Nat} {spare:Nat->Bool} {held:Bool}:∀ (D:Nat) (fs:List Field) (off:Nat) (K:Kd) (fuel:Nat) (cs:List Value) (xs:List (DataW H×List MemPlace)),LR P D fs off K=true ->
  (∀ (i:Nat) (f:Field),fs[i]? = some f->DataW.trod enc P w base spare held fuel f.type ((cs.drop f.offset).take (P.cellsOf f.type))=xs[i]?)->xs.length=fs.length->∃ y:K.T,DH (NV w) K y ((cs.drop off).take K.sz)/\Kd.ok K y
 | 0,fs,off,K,fuel,cs,xs,h,_,_=>by simp [LR] at h
 | D+1,[],off,K,fuel,cs,xs,h,_,_=>by simp [LR] at h
 | D+1,[f],off,K,fuel,cs,xs,h,hf,hl=>by
  simp only [LR,O,beq_iff_eq] at h
  obtain ⟨⟨rfl,hc⟩,ht⟩:=h
  have h1:=hf 0 f rfl
  rw [hc] at h1
  have h2:xs[0]? = some (xs[0]'(by simp at hl; omega)):=by simp
  rw [h2] at h1
  exact Rl D f.type K fuel _ _ ht h1
 | D+1,f::g::fs,off,K,fuel,cs,xs,h,hf,hl=>by
  simp only [LR] at h
  cases K with
  | pair a b =>
   simp only [O,beq_iff_eq] at h
   obtain ⟨⟨⟨rfl,hc⟩,ht⟩,hr⟩:=h
   have h1:=hf 0 f rfl
   rw [hc] at h1
   have h2:xs[0]? = some (xs[0]'(by simp at hl; omega)):=by simp
   rw [h2] at h1
   obtain ⟨y1,r1,o1⟩:=Rl D f.type a fuel _ _ ht h1
   obtain ⟨y2,r2,o2⟩:=Q_ (w:=w) (P:=P) D (g::fs) (f.offset+a.sz) b fuel cs (xs.drop 1) hr (fun i q hi=>by
    have:=hf (i+1) q (by simpa using hi)
    rw [this,BU,Nat.add_comm]) (by simp at hl ⊢; omega)
   refine ⟨(y1,y2),⟨_,_,?_,r1,r2⟩,o1,o2⟩
   apply List.ext_getElem?
   intro i
   have l1:=r1.length
   have l2:=r2.length
   simp only [Kd.sz]
   rcases Aw i a.sz with hi | hi
   ·rw [Ab (by omega)]
    simp only [Ay,BU]
    rw [if_pos (by omega),if_pos hi]
   ·rw [BG (by omega),l1]
    simp only [Ay,BU]
    by_cases h3:i<a.sz+b.sz
    ·rw [if_pos h3,if_pos (by omega)]
     congr 1
     omega
    ·rw [if_neg h3,if_neg (by omega)]
  | _=>cases h
end
theorem YD {H:Type} {enc:TypeId×Value->H} {P:Program} {w:World} {base:Nat} {spare:Nat->Bool} {held:Bool} {t:TypeId} {K:Kd} {v:Value} {d:DataW H} {p:List MemPlace} (h:NU P 40 t K=true) (hf:HA K v)
  (hd:DataW.Trod enc P w base spare held t v d p):∃ x:K.T,VE (NV w) (K.av x) v/\Kd.ok K x:=by
 obtain ⟨fuel,hd⟩:=hd
 obtain ⟨x,h1,h2⟩:=Rl 40 t K fuel _ _ h hd
 exact ⟨x,Wg h1 hf,h2⟩
theorem ZS {P:Program} {W:World} {r:Reach} {base:Nat} {t:TypeId} {K:Kd} {v:Value} (h:NU P 40 t K=true) (hv:Value.okWide P W r base t v):HA K v:=by
 unfold NU at h
 split at h
 ·rename_i k hu
  obtain ⟨n,rfl⟩:=WideShapes.okWide_int hu hv
  cases K<;>first | cases h | rfl
 ·rename_i hu
  obtain ⟨n,rfl⟩:=WideShapes.okWide_bool hu hv
  cases K<;>first | rfl | cases h
 ·rename_i hu
  obtain ⟨n,rfl⟩:=WideShapes.okWide_string hu hv
  cases K<;>first | rfl | cases h
 ·rename_i te hu
  obtain ⟨a,l,c,rfl⟩:=WideShapes.okWide_slice hu hv
  cases K<;>first | cases h | rfl
 ·rename_i fs hu
  obtain ⟨cs,rfl,_⟩:=WideShapes.okWide_struct hu hv
  simp only [O] at h
  cases K<;>first | exact ⟨_,rfl⟩ | cases h.1.2
 ·cases h
theorem YE (w:World) (φ:Az):SR (NV w) φ [] w:=by
 refine ⟨fun b o h=>h,fun id bx h=>by simp at h,fun i j bi bj h=>by simp at h,fun i bi h=>by simp at h,fun id cs h=>by simp at h⟩
theorem XN {P:Program} {NM:Nat->Option Bs} {C6:C1} (ht:YC P NM) (hp:EE P C6) {k f:Nat} {args:List AV} (h:OH NM C6 k f args []=some [.bool true]) {W:World} {cargs:List Value}
  (ha:AT (VE (NV W)) args cargs) (hlt:f<BD:=by decide):Calls P f cargs.toArray W fun e W'=>e=.returned (.bool true)/\RowKit.Below W.heap.size W W':=by
 obtain ⟨_,_,n,hn,hc⟩:=(VY ht hp k).2 f args [] _ (.inl hlt) h
 rw [Nat.mod_eq_of_lt hlt] at hc
 have hn:n=1:=by simpa using hn
 subst hn
 have opens:∀ {aw:List AV} {vs:List Value} (k:Nat),AT (VE (NV W)) aw vs->BZ k aw=aw/\AY (cellsOf aw)=[]:=by
  intro aw
  induction aw with
  | nil=>intro vs k _; exact ⟨rfl,rfl⟩
  | cons a aw ih =>
   intro vs k h
   obtain ⟨v,r,rfl,h1,h2⟩:=h
   obtain ⟨o1,o2,o3⟩:=h1.opens k
   obtain ⟨i1,i2⟩:=ih (k+AD a.cells) h2
   refine ⟨by simp only [BZ,o1,i1],?_⟩
   simp only [cellsOf,List.flatMap_cons] at i2 ⊢
   rw [BA,o3,i2]
   rfl
 have hst:Ao [] args=[]:=by
  rw [EQ,BA,(opens 0 ha).2]
  rfl
 have:=hc (NV W) (fun _=>.nilIface) W cargs (by rw [hst]; exact YE W _) (by rw [(opens _ ha).1,hst]; exact ha.imp fun _ _ h=>VB.of_VE h)
 refine this.mono fun e W' he=>?_
 cases e with
 | returned v =>
  obtain ⟨H',φ',_,_,f,hr⟩:=he
  have hv:v=.bool true:=hr
  subst hv
  rw [hst] at f
  exact ⟨rfl,f.os,f.tape,f.output,f.size,fun k hk=>f.old k hk fun j hj=>by simp at hj⟩
 | panicked c=>exact he.elim
 | outgrown=>exact he.elim

def Ev (p:Nat->Prop):Prop:=∃ m,∀ k,m<=k->p k
theorem Ev.mono {p q:Nat->Prop} (h:Ev p) (f:∀ k,p k->q k):Ev q:=h.elim fun m hm=>⟨m,fun k hk=>f k (hm k hk)⟩
theorem Ev.const {p:Prop} (h:p):Ev fun _=>p:=⟨0,fun _ _=>h⟩
theorem Ev.all {p:Nat->Prop} (h:∀ k,p k):Ev p:=⟨0,fun k _=>h k⟩
theorem Ev.and {p q:Nat->Prop} (h:Ev p) (g:Ev q):Ev fun k=>p k/\q k:=by
 obtain ⟨m,hm⟩:=h
 obtain ⟨n,hn⟩:=g
 exact ⟨max m n,fun k hk=>⟨hm k (by omega),hn k (by omega)⟩⟩
noncomputable def Lm {ρ:Type} (u:Nat->Option ρ):Option ρ :=
 @dite _ (∃ r,Ev fun k=>u k=some r) (Classical.propDecidable _) (fun h=>some (Classical.choose h)) (fun _=>none)
theorem VZ {ρ:Type} {u:Nat->Option ρ} {r:ρ} (h:Lm u=some r):Ev fun k=>u k=some r:=by
 unfold Lm at h
 split at h
 ·rename_i hx
  cases h
  exact Classical.choose_spec hx
 ·cases h
theorem YF {ρ:Type} {u:Nat->Option ρ} {r:ρ} (h:Ev fun k=>u k=some r):Lm u=some r:=by
 have hx:∃ r,Ev fun k=>u k=some r:=⟨r,h⟩
 unfold Lm
 rw [dif_pos hx]
 obtain ⟨m,hm⟩:=(Classical.choose_spec hx).and h
 obtain ⟨a,b⟩:=hm m (Nat.le_refl _)
 rw [<- b,a]
def Conv {ρ:Type} (kn:Nat->St->Option ρ) (kl:St->Option ρ):Prop:=∀ s r,kl s=some r->Ev fun j=>kn j s=some r
theorem Conv.refl {ρ:Type} (kl:St->Option ρ):Conv (fun _=>kl) kl:=fun _ _ h=>.const h
def LT (cal:Nat->C1) (c:C1):Prop:=∀ f a b r,c f a b=some r->Ev fun j=>cal j f a b=some r
theorem LT.refl (c:C1):LT (fun _=>c) c:=fun _ _ _ _ h=>.const h
abbrev Lp (ρ:Type):Type:=((St->Option ρ)->St->Option ρ)->St->Option ρ
def YG {ρ:Type} (F:Nat->(St->Option ρ)->St->Option ρ) (FL:(St->Option ρ)->St->Option ρ):Prop :=
 ∀ (go:Nat->St->Option ρ) (gl:St->Option ρ),Conv go gl->Conv (fun j=>F j (go j)) (FL gl)
def YH {ρ:Type} (lp:Nat->Lp ρ) (ll:Lp ρ):Prop:=∀ (F:Nat->(St->Option ρ)->St->Option ρ) (FL:(St->Option ρ)->St->Option ρ),YG F FL->(∀ j,YG (fun _=>F j) (F j))->Conv (fun j=>lp j (F j)) (ll FL)
noncomputable def FJ {ρ:Type}:Lp ρ:=fun F s=>Lm fun n=>G_ n F s
theorem YI {ρ:Type}:YH (ρ:=ρ) G_ FJ:=by
 intro F FL hF _ s r h
 have h:=VZ h
 obtain ⟨m,hm⟩:=h
 have key:∀ n,∀ g:Nat->Nat,(∀ j,n<=g j)->Conv (fun j=>G_ (g j) (F j)) (G_ n FL):=by
  intro n
  induction n with
  | zero=>intro g _ s r h; cases h
  | succ n ih =>
   intro g hg s r h
   refine (hF (fun j=>G_ (g j-1) (F j)) (G_ n FL) (ih (fun j=>g j-1) fun j=>by have:=hg j; omega) s r h).mono fun j hj=>?_
   have e:g j=(g j-1)+1:=by have:=hg j; omega
   show G_ (g j) (F j) s=some r
   rw [e]
   exact hj
 obtain ⟨k,hk⟩:=key m (fun j=>max j m) (fun j=>by omega) s r (hm m (Nat.le_refl _))
 refine ⟨max k m,fun j hj=>?_⟩
 have:=hk j (by omega)
 simp only [show max j m=j by omega] at this
 exact this
theorem Va {ρ:Type} (k:Nat):YH (ρ:=ρ) (fun _=>G_ k) (G_ k):=by
 intro F FL hF _
 induction k with
 | zero=>intro s r h; cases h
 | succ k ih=>exact hF _ _ ih
theorem SK {ρ:Type} {F:(St->Option ρ)->St->Option ρ} (hF:YG (fun _=>F) F) {s:St} {r:ρ} (h:F (FJ F) s=some r):FJ F s=some r:=by
 obtain ⟨m,hm⟩:=hF (fun j=>G_ j F) (FJ F) (fun s r h=>VZ h) s r h
 exact YF ⟨m+1,fun k hk=>by
  cases k with
  | zero=>omega
  | succ k=>exact hm k (by omega)⟩
theorem Vb {ρ:Type}:YH (ρ:=ρ) (fun _=>FJ) FJ:=by
 intro F FL hF hs s r h
 obtain ⟨m,hm⟩:=VZ h
 have key:∀ n,Conv (fun j=>FJ (F j)) (G_ n FL):=by
  intro n
  induction n with
  | zero=>intro s r h; cases h
  | succ n ih=>intro s r h; exact (hF _ _ ih s r h).mono fun j hj=>SK (hs j) hj
 exact key m s r (hm m (Nat.le_refl _))
theorem BP {α β:Type} {x:Option α} {f:Nat->α->Option β} {g:α->Option β} (h:∀ a r,g a=some r->Ev fun j=>f j a=some r) (r:β) (hx:x.bind g=some r):Ev fun j=>x.bind (f j)=some r:=by
 cases x with
 | none=>cases hx
 | some a=>exact h a r hx
theorem SL {ρ:Type} {s:St} {v:AV} {K:Kd} {kn:Nat->List K.T->Option ρ} {kl:List K.T->Option ρ} (hk:∀ a r,kl a=some r->Ev fun j=>kn j a=some r) (r:ρ) (h:s.list v K kl=some r):Ev fun j=>s.list v K (kn j)=some r:=by
 unfold St.list at h ⊢
 split at h
 ·exact hk _ _ h
 ·split at h
  ·rename_i e
   simp only [dif_pos e]
   exact hk _ _ h
  ·cases h
 ·split at h
  ·rename_i e0
   split at h
   ·rename_i e
    simp only [e0,dif_pos e]
    exact hk _ _ h
   ·cases h
  ·rename_i e0
   split at h
   ·rename_i e
    simp only [e0,dif_pos e]
    exact hk _ _ h
   ·cases h
  ·rename_i e0
   split at h
   ·rename_i e
    simp only [e0,dif_pos e]
    exact hk _ _ h
   ·cases h
  ·rename_i e0
   split at h
   ·rename_i e
    simp only [e0,dif_pos e]
    exact hk _ _ h
   ·cases h
  ·cases h
 ·cases h
theorem XO {ρ:Type} {op:BinOp} {x y:AV} {kn:Nat->AV->Option ρ} {kl:AV->Option ρ} (hk:∀ a r,kl a=some r->Ev fun j=>kn j a=some r) (r:ρ) (h:Qv op x y kl=some r):Ev fun j=>Qv op x y (kn j)=some r:=by
 have e:∀ k:AV->Option ρ,Qv op x y k=(Qv op x y some).bind k:=by
  intro k
  unfold Qv
  repeat' split
  all_goals rfl
 rw [e] at h
 simp only [e (kn _)]
 exact BP hk r h
theorem YJ {ρ:Type} {op:UnOp} {x:AV} {kn:Nat->AV->Option ρ} {kl:AV->Option ρ} (hk:∀ a r,kl a=some r->Ev fun j=>kn j a=some r) (r:ρ) (h:Wz op x kl=some r):Ev fun j=>Wz op x (kn j)=some r:=by
 unfold Wz at h ⊢
 split at h<;>first | exact hk _ _ h | cases h
theorem Vc {α β:Type} {x:Nat->Option α} {xl:Option α} {f:Nat->α->Option β} {g:α->Option β} (hx:∀ a,xl=some a->Ev fun j=>x j=some a) (h:∀ a r,g a=some r->Ev fun j=>f j a=some r) (r:β) (hr:xl.bind g=some r):Ev fun j=>(x j).bind (f j)=some r:=by
 cases xl with
 | none=>cases hr
 | some a=>exact ((hx a rfl).and (h a r hr)).mono fun j hj=>by rw [hj.1]; exact hj.2
theorem aE {ρ:Type} {cal:Nat->C1} {c:C1} {d z:Nat} {x:BL} {lo hi:Option BL} {kn:Nat->St->Option ρ} {kl:St->Option ρ} (hk:Conv kn kl) (s:St) (r:ρ) (h:B4 c kl s (.sl d z x lo hi)=some r):Ev fun j=>B4 (cal j) (kn j) s (.sl d z x lo hi)=some r:=by
 simp only [B4] at h ⊢
 split at h
 ·split at h
  ·rename_i ez
   split at h
   ·split at h
    ·rename_i g1
     split at h
     ·rename_i g2
      split at h
      ·rename_i g3
       simp only [if_pos ez,if_pos g1,if_pos g2,if_pos g3]
       exact hk _ _ h
      ·cases h
     ·cases h
    ·cases h
   ·cases h
  ·cases h
 ·split at h
  ·rename_i ez
   split at h
   ·split at h
    ·rename_i g1
     split at h
     ·rename_i g2
      split at h
      ·rename_i g3
       simp only [if_pos ez,if_pos g1,if_pos g2,if_pos g3]
       exact hk _ _ h
      ·cases h
     ·cases h
    ·cases h
   ·cases h
  ·cases h
 ·cases h
mutual
theorem SM {ρ:Type} {cal:Nat->C1} {c:C1} (hc:LT cal c):∀ (ao:Cx) {kn:Nat->St->Option ρ} {kl:St->Option ρ},Conv kn kl->∀ s r,B4 c kl s ao=some r->Ev fun j=>B4 (cal j) (kn j) s ao=some r
 | .mv d x,kn,kl,hk,s,r,h=>hk _ _ h
 | .nilrow d t K,kn,kl,hk,s,r,h=>hk _ _ h
 | .pick d c a b,kn,kl,hk,s,r,h=>by
  simp only [B4] at h ⊢
  split at h
  ·split at h<;>rename_i e<;>simp only [e,if_true,if_false,Bool.false_eq_true]<;>exact hk _ _ h
  ·cases h
 | .sc c want ops d a b,kn,kl,hk,s,r,h=>by
  simp only [B4] at h ⊢
  split at h
  ·split at h
   ·rename_i e
    simp only [e,if_true]
    exact Uj hc ops (kn:=fun j s'=>kn j (s'.put d (if want then s'.opd a else s'.opd b))) (kl:=fun s'=>kl (s'.put d (if want then s'.opd a else s'.opd b))) (fun s r h=>hk _ _ h) s r h
   ·rename_i e
    simp only [if_neg e]
    exact hk _ _ h
  ·cases h
 | .alloc d cs,kn,kl,hk,s,r,h=>hk _ _ h
 | .box d x own,kn,kl,hk,s,r,h=>by
  simp only [B4] at h ⊢
  exact BP (fun a r h=>hk _ _ h) r h
 | .build d zero parts,kn,kl,hk,s,r,h=>by
  simp only [B4] at h ⊢
  exact BP (fun a r h=>hk _ _ h) r h
 | .bnew d zero parts,kn,kl,hk,s,r,h=>by
  simp only [B4] at h ⊢
  exact BP (fun a r h=>hk _ _ h) r h
 | .brow d t K parts,kn,kl,hk,s,r,h=>by
  simp only [B4] at h ⊢
  exact BP (fun a r h=>BP (fun a r h=>hk _ _ h) r h) r h
 | .blst d K parts,kn,kl,hk,s,r,h=>by
  simp only [B4] at h ⊢
  exact BP (fun a r h=>BP (fun a r h=>hk _ _ h) r h) r h
 | .load d x n,kn,kl,hk,s,r,h=>by
  simp only [B4] at h ⊢
  refine BP (fun a r h=>?_) r h
  split at h
  ·rename_i e
   simp only [if_pos e]
   exact hk _ _ h
  ·cases h
 | .store x y m own,kn,kl,hk,s,r,h=>by
  simp only [B4] at h ⊢
  split at h
  ·rename_i e
   simp only [if_pos e]
   exact BP (fun a r h=>hk _ _ h) r h
  ·cases h
 | .nilc d x,kn,kl,hk,s,r,h=>by
  simp only [B4] at h ⊢
  split at h<;>first | exact hk _ _ h | cases h
 | .bin d op x y,kn,kl,hk,s,r,h=>by
  simp only [B4] at h ⊢
  exact XO (fun a r h=>hk _ _ h) r h
 | .eqs d neg K x y,kn,kl,hk,s,r,h=>by
  simp only [B4] at h ⊢
  exact BP (fun a r h=>BP (fun a r h=>hk _ _ h) r h) r h
 | .un d op x,kn,kl,hk,s,r,h=>by
  simp only [B4] at h ⊢
  exact YJ (fun a r h=>hk _ _ h) r h
 | .cvi d k x,kn,kl,hk,s,r,h=>by
  simp only [B4] at h ⊢
  split at h<;>first | exact hk _ _ h | cases h
 | .bts d x,kn,kl,hk,s,r,h=>by
  simp only [B4] at h ⊢
  exact SL (fun a r h=>hk _ _ h) r h
 | .fld d x off,kn,kl,hk,s,r,h=>by
  simp only [B4] at h ⊢
  split at h<;>first | exact hk _ _ h | cases h
 | .field d x off n,kn,kl,hk,s,r,h=>by
  simp only [B4] at h ⊢
  split at h
  ·split at h
   ·rename_i e
    simp only [if_pos e]
    exact hk _ _ h
   ·cases h
  ·cases h
 | .idx d z x i,kn,kl,hk,s,r,h=>by
  have e:∀ k:St->Option ρ,B4 (cal 0) k s (.idx d z x i)=(B4 (cal 0) some s (.idx d z x i)).bind k:=by
   intro k
   simp only [B4]
   repeat' split
   all_goals rfl
  have e2:∀ k:St->Option ρ,∀ c:C1,B4 c k s (.idx d z x i)=B4 (cal 0) k s (.idx d z x i):=fun k c=>by simp only [B4]
  rw [e2,e] at h
  simp only [e2 (kn _),e (kn _)]
  exact BP (fun a r h=>hk _ _ h) r h
 | .aidx d n x i,kn,kl,hk,s,r,h=>by
  simp only [B4] at h ⊢
  split at h
  ·refine BP (fun xs r h=>?_) r h
   split at h
   ·rename_i e1
    split at h
    ·rename_i e2
     split at h
     ·rename_i e3
      simp only [if_pos e1,if_pos e2,if_pos e3]
      exact hk _ _ h
     ·cases h
    ·cases h
   ·cases h
  ·cases h
 | .sidx d x i,kn,kl,hk,s,r,h=>by
  have e:∀ k:St->Option ρ,B4 (cal 0) k s (.sidx d x i)=(B4 (cal 0) some s (.sidx d x i)).bind k:=by
   intro k
   simp only [B4]
   repeat' split
   all_goals rfl
  have e2:∀ k:St->Option ρ,∀ c:C1,B4 c k s (.sidx d x i)=B4 (cal 0) k s (.sidx d x i):=fun k c=>by simp only [B4]
  rw [e2,e] at h
  simp only [e2 (kn _),e (kn _)]
  exact BP (fun a r h=>hk _ _ h) r h
 | .sl d z x lo hi,kn,kl,hk,s,r,h=>aE hk s r h
 | .mk d t K n,kn,kl,hk,s,r,h=>by
  have e:∀ k:St->Option ρ,B4 (cal 0) k s (.mk d t K n)=(B4 (cal 0) some s (.mk d t K n)).bind k:=by
   intro k
   simp only [B4]
   repeat' split
   all_goals rfl
  have e2:∀ k:St->Option ρ,∀ c:C1,B4 c k s (.mk d t K n)=B4 (cal 0) k s (.mk d t K n):=fun k c=>by simp only [B4]
  rw [e2,e] at h
  simp only [e2 (kn _),e (kn _)]
  exact BP (fun a r h=>hk _ _ h) r h
 | .fn d f caps,kn,kl,hk,s,r,h=>hk _ _ h
 | .clo d f K x,kn,kl,hk,s,r,h=>by
  simp only [B4] at h ⊢
  split at h
  ·exact BP (fun a r h=>hk _ _ h) r h
  ·cases h
 | .fbox d x,kn,kl,hk,s,r,h=>by
  simp only [B4] at h ⊢
  exact BP (fun a r h=>hk _ _ h) r h
 | .min d x y,kn,kl,hk,s,r,h=>by
  simp only [B4] at h ⊢
  split at h
  ·split at h
   ·rename_i e
    simp only [if_pos e]
    exact hk _ _ h
   ·cases h
  ·cases h
 | .app d e K a b,kn,kl,hk,s,r,h=>by
  simp only [B4] at h ⊢
  split at h
  ·split at h
   ·rename_i e1
    split at h
    ·rename_i e2
     split at h
     ·rename_i e3
      simp only [e1,dif_pos e2,if_pos e3]
      refine SL (fun a r h=>?_) r h
      split at h
      ·rename_i e4
       simp only [if_pos e4]
       exact hk _ _ h
      ·cases h
     ·cases h
    ·cases h
   ·cases h
  ·cases h
 | .apz d e K a b,kn,kl,hk,s,r,h=>by
  simp only [B4] at h ⊢
  split at h
  ·split at h
   ·rename_i e1
    split at h
    ·rename_i e2
     split at h
     ·rename_i e3
      simp only [e1,dif_pos e2,if_pos e3]
      refine SL (fun a r h=>?_) r h
      split at h
      ·rename_i e4
       simp only [if_pos e4]
       exact hk _ _ h
      ·cases h
     ·cases h
    ·cases h
   ·cases h
  ·cases h
 | .len d t x,kn,kl,hk,s,r,h=>by
  have e:∀ k:St->Option ρ,B4 (cal 0) k s (.len d t x)=(B4 (cal 0) some s (.len d t x)).bind k:=by
   intro k
   simp only [B4]
   repeat' split
   all_goals rfl
  have e2:∀ k:St->Option ρ,∀ c:C1,B4 c k s (.len d t x)=B4 (cal 0) k s (.len d t x):=fun k c=>by simp only [B4]
  rw [e2,e] at h
  simp only [e2 (kn _),e (kn _)]
  exact BP (fun a r h=>hk _ _ h) r h
 | .call d f args res,kn,kl,hk,s,r,h=>by
  simp only [B4] at h ⊢
  refine BP (fun q r h=>BP (fun bx r h=>?_) r h) r h
  split at h
  ·rename_i e
   simp only [if_pos e]
   refine Vc (fun a ha=>?_) (fun y r h=>?_) r h
   ·exact Vc (f:=fun _=>CS _) (g:=CS _) (fun a ha=>hc _ _ _ _ ha) (fun y r h=>.const h) a ha
   ·split at h
    ·rename_i e
     simp only [if_pos e]
     exact hk _ _ h
    ·cases h
  ·cases h
 | .bld d k f t x y,kn,kl,hk,s,r,h=>by
  simp only [B4] at h ⊢
  split at h
  ·rename_i id e1
   split at h
   ·rename_i T j e2
    split at h
    ·rename_i t' xs e3
     split at h
     ·rename_i e4
      cases e5:c (BD+f) [.int .i64 k,.int .i64 t,.int .i64 T] [] with
      | none=>rw [e5] at h; cases h
      | some q =>
       have hq:=hc _ _ _ _ e5
       rw [e5,J] at h
       cases e8:CS [] q with
       | none=>rw [e8] at h; cases h
       | some u =>
        rw [e8,J] at h
        split at h
        ·rename_i e6
         split at h
         ·rename_i e7
          refine (hq.and (hk _ _ h)).mono fun j hj=>?_
          simp only [e2,e3,if_pos e4,hj.1,J,e8,if_pos e6,if_pos e7]
          exact hj.2
         ·cases h
        ·rename_i e6
         cases ha:Ym k (s.opd y) with
         | none=>rw [ha] at h; cases h
         | some ys =>
          rw [ha,J] at h
          split at h
          ·rename_i e7
           refine (hq.and (hk _ _ h)).mono fun j hj=>?_
           simp only [e2,e3,if_pos e4,hj.1,J,e8,if_neg e6,ha,if_pos e7]
           exact hj.2
          ·cases h
     ·cases h
    ·cases h
   ·cases h
  ·cases h
 | .stb d t x,kn,kl,hk,s,r,h=>by
  simp only [B4] at h ⊢
  split at h
  ·exact hk _ _ h
  ·cases h
 | .ext d x i,kn,kl,hk,s,r,h=>by
  simp only [B4] at h ⊢
  split at h
  ·split at h
   ·rename_i e
    simp only [if_pos e]
    exact hk _ _ h
   ·cases h
  ·cases h
theorem Uj {ρ:Type} {cal:Nat->C1} {c:C1} (hc:LT cal c):∀ (aos:List Cx) {kn:Nat->St->Option ρ} {kl:St->Option ρ},Conv kn kl->∀ s r,PU c kl s aos=some r->Ev fun j=>PU (cal j) (kn j) s aos=some r
 | [],kn,kl,hk,s,r,h=>by simp only [PU] at h ⊢; exact hk _ _ h
 | o::os,kn,kl,hk,s,r,h=>by
  simp only [PU] at h ⊢
  exact SM hc o (fun s r h=>Uj hc os hk s r h) s r h
end
theorem MM {ρ:Type} {cal:Nat->C1} {c:C1} (hc:LT cal c) (anc:List (List Nat)) {kn:Nat->St->Option ρ} {kl:St->Option ρ} (hk:Conv kn kl):∀ (t:DT) (T:List (Nat×Nat)) s r,dK c anc kl t T s=some r->Ev fun j=>dK (cal j) anc (kn j) t T s=some r
 | .done,T,s,r,h=>hk _ _ h
 | .take i g ao d,T,s,r,h=>by
  simp only [dK] at h ⊢
  split at h
  ·rename_i e
   simp only [if_pos e]
   exact SM hc ao (fun s r h=>MM hc anc hk d _ s r h) s r h
  ·cases h
 | .skip i g d t,T,s,r,h=>by
  simp only [dK] at h ⊢
  split at h
  ·rename_i e
   simp only [if_pos e]
   exact MM hc anc hk t _ _ r h
  ·cases h
 | .only i g ao e fl d,T,s,r,h=>by
  simp only [dK] at h ⊢
  split at h
  ·rename_i e
   simp only [if_pos e]
   exact SM hc ao (fun s r h=>MM hc anc hk d _ s r h) s r h
  ·cases h
 | .test c a b,T,s,r,h=>by
  simp only [dK] at h ⊢
  split at h
  ·split at h
   ·rename_i e
    simp only [if_pos e]
    exact MM hc anc hk a _ _ r h
   ·rename_i e
    simp only [if_neg e]
    exact MM hc anc hk b _ _ r h
  ·cases h
 | .fork i ai ri j aj rj,T,s,r,h=>by
  simp only [dK] at h ⊢
  obtain ⟨ha,hb⟩:=PV.1 h
  have ea:Ev fun n=>(if (Dv ai.dsts T&&LE (anc.getD i []) (ai.touch s) s T)=true then B4 (cal n) (fun s'=>dK (cal n) anc (kn n) ri (De (anc.getD i []) T) s') s ai else none)=some r:=by
   split at ha
   ·rename_i e
    simp only [if_pos e]
    exact SM hc ai (fun s r h=>MM hc anc hk ri _ s r h) s r ha
   ·cases ha
  have eb:Ev fun n=>(if (Dv aj.dsts T&&LE (anc.getD j []) (aj.touch s) s T)=true then B4 (cal n) (fun s'=>dK (cal n) anc (kn n) rj (De (anc.getD j []) T) s') s aj else none)=some r:=by
   split at hb
   ·rename_i e
    simp only [if_pos e]
    exact SM hc aj (fun s r h=>MM hc anc hk rj _ s r h) s r hb
   ·cases hb
  exact (ea.and eb).mono fun n h=>PV.2 h
noncomputable def DS {ρ:Type} (cal:C1) (lp:Lp ρ):AP->(kn kr:St->Option ρ)->(ke:Nat->St->Option ρ)->St->Option ρ
 | .skip,kn,_,_,s=>kn s
 | .region ops live,kn,_,_,s=>PU cal (fun s'=>kn ⟨live.map fun t=>(t,Cu s'.fr t),s'.st⟩) s ops
 | .draw anc t live,kn,_,_,s=>dK cal anc (fun s'=>kn ⟨live.map fun t=>(t,Cu s'.fr t),s'.st⟩) t [] s
 | .seqc live a b,kn,kr,ke,s=>DS cal lp a (fun s'=>DS cal lp b kn kr ke (s'.cutH (Br s live) live s.st.length)) kr ke s
 | .seq a b,kn,kr,ke,s=>DS cal lp a (fun s'=>DS cal lp b kn kr ke s') kr ke s
 | .cond c a b,kn,kr,ke,s=>match s.opd c with
  | .bool t=>if t=true then DS cal lp a kn kr ke s else DS cal lp b kn kr ke s
  | _=>none
 | .block id live body,kn,kr,ke,s=>DS cal lp body (fun s'=>kn (s'.cutH (Br s live) live s.st.length)) kr (fun i s'=>if i=id then kn (s'.cutH (Br s live) live s.st.length) else ke i s') s
 | .loop live body,_,kr,ke,s=>lp (fun go s'=>DS cal lp body (fun s''=>go (s''.cutH (Br s live) live s.st.length)) kr ke s') (s.cut live s.st.length)
 | .exit id,_,_,ke,s=>ke id s
 | .ret,_,kr,_,s=>kr s
theorem He {ρ:Type} (cal:C1) (k:Nat):∀ (a:AP) (kn kr:St->Option ρ) (ke:Nat->St->Option ρ) (s:St),Db cal k a kn kr ke s=DS cal (G_ k) a kn kr ke s
 | .skip,_,_,_,_=>rfl
 | .region ..,_,_,_,_=>rfl
 | .draw ..,_,_,_,_=>rfl
 | .seqc live a b,kn,kr,ke,s=>by simp only [Db,DS,He cal k a,He cal k b]
 | .seq a b,kn,kr,ke,s=>by simp only [Db,DS,He cal k a,He cal k b]
 | .cond c a b,kn,kr,ke,s=>by
  simp only [Db,DS,He cal k a,He cal k b]
  cases s.opd c<;>rfl
 | .block id live a,kn,kr,ke,s=>by simp only [Db,DS,He cal k a]
 | .loop live a,kn,kr,ke,s=>by simp only [Db,DS,He cal k a]
 | .exit _,_,_,_,_=>rfl
 | .ret,_,_,_,_=>rfl
theorem EF {ρ:Type}:∀ (a:AP) {cal:Nat->C1} {c:C1} {lp:Nat->Lp ρ} {ll:Lp ρ} {kn kr:Nat->St->Option ρ} {kl krl:St->Option ρ} {ke:Nat->Nat->St->Option ρ} {kel:Nat->St->Option ρ},LT cal c->YH lp ll->(∀ j,YH (fun _=>lp j) (lp j)) ->
  Conv kn kl->Conv kr krl->(∀ i,Conv (fun j=>ke j i) (kel i))->Conv (fun j=>DS (cal j) (lp j) a (kn j) (kr j) (ke j)) (DS c ll a kl krl kel)
 | .skip,_,_,_,_,_,_,_,_,_,_,hc,hl,hl',hk,hr,he=>hk
 | .region ops live,_,_,_,_,_,_,_,_,_,_,hc,hl,hl',hk,hr,he=>fun s r h=>Uj hc ops (fun s r h=>hk _ r h) s r h
 | .draw anc t live,_,_,_,_,_,_,_,_,_,_,hc,hl,hl',hk,hr,he=>fun s r h=>MM hc anc (fun s r h=>hk _ r h) t [] s r h
 | .seqc live a b,_,_,_,_,_,_,_,_,_,_,hc,hl,hl',hk,hr,he=>fun s r h=>EF a hc hl hl' (fun s' r h=>EF b hc hl hl' hk hr he _ r h) hr he s r h
 | .seq a b,_,_,_,_,_,_,_,_,_,_,hc,hl,hl',hk,hr,he=>fun s r h=>EF a hc hl hl' (fun s' r h=>EF b hc hl hl' hk hr he _ r h) hr he s r h
 | .cond c a b,_,_,_,_,_,_,_,_,_,_,hc,hl,hl',hk,hr,he=>fun s r h=>by
  simp only [DS] at h ⊢
  split at h
  ·split at h
   ·rename_i e
    simp only [if_pos e]
    exact EF a hc hl hl' hk hr he s r h
   ·rename_i e
    simp only [if_neg e]
    exact EF b hc hl hl' hk hr he s r h
  ·cases h
 | .block id live a,_,_,_,_,_,_,_,_,_,_,hc,hl,hl',hk,hr,he=>fun s r h=>by
  simp only [DS] at h ⊢
  refine EF a hc hl hl' (fun s r h=>hk _ r h) hr (fun i s' r h=>?_) s r h
  split at h
  ·rename_i e
   simp only [if_pos e]
   exact hk _ r h
  ·rename_i e
   simp only [if_neg e]
   exact he i _ r h
 | .loop live a,cal,c,lp,ll,kn,kr,kl,krl,ke,kel,hc,hl,hl',hk,hr,he=>fun s r h=>by
  simp only [DS] at h ⊢
  refine hl _ _ (fun go gl hgo s' r h=>?_) (fun j go gl hgo s' r h=>?_) _ r h
  ·exact EF a hc hl hl' (fun s r h=>hgo _ r h) hr he s' r h
  ·exact EF (cal:=fun _=>cal j) (lp:=fun _=>lp j) (kn:=fun i s'=>go i (s'.cutH (Br s live) live s.st.length)) (kl:=fun s'=>gl (s'.cutH (Br s live) live s.st.length)) (kr:=fun _=>kr j) (krl:=kr j) (ke:=fun _=>ke j) (kel:=ke j) a (LT.refl _) (hl' j) (fun _=>hl' j) (fun s r h=>hgo _ r h) (Conv.refl _) (fun i=>Conv.refl _) s' r h
 | .exit id,_,_,_,_,_,_,_,_,_,_,hc,hl,hl',hk,hr,he=>fun s r h=>he id s r h
 | .ret,_,_,_,_,_,_,_,_,_,_,hc,hl,hl',hk,hr,he=>hr
theorem XP {ρ:Type} {cal:C1} {a:AP} {hs:List (Nat×Nat)} {live:List Nat} {n:Nat} {kr:St->Option ρ} {ke:Nat->St->Option ρ} {s:St} {r:ρ}
  (h:DS cal FJ a (fun s''=>FJ (fun go s'=>DS cal FJ a (fun s''=>go (s''.cutH hs live n)) kr ke s') (s''.cutH hs live n)) kr ke s=some r) :
  FJ (fun go s'=>DS cal FJ a (fun s''=>go (s''.cutH hs live n)) kr ke s') s=some r :=
 SK (F:=fun go s'=>DS cal FJ a (fun s''=>go (s''.cutH hs live n)) kr ke s') (fun go gl hgo s' r h=>EF (cal:=fun _=>cal) (lp:=fun _=>FJ) (kn:=fun i s'=>go i (s'.cutH hs live n)) (kl:=fun s'=>gl (s'.cutH hs live n)) (kr:=fun _=>kr) (krl:=kr) (ke:=fun _=>ke) (kel:=ke) a (LT.refl _) Vb (fun _=>Vb) (fun s r h=>hgo _ r h) (Conv.refl _) (fun i=>Conv.refl _) s' r h) h
noncomputable def YK (cal:C1) (fn:Bs) (args bs:List AV):Option (RT fn.outs) :=
 DS cal FJ fn.body (AS fn) (AS fn) (fun _ _=>none) ⟨Ha 0 (BZ (Cl bs) args),Ao bs args⟩
noncomputable def Uk (NM:Nat->Option Bs) (C6:C1):C1:=fun f a b=>Lm fun k=>OH NM C6 k f a b
theorem Pn {NM:Nat->Option Bs} {C6:C1} {f:Nat} {args bs r:List AV} (hf:NM f=none) (h:C6 f args bs=some r):Uk NM C6 f args bs=some r:=by
 refine YF ⟨1,fun k hk=>?_⟩
 cases k with
 | zero=>omega
 | succ k=>simp only [OH,hf,h]
theorem XQ {NM:Nat->Option Bs} {C6:C1} {f:Nat} {fn:Bs} {args bs:List AV} {r:RT fn.outs} (hf:NM f=some fn) (hl:args.length=fn.params.length/\bs.length=(B5 fn.params 0).length)
  (h:YK (Uk NM C6) fn args bs=some r):Uk NM C6 f args bs=some (Bp fn.outs r):=by
 have hc:LT (fun k=>OH NM C6 k) (Uk NM C6):=fun f a b r h=>VZ h
 obtain ⟨m,hm⟩:=EF (lp:=G_) (ll:=FJ) fn.body (kn:=fun _=>AS fn) (kr:=fun _=>AS fn) (ke:=fun _ _ _=>none) hc YI Va (Conv.refl _) (Conv.refl _) (fun i=>Conv.refl _) _ r h
 refine YF ⟨m+1,fun k hk=>?_⟩
 cases k with
 | zero=>omega
 | succ k =>
  simp only [OH,hf,if_pos hl]
  have:=hm k (by omega)
  simp only [<- He] at this
  unfold WU
  rw [this]
  rfl
theorem Ii:∀ (K:Kd) (x:K.T) (r:List AV),K.dec (K.enc x++r)=some (x,r)
 | .int k,x,r=>by simp [Kd.enc,Kd.dec]
 | .bool,x,r=>rfl
 | .str,x,r=>rfl
 | .slice e,x,r=>by simp [Kd.enc,Kd.dec]
 | .pair a b,x,r=>by simp [Kd.enc,Kd.dec,BC,Ii a,Ii b]
 | .own t e,x,r=>by simp [Kd.enc,Kd.dec]
 | .ref K,x,r=>by
  have:=Ii K x []
  rw [List.append_nil] at this
  simp [Kd.enc,Kd.dec,this]
 | .fun f,x,r=>by simp [Kd.enc,Kd.dec]
 | .clo f K,x,r=>by simp [Kd.enc,Kd.dec]
theorem SN (K:Kd) (x:K.T):K.of (K.av x)=some x:=by
 have h:K.ofCells (K.enc x)=some x:=by
  have:=Ii K x []
  rw [List.append_nil] at this
  simp [Kd.ofCells,this]
 unfold Kd.of
 cases K<;>exact h
theorem SO:∀ (Ks:List Kd) (x:RT Ks),CS Ks (Bp Ks x)=some x
 | [],_=>rfl
 | [K],x=>SN K x
 | K::L::Ks,x=>by
  simp only [Bp,CS,SN,J]
  rw [SO (L::Ks) x.2]
  rfl
theorem WC {NM:Nat->Option Bs} {C6:C1} {f:Nat} {fn:Bs} {args bs:List AV} {r:RT fn.outs} (hf:NM f=some fn) (hl:args.length=fn.params.length/\bs.length=(B5 fn.params 0).length)
  (h:YK (Uk NM C6) fn args bs=some r):(Uk NM C6 f args bs).bind (CS fn.outs)=some r:=by
 rw [XQ hf hl h,J,SO]
theorem YL {P:Program} {NM:Nat->Option Bs} {C6:C1} (ht:YC P NM) (hp:EE P C6) {f:Nat} {args:List AV} (h:(Uk NM C6 f args []).bind (CS [.bool])=some true) {W:World} {cargs:List Value}
  (ha:AT (VE (NV W)) args cargs) (hlt:f<BD:=by decide):Calls P f cargs.toArray W fun e W'=>e=.returned (.bool true)/\RowKit.Below W.heap.size W W':=by
 cases hq:Uk NM C6 f args [] with
 | none=>rw [hq] at h; cases h
 | some v =>
  rw [hq,J] at h
  obtain ⟨m,hm⟩:=VZ hq
  have hm:=hm m (Nat.le_refl _)
  have e:v=[.bool true]:=by
   match v,h with
   | [a],h =>
    have h:Kd.of .bool a=some true:=h
    unfold Kd.of Kd.ofCells at h
    cases a<;>simp [AV.cells,Kd.dec,AV.fits] at h<;>first | rw [h] | skip
  subst e
  exact XN ht hp hm ha hlt
def ZT (f:Nat):List (Nat×Bs)->Option Bs
 | []=>none
 | (g,a)::r=>if g=f then some a else ZT f r
inductive Wo (P:Program):List (Nat×Bs)->Prop where
 | nil:Wo P []
 | cons {f:Nat} {a:Bs} {r:List (Nat×Bs)} (h:BV P f a=true) (t:Wo P r):Wo P ((f,a)::r)
theorem XR {P:Program} {tab:List (Nat×Bs)} (h:Wo P tab):YC P fun f=>ZT f tab:=by
 intro f a hf
 induction h with
 | nil=>cases hf
 | cons h _ ih =>
  simp only [ZT] at hf
  split at hf
  ·rename_i e
   cases hf
   rw [<- e]
   exact h
  ·exact ih hf
end Go.Proofs.Ytffahmnodgnohaa.Core

namespace Go.Proofs.Ytffahmnodgnohaa.Core
open Go IntKind
set_option maxRecDepth 100000
noncomputable section
abbrev bX:Kd:=(.pair (.int .i64) (.pair (.int .i64) (.pair (.int .i64) (.pair (.int .i64) (.pair (.int .i64) .str)))))
abbrev bY:Type:=Int×Int×Int×Int×Int×ByteArray
abbrev AE:Kd:=(.pair .str (.pair .str (.int .i64)))
abbrev Y:Type:=ByteArray×ByteArray×Int
abbrev A_:Kd:=(.pair (.int .i64) (.pair (.int .i64) (.pair (.int .i64) (.pair (.int .i64) (.pair (.int .i64) (.slice AE))))))
abbrev Aa:Type:=Int×Int×Int×Int×Int×List Y
abbrev FK:Kd:=(.pair (.int .i64) (.pair (.int .i64) (.pair (.int .i64) (.pair (.int .i64) (.pair (.int .i64) (.own 49 AE))))))
abbrev AM:Kd:=(.pair (.slice (.int .u8)) (.pair (.int .i64) (.int .i64)))
abbrev AA:Type:=List Int×Int×Int
abbrev AU:Kd:=(.pair .str (.pair (.int .i64) .bool))
abbrev AH:Type:=ByteArray×Int×Bool
def MN:Nat×List PK×List Kd:=(13,[.bor A_],[.str,.bool])
def Hx:Nat×List PK×List Kd:=(15,[.bor A_],[.str,.bool])
def SP:Nat×List PK×List Kd:=(17,[.val .str],[FK,.bool])
def Hy:Nat×List PK×List Kd:=(18,[.val .str],[FK,.bool])
def WD:Nat×List PK×List Kd:=(21,[.bor (.slice (.int .u8))],[.bool])
def Nu:Nat×List PK×List Kd:=(22,[.val (.slice (.int .u8))],[A_])
def Od:Nat×List PK×List Kd:=(23,[.bor A_],[.bool])
def Oe:Nat×List PK×List Kd:=(24,[.bor A_],[.bool])
def Po:Nat×List PK×List Kd:=(25,[.bor (.slice AE),.bor (.slice AE)],[.bool])
def Nv:Nat×List PK×List Kd:=(26,[.bor (.slice (.int .u8))],[.str])
def Of:Nat×List PK×List Kd:=(27,[.val (.slice (.int .u8))],[(.slice (.int .i64))])
def FZ:Nat×List PK×List Kd:=(57,[.val (.int .i64)],[.str])
def El:Nat×List PK×List Kd:=(58,[.val (.int .i64)],[.str])
def Le:Nat×List PK×List Kd:=(59,[.val .str],[.str])
def NW:Nat×List PK×List Kd:=(60,[.val .str],[.str,.bool])
def EG:Nat×List PK×List Kd:=(64,[.val (.int .i64)],[.str])
def Tb:Nat×List PK×List Kd:=(65,[.val .str],[.str,.bool])
def Lf:Nat×List PK×List Kd:=(68,[.val .str],[.str,.bool])
def Gw:Nat×List PK×List Kd:=(69,[.ptr AU],[(.int .i64)])
def Em:Nat×List PK×List Kd:=(70,[.ptr AU],[(.int .i64)])
def Hz:Nat×List PK×List Kd:=(71,[.ptr AU,.val (.int .i64)],[.str])
def RK:Nat×List PK×List Kd:=(72,[.val .str],[.str,.bool])
def C3:Nat×List PK×List Kd:=(73,[.ptr AU],[(.int .i64)])
def DU:Nat×List PK×List Kd:=(74,[.ptr AU],[(.int .i64)])
def Fa:Nat×List PK×List Kd:=(75,[.ptr AU],[.str])
def KM:Nat×List PK×List Kd:=(78,[.ptr AM],[A_])
def Jy:Nat×List PK×List Kd:=(79,[.val (.slice (.int .u8))],[(.ref AM)])
def C4:Nat×List PK×List Kd:=(80,[.val (.int .i64),.val (.int .i64),.val (.int .i64)],[.bool])
def H5:Nat×List PK×List Kd:=(81,[.bor (.slice AE)],[.bool])
def DV:Nat×List PK×List Kd:=(82,[.val (.int .i64),.val (.int .i64),.val (.int .i64)],[.bool])
def NX:Nat×List PK×List Kd:=(83,[.val (.int .i64)],[.bool])
def SQ:Nat×List PK×List Kd:=(84,[.bor (.slice AE)],[.bool])
def AZ:Nat×List PK×List Kd:=(85,[.ptr AM,.val (.int .i64)],[(.int .i64)])
def KN:Nat×List PK×List Kd:=(86,[.ptr AM,.val .str],[.str])
def Cq:Nat×List PK×List Kd:=(87,[.ptr AM],[(.int .i64)])
def MO:Nat×List PK×List Kd:=(132,[.val (.int .u32)],[.str])
def Og:Nat×List PK×List Kd:=(133,[.val .str],[(.int .u32)])
def MP:Nat×List PK×List Kd:=(136,[.val .str],[.str])
def SS:Nat×List PK×List Kd:=(138,[.val .str,.val (.int .i64)],[(.int .i64),(.int .i64),.bool])
def MQ:Nat×List PK×List Kd:=(139,[.val .str,.val (.int .i64)],[(.int .i64),(.int .i64),.bool])
def Pp:Nat×List PK×List Kd:=(140,[.val .str,.val (.int .i64)],[.str,(.int .i64),.bool])
def Tc:Nat×List PK×List Kd:=(142,[.ptr AM],[A_])
def C5:Nat×List PK×List Kd:=(143,[.ptr AM,.val (.slice (.int .i64))],[(.int .i64)])
def Nw:Nat×List PK×List Kd:=(144,[.ptr AM],[(.own 49 AE)])
def Ul:Nat×List PK×List Kd:=(145,[.val .str],[.bool])
def MR:Nat×List PK×List Kd:=(146,[.ptr AM,.val (.int .i64)],[.str])
def ST:Nat×List PK×List Kd:=(161,[.val (.int .u32),.val .str],[(.int .u32)])
def Um:Nat×List PK×List Kd:=(163,[.val .str],[(.int .u32)])
def Lg:Nat×List PK×List Kd:=(164,[.ptr AM],[(.own 49 AE)])
def H6:Nat×List PK×List Kd:=(165,[.ptr AM],[AE])
def H7:Nat×List PK×List Kd:=(166,[.ptr AM,.val (.slice .str)],[.str])
def SU:Nat×List PK×List Kd:=(167,[.val (.int .i64),.val (.int .u8)],[.str])
def SV:Nat×List PK×List Kd:=(168,[.val (.int .i64)],[.str])
def SW:Nat×List PK×List Kd:=(177,[.val (.int .u32),.val .str],[(.int .u32)])
def SX:Nat×List PK×List Kd:=(178,[.bor (.slice AE),.val AE],[(.own 49 AE)])
def Td:Nat×List PK×List Kd:=(179,[.ptr AM],[.str])
def Te:Nat×List PK×List Kd:=(180,[.ptr AM],[.str])
def Pq:Nat×List PK×List Kd:=(181,[.val (.int .i64)],[(.int .u8)])
abbrev b9 { ρ:Type} (t W:Option ρ):Prop:=∀ { r},t=some r->W=some r
abbrev Jz {A0 ρ:Type} (t W:A0->Option ρ):Prop:=∀ {a0 r},t a0=some r->W a0=some r
abbrev SY {A0 A1 ρ:Type} (t W:A0->A1->Option ρ):Prop:=∀ {a0 a1 r},t a0 a1=some r->W a0 a1=some r
abbrev WE {A0 A1 A2 ρ:Type} (t W:A0->A1->A2->Option ρ):Prop:=∀ {a0 a1 a2 r},t a0 a1 a2=some r->W a0 a1 a2=some r
abbrev YM {A0 A1 A2 A3 ρ:Type} (t W:A0->A1->A2->A3->Option ρ):Prop:=∀ {a0 a1 a2 a3 r},t a0 a1 a2 a3=some r->W a0 a1 a2 a3=some r
abbrev aF {A0 A1 A2 A3 A4 ρ:Type} (t W:A0->A1->A2->A3->A4->Option ρ):Prop:=∀ {a0 a1 a2 a3 a4 r},t a0 a1 a2 a3 a4=some r->W a0 a1 a2 a3 a4=some r
abbrev bl {A0 A1 A2 A3 A4 A5 ρ:Type} (t W:A0->A1->A2->A3->A4->A5->Option ρ):Prop:=∀ {a0 a1 a2 a3 a4 a5 r},t a0 a1 a2 a3 a4 a5=some r->W a0 a1 a2 a3 a4 a5=some r
abbrev bm {A0 A1 A2 A3 A4 A5 A6 ρ:Type} (t W:A0->A1->A2->A3->A4->A5->A6->Option ρ):Prop:=∀ {a0 a1 a2 a3 a4 a5 a6 r},t a0 a1 a2 a3 a4 a5 a6=some r->W a0 a1 a2 a3 a4 a5 a6=some r
abbrev ZU {A0 A1 A2 A3 A4 A5 A6 A7 A8 A9 A10 A11 A12 A13 ρ:Type} (t W:A0->A1->A2->A3->A4->A5->A6->A7->A8->A9->A10->A11->A12->A13->Option ρ):Prop:=∀ {a0 a1 a2 a3 a4 a5 a6 a7 a8 a9 a10 a11 a12 a13 r},t a0 a1 a2 a3 a4 a5 a6 a7 a8 a9 a10 a11 a12 a13=some r->W a0 a1 a2 a3 a4 a5 a6 a7 a8 a9 a10 a11 a12 a13=some r
abbrev aq {A0 A1 A2 A3 A4 A5 A6 A7 A8 A9 A10 A11 A12 A13 A14 A15 ρ:Type} (t W:A0->A1->A2->A3->A4->A5->A6->A7->A8->A9->A10->A11->A12->A13->A14->A15->Option ρ):Prop:=∀ {a0 a1 a2 a3 a4 a5 a6 a7 a8 a9 a10 a11 a12 a13 a14 a15 r},t a0 a1 a2 a3 a4 a5 a6 a7 a8 a9 a10 a11 a12 a13 a14 a15=some r->W a0 a1 a2 a3 a4 a5 a6 a7 a8 a9 a10 a11 a12 a13 a14 a15=some r
abbrev bZ {A0 A1 A2 A3 A4 A5 A6 A7 A8 A9 A10 A11 A12 A13 A14 A15 A16 ρ:Type} (t W:A0->A1->A2->A3->A4->A5->A6->A7->A8->A9->A10->A11->A12->A13->A14->A15->A16->Option ρ):Prop:=∀ {a0 a1 a2 a3 a4 a5 a6 a7 a8 a9 a10 a11 a12 a13 a14 a15 a16 r},t a0 a1 a2 a3 a4 a5 a6 a7 a8 a9 a10 a11 a12 a13 a14 a15 a16=some r->W a0 a1 a2 a3 a4 a5 a6 a7 a8 a9 a10 a11 a12 a13 a14 a15 a16=some r

def Lh:AP:=(.cond (.t 125) (.seq (.region [.m 126 10,.m 127 12,.eqs 128 false .bool (.t 126) (.t 127),.m 129 128,.sc 129 true [.m 130 10,.un 131 .not (.t 130),.m 132 131,.sc 132 false [.m 133 13,.m 134 8,.b 135 .eql 133 134] 136 (.c (.bool true)) (.t 135)] 137 (.t 136) (.c (.bool false)),.m 2 137] [2]) .ret) .skip)
def HL:AP:=(.seq (.region [.m 138 0,.cl 139 [138] Of,.m 15 139] [4,15]) (.seq (.region [.m 140 4,.stb 141 5 (.t 140),.m 16 141] [15,16]) (.seq (.region [.m 142 15,.idx 143 1 (.t 142) (.i 0),.l 144 143,.m 145 16,.len 146 false (.t 145),.b 147 .rem 144 146,.m 17 147] [15,16,17]) (.seq (.draw (RF 15 [(1,[]),(2,[]),(3,[]),(4,[2,3]),(6,[]),(12,[5,11]),(13,[0,1,12])]) (.tk 14 [.idx 161 1 (.t 148) (.t 149),.b 160 .xor 153 159,.cvi 159 .u8 (.t 158),.bin 158 .add (.i 1) (.t 157),.bin 157 .rem (.t 156) (.i 255),.l 156 155,.idx 155 1 (.t 154) (.i 1),.m 154 15,.l 153 152,.idx 152 1 (.t 150) (.t 151),.m 151 17,.m 150 16,.m 149 17,.m 148 16] (.only 14 none (.store (.t 161) (.t 160) 1 false) false [] .done)) [16]) (.seq (.region [.m 163 16,.bts 164 (.t 163),.cl 165 [164] Hy,.m 162 165,.ext 166 (.t 162) 0,.ext 167 (.t 162) 1,.al 18 A_,.store (.t 18) (.t 166) 6 false,.m 19 167] [19]) (.seq (.region [.m 168 19,.un 169 .not (.t 168),.m 2 169] [2]) .ret))))))
def KO:AP:=(.seq (.region [.m 94 0,.cl 95 [94] Nv,.m 8 95] [0,4,5,8]) (.seq (.region [.m 97 8,.cl 98 [97] Hy,.m 96 98,.ext 99 (.t 96) 0,.ext 100 (.t 96) 1,.al 9 A_,.store (.t 9) (.t 99) 6 false,.m 10 100] [0,4,5,8,9,10]) (.seq (.region [.m 102 8,.cl 103 [102] SP,.m 101 103,.ext 104 (.t 101) 0,.ext 105 (.t 101) 1,.al 11 A_,.store (.t 11) (.t 104) 6 false,.m 12 105] [0,4,5,8,9,10,12]) (.seq (.region [.ls 107 9 6,.cl 108 [107] Hx,.m 106 108,.ext 109 (.t 106) 0,.ext 110 (.t 106) 1,.m 13 109,.m 14 110] [0,4,5,8,10,12,13]) (.seq (.seq (.region [.m 111 10,.m 112 12,.eqs 113 true .bool (.t 111) (.t 112),.m 114 113,.sc 114 false [.m 115 10,.m 116 115,.sc 116 true [.m 117 13,.m 118 8,.b 119 .neq 117 118] 120 (.t 119) (.c (.bool false))] 121 (.c (.bool true)) (.t 120),.m 122 121,.sc 122 false [.m 123 5,.un 124 .not (.t 123)] 125 (.c (.bool true)) (.t 124)] [0,4,8,10,12,13,125]) Lh) HL)))))
def BQ:Bs:=⟨[.val (.slice (.int .u8))],[⟨2,false,.bool⟩],(.seq (.region [.mv 2 (.c (.bool false))] [0]) (.seq (.seq (.region [.m 20 0,.cl 21 [20] WD] [0,21]) (.cond (.t 21) (.seq (.region [.mv 2 (.c (.bool true))] [2]) .ret) .skip)) (.seq (.region [.m 22 0,.cl 23 [22] Nu,.al 3 A_,.store (.t 3) (.t 23) 6 false] [0,3]) (.seq (.region [.ls 25 3 6,.cl 26 [25] Hx,.m 24 26,.ext 27 (.t 24) 0,.ext 28 (.t 24) 1,.m 4 27,.m 5 28] [0,3,4,5]) (.seq (.region [.m 30 4,.cl 31 [30] Hy,.m 29 31,.ext 32 (.t 29) 0,.ext 33 (.t 29) 1,.al 6 A_,.store (.t 6) (.t 32) 6 false,.m 7 33] [0,3,4,5,6,7]) (.seq (.seq (.region [.m 34 5,.ls 35 3 6,.cl 36 [35] Od,.eqs 37 true .bool (.t 34) (.t 36),.m 38 37,.sc 38 false [.ls 39 3 6,.cl 40 [39] Oe,.m 41 5,.eqs 42 true .bool (.t 40) (.t 41)] 43 (.c (.bool true)) (.t 42),.m 44 43,.sc 44 false [.m 45 5,.m 46 45,.sc 46 true [.m 47 7,.un 48 .not (.t 47),.m 49 48,.sc 49 false [.f 50 6 0,.l 51 50,.f 52 3 0,.l 53 52,.b 54 .neq 51 53] 55 (.c (.bool true)) (.t 54),.m 56 55,.sc 56 false [.f 57 6 1,.l 58 57,.f 59 3 1,.l 60 59,.b 61 .neq 58 60] 62 (.c (.bool true)) (.t 61),.m 63 62,.sc 63 false [.f 64 6 2,.l 65 64,.f 66 3 2,.l 67 66,.b 68 .neq 65 67] 69 (.c (.bool true)) (.t 68),.m 70 69,.sc 70 false [.f 71 6 3,.l 72 71,.f 73 3 3,.l 74 73,.b 75 .neq 72 74] 76 (.c (.bool true)) (.t 75),.m 77 76,.sc 77 false [.f 78 6 4,.l 79 78,.f 80 3 4,.l 81 80,.b 82 .neq 79 81] 83 (.c (.bool true)) (.t 82),.m 84 83,.sc 84 false [.f 85 6 5,.l 86 85,.f 87 3 5,.l 88 87,.cl 89 [86,88] Po,.un 90 .not (.t 89)] 91 (.c (.bool true)) (.t 90)] 92 (.t 91) (.c (.bool false))] 93 (.c (.bool true)) (.t 92)] [0,4,5,93]) (.cond (.t 93) (.seq (.region [.mv 2 (.c (.bool false))] [2]) .ret) .skip)) KO))))))⟩
theorem Tf:BV Try.prog 5 BQ=true:=by kernel_rfl
def KP:AP:=(.seq (.seq (.region [.m 33 5,.f 34 1 5,.l 35 34,.len 36 false (.t 35),.b 37 .lss 33 36] [1,4,5,37]) (.cond (.t 37) .skip (.exit 0))) (.seq (.block 1 [1,4,5] (.draw (RF 26 [(1,[]),(3,[]),(4,[2,3]),(8,[0,7]),(9,[]),(11,[]),(12,[10,11]),(15,[7,14]),(16,[8,15]),(17,[]),(19,[]),(20,[18,19]),(23,[15,22]),(24,[16,23])]) (.tk 7 [.l 46 45,.f 45 44 0,.idx 44 3 (.t 42) (.t 43),.m 43 5,.l 42 41,.f 41 1 5,.m 40 4] (.tk 15 [.l 54 53,.f 53 52 1,.idx 52 3 (.t 50) (.t 51),.m 51 5,.l 50 49,.f 49 1 5] (.tk 23 [.l 62 61,.f 61 60 2,.idx 60 3 (.t 58) (.t 59),.m 59 5,.l 58 57,.f 57 1 5] (.only 7 none (.cl 47 [46] Le) false [] (.tk 9 [.b 48 .add 40 47] (.only 15 none (.cl 55 [54] Le) false [] (.tk 17 [.b 56 .add 48 55] (.only 23 none (.cl 63 [62] El) false [] (.tk 26 [.m 4 64,.b 64 .add 56 63] .done))))))))) [1,4,5])) (.region [.m 38 5,.bin 39 .add (.t 38) (.i 1),.m 5 39] [1,4,5])))
def KQ:AP:=(.seq (.region [.m 65 4,.cl 66 [65] NW,.ext 67 (.t 66) 0,.ext 68 (.t 66) 1,.m 2 67,.m 3 68] [2,3]) .ret)
def KR:AP:=(.seq (.seq (.region [.mv 5 (.i 0)] [1,4,5]) (.block 0 [4] (.loop [1,4,5] KP))) KQ)
def BR:Bs:=⟨[.val A_],[⟨2,false,.str⟩,⟨3,false,.bool⟩],(.seq (.region [.box 1 (.t 0) false,.mv 2 (.c (.str ⟨#[]⟩)),.mv 3 (.c (.bool false))] [1]) (.seq (.seq (.region [.ls 6 1 6,.cl 7 [6] Od,.un 8 .not (.t 7)] [1,8]) (.cond (.t 8) (.seq (.region [.mv 2 (.c (.str ⟨#[]⟩)),.mv 3 (.c (.bool false))] [2,3]) .ret) .skip)) (.seq (.draw (RF 25 [(3,[]),(5,[2,4]),(7,[]),(9,[5,8]),(10,[6,9]),(11,[]),(13,[9,12]),(14,[10,13]),(15,[]),(17,[13,16]),(18,[14,17]),(19,[]),(22,[17,21]),(23,[18,22])]) (.tk 2 [.l 10 9,.f 9 1 0] (.tk 5 [.l 13 12,.f 12 1 1] (.tk 9 [.l 17 16,.f 16 1 2] (.tk 13 [.l 21 20,.f 20 1 3] (.tk 17 [.l 25 24,.f 24 1 4] (.tk 22 [.len 30 false (.t 29),.l 29 28,.f 28 1 5] (.only 2 none (.cl 11 [10] FZ) false [] (.only 5 none (.cl 14 [13] FZ) false [] (.tk 7 [.b 15 .add 11 14] (.only 9 none (.cl 18 [17] FZ) false [] (.tk 11 [.b 19 .add 15 18] (.only 13 none (.cl 22 [21] FZ) false [] (.tk 15 [.b 23 .add 19 22] (.only 17 none (.cl 26 [25] El) false [] (.tk 19 [.b 27 .add 23 26] (.only 22 none (.cl 31 [30] El) false [] (.tk 25 [.m 4 32,.b 32 .add 27 31] .done))))))))))))))))) [1,4]) KR)))⟩
theorem SZ:BV Try.prog 13 BR=true:=by kernel_rfl
def KS:AP:=(.seq (.region [.bin 22 .lss (.t 21) (.i 4)] [1,4,20,21,22]) (.seq (.cond (.t 22) .skip (.exit 0)) (.seq (.block 1 [1,4,20,21] (.seq (.region [.aidx 23 4 (.t 20) (.t 21),.m 6 23] [1,4,6,20,21]) (.region [.m 24 6,.cvi 25 .u8 (.t 24),.bld (some 26) 0 62 5 (.t 4) (.t 25)] [1,4,20,21]))) (.region [.bin 27 .add (.t 21) (.i 1),.m 21 27] [1,4,20,21]))))
def Ij:AP:=(.seq (.region [.b 41 .lss 40 39] [4,38,39,40,41]) (.seq (.cond (.t 41) .skip (.exit 2)) (.seq (.block 3 [4,38,39,40] (.seq (.region [.idx 42 3 (.t 38) (.t 40),.ls 43 42 3,.al 8 AE,.store (.t 8) (.t 43) 3 false] [4,8,38,39,40]) (.draw (RF 20 [(4,[]),(6,[3,5]),(7,[]),(10,[3,9]),(11,[6,10]),(12,[]),(14,[11,13]),(15,[]),(17,[10,16]),(18,[14,17])]) (.tk 3 [.len 46 true (.t 45),.l 45 44,.f 44 8 0] (.tk 6 [.l 49 48,.f 48 8 0] (.tk 10 [.len 53 true (.t 52),.l 52 51,.f 51 8 1] (.tk 14 [.l 57 56,.f 56 8 1] (.tk 17 [.l 60 59,.f 59 8 2] (.only 3 none (.cl 47 [46] EG) false [] (.tk 7 [.b 50 .add 47 49] (.only 10 none (.cl 54 [53] EG) false [] (.tk 12 [.b 55 .add 50 54] (.tk 15 [.b 58 .add 55 57] (.only 17 none (.cl 61 [60] EG) false [] (.tk 19 [.b 62 .add 58 61] (.only 19 none (.bld (some 63) 1 63 5 (.t 4) (.t 62)) false [] .done))))))))))))) [4,38,39,40]))) (.region [.bin 64 .add (.t 40) (.i 1),.m 40 64] [4,38,39,40]))))
def Ik:AP:=(.seq (.region [.bld (some 65) 2 66 5 (.t 4) (.c .undef),.cl 66 [65] Tb,.ext 67 (.t 66) 0,.ext 68 (.t 66) 1,.m 2 67,.m 3 68] [2,3]) .ret)
def Il:AP:=(.seq (.seq (.region [.f 37 1 5,.l 38 37,.len 39 false (.t 38),.mv 40 (.i 0)] [4,38,39,40]) (.block 2 [4] (.loop [4,38,39,40] Ij))) Ik)
def Fb:AP:=(.seq (.draw (RF 9 [(3,[]),(6,[2,5])]) (.tk 2 [.l 29 28,.f 28 1 4] (.tk 6 [.len 33 false (.t 32),.l 32 31,.f 31 1 5] (.only 2 none (.cl 30 [29] EG) false [] (.only 6 none (.cl 34 [33] EG) false [] (.tk 8 [.b 35 .add 30 34] (.only 8 none (.bld (some 36) 1 63 5 (.t 4) (.t 35)) false [] .done)))))) [1,4]) Il)
def Ai:Bs:=⟨[.val A_],[⟨2,false,.str⟩,⟨3,false,.bool⟩],(.seq (.region [.box 1 (.t 0) false,.mv 2 (.c (.str ⟨#[]⟩)),.mv 3 (.c (.bool false))] [1]) (.seq (.seq (.region [.ls 9 1 6,.cl 10 [9] Oe,.un 11 .not (.t 10)] [1,11]) (.cond (.t 11) (.seq (.region [.mv 2 (.c (.str ⟨#[]⟩)),.mv 3 (.c (.bool false))] [2,3]) .ret) .skip)) (.seq (.region [.alloc 4 [.self 105,.new 5 (.int .u8) []]] [1,4]) (.seq (.seq (.region [.f 12 1 0,.l 13 12,.f 14 1 1,.l 15 14,.f 16 1 2,.l 17 16,.f 18 1 3,.l 19 18,.build 20 [.int .i64 0,.int .i64 0,.int .i64 0,.int .i64 0] [(0,1,.t 13),(1,1,.t 15),(2,1,.t 17),(3,1,.t 19)],.mv 21 (.i 0)] [1,4,20,21]) (.block 0 [1,4] (.loop [1,4,20,21] KS))) Fb))))⟩
theorem Sa:BV Try.prog 15 Ai=true:=by kernel_rfl
def KT:AP:=(.seq (.block 1 [0,2,6,7,8,9] (.seq (.region [.m 57 6,.cl 58 [57] Em,.m 10 58] [0,2,6,7,8,9,10]) (.seq (.region [.m 59 6,.m 60 10,.cl 61 [59,60] Hz,.bu 62 AE [(0,1,.t 61)],.al 11 AE,.store (.t 11) (.t 62) 3 false] [0,2,6,7,8,9,11]) (.seq (.region [.m 63 6,.cl 64 [63] Em,.m 10 64] [0,2,6,7,8,9,10,11]) (.seq (.region [.m 65 6,.m 66 10,.cl 67 [65,66] Hz,.f 68 11 1,.store (.t 68) (.t 67) 1 false] [0,2,6,7,8,9,11]) (.seq (.region [.m 69 6,.cl 70 [69] Em,.f 71 11 2,.store (.t 71) (.t 70) 1 false] [0,2,6,7,8,9,11]) (.region [.f 72 7 5,.l 73 72,.ls 74 11 3,.blst 75 AE [.t 74],.app 76 49 AE (.t 73) (.t 75),.f 77 7 5,.store (.t 77) (.t 76) 1 false] [0,2,6,7,8,9]))))))) (.region [.m 55 9,.bin 56 .add (.t 55) (.i 1),.m 9 56] [0,2,6,7,8,9]))
def KU:AP:=(.seq (.seq (.region [.m 41 9,.m 42 8,.b 43 .lss 41 42,.m 44 43,.sc 44 true [.m 45 9,.bin 46 .lss (.t 45) (.i 50)] 47 (.t 46) (.c (.bool false)),.m 48 47,.sc 48 true [.m 49 6,.n 50 49,.f 51 50 2,.l 52 51,.un 53 .not (.t 52)] 54 (.t 53) (.c (.bool false))] [0,2,6,7,8,9,54]) (.cond (.t 54) .skip (.exit 0))) KT)
def Fc:AP:=(.seq (.region [.ls 79 7 6,.cl 80 [79] MN,.m 78 80,.ext 81 (.t 78) 0,.ext 82 (.t 78) 1,.m 12 81,.m 13 82] [0,2,6,7,12,13]) (.seq (.seq (.region [.m 83 6,.n 84 83,.f 85 84 2,.l 86 85,.m 87 86,.sc 87 false [.m 88 13,.un 89 .not (.t 88)] 90 (.c (.bool true)) (.t 89),.m 91 90,.sc 91 false [.m 92 12,.m 93 0,.b 94 .neq 92 93] 95 (.c (.bool true)) (.t 94)] [2,7,95]) (.cond (.t 95) (.seq (.region [.bnew 96 [.int .i64 0,.int .i64 0,.int .i64 0,.int .i64 0,.int .i64 0,.new 49 AE []] [],.store (.t 2) (.t 96) 6 false,.mv 3 (.c (.bool false))] [2,3]) .ret) .skip)) (.seq (.region [.ls 97 7 6,.store (.t 2) (.t 97) 6 false,.mv 3 (.c (.bool true))] [2,3]) .ret)))
def BH:Bs:=⟨[.val .str],[⟨2,true,FK⟩,⟨3,false,.bool⟩],(.seq (.region [.al 2 FK,.mv 3 (.c (.bool false))] [0,2]) (.seq (.region [.m 15 0,.cl 16 [15] Lf,.m 14 16,.ext 17 (.t 14) 0,.ext 18 (.t 14) 1,.m 4 17,.m 5 18] [0,2,4,5]) (.seq (.region [.m 19 4,.m 20 5,.un 21 .not (.t 20),.bu 22 AU [(0,1,.t 19),(2,1,.t 21)],.box 23 (.t 22) false,.m 6 23] [0,2,6]) (.seq (.region [.m 24 6,.cl 25 [24] Gw,.bnew 26 [.int .i64 0,.int .i64 0,.int .i64 0,.int .i64 0,.int .i64 0,.new 49 AE []] [(0,1,.t 25)],.al 7 FK,.store (.t 7) (.t 26) 6 false] [0,2,6,7]) (.seq (.region [.m 27 6,.cl 28 [27] Gw,.f 29 7 1,.store (.t 29) (.t 28) 1 false] [0,2,6,7]) (.seq (.region [.m 30 6,.cl 31 [30] Gw,.f 32 7 2,.store (.t 32) (.t 31) 1 false] [0,2,6,7]) (.seq (.region [.m 33 6,.cl 34 [33] Gw,.f 35 7 3,.store (.t 35) (.t 34) 1 false] [0,2,6,7]) (.seq (.region [.m 36 6,.cl 37 [36] Em,.f 38 7 4,.store (.t 38) (.t 37) 1 false] [0,2,6,7]) (.seq (.region [.m 39 6,.cl 40 [39] Em,.m 8 40] [0,2,6,7,8]) (.seq (.seq (.region [.mv 9 (.i 0)] [0,2,6,7,8,9]) (.block 0 [0,2,6,7] (.loop [0,2,6,7,8,9] KU))) Fc))))))))))⟩
theorem Sb:BV Try.prog 17 BH=true:=by kernel_rfl
def KV:AP:=(.seq (.region [.b 36 .lss 35 34] [0,2,6,7,34,35,36]) (.seq (.cond (.t 36) .skip (.exit 0)) (.seq (.block 1 [0,2,6,7,34,35] (.seq (.region [.cl 37 [6] Fa,.bu 38 AE [(0,1,.t 37)],.al 9 AE,.store (.t 9) (.t 38) 3 false] [0,2,6,7,9,34,35]) (.seq (.region [.cl 39 [6] Fa,.f 40 9 1,.store (.t 40) (.t 39) 1 false] [0,2,6,7,9,34,35]) (.seq (.region [.cl 41 [6] DU,.f 42 9 2,.store (.t 42) (.t 41) 1 false] [0,2,6,7,9,34,35]) (.region [.f 43 7 5,.l 44 43,.ls 45 9 3,.blst 46 AE [.t 45],.app 47 49 AE (.t 44) (.t 46),.f 48 7 5,.store (.t 48) (.t 47) 1 false] [0,2,6,7,34,35]))))) (.region [.bin 49 .add (.t 35) (.i 1),.m 35 49] [0,2,6,7,34,35]))))
def Fd:AP:=(.seq (.seq (.region [.ls 51 7 6,.cl 52 [51] Hx,.m 50 52,.ext 53 (.t 50) 0,.ext 54 (.t 50) 1,.m 10 53,.m 11 54] [0,2,6,7,10,11]) (.seq (.region [.f 55 6 2,.l 56 55,.m 57 56,.sc 57 false [.m 58 11,.un 59 .not (.t 58)] 60 (.c (.bool true)) (.t 59),.m 61 60,.sc 61 false [.m 62 10,.m 63 0,.b 64 .neq 62 63] 65 (.c (.bool true)) (.t 64)] [2,7,65]) (.cond (.t 65) (.seq (.region [.bnew 66 [.int .i64 0,.int .i64 0,.int .i64 0,.int .i64 0,.int .i64 0,.new 49 AE []] [],.store (.t 2) (.t 66) 6 false,.mv 3 (.c (.bool false))] [2,3]) .ret) .skip))) (.seq (.region [.ls 67 7 6,.store (.t 2) (.t 67) 6 false,.mv 3 (.c (.bool true))] [2,3]) .ret))
def BS:Bs:=⟨[.val .str],[⟨2,true,FK⟩,⟨3,false,.bool⟩],(.seq (.region [.al 2 FK,.mv 3 (.c (.bool false))] [0,2]) (.seq (.region [.m 13 0,.cl 14 [13] RK,.m 12 14,.ext 15 (.t 12) 0,.ext 16 (.t 12) 1,.m 4 15,.m 5 16] [0,2,4,5]) (.seq (.seq (.region [.m 17 5,.un 18 .not (.t 17)] [0,2,4,18]) (.cond (.t 18) (.seq (.region [.bnew 19 [.int .i64 0,.int .i64 0,.int .i64 0,.int .i64 0,.int .i64 0,.new 49 AE []] [],.store (.t 2) (.t 19) 6 false,.mv 3 (.c (.bool false))] [2,3]) .ret) .skip)) (.seq (.region [.m 20 4,.bu 21 AU [(0,1,.t 20)],.al 6 AU,.store (.t 6) (.t 21) 3 false] [0,2,6]) (.seq (.region [.cl 22 [6] C3,.bnew 23 [.int .i64 0,.int .i64 0,.int .i64 0,.int .i64 0,.int .i64 0,.new 49 AE []] [(0,1,.t 22)],.al 7 FK,.store (.t 7) (.t 23) 6 false] [0,2,6,7]) (.seq (.region [.cl 24 [6] C3,.f 25 7 1,.store (.t 25) (.t 24) 1 false] [0,2,6,7]) (.seq (.region [.cl 26 [6] C3,.f 27 7 2,.store (.t 27) (.t 26) 1 false] [0,2,6,7]) (.seq (.region [.cl 28 [6] C3,.f 29 7 3,.store (.t 29) (.t 28) 1 false] [0,2,6,7]) (.seq (.region [.cl 30 [6] DU,.f 31 7 4,.store (.t 31) (.t 30) 1 false] [0,2,6,7]) (.seq (.region [.cl 32 [6] DU,.m 8 32] [0,2,6,7,8]) (.seq (.seq (.region [.m 33 8,.min 34 (.t 33) (.i 13),.mv 35 (.i 0)] [0,2,6,7,34,35]) (.block 0 [0,2,6,7] (.loop [0,2,6,7,34,35] KV))) Fd)))))))))))⟩
theorem Sc:BV Try.prog 18 BS=true:=by kernel_rfl
def LU:Bs:=⟨[.val (.slice (.int .u8))],[⟨2,false,.bool⟩],(.seq (.region [.mv 2 (.c (.bool false))] [0]) (.seq (.region [.m 3 0,.len 4 false (.t 3),.bin 5 .gtr (.t 4) (.i 1048576),.m 2 5] [2]) .ret))⟩
theorem WF:BV Try.prog 21 LU=true:=by kernel_rfl
def Dj:Bs:=⟨[.val (.slice (.int .u8))],[⟨2,true,A_⟩],(.seq (.region [.al 2 A_] [0,2]) (.seq (.region [.m 3 0,.cl 4 [3] Jy,.cl 5 [4] KM,.store (.t 2) (.t 5) 6 false] [2]) .ret))⟩
theorem Nx:BV Try.prog 22 Dj=true:=by kernel_rfl
def MS:AP:=(.cond (.t 39) (.seq (.region [.mv 2 (.c (.bool true))] [2]) .ret) (.seq (.region [.bin 43 .eql (.t 38) (.i 5),.m 42 43] [1,42]) (.cond (.t 42) (.seq (.region [.f 44 1 5,.l 45 44,.len 46 false (.t 45),.bin 47 .eql (.t 46) (.i 1),.m 2 47] [2]) .ret) .skip)))
def MT:AP:=(.seq (.region [.f 48 1 5,.l 49 48,.len 50 false (.t 49),.bin 51 .eql (.t 50) (.i 0),.m 2 51] [2]) .ret)
def MU:AP:=(.seq (.seq (.region [.f 37 1 0,.l 38 37] [1,38]) (.block 0 [1] (.seqc [1,38,39] (.seq (.region [.bin 40 .eql (.t 38) (.i 2),.m 39 40] [1,38,39]) (.cond (.t 39) .skip (.region [.bin 41 .eql (.t 38) (.i 3),.m 39 41] [1,38,39]))) MS))) MT)
def CX:Bs:=⟨[.val A_],[⟨2,false,.bool⟩],(.seq (.region [.box 1 (.t 0) false,.mv 2 (.c (.bool false))] [1]) (.seq (.seq (.region [.f 3 1 0,.l 4 3,.cx (some 5) [.t 4,.c (.int .i64 1),.c (.int .i64 8)] C4,.un 6 .not (.t 5),.m 7 6,.sc 7 false [.f 8 1 1,.l 9 8,.cx (some 10) [.t 9,.c (.int .i64 1),.c (.int .i64 6)] C4,.un 11 .not (.t 10)] 12 (.c (.bool true)) (.t 11),.m 13 12,.sc 13 false [.f 14 1 2,.l 15 14,.cx (some 16) [.t 15,.c (.int .i64 1),.c (.int .i64 6)] C4,.un 17 .not (.t 16)] 18 (.c (.bool true)) (.t 17),.m 19 18,.sc 19 false [.f 20 1 3,.l 21 20,.cx (some 22) [.t 21,.c (.int .i64 1),.c (.int .i64 9)] C4,.un 23 .not (.t 22)] 24 (.c (.bool true)) (.t 23),.m 25 24,.sc 25 false [.f 26 1 4,.l 27 26,.cx (some 28) [.t 27,.c (.int .i64 0),.c (.int .i64 1000000000)] C4,.un 29 .not (.t 28)] 30 (.c (.bool true)) (.t 29),.m 31 30,.sc 31 false [.f 32 1 5,.l 33 32,.cl 34 [33] H5,.un 35 .not (.t 34)] 36 (.c (.bool true)) (.t 35)] [1,36]) (.cond (.t 36) (.seq (.region [.mv 2 (.c (.bool false))] [2]) .ret) .skip)) MU))⟩
theorem Un:BV Try.prog 23 CX=true:=by kernel_rfl
def MV:AP:=(.cond (.t 39) (.seq (.region [.mv 2 (.c (.bool true))] [2]) .ret) (.seq (.region [.bin 43 .eql (.t 38) (.i 5),.m 42 43] [1,42]) (.cond (.t 42) (.seq (.region [.f 44 1 5,.l 45 44,.len 46 false (.t 45),.bin 47 .eql (.t 46) (.i 1),.m 2 47] [2]) .ret) .skip)))
def MW:AP:=(.seq (.region [.f 48 1 5,.l 49 48,.len 50 false (.t 49),.bin 51 .eql (.t 50) (.i 0),.m 2 51] [2]) .ret)
def MX:AP:=(.seq (.seq (.region [.f 37 1 0,.l 38 37] [1,38]) (.block 0 [1] (.seqc [1,38,39] (.seq (.region [.bin 40 .eql (.t 38) (.i 2),.m 39 40] [1,38,39]) (.cond (.t 39) .skip (.region [.bin 41 .eql (.t 38) (.i 3),.m 39 41] [1,38,39]))) MV))) MW)
def CY:Bs:=⟨[.val A_],[⟨2,false,.bool⟩],(.seq (.region [.box 1 (.t 0) false,.mv 2 (.c (.bool false))] [1]) (.seq (.seq (.region [.f 3 1 0,.l 4 3,.cx (some 5) [.t 4,.c (.int .i64 1),.c (.int .i64 8)] DV,.un 6 .not (.t 5),.m 7 6,.sc 7 false [.f 8 1 1,.l 9 8,.cl 10 [9] NX,.un 11 .not (.t 10)] 12 (.c (.bool true)) (.t 11),.m 13 12,.sc 13 false [.f 14 1 2,.l 15 14,.cl 16 [15] NX,.un 17 .not (.t 16)] 18 (.c (.bool true)) (.t 17),.m 19 18,.sc 19 false [.f 20 1 3,.l 21 20,.cx (some 22) [.t 21,.c (.int .i64 1),.c (.int .i64 9)] DV,.un 23 .not (.t 22)] 24 (.c (.bool true)) (.t 23),.m 25 24,.sc 25 false [.f 26 1 4,.l 27 26,.cx (some 28) [.t 27,.c (.int .i64 0),.c (.int .i64 1000000000)] DV,.un 29 .not (.t 28)] 30 (.c (.bool true)) (.t 29),.m 31 30,.sc 31 false [.f 32 1 5,.l 33 32,.cl 34 [33] SQ,.un 35 .not (.t 34)] 36 (.c (.bool true)) (.t 35)] [1,36]) (.cond (.t 36) (.seq (.region [.mv 2 (.c (.bool false))] [2]) .ret) .skip)) MX))⟩
theorem Uo:BV Try.prog 24 CY=true:=by kernel_rfl
def H8:AP:=(.seq (.seq (.region [.m 11 5,.m 12 0,.len 13 false (.t 12),.b 14 .lss 11 13] [0,1,5,14]) (.cond (.t 14) .skip (.exit 0))) (.seq (.block 1 [0,1,5] (.seq (.draw (RF 9 [(1,[]),(2,[0,1]),(4,[]),(5,[]),(6,[4,5]),(8,[3,7])]) (.tk 9 [.eqs 25 true AE (.t 20) (.t 24),.ls 24 23 3,.idx 23 3 (.t 21) (.t 22),.m 22 5,.m 21 1,.ls 20 19 3,.idx 19 3 (.t 17) (.t 18),.m 18 5,.m 17 0] .done) [0,1,5,25]) (.cond (.t 25) (.seq (.region [.mv 4 (.c (.bool false))] [4]) .ret) .skip))) (.region [.m 15 5,.bin 16 .add (.t 15) (.i 1),.m 5 16] [0,1,5])))
def H9:AP:=(.seq (.region [.mv 4 (.c (.bool true))] [4]) .ret)
def BW:Bs:=⟨[.val (.slice AE),.val (.slice AE)],[⟨4,false,.bool⟩],(.seq (.region [.mv 4 (.c (.bool false))] [0,1]) (.seq (.seq (.region [.m 6 0,.len 7 false (.t 6),.m 8 1,.len 9 false (.t 8),.b 10 .neq 7 9] [0,1,10]) (.cond (.t 10) (.seq (.region [.mv 4 (.c (.bool false))] [4]) .ret) .skip)) (.seq (.seq (.region [.mv 5 (.i 0)] [0,1,5]) (.block 0 [] (.loop [0,1,5] H8))) H9)))⟩
theorem Pr:BV Try.prog 25 BW=true:=by kernel_rfl
def Dk:Bs:=⟨[.val (.slice (.int .u8))],[⟨2,false,.str⟩],(.seq (.region [.mv 2 (.c (.str ⟨#[]⟩))] [0]) (.seq (.region [.m 8 0,.cl 9 [8] Jy,.m 3 9] [3]) (.seq (.region [.m 11 3,.cl 12 [11] KM,.cl 13 [12] MN,.m 10 13,.ext 14 (.t 10) 0,.ext 15 (.t 10) 1,.m 4 14,.m 5 15] [3,4]) (.seq (.seq (.region [.m 16 3,.cx (some 17) [.t 16,.c (.int .i64 6)] AZ] [3,4,17]) (.block 0 [4] (.seq (.region [.bin 19 .eql (.t 17) (.i 0),.m 18 19] [3,4,17,18]) (.cond (.t 18) (.seq (.region [.m 20 3,.m 21 4,.cl 22 [20,21] KN,.m 2 22] [2]) .ret) (.seq (.region [.bin 24 .eql (.t 17) (.i 1),.m 23 24] [3,4,23]) (.cond (.t 23) (.seq (.region [.m 26 4,.cl 27 [26] Lf,.m 25 27,.ext 28 (.t 25) 0,.ext 29 (.t 25) 1,.m 6 28,.m 7 29] [3,4,6,7]) (.seq (.region [.m 30 7] [3,4,6,30]) (.cond (.t 30) (.region [.m 32 3,.m 33 6,.cl 34 [32,33] KN,.cl 35 [34] NW,.m 31 35,.ext 36 (.t 31) 0,.ext 37 (.t 31) 1,.m 4 36] [4]) .skip))) .skip)))))) (.seq (.region [.m 38 4,.m 2 38] [2]) .ret)))))⟩
theorem Ny:BV Try.prog 26 Dk=true:=by kernel_rfl
def HS:AP:=(.seq (.seq (.region [.m 11 5,.bin 12 .lss (.t 11) (.i 12)] [3,4,5,12]) (.cond (.t 12) .skip (.exit 0))) (.seq (.block 1 [3,4,5] (.region [.m 15 4,.m 16 3,.cx (some 17) [.t 16,.c (.int .i64 10000)] AZ,.blst 18 (.int .i64) [.t 17],.app 19 3 (.int .i64) (.t 15) (.t 18),.m 4 19] [3,4,5])) (.region [.m 13 5,.bin 14 .add (.t 13) (.i 1),.m 5 14] [3,4,5])))
def HT:AP:=(.seq (.region [.m 20 4,.m 2 20] [2]) .ret)
def BO:Bs:=⟨[.val (.slice (.int .u8))],[⟨2,false,(.slice (.int .i64))⟩],(.seq (.region [.mv 2 (.c (.nil))] [0]) (.seq (.region [.m 6 0,.cl 7 [6] Jy,.m 3 7] [3]) (.seq (.region [.m 8 3,.cl 9 [8] Cq] [3]) (.seq (.region [.brow 10 3 (.int .i64) [],.m 4 10] [3,4]) (.seq (.seq (.region [.mv 5 (.i 0)] [3,4,5]) (.block 0 [4] (.loop [3,4,5] HS))) HT)))))⟩
theorem Oh:BV Try.prog 27 BO=true:=by kernel_rfl
def Fe:Bs:=⟨[.val (.int .i64)],[⟨2,false,.str⟩],(.seq (.region [.mv 2 (.c (.str ⟨#[]⟩))] [0]) (.seq (.region [.m 3 0,.cvi 4 .u8 (.t 3),.brow 5 5 (.int .u8) [.t 4],.bts 6 (.t 5),.m 2 6] [2]) .ret))⟩
theorem Sd:BV Try.prog 57 Fe=true:=by kernel_rfl
def Li:AP:=(.seq (.seq (.region [.m 5 0,.bin 6 .gtr (.t 5) (.i 127)] [0,3,6]) (.cond (.t 6) .skip (.exit 0))) (.block 1 [0,3] (.seq (.region [.m 7 3,.m 8 0,.bin 9 .rem (.t 8) (.i 128),.bin 10 .add (.t 9) (.i 128),.cvi 11 .u8 (.t 10),.blst 12 (.int .u8) [.t 11],.app 13 5 (.int .u8) (.t 7) (.t 12),.m 3 13] [0,3]) (.region [.m 14 0,.bin 15 .quo (.t 14) (.i 128),.m 0 15] [0,3]))))
def Lj:AP:=(.seq (.region [.m 16 3,.m 17 0,.cvi 18 .u8 (.t 17),.blst 19 (.int .u8) [.t 18],.app 20 5 (.int .u8) (.t 16) (.t 19),.bts 21 (.t 20),.m 2 21] [2]) .ret)
def Cc:Bs:=⟨[.val (.int .i64)],[⟨2,false,.str⟩],(.seq (.region [.mv 2 (.c (.str ⟨#[]⟩))] [0]) (.seq (.region [.brow 4 5 (.int .u8) [],.m 3 4] [0,3]) (.seq (.block 0 [0,3] (.loop [0,3] Li)) Lj)))⟩
theorem Tg:BV Try.prog 58 Cc=true:=by kernel_rfl
def Er:Bs:=⟨[.val .str],[⟨2,false,.str⟩],(.seq (.region [.mv 2 (.c (.str ⟨#[]⟩))] [0]) (.seq (.region [.m 3 0,.len 4 true (.t 3),.cl 5 [4] El,.m 6 0,.b 7 .add 5 6,.m 2 7] [2]) .ret))⟩
theorem RL:BV Try.prog 59 Er=true:=by kernel_rfl
def Gx:Bs:=⟨[.val .str],[⟨2,false,.str⟩,⟨3,false,.bool⟩],(.seq (.region [.mv 2 (.c (.str ⟨#[]⟩)),.mv 3 (.c (.bool false))] [0]) (.seq (.seq (.region [.m 4 0,.len 5 true (.t 4),.bin 6 .gtr (.t 5) (.i 20000)] [0,6]) (.cond (.t 6) (.seq (.region [.mv 2 (.c (.str ⟨#[]⟩)),.mv 3 (.c (.bool false))] [2,3]) .ret) .skip)) (.seq (.region [.m 7 0,.m 8 0,.cl 9 [8] Og,.cl 10 [9] MO,.b 11 .add 7 10,.m 2 11,.mv 3 (.c (.bool true))] [2,3]) .ret)))⟩
theorem Th:BV Try.prog 60 Gx=true:=by kernel_rfl
def KW:AP:=(.seq (.seq (.region [.m 4 0,.bin 5 .gtr (.t 4) (.i 127)] [0,3,5]) (.cond (.t 5) .skip (.exit 0))) (.block 1 [0,3] (.seq (.region [.m 6 3,.m 7 0,.bin 8 .rem (.t 7) (.i 128),.bin 9 .add (.i 128) (.t 8),.cvi 10 .u8 (.t 9),.blst 11 (.int .u8) [.t 10],.app 12 5 (.int .u8) (.t 6) (.t 11),.m 3 12] [0,3]) (.region [.m 13 0,.bin 14 .quo (.t 13) (.i 128),.m 0 14] [0,3]))))
def KX:AP:=(.seq (.region [.m 15 3,.m 16 0,.cvi 17 .u8 (.t 16),.blst 18 (.int .u8) [.t 17],.app 19 5 (.int .u8) (.t 15) (.t 18),.bts 20 (.t 19),.m 2 20] [2]) .ret)
def B8:Bs:=⟨[.val (.int .i64)],[⟨2,false,.str⟩],(.seq (.region [.mv 2 (.c (.str ⟨#[]⟩))] [0]) (.seq (.region [.nilrow 3 5 (.int .u8)] [0,3]) (.seq (.block 0 [0,3] (.loop [0,3] KW)) KX)))⟩
theorem Se:BV Try.prog 64 B8=true:=by kernel_rfl
def Gy:Bs:=⟨[.val .str],[⟨2,false,.str⟩,⟨3,false,.bool⟩],(.seq (.region [.mv 2 (.c (.str ⟨#[]⟩)),.mv 3 (.c (.bool false))] [0]) (.seq (.seq (.region [.m 4 0,.len 5 true (.t 4),.bin 6 .gtr (.t 5) (.i 20000)] [0,6]) (.cond (.t 6) (.seq (.region [.mv 2 (.c (.str ⟨#[]⟩)),.mv 3 (.c (.bool false))] [2,3]) .ret) .skip)) (.seq (.region [.m 7 0,.m 8 0,.cl 9 [8] MP,.b 10 .add 7 9,.m 2 10,.mv 3 (.c (.bool true))] [2,3]) .ret)))⟩
theorem Ti:BV Try.prog 65 Gy=true:=by kernel_rfl
def Im:DT:=(.sk 14 false 9 16 24 (.tk 17 [.pick 24 (.t 14) (.c (.bool true)) (.t 23)] .done))
def Es:Bs:=⟨[.val .str],[⟨2,false,.str⟩,⟨3,false,.bool⟩],(.seq (.region [.mv 2 (.c (.str ⟨#[]⟩)),.mv 3 (.c (.bool false))] [0]) (.seq (.region [.m 5 0,.len 6 true (.t 5),.bin 7 .sub (.t 6) (.i 4),.m 4 7] [0,4]) (.seq (.seq (.draw (RF 17 [(8,[6]),(9,[7,8]),(10,[6]),(11,[6]),(12,[10,11]),(15,[9,14])]) (.tk 3 [.m 10 9,.bin 9 .lss (.t 8) (.i 0),.m 8 4] (.test 10 (.sk 10 false 2 5 13 (.tk 7 [.m 14 13,.pick 13 (.t 10) (.c (.bool true)) (.t 12)] Im)) (.tg 10 false 5 [.bin 12 .gtr (.t 11) (.i 20000),.m 11 4] (.tk 7 [.m 14 13,.pick 13 (.t 10) (.c (.bool true)) (.t 12)] (.test 14 Im (.tg 14 false 13 [.sl 20 0 (.t 18) none (some (.t 19)),.m 19 4,.m 18 0,.sl 17 0 (.t 15) (some (.t 16)) none,.m 16 4,.m 15 0] (.only 13 (some (14,false)) (.cl 21 [20] Og) false [] (.only 14 (some (14,false)) (.cl 22 [21] MO) false [] (.tg 14 false 16 [.b 23 .neq 17 22] (.tk 17 [.pick 24 (.t 14) (.c (.bool true)) (.t 23)] .done)))))))))) [0,4,24]) (.cond (.t 24) (.seq (.region [.mv 2 (.c (.str ⟨#[]⟩)),.mv 3 (.c (.bool false))] [2,3]) .ret) .skip)) (.seq (.region [.m 25 0,.m 26 4,.sl 27 0 (.t 25) none (some (.t 26)),.m 2 27,.mv 3 (.c (.bool true))] [2,3]) .ret))))⟩
theorem RM:BV Try.prog 68 Es=true:=by kernel_rfl
def Gz:Bs:=⟨[.ptr AU],[⟨2,false,(.int .i64)⟩],(.seq (.region [.mv 2 (.i 0)] [0]) (.seq (.region [.m 4 0,.cx (some 5) [.t 4,.c (.int .i64 1)] Hz,.m 3 5] [0,3]) (.seq (.seq (.region [.m 6 0,.n 7 6,.f 8 7 2,.l 9 8] [3,9]) (.cond (.t 9) (.seq (.region [.mv 2 (.i 0)] [2]) .ret) .skip)) (.seq (.region [.m 10 3,.sidx 11 (.t 10) (.i 0),.cvi 12 .i64 (.t 11),.m 2 12] [2]) .ret))))⟩
theorem Tj:BV Try.prog 69 Gz=true:=by kernel_rfl
def G0:Bs:=⟨[.ptr AU],[⟨2,false,(.int .i64)⟩],(.seq (.region [.mv 2 (.i 0)] [0]) (.seq (.draw (RF 16 [(4,[]),(8,[3,7]),(11,[9]),(12,[9]),(13,[10]),(14,[11,13]),(15,[12,14])]) (.tk 8 [.l 14 13,.f 13 12 1,.n 12 11,.m 11 0,.l 10 9,.f 9 8 0,.n 8 7,.m 7 0] (.only 8 none (.cl 15 [10,14] SS) false [] (.tk 16 [.m 5 18,.m 4 17,.m 3 16,.ext 18 (.t 6) 2,.ext 17 (.t 6) 1,.ext 16 (.t 6) 0,.m 6 15] .done))) [0,3,4,5]) (.seq (.seq (.region [.m 19 0,.n 20 19,.f 21 20 2,.l 22 21,.m 23 22,.sc 23 false [.m 24 5,.un 25 .not (.t 24)] 26 (.c (.bool true)) (.t 25)] [0,3,4,26]) (.cond (.t 26) (.seq (.region [.m 27 0,.n 28 27,.f 29 28 2,.store (.t 29) (.c (.bool true)) 1 false] []) (.seq (.region [.mv 2 (.i 0)] [2]) .ret)) .skip)) (.seq (.region [.m 30 0,.m 31 4,.n 32 30,.f 33 32 1,.store (.t 33) (.t 31) 1 false] [3]) (.seq (.region [.m 34 3,.m 2 34] [2]) .ret)))))⟩
theorem Tk:BV Try.prog 70 G0=true:=by kernel_rfl
def KY:AP:=(.seq (.region [.m 26 0,.m 27 0,.n 28 27,.f 29 28 1,.l 30 29,.m 31 1,.b 32 .add 30 31,.n 33 26,.f 34 33 1,.store (.t 34) (.t 32) 1 false] [0,1]) (.seq (.draw (RF 16 [(4,[]),(8,[]),(9,[7,8]),(10,[]),(14,[3,9,13])]) (.tk 16 [.m 4 49,.sl 49 0 (.t 38) (some (.t 44)) (some (.t 48)),.l 48 47,.f 47 46 1,.n 46 45,.m 45 0,.b 44 .sub 42 43,.m 43 1,.l 42 41,.f 41 40 1,.n 40 39,.m 39 0,.l 38 37,.f 37 36 0,.n 36 35,.m 35 0] .done) [4]) .ret))
def DW:Bs:=⟨[.ptr AU,.val (.int .i64)],[⟨4,false,.str⟩],(.seq (.region [.mv 4 (.c (.str ⟨#[]⟩))] [0,1]) (.seq (.seq (.draw (RF 18 [(6,[4]),(11,[4]),(15,[10,14]),(16,[5,15])]) (.tk 5 [.m 9 8,.l 8 7,.f 7 6 2,.n 6 5,.m 5 0] (.test 9 (.sk 9 false 12 17 22 (.tk 18 [.pick 22 (.t 9) (.c (.bool true)) (.t 21)] .done)) (.tg 9 false 17 [.b 21 .gtr 10 20,.b 20 .sub 15 19,.l 19 18,.f 18 17 1,.n 17 16,.m 16 0,.len 15 true (.t 14),.l 14 13,.f 13 12 0,.n 12 11,.m 11 0,.m 10 1] (.tk 18 [.pick 22 (.t 9) (.c (.bool true)) (.t 21)] .done)))) [0,1,22]) (.cond (.t 22) (.seq (.region [.m 23 0,.n 24 23,.f 25 24 2,.store (.t 25) (.c (.bool true)) 1 false] []) (.seq (.region [.mv 4 (.c (.str ⟨#[]⟩))] [4]) .ret)) .skip)) KY))⟩
theorem Sf:BV Try.prog 71 DW=true:=by kernel_rfl
def In:DT:=(.sk 14 false 8 15 23 (.tk 16 [.pick 23 (.t 14) (.c (.bool true)) (.t 22)] .done))
def Et:Bs:=⟨[.val .str],[⟨2,false,.str⟩,⟨3,false,.bool⟩],(.seq (.region [.mv 2 (.c (.str ⟨#[]⟩)),.mv 3 (.c (.bool false))] [0]) (.seq (.region [.m 5 0,.len 6 true (.t 5),.bin 7 .sub (.t 6) (.i 4),.m 4 7] [0,4]) (.seq (.seq (.draw (RF 16 [(8,[6]),(9,[7,8]),(11,[6]),(12,[6]),(13,[11,12]),(14,[10,13])]) (.tk 3 [.m 10 9,.bin 9 .lss (.t 8) (.i 0),.m 8 4] (.test 10 (.sk 10 false 2 5 13 (.tk 7 [.m 14 13,.pick 13 (.t 10) (.c (.bool true)) (.t 12)] In)) (.tg 10 false 5 [.bin 12 .gtr (.t 11) (.i 20000),.m 11 4] (.tk 7 [.m 14 13,.pick 13 (.t 10) (.c (.bool true)) (.t 12)] (.test 14 In (.tg 14 false 10 [.sl 17 0 (.t 15) none (some (.t 16)),.m 16 4,.m 15 0] (.tg 14 false 14 [.sl 21 0 (.t 19) (some (.t 20)) none,.m 20 4,.m 19 0] (.only 10 (some (14,false)) (.cl 18 [17] MP) false [] (.tg 14 false 15 [.b 22 .neq 18 21] (.tk 16 [.pick 23 (.t 14) (.c (.bool true)) (.t 22)] .done)))))))))) [0,4,23]) (.cond (.t 23) (.seq (.region [.mv 2 (.c (.str ⟨#[]⟩)),.mv 3 (.c (.bool false))] [2,3]) .ret) .skip)) (.seq (.region [.m 24 0,.m 25 4,.sl 26 0 (.t 24) none (some (.t 25)),.m 2 26,.mv 3 (.c (.bool true))] [2,3]) .ret))))⟩
theorem RN:BV Try.prog 72 Et=true:=by kernel_rfl
def Ff:AP:=(.seq (.region [.m 22 0,.n 23 22,.f 24 23 1,.l 25 24,.bin 26 .add (.t 25) (.i 1),.n 27 22,.f 28 27 1,.store (.t 28) (.t 26) 1 false] [0]) (.seq (.draw (RF 12 [(4,[]),(9,[3,8])]) (.tk 12 [.m 2 39,.cvi 39 .i64 (.t 38),.sidx 38 (.t 32) (.t 37),.bin 37 .sub (.t 36) (.i 1),.l 36 35,.f 35 34 1,.n 34 33,.m 33 0,.l 32 31,.f 31 30 0,.n 30 29,.m 29 0] .done) [2]) .ret))
def BX:Bs:=⟨[.ptr AU],[⟨2,false,(.int .i64)⟩],(.seq (.region [.mv 2 (.i 0)] [0]) (.seq (.seq (.draw (RF 16 [(9,[4]),(14,[8,13])]) (.tk 5 [.m 7 6,.l 6 5,.f 5 4 2,.n 4 3,.m 3 0] (.test 7 (.sk 7 false 10 15 18 (.tk 16 [.pick 18 (.t 7) (.c (.bool true)) (.t 17)] .done)) (.tg 7 false 15 [.b 17 .geq 11 16,.len 16 true (.t 15),.l 15 14,.f 14 13 0,.n 13 12,.m 12 0,.l 11 10,.f 10 9 1,.n 9 8,.m 8 0] (.tk 16 [.pick 18 (.t 7) (.c (.bool true)) (.t 17)] .done)))) [0,18]) (.cond (.t 18) (.seq (.region [.m 19 0,.n 20 19,.f 21 20 2,.store (.t 21) (.c (.bool true)) 1 false] []) (.seq (.region [.mv 2 (.i 0)] [2]) .ret)) .skip)) Ff))⟩
theorem MY:BV Try.prog 73 BX=true:=by kernel_rfl
def CG:Bs:=⟨[.ptr AU],[⟨2,false,(.int .i64)⟩],(.seq (.region [.mv 2 (.i 0)] [0]) (.seq (.draw (RF 16 [(4,[]),(8,[3,7]),(11,[9]),(12,[9]),(13,[10]),(14,[11,13]),(15,[12,14])]) (.tk 8 [.l 14 13,.f 13 12 1,.n 12 11,.m 11 0,.l 10 9,.f 9 8 0,.n 8 7,.m 7 0] (.only 8 none (.cl 15 [10,14] MQ) false [] (.tk 16 [.m 5 18,.m 4 17,.m 3 16,.ext 18 (.t 6) 2,.ext 17 (.t 6) 1,.ext 16 (.t 6) 0,.m 6 15] .done))) [0,3,4,5]) (.seq (.seq (.region [.m 19 0,.n 20 19,.f 21 20 2,.l 22 21,.m 23 22,.sc 23 false [.m 24 5,.un 25 .not (.t 24)] 26 (.c (.bool true)) (.t 25)] [0,3,4,26]) (.cond (.t 26) (.seq (.region [.m 27 0,.n 28 27,.f 29 28 2,.store (.t 29) (.c (.bool true)) 1 false] []) (.seq (.region [.mv 2 (.i 0)] [2]) .ret)) .skip)) (.seq (.region [.m 30 0,.m 31 4,.n 32 30,.f 33 32 1,.store (.t 33) (.t 31) 1 false] [3]) (.seq (.region [.m 34 3,.m 2 34] [2]) .ret)))))⟩
theorem KZ:BV Try.prog 74 CG=true:=by kernel_rfl
def CZ:Bs:=⟨[.ptr AU],[⟨2,false,.str⟩],(.seq (.region [.mv 2 (.c (.str ⟨#[]⟩))] [0]) (.seq (.draw (RF 16 [(4,[]),(8,[3,7]),(11,[9]),(12,[9]),(13,[10]),(14,[11,13]),(15,[12,14])]) (.tk 8 [.l 14 13,.f 13 12 1,.n 12 11,.m 11 0,.l 10 9,.f 9 8 0,.n 8 7,.m 7 0] (.only 8 none (.cl 15 [10,14] Pp) false [] (.tk 16 [.m 5 18,.m 4 17,.m 3 16,.ext 18 (.t 6) 2,.ext 17 (.t 6) 1,.ext 16 (.t 6) 0,.m 6 15] .done))) [0,3,4,5]) (.seq (.seq (.region [.m 19 0,.n 20 19,.f 21 20 2,.l 22 21,.m 23 22,.sc 23 false [.m 24 5,.un 25 .not (.t 24)] 26 (.c (.bool true)) (.t 25)] [0,3,4,26]) (.cond (.t 26) (.seq (.region [.m 27 0,.n 28 27,.f 29 28 2,.store (.t 29) (.c (.bool true)) 1 false] []) (.seq (.region [.mv 2 (.c (.str ⟨#[]⟩))] [2]) .ret)) .skip)) (.seq (.region [.m 30 0,.m 31 4,.n 32 30,.f 33 32 1,.store (.t 33) (.t 31) 1 false] [3]) (.seq (.region [.m 34 3,.m 2 34] [2]) .ret)))))⟩
theorem LV:BV Try.prog 75 CZ=true:=by kernel_rfl
def ET:Bs:=⟨[.ptr AM],[⟨2,true,A_⟩],(.seq (.region [.al 2 A_] [0,2]) (.seq (.region [.m 4 0,.cl 5 [4] Tc,.al 3 A_,.store (.t 3) (.t 5) 6 false] [0,2,3]) (.seq (.seq (.region [.m 6 0,.cx (some 7) [.t 6,.c (.int .i64 20)] AZ] [0,2,3,7]) (.block 0 [2,3] (.seq (.region [.bin 9 .eql (.t 7) (.i 0),.m 8 9] [0,2,3,7,8]) (.cond (.t 8) (.region [.m 10 0,.blst 11 (.int .i64) [.c (.int .i64 0),.c (.int .i64 1),.c (.int .i64 2),.c (.int .i64 5),.c (.int .i64 9)],.cl 12 [10,11] C5,.f 13 3 0,.store (.t 13) (.t 12) 1 false] [2,3]) (.seq (.region [.bin 15 .eql (.t 7) (.i 1),.m 14 15] [0,2,3,7,14]) (.cond (.t 14) (.region [.m 16 0,.brow 17 3 (.int .i64) [.c (.int .i64 0),.c (.int .i64 6),.c (.int .i64 7)],.cl 18 [16,17] C5,.f 19 3 1,.store (.t 19) (.t 18) 1 false] [2,3]) (.seq (.region [.bin 21 .eql (.t 7) (.i 2),.m 20 21] [0,2,3,7,20]) (.cond (.t 20) (.region [.m 22 0,.brow 23 3 (.int .i64) [.c (.int .i64 0),.c (.int .i64 9),.c (.int .i64 10)],.cl 24 [22,23] C5,.f 25 3 3,.store (.t 25) (.t 24) 1 false] [2,3]) (.seq (.region [.bin 27 .eql (.t 7) (.i 3),.m 26 27] [0,2,3,7,26]) (.cond (.t 26) (.region [.m 28 0,.brow 29 3 (.int .i64) [.c (.int .i64 (-1)),.c (.int .i64 1000000000),.c (.int .i64 1000000001)],.cl 30 [28,29] C5,.f 31 3 4,.store (.t 31) (.t 30) 1 false] [2,3]) (.seq (.region [.bin 33 .eql (.t 7) (.i 4),.m 32 33] [0,2,3,32]) (.cond (.t 32) (.region [.m 34 0,.cl 35 [34] Nw,.f 36 3 5,.store (.t 36) (.t 35) 1 false] [2,3]) .skip)))))))))))) (.seq (.region [.ls 37 3 6,.store (.t 2) (.t 37) 6 false] [2]) .ret))))⟩
theorem Ps:BV Try.prog 78 ET=true:=by kernel_rfl
def Lk:AP:=(.seq (.block 1 [0,3,4] (.region [.m 18 3,.bin 19 .mul (.t 18) (.i 131),.m 20 0,.m 21 4,.idx 22 1 (.t 20) (.t 21),.l 23 22,.cvi 24 .i64 (.t 23),.b 25 .add 19 24,.bin 26 .add (.t 25) (.i 7),.bin 27 .and (.t 26) (.i 1073741823),.m 3 27] [0,3,4])) (.region [.m 16 4,.bin 17 .add (.t 16) (.i 1),.m 4 17] [0,3,4]))
def Ll:AP:=(.seq (.seq (.region [.m 8 4,.m 9 0,.len 10 false (.t 9),.b 11 .lss 8 10,.m 12 11,.sc 12 true [.m 13 4,.bin 14 .lss (.t 13) (.i 4000)] 15 (.t 14) (.c (.bool false))] [0,3,4,15]) (.cond (.t 15) .skip (.exit 0))) Lk)
def Ln:AP:=(.seq (.region [.m 28 0,.m 29 3,.bu 30 AM [(0,1,.t 28),(2,1,.t 29)],.box 31 (.t 30) false,.m 2 31] [2]) .ret)
def Bx:Bs:=⟨[.val (.slice (.int .u8))],[⟨2,false,(.ref AM)⟩],(.seq (.region [.mv 2 (.c (.undef))] [0]) (.seq (.region [.m 5 0,.len 6 false (.t 5),.bin 7 .add (.i 14301) (.t 6),.m 3 7] [0,3]) (.seq (.seq (.region [.mv 4 (.i 0)] [0,3,4]) (.block 0 [0,3] (.loop [0,3,4] Ll))) Ln)))⟩
theorem Tl:BV Try.prog 79 Bx=true:=by kernel_rfl
def Hf:Bs:=⟨[.val (.int .i64),.val (.int .i64),.val (.int .i64)],[⟨6,false,.bool⟩],(.seq (.region [.mv 6 (.c (.bool false))] [0,1,2]) (.seq (.region [.m 7 0,.m 8 1,.b 9 .geq 7 8,.m 10 9,.sc 10 true [.m 11 0,.m 12 2,.b 13 .leq 11 12] 14 (.t 13) (.c (.bool false)),.m 6 14] [6]) .ret))⟩
theorem Up:BV Try.prog 80 Hf=true:=by kernel_rfl
def Io:DT:=(.sk 32 false 3 21 36 (.sk 35 true 9 30 45 (.sk 32 false 1 31 46 (.tk 32 [.pick 46 (.t 32) (.c (.bool true)) (.t 45)] .done))))
def Ip:DT:=(.sk 26 false 4 16 31 (.tk 18 [.m 32 31,.pick 31 (.t 26) (.c (.bool true)) (.t 30)] Io))
def Iq:DT:=(.tg 32 false 31 [.pick 45 (.t 35) (.t 44) (.c (.bool false))] (.tk 32 [.pick 46 (.t 32) (.c (.bool true)) (.t 45)] .done))
def Ir:AP:=(.seq (.seq (.region [.m 5 3,.m 6 0,.len 7 false (.t 6),.b 8 .lss 5 7] [0,3,8]) (.cond (.t 8) .skip (.exit 0))) (.seq (.block 1 [0,3] (.seq (.region [.m 11 0,.m 12 3,.idx 13 3 (.t 11) (.t 12),.ls 14 13 3,.al 4 AE,.store (.t 4) (.t 14) 3 false] [0,3,4]) (.seq (.draw (RF 32 [(22,[20]),(24,[21,23]),(27,[20]),(29,[26,28])]) (.tk 3 [.len 17 true (.t 16),.l 16 15,.f 15 4 0] (.only 3 none (.cx (some 18) [.t 17,.c (.int .i64 1),.c (.int .i64 12)] C4) false [] (.tk 6 [.m 20 19,.un 19 .not (.t 18)] (.test 20 (.sk 20 false 4 10 25 (.tk 12 [.m 26 25,.pick 25 (.t 20) (.c (.bool true)) (.t 24)] Ip)) (.tg 20 false 10 [.bin 24 .gtr (.t 23) (.i 20),.len 23 true (.t 22),.l 22 21,.f 21 4 1] (.tk 12 [.m 26 25,.pick 25 (.t 20) (.c (.bool true)) (.t 24)] (.test 26 Ip (.tg 26 false 14 [.l 28 27,.f 27 4 2] (.only 14 (some (26,false)) (.cx (some 29) [.t 28,.c (.int .i64 1),.c (.int .i64 1000000000)] C4) false [] (.tg 26 false 16 [.un 30 .not (.t 29)] (.tk 18 [.m 32 31,.pick 31 (.t 26) (.c (.bool true)) (.t 30)] (.test 32 Io (.tg 32 false 21 [.m 35 34,.bin 34 .gtr (.t 33) (.i 0),.m 33 3] (.test 35 (.tg 35 true 30 [.b 44 .geq 41 43,.l 43 42,.f 42 4 0,.l 41 40,.f 40 39 0,.idx 39 3 (.t 36) (.t 38),.bin 38 .sub (.t 37) (.i 1),.m 37 3,.m 36 0] Iq) (.sk 35 true 9 30 45 Iq))))))))))))))) [0,3,46]) (.cond (.t 46) (.seq (.region [.mv 2 (.c (.bool false))] [2]) .ret) .skip)))) (.region [.m 9 3,.bin 10 .add (.t 9) (.i 1),.m 3 10] [0,3])))
def Is:AP:=(.seq (.region [.m 47 0,.len 48 false (.t 47),.bin 49 .leq (.t 48) (.i 12),.m 2 49] [2]) .ret)
def B9:Bs:=⟨[.val (.slice AE)],[⟨2,false,.bool⟩],(.seq (.region [.mv 2 (.c (.bool false))] [0]) (.seq (.seq (.region [.mv 3 (.i 0)] [0,3]) (.block 0 [0] (.loop [0,3] Ir))) Is))⟩
theorem Sg:BV Try.prog 81 B9=true:=by kernel_rfl
def Fg:Bs:=⟨[.val (.int .i64),.val (.int .i64),.val (.int .i64)],[⟨6,false,.bool⟩],(.seq (.region [.mv 6 (.c (.bool false))] [0,1,2]) (.seq (.region [.m 7 0,.m 8 1,.b 9 .geq 7 8,.m 10 9,.sc 10 true [.m 11 0,.m 12 2,.b 13 .leq 11 12] 14 (.t 13) (.c (.bool false)),.m 6 14] [6]) .ret))⟩
theorem Sh:BV Try.prog 82 Fg=true:=by kernel_rfl
def G1:Bs:=⟨[.val (.int .i64)],[⟨2,false,.bool⟩],(.seq (.region [.mv 2 (.c (.bool false))] [0]) (.seq (.region [.m 3 0,.cx (some 4) [.t 3,.c (.int .i64 1),.c (.int .i64 6)] DV,.m 2 4] [2]) .ret))⟩
theorem Tm:BV Try.prog 83 G1=true:=by kernel_rfl
def It:DT:=(.sk 28 false 3 20 32 (.sk 31 true 9 29 41 (.sk 28 false 1 30 42 (.tk 31 [.pick 42 (.t 28) (.c (.bool true)) (.t 41)] .done))))
def Iu:DT:=(.sk 22 false 4 15 27 (.tk 17 [.m 28 27,.pick 27 (.t 22) (.c (.bool true)) (.t 26)] It))
def Iv:DT:=(.tg 28 false 30 [.pick 41 (.t 31) (.t 40) (.c (.bool false))] (.tk 31 [.pick 42 (.t 28) (.c (.bool true)) (.t 41)] .done))
def Iw:AP:=(.seq (.region [.b 8 .lss 7 6] [0,5,6,7,8]) (.seq (.cond (.t 8) .skip (.exit 0)) (.seq (.block 1 [0,5,6,7] (.seq (.region [.m 9 7,.idx 10 3 (.t 5) (.t 7),.ls 11 10 3,.al 4 AE,.m 3 9,.store (.t 4) (.t 11) 3 false] [0,3,4,5,6,7]) (.seq (.draw (RF 31 [(22,[19]),(23,[19]),(25,[22,24]),(28,[21,27])]) (.tk 2 [.l 13 12,.f 12 4 0] (.only 2 none (.cl 14 [13] Ul) false [] (.tk 5 [.m 16 15,.un 15 .not (.t 14)] (.test 16 (.sk 16 false 4 9 21 (.tk 11 [.m 22 21,.pick 21 (.t 16) (.c (.bool true)) (.t 20)] Iu)) (.tg 16 false 9 [.bin 20 .gtr (.t 19) (.i 20),.len 19 true (.t 18),.l 18 17,.f 17 4 1] (.tk 11 [.m 22 21,.pick 21 (.t 16) (.c (.bool true)) (.t 20)] (.test 22 Iu (.tg 22 false 13 [.l 24 23,.f 23 4 2] (.only 13 (some (22,false)) (.cx (some 25) [.t 24,.c (.int .i64 1),.c (.int .i64 1000000000)] DV) false [] (.tg 22 false 15 [.un 26 .not (.t 25)] (.tk 17 [.m 28 27,.pick 27 (.t 22) (.c (.bool true)) (.t 26)] (.test 28 It (.tg 28 false 20 [.m 31 30,.bin 30 .gtr (.t 29) (.i 0),.m 29 3] (.test 31 (.tg 31 true 29 [.b 40 .leq 33 39,.l 39 38,.f 38 37 0,.idx 37 3 (.t 34) (.t 36),.bin 36 .sub (.t 35) (.i 1),.m 35 3,.m 34 0,.l 33 32,.f 32 4 0] Iv) (.sk 31 true 9 29 41 Iv))))))))))))))) [0,5,6,7,42]) (.cond (.t 42) (.seq (.region [.mv 2 (.c (.bool false))] [2]) .ret) .skip)))) (.region [.bin 43 .add (.t 7) (.i 1),.m 7 43] [0,5,6,7]))))
def Ix:AP:=(.seq (.region [.m 44 0,.len 45 false (.t 44),.bin 46 .leq (.t 45) (.i 12),.m 2 46] [2]) .ret)
def B_:Bs:=⟨[.val (.slice AE)],[⟨2,false,.bool⟩],(.seq (.region [.mv 2 (.c (.bool false))] [0]) (.seq (.seq (.region [.m 5 0,.len 6 false (.t 5),.mv 7 (.i 0)] [0,5,6,7]) (.block 0 [0] (.loop [0,5,6,7] Iw))) Ix))⟩
theorem Si:BV Try.prog 84 B_=true:=by kernel_rfl
def Eu:Bs:=⟨[.ptr AM,.val (.int .i64)],[⟨4,false,(.int .i64)⟩],(.seq (.region [.mv 4 (.i 0)] [0,1]) (.seq (.seq (.region [.m 9 1,.bin 10 .leq (.t 9) (.i 0)] [0,1,10]) (.cond (.t 10) (.seq (.region [.mv 4 (.i 0)] [4]) .ret) .skip)) (.seq (.seq (.region [.m 11 1,.bin 12 .leq (.t 11) (.i 256)] [0,1,12]) (.cond (.t 12) (.seq (.region [.m 13 0,.cl 14 [13] Cq,.m 15 1,.b 16 .rem 14 15,.m 4 16] [4]) .ret) .skip)) (.seq (.region [.m 17 0,.cl 18 [17] Cq,.m 5 18] [0,1,5]) (.seq (.region [.m 19 0,.cl 20 [19] Cq,.m 6 20] [0,1,5,6]) (.seq (.region [.m 21 0,.cl 22 [21] Cq,.m 7 22] [0,1,5,6,7]) (.seq (.region [.m 23 0,.cl 24 [23] Cq,.m 8 24] [1,5,6,7,8]) (.seq (.region [.m 25 5,.bin 26 .mul (.t 25) (.i 16777216),.m 27 6,.bin 28 .mul (.t 27) (.i 65536),.b 29 .add 26 28,.m 30 7,.bin 31 .mul (.t 30) (.i 256),.b 32 .add 29 31,.m 33 8,.b 34 .add 32 33,.m 35 1,.b 36 .rem 34 35,.m 4 36] [4]) .ret))))))))⟩
theorem RO:BV Try.prog 85 Eu=true:=by kernel_rfl
def H_:AP:=(.cond (.t 23) (.seq (.region [.m 26 1,.len 27 true (.t 26),.bin 28 .gtr (.t 27) (.i 0)] [0,1,28]) (.cond (.t 28) (.seq (.region [.m 29 0,.m 30 1,.len 31 true (.t 30),.cl 32 [29,31] AZ,.m 5 32] [0,1,5]) (.seq (.draw (RF 12 [(1,[]),(2,[0,1]),(3,[]),(5,[2,4]),(6,[]),(7,[]),(9,[6,8]),(10,[5,9])]) (.tk 4 [.m 36 0,.sl 35 0 (.t 33) none (some (.t 34)),.m 34 5,.m 33 1] (.tk 10 [.sl 42 0 (.t 39) (some (.t 41)) none,.bin 41 .add (.t 40) (.i 1),.m 40 5,.m 39 1] (.only 4 none (.cx (some 37) [.t 36,.c (.int .i64 1)] MR) false [] (.tk 6 [.b 38 .add 35 37] (.tk 12 [.m 4 43,.b 43 .add 38 42] .done))))) [4]) .ret)) .skip)) .skip)
def IA:AP:=(.seq (.region [.m 44 1,.m 4 44] [4]) .ret)
def Bv:Bs:=⟨[.ptr AM,.val .str],[⟨4,false,.str⟩],(.seq (.region [.mv 4 (.c (.str ⟨#[]⟩))] [0,1]) (.seq (.seq (.region [.m 6 0,.cx (some 7) [.t 6,.c (.int .i64 12)] AZ] [0,1,7]) (.block 0 [1] (.seq (.region [.bin 9 .eql (.t 7) (.i 0),.m 8 9] [0,1,7,8]) (.cond (.t 8) (.seq (.region [.m 10 1,.m 11 0,.cx (some 12) [.t 11,.c (.int .i64 1)] MR,.b 13 .add 10 12,.m 4 13] [4]) .ret) (.seq (.region [.bin 15 .eql (.t 7) (.i 1),.m 14 15] [0,1,7,14]) (.cond (.t 14) (.seq (.region [.m 16 1,.m 17 0,.m 18 1,.len 19 true (.t 18),.bin 20 .add (.t 19) (.i 1),.cl 21 [17,20] AZ,.sl 22 0 (.t 16) none (some (.t 21)),.m 4 22] [4]) .ret) (.seqc [0,1,23] (.seq (.region [.bin 24 .eql (.t 7) (.i 2),.m 23 24] [0,1,7,23]) (.cond (.t 23) .skip (.region [.bin 25 .eql (.t 7) (.i 3),.m 23 25] [0,1,23]))) H_))))))) IA))⟩
theorem Pt:BV Try.prog 86 Bv=true:=by kernel_rfl
def Fh:Bs:=⟨[.ptr AM],[⟨2,false,(.int .i64)⟩],(.seq (.region [.mv 2 (.i 0)] [0]) (.seq (.region [.m 4 0,.m 5 0,.n 6 5,.f 7 6 2,.l 8 7,.bin 9 .mul (.t 8) (.i 6364136223846793005),.bin 10 .add (.t 9) (.i 1442695040888963407),.n 11 4,.f 12 11 2,.store (.t 12) (.t 10) 1 false] [0]) (.seq (.draw (RF 13 [(5,[]),(10,[4,9])]) (.tk 13 [.m 3 24,.bin 24 .and (.t 23) (.i 255),.b 23 .xor 17 22,.bin 22 .shr (.t 21) (.c (.int .u64 45)),.l 21 20,.f 20 19 2,.n 19 18,.m 18 0,.bin 17 .shr (.t 16) (.c (.int .u64 33)),.l 16 15,.f 15 14 2,.n 14 13,.m 13 0] .done) [0,3]) (.seqc [3] (.seq (.draw (RF 10 [(4,[]),(9,[3,8])]) (.tk 10 [.b 34 .lss 28 33,.len 33 false (.t 32),.l 32 31,.f 31 30 0,.n 30 29,.m 29 0,.l 28 27,.f 27 26 1,.n 26 25,.m 25 0] .done) [0,3,34]) (.cond (.t 34) (.seq (.draw (RF 15 [(1,[]),(5,[]),(9,[4,8]),(12,[0,11])]) (.tk 15 [.m 3 48,.bin 48 .and (.t 47) (.i 255),.b 47 .add 35 46,.cvi 46 .i64 (.t 45),.l 45 44,.idx 44 1 (.t 39) (.t 43),.l 43 42,.f 42 41 1,.n 41 40,.m 40 0,.l 39 38,.f 38 37 0,.n 37 36,.m 36 0,.m 35 3] .done) [0,3]) (.region [.m 49 0,.m 50 0,.n 51 50,.f 52 51 1,.l 53 52,.bin 54 .add (.t 53) (.i 1),.n 55 49,.f 56 55 1,.store (.t 56) (.t 54) 1 false] [3])) .skip)) (.seq (.region [.m 57 3,.m 2 57] [2]) .ret)))))⟩
theorem Sj:BV Try.prog 87 Fh=true:=by kernel_rfl
def Fi:Bs:=⟨[.val (.int .u32)],[⟨2,false,.str⟩],(.seq (.region [.mv 2 (.c (.str ⟨#[]⟩))] [0]) (.seq (.region [.m 3 0,.bin 4 .shr (.t 3) (.c (.int .u64 24)),.cvi 5 .u8 (.t 4),.m 6 0,.bin 7 .shr (.t 6) (.c (.int .u64 16)),.cvi 8 .u8 (.t 7),.m 9 0,.bin 10 .shr (.t 9) (.c (.int .u64 8)),.cvi 11 .u8 (.t 10),.m 12 0,.cvi 13 .u8 (.t 12),.brow 14 5 (.int .u8) [.t 5,.t 8,.t 11,.t 13],.bts 15 (.t 14),.m 2 15] [2]) .ret))⟩
theorem Sk:BV Try.prog 132 Fi=true:=by kernel_rfl
def Hg:Bs:=⟨[.val .str],[⟨2,false,(.int .u32)⟩],(.seq (.region [.mv 2 (.c (.int .u32 0))] [0]) (.seq (.region [.m 3 0,.cx (some 4) [.c (.int .u32 4294967295),.t 3] ST,.m 2 4] [2]) .ret))⟩
theorem Uq:BV Try.prog 133 Hg=true:=by kernel_rfl
def Fj:Bs:=⟨[.val .str],[⟨2,false,.str⟩],(.seq (.region [.mv 2 (.c (.str ⟨#[]⟩))] [0]) (.seq (.region [.m 4 0,.cl 5 [4] Um,.m 3 5] [3]) (.seq (.region [.m 6 3,.bin 7 .shr (.t 6) (.c (.int .u64 24)),.cvi 8 .u8 (.t 7),.m 9 3,.bin 10 .shr (.t 9) (.c (.int .u64 16)),.cvi 11 .u8 (.t 10),.m 12 3,.bin 13 .shr (.t 12) (.c (.int .u64 8)),.cvi 14 .u8 (.t 13),.m 15 3,.cvi 16 .u8 (.t 15),.brow 17 5 (.int .u8) [.t 8,.t 11,.t 14,.t 16],.bts 18 (.t 17),.m 2 18] [2]) .ret)))⟩
theorem Sl:BV Try.prog 136 Fj=true:=by kernel_rfl
def Ka:AP:=(.seq (.block 1 [0,1,7,8,9] (.seq (.region [.m 28 7,.m 29 0,.m 30 9,.sidx 31 (.t 29) (.t 30),.cvi 32 .i64 (.t 31),.bin 33 .rem (.t 32) (.i 128),.m 34 8,.b 35 .mul 33 34,.b 36 .add 28 35,.m 7 36] [0,1,7,8,9]) (.seq (.region [.m 37 8,.bin 38 .mul (.t 37) (.i 128),.m 8 38] [0,1,7,8,9]) (.seq (.region [.m 39 0,.m 40 9,.sidx 41 (.t 39) (.t 40),.bin 42 .lss (.t 41) (.c (.int .u8 128))] [0,1,7,8,9,42]) (.cond (.t 42) (.seq (.seq (.draw (RF 12 [(5,[2]),(6,[2]),(7,[2]),(9,[5,6,8]),(10,[4,9])]) (.tk 3 [.m 45 44,.bin 44 .gtr (.t 43) (.i 1000000000),.m 43 7] (.test 45 (.sk 45 false 8 11 54 (.tk 12 [.pick 54 (.t 45) (.c (.bool true)) (.t 53)] .done)) (.tg 45 false 4 [.m 46 7] (.tg 45 false 10 [.sl 52 0 (.t 48) (some (.t 49)) (some (.t 51)),.bin 51 .add (.t 50) (.i 1),.m 50 9,.m 49 1,.m 48 0] (.only 4 (some (45,false)) (.cl 47 [46] El) false [] (.tg 45 false 11 [.b 53 .neq 47 52] (.tk 12 [.pick 54 (.t 45) (.c (.bool true)) (.t 53)] .done))))))) [7,9,54]) (.cond (.t 54) (.seq (.region [.mv 4 (.i 0),.mv 5 (.i 0),.mv 6 (.c (.bool false))] [4,5,6]) .ret) .skip)) (.seq (.region [.m 55 7,.m 56 9,.bin 57 .add (.t 56) (.i 1),.m 4 55,.m 5 57,.mv 6 (.c (.bool true))] [4,5,6]) .ret)) .skip))))) (.region [.m 26 9,.bin 27 .add (.t 26) (.i 1),.m 9 27] [0,1,7,8,9]))
def Kb:AP:=(.seq (.seq (.region [.m 16 9,.m 17 0,.len 18 true (.t 17),.b 19 .lss 16 18,.m 20 19,.sc 20 true [.m 21 9,.m 22 1,.bin 23 .add (.t 22) (.i 5),.b 24 .lss 21 23] 25 (.t 24) (.c (.bool false))] [0,1,7,8,9,25]) (.cond (.t 25) .skip (.exit 0))) Ka)
def Iy:AP:=(.seq (.region [.mv 4 (.i 0),.mv 5 (.i 0),.mv 6 (.c (.bool false))] [4,5,6]) .ret)
def Bd:Bs:=⟨[.val .str,.val (.int .i64)],[⟨4,false,(.int .i64)⟩,⟨5,false,(.int .i64)⟩,⟨6,false,.bool⟩],(.seq (.region [.mv 4 (.i 0),.mv 5 (.i 0),.mv 6 (.c (.bool false))] [0,1]) (.seq (.seq (.region [.m 10 1,.m 11 0,.len 12 true (.t 11),.cx (some 13) [.t 10,.c (.int .i64 0),.t 12] C4,.un 14 .not (.t 13)] [0,1,14]) (.cond (.t 14) (.seq (.region [.mv 4 (.i 0),.mv 5 (.i 0),.mv 6 (.c (.bool false))] [4,5,6]) .ret) .skip)) (.seq (.region [.mv 7 (.i 0)] [0,1,7]) (.seq (.region [.mv 8 (.i 1)] [0,1,7,8]) (.seq (.seq (.region [.m 15 1,.m 9 15] [0,1,7,8,9]) (.block 0 [] (.loop [0,1,7,8,9] Kb))) Iy)))))⟩
theorem Sm:BV Try.prog 138 Bd=true:=by kernel_rfl
def Iz:AP:=(.seq (.block 1 [0,1,7,8,9] (.seq (.region [.m 31 0,.m 32 1,.m 33 9,.b 34 .add 32 33,.sidx 35 (.t 31) (.t 34),.cvi 36 .i64 (.t 35),.m 10 36] [0,1,7,8,9,10]) (.seq (.region [.m 37 7,.m 38 10,.bin 39 .rem (.t 38) (.i 128),.m 40 8,.b 41 .mul 39 40,.b 42 .add 37 41,.m 7 42] [0,1,7,8,9,10]) (.seq (.region [.m 43 8,.bin 44 .mul (.t 43) (.i 128),.m 8 44] [0,1,7,8,9,10]) (.seq (.seq (.region [.m 45 10,.bin 46 .geq (.t 45) (.i 128)] [0,1,7,8,9,10,46]) (.cond (.t 46) (.exit 1) .skip)) (.seq (.seq (.region [.m 47 10,.bin 48 .eql (.t 47) (.i 0),.m 49 48,.sc 49 true [.m 50 9,.bin 51 .gtr (.t 50) (.i 0)] 52 (.t 51) (.c (.bool false)),.m 53 52,.sc 53 false [.m 54 7,.bin 55 .gtr (.t 54) (.i 1000000000)] 56 (.c (.bool true)) (.t 55)] [1,7,9,56]) (.cond (.t 56) (.seq (.region [.mv 4 (.i 0),.mv 5 (.i 0),.mv 6 (.c (.bool false))] [4,5,6]) .ret) .skip)) (.seq (.region [.m 57 7,.m 58 1,.m 59 9,.b 60 .add 58 59,.bin 61 .add (.t 60) (.i 1),.m 4 57,.m 5 61,.mv 6 (.c (.bool true))] [4,5,6]) .ret))))))) (.region [.m 29 9,.bin 30 .add (.t 29) (.i 1),.m 9 30] [0,1,7,8,9]))
def I0:AP:=(.seq (.seq (.region [.m 19 9,.bin 20 .lss (.t 19) (.i 5),.m 21 20,.sc 21 true [.m 22 1,.m 23 9,.b 24 .add 22 23,.m 25 0,.len 26 true (.t 25),.b 27 .lss 24 26] 28 (.t 27) (.c (.bool false))] [0,1,7,8,9,28]) (.cond (.t 28) .skip (.exit 0))) Iz)
def I1:AP:=(.seq (.region [.mv 4 (.i 0),.mv 5 (.i 0),.mv 6 (.c (.bool false))] [4,5,6]) .ret)
def Be:Bs:=⟨[.val .str,.val (.int .i64)],[⟨4,false,(.int .i64)⟩,⟨5,false,(.int .i64)⟩,⟨6,false,.bool⟩],(.seq (.region [.mv 4 (.i 0),.mv 5 (.i 0),.mv 6 (.c (.bool false))] [0,1]) (.seq (.seq (.region [.m 11 1,.bin 12 .lss (.t 11) (.i 0),.m 13 12,.sc 13 false [.m 14 1,.m 15 0,.len 16 true (.t 15),.b 17 .gtr 14 16] 18 (.c (.bool true)) (.t 17)] [0,1,18]) (.cond (.t 18) (.seq (.region [.mv 4 (.i 0),.mv 5 (.i 0),.mv 6 (.c (.bool false))] [4,5,6]) .ret) .skip)) (.seq (.region [.mv 7 (.i 0),.mv 8 (.i 1)] [0,1,7,8]) (.seq (.seq (.region [.mv 9 (.i 0)] [0,1,7,8,9]) (.block 0 [] (.loop [0,1,7,8,9] I0))) I1))))⟩
theorem Sn:BV Try.prog 139 Be=true:=by kernel_rfl

def IB:AP:=(.seq (.region [.m 31 0,.m 32 8,.m 33 8,.m 34 7,.b 35 .add 33 34,.sl 36 0 (.t 31) (some (.t 32)) (some (.t 35)),.m 37 8,.m 38 7,.b 39 .add 37 38,.m 4 36,.m 5 39,.mv 6 (.c (.bool true))] [4,5,6]) .ret)
def Ch:Bs:=⟨[.val .str,.val (.int .i64)],[⟨4,false,.str⟩,⟨5,false,(.int .i64)⟩,⟨6,false,.bool⟩],(.seq (.region [.mv 4 (.c (.str ⟨#[]⟩)),.mv 5 (.i 0),.mv 6 (.c (.bool false))] [0,1]) (.seq (.region [.m 11 0,.m 12 1,.cl 13 [11,12] MQ,.m 10 13,.ext 14 (.t 10) 0,.ext 15 (.t 10) 1,.ext 16 (.t 10) 2,.m 7 14,.m 8 15,.m 9 16] [0,7,8,9]) (.seq (.seq (.region [.m 17 9,.un 18 .not (.t 17),.m 19 18,.sc 19 false [.m 20 7,.bin 21 .gtr (.t 20) (.i 20000)] 22 (.c (.bool true)) (.t 21),.m 23 22,.sc 23 false [.m 24 7,.m 25 0,.len 26 true (.t 25),.m 27 8,.b 28 .sub 26 27,.b 29 .gtr 24 28] 30 (.c (.bool true)) (.t 29)] [0,7,8,30]) (.cond (.t 30) (.seq (.region [.mv 4 (.c (.str ⟨#[]⟩)),.mv 5 (.i 0),.mv 6 (.c (.bool false))] [4,5,6]) .ret) .skip)) IB)))⟩
theorem Pu:BV Try.prog 140 Ch=true:=by kernel_rfl
def Lo:AP:=(.cond (.t 21) (.region [.m 24 0,.cl 25 [24] Lg,.f 26 3 5,.store (.t 26) (.t 25) 1 false] [2,3]) (.seq (.region [.bin 28 .eql (.t 20) (.i 5),.m 27 28] [0,2,3,27]) (.cond (.t 27) (.region [.m 29 0,.cl 30 [29] H6,.brow 31 49 AE [.t 30],.f 32 3 5,.store (.t 32) (.t 31) 1 false] [2,3]) .skip)))
def Lq:AP:=(.seq (.region [.ls 33 3 6,.store (.t 2) (.t 33) 6 false] [2]) .ret)
def Lr:AP:=(.seq (.seq (.region [.f 19 3 0,.l 20 19] [0,2,3,20]) (.block 0 [2,3] (.seqc [0,2,3,20,21] (.seq (.region [.bin 22 .eql (.t 20) (.i 2),.m 21 22] [0,2,3,20,21]) (.cond (.t 21) .skip (.region [.bin 23 .eql (.t 20) (.i 3),.m 21 23] [0,2,3,20,21]))) Lo))) Lq)
def By:Bs:=⟨[.ptr AM],[⟨2,true,A_⟩],(.seq (.region [.al 2 A_] [0,2]) (.seq (.region [.m 4 0,.cx (some 5) [.t 4,.c (.int .i64 8)] AZ,.bin 6 .add (.i 1) (.t 5),.m 7 0,.cx (some 8) [.t 7,.c (.int .i64 4)] AZ,.bin 9 .add (.i 1) (.t 8),.m 10 0,.cx (some 11) [.t 10,.c (.int .i64 4)] AZ,.bin 12 .add (.i 1) (.t 11),.m 13 0,.cx (some 14) [.t 13,.c (.int .i64 4)] AZ,.bin 15 .add (.i 1) (.t 14),.m 16 0,.cx (some 17) [.t 16,.c (.int .i64 6)] AZ,.bu 18 A_ [(0,1,.t 6),(1,1,.t 9),(2,1,.t 12),(3,1,.t 15),(4,1,.t 17)],.al 3 A_,.store (.t 3) (.t 18) 6 false] [0,2,3]) Lr))⟩
theorem Tn:BV Try.prog 142 By=true:=by kernel_rfl
def Dy:Bs:=⟨[.ptr AM,.val (.slice (.int .i64))],[⟨4,false,(.int .i64)⟩],(.seq (.region [.mv 4 (.i 0)] [0,1]) (.seq (.region [.m 5 1,.m 6 0,.m 7 1,.len 8 false (.t 7),.cl 9 [6,8] AZ,.idx 10 1 (.t 5) (.t 9),.l 11 10,.m 4 11] [4]) .ret))⟩
theorem Oi:BV Try.prog 143 Dy=true:=by kernel_rfl
def HE:AP:=(.seq (.seq (.region [.m 42 4,.m 43 0,.cx (some 44) [.t 43,.c (.int .i64 2)] AZ,.bin 45 .add (.i 12) (.t 44),.b 46 .lss 42 45] [0,3,4,46]) (.cond (.t 46) .skip (.exit 1))) (.seq (.block 2 [0,3,4] (.region [.m 49 3,.m 50 4,.bin 51 .add (.i 10) (.t 50),.cl 52 [51] SV,.bin 53 .add (.c (.str ⟨#[109]⟩)) (.t 52),.bu 54 AE [(0,1,.t 53),(2,1,.c (.int .i64 5))],.blst 55 AE [.t 54],.app 56 49 AE (.t 49) (.t 55),.m 3 56] [0,3,4])) (.region [.m 47 4,.bin 48 .add (.t 47) (.i 1),.m 4 48] [0,3,4])))
def GY:AP:=(.seq (.region [.m 57 3,.m 2 57] [2]) .ret)
def BI:Bs:=⟨[.ptr AM],[⟨2,false,(.own 49 AE)⟩],(.seq (.region [.mv 2 (.c (.nil))] [0]) (.seq (.region [.m 5 0,.cl 6 [5] Lg,.m 3 6] [0,3]) (.seq (.seq (.region [.m 7 0,.cx (some 8) [.t 7,.c (.int .i64 16)] AZ] [0,3,8]) (.block 0 [3] (.seq (.region [.bin 10 .eql (.t 8) (.i 0),.m 9 10] [0,3,8,9]) (.cond (.t 9) (.region [.m 11 3,.m 12 0,.cl 13 [12] H6,.blst 14 AE [.t 13],.app 15 49 AE (.t 11) (.t 14),.m 3 15] [3]) (.seq (.region [.bin 17 .eql (.t 8) (.i 1),.m 16 17] [0,3,8,16]) (.cond (.t 16) (.seq (.region [.m 18 3,.len 19 false (.t 18),.bin 20 .gtr (.t 19) (.i 0)] [0,3,20]) (.cond (.t 20) (.region [.m 21 3,.m 22 0,.brow 23 3 (.int .i64) [.c (.int .i64 0),.c (.int .i64 (-1)),.c (.int .i64 1000000000),.c (.int .i64 1000000001)],.cl 24 [22,23] C5,.idx 25 3 (.t 21) (.i 0),.f 26 25 2,.store (.t 26) (.t 24) 1 false] [3]) .skip)) (.seq (.region [.bin 28 .eql (.t 8) (.i 2),.m 27 28] [0,3,8,27]) (.cond (.t 27) (.seq (.region [.m 29 3,.len 30 false (.t 29),.bin 31 .gtr (.t 30) (.i 0)] [0,3,31]) (.cond (.t 31) (.region [.m 32 3,.m 33 0,.cx (some 34) [.c (.int .i64 13),.c (.int .u8 65)] SU,.brow 35 9 .str [.c (.str ⟨#[]⟩),.t 34],.cl 36 [33,35] H7,.idx 37 3 (.t 32) (.i 0),.f 38 37 0,.store (.t 38) (.t 36) 1 false] [3]) .skip)) (.seq (.region [.bin 40 .eql (.t 8) (.i 3),.m 39 40] [0,3,39]) (.cond (.t 39) (.seq (.region [.brow 41 49 AE [],.m 3 41] [0,3]) (.seq (.region [.mv 4 (.i 0)] [0,3,4]) (.block 1 [3] (.loop [0,3,4] HE)))) .skip)))))))))) GY)))⟩
theorem Nz:BV Try.prog 144 BI=true:=by kernel_rfl
def Hh:Bs:=⟨[.val .str],[⟨2,false,.bool⟩],(.seq (.region [.mv 2 (.c (.bool false))] [0]) (.seq (.region [.m 3 0,.len 4 true (.t 3),.cx (some 5) [.t 4,.c (.int .i64 1),.c (.int .i64 12)] DV,.m 2 5] [2]) .ret))⟩
theorem Ur:BV Try.prog 145 Hh=true:=by kernel_rfl
def Kc:AP:=(.seq (.seq (.region [.m 10 6,.m 11 1,.b 12 .lss 10 11] [0,1,5,6,12]) (.cond (.t 12) .skip (.exit 0))) (.seq (.block 1 [0,1,5,6] (.region [.m 15 5,.m 16 0,.cl 17 [16] Cq,.cvi 18 .u8 (.t 17),.blst 19 (.int .u8) [.t 18],.app 20 5 (.int .u8) (.t 15) (.t 19),.m 5 20] [0,1,5,6])) (.region [.m 13 6,.bin 14 .add (.t 13) (.i 1),.m 6 14] [0,1,5,6])))
def Ke:AP:=(.seq (.region [.m 21 5,.bts 22 (.t 21),.m 4 22] [4]) .ret)
def CA:Bs:=⟨[.ptr AM,.val (.int .i64)],[⟨4,false,.str⟩],(.seq (.region [.mv 4 (.c (.str ⟨#[]⟩))] [0,1]) (.seqc [0,1] (.seq (.region [.m 7 1,.bin 8 .gtr (.t 7) (.i 5000)] [0,1,8]) (.cond (.t 8) (.region [.mv 1 (.i 5000)] [0,1]) .skip)) (.seq (.region [.brow 9 5 (.int .u8) [],.m 5 9] [0,1,5]) (.seq (.seq (.region [.mv 6 (.i 0)] [0,1,5,6]) (.block 0 [5] (.loop [0,1,5,6] Kc))) Ke))))⟩
theorem So:BV Try.prog 146 CA=true:=by kernel_rfl
def Kf:AP:=(.seq (.seq (.region [.m 20 6,.bin 21 .lss (.t 20) (.i 8)] [0,1,5,6,21]) (.cond (.t 21) .skip (.exit 2))) (.seq (.block 3 [0,1,5,6] (.seq (.region [.m 24 0,.bin 25 .rem (.t 24) (.c (.int .u32 2)),.bin 26 .eql (.t 25) (.c (.int .u32 1)),.m 7 26] [0,1,5,6,7]) (.seq (.region [.m 27 0,.bin 28 .quo (.t 27) (.c (.int .u32 2)),.m 0 28] [0,1,5,6,7]) (.seq (.region [.m 29 7] [0,1,5,6,29]) (.cond (.t 29) (.region [.m 30 0,.bin 31 .xor (.t 30) (.c (.int .u32 3558460437)),.m 0 31] [0,1,5,6]) .skip))))) (.region [.m 22 6,.bin 23 .add (.t 22) (.i 1),.m 6 23] [0,1,5,6])))
def I2:AP:=(.region [.m 12 5,.bin 13 .add (.t 12) (.i 1),.m 5 13] [0,1,5])
def I3:AP:=(.seq (.seq (.region [.m 8 5,.m 9 1,.len 10 true (.t 9),.b 11 .lss 8 10] [0,1,5,11]) (.cond (.t 11) .skip (.exit 0))) (.seq (.block 1 [0,1,5] (.seq (.region [.m 14 0,.m 15 1,.m 16 5,.sidx 17 (.t 15) (.t 16),.cvi 18 .u32 (.t 17),.b 19 .xor 14 18,.m 0 19] [0,1,5]) (.seq (.region [.mv 6 (.i 0)] [0,1,5,6]) (.block 2 [0,1,5] (.loop [0,1,5,6] Kf))))) I2))
def I4:AP:=(.seq (.region [.m 32 0,.m 4 32] [4]) .ret)
def BJ:Bs:=⟨[.val (.int .u32),.val .str],[⟨4,false,(.int .u32)⟩],(.seq (.region [.mv 4 (.c (.int .u32 0))] [0,1]) (.seq (.seq (.region [.mv 5 (.i 0)] [0,1,5]) (.block 0 [0] (.loop [0,1,5] I3))) I4))⟩
theorem Sp:BV Try.prog 161 BJ=true:=by kernel_rfl
def Hi:Bs:=⟨[.val .str],[⟨2,false,(.int .u32)⟩],(.seq (.region [.mv 2 (.c (.int .u32 0))] [0]) (.seq (.region [.m 3 0,.cx (some 4) [.c (.int .u32 4294967295),.t 3] SW,.m 2 4] [2]) .ret))⟩
theorem Us:BV Try.prog 163 Hi=true:=by kernel_rfl
def I5:AP:=(.seq (.seq (.region [.m 6 4,.m 7 0,.cx (some 8) [.t 7,.c (.int .i64 6)] AZ,.b 9 .lss 6 8] [0,3,4,9]) (.cond (.t 9) .skip (.exit 0))) (.seq (.block 1 [0,3,4] (.region [.m 12 3,.m 13 0,.cl 14 [13] H6,.cl 15 [12,14] SX,.m 3 15] [0,3,4])) (.region [.m 10 4,.bin 11 .add (.t 10) (.i 1),.m 4 11] [0,3,4])))
def I6:AP:=(.seq (.region [.m 16 3,.m 2 16] [2]) .ret)
def Bo:Bs:=⟨[.ptr AM],[⟨2,false,(.own 49 AE)⟩],(.seq (.region [.mv 2 (.c (.nil))] [0]) (.seq (.region [.brow 5 49 AE [],.m 3 5] [0,3]) (.seq (.seq (.region [.mv 4 (.i 0)] [0,3,4]) (.block 0 [3] (.loop [0,3,4] I5))) I6)))⟩
theorem RP:BV Try.prog 164 Bo=true:=by kernel_rfl
def Fk:Bs:=⟨[.ptr AM],[⟨2,true,AE⟩],(.seq (.region [.al 2 AE] [0,2]) (.seq (.region [.m 3 0,.cl 4 [3] Td,.m 5 0,.cl 6 [5] Te,.m 7 0,.cx (some 8) [.t 7,.c (.int .i64 30)] AZ,.bin 9 .add (.i 1001) (.t 8),.bu 10 AE [(0,1,.t 4),(1,1,.t 6),(2,1,.t 9)],.store (.t 2) (.t 10) 3 false] [2]) .ret))⟩
theorem Sq:BV Try.prog 165 Fk=true:=by kernel_rfl
def Fl:Bs:=⟨[.ptr AM,.val (.slice .str)],[⟨4,false,.str⟩],(.seq (.region [.mv 4 (.c (.str ⟨#[]⟩))] [0,1]) (.seq (.region [.m 5 1,.m 6 0,.m 7 1,.len 8 false (.t 7),.cl 9 [6,8] AZ,.idx 10 1 (.t 5) (.t 9),.l 11 10,.m 4 11] [4]) .ret))⟩
theorem Sr:BV Try.prog 166 Fl=true:=by kernel_rfl
def Kg:AP:=(.seq (.seq (.region [.m 9 6,.m 10 0,.b 11 .lss 9 10] [0,1,5,6,11]) (.cond (.t 11) .skip (.exit 0))) (.seq (.block 1 [0,1,5,6] (.region [.m 14 5,.m 15 6,.m 16 1,.idx 17 1 (.t 14) (.t 15),.store (.t 17) (.t 16) 1 false] [0,1,5,6])) (.region [.m 12 6,.bin 13 .add (.t 12) (.i 1),.m 6 13] [0,1,5,6])))
def Kh:AP:=(.seq (.region [.m 18 5,.bts 19 (.t 18),.m 4 19] [4]) .ret)
def CB:Bs:=⟨[.val (.int .i64),.val (.int .u8)],[⟨4,false,.str⟩],(.seq (.region [.mv 4 (.c (.str ⟨#[]⟩))] [0,1]) (.seq (.region [.m 7 0,.mk 8 5 (.int .u8) (.t 7),.m 5 8] [0,1,5]) (.seq (.seq (.region [.mv 6 (.i 0)] [0,1,5,6]) (.block 0 [5] (.loop [0,1,5,6] Kg))) Kh)))⟩
theorem Ss:BV Try.prog 167 CB=true:=by kernel_rfl
def Ki:AP:=(.seq (.region [.m 18 5,.cl 19 [18] Pq,.brow 20 5 (.int .u8) [.t 19],.bts 21 (.t 20),.m 22 4,.b 23 .add 21 22,.m 4 23] [0,3,4]) (.region [.m 24 0,.bin 25 .quo (.t 24) (.i 10),.m 0 25] [0,3,4]))
def Kj:AP:=(.seq (.seq (.region [.m 10 0,.bin 11 .neq (.t 10) (.i 0)] [0,3,4,11]) (.cond (.t 11) .skip (.exit 0))) (.block 1 [0,3,4] (.seq (.region [.m 12 0,.bin 13 .rem (.t 12) (.i 10),.m 5 13] [0,3,4,5]) (.seqc [0,3,4,5] (.seq (.region [.m 14 5,.bin 15 .lss (.t 14) (.i 0)] [0,3,4,5,15]) (.cond (.t 15) (.region [.m 16 5,.un 17 .neg (.t 16),.m 5 17] [0,3,4,5]) .skip)) Ki))))
def I7:AP:=(.seq (.seq (.region [.m 26 3] [4,26]) (.cond (.t 26) (.seq (.region [.m 27 4,.bin 28 .add (.c (.str ⟨#[45]⟩)) (.t 27),.m 2 28] [2]) .ret) .skip)) (.seq (.region [.m 29 4,.m 2 29] [2]) .ret))
def Bf:Bs:=⟨[.val (.int .i64)],[⟨2,false,.str⟩],(.seq (.region [.mv 2 (.c (.str ⟨#[]⟩))] [0]) (.seq (.seq (.region [.m 6 0,.bin 7 .eql (.t 6) (.i 0)] [0,7]) (.cond (.t 7) (.seq (.region [.mv 2 (.c (.str ⟨#[48]⟩))] [2]) .ret) .skip)) (.seq (.region [.m 8 0,.bin 9 .lss (.t 8) (.i 0),.m 3 9] [0,3]) (.seq (.region [.mv 4 (.c (.str ⟨#[]⟩))] [0,3,4]) (.seq (.block 0 [3,4] (.loop [0,3,4] Kj)) I7)))))⟩
theorem Su:BV Try.prog 168 Bf=true:=by kernel_rfl
def Kk:AP:=(.seq (.region [.bin 20 .lss (.t 19) (.i 8)] [0,1,5,19,20]) (.seq (.cond (.t 20) .skip (.exit 2)) (.seq (.block 3 [0,1,5,19] (.seq (.region [.m 21 0,.bin 22 .and (.t 21) (.c (.int .u32 1)),.m 6 22] [0,1,5,6,19]) (.seq (.region [.m 23 0,.bin 24 .shr (.t 23) (.c (.int .u64 1)),.m 0 24] [0,1,5,6,19]) (.seq (.region [.m 25 6,.bin 26 .eql (.t 25) (.c (.int .u32 1))] [0,1,5,19,26]) (.cond (.t 26) (.region [.m 27 0,.bin 28 .xor (.t 27) (.c (.int .u32 3558460437)),.m 0 28] [0,1,5,19]) .skip))))) (.region [.bin 29 .add (.t 19) (.i 1),.m 19 29] [0,1,5,19]))))
def I8:AP:=(.region [.m 11 5,.bin 12 .add (.t 11) (.i 1),.m 5 12] [0,1,5])
def I9:AP:=(.seq (.seq (.region [.m 7 5,.m 8 1,.len 9 true (.t 8),.b 10 .lss 7 9] [0,1,5,10]) (.cond (.t 10) .skip (.exit 0))) (.seq (.block 1 [0,1,5] (.seq (.region [.m 13 0,.m 14 1,.m 15 5,.sidx 16 (.t 14) (.t 15),.cvi 17 .u32 (.t 16),.b 18 .xor 13 17,.m 0 18] [0,1,5]) (.seq (.region [.mv 19 (.i 0)] [0,1,5,19]) (.block 2 [0,1,5] (.loop [0,1,5,19] Kk))))) I8))
def I_:AP:=(.seq (.region [.m 30 0,.m 4 30] [4]) .ret)
def BK:Bs:=⟨[.val (.int .u32),.val .str],[⟨4,false,(.int .u32)⟩],(.seq (.region [.mv 4 (.c (.int .u32 0))] [0,1]) (.seq (.seq (.region [.mv 5 (.i 0)] [0,1,5]) (.block 0 [0] (.loop [0,1,5] I9))) I_))⟩
theorem Sv:BV Try.prog 177 BK=true:=by kernel_rfl
def Kl:AP:=(.seq (.draw (RF 18 [(1,[]),(2,[0,1]),(5,[]),(7,[4,6]),(10,[8]),(11,[9,10]),(14,[8]),(16,[13,15])]) (.tk 9 [.m 42 41,.b 41 .eql 38 40,.l 40 39,.f 39 3 0,.l 38 37,.f 37 36 0,.idx 36 3 (.t 34) (.t 35),.m 35 7,.m 34 0] (.test 42 (.tg 42 true 17 [.b 50 .geq 47 49,.l 49 48,.f 48 3 2,.l 47 46,.f 46 45 2,.idx 45 3 (.t 43) (.t 44),.m 44 7,.m 43 0] (.tk 18 [.pick 51 (.t 42) (.t 50) (.c (.bool false))] .done)) (.sk 42 true 8 17 51 (.tk 18 [.pick 51 (.t 42) (.t 50) (.c (.bool false))] .done)))) [0,3,5,6,7,51]) (.cond (.t 51) (.seq (.region [.m 52 5,.m 4 52] [4]) .ret) .skip))
def Km:AP:=(.region [.m 17 7,.bin 18 .add (.t 17) (.i 1),.m 7 18] [0,3,5,6,7])
def Kn:AP:=(.seq (.seq (.region [.m 13 7,.m 14 0,.len 15 false (.t 14),.b 16 .lss 13 15] [0,3,5,6,7,16]) (.cond (.t 16) .skip (.exit 0))) (.seq (.block 1 [0,3,5,6,7] (.seqc [0,3,5,6,7] (.seq (.draw (RF 8 [(1,[]),(2,[0,1]),(5,[]),(7,[4,6])]) (.tk 8 [.b 26 .lss 23 25,.l 25 24,.f 24 3 0,.l 23 22,.f 22 21 0,.idx 21 3 (.t 19) (.t 20),.m 20 7,.m 19 0] .done) [0,3,5,6,7,26]) (.cond (.t 26) (.region [.m 27 6,.m 28 0,.m 29 7,.idx 30 3 (.t 28) (.t 29),.ls 31 30 3,.blst 32 AE [.t 31],.app 33 49 AE (.t 27) (.t 32),.m 6 33] [0,3,5,6,7]) .skip)) Kl)) Km))
def JA:AP:=(.seq (.seq (.region [.m 57 8,.m 58 0,.len 59 false (.t 58),.b 60 .lss 57 59] [0,3,5,6,8,60]) (.cond (.t 60) .skip (.exit 2))) (.seq (.block 3 [0,3,5,6,8] (.seq (.draw (RF 8 [(1,[]),(2,[0,1]),(5,[]),(7,[4,6])]) (.tk 8 [.b 70 .gtr 67 69,.l 69 68,.f 68 3 0,.l 67 66,.f 66 65 0,.idx 65 3 (.t 63) (.t 64),.m 64 8,.m 63 0] .done) [0,3,5,6,8,70]) (.cond (.t 70) (.region [.m 71 6,.m 72 0,.m 73 8,.idx 74 3 (.t 72) (.t 73),.ls 75 74 3,.blst 76 AE [.t 75],.app 77 49 AE (.t 71) (.t 76),.m 6 77] [0,3,5,6,8]) .skip))) (.region [.m 61 8,.bin 62 .add (.t 61) (.i 1),.m 8 62] [0,3,5,6,8])))
def Fm:AP:=(.seq (.seq (.region [.m 78 0,.cl 79 [78] H5,.un 80 .not (.t 79),.m 81 80,.sc 81 false [.m 82 6,.cl 83 [82] H5,.un 84 .not (.t 83)] 85 (.c (.bool true)) (.t 84)] [5,6,85]) (.cond (.t 85) (.seq (.region [.m 86 5,.m 4 86] [4]) .ret) .skip)) (.seq (.region [.m 87 6,.m 4 87] [4]) .ret))
def Fn:AP:=(.seq (.region [.m 53 6,.ls 54 3 3,.blst 55 AE [.t 54],.app 56 49 AE (.t 53) (.t 55),.m 6 56] [0,3,5,6]) (.seq (.seq (.region [.mv 8 (.i 0)] [0,3,5,6,8]) (.block 2 [0,5,6] (.loop [0,3,5,6,8] JA))) Fm))
def Ae:Bs:=⟨[.val (.slice AE),.val AE],[⟨4,false,(.own 49 AE)⟩],(.seq (.region [.box 3 (.t 1) false,.mv 4 (.c (.nil))] [0,3]) (.seq (.region [.brow 9 49 AE [],.m 10 0,.app 11 49 AE (.t 9) (.t 10),.m 5 11] [0,3,5]) (.seq (.region [.brow 12 49 AE [],.m 6 12] [0,3,5,6]) (.seq (.seq (.region [.mv 7 (.i 0)] [0,3,5,6,7]) (.block 0 [0,3,5,6] (.loop [0,3,5,6,7] Kn))) Fn))))⟩
theorem Sw:BV Try.prog 178 Ae=true:=by kernel_rfl
def G2:Bs:=⟨[.ptr AM],[⟨2,false,.str⟩],(.seq (.region [.mv 2 (.c (.str ⟨#[]⟩))] [0]) (.seq (.region [.m 3 0,.blst 4 .str [.c (.str ⟨#[97]⟩),.c (.str ⟨#[98]⟩),.c (.str ⟨#[99]⟩),.c (.str ⟨#[100]⟩),.c (.str ⟨#[101]⟩),.c (.str ⟨#[102]⟩),.c (.str ⟨#[103]⟩),.c (.str ⟨#[104]⟩),.c (.str ⟨#[107,49]⟩),.c (.str ⟨#[107,50]⟩),.c (.str ⟨#[107,51]⟩),.c (.str ⟨#[107,101,121]⟩)],.cl 5 [3,4] H7,.m 2 5] [2]) .ret))⟩
theorem To:BV Try.prog 179 G2=true:=by kernel_rfl
def G3:Bs:=⟨[.ptr AM],[⟨2,false,.str⟩],(.seq (.region [.mv 2 (.c (.str ⟨#[]⟩))] [0]) (.seq (.region [.m 3 0,.blst 4 .str [.c (.str ⟨#[]⟩),.c (.str ⟨#[118]⟩),.c (.str ⟨#[119]⟩),.c (.str ⟨#[120,120]⟩),.c (.str ⟨#[121,121,121]⟩)],.cl 5 [3,4] H7,.m 2 5] [2]) .ret))⟩
theorem Tp:BV Try.prog 180 G3=true:=by kernel_rfl
def EU:Bs:=⟨[.val (.int .i64)],[⟨2,false,(.int .u8)⟩],(.seq (.region [.mv 2 (.c (.int .u8 0))] [0]) (.seq (.seq (.region [.m 3 0,.bin 4 .lss (.t 3) (.i 10)] [0,4]) (.cond (.t 4) (.seq (.region [.m 5 0,.bin 6 .add (.i 48) (.t 5),.cvi 7 .u8 (.t 6),.m 2 7] [2]) .ret) .skip)) (.seq (.region [.m 8 0,.bin 9 .add (.i 97) (.t 8),.bin 10 .sub (.t 9) (.i 10),.cvi 11 .u8 (.t 10),.m 2 11] [2]) .ret)))⟩
theorem Pv:BV Try.prog 181 EU=true:=by kernel_rfl
end
end Go.Proofs.Ytffahmnodgnohaa.Core

namespace Go.Proofs.Ytffahmnodgnohaa.Core
open Go Go.Shelf Go.RowKit Go.Lib
variable {P:Program} {ρ:Ren}
set_option maxHeartbeats 2000000 in
set_option maxRecDepth 100000 in
theorem YN (L:SlLaysE0.n41 P ρ) (i0:TypeInfo) (z:Value) (size bytes:Nat) (hi:P.info? (ρ.t 23)=some i0) (hz0:i0.zero=some z) (hz1:i0.size=size) (hz2:i0.bytes=bytes) (hzs:z.cells.size=size) (hsz:0<size)
  (z23:∀ w,(Go.sizeOf (ρ.t 23)).run P w=.ok size w) (ad:Addr) (n c:Nat) (news:List Value) (w:World) (hl:news.length=n*size) (hn:n<=maxLen) (hbig:n*bytes<=140737488355328)
  (hc:∀ j u,news[j]? = some u->w.cell? (ad.add j)=some u) (h1:∀ u∈news,u.oneCell'=true) :
  Calls P (ρ.f 41) #[.slice (some ad) n c] w fun e w'=>∃ v',e=.returned v'/\w'.ownsRow w.heap.size (ρ.t 23) size v' n news/\w.grownBy w' none:=by
 have mixed:=L.mixed; have t4:=L.t4; have a4:=L.a4; have z4:=L.z4; have v4:=L.v4; have t22:=L.t22; have a22:=L.a22; have z22:=L.z22; have v22:=L.v22
 have q22:∀ (w:World) (a:Option Addr) (n c n' c':Nat),(binOp .eql (ρ.t 22) (.slice a n c) (.slice none n' c')).run P w=.ok (.bool a.isNone) w:=fun w a n c n' c'=>Lib.run_eql_slice_nil w _ _ a n c n' c' L.t22
 have u22:∀ w,Sem.run P (underlying (ρ.t 22)) w=.ok (TypeDesc.slice (ρ.t 23)) w:=run_underlying t22
 have A:Aside (∀ j u,news[j]? = some u->w.cell? (ad.add j)=some u):=hc
 clear hc
 obtain ⟨_,_,FG⟩:=L.f41
 go_enter FG,SlBodyN.n41_ntmps ρ
 go_wp2_with (at_builtin; refine wpList_append_own _ rfl _ _ (ρ.t 22) rfl w.heap.size (ρ.t 23) i0 z size bytes t22 hi hz0 hz1 hz2 hzs hsz _ _ _ rfl (World.ownsRow_made w #[] 0 (Nat.le_refl _) (Nat.zero_le _) (by simp)) ad n c news rfl ?qc1 ?qc2 ?qc3 ?qc4 ?qc5 ?qc6 ?_)
 case qc1=>exact hl
 case qc2 =>
  intro j u hj
  exact Lib.cell?_alloc_some _ (A.out j u hj)
 case qc3=>exact h1
 case qc4=>rw [Nat.zero_add]; exact hn
 case qc5=>rw [Nat.zero_add]; exact hbig
 case qc6=>simp
 intro v' w1 hown hgrow hnil
 go_wp2
 go_ret
 refine ⟨v',rfl,by simpa using hown,⟨hgrow.os,hgrow.tape,hgrow.output,?_,fun k hk _=>?_⟩⟩
 ·have:=hgrow.size
  simp at this
  omega
 ·rw [hgrow.block k (by simp; omega) (by simp [Value.ownBlock]; omega)]
  simp only [World.alloc,Array.getElem?_push]
  rw [if_neg (by omega)]
set_option maxHeartbeats 1000000 in
theorem XS (L:SlLaysE0.n41 P ρ) (n c:Nat) (w:World) :
  Calls P (ρ.f 41) #[.slice none n c] w fun e w'=>e=.returned (.slice none 0 0)/\w'=w:=by
 have mixed:=L.mixed; have t4:=L.t4; have a4:=L.a4; have z4:=L.z4; have v4:=L.v4; have t22:=L.t22; have a22:=L.a22; have z22:=L.z22; have v22:=L.v22
 have q22:∀ (w:World) (a:Option Addr) (n c n' c':Nat),(binOp .eql (ρ.t 22) (.slice a n c) (.slice none n' c')).run P w=.ok (.bool a.isNone) w:=fun w a n c n' c'=>Lib.run_eql_slice_nil w _ _ a n c n' c' L.t22
 obtain ⟨_,_,FG⟩:=L.f41
 go_enter FG,SlBodyN.n41_ntmps ρ
 go_wp2
 go_ret
 exact ⟨rfl,rfl⟩
def N0 (P:Program) (f:Nat) (args bs rs:List AV):Prop :=
 Pd P f/\(∀ r∈rs,r.cells.all AV.nilFree=true)/\∃ n,n+bs.length=rs.length /\
  ∀ (H:HP) (φ:Az) (w:World) (cargs:List Value),SR H φ (Ao bs args) w->AT (VB H φ (Ao bs args)) (BZ (Cl bs) args) cargs ->
   Calls P f cargs.toArray w fun out w'=>match out with
    | .returned v=>Gu H φ w args bs (rs.drop n) (rs.take n) v w'
    | _=>False
theorem Vd {H H':HP} {φ φ':Az} {w w':World} {args rs:List AV} {v:Value} (h:AL H φ (Ao [] args) w H' φ' (Ao [] rs) w') (hr:Z3 H' φ' (Ao [] rs) (BZ (Cl []) rs) v):Gu H φ w args [] [] rs v w':=by
 refine ⟨H',φ',h.le,h.sr,h.fr _ _ _ _ _ ⟨rfl,rfl,rfl,Nat.le_refl _,fun _ _ _=>rfl,fun _ _=>rfl,fun i bi hi _ b hb=>.inr ⟨i,(AQ.1 hi).1,hb⟩,fun j hj=>?_,fun _ _ _=>rfl⟩,hr⟩
 simp at hj
theorem YO {K:Kd} (L:SlLaysE0.n41 P ρ) (he:WW P (ρ.t 23) K=true) {xs:List K.T} (hx:xs.length<=68719476736):N0 P (ρ.f 41) [.lst K xs] [] [.new (ρ.t 23) K xs]:=by
 obtain ⟨i,z,hi,hz,h1,h2,h3,h4⟩:=ME he
 have hn:xs.length<=maxLen:=by unfold maxLen; omega
 refine ⟨?_,?_,1,rfl,fun H φ w cargs hs ha=>?_⟩
 ·obtain ⟨nm,hnm,hf⟩:=L.f41
  exact ⟨_,_,hf,hnm,rfl⟩
 ·intro r hr
  simp only [IZ] at hr
  subst hr
  rfl
 ·obtain ⟨v,rest,rfl,hv,hrest⟩:=ha
  have hrest:rest=[]:=hrest
  subst hrest
  ··obtain ⟨sl,cap,e,hc,hr⟩:=(show MA (DH H K) K.sz H xs v from hv)
    subst e
    have fin:∀ (v':Value) (w':World) (flat:List Value),w'.ownsRow w.heap.size (ρ.t 23) K.sz v' xs.length flat->Bq H K xs flat->w.grownBy w' none->Gu H φ w [.lst K xs] [] [] [.new (ρ.t 23) K xs] v' w':=by
     intro v' w' flat ho hrr hg
     have hst:=MF (st:=Ao [] [.lst K xs]) hs hg ho hrr
     refine Vd (rs:=[.new (ρ.t 23) K xs]) hst ?_
     exact ⟨rfl,rfl⟩
    cases sl with
    | none =>
     have:xs=[]:=by
      rcases hr with h | ⟨_,_,_,_,_,h,_⟩
      ·exact h
      ·cases h
     subst this
     refine Calls.mono (XS L _ _ w) fun out w' h=>?_
     obtain ⟨rfl,rfl⟩:=h
     exact fin _ _ [] ⟨by simp,.inl ⟨rfl,rfl⟩⟩ (fun j x h=>by simp at h) ⟨rfl,rfl,rfl,Nat.le_refl _,fun _ _ _=>rfl⟩
    | some ad =>
     obtain ⟨sl2,cap2,flat,e2,_,hl,hrr,hcl⟩:=T2 hs.hp (show MA (DH H K) K.sz H xs (.slice (some ad) xs.length cap) from ⟨some ad,cap,rfl,hc,hr⟩)
     cases e2
     refine Calls.mono (YN L i z K.sz i.bytes hi hz h1 rfl h3 (Kd.sz_pos K) (fun w=>by simp [sizeOf,typeInfo,hi,h1]) ad xs.length cap flat w hl hn (Nat.le_trans (Nat.mul_le_mul hx h2) (by omega)) ?_ (B6 hrr hl)) fun out w' h=>?_
     ·intro j u hj
      rcases hcl with rfl | ⟨b,off,c,el,fz,ea,hb,hcc⟩
      ·have:flat=[]:=Dd.1 (by rw [hl]; simp)
       rw [this] at hj
       simp at hj
      ·cases ea
       rw [Addr.add_none]
       have:=hs.hp _ _ hb
       have h5:=hcc j u hj
       simp only [World.cell?,this]
       simpa using h5
     ·obtain ⟨v',rfl,ho,hg⟩:=h
      exact fin v' w' flat ho hrr hg

theorem JB (w:World) (dT sT ty elem:TypeId) (g o dLen dCap:Nat) (a:Addr) (sLen sCap:Nat) (cur:Array Value) (t:TypeId) (cs:List Value) (k:Nat) (i:TypeInfo)
  (hu:P.underlying dT=some (.slice elem)) (hi:P.info? elem=some i) (hg:w.heap[g]? = some (.cells cur t (0,0))) (hk:Nat.min sLen dLen=k) (hn:cs.length=k*i.size)
  (hsrc:∀ j v,cs[j]? = some v->w.cell? (a.add j)=some v) (hfit:o+cs.length<=cur.size) (h1:∀ v∈cs,v.oneCell'=true) :
  (Builtin.copy_ #[dT,sT] ty #[.slice (some ⟨g,o,none⟩) dLen dCap,.slice (some a) sLen sCap]).run P w =
   .ok (goInt k) (w.setRow g (cur.toList.take o++cs++cur.toList.drop (o+cs.length)).toArray):=by
 have hl:=run_loadCells_list (P:=P) w a cs hsrc
 have hst:=run_storeCells_at P g o t cs 0 cur w hg (by simpa using hfit) h1
 simp [Builtin.copy_,run_underlying hu,Builtin.lenOf,Builtin.firstCells,sizeOf,typeInfo,hi,hk,<- hn,hl,hst]
theorem Pw (w:World) (t tn ty e:TypeId) (i:TypeInfo) (z:Value) (kn:IntKind) (ht:P.underlying t=some (.slice e)) (htn:P.underlying tn=some (.int kn)) (hi:P.info? e=some i) (hz:i.zero=some z)
  (b:Addr) (sLen sCap:Nat) (olds:List Value) (hlo:olds.length=sLen*i.size) (holds:∀ j v,olds[j]? = some v->w.cell? (b.add j)=some v) (n:Nat) (h0:0<n) (hs:0<i.size)
  (hg:sCap<sLen+n) (h63:((sLen+n:Nat):Int)<=9223372036854775807) (h48:n*i.bytes<=281474976710656) (hfit:Builtin.nextslicecap (sLen+n) sCap*i.bytes<=281474976710656) (k:IntKind) :
  (Builtin.append_ #[t,tn] ty #[.slice (some b) sLen sCap,.int k n]).run P w =
   .ok (.slice (some ⟨w.heap.size,0,none⟩) (sLen+n) (grownCap w (sLen+n) sCap e))
    (w.drew.alloc (.cells (olds.toArray++Builtin.zeroCells z.cells n++Builtin.zeroCells z.cells (grownCap w (sLen+n) sCap e-(sLen+n))) e)):=by
 have hn:¬ (sLen+n<=sCap):=by omega
 have hw:IntKind.i64.wrap (n:Int)=n:=by rw [IntKind.wrap_i64]; omega
 have h63':¬ (9223372036854775807<((sLen:Int)+(n:Int))):=by omega
 have h48':¬ (281474976710656<Builtin.nextslicecap (sLen+n) sCap*i.bytes):=by omega
 have h48i:¬ (281474976710656<(n:Int)*(i.bytes:Int)):=by
  rw [<- Int.natCast_mul]
  omega
 have hneg:¬ ((n:Int)<0):=by omega
 have hn0:n≠0:=by omega
 have hns:¬ (n*i.size=0):=Nat.mul_ne_zero hn0 (by omega)
 have hfo:=run_firstCells_some (P:=P) w.drew i.size sLen b sLen sCap olds hlo (by simpa using holds)
 simp [Builtin.append_,run_underlying ht,run_underlying htn,sizeOf,typeInfo,zeroValue,hi,hz,asInt,asIntOf,hw,hn,hn0,hneg,hns,h63',h48',h48i,Question.forced,hfo,newRow,grownCap]
 try (congr 2; apply Array.ext'; simp [BC])
structure YP (P:Program) (ρ:Ren):Prop where
 mixed:P.follows .mixedOrders=true
 f22:Bears P (ρ.f 22) (Body2.n22 ρ)
 ov:∀ args w,(callFunc (ρ.f 29) args).run P w=((Extern.SlicesOverlaps.overlaps #[(ρ.t 24),(ρ.t 24)] #[(ρ.t 4)] args).run P w).andThen fun v w'=>.ok (.value v) w'
 t3:P.underlying (ρ.t 3)=some (TypeDesc.int IntKind.i64)
 a3:∀ w,(isAgg (ρ.t 3)).run P w=.ok false w
 z3:∀ w,(Go.sizeOf (ρ.t 3)).run P w=.ok 1 w
 v3:∀ w,(zeroValue (ρ.t 3)).run P w=.ok (Value.int IntKind.i64 0) w
 t4:P.underlying (ρ.t 4)=some (TypeDesc.bool)
 a4:∀ w,(isAgg (ρ.t 4)).run P w=.ok false w
 z4:∀ w,(Go.sizeOf (ρ.t 4)).run P w=.ok 1 w
 v4:∀ w,(zeroValue (ρ.t 4)).run P w=.ok (Value.bool false) w
 t24:P.underlying (ρ.t 24)=some (TypeDesc.slice (ρ.t 9))
 a24:∀ w,(isAgg (ρ.t 24)).run P w=.ok false w
 z24:∀ w,(Go.sizeOf (ρ.t 24)).run P w=.ok 1 w
 v24:∀ w,(zeroValue (ρ.t 24)).run P w=.ok (Value.slice none 0 0) w
set_option maxHeartbeats 4000000 in
set_option maxRecDepth 100000 in
theorem WG (L:YP P ρ) (i0:TypeInfo) (z:Value) (size bytes:Nat) (hi:P.info? (ρ.t 9)=some i0) (hz0:i0.zero=some z) (hz1:i0.size=size) (hz2:i0.bytes=bytes) (hzs:z.cells.size=size) (hsz:0<size)
  (z9:∀ w,(Go.sizeOf (ρ.t 9)).run P w=.ok size w) (v:Value) (base:Option Addr) (n cap:Nat) (hv:v=.slice base n cap) (xs:List Value) (w:World) (hown:w.ownsRow 0 (ρ.t 9) size v n xs) (ad:Addr) (m vc:Nat) (news:List Value) (hm:0<m)
  (hl:news.length=m*size) (hn:n+m<=maxLen) (hbig:(n+m)*bytes<=140737488355328) (hnews:∀ j u,news[j]? = some u->w.cell? (ad.add j)=some u) (h1:∀ u∈news,u.oneCell'=true) :
  Calls P (ρ.f 22) #[v,.int .i64 n,.slice (some ad) m vc] w fun e w'=>∃ v',e=.returned v'/\w'.ownsRow 0 (ρ.t 9) size v' (n+m) (xs++news)/\w.grownBy w' v.ownBlock/\(v'.ownBlock=v.ownBlock\/v'.ownBlock=some w.heap.size):=by
 subst hv
 have mixed:=L.mixed; have t3:=L.t3; have a3:=L.a3; have z3:=L.z3; have v3:=L.v3; have t4:=L.t4; have a4:=L.a4; have z4:=L.z4; have v4:=L.v4; have t24:=L.t24; have a24:=L.a24; have z24:=L.z24; have v24:=L.v24
 have u3:=run_underlying L.t3; have u4:=run_underlying L.t4; have u24:=run_underlying L.t24
 have hz1':¬ ((m:Int)=0):=by omega
 have hob:∀ c,(Value.slice base n c).ownBlock=(Value.slice base n cap).ownBlock:=fun c=>by cases base<;>rfl
 have hcap:n<=cap:=by
  rcases hown.2 with ⟨e,e2⟩ | ⟨g,c,cur,e,_,_,h,_⟩
  ·omega
  ·cases e; exact h
 have A:Aside (∀ j u,news[j]? = some u->w.cell? (ad.add j)=some u):=hnews
 clear hnews
 obtain ⟨_,_,FG⟩:=L.f22
 go_enter FG,Body2.n22_ntmps ρ
 go_wp2_with (at_builtin; refine wpList_append_own_at _ rfl _ _ (ρ.t 24) rfl 0 (ρ.t 9) i0 z size bytes t24 hi hz0 hz1 hz2 hzs hsz _ _ _ rfl hown ad m vc news rfl ?qc1 ?qc2 ?qc3 ?qc4 ?qc5 ?qc6 ?_)
 all_goals first
  | exact hl
  | exact A.out
  | exact h1
  | exact hn
  | exact hbig
  | exact Nat.zero_le _
  | (
   intro v' w1 ho hgrow hnil hblk
   go_wp2
   go_ret
   exact ⟨v',rfl,ho,by rw [<- hob]; exact hgrow,by rw [<- hob]; exact hblk⟩)
theorem YQ {α:Type} (c V:List α) (I M N:Nat) (hI:I<=N) (hV:V.length=M) (hN:N+M<=c.length) :
  (((c.take (I+M)++(c.take N).drop I++c.drop (I+M+(N-I))).take I++V++(c.take (I+M)++(c.take N).drop I++c.drop (I+M+(N-I))).drop (I+M)).take (N+M))=c.take I++V++(c.take N).drop I:=by
 have l1:(c.take (I+M)).length=I+M:=by rw [List.length_take]; omega
 have l2:((c.take N).drop I).length=N-I:=by rw [List.length_drop,List.length_take]; omega
 have e1:(c.take (I+M)++(c.take N).drop I++c.drop (I+M+(N-I))).take I=c.take I:=by
  rw [BC,List.take_append_of_le_length (by omega),List.take_take,Nat.min_eq_left (by omega)]
 have e2:(c.take (I+M)++(c.take N).drop I++c.drop (I+M+(N-I))).drop (I+M)=(c.take N).drop I++c.drop (I+M+(N-I)):=by
  rw [BC,List.drop_append_of_le_length (by omega),List.drop_of_length_le (by omega),List.nil_append]
 rw [e1,e2,<- BC]
 have l3:(c.take I++V++(c.take N).drop I).length=N+M:=by simp only [List.length_append,l2,hV,List.length_take]; omega
 rw [List.take_append_of_le_length (by omega),<- l3,List.take_length]
theorem Hj (w:World) (g:Nat) (c:Array Value):(w.setRow g c).heap.size=w.heap.size:=by
 unfold World.setRow
 exact Array.size_modify
theorem Ve {w:World} {b:Nat} {c:Array Value} {t:TypeId} {fz:Nat×Nat} (h:w.heap[b]? = some (.cells c t fz)):w.shape? b=some (t,c.size):=by simp [World.shape?,h]
theorem UG {w:World} {b o:Nat} {c:Array Value} {t:TypeId} (h:w.heap[b]? = some (.cells c t (0,0))):w.frozen? ⟨b,o,none⟩=false:=by simp [World.frozen?,h]
theorem JC {w:World} {b o:Nat} {c:Array Value} {t:TypeId} {fz:Nat×Nat} (h:w.heap[b]? = some (.cells c t fz)):w.cell? ⟨b,o,none⟩=c[o]? := by simp [World.cell?,h]
set_option maxHeartbeats 8000000 in
set_option maxRecDepth 100000 in
theorem Ut (L:YP P ρ) (i0:TypeInfo) (z:Value) (size bytes:Nat) (hi:P.info? (ρ.t 9)=some i0) (hz0:i0.zero=some z) (hz1:i0.size=size) (hz2:i0.bytes=bytes) (hzs:z.cells.size=size) (hsz:0<size)
  (z9:∀ w,(Go.sizeOf (ρ.t 9)).run P w=.ok size w) (g n cap i:Nat) (cur:Array Value) (w:World) (hg:w.heap[g]? = some (.cells cur (ρ.t 9) (0,0))) (hcs:cur.size=cap*size) (hin:i<n) (vb m vc:Nat) (vcur:Array Value) (hgv:w.heap[vb]? = some (.cells vcur (ρ.t 9) (0,0))) (hvb:vb≠g)
  (hm:0<m) (hroom:n+m<=cap) (hcm:cap<=maxLen) (hvl:m*size<=vcur.size) (h1:∀ u∈cur.toList.take (n*size),u.oneCell'=true) (h1v:∀ u∈vcur.toList.take (m*size),u.oneCell'=true) (hkB:cur.size≠0) :
  Calls P (ρ.f 22) #[.slice (some ⟨g,0,none⟩) n cap,.int .i64 i,.slice (some ⟨vb,0,none⟩) m vc] w fun e w'=>e=.returned (.slice (some ⟨g,0,none⟩) (n+m) cap) /\
   ∃ cur',w'.heap[g]? = some (.cells cur' (ρ.t 9) (0,0))/\cur'.size=cap*size/\cur'.toList.take ((n+m)*size)=cur.toList.take (i*size)++vcur.toList.take (m*size)++(cur.toList.take (n*size)).drop (i*size)/\w.grownBy w' (some g):=by
 have mixed:=L.mixed; have t3:=L.t3; have a3:=L.a3; have z3:=L.z3; have v3:=L.v3; have t4:=L.t4; have a4:=L.a4; have z4:=L.z4; have v4:=L.v4; have t24:=L.t24; have a24:=L.a24; have z24:=L.z24; have v24:=L.v24
 have u3:=run_underlying L.t3; have u4:=run_underlying L.t4; have u24:=run_underlying L.t24
 have hcm':cap<=9223372036854775807:=hcm
 have hz1':¬ ((m:Int)=0):=by omega
 have hz2':¬ ((i:Int)=(n:Int)):=by omega
 have hw1:IntKind.i64.wrap ((i:Int)+(m:Int))=(i:Int)+(m:Int):=by rw [IntKind.wrap_i64]; omega
 have hw2:IntKind.i64.wrap ((n:Int)+(m:Int))=(n:Int)+(m:Int):=by rw [IntKind.wrap_i64]; omega
 have hb1:(0:Int)<=(i:Int)+(m:Int):=by omega
 have hin':i<=n:=by omega
 have htn:((i:Int)+(m:Int)).toNat=i+m:=by omega
 have htn2:((n:Int)+(m:Int)).toNat=n+m:=by omega
 have hb2:¬ (cap=i+m):=by omega
 have hb3:(i:Int)<=(n:Int)+(m:Int):=by omega
 have hb4:¬ (cap=i):=by omega
 have hb5:¬ ((n:Int)+(m:Int)>(cap:Int)):=by omega
 have hov:∀ o lb cb,(callFunc (ρ.f 29) #[.slice (some ⟨vb,0,none⟩) m vc,.slice (some ⟨g,o,none⟩) lb cb]).run P w=.ok (.value (.bool false)) w:=fun o lb cb=>by
  rw [L.ov,Lib.run_overlaps_apart w (ρ.t 24) (ρ.t 4) (ρ.t 9) L.t24 size z9 ⟨vb,0,none⟩ ⟨g,o,none⟩ m vc lb cb hvb _ _ _ _ (Ve hgv) (Ve hg) hkB (UG hgv) (UG hgv)]
  rfl
 have e1:(i+m)*size=i*size+m*size:=Nat.add_mul i m size
 have e2:(n+m)*size=n*size+m*size:=Nat.add_mul n m size
 have e3:(n-i)*size=n*size-i*size:=Nat.sub_mul n i size
 have e4:i*size<=n*size:=BE size hin'
 have e5:n*size+m*size<=cur.size:=by rw [hcs,<- e2]; exact BE size hroom
 have lm:((cur.toList.take (n*size)).drop (i*size)).length=(n-i)*size:=by rw [List.length_drop,List.length_take,Array.length_toList,e3]; omega
 have hcp1:∀ ty dc sc,(Builtin.copy_ #[(ρ.t 24),(ρ.t 24)] ty #[.slice (some ⟨g,(i+m)*size,none⟩) (n+m-(i+m)) dc,.slice (some ⟨g,i*size,none⟩) (n+m-i) sc]).run P w.drew=.ok (goInt ((n-i:Nat):Int)) (w.drew.setRow g (cur.toList.take ((i+m)*size)++(cur.toList.take (n*size)).drop (i*size)++cur.toList.drop ((i+m)*size+((cur.toList.take (n*size)).drop (i*size)).length)).toArray):=fun ty dc sc =>
  JB w.drew _ _ ty (ρ.t 9) g ((i+m)*size) (n+m-(i+m)) dc ⟨g,i*size,none⟩ (n+m-i) sc cur (ρ.t 9) _ (n-i) i0 L.t24 hi hg (by simp only [Nat.min_def]; split<;>omega) (by rw [lm,hz1])
   (fun j v hj=>by
    rw [Addr.add_none]
    have:w.drew.cell? ⟨g,i*size+j,none⟩=cur[i*size+j]? := JC hg
    rw [this,<- hj,BU,Ay]
    have:i*size+j<n*size:=by
     have:=(AQ.1 hj).1
     omega
    rw [if_pos this,Array.getElem?_toList])
   (by rw [lm,e1,e3]; omega) (fun v hv=>h1 v (List.mem_of_mem_drop hv))
 obtain ⟨cur1,hcur1⟩:∃ c1,c1=(cur.toList.take ((i+m)*size)++(cur.toList.take (n*size)).drop (i*size)++cur.toList.drop ((i+m)*size+((cur.toList.take (n*size)).drop (i*size)).length)).toArray:=⟨_,rfl⟩
 rw [<- hcur1] at hcp1
 have hs1:cur1.size=cap*size:=by
  rw [hcur1,List.size_toArray]
  simp only [List.length_append,List.length_take,List.length_drop,Array.length_toList,e1]
  omega
 have hg1:(w.drew.setRow g cur1).heap[g]? = some (.cells cur1 (ρ.t 9) (0,0)):=setRow_heap w.drew g cur cur1 (ρ.t 9) _ hg
 have hgv1:(w.drew.setRow g cur1).heap[vb]? = some (.cells vcur (ρ.t 9) (0,0)):=by rw [setRow_other w.drew g vb cur1 hvb]; exact hgv
 have lv:(vcur.toList.take (m*size)).length=m*size:=by rw [List.length_take,Array.length_toList]; omega
 have hcp2:∀ (W:World),W.heap=(w.drew.setRow g cur1).heap->∀ ty dc,(Builtin.copy_ #[(ρ.t 24),(ρ.t 24)] ty #[.slice (some ⟨g,i*size,none⟩) (n+m-i) dc,.slice (some ⟨vb,0,none⟩) m vc]).run P W=.ok (goInt m) (W.setRow g (cur1.toList.take (i*size)++vcur.toList.take (m*size)++cur1.toList.drop (i*size+(vcur.toList.take (m*size)).length)).toArray):=fun W hW ty dc =>
  JB W _ _ ty (ρ.t 9) g (i*size) (n+m-i) dc ⟨vb,0,none⟩ m vc cur1 (ρ.t 9) _ m i0 L.t24 hi (by rw [hW]; exact hg1) (by simp only [Nat.min_def]; split<;>omega) (by rw [lv,hz1])
   (fun j v hj=>by
    rw [Addr.add_none,JC (by rw [hW]; exact hgv1),<- hj,Ay,Nat.zero_add]
    have:j<m*size:=by
     have:=(AQ.1 hj).1
     omega
    rw [if_pos this,Array.getElem?_toList])
   (by rw [lv]; omega) h1v
 clear e1 e2 e3
 obtain ⟨_,_,FG⟩:=L.f22
 go_enter FG,Body2.n22_ntmps ρ
 go_wp2_with (simp only [hov])
 go_region_law_o (refine step_copy_runI rfl _ _ (ρ.t 24) (ρ.t 24) rfl _ _ (by simp [Act.eval,Act.put]) (by simp [Act.eval,Act.put]) (hcp1 _ _ _) ?_)
 go_wp2_with (at_builtin; refine wpList_copy_runI _ rfl _ _ (ρ.t 24) (ρ.t 24) rfl _ _ rfl rfl (hcp2 _ rfl _ _) ?_)
 go_ret
 have e1:(i+m)*size=i*size+m*size:=Nat.add_mul i m size
 have e2:(n+m)*size=n*size+m*size:=Nat.add_mul n m size
 have e3:(n-i)*size=n*size-i*size:=Nat.sub_mul n i size
 have e6:cur.toList.length=cap*size:=by rw [Array.length_toList,hcs]
 have e7:vcur.toList.length=vcur.size:=Array.length_toList
 refine ⟨rfl,_,setRow_heap _ g _ _ _ _ (setRow_heap w.drew g cur _ (ρ.t 9) _ hg),?_,?_,⟨rfl,rfl,rfl,by rw [Hj,Hj]; exact Nat.le_refl _,fun k hk hne=>?_⟩⟩
 ·simp only [List.size_toArray,List.length_append,List.length_take,List.length_drop,e1,e3,e6,e7]
  omega
 ·have:=YQ cur.toList (vcur.toList.take (m*size)) (i*size) (m*size) (n*size) e4 lv (by omega)
  simp only [e1,e2,e3]
  simpa only [BC] using this
 ·have hk':k≠g:=fun e=>hne (by rw [e])
  rw [setRow_other _ g k _ hk',setRow_other _ g k _ hk']
  rfl
set_option maxHeartbeats 8000000 in
set_option maxRecDepth 100000 in
theorem Vf (L:YP P ρ) (i0:TypeInfo) (z:Value) (size bytes:Nat) (hi:P.info? (ρ.t 9)=some i0) (hz0:i0.zero=some z) (hz1:i0.size=size) (hz2:i0.bytes=bytes) (hzs:z.cells.size=size) (hsz:0<size)
  (z9:∀ w,(Go.sizeOf (ρ.t 9)).run P w=.ok size w) (g n cap i:Nat) (cur:Array Value) (w:World) (hg:w.heap[g]? = some (.cells cur (ρ.t 9) (0,0))) (hcs:cur.size=cap*size) (hin:i<n) (vb m vc:Nat) (vcur:Array Value) (hgv:w.heap[vb]? = some (.cells vcur (ρ.t 9) (0,0))) (hvb:vb≠g)
  (hm:0<m) (hnc:n<=cap) (hroom:cap<n+m) (hcm:n+m<=68719476736) (hby:bytes<=2048) (hvl:m*size<=vcur.size) (h1:∀ u∈cur.toList.take (n*size),u.oneCell'=true) (h1v:∀ u∈vcur.toList.take (m*size),u.oneCell'=true) :
  Calls P (ρ.f 22) #[.slice (some ⟨g,0,none⟩) n cap,.int .i64 i,.slice (some ⟨vb,0,none⟩) m vc] w fun e w'=>∃ cap',e=.returned (.slice (some ⟨w.heap.size,0,none⟩) (n+m) cap')/\n+m<=cap'/\cap'<=maxLen /\
   ∃ cur',w'.heap[w.heap.size]? = some (.cells cur' (ρ.t 9) (0,0))/\cur'.size=cap'*size/\cur'.toList.take ((n+m)*size)=cur.toList.take (i*size)++vcur.toList.take (m*size)++(cur.toList.take (n*size)).drop (i*size)/\w.grownBy w' none:=by
 have mixed:=L.mixed; have t3:=L.t3; have a3:=L.a3; have z3:=L.z3; have v3:=L.v3; have t4:=L.t4; have a4:=L.a4; have z4:=L.z4; have v4:=L.v4; have t24:=L.t24; have a24:=L.a24; have z24:=L.z24; have v24:=L.v24
 have u3:=run_underlying L.t3; have u4:=run_underlying L.t4; have u24:=run_underlying L.t24
 have hcm':n+m<=9223372036854775807:=by omega
 have hz1':¬ ((m:Int)=0):=by omega
 have hz2':¬ ((i:Int)=(n:Int)):=by omega
 have hw1:IntKind.i64.wrap ((i:Int)+(m:Int))=(i:Int)+(m:Int):=by rw [IntKind.wrap_i64]; omega
 have hw2:IntKind.i64.wrap ((n:Int)+(m:Int))=(n:Int)+(m:Int):=by rw [IntKind.wrap_i64]; omega
 have hw3:IntKind.i64.wrap ((n:Int)+(m:Int)-(i:Int))=(n:Int)+(m:Int)-(i:Int):=by rw [IntKind.wrap_i64]; omega
 have hb1:(0:Int)<=(i:Int)+(m:Int):=by omega
 have hin':i<=n:=by omega
 have htn:((i:Int)+(m:Int)).toNat=i+m:=by omega
 have htn2:((n:Int)+(m:Int)).toNat=n+m:=by omega
 have hb4:¬ (cap=i):=by omega
 have hb5:(n:Int)+(m:Int)>(cap:Int):=by omega
 have hb6:¬ (cap=0):=by omega
 have e1:(i+m)*size=i*size+m*size:=Nat.add_mul i m size
 have e2:(n+m)*size=n*size+m*size:=Nat.add_mul n m size
 have e3:(n-i)*size=n*size-i*size:=Nat.sub_mul n i size
 have e4:i*size<=n*size:=BE size hin'
 have e5:n*size<=cur.size:=by rw [hcs]; exact BE size hnc
 have lo:(cur.toList.take (i*size)).length=i*size:=by rw [List.length_take,Array.length_toList]; omega
 have lv:(vcur.toList.take (m*size)).length=m*size:=by rw [List.length_take,Array.length_toList]; omega
 have lm:((cur.toList.take (n*size)).drop (i*size)).length=(n-i)*size:=by rw [List.length_drop,List.length_take,Array.length_toList,e3]; omega
 have hgl:g<w.heap.size:=(Array.getElem?_eq_some_iff.1 hg).1
 have hvl2:vb<w.heap.size:=(Array.getElem?_eq_some_iff.1 hgv).1
 have hbb:(n+m)*bytes<=140737488355328:=Nat.le_trans (Nat.mul_le_mul hcm hby) (by omega)
 obtain ⟨C,new,hap,hC1,hC2,hns,hnt⟩:∃ (C:Nat) (new:Array Value),(∀ ty,(Builtin.append_ #[(ρ.t 24),(ρ.t 3)] ty #[.slice (some ⟨g,0,none⟩) i cap,.int .i64 ((n:Int)+(m:Int)-(i:Int))]).run P w=.ok (.slice (some ⟨w.heap.size,0,none⟩) (n+m) C) (w.drew.alloc (.cells new (ρ.t 9)))) /\
   n+m<=C/\C<=maxLen/\new.size=C*size/\new.toList.take (i*size)=cur.toList.take (i*size):=by
  have hsum:i+(n+m-i)=n+m:=by omega
  have hge:=grownCap_ge w (n+m) cap (ρ.t 9)
  refine ⟨grownCap w (n+m) cap (ρ.t 9),(cur.toList.take (i*size)).toArray++Builtin.zeroCells z.cells (n+m-i)++Builtin.zeroCells z.cells (grownCap w (n+m) cap (ρ.t 9)-(n+m)),fun ty=>?_,hge,grownCap_le_maxLen _ _ _ _ (by unfold maxLen; omega),?_,?_⟩
  ·have:=Pw (P:=P) w (ρ.t 24) (ρ.t 3) ty (ρ.t 9) i0 z .i64 L.t24 L.t3 hi hz0 ⟨g,0,none⟩ i cap (cur.toList.take (i*size)) (by rw [lo,hz1]) (fun j v hj=>by
     rw [Addr.add_none,JC hg,<- hj,Ay,Nat.zero_add]
     have:j<i*size:=by
      have:=(AQ.1 hj).1
      omega
     rw [if_pos this,Array.getElem?_toList]) (n+m-i) (by omega) (by omega) (by omega) (by omega) (by rw [hz2]; exact Nat.le_trans (BE bytes (Nat.sub_le _ _)) (by omega)) (by rw [hsum,hz2]; exact growslice_fits hroom hbb) .i64
   rw [hsum,show ((n+m-i:Nat):Int)=(n:Int)+(m:Int)-(i:Int) by omega] at this
   exact this
  ·simp only [Array.size_append,List.size_toArray,size_zeroCells,hzs,lo,<- Nat.add_mul]
   congr 1
   omega
  ·simp only [Array.toList_append,BC]
   exact (congrArg (fun k=>List.take k _) lo.symm).trans (by rw [List.take_left])
 have hW1:(w.drew.alloc (.cells new (ρ.t 9))).heap[w.heap.size]? = some (.cells new (ρ.t 9) (0,0)):=heap_alloc_new w.drew _
 have hW1o:∀ k,k<w.heap.size->(w.drew.alloc (.cells new (ρ.t 9))).heap[k]? = w.heap[k]? := fun k hk=>heap_alloc_old w.drew _ hk
 have e8:i*size+m*size<=new.size:=by rw [hns,<- e1]; exact BE size (by omega)
 have e9:n*size+m*size<=new.size:=by rw [hns,<- e2]; exact BE size (by omega)
 have hcp1:∀ (W:World),W.heap=(w.drew.alloc (.cells new (ρ.t 9))).heap->∀ ty dc,(Builtin.copy_ #[(ρ.t 24),(ρ.t 24)] ty #[.slice (some ⟨w.heap.size,i*size,none⟩) (n+m-i) dc,.slice (some ⟨vb,0,none⟩) m vc]).run P W=.ok (goInt m) (W.setRow w.heap.size (new.toList.take (i*size)++vcur.toList.take (m*size)++new.toList.drop (i*size+(vcur.toList.take (m*size)).length)).toArray):=fun W hW ty dc =>
  JB W _ _ ty (ρ.t 9) w.heap.size (i*size) (n+m-i) dc ⟨vb,0,none⟩ m vc new (ρ.t 9) _ m i0 L.t24 hi (by rw [hW]; exact hW1) (by simp only [Nat.min_def]; split<;>omega) (by rw [lv,hz1])
   (fun j v hj=>by
    rw [Addr.add_none,JC (by rw [hW,hW1o vb hvl2]; exact hgv),<- hj,Ay,Nat.zero_add]
    have:j<m*size:=by
     have:=(AQ.1 hj).1
     omega
    rw [if_pos this,Array.getElem?_toList])
   (by rw [lv]; omega) h1v
 obtain ⟨cur1,hcur1⟩:∃ c1,c1=(new.toList.take (i*size)++vcur.toList.take (m*size)++new.toList.drop (i*size+(vcur.toList.take (m*size)).length)).toArray:=⟨_,rfl⟩
 rw [<- hcur1] at hcp1
 have hln:new.toList.length=new.size:=Array.length_toList
 have hs1:cur1.size=C*size:=by
  rw [hcur1,List.size_toArray,<- hns]
  simp only [List.length_append,List.length_take,List.length_drop,hln,lv]
  omega
 have hcp2:∀ (W:World),W.heap=((w.drew.alloc (.cells new (ρ.t 9))).setRow w.heap.size cur1).heap->∀ ty dc sc,(Builtin.copy_ #[(ρ.t 24),(ρ.t 24)] ty #[.slice (some ⟨w.heap.size,(i+m)*size,none⟩) (n+m-(i+m)) dc,.slice (some ⟨g,i*size,none⟩) (n-i) sc]).run P W=.ok (goInt ((n-i:Nat):Int)) (W.setRow w.heap.size (cur1.toList.take ((i+m)*size)++(cur.toList.take (n*size)).drop (i*size)++cur1.toList.drop ((i+m)*size+((cur.toList.take (n*size)).drop (i*size)).length)).toArray):=fun W hW ty dc sc =>
  JB W _ _ ty (ρ.t 9) w.heap.size ((i+m)*size) (n+m-(i+m)) dc ⟨g,i*size,none⟩ (n-i) sc cur1 (ρ.t 9) _ (n-i) i0 L.t24 hi (by rw [hW]; exact setRow_heap _ _ new cur1 _ _ hW1) (by simp only [Nat.min_def]; split<;>omega) (by rw [lm,hz1])
   (fun j v hj=>by
    rw [Addr.add_none,JC (by rw [hW,setRow_other _ _ g _ (by omega),hW1o g hgl]; exact hg),<- hj,BU,Ay]
    have:i*size+j<n*size:=by
     have:=(AQ.1 hj).1
     omega
    rw [if_pos this,Array.getElem?_toList])
   (by rw [lm,hs1,<- hns,e1,e3]; omega) (fun v hv=>h1 v (List.mem_of_mem_drop hv))
 have fin:(cur1.toList.take ((i+m)*size)++(cur.toList.take (n*size)).drop (i*size)++cur1.toList.drop ((i+m)*size+((cur.toList.take (n*size)).drop (i*size)).length)).take ((n+m)*size)=cur.toList.take (i*size)++vcur.toList.take (m*size)++(cur.toList.take (n*size)).drop (i*size):=by
  have l1:(new.toList.take (i*size)).length=i*size:=by rw [List.length_take,hln]; omega
  have t1:cur1.toList.take ((i+m)*size)=cur.toList.take (i*size)++vcur.toList.take (m*size):=by
   rw [hcur1,<- hnt,e1]
   have l2:(new.toList.take (i*size)++vcur.toList.take (m*size)).length=i*size+m*size:=by rw [List.length_append,l1,lv]
   exact (congrArg (fun k=>List.take k _) l2.symm).trans (by rw [List.take_left])
  rw [t1]
  have l3:(cur.toList.take (i*size)++vcur.toList.take (m*size)++(cur.toList.take (n*size)).drop (i*size)).length=(n+m)*size:=by
   simp only [List.length_append,lo,lv,lm,e2,e3]
   omega
  exact (congrArg (fun k=>List.take k _) l3.symm).trans (by rw [List.take_left])
 obtain ⟨cur2,hcur2⟩:∃ c2,c2=(cur1.toList.take ((i+m)*size)++(cur.toList.take (n*size)).drop (i*size)++cur1.toList.drop ((i+m)*size+((cur.toList.take (n*size)).drop (i*size)).length)).toArray:=⟨_,rfl⟩
 rw [<- hcur2] at hcp2
 have hs2:cur2.size=C*size:=by
  rw [hcur2,List.size_toArray,<- hs1]
  simp only [List.length_append,List.length_take,List.length_drop,Array.length_toList,lm,e1,e3]
  omega
 have fin2:cur2.toList.take ((n+m)*size)=cur.toList.take (i*size)++vcur.toList.take (m*size)++(cur.toList.take (n*size)).drop (i*size):=by rw [hcur2]; exact fin
 clear e1 e2 e3 hcur1 hcur2 fin
 obtain ⟨W1,hW1d⟩:∃ W1,W1=w.drew.alloc (.cells new (ρ.t 9)):=⟨_,rfl⟩
 have hWs:W1.heap.size=w.heap.size+1:=by rw [hW1d]; exact Array.size_push _
 have hWos:W1.os=w.os/\W1.tape=w.tape/\W1.output=w.output:=by rw [hW1d]; exact ⟨rfl,rfl,rfl⟩
 rw [<- hW1d] at hW1 hW1o hcp1 hcp2 hap
 clear hW1d
 have hcp3:=hcp2 (W1.setRow w.heap.size cur1).drew rfl
 clear hcp2
 have hb7:¬ (C=i+m):=by omega
 have hb8:¬ (C=i):=by omega
 obtain ⟨_,_,FG⟩:=L.f22
 go_enter FG,Body2.n22_ntmps ρ
 go_wp2_with (at_builtin; refine Lib.wpList_append_run _ rfl _ _ (ρ.t 24) (ρ.t 3) rfl _ _ rfl rfl _ _ (hap _) ?_)
 go_region_law_o (refine step_copy_runI rfl _ _ (ρ.t 24) (ρ.t 24) rfl _ _ (by simp [Act.eval,Act.put]) (by simp [Act.eval,Act.put]) (hcp3 _ _ _) ?_)
 go_wp2
 go_ret
 refine ⟨C,rfl,hC1,hC2,cur2,setRow_heap _ _ cur1 cur2 _ _ (setRow_heap _ _ new cur1 _ _ hW1),hs2,fin2,⟨hWos.1,hWos.2.1,hWos.2.2,?_,fun k hk _=>?_⟩⟩
 ·rw [Hj]
  show w.heap.size<=(W1.setRow w.heap.size cur1).heap.size
  rw [Hj,hWs]
  omega
 ·rw [setRow_other _ _ k _ (by omega)]
  show (W1.setRow w.heap.size cur1).heap[k]? = _
  rw [setRow_other _ _ k _ (by omega),hW1o k hk]
theorem Vg {H:HP} {K:Kd} {xs:List K.T} {f:List Value} (h:Bq H K xs f) (i:Nat):Bq H K (xs.take i) (f.take (i*K.sz)):=by
 intro j x hx
 rw [Ay] at hx
 split at hx
 ·rename_i hj
  have:=h j x hx
  have hle:(j+1)*K.sz<=i*K.sz:=BE _ hj
  rw [Nat.succ_mul] at hle
  rw [List.drop_take,List.take_take,Nat.min_eq_left (by omega)]
  exact this
 ·cases hx
theorem Vh {H:HP} {K:Kd} {xs:List K.T} {f:List Value} (h:Bq H K xs f) (i:Nat):Bq H K (xs.drop i) (f.drop (i*K.sz)):=by
 intro j x hx
 rw [BU] at hx
 have:=h _ x hx
 rw [List.drop_drop,<- Nat.add_mul]
 exact this
theorem Uu {H:HP} {φ:Az} {w w':World} {t:TypeId} {K:Kd} {xs vs ys:List K.T} {n:Int} {v':Value} {flat:List Value}
  (hs:SR H φ (Ao [] [.new t K xs,.int .i64 n,.new t K vs]) w) (hg:w.grownBy w' (Bb (φ 0))) (hb:∀ b,Bb v'=some b->Bb (φ 0)=some b\/w.heap.size<=b)
  (ho:w'.ownsRow 0 t K.sz v' ys.length flat) (hr:Bq H K ys flat):Gu H φ w [.new t K xs,.int .i64 n,.new t K vs] [] [] [.new t K ys] v' w':=by
 have hout:∀ b,Bb (φ 0)=some b->H b=none:=fun b h=>hs.out 0 (.rows t K xs) rfl rfl b h
 have hlt:∀ b o,H b=some o->b<w.heap.size:=fun b o h=>(Array.getElem?_eq_some_iff.1 (hs.hp b o h)).1
 refine ⟨H,fun _=>v',HP.le_refl H,⟨fun b o h=>?_,fun id bx hid=>?_,fun i j bi bj hi hj _ _ hne=>?_,fun i bi hi _ b hv=>?_,fun id cs hid=>?_⟩,⟨hg.os,hg.tape,hg.output,hg.size,fun b hlt hne=>hg.block b hlt (fun e=>hne 0 (by show 0<2; omega) e.symm),fun j hj=>by simp at hj,fun i bi hi _ b hv=>?_,fun j hj=>by simp at hj,fun _ _ _=>rfl⟩,⟨rfl,rfl⟩⟩
 ·rw [hg.block b (hlt b o h) (fun e=>by rw [hout b e.symm] at h; cases h)]
  exact hs.hp b o h
 ·cases id with
  | zero=>cases hid; exact ⟨flat,ho,hr⟩
  | succ k=>cases hid
 ·cases i with
  | succ k=>cases hi
  | zero =>
   cases j with
   | succ k=>cases hj
   | zero=>exact absurd rfl hne
 ·cases hh:H b with
  | none=>rfl
  | some o =>
   rcases hb b hv with h | h
   ·rw [hout b h] at hh; cases hh
   ·have:=hlt b o hh; omega
 ·cases id with
  | zero=>cases hid
  | succ k=>cases hid
 ·rcases hb b hv with h | h
  ·exact .inr ⟨0,(by show 0<2; omega),h⟩
  ·exact .inl h
theorem XT {K:Kd} (L:YP P ρ) (he:WW P (ρ.t 9) K=true) {xs vs:List K.T} {i:Nat} (hx:xs.length+vs.length<=68719476736) (hv:vs≠[]) (hi:i<=xs.length) :
  N0 P (ρ.f 22) [.new (ρ.t 9) K xs,.int .i64 i,.new (ρ.t 9) K vs] [] [.new (ρ.t 9) K (xs.take i++vs++xs.drop i)]:=by
 obtain ⟨i0,z,hi0,hz,h1,h2,h3,h4⟩:=ME he
 have hm:0<vs.length:=List.length_pos_iff.2 hv
 have hsz:=Kd.sz_pos K
 refine ⟨?_,?_,1,rfl,fun H φ w cargs hs ha=>?_⟩
 ·obtain ⟨nm,hnm,hf⟩:=L.f22
  exact ⟨_,_,hf,hnm,rfl⟩
 ·intro r hr
  simp only [IZ] at hr
  subst hr
  rfl
 ·obtain ⟨v0,r0,rfl,hv0,ha⟩:=ha
  obtain ⟨v1,r1,rfl,hv1,ha⟩:=ha
  obtain ⟨v2,r2,rfl,hv2,ha⟩:=ha
  have hr2:r2=[]:=ha
  subst hr2
  have e0:v0=φ 0:=hv0.1
  have e1:v1=.int .i64 i:=hv1
  have e2:v2=φ 1:=hv2.1
  subst e0 e1 e2
  obtain ⟨flat,ho,hr⟩:=hs.box 0 (.rows (ρ.t 9) K xs) rfl
  obtain ⟨flatv,hov,hrv⟩:=hs.box 1 (.rows (ρ.t 9) K vs) rfl
  have hnew:(xs.take i++vs++xs.drop i).length=xs.length+vs.length:=by simp only [List.length_append,List.length_take,List.length_drop]; omega
  have hnil:vs.length≠0:=by omega
  obtain ⟨gv,capv,curv,ev,_,hgv,hcv,hcmv,hsv,htv⟩:=hov.2.resolve_left (fun h=>hnil h.2)
  have hlv:vs.length*K.sz<=curv.size:=by rw [hsv]; exact BE _ hcv
  have hn:xs.length+vs.length<=maxLen:=by unfold maxLen; omega
  have hbb:(xs.length+vs.length)*i0.bytes<=140737488355328:=Nat.le_trans (Nat.mul_le_mul hx h2) (by omega)
  have hcv2:∀ j u,flatv[j]? = some u->w.cell? ((⟨gv,0,none⟩:Addr).add j)=some u:=fun j u hj=>by
   rw [Addr.add_none,JC hgv,Nat.zero_add]
   rw [<- htv,Ay] at hj
   split at hj
   ·rwa [Array.getElem?_toList] at hj
   ·cases hj
  have one:(w.ownsRow 0 (ρ.t 9) K.sz (φ 1) vs.length flatv):=hov
  rw [ev]
  by_cases hin:i=xs.length
  ·subst hin
   obtain ⟨base,n,cap,e0,hnn⟩:∃ base n cap,φ 0=.slice base n cap/\n=xs.length:=by
    rcases ho.2 with ⟨e,h⟩ | ⟨g,cap,cur,e,_⟩
    ·exact ⟨none,0,0,e,h.symm⟩
    ·exact ⟨_,_,_,e,rfl⟩
   subst hnn
   refine Calls.mono (WG L i0 z K.sz i0.bytes hi0 hz h1 rfl h3 hsz (fun w=>by simp [sizeOf,typeInfo,hi0,h1]) (φ 0) base _ cap e0 flat w ho ⟨gv,0,none⟩ vs.length capv flatv hm hov.1 hn hbb hcv2 (B6 hrv hov.1)) fun out w' h=>?_
   obtain ⟨v',rfl,ho',hg,hbk⟩:=h
   have hbv:∀ {v:Value} {n:Nat} {fl:List Value} {ww:World},ww.ownsRow 0 (ρ.t 9) K.sz v n fl->Bb v=v.ownBlock:=fun h=>by
    rcases h.2 with ⟨e,_⟩ | ⟨g,c,cu,e,_⟩<;>rw [e]<;>rfl
   have hbl:Bb (φ 0)=(φ 0).ownBlock:=by rw [e0]; cases base<;>rfl
   refine Uu (flat:=flat++flatv) hs (by rw [hbl]; exact hg) (fun b hb=>?_) (by rw [hnew]; exact ho') ?_
   ·rw [hbv ho'] at hb
    rcases hbk with h | h
    ·exact .inl (by rw [hbl,<- h]; exact hb)
    ·rw [h] at hb
     cases hb
     exact .inr (Nat.le_refl _)
   ·rw [List.take_length,List.drop_length,List.append_nil]
    exact Ej hr ho.1 hrv
  ·have hlt:i<xs.length:=by omega
   obtain ⟨g,cap,cur,e0,_,hg,hc,hcm,hsc,ht⟩:=ho.2.resolve_left (fun h=>by omega)
   have hne:gv≠g:=fun e=>hs.sep 0 1 _ _ rfl rfl rfl rfl (by decide) g (by rw [e0]; rfl) (by rw [ev,e]; rfl)
   rw [e0]
   have z9:∀ w,(Go.sizeOf (ρ.t 9)).run P w=.ok K.sz w:=fun w=>by simp [sizeOf,typeInfo,hi0,h1]
   have hcap0:cur.size≠0:=by
    have:=BE K.sz hc
    have h5:0<xs.length*K.sz:=Nat.mul_pos (by omega) hsz
    omega
   have htk:cur.toList.take (i*K.sz)=flat.take (i*K.sz):=by
    rw [<- ht,List.take_take,Nat.min_eq_left (BE _ hi)]
   have hrow:∀ (cur':Array Value),cur'.toList.take ((xs.length+vs.length)*K.sz)=cur.toList.take (i*K.sz)++curv.toList.take (vs.length*K.sz)++(cur.toList.take (xs.length*K.sz)).drop (i*K.sz)->cur'.toList.take ((xs.length+vs.length)*K.sz)=flat.take (i*K.sz)++flatv++flat.drop (i*K.sz):=fun cur' h=>by rw [h,htk,htv,ht]
   have hlf:(flat.take (i*K.sz)++flatv++flat.drop (i*K.sz)).length=(xs.length+vs.length)*K.sz:=by
    have h5:=ho.1
    have h6:=hov.1
    have h7:i*K.sz<=xs.length*K.sz:=BE _ hi
    simp only [List.length_append,List.length_take,List.length_drop,h5,h6,Nat.add_mul]
    omega
   have hrr:Bq H K (xs.take i++vs++xs.drop i) (flat.take (i*K.sz)++flatv++flat.drop (i*K.sz)):=by
    have h5:=ho.1
    have h7:i*K.sz<=xs.length*K.sz:=BE _ hi
    have l1:(flat.take (i*K.sz)).length=(xs.take i).length*K.sz:=by rw [List.length_take,List.length_take,Nat.min_eq_left hi,h5]; omega
    refine Ej (Ej (Vg hr i) l1 hrv) ?_ (Vh hr i)
    rw [List.length_append,List.length_append,l1,hov.1,Nat.add_mul]
   by_cases hroom:xs.length+vs.length<=cap
   ·refine Calls.mono (Ut L i0 z K.sz i0.bytes hi0 hz h1 rfl h3 hsz z9 g xs.length cap i cur w hg hsc hlt gv vs.length capv curv hgv hne hm hroom hcm hlv (by rw [ht]; exact B6 hr ho.1) (by rw [htv]; exact B6 hrv hov.1) hcap0) fun out w' h=>?_
    obtain ⟨rfl,cur',g1,g2,g3,g4⟩:=h
    refine Uu hs (by rw [e0]; exact g4) (fun b hb=>.inl (by rw [e0]; exact hb)) (flat:=flat.take (i*K.sz)++flatv++flat.drop (i*K.sz)) ?_ hrr
    rw [hnew]
    exact ⟨hlf,.inr ⟨g,cap,cur',rfl,Nat.zero_le _,g1,hroom,hcm,g2,hrow cur' g3⟩⟩
   ·refine Calls.mono (Vf L i0 z K.sz i0.bytes hi0 hz h1 rfl h3 hsz z9 g xs.length cap i cur w hg hsc hlt gv vs.length capv curv hgv hne hm hc (by omega) hx h2 hlv (by rw [ht]; exact B6 hr ho.1) (by rw [htv]; exact B6 hrv hov.1)) fun out w' h=>?_
    obtain ⟨cap',rfl,g5,g6,cur',g1,g2,g3,g4⟩:=h
    refine Uu hs ⟨g4.os,g4.tape,g4.output,g4.size,fun k hk _=>g4.block k hk (by simp)⟩ (fun b hb=>.inr (by cases hb; exact Nat.le_refl _)) (flat:=flat.take (i*K.sz)++flatv++flat.drop (i*K.sz)) ?_ hrr
    rw [hnew]
    exact ⟨hlf,.inr ⟨w.heap.size,cap',cur',rfl,Nat.zero_le _,g1,g5,g6,g2,hrow cur' g3⟩⟩
def Wp (t:TypeId) (K:Kd) (args bs:List AV):Option (List AV) :=
 match args,bs with
 | [.lst K' xs],[]=>if h:K'=K then (if xs.length<=68719476736 then some [.new t K (h▸xs)] else none) else none
 | _,_=>none
theorem ar {t:TypeId} {K:Kd} {xs:List K.T} (h:xs.length<=68719476736):Wp t K [.lst K xs] []=some [.new t K xs]:=by simp [Wp,h]
theorem au {K:Kd} (L:SlLaysE0.n41 P ρ) (he:WW P (ρ.t 23) K=true) {args bs rs:List AV} (h:Wp (ρ.t 23) K args bs=some rs):N0 P (ρ.f 41) args bs rs:=by
 unfold Wp at h
 split at h
 ·split at h
  ·rename_i hk
   subst hk
   split at h
   ·cases h
    exact YO L he (by assumption)
   ·cases h
  ·cases h
 ·cases h
def ZV (t:TypeId) (K:Kd) (args bs:List AV):Option (List AV) :=
 match args,bs with
 | [.new t1 K1 xs,.int k i,.new t2 K2 vs],[]=>if h1:K1=K then (if h2:K2=K then (if t1=t/\t2=t/\k=.i64/\0<=i/\i<=xs.length/\vs.length≠0/\xs.length+vs.length<=68719476736 then
   some [.new t K ((h1▸xs).take i.toNat++(h2▸vs)++(h1▸xs).drop i.toNat)] else none) else none) else none
 | _,_=>none
theorem bP {t:TypeId} {K:Kd} {xs vs:List K.T} {i:Nat} (h:xs.length+vs.length<=68719476736) (hi:i<=xs.length) (hv:vs.length≠0):ZV t K [.new t K xs,.int .i64 i,.new t K vs] []=some [.new t K (xs.take i++vs++xs.drop i)]:=by
 have hi':(i:Int)<=(xs.length:Int):=by omega
 have h0:(0:Int)<=(i:Int):=by omega
 simp only [ZV,dif_pos,true_and]
 rw [if_pos ⟨h0,hi',hv,h⟩,BN]
theorem bQ {K:Kd} (L:YP P ρ) (he:WW P (ρ.t 9) K=true) {args bs rs:List AV} (h:ZV (ρ.t 9) K args bs=some rs):N0 P (ρ.f 22) args bs rs:=by
 unfold ZV at h
 split at h
 ·split at h
  ·rename_i hk
   subst hk
   split at h
   ·rename_i hk2
    subst hk2
    split at h
    ·rename_i hc
     obtain ⟨rfl,rfl,rfl,h0,hi,hv,hx⟩:=hc
     cases h
     rename_i n _
     obtain ⟨m,rfl⟩:=Int.eq_ofNat_of_zero_le h0
     exact XT L he hx (fun e=>hv (by rw [e]; rfl)) (by omega)
    ·cases h
   ·cases h
  ·cases h
 ·cases h
def ax (args bs:List AV):Option (List AV) :=
 match args,bs with
 | [.str a,.str b],[]=>some [.int .i64 (Lib.compareBytes a.data.toList b.data.toList)]
 | _,_=>none
theorem bR (L:Lays.n106 P ρ) {args bs rs:List AV} (h:ax args bs=some rs):N0 P (ρ.f 106) args bs rs:=by
 unfold ax at h
 split at h
 ·cases h
  rename_i a b
  refine ⟨⟨_,_,L.f106,by rfl,rfl⟩,?_,1,rfl,fun H φ w cargs hs ha=>?_⟩
  ·intro r hr
   simp only [IZ] at hr
   subst hr
   rfl
  ·obtain ⟨v0,r0,rfl,hv0,ha⟩:=ha
   obtain ⟨v1,r1,rfl,hv1,ha⟩:=ha
   have hr1:r1=[]:=ha
   subst hr1
   have e0:v0=.string a:=hv0
   have e1:v1=.string b:=hv1
   subst e0 e1
   refine Calls.mono (Any.strings_Compare L a b w) fun out w' h=>?_
   obtain ⟨rfl,rfl⟩:=h
   exact Vd (rs:=[.int .i64 (Lib.compareBytes a.data.toList b.data.toList)]) (AL.refl hs) rfl
 ·cases h
theorem Wq {H:HP} {φ:Az} {w w':World} {t:TypeId} {K:Kd} {xs ys:List K.T} {ags:List AV} {v':Value} {flat:List Value} (hst:Ao [] (.new t K xs::ags)=[.rows t K xs])
  (hs:SR H φ (Ao [] (.new t K xs::ags)) w) (hg:w.grownBy w' (Bb (φ 0))) (hb:∀ b,Bb v'=some b->Bb (φ 0)=some b\/w.heap.size<=b)
  (ho:w'.ownsRow 0 t K.sz v' ys.length flat) (hr:Bq H K ys flat):Gu H φ w (.new t K xs::ags) [] [] [.new t K ys] v' w':=by
 have hbx:(Ao [] (.new t K xs::ags))[0]? = some (.rows t K xs):=by rw [hst]; rfl
 have hout:∀ b,Bb (φ 0)=some b->H b=none:=fun b h=>hs.out 0 (.rows t K xs) hbx rfl b h
 have hlt:∀ b o,H b=some o->b<w.heap.size:=fun b o h=>(Array.getElem?_eq_some_iff.1 (hs.hp b o h)).1
 refine ⟨H,fun _=>v',HP.le_refl H,⟨fun b o h=>?_,fun id bx hid=>?_,fun i j bi bj hi hj _ _ hne=>?_,fun i bi hi _ b hv=>?_,fun id cs hid=>?_⟩,⟨hg.os,hg.tape,hg.output,hg.size,fun b hlt hne=>hg.block b hlt (fun e=>hne 0 (by rw [hst]; show 0<1; omega) e.symm),fun j hj=>by simp at hj,fun i bi hi _ b hv=>?_,fun j hj=>by simp at hj,fun _ _ _=>rfl⟩,⟨rfl,rfl⟩⟩
 ·rw [hg.block b (hlt b o h) (fun e=>by rw [hout b e.symm] at h; cases h)]
  exact hs.hp b o h
 ·cases id with
  | zero=>cases hid; exact ⟨flat,ho,hr⟩
  | succ k=>cases hid
 ·cases i with
  | succ k=>cases hi
  | zero =>
   cases j with
   | succ k=>cases hj
   | zero=>exact absurd rfl hne
 ·cases hh:H b with
  | none=>rfl
  | some o =>
   rcases hb b hv with h | h
   ·rw [hout b h] at hh; cases hh
   ·have:=hlt b o hh; omega
 ·cases id with
  | zero=>cases hid
  | succ k=>cases hid
 ·rcases hb b hv with h | h
  ·exact .inr ⟨0,(by rw [hst]; show 0<1; omega),h⟩
  ·exact .inl h

structure ay (P:Program) (g:Nat):Prop where
 eg:∀ args w,(callFunc g args).run P w=.ok (.enter g args) w
 says:∀ (n x:Int) (b o:Nat) (W:World),W.cell? ⟨b,o,none⟩=some (.int .i64 n) ->
  Calls P g #[.int .i64 x,.pointer (some ⟨b,o,none⟩)] W fun e w'=>e=.returned (.bool (x==n))/\∃ q,w'=W.drewN q
set_option maxHeartbeats 2000000 in
theorem Vi (L:SlLaysH.n10 P ρ) (fv:Value) (w:World) :
  Calls P (ρ.f 10) #[.slice none 0 0,fv] w fun e w'=>e=.returned (.slice none 0 0)/\w'=w:=by
 have mixed:=L.mixed; have t0:=L.t0; have a0:=L.a0; have z0:=L.z0; have v0:=L.v0; have t3:=L.t3; have a3:=L.a3; have z3:=L.z3; have v3:=L.v3; have t4:=L.t4; have a4:=L.a4; have z4:=L.z4; have v4:=L.v4; have t22:=L.t22; have a22:=L.a22; have z22:=L.z22; have v22:=L.v22; have a23:=L.a23; have z23:=L.z23; have t25:=L.t25; have a25:=L.a25; have z25:=L.z25; have v25:=L.v25
 have e6:∀ args w,(callFunc (ρ.f 6) args).run P w=.ok (.enter (ρ.f 6) args) w:=L.f6.enters rfl
 have hIF:=AnyE.slices_IndexFunc_empty (P:=P) (ρ:=ρ) { L with } none 0 fv w
 obtain ⟨_,_,FG⟩:=L.f10
 go_enter FG,SlBodyH.n10_ntmps ρ
 go_wp2_with (go_at_fn (ρ.f 6); refine hIF.mono ?_; rintro e w' ⟨rfl,rfl⟩)
 go_ret
 exact ⟨rfl,rfl⟩
theorem Oj {α:Type} [Inhabited α] (enc:α->Value) (w:World) (b off:Nat) (d:Array α):(Sort.putRow enc w b off d).heap.size=w.heap.size:=by
 simp [Sort.putRow,Sort.mapBlock]
theorem Ok {α:Type} [Inhabited α] (enc:α->Value) (w:World) (b off k:Nat) (d:Array α) (h:k≠b):(Sort.putRow enc w b off d).heap[k]? = w.heap[k]? := by
 simp only [Sort.putRow,Sort.mapBlock,Array.getElem?_modify]
 rw [if_neg (fun e=>h e.symm)]
theorem Px {α:Type} [Inhabited α] (enc:α->Value) (w:World) (b off:Nat) (d:Array α) {c:Array Value} {e:TypeId} {fr:Nat×Nat} (h:w.heap[b]? = some (.cells c e fr)) :
  (Sort.putRow enc w b off d).heap[b]? = some (.cells (Sort.putCells enc off d c) e fr):=by
 simp only [Sort.putRow,Sort.mapBlock,Array.getElem?_modify,if_true,h,Option.map_some,Sort.onCells]
theorem WH (L:SlLaysH.n10 P ρ) (hv:∀ w,(zeroValue (ρ.t 23)).run P w=.ok (.int .i64 0) w) {g:Nat} (E:ay P g) {xs:List Int} {n:Int} :
  N0 P (ρ.f 10) [.new (ρ.t 23) (.int .i64) xs,.clo g (.int .i64) n] [] [.new (ρ.t 23) (.int .i64) (xs.filter fun x=>!(x==n))]:=by
 refine ⟨?_,?_,1,rfl,fun H φ w cargs hs ha=>?_⟩
 ·obtain ⟨nm,hnm,hf⟩:=L.f10
  exact ⟨_,_,hf,hnm,rfl⟩
 ·intro r hr
  simp only [IZ] at hr
  subst hr
  rfl
 ·obtain ⟨v0,r0,rfl,hv0,ha⟩:=ha
  obtain ⟨v1,r1,rfl,hv1,ha⟩:=ha
  have hr1:r1=[]:=ha
  subst hr1
  have e0:v0=φ 0:=hv0.1
  subst e0
  obtain ⟨b,o,c,el,fz,e1,hb,vs,hvs,hvc⟩:=(show U_ H g (DH H (.int .i64) n) v1 from hv1)
  have hvs:vs=[.int .i64 n]:=hvs
  subst hvs e1
  have hcn:c[o]? = some (.int .i64 n):=hvc 0 _ rfl
  have hwb:=hs.hp _ _ hb
  have hbl:b<w.heap.size:=(Array.getElem?_eq_some_iff.1 hwb).1
  have hcell:w.cell? ⟨b,o,none⟩=some (.int .i64 n):=by rw [JC hwb]; exact hcn
  obtain ⟨flat,ho,hr⟩:=hs.box 0 (.rows (ρ.t 23) (.int .i64) xs) rfl
  have hstk:Ao [] [AV.new (ρ.t 23) (.int .i64) xs,.clo g (.int .i64) n]=[.rows (ρ.t 23) (.int .i64) xs]:=rfl
  have hout:∀ bb,Bb (φ 0)=some bb->H bb=none:=fun bb h=>hs.out 0 (.rows (ρ.t 23) (.int .i64) xs) rfl rfl bb h
  obtain ⟨hfl,⟨e0,hx⟩ | ⟨gb,cap,cur,e0,hle,hg,hc,hcm,hsc,ht⟩⟩:=ho
  ·have:xs=[]:=Dd.1 (by omega)
   subst this
   rw [e0]
   refine Calls.mono (Vi L _ w) fun out w' h=>?_
   obtain ⟨rfl,rfl⟩:=h
   exact Wq hstk hs ⟨rfl,rfl,rfl,Nat.le_refl _,fun _ _ _=>rfl⟩ (fun b hb=>by simp [Bb] at hb) (flat:=[]) ⟨by simp,.inl ⟨rfl,rfl⟩⟩ (fun j x h=>by simp at h)
  ·have hne:b≠gb:=fun e=>by
    have:=hout gb (by rw [e0]; rfl)
    rw [<- e] at this
    rw [this] at hb; cases hb
   have hgl:gb<w.heap.size:=(Array.getElem?_eq_some_iff.1 hg).1
   have hflat:∀ j (h:j<xs.length),cur[j]? = some (.int .i64 xs[j]):=fun j hj=>by
    have h1:(flat.drop (j*1)).take 1=[.int .i64 xs[j]]:=hr j xs[j] (List.getElem?_eq_getElem hj)
    have h4:((flat.drop (j*1)).take 1)[0]? = some (.int .i64 xs[j]):=by rw [h1]; rfl
    have h5:flat[j]? = some (.int .i64 xs[j]):=by simpa using h4
    rw [<- ht] at h5
    have h6:j<xs.length*Kd.sz (.int .i64):=by simpa [Kd.sz] using hj
    rw [Ay,if_pos h6,Array.getElem?_toList] at h5
    exact h5
   have hH:Sort.Holds (Value.int .i64) w gb 0 xs.toArray:=fun j hj=>by
    have hj':j<xs.length:=by simpa using hj
    have hx:xs.toArray[j]! = xs[j]:=by simp [hj']
    refine ⟨?_,?_⟩
    ·rw [JC hg,Nat.zero_add,hflat j hj',hx]
    ·simp [World.frozen?,hg]
   have hp:PredAt P g #[.pointer (some ⟨b,o,none⟩)] (Value.int .i64) (fun x=>x==n) w:=fun W x hB=>E.says n x b o W ((hB.cell (p:=⟨b,o,none⟩) hbl).trans hcell)
   have hpo:PredOver P g #[.pointer (some ⟨b,o,none⟩)] (Value.int .i64) (fun x=>x==n) gb 0 xs.toArray.size w:=fun k os dk x _=>E.says n x b o _ (by
    unfold sortWorld
    rw [Sort.cell?_grow _ _ _ (by show b<(Sort.putRow _ _ _ _ _).heap.size; rw [Oj]; exact hbl),Sort.cell?_putRow_other _ _ gb 0 _ _ (Or.inl hne)]
    exact hcell)
   have hcm':cap<=9223372036854775807:=hcm
   have hcall:=AnyE.slices_DeleteFunc L (Value.int .i64) (fun _=>rfl) (fun x=>x==n) g #[.pointer (some ⟨b,o,none⟩)] E.eg 0 hv gb 0 cap xs.toArray w hp hpo hH (by simp; omega) (by simpa using hc)
   rw [e0]
   refine Calls.mono (by simpa using hcall) fun out w' h=>?_
   obtain ⟨rfl,q,rfl⟩:=h
   have hfl':(xs.filter fun x=>!(x==n)).length<=xs.length:=List.length_filter_le _ _
   generalize hys:(xs.filter fun x=>!(x==n))=ys at hfl' ⊢
   have hd:(ys++List.replicate (xs.length-ys.length) 0).length=xs.length:=by simp; omega
   generalize hdd:(ys++List.replicate (xs.length-ys.length) (0:Int))=zs at hd ⊢
   refine Wq (flat:=ys.map (Value.int .i64)) hstk hs ⟨rfl,rfl,rfl,?_,fun k hk hne2=>?_⟩ (fun b hb=>.inl (by rw [e0]; exact hb)) ?_ ?_
   ·rw [Oj]; exact Nat.le_refl _
   ·rw [Ok _ _ _ _ _ _ (fun e=>hne2 (by rw [e0,e]; rfl))]; rfl
   ·refine ⟨by simp [Kd.sz],.inr ⟨gb,cap,_,rfl,Nat.zero_le _,Px _ _ _ _ _ (show (Sort.ahead w q).heap[gb]? = _ from hg),by omega,hcm,by simpa [Sort.putCells] using hsc,?_⟩⟩
    apply List.ext_getElem?
    intro j
    have hcs:cur.size=cap:=by simpa [Kd.sz] using hsc
    rw [Ay]
    by_cases hj:j<ys.length
    ·have h6:j<ys.length*Kd.sz (.int .i64):=by simpa [Kd.sz] using hj
     have hj2:j<cur.size:=by omega
     rw [if_pos h6,Array.getElem?_toList,Sort.putCells,Array.getElem?_mapIdx,Array.getElem?_eq_getElem hj2]
     have h7:zs.toArray[j-0]! = ys[j]:=by
      subst hdd
      simp [Ab hj,hj]
     simp only [Option.map_some,BB,List.getElem?_eq_getElem hj]
     rw [if_pos ⟨Nat.zero_le _,by simp; omega⟩,h7]
    ·have h6:¬ j<ys.length*Kd.sz (.int .i64):=by simpa [Kd.sz] using hj
     rw [if_neg h6,BB,CU (by omega)]; rfl
   ·intro j x hx
    show ((ys.map (Value.int .i64)).drop (j*1)).take 1=[.int .i64 x]
    have hj:=(AQ.1 hx).1
    have hxj:=(AQ.1 hx).2
    rw [Nat.mul_one,List.drop_eq_getElem_cons (by simpa using hj)]
    simp [hxj]
def Wr (t g:Nat) (args bs:List AV):Option (List AV) :=
 match args,bs with
 | [.new t1 (.int k) xs,.clo g1 (.int k1) n],[]=>if t1=t/\g1=g/\k=.i64/\k1=.i64 then
   some [.new t (.int .i64) ((show List Int from xs).filter fun x=>!(x==(show Int from n)))] else none
 | _,_=>none
theorem az {t g:Nat} {xs:List Int} {n:Int}:Wr t g [.new t (.int .i64) xs,.clo g (.int .i64) n] []=some [.new t (.int .i64) (xs.filter fun x=>!(x==n))]:=by
 simp [Wr]
theorem a_ (L:SlLaysH.n10 P ρ) (hv:∀ w,(zeroValue (ρ.t 23)).run P w=.ok (.int .i64 0) w) {g:Nat} (E:ay P g) {args bs rs:List AV} (h:Wr (ρ.t 23) g args bs=some rs):N0 P (ρ.f 10) args bs rs:=by
 unfold Wr at h
 split at h
 ·split at h
  ·rename_i hc
   obtain ⟨rfl,rfl,rfl,rfl⟩:=hc
   cases h
   exact WH L hv E
  ·cases h
 ·cases h

theorem Vj {a b c:World} {r:Option Nat} (h:a.grownBy b r) (g:b.grownBy c r):a.grownBy c r :=
 ⟨g.os.trans h.os,g.tape.trans h.tape,g.output.trans h.output,Nat.le_trans h.size g.size,fun k hk hn=>(g.block k (Nat.lt_of_lt_of_le hk h.size) hn).trans (h.block k hk hn)⟩
theorem XU {a b:World} {r:Option Nat} (h:a.grownBy b none):a.grownBy b r:=⟨h.os,h.tape,h.output,h.size,fun k hk _=>h.block k hk (by simp)⟩
def bA (w w':World) (b:Nat) (v:Value) (T:TypeId):Prop:=w.grownBy w' (some b)/\w'.heap[b]? = some (.cells #[.pointer (some ⟨b,0,none⟩),v] T (0,0))
theorem Zj (L:Lays.n240 P ρ) (X:Builder.X72 P ρ) (b:Nat) (p v:Value) (w:World) (hb:w.heap[b]? = some (.cells #[p,v] (ρ.t 72) (0,0))) (hp:p=.pointer none\/p=.pointer (some ⟨b,0,none⟩)) :
  Calls P (ρ.f 240) #[.pointer (some ⟨b,0,none⟩)] w fun e w'=>e=.returned (.tuple #[])/\bA w w' b v (ρ.t 72):=by
 rcases hp with rfl | rfl
 ·refine (Any.Builder_copyCheck_fresh L X b w (by simp [World.cell?,hb]) (by simp [World.shape?,hb]) (by simp [World.frozen?,hb])).mono ?_
  rintro e w' ⟨rfl,rfl⟩
  exact ⟨rfl,Ei w ⟨b,0,none⟩ _,by simp [World.setCell,Array.getElem?_modify,hb]⟩
 ·refine (Any.Builder_copyCheck_used L X b w (by simp [World.cell?,hb])).mono ?_
  rintro e w' ⟨rfl,rfl⟩
  exact ⟨rfl,⟨rfl,rfl,rfl,Nat.le_refl _,fun _ _ _=>rfl⟩,hb⟩
theorem JD {w:World} {ops:Array Oper} {rest:List Oper} {o:Oper} {a:Act} {Q:Exit->Act->World->Prop} (hgd:o.guard=none) (s x:Operand) (t u:TypeId)
  (ho:o.op=.call { callee:=.builtin .append,args:=#[s,x],argTypes:=#[t,u] }) (v y:Value) (hs:a.eval s=v) (hx:a.eval x=y) {v':Value} {w':World}
  (hr:(Builtin.append_ #[t,u] o.type #[v,y]).run P w=.ok v' w') (h:wpList P ops Q rest (a.put o.dst v') w'):wpList P ops Q (o::rest) a w:=by
 refine wpList_plain hgd fun K hK=>?_
 unfold Oper.wp execOp
 simp only [ho,resolve,invoke,builtin,Sem.run_bind,Sem.run_pure,Result.andThen_ok,List.map_toArray,List.map_cons,List.map_nil,hs,hx,hr]
 exact hK _ _ h
theorem aG {w:World} {v:Value} {t:TypeId} {xs:List Int} (ho:w.ownsRow 0 t 1 v xs.length (xs.map (.int .u8))):SR (fun _=>none) (fun _=>v) [.rows t (.int .u8) xs] w:=by
 refine ⟨fun b o h=>(by cases h),fun id bx h=>?_,fun i j bi bj hi hj _ _ hij=>?_,fun _ _ _ _ _ _=>rfl,fun id cs h=>?_⟩
 ·match id,h with
  | 0,h=>cases h; exact ⟨_,ho,Id⟩
 ·have:=(AQ.1 hi).1
  have:=(AQ.1 hj).1
  simp at *
  omega
 ·match id,h with
  | 0,h=>cases h
theorem aH {w:World} {v:Value} {t:TypeId} {xs:List Int}:Fr 0 1 (fun _=>none) (fun _=>v) w (fun _=>none) (fun _=>v) [.rows t (.int .u8) xs] w :=
 ⟨rfl,rfl,rfl,Nat.le_refl _,fun _ _ _=>rfl,fun j hj=>absurd hj (Nat.not_lt_zero j),fun i bi _ _ b hb=>.inr ⟨0,Nat.zero_lt_one,hb⟩,fun j hj=>absurd hj (Nat.not_lt_zero j),fun _ _ _=>rfl⟩
theorem bB {t:TypeId} (h:(P.info? t).map (fun i=>(i.zero,i.size,i.bytes))=some (some (.int .u8 0),1,1)):WW P t (.int .u8)=true:=by
 cases hi:P.info? t with
 | none=>rw [hi] at h; cases h
 | some i =>
  rw [hi] at h
  simp only [Option.map_some,Ac,Prod.mk.injEq] at h
  obtain ⟨h1,h2,h3⟩:=h
  unfold WW
  rw [hi]
  simp only [h1,h2,h3,Option.map_some]
  rfl
theorem YR {w:World} {v:Value} {t te ty:TypeId} {xs:List Int} {c:Int} {g:Nat} (ht:P.underlying t=some (.slice te)) (he:WW P te (.int .u8)=true) (ho:w.ownsRow 0 te 1 v xs.length (xs.map (.int .u8)))
  (hc:w.cell? ⟨g,0,none⟩=some (.int .u8 c)) (hl:xs.length+1<=68719476736) :
  ∃ v' w',(Builtin.append_ #[t,t] ty #[v,.slice (some ⟨g,0,none⟩) 1 1]).run P w=.ok v' w'/\w'.ownsRow 0 te 1 v' (xs.length+1) ((xs++[c]).map (.int .u8))/\w.grownBy w' (Bb v)/\∀ q,Bb v'=some q->Bb v=some q\/w.heap.size<=q:=by
 obtain ⟨v',w',h1,h2,h3⟩:=OM (P:=P) (ty:=ty) (K:=.int .u8) (xs:=xs) (ys:=[c]) (id:=0) (bv:=.slice (some ⟨g,0,none⟩) 1 1) (flat2:=[.int .u8 c]) (aG ho) rfl ht he rfl rfl (Id (xs:=[c]))
  (.inr (.inr ⟨g,0,rfl,fun j u hj=>by
   match j,hj with
   | 0,hj=>cases hj; exact hc⟩)) (fun e=>by cases e) hl (fun k cs hk=>by
   match k,hk with
   | 0,hk=>cases hk)
 obtain ⟨flat,q1,q2⟩:=h2.sr.box 0 _ rfl
 simp only [if_true] at q1
 have e:=MB q2 q1.1
 subst e
 refine ⟨v',w',h1,by simpa [Kd.sz] using q1,h3,fun q hq=>?_⟩
 rcases (h2.fr 0 1 _ _ _ (aH (t:=te) (xs:=xs))).new 0 _ rfl rfl q (by simpa using hq) with h | ⟨_,_,h⟩
 ·exact .inr h
 ·exact .inl h
theorem ZW {w:World} {v:Value} {t u te ty:TypeId} {xs:List Int} {s:ByteArray} (ht:P.underlying t=some (.slice te)) (hu:P.underlying u=some .string)
  (he:(P.info? te).map (fun i=>(i.zero,i.size,i.bytes))=some (some (.int .u8 0),1,1)) (ho:w.ownsRow 0 te 1 v xs.length (xs.map (.int .u8))) (hl:xs.length+s.size<=68719476736) :
  ∃ v' w',(Builtin.append_ #[t,u] ty #[v,.string s]).run P w=.ok v' w'/\w'.ownsRow 0 te 1 v' (xs.length+(AG s).length) ((xs++AG s).map (.int .u8))/\w.grownBy w' (Bb v)/\∀ q,Bb v'=some q->Bb v=some q\/w.heap.size<=q:=by
 obtain ⟨i,hi,hz,h1,h2⟩:=info_parts he
 have hs1:(AG s).length=s.size:=by simp [AG]
 have hs2:(xs++AG s).map (Value.int .u8)=xs.map (.int .u8)++strCells s:=by simp [AG,strCells]
 have hm:xs.length+s.size<=maxLen:=by unfold maxLen; omega
 rw [hs1,hs2]
 obtain ⟨v',w',hr,q1,q2,_⟩:=run_append_own_string (P:=P) w 0 t u ty te i ht hu hi hz h1 h2 v xs.length _ ho s hm (by omega) (Nat.zero_le _)
 have hbl:Bb v=v.ownBlock:=by rcases ho.2 with ⟨rfl,_⟩ | ⟨g,cap,cur,rfl,_⟩<;>rfl
 refine ⟨v',w',hr,q1,by rw [hbl]; exact q2,?_⟩
 rcases ho.2 with ⟨e3,hn⟩ | ⟨g,cap,cur,e3,_,hg,hnc,hcm,hcs,htake⟩
 ·obtain ⟨v2,w2,hr2,o2,_,_⟩:=run_append_own_string (P:=P) w w.heap.size t u ty te i ht hu hi hz h1 h2 v xs.length _ ⟨ho.1,.inl ⟨e3,hn⟩⟩ s hm (by omega) (Nat.le_refl _)
  have e4:=hr.symm.trans hr2
  simp only [Result.ok.injEq] at e4
  obtain ⟨rfl,rfl⟩:=e4
  intro q hq
  right
  rcases o2.2 with ⟨e5,_⟩ | ⟨g',cap',cur',e5,hbase,_⟩
  ·rw [e5] at hq; cases hq
  ·rw [e5] at hq; simp only [Bb,Ac] at hq; omega
 ·by_cases hroom:xs.length+s.size<=cap
  ·have hr2:=run_append_room_string (P:=P) w t u ty te i ht hu hi h1 g xs.length cap cur hg s hroom (by omega)
   rw [<- e3] at hr2
   have e4:=hr.symm.trans hr2
   simp only [Result.ok.injEq] at e4
   obtain ⟨rfl,_⟩:=e4
   intro q hq
   left
   rw [e3]
   exact hq
  ·have holds:∀ j u,(xs.map (Value.int .u8))[j]? = some u->w.cell? ((⟨g,0,none⟩:Addr).add j)=some u:=ho.cells (g:=g) (by rw [e3]; rfl)
   have hr2:=run_append_grow_string (P:=P) w t u ty te i (.int .u8 0) ht hu hi hz ⟨g,0,none⟩ xs.length cap _ (by rw [h1]; simp) holds s (by omega) (by omega) (by rw [h2]; exact growslice_fits (by omega) (by omega))
   rw [<- e3] at hr2
   have e4:=hr.symm.trans hr2
   simp only [Result.ok.injEq] at e4
   obtain ⟨rfl,_⟩:=e4
   intro q hq
   right
   simp only [Bb,Ac] at hq
   omega
theorem MZ {f:Nat} {fn:Func} {c:Code} (h:P.funcs[f]? = some fn) (hb:fn.body=some c) (hn:(fn.name == "runtime.NumGoroutine")=false):Pd P f:=⟨fn,c,h,hn,hb⟩
set_option maxHeartbeats 2000000 in
set_option maxRecDepth 100000 in
theorem ZX (L:Lays.n166 P ρ) (X:Builder.Extra P ρ):OY P (ρ.f 166) 1 (ρ.t 5) (ρ.t 72):=by
 refine ⟨MZ L.f166 rfl (by kernel_rfl),fun w b p v xs hbk hp how hne=>⟨fun e=>(by cases e),fun _ s hlen=>?_,fun e=>(by cases e)⟩⟩
 have mixed:=L.mixed
 have t72:=L.t72; have a72:=L.a72; have z72:=L.z72; have v72:=L.v72; have u72:=run_underlying L.t72
 have t70:=L.t70; have a70:=L.a70; have z70:=L.z70; have v70:=L.v70; have u70:=run_underlying L.t70
 have t37:=L.t37; have a37:=L.a37; have z37:=L.z37; have v37:=L.v37; have u37:=run_underlying L.t37
 have t3:=L.t3; have a3:=L.a3; have z3:=L.z3; have v3:=L.v3; have u3:=run_underlying L.t3
 have t9:=L.t9; have a9:=L.a9; have z9:=L.z9; have v9:=L.v9; have u9:=run_underlying L.t9
 have t4:=L.t4; have a4:=L.a4; have z4:=L.z4; have v4:=L.v4; have u4:=run_underlying L.t4
 have t164:=L.t164; have a164:=L.a164; have z164:=L.z164; have v164:=L.v164; have u164:=run_underlying L.t164
 have t5:=X.t5; have a5:=X.a5; have z5:=X.z5; have v5:=X.v5; have u5:=run_underlying X.t5
 have e240:∀ args w,(callFunc (ρ.f 240) args).run P w=.ok (.enter (ρ.f 240) args) w:=enters_of L.f240 (by kernel_rfl) rfl
 have hs1:(AG s).length=s.size:=by simp [AG]
 go_enter L.f166,Body.n166_ntmps ρ
 go_wp2_with (go_at_fn (ρ.f 240); refine (Zj { L with } X.toX72 b p v _ hbk hp).mono ?_)
 intro e w1 h0 hcc
 subst h0
 obtain ⟨g1,hb1⟩:=hcc
 have c0:w1.cell? ⟨b,0,none⟩=some (.pointer (some ⟨b,0,none⟩)):=by rw [Lib.cell_of_heap hb1]; rfl
 have c1:w1.cell? ⟨b,1,none⟩=some v:=by rw [Lib.cell_of_heap hb1]; rfl
 have how1:w1.ownsRow 0 (ρ.t 5) 1 v xs.length (xs.map (.int .u8)):=by
  refine how.kept g1 ?_
  rcases how.2 with ⟨rfl,_⟩ | ⟨g,cap,cur,rfl,_⟩
  ·exact .inl rfl
  ·right; intro e; exact hne (by simpa [Value.ownBlock,Bb] using e)
 obtain ⟨v',w2,hr,o2,g2,l2⟩:=ZW (w:=w1) (ty:=ρ.t 37) L.t37 L.t9 X.infoByte how1 (s:=s) (by omega)
 have hlt:b<w1.heap.size:=(Array.getElem?_eq_some_iff.1 hb1).1
 have hb2:w2.heap[b]? = some (.cells #[.pointer (some ⟨b,0,none⟩),v] (ρ.t 72) (0,0)):=by
  rw [g2.block b hlt (fun e=>hne e.symm)]
  exact hb1
 have d0:w2.cell? ⟨b,0,none⟩=some (.pointer (some ⟨b,0,none⟩)):=by rw [Lib.cell_of_heap hb2]; rfl
 have d1:w2.cell? ⟨b,1,none⟩=some v:=by rw [Lib.cell_of_heap hb2]; rfl
 have f1:w2.frozen? ⟨b,1,none⟩=false:=Lib.frozen_of_heap hb2 1
 have ev':∃ ao n' cap,v'=.slice ao n' cap:=by
  rcases o2.2 with ⟨hv,_⟩ | ⟨g,cap,cur,hv,_⟩
  ·exact ⟨_,_,_,hv⟩
  ·exact ⟨_,_,_,hv⟩
 obtain ⟨ao,n',cap,rfl⟩:=ev'
 go_wp2_with (at_builtin; refine JD rfl _ _ (ρ.t 37) (ρ.t 9) rfl _ _ rfl rfl hr ?_)
 go_wp2
 go_ret2
 exact ⟨_,rfl,w1,w2,_,g1,hb1,g2,o2,l2,Ei w2 ⟨b,1,none⟩ _,by simp [World.setCell,Array.getElem?_modify,hb2]⟩
set_option maxHeartbeats 2000000 in
set_option maxRecDepth 100000 in
theorem YS (L:Lays.n167 P ρ) (X:Builder.Extra P ρ):OY P (ρ.f 167) 0 (ρ.t 5) (ρ.t 72):=by
 refine ⟨MZ L.f167 rfl (by kernel_rfl),fun w b p v xs hbk hp how hne=>⟨fun _ c hlen=>?_,fun e=>(by cases e),fun e=>(by cases e)⟩⟩
 have mixed:=L.mixed
 have t72:=L.t72; have a72:=L.a72; have z72:=L.z72; have v72:=L.v72; have u72:=run_underlying L.t72
 have t70:=L.t70; have a70:=L.a70; have z70:=L.z70; have v70:=L.v70; have u70:=run_underlying L.t70
 have t5:=L.t5; have a5:=L.a5; have z5:=L.z5; have v5:=L.v5; have u5:=run_underlying L.t5
 have t37:=L.t37; have a37:=L.a37; have z37:=L.z37; have v37:=L.v37; have u37:=run_underlying L.t37
 have t9:=L.t9; have a9:=L.a9; have z9:=L.z9; have v9:=L.v9; have u9:=run_underlying L.t9
 have t4:=L.t4; have a4:=L.a4; have z4:=L.z4; have v4:=L.v4; have u4:=run_underlying L.t4
 have t164:=L.t164; have a164:=L.a164; have z164:=L.z164; have v164:=L.v164; have u164:=run_underlying L.t164
 have e240:∀ args w,(callFunc (ρ.f 240) args).run P w=.ok (.enter (ρ.f 240) args) w:=enters_of L.f240 (by kernel_rfl) rfl
 go_enter L.f167,Body.n167_ntmps ρ
 go_wp2_with (go_at_fn (ρ.f 240); refine (Zj { L with } X.toX72 b p v _ hbk hp).mono ?_)
 intro e w1 h0 hcc
 subst h0
 obtain ⟨g1,hb1⟩:=hcc
 have hlt:b<w1.heap.size:=(Array.getElem?_eq_some_iff.1 hb1).1
 have c0:w1.cell? ⟨b,0,none⟩=some (.pointer (some ⟨b,0,none⟩)):=by rw [Lib.cell_of_heap hb1]; rfl
 have c1:w1.cell? ⟨b,1,none⟩=some v:=by rw [Lib.cell_of_heap hb1]; rfl
 have how1:w1.ownsRow 0 (ρ.t 5) 1 v xs.length (xs.map (.int .u8)):=by
  refine how.kept g1 ?_
  rcases how.2 with ⟨rfl,_⟩ | ⟨g,cap,cur,rfl,_⟩
  ·exact .inl rfl
  ·right; intro e; exact hne (by simpa [Value.ownBlock,Bb] using e)
 have ga:w1.grownBy (w1.alloc (.cells #[.int .u8 c] (ρ.t 5))) none:=World.grownBy_alloc w1 _ none
 have hba:(w1.alloc (.cells #[.int .u8 c] (ρ.t 5))).heap[b]? = some (.cells #[.pointer (some ⟨b,0,none⟩),v] (ρ.t 72) (0,0)):=by rw [ga.block b hlt (by simp)]; exact hb1
 obtain ⟨v',w2,hr,o2,g2,l2⟩:=YR (w:=w1.alloc (.cells #[.int .u8 c] (ρ.t 5))) (ty:=ρ.t 37) (c:=c) (g:=w1.heap.size) L.t37 (bB X.infoByte) (how1.alloc _) (by rw [Lib.cell_of_heap (heap_alloc_new w1 _)]; rfl) hlen
 have hb2:w2.heap[b]? = some (.cells #[.pointer (some ⟨b,0,none⟩),v] (ρ.t 72) (0,0)):=by
  rw [g2.block b (Nat.lt_of_lt_of_le hlt ga.size) (fun e=>hne e.symm)]
  exact hba
 have d0:w2.cell? ⟨b,0,none⟩=some (.pointer (some ⟨b,0,none⟩)):=by rw [Lib.cell_of_heap hb2]; rfl
 have d1:w2.cell? ⟨b,1,none⟩=some v:=by rw [Lib.cell_of_heap hb2]; rfl
 have f1:w2.frozen? ⟨b,1,none⟩=false:=Lib.frozen_of_heap hb2 1
 have ev':∃ ao n' cap,v'=.slice ao n' cap:=by
  rcases o2.2 with ⟨hv,_⟩ | ⟨g,cap,cur,hv,_⟩
  ·exact ⟨_,_,_,hv⟩
  ·exact ⟨_,_,_,hv⟩
 obtain ⟨ao,n',cap,rfl⟩:=ev'
 go_wp2_with (at_builtin; refine JD rfl _ _ (ρ.t 37) (ρ.t 37) rfl _ _ rfl rfl hr ?_)
 go_wp2
 go_ret
 exact ⟨_,rfl,_,w2,_,Vj g1 (XU ga),hba,g2,o2,l2,Ei w2 ⟨b,1,none⟩ _,by simp [World.setCell,Array.getElem?_modify,hb2]⟩
theorem NY:∀ {xs:List Int},Cv xs=true->xs.map (Value.int .u8)=Go.Lib.byteCells (AC xs).data.toList
 | [],_=>rfl
 | x::xs,h=>by
  simp only [Cv,List.all_cons,O,decide_eq_true_eq] at h
  have:=NY (xs:=xs) (by simpa [Cv] using h.2)
  have e:((UInt8.ofNat x.toNat).toNat:Int)=x:=by
   have:x.toNat<256:=by omega
   simp [UInt8.toNat_ofNat',Nat.mod_eq_of_lt this]
   omega
  simp only [List.map_cons,this,AC,Go.Lib.byteCells,List.map_cons,e]
theorem Vk {w w':World} {r:Option Nat} (h:Below w.heap.size w w'):w.grownBy w' r:=⟨h.os,h.tape,h.output,h.size,fun k hk _=>h.block k hk⟩
set_option maxHeartbeats 1000000 in
set_option maxRecDepth 100000 in
theorem ZY (L:Lays.n169 P ρ) (X:Builder.Extra P ρ):OY P (ρ.f 169) 2 (ρ.t 5) (ρ.t 72):=by
 refine ⟨MZ L.f169 rfl (by kernel_rfl),fun w b p v xs hbk hp how hne=>⟨fun e=>(by cases e),fun e=>(by cases e),fun _ hB=>?_⟩⟩
 have hcs:=NY hB
 have hl:(AC xs).data.toList.length=xs.length:=by simp [AC]
 by_cases h0:xs=[]
 ·subst h0
  have hB0:∀ w':World,∀ e,(e=Ending.returned (.string ⟨#[]⟩)/\Below w.heap.size w w')->e=.returned (.string (AC []))/\w.grownBy w' (Bb v):=fun w' e h=>⟨h.1,Vk h.2⟩
  rcases how.2 with ⟨rfl,_⟩ | ⟨g,cap,cur,rfl,_,hg,_⟩
  ·exact (Any.Builder_String_nil L X w.heap.size b p w hbk).mono fun e w' h=>hB0 w' e h
  ·by_cases hc0:cap=0
   ·subst hc0
    exact (Any.Builder_String_noroom L X w.heap.size b g p cur w (Nat.le_refl _) hbk hg).mono fun e w' h=>hB0 w' e h
   ·exact (Any.Builder_String_room L X w.heap.size b g cap p w hc0 hbk).mono fun e w' h=>hB0 w' e h
 ·obtain ⟨l,hl2⟩:∃ l,l=(AC xs).data.toList:=⟨_,rfl⟩
  have h0:l≠[]:=fun e=>by rw [<- hl2,e] at hl; exact h0 (Dd.1 hl.symm)
  have hbs:AC xs=⟨l.toArray⟩:=by rw [hl2]
  rw [hbs]
  rw [hcs,<- hl,<- hl2] at how
  have hl0:l.length≠0:=by simpa using h0
  obtain ⟨g,cap,cur,rfl,hbg,hg,hnc,hcm,hcs2,htake⟩:∃ g cap cur,v=.slice (some ⟨g,0,none⟩) l.length cap/\0<=g/\w.heap[g]? = some (.cells cur (ρ.t 5) (0,0))/\l.length<=cap/\cap<=maxLen/\cur.size=cap*1/\cur.toList.take (l.length*1)=Lib.byteCells l:=by
   rcases how.2 with ⟨_,hz⟩ | ⟨g,cap,cur,hv,r⟩
   ·exact absurd hz hl0
   ·exact ⟨g,cap,cur,hv,r⟩
  clear hl hcs hbs hl2
  have c1:w.drew.cell? ⟨b,1,none⟩=some (.slice (some ⟨g,0,none⟩) l.length cap):=by
   have:w.drew.heap[b]? = some (.cells #[p,.slice (some ⟨g,0,none⟩) l.length cap] (ρ.t 72) (0,0)):=hbk
   rw [Lib.cell_of_heap this]; rfl
  have hSD:(Builtin.unsafeSliceData_ #[(ρ.t 37)] (ρ.t 127) #[.slice (some ⟨g,0,none⟩) l.length cap]).run P w.drew=.ok (.pointer (some ⟨g,0,none⟩)) w.drew :=
   Lib.run_unsafeSliceData_row _ _ _ _ _ _ (by omega)
  have hUS:(Builtin.unsafeString_ #[(ρ.t 127),(ρ.t 3)] (ρ.t 9) #[.pointer (some ⟨g,0,none⟩),.int .i64 l.length]).run P w.drew=.ok (.string ⟨l.toArray⟩) (w.drew.freeze ⟨g,0,none⟩ l.length):=by
   refine Lib.run_unsafeString_row w.drew (ρ.t 127) (ρ.t 3) (ρ.t 9) (ρ.t 5) L.t127 X.cellsByte g cur.size (by have hg':w.drew.heap[g]? = some (.cells cur (ρ.t 5) (0,0)):=hg; simp [World.shape?,hg']) l h0 (by omega) (by unfold maxLen at hcm; omega) ?_
   intro j x hx
   have:=how.cells (g:=g) rfl j (.int .u8 x.toNat) (by simp [Lib.byteCells,hx])
   exact this
  have hgr:w.grownBy (w.drew.freeze ⟨g,0,none⟩ l.length) (some g):=by
   unfold World.freeze
   split
   ·exact ⟨rfl,rfl,rfl,Nat.le_refl _,fun _ _ _=>rfl⟩
   ·refine ⟨rfl,rfl,rfl,by simp,fun k hk hn=>?_⟩
    simp only [Array.getElem?_modify]
    rw [if_neg (fun e=>hn (by rw [<- e]))]
    rfl
  have mixed:=L.mixed
  have t72:=L.t72; have a72:=L.a72; have z72:=L.z72; have v72:=L.v72; have u72:=run_underlying L.t72
  have t70:=L.t70; have a70:=L.a70; have z70:=L.z70; have v70:=L.v70; have u70:=run_underlying L.t70
  have t37:=L.t37; have a37:=L.a37; have z37:=L.z37; have v37:=L.v37; have u37:=run_underlying L.t37
  have t127:=L.t127; have a127:=L.a127; have z127:=L.z127; have v127:=L.v127; have u127:=run_underlying L.t127
  have t3:=L.t3; have a3:=L.a3; have z3:=L.z3; have v3:=L.v3; have u3:=run_underlying L.t3
  have t9:=L.t9; have a9:=L.a9; have z9:=L.z9; have v9:=L.v9; have u9:=run_underlying L.t9
  have t5:=X.t5; have a5:=X.a5; have z5:=X.z5; have v5:=X.v5; have u5:=run_underlying X.t5
  go_enter L.f169,Body.n169_ntmps ρ
  go_wp2
  go_region_o
  all_goals (go_wp2; go_ret; exact ⟨rfl,hgr⟩)
def YT (k t T:Nat) (args bs:List AV):Option (List AV) :=
 match args,bs with
 | [.int .i64 a,.int .i64 b,.int .i64 c],[]=>if a=k/\b=t/\c=T then some [] else none
 | _,_=>none
theorem Uv {f k t T k' t' T':Nat} (h:OY P f k t T) (hq:YT k t T [.int .i64 k',.int .i64 t',.int .i64 T'] []=some []):OY P f k' t' T':=by
 unfold YT at hq
 simp only at hq
 split at hq
 ·rename_i e
  obtain ⟨e1,e2,e3⟩:=e
  have e1:k'=k:=by exact_mod_cast e1
  have e2:t'=t:=by exact_mod_cast e2
  have e3:T'=T:=by exact_mod_cast e3
  rw [e1,e2,e3]
  exact h
 ·cases hq
end Go.Proofs.Ytffahmnodgnohaa.Core

namespace Go.Proofs.Ytffahmnodgnohaa.Core
open Go IntKind
set_option maxRecDepth 100000
noncomputable section
def Rm:Go.Shelf.Ren:=⟨fun | 166=>63 | 167=>62 | 169=>66 | 240=>135 | 276=>162 | n=>n,fun | 72=>105 | 70=>103 | 37=>38 | 75=>108 | 164=>193 | 127=>165 | 80=>112 | n=>n,fun | n=>n⟩
theorem aI:Builder.Extra Try.prog Rm:={
 sizeBuilder:=by kernel_rfl
 liesBuilder:=by kernel_rfl
 t5:=Try.underlying5
 a5:=Try.isAgg5
 z5:=Try.sizeOf5
 v5:=Try.zeroValue5
 infoByte:=by kernel_rfl
 cellsByte:=by kernel_rfl
 sizeByte:=by kernel_rfl
 neB5:=by decide }
theorem aJ:Lays.n167 Try.prog Rm:={
 mixed:=by kernel_rfl
 f167:=Try.func62.trans (congrArg some (by kernel_rfl))
 f240:=Try.func135.trans (congrArg some (by kernel_rfl))
 f276:=Try.func162.trans (congrArg some (by kernel_rfl))
 t0:=Try.underlying0
 a0:=Try.isAgg0
 z0:=Try.sizeOf0
 v0:=Try.zeroValue0
 t4:=Try.underlying4
 a4:=Try.isAgg4
 z4:=Try.sizeOf4
 v4:=Try.zeroValue4
 t5:=Try.underlying5
 a5:=Try.isAgg5
 z5:=Try.sizeOf5
 v5:=Try.zeroValue5
 t9:=Try.underlying9
 a9:=Try.isAgg9
 z9:=Try.sizeOf9
 v9:=Try.zeroValue9
 t20:=Try.underlying20
 a20:=Try.isAgg20
 z20:=Try.sizeOf20
 v20:=Try.zeroValue20
 t37:=Try.underlying38
 a37:=Try.isAgg38
 z37:=Try.sizeOf38
 v37:=Try.zeroValue38
 t70:=Try.underlying103
 a70:=Try.isAgg103
 z70:=Try.sizeOf103
 v70:=Try.zeroValue103
 t72:=Try.underlying105
 a72:=Try.isAgg105
 z72:=Try.sizeOf105
 v72:=Try.zeroValue105
 t75:=Try.underlying108
 a75:=Try.isAgg108
 z75:=Try.sizeOf108
 v75:=Try.zeroValue108
 t164:=Try.underlying193
 a164:=Try.isAgg193
 z164:=Try.sizeOf193
 v164:=Try.zeroValue193 }
theorem HF:OY Try.prog 62 0 5 105:=YS aJ aI
theorem aK:Lays.n166 Try.prog Rm:={
 mixed:=by kernel_rfl
 f166:=Try.func63.trans (congrArg some (by kernel_rfl))
 f240:=Try.func135.trans (congrArg some (by kernel_rfl))
 f276:=Try.func162.trans (congrArg some (by kernel_rfl))
 t0:=Try.underlying0
 a0:=Try.isAgg0
 z0:=Try.sizeOf0
 v0:=Try.zeroValue0
 t3:=Try.underlying3
 a3:=Try.isAgg3
 z3:=Try.sizeOf3
 v3:=Try.zeroValue3
 t4:=Try.underlying4
 a4:=Try.isAgg4
 z4:=Try.sizeOf4
 v4:=Try.zeroValue4
 t9:=Try.underlying9
 a9:=Try.isAgg9
 z9:=Try.sizeOf9
 v9:=Try.zeroValue9
 t20:=Try.underlying20
 a20:=Try.isAgg20
 z20:=Try.sizeOf20
 v20:=Try.zeroValue20
 t37:=Try.underlying38
 a37:=Try.isAgg38
 z37:=Try.sizeOf38
 v37:=Try.zeroValue38
 t70:=Try.underlying103
 a70:=Try.isAgg103
 z70:=Try.sizeOf103
 v70:=Try.zeroValue103
 t72:=Try.underlying105
 a72:=Try.isAgg105
 z72:=Try.sizeOf105
 v72:=Try.zeroValue105
 t75:=Try.underlying108
 a75:=Try.isAgg108
 z75:=Try.sizeOf108
 v75:=Try.zeroValue108
 t164:=Try.underlying193
 a164:=Try.isAgg193
 z164:=Try.sizeOf193
 v164:=Try.zeroValue193 }
theorem GX:OY Try.prog 63 1 5 105:=ZX aK aI
theorem aL:Lays.n169 Try.prog Rm:={
 mixed:=by kernel_rfl
 f169:=Try.func66.trans (congrArg some (by kernel_rfl))
 t0:=Try.underlying0
 a0:=Try.isAgg0
 z0:=Try.sizeOf0
 v0:=Try.zeroValue0
 t3:=Try.underlying3
 a3:=Try.isAgg3
 z3:=Try.sizeOf3
 v3:=Try.zeroValue3
 t9:=Try.underlying9
 a9:=Try.isAgg9
 z9:=Try.sizeOf9
 v9:=Try.zeroValue9
 t37:=Try.underlying38
 a37:=Try.isAgg38
 z37:=Try.sizeOf38
 v37:=Try.zeroValue38
 t70:=Try.underlying103
 a70:=Try.isAgg103
 z70:=Try.sizeOf103
 v70:=Try.zeroValue103
 t72:=Try.underlying105
 a72:=Try.isAgg105
 z72:=Try.sizeOf105
 v72:=Try.zeroValue105
 t127:=Try.underlying165
 a127:=Try.isAgg165
 z127:=Try.sizeOf165
 v127:=Try.zeroValue165 }
theorem IC:OY Try.prog 66 2 5 105:=ZY aL aI

def bC:List (Nat×Bs):=[(5,BQ),(13,BR),(15,Ai),(17,BH),(18,BS),(21,LU),(22,Dj),(23,CX),(24,CY),(25,BW),(26,Dk),(27,BO),(57,Fe),(58,Cc),(59,Er),(60,Gx),(64,B8),(65,Gy),(68,Es),(69,Gz),(70,G0),(71,DW),(72,Et),(73,BX),(74,CG),(75,CZ),(78,ET),(79,Bx),(80,Hf),(81,B9),(82,Fg),(83,G1),(84,B_),(85,Eu),(86,Bv),(87,Fh),(132,Fi),(133,Hg),(136,Fj),(138,Bd),(139,Be),(140,Ch),(142,By),(143,Dy),(144,BI),(145,Hh),(146,CA),(161,BJ),(163,Hi),(164,Bo),(165,Fk),(166,Fl),(167,CB),(168,Bf),(177,BK),(178,Ae),(179,G2),(180,G3),(181,EU)]
def NM (f:Nat):Option Bs:=ZT f bC
theorem ba:YC Try.prog NM:=XR (.cons Tf <| .cons SZ <| .cons Sa <| .cons Sb <| .cons Sc <| .cons WF <| .cons Nx <| .cons Un <| .cons Uo <| .cons Pr <| .cons Ny <| .cons Oh <| .cons Sd <| .cons Tg <| .cons RL <| .cons Th <| .cons Se <| .cons Ti <| .cons RM <| .cons Tj <| .cons Tk <| .cons Sf <| .cons RN <| .cons MY <| .cons KZ <| .cons LV <| .cons Ps <| .cons Tl <| .cons Up <| .cons Sg <| .cons Sh <| .cons Tm <| .cons Si <| .cons RO <| .cons Pt <| .cons Sj <| .cons Sk <| .cons Uq <| .cons Sl <| .cons Sm <| .cons Sn <| .cons Pu <| .cons Tn <| .cons Oi <| .cons Nz <| .cons Ur <| .cons So <| .cons Sp <| .cons Us <| .cons RP <| .cons Sq <| .cons Sr <| .cons Ss <| .cons Su <| .cons Sv <| .cons Sw <| .cons To <| .cons Tp <| .cons Pv .nil)
def C6:C1:=fun f args bs=>if f=BD+62 then YT 0 5 105 args bs else if f=BD+63 then YT 1 5 105 args bs else if f=BD+66 then YT 2 5 105 args bs else none
theorem ZZ:EE Try.prog C6:=by
 refine ⟨fun f k t T hf h=>?_,fun f args bs rs hf h=>?_⟩<;>unfold C6 at h
 ·split at h
  ·rename_i e; obtain rfl:=Nat.add_left_cancel e; exact Uv HF h
  split at h
  ·rename_i e; obtain rfl:=Nat.add_left_cancel e; exact Uv GX h
  split at h
  ·rename_i e; obtain rfl:=Nat.add_left_cancel e; exact Uv IC h
  cases h
 ·split at h
  ·rename_i e; exfalso; unfold BD at e hf; omega
  split at h
  ·rename_i e; exfalso; unfold BD at e hf; omega
  split at h
  ·rename_i e; exfalso; unfold BD at e hf; omega
  cases h
abbrev cP:C1:=Uk NM C6
def cG {ρ:Type} (c:AP) (kn kr:St->Option ρ) (ke:Nat->St->Option ρ):St->Option ρ:=DS cP FJ c kn kr ke
def lG {ρ:Type} (c:AP) (hs:List (Nat×Nat)) (l:List Nat) (n:Nat) (kr:St->Option ρ) (ke:Nat->St->Option ρ):St->Option ρ:=FJ fun go s'=>DS cP FJ c (fun s''=>go (s''.cutH hs l n)) kr ke s'
def kJ {ρ:Type} (c:AP) (hs:List (Nat×Nat)) (l:List Nat) (n:Nat) (kn kr:St->Option ρ) (ke:Nat->St->Option ρ):St->Option ρ:=fun s=>cG c kn kr ke (s.cutH hs l n)
def kB {ρ:Type} (hs:List (Nat×Nat)) (l:List Nat) (n:Nat) (kn:St->Option ρ):St->Option ρ:=fun s=>kn (s.cutH hs l n)
def kE {ρ:Type} (b:Nat) (hs:List (Nat×Nat)) (l:List Nat) (n:Nat) (kn:St->Option ρ) (ke:Nat->St->Option ρ):Nat->St->Option ρ:=fun i s=>if i=b then kn (s.cutH hs l n) else ke i s
def kx {ρ:Type}:Nat->St->Option ρ:=fun _ _=>none
def cF (f:Nat) (a:Bs) (x b:List AV):Option (RT a.outs):=(cP f x b).bind (CS a.outs)
theorem cT (a:Bs) {f:Nat} {x b:List AV} {t:Option (RT a.outs)} {r:RT a.outs} (hf:NM f=some a) (hl:x.length=a.params.length/\b.length=(B5 a.params 0).length) (e:YK cP a x b=t) (h:t=some r):cF f a x b=some r:=WC hf hl (e.trans h)
theorem jS {ρ:Type} {t w:Option ρ} {r:ρ} (e:w=t) (h:t=some r):w=some r:=e.trans h
theorem lS {ρ:Type} {c:AP} {hs:List (Nat×Nat)} {l:List Nat} {n:Nat} {kr:St->Option ρ} {ke:Nat->St->Option ρ} {s:St} {t:Option ρ} {r:ρ} (e:DS cP FJ c (fun s=>lG c hs l n kr ke (s.cutH hs l n)) kr ke s=t) (h:t=some r):lG c hs l n kr ke s=some r:=XP (e.trans h)
def B_strings_Builder_WriteByte:Option Unit:=(cP (BD+62) [.int .i64 ((0:Nat):Int),.int .i64 ((5:Nat):Int),.int .i64 ((105:Nat):Int)] []).bind (CS [])
theorem Gc:B_strings_Builder_WriteByte=some ():=by
 unfold B_strings_Builder_WriteByte cP
 rw [Pn (r:=[]) rfl (by rfl)]
 rfl
def B_strings_Builder_WriteString:Option Unit:=(cP (BD+63) [.int .i64 ((1:Nat):Int),.int .i64 ((5:Nat):Int),.int .i64 ((105:Nat):Int)] []).bind (CS [])
theorem C7:B_strings_Builder_WriteString=some ():=by
 unfold B_strings_Builder_WriteString cP
 rw [Pn (r:=[]) rfl (by rfl)]
 rfl
def B_strings_Builder_String:Option Unit:=(cP (BD+66) [.int .i64 ((2:Nat):Int),.int .i64 ((5:Nat):Int),.int .i64 ((105:Nat):Int)] []).bind (CS [])
theorem Hk:B_strings_Builder_String=some ():=by
 unfold B_strings_Builder_String cP
 rw [Pn (r:=[]) rfl (by rfl)]
 rfl
def NZ (x0:List Int):Option Bool:=cF 5 BQ [.lst (.int .u8) x0] []
def Fo (x0:Aa):Option (ByteArray×Bool):=cF 13 BR [.agg (A_.enc x0)] []
def EH (x0:Aa):Option (ByteArray×Bool):=cF 15 Ai [.agg (A_.enc x0)] []
def EI (x0:ByteArray):Option (Aa×Bool):=cF 17 BH [.str x0] []
def BT (x0:ByteArray):Option (Aa×Bool):=cF 18 BS [.str x0] []
def N1 (x0:List Int):Option Bool:=cF 21 LU [.lst (.int .u8) x0] []
def E6 (x0:List Int):Option Aa:=cF 22 Dj [.lst (.int .u8) x0] []
def Hl (x0:Aa):Option Bool:=cF 23 CX [.agg (A_.enc x0)] []
def Hm (x0:Aa):Option Bool:=cF 24 CY [.agg (A_.enc x0)] []
def Gd (x0 x1:List Y):Option Bool:=cF 25 BW [.lst AE x0,.lst AE x1] []
def E7 (x0:List Int):Option ByteArray:=cF 26 Dk [.lst (.int .u8) x0] []
def Fp (x0:List Int):Option (List Int):=cF 27 BO [.lst (.int .u8) x0] []
def DX (x0:Int):Option ByteArray:=cF 57 Fe [.int .i64 x0] []
def DL (x0:Int):Option ByteArray:=cF 58 Cc [.int .i64 x0] []
def Ew (x0:ByteArray):Option ByteArray:=cF 59 Er [.str x0] []
def G4 (x0:ByteArray):Option (ByteArray×Bool):=cF 60 Gx [.str x0] []
def Cr (x0:Int):Option ByteArray:=cF 64 B8 [.int .i64 x0] []
def J3 (x0:ByteArray):Option (ByteArray×Bool):=cF 65 Gy [.str x0] []
def Cy (x0:ByteArray):Option (ByteArray×Bool):=cF 68 Es [.str x0] []
def Bz (b0:AH):Option (Int×AH):=cF 69 Gz [.ptr 0 0] [.agg (AU.enc b0)]
def Cd (b0:AH):Option (Int×AH):=cF 70 G0 [.ptr 0 0] [.agg (AU.enc b0)]
def DY (x1:Int) (b0:AH):Option (ByteArray×AH):=cF 71 DW [.ptr 0 0,.int .i64 x1] [.agg (AU.enc b0)]
def Ex (x0:ByteArray):Option (ByteArray×Bool):=cF 72 Et [.str x0] []
def Ar (b0:AH):Option (Int×AH):=cF 73 BX [.ptr 0 0] [.agg (AU.enc b0)]
def BF (b0:AH):Option (Int×AH):=cF 74 CG [.ptr 0 0] [.agg (AU.enc b0)]
def Bg (b0:AH):Option (ByteArray×AH):=cF 75 CZ [.ptr 0 0] [.agg (AU.enc b0)]
def EV (b0:AA):Option (Aa×AA):=cF 78 ET [.ptr 0 0] [.agg (AM.enc b0)]
def En (x0:List Int):Option AA:=cF 79 Bx [.lst (.int .u8) x0] []
def B3 (x0 x1 x2:Int):Option Bool:=cF 80 Hf [.int .i64 x0,.int .i64 x1,.int .i64 x2] []
def EJ (x0:List Y):Option Bool:=cF 81 B9 [.lst AE x0] []
def CC (x0 x1 x2:Int):Option Bool:=cF 82 Fg [.int .i64 x0,.int .i64 x1,.int .i64 x2] []
def G5 (x0:Int):Option Bool:=cF 83 G1 [.int .i64 x0] []
def ID (x0:List Y):Option Bool:=cF 84 B_ [.lst AE x0] []
def AW (x1:Int) (b0:AA):Option (Int×AA):=cF 85 Eu [.ptr 0 0,.int .i64 x1] [.agg (AM.enc b0)]
def EW (x1:ByteArray) (b0:AA):Option (ByteArray×AA):=cF 86 Bv [.ptr 0 0,.str x1] [.agg (AM.enc b0)]
def Bh (b0:AA):Option (Int×AA):=cF 87 Fh [.ptr 0 0] [.agg (AM.enc b0)]
def Fq (x0:Int):Option ByteArray:=cF 132 Fi [.int .u32 x0] []
def Ca (x0:ByteArray):Option Int:=cF 133 Hg [.str x0] []
def Fs (x0:ByteArray):Option ByteArray:=cF 136 Fj [.str x0] []
def Ft (x0:ByteArray) (x1:Int):Option (Int×Int×Bool):=cF 138 Bd [.str x0,.int .i64 x1] []
def EK (x0:ByteArray) (x1:Int):Option (Int×Int×Bool):=cF 139 Be [.str x0,.int .i64 x1] []
def Ge (x0:ByteArray) (x1:Int):Option (ByteArray×Int×Bool):=cF 140 Ch [.str x0,.int .i64 x1] []
def J5 (b0:AA):Option (Aa×AA):=cF 142 By [.ptr 0 0] [.agg (AM.enc b0)]
def Bi (x1:List Int) (b0:AA):Option (Int×AA):=cF 143 Dy [.ptr 0 0,.lst (.int .i64) x1] [.agg (AM.enc b0)]
def E8 (b0:AA):Option (List Y×AA):=cF 144 BI [.ptr 0 0] [.agg (AM.enc b0)]
def LW (x0:ByteArray):Option Bool:=cF 145 Hh [.str x0] []
def Fu (x1:Int) (b0:AA):Option (ByteArray×AA):=cF 146 CA [.ptr 0 0,.int .i64 x1] [.agg (AM.enc b0)]
def IE (x0:Int) (x1:ByteArray):Option Int:=cF 161 BJ [.int .u32 x0,.str x1] []
def LX (x0:ByteArray):Option Int:=cF 163 Hi [.str x0] []
def Ey (b0:AA):Option (List Y×AA):=cF 164 Bo [.ptr 0 0] [.agg (AM.enc b0)]
def EL (b0:AA):Option (Y×AA):=cF 165 Fk [.ptr 0 0] [.agg (AM.enc b0)]
def EM (x1:List ByteArray) (b0:AA):Option (ByteArray×AA):=cF 166 Fl [.ptr 0 0,.lst .str x1] [.agg (AM.enc b0)]
def IF (x0 x1:Int):Option ByteArray:=cF 167 CB [.int .i64 x0,.int .u8 x1] []
def IG (x0:Int):Option ByteArray:=cF 168 Bf [.int .i64 x0] []
def IH (x0:Int) (x1:ByteArray):Option Int:=cF 177 BK [.int .u32 x0,.str x1] []
def II (x0:List Y) (x1:Y):Option (List Y):=cF 178 Ae [.lst AE x0,.agg (AE.enc x1)] []
def J6 (b0:AA):Option (ByteArray×AA):=cF 179 G2 [.ptr 0 0] [.agg (AM.enc b0)]
def J7 (b0:AA):Option (ByteArray×AA):=cF 180 G3 [.ptr 0 0] [.agg (AM.enc b0)]
def Gf (x0:Int):Option Int:=cF 181 EU [.int .i64 x0] []

def RQ:=cG HL (AS BQ) (AS BQ) kx
def Gg (x0:List Int) (x1 x2:ByteArray) (x3 x4:Bool) (x5:ByteArray) (x6:Bool) (x7:Aa) (x8:List Y) (x9:Aa) (x10:List Y) (x11:Aa) (x12:List Y) (x13:Aa):Option Bool:=cG HL (AS BQ) (AS BQ) kx ⟨[(0,.lst (.int .u8) x0),(4,.str x1),(8,.str x2),(10,.bool x3),(12,.bool x4),(13,.str x5),(125,.bool x6)],[.var (A_.enc x7),.frz AE x8,.var (A_.enc x9),.frz AE x10,.var (A_.enc x11),.frz AE x12,.var (A_.enc x13)]⟩
def Ci (x0:List Int) (x1 x2:ByteArray) (x3 x4:Bool) (x5:ByteArray) (x6:Bool) (x7:Aa) (x8:List Y) (x9:Aa) (x10:List Y) (x11:Aa) (x12:List Y) (x13:Aa):Option Bool:=cG Lh RQ (AS BQ) kx ⟨[(0,.lst (.int .u8) x0),(4,.str x1),(8,.str x2),(10,.bool x3),(12,.bool x4),(13,.str x5),(125,.bool x6)],[.var (A_.enc x7),.frz AE x8,.var (A_.enc x9),.frz AE x10,.var (A_.enc x11),.frz AE x12,.var (A_.enc x13)]⟩
def EX (x0:List Int) (x1:ByteArray) (x2 x3:Bool) (x4:Aa) (x5:List Y) (x6:Aa):Option Bool:=cG KO (AS BQ) (AS BQ) kx ⟨[(0,.lst (.int .u8) x0),(4,.str x1),(5,.bool x2),(93,.bool x3)],[.var (A_.enc x4),.frz AE x5,.var (A_.enc x6)]⟩
def Ko (x0:List Int) (x1 x2:ByteArray) (x3 x4:Bool) (x5:ByteArray) (x6:Bool) (x7:Aa) (x8:List Y) (x9:Aa) (x10:List Y) (x11:Aa) (x12:List Y) (x13:Aa):Option Bool:=((Fp x0).bind fun y12=>(if 0<=(0:Int) then (if 0<(y12.length:Int) then (if ((AG x1).length:Int)=0 then none else (if 0<=(Int.tmod (y12.getD (0:Int).toNat 0) ((AG x1).length:Int)) then (if (Int.tmod (y12.getD (0:Int).toNat 0) ((AG x1).length:Int))<((AG x1).length:Int) then (if 0<=(1:Int) then (if 1<(y12.length:Int) then (if 255=0 then none else (if 0<=(Int.tmod (y12.getD (0:Int).toNat 0) ((AG x1).length:Int)) then (if (Int.tmod (y12.getD (0:Int).toNat 0) ((AG x1).length:Int))<((AG x1).length:Int) then (let z13:List Int:=(AG x1).set ((Int.tmod (y12.getD (0:Int).toNat 0) ((AG x1).length:Int)).toNat) (CF .u8 ((AG x1).getD ((Int.tmod (y12.getD (0:Int).toNat 0) ((AG x1).length:Int)).toNat) 0) (IntKind.u8.wrap (i64.wrap (1+(Int.tmod (y12.getD (1:Int).toNat 0) 255))))); ((BT (AC z13)).bind fun y14=>(some (!y14.2)))) else none) else none)) else none) else none) else none) else none)) else none) else none))
def Kp (x0:List Int) (x1 x2:ByteArray) (x3 x4:Bool) (x5:ByteArray) (x6:Bool) (x7:Aa) (x8:List Y) (x9:Aa) (x10:List Y) (x11:Aa) (x12:List Y) (x13:Aa):Option Bool:=(if x6=true then (if (false != PT .bool x3 x4)=true then (if (!x3)=false then (some (x5.toList==x2.toList)) else (some true)) else (some false)) else (Gg x0 x1 x2 x3 x4 x5 x6 x7 x8 x9 x10 x11 x12 x13))
def Kq (x0:List Int) (x1:ByteArray) (x2 x3:Bool) (x4:Aa) (x5:List Y) (x6:Aa):Option Bool:=((E7 x0).bind fun y8=>((BT y8).bind fun y9=>((EI y8).bind fun y10=>((EH y9.1).bind fun y11=>(if (true != PT .bool y9.2 y10.2)=false then (if y9.2=true then (if (!(y11.1.toList==y8.toList))=false then (Ci x0 x1 y8 y9.2 y10.2 y11.1 (!x2) x4 x5 x6 y9.1.2.2.2.2.2 y9.1 y10.1.2.2.2.2.2 y10.1) else (Ci x0 x1 y8 y9.2 y10.2 y11.1 true x4 x5 x6 y9.1.2.2.2.2.2 y9.1 y10.1.2.2.2.2.2 y10.1)) else (Ci x0 x1 y8 y9.2 y10.2 y11.1 (!x2) x4 x5 x6 y9.1.2.2.2.2.2 y9.1 y10.1.2.2.2.2.2 y10.1)) else (Ci x0 x1 y8 y9.2 y10.2 y11.1 true x4 x5 x6 y9.1.2.2.2.2.2 y9.1 y10.1.2.2.2.2.2 y10.1))))))
def Na (x0:List Int):Option Bool:=((N1 x0).bind fun y1=>(if y1=true then (some true) else ((E6 x0).bind fun y2=>((EH y2).bind fun y3=>((BT y3.1).bind fun y4=>((Hl y2).bind fun y5=>(if (true != PT .bool y3.2 y5)=false then ((Hm y2).bind fun y6=>(if (true != PT .bool y6 y3.2)=false then (if y3.2=true then (if (!y4.2)=false then (if (y4.1.1 != y2.1)=false then (if (y4.1.2.1 != y2.2.1)=false then (if (y4.1.2.2.1 != y2.2.2.1)=false then (if (y4.1.2.2.2.1 != y2.2.2.2.1)=false then (if (y4.1.2.2.2.2.1 != y2.2.2.2.2.1)=false then ((Gd y4.1.2.2.2.2.2 y2.2.2.2.2.2).bind fun y7=>(if (!y7)=true then (some false) else (EX x0 y3.1 y3.2 (!y7) y2 y4.1.2.2.2.2.2 y4.1))) else (some false)) else (some false)) else (some false)) else (some false)) else (some false)) else (some false)) else (EX x0 y3.1 y3.2 false y2 y4.1.2.2.2.2.2 y4.1)) else (some false))) else (some false))))))))
theorem Py:ZU Ko Gg:=jS (by kernel_rfl)
theorem Pz:ZU Kp Ci:=jS (by kernel_rfl)
theorem P0:bm Kq EX:=jS (by kernel_rfl)
theorem Tq:Jz Na NZ:=cT BQ rfl ⟨rfl,rfl⟩ (by kernel_rfl)
def P1:=cG KQ (AS BR) (AS BR) kx
def P2:=kE 0 [] [4] 1 P1 kx
def Ol:St->Option (RT (Bs.outs BR)):=lG KP [] [1,4,5] 1 (AS BR) P2
def Dz (x0:ByteArray) (x1:Int) (x2:Aa):Option (ByteArray×Bool):=Ol ⟨[(1,.ptr 0 0),(4,.str x0),(5,.int .i64 x1)],[.var (A_.enc x2)]⟩
def JE (x0:ByteArray) (x1:Aa):Option (ByteArray×Bool):=cG KR (AS BR) (AS BR) kx ⟨[(1,.ptr 0 0),(4,.str x0)],[.var (A_.enc x1)]⟩
def Fv (x0:ByteArray) (x1:Int) (x2:Aa):Option (ByteArray×Bool):=(if (decide (x1<(x2.2.2.2.2.2.length:Int)))=true then (if 0<=x1 then (if x1<(x2.2.2.2.2.2.length:Int) then (if 0<=x1 then (if x1<(x2.2.2.2.2.2.length:Int) then (if 0<=x1 then (if x1<(x2.2.2.2.2.2.length:Int) then ((Ew ((x2.2.2.2.2.2.getD x1.toNat (Z,Z,0)).1)).bind fun y8=>(if x0.size+y8.size<=1099511627776 then ((Ew (((x2.2.2.2.2.2.getD x1.toNat (Z,Z,0)).2).1)).bind fun y9=>(if (x0++y8).size+y9.size<=1099511627776 then ((DL (((x2.2.2.2.2.2.getD x1.toNat (Z,Z,0)).2).2)).bind fun y10=>(if ((x0++y8)++y9).size+y10.size<=1099511627776 then (Dz (((x0++y8)++y9)++y10) (i64.wrap (x1+1)) x2) else none)) else none)) else none)) else none) else none) else none) else none) else none) else none) else ((G4 x0).bind fun y11=>(some (y11.1,y11.2))))
def JF (x0:ByteArray) (x1:Aa):Option (ByteArray×Bool):=(Dz x0 0 x1)
def Ma (x0:Aa):Option (ByteArray×Bool):=((Hl x0).bind fun y1=>(if (!y1)=true then (some ((⟨#[]⟩:ByteArray),false)) else ((DX x0.1).bind fun y2=>((DX x0.2.1).bind fun y3=>(if y2.size+y3.size<=1099511627776 then ((DX x0.2.2.1).bind fun y4=>(if (y2++y3).size+y4.size<=1099511627776 then ((DX x0.2.2.2.1).bind fun y5=>(if ((y2++y3)++y4).size+y5.size<=1099511627776 then ((DL x0.2.2.2.2.1).bind fun y6=>(if (((y2++y3)++y4)++y5).size+y6.size<=1099511627776 then ((DL (x0.2.2.2.2.2.length:Int)).bind fun y7=>(if ((((y2++y3)++y4)++y5)++y6).size+y7.size<=1099511627776 then (JE (((((y2++y3)++y4)++y5)++y6)++y7) x0) else none)) else none)) else none)) else none)) else none)))))
theorem JG:WE Fv Dz:=lS (by kernel_rfl)
theorem Om:SY JF JE:=jS (by kernel_rfl)
theorem Sx:Jz Ma Fo:=cT BR rfl ⟨rfl,rfl⟩ (by kernel_rfl)
def P3:=cG Ik (AS Ai) (AS Ai) kx
def P4:=kE 2 [] [4] 3 P3 kx
def On:St->Option (RT (Bs.outs Ai)):=lG Ij [] [4,38,39,40] 3 (AS Ai) P4
def P5:=cG Fb (AS Ai) (AS Ai) kx
def P6:=kE 0 [] [1,4] 3 P5 kx
def Oo:St->Option (RT (Bs.outs Ai)):=lG KS [] [1,4,20,21] 3 (AS Ai) P6
def D0 (x0:List Y) (x1 x2:Int) (x3:Aa) (x4:List Int):Option (ByteArray×Bool):=On ⟨[(4,.ptr 2 0),(38,.lst AE x0),(39,.int .i64 x1),(40,.int .i64 x2)],[.var (A_.enc x3),.rows 5 (.int .u8) x4,.var [.self 105,.row 1]]⟩
def JH (x0:Aa) (x1:List Int):Option (ByteArray×Bool):=cG Il (AS Ai) (AS Ai) kx ⟨[(1,.ptr 0 0),(4,.ptr 2 0)],[.var (A_.enc x0),.rows 5 (.int .u8) x1,.var [.self 105,.row 1]]⟩
def Fw (x0:Aa) (x1:List Int):Option (ByteArray×Bool):=cG Fb (AS Ai) (AS Ai) kx ⟨[(1,.ptr 0 0),(4,.ptr 2 0)],[.var (A_.enc x0),.rows 5 (.int .u8) x1,.var [.self 105,.row 1]]⟩
def C8 (x0 x1 x2 x3 x4:Int) (x5:Aa) (x6:List Int):Option (ByteArray×Bool):=Oo ⟨[(1,.ptr 0 0),(4,.ptr 2 0),(20,.agg [.int .i64 x0,.int .i64 x1,.int .i64 x2,.int .i64 x3]),(21,.int .i64 x4)],[.var (A_.enc x5),.rows 5 (.int .u8) x6,.var [.self 105,.row 1]]⟩
def Fx (x0:List Y) (x1 x2:Int) (x3:Aa) (x4:List Int):Option (ByteArray×Bool):=(if (decide (x2<x1))=true then (if 0<=x2 then (if x2<(x0.length:Int) then ((Cr (((x0.getD x2.toNat (Z,Z,0)).1).size:Int)).bind fun y4=>(if y4.size+((x0.getD x2.toNat (Z,Z,0)).1).size<=1099511627776 then ((Cr ((((x0.getD x2.toNat (Z,Z,0)).2).1).size:Int)).bind fun y5=>(if (y4++((x0.getD x2.toNat (Z,Z,0)).1)).size+y5.size<=1099511627776 then (if ((y4++((x0.getD x2.toNat (Z,Z,0)).1))++y5).size+(((x0.getD x2.toNat (Z,Z,0)).2).1).size<=1099511627776 then ((Cr (((x0.getD x2.toNat (Z,Z,0)).2).2)).bind fun y6=>(if (((y4++((x0.getD x2.toNat (Z,Z,0)).1))++y5)++(((x0.getD x2.toNat (Z,Z,0)).2).1)).size+y6.size<=1099511627776 then (B_strings_Builder_WriteString.bind fun _=>(if x4.length+(AG ((((y4++((x0.getD x2.toNat (Z,Z,0)).1))++y5)++(((x0.getD x2.toNat (Z,Z,0)).2).1))++y6)).length<=68719476736 then (D0 x0 x1 (i64.wrap (x2+1)) x3 (x4++(AG ((((y4++((x0.getD x2.toNat (Z,Z,0)).1))++y5)++(((x0.getD x2.toNat (Z,Z,0)).2).1))++y6)))) else none)) else none)) else none) else none)) else none)) else none) else none) else (B_strings_Builder_String.bind fun _=>(if Cv x4=true then ((J3 (AC x4)).bind fun y7=>(some (y7.1,y7.2))) else none)))
def JI (x0:Aa) (x1:List Int):Option (ByteArray×Bool):=(D0 x0.2.2.2.2.2 (x0.2.2.2.2.2.length:Int) 0 x0 x1)
def JJ (x0:Aa) (x1:List Int):Option (ByteArray×Bool):=((Cr x0.2.2.2.2.1).bind fun y2=>((Cr (x0.2.2.2.2.2.length:Int)).bind fun y3=>(if y2.size+y3.size<=1099511627776 then (B_strings_Builder_WriteString.bind fun _=>(if x1.length+(AG (y2++y3)).length<=68719476736 then (JH x0 (x1++(AG (y2++y3)))) else none)) else none)))
def Fy (x0 x1 x2 x3 x4:Int) (x5:Aa) (x6:List Int):Option (ByteArray×Bool):=(if (decide (x4<4))=true then (if 0<=x4 then (if x4<4 then (B_strings_Builder_WriteByte.bind fun _=>(if x6.length+([(IntKind.u8.wrap (([x0,x1,x2,x3]:List Int).getD x4.toNat 0))]:List Int).length<=68719476736 then (C8 x0 x1 x2 x3 (i64.wrap (x4+1)) x5 (x6++([(IntKind.u8.wrap (([x0,x1,x2,x3]:List Int).getD x4.toNat 0))]:List Int))) else none)) else none) else none) else (Fw x5 x6))
def Mb (x0:Aa):Option (ByteArray×Bool):=((Hm x0).bind fun y1=>(if (!y1)=true then (some ((⟨#[]⟩:ByteArray),false)) else (C8 x0.1 x0.2.1 x0.2.2.1 x0.2.2.2.1 0 x0 ([]:List Int))))
theorem JK:aF Fx D0:=lS (by kernel_rfl)
theorem Oq:SY JI JH:=jS (by kernel_rfl)
theorem Ot:SY JJ Fw:=jS (by kernel_rfl)
theorem JL:bm Fy C8:=lS (by kernel_rfl)
theorem Sy:Jz Mb EH:=cT Ai rfl ⟨rfl,rfl⟩ (by kernel_rfl)
def P7:=cG Fc (AS BH) (AS BH) kx
def Kr:=kE 0 [] [0,2,6,7] 6 P7 kx
def JM:St->Option (RT (Bs.outs BH)):=lG KU [] [0,2,6,7,8,9] 6 (AS BH) Kr
def P8:=kB [] [0,2,6,7,8,9] 6 JM
def JN (x0:ByteArray) (x1 x2:Int) (x3:Bool) (x4:List Y) (x5 x6 x7 x8 x9:Int) (x10:AH) (x11:List Y) (x12 x13 x14 x15 x16:Int):Option (Aa×Bool):=cG KT P8 (AS BH) Kr ⟨[(0,.str x0),(2,.ptr 1 0),(6,.ptr 2 0),(7,.ptr 5 0),(8,.int .i64 x1),(9,.int .i64 x2),(54,.bool x3)],[.rows 49 AE x4,.var [.int .i64 x5,.int .i64 x6,.int .i64 x7,.int .i64 x8,.int .i64 x9,.row 0],.var (AU.enc x10),.dead,.rows 49 AE x11,.var [.int .i64 x12,.int .i64 x13,.int .i64 x14,.int .i64 x15,.int .i64 x16,.row 4]]⟩
def C9 (x0:ByteArray) (x1:List Y) (x2 x3 x4 x5 x6:Int) (x7:AH) (x8:List Y) (x9 x10 x11 x12 x13:Int):Option (Aa×Bool):=cG Fc (AS BH) (AS BH) kx ⟨[(0,.str x0),(2,.ptr 1 0),(6,.ptr 2 0),(7,.ptr 5 0)],[.rows 49 AE x1,.var [.int .i64 x2,.int .i64 x3,.int .i64 x4,.int .i64 x5,.int .i64 x6,.row 0],.var (AU.enc x7),.dead,.rows 49 AE x8,.var [.int .i64 x9,.int .i64 x10,.int .i64 x11,.int .i64 x12,.int .i64 x13,.row 4]]⟩
def CH (x0:ByteArray) (x1 x2:Int) (x3:List Y) (x4 x5 x6 x7 x8:Int) (x9:AH) (x10:List Y) (x11 x12 x13 x14 x15:Int):Option (Aa×Bool):=JM ⟨[(0,.str x0),(2,.ptr 1 0),(6,.ptr 2 0),(7,.ptr 5 0),(8,.int .i64 x1),(9,.int .i64 x2)],[.rows 49 AE x3,.var [.int .i64 x4,.int .i64 x5,.int .i64 x6,.int .i64 x7,.int .i64 x8,.row 0],.var (AU.enc x9),.dead,.rows 49 AE x10,.var [.int .i64 x11,.int .i64 x12,.int .i64 x13,.int .i64 x14,.int .i64 x15,.row 4]]⟩
def Fz (x0:ByteArray) (x1 x2:Int) (x3:Bool) (x4:List Y) (x5 x6 x7 x8 x9:Int) (x10:AH) (x11:List Y) (x12 x13 x14 x15 x16:Int):Option (Aa×Bool):=((Cd x10).bind fun y8=>((DY y8.1 y8.2).bind fun y9=>((Cd y9.2).bind fun y10=>((DY y10.1 y10.2).bind fun y11=>((Cd y11.2).bind fun y12=>(if x11.length+([(y9.1,y11.1,y12.1)]:List Y).length<=68719476736 then (CH x0 x1 (i64.wrap (x2+1)) x4 x5 x6 x7 x8 x9 y12.2 (x11++([(y9.1,y11.1,y12.1)]:List Y)) x12 x13 x14 x15 x16) else none))))))
def F0 (x0:ByteArray) (x1:List Y) (x2 x3 x4 x5 x6:Int) (x7:AH) (x8:List Y) (x9 x10 x11 x12 x13:Int):Option (Aa×Bool):=((Fo (x9,x10,x11,x12,x13,x8)).bind fun y13=>(if x7.2.2=false then (if (!y13.2)=false then (if (!(y13.1.toList==x0.toList))=true then (some ((0,0,0,0,0,([]:List Y)),false)) else (some ((x9,x10,x11,x12,x13,x8),true))) else (some ((0,0,0,0,0,([]:List Y)),false))) else (some ((0,0,0,0,0,([]:List Y)),false))))
def Bj (x0:ByteArray) (x1 x2:Int) (x3:List Y) (x4 x5 x6 x7 x8:Int) (x9:AH) (x10:List Y) (x11 x12 x13 x14 x15:Int):Option (Aa×Bool):=(if (decide (x2<x1))=true then (if (decide (x2<50))=true then (if (!x9.2.2)=true then (JN x0 x1 x2 (!x9.2.2) x3 x4 x5 x6 x7 x8 x9 x10 x11 x12 x13 x14 x15) else (C9 x0 x3 x4 x5 x6 x7 x8 x9 x10 x11 x12 x13 x14 x15)) else (C9 x0 x3 x4 x5 x6 x7 x8 x9 x10 x11 x12 x13 x14 x15)) else (C9 x0 x3 x4 x5 x6 x7 x8 x9 x10 x11 x12 x13 x14 x15))
def F3 (x0:ByteArray):Option (Aa×Bool):=((Cy x0).bind fun y1=>((Bz (y1.1,0,(!y1.2))).bind fun y2=>((Bz y2.2).bind fun y3=>((Bz y3.2).bind fun y4=>((Bz y4.2).bind fun y5=>((Cd y5.2).bind fun y6=>((Cd y6.2).bind fun y7=>(CH x0 y7.1 0 ([]:List Y) 0 0 0 0 0 y7.2 ([]:List Y) y2.1 y3.1 y4.1 y5.1 y6.1))))))))
theorem JO:bZ Fz JN:=jS (by kernel_rfl)
theorem Ou:ZU F0 C9:=jS (by kernel_rfl)
theorem CI:aq Bj CH:=lS (by kernel_rfl)
theorem Mc:Jz F3 EI:=cT BH rfl ⟨rfl,rfl⟩ (by kernel_rfl)
def P9:=cG Fd (AS BS) (AS BS) kx
def P_:=kE 0 [] [0,2,6,7] 6 P9 kx
def Ov:St->Option (RT (Bs.outs BS)):=lG KV [] [0,2,6,7,34,35] 6 (AS BS) P_
def F4 (x0:ByteArray) (x1:List Y) (x2 x3 x4 x5 x6:Int) (x7:AH) (x8:List Y) (x9 x10 x11 x12 x13:Int):Option (Aa×Bool):=cG Fd (AS BS) (AS BS) kx ⟨[(0,.str x0),(2,.ptr 1 0),(6,.ptr 2 0),(7,.ptr 5 0)],[.rows 49 AE x1,.var [.int .i64 x2,.int .i64 x3,.int .i64 x4,.int .i64 x5,.int .i64 x6,.row 0],.var (AU.enc x7),.dead,.rows 49 AE x8,.var [.int .i64 x9,.int .i64 x10,.int .i64 x11,.int .i64 x12,.int .i64 x13,.row 4]]⟩
def CJ (x0:ByteArray) (x1 x2:Int) (x3:List Y) (x4 x5 x6 x7 x8:Int) (x9:AH) (x10:List Y) (x11 x12 x13 x14 x15:Int):Option (Aa×Bool):=Ov ⟨[(0,.str x0),(2,.ptr 1 0),(6,.ptr 2 0),(7,.ptr 5 0),(34,.int .i64 x1),(35,.int .i64 x2)],[.rows 49 AE x3,.var [.int .i64 x4,.int .i64 x5,.int .i64 x6,.int .i64 x7,.int .i64 x8,.row 0],.var (AU.enc x9),.dead,.rows 49 AE x10,.var [.int .i64 x11,.int .i64 x12,.int .i64 x13,.int .i64 x14,.int .i64 x15,.row 4]]⟩
def F5 (x0:ByteArray) (x1:List Y) (x2 x3 x4 x5 x6:Int) (x7:AH) (x8:List Y) (x9 x10 x11 x12 x13:Int):Option (Aa×Bool):=((EH (x9,x10,x11,x12,x13,x8)).bind fun y11=>(if x7.2.2=false then (if (!y11.2)=false then (if (!(y11.1.toList==x0.toList))=true then (some ((0,0,0,0,0,([]:List Y)),false)) else (some ((x9,x10,x11,x12,x13,x8),true))) else (some ((0,0,0,0,0,([]:List Y)),false))) else (some ((0,0,0,0,0,([]:List Y)),false))))
def CK (x0:ByteArray) (x1 x2:Int) (x3:List Y) (x4 x5 x6 x7 x8:Int) (x9:AH) (x10:List Y) (x11 x12 x13 x14 x15:Int):Option (Aa×Bool):=(if (decide (x2<x1))=true then ((Bg x9).bind fun y8=>((Bg y8.2).bind fun y9=>((BF y9.2).bind fun y10=>(if x10.length+([(y8.1,y9.1,y10.1)]:List Y).length<=68719476736 then (CJ x0 x1 (i64.wrap (x2+1)) x3 x4 x5 x6 x7 x8 y10.2 (x10++([(y8.1,y9.1,y10.1)]:List Y)) x11 x12 x13 x14 x15) else none)))) else (F4 x0 x3 x4 x5 x6 x7 x8 x9 x10 x11 x12 x13 x14 x15))
def F6 (x0:ByteArray):Option (Aa×Bool):=((Ex x0).bind fun y1=>(if (!y1.2)=true then (some ((0,0,0,0,0,([]:List Y)),false)) else ((Ar (y1.1,0,false)).bind fun y2=>((Ar y2.2).bind fun y3=>((Ar y3.2).bind fun y4=>((Ar y4.2).bind fun y5=>((BF y5.2).bind fun y6=>((BF y6.2).bind fun y7=>(CJ x0 (min y7.1 13) 0 ([]:List Y) 0 0 0 0 0 y7.2 ([]:List Y) y2.1 y3.1 y4.1 y5.1 y6.1)))))))))
theorem Ow:ZU F5 F4:=jS (by kernel_rfl)
theorem C_:aq CK CJ:=lS (by kernel_rfl)
theorem Md:Jz F6 BT:=cT BS rfl ⟨rfl,rfl⟩ (by kernel_rfl)
def WI (x0:List Int):Option Bool:=(some (decide ((x0.length:Int)>1048576)))
theorem WJ:Jz WI N1:=cT LU rfl ⟨rfl,rfl⟩ (by kernel_rfl)
def IJ (x0:List Int):Option Aa:=((En x0).bind fun y1=>((EV y1).bind fun y2=>(some y2.1)))
theorem N2:Jz IJ E6:=cT Dj rfl ⟨rfl,rfl⟩ (by kernel_rfl)
def Me:=cG MT (AS CX) (AS CX) kx
def Sz:=kB [] [1] 1 Me
def S0:=kE 0 [] [1] 1 Me kx
def Ez (x0:Int) (x1:Bool) (x2:Aa):Option Bool:=cG MS Sz (AS CX) S0 ⟨[(1,.ptr 0 0),(38,.int .i64 x0),(39,.bool x1)],[.var (A_.enc x2)]⟩
def HM (x0:Bool) (x1:Aa):Option Bool:=cG MU (AS CX) (AS CX) kx ⟨[(1,.ptr 0 0),(36,.bool x0)],[.var (A_.enc x1)]⟩
def Ls (x0:Int) (x1:Bool) (x2:Aa):Option Bool:=(if x1=true then (some true) else (if (x0==5)=true then (some ((x2.2.2.2.2.2.length:Int)==1)) else (some ((x2.2.2.2.2.2.length:Int)==0))))
def Lt (x0:Bool) (x1:Aa):Option Bool:=(if (x1.1==2)=true then (Ez x1.1 (x1.1==2) x1) else (Ez x1.1 (x1.1==3) x1))
def Ox (x0:Aa):Option Bool:=((B3 x0.1 1 8).bind fun y1=>(if (!y1)=false then ((B3 x0.2.1 1 6).bind fun y2=>(if (!y2)=false then ((B3 x0.2.2.1 1 6).bind fun y3=>(if (!y3)=false then ((B3 x0.2.2.2.1 1 9).bind fun y4=>(if (!y4)=false then ((B3 x0.2.2.2.2.1 0 1000000000).bind fun y5=>(if (!y5)=false then ((EJ x0.2.2.2.2.2).bind fun y6=>(if (!y6)=true then (some false) else (HM (!y6) x0))) else (some false))) else (some false))) else (some false))) else (some false))) else (some false)))
theorem RR:WE Ls Ez:=jS (by kernel_rfl)
theorem RS:SY Lt HM:=jS (by kernel_rfl)
theorem Uw:Jz Ox Hl:=cT CX rfl ⟨rfl,rfl⟩ (by kernel_rfl)
def Mf:=cG MW (AS CY) (AS CY) kx
def S3:=kB [] [1] 1 Mf
def S4:=kE 0 [] [1] 1 Mf kx
def E0 (x0:Int) (x1:Bool) (x2:Aa):Option Bool:=cG MV S3 (AS CY) S4 ⟨[(1,.ptr 0 0),(38,.int .i64 x0),(39,.bool x1)],[.var (A_.enc x2)]⟩
def HN (x0:Bool) (x1:Aa):Option Bool:=cG MX (AS CY) (AS CY) kx ⟨[(1,.ptr 0 0),(36,.bool x0)],[.var (A_.enc x1)]⟩
def Lu (x0:Int) (x1:Bool) (x2:Aa):Option Bool:=(if x1=true then (some true) else (if (x0==5)=true then (some ((x2.2.2.2.2.2.length:Int)==1)) else (some ((x2.2.2.2.2.2.length:Int)==0))))
def Lv (x0:Bool) (x1:Aa):Option Bool:=(if (x1.1==2)=true then (E0 x1.1 (x1.1==2) x1) else (E0 x1.1 (x1.1==3) x1))
def Oy (x0:Aa):Option Bool:=((CC x0.1 1 8).bind fun y1=>(if (!y1)=false then ((G5 x0.2.1).bind fun y2=>(if (!y2)=false then ((G5 x0.2.2.1).bind fun y3=>(if (!y3)=false then ((CC x0.2.2.2.1 1 9).bind fun y4=>(if (!y4)=false then ((CC x0.2.2.2.2.1 0 1000000000).bind fun y5=>(if (!y5)=false then ((ID x0.2.2.2.2.2).bind fun y6=>(if (!y6)=true then (some false) else (HN (!y6) x0))) else (some false))) else (some false))) else (some false))) else (some false))) else (some false)))
theorem RU:WE Lu E0:=jS (by kernel_rfl)
theorem RV:SY Lv HN:=jS (by kernel_rfl)
theorem Ux:Jz Oy Hm:=cT CY rfl ⟨rfl,rfl⟩ (by kernel_rfl)
def N3:=cG H9 (AS BW) (AS BW) kx
def N4:=kE 0 [] [] 0 N3 kx
def NN:St->Option (RT (Bs.outs BW)):=lG H8 [] [0,1,5] 0 (AS BW) N4
def DO (x0 x1:List Y) (x2:Int):Option Bool:=NN ⟨[(0,.lst AE x0),(1,.lst AE x1),(5,.int .i64 x2)],[]⟩
def Ef (x0 x1:List Y) (x2:Int):Option Bool:=(if (decide (x2<(x0.length:Int)))=true then (if 0<=x2 then (if x2<(x0.length:Int) then (if 0<=x2 then (if x2<(x1.length:Int) then (if (true != PT AE (x0.getD x2.toNat (Z,Z,0)) (x1.getD x2.toNat (Z,Z,0)))=true then (some false) else (DO x0 x1 (i64.wrap (x2+1)))) else none) else none) else none) else none) else (some true))
def Kt (x0 x1:List Y):Option Bool:=(if ((x0.length:Int) != (x1.length:Int))=true then (some false) else (DO x0 x1 0))
theorem HU:WE Ef DO:=lS (by kernel_rfl)
theorem QA:SY Kt Gd:=cT BW rfl ⟨rfl,rfl⟩ (by kernel_rfl)
def E9 (x0:List Int):Option ByteArray:=((En x0).bind fun y1=>((EV y1).bind fun y2=>((Fo y2.1).bind fun y3=>((AW 6 y2.2).bind fun y4=>(if (y4.1==0)=true then ((EW y3.1 y4.2).bind fun y5=>(some y5.1)) else (if (y4.1==1)=true then ((Cy y3.1).bind fun y6=>(if y6.2=true then ((EW y6.1 y4.2).bind fun y7=>((G4 y7.1).bind fun y8=>(some y8.1))) else (some y3.1))) else (some y3.1)))))))
theorem N5:Jz E9 E7:=cT Dk rfl ⟨rfl,rfl⟩ (by kernel_rfl)
def NO:=cG HT (AS BO) (AS BO) kx
def NP:=kE 0 [(4,1)] [4] 2 NO kx
def Mg:St->Option (RT (Bs.outs BO)):=lG HS [(4,1)] [3,4,5] 2 (AS BO) NP
def DA (x0:Int) (x1:AA) (x2:List Int):Option (List Int):=Mg ⟨[(3,.ptr 0 0),(4,.row 1),(5,.int .i64 x0)],[.var (AM.enc x1),.rows 3 (.int .i64) x2]⟩
def EN (x0:Int) (x1:AA) (x2:List Int):Option (List Int):=(if (decide (x0<12))=true then ((AW 10000 x1).bind fun y3=>(if x2.length+([y3.1]:List Int).length<=68719476736 then (DA (i64.wrap (x0+1)) y3.2 (x2++([y3.1]:List Int))) else none)) else (some x2))
def JP (x0:List Int):Option (List Int):=((En x0).bind fun y1=>((Bh y1).bind fun y2=>(DA 0 y2.2 ([]:List Int))))
theorem HG:WE EN DA:=lS (by kernel_rfl)
theorem Oz:Jz JP Fp:=cT BO rfl ⟨rfl,rfl⟩ (by kernel_rfl)
def Mh (x0:Int):Option ByteArray:=(some (AC ([(IntKind.u8.wrap x0)]:List Int)))
theorem S5:Jz Mh DX:=cT Fe rfl ⟨rfl,rfl⟩ (by kernel_rfl)
def RW:=cG Lj (AS Cc) (AS Cc) kx
def RX:=kE 0 [(3,0)] [0,3] 1 RW kx
def QB:St->Option (RT (Bs.outs Cc)):=lG Li [(3,0)] [0,3] 1 (AS Cc) RX
def EY (x0:Int) (x1:List Int):Option ByteArray:=QB ⟨[(0,.int .i64 x0),(3,.row 0)],[.rows 5 (.int .u8) x1]⟩
def Ku (x0:Int) (x1:List Int):Option ByteArray:=(if (decide (x0>127))=true then (if 128=0 then none else (if x1.length+([(IntKind.u8.wrap (i64.wrap ((Int.tmod x0 128)+128)))]:List Int).length<=68719476736 then (if 128=0 then none else (EY (i64.wrap (Int.tdiv x0 128)) (x1++([(IntKind.u8.wrap (i64.wrap ((Int.tmod x0 128)+128)))]:List Int)))) else none)) else (if x1.length+([(IntKind.u8.wrap x0)]:List Int).length<=68719476736 then (some (AC (x1++([(IntKind.u8.wrap x0)]:List Int)))) else none))
def Nb (x0:Int):Option ByteArray:=(EY x0 ([]:List Int))
theorem QC:SY Ku EY:=lS (by kernel_rfl)
theorem Tr:Jz Nb DL:=cT Cc rfl ⟨rfl,rfl⟩ (by kernel_rfl)
def Lw (x0:ByteArray):Option ByteArray:=((DL (x0.size:Int)).bind fun y1=>(if y1.size+x0.size<=1099511627776 then (some (y1++x0)) else none))
theorem RY:Jz Lw Ew:=cT Er rfl ⟨rfl,rfl⟩ (by kernel_rfl)
def Nc (x0:ByteArray):Option (ByteArray×Bool):=(if (decide ((x0.size:Int)>20000))=true then (some ((⟨#[]⟩:ByteArray),false)) else ((Ca x0).bind fun y1=>((Fq y1).bind fun y2=>(if x0.size+y2.size<=1099511627776 then (some ((x0++y2),true)) else none))))
theorem Ts:Jz Nc G4:=cT Gx rfl ⟨rfl,rfl⟩ (by kernel_rfl)
def QD:=cG KX (AS B8) (AS B8) kx
def QE:=kE 0 [(3,0)] [0,3] 1 QD kx
def O0:St->Option (RT (Bs.outs B8)):=lG KW [(3,0)] [0,3] 1 (AS B8) QE
def D1 (x0:Int) (x1:List Int):Option ByteArray:=O0 ⟨[(0,.int .i64 x0),(3,.row 0)],[.rows 5 (.int .u8) x1]⟩
def JQ (x0:Int) (x1:List Int):Option ByteArray:=(if (decide (x0>127))=true then (if 128=0 then none else (if x1.length+([(IntKind.u8.wrap (i64.wrap (128+(Int.tmod x0 128))))]:List Int).length<=68719476736 then (if 128=0 then none else (D1 (i64.wrap (Int.tdiv x0 128)) (x1++([(IntKind.u8.wrap (i64.wrap (128+(Int.tmod x0 128))))]:List Int)))) else none)) else (if x1.length+([(IntKind.u8.wrap x0)]:List Int).length<=68719476736 then (some (AC (x1++([(IntKind.u8.wrap x0)]:List Int)))) else none))
def Mi (x0:Int):Option ByteArray:=(D1 x0 ([]:List Int))
theorem O1:SY JQ D1:=lS (by kernel_rfl)
theorem S6:Jz Mi Cr:=cT B8 rfl ⟨rfl,rfl⟩ (by kernel_rfl)
def Nd (x0:ByteArray):Option (ByteArray×Bool):=(if (decide ((x0.size:Int)>20000))=true then (some ((⟨#[]⟩:ByteArray),false)) else ((Fs x0).bind fun y1=>(if x0.size+y1.size<=1099511627776 then (some ((x0++y1),true)) else none)))
theorem Tt:Jz Nd J3:=cT Gy rfl ⟨rfl,rfl⟩ (by kernel_rfl)
def Cz (x0:ByteArray):Option (ByteArray×Bool):=(if (decide ((i64.wrap ((x0.size:Int)-4))<0))=true then (some ((⟨#[]⟩:ByteArray),false)) else (if (decide ((i64.wrap ((x0.size:Int)-4))>20000))=true then (some ((⟨#[]⟩:ByteArray),false)) else (if 0<=(i64.wrap ((x0.size:Int)-4)) then (if (i64.wrap ((x0.size:Int)-4))<=(x0.size:Int) then (if (x0.size:Int)<=(x0.size:Int) then (if 0<=(0:Int) then (if 0<=(i64.wrap ((x0.size:Int)-4)) then (if (i64.wrap ((x0.size:Int)-4))<=(x0.size:Int) then ((Ca (x0.extract (0:Int).toNat (i64.wrap ((x0.size:Int)-4)).toNat)).bind fun y1=>((Fq y1).bind fun y2=>(if (!((x0.extract (i64.wrap ((x0.size:Int)-4)).toNat (x0.size:Int).toNat).toList==y2.toList))=true then (some ((⟨#[]⟩:ByteArray),false)) else (if 0<=(0:Int) then (if 0<=(i64.wrap ((x0.size:Int)-4)) then (if (i64.wrap ((x0.size:Int)-4))<=(x0.size:Int) then (some ((x0.extract (0:Int).toNat (i64.wrap ((x0.size:Int)-4)).toNat),true)) else none) else none) else none)))) else none) else none) else none) else none) else none) else none)))
theorem HO:Jz Cz Cy:=cT Es rfl ⟨rfl,rfl⟩ (by kernel_rfl)
def G6 (b0:AH):Option (Int×AH):=((DY 1 b0).bind fun y1=>(if y1.2.2.2=true then (some (0,y1.2)) else (if 0<=(0:Int) then (if 0<(y1.1.size:Int) then (some ((i64.wrap ((y1.1.data.toList.getD (0:Int).toNat 0).toNat:Int)),y1.2)) else none) else none)))
theorem Nf:Jz G6 Bz:=cT Gz rfl ⟨rfl,rfl⟩ (by kernel_rfl)
def G7 (b0:AH):Option (Int×AH):=((Ft b0.1 b0.2.1).bind fun y1=>(if b0.2.2=false then (if (!y1.2.2)=true then (some (0,(b0.1,b0.2.1,true))) else (some (y1.1,(b0.1,y1.2.1,b0.2.2)))) else (some (0,(b0.1,b0.2.1,true)))))
theorem Ng:Jz G7 Cd:=cT G0 rfl ⟨rfl,rfl⟩ (by kernel_rfl)
def JR (x0:Int) (x1:Bool) (x2:AH):Option (ByteArray×AH):=cG KY (AS DW) (AS DW) kx ⟨[(0,.ptr 0 0),(1,.int .i64 x0),(22,.bool x1)],[.var (AU.enc x2)]⟩
def F7 (x0:Int) (x1:Bool) (x2:AH):Option (ByteArray×AH):=(if 0<=(i64.wrap ((i64.wrap (x2.2.1+x0))-x0)) then (if (i64.wrap ((i64.wrap (x2.2.1+x0))-x0))<=(i64.wrap (x2.2.1+x0)) then (if (i64.wrap (x2.2.1+x0))<=(x2.1.size:Int) then (some ((x2.1.extract (i64.wrap ((i64.wrap (x2.2.1+x0))-x0)).toNat (i64.wrap (x2.2.1+x0)).toNat),(x2.1,(i64.wrap (x2.2.1+x0)),x2.2.2))) else none) else none) else none)
def F8 (x1:Int) (b0:AH):Option (ByteArray×AH):=(if b0.2.2=true then (some ((⟨#[]⟩:ByteArray),(b0.1,b0.2.1,true))) else (if (decide (x1>(i64.wrap ((b0.1.size:Int)-b0.2.1))))=true then (some ((⟨#[]⟩:ByteArray),(b0.1,b0.2.1,true))) else (JR x1 (decide (x1>(i64.wrap ((b0.1.size:Int)-b0.2.1)))) b0)))
theorem JS:WE F7 JR:=jS (by kernel_rfl)
theorem Mj:SY F8 DY:=cT DW rfl ⟨rfl,rfl⟩ (by kernel_rfl)
def E1 (x0:ByteArray):Option (ByteArray×Bool):=(if (decide ((i64.wrap ((x0.size:Int)-4))<0))=true then (some ((⟨#[]⟩:ByteArray),false)) else (if (decide ((i64.wrap ((x0.size:Int)-4))>20000))=true then (some ((⟨#[]⟩:ByteArray),false)) else (if 0<=(0:Int) then (if 0<=(i64.wrap ((x0.size:Int)-4)) then (if (i64.wrap ((x0.size:Int)-4))<=(x0.size:Int) then (if 0<=(i64.wrap ((x0.size:Int)-4)) then (if (i64.wrap ((x0.size:Int)-4))<=(x0.size:Int) then (if (x0.size:Int)<=(x0.size:Int) then ((Fs (x0.extract (0:Int).toNat (i64.wrap ((x0.size:Int)-4)).toNat)).bind fun y1=>(if (!(y1.toList==(x0.extract (i64.wrap ((x0.size:Int)-4)).toNat (x0.size:Int).toNat).toList))=true then (some ((⟨#[]⟩:ByteArray),false)) else (if 0<=(0:Int) then (if 0<=(i64.wrap ((x0.size:Int)-4)) then (if (i64.wrap ((x0.size:Int)-4))<=(x0.size:Int) then (some ((x0.extract (0:Int).toNat (i64.wrap ((x0.size:Int)-4)).toNat),true)) else none) else none) else none))) else none) else none) else none) else none) else none) else none)))
theorem Lx:Jz E1 Ex:=cT Et rfl ⟨rfl,rfl⟩ (by kernel_rfl)
def DZ (x0:Bool) (x1:AH):Option (Int×AH):=cG Ff (AS BX) (AS BX) kx ⟨[(0,.ptr 0 0),(18,.bool x0)],[.var (AU.enc x1)]⟩
def Da (x0:Bool) (x1:AH):Option (Int×AH):=(if 0<=(i64.wrap ((i64.wrap (x1.2.1+1))-1)) then (if (i64.wrap ((i64.wrap (x1.2.1+1))-1))<(x1.1.size:Int) then (some ((i64.wrap ((x1.1.data.toList.getD (i64.wrap ((i64.wrap (x1.2.1+1))-1)).toNat 0).toNat:Int)),(x1.1,(i64.wrap (x1.2.1+1)),x1.2.2))) else none) else none)
def DB (b0:AH):Option (Int×AH):=(if b0.2.2=true then (some (0,(b0.1,b0.2.1,true))) else (if (decide (b0.2.1>=(b0.1.size:Int)))=true then (some (0,(b0.1,b0.2.1,true))) else (DZ (decide (b0.2.1>=(b0.1.size:Int))) b0)))
theorem FM:SY Da DZ:=jS (by kernel_rfl)
theorem HH:Jz DB Ar:=cT BX rfl ⟨rfl,rfl⟩ (by kernel_rfl)
def CL (b0:AH):Option (Int×AH):=((EK b0.1 b0.2.1).bind fun y1=>(if b0.2.2=false then (if (!y1.2.2)=true then (some (0,(b0.1,b0.2.1,true))) else (some (y1.1,(b0.1,y1.2.1,b0.2.2)))) else (some (0,(b0.1,b0.2.1,true)))))
theorem FN:Jz CL BF:=cT CG rfl ⟨rfl,rfl⟩ (by kernel_rfl)
def Cb (b0:AH):Option (ByteArray×AH):=((Ge b0.1 b0.2.1).bind fun y1=>(if b0.2.2=false then (if (!y1.2.2)=true then (some ((⟨#[]⟩:ByteArray),(b0.1,b0.2.1,true))) else (some (y1.1,(b0.1,y1.2.1,b0.2.2)))) else (some ((⟨#[]⟩:ByteArray),(b0.1,b0.2.1,true)))))
theorem F9:Jz Cb Bg:=cT CZ rfl ⟨rfl,rfl⟩ (by kernel_rfl)
def Gh (b0:AA):Option (Aa×AA):=((J5 b0).bind fun y1=>((AW 20 y1.2).bind fun y2=>(if (y2.1==0)=true then ((Bi ([0,1,2,5,9]:List Int) y2.2).bind fun y3=>(some ((y3.1,y1.1.2),y3.2))) else (if (y2.1==1)=true then ((Bi ([0,6,7]:List Int) y2.2).bind fun y4=>(some ((y1.1.1,y4.1,y1.1.2.2),y4.2))) else (if (y2.1==2)=true then ((Bi ([0,9,10]:List Int) y2.2).bind fun y5=>(some ((y1.1.1,y1.1.2.1,y1.1.2.2.1,y5.1,y1.1.2.2.2.2),y5.2))) else (if (y2.1==3)=true then ((Bi ([(-1:Int),1000000000,1000000001]:List Int) y2.2).bind fun y6=>(some ((y1.1.1,y1.1.2.1,y1.1.2.2.1,y1.1.2.2.2.1,y6.1,y1.1.2.2.2.2.2),y6.2))) else (if (y2.1==4)=true then ((E8 y2.2).bind fun y7=>(some ((y1.1.1,y1.1.2.1,y1.1.2.2.1,y1.1.2.2.2.1,y1.1.2.2.2.2.1,y7.1),y7.2))) else (some (y1.1,y2.2)))))))))
theorem QF:Jz Gh EV:=cT ET rfl ⟨rfl,rfl⟩ (by kernel_rfl)
def RZ:=cG Ln (AS Bx) (AS Bx) kx
def Ly:=kE 0 [] [0,3] 0 RZ kx
def Kv:St->Option (RT (Bs.outs Bx)):=lG Ll [] [0,3,4] 0 (AS Bx) Ly
def Ra:=kB [] [0,3,4] 0 Kv
def Kw (x0:List Int) (x1 x2:Int) (x3:Bool):Option AA:=cG Lk Ra (AS Bx) Ly ⟨[(0,.lst (.int .u8) x0),(3,.int .i64 x1),(4,.int .i64 x2),(15,.bool x3)],[]⟩
def EZ (x0:List Int) (x1 x2:Int):Option AA:=Kv ⟨[(0,.lst (.int .u8) x0),(3,.int .i64 x1),(4,.int .i64 x2)],[]⟩
def Kx (x0:List Int) (x1 x2:Int) (x3:Bool):Option AA:=(if 0<=x2 then (if x2<(x0.length:Int) then (EZ x0 (Dx .i64 (i64.wrap ((i64.wrap ((i64.wrap (x1*131))+(i64.wrap (x0.getD x2.toNat 0))))+7)) 1073741823) (i64.wrap (x2+1))) else none) else none)
def Ea (x0:List Int) (x1 x2:Int):Option AA:=(if (decide (x2<(x0.length:Int)))=true then (if (decide (x2<4000))=true then (Kw x0 x1 x2 (decide (x2<4000))) else (some (x0,0,x1))) else (some (x0,0,x1)))
def Tu (x0:List Int):Option AA:=(EZ x0 (i64.wrap (14301+(x0.length:Int))) 0)
theorem QG:YM Kx Kw:=jS (by kernel_rfl)
theorem Gi:WE Ea EZ:=lS (by kernel_rfl)
theorem Tv:Jz Tu En:=cT Bx rfl ⟨rfl,rfl⟩ (by kernel_rfl)
def O2 (x0 x1 x2:Int):Option Bool:=(if (decide (x0>=x1))=true then (some (decide (x0<=x2))) else (some false))
theorem Uy:WE O2 B3:=cT Hf rfl ⟨rfl,rfl⟩ (by kernel_rfl)
def QH:=cG Is (AS B9) (AS B9) kx
def QI:=kE 0 [] [0] 0 QH kx
def O3:St->Option (RT (Bs.outs B9)):=lG Ir [] [0,3] 0 (AS B9) QI
def DC (x0:List Y) (x1:Int):Option Bool:=O3 ⟨[(0,.lst AE x0),(3,.int .i64 x1)],[]⟩
def F_ (x0:List Y) (x1:Int):Option Bool:=(if (decide (x1<(x0.length:Int)))=true then (if 0<=x1 then (if x1<(x0.length:Int) then ((B3 (((x0.getD x1.toNat (Z,Z,0)).1).size:Int) 1 12).bind fun y1=>(if (!y1)=true then (some false) else (if (decide (((((x0.getD x1.toNat (Z,Z,0)).2).1).size:Int)>20))=true then (some false) else ((B3 (((x0.getD x1.toNat (Z,Z,0)).2).2) 1 1000000000).bind fun y2=>(if (!y2)=true then (some false) else (if (decide (x1>0))=true then (if 0<=(i64.wrap (x1-1)) then (if (i64.wrap (x1-1))<(x0.length:Int) then (if (!(Op.bytesLess ((x0.getD (i64.wrap (x1-1)).toNat (Z,Z,0)).1).toList ((x0.getD x1.toNat (Z,Z,0)).1).toList))=true then (some false) else (DC x0 (i64.wrap (x1+1)))) else none) else none) else (DC x0 (i64.wrap (x1+1))))))))) else none) else none) else (some (decide ((x0.length:Int)<=12))))
def Mk (x0:List Y):Option Bool:=(DC x0 0)
theorem JT:SY F_ DC:=lS (by kernel_rfl)
theorem S7:Jz Mk EJ:=cT B9 rfl ⟨rfl,rfl⟩ (by kernel_rfl)
def Ml (x0 x1 x2:Int):Option Bool:=(if (decide (x0>=x1))=true then (some (decide (x0<=x2))) else (some false))
theorem S8:WE Ml CC:=cT Fg rfl ⟨rfl,rfl⟩ (by kernel_rfl)
def Nh (x0:Int):Option Bool:=((CC x0 1 6).bind fun y1=>(some y1))
theorem Tw:Jz Nh G5:=cT G1 rfl ⟨rfl,rfl⟩ (by kernel_rfl)
def QJ:=cG Ix (AS B_) (AS B_) kx
def QK:=kE 0 [] [0] 0 QJ kx
def O4:St->Option (RT (Bs.outs B_)):=lG Iw [] [0,5,6,7] 0 (AS B_) QK
def DD (x0 x1:List Y) (x2 x3:Int):Option Bool:=O4 ⟨[(0,.lst AE x0),(5,.lst AE x1),(6,.int .i64 x2),(7,.int .i64 x3)],[]⟩
def GA (x0 x1:List Y) (x2 x3:Int):Option Bool:=(if (decide (x3<x2))=true then (if 0<=x3 then (if x3<(x1.length:Int) then ((LW ((x1.getD x3.toNat (Z,Z,0)).1)).bind fun y1=>(if (!y1)=true then (some false) else (if (decide (((((x1.getD x3.toNat (Z,Z,0)).2).1).size:Int)>20))=true then (some false) else ((CC (((x1.getD x3.toNat (Z,Z,0)).2).2) 1 1000000000).bind fun y2=>(if (!y2)=true then (some false) else (if (decide (x3>0))=true then (if 0<=(i64.wrap (x3-1)) then (if (i64.wrap (x3-1))<(x0.length:Int) then (if ((Op.bytesLess ((x1.getD x3.toNat (Z,Z,0)).1).toList ((x0.getD (i64.wrap (x3-1)).toNat (Z,Z,0)).1).toList)||(((x1.getD x3.toNat (Z,Z,0)).1).toList==((x0.getD (i64.wrap (x3-1)).toNat (Z,Z,0)).1).toList))=true then (some false) else (DD x0 x1 x2 (i64.wrap (x3+1)))) else none) else none) else (DD x0 x1 x2 (i64.wrap (x3+1))))))))) else none) else none) else (some (decide ((x0.length:Int)<=12))))
def Mm (x0:List Y):Option Bool:=(DD x0 x0 (x0.length:Int) 0)
theorem JU:YM GA DD:=lS (by kernel_rfl)
theorem S9:Jz Mm ID:=cT B_ rfl ⟨rfl,rfl⟩ (by kernel_rfl)
def HQ (x1:Int) (b0:AA):Option (Int×AA):=(if (decide (x1<=0))=true then (some (0,b0)) else (if (decide (x1<=256))=true then ((Bh b0).bind fun y1=>(if x1=0 then none else (some ((Int.tmod y1.1 x1),y1.2)))) else ((Bh b0).bind fun y2=>((Bh y2.2).bind fun y3=>((Bh y3.2).bind fun y4=>((Bh y4.2).bind fun y5=>(if x1=0 then none else (some ((Int.tmod (i64.wrap ((i64.wrap ((i64.wrap ((i64.wrap (y2.1*16777216))+(i64.wrap (y3.1*65536))))+(i64.wrap (y4.1*256))))+y5.1)) x1),y5.2)))))))))
theorem Rb:SY HQ AW:=cT Eu rfl ⟨rfl,rfl⟩ (by kernel_rfl)
def IK:=cG IA (AS Bv) (AS Bv) kx
def N6:=kB [] [1] 1 IK
def N7:=kE 0 [] [1] 1 IK kx
def DP (x0:ByteArray) (x1:Bool) (x2:AA):Option (ByteArray×AA):=cG H_ N6 (AS Bv) N7 ⟨[(0,.ptr 0 0),(1,.str x0),(23,.bool x1)],[.var (AM.enc x2)]⟩
def Eg (x0:ByteArray) (x1:Bool) (x2:AA):Option (ByteArray×AA):=(if x1=true then (if (decide ((x0.size:Int)>0))=true then ((AW (x0.size:Int) x2).bind fun y4=>(if 0<=(0:Int) then (if 0<=y4.1 then (if y4.1<=(x0.size:Int) then (if 0<=(i64.wrap (y4.1+1)) then (if (i64.wrap (y4.1+1))<=(x0.size:Int) then (if (x0.size:Int)<=(x0.size:Int) then ((Fu 1 y4.2).bind fun y5=>(if (x0.extract (0:Int).toNat y4.1.toNat).size+y5.1.size<=1099511627776 then (if ((x0.extract (0:Int).toNat y4.1.toNat)++y5.1).size+(x0.extract (i64.wrap (y4.1+1)).toNat (x0.size:Int).toNat).size<=1099511627776 then (some ((((x0.extract (0:Int).toNat y4.1.toNat)++y5.1)++(x0.extract (i64.wrap (y4.1+1)).toNat (x0.size:Int).toNat)),y5.2)) else none) else none)) else none) else none) else none) else none) else none) else none)) else (some (x0,x2))) else (some (x0,x2)))
def Gj (x1:ByteArray) (b0:AA):Option (ByteArray×AA):=((AW 12 b0).bind fun y1=>(if (y1.1==0)=true then ((Fu 1 y1.2).bind fun y2=>(if x1.size+y2.1.size<=1099511627776 then (some ((x1++y2.1),y2.2)) else none)) else (if (y1.1==1)=true then ((AW (i64.wrap ((x1.size:Int)+1)) y1.2).bind fun y3=>(if 0<=(0:Int) then (if 0<=y3.1 then (if y3.1<=(x1.size:Int) then (some ((x1.extract (0:Int).toNat y3.1.toNat),y3.2)) else none) else none) else none)) else (if (y1.1==2)=true then (DP x1 (y1.1==2) y1.2) else (DP x1 (y1.1==3) y1.2)))))
theorem NQ:WE Eg DP:=jS (by kernel_rfl)
theorem QL:SY Gj EW:=cT Bv rfl ⟨rfl,rfl⟩ (by kernel_rfl)
def IL (b0:AA):Option (Int×AA):=(if 33<0 then none else (if 45<0 then none else (if (decide (b0.2.1<(b0.1.length:Int)))=true then (if 0<=b0.2.1 then (if b0.2.1<(b0.1.length:Int) then (some ((Dx .i64 (i64.wrap ((Dx .i64 (CF .i64 (Int.fdiv (i64.wrap ((i64.wrap (b0.2.2*6364136223846793005))+1442695040888963407)) (2^(min (33:Int).toNat (IntKind.bits .i64)))) (Int.fdiv (i64.wrap ((i64.wrap (b0.2.2*6364136223846793005))+1442695040888963407)) (2^(min (45:Int).toNat (IntKind.bits .i64))))) 255)+(i64.wrap (b0.1.getD b0.2.1.toNat 0)))) 255),(b0.1,(i64.wrap (b0.2.1+1)),(i64.wrap ((i64.wrap (b0.2.2*6364136223846793005))+1442695040888963407))))) else none) else none) else (some ((Dx .i64 (CF .i64 (Int.fdiv (i64.wrap ((i64.wrap (b0.2.2*6364136223846793005))+1442695040888963407)) (2^(min (33:Int).toNat (IntKind.bits .i64)))) (Int.fdiv (i64.wrap ((i64.wrap (b0.2.2*6364136223846793005))+1442695040888963407)) (2^(min (45:Int).toNat (IntKind.bits .i64))))) 255),(b0.1,b0.2.1,(i64.wrap ((i64.wrap (b0.2.2*6364136223846793005))+1442695040888963407))))))))
theorem S_:Jz IL Bh:=cT Fh rfl ⟨rfl,rfl⟩ (by kernel_rfl)
def Mn (x0:Int):Option ByteArray:=(if 24<0 then none else (if 16<0 then none else (if 8<0 then none else (some (AC ([(IntKind.u8.wrap (Int.fdiv x0 (2^(min (24:Int).toNat (IntKind.bits .u32))))),(IntKind.u8.wrap (Int.fdiv x0 (2^(min (16:Int).toNat (IntKind.bits .u32))))),(IntKind.u8.wrap (Int.fdiv x0 (2^(min (8:Int).toNat (IntKind.bits .u32))))),(IntKind.u8.wrap x0)]:List Int))))))
theorem TA:Jz Mn Fq:=cT Fi rfl ⟨rfl,rfl⟩ (by kernel_rfl)
def O5 (x0:ByteArray):Option Int:=((IE 4294967295 x0).bind fun y1=>(some y1))
theorem Uz:Jz O5 Ca:=cT Hg rfl ⟨rfl,rfl⟩ (by kernel_rfl)
def Mo (x0:ByteArray):Option ByteArray:=((LX x0).bind fun y1=>(if 24<0 then none else (if 16<0 then none else (if 8<0 then none else (some (AC ([(IntKind.u8.wrap (Int.fdiv y1 (2^(min (24:Int).toNat (IntKind.bits .u32))))),(IntKind.u8.wrap (Int.fdiv y1 (2^(min (16:Int).toNat (IntKind.bits .u32))))),(IntKind.u8.wrap (Int.fdiv y1 (2^(min (8:Int).toNat (IntKind.bits .u32))))),(IntKind.u8.wrap y1)]:List Int)))))))
theorem TB:Jz Mo Fs:=cT Fj rfl ⟨rfl,rfl⟩ (by kernel_rfl)
def QM:=cG Iy (AS Bd) (AS Bd) kx
def Ky:=kE 0 [] [] 0 QM kx
def JV:St->Option (RT (Bs.outs Bd)):=lG Kb [] [0,1,7,8,9] 0 (AS Bd) Ky
def QN:=kB [] [0,1,7,8,9] 0 JV
def JW (x0:ByteArray) (x1 x2 x3 x4:Int) (x5:Bool):Option (Int×Int×Bool):=cG Ka QN (AS Bd) Ky ⟨[(0,.str x0),(1,.int .i64 x1),(7,.int .i64 x2),(8,.int .i64 x3),(9,.int .i64 x4),(25,.bool x5)],[]⟩
def Bk (x0:ByteArray) (x1 x2 x3 x4:Int):Option (Int×Int×Bool):=JV ⟨[(0,.str x0),(1,.int .i64 x1),(7,.int .i64 x2),(8,.int .i64 x3),(9,.int .i64 x4)],[]⟩
def D2 (x0:ByteArray) (x1 x2 x3 x4:Int) (x5:Bool):Option (Int×Int×Bool):=(if 0<=x4 then (if x4<(x0.size:Int) then (if 128=0 then none else (if 0<=x4 then (if x4<(x0.size:Int) then (if (decide (((x0.data.toList.getD x4.toNat 0).toNat:Int)<128))=true then (if (decide ((i64.wrap (x2+(i64.wrap ((Int.tmod (i64.wrap ((x0.data.toList.getD x4.toNat 0).toNat:Int)) 128)*x3))))>1000000000))=true then (some (0,0,false)) else (if 0<=x1 then (if x1<=(i64.wrap (x4+1)) then (if (i64.wrap (x4+1))<=(x0.size:Int) then ((DL (i64.wrap (x2+(i64.wrap ((Int.tmod (i64.wrap ((x0.data.toList.getD x4.toNat 0).toNat:Int)) 128)*x3))))).bind fun y2=>(if (!(y2.toList==(x0.extract x1.toNat (i64.wrap (x4+1)).toNat).toList))=true then (some (0,0,false)) else (some ((i64.wrap (x2+(i64.wrap ((Int.tmod (i64.wrap ((x0.data.toList.getD x4.toNat 0).toNat:Int)) 128)*x3)))),(i64.wrap (x4+1)),true)))) else none) else none) else none)) else (Bk x0 x1 (i64.wrap (x2+(i64.wrap ((Int.tmod (i64.wrap ((x0.data.toList.getD x4.toNat 0).toNat:Int)) 128)*x3)))) (i64.wrap (x3*128)) (i64.wrap (x4+1)))) else none) else none)) else none) else none)
def DE (x0:ByteArray) (x1 x2 x3 x4:Int):Option (Int×Int×Bool):=(if (decide (x4<(x0.size:Int)))=true then (if (decide (x4<(i64.wrap (x1+5))))=true then (JW x0 x1 x2 x3 x4 (decide (x4<(i64.wrap (x1+5))))) else (some (0,0,false))) else (some (0,0,false)))
def IM (x0:ByteArray) (x1:Int):Option (Int×Int×Bool):=((B3 x1 0 (x0.size:Int)).bind fun y1=>(if (!y1)=true then (some (0,0,false)) else (Bk x0 x1 0 1 x1)))
theorem JX:bl D2 JW:=jS (by kernel_rfl)
theorem GB:aF DE Bk:=lS (by kernel_rfl)
theorem Mp:SY IM Ft:=cT Bd rfl ⟨rfl,rfl⟩ (by kernel_rfl)

def QO:=cG I1 (AS Be) (AS Be) kx
def Kz:=kE 0 [] [] 0 QO kx
def JY:St->Option (RT (Bs.outs Be)):=lG I0 [] [0,1,7,8,9] 0 (AS Be) Kz
def QP:=kB [] [0,1,7,8,9] 0 JY
def JZ (x0:ByteArray) (x1 x2 x3 x4:Int) (x5:Bool):Option (Int×Int×Bool):=cG Iz QP (AS Be) Kz ⟨[(0,.str x0),(1,.int .i64 x1),(7,.int .i64 x2),(8,.int .i64 x3),(9,.int .i64 x4),(28,.bool x5)],[]⟩
def Bl (x0:ByteArray) (x1 x2 x3 x4:Int):Option (Int×Int×Bool):=JY ⟨[(0,.str x0),(1,.int .i64 x1),(7,.int .i64 x2),(8,.int .i64 x3),(9,.int .i64 x4)],[]⟩
def D3 (x0:ByteArray) (x1 x2 x3 x4:Int) (x5:Bool):Option (Int×Int×Bool):=(if 0<=(i64.wrap (x1+x4)) then (if (i64.wrap (x1+x4))<(x0.size:Int) then (if 128=0 then none else (if (decide ((i64.wrap ((x0.data.toList.getD (i64.wrap (x1+x4)).toNat 0).toNat:Int))>=128))=true then (Bl x0 x1 (i64.wrap (x2+(i64.wrap ((Int.tmod (i64.wrap ((x0.data.toList.getD (i64.wrap (x1+x4)).toNat 0).toNat:Int)) 128)*x3)))) (i64.wrap (x3*128)) (i64.wrap (x4+1))) else (if ((i64.wrap ((x0.data.toList.getD (i64.wrap (x1+x4)).toNat 0).toNat:Int))==0)=true then (if (decide (x4>0))=false then (if (decide ((i64.wrap (x2+(i64.wrap ((Int.tmod (i64.wrap ((x0.data.toList.getD (i64.wrap (x1+x4)).toNat 0).toNat:Int)) 128)*x3))))>1000000000))=true then (some (0,0,false)) else (some ((i64.wrap (x2+(i64.wrap ((Int.tmod (i64.wrap ((x0.data.toList.getD (i64.wrap (x1+x4)).toNat 0).toNat:Int)) 128)*x3)))),(i64.wrap ((i64.wrap (x1+x4))+1)),true))) else (some (0,0,false))) else (if (decide ((i64.wrap (x2+(i64.wrap ((Int.tmod (i64.wrap ((x0.data.toList.getD (i64.wrap (x1+x4)).toNat 0).toNat:Int)) 128)*x3))))>1000000000))=true then (some (0,0,false)) else (some ((i64.wrap (x2+(i64.wrap ((Int.tmod (i64.wrap ((x0.data.toList.getD (i64.wrap (x1+x4)).toNat 0).toNat:Int)) 128)*x3)))),(i64.wrap ((i64.wrap (x1+x4))+1)),true)))))) else none) else none)
def DF (x0:ByteArray) (x1 x2 x3 x4:Int):Option (Int×Int×Bool):=(if (decide (x4<5))=true then (if (decide ((i64.wrap (x1+x4))<(x0.size:Int)))=true then (JZ x0 x1 x2 x3 x4 (decide ((i64.wrap (x1+x4))<(x0.size:Int)))) else (some (0,0,false))) else (some (0,0,false)))
def IN (x0:ByteArray) (x1:Int):Option (Int×Int×Bool):=(if (decide (x1<0))=false then (if (decide (x1>(x0.size:Int)))=true then (some (0,0,false)) else (Bl x0 x1 0 1 0)) else (some (0,0,false)))
theorem Ja:bl D3 JZ:=jS (by kernel_rfl)
theorem GC:aF DF Bl:=lS (by kernel_rfl)
theorem Mq:SY IN EK:=cT Be rfl ⟨rfl,rfl⟩ (by kernel_rfl)
def HV (x0:ByteArray) (x1 x2:Int) (x3:Bool):Option (ByteArray×Int×Bool):=cG IB (AS Ch) (AS Ch) kx ⟨[(0,.str x0),(7,.int .i64 x1),(8,.int .i64 x2),(30,.bool x3)],[]⟩
def Eh (x0:ByteArray) (x1 x2:Int) (x3:Bool):Option (ByteArray×Int×Bool):=(if 0<=x2 then (if x2<=(i64.wrap (x2+x1)) then (if (i64.wrap (x2+x1))<=(x0.size:Int) then (some ((x0.extract x2.toNat (i64.wrap (x2+x1)).toNat),(i64.wrap (x2+x1)),true)) else none) else none) else none)
def Eb (x0:ByteArray) (x1:Int):Option (ByteArray×Int×Bool):=((EK x0 x1).bind fun y1=>(if (!y1.2.2)=false then (if (decide (y1.1>20000))=false then (if (decide (y1.1>(i64.wrap ((x0.size:Int)-y1.2.1))))=true then (some ((⟨#[]⟩:ByteArray),0,false)) else (HV x0 y1.1 y1.2.1 (decide (y1.1>(i64.wrap ((x0.size:Int)-y1.2.1)))))) else (some ((⟨#[]⟩:ByteArray),0,false))) else (some ((⟨#[]⟩:ByteArray),0,false))))
theorem HW:YM Eh HV:=jS (by kernel_rfl)
theorem K3:SY Eb Ge:=cT Ch rfl ⟨rfl,rfl⟩ (by kernel_rfl)
def Lz:=cG Lq (AS By) (AS By) kx
def Rc:=kB [] [2,3] 3 Lz
def Rd:=kE 0 [] [2,3] 3 Lz kx
def Ec (x0:Int) (x1:Bool) (x2:AA) (x3 x4:Aa):Option (Aa×AA):=cG Lo Rc (AS By) Rd ⟨[(0,.ptr 0 0),(2,.ptr 1 0),(3,.ptr 2 0),(20,.int .i64 x0),(21,.bool x1)],[.var (AM.enc x2),.var (A_.enc x3),.var (A_.enc x4)]⟩
def Gk (x0:AA) (x1 x2:Aa):Option (Aa×AA):=cG Lr (AS By) (AS By) kx ⟨[(0,.ptr 0 0),(2,.ptr 1 0),(3,.ptr 2 0)],[.var (AM.enc x0),.var (A_.enc x1),.var (A_.enc x2)]⟩
def Ed (x0:Int) (x1:Bool) (x2:AA) (x3 x4:Aa):Option (Aa×AA):=(if x1=true then ((Ey x2).bind fun y6=>(some ((x4.1,x4.2.1,x4.2.2.1,x4.2.2.2.1,x4.2.2.2.2.1,y6.1),y6.2))) else (if (x0==5)=true then ((EL x2).bind fun y7=>(some ((x4.1,x4.2.1,x4.2.2.1,x4.2.2.2.1,x4.2.2.2.2.1,([y7.1]:List Y)),y7.2))) else (some (x4,x2))))
def Gl (x0:AA) (x1 x2:Aa):Option (Aa×AA):=(if (x2.1==2)=true then (Ec x2.1 (x2.1==2) x0 x1 x2) else (Ec x2.1 (x2.1==3) x0 x1 x2))
def Ni (b0:AA):Option (Aa×AA):=((AW 8 b0).bind fun y1=>((AW 4 y1.2).bind fun y2=>((AW 4 y2.2).bind fun y3=>((AW 4 y3.2).bind fun y4=>((AW 6 y4.2).bind fun y5=>(Gk y5.2 (0,0,0,0,0,([]:List Y)) ((i64.wrap (1+y1.1)),(i64.wrap (1+y2.1)),(i64.wrap (1+y3.1)),(i64.wrap (1+y4.1)),y5.1,([]:List Y))))))))
theorem Gm:aF Ed Ec:=jS (by kernel_rfl)
theorem K4:WE Gl Gk:=jS (by kernel_rfl)
theorem Tx:Jz Ni J5:=cT By rfl ⟨rfl,rfl⟩ (by kernel_rfl)
def Jb (x1:List Int) (b0:AA):Option (Int×AA):=((AW (x1.length:Int) b0).bind fun y1=>(if 0<=y1.1 then (if y1.1<(x1.length:Int) then (some ((x1.getD y1.1.toNat 0),y1.2)) else none) else none))
theorem O6:SY Jb Bi:=cT Dy rfl ⟨rfl,rfl⟩ (by kernel_rfl)
def HI:=cG GY (AS BI) (AS BI) kx
def Mr:=kB [(3,1)] [3] 2 HI
def Ms:=kE 0 [(3,1)] [3] 2 HI kx
def Mt:=kE 1 [(3,2)] [3] 3 Mr Ms
def L5:St->Option (RT (Bs.outs BI)):=lG HE [(3,2)] [0,3,4] 3 (AS BI) Mt
def Cs (x0:Int) (x1:AA) (x2 x3:List Y):Option (List Y×AA):=L5 ⟨[(0,.ptr 0 0),(3,.row 2),(4,.int .i64 x0)],[.var (AM.enc x1),.rows 49 AE x2,.rows 49 AE x3]⟩
def Ct (x0:Int) (x1:AA) (x2 x3:List Y):Option (List Y×AA):=((AW 2 x1).bind fun y9=>(if (decide (x0<(i64.wrap (12+y9.1))))=true then ((IG (i64.wrap (10+x0))).bind fun y10=>(if (⟨#[109]⟩:ByteArray).size+y10.size<=1099511627776 then (if x3.length+([(((⟨#[109]⟩:ByteArray)++y10),Z,5)]:List Y).length<=68719476736 then (Cs (i64.wrap (x0+1)) y9.2 x2 (x3++([(((⟨#[109]⟩:ByteArray)++y10),Z,5)]:List Y))) else none) else none)) else (some (x3,y9.2))))
def E_ (b0:AA):Option (List Y×AA):=((Ey b0).bind fun y1=>((AW 16 y1.2).bind fun y2=>(if (y2.1==0)=true then ((EL y2.2).bind fun y3=>(if y1.1.length+([y3.1]:List Y).length<=68719476736 then (some ((y1.1++([y3.1]:List Y)),y3.2)) else none)) else (if (y2.1==1)=true then (if (decide ((y1.1.length:Int)>0))=true then ((Bi ([0,(-1:Int),1000000000,1000000001]:List Int) y2.2).bind fun y4=>(if 0<=(0:Int) then (if 0<(y1.1.length:Int) then (let z5:List Y:=y1.1.set ((0:Int).toNat) ((y1.1.getD ((0:Int).toNat) (Z,Z,0)).1,((y1.1.getD ((0:Int).toNat) (Z,Z,0)).2).1,y4.1); (some (z5,y4.2))) else none) else none)) else (some (y1.1,y2.2))) else (if (y2.1==2)=true then (if (decide ((y1.1.length:Int)>0))=true then ((IF 13 65).bind fun y6=>((EM ([(⟨#[]⟩:ByteArray),y6]:List ByteArray) y2.2).bind fun y7=>(if 0<=(0:Int) then (if 0<(y1.1.length:Int) then (let z8:List Y:=y1.1.set ((0:Int).toNat) (y7.1,(y1.1.getD ((0:Int).toNat) (Z,Z,0)).2); (some (z8,y7.2))) else none) else none))) else (some (y1.1,y2.2))) else (if (y2.1==3)=true then (Cs 0 y2.2 y1.1 ([]:List Y)) else (some (y1.1,y2.2))))))))
theorem Dw:YM Ct Cs:=lS (by kernel_rfl)
theorem N8:Jz E_ E8:=cT BI rfl ⟨rfl,rfl⟩ (by kernel_rfl)
def O7 (x0:ByteArray):Option Bool:=((CC (x0.size:Int) 1 12).bind fun y1=>(some y1))
theorem U0:Jz O7 LW:=cT Hh rfl ⟨rfl,rfl⟩ (by kernel_rfl)
def QQ:=cG Ke (AS CA) (AS CA) kx
def QR:=kE 0 [(5,1)] [5] 2 QQ kx
def O8:St->Option (RT (Bs.outs CA)):=lG Kc [(5,1)] [0,1,5,6] 2 (AS CA) QR
def D4 (x0 x1:Int) (x2:AA) (x3:List Int):Option (ByteArray×AA):=O8 ⟨[(0,.ptr 0 0),(1,.int .i64 x0),(5,.row 1),(6,.int .i64 x1)],[.var (AM.enc x2),.rows 5 (.int .u8) x3]⟩
def GD (x0 x1:Int) (x2:AA) (x3:List Int):Option (ByteArray×AA):=(if (decide (x1<x0))=true then ((Bh x2).bind fun y1=>(if x3.length+([(IntKind.u8.wrap y1.1)]:List Int).length<=68719476736 then (D4 x0 (i64.wrap (x1+1)) y1.2 (x3++([(IntKind.u8.wrap y1.1)]:List Int))) else none)) else (some ((AC x3),x2)))
def Mu (x1:Int) (b0:AA):Option (ByteArray×AA):=(if (decide (x1>5000))=true then (D4 5000 0 b0 ([]:List Int)) else (D4 x1 0 b0 ([]:List Int)))
theorem Jc:YM GD D4:=lS (by kernel_rfl)
theorem TC:SY Mu Fu:=cT CA rfl ⟨rfl,rfl⟩ (by kernel_rfl)
def QS:=cG I4 (AS BJ) (AS BJ) kx
def Gn:=kE 0 [] [0] 0 QS kx
def Jd:St->Option (RT (Bs.outs BJ)):=lG I3 [] [0,1,5] 0 (AS BJ) Gn
def QT:=kB [] [0,1,5] 0 Jd
def K5:=cG I2 QT (AS BJ) Gn
def QU:=kB [] [0,1,5] 0 K5
def QV:=kE 1 [] [0,1,5] 0 K5 Gn
def QW:=kE 2 [] [0,1,5] 0 QU QV
def O9:St->Option (RT (Bs.outs BJ)):=lG Kf [] [0,1,5,6] 0 (AS BJ) QW
def CM (x0:Int) (x1:ByteArray) (x2 x3:Int):Option Int:=O9 ⟨[(0,.int .u32 x0),(1,.str x1),(5,.int .i64 x2),(6,.int .i64 x3)],[]⟩
def CN (x0:Int) (x1:ByteArray) (x2:Int):Option Int:=Jd ⟨[(0,.int .u32 x0),(1,.str x1),(5,.int .i64 x2)],[]⟩
def GE (x0:Int) (x1:ByteArray) (x2 x3:Int):Option Int:=(if (decide (x3<8))=true then (if 2=0 then none else (if 2=0 then none else (if ((Int.tmod x0 2)==1)=true then (CM (CF .u32 (IntKind.u32.wrap (Int.tdiv x0 2)) 3558460437) x1 x2 (i64.wrap (x3+1))) else (CM (IntKind.u32.wrap (Int.tdiv x0 2)) x1 x2 (i64.wrap (x3+1)))))) else (CN x0 x1 (i64.wrap (x2+1))))
def GF (x0:Int) (x1:ByteArray) (x2:Int):Option Int:=(if (decide (x2<(x1.size:Int)))=true then (if 0<=x2 then (if x2<(x1.size:Int) then (CM (CF .u32 x0 (IntKind.u32.wrap ((x1.data.toList.getD x2.toNat 0).toNat:Int))) x1 x2 0) else none) else none) else (some x0))
def Mv (x0:Int) (x1:ByteArray):Option Int:=(CN x0 x1 0)
theorem Je:YM GE CM:=lS (by kernel_rfl)
theorem Jf:WE GF CN:=lS (by kernel_rfl)
theorem TD:SY Mv IE:=cT BJ rfl ⟨rfl,rfl⟩ (by kernel_rfl)
def O_ (x0:ByteArray):Option Int:=((IH 4294967295 x0).bind fun y1=>(some y1))
theorem U1:Jz O_ LX:=cT Hi rfl ⟨rfl,rfl⟩ (by kernel_rfl)
def PA:=cG I6 (AS Bo) (AS Bo) kx
def PB:=kE 0 [(3,1)] [3] 2 PA kx
def N9:St->Option (RT (Bs.outs Bo)):=lG I5 [(3,1)] [0,3,4] 2 (AS Bo) PB
def Dl (x0:Int) (x1:AA) (x2:List Y):Option (List Y×AA):=N9 ⟨[(0,.ptr 0 0),(3,.row 1),(4,.int .i64 x0)],[.var (AM.enc x1),.rows 49 AE x2]⟩
def Dm (x0:Int) (x1:AA) (x2:List Y):Option (List Y×AA):=((AW 6 x1).bind fun y1=>(if (decide (x0<y1.1))=true then ((EL y1.2).bind fun y2=>((II x2 y2.1).bind fun y3=>(Dl (i64.wrap (x0+1)) y2.2 y3))) else (some (x2,y1.2))))
def L1 (b0:AA):Option (List Y×AA):=(Dl 0 b0 ([]:List Y))
theorem FA:WE Dm Dl:=lS (by kernel_rfl)
theorem Re:Jz L1 Ey:=cT Bo rfl ⟨rfl,rfl⟩ (by kernel_rfl)
def Mw (b0:AA):Option (Y×AA):=((J6 b0).bind fun y1=>((J7 y1.2).bind fun y2=>((AW 30 y2.2).bind fun y3=>(some ((y1.1,y2.1,(i64.wrap (1001+y3.1))),y3.2)))))
theorem TE:Jz Mw EL:=cT Fk rfl ⟨rfl,rfl⟩ (by kernel_rfl)
def Mx (x1:List ByteArray) (b0:AA):Option (ByteArray×AA):=((AW (x1.length:Int) b0).bind fun y1=>(if 0<=y1.1 then (if y1.1<(x1.length:Int) then (some ((x1.getD y1.1.toNat Z),y1.2)) else none) else none))
theorem TF:SY Mx EM:=cT Fl rfl ⟨rfl,rfl⟩ (by kernel_rfl)
def QX:=cG Kh (AS CB) (AS CB) kx
def QY:=kE 0 [(5,0)] [5] 1 QX kx
def PC:St->Option (RT (Bs.outs CB)):=lG Kg [(5,0)] [0,1,5,6] 1 (AS CB) QY
def D5 (x0 x1 x2:Int) (x3:List Int):Option ByteArray:=PC ⟨[(0,.int .i64 x0),(1,.int .u8 x1),(5,.row 0),(6,.int .i64 x2)],[.rows 5 (.int .u8) x3]⟩
def GG (x0 x1 x2:Int) (x3:List Int):Option ByteArray:=(if (decide (x2<x0))=true then (if 0<=x2 then (if x2<(x3.length:Int) then (let z1:List Int:=x3.set x2.toNat x1; (D5 x0 x1 (i64.wrap (x2+1)) z1)) else none) else none) else (some (AC x3)))
def My (x0 x1:Int):Option ByteArray:=(if 0<=x0 then (if x0<=68719476736 then (D5 x0 x1 0 (List.replicate x0.toNat 0)) else none) else none)
theorem Jg:YM GG D5:=lS (by kernel_rfl)
theorem TG:SY My IF:=cT CB rfl ⟨rfl,rfl⟩ (by kernel_rfl)
def QZ:=cG I7 (AS Bf) (AS Bf) kx
def K6:=kE 0 [] [3,4] 0 QZ kx
def Jh:St->Option (RT (Bs.outs Bf)):=lG Kj [] [0,3,4] 0 (AS Bf) K6
def K7:=kB [] [0,3,4] 0 Jh
def Qa:=kB [] [0,3,4] 0 K7
def Qb:=kE 1 [] [0,3,4] 0 K7 K6
def GH (x0:Int) (x1:Bool) (x2:ByteArray) (x3:Int):Option ByteArray:=cG Ki Qa (AS Bf) Qb ⟨[(0,.int .i64 x0),(3,.bool x1),(4,.str x2),(5,.int .i64 x3)],[]⟩
def D6 (x0:Int) (x1:Bool) (x2:ByteArray):Option ByteArray:=Jh ⟨[(0,.int .i64 x0),(3,.bool x1),(4,.str x2)],[]⟩
def Ji (x0:Int) (x1:Bool) (x2:ByteArray) (x3:Int):Option ByteArray:=((Gf x3).bind fun y1=>(if (AC ([y1]:List Int)).size+x2.size<=1099511627776 then (if 10=0 then none else (D6 (i64.wrap (Int.tdiv x0 10)) x1 ((AC ([y1]:List Int))++x2))) else none))
def D7 (x0:Int) (x1:Bool) (x2:ByteArray):Option ByteArray:=(if (x0 != 0)=true then (if 10=0 then none else (if (decide ((Int.tmod x0 10)<0))=true then (GH x0 x1 x2 (i64.wrap (0-(Int.tmod x0 10)))) else (GH x0 x1 x2 (Int.tmod x0 10)))) else (if x1=true then (if (⟨#[45]⟩:ByteArray).size+x2.size<=1099511627776 then (some ((⟨#[45]⟩:ByteArray)++x2)) else none) else (some x2)))
def IP (x0:Int):Option ByteArray:=(if (x0==0)=true then (some (⟨#[48]⟩:ByteArray)) else (D6 x0 (decide (x0<0)) (⟨#[]⟩:ByteArray)))
theorem PD:YM Ji GH:=jS (by kernel_rfl)
theorem GI:WE D7 D6:=lS (by kernel_rfl)
theorem Mz:Jz IP IG:=cT Bf rfl ⟨rfl,rfl⟩ (by kernel_rfl)
def Qc:=cG I_ (AS BK) (AS BK) kx
def Gp:=kE 0 [] [0] 0 Qc kx
def Jj:St->Option (RT (Bs.outs BK)):=lG I9 [] [0,1,5] 0 (AS BK) Gp
def Qd:=kB [] [0,1,5] 0 Jj
def K8:=cG I8 Qd (AS BK) Gp
def Qe:=kB [] [0,1,5] 0 K8
def Qf:=kE 1 [] [0,1,5] 0 K8 Gp
def Qg:=kE 2 [] [0,1,5] 0 Qe Qf
def PE:St->Option (RT (Bs.outs BK)):=lG Kk [] [0,1,5,19] 0 (AS BK) Qg
def CO (x0:Int) (x1:ByteArray) (x2 x3:Int):Option Int:=PE ⟨[(0,.int .u32 x0),(1,.str x1),(5,.int .i64 x2),(19,.int .i64 x3)],[]⟩
def CP (x0:Int) (x1:ByteArray) (x2:Int):Option Int:=Jj ⟨[(0,.int .u32 x0),(1,.str x1),(5,.int .i64 x2)],[]⟩
def GJ (x0:Int) (x1:ByteArray) (x2 x3:Int):Option Int:=(if (decide (x3<8))=true then (if 1<0 then none else (if ((Dx .u32 x0 1)==1)=true then (CO (CF .u32 (Int.fdiv x0 (2^(min (1:Int).toNat (IntKind.bits .u32)))) 3558460437) x1 x2 (i64.wrap (x3+1))) else (CO (Int.fdiv x0 (2^(min (1:Int).toNat (IntKind.bits .u32)))) x1 x2 (i64.wrap (x3+1))))) else (CP x0 x1 (i64.wrap (x2+1))))
def GK (x0:Int) (x1:ByteArray) (x2:Int):Option Int:=(if (decide (x2<(x1.size:Int)))=true then (if 0<=x2 then (if x2<(x1.size:Int) then (CO (CF .u32 x0 (IntKind.u32.wrap ((x1.data.toList.getD x2.toNat 0).toNat:Int))) x1 x2 0) else none) else none) else (some x0))
def M0 (x0:Int) (x1:ByteArray):Option Int:=(CP x0 x1 0)
theorem Jk:YM GJ CO:=lS (by kernel_rfl)
theorem Jl:WE GK CP:=lS (by kernel_rfl)
theorem TH:SY M0 IH:=cT BK rfl ⟨rfl,rfl⟩ (by kernel_rfl)
def Qh:=cG Fm (AS Ae) (AS Ae) kx
def Qi:=kE 2 [(5,1),(6,2)] [0,5,6] 3 Qh kx
def PF:St->Option (RT (Bs.outs Ae)):=lG JA [(5,1),(6,2)] [0,3,5,6,8] 3 (AS Ae) Qi
def Qj:=cG Fn (AS Ae) (AS Ae) kx
def Gq:=kE 0 [(5,1),(6,2)] [0,3,5,6] 3 Qj kx
def Jm:St->Option (RT (Bs.outs Ae)):=lG Kn [(5,1),(6,2)] [0,3,5,6,7] 3 (AS Ae) Gq
def Qk:=kB [(5,1),(6,2)] [0,3,5,6,7] 3 Jm
def K9:=cG Km Qk (AS Ae) Gq
def Ql:=kB [(5,1),(6,2)] [0,3,5,6,7] 3 K9
def Qm:=kE 1 [(5,1),(6,2)] [0,3,5,6,7] 3 K9 Gq
def D8 (x0:List Y) (x1:Int) (x2:Y) (x3 x4:List Y):Option (List Y):=cG Kl Ql (AS Ae) Qm ⟨[(0,.lst AE x0),(3,.ptr 0 0),(5,.row 1),(6,.row 2),(7,.int .i64 x1)],[.var (AE.enc x2),.rows 49 AE x3,.rows 49 AE x4]⟩
def GL (x0:List Y) (x1:Y) (x2 x3:List Y):Option (List Y):=cG Fm (AS Ae) (AS Ae) kx ⟨[(0,.lst AE x0),(5,.row 1),(6,.row 2)],[.var (AE.enc x1),.rows 49 AE x2,.rows 49 AE x3]⟩
def CQ (x0:List Y) (x1:Int) (x2:Y) (x3 x4:List Y):Option (List Y):=PF ⟨[(0,.lst AE x0),(3,.ptr 0 0),(5,.row 1),(6,.row 2),(8,.int .i64 x1)],[.var (AE.enc x2),.rows 49 AE x3,.rows 49 AE x4]⟩
def GM (x0:List Y) (x1:Y) (x2 x3:List Y):Option (List Y):=cG Fn (AS Ae) (AS Ae) kx ⟨[(0,.lst AE x0),(3,.ptr 0 0),(5,.row 1),(6,.row 2)],[.var (AE.enc x1),.rows 49 AE x2,.rows 49 AE x3]⟩
def CR (x0:List Y) (x1:Int) (x2:Y) (x3 x4:List Y):Option (List Y):=Jm ⟨[(0,.lst AE x0),(3,.ptr 0 0),(5,.row 1),(6,.row 2),(7,.int .i64 x1)],[.var (AE.enc x2),.rows 49 AE x3,.rows 49 AE x4]⟩
def Jn (x0:List Y) (x1:Int) (x2:Y) (x3 x4:List Y):Option (List Y):=(if 0<=x1 then (if x1<(x0.length:Int) then (if (((x0.getD x1.toNat (Z,Z,0)).1).toList==x2.1.toList)=true then (if 0<=x1 then (if x1<(x0.length:Int) then (if (decide ((((x0.getD x1.toNat (Z,Z,0)).2).2)>=x2.2.2))=true then (some x3) else (CR x0 (i64.wrap (x1+1)) x2 x3 x4)) else none) else none) else (CR x0 (i64.wrap (x1+1)) x2 x3 x4)) else none) else none)
def Jo (x0:List Y) (x1:Y) (x2 x3:List Y):Option (List Y):=((EJ x0).bind fun y1=>(if (!y1)=false then ((EJ x3).bind fun y2=>(if (!y2)=true then (some x2) else (some x3))) else (some x2)))
def GN (x0:List Y) (x1:Int) (x2:Y) (x3 x4:List Y):Option (List Y):=(if (decide (x1<(x0.length:Int)))=true then (if 0<=x1 then (if x1<(x0.length:Int) then (if (!((Op.bytesLess ((x0.getD x1.toNat (Z,Z,0)).1).toList x2.1.toList)||(((x0.getD x1.toNat (Z,Z,0)).1).toList==x2.1.toList)))=true then (if 0<=x1 then (if x1<(x0.length:Int) then (if x4.length+([x0.getD x1.toNat (Z,Z,0)]:List Y).length<=68719476736 then (CQ x0 (i64.wrap (x1+1)) x2 x3 (x4++([x0.getD x1.toNat (Z,Z,0)]:List Y))) else none) else none) else none) else (CQ x0 (i64.wrap (x1+1)) x2 x3 x4)) else none) else none) else (GL x0 x2 x3 x4))
def Jp (x0:List Y) (x1:Y) (x2 x3:List Y):Option (List Y):=(if x3.length+([x1]:List Y).length<=68719476736 then (CQ x0 0 x1 x2 (x3++([x1]:List Y))) else none)
def GO (x0:List Y) (x1:Int) (x2:Y) (x3 x4:List Y):Option (List Y):=(if (decide (x1<(x0.length:Int)))=true then (if 0<=x1 then (if x1<(x0.length:Int) then (if (Op.bytesLess ((x0.getD x1.toNat (Z,Z,0)).1).toList x2.1.toList)=true then (if 0<=x1 then (if x1<(x0.length:Int) then (if x4.length+([x0.getD x1.toNat (Z,Z,0)]:List Y).length<=68719476736 then (D8 x0 x1 x2 x3 (x4++([x0.getD x1.toNat (Z,Z,0)]:List Y))) else none) else none) else none) else (D8 x0 x1 x2 x3 x4)) else none) else none) else (GM x0 x2 x3 x4))
def M1 (x0:List Y) (x1:Y):Option (List Y):=(if ([]:List Y).length+x0.length<=68719476736 then (CR x0 0 x1 (([]:List Y)++x0) ([]:List Y)) else none)
theorem PG:aF Jn D8:=jS (by kernel_rfl)
theorem PH:YM Jo GL:=jS (by kernel_rfl)
theorem Jq:aF GN CQ:=lS (by kernel_rfl)
theorem PI:YM Jp GM:=jS (by kernel_rfl)
theorem Jr:aF GO CR:=lS (by kernel_rfl)
theorem TI:SY M1 II:=cT Ae rfl ⟨rfl,rfl⟩ (by kernel_rfl)
def Nj (b0:AA):Option (ByteArray×AA):=((EM ([(⟨#[97]⟩:ByteArray),(⟨#[98]⟩:ByteArray),(⟨#[99]⟩:ByteArray),(⟨#[100]⟩:ByteArray),(⟨#[101]⟩:ByteArray),(⟨#[102]⟩:ByteArray),(⟨#[103]⟩:ByteArray),(⟨#[104]⟩:ByteArray),(⟨#[107,49]⟩:ByteArray),(⟨#[107,50]⟩:ByteArray),(⟨#[107,51]⟩:ByteArray),(⟨#[107,101,121]⟩:ByteArray)]:List ByteArray) b0).bind fun y1=>(some (y1.1,y1.2)))
theorem Ty:Jz Nj J6:=cT G2 rfl ⟨rfl,rfl⟩ (by kernel_rfl)
def Nk (b0:AA):Option (ByteArray×AA):=((EM ([(⟨#[]⟩:ByteArray),(⟨#[118]⟩:ByteArray),(⟨#[119]⟩:ByteArray),(⟨#[120,120]⟩:ByteArray),(⟨#[121,121,121]⟩:ByteArray)]:List ByteArray) b0).bind fun y1=>(some (y1.1,y1.2)))
theorem Tz:Jz Nk J7:=cT G3 rfl ⟨rfl,rfl⟩ (by kernel_rfl)
def Gr (x0:Int):Option Int:=(if (decide (x0<10))=true then (some (IntKind.u8.wrap (i64.wrap (48+x0)))) else (some (IntKind.u8.wrap (i64.wrap ((i64.wrap (97+x0))-10)))))
theorem K_:Jz Gr Gf:=cT EU rfl ⟨rfl,rfl⟩ (by kernel_rfl)
end
end Go.Proofs.Ytffahmnodgnohaa.Core


namespace Go.Proofs.Ytffahmnodgnohaa.Core
open Go
theorem AN {n:Int} (h:-9223372036854775808<=n/\n<=9223372036854775807):IntKind.i64.wrap n=n:=IntWalk.i64_in n h
theorem Af {i:Nat} (h:i<9223372036854775807):IntKind.i64.wrap ((i:Int)+1)=((i+1:Nat):Int):=by
 rw [AN (by omega)]
 omega
theorem IY {P:Nat->Prop} {n:Nat} (h0:P n) (h:∀ i,i<n->P (i+1)->P i):∀ i,i<=n->P i:=by
 intro i hi
 induction hk:n-i generalizing i with
 | zero =>
  have:i=n:=by omega
  subst this
  exact h0
 | succ k ih=>exact h i (by omega) (ih (i+1) (by omega) (by omega))
theorem D9 {α:Type} {xs:List α} {i:Nat} {d:α} (h:i<xs.length):xs.getD i d=xs[i]:=by
 simp [List.getD,h]

theorem E2 (a b c:Int):B3 a b c=some (decide (b<=a)&&decide (a<=c)):=Uy (by
 unfold O2
 by_cases h:b<=a<;>simp [h])
theorem D_ (a b c:Int):CC a b c=some (decide (b<=a)&&decide (a<=c)):=S8 (by
 unfold Ml
 by_cases h:b<=a<;>simp [h])

def bc (x:List (ByteArray×ByteArray×Int)) (k:ByteArray):ByteArray×ByteArray×Int :=
 (x.find? fun a=>a.1.toList==k.toList).getD (Z,Z,0)
theorem NH {α:Type} {x:List α} {i:Nat} (h:i<x.length):x.drop i=x[i]::x.drop (i+1):=List.drop_eq_getElem_cons h

theorem Rf k:LW k=some (decide (1<=(k.size:Int))&&decide ((k.size:Int)<=12)):=U0 (by simp [O7,D_])
theorem Qn n:G5 n=some (decide (1<=n)&&decide (n<=6)):=Tw (by simp [Nh,D_])

def NI (a:ByteArray×ByteArray×Int):Bool:=(decide (1<=(a.1.size:Int))&&decide ((a.1.size:Int)<=12))&&decide ((a.2.1.size:Int)<=20)&&(decide (1<=a.2.2)&&decide (a.2.2<=1000000000))
def Bn (x:List (ByteArray×ByteArray×Int)) (i:Nat):Nat->Bool
 | 0=>decide ((x.length:Int)<=12)
 | k+1=>NI (x.getD i (Z,Z,0))&&(decide (i=0)||Op.bytesLess (x.getD (i-1) (Z,Z,0)).1.toList (x.getD i (Z,Z,0)).1.toList)&&Bn x (i+1) k
theorem bD (n:Int):decide (n>20)=!decide (n<=20):=by
 by_cases h:n<=20<;>simp [h]
 omega
theorem UH {i:Nat} (h:i<9223372036854775807) (h0:0<i):IntKind.i64.wrap ((i:Int)-1)=((i-1:Nat):Int):=by
 rw [AN (by omega)]
 omega
theorem GP (x) (h:x.length<=maxLen):EJ x=some (Bn x 0 x.length):=S7 (by
 have hm:x.length<=9223372036854775807:=h
 unfold Mk
 have:=IY (n:=x.length) (P:=fun i=>DC x (i:Int)=some (Bn x i (x.length-i))) (JT (by
  unfold F_
  rw [if_neg (by simp),Nat.sub_self]
  rfl)) (fun i hi ih=>JT (by
  unfold F_
  have e:x.length-i=(x.length-(i+1))+1:=by omega
  simp only [show ((i:Int)<(x.length:Int)) from by omega,decide_true,if_true,show (0:Int)<=(i:Int) from by omega,BN,Af (show i<9223372036854775807 by omega),ih,E2,J,bD]
  rw [e,Bn,NI]
  generalize (decide (1<=((x.getD i (Z,Z,0)).1.size:Int))&&decide (((x.getD i (Z,Z,0)).1.size:Int)<=12))=a
  generalize decide (((x.getD i (Z,Z,0)).2.1.size:Int)<=20)=b
  generalize (decide (1<=(x.getD i (Z,Z,0)).2.2)&&decide ((x.getD i (Z,Z,0)).2.2<=1000000000))=c
  cases a
  ·simp
  cases b
  ·simp
  cases c
  ·simp
  by_cases h0:0<i
  ·rw [UH (by omega) h0]
   simp only [BN,show ((0:Int)<=((i-1:Nat):Int)) from by omega,show (((i-1:Nat):Int)<(x.length:Int)) from by omega,if_true]
   rcases Bool.eq_false_or_eq_true (Op.bytesLess (x.getD (i-1) (Z,Z,0)).1.toList (x.getD i (Z,Z,0)).1.toList) with hb | hb<;>simp only [hb]<;>simp [h0,show i≠0 by omega]
  ·have:i=0:=by omega
   subst this
   simp)) 0 (by omega)
 simpa using this)
theorem PJ (x) (h:x.length<=maxLen) (hl:∀ a b:List UInt8,(Op.bytesLess a b||a==b)=!Op.bytesLess b a):ID x=some (Bn x 0 x.length):=S9 (by
 have hm:x.length<=9223372036854775807:=h
 unfold Mm
 have:=IY (n:=x.length) (P:=fun i=>DD x x (x.length:Int) (i:Int)=some (Bn x i (x.length-i))) (JU (by
  unfold GA
  rw [if_neg (by simp),Nat.sub_self]
  rfl)) (fun i hi ih=>JU (by
  unfold GA
  have e:x.length-i=(x.length-(i+1))+1:=by omega
  simp only [show ((i:Int)<(x.length:Int)) from by omega,decide_true,if_true,show (0:Int)<=(i:Int) from by omega,BN,Af (show i<9223372036854775807 by omega),ih,D_,Rf,J,bD,hl]
  rw [e,Bn,NI]
  generalize (decide (1<=((x.getD i (Z,Z,0)).1.size:Int))&&decide (((x.getD i (Z,Z,0)).1.size:Int)<=12))=a
  generalize decide (((x.getD i (Z,Z,0)).2.1.size:Int)<=20)=b
  generalize (decide (1<=(x.getD i (Z,Z,0)).2.2)&&decide ((x.getD i (Z,Z,0)).2.2<=1000000000))=c
  cases a
  ·simp
  cases b
  ·simp
  cases c
  ·simp
  by_cases h0:0<i
  ·rw [UH (by omega) h0]
   simp only [BN,show ((0:Int)<=((i-1:Nat):Int)) from by omega,show (((i-1:Nat):Int)<(x.length:Int)) from by omega,if_true]
   rcases Bool.eq_false_or_eq_true (Op.bytesLess (x.getD (i-1) (Z,Z,0)).1.toList (x.getD i (Z,Z,0)).1.toList) with hb | hb<;>simp only [hb]<;>simp [h0,show i≠0 by omega]
  ·have:i=0:=by omega
   subst this
   simp)) 0 (by omega)
 simpa using this)
theorem RA:∀ a b:List UInt8,(Op.bytesLess a b||a==b)=!Op.bytesLess b a
 | [],[]=>rfl
 | [],_::_=>rfl
 | _::_,[]=>rfl
 | a::l,b::m=>by
  have ih:=RA l m
  simp only [Op.bytesLess]
  by_cases h1:a<b
  ·have h2:¬ b<a:=by exact UInt8.not_lt.2 (UInt8.le_of_lt h1)
   have h3:¬ b=a:=fun h=>by subst h; exact absurd h1 (UInt8.lt_irrefl _)
   simp [h1,h2,h3]
  ·by_cases h2:b<a
   ·have h3:¬ a=b:=fun h=>by subst h; exact absurd h2 (UInt8.lt_irrefl _)
    simp [h1,h2,h3]
   ·have h3:a=b:=UInt8.le_antisymm (UInt8.not_lt.1 h2) (UInt8.not_lt.1 h1)
    subst h3
    simpa [h1] using ih

abbrev EC:Type:=Int×Int×Int×Int×Int×List (ByteArray×ByteArray×Int)
def GQ (x:EC):Bool :=
 (decide (1<=x.1)&&decide (x.1<=8))&&(decide (1<=x.2.1)&&decide (x.2.1<=6))&&(decide (1<=x.2.2.1)&&decide (x.2.2.1<=6))&&(decide (1<=x.2.2.2.1)&&decide (x.2.2.2.1<=9))&&(decide (0<=x.2.2.2.2.1)&&decide (x.2.2.2.2.1<=1000000000))&&Bn x.2.2.2.2.2 0 x.2.2.2.2.2.length &&
  (if x.1=2\/x.1=3 then true else if x.1=5 then ((x.2.2.2.2.2.length:Int)==1) else ((x.2.2.2.2.2.length:Int)==0))
theorem L2 (x:EC) (h:x.2.2.2.2.2.length<=maxLen):Hl x=some (GQ x):=Uw (by
 have w1:∀ a b,Ez a b x=some (if b=true then true else if a=5 then ((x.2.2.2.2.2.length:Int)==1) else ((x.2.2.2.2.2.length:Int)==0)):=fun a b=>RR (by
  unfold Ls
  by_cases h1:b=true<;>by_cases h2:a=5<;>simp [h1,h2])
 have w0:∀ b,HM b x=some (if x.1=2\/x.1=3 then true else if x.1=5 then ((x.2.2.2.2.2.length:Int)==1) else ((x.2.2.2.2.2.length:Int)==0)):=fun b=>RS (by
  unfold Lt
  by_cases h1:x.1=2<;>by_cases h2:x.1=3<;>simp [h1,h2,w1])
 unfold Ox GQ
 simp only [E2,GP _ h,J,w0]
 generalize (decide (1<=x.1)&&decide (x.1<=8))=a
 generalize (decide (1<=x.2.1)&&decide (x.2.1<=6))=b
 generalize (decide (1<=x.2.2.1)&&decide (x.2.2.1<=6))=c
 generalize (decide (1<=x.2.2.2.1)&&decide (x.2.2.2.1<=9))=d
 generalize (decide (0<=x.2.2.2.2.1)&&decide (x.2.2.2.2.1<=1000000000))=e
 generalize Bn x.2.2.2.2.2 0 x.2.2.2.2.2.length=f
 cases a<;>cases b<;>cases c<;>cases d<;>cases e<;>cases f<;>simp)
theorem L4 (x:EC) (h:x.2.2.2.2.2.length<=maxLen):Hm x=some (GQ x):=Ux (by
 have w1:∀ a b,E0 a b x=some (if b=true then true else if a=5 then ((x.2.2.2.2.2.length:Int)==1) else ((x.2.2.2.2.2.length:Int)==0)):=fun a b=>RU (by
  unfold Lu
  by_cases h1:b=true<;>by_cases h2:a=5<;>simp [h1,h2])
 have w0:∀ b,HN b x=some (if x.1=2\/x.1=3 then true else if x.1=5 then ((x.2.2.2.2.2.length:Int)==1) else ((x.2.2.2.2.2.length:Int)==0)):=fun b=>RV (by
  unfold Lv
  by_cases h1:x.1=2<;>by_cases h2:x.1=3<;>simp [h1,h2,w1])
 unfold Oy GQ
 simp only [D_,Qn,PJ _ h RA,J,w0]
 generalize (decide (1<=x.1)&&decide (x.1<=8))=a
 generalize (decide (1<=x.2.1)&&decide (x.2.1<=6))=b
 generalize (decide (1<=x.2.2.1)&&decide (x.2.2.1<=6))=c
 generalize (decide (1<=x.2.2.2.1)&&decide (x.2.2.2.1<=9))=d
 generalize (decide (0<=x.2.2.2.2.1)&&decide (x.2.2.2.2.1<=1000000000))=e
 generalize Bn x.2.2.2.2.2 0 x.2.2.2.2.2.length=f
 cases a<;>cases b<;>cases c<;>cases d<;>cases e<;>cases f<;>simp)

theorem RB {n:Int} (h:0<=n/\n<256):IntKind.u8.wrap n=n:=by
 have e:IntKind.u8.wrap n=n % 256:=rfl
 rw [e]; omega
theorem TJ {n:Int} (h:0<=n/\n<4294967296):IntKind.u32.wrap n=n:=by
 have e:IntKind.u32.wrap n=n % 4294967296:=rfl
 rw [e]; omega
theorem Ws (n:Int):0<=IntKind.u8.wrap n/\IntKind.u8.wrap n<256:=by
 have e:IntKind.u8.wrap n=n % 256:=rfl
 rw [e]; omega
theorem aM (n:Int):0<=IntKind.u32.wrap n/\IntKind.u32.wrap n<4294967296:=by
 have e:IntKind.u32.wrap n=n % 4294967296:=rfl
 rw [e]; omega
theorem IQ (a b:List Int):AC (a++b)=AC a++AC b:=by
 apply ByteArray.ext
 simp [AC,ByteArray.data_append]
theorem AX (a:List Int):(AC a).size=a.length:=by simp [AC,ByteArray.size]
theorem AR (b:ByteArray):(AG b).length=b.size:=by simp [AG]
theorem GR (b:ByteArray):AC (AG b)=b:=by
 apply ByteArray.ext
 apply Array.ext'
 simp only [AC,AG,List.map_map]
 have:((fun n:Int=>UInt8.ofNat n.toNat) ∘ fun u:UInt8=>(u.toNat:Int))=id:=by funext u; simp
 rw [this,List.map_id]
theorem Hn (a b:List Int):Cv (a++b)=(Cv a&&Cv b):=by simp [Cv]
theorem U2 (b:ByteArray):Cv (AG b)=true:=by
 simp only [Cv,AG,List.all_map,Am,Function.comp,O,decide_eq_true_eq]
 intro u _
 have:u.toNat<256:=u.toNat_lt
 omega
theorem CD:∀ {a:List Int},Cv a=true->AG (AC a)=a
 | [],_=>rfl
 | x::a,h=>by
  simp only [Cv,List.all_cons,O,decide_eq_true_eq] at h
  have ih:=CD (a:=a) (by simpa [Cv] using h.2)
  have e:((UInt8.ofNat x.toNat).toNat:Int)=x:=by
   have:x.toNat<256:=by omega
   simp [UInt8.toNat_ofNat',Nat.mod_eq_of_lt this]
   omega
  simp only [AC,AG,List.map_cons,e,List.cons.injEq,true_and] at ih ⊢
  exact ih
theorem Du (a b:ByteArray):AG (a++b)=AG a++AG b:=by
 simp [AG,ByteArray.data_append]
theorem Vl {a b:List Int} (ha:Cv a=true) (hb:Cv b=true) (h:AC a=AC b):a=b:=by
 rw [<- CD ha,<- CD hb,h]
def Dn (n:Nat):List Int:=if n>127 then ((128+n % 128:Nat):Int)::Dn (n / 128) else [(n:Int)]
termination_by n
decreasing_by omega
theorem DQ (n:Nat):(Dn n).length<=n / 127+1:=by
 induction n using Nat.strongRecOn with
 | _ n ih =>
  rw [Dn]
  split
  ·rename_i h
   have:=ih (n / 128) (by omega)
   simp only [List.length_cons]
   omega
  ·simp
theorem M2 (n:Nat):Cv (Dn n)=true:=by
 induction n using Nat.strongRecOn with
 | _ n ih =>
  rw [Dn]
  split
  ·rename_i h
   have:=ih (n / 128) (by omega)
   simp only [Cv,List.all_cons,O,decide_eq_true_eq] at this ⊢
   exact ⟨by omega,this⟩
  ·simp only [Cv,List.all_cons,List.all_nil,O,decide_eq_true_eq,and_true]
   omega
theorem XV (n:Nat):∀ xs:List Int,xs.length+n+1<=68719476736->D1 (n:Int) xs=some (AC (xs++Dn n)):=by
 induction n using Nat.strongRecOn with
 | _ n ih =>
  intro xs hl
  refine O1 ?_
  unfold JQ
  rw [Dn]
  by_cases h:n>127
  ·have e1:Int.tmod (n:Int) 128=((n % 128:Nat):Int):=by rw [Int.tmod_eq_emod_of_nonneg (by omega)]; omega
   have e2:Int.tdiv (n:Int) 128=((n / 128:Nat):Int):=by rw [Int.tdiv_eq_ediv_of_nonneg (by omega)]; omega
   rw [if_pos (by simpa using (by omega:(n:Int)>127)),if_neg (by omega),if_pos (by simp only [List.length_cons,List.length_nil]; omega),if_neg (by omega),e1,e2,AN (n:=128+_) (by omega),RB (by omega),AN (by omega)]
   rw [ih (n / 128) (by omega) _ (by simp only [List.length_append,List.length_cons,List.length_nil]; omega),if_pos h]
   simp
  ·rw [if_neg (by simp; omega),if_pos (by simp only [List.length_cons,List.length_nil]; omega),RB (by omega),if_neg h]
theorem XW (n:Nat):∀ xs:List Int,xs.length+n+1<=68719476736->EY (n:Int) xs=some (AC (xs++Dn n)):=by
 induction n using Nat.strongRecOn with
 | _ n ih =>
  intro xs hl
  refine QC ?_
  unfold Ku
  rw [Dn]
  by_cases h:n>127
  ·have e1:Int.tmod (n:Int) 128=((n % 128:Nat):Int):=by rw [Int.tmod_eq_emod_of_nonneg (by omega)]; omega
   have e2:Int.tdiv (n:Int) 128=((n / 128:Nat):Int):=by rw [Int.tdiv_eq_ediv_of_nonneg (by omega)]; omega
   rw [if_pos (by simpa using (by omega:(n:Int)>127)),if_neg (by omega),if_pos (by simp only [List.length_cons,List.length_nil]; omega),if_neg (by omega),e1,e2,AN (n:=_+128) (by omega),RB (by omega),AN (by omega)]
   rw [ih (n / 128) (by omega) _ (by simp only [List.length_append,List.length_cons,List.length_nil]; omega),if_pos h]
   simp [Nat.add_comm,Int.add_comm]
  ·rw [if_neg (by simp; omega),if_pos (by simp only [List.length_cons,List.length_nil]; omega),RB (by omega),if_neg h]
theorem DG {n:Nat} (h:n<=1000000000):Cr (n:Int)=some (AC (Dn n)):=S6 (by
 unfold Mi
 simpa using XV n [] (by simp; omega))
theorem Cj {n:Nat} (h:n<=1000000000):DL (n:Int)=some (AC (Dn n)):=Tr (by
 unfold Nb
 simpa using XW n [] (by simp; omega))
def J8 (x:Int):Int:=if x % 2=1 then CF .u32 (x / 2) 3558460437 else x / 2
def E3:Nat->Int->Int
 | 0,x=>x
 | n+1,x=>E3 n (J8 x)
def LY (x:Int) (b:UInt8):Int:=E3 8 (CF .u32 x (b.toNat:Int))
def IR (x:Int) (l:List UInt8):Int:=l.foldl LY x
theorem J9 (a b:Int):0<=CF .u32 a b/\CF .u32 a b<4294967296:=aM _
theorem Qo {x:Int} (h:0<=x/\x<4294967296):0<=J8 x/\J8 x<4294967296:=by
 unfold J8
 split
 ·exact J9 _ _
 ·omega
theorem TK:∀ (n:Nat) {x:Int},0<=x/\x<4294967296->0<=E3 n x/\E3 n x<4294967296
 | 0,_,h=>h
 | n+1,_,h=>TK n (Qo h)
theorem EO (x:Int) (b:UInt8):0<=LY x b/\LY x b<4294967296:=TK 8 (J9 _ _)
theorem TL:∀ (l:List UInt8) {x:Int},0<=x/\x<4294967296->0<=IR x l/\IR x l<4294967296
 | [],_,h=>h
 | b::l,x,h=>TL l (EO x b)
theorem Za {x:Int} (h:0<=x/\x<4294967296):Dx .u32 x 1=x % 2:=by
 unfold Dx
 have e:(BitVec.ofInt (IntKind.bits .u32) x &&& BitVec.ofInt (IntKind.bits .u32) 1).toNat=x.toNat % 2:=by
  rw [BitVec.toNat_and]
  have e1:(BitVec.ofInt (IntKind.bits .u32) 1).toNat=1:=by decide
  have e2:(BitVec.ofInt (IntKind.bits .u32) x).toNat=x.toNat:=by
   simp only [BitVec.toNat_ofInt,IntKind.bits]
   omega
  rw [e1,e2,Nat.and_one_is_mod]
 rw [e,TJ (by omega)]
 omega
theorem Rn {b:ByteArray} {i:Nat} (h:i<b.size):b.data.toList.getD i 0=b.data.toList[i]'(by simpa using h):=D9 _
theorem WK {b:ByteArray} {i:Nat} (hi:i<4611686018427387904) {r:Int}:∀ (k:Nat),k<=8->∀ x:Int,0<=x/\x<4294967296->CN (E3 (8-k) x) b ((i+1:Nat):Int)=some r->CM x b (i:Int) (k:Int)=some r :=
 IY (n:=8) (P:=fun k=>∀ x:Int,0<=x/\x<4294967296->CN (E3 (8-k) x) b ((i+1:Nat):Int)=some r->CM x b (i:Int) (k:Int)=some r)
  (fun x hx h=>Je (by
   unfold GE
   rw [if_neg (by simp),Af (by omega)]
   exact h))
  (fun k hk ih x hx h=>Je (by
   unfold GE
   have e:8-k=(8-(k+1))+1:=by omega
   rw [e,E3] at h
   rw [if_pos (by simp; omega),if_neg (by omega),if_neg (by omega),Int.tmod_eq_emod_of_nonneg hx.1,Int.tdiv_eq_ediv_of_nonneg hx.1,TJ (n:=x / 2) (by omega),Af (by omega)]
   unfold J8 at h
   by_cases h2:x % 2=1
   ·rw [if_pos (by simpa using h2)]
    rw [if_pos h2] at h
    exact ih _ (J9 _ _) h
   ·rw [if_neg (by simpa using h2)]
    rw [if_neg h2] at h
    exact ih _ (by omega) h))
theorem WL {b:ByteArray} {i:Nat} (hi:i<4611686018427387904) {r:Int}:∀ (k:Nat),k<=8->∀ x:Int,0<=x/\x<4294967296->CP (E3 (8-k) x) b ((i+1:Nat):Int)=some r->CO x b (i:Int) (k:Int)=some r :=
 IY (n:=8) (P:=fun k=>∀ x:Int,0<=x/\x<4294967296->CP (E3 (8-k) x) b ((i+1:Nat):Int)=some r->CO x b (i:Int) (k:Int)=some r)
  (fun x hx h=>Jk (by
   unfold GJ
   rw [if_neg (by simp),Af (by omega)]
   exact h))
  (fun k hk ih x hx h=>Jk (by
   unfold GJ
   have e:8-k=(8-(k+1))+1:=by omega
   have e2:Int.fdiv x (2^(min (1:Int).toNat (IntKind.bits .u32)))=x / 2:=by
    have:(2:Int)^(min (1:Int).toNat (IntKind.bits .u32))=2:=by decide
    rw [this,Int.fdiv_eq_ediv_of_nonneg _ (by omega)]
   rw [e,E3] at h
   rw [if_pos (by simp; omega),if_neg (by omega),Za hx,e2,Af (by omega)]
   unfold J8 at h
   by_cases h2:x % 2=1
   ·rw [if_pos (by simpa using h2)]
    rw [if_pos h2] at h
    exact ih _ (J9 _ _) h
   ·rw [if_neg (by simpa using h2)]
    rw [if_neg h2] at h
    exact ih _ (by omega) h))
theorem PL {x:Int} {b:ByteArray} (hx:0<=x/\x<4294967296) (hb:b.size<4611686018427387904):IE x b=some (IR x b.data.toList):=TD (by
 have:=IY (n:=b.size) (P:=fun i=>∀ x:Int,0<=x/\x<4294967296->CN x b (i:Int)=some (IR x (b.data.toList.drop i))) (fun x hx=>Jf (by
  unfold GF
  rw [if_neg (by simp),List.drop_eq_nil_of_le (by simp)]
  rfl)) (fun i hi ih x hx=>Jf (by
  unfold GF
  have hl:i<b.data.toList.length:=by simpa using hi
  rw [if_pos (by simpa using hi),if_pos (by omega),if_pos (by omega),BN,Rn hi,TJ (n:=((_:UInt8).toNat:Int)) (by have:=(b.data.toList[i]).toNat_lt; omega),List.drop_eq_getElem_cons hl]
  exact WK (by omega) 0 (by omega) _ (J9 _ _) (ih _ (EO _ _)))) 0 (by omega) x hx
 unfold Mv
 simpa using this)
theorem PM {x:Int} {b:ByteArray} (hx:0<=x/\x<4294967296) (hb:b.size<4611686018427387904):IH x b=some (IR x b.data.toList):=TH (by
 have:=IY (n:=b.size) (P:=fun i=>∀ x:Int,0<=x/\x<4294967296->CP x b (i:Int)=some (IR x (b.data.toList.drop i))) (fun x hx=>Jl (by
  unfold GK
  rw [if_neg (by simp),List.drop_eq_nil_of_le (by simp)]
  rfl)) (fun i hi ih x hx=>Jl (by
  unfold GK
  have hl:i<b.data.toList.length:=by simpa using hi
  rw [if_pos (by simpa using hi),if_pos (by omega),if_pos (by omega),BN,Rn hi,TJ (n:=((_:UInt8).toNat:Int)) (by have:=(b.data.toList[i]).toNat_lt; omega),List.drop_eq_getElem_cons hl]
  exact WL (by omega) 0 (by omega) _ (J9 _ _) (ih _ (EO _ _)))) 0 (by omega) x hx
 unfold M0
 simpa using this)
def FB (l:List UInt8):List Int :=
 let y:=IR 4294967295 l
 [IntKind.u8.wrap (Int.fdiv y (2^(min (24:Int).toNat (IntKind.bits .u32)))),IntKind.u8.wrap (Int.fdiv y (2^(min (16:Int).toNat (IntKind.bits .u32)))),IntKind.u8.wrap (Int.fdiv y (2^(min (8:Int).toNat (IntKind.bits .u32)))),IntKind.u8.wrap y]
theorem UI (l:List UInt8):Cv (FB l)=true:=by
 simp only [FB,Cv,List.all_cons,List.all_nil,Bool.and_true,O,decide_eq_true_eq]
 exact ⟨Ws _,Ws _,Ws _,Ws _⟩
theorem GS {b:ByteArray} (hb:b.size<4611686018427387904):Fs b=some (AC (FB b.data.toList)):=TB (by
 unfold Mo
 rw [show LX b=some (IR 4294967295 b.data.toList) from U1 (by unfold O_; rw [PM (by omega) hb]; rfl),J,if_neg (by omega),if_neg (by omega),if_neg (by omega)]
 rfl)
theorem GT {b:ByteArray} (hb:b.size<4611686018427387904):(Ca b).bind Fq=some (AC (FB b.data.toList)):=by
 rw [show Ca b=some (IR 4294967295 b.data.toList) from Uz (by unfold O5; rw [PL (by omega) hb]; rfl),J]
 exact TA (by
  unfold Mn
  rw [if_neg (by omega),if_neg (by omega),if_neg (by omega)]
  rfl)
def FC (b:ByteArray):ByteArray×Bool:=if b.size>20000 then (Z,false) else (b++AC (FB b.data.toList),true)
theorem Qp {b:ByteArray} (hb:b.size<4611686018427387904):J3 b=some (FC b):=Tt (by
 unfold Nd FC
 by_cases h:b.size>20000
 ·rw [if_pos (by simpa using (by omega:(b.size:Int)>20000)),if_pos h]; rfl
 ·rw [if_neg (by simpa using (by omega:¬ (b.size:Int)>20000)),if_neg h,GS hb,J,if_pos (by rw [AX]; simp only [FB,List.length_cons,List.length_nil]; omega)])
theorem LA {b:ByteArray} (hb:b.size<4611686018427387904):G4 b=some (FC b):=Ts (by
 unfold Nc FC
 by_cases h:b.size>20000
 ·rw [if_pos (by simpa using (by omega:(b.size:Int)>20000)),if_pos h]; rfl
 ·have:=GT hb
  cases h2:Ca b with
  | none=>rw [h2] at this; cases this
  | some y =>
   rw [h2,J] at this
   rw [if_neg (by simpa using (by omega:¬ (b.size:Int)>20000)),if_neg h,J,this,J,if_pos (by rw [AX]; simp only [FB,List.length_cons,List.length_nil]; omega)])

abbrev U3:Type:=ByteArray×ByteArray×Int
def Dq (x:U3):List Int:=Dn x.1.size++AG x.1++Dn x.2.1.size++AG x.2.1++Dn x.2.2.toNat
def M3 (x:EC):List Int:=[x.1,x.2.1,x.2.2.1,x.2.2.2.1]++(Dn x.2.2.2.2.1.toNat++Dn x.2.2.2.2.2.length)
def DN (x:EC):List Int:=M3 x++x.2.2.2.2.2.flatMap Dq
def WM (x:U3):Prop:=x.1.size<=12/\x.2.1.size<=20/\1<=x.2.2/\x.2.2<=1000000000
theorem XX {x:U3} (h:WM x):(Dq x).length<=8000000:=by
 obtain ⟨h1,h2,h3,h4⟩:=h
 have a1:=DQ x.1.size
 have a2:=DQ x.2.1.size
 have a3:=DQ x.2.2.toNat
 simp only [Dq,List.length_append,AR]
 omega
theorem WN (x:U3):Cv (Dq x)=true:=by simp [Dq,Hn,M2,U2]
theorem TM:∀ (l:List U3),Cv (l.flatMap Dq)=true
 | []=>rfl
 | x::l=>by rw [List.flatMap_cons,Hn,WN,TM l]; rfl
theorem U4:∀ (l:List U3),(∀ x∈l,WM x)->(l.flatMap Dq).length<=l.length*8000000
 | [],_=>by simp
 | x::l,h=>by
  have:=U4 l fun y hy=>h y (List.mem_cons_of_mem _ hy)
  have:=XX (h x (List.mem_cons_self ..))
  simp only [List.flatMap_cons,List.length_append,List.length_cons]
  omega
structure Js (x:EC):Prop where
 k:1<=x.1/\x.1<=8
 f:1<=x.2.1/\x.2.1<=6
 t:1<=x.2.2.1/\x.2.2.1<=6
 e:1<=x.2.2.2.1/\x.2.2.2.1<=9
 n:0<=x.2.2.2.2.1/\x.2.2.2.2.1<=1000000000
 l:x.2.2.2.2.2.length<=12
 i:∀ y∈x.2.2.2.2.2,WM y
theorem Vm {x:List U3}:∀ (k i:Nat),i+k=x.length->Bn x i k=true->x.length<=12/\∀ j,i<=j->∀ h:j<x.length,WM x[j]
 | 0,i,e,h=>by
  simp only [Bn,decide_eq_true_eq] at h
  exact ⟨by omega,fun j hj hl=>by omega⟩
 | k+1,i,e,h=>by
  simp only [Bn,O] at h
  obtain ⟨⟨h1,_⟩,h2⟩:=h
  obtain ⟨g1,g2⟩:=Vm k (i+1) (by omega) h2
  refine ⟨g1,fun j hj hl=>?_⟩
  by_cases e2:j=i
  ·subst e2
   rw [D9 hl] at h1
   simp only [NI,O,decide_eq_true_eq] at h1
   exact ⟨by omega,by omega,by omega,by omega⟩
  ·exact g2 j (by omega) hl
theorem Js.of {x:EC} (h:GQ x=true):Js x:=by
 simp only [GQ,O,decide_eq_true_eq] at h
 obtain ⟨⟨⟨⟨⟨⟨h1,h2⟩,h3⟩,h4⟩,h5⟩,h6⟩,_⟩:=h
 obtain ⟨g1,g2⟩:=Vm _ 0 (by omega) h6
 exact ⟨h1,h2,h3,h4,h5,g1,fun y hy=>by
  obtain ⟨j,hj,rfl⟩:=List.mem_iff_getElem.1 hy
  exact g2 j (by omega) hj⟩
theorem WO {x:EC} (h:Js x):Cv (M3 x)=true:=by
 have:=h.k; have:=h.f; have:=h.t; have:=h.e
 simp only [M3,Hn,M2,Bool.and_true]
 simp only [Cv,List.all_cons,List.all_nil,Bool.and_true,O,decide_eq_true_eq]
 omega
theorem Qq {x:EC} (h:Js x):(M3 x).length<=9000000:=by
 have:=h.n; have:=h.l
 have a1:=DQ x.2.2.2.2.1.toNat
 have a2:=DQ x.2.2.2.2.2.length
 simp only [M3,List.length_append,List.length_cons,List.length_nil]
 omega
theorem TN {x:EC} (h:Js x):Cv (DN x)=true:=by
 rw [DN,Hn,WO h,TM]; rfl
theorem UJ {x:EC} (h:Js x):(DN x).length<=200000000:=by
 have:=Qq h
 have:=U4 _ h.i
 have:=h.l
 rw [DN,List.length_append]
 omega
def Al (x:EC):ByteArray×Bool:=if GQ x=true then FC (AC (DN x)) else (Z,false)
theorem TO {x:List U3} {i:Nat} (hi:i<x.length):(x.take (i+1)).flatMap Dq=(x.take i).flatMap Dq++Dq x[i]:=by
 rw [List.take_succ_eq_append_getElem hi,List.flatMap_append]
 simp
theorem Wt {x:List U3} (h:∀ y∈x,WM y) (hl:x.length<=12) (i:Nat):((x.take i).flatMap Dq).length<=96000000:=by
 have:=U4 (x.take i) fun y hy=>h y (List.mem_of_mem_take hy)
 have:(x.take i).length<=x.length:=by simp; omega
 omega
theorem GU (x:EC) (hx:x.2.2.2.2.2.length<=maxLen):EH x=some (Al x):=Sy (by
 unfold Mb Al
 rw [L4 x hx,J]
 cases hm:GQ x with
 | false=>rfl
 | true =>
 rw [if_neg (by simp),if_pos rfl]
 have M:=Js.of hm
 have hn:=M.n
 have hl:=M.l
 have loop:=IY (n:=x.2.2.2.2.2.length) (P:=fun i=>D0 x.2.2.2.2.2 (x.2.2.2.2.2.length:Int) (i:Int) x (M3 x++(x.2.2.2.2.2.take i).flatMap Dq)=some (FC (AC (DN x))))
  (JK (by
   unfold Fx
   rw [if_neg (by simp),List.take_length]
   have hb:=TN M
   have hs:=UJ M
   rw [DN] at hb hs ⊢
   rw [Hk,J,if_pos hb,Qp (by rw [AX]; omega)]
   rfl))
  (fun i hi ih=>JK (by
   unfold Fx
   obtain ⟨q1,q2,q3,q4⟩:=M.i _ (FP hi)
   have e3:(x.2.2.2.2.2[i]).2.2=(((x.2.2.2.2.2[i]).2.2.toNat:Nat):Int):=by omega
   have l1:=DQ (x.2.2.2.2.2[i]).1.size
   have l2:=DQ (x.2.2.2.2.2[i]).2.1.size
   have l3:=DQ (x.2.2.2.2.2[i]).2.2.toNat
   have l4:=Qq M
   have l5:=Wt M.i M.l i
   rw [if_pos (by simpa using hi),if_pos (by omega),if_pos (by omega)]
   simp only [BN,D9 hi]
   rw [DG (by omega),J,if_pos (by rw [AX]; omega),DG (by omega),J,
    if_pos (by simp only [ByteArray.size_append,AX]; omega),if_pos (by simp only [ByteArray.size_append,AX]; omega),e3,DG (by omega),J,
    if_pos (by simp only [ByteArray.size_append,AX]; omega),C7,J,
    if_pos (by simp only [Du,List.length_append,AR,AX]; omega),Af (by omega)]
   rw [TO hi] at ih
   simp only [Du,CD (M2 _)]
   rw [Dq] at ih
   rw [BC]
   exact ih)) 0 (by omega)
 have J1:Fw x [x.1,x.2.1,x.2.2.1,x.2.2.2.1]=some (FC (AC (DN x))):=Ot (by
  unfold JJ
  have e:x.2.2.2.2.1=((x.2.2.2.2.1.toNat:Nat):Int):=by omega
  have l1:=DQ x.2.2.2.2.1.toNat
  have l2:=DQ x.2.2.2.2.2.length
  rw [e,DG (by omega),J,DG (by omega),J,if_pos (by simp only [AX]; omega),C7,J,
   if_pos (by simp only [Du,List.length_append,AR,AX,List.length_cons,List.length_nil]; omega)]
  refine Oq ?_
  unfold JI
  simp only [Du,CD (M2 _)]
  simpa [M3] using loop)
 have k:=M.k; have f:=M.f; have t:=M.t; have e:=M.e
 have step:∀ (i:Nat) (c:Int) (xs:List Int),i<4->([x.1,x.2.1,x.2.2.1,x.2.2.2.1]:List Int).getD i 0=c->0<=c/\c<256->xs.length<=10 ->
   C8 x.1 x.2.1 x.2.2.1 x.2.2.2.1 ((i+1:Nat):Int) x (xs++[c])=some (FC (AC (DN x)))->C8 x.1 x.2.1 x.2.2.1 x.2.2.2.1 (i:Int) x xs=some (FC (AC (DN x))):=fun i c xs hi hc hr hs h=>JL (by
  unfold Fy
  rw [if_pos (by simp; omega),if_pos (by omega),if_pos (by omega),BN,hc,RB hr,Gc,J,if_pos (by simp only [List.length_cons,List.length_nil]; omega),Af (by omega)]
  exact h)
 refine step 0 x.1 [] (by omega) rfl (by omega) (by simp) ?_
 refine step 1 x.2.1 _ (by omega) rfl (by omega) (by simp) ?_
 refine step 2 x.2.2.1 _ (by omega) rfl (by omega) (by simp) ?_
 refine step 3 x.2.2.2.1 _ (by omega) rfl (by omega) (by simp) ?_
 exact JL (by
  unfold Fy
  rw [if_neg (by simp)]
  exact J1))
theorem EA {n:Int} (h:0<=n/\n<256):DX n=some (AC [n]):=S5 (by unfold Mh; rw [RB h])
theorem IS {s:ByteArray} (h:s.size<=1000):Ew s=some (AC (Dn s.size++AG s)):=RY (by
 unfold Lw
 have:=DQ s.size
 rw [Cj (by omega),J,if_pos (by rw [AX]; omega),IQ,GR])
theorem Jt (x:EC) (hx:x.2.2.2.2.2.length<=maxLen):Fo x=some (Al x):=Sx (by
 unfold Ma Al
 rw [L2 x hx,J]
 cases hm:GQ x with
 | false=>rfl
 | true =>
 rw [if_neg (by simp),if_pos rfl]
 have M:=Js.of hm
 have hn:=M.n
 have hl:=M.l
 have loop:=IY (n:=x.2.2.2.2.2.length) (P:=fun i=>Dz (AC (M3 x++(x.2.2.2.2.2.take i).flatMap Dq)) (i:Int) x=some (FC (AC (DN x))))
  (JG (by
   unfold Fv
   have hs:=UJ M
   rw [if_neg (by simp),List.take_length]
   rw [DN] at hs ⊢
   rw [LA (by rw [AX]; omega)]
   rfl))
  (fun i hi ih=>JG (by
   unfold Fv
   obtain ⟨q1,q2,q3,q4⟩:=M.i _ (FP hi)
   have e3:(x.2.2.2.2.2[i]).2.2=(((x.2.2.2.2.2[i]).2.2.toNat:Nat):Int):=by omega
   have l1:=DQ (x.2.2.2.2.2[i]).1.size
   have l2:=DQ (x.2.2.2.2.2[i]).2.1.size
   have l3:=DQ (x.2.2.2.2.2[i]).2.2.toNat
   have l4:=Qq M
   have l5:=Wt M.i M.l i
   rw [if_pos (by simpa using hi),if_pos (by omega),if_pos (by omega),if_pos (by omega),if_pos (by omega),if_pos (by omega),if_pos (by omega)]
   simp only [BN,D9 hi]
   rw [IS (by omega),J,if_pos (by simp only [AX,List.length_append,AR]; omega),IS (by omega),J,
    if_pos (by simp only [ByteArray.size_append,AX,List.length_append,AR]; omega),e3,Cj (by omega),J,
    if_pos (by simp only [ByteArray.size_append,AX,List.length_append,AR]; omega),Af (by omega)]
   rw [TO hi,Dq] at ih
   simp only [<- IQ,BC] at ih ⊢
   exact ih)) 0 (by omega)
 have k:=M.k; have f:=M.f; have t:=M.t; have e:=M.e
 have en:x.2.2.2.2.1=((x.2.2.2.2.1.toNat:Nat):Int):=by omega
 have l1:=DQ x.2.2.2.2.1.toNat
 have l2:=DQ x.2.2.2.2.2.length
 rw [EA (by omega),J,EA (by omega),J,if_pos (by simp only [AX,List.length_cons,List.length_nil]; omega),EA (by omega),J,
  if_pos (by simp only [ByteArray.size_append,AX,List.length_cons,List.length_nil]; omega),EA (by omega),J,if_pos (by simp only [ByteArray.size_append,AX,List.length_cons,List.length_nil]; omega),
  en,Cj (by omega),J,if_pos (by simp only [ByteArray.size_append,AX,List.length_cons,List.length_nil]; omega),Cj (by omega),J,
  if_pos (by simp only [ByteArray.size_append,AX,List.length_cons,List.length_nil]; omega)]
 refine Om ?_
 unfold JF
 simp only [<- IQ]
 simpa [M3] using loop)

end Go.Proofs.Ytffahmnodgnohaa.Core
