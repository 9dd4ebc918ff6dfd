/- Texts of the proof, packed: part 2. -/
import Derived.Test.YtffahmnodgnohaaP0
import Derived.OrdersHeld
import Derived.ChangeArms
import Derived.Below
set_option linter.unusedVariables false
set_option linter.unusedSimpArgs false
namespace Go.Proofs.Ytffahmnodgnohaa.Core
open Go
variable {H:HP} {φ:Ai} {st:List V} {w w':World} {P:Program}
theorem QZ (hs:SR H φ st w):∀ (bors:List Nat),(∀ i∈bors,∃ (t:TypeId) (K:Kd),∃ xs:List (Kd.T K),st[i]? = some (V.rows t K xs)) ->
  ∃ H1 st1,H.le H1/\SR H1 φ st1 w/\(∀ b,(∀ i∈bors,Bm (φ i)≠some b)->H1 b=H b)/\(∀ i,i∉bors->st1[i]? = st[i]?) /\
   (∀ i∈bors,∀ (t:TypeId) (K:Kd) (xs:List (Kd.T K)),st[i]? = some (V.rows t K xs)->Hq (B6 H1 K) K.sz H1 xs (φ i))
 | [],_=>⟨H,st,HP.le_refl H,hs,fun _ _=>rfl,fun _ _=>rfl,fun i hi=>by cases hi⟩
 | i::r,hl=>by
  obtain ⟨H1,st1,h1,h2,h3,h4,h5⟩:=QZ hs r fun j hj=>hl j (by simp [hj])
  by_cases hir:i∈r
  ·refine ⟨H1,st1,h1,h2,fun b hb=>h3 b fun j hj=>hb j (by simp [hj]),fun j hj=>h4 j fun h=>hj (by simp [h]),fun j hj=>?_⟩
   rcases AW.1 hj with rfl | hj
   ·exact h5 _ hir
   ·exact h5 _ hj
  ·obtain ⟨t,K,xs,hi⟩:=hl i (by simp)
   have hi1:st1[i]? = some (.rows t K xs):=(h4 i hir).trans hi
   obtain ⟨H2,g1,g2,g3,g4⟩:=h2.freeze hi1
   refine ⟨H2,_,HP.le_trans h1 g1,g2,fun b hb=>?_,fun j hj=>?_,fun j hj t' K' xs' hj'=>?_⟩
   ·rw [g4 b (hb i (by simp)),h3 b fun j hj=>hb j (by simp [hj])]
   ·rw [AI,if_neg (fun e=>hj (by simp [e]))]
    exact h4 j fun h=>hj (by simp [h])
   ·by_cases e:j=i
    ·subst e
     rw [hi] at hj'
     cases hj'
     exact g3
    ·have hjr:j∈r:=by rcases AW.1 hj with h | h; exact absurd h e; exact h
     exact Dq (fun _ _ h=>B6.mono g1 h) g1 (h5 j hjr t' K' xs' hj')
structure Ds (st:List V) (ids:List (Nat×Kd)) (bx:List AV) (owns:List Nat):Prop where
 len:bx.length=ids.length
 cnt:O (AQ bx)=owns.length
 kd:∀ (j:Nat) (v:AV),bx[j]? = some v->∃ p,ids[j]? = some p/\∃ x:Kd.T p.2,v=Kd.av p.2 x
 rows:∀ (m:Nat) (b:V),(AF (AQ bx))[m]? = some b->∃ (i:Nat) (t:TypeId) (e:Kd),∃ xs:List (Kd.T e),owns[m]? = some i/\st[i]? = some (V.rows t e xs)/\b=V.rows t e xs
 vars:∀ (k j:Nat) (v:AV),bx[j]? = some v->∃ p:Nat×Kd,ids[j]? = some p/\((∃ cs ecs:List AV,p.2.isOwn=false/\st[p.1]? = some (V.var cs)/\Mf (k+O (AQ (bx.take j))) v=.var ecs/\ecs.length=cs.length/\∀ (o:Nat) (a:AV),ecs[o]? = some a ->
  ∃ c,cs[o]? = some c/\((∃ m i:Nat,a=AV.row (k+m)/\owns[m]? = some i/\c=AV.row i)\/(a.solid=true/\c.solid=true/\∀ (H:HP) (u:Value),VF H c u->VF H a u)\/(∃ (i:Nat) (e:Kd),∃ xs:List (Kd.T e),a=AV.lst e xs/\c=AV.row i/\st[i]? = some (V.frz e xs)))) \/
  (∃ (t:TypeId) (e:Kd),∃ xs:List (Kd.T e),p.2=.own t e/\(st[p.1]? = some (V.rows t e xs)\/st[p.1]? = some (V.mrow t e xs))/\Mf (k+O (AQ (bx.take j))) v=.mrow t e xs))
theorem Ds.mut {st:List V} {ids:List (Nat×Kd)} {bx:List AV} {owns:List Nat} (f:Ds st ids bx owns) {b:Nat} {t:TypeId} {e:Kd} {xs:List e.T} (hb:st[b]? = some (V.rows t e xs)\/st[b]? = some (V.mrow t e xs)) :
  Ds st ((b,.own t e)::ids) (.new t e xs::bx) owns:=by
 have hco:∀ vs,AQ (AV.new t e xs::vs)=AQ vs:=fun vs=>rfl
 refine ⟨by simp [f.len],by rw [hco]; exact f.cnt,fun j v hj=>?_,fun m b hb=>?_,fun k j v hj=>?_⟩
 ·cases j with
  | zero=>simp at hj; subst hj; exact ⟨(b,.own t e),rfl,xs,rfl⟩
  | succ j=>simpa using f.kd j v (by simpa using hj)
 ·rw [hco] at hb; exact f.rows m _ hb
 ·cases j with
  | zero=>simp at hj; subst hj; exact ⟨(b,.own t e),rfl,.inr ⟨t,e,xs,rfl,hb,rfl⟩⟩
  | succ j =>
   obtain ⟨p,g1,g2⟩:=f.vars k j v (by simpa using hj)
   exact ⟨p,by simpa using g1,by rw [List.take_succ_cons,hco]; exact g2⟩
theorem Hs {st:List V}:∀ {ids:List (Nat×Kd)} {bx:List AV} {owns:List Nat},DP st ids=some (bx,owns)->Ds st ids bx owns
 | [],bx,owns,h=>by
  cases h
  exact ⟨rfl,rfl,fun j v h=>by simp at h,fun m b h=>by simp [AQ,AF] at h,fun k j v h=>by simp at h⟩
 | (b,K)::ids,bx,owns,h=>by
  have mu:∀ (t:TypeId) (e:Kd) (xs:List e.T),st[b]? = some (V.rows t e xs)\/st[b]? = some (V.mrow t e xs)->(if Kd.own t e=K then (DP st ids).bind fun r=>some (AV.new t e xs::r.1,r.2) else none)=some (bx,owns)->Ds st ((b,K)::ids) bx owns:=by
   intro t e xs hb h'
   split at h'
   ·rename_i hK
    subst hK
    cases h3:DP st ids with
    | none=>rw [h3] at h'; cases h'
    | some r =>
     obtain ⟨bx',o2⟩:=r
     rw [h3] at h'
     cases h'
     exact (Hs h3).mut hb
   ·cases h'
  simp only [DP] at h
  split at h
  ·rename_i cs hcs
   split at h
   ·cases h
   rename_i hno
   have hno:K.isOwn=false:=by simpa using hno
   cases h1:Cx st K.leaves cs with
   | none=>rw [h1] at h; cases h
   | some y =>
    obtain ⟨cl,o1⟩:=y
    rw [h1] at h
    simp only [J] at h
    cases h2:K.ofCells cl with
    | none=>rw [h2] at h; cases h
    | some x =>
     rw [h2] at h
     simp only [J] at h
     cases h3:DP st ids with
     | none=>rw [h3] at h; cases h
     | some r =>
      obtain ⟨bx',o2⟩:=r
      rw [h3] at h
      cases h
      have f:=Hs h3
      have c:=Fu h1
      have ecl:cl=K.enc x:=by
       have:=Ip K cl [] x c.nf (Br h2)
       simpa using this
      have hcells:(K.av x).cellsO=cl:=by rw [(Cq x hno).1,ecl]
      have hco:∀ vs,AQ (K.av x::vs)=cl++AQ vs:=fun vs=>by simp [AQ,hcells]
      refine ⟨by simp [f.len],by rw [hco,Ab,c.cnt,f.cnt,List.length_append],fun j v hj=>?_,fun m b hb=>?_,fun k j v hj=>?_⟩
      ·cases j with
       | zero=>simp at hj; subst hj; exact ⟨(b,K),rfl,x,rfl⟩
       | succ j=>simpa using f.kd j v (by simpa using hj)
      ·rw [hco,Aj] at hb
       rcases Af m (AF cl).length with hm | hm
       ·rw [AH hm] at hb
        obtain ⟨i,t,e,xs,g1,g2⟩:=c.boxes m b hb
        exact ⟨i,t,e,xs,by rw [AH (AG.1 g1).1]; exact g1,g2⟩
       ·rw [Ao hm] at hb
        obtain ⟨i,t,e,xs,g1,g2⟩:=f.rows _ b hb
        rw [BT,c.cnt] at hm g1
        exact ⟨i,t,e,xs,by rw [Ao hm]; exact g1,g2⟩
      ·cases j with
       | zero =>
        simp at hj
        subst hj
        refine ⟨(b,K),rfl,.inl ⟨cs,AJ k cl,hno,hcs,by rw [(Cq x hno).2,<- ecl]; simp [AQ,O],by rw [Co]; exact c.len,fun o a ha=>?_⟩⟩
        obtain ⟨q,q1,q2⟩:=c.cells k o a ha
        refine ⟨q,q1,?_⟩
        rcases q2 with ⟨m,i,e1,e2,e3⟩ | q2
        ·exact .inl ⟨m,i,e1,by rw [AH (AG.1 e2).1]; exact e2,e3⟩
        ·exact .inr q2
       | succ j =>
        obtain ⟨p,g1,gg⟩:=f.vars (k+o1.length) j v (by simpa using hj)
        have et:k+O (AQ ((K.av x::bx').take (j+1)))=k+o1.length+O (AQ (bx'.take j)):=by rw [List.take_succ_cons,hco,Ab,c.cnt,<- Nat.add_assoc]
        refine ⟨p,by simpa using g1,?_⟩
        rw [et]
        rcases gg with ⟨cs',ecs,g0,g2,g25,g3,g4⟩ | gg
        rotate_left
        ·exact .inr gg
        refine .inl ⟨cs',ecs,g0,g2,g25,g3,fun o a ha=>?_⟩
        obtain ⟨q,q1,q2⟩:=g4 o a ha
        refine ⟨q,q1,?_⟩
        rcases q2 with ⟨m,i,e1,e2,e3⟩ | q2
        ·refine .inl ⟨o1.length+m,i,by rw [e1,Nat.add_assoc],?_,e3⟩
         rw [Ao (by omega)]
         simpa using e2
        ·exact .inr q2
  ·rename_i t e xs hb
   exact mu t e xs (.inl hb) h
  ·rename_i t e xs hb
   exact mu t e xs (.inr hb) h
  ·cases h
structure Ir (st:List V) (nv:Nat) (ml:List Nat) (est:List V):Prop where
 len:est.length=ml.length
 nvl:nv<=ml.length
 get:∀ (k:Nat) (b:V),est[k]? = some b->∃ i,ml[k]? = some i/\((k<nv/\∃ cs ecs:List AV,st[i]? = some (V.var cs)/\b=V.var ecs/\ecs.length=cs.length/\∀ (o:Nat) (a:AV),ecs[o]? = some a ->
   ∃ c,cs[o]? = some c/\((∃ q j:Nat,a=AV.row q/\ml[q]? = some j/\c=AV.row j/\nv<=q)\/(a.solid=true/\c.solid=true/\∀ (H:HP) (u:Value),VF H c u->VF H a u)\/(∃ (i:Nat) (e:Kd),∃ xs:List (Kd.T e),a=AV.lst e xs/\c=AV.row i/\st[i]? = some (V.frz e xs)))) \/
  (nv<=k/\∃ (t:TypeId) (e:Kd),∃ xs:List (Kd.T e),st[i]? = some (V.rows t e xs)/\b=V.rows t e xs) \/
  (k<nv/\∃ (t:TypeId) (e:Kd),∃ xs:List (Kd.T e),(st[i]? = some (V.rows t e xs)\/st[i]? = some (V.mrow t e xs))/\b=V.mrow t e xs))
theorem OZ {ids:List (Nat×Kd)} {bx args:List AV} {owns movs:List Nat} (f:Ds st ids bx owns) (hc:O (cellsOf args)=movs.length)
  (hm:∀ (m:Nat) (b:V),(AF (cellsOf args))[m]? = some b->∃ (i:Nat) (t:TypeId) (e:Kd),∃ xs:List (Kd.T e),movs[m]? = some i/\st[i]? = some (V.rows t e xs)/\b=V.rows t e xs) :
  Ir st ids.length (ids.map (·.1)++owns++movs) (Ap bx args):=by
 refine ⟨by rw [Fe,f.len,f.cnt,hc]; simp [Nat.add_assoc],by simp [Nat.add_assoc],fun k b hk=>?_⟩
 rw [Cp] at hk
 rcases Af k bx.length with hl | hl
 ·rw [AH (by rw [AN]; exact hl),DV bx _ k bx[k] (by simp)] at hk
  cases hk
  obtain ⟨p,g1,gg⟩:=f.vars bx.length k bx[k] (by simp)
  have hk2:k<ids.length:=by rw [<- f.len]; exact hl
  refine ⟨p.1,by rw [BO,AH (by simpa using hk2),At,g1]; rfl,?_⟩
  rcases gg with ⟨cs,ecs,_,g2,g25,g3,g4⟩ | ⟨t,e,xs,_,g2,g25⟩
  rotate_left
  ·exact .inr (.inr ⟨hk2,t,e,xs,g2,g25⟩)
  refine .inl ⟨hk2,cs,ecs,g2,g25,g3,fun o a ha=>?_⟩
  obtain ⟨c,c1,c2⟩:=g4 o a ha
  refine ⟨c,c1,?_⟩
  rcases c2 with ⟨m,i,e1,e2,e3⟩ | c2
  ·refine .inl ⟨bx.length+m,i,e1,?_,e3,by rw [f.len]; omega⟩
   rw [f.len,BO,Ao (by simp)]
   simp only [List.length_map,Nat.add_sub_cancel_left]
   rw [AH (AG.1 e2).1]
   exact e2
  ·exact .inr c2
 ·rw [Ao (by rw [AN]; exact hl),AN] at hk
  rw [Aj] at hk
  have hk2:ids.length<=k:=by rw [<- f.len]; exact hl
  have e0:k-bx.length=k-ids.length:=by rw [f.len]
  rw [e0] at hk
  have hidx:(ids.map (·.1)++owns++movs)[k]? = (owns++movs)[k-ids.length]? := by
   rw [BO,Ao (by simpa using hk2)]
   simp
  rcases Af (k-ids.length) (AF (AQ bx)).length with h1 | h1
  ·rw [AH h1] at hk
   obtain ⟨i,t,e,xs,g1,g2,g3⟩:=f.rows _ b hk
   exact ⟨i,by rw [hidx,AH (AG.1 g1).1]; exact g1,.inr (.inl ⟨hk2,t,e,xs,g2,g3⟩)⟩
  ·rw [Ao h1] at hk
   obtain ⟨i,t,e,xs,g1,g2,g3⟩:=hm _ b hk
   rw [BT,f.cnt] at h1 g1
   exact ⟨i,by rw [hidx,Ao h1]; exact g1,.inr (.inl ⟨hk2,t,e,xs,g2,g3⟩)⟩
theorem Ir.at {nv:Nat} {ml:List Nat} {est:List V} (h:Ir st nv ml est) {k i:Nat} (hk:ml[k]? = some i):∃ b,est[k]? = some b:=by
 have:k<est.length:=by rw [h.len]; exact (AG.1 hk).1
 exact ⟨est[k],by simp⟩
theorem CG {ml:List Nat} {k i:Nat} (h:ml[k]? = some i):ml.getD k 0=i:=by simp [List.getD,h]
theorem Ir.sr {nv:Nat} {ml:List Nat} {est st1:List V} {H1:HP} (h:Ir st nv ml est) (hd:ml.Nodup) (hs:SR H1 φ st1 w) (hsame:∀ i∈ml,st1[i]? = st[i]?) (hfrz:∀ (i:Nat) (e:Kd) (xs:List e.T),st[i]? = some (V.frz e xs)->st1[i]? = some (V.frz e xs)) :
  SR H1 (fun k=>φ (ml.getD k 0)) est w:=by
 have old:∀ {k i:Nat},ml[k]? = some i->st1[i]? = st[i]? := fun hk=>hsame _ (List.mem_of_getElem? hk)
 refine AB.pick hs (fun k=>ml.getD k 0) (fun k b hk=>?_) (fun k b hk hl=>.inr ?_) (fun k k' b b' hk hk' _ _ _ _ e=>?_) (fun k ecs hk o q hq=>?_)
 ·obtain ⟨i,hi,hc⟩:=h.get k b hk
  simp only [CG hi]
  rcases hc with ⟨_,cs,ecs,g1,rfl,g3,g4⟩ | ⟨_,t,e,xs,g1,rfl⟩ | ⟨_,t,e,xs,g1,rfl⟩
  ·obtain ⟨b0,c,el,e1,e2,e3⟩:=hs.box i _ ((old hi).trans g1)
   refine ⟨b0,c,el,e1,e2,FK (by rw [e3.length,g3]) fun o a u ha hu=>?_⟩
   obtain ⟨c0,c1,c2⟩:=g4 o a ha
   rcases c2 with ⟨q,j,rfl,_⟩ | ⟨s1,s2,s3⟩ | ⟨j,e,xs,rfl,rfl,hj⟩
   ·trivial
   ·have hw:=e3.at c1 hu
    have hf:VF H1 c0 u:=by cases c0<;>first | exact hw | cases s2
    exact VW.of_VF (s3 H1 u hf)
   ·obtain ⟨d1,b2,d2,d3⟩:=hs.cell i cs ((old hi).trans g1) o j c1
    rw [e1] at d2
    cases d2
    simp only [World.cell?,e2] at d3
    rw [Array.getElem?_toList] at hu
    simp only [Option.isSome_none,Bool.false_eq_true,if_false] at d3
    rw [hu] at d3
    cases d3
    exact (hs.box j _ (hfrz j e xs hj)).1
  ·exact hs.box i _ ((old hi).trans g1)
  ·rcases g1 with g1 | g1
   ·have h:DQ H1 w (φ i) (.rows t e xs):=hs.box i _ ((old hi).trans g1)
    exact h
   ·exact hs.box i _ ((old hi).trans g1)
 ·obtain ⟨i,hi,hc⟩:=h.get k b hk
  simp only [CG hi]
  rcases hc with ⟨_,cs,ecs,g1,rfl,g3,g4⟩ | ⟨_,t,e,xs,g1,rfl⟩ | ⟨_,t,e,xs,g1,rfl⟩
  ·exact ⟨_,(old hi).trans g1,rfl,trivial⟩
  ·exact ⟨_,(old hi).trans g1,rfl,trivial⟩
  ·rcases g1 with g1 | g1
   ·exact ⟨_,(old hi).trans g1,rfl,trivial⟩
   ·exact ⟨_,(old hi).trans g1,rfl,trivial⟩
 ·obtain ⟨i,hi,_⟩:=h.get k b hk
  obtain ⟨i',hi',_⟩:=h.get k' b' hk'
  simp only [CG hi,CG hi'] at e
  subst e
  exact (List.getElem?_inj (AG.1 hi).1 hd).1 (hi.trans hi'.symm)
 ·obtain ⟨i,hi,hc⟩:=h.get k _ hk
  rcases hc with ⟨_,cs,ecs',g1,e,g3,g4⟩ | ⟨_,t,e,xs,g1,e2⟩ | ⟨_,t,e,xs,g1,e2⟩
  ·cases e
   obtain ⟨c0,c1,c2⟩:=g4 o _ hq
   rcases c2 with ⟨q',j,e,hj,rfl,hle⟩ | ⟨s1,_⟩ | ⟨_,_,_,e,_⟩
   ·cases e
    obtain ⟨d1,b0,d2,d3⟩:=hs.cell i cs ((old hi).trans g1) o j c1
    obtain ⟨bq,hbq⟩:=h.at hj
    obtain ⟨j',hj',hcq⟩:=h.get q bq hbq
    refine ⟨?_,b0,by simp only [CG hi]; exact d2,by simp only [CG hj]; exact d3⟩
    rcases hcq with ⟨hlt,_⟩ | ⟨_,t,e,xs,_,rfl⟩ | ⟨hlt,_⟩
    ·omega
    ·simp only [U,hbq]; rfl
    ·omega
   ·cases s1
   ·cases e
  ·cases e2
  ·cases e2
theorem Ir.fr {nv:Nat} {ml:List Nat} {est:List V} {H1:HP} (h:Ir st nv ml est) (φ2:Ai):Fr nv ml.length H1 φ2 w H1 φ2 est w:=by
 refine ⟨rfl,rfl,rfl,Nat.le_refl _,fun _ _ _=>rfl,fun _ _=>rfl,fun k b hk hl b0 hb=>.inr ⟨k,?_,hb⟩,fun j hj=>?_,fun _ _ _=>rfl⟩
 ·rw [<- h.len]; exact (AG.1 hk).1
 ·have hj2:j<est.length:=by rw [h.len]; exact Nat.lt_of_lt_of_le hj h.nvl
  obtain ⟨i,hi,hc⟩:=h.get j est[j] (by simp)
  rcases hc with ⟨_,cs,ecs,_,e,_⟩ | ⟨hle,_⟩ | ⟨_,t,k,xs,_,e⟩
  ·unfold Y; rw [List.getElem?_eq_getElem hj2,e]; rfl
  ·omega
  ·unfold Y; rw [List.getElem?_eq_getElem hj2,e]; rfl
theorem B6.flat {H H':HP}:∀ {K:Kd} {x:K.T} {cs:List Value},K.flat=true->B6 H K x cs->B6 H' K x cs
 | .int _,_,_,_,h=>h
 | .bool,_,_,_,h=>h
 | .str,_,_,_,h=>h
 | .slice _,_,_,hf,_=>by cases hf
 | .pair _ _,_,_,hf,⟨c1,c2,h,h1,h2⟩=>by
  simp only [Kd.flat,E] at hf
  exact ⟨c1,c2,h,B6.flat hf.1 h1,B6.flat hf.2 h2⟩
 | .own _ _,_,_,hf,_=>by cases hf
 | .ref _,_,_,hf,_=>by cases hf
theorem VW.flat {H H':HP} {p:Value} {el:TypeId} {a:AV} {v:Value} (hf:a.flat=true) (h:VW H p el a v):VW H' p el a v:=by
 cases a<;>first | exact h | trivial | cases hf
theorem VC.flat {H H':HP} {a:AV} {v:Value} (hf:a.flat=true) (h:VC H φ st a v):VC H' φ st a v:=by
 cases a<;>first | exact h | trivial | cases hf
theorem VB.flat {H H':HP} {a:AV} {v:Value} (hf:a.flatV=true) (h:VB H φ st a v):VB H' φ st a v:=by
 rcases h.cases with ⟨cs,arr,rfl,e,h⟩ | h
 ·exact ⟨arr,e,h.impM fun a ha _ g=>g.flat (AT.1 hf a ha)⟩
 ·cases a<;>first | exact h.elim | exact VB.of_VC (h.flat (by first | exact hf | rfl))
theorem DQ.flat {H H':HP} {bx:V} {v:Value} (hf:bx.flat=true) (h:DQ H w v bx):DQ H' w v bx:=by
 cases bx with
 | var cs=>obtain ⟨b,c,el,e1,e2,e3⟩:=h; exact ⟨b,c,el,e1,e2,e3.impM fun a ha _ g=>g.flat (AT.1 hf a ha)⟩
 | rows t K xs=>obtain ⟨flat,h1,h2⟩:=h; exact ⟨flat,h1,fun j x hx=>(h2 j x hx).flat hf⟩
 | mrow t K xs=>obtain ⟨flat,h1,h2⟩:=h; exact ⟨flat,h1,fun j x hx=>(h2 j x hx).flat hf⟩
 | frz K xs=>cases hf
 | dead=>cases hf
theorem DQ.mono {H H':HP} (hH:H.le H') {bx:V} {v:Value} (h:DQ H w v bx):DQ H' w v bx:=by
 cases bx with
 | var cs=>obtain ⟨b,c,el,e1,e2,e3⟩:=h; exact ⟨b,c,el,e1,e2,e3.imp fun _ _ g=>g.mono hH⟩
 | rows t K xs=>obtain ⟨flat,h1,h2⟩:=h; exact ⟨flat,h1,fun j x hx=>(h2 j x hx).mono hH⟩
 | mrow t K xs=>obtain ⟨flat,h1,h2⟩:=h; exact ⟨flat,h1,fun j x hx=>(h2 j x hx).mono hH⟩
 | frz K xs=>exact ⟨Dq (fun _ _ h=>B6.mono hH h) hH h.1,h.2⟩
 | dead=>trivial
theorem DQ.ren {f:Nat->Nat} {bx:V} {v:Value} (h:DQ H w v bx):DQ H w v (bx.ren f):=by
 cases bx with
 | var cs =>
  obtain ⟨b,c,el,e1,e2,e3⟩:=h
  refine ⟨b,c,el,e1,e2,e3.map fun a u g=>?_⟩
  cases a<;>first | exact g | trivial | exact g.elim
 | _=>exact h
theorem J_ {w w':World} {t t':TypeId} {z z' n n':Nat} {v:Value} {f f':List Value} (h:w.ownsRow 0 t z v n f) (g:w'.ownsRow 0 t' z' v n' f'):n=n':=by
 rcases h.2 with ⟨e,hn⟩ | ⟨_,_,_,e,_⟩<;>rcases g.2 with ⟨e2,gn⟩ | ⟨_,_,_,e2,_⟩<;>rw [e] at e2<;>simp_all
theorem Is {f:Nat->Nat} {bx:V}:(bx.ren f).live=bx.live:=by cases bx<;>rfl
theorem Oa {f:Nat->Nat} {st2 est:List V} {k:Nat} {b:V} (h1:est[k]? = some b) (h2:st2[f k]? = some (b.ren f)):U st2 (f k)=U est k/\AC st2 (f k)=AC est k:=by
 unfold U AC
 rw [h1,h2]
 cases b<;>exact ⟨rfl,rfl⟩
structure NF (H:HP) (φ:Ai) (st:List V) (w:World) (nv:Nat) (back gone bors:List Nat) (H1:HP) (est:List V):Prop where
 sr:SR H φ st w
 entry:Ir st nv (back++gone) est
 nd:(back++gone).Nodup
 bor:∀ i∈bors,∃ (t:TypeId) (K:Kd),∃ xs:List (Kd.T K),st[i]? = some (V.rows t K xs)
 apart:∀ i∈bors,i∉back++gone
 le:H.le H1
 lent:∀ b,(∀ i∈bors,Bm (φ i)≠some b)->H1 b=H b
 nvb:nv<=back.length
open Classical in
theorem NF.back {nv:Nat} {back gone bors:List Nat} {H1 H':HP} {φ':Ai} {est est':List V} (B:NF H φ st w nv back gone bors H1 est)
  (hs':SR H' φ' est' w') (hle:H1.le H') (f:Fr nv (back++gone).length H1 (fun k=>φ ((back++gone).getD k 0)) w H' φ' est' w') (hlen:back.length<=est'.length)
  (hkd:∀ (k i:Nat),k<nv->back[k]? = some i->(∀ cs:List AV,st[i]? = some (V.var cs)->∃ cs':List AV,est'[k]? = some (V.var cs'))/\(∀ (t:TypeId) (K:Kd) (xs:List K.T),st[i]? = some (V.rows t K xs)\/st[i]? = some (V.mrow t K xs)->∃ xs':List (Kd.T K),est'[k]? = some (V.mrow t K xs')))
  (hflat:bors=[]\/est'.all V.flat=true) :
  ∃ H2 φ2,AB H φ st w H2 φ2 (EW st nv back gone est') w'/\(∀ (i:Nat) (bi:V),st[i]? = some bi->bi.live=true->i∉back->i∉gone->∀ b,Bm (φ i)=some b->w'.heap[b]? = w.heap[b]?)/\Au φ st φ2 (EW st nv back gone est') (back.drop nv++gone) /\
   (∀ a v,(bors=[]\/a.flatV=true)->VB H' φ' est' a v->VB H2 φ2 (EW st nv back gone est') (a.renV (DN back st.length)) v):=by
 have hs:=B.sr
 have hndb:back.Nodup:=(List.nodup_append.1 B.nd).1
 have hdis:∀ i∈back,i∉gone:=fun i h1 h2=>(List.nodup_append.1 B.nd).2.2 i h1 i h2 rfl
 have hand:∀ (k i:Nat),(back++gone)[k]? = some i->∃ b,st[i]? = some b/\b.live=true/\(nv<=k->Y st i=false):=by
  intro k i hk
  obtain ⟨eb,heb⟩:=B.entry.at hk
  obtain ⟨i',hi',hc⟩:=B.entry.get k eb heb
  rw [hk] at hi'
  cases hi'
  rcases hc with ⟨h1,cs,ecs,h2,_⟩ | ⟨h1,t,e,xs,h2,_⟩ | ⟨h1,t,e,xs,h2 | h2,_⟩
  ·exact ⟨_,h2,rfl,fun h=>by omega⟩
  ·exact ⟨_,h2,rfl,fun _=>by simp only [Y,h2]; rfl⟩
  ·exact ⟨_,h2,rfl,fun h=>by omega⟩
  ·exact ⟨_,h2,rfl,fun h=>by omega⟩
 have hlt:∀ i∈back,i<st.length:=fun i hi=>by
  obtain ⟨k,hk,rfl⟩:=FI hi
  obtain ⟨b,hb,_⟩:=hand k back[k] (by rw [AH hk]; simp)
  exact (AG.1 hb).1
 have hgt:∀ i∈gone,i<st.length:=fun i hi=>by
  obtain ⟨k,hk⟩:=List.mem_iff_getElem?.1 (List.mem_append_right back hi)
  obtain ⟨b,hb,_⟩:=hand k i hk
  exact (AG.1 hb).1
 have G:=OX (nv:=nv) hndb hdis hlt hlen
 generalize hst2:EW st nv back gone est'=st2 at G ⊢
 let ren:=DN back st.length
 have inj:∀ {k k'},ren k=ren k'->k=k':=fun h=>OY (st:=st) hndb hlt h
 have renB:∀ k (h:k<back.length),ren k=back[k]:=fun k h=>by simp [ren,DN,h,List.getD]
 have renO:∀ k,back.length<=k->ren k=st.length+(k-back.length):=fun k h=>by simp only [ren,DN]; rw [if_neg (by omega)]
 have ofC:∀ (k:Nat) (b:V),est'[k]? = some b->∃ b':V,st2[ren k]? = some (b'.ren ren)/\b'.live=b.live/\(∀ {H:HP} {w:World} {v:Value},DQ H w v b->DQ H w v b')/\(∀ cs,b'=.var cs->b=.var cs) /\
   U st2 (ren k)=U est' k/\AC st2 (ren k)=AC est' k:=by
  intro k b hb
  obtain ⟨b',g,hc⟩:=G.ofCallee k b hb
  rcases hc with rfl | ⟨t,K,xs,_,rfl,rfl,_⟩
  ·have:=Oa (f:=ren) hb g
   exact ⟨b',g,rfl,fun h=>h,⟨fun _ h=>h,this.1,this.2⟩⟩
  ·refine ⟨.rows t K xs,g,rfl,fun {H w v} h=>h,⟨fun _ h=>(by cases h),?_,?_⟩⟩
   ·simp only [U,hb,show st2[ren k]? = _ from g,V.ren]
   ·simp only [AC,hb,show st2[ren k]? = _ from g,V.ren]
 let Lent:Nat->Prop:=fun b=>∃ i∈bors,Bm (φ i)=some b
 let H2:HP:=fun b=>if Lent b then none else H' b
 let φ2:Ai:=fun i=>match Fd back i with
  | some k=>φ' k
  | none=>if i<st.length then φ i else φ' (back.length+(i-st.length))
 have φren:∀ k,φ2 (ren k)=φ' k:=by
  intro k
  by_cases h:k<back.length
  ·have:Fd back (ren k)=some k:=by rw [renB k h]; exact Nb hndb (by simp)
   simp only [φ2,this]
  ·have e:=renO k (by omega)
   have:Fd back (ren k)=none:=by
    cases hq:Fd back (ren k) with
    | none=>rfl
    | some q=>have:=hlt _ (List.mem_of_getElem? (Ft hq)); omega
   simp only [φ2,this]
   rw [if_neg (by omega),e]
   congr 1
   omega
 have φoth:∀ i,i∉back->i<st.length->φ2 i=φ i:=by
  intro i h1 h2
  have:Fd back i=none:=by
   cases hq:Fd back i with
   | none=>rfl
   | some q=>exact absurd (List.mem_of_getElem? (Ft hq)) h1
  simp only [φ2,this]
  rw [if_pos h2]
 have nlent:∀ b,¬ Lent b->H2 b=H' b:=fun b h=>by simp only [H2]; rw [if_neg h]
 have lentN:∀ b,Lent b->H2 b=none:=fun b h=>by simp only [H2]; rw [if_pos h]
 have lentH:∀ b,Lent b->H b=none:=by
  rintro b ⟨i,hi,hb⟩
  obtain ⟨t,K,xs,hx⟩:=B.bor i hi
  exact hs.out i _ hx rfl b hb
 have lentL:∀ b,Lent b->b<w.heap.size:=by
  rintro b ⟨i,hi,hb⟩
  obtain ⟨t,K,xs,hx⟩:=B.bor i hi
  exact (hs.box i _ hx).blk_lt rfl hb
 have hle2:H.le H2:=by
  intro b o hb
  have h1:¬ Lent b:=fun h=>by rw [lentH b h] at hb; cases hb
  rw [nlent b h1]
  exact hle b o (B.le b o hb)
 have aside:∀ i bi,st[i]? = some bi->bi.live=true->i∉back->i∉gone->∀ b,Bm (φ i)=some b->b<w.heap.size/\(∀ k,k<(back++gone).length->Bm (φ ((back++gone).getD k 0))≠some b):=by
  intro i bi hi hl h1 h2 b hb
  refine ⟨(hs.box i bi hi).blk_lt hl hb,fun k hk e=>?_⟩
  have hk2:(back++gone)[k]? = some (back++gone)[k]:=by simp
  rw [CG hk2] at e
  obtain ⟨b2,g1,g2,_⟩:=hand k _ hk2
  have hne:(back++gone)[k]≠i:=fun e2=>by
   have:i∈back++gone:=e2▸Kh hk
   rcases Bw.1 this with h | h
   ·exact h1 h
   ·exact h2 h
  exact hs.sep _ i b2 bi g1 hi g2 hl hne b e hb
 have memo:∀ i bi,st[i]? = some bi->bi.live=true->i∉back->i∉gone->∀ b,Bm (φ i)=some b->w'.heap[b]? = w.heap[b]? := by
  intro i bi hi hl h1 h2 b hb
  obtain ⟨g1,g2⟩:=aside i bi hi hl h1 h2 b hb
  exact f.old b g1 g2
 have H2old:∀ b,b<w.heap.size->(∀ k,k<(back++gone).length->Bm (φ ((back++gone).getD k 0))≠some b)->H2 b=H b:=by
  intro b h1 h2
  by_cases hl:Lent b
  ·rw [lentN b hl,lentH b hl]
  ·rw [nlent b hl,f.frz b h1 h2,B.lent b fun i hi e=>hl ⟨i,hi,e⟩]
 have calleeBox:∀ k b,est'[k]? = some b->DQ H2 w' (φ' k) b:=by
  intro k b hk
  have h1:=hs'.box k b hk
  rcases hflat with h | h
  ·have:H2=H':=by
    funext b
    exact nlent b fun ⟨i,hi,_⟩=>by rw [h] at hi; cases hi
   rw [this]
   exact h1
  ·exact h1.flat (AT.1 h b (List.mem_of_getElem? hk))
 have otherBox:∀ (i:Nat) (b:V),i∉back->i∉gone->st[i]? = some b->DQ H2 w' (φ i) (b.kill (back.drop nv++gone)):=by
  intro i b h1 h2 hi
  have h3:=(hs.kill (back.drop nv++gone)).box i (b.kill (back.drop nv++gone)) (by rw [At,hi]; rfl)
  have h4:=memo i b hi
  refine DQ.mono hle2 ?_
  cases b with
  | var cs =>
   obtain ⟨b0,c,el,e1,e2,e3⟩:=h3
   exact ⟨b0,c,el,e1,by rw [h4 rfl h1 h2 b0 (by rw [e1]; rfl)]; exact e2,e3⟩
  | rows t K xs =>
   obtain ⟨flat,⟨g1,g2⟩,g3⟩:=h3
   refine ⟨flat,⟨g1,?_⟩,g3⟩
   rcases g2 with g2 | ⟨g,cap,cur,e1,e2,e3,e4⟩
   ·exact .inl g2
   ·exact .inr ⟨g,cap,cur,e1,e2,by rw [h4 rfl h1 h2 g (by rw [e1]; rfl)]; exact e3,e4⟩
  | mrow t K xs =>
   obtain ⟨flat,⟨g1,g2⟩,g3⟩:=h3
   refine ⟨flat,⟨g1,?_⟩,g3⟩
   rcases g2 with g2 | ⟨g,cap,cur,e1,e2,e3,e4⟩
   ·exact .inl g2
   ·exact .inr ⟨g,cap,cur,e1,e2,by rw [h4 rfl h1 h2 g (by rw [e1]; rfl)]; exact e3,e4⟩
  | frz K xs=>exact h3
  | dead=>trivial
 have killLive:∀ {b:V},(b.kill (back.drop nv++gone)).live=b.live:=fun {b}=>by cases b<;>rfl
 have hvarB:∀ (k i:Nat),k<nv->back[k]? = some i->φ2 i=φ i/\U st2 i=U st i/\AC st2 i=AC st i/\Y st2 i=Y st i:=by
  intro k i hkn hbk
  have hk:k<back.length:=(AG.1 hbk).1
  have hk2:(back++gone)[k]? = some i:=by rw [AH hk]; exact hbk
  obtain ⟨b,hb,hl,_⟩:=hand k _ hk2
  have e1:φ2 (ren k)=φ' k:=φren k
  have eik:ren k=i:=by rw [renB k hk]; exact (AG.1 hbk).2
  rw [eik] at e1
  have e2:=f.same k hkn
  simp only [CG hk2] at e2
  obtain ⟨c1,c2⟩:=hkd k i hkn hbk
  have len:∀ (t:TypeId) (K:Kd) (xs xs':List (Kd.T K)),(DQ H w (φ i) (.rows t K xs)\/DQ H w (φ i) (.mrow t K xs))->est'[k]? = some (V.mrow t K xs')->xs'.length=xs.length:=by
   intro t K xs xs' h hq
   obtain ⟨_,o2,_⟩:=hs'.box k _ hq
   rw [e2] at o2
   rcases h with ⟨_,o1,_⟩ | ⟨_,o1,_⟩
   ·exact J_ o2 o1
   ·exact J_ o2 o1
  refine ⟨e1.trans e2,?_⟩
  cases b with
  | var cs =>
   obtain ⟨cs',hq⟩:=c1 cs hb
   have g:=G.ret k i _ _ hq hbk hb
   simp only [U,AC,Y,g,hb,Kp,V.ren,V.hold,and_self]
  | rows t K xs =>
   obtain ⟨xs',hq⟩:=c2 t K xs (.inl hb)
   have g:=G.ret k i _ _ hq hbk hb
   simp only [U,AC,Y,g,hb,Kp,V.ren,V.hold,and_self,len t K xs xs' (.inl (hs.box i _ hb)) hq]
  | mrow t K xs =>
   obtain ⟨xs',hq⟩:=c2 t K xs (.inr hb)
   have g:=G.ret k i _ _ hq hbk hb
   simp only [U,AC,Y,g,hb,Kp,V.ren,V.hold,and_self,len t K xs xs' (.inr (hs.box i _ hb)) hq]
  | frz K xs=>cases hl
  | dead=>cases hl
 have hvarO:∀ i,i∉back->i∉gone->i<st.length->φ2 i=φ i/\U st2 i=U st i/\AC st2 i=AC st i/\Y st2 i=Y st i:=by
  intro i h1 h2 h3
  have hib:st[i]? = some st[i]:=by simp
  refine ⟨φoth i h1 h3,?_,?_,?_⟩
  rotate_right
  ·rw [<- Bg (Z (back.drop nv++gone)) st i]
   unfold Y
   rw [G.other i _ h1 h2 hib,At,hib]; rfl
  ·rw [<- By (Z (back.drop nv++gone)) st i]
   unfold U
   rw [G.other i _ h1 h2 hib,At,hib]; rfl
  ·rw [<- Bd (Z (back.drop nv++gone)) st i]
   unfold AC
   rw [G.other i _ h1 h2 hib,At,hib]; rfl
 have hsr:SR H2 φ2 st2 w':=by
  refine ⟨fun b o hb=>?_,fun i b hi=>?_,fun i j bi bj hi hj li lj hij b hbi hbj=>?_,fun i bi hi li b hb=>?_,fun i cs hi o q hq=>?_⟩
  ·by_cases hl:Lent b
   ·rw [lentN b hl] at hb; cases hb
   ·rw [nlent b hl] at hb
    exact hs'.hp b o hb
  ·rcases G.cases i b hi with ⟨k,hk,rfl⟩ | ⟨h1,h2,h3⟩ | ⟨_,rfl⟩
   ·obtain ⟨b',g,_,gb,_⟩:=ofC k est'[k] (by simp)
    rw [hi] at g
    cases g
    rw [show φ2 (DN back st.length k)=φ' k from φren k]
    exact (gb (calleeBox k _ (by simp))).ren
   ·have hib:st[i]? = some st[i]:=by simp
    have g:=G.other i _ h2 h3 hib
    rw [hi] at g
    cases g
    rw [φoth i h2 h1]
    exact otherBox i _ h2 h3 hib
   ·trivial
  ·-- sep
   have key:∀ k i bi,k<est'.length->st2[ren k]? = some bi->bi.live=true->i<st.length->i∉back->i∉gone->∀ b',st[i]? = some b'->b'.live=true->∀ b,Bm (φ' k)=some b->Bm (φ i)≠some b:=by
    intro k i bi hk hbk hl h1 h2 h3 b' hb' lb' b hb e
    obtain ⟨g1,g2⟩:=aside i b' hb' lb' h2 h3 b e
    obtain ⟨b2,g,gl,_⟩:=ofC k est'[k] (by simp)
    rw [hbk] at g
    cases g
    rcases f.new k est'[k] (by simp) (by rw [Is,gl] at hl; exact hl) b hb with h | ⟨j,hj,h⟩
    ·omega
    ·exact g2 j hj h
   rcases G.cases i bi hi with ⟨k,hk,rfl⟩ | ⟨h1,h2,h3⟩ | ⟨_,rfl⟩
   ·rw [show φ2 (DN back st.length k)=φ' k from φren k] at hbi
    rcases G.cases j bj hj with ⟨k',hk',rfl⟩ | ⟨g1,g2,g3⟩ | ⟨_,rfl⟩
    ·rw [show φ2 (DN back st.length k')=φ' k' from φren k'] at hbj
     obtain ⟨_,e1,l1,_⟩:=ofC k est'[k] (by simp)
     obtain ⟨_,e2,l2,_⟩:=ofC k' est'[k'] (by simp)
     rw [hi] at e1
     rw [hj] at e2
     cases e1
     cases e2
     rw [Is] at li lj
     rw [l1] at li
     rw [l2] at lj
     exact hs'.sep k k' _ _ (by simp) (by simp) li lj (fun e=>hij (by rw [e])) b hbi hbj
    ·rw [φoth j g2 g1] at hbj
     have hjb:st[j]? = some st[j]:=by simp
     have g:=G.other j _ g2 g3 hjb
     rw [hj] at g
     cases g
     exact key k j bi hk hi li g1 g2 g3 _ hjb (killLive▸lj) b hbi hbj
    ·cases lj
   ·rw [φoth i h2 h1] at hbi
    have hib:st[i]? = some st[i]:=by simp
    have g:=G.other i _ h2 h3 hib
    rw [hi] at g
    cases g
    rcases G.cases j bj hj with ⟨k',hk',rfl⟩ | ⟨g1,g2,g3⟩ | ⟨_,rfl⟩
    ·rw [show φ2 (DN back st.length k')=φ' k' from φren k'] at hbj
     exact key k' i bj hk' hj lj h1 h2 h3 _ hib (killLive▸li) b hbj hbi
    ·rw [φoth j g2 g1] at hbj
     have hjb:st[j]? = some st[j]:=by simp
     have g:=G.other j _ g2 g3 hjb
     rw [hj] at g
     cases g
     exact hs.sep i j _ _ hib hjb (killLive▸li) (killLive▸lj) hij b hbi hbj
    ·cases lj
   ·cases li
  ·rcases G.cases i bi hi with ⟨k,hk,rfl⟩ | ⟨h1,h2,h3⟩ | ⟨_,rfl⟩
   ·rw [show φ2 (DN back st.length k)=φ' k from φren k] at hb
    obtain ⟨_,e1,l1,_⟩:=ofC k est'[k] (by simp)
    rw [hi] at e1
    cases e1
    rw [Is,l1] at li
    by_cases hl:Lent b
    ·exact lentN b hl
    ·rw [nlent b hl]
     exact hs'.out k _ (by simp) li b hb
   ·rw [φoth i h2 h1] at hb
    have hib:st[i]? = some st[i]:=by simp
    have g:=G.other i _ h2 h3 hib
    rw [hi] at g
    cases g
    obtain ⟨g1,g2⟩:=aside i _ hib (killLive▸li) h2 h3 b hb
    rw [H2old b g1 g2]
    exact hs.out i _ hib (killLive▸li) b hb
   ·cases li
  ·rcases G.cases i _ hi with ⟨k,hk,rfl⟩ | ⟨h1,h2,h3⟩ | ⟨_,e⟩
   ·obtain ⟨bk',e1,_,_,lv,_⟩:=ofC k est'[k] (by simp)
    rw [hi] at e1
    have hek:est'[k]? = some est'[k]:=by simp
    generalize est'[k]=bk at e1 hek lv
    cases bk' with
    | var cs0 =>
     simp only [V.ren,AK,V.var.injEq] at e1
     subst e1
     have lv:=lv cs0 rfl
     subst lv
     rw [At] at hq
     cases hc:cs0[o]? with
     | none=>rw [hc] at hq; cases hq
     | some c =>
      rw [hc] at hq
      cases c<;>simp only [Option.map_some,AV.ren,AK] at hq<;>try cases hq
      rename_i q0
      obtain ⟨d1,b0,d2,d3⟩:=hs'.cell k cs0 hek o q0 hc
      have hq0:∃ bq,est'[q0]? = some bq:=⟨est'[q0]'(DI d1),by simp [DI d1]⟩
      obtain ⟨bq,hbq⟩:=hq0
      refine ⟨?_,b0,?_,?_⟩
      ·obtain ⟨_,_,_,_,_,kk,_⟩:=ofC q0 bq hbq
       rw [kk]; exact d1
      ·rw [show φ2 (DN back st.length k)=φ' k from φren k]; exact d2
      ·rw [show φ2 (DN back st.length q0)=φ' q0 from φren q0]; exact d3
    | _=>cases e1
   ·have hib:st[i]? = some st[i]:=by simp
    have g:=G.other i _ h2 h3 hib
    rw [hi] at g
    have hkl:(st.map (V.kill (back.drop nv++gone)))[i]? = some (.var cs):=by rw [At,hib,Option.map_some]; exact g.symm
    have hn:=Ad.1 (Ex hkl hq)
    obtain ⟨d1,b0,d2,d3⟩:=(hs.kill (back.drop nv++gone)).cell i cs hkl o q hq
    rw [By (Z _)] at d1
    have hql:=DI d1
    have hq2:q∉gone:=fun h=>hn (List.mem_append_right _ h)
    have hsame:φ2 q=φ q/\U st2 q=U st q:=by
     by_cases hq1:q∈back
     ·obtain ⟨k,hk,e⟩:=FI hq1
      have hkn:k<nv:=by
       rcases Af k nv with h | h
       ·exact h
       ·have:q∈back.drop nv:=by
         rw [<- e]
         exact List.mem_iff_getElem?.2 ⟨k-nv,by rw [BN,show nv+(k-nv)=k by omega]; simp⟩
        exact absurd (List.mem_append_left _ this) hn
      obtain ⟨c1,c2,_⟩:=hvarB k q hkn (by simp [hk,e])
      exact ⟨c1,c2⟩
     ·obtain ⟨c1,c2,_⟩:=hvarO q hq1 hq2 hql
      exact ⟨c1,c2⟩
    refine ⟨by rw [hsame.2]; exact d1,b0,by rw [φoth i h2 h1]; exact d2,?_⟩
    rw [hsame.1]
    have hlive:(st[i]).live=true:=by
     have e:st[i].kill (back.drop nv++gone)=.var cs:=(Option.some.inj g).symm
     have:(st[i].kill (back.drop nv++gone)).live=true:=by rw [e]; rfl
     rw [killLive] at this
     exact this
    have:=memo i _ hib hlive h2 h3 b0 (by rw [d2]; rfl)
    simp only [World.cell?] at d3 ⊢
    rw [this]
    exact d3
   ·cases e
 have goneRow:∀ i∈gone,Y st i=false:=by
  intro i hi
  obtain ⟨k,hk,e⟩:=FI hi
  obtain ⟨_,_,_,v2⟩:=hand (back.length+k) i (by rw [Ao (by omega)]; simp [hk,e])
  exact v2 (by have:=B.nvb; omega)
 have hkb:Au φ st φ2 st2 (back.drop nv++gone):=by
  refine ⟨fun i hn hd=>?_,fun i hv=>?_⟩
  ·rw [FN,Bool.or_eq_false_iff] at hn
   have hg:=Ad.1 hn.2
   have hlt2:i<st.length:=by rcases hd with h | h; exact DI h; exact Kq h
   by_cases hb:i∈back
   ·obtain ⟨k,hk,e⟩:=FI hb
    have hk2:(back++gone)[k]? = some i:=by rw [AH hk]; simp [hk,e]
    have hkn:k<nv:=by
     rcases Af k nv with h | h
     ·exact h
     ·have:i∈back.drop nv:=by
       rw [<- e]
       exact List.mem_iff_getElem?.2 ⟨k-nv,by rw [BN,show nv+(k-nv)=k by omega]; simp⟩
      exact absurd this (Ad.1 hn.1)
    obtain ⟨c1,c2,c3,_⟩:=hvarB k i hkn (by simp [hk,e])
    exact ⟨c1,c2,c3⟩
   ·obtain ⟨c1,c2,c3,_⟩:=hvarO i hb hg hlt2
    exact ⟨c1,c2,c3⟩
  ·have hng:i∉gone:=fun h=>by rw [goneRow i h] at hv; cases hv
   by_cases hb:i∈back
   ·obtain ⟨k,hk,e⟩:=FI hb
    have hk2:(back++gone)[k]? = some i:=by rw [AH hk]; simp [hk,e]
    obtain ⟨_,_,_,v2⟩:=hand k _ hk2
    have hkn:k<nv:=by
     rcases Af k nv with h | h
     ·exact h
     ·rw [v2 h] at hv; cases hv
    obtain ⟨c1,_,c3,c4⟩:=hvarB k i hkn (by simp [hk,e])
    exact ⟨c1,c4.trans hv,c3⟩
   ·obtain ⟨c1,_,c3,c4⟩:=hvarO i hb hng (Ew hv)
    exact ⟨c1,c4.trans hv,c3⟩
 refine ⟨H2,φ2,⟨hle2,hsr,fun mv m0 H0 φ0 w0 g=>?_⟩,memo,hkb,fun a v hfl hv=>?_⟩
 ·-- the caller's own frame
  have hh:∀ b,b<w0.heap.size->(∀ j,j<m0->Bm (φ0 j)≠some b)->∀ k,k<(back++gone).length->Bm (φ ((back++gone).getD k 0))≠some b:=by
   intro b h1 h2 k hk e
   have hk2:(back++gone)[k]? = some (back++gone)[k]:=by simp
   rw [CG hk2] at e
   obtain ⟨bx,hb,hl,_⟩:=hand k _ hk2
   rcases g.new _ bx hb hl b e with h | ⟨j,hj,h⟩
   ·omega
   ·exact h2 j hj h
  refine ⟨f.os.trans g.os,f.tape.trans g.tape,f.output.trans g.output,Nat.le_trans g.size f.size,fun b h1 h2=>?_,fun j hj=>?_,fun i bi hi li b hb=>?_,fun j hj=>(hkb.2 j (g.vars j hj)).2.1,fun b h1 h2=>?_⟩
  ·rw [f.old b (Nat.lt_of_lt_of_le h1 g.size) (hh b h1 h2)]
   exact g.old b h1 h2
  ·exact (hkb.2 j (g.vars j hj)).1.trans (g.same j hj)
  ·rcases G.cases i bi hi with ⟨k,hk,rfl⟩ | ⟨h1,h2,h3⟩ | ⟨_,rfl⟩
   ·rw [show φ2 (DN back st.length k)=φ' k from φren k] at hb
    obtain ⟨_,e1,l1,_⟩:=ofC k est'[k] (by simp)
    rw [hi] at e1
    cases e1
    rw [Is,l1] at li
    rcases f.new k _ (by simp) li b hb with h | ⟨j,hj,h⟩
    ·exact .inl (Nat.le_trans g.size h)
    ·have hk2:(back++gone)[j]? = some (back++gone)[j]:=by simp
     rw [CG hk2] at h
     obtain ⟨bx,hbx,hl,_⟩:=hand j _ hk2
     exact g.new _ bx hbx hl b h
   ·rw [φoth i h2 h1] at hb
    have hib:st[i]? = some st[i]:=by simp
    have e:=G.other i _ h2 h3 hib
    rw [hi] at e
    cases e
    exact g.new i _ hib (killLive▸li) b hb
   ·cases li
  ·rw [H2old b (Nat.lt_of_lt_of_le h1 g.size) (hh b h1 h2)]
   exact g.frz b h1 h2
 ·have hv2:VB H2 φ' est' a v:=by
   rcases hfl with h | h
   ·have:H2=H':=by
     funext b
     exact nlent b fun ⟨i,hi,_⟩=>by rw [h] at hi; cases hi
    rw [this]
    exact hv
   ·exact hv.flat h
  have one:∀ a v,VC H2 φ' est' a v->VC H2 φ2 st2 (a.ren ren) v:=by
   intro a v hv
   cases a with
   | row k =>
    obtain ⟨e,hk⟩:=hv
    have hb:est'[k]? = some (est'[k]'(DI hk)):=by simp
    refine ⟨by rw [φren k]; exact e,?_⟩
    obtain ⟨_,_,_,_,_,kk,_⟩:=ofC k _ hb
    rw [kk]
    exact hk
   | ptr k o =>
    obtain ⟨hk,b0,e1,e2⟩:=hv
    have hb:est'[k]? = some (est'[k]'(Kq hk)):=by simp
    refine ⟨?_,b0,by rw [φren k]; exact e1,e2⟩
    obtain ⟨_,_,_,_,_,_,kk⟩:=ofC k _ hb
    rw [kk]
    exact hk
   | eptr k i o =>
    obtain ⟨b0,n,cap,K,hk,h2,e1,e2⟩:=hv
    have hb:est'[k]? = some (est'[k]'(DI (by simp [hk]))):=by simp
    refine ⟨b0,n,cap,K,?_,h2,by rw [φren k]; exact e1,e2⟩
    obtain ⟨_,_,_,_,_,kk,_⟩:=ofC k _ hb
    rw [kk]
    exact hk
   | _=>exact hv
  rcases hv2.cases with ⟨cs,arr,rfl,e,h⟩ | h
  ·exact ⟨arr,e,h.map one⟩
  ·have:a.renV ren=a.ren ren:=by cases a<;>first | rfl | exact h.elim
   rw [this]
   exact VB.of_VC (one a v h)
end Go.Proofs.Ytffahmnodgnohaa.Core

namespace Go.Proofs.Ytffahmnodgnohaa.Core
open Go
variable {P:Program}
def Qa (H:HP) (φ:Ai) (st:List V):List AV->Value->Prop
 | [a],v=>VB H φ st a v
 | rs,v=>∃ arr,v=.tuple arr/\AE (VB H φ st) rs arr.toList
def MR (P:Program) (f:Nat):Prop:=∃ fn c,P.funcs[f]? = some fn∧(fn.name == "runtime.NumGoroutine")=false∧fn.body=some c
def It (H:HP) (φ:Ai) (w:World) (args bs outs rs:List AV) (v:Value) (w':World):Prop :=
 ∃ H' φ',H.le H'/\SR H' φ' (Ap outs rs) w'/\Fr bs.length (Ap bs args).length H φ w H' φ' (Ap outs rs) w'/\Qa H' φ' (Ap outs rs) (BM (Bx outs) rs) v
def MS (w w':World) (b n m:Nat) (v:Value) (T t:TypeId) (flat:List Value):Prop :=
 ∃ w1 w2 v',w.grownBy w1 (some b)/\w1.heap[b]? = some (.cells #[.pointer (some ⟨b,0,none⟩),v] T (0,0))/\w1.grownBy w2 (Bm v)/\w2.ownsRow 0 t 1 v' (n+m) flat /\
  (∀ g,Bm v'=some g->Bm v=some g\/w1.heap.size<=g)/\w2.grownBy w' (some b)/\w'.heap[b]? = some (.cells #[.pointer (some ⟨b,0,none⟩),v'] T (0,0))
def Qb (P:Program) (f k t T:Nat):Prop :=
 MR P f/\∀ (w:World) (b:Nat) (p v:Value) (xs:List Int),w.heap[b]? = some (.cells #[p,v] T (0,0))->(p=.pointer none\/p=.pointer (some ⟨b,0,none⟩)) ->
  w.ownsRow 0 t 1 v xs.length (xs.map (.int .u8))->Bm v≠some b ->
  (k=0->∀ c,xs.length+1<=68719476736->Calls P f #[.pointer (some ⟨b,0,none⟩),.int .u8 c] w fun e w'=>∃ r,e=.returned r/\MS w w' b xs.length 1 v T t ((xs++[c]).map (.int .u8))) /\
  (k=1->∀ s,xs.length+(MB s).length<=68719476736->Calls P f #[.pointer (some ⟨b,0,none⟩),.string s] w fun e w'=>∃ r,e=.returned r/\MS w w' b xs.length (MB s).length v T t ((xs++MB s).map (.int .u8))) /\
  (k=2->Pq xs=true->Calls P f #[.pointer (some ⟨b,0,none⟩)] w fun e w'=>e=.returned (.string (Dx xs))/\w.grownBy w' (Bm v))
def Ch (P:Program) (cal:Bv):Prop :=
 (∀ f k t T:Nat,f<BS->cal (BS+f) [.int .i64 k,.int .i64 t,.int .i64 T] []=some []->Qb P f k t T) /\
 ∀ f args bs rs,(f<BS\/2*BS<=f)->cal f args bs=some rs->MR P (f % BS)/\(∀ r∈rs,r.cells.all AV.nilFree=true)/\∃ n,n+bs.length=rs.length /\
  ∀ (H:HP) (φ:Ai) (w:World) (cargs:List Value),SR H φ (Ap bs args) w->AE (VB H φ (Ap bs args)) (BM (Bx bs) args) cargs ->
   Calls P (f % BS) cargs.toArray w fun out w'=>match out with
    | .returned v=>It H φ w args bs (rs.drop n) (rs.take n) v w'
    | _=>False
theorem Nc {H:HP} {K:Kd} {x:K.T} {v:Value} (h:B6 H K x v.cells.toList) (f:D3 K v):VE H (K.av x) v:=by
 cases K with
 | int k=>simp only [D3] at f; simp only [f,B6,List.cons.injEq,and_true] at h; subst h; rfl
 | bool=>simp only [D3] at f; simp only [f,B6,List.cons.injEq,and_true] at h; subst h; rfl
 | str=>simp only [D3] at f; simp only [f,B6,List.cons.injEq,and_true] at h; subst h; rfl
 | slice e =>
  simp only [D3] at f
  obtain ⟨u,e1,h⟩:=h
  simp only [f,List.cons.injEq,and_true] at e1
  subst e1
  exact h
 | pair a b =>
  obtain ⟨arr,e⟩:=f
  subst e
  exact ⟨arr,rfl,Cf.of_rep h⟩
 | own t e=>exact h.elim
 | ref K=>exact h.elim
 | «fun» g=>simp only [D3] at f; simp only [f,B6,List.cons.injEq,and_true] at h; subst h; exact ⟨rfl,rfl⟩
 | clo g K =>
  simp only [D3] at f
  obtain ⟨u,e1,h⟩:=h
  simp only [f,List.cons.injEq,and_true] at e1
  subst e1
  exact h
theorem Q1 {H:HP} {K:Kd} {a:AV} {x:K.T} {v:Value} (hv:VE H a v) (h:K.of a=some x):VE H (K.av x) v:=by
 obtain ⟨h1,h2⟩:=of_rep (φ:=fun _=>.nilIface) (st:=[]) (VA.of_VE hv) h
 exact Nc h1 h2
theorem Ja:∀ (Ks:List Kd) (rs:List AV) (y:RT Ks),Bo Ks rs=some y->rs.length=Ks.length/\(BL Ks y).length=Ks.length/\AE (fun a b=>∃ K x,Kd.of K a=some x/\b=K.av x) rs (BL Ks y)
 | [],[],y,_=>⟨rfl,rfl,rfl⟩
 | [],_::_,y,h=>by simp [Bo] at h
 | [K],[],y,h=>by simp [Bo] at h
 | [K],[v],y,h=>⟨rfl,rfl,⟨_,_,rfl,⟨K,y,h,rfl⟩,rfl⟩⟩
 | [K],_::_::_,y,h=>by simp [Bo] at h
 | K::L::Ks,[],y,h=>by simp [Bo] at h
 | K::L::Ks,v::vs,y,h=>by
  simp only [Bo] at h
  cases h1:K.of v with
  | none=>rw [h1] at h; cases h
  | some x =>
   cases h2:Bo (L::Ks) vs with
   | none=>rw [h1,h2] at h; cases h
   | some r =>
    rw [h1,h2] at h
    cases h
    obtain ⟨l1,l2,l3⟩:=Ja (L::Ks) vs r h2
    exact ⟨by simp [l1],by simpa [BL] using l2,⟨_,_,rfl,⟨K,x,h1,rfl⟩,l3⟩⟩
theorem Qc {K:Kd} {a:AV} {x:K.T} (h:K.of a=some x) (hn:a.cells.all AV.nilFree=true):a=K.av x:=by
 obtain ⟨hd,hf⟩:=OS h
 have e:=Ip K a.cells [] x hn hd
 rw [List.append_nil] at e
 cases K with
 | pair k l =>
  cases a with
  | agg cs=>simp only [AV.cells] at e; rw [e]; rfl
  | _=>cases hf
 | _ =>
  cases a<;>first | exact (List.cons.inj e).1 | cases hf
theorem L1:∀ (Ks:List Kd) (rs:List AV) (y:RT Ks),Bo Ks rs=some y->(∀ r∈rs,r.cells.all AV.nilFree=true)->BL Ks y=rs:=by
 intro Ks rs y h hn
 obtain ⟨_,_,h3⟩:=Ja Ks rs y h
 have key:∀ {aw bs:List AV},AE (fun a b=>∃ K x,Kd.of K a=some x/\b=K.av x) aw bs->(∀ r∈aw,r.cells.all AV.nilFree=true)->bs=aw:=by
  intro aw
  induction aw with
  | nil=>intro bs h _; exact h
  | cons a aw ih =>
   intro bs h hn
   obtain ⟨b,r,rfl,⟨K,x,h1,h2⟩,hr⟩:=h
   rw [ih hr fun r hr=>hn r (by simp [hr]),h2,<- Qc h1 (hn a (by simp))]
 exact key h3 hn
theorem Jb:∀ (Ks:List Kd) (y:RT Ks) (j:Nat) (K:Kd),Ks[j]? = some K->∃ x:K.T,(BL Ks y)[j]? = some (K.av x)
 | [],y,j,K,h=>by simp at h
 | [K0],y,j,K,h=>by
  cases j with
  | zero=>simp at h; subst h; exact ⟨y,rfl⟩
  | succ j=>simp at h
 | K0::L::Ks,y,j,K,h=>by
  cases j with
  | zero=>simp at h; subst h; exact ⟨y.1,rfl⟩
  | succ j =>
   obtain ⟨x,hx⟩:=Jb (L::Ks) y.2 j K (by simpa using h)
   exact ⟨x,by simpa [BL] using hx⟩
theorem Nd {ids:List (Nat×Kd)}:∀ {bx:List AV},bx.length=ids.length->(∀ (j:Nat) (v:AV),bx[j]? = some v->∃ p,ids[j]? = some p/\∃ x:Kd.T p.2,v=Kd.av p.2 x) ->
  O (AQ bx)=(ids.map fun p=>if p.2.isOwn=true then 0 else p.2.news).sum:=by
 induction ids with
 | nil=>intro bx hl _; have:bx=[]:=C5.1 hl; subst this; rfl
 | cons p ids ih =>
  intro bx hl hk
  cases bx with
  | nil=>simp at hl
  | cons v bx =>
   obtain ⟨q,hq,x,hx⟩:=hk 0 v rfl
   simp at hq
   subst hq
   have:=ih (bx:=bx) (by simpa using hl) fun j v hj=>by simpa using hk (j+1) v (by simpa using hj)
   simp only [AQ,List.flatMap_cons,Ab,List.map_cons,List.sum_cons] at this ⊢
   rw [this,hx]
   by_cases ho:p.2.isOwn=true
   ·obtain ⟨pi,pk⟩:=p
    obtain ⟨t,e,rfl⟩:=K7 ho
    rw [if_pos ho,(K8 x).1]
    rfl
   ·rw [if_neg ho,(Cq x (by simpa using ho)).1,GE]
theorem L2 {s s':St} {a a':AV} (h:s.keep a=some (a',s')) {i:Nat} {b:V} (hi:s'.st[i]? = some b) (hl:b.live=true):s.st[i]? = some b:=by
 cases a with
 | row id =>
  simp only [St.keep] at h
  split at h
  ·rename_i t' K' xs' hb
   cases h
   simp only [AI] at hi
   split at hi
   ·split at hi
    ·cases hi; cases hl
    ·cases hi
   ·exact hi
  ·cases h; exact hi
  ·cases h
 | fn f caps=>cases caps<;>first | (cases h; exact hi) | cases h
 | _=>first | (cases h; exact hi) | cases h
theorem Nf {s s':St} {a a':AV} (h:s.keep a=some (a',s')):s'.fr=s.fr:=by
 cases a with
 | row id =>
  simp only [St.keep] at h
  split at h
  ·cases h; rfl
  ·cases h; rfl
  ·cases h
 | fn f caps=>cases caps<;>first | (cases h; rfl) | cases h
 | _=>first | (cases h; rfl) | cases h
theorem K9:∀ {aw aw':List AV} {s s':St},s.keepAll aw=some (aw',s')->s'.fr=s.fr
 | [],aw',s,s',h=>by cases h; rfl
 | a::aw,aw',s,s',h=>by
  simp only [St.keepAll] at h
  cases hk:s.keep a with
  | none=>rw [hk] at h; cases h
  | some x =>
   rw [hk] at h
   simp only [J] at h
   cases hq:x.2.keepAll aw with
   | none=>rw [hq] at h; cases h
   | some y =>
    rw [hq] at h
    cases h
    exact (K9 hq).trans (Nf (a':=x.1) hk)
theorem Iu:∀ {aw aw':List AV} {s s':St},s.keepAll aw=some (aw',s')->∀ {i:Nat} {b:V},s'.st[i]? = some b->b.live=true->s.st[i]? = some b
 | [],aw',s,s',h,i,b,hi,hl=>by cases h; exact hi
 | a::aw,aw',s,s',h,i,b,hi,hl=>by
  simp only [St.keepAll] at h
  cases hk:s.keep a with
  | none=>rw [hk] at h; cases h
  | some x =>
   rw [hk] at h
   simp only [J] at h
   cases hq:x.2.keepAll aw with
   | none=>rw [hq] at h; cases h
   | some y =>
    rw [hq] at h
    cases h
    exact L2 hk (Iu hq hi hl) hl
def PR:PK->Value->List Value
 | .cap _ _,.func _ _ caps=>caps.toList
 | .cap _ _,_=>[]
 | .cap0 _,_=>[]
 | _,v=>[v]
def C9:List (Av×PK)->List Value->List Value
 | x::xs,c::cs=>PR x.2 c++C9 xs cs
 | _,_=>[]
def PK.isCap:PK->Bool
 | .cap _ _ | .cap0 _=>true
 | _=>false
theorem NG {p:PK} {c:Value} (h:p.isCap=false):PR p c=[c]:=by cases p<;>first | rfl | cases h
theorem GH:∀ {xs:List (Av×PK)} {cs:List Value},xs.length=cs.length->(xs.all fun x=>!x.2.isCap)=true->C9 xs cs=cs
 | [],[],_,_=>rfl
 | x::xs,c::cs,hl,h=>by
  simp only [List.all_cons,E,B7] at h
  simp only [C9,NG h.1,GH (by simpa using hl) h.2]
  rfl
 | [],_::_,h,_=>by simp at h
 | _::_,[],h,_=>by simp at h
theorem Hi:∀ {xs ys:List (Av×PK)} {cs ds:List Value},xs.length=cs.length->C9 (xs++ys) (cs++ds)=C9 xs cs++C9 ys ds
 | [],ys,[],ds,_=>by simp [C9]
 | x::xs,ys,c::cs,ds,h=>by
  simp only [List.cons_append,C9,Hi (xs:=xs) (cs:=cs) (by simpa using h),BO]
 | [],_,_::_,_,h=>by simp at h
 | _::_,_,[],_,h=>by simp at h
def Qt (H:HP) (φ:Ai) (st:List V) (lent:Nat->Prop) (a:AV) (c:Value):Prop :=
 VF H a c\/∃ (i:Nat) (t:TypeId) (K:Kd),∃ xs:List (Kd.T K),lent i/\st[i]? = some (V.rows t K xs)/\a=.lst K xs/\c=φ i
def PS (H:HP) (φ:Ai) (st:List V) (pt:Nat->Option (Nat×Kd)) (a:AV) (c:Value):Prop :=
 VF H a c\/∃ (k:Nat) (p:Nat×Kd),a=.row k/\pt k=some p/\AC st p.1=false/\c=φ p.1
def QB (H:HP) (φ:Ai) (st:List V) (pt:Nat->Option (Nat×Kd)) (a:AV) (c:Value):Prop :=
 (∃ (aw:List AV) (arr:Array Value),a=.agg aw/\c=.agg arr/\AE (PS H φ st pt) aw arr.toList)\/PS H φ st pt a c
theorem Kj {H:HP} {φ:Ai} {st:List V} {w:World}:∀ {vs:List AV} {y:List AV×List Nat} {us:List Value},SR H φ st w->AE (VC H φ st) vs us->KI st vs=some y ->
  AE (fun a u=>VF H a u\/∃ (i:Nat) (t:TypeId) (K:Kd),∃ xs:List (Kd.T K),i∈y.2/\st[i]? = some (V.rows t K xs)/\a=.lst K xs/\u=φ i) y.1 us
 | [],y,us,hs,hv,h=>by cases h; exact hv
 | v::vs,y,us,hs,⟨u,us',e,hu,hr⟩,h=>by
  subst e
  have plain:(if v.solid=true then (KI st vs).bind fun r=>some (v::r.1,r.2) else none)=some y->AE (fun a u=>VF H a u\/∃ (i:Nat) (t:TypeId) (K:Kd),∃ xs:List (Kd.T K),i∈y.2/\st[i]? = some (V.rows t K xs)/\a=.lst K xs/\u=φ i) y.1 (u::us'):=by
   intro h
   split at h
   ·rename_i hsol
    cases hq:KI st vs with
    | none=>rw [hq] at h; cases h
    | some q =>
     rw [hq] at h
     cases h
     exact ⟨u,us',rfl,.inl (hu.solid hsol),Kj hs hr hq⟩
   ·cases h
  cases v with
  | row id =>
   simp only [KI] at h
   split at h
   ·rename_i t e xs hb
    cases hq:KI st vs with
    | none=>rw [hq] at h; cases h
    | some q =>
     rw [hq] at h
     cases h
     refine ⟨u,us',rfl,.inr ⟨id,t,e,xs,by simp,hb,rfl,hu.1⟩,(Kj hs hr hq).imp fun a u h=>?_⟩
     rcases h with h | ⟨i,t,K,xs,h1,h2⟩
     ·exact .inl h
     ·exact .inr ⟨i,t,K,xs,by simp [h1],h2⟩
   ·rename_i e xs hb
    cases hq:KI st vs with
    | none=>rw [hq] at h; cases h
    | some q =>
     rw [hq] at h
     cases h
     refine ⟨u,us',rfl,.inl ?_,Kj hs hr hq⟩
     have:=(hs.box id _ hb).1
     rw [<- hu.1] at this
     exact this
   ·cases h
  | _=>exact plain h
theorem Kk {H:HP} {φ:Ai} {st:List V}:∀ {ks:List Kd} {vs:List AV} {j:Nat} {y:List AV×List (Nat×Kd)} {us:List Value},AE (VC H φ st) vs us->HL st j ks vs=some y ->
  AE (fun a u=>VF H a u\/∃ (m:Nat) (p:Nat×Kd),a=.row (j+m)/\y.2[m]? = some p/\AC st p.1=false/\(U st p.1).isSome=true/\u=φ p.1) y.1 us
 | [],[],j,y,us,hv,h=>by cases h; exact hv
 | [],_::_,j,y,us,hv,h=>by simp [HL] at h
 | _::_,[],j,y,us,hv,h=>by simp [HL] at h
 | k::ks,v::vs,j,y,us,⟨u,us',e,hu,hr⟩,h=>by
  subst e
  have row:∀ id,v=.row id->AC st id=false->((HL st (j+1) ks vs).bind fun r=>some (AV.row j::r.1,(id,k)::r.2))=some y ->
    AE (fun a u=>VF H a u\/∃ (m:Nat) (p:Nat×Kd),a=.row (j+m)/\y.2[m]? = some p/\AC st p.1=false/\(U st p.1).isSome=true/\u=φ p.1) y.1 (u::us'):=by
   intro id ev hva h'
   subst ev
   cases hq:HL st (j+1) ks vs with
   | none=>rw [hq] at h'; cases h'
   | some q =>
    rw [hq] at h'
    cases h'
    refine ⟨u,us',rfl,.inr ⟨0,(id,k),rfl,rfl,hva,hu.2,hu.1⟩,(Kk hr hq).imp fun a u h=>?_⟩
    rcases h with h | ⟨m,p,h1,h2,h3⟩
    ·exact .inl h
    ·exact .inr ⟨m+1,p,by rw [h1]; congr 1; omega,by simpa using h2,h3⟩
  have plain:((v.norm k).bind fun a=>(HL st j ks vs).bind fun r=>some (a::r.1,r.2))=some y ->
    AE (fun a u=>VF H a u\/∃ (m:Nat) (p:Nat×Kd),a=.row (j+m)/\y.2[m]? = some p/\AC st p.1=false/\(U st p.1).isSome=true/\u=φ p.1) y.1 (u::us'):=by
   intro h
   cases hn:v.norm k with
   | none=>rw [hn] at h; cases h
   | some a =>
    rw [hn] at h
    simp only [J] at h
    cases hq:HL st j ks vs with
    | none=>rw [hq] at h; cases h
    | some q =>
     rw [hq] at h
     cases h
     obtain ⟨n1,n2,n3,n4⟩:=Iq hn
     exact ⟨u,us',rfl,.inl (n4 H u (hu.solid n3)),Kk hr hq⟩
  cases v with
  | row id =>
   simp only [HL] at h
   split at h
   ·rename_i t e xs hb
    split at h
    ·exact row id rfl (by simp only [AC,hb]) h
    ·cases h
   ·rename_i t e xs hb
    split at h
    ·exact row id rfl (by simp only [AC,hb]) h
    ·cases h
   ·cases h
  | _=>exact plain h
structure Qu (H:HP) (φ:Ai) (st:List V) (cl:List AV) (ids:List Nat) (vs:List Value):Prop where
 len:cl.length=vs.length
 cnt:O cl=ids.length
 boxes:∀ (m:Nat) (b:V),(AF cl)[m]? = some b->∃ (i:Nat) (t:TypeId) (e:Kd),∃ xs:List (Kd.T e),ids[m]? = some i/\st[i]? = some (V.rows t e xs)/\b=V.rows t e xs
 cells:∀ (k o:Nat) (a:AV),(AJ k cl)[o]? = some a->∃ u,vs[o]? = some u/\((∃ m i:Nat,a=AV.row (k+m)/\ids[m]? = some i/\u=φ i)\/VF H a u)
inductive CB (H:HP) (φ:Ai) (st:List V) (pt:Nat->Option (Nat×Kd)) (lent:Nat->Prop):List AV->List Value->List Nat->Prop
 | nil:CB H φ st pt lent [] [] []
 | val {a:AV} {c:Value} {aw cs ms}:VE H a c->CB H φ st pt lent aw cs ms->CB H φ st pt lent (a::aw) (c::cs) ms
 | bor {i:Nat} {t:TypeId} {K:Kd} {xs:List K.T} {aw cs ms}:lent i->st[i]? = some (.rows t K xs)->CB H φ st pt lent aw cs ms->CB H φ st pt lent (.lst K xs::aw) (φ i::cs) ms
 | mov {i:Nat} {t:TypeId} {K:Kd} {xs:List K.T} {aw cs ms}:st[i]? = some (.rows t K xs)->CB H φ st pt lent aw cs ms->CB H φ st pt lent (.new t K xs::aw) (φ i::cs) (i::ms)
 | cap {f:Nat} {K:Kd} {z:K.T} {c:Value} {aw cs ms}:NA H f (B6 H K z) (.func (.func f) #[] #[c])->CB H φ st pt lent aw cs ms->CB H φ st pt lent (.fptr (K.enc z) 0::aw) (c::cs) ms
 | borS {K:Kd} {z:K.T} {y:List AV} {arr:Array Value} {aw cs ms}:AE (Qt H φ st lent) y arr.toList->K.ofCells y=some z->(K.av z=.agg (K.enc z))->CB H φ st pt lent aw cs ms->CB H φ st pt lent (K.av z::aw) (.agg arr::cs) ms
 | movS {cl:List AV} {ids:List Nat} {arr:Array Value} {aw cs ms}:Qu H φ st cl ids arr.toList->CB H φ st pt lent aw cs ms->CB H φ st pt lent (.agg cl::aw) (.agg arr::cs) (ids++ms)
 | lendw {a:AV} {c:Value} {aw cs ms}:QB H φ st pt a c->CB H φ st pt lent aw cs ms->CB H φ st pt lent (a::aw) (c::cs) ms
 | ptr {k:Nat} {p:Nat×Kd} {b:Nat} {aw cs ms}:pt k=some p->φ p.1=.pointer (some ⟨b,0,none⟩)->CB H φ st pt lent aw cs ms->CB H φ st pt lent (.ptr k 0::aw) (φ p.1::cs) ms
theorem Jc {φ:Ai} {w:World}:∀ {ks:List Kd} {vs:List AV} {s s':St} {H:HP},SR H φ s.st w->(∀ v∈vs,∀ i,v=.row i->(U s.st i).isSome=true)->s.settle ks vs=some s' ->
  ∃ H',AB H φ s.st w H' φ s'.st w/\Aa φ s.st φ s'.st none/\s'.fr=s.fr/\s'.st.length=s.st.length/\(∀ {i:Nat} {b:V},s'.st[i]? = some b->b.live=true->s.st[i]? = some b)
 | [],[],s,s',H,hs,_,h=>by cases h; exact ⟨H,AB.refl hs,Aa.refl _ _ _,rfl,rfl,fun h _=>h⟩
 | [],_::_,s,s',H,hs,_,h=>by simp [St.settle] at h
 | _::_,[],s,s',H,hs,_,h=>by simp [St.settle] at h
 | k::ks,v::vs,s,s',H,hs,hv,h=>by
  have rest:s.settle ks vs=some s'->∃ H',AB H φ s.st w H' φ s'.st w/\Aa φ s.st φ s'.st none/\s'.fr=s.fr/\s'.st.length=s.st.length/\(∀ {i:Nat} {b:V},s'.st[i]? = some b->b.live=true->s.st[i]? = some b) :=
   fun h=>Jc hs (fun v hm=>hv v (by simp [hm])) h
  have freeze:∀ i,v=.row i->((s.keep (.row i)).bind fun x=>x.2.settle ks vs)=some s'->∃ H',AB H φ s.st w H' φ s'.st w/\Aa φ s.st φ s'.st none/\s'.fr=s.fr/\s'.st.length=s.st.length/\(∀ {i:Nat} {b:V},s'.st[i]? = some b->b.live=true->s.st[i]? = some b):=by
   intro i ev h
   cases hk:s.keep (.row i) with
   | none=>rw [hk] at h; cases h
   | some x =>
    obtain ⟨a1,s1⟩:=x
    rw [hk] at h
    simp only [J] at h
    have hki:=hv v (by simp) i ev
    obtain ⟨H1,g1,k1,_,e1,n1⟩:=Fo hs (show VC H φ s.st (.row i) (φ i) from ⟨rfl,hki⟩) hk
    obtain ⟨H2,g2,k2,e2,n2,b2⟩:=Jc g1.sr (fun v hm j ej=>by
     have:=hv v (by simp [hm]) j ej
     rw [(k1 j (by simp) (.inl this)).2.1]
     exact this) h
    exact ⟨H2,g1.trans g2,k1.trans k2,e2.trans e1,n2.trans n1,fun h hl=>L2 hk (b2 h hl) hl⟩
  simp only [St.settle] at h
  split at h
  ·split at h
   ·exact rest h
   ·exact freeze _ rfl h
  ·exact rest h
theorem C7 {φ:Ai} {w:World} {pt:Nat->Option (Nat×Kd)} {lent:Nat->Prop}:∀ {args:List (Av×PK)} {j:Nat} {q:Mg} {s s':St} {H:HP} {cs:List Value},SR H φ s.st w->AE (fun (x:Av×PK) c=>VA H φ s.st (s.opd x.1) c) args cs ->
  s.args args j=some (q,s')->(∀ k,q.ptrs[k]? = pt (j+k)\/q.ptrs[k]? = none)->(∀ i∈q.bors,lent i)->(∀ i∈q.movs++q.bors,∃ (t:TypeId) (K:Kd),∃ xs:List (Kd.T K),s'.st[i]? = some (V.rows t K xs)) ->
  ∃ H',AB H φ s.st w H' φ s'.st w/\Aa φ s.st φ s'.st none/\s'.fr=s.fr/\s'.st.length=s.st.length/\CB H' φ s'.st pt lent q.args (C9 args cs) q.movs /\
   (∀ {i:Nat} {b:V},s'.st[i]? = some b->b.live=true->s.st[i]? = some b)
 | [],j,q,s,s',H,cs,hs,hc,h,_,_,_=>by
  cases h
  cases hc
  exact ⟨H,AB.refl hs,Aa.refl _ _ _,rfl,rfl,.nil,fun h _=>h⟩
 | (x,.val K)::r,j,q,s,s',H,cs,hs,hc,h,hp,hl,hv=>by
  obtain ⟨c,cs,rfl,h1,h2⟩:=hc
  simp only [St.args] at h
  split at h
  ·rename_i hfit
   cases hk:s.keepAll (s.opd x).cells with
   | none=>rw [hk] at h; cases h
   | some y =>
    obtain ⟨a',s1⟩:=y
    rw [hk] at h
    simp only [J] at h
    obtain ⟨H1,g1,k1,f1,e1,n1⟩:=DR hs h1 hk
    cases hz:K.ofCells a' with
    | none=>rw [hz] at h; cases h
    | some z =>
     rw [hz] at h
     simp only [J] at h
     cases hq:s1.args r j with
     | none=>rw [hq] at h; cases h
     | some q' =>
      obtain ⟨q1,s2⟩:=q'
      rw [hq] at h
      cases h
      have ho:∀ x,s1.opd x=s.opd x:=fun x=>by cases x<;>simp [St.opd,e1]
      obtain ⟨H2,g2,k2,e2,n2,h3,b2⟩:=C7 (pt:=pt) (lent:=lent) g1.sr (h2.imp fun x c hx=>by rw [ho]; exact hx.mono g1.le k1) hq hp hl hv
      refine ⟨H2,g1.trans g2,k1.trans k2,e2.trans e1,n2.trans n1,.val ?_ h3,fun h hl=>Iu hk (b2 h hl) hl⟩
      obtain ⟨c1,c2,d1,d2,d3⟩:=CD K f1 (Br hz)
      cases d3
      rw [List.append_nil] at d1
      refine (Nc (by rw [d1]; exact d2) ?_).mono g2.le
      rcases h1.cases with ⟨ds,arr,ea,ev,_⟩ | ⟨vs,arr,ea,_,_⟩ | hvc
      ·rw [ea] at hfit
       cases K with
       | pair a b=>exact ⟨arr,ev⟩
       | _=>cases hfit
      ·rw [ea] at hk
       simp [AV.cells,St.keepAll,St.keep] at hk
      ·rw [Fs hvc] at hk
       simp only [St.keepAll] at hk
       cases hkk:s.keep (s.opd x) with
       | none=>rw [hkk] at hk; cases hk
       | some y2 =>
        obtain ⟨H3,_,_,f3,_⟩:=Fo hs hvc (show s.keep (s.opd x)=some (y2.1,y2.2) from hkk)
        have hcell:=f3.cells
        cases K with
        | pair a b =>
         have:=d2.length
         rw [<- d1,hcell] at this
         have p1:=Kd.sz_pos a
         have p2:=Kd.sz_pos b
         simp [Kd.sz] at this
         omega
        | _=>exact hcell
  ·cases h
 | (x,.bor K)::r,j,q,s,s',H,cs,hs,hc,h,hp,hl,hv=>by
  obtain ⟨c,cs,rfl,h1,h2⟩:=hc
  simp only at h1
  have plain:∀ v,s.opd x=v->(if v.solid=true then (K.ofCells [v]).bind fun z=>(s.args r j).bind fun q=>some ((⟨K.av z::q.1.args,q.1.ptrs,q.1.movs,q.1.bors⟩:Mg),q.2) else none)=some (q,s') ->
    ∃ H',AB H φ s.st w H' φ s'.st w/\Aa φ s.st φ s'.st none/\s'.fr=s.fr/\s'.st.length=s.st.length/\CB H' φ s'.st pt lent q.args (c::C9 r cs) q.movs /\
     (∀ {i:Nat} {b:V},s'.st[i]? = some b->b.live=true->s.st[i]? = some b):=by
   intro v ev h
   split at h
   ·rename_i hsol
    cases hz:K.ofCells [v] with
    | none=>rw [hz] at h; cases h
    | some z =>
     rw [hz] at h
     simp only [J] at h
     cases hq:s.args r j with
     | none=>rw [hq] at h; cases h
     | some q' =>
      obtain ⟨q1,s2⟩:=q'
      rw [hq] at h
      cases h
      obtain ⟨H2,g2,k2,e2,n2,h3,b2⟩:=C7 (pt:=pt) (lent:=lent) hs h2 hq hp hl hv
      rw [ev] at h1
      refine ⟨H2,g2,k2,e2,n2,.val ?_ h3,b2⟩
      have hf:VF H v c:=by
       rcases h1.cases with ⟨ds,arr,ea,_,_⟩ | ⟨vs,arr,ea,_,_⟩ | hvc
       ·rw [ea] at hsol; cases hsol
       ·rw [ea] at hsol; cases hsol
       ·exact hvc.solid hsol
      obtain ⟨c1,c2,d1,d2,d3⟩:=CD K (aw:=[v]) (vs:=[c]) ⟨c,[],rfl,hf,rfl⟩ (Br hz)
      cases d3
      rw [List.append_nil] at d1
      subst d1
      have hc2:=d2.vcells
      refine (Nc (by rw [hc2]; exact d2) ?_).mono g2.le
      cases K with
      | pair a b =>
       have:=d2.length
       have p1:=Kd.sz_pos a
       have p2:=Kd.sz_pos b
       simp [Kd.sz] at this
       omega
      | _=>exact hc2
   ·cases h
  simp only [St.args] at h
  cases hx:s.opd x with
  | row id =>
   rw [hx] at h h1
   obtain ⟨ec,_⟩:=h1
   subst ec
   simp only at h
   split at h
   ·rename_i t e xs hb
    split at h
    ·rename_i hK
     cases hq:s.args r j with
     | none=>rw [hq] at h; cases h
     | some q' =>
      obtain ⟨q1,s2⟩:=q'
      rw [hq] at h
      cases h
      obtain ⟨H2,g2,k2,e2,n2,h3,b2⟩:=C7 (pt:=pt) (lent:=lent) hs h2 hq hp (fun i hi=>hl i (by simp [hi])) (fun i hi=>hv i (by
       rcases Bw.1 hi with h | h
       ·exact List.mem_append_left _ h
       ·exact List.mem_append_right _ (by simp [h])))
      obtain ⟨t',K',xs',hlive⟩:=hv id (by simp)
      have heq:=b2 hlive rfl
      rw [hb] at heq
      cases heq
      exact ⟨H2,g2,k2,e2,n2,.bor (hl id (by simp)) hlive h3,b2⟩
    ·cases h
   ·rename_i e xs hb
    split at h
    ·rename_i hK
     cases hq:s.args r j with
     | none=>rw [hq] at h; cases h
     | some q' =>
      obtain ⟨q1,s2⟩:=q'
      rw [hq] at h
      cases h
      obtain ⟨H2,g2,k2,e2,n2,h3,b2⟩:=C7 (pt:=pt) (lent:=lent) hs h2 hq hp hl hv
      exact ⟨H2,g2,k2,e2,n2,.val (VE.mono g2.le (a:=.lst e xs) (hs.box id _ hb).1) h3,b2⟩
    ·cases h
   ·cases h
  | agg ds =>
   rw [hx] at h h1
   simp only at h
   split at h
   case isFalse=>cases h
   rename_i hfit
   cases hy:KI s.st ds with
   | none=>rw [hy] at h; cases h
   | some y =>
    rw [hy] at h
    simp only [J] at h
    cases hz:K.ofCells y.1 with
    | none=>rw [hz] at h; cases h
    | some z =>
     rw [hz] at h
     simp only [J] at h
     cases hq:s.args r j with
     | none=>rw [hq] at h; cases h
     | some q' =>
      obtain ⟨q1,s2⟩:=q'
      rw [hq] at h
      cases h
      obtain ⟨H2,g2,k2,e2,n2,h3,b2⟩:=C7 (pt:=pt) (lent:=lent) hs h2 hq hp (fun i hi=>hl i (by simp [hi])) (fun i hi=>hv i (by
       rcases Bw.1 hi with h | h
       ·exact List.mem_append_left _ h
       ·exact List.mem_append_right _ (by simp [h])))
      obtain ⟨arr,ec,hd⟩:=h1
      subst ec
      refine ⟨H2,g2,k2,e2,n2,.borS (y:=y.1) ((Kj hs hd hy).imp fun a u h=>?_) hz ?_ h3,b2⟩
      ·rcases h with h | ⟨i,t,e,xs,h1,h2,h4,h5⟩
       ·exact .inl (h.mono g2.le)
       ·obtain ⟨t',K',xs',hlive⟩:=hv i (by simp [h1])
        have heq:=b2 hlive rfl
        rw [h2] at heq
        cases heq
        exact .inr ⟨i,t,e,xs,hl i (by simp [h1]),hlive,h4,h5⟩
      ·cases K with
       | pair a b=>rfl
       | _=>cases hfit
  | _=>exact plain _ hx (by rw [hx] at h; exact h)
 | (x,.mov K)::r,j,q,s,s',H,cs,hs,hc,h,hp,hl,hv=>by
  obtain ⟨c,cs,rfl,h1,h2⟩:=hc
  simp only [St.args] at h
  split at h
  ·rename_i id hx
   split at h
   ·rename_i t e xs hb
    split at h
    ·cases hq:s.args r j with
     | none=>rw [hq] at h; cases h
     | some q' =>
      obtain ⟨q1,s2⟩:=q'
      rw [hq] at h
      cases h
      simp only at h1
      rw [hx] at h1
      obtain ⟨ec,_⟩:=h1
      subst ec
      obtain ⟨H2,g2,k2,e2,n2,h3,b2⟩:=C7 (pt:=pt) (lent:=lent) hs h2 hq hp hl (fun i hi=>hv i (by
       rcases Bw.1 hi with h | h
       ·exact List.mem_append_left _ (by simp [h])
       ·exact List.mem_append_right _ h))
      obtain ⟨t',K',xs',hlive⟩:=hv id (by simp)
      have heq:=b2 hlive rfl
      rw [hb] at heq
      cases heq
      exact ⟨H2,g2,k2,e2,n2,.mov hlive h3,b2⟩
    ·cases h
   ·cases h
  ·cases h
 | (x,.movS K)::r,j,q,s,s',H,cs,hs,hc,h,hp,hl,hv=>by
  obtain ⟨c,cs,rfl,h1,h2⟩:=hc
  simp only [St.args] at h
  split at h
  ·rename_i ds hx
   cases hy:Cx s.st K.leaves ds with
   | none=>rw [hy] at h; cases h
   | some y =>
    rw [hy] at h
    simp only [J] at h
    cases hq:s.args r j with
    | none=>rw [hq] at h; cases h
    | some q' =>
     obtain ⟨q1,s2⟩:=q'
     rw [hq] at h
     cases h
     simp only at h1
     rw [hx] at h1
     obtain ⟨arr,ec,hd⟩:=h1
     subst ec
     obtain ⟨H2,g2,k2,e2,n2,h3,b2⟩:=C7 (pt:=pt) (lent:=lent) hs h2 hq hp hl (fun i hi=>hv i (by
      rcases Bw.1 hi with h | h
      ·exact List.mem_append_left _ (by simp [h])
      ·exact List.mem_append_right _ h))
     have F:=Fu hy
     refine ⟨H2,g2,k2,e2,n2,.movS ⟨F.len.trans hd.length.symm,F.cnt,fun m b hb=>?_,fun k o a ha=>?_⟩ h3,b2⟩
     ·obtain ⟨i,t,e,xs,i1,i2,i3⟩:=F.boxes m b hb
      obtain ⟨t',K',xs',hlive⟩:=hv i (List.mem_append_left _ (List.mem_append_left _ (List.mem_of_getElem? i1)))
      have heq:=b2 hlive rfl
      rw [i2] at heq
      cases heq
      exact ⟨i,_,_,_,i1,hlive,i3⟩
     ·obtain ⟨c,c1,c2⟩:=F.cells k o a ha
      obtain ⟨u,u1,u2⟩:=hd.get o c c1
      refine ⟨u,u1,?_⟩
      rcases c2 with ⟨m,i,e1,e2,e3⟩ | ⟨e1,e2,e3⟩ | ⟨i,e,xs,e1,e2,e3⟩
      ·subst e3
       exact .inl ⟨m,i,e1,e2,u2.1⟩
      ·exact .inr ((e3 _ _ (u2.solid e2)).mono g2.le)
      ·subst e2
       subst e1
       obtain ⟨eu,_⟩:=u2
       subst eu
       exact .inr (VF.mono g2.le (a:=.lst e xs) (hs.box i _ e3).1)
  ·cases h
 | (x,.ptr K)::r,j,q,s,s',H,cs,hs,hc,h,hp,hl,hv=>by
  obtain ⟨c,cs,rfl,h1,h2⟩:=hc
  simp only [St.args] at h
  split at h
  ·rename_i id hx
   split at h
   ·rename_i bcs hbx
    cases hst:s.settle K.leaves bcs with
    | none=>rw [hst] at h; cases h
    | some s1 =>
    rw [hst] at h
    simp only [J] at h
    obtain ⟨H1,g1,k1,e1,n1,b1'⟩:=Jc hs (fun v hv i ev=>by subst ev; obtain ⟨o,ho⟩:=List.mem_iff_getElem?.1 hv; exact (hs.cell id bcs hbx o i ho).1) hst
    have ho:∀ x,s1.opd x=s.opd x:=fun x=>by cases x<;>simp [St.opd,e1]
    cases hq:s1.args r (j+1) with
    | none=>rw [hq] at h; cases h
    | some q' =>
     obtain ⟨q1,s2⟩:=q'
     rw [hq] at h
     cases h
     obtain ⟨H2,g2,k2,e2,n2,h3,b2⟩:=C7 (pt:=pt) (lent:=lent) g1.sr (h2.imp fun x c hx=>by rw [ho]; exact hx.mono g1.le k1) hq (fun k=>by
      have:=hp (k+1)
      simp only [List.getElem?_cons_succ] at this
      rw [show j+1+k=j+(k+1) by omega]
      exact this) hl hv
     simp only at h1
     rw [hx] at h1
     obtain ⟨_,b,b1,b3⟩:=h1
     have e:c=φ id:=b3.trans b1.symm
     subst e
     refine ⟨H2,g1.trans g2,k1.trans k2,e2.trans e1,n2.trans n1,CB.ptr (p:=(id,K)) (b:=b) ?_ b1 h3,fun h hl=>b1' (b2 h hl) hl⟩
     rcases hp 0 with h | h
     ·simpa using h.symm
     ·simp at h
   ·cases h
  ·cases h
 | (x,.mut K)::r,j,q,s,s',H,cs,hs,hc,h,hp,hl,hv=>by
  obtain ⟨c,cs,rfl,h1,h2⟩:=hc
  simp only [St.args] at h
  cases hy:HL s.st j K.leaves (s.opd x).cells with
  | none=>rw [hy] at h; cases h
  | some y =>
   rw [hy] at h
   simp only [J] at h
   cases hq:s.args r (j+y.2.length) with
   | none=>rw [hq] at h; cases h
   | some q' =>
    obtain ⟨q1,s2⟩:=q'
    rw [hq] at h
    cases h
    obtain ⟨H2,g2,k2,e2,n2,h3,b2⟩:=C7 (pt:=pt) (lent:=lent) hs h2 hq (fun k=>by
     have:=hp (y.2.length+k)
     rw [Ao (by omega),Nat.add_sub_cancel_left,<- Nat.add_assoc] at this
     exact this) hl hv
    have pts:∀ (m:Nat) (p:Nat×Kd),y.2[m]? = some p->pt (j+m)=some p:=by
     intro m p hm
     have hlm:=(AG.1 hm).1
     rcases hp m with h | h
     ·rw [<- h,AH hlm]; exact hm
     ·rw [AH hlm,hm] at h; cases h
    have one:∀ a u,(VF H a u\/∃ (m:Nat) (p:Nat×Kd),a=.row (j+m)/\y.2[m]? = some p/\AC s.st p.1=false/\(U s.st p.1).isSome=true/\u=φ p.1)->PS H2 φ s2.st pt a u:=by
     intro a u h
     rcases h with h | ⟨m,p,h1,h2,h3,h4,h5⟩
     ·exact .inl (h.mono g2.le)
     ·exact .inr ⟨j+m,p,h1,pts m p h2,((k2 p.1 (by simp) (.inl h4)).2.2.1).trans h3,h5⟩
    refine ⟨H2,g2,k2,e2,n2,CB.lendw ?_ h3,b2⟩
    simp only at h1
    rcases h1.cases with ⟨ds,arr,ea,ev,hd⟩ | ⟨vs,arr,ea,_,_⟩ | hvc
    ·rw [ea] at hy ⊢
     subst ev
     exact .inl ⟨y.1,arr,rfl,rfl,(Kk hd hy).imp one⟩
    ·rw [ea] at hy
     exfalso
     simp only [AV.cells] at hy
     cases hks:K.leaves with
     | nil=>rw [hks] at hy; simp [HL] at hy
     | cons k ks =>
      rw [hks] at hy
      simp [HL,AV.norm,AV.solid] at hy
    ·have hcell:(s.opd x).cells=[s.opd x]:=Fs hvc
     rw [hcell] at hy
     have:=Kk (show AE (VC H φ s.st) [s.opd x] [c] from ⟨c,[],rfl,hvc,rfl⟩) hy
     have hlk:∀ z,(s.opd x).like z=z.headD .undef:=fun z=>by
      generalize s.opd x=v at hvc
      cases v<;>first | rfl | exact hvc.elim
     rw [hlk]
     cases hy1:y.1 with
     | nil=>rw [hy1] at this; cases this
     | cons a aw =>
      rw [hy1] at this
      obtain ⟨u,us,e,h1',_⟩:=this
      cases e
      exact .inr (one a c h1')
 | (x,.cap f K)::r,j,q,s,s',H,cs,hs,hc,h,hp,hl,hv=>by
  obtain ⟨c,cs,rfl,h1,h2⟩:=hc
  simp only [St.args] at h
  split at h
  ·rename_i f' K' z hx
   split at h
   ·rename_i ef
    split at h
    ·rename_i ek
     subst ef ek
     cases hq:s.args r j with
     | none=>rw [hq] at h; cases h
     | some q' =>
      obtain ⟨q1,s2⟩:=q'
      rw [hq] at h
      cases h
      obtain ⟨H2,g2,k2,e2,n2,h3,b2⟩:=C7 (pt:=pt) (lent:=lent) hs h2 hq hp hl hv
      simp only at h1
      rw [hx] at h1
      have h1:NA H f' (B6 H K' z) c:=h1
      have h1':=JS g2.le (fun _ h=>B6.mono g2.le h) h1
      obtain ⟨b,o,c',el,fz,e,rest⟩:=h1'
      subst e
      exact ⟨H2,g2,k2,e2,n2,CB.cap (f:=f') ⟨b,o,c',el,fz,rfl,rest⟩ h3,b2⟩
    ·cases h
   ·cases h
  ·cases h
 | (x,.cap0 f)::r,j,q,s,s',H,cs,hs,hc,h,hp,hl,hv=>by
  obtain ⟨c,cs,rfl,h1,h2⟩:=hc
  simp only [St.args] at h
  split at h
  ·split at h
   ·exact C7 (args:=r) (pt:=pt) (lent:=lent) hs h2 h hp hl hv
   ·cases h
  ·cases h
theorem HG:∀ {ks:List Kd} {vs:List AV} {s s':St},s.settle ks vs=some s'->s'.fr=s.fr
 | [],[],s,s',h=>by cases h; rfl
 | [],_::_,s,s',h=>by simp [St.settle] at h
 | _::_,[],s,s',h=>by simp [St.settle] at h
 | k::ks,v::vs,s,s',h=>by
  simp only [St.settle] at h
  split at h
  ·split at h
   ·exact HG h
   ·rename_i i _ _
    cases hk:s.keep (.row i) with
    | none=>rw [hk] at h; cases h
    | some x =>
     rw [hk] at h
     simp only [J] at h
     exact (HG h).trans (Nf (a':=x.1) hk)
  ·exact HG h
theorem Cr:∀ {l:List (Av×PK)} {x:Av} {p:PK} {s:St} {j:Nat} {r:Mg×St},s.args (l++[(x,p)]) j=some r->∃ (j':Nat) (s':St) (r':Mg×St),s'.fr=s.fr/\s'.args [(x,p)] j'=some r'
 | [],x,p,s,j,r,h=>⟨j,s,r,rfl,h⟩
 | (y,.val K)::l,x,p,s,j,r,h=>by
  simp only [List.cons_append,St.args] at h
  split at h
  ·cases hk:s.keepAll (s.opd y).cells with
   | none=>rw [hk] at h; cases h
   | some a =>
    rw [hk] at h
    simp only [J] at h
    cases hz:K.ofCells a.1 with
    | none=>rw [hz] at h; cases h
    | some z =>
     rw [hz] at h
     simp only [J] at h
     cases hq:a.2.args (l++[(x,p)]) j with
     | none=>rw [hq] at h; cases h
     | some q =>
      obtain ⟨j',s',r',e,h'⟩:=Cr hq
      exact ⟨j',s',r',e.trans (K9 hk),h'⟩
  ·cases h
 | (y,.bor K)::l,x,p,s,j,r,h=>by
  have go:∀ {ρ:Type} {g:Mg×St->Option ρ} {r:ρ},(s.args (l++[(x,p)]) j).bind g=some r->∃ (j':Nat) (s':St) (r':Mg×St),s'.fr=s.fr/\s'.args [(x,p)] j'=some r':=by
   intro ρ g r h
   cases hq:s.args (l++[(x,p)]) j with
   | none=>rw [hq] at h; cases h
   | some q=>exact Cr hq
  simp only [List.cons_append,St.args] at h
  split at h
  ·split at h
   ·split at h
    ·exact go h
    ·cases h
   ·split at h
    ·exact go h
    ·cases h
   ·cases h
  ·split at h
   ·rename_i cs' _ _
    cases hy:KI s.st cs' with
    | none=>rw [hy] at h; cases h
    | some y' =>
     rw [hy] at h
     simp only [J] at h
     cases hz:K.ofCells y'.1 with
     | none=>rw [hz] at h; cases h
     | some z =>
      rw [hz] at h
      exact go h
   ·cases h
  ·split at h
   ·cases hz:K.ofCells [s.opd y] with
    | none=>rw [hz] at h; cases h
    | some z =>
     rw [hz] at h
     exact go h
   ·cases h
 | (y,.mov K)::l,x,p,s,j,r,h=>by
  simp only [List.cons_append,St.args] at h
  split at h
  ·split at h
   ·split at h
    ·cases hq:s.args (l++[(x,p)]) j with
     | none=>rw [hq] at h; cases h
     | some q=>exact Cr hq
    ·cases h
   ·cases h
  ·cases h
 | (y,.movS K)::l,x,p,s,j,r,h=>by
  simp only [List.cons_append,St.args] at h
  split at h
  ·rename_i ds _
   cases hy:Cx s.st K.leaves ds with
   | none=>rw [hy] at h; cases h
   | some y' =>
    rw [hy] at h
    simp only [J] at h
    cases hq:s.args (l++[(x,p)]) j with
    | none=>rw [hq] at h; cases h
    | some q=>exact Cr hq
  ·cases h
 | (y,.ptr K)::l,x,p,s,j,r,h=>by
  simp only [List.cons_append,St.args] at h
  split at h
  ·split at h
   ·rename_i bcs _
    cases hst:s.settle K.leaves bcs with
    | none=>rw [hst] at h; cases h
    | some s1 =>
     rw [hst] at h
     simp only [J] at h
     cases hq:s1.args (l++[(x,p)]) (j+1) with
     | none=>rw [hq] at h; cases h
     | some q =>
      obtain ⟨j',s',r',e,h'⟩:=Cr hq
      exact ⟨j',s',r',e.trans (HG hst),h'⟩
   ·cases h
  ·cases h
 | (y,.mut K)::l,x,p,s,j,r,h=>by
  simp only [List.cons_append,St.args] at h
  cases hy:HL s.st j K.leaves (s.opd y).cells with
  | none=>rw [hy] at h; cases h
  | some y' =>
   rw [hy] at h
   simp only [J] at h
   cases hq:s.args (l++[(x,p)]) (j+y'.2.length) with
   | none=>rw [hq] at h; cases h
   | some q=>exact Cr hq
 | (y,.cap f K)::l,x,p,s,j,r,h=>by
  simp only [List.cons_append,St.args] at h
  split at h
  ·split at h
   ·split at h
    ·cases hq:s.args (l++[(x,p)]) j with
     | none=>rw [hq] at h; cases h
     | some q=>exact Cr hq
    ·cases h
   ·cases h
  ·cases h
 | (y,.cap0 f)::l,x,p,s,j,r,h=>by
  simp only [List.cons_append,St.args] at h
  split at h
  ·split at h
   ·exact Cr h
   ·cases h
  ·cases h
theorem VE.opens {H:HP} {a:AV} {v:Value} (h:VE H a v) (k:Nat):IX k a=a/\O a.cells=0/\AF a.cells=[]:=by
 have sol:∀ {cs:List AV} {vs:List Value},Cf H cs vs->∀ k,AJ k cs=cs/\O cs=0/\AF cs=[]:=by
  intro cs
  induction cs with
  | nil=>intro vs _ k; exact ⟨rfl,rfl,rfl⟩
  | cons c cs ih =>
   intro vs h k
   obtain ⟨v,r,rfl,h1,h2⟩:=h
   obtain ⟨o1,o2,o3⟩:=Kw (k:=k) (r:=cs) h1
   obtain ⟨i1,i2,i3⟩:=ih h2 k
   exact ⟨by rw [o1,i1],by rw [o3]; exact i2,by rw [o2]; exact i3⟩
 rcases h.cases with ⟨cs,arr,rfl,_,hc⟩ | h
 ·obtain ⟨s1,s2,s3⟩:=sol hc k
  exact ⟨by simp only [IX,s1],s2,s3⟩
 ·have e:a.cells=[a]:=by cases a<;>first | rfl | exact h.elim
  obtain ⟨s1,s2,s3⟩:=sol (cs:=[a]) (vs:=[v]) ⟨v,[],rfl,h,rfl⟩ k
  refine ⟨?_,by rw [e]; exact s2,by rw [e]; exact s3⟩
  have:IX k a=(AJ k [a]).headD .undef:=by cases a<;>first | rfl | exact h.elim
  rw [this,s1]
  rfl
theorem PT:∀ (K:Kd) (cs r:List AV) (x:K.T),(cs.all fun a=>!a.isNew)=true->K.dec cs=some (x,r)->((K.enc x).all fun a=>!a.isNew)=true/\(r.all fun a=>!a.isNew)=true:=by
 intro K
 induction K with
 | pair a b iha ihb =>
  intro cs r x hn h
  simp only [Kd.dec] at h
  cases h1:a.dec cs with
  | none=>simp [h1] at h
  | some p =>
   simp only [h1,J] at h
   cases h2:b.dec p.2 with
   | none=>simp [h2] at h
   | some q =>
    simp only [h2,J,AK,Prod.mk.injEq] at h
    obtain ⟨rfl,rfl⟩:=h
    obtain ⟨e1,e2⟩:=iha cs p.2 p.1 hn h1
    obtain ⟨e3,e4⟩:=ihb p.2 q.2 q.1 e2 h2
    exact ⟨by simp only [Kd.enc,List.all_append,e1,e3,Bool.and_self],e4⟩
 | own t e _ =>
  intro cs r x hn h
  cases cs with
  | nil=>simp [Kd.dec] at h
  | cons a cs=>cases a<;>first | (simp [AV.isNew] at hn; done) | (simp [Kd.dec] at h; done)
 | ref K _ =>
  intro cs r x hn h
  cases cs with
  | nil=>simp [Kd.dec] at h
  | cons a cs=>cases a<;>first | (simp [AV.isNew] at hn; done) | (simp [Kd.dec] at h; done)
 | _ =>
  intro cs r x hn h
  cases cs with
  | nil=>simp [Kd.dec] at h
  | cons a cs =>
   simp only [List.all_cons,E] at hn
   refine ⟨rfl,?_⟩
   have e:r=cs:=by
    cases a<;>first | (simp [Kd.dec] at h; done) | (simp [Kd.dec] at h; obtain ⟨_,_,rfl⟩:=h; rfl) | (simp [Kd.dec] at h; obtain ⟨_,rfl⟩:=h; rfl) | (simp only [Kd.dec] at h; split at h<;>first | (cases h; done) | (cases h; rfl) | (split at h<;>first | (cases h; done) | (cases h; rfl))) | (rename_i l; cases l<;>first | (simp [Kd.dec] at h; done) | (simp only [Kd.dec] at h; split at h<;>first | (cases h; done) | (cases h; rfl)))
   rw [e]
   exact hn.2
theorem Mp {K:Kd} {cs:List AV} {z:K.T} (h:K.ofCells cs=some z) (hn:(cs.all fun a=>!a.isNew)=true):((K.enc z).all fun a=>!a.isNew)=true:=(PT K cs [] z hn (Br h)).1
theorem Ob:∀ {cs:List AV},(cs.all fun a=>!a.isNew)=true->O cs=0/\∀ k,AJ k cs=cs/\AF cs=[]
 | [],_=>⟨rfl,fun _=>⟨rfl,rfl⟩⟩
 | a::cs,h=>by
  simp only [List.all_cons,E,B7] at h
  obtain ⟨h1,h2⟩:=Ob h.2
  have ha:=h.1
  refine ⟨by simp [O,ha,h1],fun k=>?_⟩
  obtain ⟨o1,o2⟩:=h2 k
  cases a<;>first | (cases ha; done) | exact ⟨by simp only [AJ,o1],by simp only [AF,o2]⟩
theorem QB.opens {H:HP} {φ:Ai} {st:List V} {pt:Nat->Option (Nat×Kd)} {a:AV} {c:Value} (h:QB H φ st pt a c) (k:Nat):IX k a=a/\O a.cells=0/\AF a.cells=[]:=by
 rcases h with ⟨aw,arr,rfl,_,hc⟩ | h | ⟨k',p,rfl,_⟩
 ·have hs:(aw.all fun a=>!a.isNew)=true:=by
   refine AT.2 fun a ha=>?_
   obtain ⟨j,hj⟩:=List.mem_iff_getElem?.1 ha
   obtain ⟨u,_,h | ⟨_,_,h,_⟩⟩:=hc.get j a hj
   ·cases a<;>first | rfl | exact h.elim
   ·rw [h]; rfl
  obtain ⟨h1,h2⟩:=Ob hs
  exact ⟨by simp only [IX,(h2 k).1],h1,(h2 k).2⟩
 ·exact (VE.of_VF h).opens k
 ·exact ⟨rfl,rfl,rfl⟩
theorem CB.news {H:HP} {φ:Ai} {st:List V} {pt:Nat->Option (Nat×Kd)} {lent:Nat->Prop} {aw:List AV} {cs:List Value} {ms:List Nat} (h:CB H φ st pt lent aw cs ms) :
  O (cellsOf aw)=ms.length/\∀ (m:Nat) (b:V),(AF (cellsOf aw))[m]? = some b->∃ (i:Nat) (t:TypeId) (e:Kd),∃ xs:List (Kd.T e),ms[m]? = some i/\st[i]? = some (V.rows t e xs)/\b=V.rows t e xs:=by
 have skip:∀ {a:AV} {aw:List AV} {ms:List Nat},O a.cells=0->AF a.cells=[]->(O (cellsOf aw)=ms.length/\∀ (m:Nat) (b:V),(AF (cellsOf aw))[m]? = some b->∃ (i:Nat) (t:TypeId) (e:Kd),∃ xs:List (Kd.T e),ms[m]? = some i/\st[i]? = some (V.rows t e xs)/\b=V.rows t e xs) ->
   (O (cellsOf (a::aw))=ms.length/\∀ (m:Nat) (b:V),(AF (cellsOf (a::aw)))[m]? = some b->∃ (i:Nat) (t:TypeId) (e:Kd),∃ xs:List (Kd.T e),ms[m]? = some i/\st[i]? = some (V.rows t e xs)/\b=V.rows t e xs):=by
  intro a aw ms h1 h2 h3
  have e:cellsOf (a::aw)=a.cells++cellsOf aw:=rfl
  rw [e,Ab,h1,Aj,h2,Nat.zero_add,List.nil_append]
  exact h3
 induction h with
 | nil=>exact ⟨rfl,fun m b h=>by simp [cellsOf,AF] at h⟩
 | val hv _ ih=>obtain ⟨_,h1,h2⟩:=hv.opens 0; exact skip h1 h2 ih
 | bor _ _ _ ih=>exact skip rfl rfl ih
 | cap _ _ ih=>exact skip rfl rfl ih
 | borS hb hz he _ ih =>
  rename_i K z y arr aw cs ms _
  have hs:(y.all fun a=>!a.isNew)=true:=by
   refine AT.2 fun a ha=>?_
   obtain ⟨j,hj⟩:=List.mem_iff_getElem?.1 ha
   obtain ⟨u,_,h | ⟨_,_,_,_,_,_,h,_⟩⟩:=hb.get j a hj
   ·cases a<;>first | rfl | exact h.elim
   ·rw [h]; rfl
  have hn:=Ob (Mp hz hs)
  exact skip (by rw [Gq]; exact hn.1) (by rw [Gq]; exact (hn.2 0).2) ih
 | lendw hm _ ih =>
  obtain ⟨_,h1,h2⟩:=hm.opens 0
  exact skip h1 h2 ih
 | ptr _ _ _ ih=>exact skip rfl rfl ih
 | movS hm _ ih =>
  rename_i cl ids arr aw cs ms _
  have e:cellsOf (AV.agg cl::aw)=cl++cellsOf aw:=rfl
  rw [e,Ab,Aj]
  refine ⟨by rw [hm.cnt,ih.1,List.length_append],fun m b hb=>?_⟩
  rcases Af m (AF cl).length with h | h
  ·rw [AH h] at hb
   obtain ⟨i,t,K,xs,h1,h2,h3⟩:=hm.boxes m b hb
   exact ⟨i,t,K,xs,by rw [AH (AG.1 h1).1]; exact h1,h2,h3⟩
  ·rw [Ao h] at hb
   obtain ⟨i,t,K,xs,h1,h2,h3⟩:=ih.2 _ b hb
   rw [BT,hm.cnt] at h1 h
   exact ⟨i,t,K,xs,by rw [Ao h]; exact h1,h2,h3⟩
 | mov hi _ ih =>
  rename_i i t K xs aw cs ms _
  have e:cellsOf (AV.new t K xs::aw)=.new t K xs::cellsOf aw:=rfl
  rw [e]
  refine ⟨by simp [O,AV.isNew,ih.1],fun m b hb=>?_⟩
  simp only [AF] at hb
  cases m with
  | zero=>simp at hb; subst hb; exact ⟨i,t,K,xs,rfl,hi,rfl⟩
  | succ m=>simpa using ih.2 m b (by simpa using hb)
theorem CB.callee {H H1:HP} {φ:Ai} {st est:List V} {ids:List (Nat×Kd)} {owns movs bors:List Nat} {aw:List AV} {cs:List Value} {ms:List Nat} (hE:Ir st ids.length (ids.map (·.1)++owns++movs) est)
  (hle:H.le H1) (hlent:∀ i∈bors,∀ (t:TypeId) (K:Kd) (xs:List (Kd.T K)),st[i]? = some (V.rows t K xs)->Hq (B6 H1 K) K.sz H1 xs (φ i))
  (hnp:∀ i b,((∃ (t:TypeId) (K:Kd),∃ xs:List (Kd.T K),st[i]? = some (V.rows t K xs))\/(∃ (t:TypeId) (K:Kd),∃ xs:List (Kd.T K),st[i]? = some (V.mrow t K xs)))->φ i≠.pointer (some ⟨b,0,none⟩))
  (h:CB H φ st (fun k=>ids[k]?) (· ∈ bors) aw cs ms):∀ (pre:List Nat),movs=pre++ms ->
  AE (VB H1 (fun k=>φ ((ids.map (·.1)++owns++movs).getD k 0)) est) (BM (ids.length+owns.length+pre.length) aw) cs:=by
 induction h with
 | nil=>intro pre _; rfl
 | val hv _ ih =>
  intro pre e
  obtain ⟨h1,h2,_⟩:=hv.opens (ids.length+owns.length+pre.length)
  simp only [BM,h1,h2,Nat.add_zero]
  exact ⟨_,_,rfl,VB.of_VE (hv.mono hle),ih pre e⟩
 | bor hi hst _ ih =>
  intro pre e
  exact ⟨_,_,rfl,VB.of_VC (a:=.lst _ _) (hlent _ hi _ _ _ hst),ih pre e⟩
 | cap hc _ ih =>
  intro pre e
  obtain ⟨b,o,c',el,fz,ev,hb,vs,hr,hv⟩:=hc
  simp only [Value.func.injEq,true_and,Array.mk.injEq,List.cons.injEq,and_true] at ev
  subst ev
  exact ⟨_,_,rfl,VB.of_VC (a:=.fptr _ 0) ⟨b,o,c',el,fz,rfl,hle _ _ hb,vs,Cf.mono hle (Cf.of_rep hr),hv⟩,ih pre e⟩
 | movS hm _ ih =>
  rename_i cl ids0 arr aw cs ms _
  intro pre e
  have hk:∀ m i,ids0[m]? = some i->(ids.map (·.1)++owns++movs)[ids.length+owns.length+pre.length+m]? = some i:=fun m i hm=>by
   rw [Ao (by simp; omega),e,List.length_append,List.length_map,Ao (by omega),AH (by have:=(AG.1 hm).1; omega),<- hm]
   congr 1; omega
  refine ⟨_,_,rfl,?_,?_⟩
  ·refine ⟨arr,rfl,FK (by rw [Co,hm.len]) fun o a v ha hv=>?_⟩
   obtain ⟨u,u1,u2⟩:=hm.cells _ o a ha
   rw [hv] at u1
   cases u1
   rcases u2 with ⟨m,i,rfl,h2,rfl⟩ | h
   ·have hk:=hk m i h2
    obtain ⟨b,hb⟩:=hE.at hk
    obtain ⟨i',hi',hc⟩:=hE.get _ b hb
    refine ⟨by simp only [CG hk],?_⟩
    rcases hc with ⟨hlt,_⟩ | ⟨_,t',e',xs',_,rfl⟩ | ⟨hlt,_⟩
    ·omega
    ·simp only [U,hb]; rfl
    ·omega
   ·exact VC.of_VF (h.mono hle)
  ·have:=ih (pre++ids0) (by rw [e,BO])
   have hcnt:=hm.cnt
   simpa [AV.cells,hcnt,Nat.add_assoc] using this
 | mov hst _ ih =>
  rename_i i t K xs aw cs ms _
  intro pre e
  have hk:(ids.map (·.1)++owns++movs)[ids.length+owns.length+pre.length]? = some i:=by
   rw [Ao (by simp),e]
   simp
  refine ⟨_,_,rfl,?_,?_⟩
  ·obtain ⟨b,hb⟩:=hE.at hk
   obtain ⟨i',hi',hc⟩:=hE.get _ b hb
   refine VB.of_VC (a:=.row _) ⟨by simp only [CG hk],?_⟩
   rcases hc with ⟨hlt,_⟩ | ⟨_,t',e',xs',_,rfl⟩ | ⟨hlt,_⟩
   ·omega
   ·simp only [U,hb]; rfl
   ·omega
  ·have:=ih (pre++[i]) (by simp [e])
   simpa [O,AV.cells,AV.isNew,Nat.add_assoc] using this
 | borS hb hz he _ ih =>
  rename_i K z y arr aw cs ms _
  intro pre e
  have hf:Cf H1 y arr.toList:=CE.2 (hb.imp fun a u h=>by
   rcases h with h | ⟨i,t,K',xs,g1,g2,rfl,rfl⟩
   ·exact h.mono hle
   ·exact hlent i g1 t K' xs g2)
  obtain ⟨c1,c2,d1,d2,d3⟩:=CD K hf (Br hz)
  cases d3
  rw [List.append_nil] at d1
  have hve:VE H1 (K.av z) (.agg arr):=by
   rw [he]
   exact ⟨arr,rfl,by rw [d1]; exact Cf.of_rep d2⟩
  obtain ⟨h1,h2,_⟩:=hve.opens (ids.length+owns.length+pre.length)
  simp only [BM,h1,h2,Nat.add_zero]
  exact ⟨_,_,rfl,VB.of_VE hve,ih pre e⟩
 | lendw hm _ ih =>
  rename_i a c aw cs ms _
  intro pre e
  obtain ⟨h1,h2,_⟩:=hm.opens (ids.length+owns.length+pre.length)
  simp only [BM,h1,h2,Nat.add_zero]
  have one:∀ a c,PS H φ st (fun k=>ids[k]?) a c->VC H1 (fun k=>φ ((ids.map (·.1)++owns++movs).getD k 0)) est a c:=by
   intro a c h
   rcases h with h | ⟨k,p,rfl,hp,hva,rfl⟩
   ·exact VC.of_VF (h.mono hle)
   ·have hp:ids[k]? = some p:=hp
    have hk1:k<ids.length:=(AG.1 hp).1
    have hk:(ids.map (·.1)++owns++movs)[k]? = some p.1:=by
     rw [BO,AH (by simpa using hk1),At,hp]
     rfl
    obtain ⟨bx,hbx⟩:=hE.at hk
    obtain ⟨i',hi',hc⟩:=hE.get _ bx hbx
    rw [hk] at hi'
    cases hi'
    refine ⟨by simp only [CG hk],?_⟩
    rcases hc with ⟨_,c1,c2,hst,_⟩ | ⟨hle,_⟩ | ⟨_,t',e',xs',_,rfl⟩
    ·simp only [AC,hst] at hva; cases hva
    ·omega
    ·simp only [U,hbx]; rfl
  refine ⟨_,_,rfl,?_,ih pre e⟩
  rcases hm with ⟨aw',arr,rfl,rfl,hc⟩ | hm
  ·exact ⟨arr,rfl,hc.imp one⟩
  ·exact VB.of_VC (one a c hm)
 | ptr hp hb _ ih =>
  rename_i k p b aw cs ms _
  intro pre e
  have hk1:k<ids.length:=(AG.1 hp).1
  have hk:(ids.map (·.1)++owns++movs)[k]? = some p.1:=by
   rw [BO,AH (by simpa using hk1),At,hp]
   rfl
  refine ⟨_,_,rfl,?_,by simpa [O,AV.cells,AV.isNew] using ih pre e⟩
  obtain ⟨bx,hbx⟩:=hE.at hk
  obtain ⟨i',hi',hc⟩:=hE.get _ bx hbx
  rw [hk] at hi'
  cases hi'
  refine VB.of_VC (a:=.ptr k 0) ⟨?_,b,by simp only [CG hk]; exact hb,hb⟩
  rcases hc with ⟨_,c1,c2,_,rfl,_⟩ | ⟨hle,_⟩ | ⟨_,t',e',xs',hst,rfl⟩
  ·simp only [AC,hbx]
  ·omega
  ·exact absurd hb (hnp p.1 b (by rcases hst with h | h; exact .inl ⟨_,_,_,h⟩; exact .inr ⟨_,_,_,h⟩))
def Gs:List Operand->List (Av×PK)->Bool
 | [],[]=>true
 | y::ys,x::xs=>BF y x.1&&Gs ys xs
 | _,_=>false
theorem K_ {H:HP} {φ:Ai} {s:St} {act:Act} (hf:B5 H φ s.st s.fr act.tmps):∀ {ys:List Operand} {xs:List (Av×PK)},Gs ys xs=true->AE (fun (x:Av×PK) c=>VA H φ s.st (s.opd x.1) c) xs (ys.map act.eval)
 | [],[],_=>rfl
 | y::ys,x::xs,h=>by
  simp only [Gs,E] at h
  exact ⟨_,_,rfl,AL hf h.1,K_ hf h.2⟩
 | [],_::_,h=>by simp [Gs] at h
 | _::_,[],h=>by simp [Gs] at h
def Mq (n:Nat) (o:Oper) (d:Option Nat) (f:Nat) (args:List (Av×PK)):Bool :=
 (o.dst==d&&(decide (f<BS)||decide (2*BS<=f)))&&(match d with | some d=>decide (d<n) | none=>true)&&(match o.op with
  | .call ⟨.value (.func g),cargs,_⟩=>g==f % BS&&Gs cargs.toList args&&args.all fun x=>!x.2.isCap
  | .call ⟨.value (.tmp y),cargs,_⟩=>(match args.getLast? with
   | some x=>decide (f<BS)&&Gs cargs.toList args.dropLast&&BF (.tmp y) x.1&&(args.dropLast.all fun x=>!x.2.isCap)&&(match x.2 with
    | .cap f' _=>f'==f
    | .cap0 f'=>f'==f
    | _=>false)
   | none=>false)
  | _=>false)
theorem Oc {H H':HP} {φ φ':Ai} {st st':List V} {rs:List AV} {f:AV->AV} {v:Value} (h:Qa H φ st rs v) (hf:∀ a∈rs,∀ u,VB H φ st a u->VB H' φ' st' (f a) u):VA H' φ' st' (Pr (rs.map f)) v:=by
 have mp:∀ {aw:List AV} {vs:List Value},(∀ a∈aw,∀ u,VB H φ st a u->VB H' φ' st' (f a) u)->AE (VB H φ st) aw vs->AE (VB H' φ' st') (aw.map f) vs:=by
  intro aw
  induction aw with
  | nil=>intro vs _ h; exact h
  | cons a aw ih =>
   intro vs hf h
   obtain ⟨v,r,rfl,h1,h2⟩:=h
   exact ⟨v,_,rfl,hf a (by simp) v h1,ih (fun b hb=>hf b (by simp [hb])) h2⟩
 cases rs with
 | nil =>
  obtain ⟨arr,e,h⟩:=h
  exact ⟨arr,e,mp (aw:=[]) (fun _ h=>by cases h) h⟩
 | cons a rs =>
  cases rs with
  | nil=>exact VA.of_VB (hf a (by simp) v h)
  | cons b rs =>
   obtain ⟨arr,e,h⟩:=h
   exact ⟨arr,e,mp hf h⟩
theorem HH:∀ {ys:List Operand} {xs:List (Av×PK)},Gs ys xs=true->xs.length=ys.length
 | [],[],_=>rfl
 | y::ys,x::xs,h=>by
  simp only [Gs,E] at h
  simp [HH h.2]
 | [],_::_,h=>by simp [Gs] at h
 | _::_,[],h=>by simp [Gs] at h
theorem N4 {H:HP} {φ:Ai} {s:St} {act:Act} {n:Nat} {o:Oper} {d:Option Nat} {f:Nat} {args:List (Av×PK)} {q:Mg×St} (h:Mq n o d f args=true) (hf:B5 H φ s.st s.fr act.tmps) (hq:s.args args 0=some q) :
  o.dst=d/\(∀ k,d=some k->k<n)/\∃ cs:List Value,AE (fun (x:Av×PK) c=>VA H φ s.st (s.opd x.1) c) args cs/\∀ w:World,MR P (f % BS)->(execOp act.eval o).run P w=.ok (.enter (f % BS) (C9 args cs).toArray) w:=by
 simp only [Mq,E,beq_iff_eq] at h
 obtain ⟨⟨⟨hd,_⟩,hdn⟩,h2⟩:=h
 refine ⟨hd,fun k e=>by subst e; simpa using hdn,?_⟩
 split at h2
 ·rename_i g cargs tys ho
  simp only [E,beq_iff_eq] at h2
  obtain ⟨⟨rfl,hargs⟩,hpl⟩:=h2
  refine ⟨_,K_ hf hargs,fun w hent=>?_⟩
  obtain ⟨fn,c,hfn,hname,hbody⟩:=hent
  have hname':¬ fn.name = "runtime.NumGoroutine" := by simpa using hname
  rw [GH (by simpa using HH hargs) hpl]
  have hargs':(cargs.toList.map act.eval).toArray=cargs.map act.eval:=by
   rw [<- Array.toList_map,Array.toArray_toList]
  rw [hargs']
  simp [execOp,ho,resolve,Act.eval,Deferred.ofValue,invoke,callFunc,run_program,hfn,hname',hbody]
 ·rename_i y cargs tys ho
  split at h2
  ·rename_i x hx
   simp only [E] at h2
   obtain ⟨⟨⟨⟨hfb,hargs⟩,hy⟩,hpl⟩,hp⟩:=h2
   rw [decide_eq_true_eq] at hfb
   rw [Nat.mod_eq_of_lt hfb]
   have hne:args≠[]:=fun e=>by rw [e] at hx; cases hx
   have hsplit:args=args.dropLast++[x]:=by
    rw [List.getLast?_eq_some_getLast hne] at hx
    rw [<- Option.some.inj hx]
    exact (List.dropLast_concat_getLast hne).symm
   have hvy:=AL hf hy
   refine ⟨cargs.toList.map act.eval++[act.eval (.tmp y)],?_,fun w hent=>?_⟩
   ·rw [hsplit]
    exact (K_ hf hargs).append ⟨_,_,rfl,hvy,rfl⟩
   ·obtain ⟨fn,c,hfn,hname,hbody⟩:=hent
    have hname':¬ fn.name = "runtime.NumGoroutine" := by simpa using hname
    have hargs':(cargs.toList.map act.eval).toArray=cargs.map act.eval:=by
     rw [<- Array.toList_map,Array.toArray_toList]
    rw [hsplit,Hi (by simpa using HH hargs),GH (by simpa using HH hargs) hpl,show (cargs.toList.map act.eval++C9 [x] [act.eval (.tmp y)]).toArray=(cargs.toList.map act.eval).toArray++(C9 [x] [act.eval (.tmp y)]).toArray from by simp,hargs']
    obtain ⟨x1,p⟩:=x
    rw [hsplit] at hq
    obtain ⟨j',s',r',efr,hl⟩:=Cr hq
    have hopd:s'.opd x1=s.opd x1:=by cases x1<;>simp [St.opd,efr]
    cases p with
    | cap f' K =>
     simp only [beq_iff_eq] at hp
     subst hp
     simp only [St.args] at hl
     split at hl
     ·rename_i f2 K2 z hz
      rw [hopd] at hz
      simp only at hvy
      rw [hz] at hvy
      split at hl
      ·rename_i e1
       subst e1
       obtain ⟨b,o',c',el,fz,ev,_⟩:=(hvy:NA H f2 (B6 H K2 z) _)
       simp only [C9,PR,ev,List.append_nil]
       simp [execOp,ho,resolve,ev,Deferred.ofValue,invoke,callFunc,run_program,hfn,hname',hbody]
      ·cases hl
     ·cases hl
    | cap0 f' =>
     simp only [beq_iff_eq] at hp
     subst hp
     simp only [St.args] at hl
     split at hl
     ·rename_i f2 hz
      rw [hopd] at hz
      simp only at hvy
      rw [hz] at hvy
      split at hl
      ·rename_i e1
       subst e1
       obtain ⟨_,ev⟩:=(hvy:([]:List AV)=[]/\act.eval (.tmp y)=.func (.func f2) #[] #[])
       simp only [C9,PR,List.append_nil]
       simp [execOp,ho,resolve,ev,Deferred.ofValue,invoke,callFunc,run_program,hfn,hname',hbody]
      ·cases hl
     ·cases hl
    | _=>cases hp
  ·cases h2
 ·cases h2
theorem PU {n:Nat} {o:Oper} {d:Option Nat} {f:Nat} {args:List (Av×PK)} {res:List Kd} {cal:Bv} (hcal:Ch P cal) (h:Mq n o d f args=true):Cg P n o (.call d f args res) cal:=by
 intro ρ kn r s act w H φ next Q hs hf hn hk hnext
 simp only [BZ] at hk
 cases hq:s.args args 0 with
 | none=>rw [hq] at hk; cases hk
 | some q0 =>
  obtain ⟨q,s1⟩:=q0
  rw [hq] at hk
  simp only [J] at hk
  obtain ⟨hd,hdn,cvs,hcvs,hrun⟩:=N4 h hf hq
  cases hb:DP s1.st q.ptrs with
  | none=>rw [hb] at hk; cases hk
  | some bx0 =>
   obtain ⟨bx,owns⟩:=bx0
   rw [hb] at hk
   simp only [J] at hk
   split at hk
   ·rename_i hchk
    simp only [E] at hchk
    obtain ⟨⟨hnd,hap⟩,hlv⟩:=hchk
    have hnd:=Ly hnd
    have hap:=Lz hap
    have hlv:=J9 hlv
    cases hc:cal f q.args bx with
    | none=>rw [hc] at hk; cases hk
    | some rs =>
     rw [hc] at hk
     simp only [J] at hk
     cases hy:Bo (res++q.ptrs.map (·.2)) rs with
     | none=>rw [hy] at hk; cases hk
     | some y =>
      rw [hy] at hk
      simp only [J] at hk
      obtain ⟨H1,g1,k1,e1,n1,ha,hback⟩:=C7 (pt:=fun k=>q.ptrs[k]?) (lent:=(· ∈ q.bors)) hs hcvs hq (fun k=>.inl (by simp)) (fun _ h=>h) hlv
      have F:=Hs hb
      obtain ⟨hent,hnf,m,hm,hcall⟩:=hcal.2 f q.args bx rs (by simp only [Mq,E,C6,decide_eq_true_eq] at h; exact h.1.1.2) hc
      obtain ⟨l1,l2,_⟩:=Ja _ rs y hy
      have hrs:BL _ y=rs:=L1 _ rs y hy hnf
      rw [hrs] at hk
      have hmr:m=res.length:=by
       have:rs.length=res.length+q.ptrs.length:=by rw [l1]; simp
       have:=F.len
       omega
      subst hmr
      have hE:=OZ F ha.news.1 ha.news.2
      obtain ⟨H2,st1,b1,b2,b3,b4,b5⟩:=QZ g1.sr q.bors (fun i hi=>hlv i (List.mem_append_right _ hi))
      have hsame:∀ i∈q.ptrs.map (·.1)++owns++q.movs,st1[i]? = s1.st[i]? := fun i hi=>b4 i fun h=>hap i h hi
      have hsr:=hE.sr hnd b2 hsame (fun i e xs hi=>by
       rw [b4 i fun h=>?_]
       ·exact hi
       ·obtain ⟨_,_,_,h2⟩:=hlv i (List.mem_append_right _ h)
        rw [hi] at h2
        cases h2)
      have hnp:∀ i b,((∃ (t:TypeId) (K:Kd),∃ xs:List (Kd.T K),s1.st[i]? = some (V.rows t K xs))\/(∃ (t:TypeId) (K:Kd),∃ xs:List (Kd.T K),s1.st[i]? = some (V.mrow t K xs)))->φ i≠.pointer (some ⟨b,0,none⟩):=by
       intro i b hi e
       rcases hi with ⟨t,K,xs,hi⟩ | ⟨t,K,xs,hi⟩
       ·obtain ⟨flat,ho,_⟩:=g1.sr.box i _ hi
        rcases ho.2 with ⟨e1,_⟩ | ⟨_,_,_,e1,_⟩<;>rw [e] at e1<;>cases e1
       ·obtain ⟨flat,ho,_⟩:=g1.sr.box i _ hi
        rcases ho.2 with ⟨e1,_⟩ | ⟨_,_,_,e1,_⟩<;>rw [e] at e1<;>cases e1
      have hargs2:=ha.callee hE b1 b5 hnp [] rfl
      have hhan:Bx bx=q.ptrs.length+owns.length:=by rw [JZ,F.len,F.cnt]
      simp only [List.length_nil,Nat.add_zero] at hargs2
      rw [<- hhan] at hargs2
      have hC:=hcall H2 _ w _ hsr hargs2
      have B:NF H1 φ s1.st w q.ptrs.length (q.ptrs.map (·.1)++owns) q.movs q.bors H2 (Ap bx q.args) :=
       ⟨g1.sr,hE,hnd,fun i hi=>hlv i (List.mem_append_right _ hi),hap,b1,b3,by simp⟩
      have houtl:(rs.drop res.length).length=q.ptrs.length:=by rw [List.length_drop,l1]; simp
      have houtk:∀ (j:Nat) (v:AV),(rs.drop res.length)[j]? = some v->∃ p,q.ptrs[j]? = some p/\∃ x:Kd.T p.2,v=Kd.av p.2 x:=by
       intro j v hj
       have hjl:j<q.ptrs.length:=by rw [<- houtl]; exact (AG.1 hj).1
       have hp:q.ptrs[j]? = some q.ptrs[j]:=by simp
       refine ⟨q.ptrs[j],hp,?_⟩
       have hK:(res++q.ptrs.map (·.2))[res.length+j]? = some q.ptrs[j].2:=by
        rw [Ao (by omega),Nat.add_sub_cancel_left,At,hp]; rfl
       obtain ⟨x,hx⟩:=Jb _ y _ _ hK
       rw [hrs] at hx
       rw [BN,hx] at hj
       exact ⟨x,(Option.some.inj hj).symm⟩
      have hcnt:O (AQ (rs.drop res.length))=owns.length:=by
       rw [Nd houtl houtk,<- Nd F.len F.kd,F.cnt]
      have hhan2:Bx (rs.drop res.length)=q.ptrs.length+owns.length:=by rw [JZ,houtl,hcnt]
      split at hk
      ·rename_i hflat
       simp only [C6,E,List.isEmpty_iff] at hflat
       unfold Oper.wp
       rw [hrun w hent,Oper.upon_enter]
       refine Calls.mono hC fun out w' hout=>?_
       cases out with
       | returned v =>
        obtain ⟨H3,φ3,c1,c2,c3,c4⟩:=hout
        rw [F.len,hE.len] at c3
        have hlen:(q.ptrs.map (·.1)++owns).length<=(Ap (rs.drop res.length) (rs.take res.length)).length:=by
         rw [Fe,houtl,hcnt]; simp only [List.length_append,List.length_map]; omega
        obtain ⟨H4,φ4,d1,dm,d2,d3⟩:=B.back c2 c1 c3 hlen (by
         intro k i hkn hbk
         have hpk:q.ptrs[k]? = some q.ptrs[k]:=by simp
         have hik:q.ptrs[k].1=i:=by
          rw [AH (by simpa using hkn),At,hpk] at hbk
          exact Option.some.inj hbk
         have hbxk:bx[k]? = some (bx[k]'(by rw [F.len]; exact hkn)):=by simp
         obtain ⟨p,hp,hc⟩:=F.vars 0 k _ hbxk
         rw [hpk] at hp
         cases hp
         have hok:(rs.drop res.length)[k]? = some ((rs.drop res.length)[k]'(by rw [houtl]; exact hkn)):=by simp
         obtain ⟨p,hp,x,hx⟩:=houtk k _ hok
         rw [hpk] at hp
         cases hp
         have hest:(Ap (rs.drop res.length) (rs.take res.length))[k]? = some (Mf ((rs.drop res.length).length+O (AQ ((rs.drop res.length).take k))) (Kd.av q.ptrs[k].2 x)):=by
          rw [Cp,AH (by rw [AN,houtl]; exact hkn),DV _ _ k _ hok,hx]
         rw [hik] at hc
         rcases hc with ⟨cs,ecs,ho,hst,_⟩ | ⟨t,e,xs,ho,hst,_⟩
         ·refine ⟨fun _ _=>⟨_,by rw [hest,(Cq x ho).2]⟩,fun t K xs h=>?_⟩
          rw [hst] at h
          rcases h with h | h<;>cases h
         ·refine ⟨fun cs h=>?_,fun t' K' xs' h=>?_⟩
          ·rcases hst with h2 | h2<;>rw [h2] at h<;>cases h
          ·have e1:t'=t/\K'=e:=by
            rcases hst with h2 | h2<;>rcases h with h | h<;>rw [h2] at h<;>cases h<;>exact ⟨rfl,rfl⟩
           obtain ⟨rfl,rfl⟩:=e1
           revert x
           rw [ho]
           intro x _ hest
           exact ⟨x,hest⟩) (by
         rcases hflat with h | h
         ·exact .inl h
         ·exact .inr h.1)
        have hdrop:(q.ptrs.map (·.1)++owns).drop q.ptrs.length=owns:=by
         rw [show q.ptrs.length=(q.ptrs.map (·.1)).length by simp,List.drop_left]
        rw [hdrop] at d2
        have hf4:B5 H4 φ4 (EW s1.st q.ptrs.length (q.ptrs.map (·.1)++owns) q.movs (Ap (rs.drop res.length) (rs.take res.length))) (s1.fr.map (D0 (owns++q.movs))) act.tmps:=by
         rw [e1]
         exact B5.kill d2 ((hf.mono g1.le k1).mono d1.le (Aa.refl _ _ _))
        have hres:=Oc c4 (H':=H4) (φ':=φ4) (st':=EW s1.st q.ptrs.length (q.ptrs.map (·.1)++owns) q.movs (Ap (rs.drop res.length) (rs.take res.length)))
         (f:=AV.renV (DN (q.ptrs.map (·.1)++owns) s1.st.length)) fun a ha u hu=>d3 a u (by
          rcases hflat with h | h
          ·exact .inl h
          ·exact .inr (AT.1 h.2 a ha)) hu
        refine hnext _ v w' H4 φ4 hk (g1.trans d1) ?_ ⟨?_,fun h=>by cases h⟩
        rotate_left
        ·intro i bi hi hl hni b hbi
         simp only [Bp.touch,hq,hb,Bw,not_or] at hni
         refine c3.old b ((hs.box i bi hi).blk_lt hl hbi) fun k hk=>?_
         have hk2:(q.ptrs.map (·.1)++owns++q.movs)[k]? = some (q.ptrs.map (·.1)++owns++q.movs)[k]:=by simp
         rw [CG hk2]
         intro e
         have hmem:=Kh hk
         have hne:(q.ptrs.map (·.1)++owns++q.movs)[k]≠i:=fun e2=>by
          rw [e2] at hmem
          simp only [Bw] at hmem
          rcases hmem with (h | h) | h
          ·exact hni.1.1 h
          ·exact hni.1.2 h
          ·exact hni.2 h
         obtain ⟨eb,heb⟩:=hE.at hk2
         obtain ⟨i',hi',hc'⟩:=hE.get k eb heb
         rw [hk2] at hi'
         cases hi'
         have hlv2:∃ b2,s.st[(q.ptrs.map (·.1)++owns++q.movs)[k]]? = some b2/\b2.live=true:=by
          rcases hc' with ⟨_,cs,ecs,h,_⟩ | ⟨_,t,e,xs,h,_⟩ | ⟨_,t,e,xs,h | h,_⟩
          ·exact ⟨_,hback h rfl,rfl⟩
          ·exact ⟨_,hback h rfl,rfl⟩
          ·exact ⟨_,hback h rfl,rfl⟩
          ·exact ⟨_,hback h rfl,rfl⟩
         obtain ⟨b2,h1,h2⟩:=hlv2
         exact hs.sep _ i b2 bi h1 hi h2 hl hne b e hbi
        cases d with
        | none=>rw [hd]; exact hf4
        | some d =>
         rw [Fq hd]
         exact hf4.put (by have:=hdn d rfl; omega) hres
       | panicked ch=>exact hout.elim
       | outgrown=>exact hout.elim
      ·cases hk
   ·cases hk
end Go.Proofs.Ytffahmnodgnohaa.Core

namespace Go.Proofs.Ytffahmnodgnohaa.Core
open Go
variable {H:HP} {φ:Ai} {st:List V} {w w':World} {P:Program}
theorem KA {k:IntKind}:∀ {xs:List Int} {flat:List Value},B8 H (.int k) xs flat->flat.length=xs.length*1->flat=xs.map (.int k)
 | [],flat,_,hl=>by
  have:flat=[]:=C5.1 (by simpa using hl)
  subst this; rfl
 | x::xs,flat,h,hl=>by
  cases flat with
  | nil=>simp at hl
  | cons a r =>
   have h0:B6 H (.int k) x ((a::r).take 1):=h 0 x rfl
   have h0:[a]=[.int k x]:=h0
   cases h0
   have:=KA (xs:=xs) (flat:=r) (fun j y hy=>by have:=h (j+1) y (by simpa using hy); simpa [Kd.sz] using this) (by simp at hl ⊢; omega)
   rw [this]; rfl
theorem Mr {k:IntKind} {xs:List Int}:B8 H (.int k) xs (xs.map (.int k)):=by
 intro j x hx
 have hj:j<xs.length:=(AG.1 hx).1
 have:((xs.map (Value.int k)).drop (j*(Kd.int k).sz)).take (Kd.int k).sz=[.int k x]:=by
  simp only [Kd.sz,Nat.mul_one]
  rw [List.drop_eq_getElem_cons (by simpa using hj)]
  simp [(AG.1 hx).2]
 rw [this]
 rfl
theorem Od {id j b:Nat} {T t:TypeId} {xs ys:List Int} (hs:SR H φ st w) (hid:st[id]? = some (.var [.self T,.row j])) (hj:st[j]? = some (.rows t (.int .u8) xs))
  (hb:φ id=.pointer (some ⟨b,0,none⟩)) (he:MS w w' b xs.length ys.length (φ j) T t ((xs++ys).map (.int .u8))) :
  ∃ φ',AB H φ st w H φ' (((st.map (V.kill [j])).set j (.rows t (.int .u8) (xs++ys))).set id (.var [.self T,.row j])) w' /\
   Au φ st φ' (((st.map (V.kill [j])).set j (.rows t (.int .u8) (xs++ys))).set id (.var [.self T,.row j])) [j]/\Lg [id,j] φ st w w':=by
 obtain ⟨w1,w2,v',g1,h1,g2,h2,h3,g3,h4⟩:=he
 have hij:id≠j:=fun e=>by subst e; rw [hid] at hj; cases hj
 have hil:id<st.length:=(AG.1 hid).1
 have hjl:j<st.length:=(AG.1 hj).1
 have hkid:U st id=none:=by simp only [U,hid]
 have self:∀ (u:Value),VW H (φ id) T (.self T) (.pointer (some ⟨b,0,none⟩)):=fun _=>⟨rfl,.inr hb.symm⟩
 have A:=AB.update (id:=id) (bx':=.var [.self T,.row j]) (v':=φ id) hs hid rfl (by rw [hb]; exact g1) ⟨b,_,T,hb,h1,_,_,rfl,self (φ id),_,_,rfl,trivial,rfl⟩ (fun _ h=>.inl h) (.inl ⟨rfl,rfl⟩)
  (fun k cs hk o ho=>by have:=(hs.cell k cs hk o id ho).1; rw [hkid] at this; cases this)
  (fun cs e o i ho=>by
   cases e
   match o,ho with
   | 1,ho =>
    cases ho
    exact ⟨Ne.symm hij,by simp [U,hj],b,hb,by simp [World.cell?,h1]⟩)
 have eφ:(fun i=>if i=id then φ id else φ i)=φ:=by funext i; by_cases e:i=id<;>simp [e]
 have est:st.set id (.var [.self T,.row j])=st:=by
  apply List.ext_getElem?
  intro i
  rw [AI]
  by_cases e:id=i
  ·subst e; rw [if_pos rfl,if_pos hil,hid]
  ·rw [if_neg e]
 rw [eφ,est] at A
 have hj1:(st.map (V.kill [j]))[j]? = some (.rows t (.int .u8) xs):=by rw [At,hj]; rfl
 have hid1:(st.map (V.kill [j]))[id]? = some (.var [.self T,.was j]):=by rw [At,hid]; simp [V.kill,AV.killB,AZ]
 have hvj:Y st j=false:=by simp only [Y,hj]; rfl
 have hvj1:Y (st.map (V.kill [j])) j=false:=by rw [Bg (Z [j])]; exact hvj
 have B:=AB.update (id:=j) (bx':=.rows t (.int .u8) (xs++ys)) (v':=v') (A.sr.kill [j]) hj1 rfl g2 ⟨_,by simpa [Kd.sz] using h2,Mr⟩ h3 (.inr hvj1)
  (fun k cs hk o ho=>by have:=Ex hk ho; simp [AZ] at this) (fun cs e=>by cases e)
 have hid2:((st.map (V.kill [j])).set j (.rows t (.int .u8) (xs++ys)))[id]? = some (.var [.self T,.was j]):=by rw [AI,if_neg (Ne.symm hij)]; exact hid1
 have hj2:((st.map (V.kill [j])).set j (.rows t (.int .u8) (xs++ys)))[j]? = some (.rows t (.int .u8) (xs++ys)):=by rw [AI]; simp [hjl]
 have eid:(fun i=>if i=j then v' else φ i) id=φ id:=by simp [hij]
 have hkid2:U ((st.map (V.kill [j])).set j (.rows t (.int .u8) (xs++ys))) id=none:=by simp only [U,hid2]
 have C:=AB.update (id:=id) (bx':=.var [.self T,.row j]) (v':=φ id) B.sr hid2 rfl (by rw [if_neg hij,hb]; exact g3) ⟨b,_,T,hb,h4,_,_,rfl,self (φ id),_,_,rfl,trivial,rfl⟩ (fun _ h=>.inl (by rw [if_neg hij]; exact h)) (.inl ⟨rfl,eid.symm⟩)
  (fun k cs hk o ho=>by have:=(B.sr.cell k cs hk o id ho).1; rw [hkid2] at this; cases this)
  (fun cs e o i ho=>by
   cases e
   match o,ho with
   | 1,ho =>
    cases ho
    exact ⟨Ne.symm hij,by simp [U,hj2],b,hb,by simp [World.cell?,h4]⟩)
 refine ⟨_,A.trans ((AB.kill A.sr [j]).trans (B.trans C)),⟨fun i hn _=>?_,fun i hv=>?_⟩,fun i bx hi hl hni c hc=>?_⟩
 ·have hne:i≠j:=fun e=>by subst e; simp [AZ] at hn
  have go:∀ q,q≠id->q≠j->(((st.map (V.kill [j])).set j (.rows t (.int .u8) (xs++ys))).set id (.var [.self T,.row j]))[q]? = (st.map (V.kill [j]))[q]? := fun q h1 h2=>by
   rw [AI,if_neg (Ne.symm h1),AI,if_neg (Ne.symm h2)]
  by_cases e:i=id
  ·subst e
   have:(((st.map (V.kill [j])).set j (.rows t (.int .u8) (xs++ys))).set i (.var [.self T,.row j]))[i]? = some (.var [.self T,.row j]):=by rw [AI]; simp [hil]
   exact ⟨by simp,by simp only [U,this,hid],by simp only [AC,this,hid]⟩
  ·refine ⟨by simp [e,hne],?_,?_⟩
   ·rw [<- By (Z [j]) st i]; simp only [U,go i e hne]
   ·rw [<- Bd (Z [j]) st i]; simp only [AC,go i e hne]
 ·have hne:i≠j:=fun e=>by subst e; rw [hvj] at hv; cases hv
  by_cases e:i=id
  ·subst e
   have:(((st.map (V.kill [j])).set j (.rows t (.int .u8) (xs++ys))).set i (.var [.self T,.row j]))[i]? = some (.var [.self T,.row j]):=by rw [AI]; simp [hil]
   exact ⟨by simp,by simp only [Y,this]; rfl,by simp only [AC,this,hid]⟩
  ·have go:(((st.map (V.kill [j])).set j (.rows t (.int .u8) (xs++ys))).set id (.var [.self T,.row j]))[i]? = (st.map (V.kill [j]))[i]? := by
    rw [AI,if_neg (Ne.symm e),AI,if_neg (Ne.symm hne)]
   have t1:Y (((st.map (V.kill [j])).set j (.rows t (.int .u8) (xs++ys))).set id (.var [.self T,.row j])) i=Y (st.map (V.kill [j])) i:=by simp only [Y,go]
   have t2:AC (((st.map (V.kill [j])).set j (.rows t (.int .u8) (xs++ys))).set id (.var [.self T,.row j])) i=AC (st.map (V.kill [j])) i:=by simp only [AC,go]
   exact ⟨by simp [e,hne],by rw [t1,Bg (Z [j])]; exact hv,by rw [t2,Bd (Z [j])]⟩
 ·simp only [AW,List.not_mem_nil,or_false,not_or] at hni
  have n1:c≠b:=fun e=>by subst e; exact hs.sep i id bx _ hi hid hl rfl hni.1 c hc (by rw [hb]; rfl)
  have n2:Bm (φ j)≠some c:=hs.sep i j bx _ hi hj hl rfl hni.2 c hc
  have hlt:=(hs.box i bx hi).blk_lt hl hc
  rw [g3.block c (Nat.lt_of_lt_of_le hlt (Nat.le_trans g1.size g2.size)) (by simpa using n1),g2.block c (Nat.lt_of_lt_of_le hlt g1.size) (fun e=>n2 e.symm),g1.block c hlt (by simpa using n1)]
theorem Ms {id j:Nat} {T t:TypeId} {xs:List Int} (hs:SR H φ st w) (hid:st[id]? = some (.var [.self T,.row j])) (hj:st[j]? = some (.rows t (.int .u8) xs)) (hg:w.grownBy w' (Bm (φ j))) :
  AB H φ st w H φ ((st.map (V.kill [j])).set j .dead) w'/\Au φ st φ ((st.map (V.kill [j])).set j .dead) [j]/\Lg [id,j] φ st w w':=by
 have hjl:j<st.length:=(AG.1 hj).1
 have hj1:(st.map (V.kill [j]))[j]? = some (.rows t (.int .u8) xs):=by rw [At,hj]; rfl
 have hvj:Y st j=false:=by simp only [Y,hj]; rfl
 have hvj1:Y (st.map (V.kill [j])) j=false:=by rw [Bg (Z [j])]; exact hvj
 have B:=AB.update (id:=j) (bx':=.dead) (v':=φ j) (hs.kill [j]) hj1 rfl hg trivial (fun _ h=>.inl h) (.inr hvj1)
  (fun k cs hk o ho=>by have:=Ex hk ho; simp [AZ] at this) (fun cs e=>by cases e)
 have eφ:(fun i=>if i=j then φ j else φ i)=φ:=by funext i; by_cases e:i=j<;>simp [e]
 rw [eφ] at B
 have go:∀ i,i≠j->((st.map (V.kill [j])).set j .dead)[i]? = (st.map (V.kill [j]))[i]? := fun i h=>by rw [AI,if_neg (Ne.symm h)]
 refine ⟨(AB.kill hs [j]).trans B,⟨fun i hn _=>?_,fun i hv=>?_⟩,fun i bx hi hl hni c hc=>?_⟩
 ·have hne:i≠j:=fun e=>by subst e; simp [AZ] at hn
  refine ⟨rfl,?_,?_⟩
  ·rw [<- By (Z [j]) st i]; simp only [U,go i hne]
  ·rw [<- Bd (Z [j]) st i]; simp only [AC,go i hne]
 ·have hne:i≠j:=fun e=>by subst e; rw [hvj] at hv; cases hv
  have t1:Y ((st.map (V.kill [j])).set j .dead) i=Y (st.map (V.kill [j])) i:=by simp only [Y,go i hne]
  have t2:AC ((st.map (V.kill [j])).set j .dead) i=AC (st.map (V.kill [j])) i:=by simp only [AC,go i hne]
  exact ⟨rfl,by rw [t1,Bg (Z [j])]; exact hv,by rw [t2,Bd (Z [j])]⟩
 ·simp only [AW,List.not_mem_nil,or_false,not_or] at hni
  exact hg.block c ((hs.box i bx hi).blk_lt hl hc) (fun e=>hs.sep i j bx _ hi hj hl rfl hni.2 c hc e.symm)
def QC (n:Nat) (o:Oper) (d:Option Nat) (k f:Nat) (x y:Av):Bool :=
 (o.dst==d&&decide (f<BS))&&(match d with | some d=>decide (d<n) | none=>true)&&(match o.op with
  | .call ⟨.value (.func g),cargs,_⟩=>g==f&&(match cargs.toList with
   | [x']=>k==2&&BF x' x
   | [x',y']=>decide (k≠2)&&BF x' x&&BF y' y
   | _=>false)
  | _=>false)
theorem QD {n:Nat} {o:Oper} {d:Option Nat} {k f t:Nat} {x y:Av} {cal:Bv} (hcal:Ch P cal) (h:QC n o d k f x y=true):Cg P n o (.bld d k f t x y) cal:=by
 intro ρ kn r s act w H φ next Q hs hf hn hk hnext
 simp only [BZ] at hk
 simp only [QC,E,beq_iff_eq,decide_eq_true_eq] at h
 obtain ⟨⟨⟨hd,hfb⟩,hdn⟩,h2⟩:=h
 split at hk
 ·rename_i id hx
  split at hk
  ·rename_i T j hid
   split at hk
   ·rename_i t' xs hj
    split at hk
    ·rename_i ht
     subst ht
     cases hq:cal (BS+f) [.int .i64 k,.int .i64 t',.int .i64 T] [] with
     | none=>rw [hq] at hk; cases hk
     | some q =>
      rw [hq,J] at hk
      cases q with
      | cons _ _=>cases hk
      | nil =>
      simp only [Bo,J] at hk
      obtain ⟨hent,hB⟩:=hcal.1 f k t' T hfb hq
      split at h2
      ·rename_i g cargs tys ho
       simp only [E,beq_iff_eq] at h2
       obtain ⟨rfl,hargs⟩:=h2
       obtain ⟨b,c,el,e1,hh,u0,r0,ec,⟨hel,hu0⟩,u1,r1,er,_,hr1⟩:=hs.box id _ hid
       subst hel
       have hr1:r1=[]:=hr1
       subst hr1 er
       have hc:c=#[u0,u1]:=by rw [<- Array.toArray_toList (xs:=c),ec]
       subst hc
       have hu1:u1=φ j:=by
        obtain ⟨_,b2,q1,q2⟩:=hs.cell id _ hid 1 j rfl
        rw [e1] at q1
        cases q1
        simp [World.cell?,hh] at q2
        exact q2
       subst hu1
       obtain ⟨flat,how,hrr⟩:=hs.box j _ hj
       have hfl:=KA hrr how.1
       subst hfl
       have hij:id≠j:=fun e=>by subst e; rw [hid] at hj; cases hj
       have hne:Bm (φ j)≠some b:=fun e=>hs.sep j id _ _ hj hid rfl rfl (Ne.symm hij) b e (by rw [e1]; rfl)
       have hun:u0=.pointer none\/u0=.pointer (some ⟨b,0,none⟩):=by rw [e1] at hu0; exact hu0
       obtain ⟨B0,B1,B2⟩:=hB w b u0 (φ j) xs hh hun how hne
       have hptr:∀ x',BF x' x=true->act.eval x'=.pointer (some ⟨b,0,none⟩):=fun x' hx'=>by
        have:=AL hf hx'
        rw [hx] at this
        obtain ⟨_,b2,q1,q2⟩:=this
        rw [e1] at q1
        cases q1
        exact q2
       have hrun:∀ w:World,(execOp act.eval o).run P w=.ok (.enter g (cargs.map act.eval)) w:=fun w=>by
        obtain ⟨fn,c,hfn,hname,hbody⟩:=hent
        have hname':¬ fn.name = "runtime.NumGoroutine" := by simpa using hname
        simp [execOp,ho,resolve,Act.eval,Deferred.ofValue,invoke,callFunc,run_program,hfn,hname',hbody]
       have fin:∀ {a:AV} {v:Value} {s1:St} {w':World} {φ':Ai},kn ⟨Mh d a s1.fr,s1.st⟩=some r->AB H φ s.st w H φ' s1.st w'->B5 H φ' s1.st s1.fr act.tmps->VA H φ' s1.st a v->Lg [id,j] φ s.st w w'->next (act.put o.dst v) w':=by
        intro a v s1 w' φ' hk hst hfr hva hm
        refine hnext _ v w' H φ' hk hst ?_ ⟨?_,fun h=>by cases h⟩
        ·cases d with
         | none=>rw [hd]; exact hfr
         | some d=>rw [Fq hd]; exact hfr.put (Nat.lt_of_lt_of_eq (show d<n by simpa using hdn) hn.symm) hva
        ·simp only [Bp.touch,hx,hid]; exact hm
       split at hk
       ·rename_i hk2
        split at hk
        ·rename_i hbyte
         have hargs':∃ x',cargs=#[x']/\BF x' x=true:=by
          rw [<- Array.toArray_toList (xs:=cargs)]
          split at hargs
          ·rename_i x' e; rw [e]; simp only [E] at hargs; exact ⟨x',rfl,hargs.2⟩
          ·simp [hk2] at hargs
          ·cases hargs
         obtain ⟨x',rfl,hx'⟩:=hargs'
         unfold Oper.wp
         rw [hrun w,Oper.upon_enter]
         have:=B2 hk2 hbyte
         simp only [List.map_toArray,List.map_cons,List.map_nil,hptr x' hx']
         refine Calls.mono this fun out w' hout=>?_
         obtain ⟨rfl,hg⟩:=hout
         obtain ⟨q1,q2,q3⟩:=Ms hs hid hj hg
         exact fin (s1:=⟨s.fr.map (D0 [j]),_⟩) hk q1 (hf.kill q2) rfl q3
        ·cases hk
       ·rename_i hk2
        cases ha:O6 k (s.opd y) with
        | none=>rw [ha] at hk; cases hk
        | some ys =>
         rw [ha] at hk
         simp only [J] at hk
         split at hk
         ·rename_i hlim
          have hargs':∃ x' y',cargs=#[x',y']/\BF x' x=true/\BF y' y=true:=by
           rw [<- Array.toArray_toList (xs:=cargs)]
           split at hargs
           ·simp [hk2] at hargs
           ·rename_i x' y' e; rw [e]; simp only [E] at hargs; exact ⟨x',y',rfl,hargs.1.2,hargs.2⟩
           ·cases hargs
          obtain ⟨x',y',rfl,hx',hy'⟩:=hargs'
          have vy:=AL hf hy'
          unfold Oper.wp
          rw [hrun w,Oper.upon_enter]
          simp only [List.map_toArray,List.map_cons,List.map_nil,hptr x' hx']
          have done:∀ (ys:List Int) (w':World) (v:Value),kn ⟨Mh d .undef (s.fr.map (D0 [j])),((s.st.map (V.kill [j])).set j (.rows t' (.int .u8) (xs++ys))).set id (.var [.self el,.row j])⟩=some r ->
            MS w w' b xs.length ys.length (φ j) el t' ((xs++ys).map (.int .u8))->next (act.put o.dst v) w':=fun ys w' v hk he=>by
           obtain ⟨φ',q1,q2,q3⟩:=Od hs hid hj e1 he
           exact fin (s1:=⟨s.fr.map (D0 [j]),_⟩) hk q1 (hf.kill q2) trivial q3
          unfold O6 at ha
          split at ha
          ·rename_i c hyc
           split at ha
           ·rename_i hk0
            cases ha
            have ey:act.eval y'=.int .u8 c:=vy.int hyc
            rw [ey]
            refine Calls.mono (B0 hk0 c (by simpa using hlim)) fun out w' hout=>?_
            obtain ⟨rv,rfl,he⟩:=hout
            exact done [c] w' rv hk he
           ·cases ha
          ·rename_i sv hyc
           split at ha
           ·rename_i hk1
            cases ha
            have ey:act.eval y'=.string sv:=vy.str hyc
            rw [ey]
            refine Calls.mono (B1 hk1 sv hlim) fun out w' hout=>?_
            obtain ⟨rv,rfl,he⟩:=hout
            exact done _ w' rv hk he
           ·cases ha
          ·cases ha
         ·cases hk
      ·cases h2
    ·cases hk
   ·cases hk
  ·cases hk
 ·cases hk
end Go.Proofs.Ytffahmnodgnohaa.Core

namespace Go.Proofs.Ytffahmnodgnohaa.Core
open Go
variable {P:Program}
def PV (n:Nat) (o:Oper) (d:Nat) (f:Nat) (x:Av):Bool :=
 C8 o n d&&(match o.op with
  | .makeFunc (.func g) first caps=>g==f&&first.toList.isEmpty&&(match caps.toList with | [y]=>BF y x | _=>false)
  | _=>false)
theorem QE {n:Nat} {o:Oper} {d f:Nat} {K:Kd} {x:Av} {cal:Bv} (h:PV n o d f x=true):Cg P n o (.clo d f K x) cal:=by
 intro ρ kn r s act w H φ next Q hs hf hn hk hnext
 simp only [PV,E] at h
 obtain ⟨h1,h2⟩:=h
 obtain ⟨hd,hdn⟩:=AX h1
 split at h2
 ·rename_i g first caps ho
  simp only [E,beq_iff_eq,List.isEmpty_iff] at h2
  obtain ⟨⟨rfl,hfi⟩,h2⟩:=h2
  split at h2
  ·rename_i y hc
   have hfi:first=#[]:=by rw [<- Array.toArray_toList (xs:=first),hfi]
   have hc:caps=#[y]:=by rw [<- Array.toArray_toList (xs:=caps),hc]
   subst hfi hc
   have hv:=AL hf h2
   simp only [BZ] at hk
   split at hk
   ·rename_i cs hx
    rw [hx] at hv
    cases hz:K.ofCells cs with
    | none=>rw [hz] at hk; cases hk
    | some z =>
     rw [hz] at hk
     simp only [J] at hk
     obtain ⟨b,o',c,el,fz,e,hb,vs,v1,v2⟩:=hv
     obtain ⟨c1,c2,d1,d2,d3⟩:=CD K v1 (Br hz)
     cases d3
     rw [List.append_nil] at d1
     subst d1
     refine AP hs hf hn hd hdn hk (v:=.func (.func g) #[] #[act.eval y]) (fun w2 _=>by simp [execOp,ho,Instr.makeFunc]) ?_ hnext
     exact ⟨b,o',c,el,fz,by rw [e]; rfl,hb,vs,d2,v2⟩
   ·cases hk
  ·cases h2
 ·cases h2
def Oe (n:Nat) (o:Oper) (d:Nat) (x:Av):Bool :=
 C8 o n d&&(match o.op with | .box _ y=>BF y x | _=>false)
theorem PW {n:Nat} {o:Oper} {d:Nat} {x:Av} {cal:Bv} (h:Oe n o d x=true):Cg P n o (.fbox d x) cal:=by
 intro ρ kn r s act w H φ next Q hs hf hn hk hnext
 simp only [Oe,E] at h
 obtain ⟨h1,h2⟩:=h
 obtain ⟨hd,hdn⟩:=AX h1
 split at h2
 ·rename_i t y ho
  simp only [BZ] at hk
  cases hq:s.keepAll (s.opd x).cells with
  | none=>rw [hq] at hk; cases hk
  | some z =>
   obtain ⟨aw,s1⟩:=z
   rw [hq] at hk
   simp only [J] at hk
   obtain ⟨H1,g1,k1,f1,e1,_⟩:=DR hs (AL hf h2) hq
   obtain ⟨H2,g2,hb2⟩:=AB.lit g1.sr (.cells (act.eval y).cells t)
   refine DU (s:=s) (s1:=s1) (a:=.fptr aw 0) (v:=.pointer (some ⟨w.heap.size,0,none⟩)) (g1.trans g2) ?_ hn hd hdn hk ?_ ?_ hnext (Lg.grown hs (World.grownBy_alloc w _ none)) rfl
   ·rw [e1]; exact (hf.mono g1.le k1).mono g2.le (Aa.refl _ _ _)
   ·simp [execOp,ho,Instr.box,newVar,newRow]
   ·exact ⟨w.heap.size,0,_,t,(0,0),rfl,hb2,_,f1.mono g2.le,fun j u hu=>by simpa using hu⟩
 ·cases h2
def PX (n:Nat) (o:Oper) (d:Nat) (x y:Av):Bool :=
 C8 o n d&&(match o.op with
  | .call ⟨.builtin .min,args,_⟩=>(match args.toList with
   | [a,b]=>BF a x&&BF b y
   | _=>false)
  | _=>false)
theorem QF {n:Nat} {o:Oper} {d:Nat} {x y:Av} {cal:Bv} (h:PX n o d x y=true):Cg P n o (.min d x y) cal:=by
 intro ρ kn r s act w H φ next Q hs hf hn hk hnext
 simp only [PX,E] at h
 obtain ⟨h1,h2⟩:=h
 obtain ⟨hd,hdn⟩:=AX h1
 split at h2
 ·rename_i args tys ho
  split at h2
  ·rename_i a b ha
   simp only [E] at h2
   have ha:args=#[a,b]:=by rw [<- Array.toArray_toList (xs:=args),ha]
   subst ha
   have va:=AL hf h2.1
   have vb:=AL hf h2.2
   simp only [BZ] at hk
   split at hk
   ·rename_i k u k' v hx hy
    rw [hx] at va
    rw [hy] at vb
    split at hk
    ·rename_i e
     subst e
     have va:act.eval a=.int k u:=va
     have vb:act.eval b=.int k v:=vb
     refine AP hs hf hn hd hdn hk (v:=.int k (min u v)) (fun w2 _=>?_) rfl hnext
     have hm:(if v<u then v else u)=min u v:=by
      rw [Int.min_def]
      split<;>split<;>omega
     simp [execOp,ho,resolve,invoke,builtin,Builtin.min_,Builtin.min2,va,vb,hm]
    ·cases hk
   ·cases hk
  ·cases h2
 ·cases h2

def Kl (P:Program) (n:Nat) (o:Oper):Bp->Bool
 | .mv d x=>Qm n o d x
 | .nilrow d _ _=>ML n o d
 | .pick d c a b=>J6 n o d c a b
 | .sc _ _ _ _ _ _=>false
 | .alloc d cs=>Ky P n o d cs
 | .box d x _=>Py n o d x
 | .build d z qs=>MQ P n o d z qs
 | .bnew d z qs=>OV P n o d z qs
 | .brow d e K qs=>P9 P n o d K qs e
 | .blst d K qs=>(match o.op with | .buildSlice t _ _=>P9 P n o d K qs (P.elem t) | _=>false)
 | .load d x m=>Kz P n o d x m
 | .store x y m _=>ND P o x y m
 | .nilc d x=>NV n o d x
 | .bin d b x y=>PG n o d b x y
 | .eqs d neg K x y=>PH P n o d neg K x y
 | .un d u x=>Qn n o d u x
 | .cvi d k x=>PE P n o d k x
 | .bts d x=>P7 P n o d x
 | .fld d x off=>PD P n o d x off
 | .field d x off m=>MN P n o d x off m
 | .idx d z x i=>PM P n o d z x i
 | .sidx d x i=>NY P n o d x i
 | .aidx d m x i=>NZ P n o d m x i
 | .sl d z x lo hi=>Qp P n o d z x lo hi
 | .mk d e K m=>Qs P n o d e K m
 | .fn d f caps=>Qo n o d f caps
 | .clo d f _ x=>PV n o d f x
 | .fbox d x=>Oe n o d x
 | .min d x y=>PX n o d x y
 | .app d e K a b=>N2 P n o d e K a b
 | .apz d e K a b=>N2 P n o d e K a b
 | .len d t x=>PI P n o d t x
 | .call d f args _=>Mq n o d f args
 | .bld d k f _ x y=>QC n o d k f x y
 | .ext d x i=>PF n o d x i
theorem LA {n:Nat} {o:Oper} {ao:Bp} {cal:Bv} (hcal:Ch P cal) (h:Kl P n o ao=true):Cg P n o ao cal:=by
 cases ao with
 | mv d x=>exact QU h
 | nilrow d t K=>exact Nv h
 | pick d c a b=>exact PA h
 | sc c w ops d a b=>cases h
 | alloc d cs=>exact OO h
 | box d x own=>exact Pz h
 | build d z qs=>exact OU h
 | bnew d z qs=>exact PN h
 | brow d e K qs=>exact PO h
 | blst d K qs =>
  simp only [Kl] at h
  split at h
  ·exact PP h
  ·cases h
 | load d x m=>exact PB h
 | store x y m own=>exact OP h
 | nilc d x=>exact PC h
 | bin d b x y=>exact P3 h
 | eqs d neg K x y=>exact P4 h
 | un d u x=>exact QV h
 | cvi d k x=>exact P1 h
 | bts d x=>exact P8 h
 | fld d x off=>exact P0 h
 | field d x off m=>exact OQ h
 | idx d z x i=>exact P6 h
 | sidx d x i=>exact PJ h
 | aidx d m x i=>exact PL h
 | sl d z x lo hi=>exact QX h
 | mk d e K m=>exact QY h
 | fn d f caps=>exact QW h
 | clo d f K x=>exact QE h
 | fbox d x=>exact PW h
 | min d x y=>exact QF h
 | app d e K a b=>exact P_ h
 | apz d e K a b=>exact QA h
 | len d t x=>exact P5 h
 | call d f args res=>exact PU hcal h
 | bld d k f t x y=>exact QD hcal h
 | ext d x i=>exact P2 h
def KL (ops:Array Oper) (j:Nat):Option Nat:=(ops[j]?).bind (·.dst)
def Mt (P:Program) (n:Nat) (ops:Array Oper) (g:Option (Nat×Bool)) (i:Nat) (ao:Bp):Option Nat :=
 match ops[i]? with
 | some o=>if (decide (o.guard=g)&&Kl P n o ao&&decide (o.dst.toList=ao.dsts)&&ao.dsts.all (fun d=>decide (d<n)))=true then some (i+1) else none
 | none=>none
mutual
def HM (P:Program) (n:Nat) (ops:Array Oper) (g:Option (Nat×Bool)):List Nat->Nat->List Bp->Option Nat
 | _,i,[]=>some i
 | D,i,ao::aos=>(Iv P n ops g D i ao).bind fun i'=>HM P n ops g (ao.dsts++D) i' aos
def Iv (P:Program) (n:Nat) (ops:Array Oper) (g:Option (Nat×Bool)) (D:List Nat) (i:Nat):Bp->Option Nat
 | .sc c want sub d a b =>
  match (ops[i]?).bind (·.guard) with
  | some (j,w)=>if (w==want&&KL ops j==some c&&!(Bf sub).contains c&&(g.isNone||D.contains c))=true then
    (HM P n ops (some (j,w)) [] i sub).bind fun i'=>match ops[i']? with
     | some o=>if (decide (o.guard=g)&&J6 n o d (.t c) a b)=true then some (i'+1) else none
     | none=>none
   else none
  | none=>none
 | ao=>Mt P n ops g i ao
end
def Qq (ops:Array Oper) (tmps:Array Value):Option (Nat×Bool)->Prop
 | none=>True
 | some (j,w)=>∃ c,KL ops j=some c/\tmps[c]? = some (.bool w)
theorem E1 {ops:Array Oper} {o:Oper} {tmps:Array Value} {g:Option (Nat×Bool)} (hg:o.guard=g) (h:Qq ops tmps g):Region.wanted o (yielded ops tmps)=true:=by
 unfold Region.wanted
 rw [hg]
 cases g with
 | none=>rfl
 | some p =>
  obtain ⟨j,w⟩:=p
  obtain ⟨c,h1,h2⟩:=h
  have:yielded ops tmps j=some w:=by
   unfold yielded
   unfold KL at h1
   rw [h1,J,h2]
  simp [this]
theorem Ht {ops:Array Oper} {o:Oper} {tmps:Array Value} {j c:Nat} {w:Bool} (hg:o.guard=some (j,w)) (hc:KL ops j=some c) (h:tmps[c]? ≠ some (.bool w)):Region.wanted o (yielded ops tmps)=false:=by
 unfold Region.wanted
 rw [hg]
 have:yielded ops tmps j≠some w:=by
  unfold yielded
  unfold KL at hc
  rw [hc,J]
  intro e
  split at e
  ·rename_i b hb
   cases e
   exact h hb
  ·cases e
 simpa using this
theorem DK {act:Act} {dst:Option Tmp} {v:Value} {t:Nat} (h:dst≠some t):(act.put dst v).tmps[t]? = act.tmps[t]? := by
 cases dst with
 | none=>rfl
 | some d =>
  have:d≠t:=fun e=>h (by rw [e])
  simp [Act.put,Array.getElem?_setIfInBounds,this]
theorem CR {act:Act} {dst:Option Tmp} {v:Value}:(act.put dst v).tmps.size=act.tmps.size:=by
 cases dst<;>simp [Act.put]
theorem Bz {act:Act} {dst:Option Tmp} {v:Value}:(act.put dst v).defers=act.defers:=by
 cases dst<;>rfl
theorem HI {act:Act} {d:Nat}:(act.put (some d) undef).tmps.getD d undef=undef:=by
 rcases Af d act.tmps.size with h | h<;>simp [Act.put,Array.getD,h]
theorem LB {ops:Array Oper} {Q:Exit->Act->World->Prop} {i:Nat} {rest:List Nat} {act:Act} {w:World} {o:Oper} (ho:ops[i]? = some o) (hw:Region.wanted o (yielded ops act.tmps)=true)
  (h:o.wp P act w (wpOps P ops Q rest) Q):wpOps P ops Q (i::rest) act w:=by
 simp only [wpOps,ho,hw,if_true]
 exact .inl h
theorem LC {ops:Array Oper} {Q:Exit->Act->World->Prop} {i:Nat} {rest:List Nat} {act:Act} {w:World} {o:Oper} (ho:ops[i]? = some o) (hw:Region.wanted o (yielded ops act.tmps)=false)
  (h:wpOps P ops Q rest (act.put o.dst undef) w):wpOps P ops Q (i::rest) act w:=by
 simp only [wpOps,ho,hw,Bool.false_eq_true,if_false]
 exact h
theorem QG {i i':Nat} (h:i<i'):List.range' i (i'-i)=i::List.range' (i+1) (i'-(i+1)):=by
 rw [show i'-i=(i'-(i+1))+1 by omega,List.range'_succ]
theorem FP {i j k:Nat} (h1:i<=j) (h2:j<=k):List.range' i (k-i)=List.range' i (j-i)++List.range' j (k-j):=by
 have:=List.range'_append (s:=i) (m:=j-i) (n:=k-j) (step:=1)
 rw [Nat.one_mul,show i+(j-i)=j by omega,show j-i+(k-j)=k-i by omega] at this
 exact this.symm
theorem Jd {n:Nat} {ops:Array Oper} {g:Option (Nat×Bool)} {i m:Nat} {ao:Bp} (h:Mt P n ops g i ao=some m) :
  m=i+1/\∃ o,ops[i]? = some o/\o.guard=g/\Kl P n o ao=true/\o.dst.toList=ao.dsts/\∀ d∈ao.dsts,d<n:=by
 unfold Mt at h
 cases ho:ops[i]? with
 | none=>rw [ho] at h; cases h
 | some o =>
  rw [ho] at h
  simp only at h
  split at h
  ·rename_i hb
   simp only [E,decide_eq_true_eq,AT] at hb
   cases h
   exact ⟨rfl,o,rfl,hb.1.1.1,hb.1.1.2,hb.1.2,hb.2⟩
  ·cases h
theorem MT {n:Nat} {ops:Array Oper} {g:Option (Nat×Bool)} {D:List Nat} {i m c d:Nat} {want:Bool} {sub:List Bp} {a b:Av} (h:Iv P n ops g D i (.sc c want sub d a b)=some m) :
  ∃ j i',KL ops j=some c/\c∉Bf sub/\(g.isNone=true\/c∈D)/\HM P n ops (some (j,want)) [] i sub=some i'/\m=i'+1/\∃ o,ops[i']? = some o/\o.guard=g/\J6 n o d (.t c) a b=true:=by
 simp only [Iv] at h
 split at h
 ·rename_i j w hj
  split at h
  ·rename_i hb
   simp only [E,beq_iff_eq,B7,C6,List.contains_eq_mem,decide_eq_false_iff_not,decide_eq_true_eq] at hb
   obtain ⟨⟨⟨rfl,h2⟩,h3⟩,h4⟩:=hb
   cases hs:HM P n ops (some (j,w)) [] i sub with
   | none=>rw [hs] at h; cases h
   | some i' =>
    rw [hs] at h
    simp only [J] at h
    split at h
    ·rename_i o ho
     split at h
     ·rename_i hp
      simp only [E,decide_eq_true_eq] at hp
      cases h
      exact ⟨j,i',h2,h3,h4,hs,rfl,o,ho,hp.1,hp.2⟩
     ·cases h
    ·cases h
  ·cases h
 ·cases h
mutual
theorem Je {n:Nat} {ops:Array Oper}:∀ (aos:List Bp) (g:Option (Nat×Bool)) (D:List Nat) (i i':Nat),HM P n ops g D i aos=some i'->i<=i'
 | [],g,D,i,i',h=>by simp only [HM,AK] at h; omega
 | ao::aos,g,D,i,i',h=>by
  simp only [HM] at h
  cases hi:Iv P n ops g D i ao with
  | none=>rw [hi] at h; cases h
  | some m =>
   rw [hi] at h
   exact Nat.le_trans (Nat.le_of_lt (MU ao g D i m hi)) (Je aos _ _ _ _ h)
theorem MU {n:Nat} {ops:Array Oper}:∀ (ao:Bp) (g:Option (Nat×Bool)) (D:List Nat) (i m:Nat),Iv P n ops g D i ao=some m->i<m
 | .sc c want sub d a b,g,D,i,m,h=>by
  obtain ⟨j,i',_,_,_,hs,rfl,_⟩:=MT h
  have:=Je sub _ _ _ _ hs
  omega
 | .mv ..,g,D,i,m,h | .nilrow ..,g,D,i,m,h | .pick ..,g,D,i,m,h | .alloc ..,g,D,i,m,h | .box ..,g,D,i,m,h | .build ..,g,D,i,m,h | .bnew ..,g,D,i,m,h | .brow ..,g,D,i,m,h
 | .blst ..,g,D,i,m,h | .load ..,g,D,i,m,h | .store ..,g,D,i,m,h | .nilc ..,g,D,i,m,h | .bin ..,g,D,i,m,h | .eqs ..,g,D,i,m,h | .un ..,g,D,i,m,h
 | .cvi ..,g,D,i,m,h | .bts ..,g,D,i,m,h | .fld ..,g,D,i,m,h | .field ..,g,D,i,m,h | .idx ..,g,D,i,m,h | .sidx ..,g,D,i,m,h | .aidx ..,g,D,i,m,h | .sl ..,g,D,i,m,h
 | .mk ..,g,D,i,m,h | .fn ..,g,D,i,m,h | .clo ..,g,D,i,m,h | .fbox ..,g,D,i,m,h | .min ..,g,D,i,m,h | .app ..,g,D,i,m,h | .apz ..,g,D,i,m,h | .len ..,g,D,i,m,h | .call ..,g,D,i,m,h | .bld ..,g,D,i,m,h | .ext ..,g,D,i,m,h=>by
  have:=(Jd (ao:=_) h).1
  omega
end
def QH (act act':Act) (ds:List Nat):Prop:=act'.tmps.size=act.tmps.size/\act'.defers=act.defers/\(∀ t,t∉ds->act'.tmps[t]? = act.tmps[t]?)/\(∀ t,act.tmps.getD t undef=undef->act'.tmps.getD t undef=undef)/\(∀ t∈ds,act'.tmps.getD t undef=undef)
theorem N5 {n:Nat} {ops:Array Oper} {j c:Nat} {w:Bool} (hc:KL ops j=some c) {Q:Exit->Act->World->Prop} {wd:World} {ao:Bp} {i m:Nat} {rest:List Nat} {act:Act} (h:Mt P n ops (some (j,w)) i ao=some m)
  (hn:act.tmps[c]? ≠ some (.bool w)) (hk:∀ act',QH act act' ao.dsts->wpOps P ops Q rest act' wd):wpOps P ops Q (List.range' i (m-i)++rest) act wd:=by
 obtain ⟨rfl,o,ho,hg,_,hds,hlt⟩:=Jd h
 rw [show i+1-i=1 by omega]
 refine LC ho (Ht hg hc hn) (hk _ ⟨CR,Bz,fun t ht=>DK fun e=>ht ?_,fun t ht=>?_,fun t ht=>?_⟩)
 ·rw [<- hds,e]; simp
 ·cases hd:o.dst with
  | none=>exact ht
  | some d =>
   by_cases e:d=t
   ·subst e; exact HI
   ·have:=DK (act:=act) (dst:=some d) (v:=undef) (t:=t) (by simpa using e)
    simpa [Array.getD_eq_getD_getElem?,this] using ht
 ·rw [<- hds] at ht
  cases hd:o.dst with
  | none=>rw [hd] at ht; simp at ht
  | some d =>
   rw [hd] at ht
   simp at ht
   subst ht
   exact HI
mutual
theorem LD {n:Nat} {ops:Array Oper} {j c:Nat} {w:Bool} (hc:KL ops j=some c) {Q:Exit->Act->World->Prop} {wd:World}:∀ (aos:List Bp) (D:List Nat) (i i':Nat) (rest:List Nat) (act:Act),HM P n ops (some (j,w)) D i aos=some i' ->
  act.tmps[c]? ≠ some (.bool w)->c∉Bf aos->(∀ t∈D,act.tmps.getD t undef=undef) ->
  (∀ act',QH act act' (Bf aos)->wpOps P ops Q rest act' wd)->wpOps P ops Q (List.range' i (i'-i)++rest) act wd
 | [],D,i,i',rest,act,h,hn,hd,hD,hk=>by
  simp only [HM,AK] at h
  subst h
  simp only [Nat.sub_self,List.range'_zero,List.nil_append]
  exact hk act ⟨rfl,rfl,fun _ _=>rfl,fun _ h=>h,fun t ht=>by simp [Bf] at ht⟩
 | ao::aos,D,i,i',rest,act,h,hn,hd,hD,hk=>by
  simp only [HM] at h
  cases hi:Iv P n ops (some (j,w)) D i ao with
  | none=>rw [hi] at h; cases h
  | some m =>
   rw [hi] at h
   simp only [J] at h
   simp only [Bf,Bw,not_or] at hd
   rw [FP (Nat.le_of_lt (MU ao _ _ _ _ hi)) (Je aos _ _ _ _ h),BO]
   refine N6 hc (Q:=Q) (wd:=wd) ao D i m (List.range' m (i'-m)++rest) act hi hn hd.1 hD fun act1 l1=>?_
   refine LD hc (Q:=Q) (wd:=wd) aos (ao.dsts++D) m i' rest act1 h (by rw [l1.2.2.1 c hd.1]; exact hn) hd.2 (fun t ht=>?_) fun act2 l2=>?_
   ·rcases Bw.1 ht with ht | ht
    ·exact l1.2.2.2.2 t ht
    ·exact l1.2.2.2.1 t (hD t ht)
   ·refine hk act2 ⟨l2.1.trans l1.1,l2.2.1.trans l1.2.1,fun t ht=>?_,fun t ht=>l2.2.2.2.1 t (l1.2.2.2.1 t ht),fun t ht=>?_⟩
    ·simp only [Bf,Bw,not_or] at ht
     rw [l2.2.2.1 t ht.2,l1.2.2.1 t ht.1]
    ·simp only [Bf,Bw] at ht
     rcases ht with ht | ht
     ·exact l2.2.2.2.1 t (l1.2.2.2.2 t ht)
     ·exact l2.2.2.2.2 t ht
theorem N6 {n:Nat} {ops:Array Oper} {j c:Nat} {w:Bool} (hc:KL ops j=some c) {Q:Exit->Act->World->Prop} {wd:World}:∀ (ao:Bp) (D:List Nat) (i m:Nat) (rest:List Nat) (act:Act),Iv P n ops (some (j,w)) D i ao=some m ->
  act.tmps[c]? ≠ some (.bool w)->c∉ao.dsts->(∀ t∈D,act.tmps.getD t undef=undef) ->
  (∀ act',QH act act' ao.dsts->wpOps P ops Q rest act' wd)->wpOps P ops Q (List.range' i (m-i)++rest) act wd
 | .sc c2 want sub d a b,D,i,m,rest,act,h,hn,hd,hD,hk=>by
  obtain ⟨j2,i',hg2,hcn,hcD,hs,rfl,o,ho,hgo,hp⟩:=MT h
  simp only [Bp.dsts,Bw,not_or] at hd
  have hc2:act.tmps.getD c2 undef=undef:=by
   rcases hcD with h | h
   ·cases h
   ·exact hD c2 h
  have hle:=Je sub _ _ _ _ hs
  have hpd:o.dst=some d/\d<n:=by
   simp only [J6,E] at hp
   exact AX hp.1
  have hnb:act.tmps[c2]? ≠ some (.bool want):=by
   intro e
   rw [Array.getD_eq_getD_getElem?,e] at hc2
   cases hc2
  rw [FP hle (Nat.le_succ i'),BO]
  refine LD hg2 (Q:=Q) (wd:=wd) sub [] i i' _ act hs hnb hcn (fun t ht=>by cases ht) fun act1 l1=>?_
  rw [show i'+1-i'=1 by omega]
  refine LC ho (Ht hgo hc (by rw [l1.2.2.1 c hd.1]; exact hn)) (hk _ ⟨CR.trans l1.1,Bz.trans l1.2.1,fun t ht=>?_,fun t ht=>?_,fun t ht=>?_⟩)
  ·simp only [Bp.dsts,Bw,not_or,MA] at ht
   rw [DK (by rw [hpd.1]; intro e; cases e; exact ht.2 rfl)]
   exact l1.2.2.1 t ht.1
  ·rw [hpd.1]
   by_cases e:d=t
   ·subst e; exact HI
   ·have:=DK (act:=act1) (dst:=some d) (v:=undef) (t:=t) (by simpa using e)
    have h2:=l1.2.2.2.1 t ht
    simpa [Array.getD_eq_getD_getElem?,this] using h2
  ·simp only [Bp.dsts,Bw,MA] at ht
   rw [hpd.1]
   by_cases e:d=t
   ·subst e; exact HI
   ·have:=DK (act:=act1) (dst:=some d) (v:=undef) (t:=t) (by simpa using e)
    have h2:=l1.2.2.2.2 t (ht.resolve_right (Ne.symm e))
    simpa [Array.getD_eq_getD_getElem?,this] using h2
 | .mv ..,D,i,m,rest,act,h,hn,hd,hD,hk | .nilrow ..,D,i,m,rest,act,h,hn,hd,hD,hk | .pick ..,D,i,m,rest,act,h,hn,hd,hD,hk | .alloc ..,D,i,m,rest,act,h,hn,hd,hD,hk
 | .box ..,D,i,m,rest,act,h,hn,hd,hD,hk | .build ..,D,i,m,rest,act,h,hn,hd,hD,hk | .bnew ..,D,i,m,rest,act,h,hn,hd,hD,hk | .brow ..,D,i,m,rest,act,h,hn,hd,hD,hk | .blst ..,D,i,m,rest,act,h,hn,hd,hD,hk
 | .load ..,D,i,m,rest,act,h,hn,hd,hD,hk | .store ..,D,i,m,rest,act,h,hn,hd,hD,hk | .nilc ..,D,i,m,rest,act,h,hn,hd,hD,hk | .bin ..,D,i,m,rest,act,h,hn,hd,hD,hk
 | .eqs ..,D,i,m,rest,act,h,hn,hd,hD,hk | .un ..,D,i,m,rest,act,h,hn,hd,hD,hk | .cvi ..,D,i,m,rest,act,h,hn,hd,hD,hk | .bts ..,D,i,m,rest,act,h,hn,hd,hD,hk
 | .fld ..,D,i,m,rest,act,h,hn,hd,hD,hk | .field ..,D,i,m,rest,act,h,hn,hd,hD,hk | .idx ..,D,i,m,rest,act,h,hn,hd,hD,hk | .sidx ..,D,i,m,rest,act,h,hn,hd,hD,hk | .aidx ..,D,i,m,rest,act,h,hn,hd,hD,hk
 | .sl ..,D,i,m,rest,act,h,hn,hd,hD,hk | .mk ..,D,i,m,rest,act,h,hn,hd,hD,hk | .fn ..,D,i,m,rest,act,h,hn,hd,hD,hk | .clo ..,D,i,m,rest,act,h,hn,hd,hD,hk | .fbox ..,D,i,m,rest,act,h,hn,hd,hD,hk | .min ..,D,i,m,rest,act,h,hn,hd,hD,hk | .app ..,D,i,m,rest,act,h,hn,hd,hD,hk | .apz ..,D,i,m,rest,act,h,hn,hd,hD,hk
 | .len ..,D,i,m,rest,act,h,hn,hd,hD,hk | .call ..,D,i,m,rest,act,h,hn,hd,hD,hk | .bld ..,D,i,m,rest,act,h,hn,hd,hD,hk | .ext ..,D,i,m,rest,act,h,hn,hd,hD,hk=>N5 hc h hn hk
end
def Qv (P:Program) (ops:Array Oper) (n:Nat) {ρ:Type} (kn:St->Option ρ) (r:ρ) (s:St) (act:Act) (w:World) (H:HP) (φ:Ai) (ds:List Nat) (N:Act->World->Prop):Prop :=
 ∀ s' act' w' H' φ',kn s'=some r->AB H φ s.st w H' φ' s'.st w'->B5 H' φ' s'.st s'.fr act'.tmps->act'.tmps.size=n->act'.defers=act.defers->(∀ t,t∉ds->act'.tmps[t]? = act.tmps[t]?)->N act' w'
def NH (P:Program) (n:Nat) (ops:Array Oper) (g:Option (Nat×Bool)) (cal:Bv) (ds:List Nat) (i m:Nat) (run:(ρ:Type)->(St->Option ρ)->St->Option ρ):Prop :=
 ∀ (ρ:Type) (kn:St->Option ρ) (r:ρ) (s:St) (act:Act) (w:World) (H:HP) (φ:Ai) (Q:Exit->Act->World->Prop) (rest:List Nat),
  SR H φ s.st w->B5 H φ s.st s.fr act.tmps->act.tmps.size=n->Qq ops act.tmps g->(∀ j w c,g=some (j,w)->KL ops j=some c->c∉ds)->run ρ kn s=some r ->
  Qv P ops n kn r s act w H φ ds (wpOps P ops Q rest)->wpOps P ops Q (List.range' i (m-i)++rest) act w
theorem AY {n:Nat} {ops:Array Oper} {g:Option (Nat×Bool)} {cal:Bv} (hcal:Ch P cal) {ao:Bp} {i m:Nat} (h:Mt P n ops g i ao=some m) :
  NH P n ops g cal ao.dsts i m fun ρ kn s=>BZ cal kn s ao:=by
 intro ρ kn r s act w H φ Q rest hs hf hn hm _ hk hnext
 obtain ⟨rfl,o,ho,hg,hb,hds,hlt⟩:=Jd h
 rw [show i+1-i=1 by omega]
 refine LB ho (E1 hg hm) (LA hcal hb ρ kn r s act w H φ _ Q hs hf hn hk fun s' v w' H' φ' hk' hst hf' _=>?_)
 refine hnext s' _ w' H' φ' hk' hst hf' (CR.trans hn) Bz fun t ht=>DK fun e=>ht ?_
 rw [<- hds,e]
 simp
mutual
theorem NI {n:Nat} {ops:Array Oper} {cal:Bv} (hcal:Ch P cal):∀ (aos:List Bp) (g:Option (Nat×Bool)) (D:List Nat) (i m:Nat),HM P n ops g D i aos=some m->NH P n ops g cal (Bf aos) i m fun ρ kn s=>JQ cal kn s aos
 | [],g,D,i,m,h=>by
  intro ρ kn r s act w H φ Q rest hs hf hn hm hd hk hnext
  simp only [HM,AK] at h
  subst h
  simp only [Nat.sub_self,List.range'_zero,List.nil_append]
  simp only [JQ] at hk
  exact hnext s act w H φ hk (AB.refl hs) hf hn rfl fun _ _=>rfl
 | ao::aos,g,D,i,m,h=>by
  intro ρ kn r s act w H φ Q rest hs hf hn hm hd hk hnext
  simp only [HM] at h
  cases hi:Iv P n ops g D i ao with
  | none=>rw [hi] at h; cases h
  | some q =>
   rw [hi] at h
   simp only [J] at h
   rw [FP (Nat.le_of_lt (MU ao _ _ _ _ hi)) (Je aos _ _ _ _ h),BO]
   have hd1:∀ j w c,g=some (j,w)->KL ops j=some c->c∉ao.dsts/\c∉Bf aos:=by
    intro j w c h1 h2
    have:=hd j w c h1 h2
    simpa [Bf,not_or] using this
   refine PY hcal ao g D i q hi ρ (fun s'=>JQ cal kn s' aos) r s act w H φ Q _ hs hf hn hm (fun j w c h1 h2=>(hd1 j w c h1 h2).1) (by simpa only [JQ] using hk) fun s1 act1 w1 H1 φ1 hk1 st1 hf1 hn1 hd1' ht1=>?_
   have hm1:Qq ops act1.tmps g:=by
    cases g with
    | none=>trivial
    | some p =>
     obtain ⟨j,w⟩:=p
     obtain ⟨c,h1,h2⟩:=hm
     exact ⟨c,h1,by rw [ht1 c (hd1 j w c rfl h1).1]; exact h2⟩
   refine NI hcal aos g (ao.dsts++D) q m h ρ kn r s1 act1 w1 H1 φ1 Q rest st1.sr hf1 hn1 hm1 (fun j w c h1 h2=>(hd1 j w c h1 h2).2) hk1 fun s2 act2 w2 H2 φ2 hk2 st2 hf2 hn2 hd2 ht2=>?_
   refine hnext s2 act2 w2 H2 φ2 hk2 (st1.trans st2) hf2 hn2 (hd2.trans hd1') fun t ht=>?_
   simp only [Bf,Bw,not_or] at ht
   rw [ht2 t ht.2,ht1 t ht.1]
theorem PY {n:Nat} {ops:Array Oper} {cal:Bv} (hcal:Ch P cal):∀ (ao:Bp) (g:Option (Nat×Bool)) (D:List Nat) (i m:Nat),Iv P n ops g D i ao=some m->NH P n ops g cal ao.dsts i m fun ρ kn s=>BZ cal kn s ao
 | .sc c want sub d a b,g,D,i,m,h=>by
  intro ρ kn r s act w H φ Q rest hs hf hn hm hd hk hnext
  obtain ⟨j,i',hg2,hcn,_,hseg,rfl,o,ho,hgo,hp⟩:=MT h
  have hle:=Je sub _ _ _ _ hseg
  have hmet:∀ act':Act,(∀ t,t∉Bf sub->act'.tmps[t]? = act.tmps[t]?)->Qq ops act'.tmps g:=by
   intro act' ht
   cases g with
   | none=>trivial
   | some p =>
    obtain ⟨j,w⟩:=p
    obtain ⟨c,h1,h2⟩:=hm
    have:=hd j w c rfl h1
    simp only [Bp.dsts,Bw,not_or] at this
    exact ⟨c,h1,by rw [ht c this.1]; exact h2⟩
  simp only [J6,E] at hp
  obtain ⟨hpd,hp⟩:=hp
  obtain ⟨hod,hdn⟩:=AX hpd
  split at hp
  ·rename_i c' a' b' hop
   simp only [E] at hp
   obtain ⟨⟨hc',ha'⟩,hb'⟩:=hp
   have hce:c'=.tmp c:=by
    cases c'<;>simp [BF] at hc'
    rw [hc']
   subst hce
   simp only [BZ] at hk
   have hfc:=hf c
   cases hgt:Bl s.fr c with
   | bool t =>
    rw [hgt] at hk hfc
    simp only at hk
    have hct:act.tmps[c]? = some (.bool t):=by
     have hfc:act.tmps.getD c undef=.bool t:=hfc
     rw [Array.getD_eq_getD_getElem?] at hfc
     cases hq:act.tmps[c]? with
     | none=>rw [hq] at hfc; cases hfc
     | some v=>rw [hq] at hfc; simpa using hfc
    rw [FP hle (Nat.le_succ i'),BO]
    have last:∀ (s1:St) (act1:Act) (w1:World) (H1:HP) (φ1:Ai) (x:AV),kn (s1.put d x)=some r->AB H φ s.st w H1 φ1 s1.st w1->B5 H1 φ1 s1.st s1.fr act1.tmps->act1.tmps.size=n->act1.defers=act.defers ->
      (∀ t,t∉Bf sub->act1.tmps[t]? = act.tmps[t]?)->x=(if t=true then s1.opd a else s1.opd b)->wpOps P ops Q (List.range' i' (i'+1-i')++rest) act1 w1:=by
     intro s1 act1 w1 H1 φ1 x hk1 st1 hf1 hn1 hdef1 ht1 hx
     rw [show i'+1-i'=1 by omega]
     have hc1:act1.eval (.tmp c)=.bool t:=by
      show act1.tmps.getD c undef=_
      rw [Array.getD_eq_getD_getElem?,ht1 c hcn,hct]
      rfl
     have hput:∀ v,(∀ u,u∉(Bp.sc c want sub d a b).dsts->(act1.put o.dst v).tmps[u]? = act.tmps[u]?):=by
      intro v u hu
      simp only [Bp.dsts,Bw,not_or,MA] at hu
      rw [DK (by rw [hod]; intro e; cases e; exact hu.2 rfl)]
      exact ht1 u hu.1
     refine LB ho (E1 hgo (hmet act1 ht1)) ?_
     have fin:∀ v,VA H1 φ1 s1.st x v->(execOp act1.eval o).run P w1=.ok (.value v) w1->o.wp P act1 w1 (wpOps P ops Q rest) Q:=by
      intro v hv hrun
      refine Ii hrun (hnext (s1.put d x) _ w1 H1 φ1 hk1 st1 ?_ (CR.trans hn1) (Bz.trans hdef1) (hput v))
      rw [Fq hod]
      exact hf1.put (by omega) hv
     cases t with
     | true=>exact fin _ (by rw [hx]; exact AL hf1 ha') (by simp [execOp,hop,hc1,asBool])
     | false=>exact fin _ (by rw [hx]; exact AL hf1 hb') (by simp [execOp,hop,hc1,asBool])
    by_cases htw:t=want
    ·subst htw
     rw [if_pos rfl] at hk
     refine NI hcal sub (some (j,t)) [] i i' hseg ρ _ r s act w H φ Q _ hs hf hn ⟨c,hg2,hct⟩ (fun j2 w2 c2 e1 e2=>?_) hk fun s1 act1 w1 H1 φ1 hk1 st1 hf1 hn1 hdef1 ht1=>?_
     ·cases e1
      rw [hg2] at e2
      cases e2
      exact hcn
     ·exact last s1 act1 w1 H1 φ1 _ hk1 st1 hf1 hn1 hdef1 ht1 rfl
    ·rw [if_neg htw] at hk
     refine LD hg2 sub [] i i' _ act hseg (by rw [hct]; intro e; cases e; exact htw rfl) hcn (fun t ht=>by cases ht) fun act1 l1=>?_
     refine last (s.forget (Bf sub)) act1 w H φ _ hk (AB.refl hs) ?_ (l1.1.trans hn) l1.2.1 l1.2.2.1 ?_
     ·intro u
      have:Bl (s.forget (Bf sub)).fr u=if u∈Bf sub then .undef else Bl s.fr u:=by
       simp only [St.forget]
       generalize Bf sub=ds
       induction ds with
       | nil=>simp
       | cons q qs ih =>
        simp only [List.map_cons,List.cons_append,Bl]
        by_cases e:q=u
        ·subst e; simp
        ·rw [if_neg e,ih]; simp [Ne.symm e]
      rw [this]
      split
      ·trivial
      ·rename_i hu
       have:=hf u
       rw [Array.getD_eq_getD_getElem?] at this ⊢
       rw [l1.2.2.1 u hu]
       exact this
     ·cases t<;>cases want<;>first | exact absurd rfl htw | rfl
   | _=>rw [hgt] at hk; cases hk
  ·cases hp
 | .mv ..,g,D,i,m,h=>AY hcal h
 | .nilrow ..,g,D,i,m,h=>AY hcal h
 | .pick ..,g,D,i,m,h=>AY hcal h
 | .alloc ..,g,D,i,m,h=>AY hcal h
 | .box ..,g,D,i,m,h=>AY hcal h
 | .build ..,g,D,i,m,h=>AY hcal h
 | .bnew ..,g,D,i,m,h=>AY hcal h
 | .brow ..,g,D,i,m,h=>AY hcal h
 | .blst ..,g,D,i,m,h=>AY hcal h
 | .load ..,g,D,i,m,h=>AY hcal h
 | .store ..,g,D,i,m,h=>AY hcal h
 | .nilc ..,g,D,i,m,h=>AY hcal h
 | .bin ..,g,D,i,m,h=>AY hcal h
 | .eqs ..,g,D,i,m,h=>AY hcal h
 | .un ..,g,D,i,m,h=>AY hcal h
 | .cvi ..,g,D,i,m,h=>AY hcal h
 | .bts ..,g,D,i,m,h=>AY hcal h
 | .fld ..,g,D,i,m,h=>AY hcal h
 | .field ..,g,D,i,m,h=>AY hcal h
 | .idx ..,g,D,i,m,h=>AY hcal h
 | .sidx ..,g,D,i,m,h=>AY hcal h
 | .aidx ..,g,D,i,m,h=>AY hcal h
 | .sl ..,g,D,i,m,h=>AY hcal h
 | .mk ..,g,D,i,m,h=>AY hcal h
 | .fn ..,g,D,i,m,h=>AY hcal h
 | .clo ..,g,D,i,m,h=>AY hcal h
 | .fbox ..,g,D,i,m,h=>AY hcal h
 | .min ..,g,D,i,m,h=>AY hcal h
 | .app ..,g,D,i,m,h=>AY hcal h
 | .apz ..,g,D,i,m,h=>AY hcal h
 | .len ..,g,D,i,m,h=>AY hcal h
 | .call ..,g,D,i,m,h=>AY hcal h
 | .bld ..,g,D,i,m,h=>AY hcal h
 | .ext ..,g,D,i,m,h=>AY hcal h
end
theorem N7 {n:Nat} {ops:Array Oper} {cal:Bv} (hcal:Ch P cal) {aos:List Bp} {id:Nat} (h:HM P n ops none [] 0 aos=some ops.size) {ρ:Type} {kn:St->Option ρ} {r:ρ} {s:St} {act:Act} {w:World} {H:HP} {φ:Ai} {Q:Exit->Act->World->Prop}
  (hs:SR H φ s.st w) (hf:B5 H φ s.st s.fr act.tmps) (hn:act.tmps.size=n) (hk:JQ cal kn s aos=some r)
  (hnext:∀ s' act' w' H' φ',kn s'=some r->AB H φ s.st w H' φ' s'.st w'->B5 H' φ' s'.st s'.fr act'.tmps->act'.tmps.size=n->act'.defers=act.defers->Q .normal act' w'):(Code.region id ops false).wp P Q act w:=by
 refine wp_region ?_
 have:=NI hcal aos none [] 0 ops.size h ρ kn r s act w H φ Q [] hs hf hn trivial (fun _ _ _ e=>by cases e) hk fun s' act' w' H' φ' h1 h2 h3 h4 h5 _=>hnext s' act' w' H' φ' h1 h2 h3 h4 h5
 rw [List.append_nil,Nat.sub_zero,<- List.range_eq_range'] at this
 exact this

def PZ (P:Program) (o:Oper) (act:Act) (obj:Obj):Prop:=∀ w:World,(execOp act.eval o).run P w=.ok (.value (J7 o.op w.heap.size)) (w.alloc obj)
structure Hu (H:HP) (φ:Ai) (st:List V) (w:World) (b:Nat) (obj:Obj):Prop where
 held:w.heap[b]? = some obj
 out:H b=none
 sep:∀ j bx,st[j]? = some bx->bx.live=true->Bm (φ j)≠some b
theorem Hu.lt {H:HP} {φ:Ai} {st:List V} {w:World} {b:Nat} {obj:Obj} (h:Hu H φ st w b obj):b<w.heap.size:=(Array.getElem?_eq_some_iff.1 h.held).1
theorem Hu.step {H H':HP} {φ φ':Ai} {st st':List V} {w w':World} {b:Nat} {obj:Obj} (h:Hu H φ st w b obj) (g:AB H φ st w H' φ' st' w'):Hu H' φ' st' w' b obj:=by
 let φ0:Ai:=fun j=>match st[j]? with
  | some bx=>if bx.live=true then φ j else .slice none 0 0
  | none=>.slice none 0 0
 have self:Fr 0 st.length H φ0 w H φ st w:=⟨rfl,rfl,rfl,Nat.le_refl _,fun _ _ _=>rfl,fun j hj=>absurd hj (Nat.not_lt_zero _),fun i bi hi hl b hb=>.inr ⟨i,(AG.1 hi).1,by simp only [φ0,hi,hl,if_true]; exact hb⟩,fun j hj=>absurd hj (Nat.not_lt_zero _),fun _ _ _=>rfl⟩
 have f:=g.fr 0 st.length H φ0 w self
 have hne:∀ j,j<st.length->Bm (φ0 j)≠some b:=by
  intro j hj
  simp only [φ0]
  cases hi:st[j]? with
  | none=>simp [Bm]
  | some bx =>
   simp only
   split
   ·rename_i hl; exact h.sep j bx hi hl
   ·simp [Bm]
 refine ⟨(f.old b h.lt hne).trans h.held,(f.frz b h.lt hne).trans h.out,fun j bx hj hl e=>?_⟩
 rcases f.new j bx hj hl b e with h1 | ⟨k,hk,e2⟩
 ·have:=h.lt; omega
 ·exact hne k hk e2
theorem AB.size {H H':HP} {φ φ':Ai} {st st':List V} {w w':World} (g:AB H φ st w H' φ' st' w'):w.heap.size<=w'.heap.size :=
 (g.fr 0 st.length H φ w ⟨rfl,rfl,rfl,Nat.le_refl _,fun _ _ _=>rfl,fun j hj=>absurd hj (Nat.not_lt_zero _),fun i bi hi hl b hb=>.inr ⟨i,(AG.1 hi).1,hb⟩,fun j hj=>absurd hj (Nat.not_lt_zero _),fun _ _ _=>rfl⟩).size
theorem Hu.alloc {H:HP} {φ:Ai} {st:List V} {w:World} (hs:SR H φ st w) (obj:Obj):Hu H φ st (w.alloc obj) w.heap.size obj :=
 ⟨heap_alloc_new w obj,(hs.fresh (Nat.le_refl _)).1,(hs.fresh (Nat.le_refl _)).2⟩
theorem Jf {w:World} {a b:Obj} (h:w.alloc a=w.alloc b):a=b:=by
 have h1:=heap_alloc_new w a
 rw [h,heap_alloc_new w b] at h1
 exact (Option.some.inj h1).symm
theorem AB.adopt {Hb H:HP} {φb φ:Ai} {stb st:List V} {wb w:World} (hB:AB Hb φb stb wb H φ st w) {v:Value} {bx:V} (hs:SR H (fun i=>if i=st.length then v else φ i) (st++[bx]) w)
  (hb:bx.live=true->∀ b,Bm v=some b->wb.heap.size<=b):AB Hb φb stb wb H (fun i=>if i=st.length then v else φ i) (st++[bx]) w where
 le:=hB.le
 sr:=hs
 fr mv m0 H0 φ0 w0 f:=by
  have g:=hB.fr mv m0 H0 φ0 w0 f
  refine ⟨g.os,g.tape,g.output,g.size,g.old,fun j hj=>?_,fun i bi hbi hl b hb'=>?_,fun j hj=>?_,g.frz⟩
  ·have:=Ew (g.vars j hj)
   rw [if_neg (by omega)]
   exact g.same j hj
  ·rcases Nat.lt_trichotomy i st.length with e | e | e
   ·rw [AH e] at hbi
    simp only [Nat.ne_of_lt e,if_false] at hb'
    exact g.new i bi hbi hl b hb'
   ·subst e
    simp at hbi
    subst hbi
    simp only [if_true] at hb'
    exact .inl (Nat.le_trans f.size (hb hl b hb'))
   ·rw [Bj (by simp; omega)] at hbi; cases hbi
  ·have:=g.vars j hj
   have hl:=Ew this
   unfold Y at this ⊢
   rw [AH hl]
   exact this
theorem AB.adoptH {Hb H:HP} {φb φ:Ai} {stb st:List V} {wb w:World} (hB:AB Hb φb stb wb H φ st w) {b:Nat} {obj:Obj} (hl:Hu H φ st w b obj) (hb:wb.heap.size<=b) :
  ∃ H',AB Hb φb stb wb H' φ st w/\H' b=some obj/\H.le H'/\∀ b',b'≠b->H' b'=H b':=by
 have h:=hB.sr
 let H':HP:=fun b'=>if b'=b then some obj else H b'
 have hle:H.le H':=by
  intro b' o' hb'
  have:b'≠b:=fun e=>by rw [e,hl.out] at hb'; cases hb'
  simp only [H',this,if_false]
  exact hb'
 refine ⟨H',⟨HP.le_trans hB.le hle,⟨fun b' o' hb'=>?_,fun id bx hid=>?_,h.sep,fun i bi hi hlv b' hb'=>?_,h.cell⟩,fun mv m0 H0 φ0 w0 f=>?_⟩,by simp [H'],hle,fun b' hne=>by simp [H',hne]⟩
 ·by_cases e:b'=b
  ·subst e
   simp only [H',if_true] at hb'
   rw [<- hb']
   exact hl.held
  ·simp only [H',e,if_false] at hb'
   exact h.hp b' o' hb'
 ·have:=h.box id bx hid
  cases bx with
  | var cs=>obtain ⟨b,c,el,e1,e2,e3⟩:=this; exact ⟨b,c,el,e1,e2,e3.imp fun _ _ h=>h.mono hle⟩
  | rows t' K' xs'=>obtain ⟨flat',o',r'⟩:=this; exact ⟨flat',o',fun j x hx=>(r' j x hx).mono hle⟩
  | mrow t' K' xs'=>obtain ⟨flat',o',r'⟩:=this; exact ⟨flat',o',fun j x hx=>(r' j x hx).mono hle⟩
  | frz K' xs'=>obtain ⟨r',a'⟩:=this; exact ⟨Dq (fun _ _ h=>B6.mono hle h) hle r',a'⟩
  | dead=>trivial
 ·have:b'≠b:=fun e=>by subst e; exact hl.sep i bi hi hlv hb'
  simp only [H',this,if_false]
  exact h.out i bi hi hlv b' hb'
 ·have g:=hB.fr mv m0 H0 φ0 w0 f
  refine { g with frz:=fun b' hb' hn=>?_ }
  have:=f.size
  have:b'≠b:=by omega
  simp only [H',this,if_false]
  exact g.frz b' hb' hn
theorem Hj {s:St}:∀ {cs:List AV},cs.all AV.solid=true->s.keepAll cs=some (cs,s)
 | [],_=>rfl
 | c::cs,h=>by
  simp only [List.all_cons,E] at h
  have h1:s.keep c=some (c,s):=by
   have:=h.1
   cases c with
   | fn f caps=>cases caps<;>first | rfl | cases this
   | _=>first | rfl | (simp [AV.solid] at this)
  simp [St.keepAll,h1,Hj h.2]
theorem CU {s:St}:∀ {aw:List AV},aw.all AV.firm=true->s.keepAlls aw=some (aw.map AV.cells,s)
 | [],_=>rfl
 | a::aw,h=>by
  simp only [List.all_cons,E] at h
  have h1:a.cells.all AV.solid=true:=by
   have:=h.1
   cases a with
   | agg cs=>exact this
   | _=>simp only [AV.cells,List.all_cons,List.all_nil,Bool.and_true]; exact this
  simp [St.keepAlls,Hj h1,CU h.2]
theorem KB {ao:Bp} (h:ao.isFloat=true):(∃ d cs,ao=.alloc d cs)\/(∃ d e K qs,ao=.brow d e K qs)\/(∃ d K qs,ao=.blst d K qs):=by
 cases ao<;>first | (simp [Bp.isFloat] at h; done) | exact .inl ⟨_,_,rfl⟩ | exact .inr (.inl ⟨_,_,_,_,rfl⟩) | exact .inr (.inr ⟨_,_,_,rfl⟩)
theorem Ng {H:HP} {φ:Ai} {s:St} {act:Act} {w:World} {n:Nat} {o:Oper} {d:Nat} {K:Kd} {qs:List Av} {e:TypeId} (h:P9 P n o d K qs e=true) (hs:SR H φ s.st w) (hf:B5 H φ s.st s.fr act.tmps)
  (hk:((qs.map s.opd).all AV.firm&&(K.ofs ((qs.map s.opd).map AV.cells)).isSome)=true):∃ obj,PZ P o act obj:=by
 simp only [E] at hk
 obtain ⟨_,_,_,vs,e2,_,hb,hrun⟩:=K6 h hf
 obtain ⟨H1,g1,k1,f1,_,_⟩:=CT hs e2 (CU hk.1)
 obtain ⟨xs,hx⟩:=Option.isSome_iff_exists.1 hk.2
 obtain ⟨_,_,s1'⟩:=JY K f1 hx
 exact ⟨_,fun w=>by rw [hb]; exact hrun s1' w⟩
theorem Pa {H:HP} {φ:Ai} {s:St} {act:Act} {w:World} {n:Nat} {o:Oper} {ao:Bp} (h:Kl P n o ao=true) (hfl:ao.isFloat=true) (hk:ao.floatOk s=true) (hs:SR H φ s.st w) (hf:B5 H φ s.st s.fr act.tmps) :
  ∃ obj,PZ P o act obj:=by
 rcases KB hfl with ⟨d,cs,rfl⟩ | ⟨d,e,K,qs,rfl⟩ | ⟨d,K,qs,rfl⟩
 ·simp only [Kl,Ky,E] at h
  have h2:=h.2
  split at h2
  ·rename_i t ho
   obtain ⟨i,z,hi,hz,_⟩:=Ij h2
   exact ⟨.cells z.cells t,fun w=>by simp [execOp,ho,Instr.alloc,zeroValue,typeInfo,hi,hz,newVar,newRow,J7]⟩
  ·cases h2
 ·exact Ng h hs hf hk
 ·simp only [Kl] at h
  split at h
  ·exact Ng h hs hf hk
  ·cases h
theorem B5.cons {H:HP} {φ:Ai} {st:List V} {fr:List (Nat×AV)} {tmps:Array Value} (h:B5 H φ st fr tmps) {d:Nat} {a:AV} (ha:VA H φ st a (tmps.getD d undef)):B5 H φ st ((d,a)::fr) tmps:=by
 intro t
 simp only [Bl]
 split
 ·rename_i e; subst e; exact ha
 ·exact h t
theorem Of {Hb H:HP} {φb φ:Ai} {stb:List V} {wb w:World} {s:St} {act:Act} {n:Nat} {o:Oper} {ao:Bp} {cal:Bv} (h:Kl P n o ao=true) (hfl:ao.isFloat=true) (hk0:ao.floatOk s=true)
  (hB:AB Hb φb stb wb H φ s.st w) (hf:B5 H φ s.st s.fr act.tmps) {ρ:Type} {kn:St->Option ρ} {r:ρ} (hk:BZ cal kn s ao=some r) {obj:Obj} (hborn:PZ P o act obj) {b:Nat}
  (hd:∀ d,o.dst=some d->act.tmps.getD d undef=J7 o.op b) (hl:Hu H φ s.st w b obj) (hbb:wb.heap.size<=b) :
  ∃ s' H' φ',kn s'=some r/\AB Hb φb stb wb H' φ' s'.st w/\B5 H' φ' s'.st s'.fr act.tmps/\∀ b' obj',b'≠b->Hu H φ s.st w b' obj'->Hu H' φ' s'.st w b' obj':=by
 have hs:=hB.sr
 rcases KB hfl with ⟨d,cs,rfl⟩ | ⟨d,e,K,qs,rfl⟩ | ⟨d,K,qs,rfl⟩
 ·simp only [Kl,Ky,E] at h
  obtain ⟨hdd,_⟩:=AX h.1
  have h2:=h.2
  split at h2
  ·rename_i t ho
   obtain ⟨i,z,hi,hz,hv⟩:=Ij h2
   have hobj:obj=.cells z.cells t:=by
    have e1:=hborn w
    have e2:(execOp act.eval o).run P w=.ok (.value (.pointer (some ⟨w.heap.size,0,none⟩))) (w.alloc (.cells z.cells t)):=by simp [execOp,ho,Instr.alloc,zeroValue,typeInfo,hi,hz,newVar,newRow]
    rw [e2] at e1
    exact Jf (Result.ok.inj e1).2.symm
   subst hobj
   obtain ⟨φ1,g1,k1,told,len⟩:=Fp (hv H) hs
   have hl1:=hl.step g1
   have hd1:act.tmps.getD d undef=.pointer (some ⟨b,0,none⟩):=by rw [hd d hdd,ho]; rfl
   have hsr:=g1.sr.push (v:=.pointer (some ⟨b,0,none⟩)) (bx:=.var (AJ s.st.length cs)) ⟨b,z.cells,t,rfl,hl1.held,told.imp fun _ _ h=>h.1 _⟩
    (fun _ b' hb'=>by
     simp only [Bm,AK] at hb'
     subst hb'
     exact ⟨hl1.out,hl1.sep⟩)
    (fun cs' e o' i' ho'=>by
     cases e
     obtain ⟨u,hu,ht⟩:=told.get o' _ ho'
     obtain ⟨q1,q2⟩:=ht.2 i' rfl
     refine ⟨q1,_,rfl,?_⟩
     simp only [World.cell?,hl1.held]
     rw [<- q2]
     simpa using hu)
   have hst:=(hB.trans g1).adopt hsr (fun _ b' hb'=>by
    simp only [Bm,AK] at hb'
    omega)
   simp only [BZ] at hk
   refine ⟨_,H,_,hk,hst,?_,?_⟩
   ·refine B5.cons ((hf.mono (HP.le_refl H) k1).mono (HP.le_refl H) (Bq φ1 (s.st++AF cs) _ _)) ?_
    rw [hd1]
    refine ⟨by rw [<- len]; exact JX _ _,b,by simp [len],rfl⟩
   ·intro b' obj' hne hq
    have hq1:=hq.step g1
    refine ⟨hq1.held,hq1.out,fun j bx hj hlv e=>?_⟩
    rcases Nat.lt_trichotomy j (s.st++AF cs).length with e1 | e1 | e1
    ·rw [AH e1] at hj
     simp only [Nat.ne_of_lt e1,if_false] at e
     exact hq1.sep j bx hj hlv e
    ·rw [if_pos e1] at e
     simp only [Bm,AK] at e
     omega
    ·rw [Bj (by simp at e1 ⊢; omega)] at hj; cases hj
  ·cases h2
 ·simp only [Bp.floatOk,E] at hk0
  obtain ⟨hdd,hdn,hsm,vs,e2,e3,hbv,hrun⟩:=K6 (e:=e) h hf
  simp only [BZ,CU hk0.1,J] at hk
  obtain ⟨H1,g1,k1,f1,_,_⟩:=CT hs e2 (CU hk0.1)
  cases hx:K.ofs ((qs.map s.opd).map AV.cells) with
  | none=>rw [hx] at hk; cases hk
  | some xs =>
   rw [hx] at hk
   simp only [J] at hk
   obtain ⟨l1,r1,s1'⟩:=JY K f1 hx
   have hflat:=FO s1'
   have hmax:vs.length<=maxLen:=by
    have hpos:=Kd.sz_pos K
    have:qs.length<=qs.length*K.sz:=Nat.le_mul_of_pos_right _ hpos
    simp only [maxLen]
    omega
   have hobj:obj=.cells (vs.flatMap fun v=>v.cells.toList).toArray e:=by
    have e1:=hborn w
    rw [hrun s1' w] at e1
    exact Jf (Result.ok.inj e1).2.symm
   subst hobj
   have hl1:=hl.step g1
   have hsr:=g1.sr.push (v:=.slice (some ⟨b,0,none⟩) vs.length vs.length) (bx:=.rows e K xs)
    ⟨vs.flatMap fun v=>v.cells.toList,⟨by rw [hflat,l1],.inr ⟨b,vs.length,_,by rw [l1],Nat.zero_le _,hl1.held,by omega,hmax,by simp [hflat],by show List.take _ _=_; rw [l1,<- hflat]; exact List.take_length⟩⟩,r1⟩
    (fun _ b' hb'=>by
     simp only [Bm,AK] at hb'
     subst hb'
     exact ⟨hl1.out,hl1.sep⟩) (fun cs e=>by cases e)
   have hst:=(hB.trans g1).adopt hsr (fun _ b' hb'=>by
    simp only [Bm,AK] at hb'
    omega)
   refine ⟨_,H1,_,hk,hst,?_,?_⟩
   ·refine B5.cons ((hf.mono g1.le k1).mono (HP.le_refl _) (Bq φ s.st _ _)) ?_
    rw [hd d hdd,hbv]
    exact ⟨by simp,by simp [U]⟩
   ·intro b' obj' hne hq
    have hq1:=hq.step g1
    refine ⟨hq1.held,hq1.out,fun j bx hj hlv e=>?_⟩
    rcases Nat.lt_trichotomy j s.st.length with e1 | e1 | e1
    ·rw [AH e1] at hj
     simp only [Nat.ne_of_lt e1,if_false] at e
     exact hq1.sep j bx hj hlv e
    ·rw [if_pos e1] at e
     simp only [Bm,AK] at e
     omega
    ·rw [Bj (by simp; omega)] at hj; cases hj
 ·simp only [Kl] at h
  split at h
  case h_2=>cases h
  simp only [Bp.floatOk,E] at hk0
  obtain ⟨hdd,hdn,hsm,vs,e2,e3,hbv,hrun⟩:=K6 h hf
  simp only [BZ,CU hk0.1,J] at hk
  obtain ⟨H1,g1,k1,f1,_,_⟩:=CT hs e2 (CU hk0.1)
  cases hx:K.ofs ((qs.map s.opd).map AV.cells) with
  | none=>rw [hx] at hk; cases hk
  | some xs =>
   rw [hx] at hk
   simp only [J] at hk
   obtain ⟨l1,r1,s1'⟩:=JY K f1 hx
   have hflat:=FO s1'
   have e1:=hborn w
   rw [hrun s1' w] at e1
   have hobj:=(Jf (Result.ok.inj e1).2).symm
   have hl1:=hl.step g1
   obtain ⟨H2,hst,hb2,hle2,hoth⟩:=(hB.trans g1).adoptH hl1 hbb
   rw [hobj] at hb2
   refine ⟨_,H2,φ,hk,hst,?_,?_⟩
   ·refine B5.cons ((hf.mono g1.le k1).mono hle2 (Aa.refl _ _ _)) ?_
    rw [hd d hdd,hbv]
    refine ⟨_,vs.length,by rw [l1],by rw [l1]; exact Nat.le_refl _,.inr ⟨b,0,_,_,(0,0),rfl,hb2,fun j x hx=>?_⟩⟩
    obtain ⟨cs,c1,c2,c3⟩:=Ez r1 (by rw [hflat,l1]) hx
    refine ⟨cs,c1.mono hle2,c2,fun i u hu=>?_⟩
    have:=c3 i u hu
    simpa using this
   ·intro b' obj' hne hq
    have hq1:=hq.step g1
    exact ⟨hq1.held,(hoth b' hne).trans hq1.out,hq1.sep⟩

abbrev KM:=List (Nat×(World->Prop))
def Ff (anc:List Nat):KM->KM
 | []=>[]
 | p::r=>if AZ anc p.1=true then Ff anc r else p::Ff anc r
theorem B9 {anc:List Nat}:∀ {T:KM},∀ p∈Ff anc T,p∈T/\AZ anc p.1=false
 | [],p,h=>by cases h
 | q::r,p,h=>by
  simp only [Ff] at h
  split at h
  ·obtain ⟨h1,h2⟩:=B9 p h
   exact ⟨by simp [h1],h2⟩
  ·rename_i hq
   rcases AW.1 h with rfl | h
   ·exact ⟨by simp,by simpa using hq⟩
   ·obtain ⟨h1,h2⟩:=B9 p h
    exact ⟨by simp [h1],h2⟩
theorem LE {anc:List Nat}:∀ {T:KM} {p},p∈T->AZ anc p.1=false->p∈Ff anc T
 | [],p,h,_=>by cases h
 | q::r,p,h,hn=>by
  simp only [Ff]
  rcases AW.1 h with rfl | h
  ·rw [if_neg (by rw [hn]; simp)]; simp
  ·split
   ·exact LE h hn
   ·exact List.mem_cons_of_mem _ (LE h hn)
theorem N8 {anc:List Nat} {i:Nat} {C:World->Prop} {T:KM} (h:AZ anc i=false):Ff anc ((i,C)::T)=(i,C)::Ff anc T:=by
 show (if AZ anc i=true then Ff anc T else (i,C)::Ff anc T)=_
 rw [h]
 rfl
def Hv (P:Program) (ops:Array Oper) (Q:Exit->Act->World->Prop) (anc:Nat->List Nat):Nat->KM->Array Bool->Act->World->Prop
 | 0,_,listed,a,w=>Region.ready .any ops listed=[]/\Q .normal a w
 | fuel+1,T,listed,a,w =>
  (Region.ready .any ops listed=[]->Q .normal a w) /\
  ∀ i∈Region.ready .any ops listed,wpOp P ops Q i (fun a' w'=>(∀ p∈Ff (anc i) T,p.2 w')/\Hv P ops Q anc fuel (Ff (anc i) T) (listed.setIfInBounds i true) a' w') a w
theorem LF {ops:Array Oper} {Q:Exit->Act->World->Prop} {anc:Nat->List Nat}:∀ (fuel:Nat) (T:KM) (listed:Array Bool) (a:Act) (w:World),Hv P ops Q anc fuel T listed a w->wpAny P .any ops Q fuel listed a w
 | 0,_,_,_,_,h=>h
 | fuel+1,_,_,_,_,h=>⟨h.1,fun i hi=>wpOp_mono (fun a' w' h'=>LF fuel _ _ a' w' h'.2) (h.2 i hi)⟩
theorem Hk {ops:Array Oper} {Q:Exit->Act->World->Prop} {anc:Nat->List Nat}:∀ (fuel:Nat) {T T':KM} (listed:Array Bool) (a:Act) (w:World),(∀ p∈T',p∈T)->Hv P ops Q anc fuel T listed a w->Hv P ops Q anc fuel T' listed a w
 | 0,_,_,_,_,_,_,h=>h
 | fuel+1,T,T',_,_,_,hs,h=>⟨h.1,fun i hi=>wpOp_mono (fun a' w' h'=>by
   have hsub:∀ p∈Ff (anc i) T',p∈Ff (anc i) T:=fun p hp=>by
    obtain ⟨h1,h2⟩:=B9 p hp
    exact LE (hs p h1) h2
   exact ⟨fun p hp=>h'.1 p (hsub p hp),Hk fuel _ a' w' hsub h'.2⟩) (h.2 i hi)⟩
def Lh (ops:Array Oper) (listed:Array Bool):Prop:=∀ k o,listed.getD k false=true->ops[k]? = some o->∀ e∈o.after,Region.binds .any e=true->listed.getD e.on false=true
def LG (ops:Array Oper) (i:Nat):List Nat:=match ops[i]? with
 | some o=>(o.after.filter fun e=>Region.binds .any e).toList.map (·.on)
 | none=>[]
def NJ (ops:Array Oper) (anc:List (List Nat)):Bool :=
 (List.range ops.size).all fun i=>(LG ops i).all (fun p=>decide (p<i))&&(anc.getD i []).all fun j=>(LG ops i).any (fun p=>p==j)||(LG ops i).any fun p=>AZ (anc.getD p []) j
theorem E2 {ops:Array Oper} {anc:List (List Nat)} (hA:NJ ops anc=true) {listed:Array Bool} (hs:Lh ops listed):∀ (i:Nat),(∀ p∈LG ops i,listed.getD p false=true)->i<ops.size->∀ j∈anc.getD i [],listed.getD j false=true:=by
 intro i
 induction i using Nat.strongRecOn with
 | _ i ih =>
  intro hp hi j hj
  have h1:=AT.1 hA i (List.mem_range.2 hi)
  simp only [E,AT,List.any_eq_true,C6,beq_iff_eq,decide_eq_true_eq] at h1
  rcases h1.2 j hj with ⟨p,hpm,rfl⟩ | ⟨p,hpm,hpj⟩
  ·exact hp p hpm
  ·have hlt:=h1.1 p hpm
   refine ih p hlt (fun q hq=>?_) (by omega) j (BR.1 hpj)
   unfold LG at hq
   split at hq
   ·rename_i o ho
    simp only [List.mem_map,Array.mem_toList_iff,Array.mem_filter] at hq
    obtain ⟨e,⟨he,hb⟩,rfl⟩:=hq
    exact hs p o (hp p hpm) ho e he hb
   ·cases hq
theorem BV {ops:Array Oper} {listed:Array Bool} {i:Nat} (h:i∈Region.ready .any ops listed):(∀ p∈LG ops i,listed.getD p false=true)/\i<ops.size:=by
 obtain ⟨_,o,ho,hall⟩:=mem_ready.1 h
 refine ⟨fun p hp=>?_,(Array.getElem?_eq_some_iff.1 ho).1⟩
 unfold LG at hp
 rw [ho] at hp
 simp only [List.mem_map,Array.mem_toList_iff,Array.mem_filter] at hp
 obtain ⟨e,⟨he,hb⟩,rfl⟩:=hp
 exact hall e he hb
theorem Lh.set {ops:Array Oper} {listed:Array Bool} (hs:Lh ops listed) {i:Nat} (h:i∈Region.ready .any ops listed):Lh ops (listed.setIfInBounds i true):=by
 intro k o hk ho e he hb
 by_cases hik:i=k
 ·subst hik
  obtain ⟨_,o',ho',hall⟩:=mem_ready.1 h
  rw [ho] at ho'
  cases ho'
  exact getD_set_true (hall e he hb)
 ·rw [getD_set_ne false hik] at hk
  exact getD_set_true (hs k o hk ho e he hb)
theorem Bi {ops:Array Oper} {listed:Array Bool} {i:Nat} (h:i∈Region.ready .any ops listed):listed.getD i false=false:=by
 have h0:=(mem_ready.1 h).1
 rcases Af i listed.size with h' | h'
 ·simp [h'] at h0 ⊢; exact h0
 ·simp [Array.getElem?_eq_none h']
theorem Iw {ops:Array Oper} {Q:Exit->Act->World->Prop} {anc:List (List Nat)} (hA:NJ ops anc=true) {i:Nat} {oi:Oper} {v:Value} {C:World->Prop} (hi:ops[i]? = some oi)
  (hsel:∀ (j:Nat) (o:Oper) cs b,ops[j]? = some o->o.op≠.select cs b) (hQ:∀ c a w,Q (.panic c) (a.put oi.dst v) w->Q (.panic c) a w) :
  ∀ (fuel:Nat) (T:KM) (listed:Array Bool) (a:Act) (w:World),Lh ops listed ->
   (∀ j oj,ops[j]? = some oj->j≠i->listed.getD j true=false->(∀ e∈oj.after,Region.binds .any e=true->e.on≠i)->oi.apart ops oj=true) ->
   i∈Region.ready .any ops listed->YieldsIf P ops C oi v a->C w->(∀ p∈T,p.2 w) ->
   Hv P ops Q (fun i=>anc.getD i []) fuel ((i,C)::T) (listed.setIfInBounds i true) (a.put oi.dst v) w->Hv P ops Q (fun i=>anc.getD i []) (fuel+1) T listed a w:=by
 intro fuel
 induction fuel with
 | zero =>
  intro T listed a w hsh _ hr hy hC hT H
  refine ⟨fun h=>(by rw [h] at hr; cases hr),fun j hj=>?_⟩
  by_cases hji:j=i
  ·subst hji; exact hy.wpOp hi hC ⟨fun p hp=>hT p (B9 p hp).1,H⟩
  ·have:=ready_mono hj hji
   rw [H.1] at this
   cases this
 | succ fuel ih =>
  intro T listed a w hsh hfree hr hy hC hT H
  refine ⟨fun h=>(by rw [h] at hr; cases hr),fun j hj=>?_⟩
  by_cases hji:j=i
  ·subst hji
   refine hy.wpOp hi hC ⟨fun p hp=>hT p (B9 p hp).1,Hk _ _ _ _ (fun p hp=>?_) H⟩
   exact List.mem_cons_of_mem _ (B9 p hp).1
  ·have h1:=H.2 j (ready_mono hj hji)
   obtain ⟨hjun,oj,hoj,hall⟩:=mem_ready.1 hj
   have hnot:∀ e∈oj.after,Region.binds .any e=true->e.on≠i:=fun e he hb heq=>by
    have h1:=hall e he hb
    have h0:=Bi hr
    rw [heq] at h1
    rw [h0] at h1
    cases h1
   have hnanc:AZ (anc.getD j []) i=false:=by
    rw [Ad]
    intro hm
    have:=E2 hA hsh j (BV hj).1 (BV hj).2 i hm
    rw [Bi hr] at this
    cases this
   have hcut:Ff (anc.getD j []) ((i,C)::T)=(i,C)::Ff (anc.getD j []) T:=N8 hnanc
   simp only [hcut] at h1
   have h2:=wpOp_putIf hoj (hfree j oj hoj hji hjun hnot) (fun cs b=>hsel i oi cs b hi) (fun cs b=>hsel j oj cs b hoj) hQ hy h1
   have hfree':∀ k ok,ops[k]? = some ok->k≠i->(listed.setIfInBounds j true).getD k true=false ->
     (∀ e∈ok.after,Region.binds .any e=true->e.on≠i)->oi.apart ops ok=true:=fun k ok hk hki hun hno=>by
    refine hfree k ok hk hki ?_ hno
    by_cases hjk:j=k
    ·subst hjk; exact hjun
    ·rw [getD_set_ne true hjk] at hun; exact hun
   refine wpOp_mono (fun a' w' h3=>?_) h2
   obtain ⟨hy',hp',hG⟩:=h3
   have hC':C w':=hp' (i,C) (by simp)
   have hT':∀ p∈Ff (anc.getD j []) T,p.2 w':=fun p hp=>hp' p (List.mem_cons_of_mem _ hp)
   refine ⟨hT',ih _ (listed.setIfInBounds j true) a' w' (hsh.set hj) hfree' (ready_mono hr (Ne.symm hji)) hy' hC' hT' ?_⟩
   rw [Array.setIfInBounds_comm _ _ hji]
   exact hG
theorem Pb {o:Oper} {a:Act} {w:World} {I:Prop} (h:o.wp P a w (fun _ _=>I) (fun _ _ _=>I)):I:=by
 unfold Oper.wp at h
 generalize (execOp a.eval o).run P w=r at h
 cases r with
 | ok n w' =>
  cases n<;>simp only [Oper.upon] at h<;>try exact h
  case enter f args =>
   obtain ⟨e,w2,fr,hr,_⟩:=h []
   cases e with
   | returned v=>exact hr
   | panicked c=>exact hr
   | outgrown=>exact hr.elim fun _ h=>h.elim fun _ h=>h
  case row row args =>
   obtain ⟨v,w2,hr,_⟩:=h default []
   exact hr
 | halt x w' =>
  cases x<;>simp only [Oper.upon] at h
  case panic v=>exact h
def gB (ops:Array Oper) (o:Oper):Option (Nat×Bool)->Bool
 | none=>o.guard.isNone
 | some g=>match o.guard with
  | some (j,want)=>want==g.2&&KL ops j==some g.1
  | none=>false
def N9 (L:Array Bool) (fl:List Nat):Array Bool:=fl.foldl (fun L i=>L.setIfInBounds i true) L
def Og (ops:Array Oper) (i:Nat) (js:List Nat):Bool :=
 js.all fun j=>match ops[i]?,ops[j]? with
  | some a,some b=>a.apart ops b&&b.apart ops a
  | _,_=>false
def Fv (ops:Array Oper):List Nat->Bool
 | []=>true
 | i::r=>!AZ r i&&Og ops i r&&Fv ops r
def NK (P:Program) (n:Nat) (ops:Array Oper) (L:Array Bool) (f:Nat×Bp):Bool :=
 (Region.ready .any ops L).contains f.1&&f.2.isFloat&&(match ops[f.1]? with
  | some o=>Kl P n o f.2&&decide (o.dst.toList=f.2.dsts)&&o.guard.isNone&&(match o.dst with
   | some d=>!(o.looksAt ops).contains d&&decide (d<n)
   | none=>false)
  | none=>false)
def Km (P:Program) (n:Nat) (ops:Array Oper):DT->Array Bool->List Nat->Bool
 | .done,L,F=>(Region.ready .any ops L).isEmpty&&F.isEmpty
 | .take i g ao r,L,F=>(Region.ready .any ops L).contains i&&Region.free .any ops L i&&!AZ F i&&ao.isVal&&(match ops[i]? with
   | some o=>gB ops o g&&Kl P n o ao&&decide (o.dst.toList=ao.dsts)
   | none=>false)&&Km P n ops r (L.setIfInBounds i true) F
 | .skip i g d r,L,F=>(Region.ready .any ops L).contains i&&Region.free .any ops L i&&!AZ F i&&(match ops[i]? with
   | some o=>gB ops o (some g)&&decide (o.dst=d)&&(match d with | some d=>decide (d<n) | none=>true)
   | none=>false)&&Km P n ops r (L.setIfInBounds i true) F
 | .only i g ao e fl r,L,F=>(Region.ready .any ops L).contains i&&(Region.ready .any ops (N9 L (fl.map (·.1)))).all (· == i)&&F.all (fun f=>f==i||AZ (fl.map (·.1)) f)&&(!AZ F i||(e&&ao.isFloat))
   && fl.all (NK P n ops L)&&Fv ops (i::fl.map (·.1))&&(match ops[i]? with
   | some o=>gB ops o g&&Kl P n o ao&&decide (o.dst.toList=ao.dsts)
   | none=>false)&&Km P n ops r (L.setIfInBounds i true) (fl.map (·.1))
 | .test _ a b,L,F=>Km P n ops a L F&&Km P n ops b L F
 | .fork i ai ri j aj rj,L,F=>F.isEmpty&&(Region.ready .any ops L).contains i&&(Region.ready .any ops L).all (fun k=>k==i||k==j)
   && (match ops[i]? with
   | some o=>gB ops o none&&Kl P n o ai&&decide (o.dst.toList=ai.dsts)
   | none=>false)&&(match ops[j]? with
   | some o=>gB ops o none&&Kl P n o aj&&decide (o.dst.toList=aj.dsts)
   | none=>false)&&Km P n ops ri (L.setIfInBounds i true) []&&Km P n ops rj (L.setIfInBounds j true) []
def Nh (P:Program) (n:Nat) (ops:Array Oper) (anc:List (List Nat)) (t:DT):Bool :=
 P.follows .mixedOrders&&Region.noSelect ops&&NJ ops anc&&Km P n ops t (Array.replicate ops.size false) []
theorem Mu {H:HP} {φ:Ai} {s:St} {act:Act} (hf:B5 H φ s.st s.fr act.tmps) {c:Nat} {t:Bool} (h:Bl s.fr c=.bool t):act.tmps[c]? = some (.bool t):=by
 have hfc:=hf c
 rw [h] at hfc
 have hfc:act.tmps.getD c undef=.bool t:=hfc
 rw [Array.getD_eq_getD_getElem?] at hfc
 cases hq:act.tmps[c]? with
 | none=>rw [hq] at hfc; cases hfc
 | some v=>rw [hq] at hfc; simpa using hfc
theorem GI {H:HP} {φ:Ai} {s:St} {act:Act} {ops:Array Oper} {o:Oper} {g:Option (Nat×Bool)} (hf:B5 H φ s.st s.fr act.tmps) (h:Qk s g=true) (hb:gB ops o g=true):Region.wanted o (yielded ops act.tmps)=true:=by
 cases g with
 | none =>
  simp only [gB,Option.isNone_iff_eq_none] at hb
  exact E1 hb trivial
 | some g =>
  simp only [gB] at hb
  split at hb
  ·rename_i j want hg
   simp only [E,beq_iff_eq] at hb
   obtain ⟨rfl,hb2⟩:=hb
   simp only [Qk] at h
   split at h
   ·rename_i t ht
    simp only [beq_iff_eq] at h
    subst h
    exact E1 hg ⟨g.1,hb2,Mu hf ht⟩
   ·cases h
  ·cases hb
theorem Mv {H:HP} {φ:Ai} {s:St} {act:Act} {ops:Array Oper} {o:Oper} {g:Nat×Bool} (hf:B5 H φ s.st s.fr act.tmps) (h:Pv s g=true) (hb:gB ops o (some g)=true):Region.wanted o (yielded ops act.tmps)=false:=by
 simp only [gB] at hb
 split at hb
 ·rename_i j want hg
  simp only [E,beq_iff_eq] at hb
  obtain ⟨rfl,hb2⟩:=hb
  refine Ht hg hb2 ?_
  unfold Pv at h
  split at h
  ·rename_i t ht
   rw [Mu hf ht]
   intro e
   cases e
   simp at h
  ·rename_i ht
   have hv:=hf g.1
   rw [ht] at hv
   have hv:act.tmps.getD g.1 undef=undef:=hv
   intro e
   rw [Array.getD_eq_getD_getElem?,e] at hv
   cases hv
  ·cases h
 ·cases hb
def KC (act:Act) (w:World) (T:List (Nat×Nat)) (TT:KM):Prop :=
 ∀ p∈TT,p.2 w/\((∀ w2,p.2 w2)\/∃ x,(p.1,x)∈T/\∃ w0:World,p.2=fun w2=>∀ b,Bm (act.tmps.getD x undef)=some b->w2.heap[b]? = w0.heap[b]?)
theorem Ey {ds:List Nat}:∀ {T:List (Nat×Nat)},CV ds T=true->∀ p∈T,p.2∉ds
 | [],_,p,hp=>by cases hp
 | q::r,h,p,hp=>by
  simp only [CV,E,B7] at h
  rcases AW.1 hp with rfl | hp
  ·exact Ad.1 h.1
  ·exact Ey h.2 p hp
theorem D5 {act:Act} {dst:Option Tmp} {v:Value} {t:Nat} (h:dst≠some t):(act.put dst v).tmps.getD t undef=act.tmps.getD t undef:=by
 rw [Array.getD_eq_getD_getElem?,Array.getD_eq_getD_getElem?,DK h]
theorem KC.put {act:Act} {w:World} {T:List (Nat×Nat)} {TT:KM} (h:KC act w T TT) {dst:Option Tmp} {v:Value} (hf:CV dst.toList T=true):KC (act.put dst v) w T TT:=by
 intro p hp
 obtain ⟨h1,h2⟩:=h p hp
 refine ⟨h1,?_⟩
 rcases h2 with h2 | ⟨x,hx,w0,e⟩
 ·exact .inl h2
 ·refine .inr ⟨x,hx,w0,?_⟩
  have:=Ey hf _ hx
  rw [D5 (fun e=>this (by rw [e]; simp))]
  exact e
theorem DL {anc:List Nat}:∀ {T:List (Nat×Nat)} {p},p∈T->AZ anc p.1=false->p∈CC anc T
 | [],p,h,_=>by cases h
 | q::r,p,h,hn=>by
  simp only [CC]
  rcases AW.1 h with rfl | h
  ·rw [if_neg (by rw [hn]; simp)]; simp
  ·split
   ·exact DL h hn
   ·exact List.mem_cons_of_mem _ (DL h hn)
theorem Fw {anc tch:List Nat} {s:St}:∀ {T:List (Nat×Nat)},F9 anc tch s T=true->∀ p∈T,AZ anc p.1=false->(Bl s.fr p.2).clear tch=true
 | [],_,p,hp,_=>by cases hp
 | q::r,h,p,hp,hn=>by
  simp only [F9,E,C6] at h
  rcases AW.1 hp with rfl | hp
  ·rcases h.1 with h1 | h1
   ·rw [hn] at h1; cases h1
   ·exact h1
  ·exact Fw h.2 p hp hn
theorem HJ {H H':HP} {φ φ':Ai} {s:St} {st':List V} {w w':World} {v:Value} {a:AV} {tch:List Nat} (hs:SR H φ s.st w) (hst:AB H φ s.st w H' φ' st' w') (hm:Lg tch φ s.st w w') (hv:VA H φ s.st a v)
  (h:a.clear tch=true):∀ b,Bm v=some b->w'.heap[b]? = w.heap[b]? := by
 intro b hb
 have keepH:∀ o,H b=some o->w'.heap[b]? = w.heap[b]? := fun o ho=>by rw [hst.sr.hp b o (hst.le b o ho),hs.hp b o ho]
 cases a with
 | ptr id off =>
  obtain ⟨hva,b0,e1,e2⟩:=hv
  rw [e2] at hb
  cases hb
  unfold AC at hva
  split at hva
  ·rename_i cs hid
   exact hm id _ hid rfl (Ad.1 (by simpa [AV.clear] using h)) b0 (by rw [e1]; rfl)
  ·cases hva
 | eptr id i off =>
  obtain ⟨b0,n,cap,K,hk,hi,e1,e2⟩:=hv
  rw [e2] at hb
  cases hb
  unfold U at hk
  split at hk
  ·rename_i t K' xs hid
   exact hm id _ hid rfl (Ad.1 (by simpa [AV.clear] using h)) b0 (by rw [e1]; rfl)
  ·rename_i K' xs hid
   cases hk
   obtain ⟨⟨sl,cap',e3,_,hr⟩,_⟩:=hs.box id _ hid
   rcases hr with rfl | ⟨b1,o1,c,el,fz,e4,e5,_⟩
   ·simp at hi
   ·rw [e1] at e3
    simp only [Value.slice.injEq] at e3
    rw [e4] at e3
    obtain ⟨e6,_⟩:=e3
    simp only [AK,Addr.mk.injEq] at e6
    obtain ⟨rfl,_⟩:=e6
    exact keepH _ e5
  ·rename_i t K' xs hid
   exact hm id _ hid rfl (Ad.1 (by simpa [AV.clear] using h)) b0 (by rw [e1]; rfl)
  ·cases hk
 | fptr cs off =>
  obtain ⟨b0,o,c,el,fz,e,hb0,_⟩:=hv
  rw [e] at hb
  cases hb
  exact keepH _ hb0
 | _=>cases h
theorem Oh {n:Nat} {o:Oper} {d x:Nat} {m:Option Nat} (h:Kz P n o d (.t x) m=true):∃ t,o.op=.load t (.tmp x):=by
 simp only [Kz,E] at h
 have h2:=h.2
 split at h2
 ·rename_i t y ho
  simp only [E] at h2
  have:=h2.1
  cases y<;>simp [BF] at this
  subst this
  exact ⟨t,ho⟩
 ·cases h2
theorem N_ {n:Nat} {o:Oper} {ao:Bp} {t:TypeId} {y:Operand} {ρ:Type} {kn:St->Option ρ} {r:ρ} {cal:Bv} {s:St} (hb:Kl P n o ao=true) (hop:o.op=.load t y) (hv:ao.isVal=true) (hk:BZ cal kn s ao=some r) :
  ∃ d x m,ao=.load d (.t x) m:=by
 cases ao<;>first | cases hv | skip
 case load d x m =>
  cases x with
  | t x=>exact ⟨d,x,m,rfl⟩
  | c a =>
   exfalso
   simp only [Kl,Kz,hop,E] at hb
   simp only [BZ,St.opd] at hk
   have h2:=hb.2.1
   cases y with
   | const v =>
    have h3:a=.undef\/JW v a=true:=by cases a<;>first | exact .inl rfl | exact .inr h2
    rcases h3 with rfl | h3
    ·simp [St.behind] at hk
    ·have:=HD (H:=fun _=>none) (v:=v) (a:=a) h3
     cases a<;>first | exact this.elim | (simp [St.behind] at hk)
   | func f =>
    cases a<;>first | (simp [BF] at h2; done) | (simp [St.behind] at hk)
   | tmp t=>simp [BF] at h2
   | global g=>simp [BF] at h2
 all_goals (exfalso; simp [Kl,Qm,J6,NV,PG,PH,Qn,PE,PD,MN,PM,NY,NZ,Qp,Qo,PV,PX,PI,PF,MQ,hop] at hb)
def LS (M L:Array Bool) (S:List Nat):Prop:=M.size=L.size/\∀ k,M.getD k true=(L.getD k true||AZ S k)
theorem LS.refl (L:Array Bool):LS L L []:=⟨rfl,fun k=>by simp [AZ]⟩
theorem Hw {M:Array Bool} {k:Nat}:M.getD k false=(M.getD k true&&decide (k<M.size)):=by
 rw [Array.getD_eq_getD_getElem?,Array.getD_eq_getD_getElem?]
 by_cases h:k<M.size
 ·simp [h]
 ·simp [h]
theorem LS.getF {M L:Array Bool} {S:List Nat} (h:LS M L S) (k:Nat):M.getD k false=(L.getD k false||(AZ S k&&decide (k<L.size))):=by
 rw [Hw,Hw,h.2,h.1]
 cases L.getD k true<;>cases AZ S k<;>simp
theorem Fx {M:Array Bool} {i k:Nat}:(M.setIfInBounds i true).getD k true=(M.getD k true||(i==k)):=by
 by_cases h:i=k
 ·subst h
  rw [Array.getD_eq_getD_getElem?]
  by_cases h2:i<M.size
  ·simp [h2]
  ·simp [h2]
 ·rw [getD_set_ne true h]
  simp [h]
theorem LS.set {M L:Array Bool} {S:List Nat} (h:LS M L S) (i:Nat):LS (M.setIfInBounds i true) (L.setIfInBounds i true) S:=by
 refine ⟨by simp [h.1],fun k=>?_⟩
 rw [Fx,Fx,h.2]
 cases L.getD k true<;>cases AZ S k<;>cases (i==k)<;>rfl
theorem LS.early {M L:Array Bool} {S:List Nat} (h:LS M L S) (f:Nat):LS (M.setIfInBounds f true) L (f::S):=by
 refine ⟨by simp [h.1],fun k=>?_⟩
 rw [Fx,h.2]
 simp only [AZ]
 by_cases e:f=k<;>simp [e]
theorem LS.adopt {M L:Array Bool} {a b:List Nat} {i:Nat} (h:LS M L (a++i::b)):LS M (L.setIfInBounds i true) (a++b):=by
 refine ⟨by simp [h.1],fun k=>?_⟩
 rw [Fx,h.2,FN,FN]
 simp only [AZ]
 by_cases e:i=k
 ·simp [e]
 ·have:(i==k)=false:=by simpa using e
  rw [this]
  cases L.getD k true<;>cases AZ a k<;>cases AZ b k<;>simp [e]
theorem Pc (L:Array Bool):∀ (fl:List Nat),(N9 L fl).size=L.size/\∀ k,(N9 L fl).getD k true=(L.getD k true||AZ fl k):=by
 intro fl
 unfold N9
 induction fl generalizing L with
 | nil=>exact ⟨rfl,fun k=>by simp [AZ]⟩
 | cons f fl ih =>
  obtain ⟨h1,h2⟩:=ih (L.setIfInBounds f true)
  refine ⟨by simpa using h1,fun k=>?_⟩
  rw [List.foldl_cons,h2,Fx]
  simp only [AZ]
  by_cases e:f=k
  ·simp [e]
  ·have:(f==k)=false:=by simpa using e
   rw [this,if_neg e,Bool.or_false]
def Li:List Bool->Nat
 | []=>0
 | b::r=>(if b=true then 0 else 1)+Li r
theorem Mw:∀ (l:List Bool) (i:Nat),l[i]? = some false->Li (l.set i true)+1=Li l
 | [],i,h=>by simp at h
 | b::l,0,h=>by simp at h; subst h; simp [Li]; omega
 | b::l,i+1,h=>by
  have:=Mw l i (by simpa using h)
  simp only [List.set_cons_succ,Li]
  omega
theorem HK {M:Array Bool} {i:Nat} (h:M.getD i true=false):Li (M.setIfInBounds i true).toList+1=Li M.toList:=by
 rw [Array.toList_setIfInBounds]
 apply Mw
 rw [Array.getD_eq_getD_getElem?] at h
 cases hq:M[i]? with
 | none=>rw [hq] at h; cases h
 | some b=>rw [hq] at h; simp at h; subst h; simpa using hq
theorem Pd (n:Nat):Li (List.replicate n false)=n:=by
 induction n with
 | zero=>rfl
 | succ n ih=>rw [List.replicate_succ]; simp [Li,ih]; omega
def Ni (P:Program) (ops:Array Oper) (wb:World) (H:HP) (φ:Ai) (st:List V) (act:Act) (w:World) (f b:Nat):Prop :=
 ∃ o d obj,ops[f]? = some o/\o.dst=some d/\d<act.tmps.size/\PZ P o act obj/\act.tmps.getD d undef=J7 o.op b/\Hu H φ st w b obj/\wb.heap.size<=b
theorem Ni.put {ops:Array Oper} {wb:World} {H H':HP} {φ φ':Ai} {st st':List V} {act:Act} {w w':World} {f b:Nat} (h:Ni P ops wb H φ st act w f b) {oi:Oper} {v:Value}
  (hsel:∀ (j:Nat) (o:Oper) cs b,ops[j]? = some o->o.op≠.select cs b) (hap:∀ o,ops[f]? = some o->oi.apart ops o=true) (hl:∀ obj,Hu H φ st w b obj->Hu H' φ' st' w' b obj):Ni P ops wb H' φ' st' (act.put oi.dst v) w' f b:=by
 obtain ⟨o,d,obj,h1,h2,h3,h4,h5,h6,h7⟩:=h
 obtain ⟨a1,a2,_⟩:=Oper.apart_spec (hap o h1)
 refine ⟨o,d,obj,h1,h2,by rw [CR]; exact h3,fun w2=>?_,?_,hl obj h6,h7⟩
 ·rw [execOp_put o (fun cs b=>hsel f o cs b h1) act oi.dst v a1]
  exact h4 w2
 ·rw [D5 (fun e=>a2 d e h2)]
  exact h5
theorem L3 {ops:Array Oper} {i:Nat} {js:List Nat} (h:Og ops i js=true) {j:Nat} (hj:j∈js):∃ a b,ops[i]? = some a/\ops[j]? = some b/\a.apart ops b=true/\b.apart ops a=true:=by
 have:=AT.1 h j hj
 split at this
 ·rename_i a b ha hb
  simp only [E] at this
  exact ⟨a,b,ha,hb,this.1,this.2⟩
 ·cases this
theorem Gt {ops:Array Oper}:∀ {l:List Nat},Fv ops l=true->∀ i∈l,∀ j∈l,i≠j->∃ a b,ops[i]? = some a/\ops[j]? = some b/\a.apart ops b=true
 | [],_,i,hi,_,_,_=>by cases hi
 | x::l,h,i,hi,j,hj,hne=>by
  simp only [Fv,E] at h
  rcases AW.1 hi with e1 | hi
  ·subst e1
   rcases AW.1 hj with e2 | hj
   ·exact absurd e2.symm hne
   ·obtain ⟨a,b,h1,h2,h3,_⟩:=L3 h.1.2 hj
    exact ⟨a,b,h1,h2,h3⟩
  ·rcases AW.1 hj with e2 | hj
   ·rw [e2]
    obtain ⟨a,b,h1,h2,_,h4⟩:=L3 h.1.2 hi
    exact ⟨b,a,h2,h1,h4⟩
   ·exact Gt h.2 i hi j hj hne
theorem Ix {s:St} {T:List (Nat×Nat)}:∀ {fl:List (Nat×Bp)},Ic s T fl=true->∀ f∈fl,f.2.floatOk s=true/\Ib s f.2.dsts=true/\CV f.2.dsts T=true
 | [],_,f,hf=>by cases hf
 | g::fl,h,f,hf=>by
  simp only [Ic,E] at h
  rcases AW.1 hf with rfl | hf
  ·exact ⟨h.1.1.1,h.1.1.2,h.1.2⟩
  ·exact Ix h.2 f hf
theorem Qd {n:Nat} {ops:Array Oper} {anc:List (List Nat)} {cal:Bv} (hcal:Ch P cal) (hA:NJ ops anc=true) (hsel:Region.noSelect ops=true) {ρ:Type} {kn:St->Option ρ} {r:ρ} {N:Act->World->Prop}
  {Hb:HP} {φb:Ai} {stb:List V} {wb:World} {ab:Act}
  (hN:∀ s' act' w' H' φ',kn s'=some r->AB Hb φb stb wb H' φ' s'.st w'->B5 H' φ' s'.st s'.fr act'.tmps->act'.tmps.size=n->act'.defers=ab.defers->N act' w') :
  ∀ (t:DT) (fuel:Nat) (F S:List Nat) (B:Nat->Nat) (T:List (Nat×Nat)) (TT:KM) (L M:Array Bool) (s:St) (act:Act) (w:World) (H:HP) (φ:Ai),Km P n ops t L F=true->LS M L S->(∀ f∈S,AZ F f=true/\f∈Region.ready .any ops L) ->
   S.Nodup->(∀ f∈S,∀ g∈S,f≠g->B f≠B g)->Li M.toList<=fuel->Lh ops L->Lh ops M ->
   AB Hb φb stb wb H φ s.st w->B5 H φ s.st s.fr act.tmps->act.tmps.size=n->act.defers=ab.defers->KC act w T TT->(∀ f∈S,∀ p∈TT,AZ (anc.getD f []) p.1=false)->(∀ f∈S,Ni P ops wb H φ s.st act w f (B f))->dK cal anc kn t T s=some r ->
   Hv P ops (fun e a w=>match e with | .normal=>N a w | _=>False) (fun i=>anc.getD i []) fuel TT M act w:=by
 have hsnd:=Region.noSelect_spec hsel
 intro t
 induction t with
 | done =>
  intro fuel F S B T TT L M s act w H φ hb hls hS _ _ hfu _ _ hB hf hn hde _ _ _ hk
  simp only [Km,E,List.isEmpty_iff] at hb
  have hS0:S=[]:=by
   cases S with
   | nil=>rfl
   | cons f S =>
    have:=(hS f (by simp)).2
    rw [hb.1] at this
    cases this
  subst hS0
  have hM:Region.ready .any ops M=[]:=by
   rw [List.eq_nil_iff_forall_not_mem]
   intro j hj
   obtain ⟨h1,o,h2,h3⟩:=mem_ready.1 hj
   have:j∈Region.ready .any ops L:=mem_ready.2 ⟨by have:=hls.2 j; simp only [AZ,Bool.or_false] at this; rw [<- this]; exact h1,o,h2,fun e he hbi=>by have:=hls.getF e.on; simp only [AZ,Bool.false_and,Bool.or_false] at this; rw [<- this]; exact h3 e he hbi⟩
   rw [hb.1] at this
   cases this
  have hq:=hN s act w H φ hk hB hf hn hde
  cases fuel with
  | zero=>exact ⟨hM,hq⟩
  | succ fuel=>exact ⟨fun _=>hq,fun i hi=>by rw [hM] at hi; cases hi⟩
 | test c a b iha ihb =>
  intro fuel F S B T TT L M s act w H φ hb hls hS hnd hBd hfu hsh hshM hB hf hn hde hp hAn hpf hk
  simp only [Km,E] at hb
  simp only [dK] at hk
  split at hk
  ·rename_i t ht
   have hfc:∀ t',t=t'->B5 H φ (s.put c (.bool t')).st (s.put c (.bool t')).fr act.tmps:=by
    intro t' e q
    subst e
    simp only [St.put,Bl]
    split
    ·rename_i e; subst e; have:=hf c; rw [ht] at this; exact this
    ·exact hf q
   split at hk
   ·rename_i e
    exact iha fuel F S B T TT L M (s.put c (.bool true)) act w H φ hb.1 hls hS hnd hBd hfu hsh hshM hB (hfc true e) hn hde hp hAn hpf hk
   ·rename_i e
    exact ihb fuel F S B T TT L M (s.put c (.bool false)) act w H φ hb.2 hls hS hnd hBd hfu hsh hshM hB (hfc false (by simpa using e)) hn hde hp hAn hpf hk
  ·cases hk
 | fork i ai ri j aj rj ihi ihj =>
  intro fuel F S B T TT L M s act w H φ hb hls hS hnd hBd hfu hsh hshM hB hf hn hde hp hAn hpf hk
  simp only [Km,E,List.isEmpty_iff] at hb
  obtain ⟨⟨⟨⟨⟨⟨hF,hri⟩,hall⟩,hoi⟩,hoj⟩,hbi⟩,hbj⟩:=hb
  have hS0:S=[]:=by
   cases S with
   | nil=>rfl
   | cons f S =>
    have:=(hS f (by simp)).1
    rw [hF] at this
    cases this
  subst hS0
  simp only [dK] at hk
  obtain ⟨hki,hkj⟩:=JR.1 hk
  have hq:∀ k∈Region.ready .any ops M,k∈Region.ready .any ops L:=fun k hk=>by
   obtain ⟨h1,o,h2,h3⟩:=mem_ready.1 hk
   exact mem_ready.2 ⟨by have:=hls.2 k; simp only [AZ,Bool.or_false] at this; rw [<- this]; exact h1,o,h2,fun e he hbi=>by have:=hls.getF e.on; simp only [AZ,Bool.false_and,Bool.or_false] at this; rw [<- this]; exact h3 e he hbi⟩
  have hqL:∀ k∈Region.ready .any ops L,k∈Region.ready .any ops M:=fun k hk=>by
   obtain ⟨h1,o,h2,h3⟩:=mem_ready.1 hk
   exact mem_ready.2 ⟨by rw [hls.2,h1]; rfl,o,h2,fun e he hbi=>by rw [hls.getF,h3 e he hbi]; rfl⟩
  obtain ⟨i0,hi0⟩:∃ k,k∈Region.ready .any ops L:=⟨i,by simpa using hri⟩
  obtain ⟨fuel,rfl⟩:∃ k,fuel=k+1:=⟨fuel-1,by
   have:=HK (mem_ready.1 (hqL i0 hi0)).1
   omega⟩
  refine ⟨fun h=>(by have:=hqL i0 hi0; rw [h] at this; cases this),fun k hkM=>?_⟩
  have hcnt:=HK (mem_ready.1 hkM).1
  have hkL:=hq k hkM
  have hkk:=AT.1 hall k hkL
  simp only [C6,beq_iff_eq] at hkk
  rcases hkk with e | e
  ·subst e
   split at hoi
   case h_2=>cases hoi
   rename_i o hoi
   simp only [E,decide_eq_true_eq] at hoi
   obtain ⟨⟨hg,hob⟩,hds⟩:=hoi
   split at hki
   case isFalse=>cases hki
   rename_i hc
   simp only [E] at hc
   obtain ⟨hc2,hc3⟩:=hc
   have hfr:CV o.dst.toList T=true:=by rw [hds]; exact hc2
   unfold wpOp
   simp only [hoi,GI (g:=none) hf rfl hg,if_true]
   refine .inl (LA hcal hob ρ (fun s'=>dK cal anc kn ri (CC (anc.getD k []) T) s') r s act w H φ _ _ hB.sr hf hn hki fun s' v w' H' φ' h1 h2 h3 h4=>?_)
   have hpend:KC (act.put o.dst v) w' (CC (anc.getD k []) T) (Ff (anc.getD k []) TT):=by
    intro p hp'
    obtain ⟨hp1,hp2⟩:=B9 p hp'
    obtain ⟨q1,q2⟩:=hp p hp1
    rcases q2 with q2 | ⟨x,hx,w0,e⟩
    ·exact ⟨q2 w',.inl q2⟩
    ·have hxf:=Ey hfr _ hx
     have hgd:(act.put o.dst v).tmps.getD x undef=act.tmps.getD x undef:=D5 (fun e=>hxf (by rw [e]; simp))
     refine ⟨?_,.inr ⟨x,DL hx hp2,w0,by rw [hgd]; exact e⟩⟩
     have hun:=HJ hB.sr h2 h4.mem (hf x) (Fw hc3 _ hx hp2)
     rw [e] at q1 ⊢
     intro b hb'
     rw [hun b hb']
     exact q1 b hb'
   exact ⟨fun p hp'=>(hpend p hp').1,ihi fuel [] [] B _ _ (L.setIfInBounds k true) _ s' _ w' H' φ' hbi (hls.set k) (fun f hf'=>by cases hf') List.nodup_nil (fun f hf'=>by cases hf') (by omega) (hsh.set hkL) (hshM.set hkM) (hB.trans h2) h3 (CR.trans hn) (Bz.trans hde) hpend (fun f hf'=>by cases hf') (fun f hf'=>by cases hf') h1⟩
  ·subst e
   split at hoj
   case h_2=>cases hoj
   rename_i o hoi
   simp only [E,decide_eq_true_eq] at hoj
   obtain ⟨⟨hg,hob⟩,hds⟩:=hoj
   split at hkj
   case isFalse=>cases hkj
   rename_i hc
   simp only [E] at hc
   obtain ⟨hc2,hc3⟩:=hc
   have hfr:CV o.dst.toList T=true:=by rw [hds]; exact hc2
   unfold wpOp
   simp only [hoi,GI (g:=none) hf rfl hg,if_true]
   refine .inl (LA hcal hob ρ (fun s'=>dK cal anc kn rj (CC (anc.getD k []) T) s') r s act w H φ _ _ hB.sr hf hn hkj fun s' v w' H' φ' h1 h2 h3 h4=>?_)
   have hpend:KC (act.put o.dst v) w' (CC (anc.getD k []) T) (Ff (anc.getD k []) TT):=by
    intro p hp'
    obtain ⟨hp1,hp2⟩:=B9 p hp'
    obtain ⟨q1,q2⟩:=hp p hp1
    rcases q2 with q2 | ⟨x,hx,w0,e⟩
    ·exact ⟨q2 w',.inl q2⟩
    ·have hxf:=Ey hfr _ hx
     have hgd:(act.put o.dst v).tmps.getD x undef=act.tmps.getD x undef:=D5 (fun e=>hxf (by rw [e]; simp))
     refine ⟨?_,.inr ⟨x,DL hx hp2,w0,by rw [hgd]; exact e⟩⟩
     have hun:=HJ hB.sr h2 h4.mem (hf x) (Fw hc3 _ hx hp2)
     rw [e] at q1 ⊢
     intro b hb'
     rw [hun b hb']
     exact q1 b hb'
   exact ⟨fun p hp'=>(hpend p hp').1,ihj fuel [] [] B _ _ (L.setIfInBounds k true) _ s' _ w' H' φ' hbj (hls.set k) (fun f hf'=>by cases hf') List.nodup_nil (fun f hf'=>by cases hf') (by omega) (hsh.set hkL) (hshM.set hkM) (hB.trans h2) h3 (CR.trans hn) (Bz.trans hde) hpend (fun f hf'=>by cases hf') (fun f hf'=>by cases hf') h1⟩
 | skip i g d rt ih =>
  intro fuel F S B T TT L M s act w H φ hb hls hS hnd hBd hfu hsh hshM hB hf hn hde hp hAn hpf hk
  simp only [Km,E,B7] at hb
  obtain ⟨⟨⟨⟨hr,hfree⟩,hiF⟩,ho⟩,hb⟩:=hb
  split at ho
  case h_2=>cases ho
  rename_i o hoi
  simp only [E,decide_eq_true_eq] at ho
  obtain ⟨⟨hg,rfl⟩,hdn⟩:=ho
  simp only [dK] at hk
  split at hk
  case isFalse=>cases hk
  rename_i hc
  simp only [E] at hc
  have hri:i∈Region.ready .any ops L:=by simpa using hr
  have hiS:i∉S:=fun h=>by have:=(hS i h).1; rw [hiF] at this; cases this
  have hriM:i∈Region.ready .any ops M:=by
   obtain ⟨h1,o',h2,h3⟩:=mem_ready.1 hri
   exact mem_ready.2 ⟨by rw [hls.2,h1,Ad.2 hiS]; rfl,o',h2,fun e he hbi=>by rw [hls.getF,h3 e he hbi]; rfl⟩
  have hfreeL:=Region.free_spec hoi hfree
  have hfreeM:∀ j oj,ops[j]? = some oj->j≠i->M.getD j true=false->(∀ e∈oj.after,Region.binds .any e=true->e.on≠i)->o.apart ops oj=true:=fun j oj h1 h2 h3 h4 =>
   hfreeL j oj h1 h2 (by rw [hls.2] at h3; simp only [Bool.or_eq_false_iff] at h3; exact h3.1) h4
  have hcnt:=HK (mem_ready.1 hriM).1
  obtain ⟨fuel,rfl⟩:∃ k,fuel=k+1:=⟨fuel-1,by omega⟩
  refine Iw hA (C:=fun _=>True) hoi hsnd (fun c a w h=>h) fuel TT M act w hshM hfreeM hriM (.inr ⟨Mv hf hc.1 hg,rfl⟩) trivial (fun p hp'=>(hp p hp').1) ?_
  have hf2:B5 H φ s.st (Mh o.dst .void s.fr) (act.put o.dst undef).tmps:=by
   cases hdst:o.dst with
   | none=>exact hf
   | some d =>
    rw [hdst] at hdn
    simp only [decide_eq_true_eq] at hdn
    exact hf.put (a:=.void) (v:=undef) (by omega) rfl
  have hAn':∀ (C:World->Prop),∀ f∈S,∀ p∈(i,C)::TT,AZ (anc.getD f []) p.1=false:=fun C f hf' p hp'=>by
   rcases AW.1 hp' with rfl | hp'
   ·rw [Ad]
    intro hm
    have:=E2 hA hsh f (BV (hS f hf').2).1 (BV (hS f hf').2).2 _ hm
    rw [Bi hri] at this
    cases this
   ·exact hAn f hf' p hp'
  refine ih fuel F S B T _ (L.setIfInBounds i true) _ ⟨Mh o.dst .void s.fr,s.st⟩ _ w H φ hb (hls.set i) (fun f hf'=>⟨(hS f hf').1,ready_mono (hS f hf').2 (fun e=>hiS (e▸hf'))⟩) hnd hBd (by omega) (hsh.set hri) (hshM.set hriM) hB hf2 (CR.trans hn) (Bz.trans hde) ?_ (hAn' _) (fun f hf'=>?_) hk
  ·intro p hp'
   rcases AW.1 hp' with rfl | hp'
   ·exact ⟨trivial,.inl fun _=>trivial⟩
   ·exact (hp.put hc.2) p hp'
  ·refine (hpf f hf').put hsnd (fun of hof=>hfreeL f of hof (fun e=>hiS (e▸hf')) (mem_ready.1 (hS f hf').2).1 (fun e he hbi heq=>?_)) (fun _ h=>h)
   obtain ⟨_,o',h2,h3⟩:=mem_ready.1 (hS f hf').2
   rw [hof] at h2
   cases h2
   have:=h3 e he hbi
   rw [heq,Bi hri] at this
   cases this
 | take i g ao rt ih =>
  intro fuel F S B T TT L M s act w H φ hb hls hS hnd hBd hfu hsh hshM hB hf hn hde hp hAn hpf hk
  simp only [Km,E,B7] at hb
  obtain ⟨⟨⟨⟨⟨hr,hfree⟩,hiF⟩,hval⟩,ho⟩,hb⟩:=hb
  split at ho
  case h_2=>cases ho
  rename_i o hoi
  simp only [E,decide_eq_true_eq] at ho
  obtain ⟨⟨hg,hob⟩,hds⟩:=ho
  simp only [dK] at hk
  split at hk
  case isFalse=>cases hk
  rename_i hc
  simp only [E] at hc
  obtain ⟨hc,hns⟩:=hc
  have hri:i∈Region.ready .any ops L:=by simpa using hr
  have hiS:i∉S:=fun h=>by have:=(hS i h).1; rw [hiF] at this; cases this
  have hriM:i∈Region.ready .any ops M:=by
   obtain ⟨h1,o',h2,h3⟩:=mem_ready.1 hri
   exact mem_ready.2 ⟨by rw [hls.2,h1,Ad.2 hiS]; rfl,o',h2,fun e he hbi=>by rw [hls.getF,h3 e he hbi]; rfl⟩
  have hfreeL:=Region.free_spec hoi hfree
  have hfreeM:∀ j oj,ops[j]? = some oj->j≠i->M.getD j true=false->(∀ e∈oj.after,Region.binds .any e=true->e.on≠i)->o.apart ops oj=true:=fun j oj h1 h2 h3 h4 =>
   hfreeL j oj h1 h2 (by rw [hls.2] at h3; simp only [Bool.or_eq_false_iff] at h3; exact h3.1) h4
  have hcnt:=HK (mem_ready.1 hriM).1
  obtain ⟨fuel,rfl⟩:∃ k,fuel=k+1:=⟨fuel-1,by omega⟩
  have info:∃ s' v H' φ',dK cal anc kn rt (Ia i ao T) s'=some r/\AB H φ s.st w H' φ' s'.st w/\B5 H' φ' s'.st s'.fr (act.put o.dst v).tmps/\∀ w2,BQ o act w w2->(execOp act.eval o).run P w2=.ok (.value v) w2:=by
   refine Pb (P:=P) (o:=o) (a:=act) (w:=w) (LA hcal hob ρ (fun s'=>dK cal anc kn rt (Ia i ao T) s') r s act w H φ _ _ hB.sr hf hn hk fun s' v w' H' φ' h1 h2 h3 h4=>?_)
   obtain ⟨e,h5⟩:=h4.val hval
   subst e
   exact ⟨s',v,H',φ',h1,h2,h3,h5⟩
  obtain ⟨s',v,H',φ',hk',hst,hf',hrun⟩:=info
  refine Iw hA (C:=BQ o act w) hoi hsnd (fun c a w h=>h) fuel TT M act w hshM hfreeM hriM (.inl ⟨GI hf hc.1 hg,hrun⟩) (BQ.refl o act w) (fun p hp'=>(hp p hp').1) ?_
  have hfr:CV o.dst.toList T=true:=by rw [hds]; exact hc.2
  have hAn':∀ (C:World->Prop),∀ f∈S,∀ p∈(i,C)::TT,AZ (anc.getD f []) p.1=false:=fun C f hf' p hp'=>by
   rcases AW.1 hp' with rfl | hp'
   ·rw [Ad]
    intro hm
    have:=E2 hA hsh f (BV (hS f hf').2).1 (BV (hS f hf').2).2 _ hm
    rw [Bi hri] at this
    cases this
   ·exact hAn f hf' p hp'
  refine ih fuel F S B _ _ (L.setIfInBounds i true) _ s' _ w H' φ' hb (hls.set i) (fun f hf'=>⟨(hS f hf').1,ready_mono (hS f hf').2 (fun e=>hiS (e▸hf'))⟩) hnd hBd (by omega) (hsh.set hri) (hshM.set hriM) (hB.trans hst) hf' (CR.trans hn) (Bz.trans hde) ?_ (hAn' _) (fun f hfS=>?_) hk'
  ·intro p hp'
   rcases AW.1 hp' with rfl | hp'
   ·refine ⟨BQ.refl o act w,?_⟩
    by_cases hload:∃ d x m,ao=.load d (.t x) m
    ·obtain ⟨d,x,m,rfl⟩:=hload
     simp only [Kl] at hob
     obtain ⟨t,ht⟩:=Oh hob
     right
     have hxd:o.dst≠some x:=by
      have hd1:o.dst=some d:=by
       simp only [Kz,E] at hob
       exact (AX hob.1).1
      rw [hd1]
      intro e
      cases e
      simp [Bp.notSelf] at hns
     refine ⟨x,by simp [Ia],w,?_⟩
     funext w2
     simp only [BQ,ht,Act.eval]
     rw [D5 hxd]
    ·left
     intro w2
     unfold BQ
     split
     ·rename_i t y hop
      exfalso
      apply hload
      exact N_ hob hop hval hk
     ·trivial
   ·obtain ⟨h1,h2⟩:=(hp.put hfr) p hp'
    refine ⟨h1,?_⟩
    rcases h2 with h2 | ⟨x,hx,w0,e⟩
    ·exact .inl h2
    ·refine .inr ⟨x,?_,w0,e⟩
     unfold Ia
     split
     ·exact List.mem_cons_of_mem _ hx
     ·exact hx
  ·refine (hpf f hfS).put hsnd (fun of hof=>hfreeL f of hof (fun e=>hiS (e▸hfS)) (mem_ready.1 (hS f hfS).2).1 (fun e he hbi heq=>?_)) (fun _ h=>h.step hst)
   obtain ⟨_,o',h2,h3⟩:=mem_ready.1 (hS f hfS).2
   rw [hof] at h2
   cases h2
   have:=h3 e he hbi
   rw [heq,Bi hri] at this
   cases this
 | only i g ao e fl rt ih =>
  intro fuel
  induction fuel using Nat.strongRecOn with
  | _ fuel ihf =>
  intro F S B T TT L M s act w H φ hb hls hS hnd hBd hfu hsh hshM hB hf hn hde hp hAn hpf hk
  have hb0:=hb
  have hk0:=hk
  simp only [Km,E] at hb
  obtain ⟨⟨⟨⟨⟨⟨⟨hr,hrF⟩,hFs⟩,hFi⟩,hfl⟩,hap⟩,ho⟩,hb⟩:=hb
  split at ho
  case h_2=>cases ho
  rename_i o hoi
  simp only [E,decide_eq_true_eq] at ho
  obtain ⟨⟨hg,hob⟩,hds⟩:=ho
  simp only [dK] at hk
  split at hk
  case isFalse=>cases hk
  rename_i hc
  simp only [E] at hc
  obtain ⟨⟨⟨⟨⟨hc1,hc2⟩,hc3⟩,hc4⟩,hc6⟩,hc5⟩:=hc
  have hri:i∈Region.ready .any ops L:=by simpa using hr
  have hfr:CV o.dst.toList T=true:=by rw [hds]; exact hc2
  have hanc:∀ k∈anc.getD i [],k≠i:=fun k hk e=>by
   have:=E2 hA hsh i (BV hri).1 (BV hri).2 k hk
   rw [e,Bi hri] at this
   cases this
  have hFsub:∀ f∈S,f=i\/f∈fl.map (·.1):=fun f hfS=>by
   have h1:=(hS f hfS).1
   have h2:=AT.1 hFs f (BR.1 h1)
   simp only [C6,beq_iff_eq] at h2
   exact h2.imp id BR.1
  by_cases hiS:i∈S
  ·-- it came up before: now the boxes are told
   obtain ⟨oa,d,obj,q1,q2,q3,q4,q5,q6,q7⟩:=hpf i hiS
   rw [hoi] at q1
   cases q1
   have hfi:ao.isFloat=true:=by
    have h1:=(hS i hiS).1
    rw [h1] at hFi
    simp only [Bool.not_true,Bool.false_or,E] at hFi
    exact hFi.2
   have hfk:ao.floatOk s=true:=by
    have h1:=(hS i hiS).1
    rw [h1] at hFi
    simp only [Bool.not_true,Bool.false_or,E] at hFi
    rw [hFi.1] at hc5
    simpa using hc5
   obtain ⟨s',H',φ',hk',hst',hf',hoth⟩:=Of hob hfi hfk hB hf hk q4 (fun d' hd'=>by rw [q2] at hd'; cases hd'; exact q5) q6 q7
   obtain ⟨S1,S2,rfl⟩:=List.append_of_mem hiS
   have hnd2:i∉S1++S2/\(S1++S2).Nodup:=by
    rw [List.nodup_append] at hnd
    obtain ⟨n1,n2,n3⟩:=hnd
    rw [List.nodup_cons] at n2
    refine ⟨fun h=>?_,?_⟩
    ·rcases Bw.1 h with h | h
     ·exact n3 i h i (by simp) rfl
     ·exact n2.1 h
    ·rw [List.nodup_append]
     exact ⟨n1,n2.2,fun a ha b hb=>n3 a ha b (by simp [hb])⟩
   have hsub:∀ f∈S1++S2,f∈S1++i::S2:=fun f h=>by
    rcases Bw.1 h with h | h
    ·simp [h]
    ·simp [h]
   refine ih fuel (fl.map (·.1)) (S1++S2) B _ _ (L.setIfInBounds i true) M s' act w H' φ' hb hls.adopt (fun f hf'=>?_) hnd2.2 (fun f hf' g hg'=>hBd f (hsub f hf') g (hsub g hg')) hfu (hsh.set hri) hshM hst' hf' hn hde ?_ (fun f hf'=>hAn f (hsub f hf')) (fun f hf'=>?_) hk'
   ·have hne:f≠i:=fun e=>hnd2.1 (e▸hf')
    refine ⟨BR.2 ((hFsub f (hsub f hf')).resolve_left hne),ready_mono (hS f (hsub f hf')).2 hne⟩
   ·intro p hp'
    obtain ⟨h1,h2⟩:=hp p hp'
    refine ⟨h1,?_⟩
    rcases h2 with h2 | ⟨x,hx,w0,e⟩
    ·exact .inl h2
    ·exact .inr ⟨x,DL hx (hAn i hiS p hp'),w0,e⟩
   ·obtain ⟨o2,d2,obj2,p1,p2,p3,p4,p5,p6,p7⟩:=hpf f (hsub f hf')
    have hne:f≠i:=fun e=>hnd2.1 (e▸hf')
    exact ⟨o2,d2,obj2,p1,p2,p3,p4,p5,hoth _ _ (hBd f (hsub f hf') i hiS hne) p6,p7⟩
  ·have hriM:i∈Region.ready .any ops M:=by
    obtain ⟨h1,o',h2,h3⟩:=mem_ready.1 hri
    exact mem_ready.2 ⟨by rw [hls.2,h1,Ad.2 hiS]; rfl,o',h2,fun e he hbi=>by rw [hls.getF,h3 e he hbi]; rfl⟩
   have hcnt:=HK (mem_ready.1 hriM).1
   obtain ⟨fuel,rfl⟩:∃ k,fuel=k+1:=⟨fuel-1,by omega⟩
   have hSfl:∀ f∈S,f∈fl.map (·.1):=fun f hf'=>(hFsub f hf').resolve_left (fun e=>hiS (e▸hf'))
   refine ⟨fun h=>(by rw [h] at hriM; cases hriM),fun j hj=>?_⟩
   have hcj:=HK (mem_ready.1 hj).1
   by_cases hji:j=i
   ·subst hji
    unfold wpOp
    simp only [hoi,GI hf hc1 hg,if_true]
    refine .inl (LA hcal hob ρ (fun s'=>dK cal anc kn rt (CC (anc.getD j []) T) s') r s act w H φ _ _ hB.sr hf hn hk fun s' v w' H' φ' h1 h2 h3 h4=>?_)
    have hpend:KC (act.put o.dst v) w' (CC (anc.getD j []) T) (Ff (anc.getD j []) TT):=by
     intro p hp'
     obtain ⟨hp1,hp2⟩:=B9 p hp'
     obtain ⟨q1,q2⟩:=hp p hp1
     rcases q2 with q2 | ⟨x,hx,w0,e⟩
     ·exact ⟨q2 w',.inl q2⟩
     ·have hxf:=Ey hfr _ hx
      have hgd:(act.put o.dst v).tmps.getD x undef=act.tmps.getD x undef:=D5 (fun e=>hxf (by rw [e]; simp))
      refine ⟨?_,.inr ⟨x,DL hx hp2,w0,by rw [hgd]; exact e⟩⟩
      have hun:=HJ hB.sr h2 h4.mem (hf x) (Fw hc3 _ hx hp2)
      rw [e] at q1 ⊢
      intro b hb'
      rw [hun b hb']
      exact q1 b hb'
    refine ⟨fun p hp'=>(hpend p hp').1,ih fuel (fl.map (·.1)) S B _ _ (L.setIfInBounds j true) _ s' _ w' H' φ' hb (hls.set j) (fun f hf'=>⟨BR.2 (hSfl f hf'),ready_mono (hS f hf').2 (fun e=>hiS (e▸hf'))⟩) hnd hBd (by omega) (hsh.set hri) (hshM.set hj) (hB.trans h2) h3 (CR.trans hn) (Bz.trans hde) hpend (fun f hf' p hp'=>hAn f hf' p (B9 p hp').1) (fun f hf'=>?_) h1⟩
    obtain ⟨a,b,k1,k2,k3⟩:=Gt hap j (by simp) f (List.mem_cons_of_mem _ (hSfl f hf')) (fun e=>hiS (e▸hf'))
    rw [hoi] at k1
    cases k1
    exact (hpf f hf').put hsnd (fun of hof=>by rw [k2] at hof; cases hof; exact k3) (fun _ h=>h.step h2)
   ·-- one that comes up ahead of its turn
    have hjS:j∉S:=fun h=>by
     have h1:=(mem_ready.1 hj).1
     rw [hls.2,BR.2 h] at h1
     simp at h1
    have hjfl:j∈fl.map (·.1):=by
     rcases Classical.em (j∈fl.map (·.1)) with h | h
     ·exact h
     ·exfalso
      obtain ⟨h1,o',h2,h3⟩:=mem_ready.1 hj
      have hLF:=Pc L (fl.map (·.1))
      have hrd:j∈Region.ready .any ops (N9 L (fl.map (·.1))):=by
       refine mem_ready.2 ⟨?_,o',h2,fun e he hbi=>?_⟩
       ·rw [hLF.2,Ad.2 h]
        rw [hls.2] at h1
        simp only [Bool.or_eq_false_iff] at h1
        rw [h1.1]
        rfl
       ·have:=h3 e he hbi
        rw [Hw] at this ⊢
        simp only [E,decide_eq_true_eq] at this ⊢
        refine ⟨?_,by rw [hLF.1,<- hls.1]; exact this.2⟩
        rw [hLF.2]
        have h4:=this.1
        rw [hls.2] at h4
        simp only [C6] at h4 ⊢
        exact h4.imp id fun h5=>BR.2 (hSfl _ (BR.1 h5))
      have:=AT.1 hrF j hrd
      simp only [beq_iff_eq] at this
      exact hji this
    obtain ⟨⟨j',aj⟩,hjm,hje⟩:=List.mem_map.1 hjfl
    simp only at hje
    subst hje
    have hfb:=AT.1 hfl _ hjm
    obtain ⟨k1,k2,k3⟩:=Ix hc4 _ hjm
    have hpk:=AT.1 hc6 _ hjm
    simp only [NK,E] at hfb
    obtain ⟨⟨hjr,hjfl2⟩,hfb⟩:=hfb
    split at hfb
    case h_2=>cases hfb
    rename_i oj hoj
    simp only [E,decide_eq_true_eq] at hfb
    obtain ⟨⟨⟨hjob,hjds⟩,hjg⟩,hjd⟩:=hfb
    split at hjd
    case h_2=>cases hjd
    rename_i d hdd
    simp only [E,B7,decide_eq_true_eq] at hjd
    have hjL:j'∈Region.ready .any ops L:=by simpa using hjr
    obtain ⟨obj,hborn⟩:=Pa hjob hjfl2 k1 hB.sr hf
    have hst:AB H φ s.st w H φ s.st (w.alloc obj):=AB.grow hB.sr (World.grownBy_alloc w obj none)
    have hfrj:CV oj.dst.toList T=true:=by rw [hjds]; exact k3
    have hund:Bl s.fr d=.undef:=by
     rw [<- hjds,hdd] at k2
     simp only [Option.toList_some,Ib,Bool.and_true] at k2
     split at k2
     ·rename_i h; exact h
     ·cases k2
    have hf2:B5 H φ s.st s.fr (act.put oj.dst (J7 oj.op w.heap.size)).tmps:=by
     intro t
     by_cases ht:t=d
     ·subst ht
      rw [hund]
      trivial
     ·rw [D5 (fun e=>ht (by rw [hdd] at e; cases e; rfl))]
      exact hf t
    have hpend:KC (act.put oj.dst (J7 oj.op w.heap.size)) (w.alloc obj) T (Ff (anc.getD j' []) TT):=by
     intro p hp'
     obtain ⟨hp1,hp2⟩:=B9 p hp'
     obtain ⟨q1,q2⟩:=hp p hp1
     rcases q2 with q2 | ⟨x,hx,w0,e⟩
     ·exact ⟨q2 _,.inl q2⟩
     ·have hxf:=Ey hfrj _ hx
      have hgd:(act.put oj.dst (J7 oj.op w.heap.size)).tmps.getD x undef=act.tmps.getD x undef:=D5 (fun e=>hxf (by rw [e]; simp))
      refine ⟨?_,.inr ⟨x,hx,w0,by rw [hgd]; exact e⟩⟩
      have hun:=HJ hB.sr hst (Lg.grown (W:=[]) hB.sr (World.grownBy_alloc w obj none)) (hf x) (Fw hpk _ hx hp2)
      rw [e] at q1 ⊢
      intro b hb'
      rw [hun b hb']
      exact q1 b hb'
    have hiff:∀ f∈S,f≠j':=fun f hf' e=>hjS (e▸hf')
    unfold wpOp
    simp only [hoj,E1 (o:=oj) (Option.isNone_iff_eq_none.1 hjg) trivial,if_true]
    refine .inl (Ii (hborn w) ⟨fun p hp'=>(hpend p hp').1,?_⟩)
    have hbF:Km P n ops (.only i g ao e fl rt) L (fl.map (·.1))=true:=by
     have hni:AZ (fl.map (·.1)) i=false:=by
      have:=hap
      simp only [Fv,E,B7] at this
      exact this.1.1
     simp only [Km,E] at hb0 ⊢
     obtain ⟨⟨⟨⟨⟨⟨⟨z1,z2⟩,_⟩,_⟩,z5⟩,z6⟩,z7⟩,z8⟩:=hb0
     exact ⟨⟨⟨⟨⟨⟨⟨z1,z2⟩,AT.2 fun f hf'=>by simp [BR.2 hf']⟩,by rw [hni]; rfl⟩,z5⟩,z6⟩,z7⟩,z8⟩
    refine ihf fuel (by omega) (fl.map (·.1)) (j'::S) (fun f=>if f=j' then w.heap.size else B f) T _ L _ s _ (w.alloc obj) H φ hbF (hls.early j') ?_ (List.nodup_cons.2 ⟨hjS,hnd⟩) ?_ (by omega) hsh (hshM.set hj) (hB.trans hst) hf2 (CR.trans hn) (Bz.trans hde) hpend ?_ ?_ hk0
    ·intro f hf'
     rcases AW.1 hf' with rfl | hf'
     ·exact ⟨BR.2 hjfl,hjL⟩
     ·exact ⟨BR.2 (hSfl f hf'),(hS f hf').2⟩
    ·have hlt:∀ f∈S,B f<w.heap.size:=fun f hf'=>by
      obtain ⟨_,_,_,_,_,_,_,_,h6,_⟩:=hpf f hf'
      exact h6.lt
     intro f hf' g hg' hne
     rcases AW.1 hf' with e1 | hf'
     ·rcases AW.1 hg' with e2 | hg'
      ·exact absurd (e1.trans e2.symm) hne
      ·rw [if_pos e1,if_neg (hiff g hg')]
       have:=hlt g hg'
       omega
     ·rcases AW.1 hg' with e2 | hg'
      ·rw [if_pos e2,if_neg (hiff f hf')]
       have:=hlt f hf'
       omega
      ·rw [if_neg (hiff f hf'),if_neg (hiff g hg')]
       exact hBd f hf' g hg' hne
    ·intro f hf' p hp'
     rcases AW.1 hf' with rfl | hf'
     ·exact (B9 p hp').2
     ·exact hAn f hf' p (B9 p hp').1
    ·intro f hf'
     rcases AW.1 hf' with e1 | hf'
     ·subst e1
      rw [if_pos rfl]
      refine ⟨oj,d,obj,hoj,hdd,by rw [CR,hn]; exact hjd.2,fun w2=>?_,?_,Hu.alloc hB.sr obj,hB.size⟩
      ·rw [execOp_put oj (fun cs b=>hsnd f oj cs b hoj) act oj.dst _ (ops:=ops) (fun d' hd'=>by
        rw [hdd] at hd'
        cases hd'
        intro hm
        have:=hjd.1
        rw [List.contains_eq_mem,decide_eq_true hm] at this
        cases this)]
       exact hborn w2
      ·rw [Fq hdd,Array.getD_eq_getD_getElem?]
       simp [hn,hjd.2]
     ·rw [if_neg (hiff f hf')]
      obtain ⟨a,b,q1,q2,q3⟩:=Gt hap j' (List.mem_cons_of_mem _ hjfl) f (List.mem_cons_of_mem _ (hSfl f hf')) (fun e=>hiff f hf' e.symm)
      rw [hoj] at q1
      cases q1
      exact (hpf f hf').put hsnd (fun of hof=>by rw [q2] at hof; cases hof; exact q3) (fun _ h=>h.step hst)
theorem Pe {n:Nat} {id:Nat} {ops:Array Oper} {anc:List (List Nat)} {t:DT} {cal:Bv} (hcal:Ch P cal) (h:Nh P n ops anc t=true) {ρ:Type} {kn:St->Option ρ} {r:ρ} {s:St} {act:Act} {w:World} {H:HP} {φ:Ai} {Q:Exit->Act->World->Prop}
  (hs:SR H φ s.st w) (hf:B5 H φ s.st s.fr act.tmps) (hn:act.tmps.size=n) (hk:dK cal anc kn t [] s=some r)
  (hN:∀ s' act' w' H' φ',kn s'=some r->AB H φ s.st w H' φ' s'.st w'->B5 H' φ' s'.st s'.fr act'.tmps->act'.tmps.size=n->act'.defers=act.defers->Q .normal act' w'):(Code.region id ops true).wp P Q act w:=by
 simp only [Nh,E] at h
 obtain ⟨⟨⟨hm,hsel⟩,hA⟩,hb⟩:=h
 have hst:AB H φ s.st w H φ s.st { w with drawn:=w.drawn+1 }:=AB.grow hs ⟨rfl,rfl,rfl,Nat.le_refl _,fun _ _ _=>rfl⟩
 refine wp_mono (wp_region_any hm (Q:=fun e a w=>match e with | .normal=>Q .normal a w | _=>False) (LF (anc:=fun i=>anc.getD i []) ops.size [] _ act _ ?_)) fun e a w h=>by cases e<;>first | exact h | exact h.elim
 have hsh:Lh ops (Array.replicate ops.size false):=by
  intro k o hk' _ _ _ _
  simp [Array.getElem?_replicate] at hk'
  split at hk'<;>simp at hk'
 exact Qd (ab:=act) (N:=fun a w=>Q .normal a w) hcal hA hsel (fun s' act' w' H' φ' h1 h2 h3 h4 h5=>hN s' act' w' H' φ' h1 h2 h3 h4 h5) t ops.size [] [] (fun _=>0) [] [] (Array.replicate ops.size false) _ s act _ H φ hb (LS.refl _)
  (fun f hf=>by cases hf) List.nodup_nil (fun f hf=>by cases hf) (by simp [Pd]) hsh hsh hst hf hn rfl (fun p hp=>by cases hp) (fun f hf=>by cases hf) (fun f hf=>by cases hf) hk
def GQ:List Nat->Nat
 | []=>0
 | i::r=>Nat.lor (Nat.shiftLeft 1 i) (GQ r)
def Oi (ops:Array Oper):List Nat:=ops.toList.map fun o=>GQ ((o.after.filter fun e=>Region.binds .any e).toList.map (·.on))
def QI (m i:Nat):Bool:=Nat.beq (Nat.land (Nat.shiftRight m i) 1) 1
def EO (pm:List Nat) (m i:Nat):Bool :=
 match pm[i]? with
 | some p=>!QI m i&&Nat.beq (Nat.land p m) p
 | none=>false
def Nj (ops:Array Oper) (anc:List (List Nat)) (i:Nat):Bool :=
 match ops[i]? with
 | none=>false
 | some oi=>(List.range ops.size).all fun j=>j==i||AZ (anc.getD i []) j||match ops[j]? with
   | some oj=>oj.after.any (fun e=>Region.binds .any e&&e.on==i)||oi.apart ops oj
   | none=>true
def NL (P:Program) (n:Nat) (ops:Array Oper) (pm:List Nat) (m:Nat) (f:Nat×Bp):Bool :=
 EO pm m f.1&&f.2.isFloat&&(match ops[f.1]? with
  | some o=>Kl P n o f.2&&decide (o.dst.toList=f.2.dsts)&&o.guard.isNone&&(match o.dst with
   | some d=>!(o.looksAt ops).contains d&&decide (d<n)
   | none=>false)
  | none=>false)
def NM (P:Program) (n:Nat) (ops:Array Oper) (anc:List (List Nat)) (pm:List Nat):DT->Array Bool->Nat->List Nat->Bool
 | .done,_,m,F=>(List.range ops.size).all (fun i=>!EO pm m i)&&F.isEmpty
 | .take i g ao r,L,m,F=>EO pm m i&&(Nj ops anc i||Region.free .any ops L i)&&!AZ F i&&ao.isVal&&(match ops[i]? with
   | some o=>gB ops o g&&Kl P n o ao&&decide (o.dst.toList=ao.dsts)
   | none=>false)&&NM P n ops anc pm r (L.setIfInBounds i true) (Nat.lor m (Nat.shiftLeft 1 i)) F
 | .skip i g d r,L,m,F=>EO pm m i&&(Nj ops anc i||Region.free .any ops L i)&&!AZ F i&&(match ops[i]? with
   | some o=>gB ops o (some g)&&decide (o.dst=d)&&(match d with | some d=>decide (d<n) | none=>true)
   | none=>false)&&NM P n ops anc pm r (L.setIfInBounds i true) (Nat.lor m (Nat.shiftLeft 1 i)) F
 | .only i g ao e fl r,L,m,F=>EO pm m i&&(List.range ops.size).all (fun k=>k==i||!EO pm (Nat.lor m (GQ (fl.map (·.1)))) k)&&F.all (fun f=>f==i||AZ (fl.map (·.1)) f)&&(!AZ F i||(e&&ao.isFloat))
   && fl.all (NL P n ops pm m)&&Fv ops (i::fl.map (·.1))&&(match ops[i]? with
   | some o=>gB ops o g&&Kl P n o ao&&decide (o.dst.toList=ao.dsts)
   | none=>false)&&NM P n ops anc pm r (L.setIfInBounds i true) (Nat.lor m (Nat.shiftLeft 1 i)) (fl.map (·.1))
 | .test _ a b,L,m,F=>NM P n ops anc pm a L m F&&NM P n ops anc pm b L m F
 | .fork i ai ri j aj rj,L,m,F=>F.isEmpty&&(EO pm m i&&EO pm m j)&&(List.range ops.size).all (fun k=>(k==i||k==j)||!EO pm m k)
   && (match ops[i]? with
   | some o=>gB ops o none&&Kl P n o ai&&decide (o.dst.toList=ai.dsts)
   | none=>false)&&(match ops[j]? with
   | some o=>gB ops o none&&Kl P n o aj&&decide (o.dst.toList=aj.dsts)
   | none=>false)&&NM P n ops anc pm ri (L.setIfInBounds i true) (Nat.lor m (Nat.shiftLeft 1 i)) []&&NM P n ops anc pm rj (L.setIfInBounds j true) (Nat.lor m (Nat.shiftLeft 1 j)) []
def Oj (P:Program) (n:Nat) (ops:Array Oper) (anc:List (List Nat)) (t:DT):Bool :=
 P.follows .mixedOrders&&Region.noSelect ops&&NJ ops anc&&NM P n ops anc (Oi ops) t (Array.replicate ops.size false) 0 []
theorem Pf (m i:Nat):QI m i=m.testBit i:=by
 have h:Nat.land (Nat.shiftRight m i) 1=(m >>> i) &&& 1:=rfl
 unfold QI
 rw [h,Nat.testBit,Nat.and_comm,Nat.one_and_eq_mod_two]
 have:=Nat.mod_two_eq_zero_or_one (m >>> i)
 rcases this with e | e<;>rw [e]<;>rfl
theorem Pg (m i j:Nat):(Nat.lor m (Nat.shiftLeft 1 i)).testBit j=(m.testBit j||decide (i=j)):=by
 have h:Nat.lor m (Nat.shiftLeft 1 i)=m ||| (1 <<< i):=rfl
 rw [h,Nat.testBit_or,Nat.one_shiftLeft,Nat.testBit_two_pow]
theorem L4 (j:Nat):∀ l:List Nat,(GQ l).testBit j=decide (j∈l)
 | []=>by simp [GQ]
 | i::r=>by
  have h:GQ (i::r)=(1 <<< i) ||| GQ r:=rfl
  rw [h,Nat.testBit_or,Nat.one_shiftLeft,Nat.testBit_two_pow,L4 j r]
  by_cases e:i=j
  ·subst e; simp
  ·simp [e,Ne.symm e]
theorem Ok (p m:Nat):Nat.beq (Nat.land p m) p=true↔∀ j,p.testBit j=true->m.testBit j=true:=by
 have h:Nat.land p m=p &&& m:=rfl
 rw [Nat.beq_eq,h]
 constructor
 ·intro e j hj
  have:=congrArg (fun x=>Nat.testBit x j) e
  simp only [Nat.testBit_and,hj,Bool.true_and] at this
  exact this
 ·intro e
  refine Nat.eq_of_testBit_eq fun j=>?_
  rw [Nat.testBit_and]
  cases hj:p.testBit j with
  | false=>rfl
  | true=>rw [e j hj]; rfl
def LM (ops:Array Oper) (L:Array Bool) (m:Nat):Prop:=L.size=ops.size/\∀ j,L.getD j false=m.testBit j
theorem B3 {ops:Array Oper} {L:Array Bool} {m:Nat} (h:LM ops L m) (i:Nat):EO (Oi ops) m i=true↔i∈Region.ready .any ops L:=by
 unfold EO Oi
 rw [mem_ready,At,Array.getElem?_toList]
 cases ho:ops[i]? with
 | none=>simp
 | some o =>
  have hi:i<ops.size:=(Array.getElem?_eq_some_iff.1 ho).1
  have h0:L.getD i true=L.getD i false:=by simp [Array.getD,h.1,hi]
  simp only [Option.map_some,E,B7,Ok,L4,decide_eq_true_eq,List.mem_map,Array.mem_toList_iff,Array.mem_filter,AK,exists_eq_left',Pf,h0,h.2]
  constructor
  ·rintro ⟨a,b⟩
   exact ⟨a,fun e he hb=>b e.on ⟨e,⟨he,hb⟩,rfl⟩⟩
  ·rintro ⟨a,b⟩
   refine ⟨a,?_⟩
   rintro j ⟨e,⟨he,hb⟩,rfl⟩
   exact b e he hb
theorem LM.set {ops:Array Oper} {L:Array Bool} {m i:Nat} (h:LM ops L m) (hi:i<ops.size):LM ops (L.setIfInBounds i true) (Nat.lor m (Nat.shiftLeft 1 i)):=by
 refine ⟨by rw [Array.size_setIfInBounds]; exact h.1,fun j=>?_⟩
 rw [Pg,<- h.2 j]
 by_cases e:i=j
 ·subst e
  simp [Array.getD,h.1,hi]
 ·rw [getD_set_ne false e]; simp [e]
theorem LM.add {ops:Array Oper}:∀ (fl:List Nat) {L:Array Bool} {m:Nat},LM ops L m->(∀ f∈fl,f<ops.size)->LM ops (N9 L fl) (Nat.lor m (GQ fl))
 | [],L,m,h,_=>by
  have e:Nat.lor m (GQ [])=m ||| 0:=rfl
  rw [e,Nat.or_zero]
  exact h
 | i::r,L,m,h,hl=>by
  have:=LM.add r (h.set (hl i (by simp))) fun f hf=>hl f (List.mem_cons_of_mem _ hf)
  have e:Nat.lor m (GQ (i::r))=Nat.lor (Nat.lor m (Nat.shiftLeft 1 i)) (GQ r):=(Nat.or_assoc m (1 <<< i) (GQ r)).symm
  rw [e]
  exact this
theorem DW {ops:Array Oper} {L:Array Bool} {i:Nat} (h:i∈Region.ready .any ops L):i<ops.size:=(BV h).2
theorem Nk {ops:Array Oper} {anc:List (List Nat)} (hA:NJ ops anc=true) {L:Array Bool} (hs:Lh ops L) {i:Nat} (hr:i∈Region.ready .any ops L) (h:Nj ops anc i=true):Region.free .any ops L i=true:=by
 unfold Nj at h
 unfold Region.free
 split at h
 ·cases h
 ·rename_i oi hi
  rw [hi]
  simp only
  rw [AT] at h ⊢
  intro j hj
  have h1:=h j hj
  simp only [C6] at h1 ⊢
  rcases h1 with (h1 | h1) | h1
  ·exact .inl (.inl h1)
  ·have:=E2 hA hs i (BV hr).1 (BV hr).2 j (BR.1 h1)
   exact .inl (.inr (by
    have hl:j<L.size:=by
     rcases Af j L.size with q | q
     ·exact q
     ·simp [Array.getD,Nat.not_lt.2 q] at this
    simp [Array.getD,hl] at this ⊢
    exact this))
  ·exact .inr h1
theorem Qe {P:Program} {n:Nat} {ops:Array Oper} {anc:List (List Nat)} (hA:NJ ops anc=true):∀ (t:DT) (L:Array Bool) (m:Nat) (F:List Nat),LM ops L m->Lh ops L->NM P n ops anc (Oi ops) t L m F=true->Km P n ops t L F=true:=by
 intro t
 induction t with
 | done =>
  intro L m F hL _ h
  simp only [NM,Km,E,List.isEmpty_iff] at h ⊢
  refine ⟨?_,h.2⟩
  rw [List.eq_nil_iff_forall_not_mem]
  intro j hj
  have:=AT.1 h.1 j (List.mem_range.2 (DW hj))
  rw [(B3 hL j).2 hj] at this
  cases this
 | test c a b iha ihb =>
  intro L m F hL hs h
  simp only [NM,Km,E] at h ⊢
  exact ⟨iha _ _ _ hL hs h.1,ihb _ _ _ hL hs h.2⟩
 | take i g ao r ih =>
  intro L m F hL hs h
  simp only [NM,Km,E] at h ⊢
  obtain ⟨⟨⟨⟨⟨h1,h2⟩,h3⟩,h4⟩,h5⟩,h6⟩:=h
  have hr:=(B3 hL i).1 h1
  refine ⟨⟨⟨⟨⟨by simpa using hr,?_⟩,h3⟩,h4⟩,h5⟩,ih _ _ _ (hL.set (DW hr)) (hs.set hr) h6⟩
  rcases C6 _ _▸h2 with q | q
  ·exact Nk hA hs hr q
  ·exact q
 | skip i g d r ih =>
  intro L m F hL hs h
  simp only [NM,Km,E] at h ⊢
  obtain ⟨⟨⟨⟨h1,h2⟩,h3⟩,h5⟩,h6⟩:=h
  have hr:=(B3 hL i).1 h1
  refine ⟨⟨⟨⟨by simpa using hr,?_⟩,h3⟩,h5⟩,ih _ _ _ (hL.set (DW hr)) (hs.set hr) h6⟩
  rcases C6 _ _▸h2 with q | q
  ·exact Nk hA hs hr q
  ·exact q
 | only i g ao e fl r ih =>
  intro L m F hL hs h
  simp only [NM,Km,E] at h ⊢
  obtain ⟨⟨⟨⟨⟨⟨⟨h1,h2⟩,h3⟩,h4⟩,h5⟩,h6⟩,h7⟩,h8⟩:=h
  have hr:=(B3 hL i).1 h1
  have hfl:∀ f∈fl,EO (Oi ops) m f.1=true:=fun f hf=>by
   have:=AT.1 h5 f hf
   simp only [NL,E] at this
   exact this.1.1
  have hL2:=LM.add (fl.map (·.1)) hL fun f hf=>by
   obtain ⟨g,hg,rfl⟩:=List.mem_map.1 hf
   exact DW ((B3 hL g.1).1 (hfl g hg))
  refine ⟨⟨⟨⟨⟨⟨⟨by simpa using hr,?_⟩,h3⟩,h4⟩,?_⟩,h6⟩,h7⟩,ih _ _ _ (hL.set (DW hr)) (hs.set hr) h8⟩
  ·rw [AT]
   intro k hk
   have:=AT.1 h2 k (List.mem_range.2 (DW hk))
   rw [(B3 hL2 k).2 hk] at this
   simpa using this
  ·rw [AT]
   intro f hf
   have h9:=AT.1 h5 f hf
   unfold NL at h9
   unfold NK
   rw [hfl f hf] at h9
   have h10:(Region.ready .any ops L).contains f.1=true:=by simpa using (B3 hL f.1).1 (hfl f hf)
   rw [h10]
   exact h9
 | fork i ai ri j aj rj ihi ihj =>
  intro L m F hL hs h
  simp only [NM,Km,E] at h ⊢
  obtain ⟨⟨⟨⟨⟨⟨h0,h1⟩,h2⟩,h3⟩,h4⟩,h5⟩,h6⟩:=h
  have hr:=(B3 hL i).1 h1.1
  have hr2:=(B3 hL j).1 h1.2
  have hall:(Region.ready .any ops L).all (fun k=>k==i||k==j)=true:=by
   rw [AT]
   intro k hk
   have:=AT.1 h2 k (List.mem_range.2 (DW hk))
   rw [(B3 hL k).2 hk] at this
   simpa using this
  exact ⟨⟨⟨⟨⟨⟨h0,by simpa using hr⟩,hall⟩,h3⟩,h4⟩,ihi _ _ _ (hL.set (DW hr)) (hs.set hr) h5⟩,ihj _ _ _ (hL.set (DW hr2)) (hs.set hr2) h6⟩
theorem Ol {P:Program} {n:Nat} {ops:Array Oper} {anc:List (List Nat)} {t:DT} (h:Oj P n ops anc t=true):Nh P n ops anc t=true:=by
 simp only [Oj,Nh,E] at h ⊢
 refine ⟨h.1,Qe h.1.2 t _ 0 [] ⟨by simp,fun j=>?_⟩ ?_ h.2⟩
 ·rw [Nat.zero_testBit]
  simp [Array.getD]
 ·intro k o hk' _ _ _ _
  simp [Array.getElem?_replicate] at hk'
  split at hk'<;>simp at hk'

theorem OA {st:List V} {N k:Nat} {cs:List AV} (h:(st.map (V.older N))[k]? = some (.var cs)) {o i:Nat} (ho:cs[o]? = some (.row i)):i<N:=by
 rw [At] at h
 cases hb:st[k]? with
 | none=>rw [hb] at h; cases h
 | some b =>
  rw [hb] at h
  cases b with
  | var cs0 =>
   cases h
   rw [At] at ho
   cases hc:cs0[o]? with
   | none=>rw [hc] at ho; cases ho
   | some c =>
    rw [hc] at ho
    simp only [Option.map_some,AK] at ho
    cases c<;>simp only [AV.olderC] at ho<;>try cases ho
    split at ho
    ·rename_i hn
     cases ho
     exact hn
    ·cases ho
  | _=>cases h
theorem SR.cut {H:HP} {φ:Ai} {st:List V} {w:World} (h:SR H φ st w) (N:Nat):SR H φ ((st.take N).map (V.older N)) w:=by
 have h2:=h.older N
 rw [List.map_take]
 have get:∀ (i:Nat) (b:V),((st.map (V.older N)).take N)[i]? = some b->(st.map (V.older N))[i]? = some b:=by
  intro i b hi
  rw [Ay] at hi
  split at hi
  ·exact hi
  ·cases hi
 refine ⟨h2.hp,fun i b hi=>h2.box i b (get i b hi),fun i j bi bj hi hj=>h2.sep i j bi bj (get i bi hi) (get j bj hj),fun i bi hi=>h2.out i bi (get i bi hi),fun id cs hid o i ho=>?_⟩
 obtain ⟨h3,h4⟩:=h2.cell id cs (get id _ hid) o i ho
 have hi:=OA (get id _ hid) ho
 refine ⟨?_,h4⟩
 unfold U at h3 ⊢
 rw [Ay,if_pos hi]
 exact h3
theorem AB.cut {H H':HP} {φ φ':Ai} {st st':List V} {w w':World} (h:AB H φ st w H' φ' st' w') {N:Nat} (hN:st.length<=N):AB H φ st w H' φ' ((st'.take N).map (V.older N)) w':=by
 refine ⟨h.le,h.sr.cut N,fun mv m0 H0 φ0 w0 f=>?_⟩
 have f2:=h.fr mv m0 H0 φ0 w0 f
 refine { f2 with new:=fun i bi hbi hl b hb=>?_,vars:=fun j hj=>?_ }
 ·rw [At,Ay] at hbi
  split at hbi
  ·cases hb0:st'[i]? with
   | none=>rw [hb0] at hbi; cases hbi
   | some b0 =>
    rw [hb0] at hbi
    cases hbi
    exact f2.new i b0 hb0 (by cases b0<;>exact hl) b hb
  ·cases hbi
 ·have h1:=Ew (f.vars j hj)
  have h2:=f2.vars j hj
  rw [Bg (EN N)]
  unfold Y at h2 ⊢
  rw [Ay,if_pos (by omega)]
  exact h2
theorem B5.cut {H:HP} {φ:Ai} {st:List V} {fr:List (Nat×AV)} {tmps:Array Value} (h:B5 H φ st fr tmps) (live:List Nat) (N:Nat) :
  B5 H φ ((st.take N).map (V.older N)) (live.map fun t=>(t,(Bl fr t).older N)) tmps:=by
 intro t
 rcases Lu fr (fun a=>a.older N) live t with e | e
 ·rw [e]; trivial
 ·rw [e]; exact (h t).older N
theorem Mx {s s':St} {i:Nat} {v a:AV} {ids:List Nat} (h:s.intoRow i v=some (a,s',ids)):s'.st.length=s.st.length:=by
 unfold St.intoRow at h
 split at h
 ·split at h
  ·cases h; rfl
  ·split at h
   ·split at h
    ·cases h; simp
    ·cases h
   ·cases h
 ·split at h
  ·cases h; simp
  ·cases h
 ·cases h
theorem Ph {H:HP} {φ:Ai} {s:St} {w:World} {tmps:Array Value} (hs:SR H φ s.st w) (hf:B5 H φ s.st s.fr tmps) (n t i:Nat) :
  ∃ φ',AB H φ s.st w H φ' (s.home n t i).st w/\B5 H φ' (s.home n t i).st (s.home n t i).fr tmps/\(s.home n t i).st.length=s.st.length:=by
 have same:∃ φ',AB H φ s.st w H φ' s.st w/\B5 H φ' s.st s.fr tmps/\s.st.length=s.st.length:=⟨φ,AB.refl hs,hf,rfl⟩
 unfold St.home
 split
 ·rename_i k hk
  split
  ·split
   ·rename_i x hx
    have hv:=hf t
    rw [hk] at hv
    obtain ⟨a,s1,ids⟩:=x
    obtain ⟨φ',h1,_,_,h4,h5,h6⟩:=Ig hs (v:=.row k) (u:=tmps.getD t undef) hv hx
    exact ⟨φ',h1,B5.cons (h6 tmps hf) ⟨h5,h4⟩,(Mx hx:s1.st.length=s.st.length)⟩
   ·exact same
  ·exact same
 ·exact same
theorem My {w:World} {tmps:Array Value} {n:Nat}:∀ (hs:List (Nat×Nat)) {H:HP} {φ:Ai} {s:St},SR H φ s.st w->B5 H φ s.st s.fr tmps ->
  ∃ φ',AB H φ s.st w H φ' (St.homes n hs s).st w/\B5 H φ' (St.homes n hs s).st (St.homes n hs s).fr tmps/\(St.homes n hs s).st.length=s.st.length
 | [],H,φ,s,h,hf=>⟨φ,AB.refl h,hf,rfl⟩
 | p::r,H,φ,s,h,hf=>by
  obtain ⟨φ1,a1,a2,a3⟩:=Ph h hf n p.1 p.2
  obtain ⟨φ2,b1,b2,b3⟩:=My r a1.sr a2
  exact ⟨φ2,a1.trans b1,b2,b3.trans a3⟩
theorem MV {H H':HP} {φ φ':Ai} {st:List V} {s':St} {w w':World} {tmps:Array Value} (h:AB H φ st w H' φ' s'.st w') (hf:B5 H' φ' s'.st s'.fr tmps) (hs:List (Nat×Nat)) (live:List Nat) {N:Nat} (hN:st.length<=N) :
  ∃ φ2,AB H φ st w H' φ2 (s'.cutH hs live N).st w'/\B5 H' φ2 (s'.cutH hs live N).st (s'.cutH hs live N).fr tmps:=by
 obtain ⟨φ2,a1,a2,_⟩:=My (n:=N) hs h.sr hf
 exact ⟨φ2,(h.trans a1).cut hN,a2.cut live N⟩
def Hx (P:Program) (c:Code) (Q:Exit->Act->World->Prop) (a:Act) (w:World):Prop :=
 ∀ (b:Frame) (k:List Item) (cs:List Frame),∃ e a' w',Q e a' w'/\Arrives P (lone (b.at a (.code c::.inLoop c::k)) cs w) b k cs e a' w'
theorem Hx.wp {c:Code} {Q:Exit->Act->World->Prop} {a:Act} {w:World} (h:Hx P c Q a w):(Code.loop c).wp P Q a w:=by
 intro b k cs
 obtain ⟨e,a',w',hq,harr⟩:=h b k cs
 exact ⟨e,a',w',hq,.of_steps (.one step_loop) harr⟩
theorem Hx.round {c:Code} {Q:Exit->Act->World->Prop} {a:Act} {w:World} (h:c.wp P (Exit.then (Hx P c Q) Q) a w):Hx P c Q a w:=by
 intro b k cs
 obtain ⟨e,a₁,w₁,hq,harr⟩:=h b (.inLoop c::k) cs
 cases e with
 | normal =>
  obtain ⟨e₂,a₂,w₂,hq₂,harr₂⟩:=hq b k cs
  exact ⟨e₂,a₂,w₂,hq₂,.of_steps (Steps.trans harr (.one step_inLoop)) harr₂⟩
 | exit id=>exact ⟨_,a₁,w₁,hq,.pass (x:=.inLoop c) rfl (fun _ _=>.inl (by simp)) harr⟩
 | goto l=>exact ⟨_,a₁,w₁,hq,.pass (x:=.inLoop c) rfl (fun _ _=>.inl (by simp)) harr⟩
 | ret=>exact ⟨_,a₁,w₁,hq,.pass (x:=.inLoop c) rfl (fun _ _=>.inl (by simp)) harr⟩
 | panic ch=>exact ⟨_,a₁,w₁,hq,.pass (x:=.inLoop c) rfl (fun _ _=>.inl (by simp)) harr⟩
 | outgrown=>exact ⟨_,a₁,w₁,hq,.pass (x:=.inLoop c) rfl (fun _ _=>.inl (by simp)) harr⟩
def Bn (P:Program) (n:Nat):Code->AU->Bool
 | .skip,.skip=>true
 | .region _ ops false,.region aos _=>decide (HM P n ops none [] 0 aos=some ops.size)
 | .region _ ops true,.draw anc t _=>Oj P n ops anc t
 | .seq x y,.seq a b=>Bn P n x a&&Bn P n y b
 | .seq x y,.seqc _ a b=>Bn P n x a&&Bn P n y b
 | .cond c x y,.cond c' a b=>BF c c'&&Bn P n x a&&Bn P n y b
 | .block id x,.block id' _ a=>id==id'&&Bn P n x a
 | .loop x,.loop _ a=>Bn P n x a
 | .exit id,.exit id'=>id==id'
 | .ret,.ret=>true
 | _,_=>false
def KD {ρ:Type} (n:Nat) (q:St->Option ρ) (r:ρ) (s:St) (act:Act) (w:World) (H:HP) (φ:Ai) (N:Act->World->Prop):Prop :=
 ∀ s' act' w' H' φ',q s'=some r->AB H φ s.st w H' φ' s'.st w'->B5 H' φ' s'.st s'.fr act'.tmps->act'.tmps.size=n->act'.defers=act.defers->N act' w'
def Om (P:Program) (n:Nat) (cal:Bv) (k:Nat) (c:Code) (ac:AU):Prop :=
 ∀ (ρ:Type) (kn kr:St->Option ρ) (ke:Nat->St->Option ρ) (r:ρ) (s:St) (act:Act) (w:World) (H:HP) (φ:Ai) (Q:Exit->Act->World->Prop),
  SR H φ s.st w->B5 H φ s.st s.fr act.tmps->act.tmps.size=n->CA cal k ac kn kr ke s=some r ->
  KD n kn r s act w H φ (Q .normal)->KD n kr r s act w H φ (Q .ret)->(∀ i,KD n (ke i) r s act w H φ (Q (.exit i)))->c.wp P Q act w
theorem KD.step {ρ:Type} {n:Nat} {q:St->Option ρ} {r:ρ} {s s1:St} {act act1:Act} {w w1:World} {H H1:HP} {φ φ1:Ai} {N:Act->World->Prop}
  (h:KD n q r s act w H φ N) (hst:AB H φ s.st w H1 φ1 s1.st w1) (hd:act1.defers=act.defers):KD n q r s1 act1 w1 H1 φ1 N :=
 fun s' act' w' H' φ' hq hs hf hn hd'=>h s' act' w' H' φ' hq (hst.trans hs) hf hn (hd'.trans hd)
theorem Mz {n:Nat} {cal:Bv} {k:Nat} (hcal:Ch P cal) {id:Nat} {ops:Array Oper} {aos:List Bp} {live:List Nat} (h:HM P n ops none [] 0 aos=some ops.size) :
  Om P n cal k (.region id ops false) (.region aos live):=by
 intro ρ kn kr ke r s act w H φ Q hs hf hn hk hnorm _ _
 simp only [CA] at hk
 refine N7 hcal h hs hf hn hk fun s' act' w' H' φ' hk' hst hf' hn' hd'=>?_
 exact hnorm _ act' w' H' φ' hk' hst (hf'.live live) hn' hd'
theorem Pi {n:Nat} {cal:Bv} {k:Nat} (hcal:Ch P cal):∀ (ac:AU) (c:Code),Bn P n c ac=true->Om P n cal k c ac:=by
 intro ac
 induction ac with
 | skip =>
  intro c h
  cases c<;>first | (simp [Bn] at h; done) | skip
  intro ρ kn kr ke r s act w H φ Q hs hf hn hk h1 _ _
  exact wp_skip (h1 s act w H φ hk (AB.refl hs) hf hn rfl)
 | ret =>
  intro c h
  cases c<;>first | (simp [Bn] at h; done) | skip
  intro ρ kn kr ke r s act w H φ Q hs hf hn hk _ h2 _
  exact wp_ret (h2 s act w H φ hk (AB.refl hs) hf hn rfl)
 | exit id =>
  intro c h
  cases c<;>first | (simp [Bn] at h; done) | skip
  rename_i id'
  simp only [Bn,beq_iff_eq] at h
  subst h
  intro ρ kn kr ke r s act w H φ Q hs hf hn hk _ _ h3
  exact wp_exit (h3 id' s act w H φ hk (AB.refl hs) hf hn rfl)
 | region aos live =>
  intro c h
  cases c<;>first | (simp [Bn] at h; done) | skip
  rename_i id ops draw
  cases draw
  ·simp only [Bn,decide_eq_true_eq] at h
   exact Mz hcal h
  ·simp [Bn] at h
 | draw anc t live =>
  intro c h
  cases c<;>first | (simp [Bn] at h; done) | skip
  rename_i id ops draw
  cases draw
  ·simp [Bn] at h
  ·simp only [Bn] at h
   intro ρ kn kr ke r s act w H φ Q hs hf hn hk hnorm _ _
   simp only [CA] at hk
   exact Pe hcal (Ol h) hs hf hn hk fun s' act' w' H' φ' hk' hst hf' hn' hd'=>hnorm _ act' w' H' φ' hk' hst (hf'.live live) hn' hd'
 | seq a b iha ihb =>
  intro c h
  cases c<;>first | (simp [Bn] at h; done) | skip
  rename_i x y
  simp only [Bn,E] at h
  intro ρ kn kr ke r s act w H φ Q hs hf hn hk h1 h2 h3
  simp only [CA] at hk
  refine wp_seq (iha x h.1 ρ (fun s'=>CA cal k b kn kr ke s') kr ke r s act w H φ _ hs hf hn hk (fun s' act' w' H' φ' hk' hst hf' hn' hd'=>?_) h2 h3)
  exact ihb y h.2 ρ kn kr ke r s' act' w' H' φ' Q hst.sr hf' hn' hk' (h1.step hst hd') (h2.step hst hd') fun i=>(h3 i).step hst hd'
 | seqc live a b iha ihb =>
  intro c h
  cases c<;>first | (simp [Bn] at h; done) | skip
  rename_i x y
  simp only [Bn,E] at h
  intro ρ kn kr ke r s act w H φ Q hs hf hn hk h1 h2 h3
  simp only [CA] at hk
  refine wp_seq (iha x h.1 ρ (fun s'=>CA cal k b kn kr ke (s'.cutH (BP s live) live s.st.length)) kr ke r s act w H φ _ hs hf hn hk (fun s' act' w' H' φ' hk' hst hf' hn' hd'=>?_) h2 h3)
  obtain ⟨φ2,hst',hf2⟩:=MV hst hf' (BP s live) live (Nat.le_refl _)
  exact ihb y h.2 ρ kn kr ke r (s'.cutH (BP s live) live s.st.length) act' w' H' φ2 Q hst'.sr hf2 hn' hk' (h1.step hst' hd') (h2.step hst' hd') fun i=>(h3 i).step hst' hd'
 | cond c' a b iha ihb =>
  intro c h
  cases c<;>first | (simp [Bn] at h; done) | skip
  rename_i co x y
  simp only [Bn,E] at h
  obtain ⟨⟨hc,ha⟩,hb⟩:=h
  intro ρ kn kr ke r s act w H φ Q hs hf hn hk h1 h2 h3
  simp only [CA] at hk
  cases ht:s.opd c' with
  | bool t =>
   rw [ht] at hk
   simp only at hk
   have hv:=(AL hf hc).bool ht
   cases t with
   | true=>exact wp_cond_true hv (iha x ha ρ kn kr ke r s act w H φ Q hs hf hn (by simpa using hk) h1 h2 h3)
   | false=>exact wp_cond_false hv (ihb y hb ρ kn kr ke r s act w H φ Q hs hf hn (by simpa using hk) h1 h2 h3)
  | _=>rw [ht] at hk; cases hk
 | block id live a iha =>
  intro c h
  cases c<;>first | (simp [Bn] at h; done) | skip
  rename_i id' x
  simp only [Bn,E,beq_iff_eq] at h
  obtain ⟨rfl,h⟩:=h
  intro ρ kn kr ke r s act w H φ Q hs hf hn hk h1 h2 h3
  simp only [CA] at hk
  have cutOk:KD n (fun s'=>kn (s'.cutH (BP s live) live s.st.length)) r s act w H φ (Q .normal):=fun s' act' w' H' φ' hk' hst hf' hn' hd'=>by
   obtain ⟨φ2,hst',hf2⟩:=MV hst hf' (BP s live) live (Nat.le_refl _)
   exact h1 _ act' w' H' φ2 hk' hst' hf2 hn' hd'
  refine wp_block (iha x h ρ (fun s'=>kn (s'.cutH (BP s live) live s.st.length)) kr (fun i s'=>if i=id' then kn (s'.cutH (BP s live) live s.st.length) else ke i s') r s act w H φ _ hs hf hn hk cutOk h2 fun i=>?_)
  intro s' act' w' H' φ' hk' hst hf' hn' hd'
  simp only at hk'
  simp only [Exit.inBlock]
  by_cases e:i=id'
  ·rw [if_pos e] at hk' ⊢
   exact cutOk s' act' w' H' φ' hk' hst hf' hn' hd'
  ·rw [if_neg e] at hk' ⊢
   exact h3 i s' act' w' H' φ' hk' hst hf' hn' hd'
 | loop live a iha =>
  intro c h
  cases c<;>first | (simp [Bn] at h; done) | skip
  rename_i x
  simp only [Bn] at h
  intro ρ kn kr ke r s act w H φ Q hs hf hn hk _ h2 h3
  simp only [CA] at hk
  have key:∀ (j:Nat) (s1:St) (act1:Act) (w1:World) (H1:HP) (φ1:Ai),s1.st.length<=s.st.length->AB H φ s.st w H1 φ1 s1.st w1->B5 H1 φ1 s1.st s1.fr act1.tmps->act1.tmps.size=n->act1.defers=act.defers ->
    D2 j (fun go s'=>CA cal k a (fun s''=>go (s''.cutH (BP s live) live s.st.length)) kr ke s') s1=some r->Hx P x Q act1 w1:=by
   intro j
   induction j with
   | zero=>intro s1 act1 w1 H1 φ1 _ _ _ _ _ hk; cases hk
   | succ j ihj =>
    intro s1 act1 w1 H1 φ1 hl hst hf1 hn1 hd1 hk
    simp only [D2] at hk
    refine Hx.round (iha x h ρ _ kr ke r s1 act1 w1 H1 φ1 _ hst.sr hf1 hn1 hk (fun s' act' w' H' φ' hk' hst' hf' hn' hd'=>?_) (h2.step hst hd1) fun i=>(h3 i).step hst hd1)
    obtain ⟨φ2,hst2,hf2⟩:=MV hst' hf' (BP s live) live hl
    exact ihj (s'.cutH (BP s live) live s.st.length) act' w' H' φ2 (by simp [St.cutH,St.cut]; omega) (hst.trans hst2) hf2 hn' (hd'.trans hd1) hk'
  refine (key k (s.cut live s.st.length) act w H φ (by simp [St.cut]) ((AB.refl hs).cut (Nat.le_refl _)) (hf.cut live _) hn rfl hk).wp
end Go.Proofs.Ytffahmnodgnohaa.Core

namespace Go.Proofs.Ytffahmnodgnohaa.Core
open Go
variable {H:HP} {φ:Ai} {st:List V} {w:World} {P:Program}
def L5 (st:List V) (i:Nat) (b:V):Prop :=
 (∃ (t:TypeId) (e:Kd),∃ xs:List (Kd.T e),st[i]? = some (V.rows t e xs)/\b=V.rows t e xs) \/
 (∃ cs ecs:List AV,st[i]? = some (V.var cs)/\b=V.var ecs/\ecs.length=cs.length/\∀ (o:Nat) (a:AV),ecs[o]? = some a->∃ c,cs[o]? = some c/\a.solid=true/\c.solid=true/\∀ (H:HP) (u:Value),VF H c u->VF H a u)
theorem LH:∀ {ks:List Kd} {cs cs':List AV},DO ks cs=some cs'->cs'.length=cs.length/\(cs'.all fun c=>c.solid&&(match c with | .nil=>false | _=>true))=true /\
  ∀ (o:Nat) (a:AV),cs'[o]? = some a->∃ c,cs[o]? = some c/\a.solid=true/\c.solid=true/\∀ (H:HP) (u:Value),VF H c u->VF H a u
 | [],[],cs',h=>by cases h; exact ⟨rfl,rfl,fun o a h=>by simp at h⟩
 | [],_::_,cs',h=>by simp [DO] at h
 | _::_,[],cs',h=>by simp [DO] at h
 | k::ks,v::vs,cs',h=>by
  simp only [DO] at h
  cases h1:v.norm k with
  | none=>rw [h1] at h; cases h
  | some a =>
   rw [h1] at h
   simp only [J] at h
   cases h2:DO ks vs with
   | none=>rw [h2] at h; cases h
   | some r =>
    rw [h2] at h
    cases h
    obtain ⟨n1,n2,n3,n4⟩:=Iq h1
    obtain ⟨l1,l2,l3⟩:=LH h2
    refine ⟨by simp [l1],?_,fun o b hb=>?_⟩
    ·simp only [List.all_cons,l2,n2,Bool.true_and,Bool.and_true]
     cases a<;>first | rfl | cases n1
    ·cases o with
     | zero=>simp at hb; subst hb; exact ⟨v,rfl,n2,n3,n4⟩
     | succ o=>simpa using l3 o b (by simpa using hb)
theorem NN {s s':St} {a a':AV} (h:s.keep a=some (a',s')) {i:Nat} (hi:a≠.row i):s'.st[i]? = s.st[i]? := by
 cases a with
 | row id =>
  simp only [St.keep] at h
  split at h
  ·cases h
   simp only [AI]
   rw [if_neg (fun e=>hi (by rw [e]))]
  ·cases h; rfl
  ·cases h
 | fn f caps=>cases caps<;>first | (cases h; rfl) | cases h
 | _=>first | (cases h; rfl) | cases h
theorem On {s s':St} {a a':AV} (h:s.keep a=some (a',s')) {i:Nat} (hi:Y s.st i=true):s'.st[i]? = s.st[i]? := by
 cases a with
 | row id =>
  simp only [St.keep] at h
  split at h
  ·rename_i t K xs hb
   cases h
   simp only [AI]
   rw [if_neg (fun e=>by subst e; simp only [Y,hb] at hi; cases hi)]
  ·cases h; rfl
  ·cases h
 | fn f caps=>cases caps<;>first | (cases h; rfl) | cases h
 | _=>first | (cases h; rfl) | cases h
theorem NO {s s':St} {i:Nat} {a':AV} (h:s.keep (.row i)=some (a',s')):a'.nilFree=true/\a'.solid=true:=by
 simp only [St.keep] at h
 split at h
 ·cases h; exact ⟨rfl,rfl⟩
 ·cases h; exact ⟨rfl,rfl⟩
 ·cases h
structure Be (H:HP) (φ:Ai) (w:World) (s s':St) (tk tk':List Nat) (us:List Value) (cl:List AV) (H':HP) (ids:List Nat):Prop where
 step:AB H φ s.st w H' φ s'.st w
 keeps:Aa φ s.st φ s'.st none
 fr:s'.fr=s.fr
 nf:cl.all AV.nilFree=true
 cnt:O cl=ids.length
 tks:tk'=ids.reverse++tk
 nd:tk.Nodup->tk'.Nodup
 held:∀ i∈tk,s'.st[i]? = s.st[i]?
 vars:∀ i,Y s.st i=true->s'.st[i]? = s.st[i]?
 boxes:∀ (m:Nat) (b:V),(AF cl)[m]? = some b->∃ i,ids[m]? = some i/\L5 s'.st i b
 vals:∀ (k:Nat) (f:Nat->Nat),(∀ m i,ids[m]? = some i->f (k+m)=i) ->
  AE (fun a u=>VC H' φ s'.st (a.ren f) u/\(a.solid=true\/∃ m,m<ids.length/\((∃ t e,∃ xs:List (Kd.T e),a=.row (k+m)/\(AF cl)[m]? = some (V.rows t e xs))\/(∃ ecs,a=.ptr (k+m) 0/\(AF cl)[m]? = some (V.var ecs))))) (AJ k cl) us
theorem Jg {a:AV} (h:a.solid=true) (f:Nat->Nat):a.ren f=a:=by cases a<;>first | rfl | cases h
theorem Be.plain {H:HP} {φ:Ai} {s s1 s':St} {tk tk':List Nat} {u:Value} {us:List Value} {cl:List AV} {H1 H':HP} {ids:List Nat} {a:AV} (F:Be H1 φ w s1 s' tk tk' us cl H' ids)
  (hst:AB H φ s.st w H1 φ s1.st w) (hk:Aa φ s.st φ s1.st none) (hfr:s1.fr=s.fr) (hheld:∀ i∈tk,s1.st[i]? = s.st[i]?) (hvars:∀ i,Y s.st i=true->s1.st[i]? = s.st[i]?)
  (hn:a.nilFree=true) (hs:a.solid=true) (hv:VF H1 a u):Be H φ w s s' tk tk' (u::us) (a::cl) H' ids:=by
 have o1:∀ k,AJ k (a::cl)=a::AJ k cl:=fun k=>by cases a<;>first | rfl | cases hs
 have o2:AF (a::cl)=AF cl:=by cases a<;>first | rfl | cases hs
 have o3:O (a::cl)=O cl:=by cases a<;>first | rfl | cases hs
 refine ⟨hst.trans F.step,hk.trans F.keeps,F.fr.trans hfr,by simp [hn,F.nf],by rw [o3]; exact F.cnt,F.tks,F.nd,fun i hi=>(F.held i hi).trans (hheld i hi),fun i hi=>?_,by rw [o2]; exact F.boxes,fun k f hf=>?_⟩
 ·have h1:=hvars i hi
  rw [F.vars i (by unfold Y at hi ⊢; rw [h1]; exact hi),h1]
 ·rw [o1,o2]
  exact ⟨u,us,rfl,⟨by rw [Jg hs]; exact VC.of_VF (hv.mono F.step.le),.inl hs⟩,F.vals k f hf⟩
theorem E3:∀ {ks:List Kd} {vs cl:List AV} {tk tk':List Nat} {s s':St} {H:HP} {us:List Value},SR H φ s.st w->AE (VC H φ s.st) vs us->s.shutAll tk ks vs=some (cl,tk',s') ->
  ∃ H' ids,Be H φ w s s' tk tk' us cl H' ids
 | [],[],cl,tk,tk',s,s',H,us,hs,hv,h=>by
  cases h
  cases hv
  exact ⟨H,[],AB.refl hs,Aa.refl _ _ _,rfl,rfl,rfl,rfl,fun h=>h,fun _ _=>rfl,fun _ _=>rfl,fun m b h=>by simp [AF] at h,fun k f _=>rfl⟩
 | [],_::_,cl,tk,tk',s,s',H,us,hs,hv,h=>by simp [St.shutAll] at h
 | _::_,[],cl,tk,tk',s,s',H,us,hs,hv,h=>by simp [St.shutAll] at h
 | k0::ks,v::vs,cl,tk,tk',s,s',H,us,hs,hv,h=>by
  obtain ⟨u,us,rfl,hu,hr⟩:=hv
  have norm:((v.norm k0).bind fun a=>(s.shutAll tk ks vs).bind fun y=>some (a::y.1,y.2))=some (cl,tk',s')->∃ H' ids,Be H φ w s s' tk tk' (u::us) cl H' ids:=by
   intro h
   cases hq:v.norm k0 with
   | none=>rw [hq] at h; cases h
   | some a =>
    rw [hq] at h
    simp only [J] at h
    cases hc:s.shutAll tk ks vs with
    | none=>rw [hc] at h; cases h
    | some y =>
     obtain ⟨y1,y2,y3⟩:=y
     rw [hc] at h
     cases h
     obtain ⟨n1,n2,n3,n4⟩:=Iq hq
     obtain ⟨H',ids,F⟩:=E3 hs hr hc
     exact ⟨H',ids,F.plain (AB.refl hs) (Aa.refl _ _ _) rfl (fun _ _=>rfl) (fun _ _=>rfl) n1 n2 (n4 H u (hu.solid n3))⟩
  have away:∀ (i:Nat) (a:AV) (b:V) (y:List AV×List Nat×St),AZ tk i=false->s.shutAll (i::tk) ks vs=some y->(cl,tk',s')=(a::y.1,y.2) ->
    L5 s.st i b->a.nilFree=true->(∀ k r,AJ k (a::r)=(match b with | .var _=>AV.ptr k 0 | _=>AV.row k)::AJ (k+1) r)->(∀ r,AF (a::r)=b::AF r)->(∀ r,O (a::r)=O r+1) ->
    (∀ cs,b=.var cs->v=.ptr i 0)->((∀ cs,b≠.var cs)->v=.row i)->((∀ cs,b≠.var cs)->∃ (t:TypeId) (e:Kd),∃ xs:List (Kd.T e),b=V.rows t e xs)->∃ H' ids,Be H φ w s s' tk tk' (u::us) cl H' ids:=by
   intro i a b y hn hy e hb hnf o1 o2 o3 e1 e2 e3
   obtain ⟨y1,y2,y3⟩:=y
   cases e
   obtain ⟨H',ids,F⟩:=E3 hs hr hy
   refine ⟨H',i::ids,F.step,F.keeps,F.fr,by simp [hnf,F.nf],by rw [o3,F.cnt]; rfl,by rw [F.tks]; simp,fun hnd=>F.nd (List.nodup_cons.2 ⟨Ad.1 hn,hnd⟩),fun j hj=>F.held j (by simp [hj]),F.vars,fun m b' hb'=>?_,fun k f hf=>?_⟩
   ·rw [o2] at hb'
    cases m with
    | zero =>
     simp at hb'
     subst hb'
     refine ⟨i,rfl,?_⟩
     have hh:=F.held i (by simp)
     unfold L5 at hb ⊢
     rw [hh]
     exact hb
    | succ m=>simpa using F.boxes m b' (by simpa using hb')
   ·rw [o1,o2]
    have f0:f k=i:=by simpa using hf 0 i rfl
    refine ⟨u,us,rfl,⟨?_,.inr ⟨0,by simp,?_⟩⟩,?_⟩
    ·have hu':=VC.mono F.step.le F.keeps hu
     cases b with
     | var cs =>
      simp only [AV.ren,f0]
      rw [e1 cs rfl] at hu'
      exact hu'
     | _ =>
      simp only [AV.ren,f0]
      rw [e2 (by simp)] at hu'
      exact hu'
    ·cases b with
     | var cs=>exact .inr ⟨cs,rfl,rfl⟩
     | rows t e xs=>exact .inl ⟨t,e,xs,rfl,rfl⟩
     | _=>obtain ⟨_,_,_,e⟩:=e3 (by simp); cases e
    ·have:=F.vals (k+1) f fun m j hj=>by rw [Nat.add_assoc,Nat.add_comm 1 m]; exact hf (m+1) j (by simpa using hj)
     refine this.imp fun a' u' ⟨g1,g2⟩=>⟨g1,?_⟩
     rcases g2 with g2 | ⟨m,hm,g2⟩
     ·exact .inl g2
     ·refine .inr ⟨m+1,by simp; omega,?_⟩
      rw [show k+(m+1)=k+1+m by omega]
      simpa using g2
  cases v with
  | row i =>
   simp only [St.shutAll] at h
   split at h
   ·cases h
   ·rename_i hn
    have hn:AZ tk i=false:=by simpa using hn
    have kept:((s.keep (.row i)).bind fun x=>(x.2.shutAll tk ks vs).bind fun y=>some (x.1::y.1,y.2))=some (cl,tk',s')->∃ H' ids,Be H φ w s s' tk tk' (u::us) cl H' ids:=by
     intro h
     cases hk:s.keep (.row i) with
     | none=>rw [hk] at h; cases h
     | some x =>
      obtain ⟨a1,s1⟩:=x
      rw [hk] at h
      simp only [J] at h
      cases hc:s1.shutAll tk ks vs with
      | none=>rw [hc] at h; cases h
      | some y =>
       obtain ⟨y1,y2,y3⟩:=y
       rw [hc] at h
       cases h
       obtain ⟨H1,g1,k1,f1,r1,_⟩:=Fo hs hu hk
       obtain ⟨H',ids,F⟩:=E3 g1.sr (hr.imp fun _ _ h=>h.mono g1.le k1) hc
       obtain ⟨n1,n2⟩:=NO hk
       refine ⟨H',ids,F.plain g1 k1 r1 (fun j hj=>NN hk fun e=>?_) (fun j hj=>On hk hj) n1 n2 f1⟩
       cases e
       exact Ad.1 hn hj
    split at h
    ·split at h
     ·rename_i t e xs hi
      cases hc:s.shutAll (i::tk) ks vs with
      | none=>rw [hc] at h; cases h
      | some y =>
       rw [hc] at h
       simp only [J,AK] at h
       exact away i (.new t e xs) (.rows t e xs) y hn hc h.symm (.inl ⟨t,e,xs,hi,rfl⟩) rfl (fun k r=>rfl) (fun r=>rfl) (fun r=>by simp [O,AV.isNew]) (fun cs e=>by cases e) (fun _=>rfl) (fun _=>⟨t,e,xs,rfl⟩)
     ·cases h
    ·exact kept h
  | ptr i o =>
   cases o with
   | zero =>
    simp only [St.shutAll] at h
    split at h
    ·cases h
    ·rename_i hn
     have hn:AZ tk i=false:=by simpa using hn
     split at h
     ·split at h
      ·rename_i K x0 cs hi
       cases hq:DO K.leaves cs with
       | none=>rw [hq] at h; cases h
       | some cs' =>
        rw [hq] at h
        simp only [J] at h
        cases hc:s.shutAll (i::tk) ks vs with
        | none=>rw [hc] at h; cases h
        | some y =>
         rw [hc] at h
         simp only [J,AK] at h
         obtain ⟨l1,l2,l3⟩:=LH hq
         exact away i (.ref cs') (.var cs') y hn hc h.symm (.inr ⟨cs,cs',hi,rfl,l1,l3⟩) l2 (fun k r=>rfl) (fun r=>rfl) (fun r=>by simp [O,AV.isNew]) (fun _ _=>rfl) (fun h=>absurd rfl (h cs')) (fun h=>absurd rfl (h cs'))
      ·cases h
     ·cases h
   | succ o=>exact norm h
  | _=>exact norm h
theorem DX:∀ {k1 k2:List Kd} {v1 v2 c1 c2:List AV} {tk t1 t2:List Nat} {s s1 s2:St},s.shutAll tk k1 v1=some (c1,t1,s1)->s1.shutAll t1 k2 v2=some (c2,t2,s2) ->
  s.shutAll tk (k1++k2) (v1++v2)=some (c1++c2,t2,s2)
 | [],k2,[],v2,c1,c2,tk,t1,t2,s,s1,s2,h,g=>by cases h; exact g
 | [],k2,_::_,v2,c1,c2,tk,t1,t2,s,s1,s2,h,g=>by simp [St.shutAll] at h
 | _::_,k2,[],v2,c1,c2,tk,t1,t2,s,s1,s2,h,g=>by simp [St.shutAll] at h
 | k::k1,k2,v::v1,v2,c1,c2,tk,t1,t2,s,s1,s2,h,g=>by
  have norm:((v.norm k).bind fun a=>(s.shutAll tk k1 v1).bind fun y=>some (a::y.1,y.2))=some (c1,t1,s1) ->
    ((v.norm k).bind fun a=>(s.shutAll tk (k1++k2) (v1++v2)).bind fun y=>some (a::y.1,y.2))=some (c1++c2,t2,s2):=by
   intro h
   cases hq:v.norm k with
   | none=>rw [hq] at h; cases h
   | some a =>
    rw [hq] at h
    simp only [J] at h ⊢
    cases hc:s.shutAll tk k1 v1 with
    | none=>rw [hc] at h; cases h
    | some y =>
     obtain ⟨y1,y2,y3⟩:=y
     rw [hc] at h
     cases h
     rw [DX hc g]
     rfl
  cases v with
  | row i =>
   simp only [List.cons_append,St.shutAll] at h ⊢
   split at h
   ·cases h
   ·rename_i hn
    rw [if_neg hn]
    split at h
    ·split at h
     ·rename_i t e xs hi
      cases hc:s.shutAll (i::tk) k1 v1 with
      | none=>rw [hc] at h; cases h
      | some y =>
       obtain ⟨y1,y2,y3⟩:=y
       rw [hc] at h
       cases h
       simp only [hi,DX hc g]
       rfl
     ·cases h
    ·rename_i hno
     cases hk:s.keep (.row i) with
     | none=>rw [hk] at h; cases h
     | some x =>
      rw [hk] at h
      simp only [J] at h
      cases hc:x.2.shutAll tk k1 v1 with
      | none=>rw [hc] at h; cases h
      | some y =>
       obtain ⟨y1,y2,y3⟩:=y
       rw [hc] at h
       cases h
       cases k<;>first | exact (hno _ _ rfl).elim | (simp only [hk,J,DX hc g]; rfl)
  | ptr i o =>
   cases o with
   | zero =>
    simp only [List.cons_append,St.shutAll] at h ⊢
    split at h
    ·cases h
    ·rename_i hn
     rw [if_neg hn]
     split at h
     ·split at h
      ·rename_i K x0 cs hi
       cases hq:DO K.leaves cs with
       | none=>rw [hq] at h; cases h
       | some cs' =>
        rw [hq] at h
        simp only [J] at h
        cases hc:s.shutAll (i::tk) k1 v1 with
        | none=>rw [hc] at h; cases h
        | some y =>
         obtain ⟨y1,y2,y3⟩:=y
         rw [hc] at h
         cases h
         simp only [hi,hq,J,DX hc g]
         rfl
      ·cases h
     ·cases h
   | succ o=>exact norm h
  | _=>exact norm h
end Go.Proofs.Ytffahmnodgnohaa.Core

namespace Go.Proofs.Ytffahmnodgnohaa.Core
open Go
variable {P:Program}
theorem Be.append {H H1 H2:HP} {φ:Ai} {w:World} {s s1 s2:St} {tk t1 t2:List Nat} {us1 us2:List Value} {c1 c2:List AV} {i1 i2:List Nat}
  (F1:Be H φ w s s1 tk t1 us1 c1 H1 i1) (F2:Be H1 φ w s1 s2 t1 t2 us2 c2 H2 i2):Be H φ w s s2 tk t2 (us1++us2) (c1++c2) H2 (i1++i2):=by
 have hl:(AF c1).length=i1.length:=by rw [BT,F1.cnt]
 refine ⟨F1.step.trans F2.step,F1.keeps.trans F2.keeps,F2.fr.trans F1.fr,by rw [List.all_append,F1.nf,F2.nf]; rfl,by rw [Ab,F1.cnt,F2.cnt,List.length_append],by rw [F2.tks,F1.tks]; simp,fun h=>F2.nd (F1.nd h),fun i hi=>?_,fun i hi=>?_,fun m b hb=>?_,fun k f hf=>?_⟩
 ·rw [F2.held i (by rw [F1.tks]; simp [hi]),F1.held i hi]
 ·have h1:=F1.vars i hi
  rw [F2.vars i (by unfold Y at hi ⊢; rw [h1]; exact hi),h1]
 ·rw [Aj] at hb
  rcases Af m (AF c1).length with h | h
  ·rw [AH h] at hb
   obtain ⟨i,g1,g2⟩:=F1.boxes m b hb
   refine ⟨i,by rw [AH (by omega)]; exact g1,?_⟩
   have hh:=F2.held i (by rw [F1.tks]; simp [List.mem_of_getElem? g1])
   unfold L5 at g2 ⊢
   rw [hh]
   exact g2
  ·rw [Ao h] at hb
   obtain ⟨i,g1,g2⟩:=F2.boxes _ b hb
   exact ⟨i,by rw [Ao (by omega)]; rw [hl] at g1; exact g1,g2⟩
 ·rw [GF,Aj]
  refine AE.append ((F1.vals k f fun m i hm=>hf m i (by rw [AH (AG.1 hm).1]; exact hm)).imp fun a u ⟨g1,g2⟩=>⟨g1.mono F2.step.le F2.keeps,?_⟩)
   ((F2.vals (k+O c1) f fun m i hm=>by
    rw [Nat.add_assoc]
    exact hf _ i (by rw [F1.cnt,Ao (by omega),Nat.add_sub_cancel_left]; exact hm)).imp fun a u ⟨g1,g2⟩=>⟨g1,?_⟩)
  ·rcases g2 with g2 | ⟨m,hm,g2⟩
   ·exact .inl g2
   ·refine .inr ⟨m,by simp; omega,?_⟩
    rw [AH (by omega)]
    exact g2
  ·rcases g2 with g2 | ⟨m,hm,g2⟩
   ·exact .inl g2
   ·refine .inr ⟨i1.length+m,by simp; omega,?_⟩
    rw [Ao (by omega),hl,Nat.add_sub_cancel_left,<- Nat.add_assoc]
    rw [F1.cnt] at g2
    exact g2
theorem OB {H:HP} {φ:Ai} {st:List V} {w:World} (hs:SR H φ st w) {id:Nat} {cs:List AV} (hb:st[id]? = some (.var cs)) :
  ∃ b c el,φ id=.pointer (some ⟨b,0,none⟩)/\w.heap[b]? = some (.cells c el (0,0))/\AE (VC H φ st) cs c.toList:=by
 obtain ⟨b,c,el,e3,hh,hc⟩:=hs.box id _ hb
 refine ⟨b,c,el,e3,hh,FK hc.length fun j a u ha hu=>?_⟩
 have hw:=hc.at ha hu
 cases a with
 | row i =>
  obtain ⟨g1,b2,g2,g3⟩:=hs.cell id _ hb j i ha
  rw [e3] at g2
  cases g2
  simp only [World.cell?,hh] at g3
  rw [Array.getElem?_toList] at hu
  simp only [Option.isSome_none,Bool.false_eq_true,if_false] at g3
  rw [hu] at g3
  cases g3
  exact ⟨rfl,g1⟩
 | was i=>trivial
 | self T=>trivial
 | undef=>trivial
 | _=>exact VC.of_VF hw
def Pj (P:Program):ResultVar->O_->Bool
 | .tmp t,r=>!r.cell&&r.t==t
 | .cell a t,r=>r.cell&&r.t==a&&Im P t (Gm r.K)
def LI (P:Program):List ResultVar->List O_->Bool
 | [],[]=>true
 | v::vs,r::rs=>Pj P v r&&LI P vs rs
 | _,_=>false
def GJ (tmps:Array Value):ResultVar->Sem Value
 | .tmp t=>pure (tmps.getD t undef)
 | .cell a t=>do loadVar t (<- asAddr (tmps.getD a undef))
def Pk (K:Kd) (v:Value):Prop:=match K with
 | .pair _ _=>∃ arr,v=.agg arr
 | _=>v.cells=#[v]
theorem Oo {H:HP} {φ:Ai} {w:World} {s:St} {K:Kd} {a:AV} {v:Value} {ds:List AV} {off:Nat} {t:TypeId} (hs:SR H φ s.st w) (hv:VC H φ s.st a v) (hbh:s.behind a=some (ds,off)) (hl2:off+K.sz<=ds.length) (hp:Im P t (Gm K)=true) :
  ∃ u,(Instr.loadAt t v).run P w=.ok u w/\VA H φ s.st (part ds off (Gm K)) u:=by
 cases K with
 | pair a b=>exact J2 hs hv hbh (n:=some _) hl2 hp
 | _=>exact J2 hs hv hbh (n:=none) hl2 hp
theorem M0 {H:HP} {φ:Ai} {w:World} {s:St} {r:O_} {rv:ResultVar} {cs:List AV} {tmps:Array Value} (hs:SR H φ s.st w) (hf:B5 H φ s.st s.fr tmps) (h:s.resCells r=some cs) (hb:Pj P rv r=true)
  (hne:∀ c∈cs,c.full=true) (hlen:cs.length=r.K.sz) :
  ∃ v,(GJ tmps rv).run P w=.ok v w/\AE (VC H φ s.st) cs v.cells.toList/\Pk r.K v:=by
 unfold St.resCells at h
 cases rv with
 | tmp t =>
  simp only [Pj,E,B7,beq_iff_eq] at hb
  obtain ⟨hc,rfl⟩:=hb
  rw [if_neg (by rw [hc]; simp)] at h
  split at h
  ·rename_i hfit
   cases h
   simp only [E] at hfit
   have hv:=hf r.t
   refine ⟨tmps.getD r.t undef,by simp [GJ],K5 hs hv hfit.2,?_⟩
   rcases hv.cases with ⟨ds,arr,ea,ev,_⟩ | ⟨vs,arr,ea,_,_⟩ | hvc
   ·rw [ea] at hfit
    unfold Pk
    cases hK:r.K with
    | pair a b=>exact ⟨arr,ev⟩
    | _=>rw [hK] at hfit; cases hfit.1
   ·rw [ea] at hfit; cases hfit.2
   ·have h1:=K4 hs hvc hfit.2
    unfold Pk
    cases hK:r.K with
    | pair a b =>
     rw [hK,Fs hvc] at hlen
     have p1:=Kd.sz_pos a
     have p2:=Kd.sz_pos b
     simp [Kd.sz] at hlen
     omega
    | _=>exact h1
  ·cases h
 | cell a t =>
  simp only [Pj,E,beq_iff_eq] at hb
  obtain ⟨⟨hc,rfl⟩,hp⟩:=hb
  rw [if_pos hc] at h
  cases hbh:s.behind (Bl s.fr r.t) with
  | none=>rw [hbh] at h; cases h
  | some y =>
   obtain ⟨ds,off⟩:=y
   rw [hbh] at h
   simp only [J,AK] at h
   subst h
   have hv:=(hf r.t).behind hbh
   have hl2:off+r.K.sz<=ds.length:=by
    have:=Kd.sz_pos r.K
    simp only [List.length_take,List.length_drop] at hlen
    omega
   obtain ⟨b,o,vs,ev,_,_⟩:=HC hs hv hbh
   obtain ⟨u,hrun,hu⟩:=Oo (P:=P) (t:=t) hs hv hbh hl2 hp
   have hrun2:(GJ tmps (.cell r.t t)).run P w=.ok u w:=by
    rw [ev] at hrun
    simp only [Instr.loadAt,Instr.sureAddr,Sem.run_bind,Sem.run_pure,Result.andThen_ok] at hrun
    simp only [GJ,Sem.run_bind]
    rw [ev]
    simp only [asAddr,Sem.run_pure,Result.andThen_ok]
    exact hrun
   refine ⟨u,hrun2,?_⟩
   have single:r.K.sz=1->Gm r.K=none->AE (VC H φ s.st) ((ds.drop off).take r.K.sz) u.cells.toList/\u.cells=#[u]:=by
    intro h1 h2
    rw [h1] at hl2 hne ⊢
    rw [h2] at hu
    have hlt:off<ds.length:=by omega
    have hc1:(ds.drop off).take 1=[ds[off]]:=by rw [List.drop_eq_getElem_cons hlt]; rfl
    have hpart:part ds off none=ds[off]:=by simp only [part,List.headD_eq_head?_getD]; rw [List.drop_eq_getElem_cons hlt]; rfl
    rw [hpart] at hu
    have hfc:ds[off].full=true:=hne _ (by rw [hc1]; simp)
    have hvc:VC H φ s.st ds[off] u:=by
     rcases hu.cases with ⟨e1,arr,ea,_,_⟩ | ⟨e1,arr,ea,_,_⟩ | hvc
     ·obtain ⟨b',o',vs',_,hall,_⟩:=HC hs hv hbh
      obtain ⟨u2,_,hu2⟩:=hall.get off ds[off] (by simp)
      rw [ea] at hu2
      exact hu2.elim
     ·rw [ea] at hfc; cases hfc
     ·exact hvc
    have hone:=K4 hs hvc hfc
    rw [hc1,hone]
    exact ⟨⟨u,[],rfl,hvc,rfl⟩,rfl⟩
   cases hK:r.K with
   | pair a b =>
    rw [hK] at hu
    obtain ⟨arr,e,hc⟩:=hu
    subst e
    exact ⟨hc,arr,rfl⟩
   | _=>rw [hK] at single; exact single rfl rfl
theorem DY:∀ {ks:List Kd} {vs cl:List AV} {tk tk':List Nat} {s s':St},s.shutAll tk ks vs=some (cl,tk',s')->∀ v∈vs,v.full=true
 | [],[],cl,tk,tk',s,s',h,v,hv=>by cases hv
 | [],_::_,cl,tk,tk',s,s',h,v,hv=>by simp [St.shutAll] at h
 | _::_,[],cl,tk,tk',s,s',h,v,hv=>by cases hv
 | k::ks,a::vs,cl,tk,tk',s,s',h,v,hv=>by
  have norm:((a.norm k).bind fun x=>(s.shutAll tk ks vs).bind fun y=>some (x::y.1,y.2))=some (cl,tk',s')->v.full=true:=by
   intro h
   cases hq:a.norm k with
   | none=>rw [hq] at h; cases h
   | some x =>
    rw [hq] at h
    simp only [J] at h
    cases hc:s.shutAll tk ks vs with
    | none=>rw [hc] at h; cases h
    | some y =>
     obtain ⟨y1,y2,y3⟩:=y
     rcases AW.1 hv with rfl | hv
     ·have:=(Iq hq).2.2.1
      cases v<;>first | rfl | cases this
     ·exact DY hc v hv
  cases a with
  | row i =>
   rcases AW.1 hv with rfl | hv
   ·rfl
   ·simp only [St.shutAll] at h
    split at h
    ·cases h
    ·split at h
     ·split at h
      ·cases hc:s.shutAll (i::tk) ks vs with
       | none=>rw [hc] at h; cases h
       | some y=>obtain ⟨y1,y2,y3⟩:=y; exact DY hc v hv
      ·cases h
     ·cases hk:s.keep (.row i) with
      | none=>rw [hk] at h; cases h
      | some x =>
       rw [hk] at h
       simp only [J] at h
       cases hc:x.2.shutAll tk ks vs with
       | none=>rw [hc] at h; cases h
       | some y=>obtain ⟨y1,y2,y3⟩:=y; exact DY hc v hv
  | ptr i o =>
   rcases AW.1 hv with rfl | hv'
   ·rfl
   ·cases o with
    | zero =>
     simp only [St.shutAll] at h
     split at h
     ·cases h
     ·split at h
      ·split at h
       ·rename_i K x0 cs hi
        cases hq:DO K.leaves cs with
        | none=>rw [hq] at h; cases h
        | some cs' =>
         rw [hq] at h
         simp only [J] at h
         cases hc:s.shutAll (i::tk) ks vs with
         | none=>rw [hc] at h; cases h
         | some y=>obtain ⟨y1,y2,y3⟩:=y; exact DY hc v hv'
       ·cases h
      ·cases h
    | succ o=>exact norm h
  | _=>exact norm h
theorem D6:∀ {ks:List Kd} {vs cl:List AV} {tk tk':List Nat} {s s':St},s.shutAll tk ks vs=some (cl,tk',s')->vs.length=ks.length
 | [],[],cl,tk,tk',s,s',h=>rfl
 | [],_::_,cl,tk,tk',s,s',h=>by simp [St.shutAll] at h
 | _::_,[],cl,tk,tk',s,s',h=>by simp [St.shutAll] at h
 | k::ks,a::vs,cl,tk,tk',s,s',h=>by
  have norm:((a.norm k).bind fun x=>(s.shutAll tk ks vs).bind fun y=>some (x::y.1,y.2))=some (cl,tk',s')->(a::vs).length=(k::ks).length:=by
   intro h
   cases hq:a.norm k with
   | none=>rw [hq] at h; cases h
   | some x =>
    rw [hq] at h
    simp only [J] at h
    cases hc:s.shutAll tk ks vs with
    | none=>rw [hc] at h; cases h
    | some y=>obtain ⟨y1,y2,y3⟩:=y; simp [D6 hc]
  cases a with
  | row i =>
   simp only [St.shutAll] at h
   split at h
   ·cases h
   ·split at h
    ·split at h
     ·cases hc:s.shutAll (i::tk) ks vs with
      | none=>rw [hc] at h; cases h
      | some y=>obtain ⟨y1,y2,y3⟩:=y; simp [D6 hc]
     ·cases h
    ·cases hk:s.keep (.row i) with
     | none=>rw [hk] at h; cases h
     | some x =>
      rw [hk] at h
      simp only [J] at h
      cases hc:x.2.shutAll tk ks vs with
      | none=>rw [hc] at h; cases h
      | some y=>obtain ⟨y1,y2,y3⟩:=y; simp [D6 hc]
  | ptr i o =>
   cases o with
   | zero =>
    simp only [St.shutAll] at h
    split at h
    ·cases h
    ·split at h
     ·split at h
      ·rename_i K x0 cs hi
       cases hq:DO K.leaves cs with
       | none=>rw [hq] at h; cases h
       | some cs' =>
        rw [hq] at h
        simp only [J] at h
        cases hc:s.shutAll (i::tk) ks vs with
        | none=>rw [hc] at h; cases h
        | some y=>obtain ⟨y1,y2,y3⟩:=y; simp [D6 hc]
      ·cases h
     ·cases h
   | succ o=>exact norm h
  | _=>exact norm h
theorem Hy:∀ K:Kd,K.leaves.length=K.sz
 | .int _=>rfl
 | .bool=>rfl
 | .str=>rfl
 | .slice _=>rfl
 | .pair a b=>by simp [Kd.leaves,Kd.sz,Hy a,Hy b]
 | .own _ _=>rfl
 | .ref _=>rfl
 | .fun _=>rfl
 | .clo _ _=>rfl
theorem L6 {w:World} {φ:Ai} {tmps:Array Value}:∀ {rs:List O_} {rvs:List ResultVar} {aw:List AV} {tk tk':List Nat} {s s':St} {H:HP},SR H φ s.st w->B5 H φ s.st s.fr tmps->s.result tk rs=some (aw,tk',s')->LI P rvs rs=true ->
  ∃ H' ids vs,Be H φ w s s' tk tk' (vs.flatMap fun v=>v.cells.toList) (cellsOf aw) H' ids/\(rvs.mapM (GJ tmps)).run P w=.ok vs w/\AE (fun a v=>∃ K,∃ x:Kd.T K,a=Kd.av K x/\Pk K v/\a.cells.length=v.cells.toList.length) aw vs
 | [],[],aw,tk,tk',s,s',H,hs,hf,h,hb=>by
  cases h
  exact ⟨H,[],[],⟨AB.refl hs,Aa.refl _ _ _,rfl,rfl,rfl,rfl,fun h=>h,fun _ _=>rfl,fun _ _=>rfl,fun m b h=>by simp [cellsOf,AF] at h,fun k f _=>rfl⟩,by simp,rfl⟩
 | [],_::_,aw,tk,tk',s,s',H,hs,hf,h,hb=>by simp [LI] at hb
 | _::_,[],aw,tk,tk',s,s',H,hs,hf,h,hb=>by simp [LI] at hb
 | r::rs,rv::rvs,aw,tk,tk',s,s',H,hs,hf,h,hb=>by
  simp only [LI,E] at hb
  simp only [St.result] at h
  cases h1:s.resCells r with
  | none=>rw [h1] at h; cases h
  | some cs =>
   rw [h1] at h
   simp only [J] at h
   cases h2:s.shutAll tk r.K.leaves cs with
   | none=>rw [h2] at h; cases h
   | some y =>
    obtain ⟨cl,t1,s1⟩:=y
    rw [h2] at h
    simp only [J] at h
    cases h3:r.K.ofCells cl with
    | none=>rw [h3] at h; cases h
    | some x =>
     rw [h3] at h
     simp only [J] at h
     cases h4:s1.result t1 rs with
     | none=>rw [h4] at h; cases h
     | some z =>
      obtain ⟨aw',t2,s2⟩:=z
      rw [h4] at h
      cases h
      obtain ⟨v,hrun,hv,hfit⟩:=M0 hs hf h1 hb.1 (DY h2) ((D6 h2).trans (Hy _))
      obtain ⟨H1,i1,F1⟩:=E3 hs hv h2
      have ecl:cl=r.K.enc x:=by
       have:=Ip r.K cl [] x F1.nf (Br h3)
       simpa using this
      have hf1:B5 H1 φ s1.st s1.fr tmps:=by rw [F1.fr]; exact hf.mono F1.step.le F1.keeps
      obtain ⟨H2,i2,vs,F2,hrun2,hall⟩:=L6 F1.step.sr hf1 h4 hb.2
      have hcells:(r.K.av x).cells=cl:=by rw [Gq,ecl]
      refine ⟨H2,i1++i2,v::vs,?_,?_,⟨v,vs,rfl,⟨r.K,x,rfl,hfit,?_⟩,hall⟩⟩
      ·have:=F1.append F2
       simp only [cellsOf,List.flatMap_cons,hcells] at this ⊢
       exact this
      ·rw [List.mapM_cons]
       simp [Sem.run_bind,hrun,hrun2]
      ·have:=(F1.vals 0 (fun m=>i1.getD m 0) fun m i hm=>by simp [List.getD,hm]).length
       rw [hcells]
       rw [Co] at this
       exact this.symm
theorem GK {w:World} {φ:Ai}:∀ {bs:List (Nat×Kd)} {aw:List AV} {tk tk':List Nat} {s s':St} {H:HP},SR H φ s.st w->s.shutBoxes tk bs=some (aw,tk',s') ->
  ∃ (H':HP) (ids:List Nat) (us:List (List Value)),Be H φ w s s' tk tk' us.flatten (AQ aw) H' ids/\AE (fun a u=>a.cellsO.length=u.length) aw us/\aw.length=bs.length/\(∀ (j:Nat) (v:AV),aw[j]? = some v->∃ p,bs[j]? = some p/\p.2.noRef=true/\∃ x:Kd.T p.2,v=Kd.av p.2 x) /\
   ∀ (j:Nat) (p:Nat×Kd),bs[j]? = some p->(p.2.isOwn=false/\AC s'.st p.1=true/\∃ (b:Nat) (c:Array Value) (el:TypeId),φ p.1=.pointer (some ⟨b,0,none⟩)/\w.heap[b]? = some (.cells c el (0,0))/\us[j]? = some c.toList) \/
    (∃ (t:TypeId) (e:Kd),∃ xs:List (Kd.T e),p.2=.own t e/\s'.st[p.1]? = some (V.mrow t e xs)/\aw[j]? = some (.new t e xs))
 | [],aw,tk,tk',s,s',H,hs,h=>by
  cases h
  exact ⟨H,[],[],⟨AB.refl hs,Aa.refl _ _ _,rfl,rfl,rfl,rfl,fun h=>h,fun _ _=>rfl,fun _ _=>rfl,fun m b h=>by simp [AQ,AF] at h,fun k f _=>rfl⟩,rfl,rfl,fun j v h=>by simp at h,fun j p h=>by simp at h⟩
 | (b,K)::bs,aw,tk,tk',s,s',H,hs,h=>by
  simp only [St.shutBoxes] at h
  split at h
  ·rename_i t e xs hm
   split at h
   ·rename_i hK
    subst hK
    cases h4:s.shutBoxes tk bs with
    | none=>rw [h4] at h; cases h
    | some z =>
     obtain ⟨aw',t2,s2⟩:=z
     rw [h4] at h
     cases h
     obtain ⟨H2,i2,us,F2,hl,hn,hk,hb⟩:=GK hs h4
     refine ⟨H2,i2,[]::us,F2,⟨[],us,rfl,rfl,hl⟩,by simp [hn],fun j v hj=>?_,fun j p hj=>?_⟩
     ·cases j with
      | zero=>simp at hj; subst hj; exact ⟨(b,.own t e),rfl,rfl,xs,rfl⟩
      | succ j=>simpa using hk j v (by simpa using hj)
     ·cases j with
      | zero =>
       simp at hj
       subst hj
       exact .inr ⟨t,e,xs,rfl,by rw [F2.vars b (by simp only [Y,hm]; rfl)]; exact hm,rfl⟩
      | succ j=>simpa using hb j p (by simpa using hj)
   ·cases h
  ·rename_i cs hcs
   split at h
   case isFalse=>cases h
   rename_i hnr2
   simp only [E,B7] at hnr2
   obtain ⟨hnr,hno⟩:=hnr2
   cases h2:s.shutAll tk K.leaves cs with
   | none=>rw [h2] at h; cases h
   | some y =>
    obtain ⟨cl,t1,s1⟩:=y
    rw [h2] at h
    simp only [J] at h
    cases h3:K.ofCells cl with
    | none=>rw [h3] at h; cases h
    | some x =>
     rw [h3] at h
     simp only [J] at h
     cases h4:s1.shutBoxes t1 bs with
     | none=>rw [h4] at h; cases h
     | some z =>
      obtain ⟨aw',t2,s2⟩:=z
      rw [h4] at h
      cases h
      obtain ⟨b0,c,el,e1,e2,e3⟩:=OB hs hcs
      obtain ⟨H1,i1,F1⟩:=E3 hs e3 h2
      have ecl:cl=K.enc x:=by
       have:=Ip K cl [] x F1.nf (Br h3)
       simpa using this
      obtain ⟨H2,i2,us,F2,hl,hn,hk,hb⟩:=GK F1.step.sr h4
      have hcells:(K.av x).cellsO=cl:=by rw [(Cq x hno).1,ecl]
      have hlen:cl.length=c.toList.length:=by
       have:=(F1.vals 0 (fun m=>i1.getD m 0) fun m i hm=>by simp [List.getD,hm]).length
       rw [Co] at this
       exact this.symm
      refine ⟨H2,i1++i2,c.toList::us,?_,⟨c.toList,us,rfl,by simp only [hcells]; exact hlen,hl⟩,by simp [hn],fun j v hj=>?_,fun j p hj=>?_⟩
      ·have:=F1.append F2
       simp only [AQ,List.flatMap_cons,hcells,List.flatten_cons] at this ⊢
       exact this
      ·cases j with
       | zero=>simp at hj; subst hj; exact ⟨(b,K),rfl,hnr,x,rfl⟩
       | succ j=>simpa using hk j v (by simpa using hj)
      ·cases j with
       | zero =>
        simp at hj
        subst hj
        refine .inl ⟨hno,?_,b0,c,el,e1,e2,rfl⟩
        have v0:AC s.st b=true:=by simp only [AC,hcs]
        have g1:=F1.vars b (F_ v0)
        have v1:AC s1.st b=true:=by unfold AC at v0 ⊢; rw [g1]; exact v0
        have g2:=F2.vars b (F_ v1)
        unfold AC at v1 ⊢; rw [g2]; exact v1
       | succ j=>simpa using hb j p (by simpa using hj)
  ·cases h
theorem Hz {R:AV->Value->Prop} (c:AV->List AV):∀ {aw:List AV} {us:List (List Value)} {k:Nat},AE (fun a u=>(c a).length=u.length) aw us->AE R (AJ k (aw.flatMap c)) us.flatten ->
  ∀ (j:Nat) (a:AV) (u:List Value),aw[j]? = some a->us[j]? = some u->AE R (AJ (k+O ((aw.take j).flatMap c)) (c a)) u
 | [],us,k,hl,h,j,a,u,ha,hu=>by simp at ha
 | a0::aw,us,k,⟨u0,us',e,l0,hl⟩,h,j,a,u,ha,hu=>by
  subst e
  simp only [List.flatMap_cons,List.flatten_cons] at h
  rw [GF] at h
  have hlen:(AJ k (c a0)).length=u0.length:=by rw [Co]; exact l0
  have h1:AE R (AJ k (c a0)) u0:=by
   have:=h.take (AJ k (c a0)).length
   rw [List.take_left,hlen,List.take_left] at this
   exact this
  have h2:AE R (AJ (k+O (c a0)) (aw.flatMap c)) us'.flatten:=by
   have:=h.drop (AJ k (c a0)).length
   rw [List.drop_left,hlen,List.drop_left] at this
   exact this
  cases j with
  | zero =>
   simp at ha hu
   subst ha hu
   simpa [O] using h1
  | succ j =>
   have:=Hz c hl h2 j a u (by simpa using ha) (by simpa using hu)
   simpa [Ab,Nat.add_assoc] using this
theorem Ps:∀ (K:Kd) (cs r:List AV) (x:K.T),K.dec cs=some (x,r)->cs.all AV.nilFree=true->(K.enc x).all AV.nilFree=true:=by
 intro K cs r x h hn
 have:=Ip K cs r x hn h
 rw [this,List.all_append,E] at hn
 exact hn.1
def AV.isPtr:AV->Bool
 | .ptr _ _=>true
 | .ref _=>true
 | _=>false
theorem Jh:∀ (K:Kd) (x:K.T),K.noRef=true->∀ c∈K.enc x,c.isPtr=false
 | .int _,_,_,c,h=>by simp [Kd.enc] at h; subst h; rfl
 | .bool,_,_,c,h=>by simp [Kd.enc] at h; subst h; rfl
 | .str,_,_,c,h=>by simp [Kd.enc] at h; subst h; rfl
 | .slice _,_,_,c,h=>by simp [Kd.enc] at h; subst h; rfl
 | .pair a b,x,hn,c,h=>by
  simp only [Kd.noRef,E] at hn
  simp only [Kd.enc,Bw] at h
  rcases h with h | h
  ·exact Jh a x.1 hn.1 c h
  ·exact Jh b x.2 hn.2 c h
 | .own _ _,_,_,c,h=>by simp [Kd.enc] at h; subst h; rfl
 | .ref _,_,hn,_,_=>by cases hn
 | .fun _,_,_,c,h=>by simp [Kd.enc] at h; subst h; rfl
 | .clo _ _,_,_,c,h=>by simp [Kd.enc] at h; subst h; rfl
theorem KE:∀ (cs:List AV) (k:Nat),(∀ c∈cs,c.isPtr=false)->∀ a∈AJ k cs,a.isPtr=false
 | [],k,_,a,h=>by simp [AJ] at h
 | c::cs,k,hn,a,h=>by
  have h1:=hn c (by simp)
  have ih:=fun k=>KE cs k fun c hc=>hn c (by simp [hc])
  have key:∀ (d:AV) (k':Nat),d.isPtr=false->(a=d\/a∈AJ k' cs)->a.isPtr=false:=fun d k' hd h=>by
   rcases h with rfl | h
   ·exact hd
   ·exact ih k' a h
  cases c<;>simp only [AJ,AW] at h<;>first | exact key _ _ rfl h | exact absurd h1 (by simp [AV.isPtr])
theorem Dy:∀ (vs:List AV) (k:Nat),(BM k vs).length=vs.length
 | [],_=>rfl
 | v::r,k=>by simp [BM,Dy r]
theorem LJ:∀ (vs:List AV) (k j:Nat) (v:AV),vs[j]? = some v->(BM k vs)[j]? = some (IX (k+O (cellsOf (vs.take j))) v)
 | [],k,j,v,h=>by simp at h
 | u::r,k,0,v,h=>by simp at h; subst h; simp [BM,cellsOf,O]
 | u::r,k,j+1,v,h=>by
  simp only [BM,List.getElem?_cons_succ]
  rw [LJ r _ j v (by simpa using h)]
  simp [cellsOf,Ab,Nat.add_assoc]
theorem QJ {H0 H:HP} {φ0 φ:Ai} {w0 w:World} {s s1 s2:St} {args bs:List AV} {ids:List (Nat×Kd)} {rsv outs:List AV} {t1 t2:List Nat} {fn:Func} {ress:List O_} {tmps:Array Value}
  (hs:SR H φ s.st w) (hf:B5 H φ s.st s.fr tmps) (hfr:Fr bs.length (Ap bs args).length H0 φ0 w0 H φ s.st w) (hle:H0.le H)
  (hids:∀ (j:Nat) (p:Nat×Kd),ids[j]? = some p->p.1=j) (hbl:bs.length=ids.length)
  (hres:s.result (List.range ids.length) ress=some (rsv,t1,s1)) (hbox:s1.shutBoxes t1 ids=some (outs,t2,s2)) (hrb:LI P fn.results.toList ress=true) :
  (∀ r∈rsv++outs,r.cells.all AV.nilFree=true)/\∃ v,(results fn tmps).run P w=.ok v w/\It H0 φ0 w0 args bs outs rsv v w:=by
 obtain ⟨H1,i1,vs,F1,hrun,hall⟩:=L6 (P:=P) hs hf hres hrb
 obtain ⟨H2,i2,us,F2,hul,hol,hok,hob⟩:=GK F1.step.sr hbox
 have hnv:outs.length=bs.length:=by rw [hol,hbl]
 let nv:=bs.length
 let μ:Nat->Nat:=fun k=>if k<nv then k else (i2++i1).getD (k-nv) 0
 have μv:∀ k,k<nv->μ k=k:=fun k h=>by simp only [μ,h,if_true]
 have μb:∀ m i,i2[m]? = some i->μ (nv+m)=i:=fun m i hm=>by
  have hl:=(AG.1 hm).1
  simp only [μ,show ¬ nv+m<nv by omega,if_false,Nat.add_sub_cancel_left]
  simp [List.getD,AH hl,hm]
 have μr:∀ m i,i1[m]? = some i->μ (nv+i2.length+m)=i:=fun m i hm=>by
  simp only [μ,show ¬ nv+i2.length+m<nv by omega,if_false]
  rw [show nv+i2.length+m-nv=i2.length+m by omega]
  simp [List.getD,Ao,hm]
 have hnd:(t2).Nodup:=F2.nd (F1.nd List.nodup_range)
 have ht2:t2=i2.reverse++(i1.reverse++List.range ids.length):=by rw [F2.tks,F1.tks]
 let est:=Ap outs rsv
 let φ2:Ai:=fun k=>φ (μ k)
 have hc2:O (AQ outs)=i2.length:=F2.cnt
 have hc1:O (cellsOf rsv)=i1.length:=F1.cnt
 have elen:est.length=nv+i2.length+i1.length:=by
  show (Ap outs rsv).length=_
  rw [Fe,hnv,hc2,hc1]
 have evar:∀ k,k<nv->(∃ (b:Nat) (c:Array Value) (el:TypeId) (a:AV),φ k=.pointer (some ⟨b,0,none⟩)/\w.heap[b]? = some (.cells c el (0,0))/\outs[k]? = some a/\AC s2.st k=true /\
   est[k]? = some (.var (AJ (nv+O (AQ (outs.take k))) a.cellsO)) /\
   AE (fun a u=>VC H2 φ s2.st (a.ren μ) u/\(a.solid=true\/∃ m,m<i2.length/\((∃ t e,∃ xs:List (Kd.T e),a=.row (nv+m)/\(AF (AQ outs))[m]? = some (V.rows t e xs))\/(∃ ecs,a=.ptr (nv+m) 0/\(AF (AQ outs))[m]? = some (V.var ecs)))))
    (AJ (nv+O (AQ (outs.take k))) a.cellsO) c.toList)\/(∃ (t:TypeId) (e:Kd),∃ xs:List (Kd.T e),s2.st[k]? = some (V.mrow t e xs)/\est[k]? = some (V.mrow t e xs)):=by
  intro k hk
  have hk2:k<ids.length:=by omega
  have hp:ids[k]? = some ids[k]:=by simp
  have hk3:k<outs.length:=by omega
  have ha:outs[k]? = some outs[k]:=by simp
  have hget:est[k]? = some (Mf (nv+O (AQ (outs.take k))) outs[k]):=by
   show (Ap outs rsv)[k]? = _
   rw [Cp,AH (by rw [AN]; exact hk3),DV outs _ k _ ha,hnv]
  rcases hob k _ hp with ⟨hno,g1,b,c,el,e1,e2,e3⟩ | ⟨t,e,xs,hK,g1,g2⟩
  ·rw [hids k _ hp] at g1 e1
   refine .inl ⟨b,c,el,outs[k],e1,e2,ha,g1,?_,Hz AV.cellsO hul (F2.vals nv μ μb) k _ _ ha e3⟩
   rw [hget]
   obtain ⟨p,hp2,_,x,hx⟩:=hok k _ ha
   rw [hp] at hp2
   cases hp2
   rw [hx,(Cq x hno).2,(Cq x hno).1]
  ·rw [hids k _ hp] at g1
   rw [ha] at g2
   refine .inr ⟨t,e,xs,g1,?_⟩
   rw [hget,Option.some.inj g2]
   rfl
 have erow:∀ k b,nv<=k->est[k]? = some b->L5 s2.st (μ k) b/\(i2++i1)[k-nv]? = some (μ k):=by
  intro k b hk hb
  have hb:(Ap outs rsv)[k]? = some b:=hb
  rw [Cp,Ao (by rw [AN,hnv]; exact hk),AN,hnv,Aj] at hb
  rcases Af (k-bs.length) (AF (AQ outs)).length with h | h
  ·rw [AH h] at hb
   obtain ⟨i,g1,g2⟩:=F2.boxes _ b hb
   have e:=μb _ i g1
   rw [show nv+(k-bs.length)=k by omega] at e
   rw [e]
   exact ⟨g2,by rw [AH (AG.1 g1).1]; exact g1⟩
  ·rw [Ao h] at hb
   obtain ⟨i,g1,g2⟩:=F1.boxes _ b hb
   rw [BT,hc2] at h g1
   have e:=μr _ i g1
   rw [show nv+i2.length+(k-bs.length-i2.length)=k by omega] at e
   rw [e]
   refine ⟨?_,by rw [Ao h]; exact g1⟩
   have hh:=F2.held i (by rw [F1.tks]; simp [List.mem_of_getElem? g1])
   unfold L5 at g2 ⊢
   rw [hh]
   exact g2
 have rowsE:∀ m t e (xs:List (Kd.T e)),(AF (AQ outs))[m]? = some (V.rows t e xs)->est[nv+m]? = some (V.rows t e xs):=by
  intro m t e xs h
  show (Ap outs rsv)[nv+m]? = _
  have hl:=(AG.1 h).1
  rw [Cp,Ao (by rw [AN,hnv]; exact Nat.le_add_right _ _),AN,hnv,Aj,show nv+m-bs.length=m by simp only [nv]; omega,AH hl]
  exact h
 have restE:∀ m b,(AF (cellsOf rsv))[m]? = some b->est[nv+i2.length+m]? = some b:=by
  intro m b h
  show (Ap outs rsv)[nv+i2.length+m]? = _
  rw [Cp,Ao (by rw [AN,hnv]; simp only [nv]; omega),AN,hnv,Aj,Ao (by rw [BT,hc2]; simp only [nv]; omega),BT,hc2,
   show nv+i2.length+m-bs.length-i2.length=m by simp only [nv]; omega]
  exact h
 have hs2:=F2.step.sr
 have μt:∀ k,k<est.length->(k<nv/\μ k=k)\/(nv<=k/\(i2++i1)[k-nv]? = some (μ k)):=by
  intro k hk
  rcases Af k nv with h | h
  ·exact .inl ⟨h,μv k h⟩
  ·exact .inr ⟨h,(erow k est[k] h (by simp)).2⟩
 have μinj:∀ k k',k<est.length->k'<est.length->μ k=μ k'->k=k':=by
  intro k k' hk hk' e
  have hndl:(i2++i1).Nodup/\∀ i∈i2++i1,¬ i<ids.length:=by
   rw [ht2,<- BO] at hnd
   have h1:=List.nodup_append.1 hnd
   constructor
   ·have h2:=List.nodup_append.1 h1.1
    exact List.nodup_append.2 ⟨(List.reverse_perm i2).nodup_iff.1 h2.1,(List.reverse_perm i1).nodup_iff.1 h2.2.1,fun a ha b hb=>h2.2.2 a (by simpa using ha) b (by simpa using hb)⟩
   ·intro i hi hlt
    exact h1.2.2 i (by simpa using hi) i (List.mem_range.2 hlt) rfl
  rcases μt k hk with ⟨h1,e1⟩ | ⟨h1,e1⟩<;>rcases μt k' hk' with ⟨h2,e2⟩ | ⟨h2,e2⟩
  ·omega
  ·exact absurd (show μ k'<ids.length by rw [<- e,e1]; omega) (hndl.2 _ (List.mem_of_getElem? e2))
  ·exact absurd (show μ k<ids.length by rw [e,e2]; omega) (hndl.2 _ (List.mem_of_getElem? e1))
  ·rw [<- e] at e2
   have:=(List.getElem?_inj (AG.1 e1).1 hndl.1).1 (e1.trans e2.symm)
   omega
 have vcE:∀ a u,VC H2 φ s2.st (a.ren μ) u->(a.solid=true\/(∃ k t e,∃ xs:List (Kd.T e),a=.row k/\est[k]? = some (V.rows t e xs))\/∃ k ecs,a=.ptr k 0/\est[k]? = some (V.var ecs))->VC H2 φ2 est a u:=by
  intro a u hv hc
  rcases hc with h | ⟨k,t,e,xs,rfl,hk⟩ | ⟨k,ecs,rfl,hk⟩
  ·rw [Jg h] at hv
   exact VC.of_VF (hv.solid h)
  ·obtain ⟨e1,_⟩:=hv
   exact ⟨e1,by simp only [U,hk]; rfl⟩
  ·obtain ⟨_,b,e1,e2⟩:=hv
   exact ⟨by simp only [AC,hk],b,e1,e2⟩
 have hbox2:∀ k b,est[k]? = some b->DQ H2 w (φ2 k) b:=by
  intro k b hk
  rcases Af k nv with h | h
  ·rcases evar k h with ⟨b0,c,el,a,e1,e2,e3,_,e4,e5⟩ | ⟨t,e,xs,e1,e2⟩
   rotate_left
   ·rw [hk] at e2
    cases e2
    rw [show φ2 k=φ k by simp only [φ2,μv k h]]
    exact hs2.box k _ e1
   rw [hk] at e4
   cases e4
   obtain ⟨p,hp,hnr,x,hx⟩:=hok k a e3
   refine ⟨b0,c,el,by simp only [φ2,μv k h]; exact e1,e2,e5.impM fun a' ha' u ⟨g1,g2⟩=>?_⟩
   have hnp:=KE _ _ (by
    intro c hc
    rw [hx] at hc
    by_cases ho:p.2.isOwn=true
    ·revert x
     obtain ⟨t,e,ho⟩:=K7 ho
     rw [ho]
     intro x _ hc
     simp [K8 x] at hc
    ·rw [(Cq x (by simpa using ho)).1] at hc
     exact Jh _ _ hnr c hc) a' ha'
   rcases g2 with g2 | ⟨m,_,⟨t,e,xs,rfl,_⟩ | ⟨ecs,rfl,g3⟩⟩
   ·rw [Jg g2] at g1
    exact VW.of_VF (g1.solid g2)
   ·trivial
   ·cases hnp
  ·obtain ⟨g1,_⟩:=erow k b h hk
   rcases g1 with ⟨t,e,xs,g2,rfl⟩ | ⟨cs,ecs,g2,rfl,g3,g4⟩
   ·exact hs2.box _ _ g2
   ·obtain ⟨b0,c,el,e1,e2,e3⟩:=hs2.box _ _ g2
    refine ⟨b0,c,el,e1,e2,FK (by rw [e3.length,g3]) fun o a u ha hu=>?_⟩
    obtain ⟨c0,c1,c2,c3,c4⟩:=g4 o a ha
    have hw:=e3.at c1 hu
    have hf:VF H2 c0 u:=by cases c0<;>first | exact hw | cases c3
    exact VW.of_VF (c4 H2 u hf)
 have hlive:∀ (k:Nat) (b2:V),est[k]? = some b2->b2.live=true->Bm (φ2 k)=none\/∃ b,s2.st[μ k]? = some b/\b.live=true/\φ2 k=φ (μ k):=by
  intro k b hk _
  right
  rcases Af k nv with h | h
  ·rw [μv k h]
   rcases evar k h with ⟨_,_,_,_,_,_,_,e3,_⟩ | ⟨t,e,xs,e1,_⟩
   ·unfold AC at e3
    split at e3
    ·rename_i cs e; exact ⟨_,e,rfl,by simp only [φ2,μv k h]⟩
    ·cases e3
   ·exact ⟨_,e1,rfl,by simp only [φ2,μv k h]⟩
  ·obtain ⟨g1,_⟩:=erow k b h hk
   rcases g1 with ⟨t,e,xs,g2,_⟩ | ⟨cs,ecs,g2,_⟩
   ·exact ⟨_,g2,rfl,rfl⟩
   ·exact ⟨_,g2,rfl,rfl⟩
 have hsr:SR H2 φ2 est w:=by
  refine AB.pick hs2 μ hbox2 hlive (fun k k' b b' hk hk' _ _ _ _ e=>μinj k k' (AG.1 hk).1 (AG.1 hk').1 e) (fun k cs hk o i ho=>?_)
  rcases Af k nv with h | h
  ·rcases evar k h with ⟨b0,c,el,a,e1,e2,e3,_,e4,e5⟩ | ⟨t,e,xs,_,e2⟩
   rotate_left
   ·rw [hk] at e2; cases e2
   rw [hk] at e4
   cases e4
   obtain ⟨u,hu,g1,g2⟩:=e5.get o _ ho
   rcases g2 with g2 | ⟨m,_,⟨t,e,xs,g3,g4⟩ | ⟨ecs,g3,_⟩⟩
   ·cases g2
   ·cases g3
    refine ⟨by simp only [U,rowsE m t e xs g4]; rfl,b0,by simp only [φ2,μv k h]; exact e1,?_⟩
    obtain ⟨g5,_⟩:=g1
    simp only [World.cell?,e2]
    rw [Array.getElem?_toList] at hu
    simp only [Option.isSome_none,Bool.false_eq_true,if_false,hu]
    rw [g5]
   ·cases g3
  ·obtain ⟨g1,_⟩:=erow k _ h hk
   rcases g1 with ⟨t,e,xs,_,g3⟩ | ⟨cs0,ecs,g2,g3,_,g4⟩
   ·cases g3
   ·cases g3
    obtain ⟨_,_,g5,_⟩:=g4 o _ ho
    cases g5
 have hfr2:Fr bs.length (Ap bs args).length H0 φ0 w0 H2 φ2 est w:=by
  have f2:=F2.step.fr _ _ _ _ _ (F1.step.fr _ _ _ _ _ hfr)
  refine ⟨f2.os,f2.tape,f2.output,f2.size,f2.old,fun j hj=>?_,fun i bi hi hl b hb=>?_,fun j hj=>?_,f2.frz⟩
  ·have:=f2.same j hj
   simp only [φ2,μv j hj]
   exact this
  ·rcases hlive i bi hi hl with e | ⟨b1,g1,g2,g3⟩
   ·rw [e] at hb; cases hb
   ·rw [g3] at hb
    exact f2.new _ b1 g1 g2 b hb
  ·rcases evar j hj with ⟨_,_,_,_,_,_,_,_,e4,_⟩ | ⟨t,e,xs,_,e4⟩
   ·simp only [Y,e4]; rfl
   ·simp only [Y,e4]; rfl
 have hhan:Bx outs=nv+i2.length:=by rw [JZ,hnv,hc2]
 have hvals:AE (VB H2 φ2 est) (BM (Bx outs) rsv) vs:=by
  rw [hhan]
  have h1:=F1.vals (nv+i2.length) μ μr
  have h2:AE (VC H2 φ2 est) (AJ (nv+i2.length) (cellsOf rsv)) (vs.map fun v=>v.cells.toList).flatten:=by
   rw [<- List.flatMap_def]
   refine h1.imp fun a u ⟨g1,g2⟩=>vcE a u (g1.mono F2.step.le F2.keeps) ?_
   rcases g2 with g2 | ⟨m,_,⟨t,e,xs,g3,g4⟩ | ⟨ecs,g3,g4⟩⟩
   ·exact .inl g2
   ·exact .inr (.inl ⟨_,t,e,xs,g3,restE m _ g4⟩)
   ·exact .inr (.inr ⟨_,ecs,g3,restE m _ g4⟩)
  have h3:AE (fun a u=>a.cells.length=u.length) rsv (vs.map fun v=>v.cells.toList):=by
   refine FK (by rw [List.length_map,hall.length]) fun j a u ha hu=>?_
   rw [At] at hu
   obtain ⟨v,hv,_,_,_,_,hl⟩:=hall.get j a ha
   rw [hv] at hu
   cases hu
   exact hl
  refine FK (by rw [Dy,hall.length]) fun j a v ha hv=>?_
  have hj:j<rsv.length:=by rw [<- Dy rsv (nv+i2.length)]; exact (AG.1 ha).1
  have hr:rsv[j]? = some rsv[j]:=by simp
  rw [LJ rsv _ j _ hr] at ha
  cases ha
  have h4:=Hz AV.cells h3 h2 j rsv[j] v.cells.toList hr (by rw [At,hv]; rfl)
  obtain ⟨v',hv',K,x,hK,hfit,_⟩:=hall.get j _ hr
  rw [hv] at hv'
  cases hv'
  rw [hK] at h4 ⊢
  change AE _ (AJ (nv+i2.length+O (cellsOf (List.take j rsv))) _) _ at h4
  generalize nv+i2.length+O (cellsOf (List.take j rsv))=kk at h4 ⊢
  have single:(K.av x).cells=[K.av x]->v.cells=#[v]->IX kk (K.av x)=(AJ kk [K.av x]).headD .undef->VB H2 φ2 est (IX kk (K.av x)) v:=by
   intro e1 e2 e3
   rw [e1,e2] at h4
   rw [e3]
   cases hq:AJ kk [K.av x] with
   | nil=>rw [hq] at h4; simp [AE] at h4
   | cons c r =>
    rw [hq] at h4
    obtain ⟨v',r',e,h5,_⟩:=h4
    cases e
    exact VB.of_VC h5
  cases K with
  | pair k l =>
   obtain ⟨arr,rfl⟩:=hfit
   exact ⟨arr,rfl,h4⟩
  | _=>exact single rfl hfit rfl
 have nfs:∀ {l:List AV},(cellsOf l).all AV.nilFree=true->∀ r∈l,r.cells.all AV.nilFree=true:=by
  intro l h r hr
  refine AT.2 fun c hc=>AT.1 h c ?_
  exact List.mem_flatMap.2 ⟨r,hr,hc⟩
 refine ⟨fun r hr=>?_,match vs with | [v]=>v | vs=>.tuple vs.toArray,?_,H2,φ2,HP.le_trans hle (HP.le_trans F1.step.le F2.step.le),hsr,hfr2,?_⟩
 ·rcases Bw.1 hr with h | h
  ·exact nfs F1.nf r h
  ·obtain ⟨j,hj⟩:=List.mem_iff_getElem?.1 h
   obtain ⟨p,_,_,x,hx⟩:=hok j r hj
   by_cases ho:p.2.isOwn=true
   ·subst hx
    revert x
    obtain ⟨t,e,ho⟩:=K7 ho
    rw [ho]
    intro x
    intros
    rfl
   ·refine AT.2 fun c hc=>AT.1 F2.nf c (List.mem_flatMap.2 ⟨r,h,?_⟩)
    subst hx
    rw [(Cq x (by simpa using ho)).1]
    rw [Gq] at hc
    exact hc
 ·have hm:(fn.results.mapM (GJ tmps)).run P w=.ok vs.toArray w:=by
   rw [Array.mapM_eq_mapM_toList,<- bind_pure_comp,Sem.run_bind,hrun]
   rfl
  have hr:results fn tmps=(fn.results.mapM (GJ tmps)) >>= fun vs=>pure (if h:vs.size=1 then vs[0] else .tuple vs):=by
   unfold results
   first | rfl | (congr 1; done) | (congr 1; congr 1; done) | (congr 1; congr 1; funext rv; cases rv<;>rfl)
  rw [hr,Sem.run_bind,hm]
  cases vs with
  | nil=>rfl
  | cons v vs =>
   cases vs with
   | nil=>rfl
   | cons v2 vs=>rfl
 ·cases vs with
  | nil =>
   have:rsv=[]:=by
    have:=hall.length
    exact C5.1 (by simpa using this.symm)
   subst this
   exact ⟨_,rfl,rfl⟩
  | cons v vs =>
   cases vs with
   | nil =>
    have h1:rsv.length=1:=by have:=hall.length; simpa using this.symm
    obtain ⟨a,rfl⟩:=List.length_eq_one_iff.1 h1
    obtain ⟨v',r,e,h2,_⟩:=hvals
    cases e
    exact h2
   | cons v2 vs =>
    have h1:rsv.length=vs.length+2:=by have:=hall.length; simpa using this.symm
    obtain ⟨a,b,r,rfl⟩:∃ a b r,rsv=a::b::r:=by
     match rsv,h1 with
     | a::b::r,_=>exact ⟨a,b,r,rfl⟩
    exact ⟨_,rfl,hvals⟩
def Kd.sol:Kd->Bool
 | .pair a b=>a.sol&&b.sol
 | .own _ _ | .ref _=>false
 | _=>true
def Kd.okOut:Kd->Bool
 | .pair a b=>a.okOut&&b.okOut
 | .ref K=>K.sol
 | _=>true
theorem MW:∀ (K:Kd) (x:K.T),K.sol=true->(K.enc x).all (fun c=>c.solid&&(match c with | .nil=>false | _=>true))=true
 | .int _,_,_=>rfl
 | .bool,_,_=>rfl
 | .str,_,_=>rfl
 | .slice _,_,_=>rfl
 | .pair a b,x,h=>by
  simp only [Kd.sol,E] at h
  simp only [Kd.enc,List.all_append,MW a x.1 h.1,MW b x.2 h.2,Bool.and_self]
 | .own _ _,_,h=>by cases h
 | .ref _,_,h=>by cases h
 | .fun _,_,_=>rfl
 | .clo _ _,_,_=>rfl
theorem Ji:∀ (K:Kd) (x:K.T),K.okOut=true->(K.enc x).all AV.nilFree=true
 | .int _,_,_=>rfl
 | .bool,_,_=>rfl
 | .str,_,_=>rfl
 | .slice _,_,_=>rfl
 | .pair a b,x,h=>by
  simp only [Kd.okOut,E] at h
  simp only [Kd.enc,List.all_append,Ji a x.1 h.1,Ji b x.2 h.2,Bool.and_self]
 | .own _ _,_,_=>rfl
 | .fun _,_,_=>rfl
 | .clo _ _,_,_=>rfl
 | .ref K,x,h=>by
  simp only [Kd.enc,List.all_cons,List.all_nil,Bool.and_true,AV.nilFree]
  exact MW K x h
def Oq (P:Program) (f:Nat) (a:CQ):Bool :=
 match P.funcs[f]? with
 | some fn=>(match fn.body with
  | some c=>!(fn.name == "runtime.NumGoroutine")&&Bn P fn.ntmps c a.body&&LI P fn.results.toList a.res&&decide (a.params.length≤fn.ntmps)&&a.outs.all Kd.okOut
  | none=>false)
 | none=>false
theorem L7:∀ (ks:List Kd) (j0:Nat),(J1 ks j0).length=ks.length/\∀ (j:Nat) (p:Nat×Kd),(J1 ks j0)[j]? = some p->p.1=j0+j
 | [],j0=>⟨rfl,fun j p h=>by simp [J1] at h⟩
 | k::ks,j0=>by
  obtain ⟨h1,h2⟩:=L7 ks (j0+1)
  refine ⟨by simp [J1,h1],fun j p h=>?_⟩
  simp only [J1] at h
  cases j with
  | zero=>simp at h; subst h; rfl
  | succ j=>have:=h2 j p (by simpa using h); omega
theorem Ba:∀ (ps:List PK) (j0 j:Nat) (p:Nat×Kd),(BU ps j0)[j]? = some p->p.1=j0+j
 | [],j0,j,p,h=>by simp [BU] at h
 | .val _::r,j0,j,p,h=>Ba r j0 j p h
 | .bor _::r,j0,j,p,h=>Ba r j0 j p h
 | .mov _::r,j0,j,p,h=>Ba r j0 j p h
 | .movS _::r,j0,j,p,h=>Ba r j0 j p h
 | .cap _ _::r,j0,j,p,h=>Ba r j0 j p h
 | .cap0 _::r,j0,j,p,h=>Ba r j0 j p h
 | .ptr K::r,j0,j,p,h=>by
  simp only [BU] at h
  cases j with
  | zero=>simp at h; subst h; rfl
  | succ j=>have:=Ba r (j0+1) j p (by simpa using h); omega
 | .mut K::r,j0,j,p,h=>by
  simp only [BU] at h
  obtain ⟨hl,hm⟩:=L7 K.owns j0
  rcases Af j (J1 K.owns j0).length with h1 | h1
  ·rw [AH h1] at h; exact hm j p h
  ·rw [Ao h1,hl] at h
   rw [hl] at h1
   have:=Ba r _ _ p h
   omega
theorem KF:∀ (vs:List AV) (i t:Nat),Bl (Em i vs) t=if i<=t/\t<i+vs.length then vs.getD (t-i) .undef else .undef
 | [],i,t=>by simp [Em,Bl]
 | v::vs,i,t=>by
  simp only [Em,Bl]
  by_cases h:i=t
  ·subst h
   rw [if_pos rfl,if_pos ⟨Nat.le_refl _,by simp⟩]
   simp
  ·rw [if_neg h,KF vs (i+1) t]
   by_cases h1:i+1<=t/\t<i+1+vs.length
   ·rw [if_pos h1,if_pos ⟨by omega,by simp; omega⟩,show t-i=(t-(i+1))+1 by omega]
    simp
   ·rw [if_neg h1,if_neg (by simp; omega)]
theorem L8:∀ {rs:List O_} {aw:List AV} {tk tk':List Nat} {s s':St},s.result tk rs=some (aw,tk',s')->aw.length=rs.length
 | [],aw,tk,tk',s,s',h=>by cases h; rfl
 | r::rs,aw,tk,tk',s,s',h=>by
  simp only [St.result] at h
  cases h1:s.resCells r with
  | none=>rw [h1] at h; cases h
  | some cs =>
   rw [h1] at h
   simp only [J] at h
   cases h2:s.shutAll tk r.K.leaves cs with
   | none=>rw [h2] at h; cases h
   | some y =>
    rw [h2] at h
    simp only [J] at h
    cases h3:r.K.ofCells y.1 with
    | none=>rw [h3] at h; cases h
    | some x =>
     rw [h3] at h
     simp only [J] at h
     cases h4:y.2.2.result y.2.1 rs with
     | none=>rw [h4] at h; cases h
     | some z =>
      obtain ⟨aw',t2,s2⟩:=z
      rw [h4] at h
      cases h
      simp [L8 h4]
theorem Pl {cal:Bv} {k f:Nat} {a:CQ} {args bs rs:List AV} (hcal:Ch P cal) (hb:Oq P f a=true) (hl:args.length=a.params.length/\bs.length=(BU a.params 0).length)
  (h:(NS cal k a args bs).map (BL a.outs)=some rs):MR P f/\(∀ r∈rs,r.cells.all AV.nilFree=true)/\∃ n,n+bs.length=rs.length /\
  ∀ (H:HP) (φ:Ai) (w:World) (cargs:List Value),SR H φ (Ap bs args) w->AE (VB H φ (Ap bs args)) (BM (Bx bs) args) cargs ->
   Calls P f cargs.toArray w fun out w'=>match out with
    | .returned v=>It H φ w args bs (rs.drop n) (rs.take n) v w'
    | _=>False:=by
 unfold Oq at hb
 split at hb
 case h_2=>cases hb
 rename_i fn hfn
 split at hb
 case h_2=>cases hb
 rename_i c hc
 simp only [E,B7,decide_eq_true_eq] at hb
 obtain ⟨⟨⟨⟨hname,hcode⟩,hress⟩,hlen⟩,hout⟩:=hb
 cases hr:NS cal k a args bs with
 | none=>rw [hr] at h; cases h
 | some r =>
 rw [hr] at h
 simp only [Option.map_some,AK] at h
 subst h
 have hol:a.outs.length=a.res.length+bs.length:=by rw [hl.2]; simp [CQ.outs]
 have el:(BL a.outs r).length=a.outs.length:=by
  have:∀ (Ks:List Kd) (y:RT Ks),(BL Ks y).length=Ks.length:=by
   intro Ks
   induction Ks with
   | nil=>intro y; rfl
   | cons K Ks ih =>
    intro y
    cases Ks with
    | nil=>rfl
    | cons L Ks=>simp only [BL,List.length_cons] at ih ⊢; rw [ih y.2]
  exact this _ _
 refine ⟨⟨fn,c,hfn,hname,hc⟩,fun q hq=>?_,a.res.length,by rw [el,hol],fun H φ w cargs hs hargs=>?_⟩
 ·obtain ⟨j,hj⟩:=List.mem_iff_getElem?.1 hq
  have hjl:j<a.outs.length:=by rw [<- el]; exact (AG.1 hj).1
  obtain ⟨x,hx⟩:=Jb a.outs r j a.outs[j] (by simp)
  rw [hx] at hj
  cases hj
  rw [Gq]
  exact Ji _ _ (AT.1 hout _ (Kh hjl))
 ·have hcl:cargs.length=args.length:=by rw [hargs.length,Dy]
  have hsz:(cargs.toArray++Array.replicate (fn.ntmps-cargs.toArray.size) undef).size=fn.ntmps:=by
   simp only [Array.size_append,List.size_toArray,Array.size_replicate]
   omega
  have hf0:B5 H φ (Ap bs args) (Em 0 (BM (Bx bs) args)) (cargs.toArray++Array.replicate (fn.ntmps-cargs.toArray.size) undef):=by
   intro t
   rw [KF]
   split
   ·rename_i ht
    have ht2:t<(BM (Bx bs) args).length:=by omega
    have h1:(BM (Bx bs) args)[t]? = some (BM (Bx bs) args)[t]:=by simp
    obtain ⟨v,hv,hvb⟩:=hargs.get t _ h1
    have e1:(BM (Bx bs) args).getD (t-0) .undef=(BM (Bx bs) args)[t]:=by simp [List.getD,ht2]
    have ht3:t<cargs.length:=(AG.1 hv).1
    have e2:(cargs.toArray++Array.replicate (fn.ntmps-cargs.toArray.size) undef).getD t undef=v:=by
     rw [Array.getD_eq_getD_getElem?,Array.getElem?_append_left (by simpa using ht3)]
     simp only [List.getElem?_toArray,hv,Option.getD_some]
    rw [e1,e2]
    exact VA.of_VB hvb
   ·trivial
  have fr0:Fr bs.length (Ap bs args).length H φ w H φ (Ap bs args) w:=by
   refine ⟨rfl,rfl,rfl,Nat.le_refl _,fun _ _ _=>rfl,fun _ _=>rfl,fun i bi hi _ b hb=>.inr ⟨i,(AG.1 hi).1,hb⟩,fun j hj=>?_,fun _ _ _=>rfl⟩
   have hv:bs[j]? = some bs[j]:=by simp
   unfold Y
   rw [Cp,AH (by rw [AN]; exact hj),DV bs _ j _ hv]
   generalize bs[j]=v
   cases v<;>rfl
  have fin:KD fn.ntmps (An a) r ⟨Em 0 (BM (Bx bs) args),Ap bs args⟩ { tmps:=cargs.toArray++Array.replicate (fn.ntmps-cargs.toArray.size) undef,defers:=[] } w H φ
    (fun act' w'=>act'.defers=[]/\∃ v,(results fn act'.tmps).run P w'=.ok v w'/\It H φ w args bs ((BL a.outs r).drop a.res.length) ((BL a.outs r).take a.res.length) v w'):=by
   intro s' act' w' H' φ' hk hst hf' hn' hd'
   refine ⟨hd',?_⟩
   unfold An at hk
   cases h1:s'.result (List.range (BU a.params 0).length) a.res with
   | none=>rw [h1] at hk; cases hk
   | some y =>
    obtain ⟨rsv,t1,s1⟩:=y
    rw [h1] at hk
    simp only [J] at hk
    cases h2:s1.shutBoxes t1 (BU a.params 0) with
    | none=>rw [h2] at hk; cases hk
    | some z =>
     obtain ⟨outs,t2,s2⟩:=z
     rw [h2] at hk
     simp only [J] at hk
     obtain ⟨nf,v,hv,hend⟩:=QJ (P:=P) (args:=args) hst.sr hf' (hst.fr _ _ _ _ _ fr0) hst.le (fun j p hp=>by have:=Ba a.params 0 j p hp; omega) hl.2 h1 h2 hress
     have henc:=L1 _ _ r hk nf
     have hrl:=L8 h1
     rw [henc,<- hrl,List.drop_left,List.take_left]
     exact ⟨v,hv,hend⟩
  have hwp:=Pi (P:=P) (n:=fn.ntmps) (k:=k) hcal a.body c hcode (RT a.outs) (An a) (An a) (fun _ _=>none) r ⟨Em 0 (BM (Bx bs) args),Ap bs args⟩
   { tmps:=cargs.toArray++Array.replicate (fn.ntmps-cargs.toArray.size) undef,defers:=[] } w H φ
   (bodyPost P fn fun out w'=>match out with
    | .returned v=>It H φ w args bs ((BL a.outs r).drop a.res.length) ((BL a.outs r).take a.res.length) v w'
    | _=>False) hs hf0 hsz hr fin fin (fun i s' act' w' H' φ' hk=>by cases hk)
  exact calls_of_wp hfn hc hwp
def C2 (P:Program) (f:Nat) (a:CQ):Bool:=(decide (f<BS)||decide (2*BS<=f))&&Oq P (f % BS) a
def Or (P:Program) (HQ:Nat->Option CQ):Prop:=∀ f a,HQ f=some a->C2 P f a=true
theorem M1 {HQ:Nat->Option CQ} {Bs:Bv} (ht:Or P HQ) (hp:Ch P Bs):∀ k,Ch P (Id HQ Bs k)
 | 0=>⟨fun f k t T _ h=>(by cases h),fun f args bs rs _ h=>by cases h⟩
 | k+1=>⟨fun f q t T hf h=>(by
  simp only [Id] at h
  split at h
  ·rename_i a ha
   have:=ht _ a ha
   simp only [C2,E,C6,decide_eq_true_eq] at this
   omega
  ·exact hp.1 f q t T hf h),fun f args bs rs hlt h=>by
  simp only [Id] at h
  split at h
  ·rename_i a ha
   split at h
   ·rename_i hl
    exact Pl (M1 ht hp k) (by have:=ht f a ha; simp only [C2,E] at this; exact this.2) hl h
   ·cases h
  ·exact hp.2 f args bs rs hlt h⟩
end Go.Proofs.Ytffahmnodgnohaa.Core

namespace Go.Proofs.Ytffahmnodgnohaa.Core
open Go
def Kd.ok:(K:Kd)->K.T->Prop
 | .int k,n=>k.min<=n/\n<=k.max
 | .bool,_=>True
 | .str,s=>s.size<=maxLen
 | .slice e,xs=>xs.length<=maxLen/\∀ x∈xs,Kd.ok e x
 | .pair a b,x=>a.ok x.1/\b.ok x.2
 | .own _ _,_=>False
 | .ref _,_=>False
 | .fun _,_=>False
 | .clo _ _,_=>False
mutual
def Gu (P:Program):Nat->TypeId->Kd->Bool
 | 0,_,_=>false
 | D+1,t,K=>match P.underlying t with
  | some (.int k)=>(match K with | .int k'=>decide (k=k') | _=>false)
  | some .bool=>(match K with | .bool=>true | _=>false)
  | some .string=>(match K with | .str=>true | _=>false)
  | some (.slice te)=>(match K with | .slice e=>P.cellsOf te==e.sz&&Gu P D te e | _=>false)
  | some (.struct fs)=>P.cellsOf t==K.sz&&(match K with | .pair _ _=>true | _=>false)&&GL P D fs.toList 0 K
  | _=>false
def GL (P:Program):Nat->List Field->Nat->Kd->Bool
 | 0,_,_,_=>false
 | _+1,[],_,_=>false
 | D+1,[f],off,K=>f.offset==off&&P.cellsOf f.type==K.sz&&Gu P D f.type K
 | D+1,f::g::fs,off,K=>match K with
  | .pair a b=>f.offset==off&&P.cellsOf f.type==a.sz&&Gu P D f.type a&&GL P D (g::fs) (off+a.sz) b
  | _=>false
end
def Hl (w:World):HP:=fun b=>w.heap[b]?
theorem LK {w:World} {base:Nat} {a:Addr} {n:Nat} {cs:List Value} (h:w.cells? base a n=some cs):cs.length=n/\∀ i,i<n->w.cell? (a.add i)=cs[i]? := by
 unfold World.cells? at h
 split at h
 ·exact ⟨by simpa using mapM_some_length h,fun i hi=>mapM_some_get h i i (by simp [hi])⟩
 ·cases h
theorem L9 (a:Addr):a.add 0=a:=by unfold Addr.add; split<;>simp_all
theorem L_ {w:World} {a:Addr} {u:Value} (h:w.cell? a=some u):a=⟨a.block,a.off,none⟩/\∃ c el fz,w.heap[a.block]? = some (.cells c el fz)/\c[a.off]? = some u:=by
 obtain ⟨b,o,sp⟩:=a
 simp only [World.cell?] at h
 split at h
 ·rename_i c el fz hc
  cases sp with
  | some sp=>simp at h
  | none =>
   simp only [Option.isSome_none,Bool.false_eq_true,if_false] at h
   exact ⟨rfl,c,el,fz,hc,h⟩
 ·cases h
mutual
theorem Kn {H:Type} {enc:TypeId×Value->H} {P:Program} {w:World} {base:Nat} {spare:Nat->Bool} {held:Bool}:∀ (D:Nat) (t:TypeId) (K:Kd) (fuel:Nat) (cs:List Value) (x:DataW H×List MemPlace),Gu P D t K=true ->
  DataW.trod enc P w base spare held fuel t cs=some x->∃ y:K.T,B6 (Hl w) K y cs/\Kd.ok K y
 | 0,t,K,fuel,cs,x,h,_=>by simp [Gu] at h
 | D+1,t,K,fuel,cs,x,h,hd=>by
  unfold Gu at h
  split at h
  ·rename_i k hu
   cases K<;>first | cases h | skip
   simp only [decide_eq_true_eq] at h
   subst h
   obtain ⟨n,rfl,_,hw⟩:=DataW.trod_int hu hd
   simp only [Lit.wf,E,decide_eq_true_eq] at hw
   exact ⟨n,rfl,hw⟩
  ·rename_i hu
   cases K<;>first | cases h | skip
   obtain ⟨b,rfl,_⟩:=DataW.trod_bool hu hd
   exact ⟨b,rfl,trivial⟩
  ·rename_i hu
   cases K<;>first | cases h | skip
   obtain ⟨s,rfl,_,hs⟩:=DataW.trod_string hu hd
   exact ⟨s,rfl,hs⟩
  ·rename_i te hu
   cases K<;>first | cases h | skip
   rename_i e
   simp only [E,beq_iff_eq] at h
   rcases DataW.trod_slice hu hd with ⟨rfl,_⟩ | ⟨a,len,cap,elems,rest,n,_,rfl,_,_,hl,hm,hlen,hel,_⟩
   ·exact ⟨[],⟨_,rfl,Fl⟩,by simp [Kd.ok]⟩
   ·have each:∀ i,i<len->∃ y:e.T,∃ cs',w.cells? base (a.add (i*e.sz)) e.sz=some cs'/\B6 (Hl w) e y cs'/\Kd.ok e y:=by
     intro i hi
     have h1:=hel i hi
     rw [h.1] at h1
     have h2:elems[i]? = some (elems[i]'(by omega)):=by simp
     rw [h2] at h1
     cases hq:w.cells? base (a.add (i*e.sz)) e.sz with
     | none=>rw [hq] at h1; cases h1
     | some cs' =>
      rw [hq] at h1
      simp only [J] at h1
      obtain ⟨y,h3,h4⟩:=Kn D te e n cs' _ h.2 h1
      exact ⟨y,cs',rfl,h3,h4⟩
    have all:∀ m,m<=len->∃ ys:List e.T,ys.length=m/\∀ i y,ys[i]? = some y->∃ cs',w.cells? base (a.add (i*e.sz)) e.sz=some cs'/\B6 (Hl w) e y cs'/\Kd.ok e y:=by
     intro m
     induction m with
     | zero=>intro _; exact ⟨[],rfl,fun i y h=>by simp at h⟩
     | succ m ih =>
      intro hm
      obtain ⟨ys,l,hy⟩:=ih (by omega)
      obtain ⟨y,cs',g1,g2,g3⟩:=each m (by omega)
      refine ⟨ys++[y],by simp [l],fun i z hz=>?_⟩
      rcases Af i ys.length with hi | hi
      ·rw [AH hi] at hz
       exact hy i z hz
      ·rw [Ao hi] at hz
       have hi0:i-ys.length=0:=by
        have:=(AG.1 hz).1
        simp at this
        omega
       rw [hi0] at hz
       simp at hz
       subst hz
       have:i=m:=by omega
       subst this
       exact ⟨cs',g1,g2,g3⟩
    obtain ⟨ys,l,hy⟩:=all len (Nat.le_refl _)
    have hok:ys.length<=maxLen/\∀ y∈ys,Kd.ok e y:=by
     refine ⟨by omega,fun y hm=>?_⟩
     obtain ⟨i,hi⟩:=List.mem_iff_getElem?.1 hm
     obtain ⟨_,_,_,g⟩:=hy i y hi
     exact g
    refine ⟨ys,⟨_,rfl,some a,cap,by rw [l],by omega,?_⟩,hok⟩
    cases hys:ys with
    | nil=>exact .inl rfl
    | cons y0 yr =>
     right
     have hsz:=Kd.sz_pos e
     obtain ⟨cs0,g1,g2,_⟩:=hy 0 y0 (by rw [hys]; rfl)
     obtain ⟨l0,c0⟩:=LK g1
     have hc0:=c0 0 hsz
     have hcs0:cs0[0]? = some (cs0[0]'(by omega)):=by simp
     rw [hcs0,Nat.zero_mul,L9,L9] at hc0
     obtain ⟨ea,c,el,fz,hb,_⟩:=L_ hc0
     have addadd:∀ x y:Nat,(a.add x).add y=⟨a.block,a.off+(x+y),none⟩:=by
      intro x y
      rw [ea,Addr.add_none,Addr.add_none,Nat.add_assoc]
     refine ⟨a.block,a.off,c,el,fz,by rw [<- ea],hb,fun j y hj=>?_⟩
     obtain ⟨cs',g3,g4,_⟩:=hy j y (by rw [hys]; exact hj)
     obtain ⟨l1,c1⟩:=LK g3
     refine ⟨cs',g4,l1,fun i u hu=>?_⟩
     have hi:i<e.sz:=by rw [<- l1]; exact (AG.1 hu).1
     have h3:=c1 i hi
     rw [hu,addadd] at h3
     obtain ⟨_,c2,el2,fz2,hb2,h4⟩:=L_ h3
     rw [hb] at hb2
     cases hb2
     rw [Nat.add_assoc]
     exact h4
  ·rename_i fs hu
   simp only [E,beq_iff_eq] at h
   obtain ⟨⟨hc,_⟩,h⟩:=h
   obtain ⟨xs,n,_,_,hl,_,hf⟩:=DataW.trod_struct hu hd
   have:=KG (w:=w) (P:=P) D fs.toList 0 K n cs xs h (fun i f hi=>hf i f (by simpa using hi)) (by
    have:xs.length=fs.size:=by assumption
    simpa using this)
   obtain ⟨y,h1,h2⟩:=this
   refine ⟨y,?_,h2⟩
   rw [hc] at hl
   rw [List.drop_zero,List.take_of_length_le (by omega)] at h1
   exact h1
  ·cases h
theorem KG {H:Type} {enc:TypeId×Value->H} {P:Program} {w:World} {base:Nat} {spare:Nat->Bool} {held:Bool}:∀ (D:Nat) (fs:List Field) (off:Nat) (K:Kd) (fuel:Nat) (cs:List Value) (xs:List (DataW H×List MemPlace)),GL P D fs off K=true ->
  (∀ (i:Nat) (f:Field),fs[i]? = some f->DataW.trod enc P w base spare held fuel f.type ((cs.drop f.offset).take (P.cellsOf f.type))=xs[i]?)->xs.length=fs.length->∃ y:K.T,B6 (Hl w) K y ((cs.drop off).take K.sz)/\Kd.ok K y
 | 0,fs,off,K,fuel,cs,xs,h,_,_=>by simp [GL] at h
 | D+1,[],off,K,fuel,cs,xs,h,_,_=>by simp [GL] at h
 | D+1,[f],off,K,fuel,cs,xs,h,hf,hl=>by
  simp only [GL,E,beq_iff_eq] at h
  obtain ⟨⟨rfl,hc⟩,ht⟩:=h
  have h1:=hf 0 f rfl
  rw [hc] at h1
  have h2:xs[0]? = some (xs[0]'(by simp at hl; omega)):=by simp
  rw [h2] at h1
  exact Kn D f.type K fuel _ _ ht h1
 | D+1,f::g::fs,off,K,fuel,cs,xs,h,hf,hl=>by
  simp only [GL] at h
  cases K with
  | pair a b =>
   simp only [E,beq_iff_eq] at h
   obtain ⟨⟨⟨rfl,hc⟩,ht⟩,hr⟩:=h
   have h1:=hf 0 f rfl
   rw [hc] at h1
   have h2:xs[0]? = some (xs[0]'(by simp at hl; omega)):=by simp
   rw [h2] at h1
   obtain ⟨y1,r1,o1⟩:=Kn D f.type a fuel _ _ ht h1
   obtain ⟨y2,r2,o2⟩:=KG (w:=w) (P:=P) D (g::fs) (f.offset+a.sz) b fuel cs (xs.drop 1) hr (fun i q hi=>by
    have:=hf (i+1) q (by simpa using hi)
    rw [this,BN,Nat.add_comm]) (by simp at hl ⊢; omega)
   refine ⟨(y1,y2),⟨_,_,?_,r1,r2⟩,o1,o2⟩
   apply List.ext_getElem?
   intro i
   have l1:=r1.length
   have l2:=r2.length
   simp only [Kd.sz]
   rcases Af i a.sz with hi | hi
   ·rw [AH (by omega)]
    simp only [Ay,BN]
    rw [if_pos (by omega),if_pos hi]
   ·rw [Ao (by omega),l1]
    simp only [Ay,BN]
    by_cases h3:i<a.sz+b.sz
    ·rw [if_pos h3,if_pos (by omega)]
     congr 1
     omega
    ·rw [if_neg h3,if_neg (by omega)]
  | _=>cases h
end
theorem M2 {H:Type} {enc:TypeId×Value->H} {P:Program} {w:World} {base:Nat} {spare:Nat->Bool} {held:Bool} {t:TypeId} {K:Kd} {v:Value} {d:DataW H} {p:List MemPlace} (h:Gu P 40 t K=true) (hf:D3 K v)
  (hd:DataW.Trod enc P w base spare held t v d p):∃ x:K.T,VE (Hl w) (K.av x) v/\Kd.ok K x:=by
 obtain ⟨fuel,hd⟩:=hd
 obtain ⟨x,h1,h2⟩:=Kn 40 t K fuel _ _ h hd
 exact ⟨x,Nc h1 hf,h2⟩
theorem Nl {P:Program} {W:World} {r:Reach} {base:Nat} {t:TypeId} {K:Kd} {v:Value} (h:Gu P 40 t K=true) (hv:Value.okWide P W r base t v):D3 K v:=by
 unfold Gu at h
 split at h
 ·rename_i k hu
  obtain ⟨n,rfl⟩:=WideShapes.okWide_int hu hv
  cases K<;>first | cases h | rfl
 ·rename_i hu
  obtain ⟨n,rfl⟩:=WideShapes.okWide_bool hu hv
  cases K<;>first | rfl | cases h
 ·rename_i hu
  obtain ⟨n,rfl⟩:=WideShapes.okWide_string hu hv
  cases K<;>first | rfl | cases h
 ·rename_i te hu
  obtain ⟨a,l,c,rfl⟩:=WideShapes.okWide_slice hu hv
  cases K<;>first | cases h | rfl
 ·rename_i fs hu
  obtain ⟨cs,rfl,_⟩:=WideShapes.okWide_struct hu hv
  simp only [E] at h
  cases K<;>first | exact ⟨_,rfl⟩ | cases h.1.2
 ·cases h
theorem Ot (w:World) (φ:Ai):SR (Hl w) φ [] w:=by
 refine ⟨fun b o h=>h,fun id bx h=>by simp at h,fun i j bi bj h=>by simp at h,fun i bi h=>by simp at h,fun id cs h=>by simp at h⟩
theorem OC {P:Program} {HQ:Nat->Option CQ} {Bs:Bv} (ht:Or P HQ) (hp:Ch P Bs) {k f:Nat} {args:List AV} (h:Id HQ Bs k f args []=some [.bool true]) {W:World} {cargs:List Value}
  (ha:AE (VE (Hl W)) args cargs) (hlt:f<BS:=by decide):Calls P f cargs.toArray W fun e W'=>e=.returned (.bool true)/\RowKit.Below W.heap.size W W':=by
 obtain ⟨_,_,n,hn,hc⟩:=(M1 ht hp k).2 f args [] _ (.inl hlt) h
 rw [Nat.mod_eq_of_lt hlt] at hc
 have hn:n=1:=by simpa using hn
 subst hn
 have opens:∀ {aw:List AV} {vs:List Value} (k:Nat),AE (VE (Hl W)) aw vs->BM k aw=aw/\AF (cellsOf aw)=[]:=by
  intro aw
  induction aw with
  | nil=>intro vs k _; exact ⟨rfl,rfl⟩
  | cons a aw ih =>
   intro vs k h
   obtain ⟨v,r,rfl,h1,h2⟩:=h
   obtain ⟨o1,o2,o3⟩:=h1.opens k
   obtain ⟨i1,i2⟩:=ih (k+O a.cells) h2
   refine ⟨by simp only [BM,o1,i1],?_⟩
   simp only [cellsOf,List.flatMap_cons] at i2 ⊢
   rw [Aj,o3,i2]
   rfl
 have hst:Ap [] args=[]:=by
  rw [Cp,Aj,(opens 0 ha).2]
  rfl
 have:=hc (Hl W) (fun _=>.nilIface) W cargs (by rw [hst]; exact Ot W _) (by rw [(opens _ ha).1,hst]; exact ha.imp fun _ _ h=>VB.of_VE h)
 refine this.mono fun e W' he=>?_
 cases e with
 | returned v =>
  obtain ⟨H',φ',_,_,f,hr⟩:=he
  have hv:v=.bool true:=hr
  subst hv
  rw [hst] at f
  exact ⟨rfl,f.os,f.tape,f.output,f.size,fun k hk=>f.old k hk fun j hj=>by simp at hj⟩
 | panicked c=>exact he.elim
 | outgrown=>exact he.elim
end Go.Proofs.Ytffahmnodgnohaa.Core
