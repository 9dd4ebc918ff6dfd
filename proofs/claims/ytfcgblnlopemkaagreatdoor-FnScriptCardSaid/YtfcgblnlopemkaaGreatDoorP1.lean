/- Texts of the proof, packed: part 2. -/
import Derived.Test.YtfcgblnlopemkaaGreatDoorP0
import Derived.Lib.ConvBytes
import Derived.OrdersHeld
import Derived.ChangeArms
import Derived.Below
set_option linter.unusedVariables false
set_option linter.unusedSimpArgs false
namespace Go.Proofs.YtfcgblnlopemkaaGreatDoor.Core
open Go
variable {H:HP} {φ:CQ} {st:List AX} {w w':World} {P:Program}
theorem AHR (hs:SR H φ st w):∀ (bors:List Nat),(∀ i∈bors,∃ (t:TypeId) (K:Kd),∃ xs:List (Kd.T K),st[i]? = some (AX.rows t K xs)) ->
  ∃ H1 st1,H.le H1/\SR H1 φ st1 w/\(∀ b,(∀ i∈bors,ED (φ i)≠some b)->H1 b=H b)/\(∀ i,i∉bors->st1[i]? = st[i]?) /\
   (∀ i∈bors,∀ (t:TypeId) (K:Kd) (xs:List (Kd.T K)),st[i]? = some (AX.rows t K xs)->dN (Gj H1 K) K.sz H1 xs (φ i))
 | [],_=>⟨H,st,HP.le_refl H,hs,fun _ _=>rfl,fun _ _=>rfl,fun i hi=>by cases hi⟩
 | i::r,hl=>by
  obtain ⟨H1,st1,h1,h2,h3,h4,h5⟩:=AHR hs r fun j hj=>hl j (by simp [hj])
  by_cases hir:i∈r
  ·refine ⟨H1,st1,h1,h2,fun b hb=>h3 b fun j hj=>hb j (by simp [hj]),fun j hj=>h4 j fun h=>hj (by simp [h]),fun j hj=>?_⟩
   rcases BF.1 hj with rfl | hj
   ·exact h5 _ hir
   ·exact h5 _ hj
  ·obtain ⟨t,K,xs,hi⟩:=hl i (by simp)
   have hi1:st1[i]? = some (.rows t K xs):=(h4 i hir).trans hi
   obtain ⟨H2,g1,g2,g3,g4⟩:=h2.freeze hi1
   refine ⟨H2,_,HP.le_trans h1 g1,g2,fun b hb=>?_,fun j hj=>?_,fun j hj t' K' xs' hj'=>?_⟩
   ·rw [g4 b (hb i (by simp)),h3 b fun j hj=>hb j (by simp [hj])]
   ·rw [BK,if_neg (fun e=>hj (by simp [e]))]
    exact h4 j fun h=>hj (by simp [h])
   ·by_cases e:j=i
    ·subst e
     rw [hi] at hj'
     cases hj'
     exact g3
    ·have hjr:j∈r:=by rcases BF.1 hj with h | h; exact absurd h e; exact h
     exact Po (fun _ _ h=>Gj.mono g1 h) g1 (h5 j hjr t' K' xs' hj')
structure Pp (st:List AX) (ids:List (Nat×Kd)) (bx:List AV) (owns:List Nat):Prop where
 len:bx.length=ids.length
 cnt:AT (Bs bx)=owns.length
 kd:∀ (j:Nat) (v:AV),bx[j]? = some v->∃ p,ids[j]? = some p/\∃ x:Kd.T p.2,v=Kd.av p.2 x
 rows:∀ (m:Nat) (b:AX),(BM (Bs bx))[m]? = some b->∃ (i:Nat) (t:TypeId) (e:Kd),∃ xs:List (Kd.T e),owns[m]? = some i/\st[i]? = some (AX.rows t e xs)/\b=AX.rows t e xs
 vars:∀ (k j:Nat) (v:AV),bx[j]? = some v->∃ p:Nat×Kd,ids[j]? = some p/\((∃ cs ecs:List AV,p.2.isOwn=false/\st[p.1]? = some (AX.var cs)/\AAi (k+AT (Bs (bx.take j))) v=.var ecs/\ecs.length=cs.length/\∀ (o:Nat) (a:AV),ecs[o]? = some a ->
  ∃ c,cs[o]? = some c/\((∃ m i:Nat,a=AV.row (k+m)/\owns[m]? = some i/\c=AV.row i)\/(a.solid=true/\c.solid=true/\∀ (H:HP) (u:Value),VF H c u->VF H a u)\/(∃ (i:Nat) (e:Kd),∃ xs:List (Kd.T e),a=AV.lst e xs/\c=AV.row i/\st[i]? = some (AX.frz e xs)))) \/
  (∃ (t:TypeId) (e:Kd),∃ xs:List (Kd.T e),p.2=.own t e/\(st[p.1]? = some (AX.rows t e xs)\/st[p.1]? = some (AX.mrow t e xs))/\AAi (k+AT (Bs (bx.take j))) v=.mrow t e xs))
theorem Pp.mut {st:List AX} {ids:List (Nat×Kd)} {bx:List AV} {owns:List Nat} (f:Pp st ids bx owns) {b:Nat} {t:TypeId} {e:Kd} {xs:List e.T} (hb:st[b]? = some (AX.rows t e xs)\/st[b]? = some (AX.mrow t e xs)) :
  Pp st ((b,.own t e)::ids) (.new t e xs::bx) owns:=by
 have hco:∀ vs,Bs (AV.new t e xs::vs)=Bs vs:=fun vs=>rfl
 refine ⟨by simp [f.len],by rw [hco]; exact f.cnt,fun j v hj=>?_,fun m b hb=>?_,fun k j v hj=>?_⟩
 ·cases j with
  | zero=>simp at hj; subst hj; exact ⟨(b,.own t e),rfl,xs,rfl⟩
  | succ j=>simpa using f.kd j v (by simpa using hj)
 ·rw [hco] at hb; exact f.rows m _ hb
 ·cases j with
  | zero=>simp at hj; subst hj; exact ⟨(b,.own t e),rfl,.inr ⟨t,e,xs,rfl,hb,rfl⟩⟩
  | succ j =>
   obtain ⟨p,g1,g2⟩:=f.vars k j v (by simpa using hj)
   exact ⟨p,by simpa using g1,by rw [List.take_succ_cons,hco]; exact g2⟩
theorem jc {st:List AX}:∀ {ids:List (Nat×Kd)} {bx:List AV} {owns:List Nat},NM st ids=some (bx,owns)->Pp st ids bx owns
 | [],bx,owns,h=>by
  cases h
  exact ⟨rfl,rfl,fun j v h=>by simp at h,fun m b h=>by simp [Bs,BM] at h,fun k j v h=>by simp at h⟩
 | (b,K)::ids,bx,owns,h=>by
  have mu:∀ (t:TypeId) (e:Kd) (xs:List e.T),st[b]? = some (AX.rows t e xs)\/st[b]? = some (AX.mrow t e xs)->(if Kd.own t e=K then (NM st ids).bind fun r=>some (AV.new t e xs::r.1,r.2) else none)=some (bx,owns)->Pp st ((b,K)::ids) bx owns:=by
   intro t e xs hb h'
   split at h'
   ·rename_i hK
    subst hK
    cases h3:NM st ids with
    | none=>rw [h3] at h'; cases h'
    | some r =>
     obtain ⟨bx',o2⟩:=r
     rw [h3] at h'
     cases h'
     exact (jc h3).mut hb
   ·cases h'
  simp only [NM] at h
  split at h
  ·rename_i cs hcs
   split at h
   ·cases h
   rename_i hno
   have hno:K.isOwn=false:=by simpa using hno
   cases h1:Kz st K.leaves cs with
   | none=>rw [h1] at h; cases h
   | some y =>
    obtain ⟨cl,o1⟩:=y
    rw [h1] at h
    simp only [AA] at h
    cases h2:K.ofCells cl with
    | none=>rw [h2] at h; cases h
    | some x =>
     rw [h2] at h
     simp only [AA] at h
     cases h3:NM st ids with
     | none=>rw [h3] at h; cases h
     | some r =>
      obtain ⟨bx',o2⟩:=r
      rw [h3] at h
      cases h
      have f:=jc h3
      have c:=YR h1
      have ecl:cl=K.enc x:=by
       have:=t_ K cl [] x c.nf (Gk h2)
       simpa using this
      have hcells:(K.av x).cellsO=cl:=by rw [(KY x hno).1,ecl]
      have hco:∀ vs,Bs (K.av x::vs)=cl++Bs vs:=fun vs=>by simp [Bs,hcells]
      refine ⟨by simp [f.len],by rw [hco,CK,c.cnt,f.cnt,List.length_append],fun j v hj=>?_,fun m b hb=>?_,fun k j v hj=>?_⟩
      ·cases j with
       | zero=>simp at hj; subst hj; exact ⟨(b,K),rfl,x,rfl⟩
       | succ j=>simpa using f.kd j v (by simpa using hj)
      ·rw [hco,CW] at hb
       rcases CF m (BM cl).length with hm | hm
       ·rw [BO hm] at hb
        obtain ⟨i,t,e,xs,g1,g2⟩:=c.boxes m b hb
        exact ⟨i,t,e,xs,by rw [BO (As.1 g1).1]; exact g1,g2⟩
       ·rw [Cs hm] at hb
        obtain ⟨i,t,e,xs,g1,g2⟩:=f.rows _ b hb
        rw [EZ,c.cnt] at hm g1
        exact ⟨i,t,e,xs,by rw [Cs hm]; exact g1,g2⟩
      ·cases j with
       | zero =>
        simp at hj
        subst hj
        refine ⟨(b,K),rfl,.inl ⟨cs,Bl k cl,hno,hcs,by rw [(KY x hno).2,<- ecl]; simp [Bs,AT],by rw [KW]; exact c.len,fun o a ha=>?_⟩⟩
        obtain ⟨q,q1,q2⟩:=c.cells k o a ha
        refine ⟨q,q1,?_⟩
        rcases q2 with ⟨m,i,e1,e2,e3⟩ | q2
        ·exact .inl ⟨m,i,e1,by rw [BO (As.1 e2).1]; exact e2,e3⟩
        ·exact .inr q2
       | succ j =>
        obtain ⟨p,g1,gg⟩:=f.vars (k+o1.length) j v (by simpa using hj)
        have et:k+AT (Bs ((K.av x::bx').take (j+1)))=k+o1.length+AT (Bs (bx'.take j)):=by rw [List.take_succ_cons,hco,CK,c.cnt,<- Nat.add_assoc]
        refine ⟨p,by simpa using g1,?_⟩
        rw [et]
        rcases gg with ⟨cs',ecs,g0,g2,g25,g3,g4⟩ | gg
        rotate_left
        ·exact .inr gg
        refine .inl ⟨cs',ecs,g0,g2,g25,g3,fun o a ha=>?_⟩
        obtain ⟨q,q1,q2⟩:=g4 o a ha
        refine ⟨q,q1,?_⟩
        rcases q2 with ⟨m,i,e1,e2,e3⟩ | q2
        ·refine .inl ⟨o1.length+m,i,by rw [e1,Nat.add_assoc],?_,e3⟩
         rw [Cs (by omega)]
         simpa using e2
        ·exact .inr q2
  ·rename_i t e xs hb
   exact mu t e xs (.inl hb) h
  ·rename_i t e xs hb
   exact mu t e xs (.inr hb) h
  ·cases h
structure mF (st:List AX) (nv:Nat) (ml:List Nat) (est:List AX):Prop where
 len:est.length=ml.length
 nvl:nv<=ml.length
 get:∀ (k:Nat) (b:AX),est[k]? = some b->∃ i,ml[k]? = some i/\((k<nv/\∃ cs ecs:List AV,st[i]? = some (AX.var cs)/\b=AX.var ecs/\ecs.length=cs.length/\∀ (o:Nat) (a:AV),ecs[o]? = some a ->
   ∃ c,cs[o]? = some c/\((∃ q j:Nat,a=AV.row q/\ml[q]? = some j/\c=AV.row j/\nv<=q)\/(a.solid=true/\c.solid=true/\∀ (H:HP) (u:Value),VF H c u->VF H a u)\/(∃ (i:Nat) (e:Kd),∃ xs:List (Kd.T e),a=AV.lst e xs/\c=AV.row i/\st[i]? = some (AX.frz e xs)))) \/
  (nv<=k/\∃ (t:TypeId) (e:Kd),∃ xs:List (Kd.T e),st[i]? = some (AX.rows t e xs)/\b=AX.rows t e xs) \/
  (k<nv/\∃ (t:TypeId) (e:Kd),∃ xs:List (Kd.T e),(st[i]? = some (AX.rows t e xs)\/st[i]? = some (AX.mrow t e xs))/\b=AX.mrow t e xs))
theorem AD_ {ids:List (Nat×Kd)} {bx args:List AV} {owns movs:List Nat} (f:Pp st ids bx owns) (hc:AT (cellsOf args)=movs.length)
  (hm:∀ (m:Nat) (b:AX),(BM (cellsOf args))[m]? = some b->∃ (i:Nat) (t:TypeId) (e:Kd),∃ xs:List (Kd.T e),movs[m]? = some i/\st[i]? = some (AX.rows t e xs)/\b=AX.rows t e xs) :
  mF st ids.length (ids.map (·.1)++owns++movs) (Bo bx args):=by
 refine ⟨by rw [Xz,f.len,f.cnt,hc]; simp [Nat.add_assoc],by simp [Nat.add_assoc],fun k b hk=>?_⟩
 rw [KX] at hk
 rcases CF k bx.length with hl | hl
 ·rw [BO (by rw [Bm]; exact hl),NQ bx _ k bx[k] (by simp)] at hk
  cases hk
  obtain ⟨p,g1,gg⟩:=f.vars bx.length k bx[k] (by simp)
  have hk2:k<ids.length:=by rw [<- f.len]; exact hl
  refine ⟨p.1,by rw [Bf,BO (by simpa using hk2),Cd,g1]; rfl,?_⟩
  rcases gg with ⟨cs,ecs,_,g2,g25,g3,g4⟩ | ⟨t,e,xs,_,g2,g25⟩
  rotate_left
  ·exact .inr (.inr ⟨hk2,t,e,xs,g2,g25⟩)
  refine .inl ⟨hk2,cs,ecs,g2,g25,g3,fun o a ha=>?_⟩
  obtain ⟨c,c1,c2⟩:=g4 o a ha
  refine ⟨c,c1,?_⟩
  rcases c2 with ⟨m,i,e1,e2,e3⟩ | c2
  ·refine .inl ⟨bx.length+m,i,e1,?_,e3,by rw [f.len]; omega⟩
   rw [f.len,Bf,Cs (by simp)]
   simp only [List.length_map,Nat.add_sub_cancel_left]
   rw [BO (As.1 e2).1]
   exact e2
  ·exact .inr c2
 ·rw [Cs (by rw [Bm]; exact hl),Bm] at hk
  rw [CW] at hk
  have hk2:ids.length<=k:=by rw [<- f.len]; exact hl
  have e0:k-bx.length=k-ids.length:=by rw [f.len]
  rw [e0] at hk
  have hidx:(ids.map (·.1)++owns++movs)[k]? = (owns++movs)[k-ids.length]? := by
   rw [Bf,Cs (by simpa using hk2)]
   simp
  rcases CF (k-ids.length) (BM (Bs bx)).length with h1 | h1
  ·rw [BO h1] at hk
   obtain ⟨i,t,e,xs,g1,g2,g3⟩:=f.rows _ b hk
   exact ⟨i,by rw [hidx,BO (As.1 g1).1]; exact g1,.inr (.inl ⟨hk2,t,e,xs,g2,g3⟩)⟩
  ·rw [Cs h1] at hk
   obtain ⟨i,t,e,xs,g1,g2,g3⟩:=hm _ b hk
   rw [EZ,f.cnt] at h1 g1
   exact ⟨i,by rw [hidx,Cs h1]; exact g1,.inr (.inl ⟨hk2,t,e,xs,g2,g3⟩)⟩
theorem mF.at {nv:Nat} {ml:List Nat} {est:List AX} (h:mF st nv ml est) {k i:Nat} (hk:ml[k]? = some i):∃ b,est[k]? = some b:=by
 have:k<est.length:=by rw [h.len]; exact (As.1 hk).1
 exact ⟨est[k],by simp⟩
theorem IR {ml:List Nat} {k i:Nat} (h:ml[k]? = some i):ml.getD k 0=i:=by simp [List.getD,h]
theorem mF.sr {nv:Nat} {ml:List Nat} {est st1:List AX} {H1:HP} (h:mF st nv ml est) (hd:ml.Nodup) (hs:SR H1 φ st1 w) (hsame:∀ i∈ml,st1[i]? = st[i]?) (hfrz:∀ (i:Nat) (e:Kd) (xs:List e.T),st[i]? = some (AX.frz e xs)->st1[i]? = some (AX.frz e xs)) :
  SR H1 (fun k=>φ (ml.getD k 0)) est w:=by
 have old:∀ {k i:Nat},ml[k]? = some i->st1[i]? = st[i]? := fun hk=>hsame _ (List.mem_of_getElem? hk)
 refine Ak.pick hs (fun k=>ml.getD k 0) (fun k b hk=>?_) (fun k b hk hl=>.inr ?_) (fun k k' b b' hk hk' _ _ _ _ e=>?_) (fun k ecs hk o q hq=>?_)
 ·obtain ⟨i,hi,hc⟩:=h.get k b hk
  simp only [IR hi]
  rcases hc with ⟨_,cs,ecs,g1,rfl,g3,g4⟩ | ⟨_,t,e,xs,g1,rfl⟩ | ⟨_,t,e,xs,g1,rfl⟩
  ·obtain ⟨b0,c,el,e1,e2,e3⟩:=hs.box i _ ((old hi).trans g1)
   refine ⟨b0,c,el,e1,e2,VR (by rw [e3.length,g3]) fun o a u ha hu=>?_⟩
   obtain ⟨c0,c1,c2⟩:=g4 o a ha
   rcases c2 with ⟨q,j,rfl,_⟩ | ⟨s1,s2,s3⟩ | ⟨j,e,xs,rfl,rfl,hj⟩
   ·trivial
   ·have hw:=e3.at c1 hu
    have hf:VF H1 c0 u:=by cases c0<;>first | exact hw | cases s2
    exact VW.of_VF (s3 H1 u hf)
   ·obtain ⟨d1,b2,d2,d3⟩:=hs.cell i cs ((old hi).trans g1) o j c1
    rw [e1] at d2
    cases d2
    simp only [World.cell?,e2] at d3
    rw [Array.getElem?_toList] at hu
    simp only [Option.isSome_none,Bool.false_eq_true,if_false] at d3
    rw [hu] at d3
    cases d3
    exact (hs.box j _ (hfrz j e xs hj)).1
  ·exact hs.box i _ ((old hi).trans g1)
  ·rcases g1 with g1 | g1
   ·have h:NN H1 w (φ i) (.rows t e xs):=hs.box i _ ((old hi).trans g1)
    exact h
   ·exact hs.box i _ ((old hi).trans g1)
 ·obtain ⟨i,hi,hc⟩:=h.get k b hk
  simp only [IR hi]
  rcases hc with ⟨_,cs,ecs,g1,rfl,g3,g4⟩ | ⟨_,t,e,xs,g1,rfl⟩ | ⟨_,t,e,xs,g1,rfl⟩
  ·exact ⟨_,(old hi).trans g1,rfl,trivial⟩
  ·exact ⟨_,(old hi).trans g1,rfl,trivial⟩
  ·rcases g1 with g1 | g1
   ·exact ⟨_,(old hi).trans g1,rfl,trivial⟩
   ·exact ⟨_,(old hi).trans g1,rfl,trivial⟩
 ·obtain ⟨i,hi,_⟩:=h.get k b hk
  obtain ⟨i',hi',_⟩:=h.get k' b' hk'
  simp only [IR hi,IR hi'] at e
  subst e
  exact (List.getElem?_inj (As.1 hi).1 hd).1 (hi.trans hi'.symm)
 ·obtain ⟨i,hi,hc⟩:=h.get k _ hk
  rcases hc with ⟨_,cs,ecs',g1,e,g3,g4⟩ | ⟨_,t,e,xs,g1,e2⟩ | ⟨_,t,e,xs,g1,e2⟩
  ·cases e
   obtain ⟨c0,c1,c2⟩:=g4 o _ hq
   rcases c2 with ⟨q',j,e,hj,rfl,hle⟩ | ⟨s1,_⟩ | ⟨_,_,_,e,_⟩
   ·cases e
    obtain ⟨d1,b0,d2,d3⟩:=hs.cell i cs ((old hi).trans g1) o j c1
    obtain ⟨bq,hbq⟩:=h.at hj
    obtain ⟨j',hj',hcq⟩:=h.get q bq hbq
    refine ⟨?_,b0,by simp only [IR hi]; exact d2,by simp only [IR hj]; exact d3⟩
    rcases hcq with ⟨hlt,_⟩ | ⟨_,t,e,xs,_,rfl⟩ | ⟨hlt,_⟩
    ·omega
    ·simp only [AQ,hbq]; rfl
    ·omega
   ·cases s1
   ·cases e
  ·cases e2
  ·cases e2
theorem mF.fr {nv:Nat} {ml:List Nat} {est:List AX} {H1:HP} (h:mF st nv ml est) (φ2:CQ):Fr nv ml.length H1 φ2 w H1 φ2 est w:=by
 refine ⟨rfl,rfl,rfl,Nat.le_refl _,fun _ _ _=>rfl,fun _ _=>rfl,fun k b hk hl b0 hb=>.inr ⟨k,?_,hb⟩,fun j hj=>?_,fun _ _ _=>rfl⟩
 ·rw [<- h.len]; exact (As.1 hk).1
 ·have hj2:j<est.length:=by rw [h.len]; exact Nat.lt_of_lt_of_le hj h.nvl
  obtain ⟨i,hi,hc⟩:=h.get j est[j] (by simp)
  rcases hc with ⟨_,cs,ecs,_,e,_⟩ | ⟨hle,_⟩ | ⟨_,t,k,xs,_,e⟩
  ·unfold Ae; rw [List.getElem?_eq_getElem hj2,e]; rfl
  ·omega
  ·unfold Ae; rw [List.getElem?_eq_getElem hj2,e]; rfl
theorem Gj.flat {H H':HP}:∀ {K:Kd} {x:K.T} {cs:List Value},K.flat=true->Gj H K x cs->Gj H' K x cs
 | .int _,_,_,_,h=>h
 | .bool,_,_,_,h=>h
 | .str,_,_,_,h=>h
 | .slice _,_,_,hf,_=>by cases hf
 | .pair _ _,_,_,hf,⟨c1,c2,h,h1,h2⟩=>by
  simp only [Kd.flat,AE] at hf
  exact ⟨c1,c2,h,Gj.flat hf.1 h1,Gj.flat hf.2 h2⟩
 | .own _ _,_,_,hf,_=>by cases hf
 | .ref _,_,_,hf,_=>by cases hf
theorem VW.flat {H H':HP} {p:Value} {el:TypeId} {a:AV} {v:Value} (hf:a.flat=true) (h:VW H p el a v):VW H' p el a v:=by
 cases a<;>first | exact h | trivial | cases hf
theorem VC.flat {H H':HP} {a:AV} {v:Value} (hf:a.flat=true) (h:VC H φ st a v):VC H' φ st a v:=by
 cases a<;>first | exact h | trivial | cases hf
theorem VB.flat {H H':HP} {a:AV} {v:Value} (hf:a.flatV=true) (h:VB H φ st a v):VB H' φ st a v:=by
 rcases h.cases with ⟨cs,arr,rfl,e,h⟩ | h
 ·exact ⟨arr,e,h.impM fun a ha _ g=>g.flat (Bp.1 hf a ha)⟩
 ·cases a<;>first | exact h.elim | exact VB.of_VC (h.flat (by first | exact hf | rfl))
theorem NN.flat {H H':HP} {bx:AX} {v:Value} (hf:bx.flat=true) (h:NN H w v bx):NN H' w v bx:=by
 cases bx with
 | var cs=>obtain ⟨b,c,el,e1,e2,e3⟩:=h; exact ⟨b,c,el,e1,e2,e3.impM fun a ha _ g=>g.flat (Bp.1 hf a ha)⟩
 | rows t K xs=>obtain ⟨flat,h1,h2⟩:=h; exact ⟨flat,h1,fun j x hx=>(h2 j x hx).flat hf⟩
 | mrow t K xs=>obtain ⟨flat,h1,h2⟩:=h; exact ⟨flat,h1,fun j x hx=>(h2 j x hx).flat hf⟩
 | byt t xs=>exact h
 | frz K xs=>cases hf
 | dead=>cases hf
theorem NN.mono {H H':HP} (hH:H.le H') {bx:AX} {v:Value} (h:NN H w v bx):NN H' w v bx:=by
 cases bx with
 | var cs=>obtain ⟨b,c,el,e1,e2,e3⟩:=h; exact ⟨b,c,el,e1,e2,e3.imp fun _ _ g=>g.mono hH⟩
 | rows t K xs=>obtain ⟨flat,h1,h2⟩:=h; exact ⟨flat,h1,fun j x hx=>(h2 j x hx).mono hH⟩
 | mrow t K xs=>obtain ⟨flat,h1,h2⟩:=h; exact ⟨flat,h1,fun j x hx=>(h2 j x hx).mono hH⟩
 | byt t xs=>exact h
 | frz K xs=>exact ⟨Po (fun _ _ h=>Gj.mono hH h) hH h.1,h.2⟩
 | dead=>trivial
theorem NN.ren {f:Nat->Nat} {bx:AX} {v:Value} (h:NN H w v bx):NN H w v (bx.ren f):=by
 cases bx with
 | var cs =>
  obtain ⟨b,c,el,e1,e2,e3⟩:=h
  refine ⟨b,c,el,e1,e2,e3.map fun a u g=>?_⟩
  cases a<;>first | exact g | trivial | exact g.elim
 | _=>exact h
theorem rh {w w':World} {t t':TypeId} {z z' n n':Nat} {v:Value} {f f':List Value} (h:w.ownsRow 0 t z v n f) (g:w'.ownsRow 0 t' z' v n' f'):n=n':=by
 rcases h.2 with ⟨e,hn⟩ | ⟨_,_,_,e,_⟩<;>rcases g.2 with ⟨e2,gn⟩ | ⟨_,_,_,e2,_⟩<;>rw [e] at e2<;>simp_all
theorem mG {f:Nat->Nat} {bx:AX}:(bx.ren f).live=bx.live:=by cases bx<;>rfl
theorem AEA {f:Nat->Nat} {st2 est:List AX} {k:Nat} {b:AX} (h1:est[k]? = some b) (h2:st2[f k]? = some (b.ren f)):AQ st2 (f k)=AQ est k/\An st2 (f k)=An est k:=by
 unfold AQ An
 rw [h1,h2]
 cases b<;>exact ⟨rfl,rfl⟩
structure ABq (H:HP) (φ:CQ) (st:List AX) (w:World) (nv:Nat) (back gone bors:List Nat) (H1:HP) (est:List AX):Prop where
 sr:SR H φ st w
 entry:mF st nv (back++gone) est
 nd:(back++gone).Nodup
 bor:∀ i∈bors,∃ (t:TypeId) (K:Kd),∃ xs:List (Kd.T K),st[i]? = some (AX.rows t K xs)
 apart:∀ i∈bors,i∉back++gone
 le:H.le H1
 lent:∀ b,(∀ i∈bors,ED (φ i)≠some b)->H1 b=H b
 nvb:nv<=back.length
open Classical in
theorem ABq.back {nv:Nat} {back gone bors:List Nat} {H1 H':HP} {φ':CQ} {est est':List AX} (B:ABq H φ st w nv back gone bors H1 est)
  (hs':SR H' φ' est' w') (hle:H1.le H') (f:Fr nv (back++gone).length H1 (fun k=>φ ((back++gone).getD k 0)) w H' φ' est' w') (hlen:back.length<=est'.length)
  (hkd:∀ (k i:Nat),k<nv->back[k]? = some i->(∀ cs:List AV,st[i]? = some (AX.var cs)->∃ cs':List AV,est'[k]? = some (AX.var cs'))/\(∀ (t:TypeId) (K:Kd) (xs:List K.T),st[i]? = some (AX.rows t K xs)\/st[i]? = some (AX.mrow t K xs)->∃ xs':List (Kd.T K),est'[k]? = some (AX.mrow t K xs')))
  (hflat:bors=[]\/est'.all AX.flat=true) :
  ∃ H2 φ2,Ak H φ st w H2 φ2 (R2 st nv back gone est') w'/\(∀ (i:Nat) (bi:AX),st[i]? = some bi->bi.live=true->i∉back->i∉gone->∀ b,ED (φ i)=some b->w'.heap[b]? = w.heap[b]?)/\C7 φ st φ2 (R2 st nv back gone est') (back.drop nv++gone) /\
   (∀ a v,(bors=[]\/a.flatV=true)->VB H' φ' est' a v->VB H2 φ2 (R2 st nv back gone est') (a.renV (NF back st.length)) v):=by
 have hs:=B.sr
 have hndb:back.Nodup:=(List.nodup_append.1 B.nd).1
 have hdis:∀ i∈back,i∉gone:=fun i h1 h2=>(List.nodup_append.1 B.nd).2.2 i h1 i h2 rfl
 have hand:∀ (k i:Nat),(back++gone)[k]? = some i->∃ b,st[i]? = some b/\b.live=true/\(nv<=k->Ae st i=false)/\∀ t xs,b≠AX.byt t xs:=by
  intro k i hk
  obtain ⟨eb,heb⟩:=B.entry.at hk
  obtain ⟨i',hi',hc⟩:=B.entry.get k eb heb
  rw [hk] at hi'
  cases hi'
  rcases hc with ⟨h1,cs,ecs,h2,_⟩ | ⟨h1,t,e,xs,h2,_⟩ | ⟨h1,t,e,xs,h2 | h2,_⟩
  ·exact ⟨_,h2,rfl,fun h=>by omega,fun _ _ e=>by cases e⟩
  ·exact ⟨_,h2,rfl,fun _=>(by simp only [Ae,h2]; rfl),fun _ _ e=>by cases e⟩
  ·exact ⟨_,h2,rfl,fun h=>by omega,fun _ _ e=>by cases e⟩
  ·exact ⟨_,h2,rfl,fun h=>by omega,fun _ _ e=>by cases e⟩
 have hlt:∀ i∈back,i<st.length:=fun i hi=>by
  obtain ⟨k,hk,rfl⟩:=EX hi
  obtain ⟨b,hb,_⟩:=hand k back[k] (by rw [BO hk]; simp)
  exact (As.1 hb).1
 have hgt:∀ i∈gone,i<st.length:=fun i hi=>by
  obtain ⟨k,hk⟩:=List.mem_iff_getElem?.1 (List.mem_append_right back hi)
  obtain ⟨b,hb,_⟩:=hand k i hk
  exact (As.1 hb).1
 have G:=AD8 (nv:=nv) hndb hdis hlt hlen
 generalize hst2:R2 st nv back gone est'=st2 at G ⊢
 let ren:=NF back st.length
 have inj:∀ {k k'},ren k=ren k'->k=k':=fun h=>AD9 (st:=st) hndb hlt h
 have renB:∀ k (h:k<back.length),ren k=back[k]:=fun k h=>by simp [ren,NF,h,List.getD]
 have renO:∀ k,back.length<=k->ren k=st.length+(k-back.length):=fun k h=>by simp only [ren,NF]; rw [if_neg (by omega)]
 have ofC:∀ (k:Nat) (b:AX),est'[k]? = some b->∃ b':AX,st2[ren k]? = some (b'.ren ren)/\b'.live=b.live/\(∀ {H:HP} {w:World} {v:Value},NN H w v b->NN H w v b')/\(∀ cs,b'=.var cs->b=.var cs) /\
   AQ st2 (ren k)=AQ est' k/\An st2 (ren k)=An est' k:=by
  intro k b hb
  obtain ⟨b',g,hc⟩:=G.ofCallee k b hb
  rcases hc with rfl | ⟨t,K,xs,_,rfl,rfl,_⟩
  ·have:=AEA (f:=ren) hb g
   exact ⟨b',g,rfl,fun h=>h,⟨fun _ h=>h,this.1,this.2⟩⟩
  ·refine ⟨.rows t K xs,g,rfl,fun {H w v} h=>h,⟨fun _ h=>(by cases h),?_,?_⟩⟩
   ·simp only [AQ,hb,show st2[ren k]? = _ from g,AX.ren]
   ·simp only [An,hb,show st2[ren k]? = _ from g,AX.ren]
 let Lent:Nat->Prop:=fun b=>∃ i∈bors,ED (φ i)=some b
 let H2:HP:=fun b=>if Lent b then none else H' b
 let φ2:CQ:=fun i=>match Xy back i with
  | some k=>φ' k
  | none=>if i<st.length then φ i else φ' (back.length+(i-st.length))
 have φren:∀ k,φ2 (ren k)=φ' k:=by
  intro k
  by_cases h:k<back.length
  ·have:Xy back (ren k)=some k:=by rw [renB k h]; exact ACW hndb (by simp)
   simp only [φ2,this]
  ·have e:=renO k (by omega)
   have:Xy back (ren k)=none:=by
    cases hq:Xy back (ren k) with
    | none=>rfl
    | some q=>have:=hlt _ (List.mem_of_getElem? (YQ hq)); omega
   simp only [φ2,this]
   rw [if_neg (by omega),e]
   congr 1
   omega
 have φoth:∀ i,i∉back->i<st.length->φ2 i=φ i:=by
  intro i h1 h2
  have:Xy back i=none:=by
   cases hq:Xy back i with
   | none=>rfl
   | some q=>exact absurd (List.mem_of_getElem? (YQ hq)) h1
  simp only [φ2,this]
  rw [if_pos h2]
 have nlent:∀ b,¬ Lent b->H2 b=H' b:=fun b h=>by simp only [H2]; rw [if_neg h]
 have lentN:∀ b,Lent b->H2 b=none:=fun b h=>by simp only [H2]; rw [if_pos h]
 have lentH:∀ b,Lent b->H b=none:=by
  rintro b ⟨i,hi,hb⟩
  obtain ⟨t,K,xs,hx⟩:=B.bor i hi
  exact hs.out i _ hx rfl b hb
 have lentL:∀ b,Lent b->b<w.heap.size:=by
  rintro b ⟨i,hi,hb⟩
  obtain ⟨t,K,xs,hx⟩:=B.bor i hi
  exact (hs.box i _ hx).blk_lt rfl hb
 have hle2:H.le H2:=by
  intro b o hb
  have h1:¬ Lent b:=fun h=>by rw [lentH b h] at hb; cases hb
  rw [nlent b h1]
  exact hle b o (B.le b o hb)
 have aside:∀ i bi,st[i]? = some bi->bi.live=true->i∉back->i∉gone->∀ b,ED (φ i)=some b->b<w.heap.size/\(∀ k,k<(back++gone).length->ED (φ ((back++gone).getD k 0))≠some b):=by
  intro i bi hi hl h1 h2 b hb
  refine ⟨(hs.box i bi hi).blk_lt hl hb,fun k hk e=>?_⟩
  have hk2:(back++gone)[k]? = some (back++gone)[k]:=by simp
  rw [IR hk2] at e
  obtain ⟨b2,g1,g2,_⟩:=hand k _ hk2
  have hne:(back++gone)[k]≠i:=fun e2=>by
   have:i∈back++gone:=e2▸BC hk
   rcases CV.1 this with h | h
   ·exact h1 h
   ·exact h2 h
  exact hs.sep _ i b2 bi g1 hi g2 hl hne b e hb
 have memo:∀ i bi,st[i]? = some bi->bi.live=true->i∉back->i∉gone->∀ b,ED (φ i)=some b->w'.heap[b]? = w.heap[b]? := by
  intro i bi hi hl h1 h2 b hb
  obtain ⟨g1,g2⟩:=aside i bi hi hl h1 h2 b hb
  exact f.old b g1 g2
 have H2old:∀ b,b<w.heap.size->(∀ k,k<(back++gone).length->ED (φ ((back++gone).getD k 0))≠some b)->H2 b=H b:=by
  intro b h1 h2
  by_cases hl:Lent b
  ·rw [lentN b hl,lentH b hl]
  ·rw [nlent b hl,f.frz b h1 h2,B.lent b fun i hi e=>hl ⟨i,hi,e⟩]
 have calleeBox:∀ k b,est'[k]? = some b->NN H2 w' (φ' k) b:=by
  intro k b hk
  have h1:=hs'.box k b hk
  rcases hflat with h | h
  ·have:H2=H':=by
    funext b
    exact nlent b fun ⟨i,hi,_⟩=>by rw [h] at hi; cases hi
   rw [this]
   exact h1
  ·exact h1.flat (Bp.1 h b (List.mem_of_getElem? hk))
 have otherBox:∀ (i:Nat) (b:AX),i∉back->i∉gone->st[i]? = some b->NN H2 w' (φ i) (b.kill (back.drop nv++gone)):=by
  intro i b h1 h2 hi
  have h3:=(hs.kill (back.drop nv++gone)).box i (b.kill (back.drop nv++gone)) (by rw [Cd,hi]; rfl)
  have h4:=memo i b hi
  refine NN.mono hle2 ?_
  cases b with
  | var cs =>
   obtain ⟨b0,c,el,e1,e2,e3⟩:=h3
   exact ⟨b0,c,el,e1,by rw [h4 rfl h1 h2 b0 (by rw [e1]; rfl)]; exact e2,e3⟩
  | rows t K xs =>
   obtain ⟨flat,⟨g1,g2⟩,g3⟩:=h3
   refine ⟨flat,⟨g1,?_⟩,g3⟩
   rcases g2 with g2 | ⟨g,cap,cur,e1,e2,e3,e4⟩
   ·exact .inl g2
   ·exact .inr ⟨g,cap,cur,e1,e2,by rw [h4 rfl h1 h2 g (by rw [e1]; rfl)]; exact e3,e4⟩
  | mrow t K xs =>
   obtain ⟨flat,⟨g1,g2⟩,g3⟩:=h3
   refine ⟨flat,⟨g1,?_⟩,g3⟩
   rcases g2 with g2 | ⟨g,cap,cur,e1,e2,e3,e4⟩
   ·exact .inl g2
   ·exact .inr ⟨g,cap,cur,e1,e2,by rw [h4 rfl h1 h2 g (by rw [e1]; rfl)]; exact e3,e4⟩
  | byt t xs =>
   obtain ⟨g,cap,cur,fz,e1,e2,e3⟩:=h3
   exact ⟨g,cap,cur,fz,e1,by rw [h4 rfl h1 h2 g (by rw [e1]; rfl)]; exact e2,e3⟩
  | frz K xs=>exact h3
  | dead=>trivial
 have killLive:∀ {b:AX},(b.kill (back.drop nv++gone)).live=b.live:=fun {b}=>by cases b<;>rfl
 have hvarB:∀ (k i:Nat),k<nv->back[k]? = some i->φ2 i=φ i/\AQ st2 i=AQ st i/\An st2 i=An st i/\Ae st2 i=Ae st i:=by
  intro k i hkn hbk
  have hk:k<back.length:=(As.1 hbk).1
  have hk2:(back++gone)[k]? = some i:=by rw [BO hk]; exact hbk
  obtain ⟨b,hb,hl,_,hnb⟩:=hand k _ hk2
  have e1:φ2 (ren k)=φ' k:=φren k
  have eik:ren k=i:=by rw [renB k hk]; exact (As.1 hbk).2
  rw [eik] at e1
  have e2:=f.same k hkn
  simp only [IR hk2] at e2
  obtain ⟨c1,c2⟩:=hkd k i hkn hbk
  have len:∀ (t:TypeId) (K:Kd) (xs xs':List (Kd.T K)),(NN H w (φ i) (.rows t K xs)\/NN H w (φ i) (.mrow t K xs))->est'[k]? = some (AX.mrow t K xs')->xs'.length=xs.length:=by
   intro t K xs xs' h hq
   obtain ⟨_,o2,_⟩:=hs'.box k _ hq
   rw [e2] at o2
   rcases h with ⟨_,o1,_⟩ | ⟨_,o1,_⟩
   ·exact rh o2 o1
   ·exact rh o2 o1
  refine ⟨e1.trans e2,?_⟩
  cases b with
  | var cs =>
   obtain ⟨cs',hq⟩:=c1 cs hb
   have g:=G.ret k i _ _ hq hbk hb
   simp only [AQ,An,Ae,g,hb,uI,AX.ren,AX.hold,and_self]
  | rows t K xs =>
   obtain ⟨xs',hq⟩:=c2 t K xs (.inl hb)
   have g:=G.ret k i _ _ hq hbk hb
   simp only [AQ,An,Ae,g,hb,uI,AX.ren,AX.hold,and_self,len t K xs xs' (.inl (hs.box i _ hb)) hq]
  | mrow t K xs =>
   obtain ⟨xs',hq⟩:=c2 t K xs (.inr hb)
   have g:=G.ret k i _ _ hq hbk hb
   simp only [AQ,An,Ae,g,hb,uI,AX.ren,AX.hold,and_self,len t K xs xs' (.inr (hs.box i _ hb)) hq]
  | byt t xs=>exact absurd rfl (hnb t xs)
  | frz K xs=>cases hl
  | dead=>cases hl
 have hvarO:∀ i,i∉back->i∉gone->i<st.length->φ2 i=φ i/\AQ st2 i=AQ st i/\An st2 i=An st i/\Ae st2 i=Ae st i:=by
  intro i h1 h2 h3
  have hib:st[i]? = some st[i]:=by simp
  refine ⟨φoth i h1 h3,?_,?_,?_⟩
  rotate_right
  ·rw [<- HM (Ai (back.drop nv++gone)) st i]
   unfold Ae
   rw [G.other i _ h1 h2 hib,Cd,hib]; rfl
  ·rw [<- IP (Ai (back.drop nv++gone)) st i]
   unfold AQ
   rw [G.other i _ h1 h2 hib,Cd,hib]; rfl
  ·rw [<- GY (Ai (back.drop nv++gone)) st i]
   unfold An
   rw [G.other i _ h1 h2 hib,Cd,hib]; rfl
 have hsr:SR H2 φ2 st2 w':=by
  refine ⟨fun b o hb=>?_,fun i b hi=>?_,fun i j bi bj hi hj li lj hij b hbi hbj=>?_,fun i bi hi li b hb=>?_,fun i cs hi o q hq=>?_,hs.tb.le hle2⟩
  ·by_cases hl:Lent b
   ·rw [lentN b hl] at hb; cases hb
   ·rw [nlent b hl] at hb
    exact hs'.hp b o hb
  ·rcases G.cases i b hi with ⟨k,hk,rfl⟩ | ⟨h1,h2,h3⟩ | ⟨_,rfl⟩
   ·obtain ⟨b',g,_,gb,_⟩:=ofC k est'[k] (by simp)
    rw [hi] at g
    cases g
    rw [show φ2 (NF back st.length k)=φ' k from φren k]
    exact (gb (calleeBox k _ (by simp))).ren
   ·have hib:st[i]? = some st[i]:=by simp
    have g:=G.other i _ h2 h3 hib
    rw [hi] at g
    cases g
    rw [φoth i h2 h1]
    exact otherBox i _ h2 h3 hib
   ·trivial
  ·-- sep
   have key:∀ k i bi,k<est'.length->st2[ren k]? = some bi->bi.live=true->i<st.length->i∉back->i∉gone->∀ b',st[i]? = some b'->b'.live=true->∀ b,ED (φ' k)=some b->ED (φ i)≠some b:=by
    intro k i bi hk hbk hl h1 h2 h3 b' hb' lb' b hb e
    obtain ⟨g1,g2⟩:=aside i b' hb' lb' h2 h3 b e
    obtain ⟨b2,g,gl,_⟩:=ofC k est'[k] (by simp)
    rw [hbk] at g
    cases g
    rcases f.new k est'[k] (by simp) (by rw [mG,gl] at hl; exact hl) b hb with h | ⟨j,hj,h⟩
    ·omega
    ·exact g2 j hj h
   rcases G.cases i bi hi with ⟨k,hk,rfl⟩ | ⟨h1,h2,h3⟩ | ⟨_,rfl⟩
   ·rw [show φ2 (NF back st.length k)=φ' k from φren k] at hbi
    rcases G.cases j bj hj with ⟨k',hk',rfl⟩ | ⟨g1,g2,g3⟩ | ⟨_,rfl⟩
    ·rw [show φ2 (NF back st.length k')=φ' k' from φren k'] at hbj
     obtain ⟨_,e1,l1,_⟩:=ofC k est'[k] (by simp)
     obtain ⟨_,e2,l2,_⟩:=ofC k' est'[k'] (by simp)
     rw [hi] at e1
     rw [hj] at e2
     cases e1
     cases e2
     rw [mG] at li lj
     rw [l1] at li
     rw [l2] at lj
     exact hs'.sep k k' _ _ (by simp) (by simp) li lj (fun e=>hij (by rw [e])) b hbi hbj
    ·rw [φoth j g2 g1] at hbj
     have hjb:st[j]? = some st[j]:=by simp
     have g:=G.other j _ g2 g3 hjb
     rw [hj] at g
     cases g
     exact key k j bi hk hi li g1 g2 g3 _ hjb (killLive▸lj) b hbi hbj
    ·cases lj
   ·rw [φoth i h2 h1] at hbi
    have hib:st[i]? = some st[i]:=by simp
    have g:=G.other i _ h2 h3 hib
    rw [hi] at g
    cases g
    rcases G.cases j bj hj with ⟨k',hk',rfl⟩ | ⟨g1,g2,g3⟩ | ⟨_,rfl⟩
    ·rw [show φ2 (NF back st.length k')=φ' k' from φren k'] at hbj
     exact key k' i bj hk' hj lj h1 h2 h3 _ hib (killLive▸li) b hbj hbi
    ·rw [φoth j g2 g1] at hbj
     have hjb:st[j]? = some st[j]:=by simp
     have g:=G.other j _ g2 g3 hjb
     rw [hj] at g
     cases g
     exact hs.sep i j _ _ hib hjb (killLive▸li) (killLive▸lj) hij b hbi hbj
    ·cases lj
   ·cases li
  ·rcases G.cases i bi hi with ⟨k,hk,rfl⟩ | ⟨h1,h2,h3⟩ | ⟨_,rfl⟩
   ·rw [show φ2 (NF back st.length k)=φ' k from φren k] at hb
    obtain ⟨_,e1,l1,_⟩:=ofC k est'[k] (by simp)
    rw [hi] at e1
    cases e1
    rw [mG,l1] at li
    by_cases hl:Lent b
    ·exact lentN b hl
    ·rw [nlent b hl]
     exact hs'.out k _ (by simp) li b hb
   ·rw [φoth i h2 h1] at hb
    have hib:st[i]? = some st[i]:=by simp
    have g:=G.other i _ h2 h3 hib
    rw [hi] at g
    cases g
    obtain ⟨g1,g2⟩:=aside i _ hib (killLive▸li) h2 h3 b hb
    rw [H2old b g1 g2]
    exact hs.out i _ hib (killLive▸li) b hb
   ·cases li
  ·rcases G.cases i _ hi with ⟨k,hk,rfl⟩ | ⟨h1,h2,h3⟩ | ⟨_,e⟩
   ·obtain ⟨bk',e1,_,_,lv,_⟩:=ofC k est'[k] (by simp)
    rw [hi] at e1
    have hek:est'[k]? = some est'[k]:=by simp
    generalize est'[k]=bk at e1 hek lv
    cases bk' with
    | var cs0 =>
     simp only [AX.ren,BT,AX.var.injEq] at e1
     subst e1
     have lv:=lv cs0 rfl
     subst lv
     rw [Cd] at hq
     cases hc:cs0[o]? with
     | none=>rw [hc] at hq; cases hq
     | some c =>
      rw [hc] at hq
      cases c<;>simp only [Option.map_some,AV.ren,BT] at hq<;>try cases hq
      rename_i q0
      obtain ⟨d1,b0,d2,d3⟩:=hs'.cell k cs0 hek o q0 hc
      have hq0:∃ bq,est'[q0]? = some bq:=⟨est'[q0]'(My d1),by simp [My d1]⟩
      obtain ⟨bq,hbq⟩:=hq0
      refine ⟨?_,b0,?_,?_⟩
      ·obtain ⟨_,_,_,_,_,kk,_⟩:=ofC q0 bq hbq
       rw [kk]; exact d1
      ·rw [show φ2 (NF back st.length k)=φ' k from φren k]; exact d2
      ·rw [show φ2 (NF back st.length q0)=φ' q0 from φren q0]; exact d3
    | _=>cases e1
   ·have hib:st[i]? = some st[i]:=by simp
    have g:=G.other i _ h2 h3 hib
    rw [hi] at g
    have hkl:(st.map (AX.kill (back.drop nv++gone)))[i]? = some (.var cs):=by rw [Cd,hib,Option.map_some]; exact g.symm
    have hn:=B7.1 (TS hkl hq)
    obtain ⟨d1,b0,d2,d3⟩:=(hs.kill (back.drop nv++gone)).cell i cs hkl o q hq
    rw [IP (Ai _)] at d1
    have hql:=My d1
    have hq2:q∉gone:=fun h=>hn (List.mem_append_right _ h)
    have hsame:φ2 q=φ q/\AQ st2 q=AQ st q:=by
     by_cases hq1:q∈back
     ·obtain ⟨k,hk,e⟩:=EX hq1
      have hkn:k<nv:=by
       rcases CF k nv with h | h
       ·exact h
       ·have:q∈back.drop nv:=by
         rw [<- e]
         exact List.mem_iff_getElem?.2 ⟨k-nv,by rw [DC,show nv+(k-nv)=k by omega]; simp⟩
        exact absurd (List.mem_append_left _ this) hn
      obtain ⟨c1,c2,_⟩:=hvarB k q hkn (by simp [hk,e])
      exact ⟨c1,c2⟩
     ·obtain ⟨c1,c2,_⟩:=hvarO q hq1 hq2 hql
      exact ⟨c1,c2⟩
    refine ⟨by rw [hsame.2]; exact d1,b0,by rw [φoth i h2 h1]; exact d2,?_⟩
    rw [hsame.1]
    have hlive:(st[i]).live=true:=by
     have e:st[i].kill (back.drop nv++gone)=.var cs:=(Option.some.inj g).symm
     have:(st[i].kill (back.drop nv++gone)).live=true:=by rw [e]; rfl
     rw [killLive] at this
     exact this
    have:=memo i _ hib hlive h2 h3 b0 (by rw [d2]; rfl)
    simp only [World.cell?] at d3 ⊢
    rw [this]
    exact d3
   ·cases e
 have goneRow:∀ i∈gone,Ae st i=false:=by
  intro i hi
  obtain ⟨k,hk,e⟩:=EX hi
  obtain ⟨_,_,_,v2,_⟩:=hand (back.length+k) i (by rw [Cs (by omega)]; simp [hk,e])
  exact v2 (by have:=B.nvb; omega)
 have hkb:C7 φ st φ2 st2 (back.drop nv++gone):=by
  refine ⟨fun i hn hd=>?_,fun i hv=>?_⟩
  ·rw [VT,Bool.or_eq_false_iff] at hn
   have hg:=B7.1 hn.2
   have hlt2:i<st.length:=by rcases hd with h | h; exact My h; exact uJ h
   by_cases hb:i∈back
   ·obtain ⟨k,hk,e⟩:=EX hb
    have hk2:(back++gone)[k]? = some i:=by rw [BO hk]; simp [hk,e]
    have hkn:k<nv:=by
     rcases CF k nv with h | h
     ·exact h
     ·have:i∈back.drop nv:=by
       rw [<- e]
       exact List.mem_iff_getElem?.2 ⟨k-nv,by rw [DC,show nv+(k-nv)=k by omega]; simp⟩
      exact absurd this (B7.1 hn.1)
    obtain ⟨c1,c2,c3,_⟩:=hvarB k i hkn (by simp [hk,e])
    exact ⟨c1,c2,c3⟩
   ·obtain ⟨c1,c2,c3,_⟩:=hvarO i hb hg hlt2
    exact ⟨c1,c2,c3⟩
  ·have hng:i∉gone:=fun h=>by rw [goneRow i h] at hv; cases hv
   by_cases hb:i∈back
   ·obtain ⟨k,hk,e⟩:=EX hb
    have hk2:(back++gone)[k]? = some i:=by rw [BO hk]; simp [hk,e]
    obtain ⟨_,_,_,v2,_⟩:=hand k _ hk2
    have hkn:k<nv:=by
     rcases CF k nv with h | h
     ·exact h
     ·rw [v2 h] at hv; cases hv
    obtain ⟨c1,_,c3,c4⟩:=hvarB k i hkn (by simp [hk,e])
    exact ⟨c1,c4.trans hv,c3⟩
   ·obtain ⟨c1,_,c3,c4⟩:=hvarO i hb hng (TR hv)
    exact ⟨c1,c4.trans hv,c3⟩
 refine ⟨H2,φ2,⟨hle2,hsr,fun mv m0 H0 φ0 w0 g=>?_⟩,memo,hkb,fun a v hfl hv=>?_⟩
 ·-- the caller's own frame
  have hh:∀ b,b<w0.heap.size->(∀ j,j<m0->ED (φ0 j)≠some b)->∀ k,k<(back++gone).length->ED (φ ((back++gone).getD k 0))≠some b:=by
   intro b h1 h2 k hk e
   have hk2:(back++gone)[k]? = some (back++gone)[k]:=by simp
   rw [IR hk2] at e
   obtain ⟨bx,hb,hl,_⟩:=hand k _ hk2
   rcases g.new _ bx hb hl b e with h | ⟨j,hj,h⟩
   ·omega
   ·exact h2 j hj h
  refine ⟨f.os.trans g.os,f.tape.trans g.tape,f.output.trans g.output,Nat.le_trans g.size f.size,fun b h1 h2=>?_,fun j hj=>?_,fun i bi hi li b hb=>?_,fun j hj=>(hkb.2 j (g.vars j hj)).2.1,fun b h1 h2=>?_⟩
  ·rw [f.old b (Nat.lt_of_lt_of_le h1 g.size) (hh b h1 h2)]
   exact g.old b h1 h2
  ·exact (hkb.2 j (g.vars j hj)).1.trans (g.same j hj)
  ·rcases G.cases i bi hi with ⟨k,hk,rfl⟩ | ⟨h1,h2,h3⟩ | ⟨_,rfl⟩
   ·rw [show φ2 (NF back st.length k)=φ' k from φren k] at hb
    obtain ⟨_,e1,l1,_⟩:=ofC k est'[k] (by simp)
    rw [hi] at e1
    cases e1
    rw [mG,l1] at li
    rcases f.new k _ (by simp) li b hb with h | ⟨j,hj,h⟩
    ·exact .inl (Nat.le_trans g.size h)
    ·have hk2:(back++gone)[j]? = some (back++gone)[j]:=by simp
     rw [IR hk2] at h
     obtain ⟨bx,hbx,hl,_⟩:=hand j _ hk2
     exact g.new _ bx hbx hl b h
   ·rw [φoth i h2 h1] at hb
    have hib:st[i]? = some st[i]:=by simp
    have e:=G.other i _ h2 h3 hib
    rw [hi] at e
    cases e
    exact g.new i _ hib (killLive▸li) b hb
   ·cases li
  ·rw [H2old b (Nat.lt_of_lt_of_le h1 g.size) (hh b h1 h2)]
   exact g.frz b h1 h2
 ·have hv2:VB H2 φ' est' a v:=by
   rcases hfl with h | h
   ·have:H2=H':=by
     funext b
     exact nlent b fun ⟨i,hi,_⟩=>by rw [h] at hi; cases hi
    rw [this]
    exact hv
   ·exact hv.flat h
  have one:∀ a v,VC H2 φ' est' a v->VC H2 φ2 st2 (a.ren ren) v:=by
   intro a v hv
   cases a with
   | row k =>
    obtain ⟨e,hk⟩:=hv
    have hb:est'[k]? = some (est'[k]'(My hk)):=by simp
    refine ⟨by rw [φren k]; exact e,?_⟩
    obtain ⟨_,_,_,_,_,kk,_⟩:=ofC k _ hb
    rw [kk]
    exact hk
   | ptr k o =>
    obtain ⟨hk,b0,e1,e2⟩:=hv
    have hb:est'[k]? = some (est'[k]'(uJ hk)):=by simp
    refine ⟨?_,b0,by rw [φren k]; exact e1,e2⟩
    obtain ⟨_,_,_,_,_,_,kk⟩:=ofC k _ hb
    rw [kk]
    exact hk
   | eptr k i o =>
    obtain ⟨b0,n,cap,K,hk,h2,e1,e2⟩:=hv
    have hb:est'[k]? = some (est'[k]'(My (by simp [hk]))):=by simp
    refine ⟨b0,n,cap,K,?_,h2,by rw [φren k]; exact e1,e2⟩
    obtain ⟨_,_,_,_,_,kk,_⟩:=ofC k _ hb
    rw [kk]
    exact hk
   | _=>exact hv
  rcases hv2.cases with ⟨cs,arr,rfl,e,h⟩ | h
  ·exact ⟨arr,e,h.map one⟩
  ·have:a.renV ren=a.ren ren:=by cases a<;>first | rfl | exact h.elim
   rw [this]
   exact VB.of_VC (one a v h)
end Go.Proofs.YtfcgblnlopemkaaGreatDoor.Core

namespace Go.Proofs.YtfcgblnlopemkaaGreatDoor.Core
open Go
variable {P:Program}
def AGn (H:HP) (φ:CQ) (st:List AX):List AV->Value->Prop
 | [a],v=>VB H φ st a v
 | rs,v=>∃ arr,v=.tuple arr/\Az (VB H φ st) rs arr.toList
def o_ (P:Program) (f:Nat):Prop:=∃ fn c,P.funcs[f]? = some fn∧(fn.name == "runtime.NumGoroutine")=false∧fn.body=some c
def QM (H:HP) (φ:CQ) (w:World) (args bs outs rs:List AV) (v:Value) (w':World):Prop :=
 ∃ H' φ',H.le H'/\SR H' φ' (Bo outs rs) w'/\Fr bs.length (Bo bs args).length H φ w H' φ' (Bo outs rs) w'/\AGn H' φ' (Bo outs rs) (Di (Fx outs) rs) v
def zf (w w':World) (b n m:Nat) (v:Value) (T t:TypeId) (flat:List Value):Prop :=
 ∃ w1 w2 v',w.grownBy w1 (some b)/\w1.heap[b]? = some (.cells #[.pointer (some ⟨b,0,none⟩),v] T (0,0))/\w1.grownBy w2 (ED v)/\w2.ownsRow 0 t 1 v' (n+m) flat /\
  (∀ g,ED v'=some g->ED v=some g\/w1.heap.size<=g)/\w2.grownBy w' (some b)/\w'.heap[b]? = some (.cells #[.pointer (some ⟨b,0,none⟩),v'] T (0,0))
def uY (P:Program) (f k t T:Nat):Prop :=
 o_ P f/\∀ (w:World) (b:Nat) (p v:Value) (xs:List Int),w.heap[b]? = some (.cells #[p,v] T (0,0))->(p=.pointer none\/p=.pointer (some ⟨b,0,none⟩)) ->
  w.ownsRow 0 t 1 v xs.length (xs.map (.int .u8))->ED v≠some b->(∃ H:HP,zS H/\(∀ q o,H q=some o->w.heap[q]? = some o)/\(∀ q,ED v=some q->H q=none)/\H b=none) ->
  (k=0->∀ c,xs.length+1<=68719476736->Calls P f #[.pointer (some ⟨b,0,none⟩),.int .u8 c] w fun e w'=>∃ r,e=.returned r/\zf w w' b xs.length 1 v T t ((xs++[c]).map (.int .u8))) /\
  (k=1->∀ s,xs.length+(Cq s).length<=68719476736->Calls P f #[.pointer (some ⟨b,0,none⟩),.string s] w fun e w'=>∃ r,e=.returned r/\zf w w' b xs.length (Cq s).length v T t ((xs++Cq s).map (.int .u8))) /\
  (k=2->rT xs=true->Calls P f #[.pointer (some ⟨b,0,none⟩)] w fun e w'=>e=.returned (.string (Dp xs))/\w.grownBy w' (ED v))
def J6 (P:Program) (cal:Gi):Prop :=
 (∀ f k t T:Nat,f<Br->cal (Br+f) [.int .i64 k,.int .i64 t,.int .i64 T] []=some []->uY P f k t T) /\
 ∀ f args bs rs,(f<Br\/2*Br<=f)->cal f args bs=some rs->o_ P (f % Br)/\(∀ r∈rs,r.cells.all AV.nilFree=true)/\∃ n,n+bs.length=rs.length /\
  ∀ (H:HP) (φ:CQ) (w:World) (cargs:List Value),SR H φ (Bo bs args) w->Az (VB H φ (Bo bs args)) (Di (Fx bs) args) cargs ->
   Calls P (f % Br) cargs.toArray w fun out w'=>match out with
    | .returned v=>QM H φ w args bs (rs.drop n) (rs.take n) v w'
    | _=>False
theorem AEB {H:HP} {K:Kd} {x:K.T} {v:Value} (h:Gj H K x v.cells.toList) (f:Qd K v):VE H (K.av x) v:=by
 cases K with
 | int k=>simp only [Qd] at f; simp only [f,Gj,List.cons.injEq,and_true] at h; subst h; rfl
 | bool=>simp only [Qd] at f; simp only [f,Gj,List.cons.injEq,and_true] at h; subst h; rfl
 | str=>simp only [Qd] at f; simp only [f,Gj,List.cons.injEq,and_true] at h; subst h; rfl
 | slice e =>
  simp only [Qd] at f
  obtain ⟨u,e1,h⟩:=h
  simp only [f,List.cons.injEq,and_true] at e1
  subst e1
  exact h
 | pair a b =>
  obtain ⟨arr,e⟩:=f
  subst e
  exact ⟨arr,rfl,Jz.of_rep h⟩
 | own t e=>exact h.elim
 | ref K=>exact h.elim
 | «fun» g=>simp only [Qd] at f; simp only [f,Gj,List.cons.injEq,and_true] at h; subst h; exact ⟨rfl,rfl⟩
 | clo g K =>
  simp only [Qd] at f
  obtain ⟨u,e1,h⟩:=h
  simp only [f,List.cons.injEq,and_true] at e1
  subst e1
  exact h
theorem pA:∀ (Ks:List Kd) (rs:List AV) (y:RT Ks),Cp Ks rs=some y->rs.length=Ks.length/\(EC Ks y).length=Ks.length/\Az (fun a b=>∃ K x,Kd.of K a=some x/\b=K.av x) rs (EC Ks y)
 | [],[],y,_=>⟨rfl,rfl,rfl⟩
 | [],_::_,y,h=>by simp [Cp] at h
 | [K],[],y,h=>by simp [Cp] at h
 | [K],[v],y,h=>⟨rfl,rfl,⟨_,_,rfl,⟨K,y,h,rfl⟩,rfl⟩⟩
 | [K],_::_::_,y,h=>by simp [Cp] at h
 | K::L::Ks,[],y,h=>by simp [Cp] at h
 | K::L::Ks,v::vs,y,h=>by
  simp only [Cp] at h
  cases h1:K.of v with
  | none=>rw [h1] at h; cases h
  | some x =>
   cases h2:Cp (L::Ks) vs with
   | none=>rw [h1,h2] at h; cases h
   | some r =>
    rw [h1,h2] at h
    cases h
    obtain ⟨l1,l2,l3⟩:=pA (L::Ks) vs r h2
    exact ⟨by simp [l1],by simpa [EC] using l2,⟨_,_,rfl,⟨K,x,h1,rfl⟩,l3⟩⟩
theorem AHS {K:Kd} {a:AV} {x:K.T} (h:K.of a=some x) (hn:a.cells.all AV.nilFree=true):a=K.av x:=by
 obtain ⟨hd,hf⟩:=AD3 h
 have e:=t_ K a.cells [] x hn hd
 rw [List.append_nil] at e
 cases K with
 | pair k l =>
  cases a with
  | agg cs=>simp only [AV.cells] at e; rw [e]; rfl
  | _=>cases hf
 | _ =>
  cases a<;>first | exact (List.cons.inj e).1 | cases hf
theorem ym:∀ (Ks:List Kd) (rs:List AV) (y:RT Ks),Cp Ks rs=some y->(∀ r∈rs,r.cells.all AV.nilFree=true)->EC Ks y=rs:=by
 intro Ks rs y h hn
 obtain ⟨_,_,h3⟩:=pA Ks rs y h
 have key:∀ {aw bs:List AV},Az (fun a b=>∃ K x,Kd.of K a=some x/\b=K.av x) aw bs->(∀ r∈aw,r.cells.all AV.nilFree=true)->bs=aw:=by
  intro aw
  induction aw with
  | nil=>intro bs h _; exact h
  | cons a aw ih =>
   intro bs h hn
   obtain ⟨b,r,rfl,⟨K,x,h1,h2⟩,hr⟩:=h
   rw [ih hr fun r hr=>hn r (by simp [hr]),h2,<- AHS h1 (hn a (by simp))]
 exact key h3 hn
theorem pB:∀ (Ks:List Kd) (y:RT Ks) (j:Nat) (K:Kd),Ks[j]? = some K->∃ x:K.T,(EC Ks y)[j]? = some (K.av x)
 | [],y,j,K,h=>by simp at h
 | [K0],y,j,K,h=>by
  cases j with
  | zero=>simp at h; subst h; exact ⟨y,rfl⟩
  | succ j=>simp at h
 | K0::L::Ks,y,j,K,h=>by
  cases j with
  | zero=>simp at h; subst h; exact ⟨y.1,rfl⟩
  | succ j =>
   obtain ⟨x,hx⟩:=pB (L::Ks) y.2 j K (by simpa using h)
   exact ⟨x,by simpa [EC] using hx⟩
theorem ACX {ids:List (Nat×Kd)}:∀ {bx:List AV},bx.length=ids.length->(∀ (j:Nat) (v:AV),bx[j]? = some v->∃ p,ids[j]? = some p/\∃ x:Kd.T p.2,v=Kd.av p.2 x) ->
  AT (Bs bx)=(ids.map fun p=>if p.2.isOwn=true then 0 else p.2.news).sum:=by
 induction ids with
 | nil=>intro bx hl _; have:bx=[]:=DD.1 hl; subst this; rfl
 | cons p ids ih =>
  intro bx hl hk
  cases bx with
  | nil=>simp at hl
  | cons v bx =>
   obtain ⟨q,hq,x,hx⟩:=hk 0 v rfl
   simp at hq
   subst hq
   have:=ih (bx:=bx) (by simpa using hl) fun j v hj=>by simpa using hk (j+1) v (by simpa using hj)
   simp only [Bs,List.flatMap_cons,CK,List.map_cons,List.sum_cons] at this ⊢
   rw [this,hx]
   by_cases ho:p.2.isOwn=true
   ·obtain ⟨pi,pk⟩:=p
    obtain ⟨t,e,rfl⟩:=uW ho
    rw [if_pos ho,(uX x).1]
    rfl
   ·rw [if_neg ho,(KY x (by simpa using ho)).1,aP]
theorem yn {s s':St} {a a':AV} (h:s.keep a=some (a',s')) {i:Nat} {b:AX} (hi:s'.st[i]? = some b) (hl:b.live=true):s.st[i]? = some b:=by
 cases a with
 | row id =>
  simp only [St.keep] at h
  split at h
  ·rename_i t' K' xs' hb
   cases h
   simp only [BK] at hi
   split at hi
   ·split at hi
    ·cases hi; cases hl
    ·cases hi
   ·exact hi
  ·cases h; exact hi
  ·cases h
 | fn f caps=>cases caps<;>first | (cases h; exact hi) | cases h
 | _=>first | (cases h; exact hi) | cases h
theorem ACY {s s':St} {a a':AV} (h:s.keep a=some (a',s')):s'.fr=s.fr:=by
 cases a with
 | row id =>
  simp only [St.keep] at h
  split at h
  ·cases h; rfl
  ·cases h; rfl
  ·cases h
 | fn f caps=>cases caps<;>first | (cases h; rfl) | cases h
 | _=>first | (cases h; rfl) | cases h
theorem uZ:∀ {aw aw':List AV} {s s':St},s.keepAll aw=some (aw',s')->s'.fr=s.fr
 | [],aw',s,s',h=>by cases h; rfl
 | a::aw,aw',s,s',h=>by
  simp only [St.keepAll] at h
  cases hk:s.keep a with
  | none=>rw [hk] at h; cases h
  | some x =>
   rw [hk] at h
   simp only [AA] at h
   cases hq:x.2.keepAll aw with
   | none=>rw [hq] at h; cases h
   | some y =>
    rw [hq] at h
    cases h
    exact (uZ hq).trans (ACY (a':=x.1) hk)
theorem mH:∀ {aw aw':List AV} {s s':St},s.keepAll aw=some (aw',s')->∀ {i:Nat} {b:AX},s'.st[i]? = some b->b.live=true->s.st[i]? = some b
 | [],aw',s,s',h,i,b,hi,hl=>by cases h; exact hi
 | a::aw,aw',s,s',h,i,b,hi,hl=>by
  simp only [St.keepAll] at h
  cases hk:s.keep a with
  | none=>rw [hk] at h; cases h
  | some x =>
   rw [hk] at h
   simp only [AA] at h
   cases hq:x.2.keepAll aw with
   | none=>rw [hq] at h; cases h
   | some y =>
    rw [hq] at h
    cases h
    exact yn hk (mH hq hi hl) hl
def AFZ:PK->Value->List Value
 | .cap _ _,.func _ _ caps=>caps.toList
 | .cap _ _,_=>[]
 | .cap0 _,_=>[]
 | _,v=>[v]
def ME:List (Cr×PK)->List Value->List Value
 | x::xs,c::cs=>AFZ x.2 c++ME xs cs
 | _,_=>[]
def PK.isCap:PK->Bool
 | .cap _ _ | .cap0 _=>true
 | _=>false
theorem ABr {p:PK} {c:Value} (h:p.isCap=false):AFZ p c=[c]:=by cases p<;>first | rfl | cases h
theorem aS:∀ {xs:List (Cr×PK)} {cs:List Value},xs.length=cs.length->(xs.all fun x=>!x.2.isCap)=true->ME xs cs=cs
 | [],[],_,_=>rfl
 | x::xs,c::cs,hl,h=>by
  simp only [List.all_cons,AE,EY] at h
  simp only [ME,ABr h.1,aS (by simpa using hl) h.2]
  rfl
 | [],_::_,h,_=>by simp at h
 | _::_,[],h,_=>by simp at h
theorem jF:∀ {xs ys:List (Cr×PK)} {cs ds:List Value},xs.length=cs.length->ME (xs++ys) (cs++ds)=ME xs cs++ME ys ds
 | [],ys,[],ds,_=>by simp [ME]
 | x::xs,ys,c::cs,ds,h=>by
  simp only [List.cons_append,ME,jF (xs:=xs) (cs:=cs) (by simpa using h),Bf]
 | [],_,_::_,_,h=>by simp at h
 | _::_,_,[],_,h=>by simp at h
def AHn (H:HP) (φ:CQ) (st:List AX) (lent:Nat->Prop) (a:AV) (c:Value):Prop :=
 VF H a c\/∃ (i:Nat) (t:TypeId) (K:Kd),∃ xs:List (Kd.T K),lent i/\st[i]? = some (AX.rows t K xs)/\a=.lst K xs/\c=φ i
def AFa (H:HP) (φ:CQ) (st:List AX) (pt:Nat->Option (Nat×Kd)) (a:AV) (c:Value):Prop :=
 VF H a c\/∃ (k:Nat) (p:Nat×Kd),a=.row k/\pt k=some p/\An st p.1=false/\c=φ p.1
def AGo (H:HP) (φ:CQ) (st:List AX) (pt:Nat->Option (Nat×Kd)) (a:AV) (c:Value):Prop :=
 (∃ (aw:List AV) (arr:Array Value),a=.agg aw/\c=.agg arr/\Az (AFa H φ st pt) aw arr.toList)\/AFa H φ st pt a c
theorem uA {H:HP} {φ:CQ} {st:List AX} {w:World}:∀ {vs:List AV} {y:List AV×List Nat} {us:List Value},SR H φ st w->Az (VC H φ st) vs us->sD st vs=some y ->
  Az (fun a u=>VF H a u\/∃ (i:Nat) (t:TypeId) (K:Kd),∃ xs:List (Kd.T K),i∈y.2/\st[i]? = some (AX.rows t K xs)/\a=.lst K xs/\u=φ i) y.1 us
 | [],y,us,hs,hv,h=>by cases h; exact hv
 | v::vs,y,us,hs,⟨u,us',e,hu,hr⟩,h=>by
  subst e
  have plain:(if v.solid=true then (sD st vs).bind fun r=>some (v::r.1,r.2) else none)=some y->Az (fun a u=>VF H a u\/∃ (i:Nat) (t:TypeId) (K:Kd),∃ xs:List (Kd.T K),i∈y.2/\st[i]? = some (AX.rows t K xs)/\a=.lst K xs/\u=φ i) y.1 (u::us'):=by
   intro h
   split at h
   ·rename_i hsol
    cases hq:sD st vs with
    | none=>rw [hq] at h; cases h
    | some q =>
     rw [hq] at h
     cases h
     exact ⟨u,us',rfl,.inl (hu.solid hsol),uA hs hr hq⟩
   ·cases h
  cases v with
  | row id =>
   simp only [sD] at h
   split at h
   ·rename_i t e xs hb
    cases hq:sD st vs with
    | none=>rw [hq] at h; cases h
    | some q =>
     rw [hq] at h
     cases h
     refine ⟨u,us',rfl,.inr ⟨id,t,e,xs,by simp,hb,rfl,hu.1⟩,(uA hs hr hq).imp fun a u h=>?_⟩
     rcases h with h | ⟨i,t,K,xs,h1,h2⟩
     ·exact .inl h
     ·exact .inr ⟨i,t,K,xs,by simp [h1],h2⟩
   ·rename_i e xs hb
    cases hq:sD st vs with
    | none=>rw [hq] at h; cases h
    | some q =>
     rw [hq] at h
     cases h
     refine ⟨u,us',rfl,.inl ?_,uA hs hr hq⟩
     have:=(hs.box id _ hb).1
     rw [<- hu.1] at this
     exact this
   ·cases h
  | _=>exact plain h
theorem uB {H:HP} {φ:CQ} {st:List AX}:∀ {ks:List Kd} {vs:List AV} {j:Nat} {y:List AV×List (Nat×Kd)} {us:List Value},Az (VC H φ st) vs us->iB st j ks vs=some y ->
  Az (fun a u=>VF H a u\/∃ (m:Nat) (p:Nat×Kd),a=.row (j+m)/\y.2[m]? = some p/\An st p.1=false/\(AQ st p.1).isSome=true/\u=φ p.1) y.1 us
 | [],[],j,y,us,hv,h=>by cases h; exact hv
 | [],_::_,j,y,us,hv,h=>by simp [iB] at h
 | _::_,[],j,y,us,hv,h=>by simp [iB] at h
 | k::ks,v::vs,j,y,us,⟨u,us',e,hu,hr⟩,h=>by
  subst e
  have row:∀ id,v=.row id->An st id=false->((iB st (j+1) ks vs).bind fun r=>some (AV.row j::r.1,(id,k)::r.2))=some y ->
    Az (fun a u=>VF H a u\/∃ (m:Nat) (p:Nat×Kd),a=.row (j+m)/\y.2[m]? = some p/\An st p.1=false/\(AQ st p.1).isSome=true/\u=φ p.1) y.1 (u::us'):=by
   intro id ev hva h'
   subst ev
   cases hq:iB st (j+1) ks vs with
   | none=>rw [hq] at h'; cases h'
   | some q =>
    rw [hq] at h'
    cases h'
    refine ⟨u,us',rfl,.inr ⟨0,(id,k),rfl,rfl,hva,hu.2,hu.1⟩,(uB hr hq).imp fun a u h=>?_⟩
    rcases h with h | ⟨m,p,h1,h2,h3⟩
    ·exact .inl h
    ·exact .inr ⟨m+1,p,by rw [h1]; congr 1; omega,by simpa using h2,h3⟩
  have plain:((v.norm k).bind fun a=>(iB st j ks vs).bind fun r=>some (a::r.1,r.2))=some y ->
    Az (fun a u=>VF H a u\/∃ (m:Nat) (p:Nat×Kd),a=.row (j+m)/\y.2[m]? = some p/\An st p.1=false/\(AQ st p.1).isSome=true/\u=φ p.1) y.1 (u::us'):=by
   intro h
   cases hn:v.norm k with
   | none=>rw [hn] at h; cases h
   | some a =>
    rw [hn] at h
    simp only [AA] at h
    cases hq:iB st j ks vs with
    | none=>rw [hq] at h; cases h
    | some q =>
     rw [hq] at h
     cases h
     obtain ⟨n1,n2,n3,n4⟩:=mE hn
     exact ⟨u,us',rfl,.inl (n4 H u (hu.solid n3)),uB hr hq⟩
  cases v with
  | row id =>
   simp only [iB] at h
   split at h
   ·rename_i t e xs hb
    split at h
    ·exact row id rfl (by simp only [An,hb]) h
    ·cases h
   ·rename_i t e xs hb
    split at h
    ·exact row id rfl (by simp only [An,hb]) h
    ·cases h
   ·cases h
  | _=>exact plain h
structure AHo (H:HP) (φ:CQ) (st:List AX) (cl:List AV) (ids:List Nat) (vs:List Value):Prop where
 len:cl.length=vs.length
 cnt:AT cl=ids.length
 boxes:∀ (m:Nat) (b:AX),(BM cl)[m]? = some b->∃ (i:Nat) (t:TypeId) (e:Kd),∃ xs:List (Kd.T e),ids[m]? = some i/\st[i]? = some (AX.rows t e xs)/\b=AX.rows t e xs
 cells:∀ (k o:Nat) (a:AV),(Bl k cl)[o]? = some a->∃ u,vs[o]? = some u/\((∃ m i:Nat,a=AV.row (k+m)/\ids[m]? = some i/\u=φ i)\/VF H a u)
inductive II (H:HP) (φ:CQ) (st:List AX) (pt:Nat->Option (Nat×Kd)) (lent:Nat->Prop):List AV->List Value->List Nat->Prop
 | nil:II H φ st pt lent [] [] []
 | val {a:AV} {c:Value} {aw cs ms}:VE H a c->II H φ st pt lent aw cs ms->II H φ st pt lent (a::aw) (c::cs) ms
 | bor {i:Nat} {t:TypeId} {K:Kd} {xs:List K.T} {aw cs ms}:lent i->st[i]? = some (.rows t K xs)->II H φ st pt lent aw cs ms->II H φ st pt lent (.lst K xs::aw) (φ i::cs) ms
 | mov {i:Nat} {t:TypeId} {K:Kd} {xs:List K.T} {aw cs ms}:st[i]? = some (.rows t K xs)->II H φ st pt lent aw cs ms->II H φ st pt lent (.new t K xs::aw) (φ i::cs) (i::ms)
 | cap {f:Nat} {K:Kd} {z:K.T} {c:Value} {aw cs ms}:AAm H f (Gj H K z) (.func (.func f) #[] #[c])->II H φ st pt lent aw cs ms->II H φ st pt lent (.fptr (K.enc z) 0::aw) (c::cs) ms
 | borS {K:Kd} {z:K.T} {y:List AV} {arr:Array Value} {aw cs ms}:Az (AHn H φ st lent) y arr.toList->K.ofCells y=some z->(K.av z=.agg (K.enc z))->II H φ st pt lent aw cs ms->II H φ st pt lent (K.av z::aw) (.agg arr::cs) ms
 | movS {cl:List AV} {ids:List Nat} {arr:Array Value} {aw cs ms}:AHo H φ st cl ids arr.toList->II H φ st pt lent aw cs ms->II H φ st pt lent (.agg cl::aw) (.agg arr::cs) (ids++ms)
 | lendw {a:AV} {c:Value} {aw cs ms}:AGo H φ st pt a c->II H φ st pt lent aw cs ms->II H φ st pt lent (a::aw) (c::cs) ms
 | ptr {k:Nat} {p:Nat×Kd} {b:Nat} {aw cs ms}:pt k=some p->φ p.1=.pointer (some ⟨b,0,none⟩)->II H φ st pt lent aw cs ms->II H φ st pt lent (.ptr k 0::aw) (φ p.1::cs) ms
theorem pC {φ:CQ} {w:World}:∀ {ks:List Kd} {vs:List AV} {s s':St} {H:HP},SR H φ s.st w->(∀ v∈vs,∀ i,v=.row i->(AQ s.st i).isSome=true)->s.settle ks vs=some s' ->
  ∃ H',Ak H φ s.st w H' φ s'.st w/\CD φ s.st φ s'.st none/\s'.fr=s.fr/\s'.st.length=s.st.length/\(∀ {i:Nat} {b:AX},s'.st[i]? = some b->b.live=true->s.st[i]? = some b)
 | [],[],s,s',H,hs,_,h=>by cases h; exact ⟨H,Ak.refl hs,CD.refl _ _ _,rfl,rfl,fun h _=>h⟩
 | [],_::_,s,s',H,hs,_,h=>by simp [St.settle] at h
 | _::_,[],s,s',H,hs,_,h=>by simp [St.settle] at h
 | k::ks,v::vs,s,s',H,hs,hv,h=>by
  have rest:s.settle ks vs=some s'->∃ H',Ak H φ s.st w H' φ s'.st w/\CD φ s.st φ s'.st none/\s'.fr=s.fr/\s'.st.length=s.st.length/\(∀ {i:Nat} {b:AX},s'.st[i]? = some b->b.live=true->s.st[i]? = some b) :=
   fun h=>pC hs (fun v hm=>hv v (by simp [hm])) h
  have freeze:∀ i,v=.row i->((s.keep (.row i)).bind fun x=>x.2.settle ks vs)=some s'->∃ H',Ak H φ s.st w H' φ s'.st w/\CD φ s.st φ s'.st none/\s'.fr=s.fr/\s'.st.length=s.st.length/\(∀ {i:Nat} {b:AX},s'.st[i]? = some b->b.live=true->s.st[i]? = some b):=by
   intro i ev h
   cases hk:s.keep (.row i) with
   | none=>rw [hk] at h; cases h
   | some x =>
    obtain ⟨a1,s1⟩:=x
    rw [hk] at h
    simp only [AA] at h
    have hki:=hv v (by simp) i ev
    obtain ⟨H1,g1,k1,_,e1,n1⟩:=YK hs (show VC H φ s.st (.row i) (φ i) from ⟨rfl,hki⟩) hk
    obtain ⟨H2,g2,k2,e2,n2,b2⟩:=pC g1.sr (fun v hm j ej=>by
     have:=hv v (by simp [hm]) j ej
     rw [(k1 j (by simp) (.inl this)).2.1]
     exact this) h
    exact ⟨H2,g1.trans g2,k1.trans k2,e2.trans e1,n2.trans n1,fun h hl=>yn hk (b2 h hl) hl⟩
  simp only [St.settle] at h
  split at h
  ·split at h
   ·exact rest h
   ·exact freeze _ rfl h
  ·exact rest h
theorem Lr {φ:CQ} {w:World} {pt:Nat->Option (Nat×Kd)} {lent:Nat->Prop}:∀ {args:List (Cr×PK)} {j:Nat} {q:AAj} {s s':St} {H:HP} {cs:List Value},SR H φ s.st w->Az (fun (x:Cr×PK) c=>VA H φ s.st (s.opd x.1) c) args cs ->
  s.args args j=some (q,s')->(∀ k,q.ptrs[k]? = pt (j+k)\/q.ptrs[k]? = none)->(∀ i∈q.bors,lent i)->(∀ i∈q.movs++q.bors,∃ (t:TypeId) (K:Kd),∃ xs:List (Kd.T K),s'.st[i]? = some (AX.rows t K xs)) ->
  ∃ H',Ak H φ s.st w H' φ s'.st w/\CD φ s.st φ s'.st none/\s'.fr=s.fr/\s'.st.length=s.st.length/\II H' φ s'.st pt lent q.args (ME args cs) q.movs /\
   (∀ {i:Nat} {b:AX},s'.st[i]? = some b->b.live=true->s.st[i]? = some b)
 | [],j,q,s,s',H,cs,hs,hc,h,_,_,_=>by
  cases h
  cases hc
  exact ⟨H,Ak.refl hs,CD.refl _ _ _,rfl,rfl,.nil,fun h _=>h⟩
 | (x,.val K)::r,j,q,s,s',H,cs,hs,hc,h,hp,hl,hv=>by
  obtain ⟨c,cs,rfl,h1,h2⟩:=hc
  simp only [St.args] at h
  split at h
  ·rename_i hfit
   cases hk:s.keepAll (s.opd x).cells with
   | none=>rw [hk] at h; cases h
   | some y =>
    obtain ⟨a',s1⟩:=y
    rw [hk] at h
    simp only [AA] at h
    obtain ⟨H1,g1,k1,f1,e1,n1⟩:=NO hs h1 hk
    cases hz:K.ofCells a' with
    | none=>rw [hz] at h; cases h
    | some z =>
     rw [hz] at h
     simp only [AA] at h
     cases hq:s1.args r j with
     | none=>rw [hq] at h; cases h
     | some q' =>
      obtain ⟨q1,s2⟩:=q'
      rw [hq] at h
      cases h
      have ho:∀ x,s1.opd x=s.opd x:=fun x=>by cases x<;>simp [St.opd,e1]
      obtain ⟨H2,g2,k2,e2,n2,h3,b2⟩:=Lr (pt:=pt) (lent:=lent) g1.sr (h2.imp fun x c hx=>by rw [ho]; exact hx.mono g1.le k1) hq hp hl hv
      refine ⟨H2,g1.trans g2,k1.trans k2,e2.trans e1,n2.trans n1,.val ?_ h3,fun h hl=>mH hk (b2 h hl) hl⟩
      obtain ⟨c1,c2,d1,d2,d3⟩:=IN K f1 (Gk hz)
      cases d3
      rw [List.append_nil] at d1
      refine (AEB (by rw [d1]; exact d2) ?_).mono g2.le
      rcases h1.cases with ⟨ds,arr,ea,ev,_⟩ | ⟨vs,arr,ea,_,_⟩ | hvc
      ·rw [ea] at hfit
       cases K with
       | pair a b=>exact ⟨arr,ev⟩
       | _=>cases hfit
      ·rw [ea] at hk
       simp [AV.cells,St.keepAll,St.keep] at hk
      ·rw [YO hvc] at hk
       simp only [St.keepAll] at hk
       cases hkk:s.keep (s.opd x) with
       | none=>rw [hkk] at hk; cases hk
       | some y2 =>
        obtain ⟨H3,_,_,f3,_⟩:=YK hs hvc (show s.keep (s.opd x)=some (y2.1,y2.2) from hkk)
        have hcell:=f3.cells
        cases K with
        | pair a b =>
         have:=d2.length
         rw [<- d1,hcell] at this
         have p1:=Kd.sz_pos a
         have p2:=Kd.sz_pos b
         simp [Kd.sz] at this
         omega
        | _=>exact hcell
  ·cases h
 | (x,.bor K)::r,j,q,s,s',H,cs,hs,hc,h,hp,hl,hv=>by
  obtain ⟨c,cs,rfl,h1,h2⟩:=hc
  simp only at h1
  have plain:∀ v,s.opd x=v->(if v.solid=true then (K.ofCells [v]).bind fun z=>(s.args r j).bind fun q=>some ((⟨K.av z::q.1.args,q.1.ptrs,q.1.movs,q.1.bors⟩:AAj),q.2) else none)=some (q,s') ->
    ∃ H',Ak H φ s.st w H' φ s'.st w/\CD φ s.st φ s'.st none/\s'.fr=s.fr/\s'.st.length=s.st.length/\II H' φ s'.st pt lent q.args (c::ME r cs) q.movs /\
     (∀ {i:Nat} {b:AX},s'.st[i]? = some b->b.live=true->s.st[i]? = some b):=by
   intro v ev h
   split at h
   ·rename_i hsol
    cases hz:K.ofCells [v] with
    | none=>rw [hz] at h; cases h
    | some z =>
     rw [hz] at h
     simp only [AA] at h
     cases hq:s.args r j with
     | none=>rw [hq] at h; cases h
     | some q' =>
      obtain ⟨q1,s2⟩:=q'
      rw [hq] at h
      cases h
      obtain ⟨H2,g2,k2,e2,n2,h3,b2⟩:=Lr (pt:=pt) (lent:=lent) hs h2 hq hp hl hv
      rw [ev] at h1
      refine ⟨H2,g2,k2,e2,n2,.val ?_ h3,b2⟩
      have hf:VF H v c:=by
       rcases h1.cases with ⟨ds,arr,ea,_,_⟩ | ⟨vs,arr,ea,_,_⟩ | hvc
       ·rw [ea] at hsol; cases hsol
       ·rw [ea] at hsol; cases hsol
       ·exact hvc.solid hsol
      obtain ⟨c1,c2,d1,d2,d3⟩:=IN K (aw:=[v]) (vs:=[c]) ⟨c,[],rfl,hf,rfl⟩ (Gk hz)
      cases d3
      rw [List.append_nil] at d1
      subst d1
      have hc2:=d2.vcells
      refine (AEB (by rw [hc2]; exact d2) ?_).mono g2.le
      cases K with
      | pair a b =>
       have:=d2.length
       have p1:=Kd.sz_pos a
       have p2:=Kd.sz_pos b
       simp [Kd.sz] at this
       omega
      | _=>exact hc2
   ·cases h
  simp only [St.args] at h
  cases hx:s.opd x with
  | row id =>
   rw [hx] at h h1
   obtain ⟨ec,_⟩:=h1
   subst ec
   simp only at h
   split at h
   ·rename_i t e xs hb
    split at h
    ·rename_i hK
     cases hq:s.args r j with
     | none=>rw [hq] at h; cases h
     | some q' =>
      obtain ⟨q1,s2⟩:=q'
      rw [hq] at h
      cases h
      obtain ⟨H2,g2,k2,e2,n2,h3,b2⟩:=Lr (pt:=pt) (lent:=lent) hs h2 hq hp (fun i hi=>hl i (by simp [hi])) (fun i hi=>hv i (by
       rcases CV.1 hi with h | h
       ·exact List.mem_append_left _ h
       ·exact List.mem_append_right _ (by simp [h])))
      obtain ⟨t',K',xs',hlive⟩:=hv id (by simp)
      have heq:=b2 hlive rfl
      rw [hb] at heq
      cases heq
      exact ⟨H2,g2,k2,e2,n2,.bor (hl id (by simp)) hlive h3,b2⟩
    ·cases h
   ·rename_i e xs hb
    split at h
    ·rename_i hK
     cases hq:s.args r j with
     | none=>rw [hq] at h; cases h
     | some q' =>
      obtain ⟨q1,s2⟩:=q'
      rw [hq] at h
      cases h
      obtain ⟨H2,g2,k2,e2,n2,h3,b2⟩:=Lr (pt:=pt) (lent:=lent) hs h2 hq hp hl hv
      exact ⟨H2,g2,k2,e2,n2,.val (VE.mono g2.le (a:=.lst e xs) (hs.box id _ hb).1) h3,b2⟩
    ·cases h
   ·cases h
  | agg ds =>
   rw [hx] at h h1
   simp only at h
   split at h
   case isFalse=>cases h
   rename_i hfit
   cases hy:sD s.st ds with
   | none=>rw [hy] at h; cases h
   | some y =>
    rw [hy] at h
    simp only [AA] at h
    cases hz:K.ofCells y.1 with
    | none=>rw [hz] at h; cases h
    | some z =>
     rw [hz] at h
     simp only [AA] at h
     cases hq:s.args r j with
     | none=>rw [hq] at h; cases h
     | some q' =>
      obtain ⟨q1,s2⟩:=q'
      rw [hq] at h
      cases h
      obtain ⟨H2,g2,k2,e2,n2,h3,b2⟩:=Lr (pt:=pt) (lent:=lent) hs h2 hq hp (fun i hi=>hl i (by simp [hi])) (fun i hi=>hv i (by
       rcases CV.1 hi with h | h
       ·exact List.mem_append_left _ h
       ·exact List.mem_append_right _ (by simp [h])))
      obtain ⟨arr,ec,hd⟩:=h1
      subst ec
      refine ⟨H2,g2,k2,e2,n2,.borS (y:=y.1) ((uA hs hd hy).imp fun a u h=>?_) hz ?_ h3,b2⟩
      ·rcases h with h | ⟨i,t,e,xs,h1,h2,h4,h5⟩
       ·exact .inl (h.mono g2.le)
       ·obtain ⟨t',K',xs',hlive⟩:=hv i (by simp [h1])
        have heq:=b2 hlive rfl
        rw [h2] at heq
        cases heq
        exact .inr ⟨i,t,e,xs,hl i (by simp [h1]),hlive,h4,h5⟩
      ·cases K with
       | pair a b=>rfl
       | _=>cases hfit
  | _=>exact plain _ hx (by rw [hx] at h; exact h)
 | (x,.mov K)::r,j,q,s,s',H,cs,hs,hc,h,hp,hl,hv=>by
  obtain ⟨c,cs,rfl,h1,h2⟩:=hc
  simp only [St.args] at h
  split at h
  ·rename_i id hx
   split at h
   ·rename_i t e xs hb
    split at h
    ·cases hq:s.args r j with
     | none=>rw [hq] at h; cases h
     | some q' =>
      obtain ⟨q1,s2⟩:=q'
      rw [hq] at h
      cases h
      simp only at h1
      rw [hx] at h1
      obtain ⟨ec,_⟩:=h1
      subst ec
      obtain ⟨H2,g2,k2,e2,n2,h3,b2⟩:=Lr (pt:=pt) (lent:=lent) hs h2 hq hp hl (fun i hi=>hv i (by
       rcases CV.1 hi with h | h
       ·exact List.mem_append_left _ (by simp [h])
       ·exact List.mem_append_right _ h))
      obtain ⟨t',K',xs',hlive⟩:=hv id (by simp)
      have heq:=b2 hlive rfl
      rw [hb] at heq
      cases heq
      exact ⟨H2,g2,k2,e2,n2,.mov hlive h3,b2⟩
    ·cases h
   ·cases h
  ·cases h
 | (x,.movS K)::r,j,q,s,s',H,cs,hs,hc,h,hp,hl,hv=>by
  obtain ⟨c,cs,rfl,h1,h2⟩:=hc
  simp only [St.args] at h
  split at h
  ·rename_i ds hx
   cases hy:Kz s.st K.leaves ds with
   | none=>rw [hy] at h; cases h
   | some y =>
    rw [hy] at h
    simp only [AA] at h
    cases hq:s.args r j with
    | none=>rw [hq] at h; cases h
    | some q' =>
     obtain ⟨q1,s2⟩:=q'
     rw [hq] at h
     cases h
     simp only at h1
     rw [hx] at h1
     obtain ⟨arr,ec,hd⟩:=h1
     subst ec
     obtain ⟨H2,g2,k2,e2,n2,h3,b2⟩:=Lr (pt:=pt) (lent:=lent) hs h2 hq hp hl (fun i hi=>hv i (by
      rcases CV.1 hi with h | h
      ·exact List.mem_append_left _ (by simp [h])
      ·exact List.mem_append_right _ h))
     have F:=YR hy
     refine ⟨H2,g2,k2,e2,n2,.movS ⟨F.len.trans hd.length.symm,F.cnt,fun m b hb=>?_,fun k o a ha=>?_⟩ h3,b2⟩
     ·obtain ⟨i,t,e,xs,i1,i2,i3⟩:=F.boxes m b hb
      obtain ⟨t',K',xs',hlive⟩:=hv i (List.mem_append_left _ (List.mem_append_left _ (List.mem_of_getElem? i1)))
      have heq:=b2 hlive rfl
      rw [i2] at heq
      cases heq
      exact ⟨i,_,_,_,i1,hlive,i3⟩
     ·obtain ⟨c,c1,c2⟩:=F.cells k o a ha
      obtain ⟨u,u1,u2⟩:=hd.get o c c1
      refine ⟨u,u1,?_⟩
      rcases c2 with ⟨m,i,e1,e2,e3⟩ | ⟨e1,e2,e3⟩ | ⟨i,e,xs,e1,e2,e3⟩
      ·subst e3
       exact .inl ⟨m,i,e1,e2,u2.1⟩
      ·exact .inr ((e3 _ _ (u2.solid e2)).mono g2.le)
      ·subst e2
       subst e1
       obtain ⟨eu,_⟩:=u2
       subst eu
       exact .inr (VF.mono g2.le (a:=.lst e xs) (hs.box i _ e3).1)
  ·cases h
 | (x,.ptr K)::r,j,q,s,s',H,cs,hs,hc,h,hp,hl,hv=>by
  obtain ⟨c,cs,rfl,h1,h2⟩:=hc
  simp only [St.args] at h
  split at h
  ·rename_i id hx
   split at h
   ·rename_i bcs hbx
    cases hst:s.settle K.leaves bcs with
    | none=>rw [hst] at h; cases h
    | some s1 =>
    rw [hst] at h
    simp only [AA] at h
    obtain ⟨H1,g1,k1,e1,n1,b1'⟩:=pC hs (fun v hv i ev=>by subst ev; obtain ⟨o,ho⟩:=List.mem_iff_getElem?.1 hv; exact (hs.cell id bcs hbx o i ho).1) hst
    have ho:∀ x,s1.opd x=s.opd x:=fun x=>by cases x<;>simp [St.opd,e1]
    cases hq:s1.args r (j+1) with
    | none=>rw [hq] at h; cases h
    | some q' =>
     obtain ⟨q1,s2⟩:=q'
     rw [hq] at h
     cases h
     obtain ⟨H2,g2,k2,e2,n2,h3,b2⟩:=Lr (pt:=pt) (lent:=lent) g1.sr (h2.imp fun x c hx=>by rw [ho]; exact hx.mono g1.le k1) hq (fun k=>by
      have:=hp (k+1)
      simp only [List.getElem?_cons_succ] at this
      rw [show j+1+k=j+(k+1) by omega]
      exact this) hl hv
     simp only at h1
     rw [hx] at h1
     obtain ⟨_,b,b1,b3⟩:=h1
     have e:c=φ id:=b3.trans b1.symm
     subst e
     refine ⟨H2,g1.trans g2,k1.trans k2,e2.trans e1,n2.trans n1,II.ptr (p:=(id,K)) (b:=b) ?_ b1 h3,fun h hl=>b1' (b2 h hl) hl⟩
     rcases hp 0 with h | h
     ·simpa using h.symm
     ·simp at h
   ·cases h
  ·cases h
 | (x,.mut K)::r,j,q,s,s',H,cs,hs,hc,h,hp,hl,hv=>by
  obtain ⟨c,cs,rfl,h1,h2⟩:=hc
  simp only [St.args] at h
  cases hy:iB s.st j K.leaves (s.opd x).cells with
  | none=>rw [hy] at h; cases h
  | some y =>
   rw [hy] at h
   simp only [AA] at h
   cases hq:s.args r (j+y.2.length) with
   | none=>rw [hq] at h; cases h
   | some q' =>
    obtain ⟨q1,s2⟩:=q'
    rw [hq] at h
    cases h
    obtain ⟨H2,g2,k2,e2,n2,h3,b2⟩:=Lr (pt:=pt) (lent:=lent) hs h2 hq (fun k=>by
     have:=hp (y.2.length+k)
     rw [Cs (by omega),Nat.add_sub_cancel_left,<- Nat.add_assoc] at this
     exact this) hl hv
    have pts:∀ (m:Nat) (p:Nat×Kd),y.2[m]? = some p->pt (j+m)=some p:=by
     intro m p hm
     have hlm:=(As.1 hm).1
     rcases hp m with h | h
     ·rw [<- h,BO hlm]; exact hm
     ·rw [BO hlm,hm] at h; cases h
    have one:∀ a u,(VF H a u\/∃ (m:Nat) (p:Nat×Kd),a=.row (j+m)/\y.2[m]? = some p/\An s.st p.1=false/\(AQ s.st p.1).isSome=true/\u=φ p.1)->AFa H2 φ s2.st pt a u:=by
     intro a u h
     rcases h with h | ⟨m,p,h1,h2,h3,h4,h5⟩
     ·exact .inl (h.mono g2.le)
     ·exact .inr ⟨j+m,p,h1,pts m p h2,((k2 p.1 (by simp) (.inl h4)).2.2.1).trans h3,h5⟩
    refine ⟨H2,g2,k2,e2,n2,II.lendw ?_ h3,b2⟩
    simp only at h1
    rcases h1.cases with ⟨ds,arr,ea,ev,hd⟩ | ⟨vs,arr,ea,_,_⟩ | hvc
    ·rw [ea] at hy ⊢
     subst ev
     exact .inl ⟨y.1,arr,rfl,rfl,(uB hd hy).imp one⟩
    ·rw [ea] at hy
     exfalso
     simp only [AV.cells] at hy
     cases hks:K.leaves with
     | nil=>rw [hks] at hy; simp [iB] at hy
     | cons k ks =>
      rw [hks] at hy
      simp [iB,AV.norm,AV.solid] at hy
    ·have hcell:(s.opd x).cells=[s.opd x]:=YO hvc
     rw [hcell] at hy
     have:=uB (show Az (VC H φ s.st) [s.opd x] [c] from ⟨c,[],rfl,hvc,rfl⟩) hy
     have hlk:∀ z,(s.opd x).like z=z.headD .undef:=fun z=>by
      generalize s.opd x=v at hvc
      cases v<;>first | rfl | exact hvc.elim
     rw [hlk]
     cases hy1:y.1 with
     | nil=>rw [hy1] at this; cases this
     | cons a aw =>
      rw [hy1] at this
      obtain ⟨u,us,e,h1',_⟩:=this
      cases e
      exact .inr (one a c h1')
 | (x,.cap f K)::r,j,q,s,s',H,cs,hs,hc,h,hp,hl,hv=>by
  obtain ⟨c,cs,rfl,h1,h2⟩:=hc
  simp only [St.args] at h
  split at h
  ·rename_i f' K' z hx
   split at h
   ·rename_i ef
    split at h
    ·rename_i ek
     subst ef ek
     cases hq:s.args r j with
     | none=>rw [hq] at h; cases h
     | some q' =>
      obtain ⟨q1,s2⟩:=q'
      rw [hq] at h
      cases h
      obtain ⟨H2,g2,k2,e2,n2,h3,b2⟩:=Lr (pt:=pt) (lent:=lent) hs h2 hq hp hl hv
      simp only at h1
      rw [hx] at h1
      have h1:AAm H f' (Gj H K' z) c:=h1
      have h1':=oz g2.le (fun _ h=>Gj.mono g2.le h) h1
      obtain ⟨b,o,c',el,fz,e,rest⟩:=h1'
      subst e
      exact ⟨H2,g2,k2,e2,n2,II.cap (f:=f') ⟨b,o,c',el,fz,rfl,rest⟩ h3,b2⟩
    ·cases h
   ·cases h
  ·cases h
 | (x,.cap0 f)::r,j,q,s,s',H,cs,hs,hc,h,hp,hl,hv=>by
  obtain ⟨c,cs,rfl,h1,h2⟩:=hc
  simp only [St.args] at h
  split at h
  ·split at h
   ·exact Lr (args:=r) (pt:=pt) (lent:=lent) hs h2 h hp hl hv
   ·cases h
  ·cases h
theorem g7:∀ {ks:List Kd} {vs:List AV} {s s':St},s.settle ks vs=some s'->s'.fr=s.fr
 | [],[],s,s',h=>by cases h; rfl
 | [],_::_,s,s',h=>by simp [St.settle] at h
 | _::_,[],s,s',h=>by simp [St.settle] at h
 | k::ks,v::vs,s,s',h=>by
  simp only [St.settle] at h
  split at h
  ·split at h
   ·exact g7 h
   ·rename_i i _ _
    cases hk:s.keep (.row i) with
    | none=>rw [hk] at h; cases h
    | some x =>
     rw [hk] at h
     simp only [AA] at h
     exact (g7 h).trans (ACY (a':=x.1) hk)
  ·exact g7 h
theorem KZ:∀ {l:List (Cr×PK)} {x:Cr} {p:PK} {s:St} {j:Nat} {r:AAj×St},s.args (l++[(x,p)]) j=some r->∃ (j':Nat) (s':St) (r':AAj×St),s'.fr=s.fr/\s'.args [(x,p)] j'=some r'
 | [],x,p,s,j,r,h=>⟨j,s,r,rfl,h⟩
 | (y,.val K)::l,x,p,s,j,r,h=>by
  simp only [List.cons_append,St.args] at h
  split at h
  ·cases hk:s.keepAll (s.opd y).cells with
   | none=>rw [hk] at h; cases h
   | some a =>
    rw [hk] at h
    simp only [AA] at h
    cases hz:K.ofCells a.1 with
    | none=>rw [hz] at h; cases h
    | some z =>
     rw [hz] at h
     simp only [AA] at h
     cases hq:a.2.args (l++[(x,p)]) j with
     | none=>rw [hq] at h; cases h
     | some q =>
      obtain ⟨j',s',r',e,h'⟩:=KZ hq
      exact ⟨j',s',r',e.trans (uZ hk),h'⟩
  ·cases h
 | (y,.bor K)::l,x,p,s,j,r,h=>by
  have go:∀ {ρ:Type} {g:AAj×St->Option ρ} {r:ρ},(s.args (l++[(x,p)]) j).bind g=some r->∃ (j':Nat) (s':St) (r':AAj×St),s'.fr=s.fr/\s'.args [(x,p)] j'=some r':=by
   intro ρ g r h
   cases hq:s.args (l++[(x,p)]) j with
   | none=>rw [hq] at h; cases h
   | some q=>exact KZ hq
  simp only [List.cons_append,St.args] at h
  split at h
  ·split at h
   ·split at h
    ·exact go h
    ·cases h
   ·split at h
    ·exact go h
    ·cases h
   ·cases h
  ·split at h
   ·rename_i cs' _ _
    cases hy:sD s.st cs' with
    | none=>rw [hy] at h; cases h
    | some y' =>
     rw [hy] at h
     simp only [AA] at h
     cases hz:K.ofCells y'.1 with
     | none=>rw [hz] at h; cases h
     | some z =>
      rw [hz] at h
      exact go h
   ·cases h
  ·split at h
   ·cases hz:K.ofCells [s.opd y] with
    | none=>rw [hz] at h; cases h
    | some z =>
     rw [hz] at h
     exact go h
   ·cases h
 | (y,.mov K)::l,x,p,s,j,r,h=>by
  simp only [List.cons_append,St.args] at h
  split at h
  ·split at h
   ·split at h
    ·cases hq:s.args (l++[(x,p)]) j with
     | none=>rw [hq] at h; cases h
     | some q=>exact KZ hq
    ·cases h
   ·cases h
  ·cases h
 | (y,.movS K)::l,x,p,s,j,r,h=>by
  simp only [List.cons_append,St.args] at h
  split at h
  ·rename_i ds _
   cases hy:Kz s.st K.leaves ds with
   | none=>rw [hy] at h; cases h
   | some y' =>
    rw [hy] at h
    simp only [AA] at h
    cases hq:s.args (l++[(x,p)]) j with
    | none=>rw [hq] at h; cases h
    | some q=>exact KZ hq
  ·cases h
 | (y,.ptr K)::l,x,p,s,j,r,h=>by
  simp only [List.cons_append,St.args] at h
  split at h
  ·split at h
   ·rename_i bcs _
    cases hst:s.settle K.leaves bcs with
    | none=>rw [hst] at h; cases h
    | some s1 =>
     rw [hst] at h
     simp only [AA] at h
     cases hq:s1.args (l++[(x,p)]) (j+1) with
     | none=>rw [hq] at h; cases h
     | some q =>
      obtain ⟨j',s',r',e,h'⟩:=KZ hq
      exact ⟨j',s',r',e.trans (g7 hst),h'⟩
   ·cases h
  ·cases h
 | (y,.mut K)::l,x,p,s,j,r,h=>by
  simp only [List.cons_append,St.args] at h
  cases hy:iB s.st j K.leaves (s.opd y).cells with
  | none=>rw [hy] at h; cases h
  | some y' =>
   rw [hy] at h
   simp only [AA] at h
   cases hq:s.args (l++[(x,p)]) (j+y'.2.length) with
   | none=>rw [hq] at h; cases h
   | some q=>exact KZ hq
 | (y,.cap f K)::l,x,p,s,j,r,h=>by
  simp only [List.cons_append,St.args] at h
  split at h
  ·split at h
   ·split at h
    ·cases hq:s.args (l++[(x,p)]) j with
     | none=>rw [hq] at h; cases h
     | some q=>exact KZ hq
    ·cases h
   ·cases h
  ·cases h
 | (y,.cap0 f)::l,x,p,s,j,r,h=>by
  simp only [List.cons_append,St.args] at h
  split at h
  ·split at h
   ·exact KZ h
   ·cases h
  ·cases h
theorem VE.opens {H:HP} {a:AV} {v:Value} (h:VE H a v) (k:Nat):lf k a=a/\AT a.cells=0/\BM a.cells=[]:=by
 have sol:∀ {cs:List AV} {vs:List Value},Jz H cs vs->∀ k,Bl k cs=cs/\AT cs=0/\BM cs=[]:=by
  intro cs
  induction cs with
  | nil=>intro vs _ k; exact ⟨rfl,rfl,rfl⟩
  | cons c cs ih =>
   intro vs h k
   obtain ⟨v,r,rfl,h1,h2⟩:=h
   obtain ⟨o1,o2,o3⟩:=uM (k:=k) (r:=cs) h1
   obtain ⟨i1,i2,i3⟩:=ih h2 k
   exact ⟨by rw [o1,i1],by rw [o3]; exact i2,by rw [o2]; exact i3⟩
 rcases h.cases with ⟨cs,arr,rfl,_,hc⟩ | h
 ·obtain ⟨s1,s2,s3⟩:=sol hc k
  exact ⟨by simp only [lf,s1],s2,s3⟩
 ·have e:a.cells=[a]:=by cases a<;>first | rfl | exact h.elim
  obtain ⟨s1,s2,s3⟩:=sol (cs:=[a]) (vs:=[v]) ⟨v,[],rfl,h,rfl⟩ k
  refine ⟨?_,by rw [e]; exact s2,by rw [e]; exact s3⟩
  have:lf k a=(Bl k [a]).headD .undef:=by cases a<;>first | rfl | exact h.elim
  rw [this,s1]
  rfl
theorem AFb:∀ (K:Kd) (cs r:List AV) (x:K.T),(cs.all fun a=>!a.isNew)=true->K.dec cs=some (x,r)->((K.enc x).all fun a=>!a.isNew)=true/\(r.all fun a=>!a.isNew)=true:=by
 intro K
 induction K with
 | pair a b iha ihb =>
  intro cs r x hn h
  simp only [Kd.dec] at h
  cases h1:a.dec cs with
  | none=>simp [h1] at h
  | some p =>
   simp only [h1,AA] at h
   cases h2:b.dec p.2 with
   | none=>simp [h2] at h
   | some q =>
    simp only [h2,AA,BT,Prod.mk.injEq] at h
    obtain ⟨rfl,rfl⟩:=h
    obtain ⟨e1,e2⟩:=iha cs p.2 p.1 hn h1
    obtain ⟨e3,e4⟩:=ihb p.2 q.2 q.1 e2 h2
    exact ⟨by simp only [Kd.enc,List.all_append,e1,e3,Bool.and_self],e4⟩
 | own t e _ =>
  intro cs r x hn h
  cases cs with
  | nil=>simp [Kd.dec] at h
  | cons a cs=>cases a<;>first | (simp [AV.isNew] at hn; done) | (simp [Kd.dec] at h; done)
 | ref K _ =>
  intro cs r x hn h
  cases cs with
  | nil=>simp [Kd.dec] at h
  | cons a cs=>cases a<;>first | (simp [AV.isNew] at hn; done) | (simp [Kd.dec] at h; done)
 | _ =>
  intro cs r x hn h
  cases cs with
  | nil=>simp [Kd.dec] at h
  | cons a cs =>
   simp only [List.all_cons,AE] at hn
   refine ⟨rfl,?_⟩
   have e:r=cs:=by
    cases a<;>first | (simp [Kd.dec] at h; done) | (simp [Kd.dec] at h; obtain ⟨_,_,rfl⟩:=h; rfl) | (simp [Kd.dec] at h; obtain ⟨_,rfl⟩:=h; rfl) | (simp only [Kd.dec] at h; split at h<;>first | (cases h; done) | (cases h; rfl) | (split at h<;>first | (cases h; done) | (cases h; rfl))) | (rename_i l; cases l<;>first | (simp [Kd.dec] at h; done) | (simp only [Kd.dec] at h; split at h<;>first | (cases h; done) | (cases h; rfl)))
   rw [e]
   exact hn.2
theorem AAu {K:Kd} {cs:List AV} {z:K.T} (h:K.ofCells cs=some z) (hn:(cs.all fun a=>!a.isNew)=true):((K.enc z).all fun a=>!a.isNew)=true:=(AFb K cs [] z hn (Gk h)).1
theorem AEC:∀ {cs:List AV},(cs.all fun a=>!a.isNew)=true->AT cs=0/\∀ k,Bl k cs=cs/\BM cs=[]
 | [],_=>⟨rfl,fun _=>⟨rfl,rfl⟩⟩
 | a::cs,h=>by
  simp only [List.all_cons,AE,EY] at h
  obtain ⟨h1,h2⟩:=AEC h.2
  have ha:=h.1
  refine ⟨by simp [AT,ha,h1],fun k=>?_⟩
  obtain ⟨o1,o2⟩:=h2 k
  cases a<;>first | (cases ha; done) | exact ⟨by simp only [Bl,o1],by simp only [BM,o2]⟩
theorem AGo.opens {H:HP} {φ:CQ} {st:List AX} {pt:Nat->Option (Nat×Kd)} {a:AV} {c:Value} (h:AGo H φ st pt a c) (k:Nat):lf k a=a/\AT a.cells=0/\BM a.cells=[]:=by
 rcases h with ⟨aw,arr,rfl,_,hc⟩ | h | ⟨k',p,rfl,_⟩
 ·have hs:(aw.all fun a=>!a.isNew)=true:=by
   refine Bp.2 fun a ha=>?_
   obtain ⟨j,hj⟩:=List.mem_iff_getElem?.1 ha
   obtain ⟨u,_,h | ⟨_,_,h,_⟩⟩:=hc.get j a hj
   ·cases a<;>first | rfl | exact h.elim
   ·rw [h]; rfl
  obtain ⟨h1,h2⟩:=AEC hs
  exact ⟨by simp only [lf,(h2 k).1],h1,(h2 k).2⟩
 ·exact (VE.of_VF h).opens k
 ·exact ⟨rfl,rfl,rfl⟩
theorem II.news {H:HP} {φ:CQ} {st:List AX} {pt:Nat->Option (Nat×Kd)} {lent:Nat->Prop} {aw:List AV} {cs:List Value} {ms:List Nat} (h:II H φ st pt lent aw cs ms) :
  AT (cellsOf aw)=ms.length/\∀ (m:Nat) (b:AX),(BM (cellsOf aw))[m]? = some b->∃ (i:Nat) (t:TypeId) (e:Kd),∃ xs:List (Kd.T e),ms[m]? = some i/\st[i]? = some (AX.rows t e xs)/\b=AX.rows t e xs:=by
 have skip:∀ {a:AV} {aw:List AV} {ms:List Nat},AT a.cells=0->BM a.cells=[]->(AT (cellsOf aw)=ms.length/\∀ (m:Nat) (b:AX),(BM (cellsOf aw))[m]? = some b->∃ (i:Nat) (t:TypeId) (e:Kd),∃ xs:List (Kd.T e),ms[m]? = some i/\st[i]? = some (AX.rows t e xs)/\b=AX.rows t e xs) ->
   (AT (cellsOf (a::aw))=ms.length/\∀ (m:Nat) (b:AX),(BM (cellsOf (a::aw)))[m]? = some b->∃ (i:Nat) (t:TypeId) (e:Kd),∃ xs:List (Kd.T e),ms[m]? = some i/\st[i]? = some (AX.rows t e xs)/\b=AX.rows t e xs):=by
  intro a aw ms h1 h2 h3
  have e:cellsOf (a::aw)=a.cells++cellsOf aw:=rfl
  rw [e,CK,h1,CW,h2,Nat.zero_add,List.nil_append]
  exact h3
 induction h with
 | nil=>exact ⟨rfl,fun m b h=>by simp [cellsOf,BM] at h⟩
 | val hv _ ih=>obtain ⟨_,h1,h2⟩:=hv.opens 0; exact skip h1 h2 ih
 | bor _ _ _ ih=>exact skip rfl rfl ih
 | cap _ _ ih=>exact skip rfl rfl ih
 | borS hb hz he _ ih =>
  rename_i K z y arr aw cs ms _
  have hs:(y.all fun a=>!a.isNew)=true:=by
   refine Bp.2 fun a ha=>?_
   obtain ⟨j,hj⟩:=List.mem_iff_getElem?.1 ha
   obtain ⟨u,_,h | ⟨_,_,_,_,_,_,h,_⟩⟩:=hb.get j a hj
   ·cases a<;>first | rfl | exact h.elim
   ·rw [h]; rfl
  have hn:=AEC (AAu hz hs)
  exact skip (by rw [d_]; exact hn.1) (by rw [d_]; exact (hn.2 0).2) ih
 | lendw hm _ ih =>
  obtain ⟨_,h1,h2⟩:=hm.opens 0
  exact skip h1 h2 ih
 | ptr _ _ _ ih=>exact skip rfl rfl ih
 | movS hm _ ih =>
  rename_i cl ids arr aw cs ms _
  have e:cellsOf (AV.agg cl::aw)=cl++cellsOf aw:=rfl
  rw [e,CK,CW]
  refine ⟨by rw [hm.cnt,ih.1,List.length_append],fun m b hb=>?_⟩
  rcases CF m (BM cl).length with h | h
  ·rw [BO h] at hb
   obtain ⟨i,t,K,xs,h1,h2,h3⟩:=hm.boxes m b hb
   exact ⟨i,t,K,xs,by rw [BO (As.1 h1).1]; exact h1,h2,h3⟩
  ·rw [Cs h] at hb
   obtain ⟨i,t,K,xs,h1,h2,h3⟩:=ih.2 _ b hb
   rw [EZ,hm.cnt] at h1 h
   exact ⟨i,t,K,xs,by rw [Cs h]; exact h1,h2,h3⟩
 | mov hi _ ih =>
  rename_i i t K xs aw cs ms _
  have e:cellsOf (AV.new t K xs::aw)=.new t K xs::cellsOf aw:=rfl
  rw [e]
  refine ⟨by simp [AT,AV.isNew,ih.1],fun m b hb=>?_⟩
  simp only [BM] at hb
  cases m with
  | zero=>simp at hb; subst hb; exact ⟨i,t,K,xs,rfl,hi,rfl⟩
  | succ m=>simpa using ih.2 m b (by simpa using hb)
theorem II.callee {H H1:HP} {φ:CQ} {st est:List AX} {ids:List (Nat×Kd)} {owns movs bors:List Nat} {aw:List AV} {cs:List Value} {ms:List Nat} (hE:mF st ids.length (ids.map (·.1)++owns++movs) est)
  (hle:H.le H1) (hlent:∀ i∈bors,∀ (t:TypeId) (K:Kd) (xs:List (Kd.T K)),st[i]? = some (AX.rows t K xs)->dN (Gj H1 K) K.sz H1 xs (φ i))
  (hnp:∀ i b,((∃ (t:TypeId) (K:Kd),∃ xs:List (Kd.T K),st[i]? = some (AX.rows t K xs))\/(∃ (t:TypeId) (K:Kd),∃ xs:List (Kd.T K),st[i]? = some (AX.mrow t K xs)))->φ i≠.pointer (some ⟨b,0,none⟩))
  (h:II H φ st (fun k=>ids[k]?) (· ∈ bors) aw cs ms):∀ (pre:List Nat),movs=pre++ms ->
  Az (VB H1 (fun k=>φ ((ids.map (·.1)++owns++movs).getD k 0)) est) (Di (ids.length+owns.length+pre.length) aw) cs:=by
 induction h with
 | nil=>intro pre _; rfl
 | val hv _ ih =>
  intro pre e
  obtain ⟨h1,h2,_⟩:=hv.opens (ids.length+owns.length+pre.length)
  simp only [Di,h1,h2,Nat.add_zero]
  exact ⟨_,_,rfl,VB.of_VE (hv.mono hle),ih pre e⟩
 | bor hi hst _ ih =>
  intro pre e
  exact ⟨_,_,rfl,VB.of_VC (a:=.lst _ _) (hlent _ hi _ _ _ hst),ih pre e⟩
 | cap hc _ ih =>
  intro pre e
  obtain ⟨b,o,c',el,fz,ev,hb,vs,hr,hv⟩:=hc
  simp only [Value.func.injEq,true_and,Array.mk.injEq,List.cons.injEq,and_true] at ev
  subst ev
  exact ⟨_,_,rfl,VB.of_VC (a:=.fptr _ 0) ⟨b,o,c',el,fz,rfl,hle _ _ hb,vs,Jz.mono hle (Jz.of_rep hr),hv⟩,ih pre e⟩
 | movS hm _ ih =>
  rename_i cl ids0 arr aw cs ms _
  intro pre e
  have hk:∀ m i,ids0[m]? = some i->(ids.map (·.1)++owns++movs)[ids.length+owns.length+pre.length+m]? = some i:=fun m i hm=>by
   rw [Cs (by simp; omega),e,List.length_append,List.length_map,Cs (by omega),BO (by have:=(As.1 hm).1; omega),<- hm]
   congr 1; omega
  refine ⟨_,_,rfl,?_,?_⟩
  ·refine ⟨arr,rfl,VR (by rw [KW,hm.len]) fun o a v ha hv=>?_⟩
   obtain ⟨u,u1,u2⟩:=hm.cells _ o a ha
   rw [hv] at u1
   cases u1
   rcases u2 with ⟨m,i,rfl,h2,rfl⟩ | h
   ·have hk:=hk m i h2
    obtain ⟨b,hb⟩:=hE.at hk
    obtain ⟨i',hi',hc⟩:=hE.get _ b hb
    refine ⟨by simp only [IR hk],?_⟩
    rcases hc with ⟨hlt,_⟩ | ⟨_,t',e',xs',_,rfl⟩ | ⟨hlt,_⟩
    ·omega
    ·simp only [AQ,hb]; rfl
    ·omega
   ·exact VC.of_VF (h.mono hle)
  ·have:=ih (pre++ids0) (by rw [e,Bf])
   have hcnt:=hm.cnt
   simpa [AV.cells,hcnt,Nat.add_assoc] using this
 | mov hst _ ih =>
  rename_i i t K xs aw cs ms _
  intro pre e
  have hk:(ids.map (·.1)++owns++movs)[ids.length+owns.length+pre.length]? = some i:=by
   rw [Cs (by simp),e]
   simp
  refine ⟨_,_,rfl,?_,?_⟩
  ·obtain ⟨b,hb⟩:=hE.at hk
   obtain ⟨i',hi',hc⟩:=hE.get _ b hb
   refine VB.of_VC (a:=.row _) ⟨by simp only [IR hk],?_⟩
   rcases hc with ⟨hlt,_⟩ | ⟨_,t',e',xs',_,rfl⟩ | ⟨hlt,_⟩
   ·omega
   ·simp only [AQ,hb]; rfl
   ·omega
  ·have:=ih (pre++[i]) (by simp [e])
   simpa [AT,AV.cells,AV.isNew,Nat.add_assoc] using this
 | borS hb hz he _ ih =>
  rename_i K z y arr aw cs ms _
  intro pre e
  have hf:Jz H1 y arr.toList:=JK.2 (hb.imp fun a u h=>by
   rcases h with h | ⟨i,t,K',xs,g1,g2,rfl,rfl⟩
   ·exact h.mono hle
   ·exact hlent i g1 t K' xs g2)
  obtain ⟨c1,c2,d1,d2,d3⟩:=IN K hf (Gk hz)
  cases d3
  rw [List.append_nil] at d1
  have hve:VE H1 (K.av z) (.agg arr):=by
   rw [he]
   exact ⟨arr,rfl,by rw [d1]; exact Jz.of_rep d2⟩
  obtain ⟨h1,h2,_⟩:=hve.opens (ids.length+owns.length+pre.length)
  simp only [Di,h1,h2,Nat.add_zero]
  exact ⟨_,_,rfl,VB.of_VE hve,ih pre e⟩
 | lendw hm _ ih =>
  rename_i a c aw cs ms _
  intro pre e
  obtain ⟨h1,h2,_⟩:=hm.opens (ids.length+owns.length+pre.length)
  simp only [Di,h1,h2,Nat.add_zero]
  have one:∀ a c,AFa H φ st (fun k=>ids[k]?) a c->VC H1 (fun k=>φ ((ids.map (·.1)++owns++movs).getD k 0)) est a c:=by
   intro a c h
   rcases h with h | ⟨k,p,rfl,hp,hva,rfl⟩
   ·exact VC.of_VF (h.mono hle)
   ·have hp:ids[k]? = some p:=hp
    have hk1:k<ids.length:=(As.1 hp).1
    have hk:(ids.map (·.1)++owns++movs)[k]? = some p.1:=by
     rw [Bf,BO (by simpa using hk1),Cd,hp]
     rfl
    obtain ⟨bx,hbx⟩:=hE.at hk
    obtain ⟨i',hi',hc⟩:=hE.get _ bx hbx
    rw [hk] at hi'
    cases hi'
    refine ⟨by simp only [IR hk],?_⟩
    rcases hc with ⟨_,c1,c2,hst,_⟩ | ⟨hle,_⟩ | ⟨_,t',e',xs',_,rfl⟩
    ·simp only [An,hst] at hva; cases hva
    ·omega
    ·simp only [AQ,hbx]; rfl
  refine ⟨_,_,rfl,?_,ih pre e⟩
  rcases hm with ⟨aw',arr,rfl,rfl,hc⟩ | hm
  ·exact ⟨arr,rfl,hc.imp one⟩
  ·exact VB.of_VC (one a c hm)
 | ptr hp hb _ ih =>
  rename_i k p b aw cs ms _
  intro pre e
  have hk1:k<ids.length:=(As.1 hp).1
  have hk:(ids.map (·.1)++owns++movs)[k]? = some p.1:=by
   rw [Bf,BO (by simpa using hk1),Cd,hp]
   rfl
  refine ⟨_,_,rfl,?_,by simpa [AT,AV.cells,AV.isNew] using ih pre e⟩
  obtain ⟨bx,hbx⟩:=hE.at hk
  obtain ⟨i',hi',hc⟩:=hE.get _ bx hbx
  rw [hk] at hi'
  cases hi'
  refine VB.of_VC (a:=.ptr k 0) ⟨?_,b,by simp only [IR hk]; exact hb,hb⟩
  rcases hc with ⟨_,c1,c2,_,rfl,_⟩ | ⟨hle,_⟩ | ⟨_,t',e',xs',hst,rfl⟩
  ·simp only [An,hbx]
  ·omega
  ·exact absurd hb (hnp p.1 b (by rcases hst with h | h; exact .inl ⟨_,_,_,h⟩; exact .inr ⟨_,_,_,h⟩))
def eB:List Operand->List (Cr×PK)->Bool
 | [],[]=>true
 | y::ys,x::xs=>Dl y x.1&&eB ys xs
 | _,_=>false
theorem ua {H:HP} {φ:CQ} {s:St} {act:Act} (hf:HR H φ s.st s.fr act.tmps):∀ {ys:List Operand} {xs:List (Cr×PK)},eB ys xs=true->Az (fun (x:Cr×PK) c=>VA H φ s.st (s.opd x.1) c) xs (ys.map act.eval)
 | [],[],_=>rfl
 | y::ys,x::xs,h=>by
  simp only [eB,AE] at h
  exact ⟨_,_,rfl,Bg hf h.1,ua hf h.2⟩
 | [],_::_,h=>by simp [eB] at h
 | _::_,[],h=>by simp [eB] at h
def AAv (n:Nat) (o:Oper) (d:Option Nat) (f:Nat) (args:List (Cr×PK)):Bool :=
 (o.dst==d&&(decide (f<Br)||decide (2*Br<=f)))&&(match d with | some d=>decide (d<n) | none=>true)&&(match o.op with
  | .call ⟨.value (.func g),cargs,_⟩=>g==f % Br&&eB cargs.toList args&&args.all fun x=>!x.2.isCap
  | .call ⟨.value (.tmp y),cargs,_⟩=>(match args.getLast? with
   | some x=>decide (f<Br)&&eB cargs.toList args.dropLast&&Dl (.tmp y) x.1&&(args.dropLast.all fun x=>!x.2.isCap)&&(match x.2 with
    | .cap f' _=>f'==f
    | .cap0 f'=>f'==f
    | _=>false)
   | none=>false)
  | _=>false)
theorem AED {H H':HP} {φ φ':CQ} {st st':List AX} {rs:List AV} {f:AV->AV} {v:Value} (h:AGn H φ st rs v) (hf:∀ a∈rs,∀ u,VB H φ st a u->VB H' φ' st' (f a) u):VA H' φ' st' (AGV (rs.map f)) v:=by
 have mp:∀ {aw:List AV} {vs:List Value},(∀ a∈aw,∀ u,VB H φ st a u->VB H' φ' st' (f a) u)->Az (VB H φ st) aw vs->Az (VB H' φ' st') (aw.map f) vs:=by
  intro aw
  induction aw with
  | nil=>intro vs _ h; exact h
  | cons a aw ih =>
   intro vs hf h
   obtain ⟨v,r,rfl,h1,h2⟩:=h
   exact ⟨v,_,rfl,hf a (by simp) v h1,ih (fun b hb=>hf b (by simp [hb])) h2⟩
 cases rs with
 | nil =>
  obtain ⟨arr,e,h⟩:=h
  exact ⟨arr,e,mp (aw:=[]) (fun _ h=>by cases h) h⟩
 | cons a rs =>
  cases rs with
  | nil=>exact VA.of_VB (hf a (by simp) v h)
  | cons b rs =>
   obtain ⟨arr,e,h⟩:=h
   exact ⟨arr,e,mp hf h⟩
theorem g8:∀ {ys:List Operand} {xs:List (Cr×PK)},eB ys xs=true->xs.length=ys.length
 | [],[],_=>rfl
 | y::ys,x::xs,h=>by
  simp only [eB,AE] at h
  simp [g8 h.2]
 | [],_::_,h=>by simp [eB] at h
 | _::_,[],h=>by simp [eB] at h
theorem ADH {H:HP} {φ:CQ} {s:St} {act:Act} {n:Nat} {o:Oper} {d:Option Nat} {f:Nat} {args:List (Cr×PK)} {q:AAj×St} (h:AAv n o d f args=true) (hf:HR H φ s.st s.fr act.tmps) (hq:s.args args 0=some q) :
  o.dst=d/\(∀ k,d=some k->k<n)/\∃ cs:List Value,Az (fun (x:Cr×PK) c=>VA H φ s.st (s.opd x.1) c) args cs/\∀ w:World,o_ P (f % Br)->(execOp act.eval o).run P w=.ok (.enter (f % Br) (ME args cs).toArray) w:=by
 simp only [AAv,AE,beq_iff_eq] at h
 obtain ⟨⟨⟨hd,_⟩,hdn⟩,h2⟩:=h
 refine ⟨hd,fun k e=>by subst e; simpa using hdn,?_⟩
 split at h2
 ·rename_i g cargs tys ho
  simp only [AE,beq_iff_eq] at h2
  obtain ⟨⟨rfl,hargs⟩,hpl⟩:=h2
  refine ⟨_,ua hf hargs,fun w hent=>?_⟩
  obtain ⟨fn,c,hfn,hname,hbody⟩:=hent
  have hname':¬ fn.name = "runtime.NumGoroutine" := by simpa using hname
  rw [aS (by simpa using g8 hargs) hpl]
  have hargs':(cargs.toList.map act.eval).toArray=cargs.map act.eval:=by
   rw [<- Array.toList_map,Array.toArray_toList]
  rw [hargs']
  simp [execOp,ho,resolve,Act.eval,Deferred.ofValue,invoke,callFunc,run_program,hfn,hname',hbody]
 ·rename_i y cargs tys ho
  split at h2
  ·rename_i x hx
   simp only [AE] at h2
   obtain ⟨⟨⟨⟨hfb,hargs⟩,hy⟩,hpl⟩,hp⟩:=h2
   rw [decide_eq_true_eq] at hfb
   rw [Nat.mod_eq_of_lt hfb]
   have hne:args≠[]:=fun e=>by rw [e] at hx; cases hx
   have hsplit:args=args.dropLast++[x]:=by
    rw [List.getLast?_eq_some_getLast hne] at hx
    rw [<- Option.some.inj hx]
    exact (List.dropLast_concat_getLast hne).symm
   have hvy:=Bg hf hy
   refine ⟨cargs.toList.map act.eval++[act.eval (.tmp y)],?_,fun w hent=>?_⟩
   ·rw [hsplit]
    exact (ua hf hargs).append ⟨_,_,rfl,hvy,rfl⟩
   ·obtain ⟨fn,c,hfn,hname,hbody⟩:=hent
    have hname':¬ fn.name = "runtime.NumGoroutine" := by simpa using hname
    have hargs':(cargs.toList.map act.eval).toArray=cargs.map act.eval:=by
     rw [<- Array.toList_map,Array.toArray_toList]
    rw [hsplit,jF (by simpa using g8 hargs),aS (by simpa using g8 hargs) hpl,show (cargs.toList.map act.eval++ME [x] [act.eval (.tmp y)]).toArray=(cargs.toList.map act.eval).toArray++(ME [x] [act.eval (.tmp y)]).toArray from by simp,hargs']
    obtain ⟨x1,p⟩:=x
    rw [hsplit] at hq
    obtain ⟨j',s',r',efr,hl⟩:=KZ hq
    have hopd:s'.opd x1=s.opd x1:=by cases x1<;>simp [St.opd,efr]
    cases p with
    | cap f' K =>
     simp only [beq_iff_eq] at hp
     subst hp
     simp only [St.args] at hl
     split at hl
     ·rename_i f2 K2 z hz
      rw [hopd] at hz
      simp only at hvy
      rw [hz] at hvy
      split at hl
      ·rename_i e1
       subst e1
       obtain ⟨b,o',c',el,fz,ev,_⟩:=(hvy:AAm H f2 (Gj H K2 z) _)
       simp only [ME,AFZ,ev,List.append_nil]
       simp [execOp,ho,resolve,ev,Deferred.ofValue,invoke,callFunc,run_program,hfn,hname',hbody]
      ·cases hl
     ·cases hl
    | cap0 f' =>
     simp only [beq_iff_eq] at hp
     subst hp
     simp only [St.args] at hl
     split at hl
     ·rename_i f2 hz
      rw [hopd] at hz
      simp only at hvy
      rw [hz] at hvy
      split at hl
      ·rename_i e1
       subst e1
       obtain ⟨_,ev⟩:=(hvy:([]:List AV)=[]/\act.eval (.tmp y)=.func (.func f2) #[] #[])
       simp only [ME,AFZ,List.append_nil]
       simp [execOp,ho,resolve,ev,Deferred.ofValue,invoke,callFunc,run_program,hfn,hname',hbody]
      ·cases hl
     ·cases hl
    | _=>cases hp
  ·cases h2
 ·cases h2
theorem AFc {n:Nat} {o:Oper} {d:Option Nat} {f:Nat} {args:List (Cr×PK)} {res:List Kd} {cal:Gi} (hcal:J6 P cal) (h:AAv n o d f args=true):Jx P n o (.call d f args res) cal:=by
 intro ρ kn r s act w H φ next Q hs hf hn hk hnext
 simp only [Ef] at hk
 cases hq:s.args args 0 with
 | none=>rw [hq] at hk; cases hk
 | some q0 =>
  obtain ⟨q,s1⟩:=q0
  rw [hq] at hk
  simp only [AA] at hk
  obtain ⟨hd,hdn,cvs,hcvs,hrun⟩:=ADH h hf hq
  cases hb:NM s1.st q.ptrs with
  | none=>rw [hb] at hk; cases hk
  | some bx0 =>
   obtain ⟨bx,owns⟩:=bx0
   rw [hb] at hk
   simp only [AA] at hk
   split at hk
   ·rename_i hchk
    simp only [AE] at hchk
    obtain ⟨⟨hnd,hap⟩,hlv⟩:=hchk
    have hnd:=yj hnd
    have hap:=yk hap
    have hlv:=rg hlv
    cases hc:cal f q.args bx with
    | none=>rw [hc] at hk; cases hk
    | some rs =>
     rw [hc] at hk
     simp only [AA] at hk
     cases hy:Cp (res++q.ptrs.map (·.2)) rs with
     | none=>rw [hy] at hk; cases hk
     | some y =>
      rw [hy] at hk
      simp only [AA] at hk
      obtain ⟨H1,g1,k1,e1,n1,ha,hback⟩:=Lr (pt:=fun k=>q.ptrs[k]?) (lent:=(· ∈ q.bors)) hs hcvs hq (fun k=>.inl (by simp)) (fun _ h=>h) hlv
      have F:=jc hb
      obtain ⟨hent,hnf,m,hm,hcall⟩:=hcal.2 f q.args bx rs (by simp only [AAv,AE,Do,decide_eq_true_eq] at h; exact h.1.1.2) hc
      obtain ⟨l1,l2,_⟩:=pA _ rs y hy
      have hrs:EC _ y=rs:=ym _ rs y hy hnf
      rw [hrs] at hk
      have hmr:m=res.length:=by
       have:rs.length=res.length+q.ptrs.length:=by rw [l1]; simp
       have:=F.len
       omega
      subst hmr
      have hE:=AD_ F ha.news.1 ha.news.2
      obtain ⟨H2,st1,b1,b2,b3,b4,b5⟩:=AHR g1.sr q.bors (fun i hi=>hlv i (List.mem_append_right _ hi))
      have hsame:∀ i∈q.ptrs.map (·.1)++owns++q.movs,st1[i]? = s1.st[i]? := fun i hi=>b4 i fun h=>hap i h hi
      have hsr:=hE.sr hnd b2 hsame (fun i e xs hi=>by
       rw [b4 i fun h=>?_]
       ·exact hi
       ·obtain ⟨_,_,_,h2⟩:=hlv i (List.mem_append_right _ h)
        rw [hi] at h2
        cases h2)
      have hnp:∀ i b,((∃ (t:TypeId) (K:Kd),∃ xs:List (Kd.T K),s1.st[i]? = some (AX.rows t K xs))\/(∃ (t:TypeId) (K:Kd),∃ xs:List (Kd.T K),s1.st[i]? = some (AX.mrow t K xs)))->φ i≠.pointer (some ⟨b,0,none⟩):=by
       intro i b hi e
       rcases hi with ⟨t,K,xs,hi⟩ | ⟨t,K,xs,hi⟩
       ·obtain ⟨flat,ho,_⟩:=g1.sr.box i _ hi
        rcases ho.2 with ⟨e1,_⟩ | ⟨_,_,_,e1,_⟩<;>rw [e] at e1<;>cases e1
       ·obtain ⟨flat,ho,_⟩:=g1.sr.box i _ hi
        rcases ho.2 with ⟨e1,_⟩ | ⟨_,_,_,e1,_⟩<;>rw [e] at e1<;>cases e1
      have hargs2:=ha.callee hE b1 b5 hnp [] rfl
      have hhan:Fx bx=q.ptrs.length+owns.length:=by rw [o9,F.len,F.cnt]
      simp only [List.length_nil,Nat.add_zero] at hargs2
      rw [<- hhan] at hargs2
      have hC:=hcall H2 _ w _ hsr hargs2
      have B:ABq H1 φ s1.st w q.ptrs.length (q.ptrs.map (·.1)++owns) q.movs q.bors H2 (Bo bx q.args) :=
       ⟨g1.sr,hE,hnd,fun i hi=>hlv i (List.mem_append_right _ hi),hap,b1,b3,by simp⟩
      have houtl:(rs.drop res.length).length=q.ptrs.length:=by rw [List.length_drop,l1]; simp
      have houtk:∀ (j:Nat) (v:AV),(rs.drop res.length)[j]? = some v->∃ p,q.ptrs[j]? = some p/\∃ x:Kd.T p.2,v=Kd.av p.2 x:=by
       intro j v hj
       have hjl:j<q.ptrs.length:=by rw [<- houtl]; exact (As.1 hj).1
       have hp:q.ptrs[j]? = some q.ptrs[j]:=by simp
       refine ⟨q.ptrs[j],hp,?_⟩
       have hK:(res++q.ptrs.map (·.2))[res.length+j]? = some q.ptrs[j].2:=by
        rw [Cs (by omega),Nat.add_sub_cancel_left,Cd,hp]; rfl
       obtain ⟨x,hx⟩:=pB _ y _ _ hK
       rw [hrs] at hx
       rw [DC,hx] at hj
       exact ⟨x,(Option.some.inj hj).symm⟩
      have hcnt:AT (Bs (rs.drop res.length))=owns.length:=by
       rw [ACX houtl houtk,<- ACX F.len F.kd,F.cnt]
      have hhan2:Fx (rs.drop res.length)=q.ptrs.length+owns.length:=by rw [o9,houtl,hcnt]
      split at hk
      ·rename_i hflat
       simp only [Do,AE,List.isEmpty_iff] at hflat
       unfold Oper.wp
       rw [hrun w hent,Oper.upon_enter]
       refine Calls.mono hC fun out w' hout=>?_
       cases out with
       | returned v =>
        obtain ⟨H3,φ3,c1,c2,c3,c4⟩:=hout
        rw [F.len,hE.len] at c3
        have hlen:(q.ptrs.map (·.1)++owns).length<=(Bo (rs.drop res.length) (rs.take res.length)).length:=by
         rw [Xz,houtl,hcnt]; simp only [List.length_append,List.length_map]; omega
        obtain ⟨H4,φ4,d1,dm,d2,d3⟩:=B.back c2 c1 c3 hlen (by
         intro k i hkn hbk
         have hpk:q.ptrs[k]? = some q.ptrs[k]:=by simp
         have hik:q.ptrs[k].1=i:=by
          rw [BO (by simpa using hkn),Cd,hpk] at hbk
          exact Option.some.inj hbk
         have hbxk:bx[k]? = some (bx[k]'(by rw [F.len]; exact hkn)):=by simp
         obtain ⟨p,hp,hc⟩:=F.vars 0 k _ hbxk
         rw [hpk] at hp
         cases hp
         have hok:(rs.drop res.length)[k]? = some ((rs.drop res.length)[k]'(by rw [houtl]; exact hkn)):=by simp
         obtain ⟨p,hp,x,hx⟩:=houtk k _ hok
         rw [hpk] at hp
         cases hp
         have hest:(Bo (rs.drop res.length) (rs.take res.length))[k]? = some (AAi ((rs.drop res.length).length+AT (Bs ((rs.drop res.length).take k))) (Kd.av q.ptrs[k].2 x)):=by
          rw [KX,BO (by rw [Bm,houtl]; exact hkn),NQ _ _ k _ hok,hx]
         rw [hik] at hc
         rcases hc with ⟨cs,ecs,ho,hst,_⟩ | ⟨t,e,xs,ho,hst,_⟩
         ·refine ⟨fun _ _=>⟨_,by rw [hest,(KY x ho).2]⟩,fun t K xs h=>?_⟩
          rw [hst] at h
          rcases h with h | h<;>cases h
         ·refine ⟨fun cs h=>?_,fun t' K' xs' h=>?_⟩
          ·rcases hst with h2 | h2<;>rw [h2] at h<;>cases h
          ·have e1:t'=t/\K'=e:=by
            rcases hst with h2 | h2<;>rcases h with h | h<;>rw [h2] at h<;>cases h<;>exact ⟨rfl,rfl⟩
           obtain ⟨rfl,rfl⟩:=e1
           revert x
           rw [ho]
           intro x _ hest
           exact ⟨x,hest⟩) (by
         rcases hflat with h | h
         ·exact .inl h
         ·exact .inr h.1)
        have hdrop:(q.ptrs.map (·.1)++owns).drop q.ptrs.length=owns:=by
         rw [show q.ptrs.length=(q.ptrs.map (·.1)).length by simp,List.drop_left]
        rw [hdrop] at d2
        have hf4:HR H4 φ4 (R2 s1.st q.ptrs.length (q.ptrs.map (·.1)++owns) q.movs (Bo (rs.drop res.length) (rs.take res.length))) (s1.fr.map (Qa (owns++q.movs))) act.tmps:=by
         rw [e1]
         exact HR.kill d2 ((hf.mono g1.le k1).mono d1.le (CD.refl _ _ _))
        have hres:=AED c4 (H':=H4) (φ':=φ4) (st':=R2 s1.st q.ptrs.length (q.ptrs.map (·.1)++owns) q.movs (Bo (rs.drop res.length) (rs.take res.length)))
         (f:=AV.renV (NF (q.ptrs.map (·.1)++owns) s1.st.length)) fun a ha u hu=>d3 a u (by
          rcases hflat with h | h
          ·exact .inl h
          ·exact .inr (Bp.1 h.2 a ha)) hu
        refine hnext _ v w' H4 φ4 hk (g1.trans d1) ?_ ⟨?_,fun h=>by cases h⟩
        rotate_left
        ·intro i bi hi hl hni b hbi
         simp only [Fw.touch,hq,hb,CV,not_or] at hni
         refine c3.old b ((hs.box i bi hi).blk_lt hl hbi) fun k hk=>?_
         have hk2:(q.ptrs.map (·.1)++owns++q.movs)[k]? = some (q.ptrs.map (·.1)++owns++q.movs)[k]:=by simp
         rw [IR hk2]
         intro e
         have hmem:=BC hk
         have hne:(q.ptrs.map (·.1)++owns++q.movs)[k]≠i:=fun e2=>by
          rw [e2] at hmem
          simp only [CV] at hmem
          rcases hmem with (h | h) | h
          ·exact hni.1.1 h
          ·exact hni.1.2 h
          ·exact hni.2 h
         obtain ⟨eb,heb⟩:=hE.at hk2
         obtain ⟨i',hi',hc'⟩:=hE.get k eb heb
         rw [hk2] at hi'
         cases hi'
         have hlv2:∃ b2,s.st[(q.ptrs.map (·.1)++owns++q.movs)[k]]? = some b2/\b2.live=true:=by
          rcases hc' with ⟨_,cs,ecs,h,_⟩ | ⟨_,t,e,xs,h,_⟩ | ⟨_,t,e,xs,h | h,_⟩
          ·exact ⟨_,hback h rfl,rfl⟩
          ·exact ⟨_,hback h rfl,rfl⟩
          ·exact ⟨_,hback h rfl,rfl⟩
          ·exact ⟨_,hback h rfl,rfl⟩
         obtain ⟨b2,h1,h2⟩:=hlv2
         exact hs.sep _ i b2 bi h1 hi h2 hl hne b e hbi
        cases d with
        | none=>rw [hd]; exact hf4
        | some d =>
         rw [YN hd]
         exact hf4.put (by have:=hdn d rfl; omega) hres
       | panicked ch=>exact hout.elim
       | outgrown=>exact hout.elim
      ·cases hk
   ·cases hk
end Go.Proofs.YtfcgblnlopemkaaGreatDoor.Core

namespace Go.Proofs.YtfcgblnlopemkaaGreatDoor.Core
open Go
variable {H:HP} {φ:CQ} {st:List AX} {w w':World} {P:Program}
theorem AEE {id j b:Nat} {T t:TypeId} {xs ys:List Int} (hs:SR H φ st w) (hid:st[id]? = some (.var [.self T,.row j])) (hj:st[j]? = some (.rows t (.int .u8) xs))
  (hb:φ id=.pointer (some ⟨b,0,none⟩)) (he:zf w w' b xs.length ys.length (φ j) T t ((xs++ys).map (.int .u8))) :
  ∃ φ',Ak H φ st w H φ' (((st.map (AX.kill [j])).set j (.rows t (.int .u8) (xs++ys))).set id (.var [.self T,.row j])) w' /\
   C7 φ st φ' (((st.map (AX.kill [j])).set j (.rows t (.int .u8) (xs++ys))).set id (.var [.self T,.row j])) [j]/\xf [id,j] φ st w w':=by
 obtain ⟨w1,w2,v',g1,h1,g2,h2,h3,g3,h4⟩:=he
 have hij:id≠j:=fun e=>by subst e; rw [hid] at hj; cases hj
 have hil:id<st.length:=(As.1 hid).1
 have hjl:j<st.length:=(As.1 hj).1
 have hkid:AQ st id=none:=by simp only [AQ,hid]
 have self:∀ (u:Value),VW H (φ id) T (.self T) (.pointer (some ⟨b,0,none⟩)):=fun _=>⟨rfl,.inr hb.symm⟩
 have A:=Ak.update (id:=id) (bx':=.var [.self T,.row j]) (v':=φ id) hs hid rfl (by rw [hb]; exact g1) ⟨b,_,T,hb,h1,_,_,rfl,self (φ id),_,_,rfl,trivial,rfl⟩ (fun _ h=>.inl h) (.inl ⟨rfl,rfl⟩)
  (fun k cs hk o ho=>by have:=(hs.cell k cs hk o id ho).1; rw [hkid] at this; cases this)
  (fun cs e o i ho=>by
   cases e
   match o,ho with
   | 1,ho =>
    cases ho
    exact ⟨Ne.symm hij,by simp [AQ,hj],b,hb,by simp [World.cell?,h1]⟩)
 have eφ:(fun i=>if i=id then φ id else φ i)=φ:=by funext i; by_cases e:i=id<;>simp [e]
 have est:st.set id (.var [.self T,.row j])=st:=by
  apply List.ext_getElem?
  intro i
  rw [BK]
  by_cases e:id=i
  ·subst e; rw [if_pos rfl,if_pos hil,hid]
  ·rw [if_neg e]
 rw [eφ,est] at A
 have hj1:(st.map (AX.kill [j]))[j]? = some (.rows t (.int .u8) xs):=by rw [Cd,hj]; rfl
 have hid1:(st.map (AX.kill [j]))[id]? = some (.var [.self T,.was j]):=by rw [Cd,hid]; simp [AX.kill,AV.killB,CB]
 have hvj:Ae st j=false:=by simp only [Ae,hj]; rfl
 have hvj1:Ae (st.map (AX.kill [j])) j=false:=by rw [HM (Ai [j])]; exact hvj
 have B:=Ak.update (id:=j) (bx':=.rows t (.int .u8) (xs++ys)) (v':=v') (A.sr.kill [j]) hj1 rfl g2 ⟨_,by simpa [Kd.sz] using h2,rX⟩ h3 (.inr hvj1)
  (fun k cs hk o ho=>by have:=TS hk ho; simp [CB] at this) (fun cs e=>by cases e)
 have hid2:((st.map (AX.kill [j])).set j (.rows t (.int .u8) (xs++ys)))[id]? = some (.var [.self T,.was j]):=by rw [BK,if_neg (Ne.symm hij)]; exact hid1
 have hj2:((st.map (AX.kill [j])).set j (.rows t (.int .u8) (xs++ys)))[j]? = some (.rows t (.int .u8) (xs++ys)):=by rw [BK]; simp [hjl]
 have eid:(fun i=>if i=j then v' else φ i) id=φ id:=by simp [hij]
 have hkid2:AQ ((st.map (AX.kill [j])).set j (.rows t (.int .u8) (xs++ys))) id=none:=by simp only [AQ,hid2]
 have C:=Ak.update (id:=id) (bx':=.var [.self T,.row j]) (v':=φ id) B.sr hid2 rfl (by rw [if_neg hij,hb]; exact g3) ⟨b,_,T,hb,h4,_,_,rfl,self (φ id),_,_,rfl,trivial,rfl⟩ (fun _ h=>.inl (by rw [if_neg hij]; exact h)) (.inl ⟨rfl,eid.symm⟩)
  (fun k cs hk o ho=>by have:=(B.sr.cell k cs hk o id ho).1; rw [hkid2] at this; cases this)
  (fun cs e o i ho=>by
   cases e
   match o,ho with
   | 1,ho =>
    cases ho
    exact ⟨Ne.symm hij,by simp [AQ,hj2],b,hb,by simp [World.cell?,h4]⟩)
 refine ⟨_,A.trans ((Ak.kill A.sr [j]).trans (B.trans C)),⟨fun i hn _=>?_,fun i hv=>?_⟩,fun i bx hi hl hni c hc=>?_⟩
 ·have hne:i≠j:=fun e=>by subst e; simp [CB] at hn
  have go:∀ q,q≠id->q≠j->(((st.map (AX.kill [j])).set j (.rows t (.int .u8) (xs++ys))).set id (.var [.self T,.row j]))[q]? = (st.map (AX.kill [j]))[q]? := fun q h1 h2=>by
   rw [BK,if_neg (Ne.symm h1),BK,if_neg (Ne.symm h2)]
  by_cases e:i=id
  ·subst e
   have:(((st.map (AX.kill [j])).set j (.rows t (.int .u8) (xs++ys))).set i (.var [.self T,.row j]))[i]? = some (.var [.self T,.row j]):=by rw [BK]; simp [hil]
   exact ⟨by simp,by simp only [AQ,this,hid],by simp only [An,this,hid]⟩
  ·refine ⟨by simp [e,hne],?_,?_⟩
   ·rw [<- IP (Ai [j]) st i]; simp only [AQ,go i e hne]
   ·rw [<- GY (Ai [j]) st i]; simp only [An,go i e hne]
 ·have hne:i≠j:=fun e=>by subst e; rw [hvj] at hv; cases hv
  by_cases e:i=id
  ·subst e
   have:(((st.map (AX.kill [j])).set j (.rows t (.int .u8) (xs++ys))).set i (.var [.self T,.row j]))[i]? = some (.var [.self T,.row j]):=by rw [BK]; simp [hil]
   exact ⟨by simp,by simp only [Ae,this]; rfl,by simp only [An,this,hid]⟩
  ·have go:(((st.map (AX.kill [j])).set j (.rows t (.int .u8) (xs++ys))).set id (.var [.self T,.row j]))[i]? = (st.map (AX.kill [j]))[i]? := by
    rw [BK,if_neg (Ne.symm e),BK,if_neg (Ne.symm hne)]
   have t1:Ae (((st.map (AX.kill [j])).set j (.rows t (.int .u8) (xs++ys))).set id (.var [.self T,.row j])) i=Ae (st.map (AX.kill [j])) i:=by simp only [Ae,go]
   have t2:An (((st.map (AX.kill [j])).set j (.rows t (.int .u8) (xs++ys))).set id (.var [.self T,.row j])) i=An (st.map (AX.kill [j])) i:=by simp only [An,go]
   exact ⟨by simp [e,hne],by rw [t1,HM (Ai [j])]; exact hv,by rw [t2,GY (Ai [j])]⟩
 ·simp only [BF,List.not_mem_nil,or_false,not_or] at hni
  have n1:c≠b:=fun e=>by subst e; exact hs.sep i id bx _ hi hid hl rfl hni.1 c hc (by rw [hb]; rfl)
  have n2:ED (φ j)≠some c:=hs.sep i j bx _ hi hj hl rfl hni.2 c hc
  have hlt:=(hs.box i bx hi).blk_lt hl hc
  rw [g3.block c (Nat.lt_of_lt_of_le hlt (Nat.le_trans g1.size g2.size)) (by simpa using n1),g2.block c (Nat.lt_of_lt_of_le hlt g1.size) (fun e=>n2 e.symm),g1.block c hlt (by simpa using n1)]
theorem AAw {id j:Nat} {T t:TypeId} {xs:List Int} (hs:SR H φ st w) (hid:st[id]? = some (.var [.self T,.row j])) (hj:st[j]? = some (.rows t (.int .u8) xs)) (hg:w.grownBy w' (ED (φ j))) :
  Ak H φ st w H φ ((st.map (AX.kill [j])).set j .dead) w'/\C7 φ st φ ((st.map (AX.kill [j])).set j .dead) [j]/\xf [id,j] φ st w w':=by
 have hjl:j<st.length:=(As.1 hj).1
 have hj1:(st.map (AX.kill [j]))[j]? = some (.rows t (.int .u8) xs):=by rw [Cd,hj]; rfl
 have hvj:Ae st j=false:=by simp only [Ae,hj]; rfl
 have hvj1:Ae (st.map (AX.kill [j])) j=false:=by rw [HM (Ai [j])]; exact hvj
 have B:=Ak.update (id:=j) (bx':=.dead) (v':=φ j) (hs.kill [j]) hj1 rfl hg trivial (fun _ h=>.inl h) (.inr hvj1)
  (fun k cs hk o ho=>by have:=TS hk ho; simp [CB] at this) (fun cs e=>by cases e)
 have eφ:(fun i=>if i=j then φ j else φ i)=φ:=by funext i; by_cases e:i=j<;>simp [e]
 rw [eφ] at B
 have go:∀ i,i≠j->((st.map (AX.kill [j])).set j .dead)[i]? = (st.map (AX.kill [j]))[i]? := fun i h=>by rw [BK,if_neg (Ne.symm h)]
 refine ⟨(Ak.kill hs [j]).trans B,⟨fun i hn _=>?_,fun i hv=>?_⟩,fun i bx hi hl hni c hc=>?_⟩
 ·have hne:i≠j:=fun e=>by subst e; simp [CB] at hn
  refine ⟨rfl,?_,?_⟩
  ·rw [<- IP (Ai [j]) st i]; simp only [AQ,go i hne]
  ·rw [<- GY (Ai [j]) st i]; simp only [An,go i hne]
 ·have hne:i≠j:=fun e=>by subst e; rw [hvj] at hv; cases hv
  have t1:Ae ((st.map (AX.kill [j])).set j .dead) i=Ae (st.map (AX.kill [j])) i:=by simp only [Ae,go i hne]
  have t2:An ((st.map (AX.kill [j])).set j .dead) i=An (st.map (AX.kill [j])) i:=by simp only [An,go i hne]
  exact ⟨rfl,by rw [t1,HM (Ai [j])]; exact hv,by rw [t2,GY (Ai [j])]⟩
 ·simp only [BF,List.not_mem_nil,or_false,not_or] at hni
  exact hg.block c ((hs.box i bx hi).blk_lt hl hc) (fun e=>hs.sep i j bx _ hi hj hl rfl hni.2 c hc e.symm)
def AGp (n:Nat) (o:Oper) (d:Option Nat) (k f:Nat) (x y:Cr):Bool :=
 (o.dst==d&&decide (f<Br))&&(match d with | some d=>decide (d<n) | none=>true)&&(match o.op with
  | .call ⟨.value (.func g),cargs,_⟩=>g==f&&(match cargs.toList with
   | [x']=>k==2&&Dl x' x
   | [x',y']=>decide (k≠2)&&Dl x' x&&Dl y' y
   | _=>false)
  | _=>false)
theorem AGq {n:Nat} {o:Oper} {d:Option Nat} {k f t:Nat} {x y:Cr} {cal:Gi} (hcal:J6 P cal) (h:AGp n o d k f x y=true):Jx P n o (.bld d k f t x y) cal:=by
 intro ρ kn r s act w H φ next Q hs hf hn hk hnext
 simp only [Ef] at hk
 simp only [AGp,AE,beq_iff_eq,decide_eq_true_eq] at h
 obtain ⟨⟨⟨hd,hfb⟩,hdn⟩,h2⟩:=h
 split at hk
 ·rename_i id hx
  split at hk
  ·rename_i T j hid
   split at hk
   ·rename_i t' xs hj
    split at hk
    ·rename_i ht
     subst ht
     cases hq:cal (Br+f) [.int .i64 k,.int .i64 t',.int .i64 T] [] with
     | none=>rw [hq] at hk; cases hk
     | some q =>
      rw [hq,AA] at hk
      cases q with
      | cons _ _=>cases hk
      | nil =>
      simp only [Cp,AA] at hk
      obtain ⟨hent,hB⟩:=hcal.1 f k t' T hfb hq
      split at h2
      ·rename_i g cargs tys ho
       simp only [AE,beq_iff_eq] at h2
       obtain ⟨rfl,hargs⟩:=h2
       obtain ⟨b,c,el,e1,hh,u0,r0,ec,⟨hel,hu0⟩,u1,r1,er,_,hr1⟩:=hs.box id _ hid
       subst hel
       have hr1:r1=[]:=hr1
       subst hr1 er
       have hc:c=#[u0,u1]:=by rw [<- Array.toArray_toList (xs:=c),ec]
       subst hc
       have hu1:u1=φ j:=by
        obtain ⟨_,b2,q1,q2⟩:=hs.cell id _ hid 1 j rfl
        rw [e1] at q1
        cases q1
        simp [World.cell?,hh] at q2
        exact q2
       subst hu1
       obtain ⟨flat,how,hrr⟩:=hs.box j _ hj
       have hfl:=rW hrr how.1
       subst hfl
       have hij:id≠j:=fun e=>by subst e; rw [hid] at hj; cases hj
       have hne:ED (φ j)≠some b:=fun e=>hs.sep j id _ _ hj hid rfl rfl (Ne.symm hij) b e (by rw [e1]; rfl)
       have hun:u0=.pointer none\/u0=.pointer (some ⟨b,0,none⟩):=by rw [e1] at hu0; exact hu0
       obtain ⟨B0,B1,B2⟩:=hB w b u0 (φ j) xs hh hun how hne ⟨H,hs.tb,hs.hp,fun q hq=>hs.out j _ hj rfl q hq,hs.out id _ hid rfl b (by rw [e1]; rfl)⟩
       have hptr:∀ x',Dl x' x=true->act.eval x'=.pointer (some ⟨b,0,none⟩):=fun x' hx'=>by
        have:=Bg hf hx'
        rw [hx] at this
        obtain ⟨_,b2,q1,q2⟩:=this
        rw [e1] at q1
        cases q1
        exact q2
       have hrun:∀ w:World,(execOp act.eval o).run P w=.ok (.enter g (cargs.map act.eval)) w:=fun w=>by
        obtain ⟨fn,c,hfn,hname,hbody⟩:=hent
        have hname':¬ fn.name = "runtime.NumGoroutine" := by simpa using hname
        simp [execOp,ho,resolve,Act.eval,Deferred.ofValue,invoke,callFunc,run_program,hfn,hname',hbody]
       have fin:∀ {a:AV} {v:Value} {s1:St} {w':World} {φ':CQ},kn ⟨AAk d a s1.fr,s1.st⟩=some r->Ak H φ s.st w H φ' s1.st w'->HR H φ' s1.st s1.fr act.tmps->VA H φ' s1.st a v->xf [id,j] φ s.st w w'->next (act.put o.dst v) w':=by
        intro a v s1 w' φ' hk hst hfr hva hm
        refine hnext _ v w' H φ' hk hst ?_ ⟨?_,fun h=>by cases h⟩
        ·cases d with
         | none=>rw [hd]; exact hfr
         | some d=>rw [YN hd]; exact hfr.put (Nat.lt_of_lt_of_eq (show d<n by simpa using hdn) hn.symm) hva
        ·simp only [Fw.touch,hx,hid]; exact hm
       split at hk
       ·rename_i hk2
        split at hk
        ·rename_i hbyte
         have hargs':∃ x',cargs=#[x']/\Dl x' x=true:=by
          rw [<- Array.toArray_toList (xs:=cargs)]
          split at hargs
          ·rename_i x' e; rw [e]; simp only [AE] at hargs; exact ⟨x',rfl,hargs.2⟩
          ·simp [hk2] at hargs
          ·cases hargs
         obtain ⟨x',rfl,hx'⟩:=hargs'
         unfold Oper.wp
         rw [hrun w,Oper.upon_enter]
         have:=B2 hk2 hbyte
         simp only [List.map_toArray,List.map_cons,List.map_nil,hptr x' hx']
         refine Calls.mono this fun out w' hout=>?_
         obtain ⟨rfl,hg⟩:=hout
         obtain ⟨q1,q2,q3⟩:=AAw hs hid hj hg
         exact fin (s1:=⟨s.fr.map (Qa [j]),_⟩) hk q1 (hf.kill q2) rfl q3
        ·cases hk
       ·rename_i hk2
        cases ha:AFH k (s.opd y) with
        | none=>rw [ha] at hk; cases hk
        | some ys =>
         rw [ha] at hk
         simp only [AA] at hk
         split at hk
         ·rename_i hlim
          have hargs':∃ x' y',cargs=#[x',y']/\Dl x' x=true/\Dl y' y=true:=by
           rw [<- Array.toArray_toList (xs:=cargs)]
           split at hargs
           ·simp [hk2] at hargs
           ·rename_i x' y' e; rw [e]; simp only [AE] at hargs; exact ⟨x',y',rfl,hargs.1.2,hargs.2⟩
           ·cases hargs
          obtain ⟨x',y',rfl,hx',hy'⟩:=hargs'
          have vy:=Bg hf hy'
          unfold Oper.wp
          rw [hrun w,Oper.upon_enter]
          simp only [List.map_toArray,List.map_cons,List.map_nil,hptr x' hx']
          have done:∀ (ys:List Int) (w':World) (v:Value),kn ⟨AAk d .undef (s.fr.map (Qa [j])),((s.st.map (AX.kill [j])).set j (.rows t' (.int .u8) (xs++ys))).set id (.var [.self el,.row j])⟩=some r ->
            zf w w' b xs.length ys.length (φ j) el t' ((xs++ys).map (.int .u8))->next (act.put o.dst v) w':=fun ys w' v hk he=>by
           obtain ⟨φ',q1,q2,q3⟩:=AEE hs hid hj e1 he
           exact fin (s1:=⟨s.fr.map (Qa [j]),_⟩) hk q1 (hf.kill q2) trivial q3
          unfold AFH at ha
          split at ha
          ·rename_i c hyc
           split at ha
           ·rename_i hk0
            cases ha
            have ey:act.eval y'=.int .u8 c:=vy.int hyc
            rw [ey]
            refine Calls.mono (B0 hk0 c (by simpa using hlim)) fun out w' hout=>?_
            obtain ⟨rv,rfl,he⟩:=hout
            exact done [c] w' rv hk he
           ·cases ha
          ·rename_i sv hyc
           split at ha
           ·rename_i hk1
            cases ha
            have ey:act.eval y'=.string sv:=vy.str hyc
            rw [ey]
            refine Calls.mono (B1 hk1 sv hlim) fun out w' hout=>?_
            obtain ⟨rv,rfl,he⟩:=hout
            exact done _ w' rv hk he
           ·cases ha
          ·cases ha
         ·cases hk
      ·cases h2
    ·cases hk
   ·cases hk
  ·cases hk
 ·cases hk
end Go.Proofs.YtfcgblnlopemkaaGreatDoor.Core

namespace Go.Proofs.YtfcgblnlopemkaaGreatDoor.Core
open Go
variable {P:Program}
def AFd (n:Nat) (o:Oper) (d:Nat) (f:Nat) (x:Cr):Bool :=
 LX o n d&&(match o.op with
  | .makeFunc (.func g) first caps=>g==f&&first.toList.isEmpty&&(match caps.toList with | [y]=>Dl y x | _=>false)
  | _=>false)
theorem AGr {n:Nat} {o:Oper} {d f:Nat} {K:Kd} {x:Cr} {cal:Gi} (h:AFd n o d f x=true):Jx P n o (.clo d f K x) cal:=by
 intro ρ kn r s act w H φ next Q hs hf hn hk hnext
 simp only [AFd,AE] at h
 obtain ⟨h1,h2⟩:=h
 obtain ⟨hd,hdn⟩:=By h1
 split at h2
 ·rename_i g first caps ho
  simp only [AE,beq_iff_eq,List.isEmpty_iff] at h2
  obtain ⟨⟨rfl,hfi⟩,h2⟩:=h2
  split at h2
  ·rename_i y hc
   have hfi:first=#[]:=by rw [<- Array.toArray_toList (xs:=first),hfi]
   have hc:caps=#[y]:=by rw [<- Array.toArray_toList (xs:=caps),hc]
   subst hfi hc
   have hv:=Bg hf h2
   simp only [Ef] at hk
   split at hk
   ·rename_i cs hx
    rw [hx] at hv
    cases hz:K.ofCells cs with
    | none=>rw [hz] at hk; cases hk
    | some z =>
     rw [hz] at hk
     simp only [AA] at hk
     obtain ⟨b,o',c,el,fz,e,hb,vs,v1,v2⟩:=hv
     obtain ⟨c1,c2,d1,d2,d3⟩:=IN K v1 (Gk hz)
     cases d3
     rw [List.append_nil] at d1
     subst d1
     refine Bk hs hf hn hd hdn hk (v:=.func (.func g) #[] #[act.eval y]) (fun w2 _=>by simp [execOp,ho,Instr.makeFunc]) ?_ hnext
     exact ⟨b,o',c,el,fz,by rw [e]; rfl,hb,vs,d2,v2⟩
   ·cases hk
  ·cases h2
 ·cases h2
def AEF (n:Nat) (o:Oper) (d:Nat) (x:Cr):Bool :=
 LX o n d&&(match o.op with | .box _ y=>Dl y x | _=>false)
theorem AFe {n:Nat} {o:Oper} {d:Nat} {x:Cr} {cal:Gi} (h:AEF n o d x=true):Jx P n o (.fbox d x) cal:=by
 intro ρ kn r s act w H φ next Q hs hf hn hk hnext
 simp only [AEF,AE] at h
 obtain ⟨h1,h2⟩:=h
 obtain ⟨hd,hdn⟩:=By h1
 split at h2
 ·rename_i t y ho
  simp only [Ef] at hk
  cases hq:s.keepAll (s.opd x).cells with
  | none=>rw [hq] at hk; cases hk
  | some z =>
   obtain ⟨aw,s1⟩:=z
   rw [hq] at hk
   simp only [AA] at hk
   obtain ⟨H1,g1,k1,f1,e1,_⟩:=NO hs (Bg hf h2) hq
   obtain ⟨H2,g2,hb2⟩:=Ak.lit g1.sr (.cells (act.eval y).cells t)
   refine Lq (s:=s) (s1:=s1) (a:=.fptr aw 0) (v:=.pointer (some ⟨w.heap.size,0,none⟩)) (g1.trans g2) ?_ hn hd hdn hk ?_ ?_ hnext (xf.grown hs (World.grownBy_alloc w _ none)) rfl
   ·rw [e1]; exact (hf.mono g1.le k1).mono g2.le (CD.refl _ _ _)
   ·simp [execOp,ho,Instr.box,newVar,newRow]
   ·exact ⟨w.heap.size,0,_,t,(0,0),rfl,hb2,_,f1.mono g2.le,fun j u hu=>by simpa using hu⟩
 ·cases h2
def AFf (n:Nat) (o:Oper) (d:Nat) (x y:Cr):Bool :=
 LX o n d&&(match o.op with
  | .call ⟨.builtin .min,args,_⟩=>(match args.toList with
   | [a,b]=>Dl a x&&Dl b y
   | _=>false)
  | _=>false)
theorem AGs {n:Nat} {o:Oper} {d:Nat} {x y:Cr} {cal:Gi} (h:AFf n o d x y=true):Jx P n o (.min d x y) cal:=by
 intro ρ kn r s act w H φ next Q hs hf hn hk hnext
 simp only [AFf,AE] at h
 obtain ⟨h1,h2⟩:=h
 obtain ⟨hd,hdn⟩:=By h1
 split at h2
 ·rename_i args tys ho
  split at h2
  ·rename_i a b ha
   simp only [AE] at h2
   have ha:args=#[a,b]:=by rw [<- Array.toArray_toList (xs:=args),ha]
   subst ha
   have va:=Bg hf h2.1
   have vb:=Bg hf h2.2
   simp only [Ef] at hk
   split at hk
   ·rename_i k u k' v hx hy
    rw [hx] at va
    rw [hy] at vb
    split at hk
    ·rename_i e
     subst e
     have va:act.eval a=.int k u:=va
     have vb:act.eval b=.int k v:=vb
     refine Bk hs hf hn hd hdn hk (v:=.int k (min u v)) (fun w2 _=>?_) rfl hnext
     have hm:(if v<u then v else u)=min u v:=by
      rw [Int.min_def]
      split<;>split<;>omega
     simp [execOp,ho,resolve,invoke,builtin,Builtin.min_,Builtin.min2,va,vb,hm]
    ·cases hk
   ·cases hk
  ·cases h2
 ·cases h2
def AGt (P:Program) (n:Nat) (o:Oper) (d:Nat) (t:TypeId) (x:Cr):Bool :=
 LX o n d&&(match o.op with
  | .convert src dst y=>Dl y x&&uR P src&&(match P.underlying dst with | some (.slice e)=>e==t&&(match P.underlying e with | some (.int .u8)=>true | _=>false) | _=>false)
  | _=>false)
theorem AGu {n:Nat} {o:Oper} {d:Nat} {t:TypeId} {x:Cr} {cal:Gi} (h:AGt P n o d t x=true):Jx P n o (.stb d t x) cal:=by
 intro ρ kn r s act w H φ next Q hs hf hn hk hnext
 simp only [AGt,AE] at h
 obtain ⟨h1,h2⟩:=h
 obtain ⟨hd,hdn⟩:=By h1
 split at h2
 ·rename_i src dst y ho
  simp only [AE] at h2
  obtain ⟨⟨hy,hsrc⟩,h2⟩:=h2
  split at h2
  ·rename_i e hdst
   simp only [AE,beq_iff_eq] at h2
   obtain ⟨rfl,h2⟩:=h2
   have he:P.underlying e=some (.int .u8):=by
    split at h2
    ·assumption
    ·cases h2
   have vy:=Bg hf hy
   simp only [Ef] at hk
   split at hk
   ·rename_i b hx
    rw [hx] at vy
    have vy:act.eval y=.string b:=vy
    have hrun:=Lib.run_convert_string_bytes (P:=P) w src dst e b (YP hsrc) hdst he
    have hg:w.grownBy (Lib.bytesWorld w e b) none:=⟨by unfold Lib.bytesWorld; rfl,by unfold Lib.bytesWorld; rfl,by unfold Lib.bytesWorld; rfl,by rw [Lib.bytesWorld_size]; omega,fun k hk _=>Lib.bytesWorld_at_old w e b k hk⟩
    have hl:(Cq b).length=b.size:=by simp [Cq]
    have hbs:b.size<=(Lib.bytesCells w e b).size:=by
     simp only [Lib.bytesCells,Array.size_append,Array.size_map]
     have:b.data.size=b.size:=rfl
     omega
    have hst:=Ak.push (v:=.slice (some ⟨w.heap.size,0,none⟩) b.size (grownCap w b.size 0 e)) (bx:=.byt e (Cq b)) hs hg
     ⟨w.heap.size,_,_,_,by rw [hl],Lib.bytesWorld_at_new w e b,by rw [hl]; exact hbs,by rw [hl]; exact grownCap_ge w b.size 0 e,fun j x hx=>by
      have hj:j<b.data.size:=by have:=(As.1 hx).1; rw [hl] at this; exact this
      simp only [Lib.bytesCells]
      rw [Array.getElem?_append_left (by simpa using hj),Array.getElem?_map]
      simp only [Cq,Cd,Array.getElem?_toList] at hx
      cases hq:b.data[j]? with
      | none=>rw [hq] at hx; cases hx
      | some u=>rw [hq] at hx; cases hx; rfl⟩
     (fun _ q hq=>by simp only [ED,BT] at hq; omega) (fun cs e=>by cases e)
    refine Lq (s:=s) (s1:=⟨s.fr,s.st++[.byt e (Cq b)]⟩) (a:=.row s.st.length) (v:=.slice (some ⟨w.heap.size,0,none⟩) b.size (grownCap w b.size 0 e)) hst (hf.mono (HP.le_refl H) (FO φ s.st _ _)) hn hd hdn hk
     (by simp [execOp,ho,vy,hrun]) ⟨by simp,by simp [AQ]⟩ hnext (xf.grown hs hg) rfl
   ·cases hk
  ·cases h2
 ·cases h2

def uC (P:Program) (n:Nat) (o:Oper):Fw->Bool
 | .mv d x=>mvB n o d x
 | .nilrow d _ _=>zZ n o d
 | .pick d c a b=>rd n o d c a b
 | .sc _ _ _ _ _ _=>false
 | .alloc d cs=>uO P n o d cs
 | .box d x _=>AGa n o d x
 | .build d z qs=>ze P n o d z qs
 | .bnew d z qs=>AD6 P n o d z qs
 | .brow d e K qs=>bsB P n o d K qs e
 | .blst d K qs=>(match o.op with | .buildSlice t _ _=>bsB P n o d K qs (P.elem t) | _=>false)
 | .load d x m=>uP P n o d x m
 | .store x y m _=>ABo P o x y m
 | .nilc d x=>ACQ n o d x
 | .bin d b x y=>AFP n o d b x y
 | .eqs d neg K x y=>AFQ P n o d neg K x y
 | .un d u x=>unB n o d u x
 | .cvi d k x=>AFN P n o d k x
 | .bts d x=>AGj P n o d x
 | .fld d x off=>AFM P n o d x off
 | .field d x off m=>zb P n o d x off m
 | .idx d z x i=>AFU P n o d z x i
 | .sidx d x i=>ACT P n o d x i
 | .aidx d m x i=>ACU P n o d m x i
 | .sl d z x lo hi=>slB P n o d z x lo hi
 | .mk d e K m=>mkB P n o d e K m
 | .fn d f caps=>fnB n o d f caps
 | .clo d f _ x=>AFd n o d f x
 | .fbox d x=>AEF n o d x
 | .min d x y=>AFf n o d x y
 | .app d e K a b=>ADG P n o d e K a b
 | .apz d e K a b=>ADG P n o d e K a b
 | .len d t x=>AFR P n o d t x
 | .call d f args _=>AAv n o d f args
 | .bld d k f _ x y=>AGp n o d k f x y
 | .stb d t x=>AGt P n o d t x
 | .ext d x i=>AFO n o d x i
theorem ub {n:Nat} {o:Oper} {ao:Fw} {cal:Gi} (hcal:J6 P cal) (h:uC P n o ao=true):Jx P n o ao cal:=by
 cases ao with
 | mv d x=>exact AHM h
 | nilrow d t K=>exact AC_ h
 | pick d c a b=>exact AFJ h
 | sc c w ops d a b=>cases h
 | alloc d cs=>exact ADz h
 | box d x own=>exact AGb h
 | build d z qs=>exact AD5 h
 | bnew d z qs=>exact AFV h
 | brow d e K qs=>exact AFW h
 | blst d K qs =>
  simp only [uC] at h
  split at h
  ·exact AFX h
  ·cases h
 | load d x m=>exact AFK h
 | store x y m own=>exact AD0 h
 | nilc d x=>exact AFL h
 | bin d b x y=>exact AGf h
 | eqs d neg K x y=>exact AGg h
 | un d u x=>exact AHN h
 | cvi d k x=>exact AGd h
 | bts d x=>exact AGk h
 | fld d x off=>exact AGc h
 | field d x off m=>exact AD1 h
 | idx d z x i=>exact AGi h
 | sidx d x i=>exact AFS h
 | aidx d m x i=>exact AFT h
 | sl d z x lo hi=>exact AHP h
 | mk d e K m=>exact AHQ h
 | fn d f caps=>exact AHO h
 | clo d f K x=>exact AGr h
 | fbox d x=>exact AFe h
 | min d x y=>exact AGs h
 | app d e K a b=>exact AGl h
 | apz d e K a b=>exact AGm h
 | len d t x=>exact AGh h
 | call d f args res=>exact AFc hcal h
 | bld d k f t x y=>exact AGq hcal h
 | stb d t x=>exact AGu h
 | ext d x i=>exact AGe h
def sF (ops:Array Oper) (j:Nat):Option Nat:=(ops[j]?).bind (·.dst)
def AAx (P:Program) (n:Nat) (ops:Array Oper) (g:Option (Nat×Bool)) (i:Nat) (ao:Fw):Option Nat :=
 match ops[i]? with
 | some o=>if (decide (o.guard=g)&&uC P n o ao&&decide (o.dst.toList=ao.dsts)&&ao.dsts.all (fun d=>decide (d<n)))=true then some (i+1) else none
 | none=>none
mutual
def iC (P:Program) (n:Nat) (ops:Array Oper) (g:Option (Nat×Bool)):List Nat->Nat->List Fw->Option Nat
 | _,i,[]=>some i
 | D,i,ao::aos=>(mI P n ops g D i ao).bind fun i'=>iC P n ops g (ao.dsts++D) i' aos
def mI (P:Program) (n:Nat) (ops:Array Oper) (g:Option (Nat×Bool)) (D:List Nat) (i:Nat):Fw->Option Nat
 | .sc c want sub d a b =>
  match (ops[i]?).bind (·.guard) with
  | some (j,w)=>if (w==want&&sF ops j==some c&&!(Fy sub).contains c&&(g.isNone||D.contains c))=true then
    (iC P n ops (some (j,w)) [] i sub).bind fun i'=>match ops[i']? with
     | some o=>if (decide (o.guard=g)&&rd n o d (.t c) a b)=true then some (i'+1) else none
     | none=>none
   else none
  | none=>none
 | ao=>AAx P n ops g i ao
end
def met (ops:Array Oper) (tmps:Array Value):Option (Nat×Bool)->Prop
 | none=>True
 | some (j,w)=>∃ c,sF ops j=some c/\tmps[c]? = some (.bool w)
theorem TZ {ops:Array Oper} {o:Oper} {tmps:Array Value} {g:Option (Nat×Bool)} (hg:o.guard=g) (h:met ops tmps g):Region.wanted o (yielded ops tmps)=true:=by
 unfold Region.wanted
 rw [hg]
 cases g with
 | none=>rfl
 | some p =>
  obtain ⟨j,w⟩:=p
  obtain ⟨c,h1,h2⟩:=h
  have:yielded ops tmps j=some w:=by
   unfold yielded
   unfold sF at h1
   rw [h1,AA,h2]
  simp [this]
theorem jd {ops:Array Oper} {o:Oper} {tmps:Array Value} {j c:Nat} {w:Bool} (hg:o.guard=some (j,w)) (hc:sF ops j=some c) (h:tmps[c]? ≠ some (.bool w)):Region.wanted o (yielded ops tmps)=false:=by
 unfold Region.wanted
 rw [hg]
 have:yielded ops tmps j≠some w:=by
  unfold yielded
  unfold sF at hc
  rw [hc,AA]
  intro e
  split at e
  ·rename_i b hb
   cases e
   exact h hb
  ·cases e
 simpa using this
theorem M0 {act:Act} {dst:Option Tmp} {v:Value} {t:Nat} (h:dst≠some t):(act.put dst v).tmps[t]? = act.tmps[t]? := by
 cases dst with
 | none=>rfl
 | some d =>
  have:d≠t:=fun e=>h (by rw [e])
  simp [Act.put,Array.getElem?_setIfInBounds,this]
theorem Is {act:Act} {dst:Option Tmp} {v:Value}:(act.put dst v).tmps.size=act.tmps.size:=by
 cases dst<;>simp [Act.put]
theorem HN {act:Act} {dst:Option Tmp} {v:Value}:(act.put dst v).defers=act.defers:=by
 cases dst<;>rfl
theorem g9 {act:Act} {d:Nat}:(act.put (some d) undef).tmps.getD d undef=undef:=by
 rcases CF d act.tmps.size with h | h<;>simp [Act.put,Array.getD,h]
theorem uc {ops:Array Oper} {Q:Exit->Act->World->Prop} {i:Nat} {rest:List Nat} {act:Act} {w:World} {o:Oper} (ho:ops[i]? = some o) (hw:Region.wanted o (yielded ops act.tmps)=true)
  (h:o.wp P act w (wpOps P ops Q rest) Q):wpOps P ops Q (i::rest) act w:=by
 simp only [wpOps,ho,hw,if_true]
 exact .inl h
theorem ud {ops:Array Oper} {Q:Exit->Act->World->Prop} {i:Nat} {rest:List Nat} {act:Act} {w:World} {o:Oper} (ho:ops[i]? = some o) (hw:Region.wanted o (yielded ops act.tmps)=false)
  (h:wpOps P ops Q rest (act.put o.dst undef) w):wpOps P ops Q (i::rest) act w:=by
 simp only [wpOps,ho,hw,Bool.false_eq_true,if_false]
 exact h
theorem VV {i j k:Nat} (h1:i<=j) (h2:j<=k):List.range' i (k-i)=List.range' i (j-i)++List.range' j (k-j):=by
 have:=List.range'_append (s:=i) (m:=j-i) (n:=k-j) (step:=1)
 rw [Nat.one_mul,show i+(j-i)=j by omega,show j-i+(k-j)=k-i by omega] at this
 exact this.symm
theorem pD {n:Nat} {ops:Array Oper} {g:Option (Nat×Bool)} {i m:Nat} {ao:Fw} (h:AAx P n ops g i ao=some m) :
  m=i+1/\∃ o,ops[i]? = some o/\o.guard=g/\uC P n o ao=true/\o.dst.toList=ao.dsts/\∀ d∈ao.dsts,d<n:=by
 unfold AAx at h
 cases ho:ops[i]? with
 | none=>rw [ho] at h; cases h
 | some o =>
  rw [ho] at h
  simp only at h
  split at h
  ·rename_i hb
   simp only [AE,decide_eq_true_eq,Bp] at hb
   cases h
   exact ⟨rfl,o,rfl,hb.1.1.1,hb.1.1.2,hb.1.2,hb.2⟩
  ·cases h
theorem zg {n:Nat} {ops:Array Oper} {g:Option (Nat×Bool)} {D:List Nat} {i m c d:Nat} {want:Bool} {sub:List Fw} {a b:Cr} (h:mI P n ops g D i (.sc c want sub d a b)=some m) :
  ∃ j i',sF ops j=some c/\c∉Fy sub/\(g.isNone=true\/c∈D)/\iC P n ops (some (j,want)) [] i sub=some i'/\m=i'+1/\∃ o,ops[i']? = some o/\o.guard=g/\rd n o d (.t c) a b=true:=by
 simp only [mI] at h
 split at h
 ·rename_i j w hj
  split at h
  ·rename_i hb
   simp only [AE,beq_iff_eq,EY,Do,List.contains_eq_mem,decide_eq_false_iff_not,decide_eq_true_eq] at hb
   obtain ⟨⟨⟨rfl,h2⟩,h3⟩,h4⟩:=hb
   cases hs:iC P n ops (some (j,w)) [] i sub with
   | none=>rw [hs] at h; cases h
   | some i' =>
    rw [hs] at h
    simp only [AA] at h
    split at h
    ·rename_i o ho
     split at h
     ·rename_i hp
      simp only [AE,decide_eq_true_eq] at hp
      cases h
      exact ⟨j,i',h2,h3,h4,hs,rfl,o,ho,hp.1,hp.2⟩
     ·cases h
    ·cases h
  ·cases h
 ·cases h
mutual
theorem pE {n:Nat} {ops:Array Oper}:∀ (aos:List Fw) (g:Option (Nat×Bool)) (D:List Nat) (i i':Nat),iC P n ops g D i aos=some i'->i<=i'
 | [],g,D,i,i',h=>by simp only [iC,BT] at h; omega
 | ao::aos,g,D,i,i',h=>by
  simp only [iC] at h
  cases hi:mI P n ops g D i ao with
  | none=>rw [hi] at h; cases h
  | some m =>
   rw [hi] at h
   exact Nat.le_trans (Nat.le_of_lt (zh ao g D i m hi)) (pE aos _ _ _ _ h)
theorem zh {n:Nat} {ops:Array Oper}:∀ (ao:Fw) (g:Option (Nat×Bool)) (D:List Nat) (i m:Nat),mI P n ops g D i ao=some m->i<m
 | .sc c want sub d a b,g,D,i,m,h=>by
  obtain ⟨j,i',_,_,_,hs,rfl,_⟩:=zg h
  have:=pE sub _ _ _ _ hs
  omega
 | .mv ..,g,D,i,m,h | .nilrow ..,g,D,i,m,h | .pick ..,g,D,i,m,h | .alloc ..,g,D,i,m,h | .box ..,g,D,i,m,h | .build ..,g,D,i,m,h | .bnew ..,g,D,i,m,h | .brow ..,g,D,i,m,h
 | .blst ..,g,D,i,m,h | .load ..,g,D,i,m,h | .store ..,g,D,i,m,h | .nilc ..,g,D,i,m,h | .bin ..,g,D,i,m,h | .eqs ..,g,D,i,m,h | .un ..,g,D,i,m,h
 | .cvi ..,g,D,i,m,h | .bts ..,g,D,i,m,h | .fld ..,g,D,i,m,h | .field ..,g,D,i,m,h | .idx ..,g,D,i,m,h | .sidx ..,g,D,i,m,h | .aidx ..,g,D,i,m,h | .sl ..,g,D,i,m,h
 | .mk ..,g,D,i,m,h | .fn ..,g,D,i,m,h | .clo ..,g,D,i,m,h | .fbox ..,g,D,i,m,h | .min ..,g,D,i,m,h | .app ..,g,D,i,m,h | .apz ..,g,D,i,m,h | .len ..,g,D,i,m,h | .call ..,g,D,i,m,h | .bld ..,g,D,i,m,h | .stb ..,g,D,i,m,h | .ext ..,g,D,i,m,h=>by
  have:=(pD (ao:=_) h).1
  omega
end
def AGv (act act':Act) (ds:List Nat):Prop:=act'.tmps.size=act.tmps.size/\act'.defers=act.defers/\(∀ t,t∉ds->act'.tmps[t]? = act.tmps[t]?)/\(∀ t,act.tmps.getD t undef=undef->act'.tmps.getD t undef=undef)/\(∀ t∈ds,act'.tmps.getD t undef=undef)
theorem ADI {n:Nat} {ops:Array Oper} {j c:Nat} {w:Bool} (hc:sF ops j=some c) {Q:Exit->Act->World->Prop} {wd:World} {ao:Fw} {i m:Nat} {rest:List Nat} {act:Act} (h:AAx P n ops (some (j,w)) i ao=some m)
  (hn:act.tmps[c]? ≠ some (.bool w)) (hk:∀ act',AGv act act' ao.dsts->wpOps P ops Q rest act' wd):wpOps P ops Q (List.range' i (m-i)++rest) act wd:=by
 obtain ⟨rfl,o,ho,hg,_,hds,hlt⟩:=pD h
 rw [show i+1-i=1 by omega]
 refine ud ho (jd hg hc hn) (hk _ ⟨Is,HN,fun t ht=>M0 fun e=>ht ?_,fun t ht=>?_,fun t ht=>?_⟩)
 ·rw [<- hds,e]; simp
 ·cases hd:o.dst with
  | none=>exact ht
  | some d =>
   by_cases e:d=t
   ·subst e; exact g9
   ·have:=M0 (act:=act) (dst:=some d) (v:=undef) (t:=t) (by simpa using e)
    simpa [Array.getD_eq_getD_getElem?,this] using ht
 ·rw [<- hds] at ht
  cases hd:o.dst with
  | none=>rw [hd] at ht; simp at ht
  | some d =>
   rw [hd] at ht
   simp at ht
   subst ht
   exact g9
mutual
theorem ue {n:Nat} {ops:Array Oper} {j c:Nat} {w:Bool} (hc:sF ops j=some c) {Q:Exit->Act->World->Prop} {wd:World}:∀ (aos:List Fw) (D:List Nat) (i i':Nat) (rest:List Nat) (act:Act),iC P n ops (some (j,w)) D i aos=some i' ->
  act.tmps[c]? ≠ some (.bool w)->c∉Fy aos->(∀ t∈D,act.tmps.getD t undef=undef) ->
  (∀ act',AGv act act' (Fy aos)->wpOps P ops Q rest act' wd)->wpOps P ops Q (List.range' i (i'-i)++rest) act wd
 | [],D,i,i',rest,act,h,hn,hd,hD,hk=>by
  simp only [iC,BT] at h
  subst h
  simp only [Nat.sub_self,List.range'_zero,List.nil_append]
  exact hk act ⟨rfl,rfl,fun _ _=>rfl,fun _ h=>h,fun t ht=>by simp [Fy] at ht⟩
 | ao::aos,D,i,i',rest,act,h,hn,hd,hD,hk=>by
  simp only [iC] at h
  cases hi:mI P n ops (some (j,w)) D i ao with
  | none=>rw [hi] at h; cases h
  | some m =>
   rw [hi] at h
   simp only [AA] at h
   simp only [Fy,CV,not_or] at hd
   rw [VV (Nat.le_of_lt (zh ao _ _ _ _ hi)) (pE aos _ _ _ _ h),Bf]
   refine ADJ hc (Q:=Q) (wd:=wd) ao D i m (List.range' m (i'-m)++rest) act hi hn hd.1 hD fun act1 l1=>?_
   refine ue hc (Q:=Q) (wd:=wd) aos (ao.dsts++D) m i' rest act1 h (by rw [l1.2.2.1 c hd.1]; exact hn) hd.2 (fun t ht=>?_) fun act2 l2=>?_
   ·rcases CV.1 ht with ht | ht
    ·exact l1.2.2.2.2 t ht
    ·exact l1.2.2.2.1 t (hD t ht)
   ·refine hk act2 ⟨l2.1.trans l1.1,l2.2.1.trans l1.2.1,fun t ht=>?_,fun t ht=>l2.2.2.2.1 t (l1.2.2.2.1 t ht),fun t ht=>?_⟩
    ·simp only [Fy,CV,not_or] at ht
     rw [l2.2.2.1 t ht.2,l1.2.2.1 t ht.1]
    ·simp only [Fy,CV] at ht
     rcases ht with ht | ht
     ·exact l2.2.2.2.1 t (l1.2.2.2.2 t ht)
     ·exact l2.2.2.2.2 t ht
theorem ADJ {n:Nat} {ops:Array Oper} {j c:Nat} {w:Bool} (hc:sF ops j=some c) {Q:Exit->Act->World->Prop} {wd:World}:∀ (ao:Fw) (D:List Nat) (i m:Nat) (rest:List Nat) (act:Act),mI P n ops (some (j,w)) D i ao=some m ->
  act.tmps[c]? ≠ some (.bool w)->c∉ao.dsts->(∀ t∈D,act.tmps.getD t undef=undef) ->
  (∀ act',AGv act act' ao.dsts->wpOps P ops Q rest act' wd)->wpOps P ops Q (List.range' i (m-i)++rest) act wd
 | .sc c2 want sub d a b,D,i,m,rest,act,h,hn,hd,hD,hk=>by
  obtain ⟨j2,i',hg2,hcn,hcD,hs,rfl,o,ho,hgo,hp⟩:=zg h
  simp only [Fw.dsts,CV,not_or] at hd
  have hc2:act.tmps.getD c2 undef=undef:=by
   rcases hcD with h | h
   ·cases h
   ·exact hD c2 h
  have hle:=pE sub _ _ _ _ hs
  have hpd:o.dst=some d/\d<n:=by
   simp only [rd,AE] at hp
   exact By hp.1
  have hnb:act.tmps[c2]? ≠ some (.bool want):=by
   intro e
   rw [Array.getD_eq_getD_getElem?,e] at hc2
   cases hc2
  rw [VV hle (Nat.le_succ i'),Bf]
  refine ue hg2 (Q:=Q) (wd:=wd) sub [] i i' _ act hs hnb hcn (fun t ht=>by cases ht) fun act1 l1=>?_
  rw [show i'+1-i'=1 by omega]
  refine ud ho (jd hgo hc (by rw [l1.2.2.1 c hd.1]; exact hn)) (hk _ ⟨Is.trans l1.1,HN.trans l1.2.1,fun t ht=>?_,fun t ht=>?_,fun t ht=>?_⟩)
  ·simp only [Fw.dsts,CV,not_or,Bq] at ht
   rw [M0 (by rw [hpd.1]; intro e; cases e; exact ht.2 rfl)]
   exact l1.2.2.1 t ht.1
  ·rw [hpd.1]
   by_cases e:d=t
   ·subst e; exact g9
   ·have:=M0 (act:=act1) (dst:=some d) (v:=undef) (t:=t) (by simpa using e)
    have h2:=l1.2.2.2.1 t ht
    simpa [Array.getD_eq_getD_getElem?,this] using h2
  ·simp only [Fw.dsts,CV,Bq] at ht
   rw [hpd.1]
   by_cases e:d=t
   ·subst e; exact g9
   ·have:=M0 (act:=act1) (dst:=some d) (v:=undef) (t:=t) (by simpa using e)
    have h2:=l1.2.2.2.2 t (ht.resolve_right (Ne.symm e))
    simpa [Array.getD_eq_getD_getElem?,this] using h2
 | .mv ..,D,i,m,rest,act,h,hn,hd,hD,hk | .nilrow ..,D,i,m,rest,act,h,hn,hd,hD,hk | .pick ..,D,i,m,rest,act,h,hn,hd,hD,hk | .alloc ..,D,i,m,rest,act,h,hn,hd,hD,hk
 | .box ..,D,i,m,rest,act,h,hn,hd,hD,hk | .build ..,D,i,m,rest,act,h,hn,hd,hD,hk | .bnew ..,D,i,m,rest,act,h,hn,hd,hD,hk | .brow ..,D,i,m,rest,act,h,hn,hd,hD,hk | .blst ..,D,i,m,rest,act,h,hn,hd,hD,hk
 | .load ..,D,i,m,rest,act,h,hn,hd,hD,hk | .store ..,D,i,m,rest,act,h,hn,hd,hD,hk | .nilc ..,D,i,m,rest,act,h,hn,hd,hD,hk | .bin ..,D,i,m,rest,act,h,hn,hd,hD,hk
 | .eqs ..,D,i,m,rest,act,h,hn,hd,hD,hk | .un ..,D,i,m,rest,act,h,hn,hd,hD,hk | .cvi ..,D,i,m,rest,act,h,hn,hd,hD,hk | .bts ..,D,i,m,rest,act,h,hn,hd,hD,hk
 | .fld ..,D,i,m,rest,act,h,hn,hd,hD,hk | .field ..,D,i,m,rest,act,h,hn,hd,hD,hk | .idx ..,D,i,m,rest,act,h,hn,hd,hD,hk | .sidx ..,D,i,m,rest,act,h,hn,hd,hD,hk | .aidx ..,D,i,m,rest,act,h,hn,hd,hD,hk
 | .sl ..,D,i,m,rest,act,h,hn,hd,hD,hk | .mk ..,D,i,m,rest,act,h,hn,hd,hD,hk | .fn ..,D,i,m,rest,act,h,hn,hd,hD,hk | .clo ..,D,i,m,rest,act,h,hn,hd,hD,hk | .fbox ..,D,i,m,rest,act,h,hn,hd,hD,hk | .min ..,D,i,m,rest,act,h,hn,hd,hD,hk | .app ..,D,i,m,rest,act,h,hn,hd,hD,hk | .apz ..,D,i,m,rest,act,h,hn,hd,hD,hk
 | .len ..,D,i,m,rest,act,h,hn,hd,hD,hk | .call ..,D,i,m,rest,act,h,hn,hd,hD,hk | .bld ..,D,i,m,rest,act,h,hn,hd,hD,hk | .stb ..,D,i,m,rest,act,h,hn,hd,hD,hk | .ext ..,D,i,m,rest,act,h,hn,hd,hD,hk=>ADI hc h hn hk
end
def AHp (P:Program) (ops:Array Oper) (n:Nat) {ρ:Type} (kn:St->Option ρ) (r:ρ) (s:St) (act:Act) (w:World) (H:HP) (φ:CQ) (ds:List Nat) (N:Act->World->Prop):Prop :=
 ∀ s' act' w' H' φ',kn s'=some r->Ak H φ s.st w H' φ' s'.st w'->HR H' φ' s'.st s'.fr act'.tmps->act'.tmps.size=n->act'.defers=act.defers->(∀ t,t∉ds->act'.tmps[t]? = act.tmps[t]?)->N act' w'
def ABs (P:Program) (n:Nat) (ops:Array Oper) (g:Option (Nat×Bool)) (cal:Gi) (ds:List Nat) (i m:Nat) (run:(ρ:Type)->(St->Option ρ)->St->Option ρ):Prop :=
 ∀ (ρ:Type) (kn:St->Option ρ) (r:ρ) (s:St) (act:Act) (w:World) (H:HP) (φ:CQ) (Q:Exit->Act->World->Prop) (rest:List Nat),
  SR H φ s.st w->HR H φ s.st s.fr act.tmps->act.tmps.size=n->met ops act.tmps g->(∀ j w c,g=some (j,w)->sF ops j=some c->c∉ds)->run ρ kn s=some r ->
  AHp P ops n kn r s act w H φ ds (wpOps P ops Q rest)->wpOps P ops Q (List.range' i (m-i)++rest) act w
theorem Bz {n:Nat} {ops:Array Oper} {g:Option (Nat×Bool)} {cal:Gi} (hcal:J6 P cal) {ao:Fw} {i m:Nat} (h:AAx P n ops g i ao=some m) :
  ABs P n ops g cal ao.dsts i m fun ρ kn s=>Ef cal kn s ao:=by
 intro ρ kn r s act w H φ Q rest hs hf hn hm _ hk hnext
 obtain ⟨rfl,o,ho,hg,hb,hds,hlt⟩:=pD h
 rw [show i+1-i=1 by omega]
 refine uc ho (TZ hg hm) (ub hcal hb ρ kn r s act w H φ _ Q hs hf hn hk fun s' v w' H' φ' hk' hst hf' _=>?_)
 refine hnext s' _ w' H' φ' hk' hst hf' (Is.trans hn) HN fun t ht=>M0 fun e=>ht ?_
 rw [<- hds,e]
 simp
mutual
theorem ABt {n:Nat} {ops:Array Oper} {cal:Gi} (hcal:J6 P cal):∀ (aos:List Fw) (g:Option (Nat×Bool)) (D:List Nat) (i m:Nat),iC P n ops g D i aos=some m->ABs P n ops g cal (Fy aos) i m fun ρ kn s=>ot cal kn s aos
 | [],g,D,i,m,h=>by
  intro ρ kn r s act w H φ Q rest hs hf hn hm hd hk hnext
  simp only [iC,BT] at h
  subst h
  simp only [Nat.sub_self,List.range'_zero,List.nil_append]
  simp only [ot] at hk
  exact hnext s act w H φ hk (Ak.refl hs) hf hn rfl fun _ _=>rfl
 | ao::aos,g,D,i,m,h=>by
  intro ρ kn r s act w H φ Q rest hs hf hn hm hd hk hnext
  simp only [iC] at h
  cases hi:mI P n ops g D i ao with
  | none=>rw [hi] at h; cases h
  | some q =>
   rw [hi] at h
   simp only [AA] at h
   rw [VV (Nat.le_of_lt (zh ao _ _ _ _ hi)) (pE aos _ _ _ _ h),Bf]
   have hd1:∀ j w c,g=some (j,w)->sF ops j=some c->c∉ao.dsts/\c∉Fy aos:=by
    intro j w c h1 h2
    have:=hd j w c h1 h2
    simpa [Fy,not_or] using this
   refine AFg hcal ao g D i q hi ρ (fun s'=>ot cal kn s' aos) r s act w H φ Q _ hs hf hn hm (fun j w c h1 h2=>(hd1 j w c h1 h2).1) (by simpa only [ot] using hk) fun s1 act1 w1 H1 φ1 hk1 st1 hf1 hn1 hd1' ht1=>?_
   have hm1:met ops act1.tmps g:=by
    cases g with
    | none=>trivial
    | some p =>
     obtain ⟨j,w⟩:=p
     obtain ⟨c,h1,h2⟩:=hm
     exact ⟨c,h1,by rw [ht1 c (hd1 j w c rfl h1).1]; exact h2⟩
   refine ABt hcal aos g (ao.dsts++D) q m h ρ kn r s1 act1 w1 H1 φ1 Q rest st1.sr hf1 hn1 hm1 (fun j w c h1 h2=>(hd1 j w c h1 h2).2) hk1 fun s2 act2 w2 H2 φ2 hk2 st2 hf2 hn2 hd2 ht2=>?_
   refine hnext s2 act2 w2 H2 φ2 hk2 (st1.trans st2) hf2 hn2 (hd2.trans hd1') fun t ht=>?_
   simp only [Fy,CV,not_or] at ht
   rw [ht2 t ht.2,ht1 t ht.1]
theorem AFg {n:Nat} {ops:Array Oper} {cal:Gi} (hcal:J6 P cal):∀ (ao:Fw) (g:Option (Nat×Bool)) (D:List Nat) (i m:Nat),mI P n ops g D i ao=some m->ABs P n ops g cal ao.dsts i m fun ρ kn s=>Ef cal kn s ao
 | .sc c want sub d a b,g,D,i,m,h=>by
  intro ρ kn r s act w H φ Q rest hs hf hn hm hd hk hnext
  obtain ⟨j,i',hg2,hcn,_,hseg,rfl,o,ho,hgo,hp⟩:=zg h
  have hle:=pE sub _ _ _ _ hseg
  have hmet:∀ act':Act,(∀ t,t∉Fy sub->act'.tmps[t]? = act.tmps[t]?)->met ops act'.tmps g:=by
   intro act' ht
   cases g with
   | none=>trivial
   | some p =>
    obtain ⟨j,w⟩:=p
    obtain ⟨c,h1,h2⟩:=hm
    have:=hd j w c rfl h1
    simp only [Fw.dsts,CV,not_or] at this
    exact ⟨c,h1,by rw [ht c this.1]; exact h2⟩
  simp only [rd,AE] at hp
  obtain ⟨hpd,hp⟩:=hp
  obtain ⟨hod,hdn⟩:=By hpd
  split at hp
  ·rename_i c' a' b' hop
   simp only [AE] at hp
   obtain ⟨⟨hc',ha'⟩,hb'⟩:=hp
   have hce:c'=.tmp c:=by
    cases c'<;>simp [Dl] at hc'
    rw [hc']
   subst hce
   simp only [Ef] at hk
   have hfc:=hf c
   cases hgt:GS s.fr c with
   | bool t =>
    rw [hgt] at hk hfc
    simp only at hk
    have hct:act.tmps[c]? = some (.bool t):=by
     have hfc:act.tmps.getD c undef=.bool t:=hfc
     rw [Array.getD_eq_getD_getElem?] at hfc
     cases hq:act.tmps[c]? with
     | none=>rw [hq] at hfc; cases hfc
     | some v=>rw [hq] at hfc; simpa using hfc
    rw [VV hle (Nat.le_succ i'),Bf]
    have last:∀ (s1:St) (act1:Act) (w1:World) (H1:HP) (φ1:CQ) (x:AV),kn (s1.put d x)=some r->Ak H φ s.st w H1 φ1 s1.st w1->HR H1 φ1 s1.st s1.fr act1.tmps->act1.tmps.size=n->act1.defers=act.defers ->
      (∀ t,t∉Fy sub->act1.tmps[t]? = act.tmps[t]?)->x=(if t=true then s1.opd a else s1.opd b)->wpOps P ops Q (List.range' i' (i'+1-i')++rest) act1 w1:=by
     intro s1 act1 w1 H1 φ1 x hk1 st1 hf1 hn1 hdef1 ht1 hx
     rw [show i'+1-i'=1 by omega]
     have hc1:act1.eval (.tmp c)=.bool t:=by
      show act1.tmps.getD c undef=_
      rw [Array.getD_eq_getD_getElem?,ht1 c hcn,hct]
      rfl
     have hput:∀ v,(∀ u,u∉(Fw.sc c want sub d a b).dsts->(act1.put o.dst v).tmps[u]? = act.tmps[u]?):=by
      intro v u hu
      simp only [Fw.dsts,CV,not_or,Bq] at hu
      rw [M0 (by rw [hod]; intro e; cases e; exact hu.2 rfl)]
      exact ht1 u hu.1
     refine uc ho (TZ hgo (hmet act1 ht1)) ?_
     have fin:∀ v,VA H1 φ1 s1.st x v->(execOp act1.eval o).run P w1=.ok (.value v) w1->o.wp P act1 w1 (wpOps P ops Q rest) Q:=by
      intro v hv hrun
      refine l8 hrun (hnext (s1.put d x) _ w1 H1 φ1 hk1 st1 ?_ (Is.trans hn1) (HN.trans hdef1) (hput v))
      rw [YN hod]
      exact hf1.put (by omega) hv
     cases t with
     | true=>exact fin _ (by rw [hx]; exact Bg hf1 ha') (by simp [execOp,hop,hc1,asBool])
     | false=>exact fin _ (by rw [hx]; exact Bg hf1 hb') (by simp [execOp,hop,hc1,asBool])
    by_cases htw:t=want
    ·subst htw
     rw [if_pos rfl] at hk
     refine ABt hcal sub (some (j,t)) [] i i' hseg ρ _ r s act w H φ Q _ hs hf hn ⟨c,hg2,hct⟩ (fun j2 w2 c2 e1 e2=>?_) hk fun s1 act1 w1 H1 φ1 hk1 st1 hf1 hn1 hdef1 ht1=>?_
     ·cases e1
      rw [hg2] at e2
      cases e2
      exact hcn
     ·exact last s1 act1 w1 H1 φ1 _ hk1 st1 hf1 hn1 hdef1 ht1 rfl
    ·rw [if_neg htw] at hk
     refine ue hg2 sub [] i i' _ act hseg (by rw [hct]; intro e; cases e; exact htw rfl) hcn (fun t ht=>by cases ht) fun act1 l1=>?_
     refine last (s.forget (Fy sub)) act1 w H φ _ hk (Ak.refl hs) ?_ (l1.1.trans hn) l1.2.1 l1.2.2.1 ?_
     ·intro u
      have:GS (s.forget (Fy sub)).fr u=if u∈Fy sub then .undef else GS s.fr u:=by
       simp only [St.forget]
       generalize Fy sub=ds
       induction ds with
       | nil=>simp
       | cons q qs ih =>
        simp only [List.map_cons,List.cons_append,GS]
        by_cases e:q=u
        ·subst e; simp
        ·rw [if_neg e,ih]; simp [Ne.symm e]
      rw [this]
      split
      ·trivial
      ·rename_i hu
       have:=hf u
       rw [Array.getD_eq_getD_getElem?] at this ⊢
       rw [l1.2.2.1 u hu]
       exact this
     ·cases t<;>cases want<;>first | exact absurd rfl htw | rfl
   | _=>rw [hgt] at hk; cases hk
  ·cases hp
 | .mv ..,g,D,i,m,h=>Bz hcal h
 | .nilrow ..,g,D,i,m,h=>Bz hcal h
 | .pick ..,g,D,i,m,h=>Bz hcal h
 | .alloc ..,g,D,i,m,h=>Bz hcal h
 | .box ..,g,D,i,m,h=>Bz hcal h
 | .build ..,g,D,i,m,h=>Bz hcal h
 | .bnew ..,g,D,i,m,h=>Bz hcal h
 | .brow ..,g,D,i,m,h=>Bz hcal h
 | .blst ..,g,D,i,m,h=>Bz hcal h
 | .load ..,g,D,i,m,h=>Bz hcal h
 | .store ..,g,D,i,m,h=>Bz hcal h
 | .nilc ..,g,D,i,m,h=>Bz hcal h
 | .bin ..,g,D,i,m,h=>Bz hcal h
 | .eqs ..,g,D,i,m,h=>Bz hcal h
 | .un ..,g,D,i,m,h=>Bz hcal h
 | .cvi ..,g,D,i,m,h=>Bz hcal h
 | .bts ..,g,D,i,m,h=>Bz hcal h
 | .fld ..,g,D,i,m,h=>Bz hcal h
 | .field ..,g,D,i,m,h=>Bz hcal h
 | .idx ..,g,D,i,m,h=>Bz hcal h
 | .sidx ..,g,D,i,m,h=>Bz hcal h
 | .aidx ..,g,D,i,m,h=>Bz hcal h
 | .sl ..,g,D,i,m,h=>Bz hcal h
 | .mk ..,g,D,i,m,h=>Bz hcal h
 | .fn ..,g,D,i,m,h=>Bz hcal h
 | .clo ..,g,D,i,m,h=>Bz hcal h
 | .fbox ..,g,D,i,m,h=>Bz hcal h
 | .min ..,g,D,i,m,h=>Bz hcal h
 | .app ..,g,D,i,m,h=>Bz hcal h
 | .apz ..,g,D,i,m,h=>Bz hcal h
 | .len ..,g,D,i,m,h=>Bz hcal h
 | .call ..,g,D,i,m,h=>Bz hcal h
 | .bld ..,g,D,i,m,h=>Bz hcal h
 | .stb ..,g,D,i,m,h=>Bz hcal h
 | .ext ..,g,D,i,m,h=>Bz hcal h
end
theorem ADK {n:Nat} {ops:Array Oper} {cal:Gi} (hcal:J6 P cal) {aos:List Fw} {id:Nat} (h:iC P n ops none [] 0 aos=some ops.size) {ρ:Type} {kn:St->Option ρ} {r:ρ} {s:St} {act:Act} {w:World} {H:HP} {φ:CQ} {Q:Exit->Act->World->Prop}
  (hs:SR H φ s.st w) (hf:HR H φ s.st s.fr act.tmps) (hn:act.tmps.size=n) (hk:ot cal kn s aos=some r)
  (hnext:∀ s' act' w' H' φ',kn s'=some r->Ak H φ s.st w H' φ' s'.st w'->HR H' φ' s'.st s'.fr act'.tmps->act'.tmps.size=n->act'.defers=act.defers->Q .normal act' w'):(Code.region id ops false).wp P Q act w:=by
 refine wp_region ?_
 have:=ABt hcal aos none [] 0 ops.size h ρ kn r s act w H φ Q [] hs hf hn trivial (fun _ _ _ e=>by cases e) hk fun s' act' w' H' φ' h1 h2 h3 h4 h5 _=>hnext s' act' w' H' φ' h1 h2 h3 h4 h5
 rw [List.append_nil,Nat.sub_zero,<- List.range_eq_range'] at this
 exact this

def AFh (P:Program) (o:Oper) (act:Act) (obj:Obj):Prop:=∀ w:World,(execOp act.eval o).run P w=.ok (.value (re o.op w.heap.size)) (w.alloc obj)
structure je (H:HP) (φ:CQ) (st:List AX) (w:World) (b:Nat) (obj:Obj):Prop where
 held:w.heap[b]? = some obj
 out:H b=none
 sep:∀ j bx,st[j]? = some bx->bx.live=true->ED (φ j)≠some b
theorem je.lt {H:HP} {φ:CQ} {st:List AX} {w:World} {b:Nat} {obj:Obj} (h:je H φ st w b obj):b<w.heap.size:=(Array.getElem?_eq_some_iff.1 h.held).1
theorem je.step {H H':HP} {φ φ':CQ} {st st':List AX} {w w':World} {b:Nat} {obj:Obj} (h:je H φ st w b obj) (g:Ak H φ st w H' φ' st' w'):je H' φ' st' w' b obj:=by
 let φ0:CQ:=fun j=>match st[j]? with
  | some bx=>if bx.live=true then φ j else .slice none 0 0
  | none=>.slice none 0 0
 have self:Fr 0 st.length H φ0 w H φ st w:=⟨rfl,rfl,rfl,Nat.le_refl _,fun _ _ _=>rfl,fun j hj=>absurd hj (Nat.not_lt_zero _),fun i bi hi hl b hb=>.inr ⟨i,(As.1 hi).1,by simp only [φ0,hi,hl,if_true]; exact hb⟩,fun j hj=>absurd hj (Nat.not_lt_zero _),fun _ _ _=>rfl⟩
 have f:=g.fr 0 st.length H φ0 w self
 have hne:∀ j,j<st.length->ED (φ0 j)≠some b:=by
  intro j hj
  simp only [φ0]
  cases hi:st[j]? with
  | none=>simp [ED]
  | some bx =>
   simp only
   split
   ·rename_i hl; exact h.sep j bx hi hl
   ·simp [ED]
 refine ⟨(f.old b h.lt hne).trans h.held,(f.frz b h.lt hne).trans h.out,fun j bx hj hl e=>?_⟩
 rcases f.new j bx hj hl b e with h1 | ⟨k,hk,e2⟩
 ·have:=h.lt; omega
 ·exact hne k hk e2
theorem Ak.size {H H':HP} {φ φ':CQ} {st st':List AX} {w w':World} (g:Ak H φ st w H' φ' st' w'):w.heap.size<=w'.heap.size :=
 (g.fr 0 st.length H φ w ⟨rfl,rfl,rfl,Nat.le_refl _,fun _ _ _=>rfl,fun j hj=>absurd hj (Nat.not_lt_zero _),fun i bi hi hl b hb=>.inr ⟨i,(As.1 hi).1,hb⟩,fun j hj=>absurd hj (Nat.not_lt_zero _),fun _ _ _=>rfl⟩).size
theorem je.alloc {H:HP} {φ:CQ} {st:List AX} {w:World} (hs:SR H φ st w) (obj:Obj):je H φ st (w.alloc obj) w.heap.size obj :=
 ⟨heap_alloc_new w obj,(hs.fresh (Nat.le_refl _)).1,(hs.fresh (Nat.le_refl _)).2⟩
theorem pF {w:World} {a b:Obj} (h:w.alloc a=w.alloc b):a=b:=by
 have h1:=heap_alloc_new w a
 rw [h,heap_alloc_new w b] at h1
 exact (Option.some.inj h1).symm
theorem Ak.adopt {Hb H:HP} {φb φ:CQ} {stb st:List AX} {wb w:World} (hB:Ak Hb φb stb wb H φ st w) {v:Value} {bx:AX} (hs:SR H (fun i=>if i=st.length then v else φ i) (st++[bx]) w)
  (hb:bx.live=true->∀ b,ED v=some b->wb.heap.size<=b):Ak Hb φb stb wb H (fun i=>if i=st.length then v else φ i) (st++[bx]) w where
 le:=hB.le
 sr:=hs
 fr mv m0 H0 φ0 w0 f:=by
  have g:=hB.fr mv m0 H0 φ0 w0 f
  refine ⟨g.os,g.tape,g.output,g.size,g.old,fun j hj=>?_,fun i bi hbi hl b hb'=>?_,fun j hj=>?_,g.frz⟩
  ·have:=TR (g.vars j hj)
   rw [if_neg (by omega)]
   exact g.same j hj
  ·rcases Nat.lt_trichotomy i st.length with e | e | e
   ·rw [BO e] at hbi
    simp only [Nat.ne_of_lt e,if_false] at hb'
    exact g.new i bi hbi hl b hb'
   ·subst e
    simp at hbi
    subst hbi
    simp only [if_true] at hb'
    exact .inl (Nat.le_trans f.size (hb hl b hb'))
   ·rw [Dn (by simp; omega)] at hbi; cases hbi
  ·have:=g.vars j hj
   have hl:=TR this
   unfold Ae at this ⊢
   rw [BO hl]
   exact this
theorem Ak.adoptH {Hb H:HP} {φb φ:CQ} {stb st:List AX} {wb w:World} (hB:Ak Hb φb stb wb H φ st w) {b:Nat} {obj:Obj} (hl:je H φ st w b obj) (hb:wb.heap.size<=b) :
  ∃ H',Ak Hb φb stb wb H' φ st w/\H' b=some obj/\H.le H'/\∀ b',b'≠b->H' b'=H b':=by
 have h:=hB.sr
 let H':HP:=fun b'=>if b'=b then some obj else H b'
 have hle:H.le H':=by
  intro b' o' hb'
  have:b'≠b:=fun e=>by rw [e,hl.out] at hb'; cases hb'
  simp only [H',this,if_false]
  exact hb'
 refine ⟨H',⟨HP.le_trans hB.le hle,⟨fun b' o' hb'=>?_,fun id bx hid=>?_,h.sep,fun i bi hi hlv b' hb'=>?_,h.cell,h.tb.le hle⟩,fun mv m0 H0 φ0 w0 f=>?_⟩,by simp [H'],hle,fun b' hne=>by simp [H',hne]⟩
 ·by_cases e:b'=b
  ·subst e
   simp only [H',if_true] at hb'
   rw [<- hb']
   exact hl.held
  ·simp only [H',e,if_false] at hb'
   exact h.hp b' o' hb'
 ·have:=h.box id bx hid
  cases bx with
  | var cs=>obtain ⟨b,c,el,e1,e2,e3⟩:=this; exact ⟨b,c,el,e1,e2,e3.imp fun _ _ h=>h.mono hle⟩
  | rows t' K' xs'=>obtain ⟨flat',o',r'⟩:=this; exact ⟨flat',o',fun j x hx=>(r' j x hx).mono hle⟩
  | mrow t' K' xs'=>obtain ⟨flat',o',r'⟩:=this; exact ⟨flat',o',fun j x hx=>(r' j x hx).mono hle⟩
  | byt t' xs'=>exact this
  | frz K' xs'=>obtain ⟨r',a'⟩:=this; exact ⟨Po (fun _ _ h=>Gj.mono hle h) hle r',a'⟩
  | dead=>trivial
 ·have:b'≠b:=fun e=>by subst e; exact hl.sep i bi hi hlv hb'
  simp only [H',this,if_false]
  exact h.out i bi hi hlv b' hb'
 ·have g:=hB.fr mv m0 H0 φ0 w0 f
  refine { g with frz:=fun b' hb' hn=>?_ }
  have:=f.size
  have:b'≠b:=by omega
  simp only [H',this,if_false]
  exact g.frz b' hb' hn
theorem jG {s:St}:∀ {cs:List AV},cs.all AV.solid=true->s.keepAll cs=some (cs,s)
 | [],_=>rfl
 | c::cs,h=>by
  simp only [List.all_cons,AE] at h
  have h1:s.keep c=some (c,s):=by
   have:=h.1
   cases c with
   | fn f caps=>cases caps<;>first | rfl | cases this
   | _=>first | rfl | (simp [AV.solid] at this)
  simp [St.keepAll,h1,jG h.2]
theorem I1 {s:St}:∀ {aw:List AV},aw.all AV.firm=true->s.keepAlls aw=some (aw.map AV.cells,s)
 | [],_=>rfl
 | a::aw,h=>by
  simp only [List.all_cons,AE] at h
  have h1:a.cells.all AV.solid=true:=by
   have:=h.1
   cases a with
   | agg cs=>exact this
   | _=>simp only [AV.cells,List.all_cons,List.all_nil,Bool.and_true]; exact this
  simp [St.keepAlls,jG h1,I1 h.2]
theorem rk {ao:Fw} (h:ao.isFloat=true):(∃ d cs,ao=.alloc d cs)\/(∃ d e K qs,ao=.brow d e K qs)\/(∃ d K qs,ao=.blst d K qs):=by
 cases ao<;>first | (simp [Fw.isFloat] at h; done) | exact .inl ⟨_,_,rfl⟩ | exact .inr (.inl ⟨_,_,_,_,rfl⟩) | exact .inr (.inr ⟨_,_,_,rfl⟩)
theorem ACZ {H:HP} {φ:CQ} {s:St} {act:Act} {w:World} {n:Nat} {o:Oper} {d:Nat} {K:Kd} {qs:List Cr} {e:TypeId} (h:bsB P n o d K qs e=true) (hs:SR H φ s.st w) (hf:HR H φ s.st s.fr act.tmps)
  (hk:((qs.map s.opd).all AV.firm&&(K.ofs ((qs.map s.opd).map AV.cells)).isSome)=true):∃ obj,AFh P o act obj:=by
 simp only [AE] at hk
 obtain ⟨_,_,_,vs,e2,_,hb,hrun⟩:=uV h hf
 obtain ⟨H1,g1,k1,f1,_,_⟩:=I0 hs e2 (I1 hk.1)
 obtain ⟨xs,hx⟩:=Option.isSome_iff_exists.1 hk.2
 obtain ⟨_,_,s1'⟩:=o8 K f1 hx
 exact ⟨_,fun w=>by rw [hb]; exact hrun s1' w⟩
theorem AFi {H:HP} {φ:CQ} {s:St} {act:Act} {w:World} {n:Nat} {o:Oper} {ao:Fw} (h:uC P n o ao=true) (hfl:ao.isFloat=true) (hk:ao.floatOk s=true) (hs:SR H φ s.st w) (hf:HR H φ s.st s.fr act.tmps) :
  ∃ obj,AFh P o act obj:=by
 rcases rk hfl with ⟨d,cs,rfl⟩ | ⟨d,e,K,qs,rfl⟩ | ⟨d,K,qs,rfl⟩
 ·simp only [uC,uO,AE] at h
  have h2:=h.2
  split at h2
  ·rename_i t ho
   obtain ⟨i,z,hi,hz,_⟩:=l9 h2
   exact ⟨.cells z.cells t,fun w=>by simp [execOp,ho,Instr.alloc,zeroValue,typeInfo,hi,hz,newVar,newRow,re]⟩
  ·cases h2
 ·exact ACZ h hs hf hk
 ·simp only [uC] at h
  split at h
  ·exact ACZ h hs hf hk
  ·cases h
theorem HR.cons {H:HP} {φ:CQ} {st:List AX} {fr:List (Nat×AV)} {tmps:Array Value} (h:HR H φ st fr tmps) {d:Nat} {a:AV} (ha:VA H φ st a (tmps.getD d undef)):HR H φ st ((d,a)::fr) tmps:=by
 intro t
 simp only [GS]
 split
 ·rename_i e; subst e; exact ha
 ·exact h t
theorem AEG {Hb H:HP} {φb φ:CQ} {stb:List AX} {wb w:World} {s:St} {act:Act} {n:Nat} {o:Oper} {ao:Fw} {cal:Gi} (h:uC P n o ao=true) (hfl:ao.isFloat=true) (hk0:ao.floatOk s=true)
  (hB:Ak Hb φb stb wb H φ s.st w) (hf:HR H φ s.st s.fr act.tmps) {ρ:Type} {kn:St->Option ρ} {r:ρ} (hk:Ef cal kn s ao=some r) {obj:Obj} (hborn:AFh P o act obj) {b:Nat}
  (hd:∀ d,o.dst=some d->act.tmps.getD d undef=re o.op b) (hl:je H φ s.st w b obj) (hbb:wb.heap.size<=b) :
  ∃ s' H' φ',kn s'=some r/\Ak Hb φb stb wb H' φ' s'.st w/\HR H' φ' s'.st s'.fr act.tmps/\∀ b' obj',b'≠b->je H φ s.st w b' obj'->je H' φ' s'.st w b' obj':=by
 have hs:=hB.sr
 rcases rk hfl with ⟨d,cs,rfl⟩ | ⟨d,e,K,qs,rfl⟩ | ⟨d,K,qs,rfl⟩
 ·simp only [uC,uO,AE] at h
  obtain ⟨hdd,_⟩:=By h.1
  have h2:=h.2
  split at h2
  ·rename_i t ho
   obtain ⟨i,z,hi,hz,hv⟩:=l9 h2
   have hobj:obj=.cells z.cells t:=by
    have e1:=hborn w
    have e2:(execOp act.eval o).run P w=.ok (.value (.pointer (some ⟨w.heap.size,0,none⟩))) (w.alloc (.cells z.cells t)):=by simp [execOp,ho,Instr.alloc,zeroValue,typeInfo,hi,hz,newVar,newRow]
    rw [e2] at e1
    exact pF (Result.ok.inj e1).2.symm
   subst hobj
   obtain ⟨φ1,g1,k1,told,len⟩:=YM (hv H) hs
   have hl1:=hl.step g1
   have hd1:act.tmps.getD d undef=.pointer (some ⟨b,0,none⟩):=by rw [hd d hdd,ho]; rfl
   have hsr:=g1.sr.push (v:=.pointer (some ⟨b,0,none⟩)) (bx:=.var (Bl s.st.length cs)) ⟨b,z.cells,t,rfl,hl1.held,told.imp fun _ _ h=>h.1 _⟩
    (fun _ b' hb'=>by
     simp only [ED,BT] at hb'
     subst hb'
     exact ⟨hl1.out,hl1.sep⟩)
    (fun cs' e o' i' ho'=>by
     cases e
     obtain ⟨u,hu,ht⟩:=told.get o' _ ho'
     obtain ⟨q1,q2⟩:=ht.2 i' rfl
     refine ⟨q1,_,rfl,?_⟩
     simp only [World.cell?,hl1.held]
     rw [<- q2]
     simpa using hu)
   have hst:=(hB.trans g1).adopt hsr (fun _ b' hb'=>by
    simp only [ED,BT] at hb'
    omega)
   simp only [Ef] at hk
   refine ⟨_,H,_,hk,hst,?_,?_⟩
   ·refine HR.cons ((hf.mono (HP.le_refl H) k1).mono (HP.le_refl H) (FO φ1 (s.st++BM cs) _ _)) ?_
    rw [hd1]
    refine ⟨by rw [<- len]; exact o7 _ _,b,by simp [len],rfl⟩
   ·intro b' obj' hne hq
    have hq1:=hq.step g1
    refine ⟨hq1.held,hq1.out,fun j bx hj hlv e=>?_⟩
    rcases Nat.lt_trichotomy j (s.st++BM cs).length with e1 | e1 | e1
    ·rw [BO e1] at hj
     simp only [Nat.ne_of_lt e1,if_false] at e
     exact hq1.sep j bx hj hlv e
    ·rw [if_pos e1] at e
     simp only [ED,BT] at e
     omega
    ·rw [Dn (by simp at e1 ⊢; omega)] at hj; cases hj
  ·cases h2
 ·simp only [Fw.floatOk,AE] at hk0
  obtain ⟨hdd,hdn,hsm,vs,e2,e3,hbv,hrun⟩:=uV (e:=e) h hf
  simp only [Ef,I1 hk0.1,AA] at hk
  obtain ⟨H1,g1,k1,f1,_,_⟩:=I0 hs e2 (I1 hk0.1)
  cases hx:K.ofs ((qs.map s.opd).map AV.cells) with
  | none=>rw [hx] at hk; cases hk
  | some xs =>
   rw [hx] at hk
   simp only [AA] at hk
   obtain ⟨l1,r1,s1'⟩:=o8 K f1 hx
   have hflat:=VU s1'
   have hmax:vs.length<=maxLen:=by
    have hpos:=Kd.sz_pos K
    have:qs.length<=qs.length*K.sz:=Nat.le_mul_of_pos_right _ hpos
    simp only [maxLen]
    omega
   have hobj:obj=.cells (vs.flatMap fun v=>v.cells.toList).toArray e:=by
    have e1:=hborn w
    rw [hrun s1' w] at e1
    exact pF (Result.ok.inj e1).2.symm
   subst hobj
   have hl1:=hl.step g1
   have hsr:=g1.sr.push (v:=.slice (some ⟨b,0,none⟩) vs.length vs.length) (bx:=.rows e K xs)
    ⟨vs.flatMap fun v=>v.cells.toList,⟨by rw [hflat,l1],.inr ⟨b,vs.length,_,by rw [l1],Nat.zero_le _,hl1.held,by omega,hmax,by simp [hflat],by show List.take _ _=_; rw [l1,<- hflat]; exact List.take_length⟩⟩,r1⟩
    (fun _ b' hb'=>by
     simp only [ED,BT] at hb'
     subst hb'
     exact ⟨hl1.out,hl1.sep⟩) (fun cs e=>by cases e)
   have hst:=(hB.trans g1).adopt hsr (fun _ b' hb'=>by
    simp only [ED,BT] at hb'
    omega)
   refine ⟨_,H1,_,hk,hst,?_,?_⟩
   ·refine HR.cons ((hf.mono g1.le k1).mono (HP.le_refl _) (FO φ s.st _ _)) ?_
    rw [hd d hdd,hbv]
    exact ⟨by simp,by simp [AQ]⟩
   ·intro b' obj' hne hq
    have hq1:=hq.step g1
    refine ⟨hq1.held,hq1.out,fun j bx hj hlv e=>?_⟩
    rcases Nat.lt_trichotomy j s.st.length with e1 | e1 | e1
    ·rw [BO e1] at hj
     simp only [Nat.ne_of_lt e1,if_false] at e
     exact hq1.sep j bx hj hlv e
    ·rw [if_pos e1] at e
     simp only [ED,BT] at e
     omega
    ·rw [Dn (by simp; omega)] at hj; cases hj
 ·simp only [uC] at h
  split at h
  case h_2=>cases h
  simp only [Fw.floatOk,AE] at hk0
  obtain ⟨hdd,hdn,hsm,vs,e2,e3,hbv,hrun⟩:=uV h hf
  simp only [Ef,I1 hk0.1,AA] at hk
  obtain ⟨H1,g1,k1,f1,_,_⟩:=I0 hs e2 (I1 hk0.1)
  cases hx:K.ofs ((qs.map s.opd).map AV.cells) with
  | none=>rw [hx] at hk; cases hk
  | some xs =>
   rw [hx] at hk
   simp only [AA] at hk
   obtain ⟨l1,r1,s1'⟩:=o8 K f1 hx
   have hflat:=VU s1'
   have e1:=hborn w
   rw [hrun s1' w] at e1
   have hobj:=(pF (Result.ok.inj e1).2).symm
   have hl1:=hl.step g1
   obtain ⟨H2,hst,hb2,hle2,hoth⟩:=(hB.trans g1).adoptH hl1 hbb
   rw [hobj] at hb2
   refine ⟨_,H2,φ,hk,hst,?_,?_⟩
   ·refine HR.cons ((hf.mono g1.le k1).mono hle2 (CD.refl _ _ _)) ?_
    rw [hd d hdd,hbv]
    refine ⟨_,vs.length,by rw [l1],by rw [l1]; exact Nat.le_refl _,.inr ⟨b,0,_,_,(0,0),rfl,hb2,fun j x hx=>?_⟩⟩
    obtain ⟨cs,c1,c2,c3⟩:=TW r1 (by rw [hflat,l1]) hx
    refine ⟨cs,c1.mono hle2,c2,fun i u hu=>?_⟩
    have:=c3 i u hu
    simpa using this
   ·intro b' obj' hne hq
    have hq1:=hq.step g1
    exact ⟨hq1.held,(hoth b' hne).trans hq1.out,hq1.sep⟩

abbrev sG:=List (Nat×(World->Prop))
def X0 (anc:List Nat):sG->sG
 | []=>[]
 | p::r=>if CB anc p.1=true then X0 anc r else p::X0 anc r
theorem Hk {anc:List Nat}:∀ {T:sG},∀ p∈X0 anc T,p∈T/\CB anc p.1=false
 | [],p,h=>by cases h
 | q::r,p,h=>by
  simp only [X0] at h
  split at h
  ·obtain ⟨h1,h2⟩:=Hk p h
   exact ⟨by simp [h1],h2⟩
  ·rename_i hq
   rcases BF.1 h with rfl | h
   ·exact ⟨by simp,by simpa using hq⟩
   ·obtain ⟨h1,h2⟩:=Hk p h
    exact ⟨by simp [h1],h2⟩
theorem uf {anc:List Nat}:∀ {T:sG} {p},p∈T->CB anc p.1=false->p∈X0 anc T
 | [],p,h,_=>by cases h
 | q::r,p,h,hn=>by
  simp only [X0]
  rcases BF.1 h with rfl | h
  ·rw [if_neg (by rw [hn]; simp)]; simp
  ·split
   ·exact uf h hn
   ·exact List.mem_cons_of_mem _ (uf h hn)
theorem ADL {anc:List Nat} {i:Nat} {C:World->Prop} {T:sG} (h:CB anc i=false):X0 anc ((i,C)::T)=(i,C)::X0 anc T:=by
 show (if CB anc i=true then X0 anc T else (i,C)::X0 anc T)=_
 rw [h]
 rfl
def jf (P:Program) (ops:Array Oper) (Q:Exit->Act->World->Prop) (anc:Nat->List Nat):Nat->sG->Array Bool->Act->World->Prop
 | 0,_,listed,a,w=>Region.ready .any ops listed=[]/\Q .normal a w
 | fuel+1,T,listed,a,w =>
  (Region.ready .any ops listed=[]->Q .normal a w) /\
  ∀ i∈Region.ready .any ops listed,wpOp P ops Q i (fun a' w'=>(∀ p∈X0 (anc i) T,p.2 w')/\jf P ops Q anc fuel (X0 (anc i) T) (listed.setIfInBounds i true) a' w') a w
theorem ug {ops:Array Oper} {Q:Exit->Act->World->Prop} {anc:Nat->List Nat}:∀ (fuel:Nat) (T:sG) (listed:Array Bool) (a:Act) (w:World),jf P ops Q anc fuel T listed a w->wpAny P .any ops Q fuel listed a w
 | 0,_,_,_,_,h=>h
 | fuel+1,_,_,_,_,h=>⟨h.1,fun i hi=>wpOp_mono (fun a' w' h'=>ug fuel _ _ a' w' h'.2) (h.2 i hi)⟩
theorem jH {ops:Array Oper} {Q:Exit->Act->World->Prop} {anc:Nat->List Nat}:∀ (fuel:Nat) {T T':sG} (listed:Array Bool) (a:Act) (w:World),(∀ p∈T',p∈T)->jf P ops Q anc fuel T listed a w->jf P ops Q anc fuel T' listed a w
 | 0,_,_,_,_,_,_,h=>h
 | fuel+1,T,T',_,_,_,hs,h=>⟨h.1,fun i hi=>wpOp_mono (fun a' w' h'=>by
   have hsub:∀ p∈X0 (anc i) T',p∈X0 (anc i) T:=fun p hp=>by
    obtain ⟨h1,h2⟩:=Hk p hp
    exact uf (hs p h1) h2
   exact ⟨fun p hp=>h'.1 p (hsub p hp),jH fuel _ a' w' hsub h'.2⟩) (h.2 i hi)⟩
def xi (ops:Array Oper) (listed:Array Bool):Prop:=∀ k o,listed.getD k false=true->ops[k]? = some o->∀ e∈o.after,Region.binds .any e=true->listed.getD e.on false=true
def uh (ops:Array Oper) (i:Nat):List Nat:=match ops[i]? with
 | some o=>(o.after.filter fun e=>Region.binds .any e).toList.map (·.on)
 | none=>[]
def ABu (ops:Array Oper) (anc:List (List Nat)):Bool :=
 (List.range ops.size).all fun i=>(uh ops i).all (fun p=>decide (p<i))&&(anc.getD i []).all fun j=>(uh ops i).any (fun p=>p==j)||(uh ops i).any fun p=>CB (anc.getD p []) j
theorem Ta {ops:Array Oper} {anc:List (List Nat)} (hA:ABu ops anc=true) {listed:Array Bool} (hs:xi ops listed):∀ (i:Nat),(∀ p∈uh ops i,listed.getD p false=true)->i<ops.size->∀ j∈anc.getD i [],listed.getD j false=true:=by
 intro i
 induction i using Nat.strongRecOn with
 | _ i ih =>
  intro hp hi j hj
  have h1:=Bp.1 hA i (List.mem_range.2 hi)
  simp only [AE,Bp,List.any_eq_true,Do,beq_iff_eq,decide_eq_true_eq] at h1
  rcases h1.2 j hj with ⟨p,hpm,rfl⟩ | ⟨p,hpm,hpj⟩
  ·exact hp p hpm
  ·have hlt:=h1.1 p hpm
   refine ih p hlt (fun q hq=>?_) (by omega) j (EO.1 hpj)
   unfold uh at hq
   split at hq
   ·rename_i o ho
    simp only [List.mem_map,Array.mem_toList_iff,Array.mem_filter] at hq
    obtain ⟨e,⟨he,hb⟩,rfl⟩:=hq
    exact hs p o (hp p hpm) ho e he hb
   ·cases hq
theorem Eh {ops:Array Oper} {listed:Array Bool} {i:Nat} (h:i∈Region.ready .any ops listed):(∀ p∈uh ops i,listed.getD p false=true)/\i<ops.size:=by
 obtain ⟨_,o,ho,hall⟩:=mem_ready.1 h
 refine ⟨fun p hp=>?_,(Array.getElem?_eq_some_iff.1 ho).1⟩
 unfold uh at hp
 rw [ho] at hp
 simp only [List.mem_map,Array.mem_toList_iff,Array.mem_filter] at hp
 obtain ⟨e,⟨he,hb⟩,rfl⟩:=hp
 exact hall e he hb
theorem xi.set {ops:Array Oper} {listed:Array Bool} (hs:xi ops listed) {i:Nat} (h:i∈Region.ready .any ops listed):xi ops (listed.setIfInBounds i true):=by
 intro k o hk ho e he hb
 by_cases hik:i=k
 ·subst hik
  obtain ⟨_,o',ho',hall⟩:=mem_ready.1 h
  rw [ho] at ho'
  cases ho'
  exact getD_set_true (hall e he hb)
 ·rw [getD_set_ne false hik] at hk
  exact getD_set_true (hs k o hk ho e he hb)
theorem F0 {ops:Array Oper} {listed:Array Bool} {i:Nat} (h:i∈Region.ready .any ops listed):listed.getD i false=false:=by
 have h0:=(mem_ready.1 h).1
 rcases CF i listed.size with h' | h'
 ·simp [h'] at h0 ⊢; exact h0
 ·simp [Array.getElem?_eq_none h']
theorem mJ {ops:Array Oper} {Q:Exit->Act->World->Prop} {anc:List (List Nat)} (hA:ABu ops anc=true) {i:Nat} {oi:Oper} {v:Value} {C:World->Prop} (hi:ops[i]? = some oi)
  (hsel:∀ (j:Nat) (o:Oper) cs b,ops[j]? = some o->o.op≠.select cs b) (hQ:∀ c a w,Q (.panic c) (a.put oi.dst v) w->Q (.panic c) a w) :
  ∀ (fuel:Nat) (T:sG) (listed:Array Bool) (a:Act) (w:World),xi ops listed ->
   (∀ j oj,ops[j]? = some oj->j≠i->listed.getD j true=false->(∀ e∈oj.after,Region.binds .any e=true->e.on≠i)->oi.apart ops oj=true) ->
   i∈Region.ready .any ops listed->YieldsIf P ops C oi v a->C w->(∀ p∈T,p.2 w) ->
   jf P ops Q (fun i=>anc.getD i []) fuel ((i,C)::T) (listed.setIfInBounds i true) (a.put oi.dst v) w->jf P ops Q (fun i=>anc.getD i []) (fuel+1) T listed a w:=by
 intro fuel
 induction fuel with
 | zero =>
  intro T listed a w hsh _ hr hy hC hT H
  refine ⟨fun h=>(by rw [h] at hr; cases hr),fun j hj=>?_⟩
  by_cases hji:j=i
  ·subst hji; exact hy.wpOp hi hC ⟨fun p hp=>hT p (Hk p hp).1,H⟩
  ·have:=ready_mono hj hji
   rw [H.1] at this
   cases this
 | succ fuel ih =>
  intro T listed a w hsh hfree hr hy hC hT H
  refine ⟨fun h=>(by rw [h] at hr; cases hr),fun j hj=>?_⟩
  by_cases hji:j=i
  ·subst hji
   refine hy.wpOp hi hC ⟨fun p hp=>hT p (Hk p hp).1,jH _ _ _ _ (fun p hp=>?_) H⟩
   exact List.mem_cons_of_mem _ (Hk p hp).1
  ·have h1:=H.2 j (ready_mono hj hji)
   obtain ⟨hjun,oj,hoj,hall⟩:=mem_ready.1 hj
   have hnot:∀ e∈oj.after,Region.binds .any e=true->e.on≠i:=fun e he hb heq=>by
    have h1:=hall e he hb
    have h0:=F0 hr
    rw [heq] at h1
    rw [h0] at h1
    cases h1
   have hnanc:CB (anc.getD j []) i=false:=by
    rw [B7]
    intro hm
    have:=Ta hA hsh j (Eh hj).1 (Eh hj).2 i hm
    rw [F0 hr] at this
    cases this
   have hcut:X0 (anc.getD j []) ((i,C)::T)=(i,C)::X0 (anc.getD j []) T:=ADL hnanc
   simp only [hcut] at h1
   have h2:=wpOp_putIf hoj (hfree j oj hoj hji hjun hnot) (fun cs b=>hsel i oi cs b hi) (fun cs b=>hsel j oj cs b hoj) hQ hy h1
   have hfree':∀ k ok,ops[k]? = some ok->k≠i->(listed.setIfInBounds j true).getD k true=false ->
     (∀ e∈ok.after,Region.binds .any e=true->e.on≠i)->oi.apart ops ok=true:=fun k ok hk hki hun hno=>by
    refine hfree k ok hk hki ?_ hno
    by_cases hjk:j=k
    ·subst hjk; exact hjun
    ·rw [getD_set_ne true hjk] at hun; exact hun
   refine wpOp_mono (fun a' w' h3=>?_) h2
   obtain ⟨hy',hp',hG⟩:=h3
   have hC':C w':=hp' (i,C) (by simp)
   have hT':∀ p∈X0 (anc.getD j []) T,p.2 w':=fun p hp=>hp' p (List.mem_cons_of_mem _ hp)
   refine ⟨hT',ih _ (listed.setIfInBounds j true) a' w' (hsh.set hj) hfree' (ready_mono hr (Ne.symm hji)) hy' hC' hT' ?_⟩
   rw [Array.setIfInBounds_comm _ _ hji]
   exact hG
theorem AFj {o:Oper} {a:Act} {w:World} {I:Prop} (h:o.wp P a w (fun _ _=>I) (fun _ _ _=>I)):I:=by
 unfold Oper.wp at h
 generalize (execOp a.eval o).run P w=r at h
 cases r with
 | ok n w' =>
  cases n<;>simp only [Oper.upon] at h<;>try exact h
  case enter f args =>
   obtain ⟨e,w2,fr,hr,_⟩:=h []
   cases e with
   | returned v=>exact hr
   | panicked c=>exact hr
   | outgrown=>exact hr.elim fun _ h=>h.elim fun _ h=>h
  case row row args =>
   obtain ⟨v,w2,hr,_⟩:=h default []
   exact hr
 | halt x w' =>
  cases x<;>simp only [Oper.upon] at h
  case panic v=>exact h
def gB (ops:Array Oper) (o:Oper):Option (Nat×Bool)->Bool
 | none=>o.guard.isNone
 | some g=>match o.guard with
  | some (j,want)=>want==g.2&&sF ops j==some g.1
  | none=>false
def ADM (L:Array Bool) (fl:List Nat):Array Bool:=fl.foldl (fun L i=>L.setIfInBounds i true) L
def AEH (ops:Array Oper) (i:Nat) (js:List Nat):Bool :=
 js.all fun j=>match ops[i]?,ops[j]? with
  | some a,some b=>a.apart ops b&&b.apart ops a
  | _,_=>false
def YS (ops:Array Oper):List Nat->Bool
 | []=>true
 | i::r=>!CB r i&&AEH ops i r&&YS ops r
def ABv (P:Program) (n:Nat) (ops:Array Oper) (L:Array Bool) (f:Nat×Fw):Bool :=
 (Region.ready .any ops L).contains f.1&&f.2.isFloat&&(match ops[f.1]? with
  | some o=>uC P n o f.2&&decide (o.dst.toList=f.2.dsts)&&o.guard.isNone&&(match o.dst with
   | some d=>!(o.looksAt ops).contains d&&decide (d<n)
   | none=>false)
  | none=>false)
def uD (P:Program) (n:Nat) (ops:Array Oper):DT->Array Bool->List Nat->Bool
 | .done,L,F=>(Region.ready .any ops L).isEmpty&&F.isEmpty
 | .take i g ao r,L,F=>(Region.ready .any ops L).contains i&&Region.free .any ops L i&&!CB F i&&ao.isVal&&(match ops[i]? with
   | some o=>gB ops o g&&uC P n o ao&&decide (o.dst.toList=ao.dsts)
   | none=>false)&&uD P n ops r (L.setIfInBounds i true) F
 | .skip i g d r,L,F=>(Region.ready .any ops L).contains i&&Region.free .any ops L i&&!CB F i&&(match ops[i]? with
   | some o=>gB ops o (some g)&&decide (o.dst=d)&&(match d with | some d=>decide (d<n) | none=>true)
   | none=>false)&&uD P n ops r (L.setIfInBounds i true) F
 | .only i g ao e fl r,L,F=>(Region.ready .any ops L).contains i&&(Region.ready .any ops (ADM L (fl.map (·.1)))).all (· == i)&&F.all (fun f=>f==i||CB (fl.map (·.1)) f)&&(!CB F i||(e&&ao.isFloat))
   && fl.all (ABv P n ops L)&&YS ops (i::fl.map (·.1))&&(match ops[i]? with
   | some o=>gB ops o g&&uC P n o ao&&decide (o.dst.toList=ao.dsts)
   | none=>false)&&uD P n ops r (L.setIfInBounds i true) (fl.map (·.1))
 | .test _ a b,L,F=>uD P n ops a L F&&uD P n ops b L F
 | .fork i ai ri j aj rj,L,F=>F.isEmpty&&(Region.ready .any ops L).contains i&&(Region.ready .any ops L).all (fun k=>k==i||k==j)
   && (match ops[i]? with
   | some o=>gB ops o none&&uC P n o ai&&decide (o.dst.toList=ai.dsts)
   | none=>false)&&(match ops[j]? with
   | some o=>gB ops o none&&uC P n o aj&&decide (o.dst.toList=aj.dsts)
   | none=>false)&&uD P n ops ri (L.setIfInBounds i true) []&&uD P n ops rj (L.setIfInBounds j true) []
def ACa (P:Program) (n:Nat) (ops:Array Oper) (anc:List (List Nat)) (t:DT):Bool :=
 P.follows .mixedOrders&&Region.noSelect ops&&ABu ops anc&&uD P n ops t (Array.replicate ops.size false) []
theorem AAy {H:HP} {φ:CQ} {s:St} {act:Act} (hf:HR H φ s.st s.fr act.tmps) {c:Nat} {t:Bool} (h:GS s.fr c=.bool t):act.tmps[c]? = some (.bool t):=by
 have hfc:=hf c
 rw [h] at hfc
 have hfc:act.tmps.getD c undef=.bool t:=hfc
 rw [Array.getD_eq_getD_getElem?] at hfc
 cases hq:act.tmps[c]? with
 | none=>rw [hq] at hfc; cases hfc
 | some v=>rw [hq] at hfc; simpa using hfc
theorem aT {H:HP} {φ:CQ} {s:St} {act:Act} {ops:Array Oper} {o:Oper} {g:Option (Nat×Bool)} (hf:HR H φ s.st s.fr act.tmps) (h:gOk s g=true) (hb:gB ops o g=true):Region.wanted o (yielded ops act.tmps)=true:=by
 cases g with
 | none =>
  simp only [gB,Option.isNone_iff_eq_none] at hb
  exact TZ hb trivial
 | some g =>
  simp only [gB] at hb
  split at hb
  ·rename_i j want hg
   simp only [AE,beq_iff_eq] at hb
   obtain ⟨rfl,hb2⟩:=hb
   simp only [gOk] at h
   split at h
   ·rename_i t ht
    simp only [beq_iff_eq] at h
    subst h
    exact TZ hg ⟨g.1,hb2,AAy hf ht⟩
   ·cases h
  ·cases hb
theorem AAz {H:HP} {φ:CQ} {s:St} {act:Act} {ops:Array Oper} {o:Oper} {g:Nat×Bool} (hf:HR H φ s.st s.fr act.tmps) (h:AGY s g=true) (hb:gB ops o (some g)=true):Region.wanted o (yielded ops act.tmps)=false:=by
 simp only [gB] at hb
 split at hb
 ·rename_i j want hg
  simp only [AE,beq_iff_eq] at hb
  obtain ⟨rfl,hb2⟩:=hb
  refine jd hg hb2 ?_
  unfold AGY at h
  split at h
  ·rename_i t ht
   rw [AAy hf ht]
   intro e
   cases e
   simp at h
  ·rename_i ht
   have hv:=hf g.1
   rw [ht] at hv
   have hv:act.tmps.getD g.1 undef=undef:=hv
   intro e
   rw [Array.getD_eq_getD_getElem?,e] at hv
   cases hv
  ·cases h
 ·cases hb
def rl (act:Act) (w:World) (T:List (Nat×Nat)) (TT:sG):Prop :=
 ∀ p∈TT,p.2 w/\((∀ w2,p.2 w2)\/∃ x,(p.1,x)∈T/\∃ w0:World,p.2=fun w2=>∀ b,ED (act.tmps.getD x undef)=some b->w2.heap[b]? = w0.heap[b]?)
theorem TU {ds:List Nat}:∀ {T:List (Nat×Nat)},I5 ds T=true->∀ p∈T,p.2∉ds
 | [],_,p,hp=>by cases hp
 | q::r,h,p,hp=>by
  simp only [I5,AE,EY] at h
  rcases BF.1 hp with rfl | hp
  ·exact B7.1 h.1
  ·exact TU h.2 p hp
theorem Qf {act:Act} {dst:Option Tmp} {v:Value} {t:Nat} (h:dst≠some t):(act.put dst v).tmps.getD t undef=act.tmps.getD t undef:=by
 rw [Array.getD_eq_getD_getElem?,Array.getD_eq_getD_getElem?,M0 h]
theorem rl.put {act:Act} {w:World} {T:List (Nat×Nat)} {TT:sG} (h:rl act w T TT) {dst:Option Tmp} {v:Value} (hf:I5 dst.toList T=true):rl (act.put dst v) w T TT:=by
 intro p hp
 obtain ⟨h1,h2⟩:=h p hp
 refine ⟨h1,?_⟩
 rcases h2 with h2 | ⟨x,hx,w0,e⟩
 ·exact .inl h2
 ·refine .inr ⟨x,hx,w0,?_⟩
  have:=TU hf _ hx
  rw [Qf (fun e=>this (by rw [e]; simp))]
  exact e
theorem M1 {anc:List Nat}:∀ {T:List (Nat×Nat)} {p},p∈T->CB anc p.1=false->p∈IM anc T
 | [],p,h,_=>by cases h
 | q::r,p,h,hn=>by
  simp only [IM]
  rcases BF.1 h with rfl | h
  ·rw [if_neg (by rw [hn]; simp)]; simp
  ·split
   ·exact M1 h hn
   ·exact List.mem_cons_of_mem _ (M1 h hn)
theorem YT {anc tch:List Nat} {s:St}:∀ {T:List (Nat×Nat)},aK anc tch s T=true->∀ p∈T,CB anc p.1=false->(GS s.fr p.2).clear tch=true
 | [],_,p,hp,_=>by cases hp
 | q::r,h,p,hp,hn=>by
  simp only [aK,AE,Do] at h
  rcases BF.1 hp with rfl | hp
  ·rcases h.1 with h1 | h1
   ·rw [hn] at h1; cases h1
   ·exact h1
  ·exact YT h.2 p hp hn
theorem g_ {H H':HP} {φ φ':CQ} {s:St} {st':List AX} {w w':World} {v:Value} {a:AV} {tch:List Nat} (hs:SR H φ s.st w) (hst:Ak H φ s.st w H' φ' st' w') (hm:xf tch φ s.st w w') (hv:VA H φ s.st a v)
  (h:a.clear tch=true):∀ b,ED v=some b->w'.heap[b]? = w.heap[b]? := by
 intro b hb
 have keepH:∀ o,H b=some o->w'.heap[b]? = w.heap[b]? := fun o ho=>by rw [hst.sr.hp b o (hst.le b o ho),hs.hp b o ho]
 cases a with
 | ptr id off =>
  obtain ⟨hva,b0,e1,e2⟩:=hv
  rw [e2] at hb
  cases hb
  unfold An at hva
  split at hva
  ·rename_i cs hid
   exact hm id _ hid rfl (B7.1 (by simpa [AV.clear] using h)) b0 (by rw [e1]; rfl)
  ·cases hva
 | eptr id i off =>
  obtain ⟨b0,n,cap,K,hk,hi,e1,e2⟩:=hv
  rw [e2] at hb
  cases hb
  unfold AQ at hk
  split at hk
  ·rename_i t K' xs hid
   exact hm id _ hid rfl (B7.1 (by simpa [AV.clear] using h)) b0 (by rw [e1]; rfl)
  ·rename_i K' xs hid
   cases hk
   obtain ⟨⟨sl,cap',e3,_,hr⟩,_⟩:=hs.box id _ hid
   rcases hr with rfl | ⟨b1,o1,c,el,fz,e4,e5,_⟩
   ·simp at hi
   ·rw [e1] at e3
    simp only [Value.slice.injEq] at e3
    rw [e4] at e3
    obtain ⟨e6,_⟩:=e3
    simp only [BT,Addr.mk.injEq] at e6
    obtain ⟨rfl,_⟩:=e6
    exact keepH _ e5
  ·rename_i t K' xs hid
   exact hm id _ hid rfl (B7.1 (by simpa [AV.clear] using h)) b0 (by rw [e1]; rfl)
  ·rename_i t xs hid
   cases hk
   exact hm id _ hid rfl (B7.1 (by simpa [AV.clear] using h)) b0 (by rw [e1]; rfl)
  ·cases hk
 | fptr cs off =>
  obtain ⟨b0,o,c,el,fz,e,hb0,_⟩:=hv
  rw [e] at hb
  cases hb
  exact keepH _ hb0
 | _=>cases h
theorem AEI {n:Nat} {o:Oper} {d x:Nat} {m:Option Nat} (h:uP P n o d (.t x) m=true):∃ t,o.op=.load t (.tmp x):=by
 simp only [uP,AE] at h
 have h2:=h.2
 split at h2
 ·rename_i t y ho
  simp only [AE] at h2
  have:=h2.1
  cases y<;>simp [Dl] at this
  subst this
  exact ⟨t,ho⟩
 ·cases h2
theorem ADN {n:Nat} {o:Oper} {ao:Fw} {t:TypeId} {y:Operand} {ρ:Type} {kn:St->Option ρ} {r:ρ} {cal:Gi} {s:St} (hb:uC P n o ao=true) (hop:o.op=.load t y) (hv:ao.isVal=true) (hk:Ef cal kn s ao=some r) :
  ∃ d x m,ao=.load d (.t x) m:=by
 cases ao<;>first | cases hv | skip
 case load d x m =>
  cases x with
  | t x=>exact ⟨d,x,m,rfl⟩
  | c a =>
   exfalso
   simp only [uC,uP,hop,AE] at hb
   simp only [Ef,St.opd] at hk
   have h2:=hb.2.1
   cases y with
   | const v =>
    have h3:a=.undef\/o6 v a=true:=by cases a<;>first | exact .inl rfl | exact .inr h2
    rcases h3 with rfl | h3
    ·simp [St.behind] at hk
    ·have:=gx (H:=fun _=>none) (v:=v) (a:=a) h3
     cases a<;>first | exact this.elim | (simp [St.behind] at hk)
   | func f =>
    cases a<;>first | (simp [Dl] at h2; done) | (simp [St.behind] at hk)
   | tmp t=>simp [Dl] at h2
   | global g=>simp [Dl] at h2
 all_goals (exfalso; simp [uC,mvB,rd,ACQ,AFP,AFQ,unB,AFN,AFM,zb,AFU,ACT,ACU,slB,fnB,AFd,AFf,AFR,AFO,ze,hop] at hb)
def LS (M L:Array Bool) (S:List Nat):Prop:=M.size=L.size/\∀ k,M.getD k true=(L.getD k true||CB S k)
theorem LS.refl (L:Array Bool):LS L L []:=⟨rfl,fun k=>by simp [CB]⟩
theorem jg {M:Array Bool} {k:Nat}:M.getD k false=(M.getD k true&&decide (k<M.size)):=by
 rw [Array.getD_eq_getD_getElem?,Array.getD_eq_getD_getElem?]
 by_cases h:k<M.size
 ·simp [h]
 ·simp [h]
theorem LS.getF {M L:Array Bool} {S:List Nat} (h:LS M L S) (k:Nat):M.getD k false=(L.getD k false||(CB S k&&decide (k<L.size))):=by
 rw [jg,jg,h.2,h.1]
 cases L.getD k true<;>cases CB S k<;>simp
theorem YU {M:Array Bool} {i k:Nat}:(M.setIfInBounds i true).getD k true=(M.getD k true||(i==k)):=by
 by_cases h:i=k
 ·subst h
  rw [Array.getD_eq_getD_getElem?]
  by_cases h2:i<M.size
  ·simp [h2]
  ·simp [h2]
 ·rw [getD_set_ne true h]
  simp [h]
theorem LS.set {M L:Array Bool} {S:List Nat} (h:LS M L S) (i:Nat):LS (M.setIfInBounds i true) (L.setIfInBounds i true) S:=by
 refine ⟨by simp [h.1],fun k=>?_⟩
 rw [YU,YU,h.2]
 cases L.getD k true<;>cases CB S k<;>cases (i==k)<;>rfl
theorem LS.early {M L:Array Bool} {S:List Nat} (h:LS M L S) (f:Nat):LS (M.setIfInBounds f true) L (f::S):=by
 refine ⟨by simp [h.1],fun k=>?_⟩
 rw [YU,h.2]
 simp only [CB]
 by_cases e:f=k<;>simp [e]
theorem LS.adopt {M L:Array Bool} {a b:List Nat} {i:Nat} (h:LS M L (a++i::b)):LS M (L.setIfInBounds i true) (a++b):=by
 refine ⟨by simp [h.1],fun k=>?_⟩
 rw [YU,h.2,VT,VT]
 simp only [CB]
 by_cases e:i=k
 ·simp [e]
 ·have:(i==k)=false:=by simpa using e
  rw [this]
  cases L.getD k true<;>cases CB a k<;>cases CB b k<;>simp [e]
theorem AFk (L:Array Bool):∀ (fl:List Nat),(ADM L fl).size=L.size/\∀ k,(ADM L fl).getD k true=(L.getD k true||CB fl k):=by
 intro fl
 unfold ADM
 induction fl generalizing L with
 | nil=>exact ⟨rfl,fun k=>by simp [CB]⟩
 | cons f fl ih =>
  obtain ⟨h1,h2⟩:=ih (L.setIfInBounds f true)
  refine ⟨by simpa using h1,fun k=>?_⟩
  rw [List.foldl_cons,h2,YU]
  simp only [CB]
  by_cases e:f=k
  ·simp [e]
  ·have:(f==k)=false:=by simpa using e
   rw [this,if_neg e,Bool.or_false]
def xj:List Bool->Nat
 | []=>0
 | b::r=>(if b=true then 0 else 1)+xj r
theorem AA0:∀ (l:List Bool) (i:Nat),l[i]? = some false->xj (l.set i true)+1=xj l
 | [],i,h=>by simp at h
 | b::l,0,h=>by simp at h; subst h; simp [xj]; omega
 | b::l,i+1,h=>by
  have:=AA0 l i (by simpa using h)
  simp only [List.set_cons_succ,xj]
  omega
theorem hJ {M:Array Bool} {i:Nat} (h:M.getD i true=false):xj (M.setIfInBounds i true).toList+1=xj M.toList:=by
 rw [Array.toList_setIfInBounds]
 apply AA0
 rw [Array.getD_eq_getD_getElem?] at h
 cases hq:M[i]? with
 | none=>rw [hq] at h; cases h
 | some b=>rw [hq] at h; simp at h; subst h; simpa using hq
theorem AFl (n:Nat):xj (List.replicate n false)=n:=by
 induction n with
 | zero=>rfl
 | succ n ih=>rw [List.replicate_succ]; simp [xj,ih]; omega
def ACb (P:Program) (ops:Array Oper) (wb:World) (H:HP) (φ:CQ) (st:List AX) (act:Act) (w:World) (f b:Nat):Prop :=
 ∃ o d obj,ops[f]? = some o/\o.dst=some d/\d<act.tmps.size/\AFh P o act obj/\act.tmps.getD d undef=re o.op b/\je H φ st w b obj/\wb.heap.size<=b
theorem ACb.put {ops:Array Oper} {wb:World} {H H':HP} {φ φ':CQ} {st st':List AX} {act:Act} {w w':World} {f b:Nat} (h:ACb P ops wb H φ st act w f b) {oi:Oper} {v:Value}
  (hsel:∀ (j:Nat) (o:Oper) cs b,ops[j]? = some o->o.op≠.select cs b) (hap:∀ o,ops[f]? = some o->oi.apart ops o=true) (hl:∀ obj,je H φ st w b obj->je H' φ' st' w' b obj):ACb P ops wb H' φ' st' (act.put oi.dst v) w' f b:=by
 obtain ⟨o,d,obj,h1,h2,h3,h4,h5,h6,h7⟩:=h
 obtain ⟨a1,a2,_⟩:=Oper.apart_spec (hap o h1)
 refine ⟨o,d,obj,h1,h2,by rw [Is]; exact h3,fun w2=>?_,?_,hl obj h6,h7⟩
 ·rw [execOp_put o (fun cs b=>hsel f o cs b h1) act oi.dst v a1]
  exact h4 w2
 ·rw [Qf (fun e=>a2 d e h2)]
  exact h5
theorem yo {ops:Array Oper} {i:Nat} {js:List Nat} (h:AEH ops i js=true) {j:Nat} (hj:j∈js):∃ a b,ops[i]? = some a/\ops[j]? = some b/\a.apart ops b=true/\b.apart ops a=true:=by
 have:=Bp.1 h j hj
 split at this
 ·rename_i a b ha hb
  simp only [AE] at this
  exact ⟨a,b,ha,hb,this.1,this.2⟩
 ·cases this
theorem eC {ops:Array Oper}:∀ {l:List Nat},YS ops l=true->∀ i∈l,∀ j∈l,i≠j->∃ a b,ops[i]? = some a/\ops[j]? = some b/\a.apart ops b=true
 | [],_,i,hi,_,_,_=>by cases hi
 | x::l,h,i,hi,j,hj,hne=>by
  simp only [YS,AE] at h
  rcases BF.1 hi with e1 | hi
  ·subst e1
   rcases BF.1 hj with e2 | hj
   ·exact absurd e2.symm hne
   ·obtain ⟨a,b,h1,h2,h3,_⟩:=yo h.1.2 hj
    exact ⟨a,b,h1,h2,h3⟩
  ·rcases BF.1 hj with e2 | hj
   ·rw [e2]
    obtain ⟨a,b,h1,h2,_,h4⟩:=yo h.1.2 hi
    exact ⟨b,a,h2,h1,h4⟩
   ·exact eC h.2 i hi j hj hne
theorem mK {s:St} {T:List (Nat×Nat)}:∀ {fl:List (Nat×Fw)},lr s T fl=true->∀ f∈fl,f.2.floatOk s=true/\lq s f.2.dsts=true/\I5 f.2.dsts T=true
 | [],_,f,hf=>by cases hf
 | g::fl,h,f,hf=>by
  simp only [lr,AE] at h
  rcases BF.1 hf with rfl | hf
  ·exact ⟨h.1.1.1,h.1.1.2,h.1.2⟩
  ·exact mK h.2 f hf
theorem AHT {n:Nat} {ops:Array Oper} {anc:List (List Nat)} {cal:Gi} (hcal:J6 P cal) (hA:ABu ops anc=true) (hsel:Region.noSelect ops=true) {ρ:Type} {kn:St->Option ρ} {r:ρ} {N:Act->World->Prop}
  {Hb:HP} {φb:CQ} {stb:List AX} {wb:World} {ab:Act}
  (hN:∀ s' act' w' H' φ',kn s'=some r->Ak Hb φb stb wb H' φ' s'.st w'->HR H' φ' s'.st s'.fr act'.tmps->act'.tmps.size=n->act'.defers=ab.defers->N act' w') :
  ∀ (t:DT) (fuel:Nat) (F S:List Nat) (B:Nat->Nat) (T:List (Nat×Nat)) (TT:sG) (L M:Array Bool) (s:St) (act:Act) (w:World) (H:HP) (φ:CQ),uD P n ops t L F=true->LS M L S->(∀ f∈S,CB F f=true/\f∈Region.ready .any ops L) ->
   S.Nodup->(∀ f∈S,∀ g∈S,f≠g->B f≠B g)->xj M.toList<=fuel->xi ops L->xi ops M ->
   Ak Hb φb stb wb H φ s.st w->HR H φ s.st s.fr act.tmps->act.tmps.size=n->act.defers=ab.defers->rl act w T TT->(∀ f∈S,∀ p∈TT,CB (anc.getD f []) p.1=false)->(∀ f∈S,ACb P ops wb H φ s.st act w f (B f))->dK cal anc kn t T s=some r ->
   jf P ops (fun e a w=>match e with | .normal=>N a w | _=>False) (fun i=>anc.getD i []) fuel TT M act w:=by
 have hsnd:=Region.noSelect_spec hsel
 intro t
 induction t with
 | done =>
  intro fuel F S B T TT L M s act w H φ hb hls hS _ _ hfu _ _ hB hf hn hde _ _ _ hk
  simp only [uD,AE,List.isEmpty_iff] at hb
  have hS0:S=[]:=by
   cases S with
   | nil=>rfl
   | cons f S =>
    have:=(hS f (by simp)).2
    rw [hb.1] at this
    cases this
  subst hS0
  have hM:Region.ready .any ops M=[]:=by
   rw [List.eq_nil_iff_forall_not_mem]
   intro j hj
   obtain ⟨h1,o,h2,h3⟩:=mem_ready.1 hj
   have:j∈Region.ready .any ops L:=mem_ready.2 ⟨by have:=hls.2 j; simp only [CB,Bool.or_false] at this; rw [<- this]; exact h1,o,h2,fun e he hbi=>by have:=hls.getF e.on; simp only [CB,Bool.false_and,Bool.or_false] at this; rw [<- this]; exact h3 e he hbi⟩
   rw [hb.1] at this
   cases this
  have hq:=hN s act w H φ hk hB hf hn hde
  cases fuel with
  | zero=>exact ⟨hM,hq⟩
  | succ fuel=>exact ⟨fun _=>hq,fun i hi=>by rw [hM] at hi; cases hi⟩
 | test c a b iha ihb =>
  intro fuel F S B T TT L M s act w H φ hb hls hS hnd hBd hfu hsh hshM hB hf hn hde hp hAn hpf hk
  simp only [uD,AE] at hb
  simp only [dK] at hk
  split at hk
  ·rename_i t ht
   have hfc:∀ t',t=t'->HR H φ (s.put c (.bool t')).st (s.put c (.bool t')).fr act.tmps:=by
    intro t' e q
    subst e
    simp only [St.put,GS]
    split
    ·rename_i e; subst e; have:=hf c; rw [ht] at this; exact this
    ·exact hf q
   split at hk
   ·rename_i e
    exact iha fuel F S B T TT L M (s.put c (.bool true)) act w H φ hb.1 hls hS hnd hBd hfu hsh hshM hB (hfc true e) hn hde hp hAn hpf hk
   ·rename_i e
    exact ihb fuel F S B T TT L M (s.put c (.bool false)) act w H φ hb.2 hls hS hnd hBd hfu hsh hshM hB (hfc false (by simpa using e)) hn hde hp hAn hpf hk
  ·cases hk
 | fork i ai ri j aj rj ihi ihj =>
  intro fuel F S B T TT L M s act w H φ hb hls hS hnd hBd hfu hsh hshM hB hf hn hde hp hAn hpf hk
  simp only [uD,AE,List.isEmpty_iff] at hb
  obtain ⟨⟨⟨⟨⟨⟨hF,hri⟩,hall⟩,hoi⟩,hoj⟩,hbi⟩,hbj⟩:=hb
  have hS0:S=[]:=by
   cases S with
   | nil=>rfl
   | cons f S =>
    have:=(hS f (by simp)).1
    rw [hF] at this
    cases this
  subst hS0
  simp only [dK] at hk
  obtain ⟨hki,hkj⟩:=ou.1 hk
  have hq:∀ k∈Region.ready .any ops M,k∈Region.ready .any ops L:=fun k hk=>by
   obtain ⟨h1,o,h2,h3⟩:=mem_ready.1 hk
   exact mem_ready.2 ⟨by have:=hls.2 k; simp only [CB,Bool.or_false] at this; rw [<- this]; exact h1,o,h2,fun e he hbi=>by have:=hls.getF e.on; simp only [CB,Bool.false_and,Bool.or_false] at this; rw [<- this]; exact h3 e he hbi⟩
  have hqL:∀ k∈Region.ready .any ops L,k∈Region.ready .any ops M:=fun k hk=>by
   obtain ⟨h1,o,h2,h3⟩:=mem_ready.1 hk
   exact mem_ready.2 ⟨by rw [hls.2,h1]; rfl,o,h2,fun e he hbi=>by rw [hls.getF,h3 e he hbi]; rfl⟩
  obtain ⟨i0,hi0⟩:∃ k,k∈Region.ready .any ops L:=⟨i,by simpa using hri⟩
  obtain ⟨fuel,rfl⟩:∃ k,fuel=k+1:=⟨fuel-1,by
   have:=hJ (mem_ready.1 (hqL i0 hi0)).1
   omega⟩
  refine ⟨fun h=>(by have:=hqL i0 hi0; rw [h] at this; cases this),fun k hkM=>?_⟩
  have hcnt:=hJ (mem_ready.1 hkM).1
  have hkL:=hq k hkM
  have hkk:=Bp.1 hall k hkL
  simp only [Do,beq_iff_eq] at hkk
  rcases hkk with e | e
  ·subst e
   split at hoi
   case h_2=>cases hoi
   rename_i o hoi
   simp only [AE,decide_eq_true_eq] at hoi
   obtain ⟨⟨hg,hob⟩,hds⟩:=hoi
   split at hki
   case isFalse=>cases hki
   rename_i hc
   simp only [AE] at hc
   obtain ⟨hc2,hc3⟩:=hc
   have hfr:I5 o.dst.toList T=true:=by rw [hds]; exact hc2
   unfold wpOp
   simp only [hoi,aT (g:=none) hf rfl hg,if_true]
   refine .inl (ub hcal hob ρ (fun s'=>dK cal anc kn ri (IM (anc.getD k []) T) s') r s act w H φ _ _ hB.sr hf hn hki fun s' v w' H' φ' h1 h2 h3 h4=>?_)
   have hpend:rl (act.put o.dst v) w' (IM (anc.getD k []) T) (X0 (anc.getD k []) TT):=by
    intro p hp'
    obtain ⟨hp1,hp2⟩:=Hk p hp'
    obtain ⟨q1,q2⟩:=hp p hp1
    rcases q2 with q2 | ⟨x,hx,w0,e⟩
    ·exact ⟨q2 w',.inl q2⟩
    ·have hxf:=TU hfr _ hx
     have hgd:(act.put o.dst v).tmps.getD x undef=act.tmps.getD x undef:=Qf (fun e=>hxf (by rw [e]; simp))
     refine ⟨?_,.inr ⟨x,M1 hx hp2,w0,by rw [hgd]; exact e⟩⟩
     have hun:=g_ hB.sr h2 h4.mem (hf x) (YT hc3 _ hx hp2)
     rw [e] at q1 ⊢
     intro b hb'
     rw [hun b hb']
     exact q1 b hb'
   exact ⟨fun p hp'=>(hpend p hp').1,ihi fuel [] [] B _ _ (L.setIfInBounds k true) _ s' _ w' H' φ' hbi (hls.set k) (fun f hf'=>by cases hf') List.nodup_nil (fun f hf'=>by cases hf') (by omega) (hsh.set hkL) (hshM.set hkM) (hB.trans h2) h3 (Is.trans hn) (HN.trans hde) hpend (fun f hf'=>by cases hf') (fun f hf'=>by cases hf') h1⟩
  ·subst e
   split at hoj
   case h_2=>cases hoj
   rename_i o hoi
   simp only [AE,decide_eq_true_eq] at hoj
   obtain ⟨⟨hg,hob⟩,hds⟩:=hoj
   split at hkj
   case isFalse=>cases hkj
   rename_i hc
   simp only [AE] at hc
   obtain ⟨hc2,hc3⟩:=hc
   have hfr:I5 o.dst.toList T=true:=by rw [hds]; exact hc2
   unfold wpOp
   simp only [hoi,aT (g:=none) hf rfl hg,if_true]
   refine .inl (ub hcal hob ρ (fun s'=>dK cal anc kn rj (IM (anc.getD k []) T) s') r s act w H φ _ _ hB.sr hf hn hkj fun s' v w' H' φ' h1 h2 h3 h4=>?_)
   have hpend:rl (act.put o.dst v) w' (IM (anc.getD k []) T) (X0 (anc.getD k []) TT):=by
    intro p hp'
    obtain ⟨hp1,hp2⟩:=Hk p hp'
    obtain ⟨q1,q2⟩:=hp p hp1
    rcases q2 with q2 | ⟨x,hx,w0,e⟩
    ·exact ⟨q2 w',.inl q2⟩
    ·have hxf:=TU hfr _ hx
     have hgd:(act.put o.dst v).tmps.getD x undef=act.tmps.getD x undef:=Qf (fun e=>hxf (by rw [e]; simp))
     refine ⟨?_,.inr ⟨x,M1 hx hp2,w0,by rw [hgd]; exact e⟩⟩
     have hun:=g_ hB.sr h2 h4.mem (hf x) (YT hc3 _ hx hp2)
     rw [e] at q1 ⊢
     intro b hb'
     rw [hun b hb']
     exact q1 b hb'
   exact ⟨fun p hp'=>(hpend p hp').1,ihj fuel [] [] B _ _ (L.setIfInBounds k true) _ s' _ w' H' φ' hbj (hls.set k) (fun f hf'=>by cases hf') List.nodup_nil (fun f hf'=>by cases hf') (by omega) (hsh.set hkL) (hshM.set hkM) (hB.trans h2) h3 (Is.trans hn) (HN.trans hde) hpend (fun f hf'=>by cases hf') (fun f hf'=>by cases hf') h1⟩
 | skip i g d rt ih =>
  intro fuel F S B T TT L M s act w H φ hb hls hS hnd hBd hfu hsh hshM hB hf hn hde hp hAn hpf hk
  simp only [uD,AE,EY] at hb
  obtain ⟨⟨⟨⟨hr,hfree⟩,hiF⟩,ho⟩,hb⟩:=hb
  split at ho
  case h_2=>cases ho
  rename_i o hoi
  simp only [AE,decide_eq_true_eq] at ho
  obtain ⟨⟨hg,rfl⟩,hdn⟩:=ho
  simp only [dK] at hk
  split at hk
  case isFalse=>cases hk
  rename_i hc
  simp only [AE] at hc
  have hri:i∈Region.ready .any ops L:=by simpa using hr
  have hiS:i∉S:=fun h=>by have:=(hS i h).1; rw [hiF] at this; cases this
  have hriM:i∈Region.ready .any ops M:=by
   obtain ⟨h1,o',h2,h3⟩:=mem_ready.1 hri
   exact mem_ready.2 ⟨by rw [hls.2,h1,B7.2 hiS]; rfl,o',h2,fun e he hbi=>by rw [hls.getF,h3 e he hbi]; rfl⟩
  have hfreeL:=Region.free_spec hoi hfree
  have hfreeM:∀ j oj,ops[j]? = some oj->j≠i->M.getD j true=false->(∀ e∈oj.after,Region.binds .any e=true->e.on≠i)->o.apart ops oj=true:=fun j oj h1 h2 h3 h4 =>
   hfreeL j oj h1 h2 (by rw [hls.2] at h3; simp only [Bool.or_eq_false_iff] at h3; exact h3.1) h4
  have hcnt:=hJ (mem_ready.1 hriM).1
  obtain ⟨fuel,rfl⟩:∃ k,fuel=k+1:=⟨fuel-1,by omega⟩
  refine mJ hA (C:=fun _=>True) hoi hsnd (fun c a w h=>h) fuel TT M act w hshM hfreeM hriM (.inr ⟨AAz hf hc.1 hg,rfl⟩) trivial (fun p hp'=>(hp p hp').1) ?_
  have hf2:HR H φ s.st (AAk o.dst .void s.fr) (act.put o.dst undef).tmps:=by
   cases hdst:o.dst with
   | none=>exact hf
   | some d =>
    rw [hdst] at hdn
    simp only [decide_eq_true_eq] at hdn
    exact hf.put (a:=.void) (v:=undef) (by omega) rfl
  have hAn':∀ (C:World->Prop),∀ f∈S,∀ p∈(i,C)::TT,CB (anc.getD f []) p.1=false:=fun C f hf' p hp'=>by
   rcases BF.1 hp' with rfl | hp'
   ·rw [B7]
    intro hm
    have:=Ta hA hsh f (Eh (hS f hf').2).1 (Eh (hS f hf').2).2 _ hm
    rw [F0 hri] at this
    cases this
   ·exact hAn f hf' p hp'
  refine ih fuel F S B T _ (L.setIfInBounds i true) _ ⟨AAk o.dst .void s.fr,s.st⟩ _ w H φ hb (hls.set i) (fun f hf'=>⟨(hS f hf').1,ready_mono (hS f hf').2 (fun e=>hiS (e▸hf'))⟩) hnd hBd (by omega) (hsh.set hri) (hshM.set hriM) hB hf2 (Is.trans hn) (HN.trans hde) ?_ (hAn' _) (fun f hf'=>?_) hk
  ·intro p hp'
   rcases BF.1 hp' with rfl | hp'
   ·exact ⟨trivial,.inl fun _=>trivial⟩
   ·exact (hp.put hc.2) p hp'
  ·refine (hpf f hf').put hsnd (fun of hof=>hfreeL f of hof (fun e=>hiS (e▸hf')) (mem_ready.1 (hS f hf').2).1 (fun e he hbi heq=>?_)) (fun _ h=>h)
   obtain ⟨_,o',h2,h3⟩:=mem_ready.1 (hS f hf').2
   rw [hof] at h2
   cases h2
   have:=h3 e he hbi
   rw [heq,F0 hri] at this
   cases this
 | take i g ao rt ih =>
  intro fuel F S B T TT L M s act w H φ hb hls hS hnd hBd hfu hsh hshM hB hf hn hde hp hAn hpf hk
  simp only [uD,AE,EY] at hb
  obtain ⟨⟨⟨⟨⟨hr,hfree⟩,hiF⟩,hval⟩,ho⟩,hb⟩:=hb
  split at ho
  case h_2=>cases ho
  rename_i o hoi
  simp only [AE,decide_eq_true_eq] at ho
  obtain ⟨⟨hg,hob⟩,hds⟩:=ho
  simp only [dK] at hk
  split at hk
  case isFalse=>cases hk
  rename_i hc
  simp only [AE] at hc
  obtain ⟨hc,hns⟩:=hc
  have hri:i∈Region.ready .any ops L:=by simpa using hr
  have hiS:i∉S:=fun h=>by have:=(hS i h).1; rw [hiF] at this; cases this
  have hriM:i∈Region.ready .any ops M:=by
   obtain ⟨h1,o',h2,h3⟩:=mem_ready.1 hri
   exact mem_ready.2 ⟨by rw [hls.2,h1,B7.2 hiS]; rfl,o',h2,fun e he hbi=>by rw [hls.getF,h3 e he hbi]; rfl⟩
  have hfreeL:=Region.free_spec hoi hfree
  have hfreeM:∀ j oj,ops[j]? = some oj->j≠i->M.getD j true=false->(∀ e∈oj.after,Region.binds .any e=true->e.on≠i)->o.apart ops oj=true:=fun j oj h1 h2 h3 h4 =>
   hfreeL j oj h1 h2 (by rw [hls.2] at h3; simp only [Bool.or_eq_false_iff] at h3; exact h3.1) h4
  have hcnt:=hJ (mem_ready.1 hriM).1
  obtain ⟨fuel,rfl⟩:∃ k,fuel=k+1:=⟨fuel-1,by omega⟩
  have info:∃ s' v H' φ',dK cal anc kn rt (ln i ao T) s'=some r/\Ak H φ s.st w H' φ' s'.st w/\HR H' φ' s'.st s'.fr (act.put o.dst v).tmps/\∀ w2,EN o act w w2->(execOp act.eval o).run P w2=.ok (.value v) w2:=by
   refine AFj (P:=P) (o:=o) (a:=act) (w:=w) (ub hcal hob ρ (fun s'=>dK cal anc kn rt (ln i ao T) s') r s act w H φ _ _ hB.sr hf hn hk fun s' v w' H' φ' h1 h2 h3 h4=>?_)
   obtain ⟨e,h5⟩:=h4.val hval
   subst e
   exact ⟨s',v,H',φ',h1,h2,h3,h5⟩
  obtain ⟨s',v,H',φ',hk',hst,hf',hrun⟩:=info
  refine mJ hA (C:=EN o act w) hoi hsnd (fun c a w h=>h) fuel TT M act w hshM hfreeM hriM (.inl ⟨aT hf hc.1 hg,hrun⟩) (EN.refl o act w) (fun p hp'=>(hp p hp').1) ?_
  have hfr:I5 o.dst.toList T=true:=by rw [hds]; exact hc.2
  have hAn':∀ (C:World->Prop),∀ f∈S,∀ p∈(i,C)::TT,CB (anc.getD f []) p.1=false:=fun C f hf' p hp'=>by
   rcases BF.1 hp' with rfl | hp'
   ·rw [B7]
    intro hm
    have:=Ta hA hsh f (Eh (hS f hf').2).1 (Eh (hS f hf').2).2 _ hm
    rw [F0 hri] at this
    cases this
   ·exact hAn f hf' p hp'
  refine ih fuel F S B _ _ (L.setIfInBounds i true) _ s' _ w H' φ' hb (hls.set i) (fun f hf'=>⟨(hS f hf').1,ready_mono (hS f hf').2 (fun e=>hiS (e▸hf'))⟩) hnd hBd (by omega) (hsh.set hri) (hshM.set hriM) (hB.trans hst) hf' (Is.trans hn) (HN.trans hde) ?_ (hAn' _) (fun f hfS=>?_) hk'
  ·intro p hp'
   rcases BF.1 hp' with rfl | hp'
   ·refine ⟨EN.refl o act w,?_⟩
    by_cases hload:∃ d x m,ao=.load d (.t x) m
    ·obtain ⟨d,x,m,rfl⟩:=hload
     simp only [uC] at hob
     obtain ⟨t,ht⟩:=AEI hob
     right
     have hxd:o.dst≠some x:=by
      have hd1:o.dst=some d:=by
       simp only [uP,AE] at hob
       exact (By hob.1).1
      rw [hd1]
      intro e
      cases e
      simp [Fw.notSelf] at hns
     refine ⟨x,by simp [ln],w,?_⟩
     funext w2
     simp only [EN,ht,Act.eval]
     rw [Qf hxd]
    ·left
     intro w2
     unfold EN
     split
     ·rename_i t y hop
      exfalso
      apply hload
      exact ADN hob hop hval hk
     ·trivial
   ·obtain ⟨h1,h2⟩:=(hp.put hfr) p hp'
    refine ⟨h1,?_⟩
    rcases h2 with h2 | ⟨x,hx,w0,e⟩
    ·exact .inl h2
    ·refine .inr ⟨x,?_,w0,e⟩
     unfold ln
     split
     ·exact List.mem_cons_of_mem _ hx
     ·exact hx
  ·refine (hpf f hfS).put hsnd (fun of hof=>hfreeL f of hof (fun e=>hiS (e▸hfS)) (mem_ready.1 (hS f hfS).2).1 (fun e he hbi heq=>?_)) (fun _ h=>h.step hst)
   obtain ⟨_,o',h2,h3⟩:=mem_ready.1 (hS f hfS).2
   rw [hof] at h2
   cases h2
   have:=h3 e he hbi
   rw [heq,F0 hri] at this
   cases this
 | only i g ao e fl rt ih =>
  intro fuel
  induction fuel using Nat.strongRecOn with
  | _ fuel ihf =>
  intro F S B T TT L M s act w H φ hb hls hS hnd hBd hfu hsh hshM hB hf hn hde hp hAn hpf hk
  have hb0:=hb
  have hk0:=hk
  simp only [uD,AE] at hb
  obtain ⟨⟨⟨⟨⟨⟨⟨hr,hrF⟩,hFs⟩,hFi⟩,hfl⟩,hap⟩,ho⟩,hb⟩:=hb
  split at ho
  case h_2=>cases ho
  rename_i o hoi
  simp only [AE,decide_eq_true_eq] at ho
  obtain ⟨⟨hg,hob⟩,hds⟩:=ho
  simp only [dK] at hk
  split at hk
  case isFalse=>cases hk
  rename_i hc
  simp only [AE] at hc
  obtain ⟨⟨⟨⟨⟨hc1,hc2⟩,hc3⟩,hc4⟩,hc6⟩,hc5⟩:=hc
  have hri:i∈Region.ready .any ops L:=by simpa using hr
  have hfr:I5 o.dst.toList T=true:=by rw [hds]; exact hc2
  have hanc:∀ k∈anc.getD i [],k≠i:=fun k hk e=>by
   have:=Ta hA hsh i (Eh hri).1 (Eh hri).2 k hk
   rw [e,F0 hri] at this
   cases this
  have hFsub:∀ f∈S,f=i\/f∈fl.map (·.1):=fun f hfS=>by
   have h1:=(hS f hfS).1
   have h2:=Bp.1 hFs f (EO.1 h1)
   simp only [Do,beq_iff_eq] at h2
   exact h2.imp id EO.1
  by_cases hiS:i∈S
  ·-- it came up before: now the boxes are told
   obtain ⟨oa,d,obj,q1,q2,q3,q4,q5,q6,q7⟩:=hpf i hiS
   rw [hoi] at q1
   cases q1
   have hfi:ao.isFloat=true:=by
    have h1:=(hS i hiS).1
    rw [h1] at hFi
    simp only [Bool.not_true,Bool.false_or,AE] at hFi
    exact hFi.2
   have hfk:ao.floatOk s=true:=by
    have h1:=(hS i hiS).1
    rw [h1] at hFi
    simp only [Bool.not_true,Bool.false_or,AE] at hFi
    rw [hFi.1] at hc5
    simpa using hc5
   obtain ⟨s',H',φ',hk',hst',hf',hoth⟩:=AEG hob hfi hfk hB hf hk q4 (fun d' hd'=>by rw [q2] at hd'; cases hd'; exact q5) q6 q7
   obtain ⟨S1,S2,rfl⟩:=List.append_of_mem hiS
   have hnd2:i∉S1++S2/\(S1++S2).Nodup:=by
    rw [List.nodup_append] at hnd
    obtain ⟨n1,n2,n3⟩:=hnd
    rw [List.nodup_cons] at n2
    refine ⟨fun h=>?_,?_⟩
    ·rcases CV.1 h with h | h
     ·exact n3 i h i (by simp) rfl
     ·exact n2.1 h
    ·rw [List.nodup_append]
     exact ⟨n1,n2.2,fun a ha b hb=>n3 a ha b (by simp [hb])⟩
   have hsub:∀ f∈S1++S2,f∈S1++i::S2:=fun f h=>by
    rcases CV.1 h with h | h
    ·simp [h]
    ·simp [h]
   refine ih fuel (fl.map (·.1)) (S1++S2) B _ _ (L.setIfInBounds i true) M s' act w H' φ' hb hls.adopt (fun f hf'=>?_) hnd2.2 (fun f hf' g hg'=>hBd f (hsub f hf') g (hsub g hg')) hfu (hsh.set hri) hshM hst' hf' hn hde ?_ (fun f hf'=>hAn f (hsub f hf')) (fun f hf'=>?_) hk'
   ·have hne:f≠i:=fun e=>hnd2.1 (e▸hf')
    refine ⟨EO.2 ((hFsub f (hsub f hf')).resolve_left hne),ready_mono (hS f (hsub f hf')).2 hne⟩
   ·intro p hp'
    obtain ⟨h1,h2⟩:=hp p hp'
    refine ⟨h1,?_⟩
    rcases h2 with h2 | ⟨x,hx,w0,e⟩
    ·exact .inl h2
    ·exact .inr ⟨x,M1 hx (hAn i hiS p hp'),w0,e⟩
   ·obtain ⟨o2,d2,obj2,p1,p2,p3,p4,p5,p6,p7⟩:=hpf f (hsub f hf')
    have hne:f≠i:=fun e=>hnd2.1 (e▸hf')
    exact ⟨o2,d2,obj2,p1,p2,p3,p4,p5,hoth _ _ (hBd f (hsub f hf') i hiS hne) p6,p7⟩
  ·have hriM:i∈Region.ready .any ops M:=by
    obtain ⟨h1,o',h2,h3⟩:=mem_ready.1 hri
    exact mem_ready.2 ⟨by rw [hls.2,h1,B7.2 hiS]; rfl,o',h2,fun e he hbi=>by rw [hls.getF,h3 e he hbi]; rfl⟩
   have hcnt:=hJ (mem_ready.1 hriM).1
   obtain ⟨fuel,rfl⟩:∃ k,fuel=k+1:=⟨fuel-1,by omega⟩
   have hSfl:∀ f∈S,f∈fl.map (·.1):=fun f hf'=>(hFsub f hf').resolve_left (fun e=>hiS (e▸hf'))
   refine ⟨fun h=>(by rw [h] at hriM; cases hriM),fun j hj=>?_⟩
   have hcj:=hJ (mem_ready.1 hj).1
   by_cases hji:j=i
   ·subst hji
    unfold wpOp
    simp only [hoi,aT hf hc1 hg,if_true]
    refine .inl (ub hcal hob ρ (fun s'=>dK cal anc kn rt (IM (anc.getD j []) T) s') r s act w H φ _ _ hB.sr hf hn hk fun s' v w' H' φ' h1 h2 h3 h4=>?_)
    have hpend:rl (act.put o.dst v) w' (IM (anc.getD j []) T) (X0 (anc.getD j []) TT):=by
     intro p hp'
     obtain ⟨hp1,hp2⟩:=Hk p hp'
     obtain ⟨q1,q2⟩:=hp p hp1
     rcases q2 with q2 | ⟨x,hx,w0,e⟩
     ·exact ⟨q2 w',.inl q2⟩
     ·have hxf:=TU hfr _ hx
      have hgd:(act.put o.dst v).tmps.getD x undef=act.tmps.getD x undef:=Qf (fun e=>hxf (by rw [e]; simp))
      refine ⟨?_,.inr ⟨x,M1 hx hp2,w0,by rw [hgd]; exact e⟩⟩
      have hun:=g_ hB.sr h2 h4.mem (hf x) (YT hc3 _ hx hp2)
      rw [e] at q1 ⊢
      intro b hb'
      rw [hun b hb']
      exact q1 b hb'
    refine ⟨fun p hp'=>(hpend p hp').1,ih fuel (fl.map (·.1)) S B _ _ (L.setIfInBounds j true) _ s' _ w' H' φ' hb (hls.set j) (fun f hf'=>⟨EO.2 (hSfl f hf'),ready_mono (hS f hf').2 (fun e=>hiS (e▸hf'))⟩) hnd hBd (by omega) (hsh.set hri) (hshM.set hj) (hB.trans h2) h3 (Is.trans hn) (HN.trans hde) hpend (fun f hf' p hp'=>hAn f hf' p (Hk p hp').1) (fun f hf'=>?_) h1⟩
    obtain ⟨a,b,k1,k2,k3⟩:=eC hap j (by simp) f (List.mem_cons_of_mem _ (hSfl f hf')) (fun e=>hiS (e▸hf'))
    rw [hoi] at k1
    cases k1
    exact (hpf f hf').put hsnd (fun of hof=>by rw [k2] at hof; cases hof; exact k3) (fun _ h=>h.step h2)
   ·-- one that comes up ahead of its turn
    have hjS:j∉S:=fun h=>by
     have h1:=(mem_ready.1 hj).1
     rw [hls.2,EO.2 h] at h1
     simp at h1
    have hjfl:j∈fl.map (·.1):=by
     rcases Classical.em (j∈fl.map (·.1)) with h | h
     ·exact h
     ·exfalso
      obtain ⟨h1,o',h2,h3⟩:=mem_ready.1 hj
      have hLF:=AFk L (fl.map (·.1))
      have hrd:j∈Region.ready .any ops (ADM L (fl.map (·.1))):=by
       refine mem_ready.2 ⟨?_,o',h2,fun e he hbi=>?_⟩
       ·rw [hLF.2,B7.2 h]
        rw [hls.2] at h1
        simp only [Bool.or_eq_false_iff] at h1
        rw [h1.1]
        rfl
       ·have:=h3 e he hbi
        rw [jg] at this ⊢
        simp only [AE,decide_eq_true_eq] at this ⊢
        refine ⟨?_,by rw [hLF.1,<- hls.1]; exact this.2⟩
        rw [hLF.2]
        have h4:=this.1
        rw [hls.2] at h4
        simp only [Do] at h4 ⊢
        exact h4.imp id fun h5=>EO.2 (hSfl _ (EO.1 h5))
      have:=Bp.1 hrF j hrd
      simp only [beq_iff_eq] at this
      exact hji this
    obtain ⟨⟨j',aj⟩,hjm,hje⟩:=List.mem_map.1 hjfl
    simp only at hje
    subst hje
    have hfb:=Bp.1 hfl _ hjm
    obtain ⟨k1,k2,k3⟩:=mK hc4 _ hjm
    have hpk:=Bp.1 hc6 _ hjm
    simp only [ABv,AE] at hfb
    obtain ⟨⟨hjr,hjfl2⟩,hfb⟩:=hfb
    split at hfb
    case h_2=>cases hfb
    rename_i oj hoj
    simp only [AE,decide_eq_true_eq] at hfb
    obtain ⟨⟨⟨hjob,hjds⟩,hjg⟩,hjd⟩:=hfb
    split at hjd
    case h_2=>cases hjd
    rename_i d hdd
    simp only [AE,EY,decide_eq_true_eq] at hjd
    have hjL:j'∈Region.ready .any ops L:=by simpa using hjr
    obtain ⟨obj,hborn⟩:=AFi hjob hjfl2 k1 hB.sr hf
    have hst:Ak H φ s.st w H φ s.st (w.alloc obj):=Ak.grow hB.sr (World.grownBy_alloc w obj none)
    have hfrj:I5 oj.dst.toList T=true:=by rw [hjds]; exact k3
    have hund:GS s.fr d=.undef:=by
     rw [<- hjds,hdd] at k2
     simp only [Option.toList_some,lq,Bool.and_true] at k2
     split at k2
     ·rename_i h; exact h
     ·cases k2
    have hf2:HR H φ s.st s.fr (act.put oj.dst (re oj.op w.heap.size)).tmps:=by
     intro t
     by_cases ht:t=d
     ·subst ht
      rw [hund]
      trivial
     ·rw [Qf (fun e=>ht (by rw [hdd] at e; cases e; rfl))]
      exact hf t
    have hpend:rl (act.put oj.dst (re oj.op w.heap.size)) (w.alloc obj) T (X0 (anc.getD j' []) TT):=by
     intro p hp'
     obtain ⟨hp1,hp2⟩:=Hk p hp'
     obtain ⟨q1,q2⟩:=hp p hp1
     rcases q2 with q2 | ⟨x,hx,w0,e⟩
     ·exact ⟨q2 _,.inl q2⟩
     ·have hxf:=TU hfrj _ hx
      have hgd:(act.put oj.dst (re oj.op w.heap.size)).tmps.getD x undef=act.tmps.getD x undef:=Qf (fun e=>hxf (by rw [e]; simp))
      refine ⟨?_,.inr ⟨x,hx,w0,by rw [hgd]; exact e⟩⟩
      have hun:=g_ hB.sr hst (xf.grown (W:=[]) hB.sr (World.grownBy_alloc w obj none)) (hf x) (YT hpk _ hx hp2)
      rw [e] at q1 ⊢
      intro b hb'
      rw [hun b hb']
      exact q1 b hb'
    have hiff:∀ f∈S,f≠j':=fun f hf' e=>hjS (e▸hf')
    unfold wpOp
    simp only [hoj,TZ (o:=oj) (Option.isNone_iff_eq_none.1 hjg) trivial,if_true]
    refine .inl (l8 (hborn w) ⟨fun p hp'=>(hpend p hp').1,?_⟩)
    have hbF:uD P n ops (.only i g ao e fl rt) L (fl.map (·.1))=true:=by
     have hni:CB (fl.map (·.1)) i=false:=by
      have:=hap
      simp only [YS,AE,EY] at this
      exact this.1.1
     simp only [uD,AE] at hb0 ⊢
     obtain ⟨⟨⟨⟨⟨⟨⟨z1,z2⟩,_⟩,_⟩,z5⟩,z6⟩,z7⟩,z8⟩:=hb0
     exact ⟨⟨⟨⟨⟨⟨⟨z1,z2⟩,Bp.2 fun f hf'=>by simp [EO.2 hf']⟩,by rw [hni]; rfl⟩,z5⟩,z6⟩,z7⟩,z8⟩
    refine ihf fuel (by omega) (fl.map (·.1)) (j'::S) (fun f=>if f=j' then w.heap.size else B f) T _ L _ s _ (w.alloc obj) H φ hbF (hls.early j') ?_ (List.nodup_cons.2 ⟨hjS,hnd⟩) ?_ (by omega) hsh (hshM.set hj) (hB.trans hst) hf2 (Is.trans hn) (HN.trans hde) hpend ?_ ?_ hk0
    ·intro f hf'
     rcases BF.1 hf' with rfl | hf'
     ·exact ⟨EO.2 hjfl,hjL⟩
     ·exact ⟨EO.2 (hSfl f hf'),(hS f hf').2⟩
    ·have hlt:∀ f∈S,B f<w.heap.size:=fun f hf'=>by
      obtain ⟨_,_,_,_,_,_,_,_,h6,_⟩:=hpf f hf'
      exact h6.lt
     intro f hf' g hg' hne
     rcases BF.1 hf' with e1 | hf'
     ·rcases BF.1 hg' with e2 | hg'
      ·exact absurd (e1.trans e2.symm) hne
      ·rw [if_pos e1,if_neg (hiff g hg')]
       have:=hlt g hg'
       omega
     ·rcases BF.1 hg' with e2 | hg'
      ·rw [if_pos e2,if_neg (hiff f hf')]
       have:=hlt f hf'
       omega
      ·rw [if_neg (hiff f hf'),if_neg (hiff g hg')]
       exact hBd f hf' g hg' hne
    ·intro f hf' p hp'
     rcases BF.1 hf' with rfl | hf'
     ·exact (Hk p hp').2
     ·exact hAn f hf' p (Hk p hp').1
    ·intro f hf'
     rcases BF.1 hf' with e1 | hf'
     ·subst e1
      rw [if_pos rfl]
      refine ⟨oj,d,obj,hoj,hdd,by rw [Is,hn]; exact hjd.2,fun w2=>?_,?_,je.alloc hB.sr obj,hB.size⟩
      ·rw [execOp_put oj (fun cs b=>hsnd f oj cs b hoj) act oj.dst _ (ops:=ops) (fun d' hd'=>by
        rw [hdd] at hd'
        cases hd'
        intro hm
        have:=hjd.1
        rw [List.contains_eq_mem,decide_eq_true hm] at this
        cases this)]
       exact hborn w2
      ·rw [YN hdd,Array.getD_eq_getD_getElem?]
       simp [hn,hjd.2]
     ·rw [if_neg (hiff f hf')]
      obtain ⟨a,b,q1,q2,q3⟩:=eC hap j' (List.mem_cons_of_mem _ hjfl) f (List.mem_cons_of_mem _ (hSfl f hf')) (fun e=>hiff f hf' e.symm)
      rw [hoj] at q1
      cases q1
      exact (hpf f hf').put hsnd (fun of hof=>by rw [q2] at hof; cases hof; exact q3) (fun _ h=>h.step hst)
theorem AFm {n:Nat} {id:Nat} {ops:Array Oper} {anc:List (List Nat)} {t:DT} {cal:Gi} (hcal:J6 P cal) (h:ACa P n ops anc t=true) {ρ:Type} {kn:St->Option ρ} {r:ρ} {s:St} {act:Act} {w:World} {H:HP} {φ:CQ} {Q:Exit->Act->World->Prop}
  (hs:SR H φ s.st w) (hf:HR H φ s.st s.fr act.tmps) (hn:act.tmps.size=n) (hk:dK cal anc kn t [] s=some r)
  (hN:∀ s' act' w' H' φ',kn s'=some r->Ak H φ s.st w H' φ' s'.st w'->HR H' φ' s'.st s'.fr act'.tmps->act'.tmps.size=n->act'.defers=act.defers->Q .normal act' w'):(Code.region id ops true).wp P Q act w:=by
 simp only [ACa,AE] at h
 obtain ⟨⟨⟨hm,hsel⟩,hA⟩,hb⟩:=h
 have hst:Ak H φ s.st w H φ s.st { w with drawn:=w.drawn+1 }:=Ak.grow hs ⟨rfl,rfl,rfl,Nat.le_refl _,fun _ _ _=>rfl⟩
 refine wp_mono (wp_region_any hm (Q:=fun e a w=>match e with | .normal=>Q .normal a w | _=>False) (ug (anc:=fun i=>anc.getD i []) ops.size [] _ act _ ?_)) fun e a w h=>by cases e<;>first | exact h | exact h.elim
 have hsh:xi ops (Array.replicate ops.size false):=by
  intro k o hk' _ _ _ _
  simp [Array.getElem?_replicate] at hk'
  split at hk'<;>simp at hk'
 exact AHT (ab:=act) (N:=fun a w=>Q .normal a w) hcal hA hsel (fun s' act' w' H' φ' h1 h2 h3 h4 h5=>hN s' act' w' H' φ' h1 h2 h3 h4 h5) t ops.size [] [] (fun _=>0) [] [] (Array.replicate ops.size false) _ s act _ H φ hb (LS.refl _)
  (fun f hf=>by cases hf) List.nodup_nil (fun f hf=>by cases hf) (by simp [AFl]) hsh hsh hst hf hn rfl (fun p hp=>by cases hp) (fun f hf=>by cases hf) (fun f hf=>by cases hf) hk
def bH:List Nat->Nat
 | []=>0
 | i::r=>Nat.lor (Nat.shiftLeft 1 i) (bH r)
def AEJ (ops:Array Oper):List Nat:=ops.toList.map fun o=>bH ((o.after.filter fun e=>Region.binds .any e).toList.map (·.on))
def AGw (m i:Nat):Bool:=Nat.beq (Nat.land (Nat.shiftRight m i) 1) 1
def Rb (pm:List Nat) (m i:Nat):Bool :=
 match pm[i]? with
 | some p=>!AGw m i&&Nat.beq (Nat.land p m) p
 | none=>false
def ACc (ops:Array Oper) (anc:List (List Nat)) (i:Nat):Bool :=
 match ops[i]? with
 | none=>false
 | some oi=>(List.range ops.size).all fun j=>j==i||CB (anc.getD i []) j||match ops[j]? with
   | some oj=>oj.after.any (fun e=>Region.binds .any e&&e.on==i)||oi.apart ops oj
   | none=>true
def ABw (P:Program) (n:Nat) (ops:Array Oper) (pm:List Nat) (m:Nat) (f:Nat×Fw):Bool :=
 Rb pm m f.1&&f.2.isFloat&&(match ops[f.1]? with
  | some o=>uC P n o f.2&&decide (o.dst.toList=f.2.dsts)&&o.guard.isNone&&(match o.dst with
   | some d=>!(o.looksAt ops).contains d&&decide (d<n)
   | none=>false)
  | none=>false)
def dtF (P:Program) (n:Nat) (ops:Array Oper) (anc:List (List Nat)) (pm:List Nat):DT->Array Bool->Nat->List Nat->Bool
 | .done,_,m,F=>(List.range ops.size).all (fun i=>!Rb pm m i)&&F.isEmpty
 | .take i g ao r,L,m,F=>Rb pm m i&&(ACc ops anc i||Region.free .any ops L i)&&!CB F i&&ao.isVal&&(match ops[i]? with
   | some o=>gB ops o g&&uC P n o ao&&decide (o.dst.toList=ao.dsts)
   | none=>false)&&dtF P n ops anc pm r (L.setIfInBounds i true) (Nat.lor m (Nat.shiftLeft 1 i)) F
 | .skip i g d r,L,m,F=>Rb pm m i&&(ACc ops anc i||Region.free .any ops L i)&&!CB F i&&(match ops[i]? with
   | some o=>gB ops o (some g)&&decide (o.dst=d)&&(match d with | some d=>decide (d<n) | none=>true)
   | none=>false)&&dtF P n ops anc pm r (L.setIfInBounds i true) (Nat.lor m (Nat.shiftLeft 1 i)) F
 | .only i g ao e fl r,L,m,F=>Rb pm m i&&(List.range ops.size).all (fun k=>k==i||!Rb pm (Nat.lor m (bH (fl.map (·.1)))) k)&&F.all (fun f=>f==i||CB (fl.map (·.1)) f)&&(!CB F i||(e&&ao.isFloat))
   && fl.all (ABw P n ops pm m)&&YS ops (i::fl.map (·.1))&&(match ops[i]? with
   | some o=>gB ops o g&&uC P n o ao&&decide (o.dst.toList=ao.dsts)
   | none=>false)&&dtF P n ops anc pm r (L.setIfInBounds i true) (Nat.lor m (Nat.shiftLeft 1 i)) (fl.map (·.1))
 | .test _ a b,L,m,F=>dtF P n ops anc pm a L m F&&dtF P n ops anc pm b L m F
 | .fork i ai ri j aj rj,L,m,F=>F.isEmpty&&(Rb pm m i&&Rb pm m j)&&(List.range ops.size).all (fun k=>(k==i||k==j)||!Rb pm m k)
   && (match ops[i]? with
   | some o=>gB ops o none&&uC P n o ai&&decide (o.dst.toList=ai.dsts)
   | none=>false)&&(match ops[j]? with
   | some o=>gB ops o none&&uC P n o aj&&decide (o.dst.toList=aj.dsts)
   | none=>false)&&dtF P n ops anc pm ri (L.setIfInBounds i true) (Nat.lor m (Nat.shiftLeft 1 i)) []&&dtF P n ops anc pm rj (L.setIfInBounds j true) (Nat.lor m (Nat.shiftLeft 1 j)) []
def AEK (P:Program) (n:Nat) (ops:Array Oper) (anc:List (List Nat)) (t:DT):Bool :=
 P.follows .mixedOrders&&Region.noSelect ops&&ABu ops anc&&dtF P n ops anc (AEJ ops) t (Array.replicate ops.size false) 0 []
theorem AFo (m i:Nat):AGw m i=m.testBit i:=by
 have h:Nat.land (Nat.shiftRight m i) 1=(m >>> i) &&& 1:=rfl
 unfold AGw
 rw [h,Nat.testBit,Nat.and_comm,Nat.one_and_eq_mod_two]
 have:=Nat.mod_two_eq_zero_or_one (m >>> i)
 rcases this with e | e<;>rw [e]<;>rfl
theorem AFp (m i j:Nat):(Nat.lor m (Nat.shiftLeft 1 i)).testBit j=(m.testBit j||decide (i=j)):=by
 have h:Nat.lor m (Nat.shiftLeft 1 i)=m ||| (1 <<< i):=rfl
 rw [h,Nat.testBit_or,Nat.one_shiftLeft,Nat.testBit_two_pow]
theorem yp (j:Nat):∀ l:List Nat,(bH l).testBit j=decide (j∈l)
 | []=>by simp [bH]
 | i::r=>by
  have h:bH (i::r)=(1 <<< i) ||| bH r:=rfl
  rw [h,Nat.testBit_or,Nat.one_shiftLeft,Nat.testBit_two_pow,yp j r]
  by_cases e:i=j
  ·subst e; simp
  ·simp [e,Ne.symm e]
theorem AEL (p m:Nat):Nat.beq (Nat.land p m) p=true↔∀ j,p.testBit j=true->m.testBit j=true:=by
 have h:Nat.land p m=p &&& m:=rfl
 rw [Nat.beq_eq,h]
 constructor
 ·intro e j hj
  have:=congrArg (fun x=>Nat.testBit x j) e
  simp only [Nat.testBit_and,hj,Bool.true_and] at this
  exact this
 ·intro e
  refine Nat.eq_of_testBit_eq fun j=>?_
  rw [Nat.testBit_and]
  cases hj:p.testBit j with
  | false=>rfl
  | true=>rw [e j hj]; rfl
def LM (ops:Array Oper) (L:Array Bool) (m:Nat):Prop:=L.size=ops.size/\∀ j,L.getD j false=m.testBit j
theorem HO {ops:Array Oper} {L:Array Bool} {m:Nat} (h:LM ops L m) (i:Nat):Rb (AEJ ops) m i=true↔i∈Region.ready .any ops L:=by
 unfold Rb AEJ
 rw [mem_ready,Cd,Array.getElem?_toList]
 cases ho:ops[i]? with
 | none=>simp
 | some o =>
  have hi:i<ops.size:=(Array.getElem?_eq_some_iff.1 ho).1
  have h0:L.getD i true=L.getD i false:=by simp [Array.getD,h.1,hi]
  simp only [Option.map_some,AE,EY,AEL,yp,decide_eq_true_eq,List.mem_map,Array.mem_toList_iff,Array.mem_filter,BT,exists_eq_left',AFo,h0,h.2]
  constructor
  ·rintro ⟨a,b⟩
   exact ⟨a,fun e he hb=>b e.on ⟨e,⟨he,hb⟩,rfl⟩⟩
  ·rintro ⟨a,b⟩
   refine ⟨a,?_⟩
   rintro j ⟨e,⟨he,hb⟩,rfl⟩
   exact b e he hb
theorem LM.set {ops:Array Oper} {L:Array Bool} {m i:Nat} (h:LM ops L m) (hi:i<ops.size):LM ops (L.setIfInBounds i true) (Nat.lor m (Nat.shiftLeft 1 i)):=by
 refine ⟨by rw [Array.size_setIfInBounds]; exact h.1,fun j=>?_⟩
 rw [AFp,<- h.2 j]
 by_cases e:i=j
 ·subst e
  simp [Array.getD,h.1,hi]
 ·rw [getD_set_ne false e]; simp [e]
theorem LM.add {ops:Array Oper}:∀ (fl:List Nat) {L:Array Bool} {m:Nat},LM ops L m->(∀ f∈fl,f<ops.size)->LM ops (ADM L fl) (Nat.lor m (bH fl))
 | [],L,m,h,_=>by
  have e:Nat.lor m (bH [])=m ||| 0:=rfl
  rw [e,Nat.or_zero]
  exact h
 | i::r,L,m,h,hl=>by
  have:=LM.add r (h.set (hl i (by simp))) fun f hf=>hl f (List.mem_cons_of_mem _ hf)
  have e:Nat.lor m (bH (i::r))=Nat.lor (Nat.lor m (Nat.shiftLeft 1 i)) (bH r):=(Nat.or_assoc m (1 <<< i) (bH r)).symm
  rw [e]
  exact this
theorem NR {ops:Array Oper} {L:Array Bool} {i:Nat} (h:i∈Region.ready .any ops L):i<ops.size:=(Eh h).2
theorem ACd {ops:Array Oper} {anc:List (List Nat)} (hA:ABu ops anc=true) {L:Array Bool} (hs:xi ops L) {i:Nat} (hr:i∈Region.ready .any ops L) (h:ACc ops anc i=true):Region.free .any ops L i=true:=by
 unfold ACc at h
 unfold Region.free
 split at h
 ·cases h
 ·rename_i oi hi
  rw [hi]
  simp only
  rw [Bp] at h ⊢
  intro j hj
  have h1:=h j hj
  simp only [Do] at h1 ⊢
  rcases h1 with (h1 | h1) | h1
  ·exact .inl (.inl h1)
  ·have:=Ta hA hs i (Eh hr).1 (Eh hr).2 j (EO.1 h1)
   exact .inl (.inr (by
    have hl:j<L.size:=by
     rcases CF j L.size with q | q
     ·exact q
     ·simp [Array.getD,Nat.not_lt.2 q] at this
    simp [Array.getD,hl] at this ⊢
    exact this))
  ·exact .inr h1
theorem AHU {P:Program} {n:Nat} {ops:Array Oper} {anc:List (List Nat)} (hA:ABu ops anc=true):∀ (t:DT) (L:Array Bool) (m:Nat) (F:List Nat),LM ops L m->xi ops L->dtF P n ops anc (AEJ ops) t L m F=true->uD P n ops t L F=true:=by
 intro t
 induction t with
 | done =>
  intro L m F hL _ h
  simp only [dtF,uD,AE,List.isEmpty_iff] at h ⊢
  refine ⟨?_,h.2⟩
  rw [List.eq_nil_iff_forall_not_mem]
  intro j hj
  have:=Bp.1 h.1 j (List.mem_range.2 (NR hj))
  rw [(HO hL j).2 hj] at this
  cases this
 | test c a b iha ihb =>
  intro L m F hL hs h
  simp only [dtF,uD,AE] at h ⊢
  exact ⟨iha _ _ _ hL hs h.1,ihb _ _ _ hL hs h.2⟩
 | take i g ao r ih =>
  intro L m F hL hs h
  simp only [dtF,uD,AE] at h ⊢
  obtain ⟨⟨⟨⟨⟨h1,h2⟩,h3⟩,h4⟩,h5⟩,h6⟩:=h
  have hr:=(HO hL i).1 h1
  refine ⟨⟨⟨⟨⟨by simpa using hr,?_⟩,h3⟩,h4⟩,h5⟩,ih _ _ _ (hL.set (NR hr)) (hs.set hr) h6⟩
  rcases Do _ _▸h2 with q | q
  ·exact ACd hA hs hr q
  ·exact q
 | skip i g d r ih =>
  intro L m F hL hs h
  simp only [dtF,uD,AE] at h ⊢
  obtain ⟨⟨⟨⟨h1,h2⟩,h3⟩,h5⟩,h6⟩:=h
  have hr:=(HO hL i).1 h1
  refine ⟨⟨⟨⟨by simpa using hr,?_⟩,h3⟩,h5⟩,ih _ _ _ (hL.set (NR hr)) (hs.set hr) h6⟩
  rcases Do _ _▸h2 with q | q
  ·exact ACd hA hs hr q
  ·exact q
 | only i g ao e fl r ih =>
  intro L m F hL hs h
  simp only [dtF,uD,AE] at h ⊢
  obtain ⟨⟨⟨⟨⟨⟨⟨h1,h2⟩,h3⟩,h4⟩,h5⟩,h6⟩,h7⟩,h8⟩:=h
  have hr:=(HO hL i).1 h1
  have hfl:∀ f∈fl,Rb (AEJ ops) m f.1=true:=fun f hf=>by
   have:=Bp.1 h5 f hf
   simp only [ABw,AE] at this
   exact this.1.1
  have hL2:=LM.add (fl.map (·.1)) hL fun f hf=>by
   obtain ⟨g,hg,rfl⟩:=List.mem_map.1 hf
   exact NR ((HO hL g.1).1 (hfl g hg))
  refine ⟨⟨⟨⟨⟨⟨⟨by simpa using hr,?_⟩,h3⟩,h4⟩,?_⟩,h6⟩,h7⟩,ih _ _ _ (hL.set (NR hr)) (hs.set hr) h8⟩
  ·rw [Bp]
   intro k hk
   have:=Bp.1 h2 k (List.mem_range.2 (NR hk))
   rw [(HO hL2 k).2 hk] at this
   simpa using this
  ·rw [Bp]
   intro f hf
   have h9:=Bp.1 h5 f hf
   unfold ABw at h9
   unfold ABv
   rw [hfl f hf] at h9
   have h10:(Region.ready .any ops L).contains f.1=true:=by simpa using (HO hL f.1).1 (hfl f hf)
   rw [h10]
   exact h9
 | fork i ai ri j aj rj ihi ihj =>
  intro L m F hL hs h
  simp only [dtF,uD,AE] at h ⊢
  obtain ⟨⟨⟨⟨⟨⟨h0,h1⟩,h2⟩,h3⟩,h4⟩,h5⟩,h6⟩:=h
  have hr:=(HO hL i).1 h1.1
  have hr2:=(HO hL j).1 h1.2
  have hall:(Region.ready .any ops L).all (fun k=>k==i||k==j)=true:=by
   rw [Bp]
   intro k hk
   have:=Bp.1 h2 k (List.mem_range.2 (NR hk))
   rw [(HO hL k).2 hk] at this
   simpa using this
  exact ⟨⟨⟨⟨⟨⟨h0,by simpa using hr⟩,hall⟩,h3⟩,h4⟩,ihi _ _ _ (hL.set (NR hr)) (hs.set hr) h5⟩,ihj _ _ _ (hL.set (NR hr2)) (hs.set hr2) h6⟩
theorem AEM {P:Program} {n:Nat} {ops:Array Oper} {anc:List (List Nat)} {t:DT} (h:AEK P n ops anc t=true):ACa P n ops anc t=true:=by
 simp only [AEK,ACa,AE] at h ⊢
 refine ⟨h.1,AHU h.1.2 t _ 0 [] ⟨by simp,fun j=>?_⟩ ?_ h.2⟩
 ·rw [Nat.zero_testBit]
  simp [Array.getD]
 ·intro k o hk' _ _ _ _
  simp [Array.getElem?_replicate] at hk'
  split at hk'<;>simp at hk'

theorem ADO {st:List AX} {N k:Nat} {cs:List AV} (h:(st.map (AX.older N))[k]? = some (.var cs)) {o i:Nat} (ho:cs[o]? = some (.row i)):i<N:=by
 rw [Cd] at h
 cases hb:st[k]? with
 | none=>rw [hb] at h; cases h
 | some b =>
  rw [hb] at h
  cases b with
  | var cs0 =>
   cases h
   rw [Cd] at ho
   cases hc:cs0[o]? with
   | none=>rw [hc] at ho; cases ho
   | some c =>
    rw [hc] at ho
    simp only [Option.map_some,BT] at ho
    cases c<;>simp only [AV.olderC] at ho<;>try cases ho
    split at ho
    ·rename_i hn
     cases ho
     exact hn
    ·cases ho
  | _=>cases h
theorem SR.cut {H:HP} {φ:CQ} {st:List AX} {w:World} (h:SR H φ st w) (N:Nat):SR H φ ((st.take N).map (AX.older N)) w:=by
 have h2:=h.older N
 rw [List.map_take]
 have get:∀ (i:Nat) (b:AX),((st.map (AX.older N)).take N)[i]? = some b->(st.map (AX.older N))[i]? = some b:=by
  intro i b hi
  rw [CA] at hi
  split at hi
  ·exact hi
  ·cases hi
 refine ⟨h2.hp,fun i b hi=>h2.box i b (get i b hi),fun i j bi bj hi hj=>h2.sep i j bi bj (get i bi hi) (get j bj hj),fun i bi hi=>h2.out i bi (get i bi hi),fun id cs hid o i ho=>?_,h2.tb⟩
 obtain ⟨h3,h4⟩:=h2.cell id cs (get id _ hid) o i ho
 have hi:=ADO (get id _ hid) ho
 refine ⟨?_,h4⟩
 unfold AQ at h3 ⊢
 rw [CA,if_pos hi]
 exact h3
theorem Ak.cut {H H':HP} {φ φ':CQ} {st st':List AX} {w w':World} (h:Ak H φ st w H' φ' st' w') {N:Nat} (hN:st.length<=N):Ak H φ st w H' φ' ((st'.take N).map (AX.older N)) w':=by
 refine ⟨h.le,h.sr.cut N,fun mv m0 H0 φ0 w0 f=>?_⟩
 have f2:=h.fr mv m0 H0 φ0 w0 f
 refine { f2 with new:=fun i bi hbi hl b hb=>?_,vars:=fun j hj=>?_ }
 ·rw [Cd,CA] at hbi
  split at hbi
  ·cases hb0:st'[i]? with
   | none=>rw [hb0] at hbi; cases hbi
   | some b0 =>
    rw [hb0] at hbi
    cases hbi
    exact f2.new i b0 hb0 (by cases b0<;>exact hl) b hb
  ·cases hbi
 ·have h1:=TR (f.vars j hj)
  have h2:=f2.vars j hj
  rw [HM (Ra N)]
  unfold Ae at h2 ⊢
  rw [CA,if_pos (by omega)]
  exact h2
theorem HR.cut {H:HP} {φ:CQ} {st:List AX} {fr:List (Nat×AV)} {tmps:Array Value} (h:HR H φ st fr tmps) (live:List Nat) (N:Nat) :
  HR H φ ((st.take N).map (AX.older N)) (live.map fun t=>(t,(GS fr t).older N)) tmps:=by
 intro t
 rcases yf fr (fun a=>a.older N) live t with e | e
 ·rw [e]; trivial
 ·rw [e]; exact (h t).older N
theorem AA1 {s s':St} {i:Nat} {v a:AV} {ids:List Nat} (h:s.intoRow i v=some (a,s',ids)):s'.st.length=s.st.length:=by
 unfold St.intoRow at h
 split at h
 ·split at h
  ·cases h; rfl
  ·split at h
   ·split at h
    ·cases h; simp
    ·cases h
   ·cases h
 ·split at h
  ·cases h; simp
  ·cases h
 ·cases h
theorem AFq {H:HP} {φ:CQ} {s:St} {w:World} {tmps:Array Value} (hs:SR H φ s.st w) (hf:HR H φ s.st s.fr tmps) (n t i:Nat) :
  ∃ φ',Ak H φ s.st w H φ' (s.home n t i).st w/\HR H φ' (s.home n t i).st (s.home n t i).fr tmps/\(s.home n t i).st.length=s.st.length:=by
 have same:∃ φ',Ak H φ s.st w H φ' s.st w/\HR H φ' s.st s.fr tmps/\s.st.length=s.st.length:=⟨φ,Ak.refl hs,hf,rfl⟩
 unfold St.home
 split
 ·rename_i k hk
  split
  ·split
   ·rename_i x hx
    have hv:=hf t
    rw [hk] at hv
    obtain ⟨a,s1,ids⟩:=x
    obtain ⟨φ',h1,_,_,h4,h5,h6⟩:=ly hs (v:=.row k) (u:=tmps.getD t undef) hv hx
    exact ⟨φ',h1,HR.cons (h6 tmps hf) ⟨h5,h4⟩,(AA1 hx:s1.st.length=s.st.length)⟩
   ·exact same
  ·exact same
 ·exact same
theorem AA2 {w:World} {tmps:Array Value} {n:Nat}:∀ (hs:List (Nat×Nat)) {H:HP} {φ:CQ} {s:St},SR H φ s.st w->HR H φ s.st s.fr tmps ->
  ∃ φ',Ak H φ s.st w H φ' (St.homes n hs s).st w/\HR H φ' (St.homes n hs s).st (St.homes n hs s).fr tmps/\(St.homes n hs s).st.length=s.st.length
 | [],H,φ,s,h,hf=>⟨φ,Ak.refl h,hf,rfl⟩
 | p::r,H,φ,s,h,hf=>by
  obtain ⟨φ1,a1,a2,a3⟩:=AFq h hf n p.1 p.2
  obtain ⟨φ2,b1,b2,b3⟩:=AA2 r a1.sr a2
  exact ⟨φ2,a1.trans b1,b2,b3.trans a3⟩
theorem zi {H H':HP} {φ φ':CQ} {st:List AX} {s':St} {w w':World} {tmps:Array Value} (h:Ak H φ st w H' φ' s'.st w') (hf:HR H' φ' s'.st s'.fr tmps) (hs:List (Nat×Nat)) (live:List Nat) {N:Nat} (hN:st.length<=N) :
  ∃ φ2,Ak H φ st w H' φ2 (s'.cutH hs live N).st w'/\HR H' φ2 (s'.cutH hs live N).st (s'.cutH hs live N).fr tmps:=by
 obtain ⟨φ2,a1,a2,_⟩:=AA2 (n:=N) hs h.sr hf
 exact ⟨φ2,(h.trans a1).cut hN,a2.cut live N⟩
def jh (P:Program) (c:Code) (Q:Exit->Act->World->Prop) (a:Act) (w:World):Prop :=
 ∀ (b:Frame) (k:List Item) (cs:List Frame),∃ e a' w',Q e a' w'/\Arrives P (lone (b.at a (.code c::.inLoop c::k)) cs w) b k cs e a' w'
theorem jh.wp {c:Code} {Q:Exit->Act->World->Prop} {a:Act} {w:World} (h:jh P c Q a w):(Code.loop c).wp P Q a w:=by
 intro b k cs
 obtain ⟨e,a',w',hq,harr⟩:=h b k cs
 exact ⟨e,a',w',hq,.of_steps (.one step_loop) harr⟩
theorem jh.round {c:Code} {Q:Exit->Act->World->Prop} {a:Act} {w:World} (h:c.wp P (Exit.then (jh P c Q) Q) a w):jh P c Q a w:=by
 intro b k cs
 obtain ⟨e,a₁,w₁,hq,harr⟩:=h b (.inLoop c::k) cs
 cases e with
 | normal =>
  obtain ⟨e₂,a₂,w₂,hq₂,harr₂⟩:=hq b k cs
  exact ⟨e₂,a₂,w₂,hq₂,.of_steps (Steps.trans harr (.one step_inLoop)) harr₂⟩
 | exit id=>exact ⟨_,a₁,w₁,hq,.pass (x:=.inLoop c) rfl (fun _ _=>.inl (by simp)) harr⟩
 | goto l=>exact ⟨_,a₁,w₁,hq,.pass (x:=.inLoop c) rfl (fun _ _=>.inl (by simp)) harr⟩
 | ret=>exact ⟨_,a₁,w₁,hq,.pass (x:=.inLoop c) rfl (fun _ _=>.inl (by simp)) harr⟩
 | panic ch=>exact ⟨_,a₁,w₁,hq,.pass (x:=.inLoop c) rfl (fun _ _=>.inl (by simp)) harr⟩
 | outgrown=>exact ⟨_,a₁,w₁,hq,.pass (x:=.inLoop c) rfl (fun _ _=>.inl (by simp)) harr⟩
def GT (P:Program) (n:Nat):Code->AG->Bool
 | .skip,.skip=>true
 | .region _ ops false,.region aos _=>decide (iC P n ops none [] 0 aos=some ops.size)
 | .region _ ops true,.draw anc t _=>AEK P n ops anc t
 | .seq x y,.seq a b=>GT P n x a&&GT P n y b
 | .seq x y,.seqc _ a b=>GT P n x a&&GT P n y b
 | .cond c x y,.cond c' a b=>Dl c c'&&GT P n x a&&GT P n y b
 | .block id x,.block id' _ a=>id==id'&&GT P n x a
 | .loop x,.loop _ a=>GT P n x a
 | .exit id,.exit id'=>id==id'
 | .ret,.ret=>true
 | _,_=>false
def rm {ρ:Type} (n:Nat) (q:St->Option ρ) (r:ρ) (s:St) (act:Act) (w:World) (H:HP) (φ:CQ) (N:Act->World->Prop):Prop :=
 ∀ s' act' w' H' φ',q s'=some r->Ak H φ s.st w H' φ' s'.st w'->HR H' φ' s'.st s'.fr act'.tmps->act'.tmps.size=n->act'.defers=act.defers->N act' w'
def AEN (P:Program) (n:Nat) (cal:Gi) (k:Nat) (c:Code) (ac:AG):Prop :=
 ∀ (ρ:Type) (kn kr:St->Option ρ) (ke:Nat->St->Option ρ) (r:ρ) (s:St) (act:Act) (w:World) (H:HP) (φ:CQ) (Q:Exit->Act->World->Prop),
  SR H φ s.st w->HR H φ s.st s.fr act.tmps->act.tmps.size=n->IH cal k ac kn kr ke s=some r ->
  rm n kn r s act w H φ (Q .normal)->rm n kr r s act w H φ (Q .ret)->(∀ i,rm n (ke i) r s act w H φ (Q (.exit i)))->c.wp P Q act w
theorem rm.step {ρ:Type} {n:Nat} {q:St->Option ρ} {r:ρ} {s s1:St} {act act1:Act} {w w1:World} {H H1:HP} {φ φ1:CQ} {N:Act->World->Prop}
  (h:rm n q r s act w H φ N) (hst:Ak H φ s.st w H1 φ1 s1.st w1) (hd:act1.defers=act.defers):rm n q r s1 act1 w1 H1 φ1 N :=
 fun s' act' w' H' φ' hq hs hf hn hd'=>h s' act' w' H' φ' hq (hst.trans hs) hf hn (hd'.trans hd)
theorem AA3 {n:Nat} {cal:Gi} {k:Nat} (hcal:J6 P cal) {id:Nat} {ops:Array Oper} {aos:List Fw} {live:List Nat} (h:iC P n ops none [] 0 aos=some ops.size) :
  AEN P n cal k (.region id ops false) (.region aos live):=by
 intro ρ kn kr ke r s act w H φ Q hs hf hn hk hnorm _ _
 simp only [IH] at hk
 refine ADK hcal h hs hf hn hk fun s' act' w' H' φ' hk' hst hf' hn' hd'=>?_
 exact hnorm _ act' w' H' φ' hk' hst (hf'.live live) hn' hd'
theorem AFr {n:Nat} {cal:Gi} {k:Nat} (hcal:J6 P cal):∀ (ac:AG) (c:Code),GT P n c ac=true->AEN P n cal k c ac:=by
 intro ac
 induction ac with
 | skip =>
  intro c h
  cases c<;>first | (simp [GT] at h; done) | skip
  intro ρ kn kr ke r s act w H φ Q hs hf hn hk h1 _ _
  exact wp_skip (h1 s act w H φ hk (Ak.refl hs) hf hn rfl)
 | ret =>
  intro c h
  cases c<;>first | (simp [GT] at h; done) | skip
  intro ρ kn kr ke r s act w H φ Q hs hf hn hk _ h2 _
  exact wp_ret (h2 s act w H φ hk (Ak.refl hs) hf hn rfl)
 | exit id =>
  intro c h
  cases c<;>first | (simp [GT] at h; done) | skip
  rename_i id'
  simp only [GT,beq_iff_eq] at h
  subst h
  intro ρ kn kr ke r s act w H φ Q hs hf hn hk _ _ h3
  exact wp_exit (h3 id' s act w H φ hk (Ak.refl hs) hf hn rfl)
 | region aos live =>
  intro c h
  cases c<;>first | (simp [GT] at h; done) | skip
  rename_i id ops draw
  cases draw
  ·simp only [GT,decide_eq_true_eq] at h
   exact AA3 hcal h
  ·simp [GT] at h
 | draw anc t live =>
  intro c h
  cases c<;>first | (simp [GT] at h; done) | skip
  rename_i id ops draw
  cases draw
  ·simp [GT] at h
  ·simp only [GT] at h
   intro ρ kn kr ke r s act w H φ Q hs hf hn hk hnorm _ _
   simp only [IH] at hk
   exact AFm hcal (AEM h) hs hf hn hk fun s' act' w' H' φ' hk' hst hf' hn' hd'=>hnorm _ act' w' H' φ' hk' hst (hf'.live live) hn' hd'
 | seq a b iha ihb =>
  intro c h
  cases c<;>first | (simp [GT] at h; done) | skip
  rename_i x y
  simp only [GT,AE] at h
  intro ρ kn kr ke r s act w H φ Q hs hf hn hk h1 h2 h3
  simp only [IH] at hk
  refine wp_seq (iha x h.1 ρ (fun s'=>IH cal k b kn kr ke s') kr ke r s act w H φ _ hs hf hn hk (fun s' act' w' H' φ' hk' hst hf' hn' hd'=>?_) h2 h3)
  exact ihb y h.2 ρ kn kr ke r s' act' w' H' φ' Q hst.sr hf' hn' hk' (h1.step hst hd') (h2.step hst hd') fun i=>(h3 i).step hst hd'
 | seqc live a b iha ihb =>
  intro c h
  cases c<;>first | (simp [GT] at h; done) | skip
  rename_i x y
  simp only [GT,AE] at h
  intro ρ kn kr ke r s act w H φ Q hs hf hn hk h1 h2 h3
  simp only [IH] at hk
  refine wp_seq (iha x h.1 ρ (fun s'=>IH cal k b kn kr ke (s'.cutH (EF s live) live s.st.length)) kr ke r s act w H φ _ hs hf hn hk (fun s' act' w' H' φ' hk' hst hf' hn' hd'=>?_) h2 h3)
  obtain ⟨φ2,hst',hf2⟩:=zi hst hf' (EF s live) live (Nat.le_refl _)
  exact ihb y h.2 ρ kn kr ke r (s'.cutH (EF s live) live s.st.length) act' w' H' φ2 Q hst'.sr hf2 hn' hk' (h1.step hst' hd') (h2.step hst' hd') fun i=>(h3 i).step hst' hd'
 | cond c' a b iha ihb =>
  intro c h
  cases c<;>first | (simp [GT] at h; done) | skip
  rename_i co x y
  simp only [GT,AE] at h
  obtain ⟨⟨hc,ha⟩,hb⟩:=h
  intro ρ kn kr ke r s act w H φ Q hs hf hn hk h1 h2 h3
  simp only [IH] at hk
  cases ht:s.opd c' with
  | bool t =>
   rw [ht] at hk
   simp only at hk
   have hv:=(Bg hf hc).bool ht
   cases t with
   | true=>exact wp_cond_true hv (iha x ha ρ kn kr ke r s act w H φ Q hs hf hn (by simpa using hk) h1 h2 h3)
   | false=>exact wp_cond_false hv (ihb y hb ρ kn kr ke r s act w H φ Q hs hf hn (by simpa using hk) h1 h2 h3)
  | _=>rw [ht] at hk; cases hk
 | block id live a iha =>
  intro c h
  cases c<;>first | (simp [GT] at h; done) | skip
  rename_i id' x
  simp only [GT,AE,beq_iff_eq] at h
  obtain ⟨rfl,h⟩:=h
  intro ρ kn kr ke r s act w H φ Q hs hf hn hk h1 h2 h3
  simp only [IH] at hk
  have cutOk:rm n (fun s'=>kn (s'.cutH (EF s live) live s.st.length)) r s act w H φ (Q .normal):=fun s' act' w' H' φ' hk' hst hf' hn' hd'=>by
   obtain ⟨φ2,hst',hf2⟩:=zi hst hf' (EF s live) live (Nat.le_refl _)
   exact h1 _ act' w' H' φ2 hk' hst' hf2 hn' hd'
  refine wp_block (iha x h ρ (fun s'=>kn (s'.cutH (EF s live) live s.st.length)) kr (fun i s'=>if i=id' then kn (s'.cutH (EF s live) live s.st.length) else ke i s') r s act w H φ _ hs hf hn hk cutOk h2 fun i=>?_)
  intro s' act' w' H' φ' hk' hst hf' hn' hd'
  simp only at hk'
  simp only [Exit.inBlock]
  by_cases e:i=id'
  ·rw [if_pos e] at hk' ⊢
   exact cutOk s' act' w' H' φ' hk' hst hf' hn' hd'
  ·rw [if_neg e] at hk' ⊢
   exact h3 i s' act' w' H' φ' hk' hst hf' hn' hd'
 | loop live a iha =>
  intro c h
  cases c<;>first | (simp [GT] at h; done) | skip
  rename_i x
  simp only [GT] at h
  intro ρ kn kr ke r s act w H φ Q hs hf hn hk _ h2 h3
  simp only [IH] at hk
  have key:∀ (j:Nat) (s1:St) (act1:Act) (w1:World) (H1:HP) (φ1:CQ),s1.st.length<=s.st.length->Ak H φ s.st w H1 φ1 s1.st w1->HR H1 φ1 s1.st s1.fr act1.tmps->act1.tmps.size=n->act1.defers=act.defers ->
    Qc j (fun go s'=>IH cal k a (fun s''=>go (s''.cutH (EF s live) live s.st.length)) kr ke s') s1=some r->jh P x Q act1 w1:=by
   intro j
   induction j with
   | zero=>intro s1 act1 w1 H1 φ1 _ _ _ _ _ hk; cases hk
   | succ j ihj =>
    intro s1 act1 w1 H1 φ1 hl hst hf1 hn1 hd1 hk
    simp only [Qc] at hk
    refine jh.round (iha x h ρ _ kr ke r s1 act1 w1 H1 φ1 _ hst.sr hf1 hn1 hk (fun s' act' w' H' φ' hk' hst' hf' hn' hd'=>?_) (h2.step hst hd1) fun i=>(h3 i).step hst hd1)
    obtain ⟨φ2,hst2,hf2⟩:=zi hst' hf' (EF s live) live hl
    exact ihj (s'.cutH (EF s live) live s.st.length) act' w' H' φ2 (by simp [St.cutH,St.cut]; omega) (hst.trans hst2) hf2 hn' (hd'.trans hd1) hk'
  refine (key k (s.cut live s.st.length) act w H φ (by simp [St.cut]) ((Ak.refl hs).cut (Nat.le_refl _)) (hf.cut live _) hn rfl hk).wp
end Go.Proofs.YtfcgblnlopemkaaGreatDoor.Core

namespace Go.Proofs.YtfcgblnlopemkaaGreatDoor.Core
open Go
variable {H:HP} {φ:CQ} {st:List AX} {w:World} {P:Program}
def yq (st:List AX) (i:Nat) (b:AX):Prop :=
 (∃ (t:TypeId) (e:Kd),∃ xs:List (Kd.T e),st[i]? = some (AX.rows t e xs)/\b=AX.rows t e xs) \/
 (∃ cs ecs:List AV,st[i]? = some (AX.var cs)/\b=AX.var ecs/\ecs.length=cs.length/\∀ (o:Nat) (a:AV),ecs[o]? = some a->∃ c,cs[o]? = some c/\a.solid=true/\c.solid=true/\∀ (H:HP) (u:Value),VF H c u->VF H a u)
theorem ui:∀ {ks:List Kd} {cs cs':List AV},QK ks cs=some cs'->cs'.length=cs.length/\(cs'.all fun c=>c.solid&&(match c with | .nil=>false | _=>true))=true /\
  ∀ (o:Nat) (a:AV),cs'[o]? = some a->∃ c,cs[o]? = some c/\a.solid=true/\c.solid=true/\∀ (H:HP) (u:Value),VF H c u->VF H a u
 | [],[],cs',h=>by cases h; exact ⟨rfl,rfl,fun o a h=>by simp at h⟩
 | [],_::_,cs',h=>by simp [QK] at h
 | _::_,[],cs',h=>by simp [QK] at h
 | k::ks,v::vs,cs',h=>by
  simp only [QK] at h
  cases h1:v.norm k with
  | none=>rw [h1] at h; cases h
  | some a =>
   rw [h1] at h
   simp only [AA] at h
   cases h2:QK ks vs with
   | none=>rw [h2] at h; cases h
   | some r =>
    rw [h2] at h
    cases h
    obtain ⟨n1,n2,n3,n4⟩:=mE h1
    obtain ⟨l1,l2,l3⟩:=ui h2
    refine ⟨by simp [l1],?_,fun o b hb=>?_⟩
    ·simp only [List.all_cons,l2,n2,Bool.true_and,Bool.and_true]
     cases a<;>first | rfl | cases n1
    ·cases o with
     | zero=>simp at hb; subst hb; exact ⟨v,rfl,n2,n3,n4⟩
     | succ o=>simpa using l3 o b (by simpa using hb)
theorem ABx {s s':St} {a a':AV} (h:s.keep a=some (a',s')) {i:Nat} (hi:a≠.row i):s'.st[i]? = s.st[i]? := by
 cases a with
 | row id =>
  simp only [St.keep] at h
  split at h
  ·cases h
   simp only [BK]
   rw [if_neg (fun e=>hi (by rw [e]))]
  ·cases h; rfl
  ·cases h
 | fn f caps=>cases caps<;>first | (cases h; rfl) | cases h
 | _=>first | (cases h; rfl) | cases h
theorem AEO {s s':St} {a a':AV} (h:s.keep a=some (a',s')) {i:Nat} (hi:Ae s.st i=true):s'.st[i]? = s.st[i]? := by
 cases a with
 | row id =>
  simp only [St.keep] at h
  split at h
  ·rename_i t K xs hb
   cases h
   simp only [BK]
   rw [if_neg (fun e=>by subst e; simp only [Ae,hb] at hi; cases hi)]
  ·cases h; rfl
  ·cases h
 | fn f caps=>cases caps<;>first | (cases h; rfl) | cases h
 | _=>first | (cases h; rfl) | cases h
theorem ABy {s s':St} {i:Nat} {a':AV} (h:s.keep (.row i)=some (a',s')):a'.nilFree=true/\a'.solid=true:=by
 simp only [St.keep] at h
 split at h
 ·cases h; exact ⟨rfl,rfl⟩
 ·cases h; exact ⟨rfl,rfl⟩
 ·cases h
structure Fq (H:HP) (φ:CQ) (w:World) (s s':St) (tk tk':List Nat) (us:List Value) (cl:List AV) (H':HP) (ids:List Nat):Prop where
 step:Ak H φ s.st w H' φ s'.st w
 keeps:CD φ s.st φ s'.st none
 fr:s'.fr=s.fr
 nf:cl.all AV.nilFree=true
 cnt:AT cl=ids.length
 tks:tk'=ids.reverse++tk
 nd:tk.Nodup->tk'.Nodup
 held:∀ i∈tk,s'.st[i]? = s.st[i]?
 vars:∀ i,Ae s.st i=true->s'.st[i]? = s.st[i]?
 boxes:∀ (m:Nat) (b:AX),(BM cl)[m]? = some b->∃ i,ids[m]? = some i/\yq s'.st i b
 vals:∀ (k:Nat) (f:Nat->Nat),(∀ m i,ids[m]? = some i->f (k+m)=i) ->
  Az (fun a u=>VC H' φ s'.st (a.ren f) u/\(a.solid=true\/∃ m,m<ids.length/\((∃ t e,∃ xs:List (Kd.T e),a=.row (k+m)/\(BM cl)[m]? = some (AX.rows t e xs))\/(∃ ecs,a=.ptr (k+m) 0/\(BM cl)[m]? = some (AX.var ecs))))) (Bl k cl) us
theorem pG {a:AV} (h:a.solid=true) (f:Nat->Nat):a.ren f=a:=by cases a<;>first | rfl | cases h
theorem Fq.plain {H:HP} {φ:CQ} {s s1 s':St} {tk tk':List Nat} {u:Value} {us:List Value} {cl:List AV} {H1 H':HP} {ids:List Nat} {a:AV} (F:Fq H1 φ w s1 s' tk tk' us cl H' ids)
  (hst:Ak H φ s.st w H1 φ s1.st w) (hk:CD φ s.st φ s1.st none) (hfr:s1.fr=s.fr) (hheld:∀ i∈tk,s1.st[i]? = s.st[i]?) (hvars:∀ i,Ae s.st i=true->s1.st[i]? = s.st[i]?)
  (hn:a.nilFree=true) (hs:a.solid=true) (hv:VF H1 a u):Fq H φ w s s' tk tk' (u::us) (a::cl) H' ids:=by
 have o1:∀ k,Bl k (a::cl)=a::Bl k cl:=fun k=>by cases a<;>first | rfl | cases hs
 have o2:BM (a::cl)=BM cl:=by cases a<;>first | rfl | cases hs
 have o3:AT (a::cl)=AT cl:=by cases a<;>first | rfl | cases hs
 refine ⟨hst.trans F.step,hk.trans F.keeps,F.fr.trans hfr,by simp [hn,F.nf],by rw [o3]; exact F.cnt,F.tks,F.nd,fun i hi=>(F.held i hi).trans (hheld i hi),fun i hi=>?_,by rw [o2]; exact F.boxes,fun k f hf=>?_⟩
 ·have h1:=hvars i hi
  rw [F.vars i (by unfold Ae at hi ⊢; rw [h1]; exact hi),h1]
 ·rw [o1,o2]
  exact ⟨u,us,rfl,⟨by rw [pG hs]; exact VC.of_VF (hv.mono F.step.le),.inl hs⟩,F.vals k f hf⟩
theorem Tb:∀ {ks:List Kd} {vs cl:List AV} {tk tk':List Nat} {s s':St} {H:HP} {us:List Value},SR H φ s.st w->Az (VC H φ s.st) vs us->s.shutAll tk ks vs=some (cl,tk',s') ->
  ∃ H' ids,Fq H φ w s s' tk tk' us cl H' ids
 | [],[],cl,tk,tk',s,s',H,us,hs,hv,h=>by
  cases h
  cases hv
  exact ⟨H,[],Ak.refl hs,CD.refl _ _ _,rfl,rfl,rfl,rfl,fun h=>h,fun _ _=>rfl,fun _ _=>rfl,fun m b h=>by simp [BM] at h,fun k f _=>rfl⟩
 | [],_::_,cl,tk,tk',s,s',H,us,hs,hv,h=>by simp [St.shutAll] at h
 | _::_,[],cl,tk,tk',s,s',H,us,hs,hv,h=>by simp [St.shutAll] at h
 | k0::ks,v::vs,cl,tk,tk',s,s',H,us,hs,hv,h=>by
  obtain ⟨u,us,rfl,hu,hr⟩:=hv
  have norm:((v.norm k0).bind fun a=>(s.shutAll tk ks vs).bind fun y=>some (a::y.1,y.2))=some (cl,tk',s')->∃ H' ids,Fq H φ w s s' tk tk' (u::us) cl H' ids:=by
   intro h
   cases hq:v.norm k0 with
   | none=>rw [hq] at h; cases h
   | some a =>
    rw [hq] at h
    simp only [AA] at h
    cases hc:s.shutAll tk ks vs with
    | none=>rw [hc] at h; cases h
    | some y =>
     obtain ⟨y1,y2,y3⟩:=y
     rw [hc] at h
     cases h
     obtain ⟨n1,n2,n3,n4⟩:=mE hq
     obtain ⟨H',ids,F⟩:=Tb hs hr hc
     exact ⟨H',ids,F.plain (Ak.refl hs) (CD.refl _ _ _) rfl (fun _ _=>rfl) (fun _ _=>rfl) n1 n2 (n4 H u (hu.solid n3))⟩
  have away:∀ (i:Nat) (a:AV) (b:AX) (y:List AV×List Nat×St),CB tk i=false->s.shutAll (i::tk) ks vs=some y->(cl,tk',s')=(a::y.1,y.2) ->
    yq s.st i b->a.nilFree=true->(∀ k r,Bl k (a::r)=(match b with | .var _=>AV.ptr k 0 | _=>AV.row k)::Bl (k+1) r)->(∀ r,BM (a::r)=b::BM r)->(∀ r,AT (a::r)=AT r+1) ->
    (∀ cs,b=.var cs->v=.ptr i 0)->((∀ cs,b≠.var cs)->v=.row i)->((∀ cs,b≠.var cs)->∃ (t:TypeId) (e:Kd),∃ xs:List (Kd.T e),b=AX.rows t e xs)->∃ H' ids,Fq H φ w s s' tk tk' (u::us) cl H' ids:=by
   intro i a b y hn hy e hb hnf o1 o2 o3 e1 e2 e3
   obtain ⟨y1,y2,y3⟩:=y
   cases e
   obtain ⟨H',ids,F⟩:=Tb hs hr hy
   refine ⟨H',i::ids,F.step,F.keeps,F.fr,by simp [hnf,F.nf],by rw [o3,F.cnt]; rfl,by rw [F.tks]; simp,fun hnd=>F.nd (List.nodup_cons.2 ⟨B7.1 hn,hnd⟩),fun j hj=>F.held j (by simp [hj]),F.vars,fun m b' hb'=>?_,fun k f hf=>?_⟩
   ·rw [o2] at hb'
    cases m with
    | zero =>
     simp at hb'
     subst hb'
     refine ⟨i,rfl,?_⟩
     have hh:=F.held i (by simp)
     unfold yq at hb ⊢
     rw [hh]
     exact hb
    | succ m=>simpa using F.boxes m b' (by simpa using hb')
   ·rw [o1,o2]
    have f0:f k=i:=by simpa using hf 0 i rfl
    refine ⟨u,us,rfl,⟨?_,.inr ⟨0,by simp,?_⟩⟩,?_⟩
    ·have hu':=VC.mono F.step.le F.keeps hu
     cases b with
     | var cs =>
      simp only [AV.ren,f0]
      rw [e1 cs rfl] at hu'
      exact hu'
     | _ =>
      simp only [AV.ren,f0]
      rw [e2 (by simp)] at hu'
      exact hu'
    ·cases b with
     | var cs=>exact .inr ⟨cs,rfl,rfl⟩
     | rows t e xs=>exact .inl ⟨t,e,xs,rfl,rfl⟩
     | _=>obtain ⟨_,_,_,e⟩:=e3 (by simp); cases e
    ·have:=F.vals (k+1) f fun m j hj=>by rw [Nat.add_assoc,Nat.add_comm 1 m]; exact hf (m+1) j (by simpa using hj)
     refine this.imp fun a' u' ⟨g1,g2⟩=>⟨g1,?_⟩
     rcases g2 with g2 | ⟨m,hm,g2⟩
     ·exact .inl g2
     ·refine .inr ⟨m+1,by simp; omega,?_⟩
      rw [show k+(m+1)=k+1+m by omega]
      simpa using g2
  cases v with
  | row i =>
   simp only [St.shutAll] at h
   split at h
   ·cases h
   ·rename_i hn
    have hn:CB tk i=false:=by simpa using hn
    have kept:((s.keep (.row i)).bind fun x=>(x.2.shutAll tk ks vs).bind fun y=>some (x.1::y.1,y.2))=some (cl,tk',s')->∃ H' ids,Fq H φ w s s' tk tk' (u::us) cl H' ids:=by
     intro h
     cases hk:s.keep (.row i) with
     | none=>rw [hk] at h; cases h
     | some x =>
      obtain ⟨a1,s1⟩:=x
      rw [hk] at h
      simp only [AA] at h
      cases hc:s1.shutAll tk ks vs with
      | none=>rw [hc] at h; cases h
      | some y =>
       obtain ⟨y1,y2,y3⟩:=y
       rw [hc] at h
       cases h
       obtain ⟨H1,g1,k1,f1,r1,_⟩:=YK hs hu hk
       obtain ⟨H',ids,F⟩:=Tb g1.sr (hr.imp fun _ _ h=>h.mono g1.le k1) hc
       obtain ⟨n1,n2⟩:=ABy hk
       refine ⟨H',ids,F.plain g1 k1 r1 (fun j hj=>ABx hk fun e=>?_) (fun j hj=>AEO hk hj) n1 n2 f1⟩
       cases e
       exact B7.1 hn hj
    split at h
    ·split at h
     ·rename_i t e xs hi
      cases hc:s.shutAll (i::tk) ks vs with
      | none=>rw [hc] at h; cases h
      | some y =>
       rw [hc] at h
       simp only [AA,BT] at h
       exact away i (.new t e xs) (.rows t e xs) y hn hc h.symm (.inl ⟨t,e,xs,hi,rfl⟩) rfl (fun k r=>rfl) (fun r=>rfl) (fun r=>by simp [AT,AV.isNew]) (fun cs e=>by cases e) (fun _=>rfl) (fun _=>⟨t,e,xs,rfl⟩)
     ·cases h
    ·exact kept h
  | ptr i o =>
   cases o with
   | zero =>
    simp only [St.shutAll] at h
    split at h
    ·cases h
    ·rename_i hn
     have hn:CB tk i=false:=by simpa using hn
     split at h
     ·split at h
      ·rename_i K x0 cs hi
       cases hq:QK K.leaves cs with
       | none=>rw [hq] at h; cases h
       | some cs' =>
        rw [hq] at h
        simp only [AA] at h
        cases hc:s.shutAll (i::tk) ks vs with
        | none=>rw [hc] at h; cases h
        | some y =>
         rw [hc] at h
         simp only [AA,BT] at h
         obtain ⟨l1,l2,l3⟩:=ui hq
         exact away i (.ref cs') (.var cs') y hn hc h.symm (.inr ⟨cs,cs',hi,rfl,l1,l3⟩) l2 (fun k r=>rfl) (fun r=>rfl) (fun r=>by simp [AT,AV.isNew]) (fun _ _=>rfl) (fun h=>absurd rfl (h cs')) (fun h=>absurd rfl (h cs'))
      ·cases h
     ·cases h
   | succ o=>exact norm h
  | _=>exact norm h
end Go.Proofs.YtfcgblnlopemkaaGreatDoor.Core

namespace Go.Proofs.YtfcgblnlopemkaaGreatDoor.Core
open Go
variable {P:Program}
theorem Fq.append {H H1 H2:HP} {φ:CQ} {w:World} {s s1 s2:St} {tk t1 t2:List Nat} {us1 us2:List Value} {c1 c2:List AV} {i1 i2:List Nat}
  (F1:Fq H φ w s s1 tk t1 us1 c1 H1 i1) (F2:Fq H1 φ w s1 s2 t1 t2 us2 c2 H2 i2):Fq H φ w s s2 tk t2 (us1++us2) (c1++c2) H2 (i1++i2):=by
 have hl:(BM c1).length=i1.length:=by rw [EZ,F1.cnt]
 refine ⟨F1.step.trans F2.step,F1.keeps.trans F2.keeps,F2.fr.trans F1.fr,by rw [List.all_append,F1.nf,F2.nf]; rfl,by rw [CK,F1.cnt,F2.cnt,List.length_append],by rw [F2.tks,F1.tks]; simp,fun h=>F2.nd (F1.nd h),fun i hi=>?_,fun i hi=>?_,fun m b hb=>?_,fun k f hf=>?_⟩
 ·rw [F2.held i (by rw [F1.tks]; simp [hi]),F1.held i hi]
 ·have h1:=F1.vars i hi
  rw [F2.vars i (by unfold Ae at hi ⊢; rw [h1]; exact hi),h1]
 ·rw [CW] at hb
  rcases CF m (BM c1).length with h | h
  ·rw [BO h] at hb
   obtain ⟨i,g1,g2⟩:=F1.boxes m b hb
   refine ⟨i,by rw [BO (by omega)]; exact g1,?_⟩
   have hh:=F2.held i (by rw [F1.tks]; simp [List.mem_of_getElem? g1])
   unfold yq at g2 ⊢
   rw [hh]
   exact g2
  ·rw [Cs h] at hb
   obtain ⟨i,g1,g2⟩:=F2.boxes _ b hb
   exact ⟨i,by rw [Cs (by omega)]; rw [hl] at g1; exact g1,g2⟩
 ·rw [aQ,CW]
  refine Az.append ((F1.vals k f fun m i hm=>hf m i (by rw [BO (As.1 hm).1]; exact hm)).imp fun a u ⟨g1,g2⟩=>⟨g1.mono F2.step.le F2.keeps,?_⟩)
   ((F2.vals (k+AT c1) f fun m i hm=>by
    rw [Nat.add_assoc]
    exact hf _ i (by rw [F1.cnt,Cs (by omega),Nat.add_sub_cancel_left]; exact hm)).imp fun a u ⟨g1,g2⟩=>⟨g1,?_⟩)
  ·rcases g2 with g2 | ⟨m,hm,g2⟩
   ·exact .inl g2
   ·refine .inr ⟨m,by simp; omega,?_⟩
    rw [BO (by omega)]
    exact g2
  ·rcases g2 with g2 | ⟨m,hm,g2⟩
   ·exact .inl g2
   ·refine .inr ⟨i1.length+m,by simp; omega,?_⟩
    rw [Cs (by omega),hl,Nat.add_sub_cancel_left,<- Nat.add_assoc]
    rw [F1.cnt] at g2
    exact g2
theorem ADP {H:HP} {φ:CQ} {st:List AX} {w:World} (hs:SR H φ st w) {id:Nat} {cs:List AV} (hb:st[id]? = some (.var cs)) :
  ∃ b c el,φ id=.pointer (some ⟨b,0,none⟩)/\w.heap[b]? = some (.cells c el (0,0))/\Az (VC H φ st) cs c.toList:=by
 obtain ⟨b,c,el,e3,hh,hc⟩:=hs.box id _ hb
 refine ⟨b,c,el,e3,hh,VR hc.length fun j a u ha hu=>?_⟩
 have hw:=hc.at ha hu
 cases a with
 | row i =>
  obtain ⟨g1,b2,g2,g3⟩:=hs.cell id _ hb j i ha
  rw [e3] at g2
  cases g2
  simp only [World.cell?,hh] at g3
  rw [Array.getElem?_toList] at hu
  simp only [Option.isSome_none,Bool.false_eq_true,if_false] at g3
  rw [hu] at g3
  cases g3
  exact ⟨rfl,g1⟩
 | was i=>trivial
 | self T=>trivial
 | undef=>trivial
 | _=>exact VC.of_VF hw
def AFs (P:Program):ResultVar->Res->Bool
 | .tmp t,r=>!r.cell&&r.t==t
 | .cell a t,r=>r.cell&&r.t==a&&mB P t (d8 r.K)
def uj (P:Program):List ResultVar->List Res->Bool
 | [],[]=>true
 | v::vs,r::rs=>AFs P v r&&uj P vs rs
 | _,_=>false
def aU (tmps:Array Value):ResultVar->Sem Value
 | .tmp t=>pure (tmps.getD t undef)
 | .cell a t=>do loadVar t (<- asAddr (tmps.getD a undef))
def AFt (K:Kd) (v:Value):Prop:=match K with
 | .pair _ _=>∃ arr,v=.agg arr
 | _=>v.cells=#[v]
theorem AEP {H:HP} {φ:CQ} {w:World} {s:St} {K:Kd} {a:AV} {v:Value} {ds:List AV} {off:Nat} {t:TypeId} (hs:SR H φ s.st w) (hv:VC H φ s.st a v) (hbh:s.behind a=some (ds,off)) (hl2:off+K.sz<=ds.length) (hp:mB P t (d8 K)=true) :
  ∃ u,(Instr.loadAt t v).run P w=.ok u w/\VA H φ s.st (part ds off (d8 K)) u:=by
 cases K with
 | pair a b=>exact rY hs hv hbh (n:=some _) hl2 hp
 | _=>exact rY hs hv hbh (n:=none) hl2 hp
theorem AA4 {H:HP} {φ:CQ} {w:World} {s:St} {r:Res} {rv:ResultVar} {cs:List AV} {tmps:Array Value} (hs:SR H φ s.st w) (hf:HR H φ s.st s.fr tmps) (h:s.resCells r=some cs) (hb:AFs P rv r=true)
  (hne:∀ c∈cs,c.full=true) (hlen:cs.length=r.K.sz) :
  ∃ v,(aU tmps rv).run P w=.ok v w/\Az (VC H φ s.st) cs v.cells.toList/\AFt r.K v:=by
 unfold St.resCells at h
 cases rv with
 | tmp t =>
  simp only [AFs,AE,EY,beq_iff_eq] at hb
  obtain ⟨hc,rfl⟩:=hb
  rw [if_neg (by rw [hc]; simp)] at h
  split at h
  ·rename_i hfit
   cases h
   simp only [AE] at hfit
   have hv:=hf r.t
   refine ⟨tmps.getD r.t undef,by simp [aU],uU hs hv hfit.2,?_⟩
   rcases hv.cases with ⟨ds,arr,ea,ev,_⟩ | ⟨vs,arr,ea,_,_⟩ | hvc
   ·rw [ea] at hfit
    unfold AFt
    cases hK:r.K with
    | pair a b=>exact ⟨arr,ev⟩
    | _=>rw [hK] at hfit; cases hfit.1
   ·rw [ea] at hfit; cases hfit.2
   ·have h1:=uT hs hvc hfit.2
    unfold AFt
    cases hK:r.K with
    | pair a b =>
     rw [hK,YO hvc] at hlen
     have p1:=Kd.sz_pos a
     have p2:=Kd.sz_pos b
     simp [Kd.sz] at hlen
     omega
    | _=>exact h1
  ·cases h
 | cell a t =>
  simp only [AFs,AE,beq_iff_eq] at hb
  obtain ⟨⟨hc,rfl⟩,hp⟩:=hb
  rw [if_pos hc] at h
  cases hbh:s.behind (GS s.fr r.t) with
  | none=>rw [hbh] at h; cases h
  | some y =>
   obtain ⟨ds,off⟩:=y
   rw [hbh] at h
   simp only [AA,BT] at h
   subst h
   have hv:=(hf r.t).behind hbh
   have hl2:off+r.K.sz<=ds.length:=by
    have:=Kd.sz_pos r.K
    simp only [List.length_take,List.length_drop] at hlen
    omega
   obtain ⟨b,o,vs,ev,_,_⟩:=gw hs hv hbh
   obtain ⟨u,hrun,hu⟩:=AEP (P:=P) (t:=t) hs hv hbh hl2 hp
   have hrun2:(aU tmps (.cell r.t t)).run P w=.ok u w:=by
    rw [ev] at hrun
    simp only [Instr.loadAt,Instr.sureAddr,Sem.run_bind,Sem.run_pure,Result.andThen_ok] at hrun
    simp only [aU,Sem.run_bind]
    rw [ev]
    simp only [asAddr,Sem.run_pure,Result.andThen_ok]
    exact hrun
   refine ⟨u,hrun2,?_⟩
   have single:r.K.sz=1->d8 r.K=none->Az (VC H φ s.st) ((ds.drop off).take r.K.sz) u.cells.toList/\u.cells=#[u]:=by
    intro h1 h2
    rw [h1] at hl2 hne ⊢
    rw [h2] at hu
    have hlt:off<ds.length:=by omega
    have hc1:(ds.drop off).take 1=[ds[off]]:=by rw [List.drop_eq_getElem_cons hlt]; rfl
    have hpart:part ds off none=ds[off]:=by simp only [part,List.headD_eq_head?_getD]; rw [List.drop_eq_getElem_cons hlt]; rfl
    rw [hpart] at hu
    have hfc:ds[off].full=true:=hne _ (by rw [hc1]; simp)
    have hvc:VC H φ s.st ds[off] u:=by
     rcases hu.cases with ⟨e1,arr,ea,_,_⟩ | ⟨e1,arr,ea,_,_⟩ | hvc
     ·obtain ⟨b',o',vs',_,hall,_⟩:=gw hs hv hbh
      obtain ⟨u2,_,hu2⟩:=hall.get off ds[off] (by simp)
      rw [ea] at hu2
      exact hu2.elim
     ·rw [ea] at hfc; cases hfc
     ·exact hvc
    have hone:=uT hs hvc hfc
    rw [hc1,hone]
    exact ⟨⟨u,[],rfl,hvc,rfl⟩,rfl⟩
   cases hK:r.K with
   | pair a b =>
    rw [hK] at hu
    obtain ⟨arr,e,hc⟩:=hu
    subst e
    exact ⟨hc,arr,rfl⟩
   | _=>rw [hK] at single; exact single rfl rfl
theorem NS:∀ {ks:List Kd} {vs cl:List AV} {tk tk':List Nat} {s s':St},s.shutAll tk ks vs=some (cl,tk',s')->∀ v∈vs,v.full=true
 | [],[],cl,tk,tk',s,s',h,v,hv=>by cases hv
 | [],_::_,cl,tk,tk',s,s',h,v,hv=>by simp [St.shutAll] at h
 | _::_,[],cl,tk,tk',s,s',h,v,hv=>by cases hv
 | k::ks,a::vs,cl,tk,tk',s,s',h,v,hv=>by
  have norm:((a.norm k).bind fun x=>(s.shutAll tk ks vs).bind fun y=>some (x::y.1,y.2))=some (cl,tk',s')->v.full=true:=by
   intro h
   cases hq:a.norm k with
   | none=>rw [hq] at h; cases h
   | some x =>
    rw [hq] at h
    simp only [AA] at h
    cases hc:s.shutAll tk ks vs with
    | none=>rw [hc] at h; cases h
    | some y =>
     obtain ⟨y1,y2,y3⟩:=y
     rcases BF.1 hv with rfl | hv
     ·have:=(mE hq).2.2.1
      cases v<;>first | rfl | cases this
     ·exact NS hc v hv
  cases a with
  | row i =>
   rcases BF.1 hv with rfl | hv
   ·rfl
   ·simp only [St.shutAll] at h
    split at h
    ·cases h
    ·split at h
     ·split at h
      ·cases hc:s.shutAll (i::tk) ks vs with
       | none=>rw [hc] at h; cases h
       | some y=>obtain ⟨y1,y2,y3⟩:=y; exact NS hc v hv
      ·cases h
     ·cases hk:s.keep (.row i) with
      | none=>rw [hk] at h; cases h
      | some x =>
       rw [hk] at h
       simp only [AA] at h
       cases hc:x.2.shutAll tk ks vs with
       | none=>rw [hc] at h; cases h
       | some y=>obtain ⟨y1,y2,y3⟩:=y; exact NS hc v hv
  | ptr i o =>
   rcases BF.1 hv with rfl | hv'
   ·rfl
   ·cases o with
    | zero =>
     simp only [St.shutAll] at h
     split at h
     ·cases h
     ·split at h
      ·split at h
       ·rename_i K x0 cs hi
        cases hq:QK K.leaves cs with
        | none=>rw [hq] at h; cases h
        | some cs' =>
         rw [hq] at h
         simp only [AA] at h
         cases hc:s.shutAll (i::tk) ks vs with
         | none=>rw [hc] at h; cases h
         | some y=>obtain ⟨y1,y2,y3⟩:=y; exact NS hc v hv'
       ·cases h
      ·cases h
    | succ o=>exact norm h
  | _=>exact norm h
theorem Qg:∀ {ks:List Kd} {vs cl:List AV} {tk tk':List Nat} {s s':St},s.shutAll tk ks vs=some (cl,tk',s')->vs.length=ks.length
 | [],[],cl,tk,tk',s,s',h=>rfl
 | [],_::_,cl,tk,tk',s,s',h=>by simp [St.shutAll] at h
 | _::_,[],cl,tk,tk',s,s',h=>by simp [St.shutAll] at h
 | k::ks,a::vs,cl,tk,tk',s,s',h=>by
  have norm:((a.norm k).bind fun x=>(s.shutAll tk ks vs).bind fun y=>some (x::y.1,y.2))=some (cl,tk',s')->(a::vs).length=(k::ks).length:=by
   intro h
   cases hq:a.norm k with
   | none=>rw [hq] at h; cases h
   | some x =>
    rw [hq] at h
    simp only [AA] at h
    cases hc:s.shutAll tk ks vs with
    | none=>rw [hc] at h; cases h
    | some y=>obtain ⟨y1,y2,y3⟩:=y; simp [Qg hc]
  cases a with
  | row i =>
   simp only [St.shutAll] at h
   split at h
   ·cases h
   ·split at h
    ·split at h
     ·cases hc:s.shutAll (i::tk) ks vs with
      | none=>rw [hc] at h; cases h
      | some y=>obtain ⟨y1,y2,y3⟩:=y; simp [Qg hc]
     ·cases h
    ·cases hk:s.keep (.row i) with
     | none=>rw [hk] at h; cases h
     | some x =>
      rw [hk] at h
      simp only [AA] at h
      cases hc:x.2.shutAll tk ks vs with
      | none=>rw [hc] at h; cases h
      | some y=>obtain ⟨y1,y2,y3⟩:=y; simp [Qg hc]
  | ptr i o =>
   cases o with
   | zero =>
    simp only [St.shutAll] at h
    split at h
    ·cases h
    ·split at h
     ·split at h
      ·rename_i K x0 cs hi
       cases hq:QK K.leaves cs with
       | none=>rw [hq] at h; cases h
       | some cs' =>
        rw [hq] at h
        simp only [AA] at h
        cases hc:s.shutAll (i::tk) ks vs with
        | none=>rw [hc] at h; cases h
        | some y=>obtain ⟨y1,y2,y3⟩:=y; simp [Qg hc]
      ·cases h
     ·cases h
   | succ o=>exact norm h
  | _=>exact norm h
theorem ji:∀ K:Kd,K.leaves.length=K.sz
 | .int _=>rfl
 | .bool=>rfl
 | .str=>rfl
 | .slice _=>rfl
 | .pair a b=>by simp [Kd.leaves,Kd.sz,ji a,ji b]
 | .own _ _=>rfl
 | .ref _=>rfl
 | .fun _=>rfl
 | .clo _ _=>rfl
theorem yu {w:World} {φ:CQ} {tmps:Array Value}:∀ {rs:List Res} {rvs:List ResultVar} {aw:List AV} {tk tk':List Nat} {s s':St} {H:HP},SR H φ s.st w->HR H φ s.st s.fr tmps->s.result tk rs=some (aw,tk',s')->uj P rvs rs=true ->
  ∃ H' ids vs,Fq H φ w s s' tk tk' (vs.flatMap fun v=>v.cells.toList) (cellsOf aw) H' ids/\(rvs.mapM (aU tmps)).run P w=.ok vs w/\Az (fun a v=>∃ K,∃ x:Kd.T K,a=Kd.av K x/\AFt K v/\a.cells.length=v.cells.toList.length) aw vs
 | [],[],aw,tk,tk',s,s',H,hs,hf,h,hb=>by
  cases h
  exact ⟨H,[],[],⟨Ak.refl hs,CD.refl _ _ _,rfl,rfl,rfl,rfl,fun h=>h,fun _ _=>rfl,fun _ _=>rfl,fun m b h=>by simp [cellsOf,BM] at h,fun k f _=>rfl⟩,by simp,rfl⟩
 | [],_::_,aw,tk,tk',s,s',H,hs,hf,h,hb=>by simp [uj] at hb
 | _::_,[],aw,tk,tk',s,s',H,hs,hf,h,hb=>by simp [uj] at hb
 | r::rs,rv::rvs,aw,tk,tk',s,s',H,hs,hf,h,hb=>by
  simp only [uj,AE] at hb
  simp only [St.result] at h
  cases h1:s.resCells r with
  | none=>rw [h1] at h; cases h
  | some cs =>
   rw [h1] at h
   simp only [AA] at h
   cases h2:s.shutAll tk r.K.leaves cs with
   | none=>rw [h2] at h; cases h
   | some y =>
    obtain ⟨cl,t1,s1⟩:=y
    rw [h2] at h
    simp only [AA] at h
    cases h3:r.K.ofCells cl with
    | none=>rw [h3] at h; cases h
    | some x =>
     rw [h3] at h
     simp only [AA] at h
     cases h4:s1.result t1 rs with
     | none=>rw [h4] at h; cases h
     | some z =>
      obtain ⟨aw',t2,s2⟩:=z
      rw [h4] at h
      cases h
      obtain ⟨v,hrun,hv,hfit⟩:=AA4 hs hf h1 hb.1 (NS h2) ((Qg h2).trans (ji _))
      obtain ⟨H1,i1,F1⟩:=Tb hs hv h2
      have ecl:cl=r.K.enc x:=by
       have:=t_ r.K cl [] x F1.nf (Gk h3)
       simpa using this
      have hf1:HR H1 φ s1.st s1.fr tmps:=by rw [F1.fr]; exact hf.mono F1.step.le F1.keeps
      obtain ⟨H2,i2,vs,F2,hrun2,hall⟩:=yu F1.step.sr hf1 h4 hb.2
      have hcells:(r.K.av x).cells=cl:=by rw [d_,ecl]
      refine ⟨H2,i1++i2,v::vs,?_,?_,⟨v,vs,rfl,⟨r.K,x,rfl,hfit,?_⟩,hall⟩⟩
      ·have:=F1.append F2
       simp only [cellsOf,List.flatMap_cons,hcells] at this ⊢
       exact this
      ·rw [List.mapM_cons]
       simp [Sem.run_bind,hrun,hrun2]
      ·have:=(F1.vals 0 (fun m=>i1.getD m 0) fun m i hm=>by simp [List.getD,hm]).length
       rw [hcells]
       rw [KW] at this
       exact this.symm
theorem aV {w:World} {φ:CQ}:∀ {bs:List (Nat×Kd)} {aw:List AV} {tk tk':List Nat} {s s':St} {H:HP},SR H φ s.st w->s.shutBoxes tk bs=some (aw,tk',s') ->
  ∃ (H':HP) (ids:List Nat) (us:List (List Value)),Fq H φ w s s' tk tk' us.flatten (Bs aw) H' ids/\Az (fun a u=>a.cellsO.length=u.length) aw us/\aw.length=bs.length/\(∀ (j:Nat) (v:AV),aw[j]? = some v->∃ p,bs[j]? = some p/\p.2.noRef=true/\∃ x:Kd.T p.2,v=Kd.av p.2 x) /\
   ∀ (j:Nat) (p:Nat×Kd),bs[j]? = some p->(p.2.isOwn=false/\An s'.st p.1=true/\∃ (b:Nat) (c:Array Value) (el:TypeId),φ p.1=.pointer (some ⟨b,0,none⟩)/\w.heap[b]? = some (.cells c el (0,0))/\us[j]? = some c.toList) \/
    (∃ (t:TypeId) (e:Kd),∃ xs:List (Kd.T e),p.2=.own t e/\s'.st[p.1]? = some (AX.mrow t e xs)/\aw[j]? = some (.new t e xs))
 | [],aw,tk,tk',s,s',H,hs,h=>by
  cases h
  exact ⟨H,[],[],⟨Ak.refl hs,CD.refl _ _ _,rfl,rfl,rfl,rfl,fun h=>h,fun _ _=>rfl,fun _ _=>rfl,fun m b h=>by simp [Bs,BM] at h,fun k f _=>rfl⟩,rfl,rfl,fun j v h=>by simp at h,fun j p h=>by simp at h⟩
 | (b,K)::bs,aw,tk,tk',s,s',H,hs,h=>by
  simp only [St.shutBoxes] at h
  split at h
  ·rename_i t e xs hm
   split at h
   ·rename_i hK
    subst hK
    cases h4:s.shutBoxes tk bs with
    | none=>rw [h4] at h; cases h
    | some z =>
     obtain ⟨aw',t2,s2⟩:=z
     rw [h4] at h
     cases h
     obtain ⟨H2,i2,us,F2,hl,hn,hk,hb⟩:=aV hs h4
     refine ⟨H2,i2,[]::us,F2,⟨[],us,rfl,rfl,hl⟩,by simp [hn],fun j v hj=>?_,fun j p hj=>?_⟩
     ·cases j with
      | zero=>simp at hj; subst hj; exact ⟨(b,.own t e),rfl,rfl,xs,rfl⟩
      | succ j=>simpa using hk j v (by simpa using hj)
     ·cases j with
      | zero =>
       simp at hj
       subst hj
       exact .inr ⟨t,e,xs,rfl,by rw [F2.vars b (by simp only [Ae,hm]; rfl)]; exact hm,rfl⟩
      | succ j=>simpa using hb j p (by simpa using hj)
   ·cases h
  ·rename_i cs hcs
   split at h
   case isFalse=>cases h
   rename_i hnr2
   simp only [AE,EY] at hnr2
   obtain ⟨hnr,hno⟩:=hnr2
   cases h2:s.shutAll tk K.leaves cs with
   | none=>rw [h2] at h; cases h
   | some y =>
    obtain ⟨cl,t1,s1⟩:=y
    rw [h2] at h
    simp only [AA] at h
    cases h3:K.ofCells cl with
    | none=>rw [h3] at h; cases h
    | some x =>
     rw [h3] at h
     simp only [AA] at h
     cases h4:s1.shutBoxes t1 bs with
     | none=>rw [h4] at h; cases h
     | some z =>
      obtain ⟨aw',t2,s2⟩:=z
      rw [h4] at h
      cases h
      obtain ⟨b0,c,el,e1,e2,e3⟩:=ADP hs hcs
      obtain ⟨H1,i1,F1⟩:=Tb hs e3 h2
      have ecl:cl=K.enc x:=by
       have:=t_ K cl [] x F1.nf (Gk h3)
       simpa using this
      obtain ⟨H2,i2,us,F2,hl,hn,hk,hb⟩:=aV F1.step.sr h4
      have hcells:(K.av x).cellsO=cl:=by rw [(KY x hno).1,ecl]
      have hlen:cl.length=c.toList.length:=by
       have:=(F1.vals 0 (fun m=>i1.getD m 0) fun m i hm=>by simp [List.getD,hm]).length
       rw [KW] at this
       exact this.symm
      refine ⟨H2,i1++i2,c.toList::us,?_,⟨c.toList,us,rfl,by simp only [hcells]; exact hlen,hl⟩,by simp [hn],fun j v hj=>?_,fun j p hj=>?_⟩
      ·have:=F1.append F2
       simp only [Bs,List.flatMap_cons,hcells,List.flatten_cons] at this ⊢
       exact this
      ·cases j with
       | zero=>simp at hj; subst hj; exact ⟨(b,K),rfl,hnr,x,rfl⟩
       | succ j=>simpa using hk j v (by simpa using hj)
      ·cases j with
       | zero =>
        simp at hj
        subst hj
        refine .inl ⟨hno,?_,b0,c,el,e1,e2,rfl⟩
        have v0:An s.st b=true:=by simp only [An,hcs]
        have g1:=F1.vars b (aL v0)
        have v1:An s1.st b=true:=by unfold An at v0 ⊢; rw [g1]; exact v0
        have g2:=F2.vars b (aL v1)
        unfold An at v1 ⊢; rw [g2]; exact v1
       | succ j=>simpa using hb j p (by simpa using hj)
  ·cases h
theorem jj {R:AV->Value->Prop} (c:AV->List AV):∀ {aw:List AV} {us:List (List Value)} {k:Nat},Az (fun a u=>(c a).length=u.length) aw us->Az R (Bl k (aw.flatMap c)) us.flatten ->
  ∀ (j:Nat) (a:AV) (u:List Value),aw[j]? = some a->us[j]? = some u->Az R (Bl (k+AT ((aw.take j).flatMap c)) (c a)) u
 | [],us,k,hl,h,j,a,u,ha,hu=>by simp at ha
 | a0::aw,us,k,⟨u0,us',e,l0,hl⟩,h,j,a,u,ha,hu=>by
  subst e
  simp only [List.flatMap_cons,List.flatten_cons] at h
  rw [aQ] at h
  have hlen:(Bl k (c a0)).length=u0.length:=by rw [KW]; exact l0
  have h1:Az R (Bl k (c a0)) u0:=by
   have:=h.take (Bl k (c a0)).length
   rw [List.take_left,hlen,List.take_left] at this
   exact this
  have h2:Az R (Bl (k+AT (c a0)) (aw.flatMap c)) us'.flatten:=by
   have:=h.drop (Bl k (c a0)).length
   rw [List.drop_left,hlen,List.drop_left] at this
   exact this
  cases j with
  | zero =>
   simp at ha hu
   subst ha hu
   simpa [AT] using h1
  | succ j =>
   have:=jj c hl h2 j a u (by simpa using ha) (by simpa using hu)
   simpa [CK,Nat.add_assoc] using this
def AV.isPtr:AV->Bool
 | .ptr _ _=>true
 | .ref _=>true
 | _=>false
theorem pH:∀ (K:Kd) (x:K.T),K.noRef=true->∀ c∈K.enc x,c.isPtr=false
 | .int _,_,_,c,h=>by simp [Kd.enc] at h; subst h; rfl
 | .bool,_,_,c,h=>by simp [Kd.enc] at h; subst h; rfl
 | .str,_,_,c,h=>by simp [Kd.enc] at h; subst h; rfl
 | .slice _,_,_,c,h=>by simp [Kd.enc] at h; subst h; rfl
 | .pair a b,x,hn,c,h=>by
  simp only [Kd.noRef,AE] at hn
  simp only [Kd.enc,CV] at h
  rcases h with h | h
  ·exact pH a x.1 hn.1 c h
  ·exact pH b x.2 hn.2 c h
 | .own _ _,_,_,c,h=>by simp [Kd.enc] at h; subst h; rfl
 | .ref _,_,hn,_,_=>by cases hn
 | .fun _,_,_,c,h=>by simp [Kd.enc] at h; subst h; rfl
 | .clo _ _,_,_,c,h=>by simp [Kd.enc] at h; subst h; rfl
theorem rn:∀ (cs:List AV) (k:Nat),(∀ c∈cs,c.isPtr=false)->∀ a∈Bl k cs,a.isPtr=false
 | [],k,_,a,h=>by simp [Bl] at h
 | c::cs,k,hn,a,h=>by
  have h1:=hn c (by simp)
  have ih:=fun k=>rn cs k fun c hc=>hn c (by simp [hc])
  have key:∀ (d:AV) (k':Nat),d.isPtr=false->(a=d\/a∈Bl k' cs)->a.isPtr=false:=fun d k' hd h=>by
   rcases h with rfl | h
   ·exact hd
   ·exact ih k' a h
  cases c<;>simp only [Bl,BF] at h<;>first | exact key _ _ rfl h | exact absurd h1 (by simp [AV.isPtr])
theorem QN:∀ (vs:List AV) (k:Nat),(Di k vs).length=vs.length
 | [],_=>rfl
 | v::r,k=>by simp [Di,QN r]
theorem uk:∀ (vs:List AV) (k j:Nat) (v:AV),vs[j]? = some v->(Di k vs)[j]? = some (lf (k+AT (cellsOf (vs.take j))) v)
 | [],k,j,v,h=>by simp at h
 | u::r,k,0,v,h=>by simp at h; subst h; simp [Di,cellsOf,AT]
 | u::r,k,j+1,v,h=>by
  simp only [Di,List.getElem?_cons_succ]
  rw [uk r _ j v (by simpa using h)]
  simp [cellsOf,CK,Nat.add_assoc]
theorem AGx {H0 H:HP} {φ0 φ:CQ} {w0 w:World} {s s1 s2:St} {args bs:List AV} {ids:List (Nat×Kd)} {rsv outs:List AV} {t1 t2:List Nat} {fn:Func} {ress:List Res} {tmps:Array Value}
  (hs:SR H φ s.st w) (hf:HR H φ s.st s.fr tmps) (hfr:Fr bs.length (Bo bs args).length H0 φ0 w0 H φ s.st w) (hle:H0.le H)
  (hids:∀ (j:Nat) (p:Nat×Kd),ids[j]? = some p->p.1=j) (hbl:bs.length=ids.length)
  (hres:s.result (List.range ids.length) ress=some (rsv,t1,s1)) (hbox:s1.shutBoxes t1 ids=some (outs,t2,s2)) (hrb:uj P fn.results.toList ress=true) :
  (∀ r∈rsv++outs,r.cells.all AV.nilFree=true)/\∃ v,(results fn tmps).run P w=.ok v w/\QM H0 φ0 w0 args bs outs rsv v w:=by
 obtain ⟨H1,i1,vs,F1,hrun,hall⟩:=yu (P:=P) hs hf hres hrb
 obtain ⟨H2,i2,us,F2,hul,hol,hok,hob⟩:=aV F1.step.sr hbox
 have hnv:outs.length=bs.length:=by rw [hol,hbl]
 let nv:=bs.length
 let μ:Nat->Nat:=fun k=>if k<nv then k else (i2++i1).getD (k-nv) 0
 have μv:∀ k,k<nv->μ k=k:=fun k h=>by simp only [μ,h,if_true]
 have μb:∀ m i,i2[m]? = some i->μ (nv+m)=i:=fun m i hm=>by
  have hl:=(As.1 hm).1
  simp only [μ,show ¬ nv+m<nv by omega,if_false,Nat.add_sub_cancel_left]
  simp [List.getD,BO hl,hm]
 have μr:∀ m i,i1[m]? = some i->μ (nv+i2.length+m)=i:=fun m i hm=>by
  simp only [μ,show ¬ nv+i2.length+m<nv by omega,if_false]
  rw [show nv+i2.length+m-nv=i2.length+m by omega]
  simp [List.getD,Cs,hm]
 have hnd:(t2).Nodup:=F2.nd (F1.nd List.nodup_range)
 have ht2:t2=i2.reverse++(i1.reverse++List.range ids.length):=by rw [F2.tks,F1.tks]
 let est:=Bo outs rsv
 let φ2:CQ:=fun k=>φ (μ k)
 have hc2:AT (Bs outs)=i2.length:=F2.cnt
 have hc1:AT (cellsOf rsv)=i1.length:=F1.cnt
 have elen:est.length=nv+i2.length+i1.length:=by
  show (Bo outs rsv).length=_
  rw [Xz,hnv,hc2,hc1]
 have evar:∀ k,k<nv->(∃ (b:Nat) (c:Array Value) (el:TypeId) (a:AV),φ k=.pointer (some ⟨b,0,none⟩)/\w.heap[b]? = some (.cells c el (0,0))/\outs[k]? = some a/\An s2.st k=true /\
   est[k]? = some (.var (Bl (nv+AT (Bs (outs.take k))) a.cellsO)) /\
   Az (fun a u=>VC H2 φ s2.st (a.ren μ) u/\(a.solid=true\/∃ m,m<i2.length/\((∃ t e,∃ xs:List (Kd.T e),a=.row (nv+m)/\(BM (Bs outs))[m]? = some (AX.rows t e xs))\/(∃ ecs,a=.ptr (nv+m) 0/\(BM (Bs outs))[m]? = some (AX.var ecs)))))
    (Bl (nv+AT (Bs (outs.take k))) a.cellsO) c.toList)\/(∃ (t:TypeId) (e:Kd),∃ xs:List (Kd.T e),s2.st[k]? = some (AX.mrow t e xs)/\est[k]? = some (AX.mrow t e xs)):=by
  intro k hk
  have hk2:k<ids.length:=by omega
  have hp:ids[k]? = some ids[k]:=by simp
  have hk3:k<outs.length:=by omega
  have ha:outs[k]? = some outs[k]:=by simp
  have hget:est[k]? = some (AAi (nv+AT (Bs (outs.take k))) outs[k]):=by
   show (Bo outs rsv)[k]? = _
   rw [KX,BO (by rw [Bm]; exact hk3),NQ outs _ k _ ha,hnv]
  rcases hob k _ hp with ⟨hno,g1,b,c,el,e1,e2,e3⟩ | ⟨t,e,xs,hK,g1,g2⟩
  ·rw [hids k _ hp] at g1 e1
   refine .inl ⟨b,c,el,outs[k],e1,e2,ha,g1,?_,jj AV.cellsO hul (F2.vals nv μ μb) k _ _ ha e3⟩
   rw [hget]
   obtain ⟨p,hp2,_,x,hx⟩:=hok k _ ha
   rw [hp] at hp2
   cases hp2
   rw [hx,(KY x hno).2,(KY x hno).1]
  ·rw [hids k _ hp] at g1
   rw [ha] at g2
   refine .inr ⟨t,e,xs,g1,?_⟩
   rw [hget,Option.some.inj g2]
   rfl
 have erow:∀ k b,nv<=k->est[k]? = some b->yq s2.st (μ k) b/\(i2++i1)[k-nv]? = some (μ k):=by
  intro k b hk hb
  have hb:(Bo outs rsv)[k]? = some b:=hb
  rw [KX,Cs (by rw [Bm,hnv]; exact hk),Bm,hnv,CW] at hb
  rcases CF (k-bs.length) (BM (Bs outs)).length with h | h
  ·rw [BO h] at hb
   obtain ⟨i,g1,g2⟩:=F2.boxes _ b hb
   have e:=μb _ i g1
   rw [show nv+(k-bs.length)=k by omega] at e
   rw [e]
   exact ⟨g2,by rw [BO (As.1 g1).1]; exact g1⟩
  ·rw [Cs h] at hb
   obtain ⟨i,g1,g2⟩:=F1.boxes _ b hb
   rw [EZ,hc2] at h g1
   have e:=μr _ i g1
   rw [show nv+i2.length+(k-bs.length-i2.length)=k by omega] at e
   rw [e]
   refine ⟨?_,by rw [Cs h]; exact g1⟩
   have hh:=F2.held i (by rw [F1.tks]; simp [List.mem_of_getElem? g1])
   unfold yq at g2 ⊢
   rw [hh]
   exact g2
 have rowsE:∀ m t e (xs:List (Kd.T e)),(BM (Bs outs))[m]? = some (AX.rows t e xs)->est[nv+m]? = some (AX.rows t e xs):=by
  intro m t e xs h
  show (Bo outs rsv)[nv+m]? = _
  have hl:=(As.1 h).1
  rw [KX,Cs (by rw [Bm,hnv]; exact Nat.le_add_right _ _),Bm,hnv,CW,show nv+m-bs.length=m by simp only [nv]; omega,BO hl]
  exact h
 have restE:∀ m b,(BM (cellsOf rsv))[m]? = some b->est[nv+i2.length+m]? = some b:=by
  intro m b h
  show (Bo outs rsv)[nv+i2.length+m]? = _
  rw [KX,Cs (by rw [Bm,hnv]; simp only [nv]; omega),Bm,hnv,CW,Cs (by rw [EZ,hc2]; simp only [nv]; omega),EZ,hc2,
   show nv+i2.length+m-bs.length-i2.length=m by simp only [nv]; omega]
  exact h
 have hs2:=F2.step.sr
 have μt:∀ k,k<est.length->(k<nv/\μ k=k)\/(nv<=k/\(i2++i1)[k-nv]? = some (μ k)):=by
  intro k hk
  rcases CF k nv with h | h
  ·exact .inl ⟨h,μv k h⟩
  ·exact .inr ⟨h,(erow k est[k] h (by simp)).2⟩
 have μinj:∀ k k',k<est.length->k'<est.length->μ k=μ k'->k=k':=by
  intro k k' hk hk' e
  have hndl:(i2++i1).Nodup/\∀ i∈i2++i1,¬ i<ids.length:=by
   rw [ht2,<- Bf] at hnd
   have h1:=List.nodup_append.1 hnd
   constructor
   ·have h2:=List.nodup_append.1 h1.1
    exact List.nodup_append.2 ⟨(List.reverse_perm i2).nodup_iff.1 h2.1,(List.reverse_perm i1).nodup_iff.1 h2.2.1,fun a ha b hb=>h2.2.2 a (by simpa using ha) b (by simpa using hb)⟩
   ·intro i hi hlt
    exact h1.2.2 i (by simpa using hi) i (List.mem_range.2 hlt) rfl
  rcases μt k hk with ⟨h1,e1⟩ | ⟨h1,e1⟩<;>rcases μt k' hk' with ⟨h2,e2⟩ | ⟨h2,e2⟩
  ·omega
  ·exact absurd (show μ k'<ids.length by rw [<- e,e1]; omega) (hndl.2 _ (List.mem_of_getElem? e2))
  ·exact absurd (show μ k<ids.length by rw [e,e2]; omega) (hndl.2 _ (List.mem_of_getElem? e1))
  ·rw [<- e] at e2
   have:=(List.getElem?_inj (As.1 e1).1 hndl.1).1 (e1.trans e2.symm)
   omega
 have vcE:∀ a u,VC H2 φ s2.st (a.ren μ) u->(a.solid=true\/(∃ k t e,∃ xs:List (Kd.T e),a=.row k/\est[k]? = some (AX.rows t e xs))\/∃ k ecs,a=.ptr k 0/\est[k]? = some (AX.var ecs))->VC H2 φ2 est a u:=by
  intro a u hv hc
  rcases hc with h | ⟨k,t,e,xs,rfl,hk⟩ | ⟨k,ecs,rfl,hk⟩
  ·rw [pG h] at hv
   exact VC.of_VF (hv.solid h)
  ·obtain ⟨e1,_⟩:=hv
   exact ⟨e1,by simp only [AQ,hk]; rfl⟩
  ·obtain ⟨_,b,e1,e2⟩:=hv
   exact ⟨by simp only [An,hk],b,e1,e2⟩
 have hbox2:∀ k b,est[k]? = some b->NN H2 w (φ2 k) b:=by
  intro k b hk
  rcases CF k nv with h | h
  ·rcases evar k h with ⟨b0,c,el,a,e1,e2,e3,_,e4,e5⟩ | ⟨t,e,xs,e1,e2⟩
   rotate_left
   ·rw [hk] at e2
    cases e2
    rw [show φ2 k=φ k by simp only [φ2,μv k h]]
    exact hs2.box k _ e1
   rw [hk] at e4
   cases e4
   obtain ⟨p,hp,hnr,x,hx⟩:=hok k a e3
   refine ⟨b0,c,el,by simp only [φ2,μv k h]; exact e1,e2,e5.impM fun a' ha' u ⟨g1,g2⟩=>?_⟩
   have hnp:=rn _ _ (by
    intro c hc
    rw [hx] at hc
    by_cases ho:p.2.isOwn=true
    ·revert x
     obtain ⟨t,e,ho⟩:=uW ho
     rw [ho]
     intro x _ hc
     simp [uX x] at hc
    ·rw [(KY x (by simpa using ho)).1] at hc
     exact pH _ _ hnr c hc) a' ha'
   rcases g2 with g2 | ⟨m,_,⟨t,e,xs,rfl,_⟩ | ⟨ecs,rfl,g3⟩⟩
   ·rw [pG g2] at g1
    exact VW.of_VF (g1.solid g2)
   ·trivial
   ·cases hnp
  ·obtain ⟨g1,_⟩:=erow k b h hk
   rcases g1 with ⟨t,e,xs,g2,rfl⟩ | ⟨cs,ecs,g2,rfl,g3,g4⟩
   ·exact hs2.box _ _ g2
   ·obtain ⟨b0,c,el,e1,e2,e3⟩:=hs2.box _ _ g2
    refine ⟨b0,c,el,e1,e2,VR (by rw [e3.length,g3]) fun o a u ha hu=>?_⟩
    obtain ⟨c0,c1,c2,c3,c4⟩:=g4 o a ha
    have hw:=e3.at c1 hu
    have hf:VF H2 c0 u:=by cases c0<;>first | exact hw | cases c3
    exact VW.of_VF (c4 H2 u hf)
 have hlive:∀ (k:Nat) (b2:AX),est[k]? = some b2->b2.live=true->ED (φ2 k)=none\/∃ b,s2.st[μ k]? = some b/\b.live=true/\φ2 k=φ (μ k):=by
  intro k b hk _
  right
  rcases CF k nv with h | h
  ·rw [μv k h]
   rcases evar k h with ⟨_,_,_,_,_,_,_,e3,_⟩ | ⟨t,e,xs,e1,_⟩
   ·unfold An at e3
    split at e3
    ·rename_i cs e; exact ⟨_,e,rfl,by simp only [φ2,μv k h]⟩
    ·cases e3
   ·exact ⟨_,e1,rfl,by simp only [φ2,μv k h]⟩
  ·obtain ⟨g1,_⟩:=erow k b h hk
   rcases g1 with ⟨t,e,xs,g2,_⟩ | ⟨cs,ecs,g2,_⟩
   ·exact ⟨_,g2,rfl,rfl⟩
   ·exact ⟨_,g2,rfl,rfl⟩
 have hsr:SR H2 φ2 est w:=by
  refine Ak.pick hs2 μ hbox2 hlive (fun k k' b b' hk hk' _ _ _ _ e=>μinj k k' (As.1 hk).1 (As.1 hk').1 e) (fun k cs hk o i ho=>?_)
  rcases CF k nv with h | h
  ·rcases evar k h with ⟨b0,c,el,a,e1,e2,e3,_,e4,e5⟩ | ⟨t,e,xs,_,e2⟩
   rotate_left
   ·rw [hk] at e2; cases e2
   rw [hk] at e4
   cases e4
   obtain ⟨u,hu,g1,g2⟩:=e5.get o _ ho
   rcases g2 with g2 | ⟨m,_,⟨t,e,xs,g3,g4⟩ | ⟨ecs,g3,_⟩⟩
   ·cases g2
   ·cases g3
    refine ⟨by simp only [AQ,rowsE m t e xs g4]; rfl,b0,by simp only [φ2,μv k h]; exact e1,?_⟩
    obtain ⟨g5,_⟩:=g1
    simp only [World.cell?,e2]
    rw [Array.getElem?_toList] at hu
    simp only [Option.isSome_none,Bool.false_eq_true,if_false,hu]
    rw [g5]
   ·cases g3
  ·obtain ⟨g1,_⟩:=erow k _ h hk
   rcases g1 with ⟨t,e,xs,_,g3⟩ | ⟨cs0,ecs,g2,g3,_,g4⟩
   ·cases g3
   ·cases g3
    obtain ⟨_,_,g5,_⟩:=g4 o _ ho
    cases g5
 have hfr2:Fr bs.length (Bo bs args).length H0 φ0 w0 H2 φ2 est w:=by
  have f2:=F2.step.fr _ _ _ _ _ (F1.step.fr _ _ _ _ _ hfr)
  refine ⟨f2.os,f2.tape,f2.output,f2.size,f2.old,fun j hj=>?_,fun i bi hi hl b hb=>?_,fun j hj=>?_,f2.frz⟩
  ·have:=f2.same j hj
   simp only [φ2,μv j hj]
   exact this
  ·rcases hlive i bi hi hl with e | ⟨b1,g1,g2,g3⟩
   ·rw [e] at hb; cases hb
   ·rw [g3] at hb
    exact f2.new _ b1 g1 g2 b hb
  ·rcases evar j hj with ⟨_,_,_,_,_,_,_,_,e4,_⟩ | ⟨t,e,xs,_,e4⟩
   ·simp only [Ae,e4]; rfl
   ·simp only [Ae,e4]; rfl
 have hhan:Fx outs=nv+i2.length:=by rw [o9,hnv,hc2]
 have hvals:Az (VB H2 φ2 est) (Di (Fx outs) rsv) vs:=by
  rw [hhan]
  have h1:=F1.vals (nv+i2.length) μ μr
  have h2:Az (VC H2 φ2 est) (Bl (nv+i2.length) (cellsOf rsv)) (vs.map fun v=>v.cells.toList).flatten:=by
   rw [<- List.flatMap_def]
   refine h1.imp fun a u ⟨g1,g2⟩=>vcE a u (g1.mono F2.step.le F2.keeps) ?_
   rcases g2 with g2 | ⟨m,_,⟨t,e,xs,g3,g4⟩ | ⟨ecs,g3,g4⟩⟩
   ·exact .inl g2
   ·exact .inr (.inl ⟨_,t,e,xs,g3,restE m _ g4⟩)
   ·exact .inr (.inr ⟨_,ecs,g3,restE m _ g4⟩)
  have h3:Az (fun a u=>a.cells.length=u.length) rsv (vs.map fun v=>v.cells.toList):=by
   refine VR (by rw [List.length_map,hall.length]) fun j a u ha hu=>?_
   rw [Cd] at hu
   obtain ⟨v,hv,_,_,_,_,hl⟩:=hall.get j a ha
   rw [hv] at hu
   cases hu
   exact hl
  refine VR (by rw [QN,hall.length]) fun j a v ha hv=>?_
  have hj:j<rsv.length:=by rw [<- QN rsv (nv+i2.length)]; exact (As.1 ha).1
  have hr:rsv[j]? = some rsv[j]:=by simp
  rw [uk rsv _ j _ hr] at ha
  cases ha
  have h4:=jj AV.cells h3 h2 j rsv[j] v.cells.toList hr (by rw [Cd,hv]; rfl)
  obtain ⟨v',hv',K,x,hK,hfit,_⟩:=hall.get j _ hr
  rw [hv] at hv'
  cases hv'
  rw [hK] at h4 ⊢
  change Az _ (Bl (nv+i2.length+AT (cellsOf (List.take j rsv))) _) _ at h4
  generalize nv+i2.length+AT (cellsOf (List.take j rsv))=kk at h4 ⊢
  have single:(K.av x).cells=[K.av x]->v.cells=#[v]->lf kk (K.av x)=(Bl kk [K.av x]).headD .undef->VB H2 φ2 est (lf kk (K.av x)) v:=by
   intro e1 e2 e3
   rw [e1,e2] at h4
   rw [e3]
   cases hq:Bl kk [K.av x] with
   | nil=>rw [hq] at h4; simp [Az] at h4
   | cons c r =>
    rw [hq] at h4
    obtain ⟨v',r',e,h5,_⟩:=h4
    cases e
    exact VB.of_VC h5
  cases K with
  | pair k l =>
   obtain ⟨arr,rfl⟩:=hfit
   exact ⟨arr,rfl,h4⟩
  | _=>exact single rfl hfit rfl
 have nfs:∀ {l:List AV},(cellsOf l).all AV.nilFree=true->∀ r∈l,r.cells.all AV.nilFree=true:=by
  intro l h r hr
  refine Bp.2 fun c hc=>Bp.1 h c ?_
  exact List.mem_flatMap.2 ⟨r,hr,hc⟩
 refine ⟨fun r hr=>?_,match vs with | [v]=>v | vs=>.tuple vs.toArray,?_,H2,φ2,HP.le_trans hle (HP.le_trans F1.step.le F2.step.le),hsr,hfr2,?_⟩
 ·rcases CV.1 hr with h | h
  ·exact nfs F1.nf r h
  ·obtain ⟨j,hj⟩:=List.mem_iff_getElem?.1 h
   obtain ⟨p,_,_,x,hx⟩:=hok j r hj
   by_cases ho:p.2.isOwn=true
   ·subst hx
    revert x
    obtain ⟨t,e,ho⟩:=uW ho
    rw [ho]
    intro x
    intros
    rfl
   ·refine Bp.2 fun c hc=>Bp.1 F2.nf c (List.mem_flatMap.2 ⟨r,h,?_⟩)
    subst hx
    rw [(KY x (by simpa using ho)).1]
    rw [d_] at hc
    exact hc
 ·have hm:(fn.results.mapM (aU tmps)).run P w=.ok vs.toArray w:=by
   rw [Array.mapM_eq_mapM_toList,<- bind_pure_comp,Sem.run_bind,hrun]
   rfl
  have hr:results fn tmps=(fn.results.mapM (aU tmps)) >>= fun vs=>pure (if h:vs.size=1 then vs[0] else .tuple vs):=by
   unfold results
   first | rfl | (congr 1; done) | (congr 1; congr 1; done) | (congr 1; congr 1; funext rv; cases rv<;>rfl)
  rw [hr,Sem.run_bind,hm]
  cases vs with
  | nil=>rfl
  | cons v vs =>
   cases vs with
   | nil=>rfl
   | cons v2 vs=>rfl
 ·cases vs with
  | nil =>
   have:rsv=[]:=by
    have:=hall.length
    exact DD.1 (by simpa using this.symm)
   subst this
   exact ⟨_,rfl,rfl⟩
  | cons v vs =>
   cases vs with
   | nil =>
    have h1:rsv.length=1:=by have:=hall.length; simpa using this.symm
    obtain ⟨a,rfl⟩:=List.length_eq_one_iff.1 h1
    obtain ⟨v',r,e,h2,_⟩:=hvals
    cases e
    exact h2
   | cons v2 vs =>
    have h1:rsv.length=vs.length+2:=by have:=hall.length; simpa using this.symm
    obtain ⟨a,b,r,rfl⟩:∃ a b r,rsv=a::b::r:=by
     match rsv,h1 with
     | a::b::r,_=>exact ⟨a,b,r,rfl⟩
    exact ⟨_,rfl,hvals⟩
def Kd.sol:Kd->Bool
 | .pair a b=>a.sol&&b.sol
 | .own _ _ | .ref _=>false
 | _=>true
def Kd.okOut:Kd->Bool
 | .pair a b=>a.okOut&&b.okOut
 | .ref K=>K.sol
 | _=>true
theorem zj:∀ (K:Kd) (x:K.T),K.sol=true->(K.enc x).all (fun c=>c.solid&&(match c with | .nil=>false | _=>true))=true
 | .int _,_,_=>rfl
 | .bool,_,_=>rfl
 | .str,_,_=>rfl
 | .slice _,_,_=>rfl
 | .pair a b,x,h=>by
  simp only [Kd.sol,AE] at h
  simp only [Kd.enc,List.all_append,zj a x.1 h.1,zj b x.2 h.2,Bool.and_self]
 | .own _ _,_,h=>by cases h
 | .ref _,_,h=>by cases h
 | .fun _,_,_=>rfl
 | .clo _ _,_,_=>rfl
theorem pI:∀ (K:Kd) (x:K.T),K.okOut=true->(K.enc x).all AV.nilFree=true
 | .int _,_,_=>rfl
 | .bool,_,_=>rfl
 | .str,_,_=>rfl
 | .slice _,_,_=>rfl
 | .pair a b,x,h=>by
  simp only [Kd.okOut,AE] at h
  simp only [Kd.enc,List.all_append,pI a x.1 h.1,pI b x.2 h.2,Bool.and_self]
 | .own _ _,_,_=>rfl
 | .fun _,_,_=>rfl
 | .clo _ _,_,_=>rfl
 | .ref K,x,h=>by
  simp only [Kd.enc,List.all_cons,List.all_nil,Bool.and_true,AV.nilFree]
  exact zj K x h
def AEQ (P:Program) (f:Nat) (a:BL):Bool :=
 match P.funcs[f]? with
 | some fn=>(match fn.body with
  | some c=>!(fn.name == "runtime.NumGoroutine")&&GT P fn.ntmps c a.body&&uj P fn.results.toList a.res&&decide (a.params.length≤fn.ntmps)&&a.outs.all Kd.okOut
  | none=>false)
 | none=>false
theorem yv:∀ (ks:List Kd) (j0:Nat),(rV ks j0).length=ks.length/\∀ (j:Nat) (p:Nat×Kd),(rV ks j0)[j]? = some p->p.1=j0+j
 | [],j0=>⟨rfl,fun j p h=>by simp [rV] at h⟩
 | k::ks,j0=>by
  obtain ⟨h1,h2⟩:=yv ks (j0+1)
  refine ⟨by simp [rV,h1],fun j p h=>?_⟩
  simp only [rV] at h
  cases j with
  | zero=>simp at h; subst h; rfl
  | succ j=>have:=h2 j p (by simpa using h); omega
theorem FP:∀ (ps:List PK) (j0 j:Nat) (p:Nat×Kd),(Eg ps j0)[j]? = some p->p.1=j0+j
 | [],j0,j,p,h=>by simp [Eg] at h
 | .val _::r,j0,j,p,h=>FP r j0 j p h
 | .bor _::r,j0,j,p,h=>FP r j0 j p h
 | .mov _::r,j0,j,p,h=>FP r j0 j p h
 | .movS _::r,j0,j,p,h=>FP r j0 j p h
 | .cap _ _::r,j0,j,p,h=>FP r j0 j p h
 | .cap0 _::r,j0,j,p,h=>FP r j0 j p h
 | .ptr K::r,j0,j,p,h=>by
  simp only [Eg] at h
  cases j with
  | zero=>simp at h; subst h; rfl
  | succ j=>have:=FP r (j0+1) j p (by simpa using h); omega
 | .mut K::r,j0,j,p,h=>by
  simp only [Eg] at h
  obtain ⟨hl,hm⟩:=yv K.owns j0
  rcases CF j (rV K.owns j0).length with h1 | h1
  ·rw [BO h1] at h; exact hm j p h
  ·rw [Cs h1,hl] at h
   rw [hl] at h1
   have:=FP r _ _ p h
   omega
theorem ro:∀ (vs:List AV) (i t:Nat),GS (S8 i vs) t=if i<=t/\t<i+vs.length then vs.getD (t-i) .undef else .undef
 | [],i,t=>by simp [S8,GS]
 | v::vs,i,t=>by
  simp only [S8,GS]
  by_cases h:i=t
  ·subst h
   rw [if_pos rfl,if_pos ⟨Nat.le_refl _,by simp⟩]
   simp
  ·rw [if_neg h,ro vs (i+1) t]
   by_cases h1:i+1<=t/\t<i+1+vs.length
   ·rw [if_pos h1,if_pos ⟨by omega,by simp; omega⟩,show t-i=(t-(i+1))+1 by omega]
    simp
   ·rw [if_neg h1,if_neg (by simp; omega)]
theorem yw:∀ {rs:List Res} {aw:List AV} {tk tk':List Nat} {s s':St},s.result tk rs=some (aw,tk',s')->aw.length=rs.length
 | [],aw,tk,tk',s,s',h=>by cases h; rfl
 | r::rs,aw,tk,tk',s,s',h=>by
  simp only [St.result] at h
  cases h1:s.resCells r with
  | none=>rw [h1] at h; cases h
  | some cs =>
   rw [h1] at h
   simp only [AA] at h
   cases h2:s.shutAll tk r.K.leaves cs with
   | none=>rw [h2] at h; cases h
   | some y =>
    rw [h2] at h
    simp only [AA] at h
    cases h3:r.K.ofCells y.1 with
    | none=>rw [h3] at h; cases h
    | some x =>
     rw [h3] at h
     simp only [AA] at h
     cases h4:y.2.2.result y.2.1 rs with
     | none=>rw [h4] at h; cases h
     | some z =>
      obtain ⟨aw',t2,s2⟩:=z
      rw [h4] at h
      cases h
      simp [yw h4]
theorem AFu {cal:Gi} {k f:Nat} {a:BL} {args bs rs:List AV} (hcal:J6 P cal) (hb:AEQ P f a=true) (hl:args.length=a.params.length/\bs.length=(Eg a.params 0).length)
  (h:(ACN cal k a args bs).map (EC a.outs)=some rs):o_ P f/\(∀ r∈rs,r.cells.all AV.nilFree=true)/\∃ n,n+bs.length=rs.length /\
  ∀ (H:HP) (φ:CQ) (w:World) (cargs:List Value),SR H φ (Bo bs args) w->Az (VB H φ (Bo bs args)) (Di (Fx bs) args) cargs ->
   Calls P f cargs.toArray w fun out w'=>match out with
    | .returned v=>QM H φ w args bs (rs.drop n) (rs.take n) v w'
    | _=>False:=by
 unfold AEQ at hb
 split at hb
 case h_2=>cases hb
 rename_i fn hfn
 split at hb
 case h_2=>cases hb
 rename_i c hc
 simp only [AE,EY,decide_eq_true_eq] at hb
 obtain ⟨⟨⟨⟨hname,hcode⟩,hress⟩,hlen⟩,hout⟩:=hb
 cases hr:ACN cal k a args bs with
 | none=>rw [hr] at h; cases h
 | some r =>
 rw [hr] at h
 simp only [Option.map_some,BT] at h
 subst h
 have hol:a.outs.length=a.res.length+bs.length:=by rw [hl.2]; simp [BL.outs]
 have el:(EC a.outs r).length=a.outs.length:=by
  have:∀ (Ks:List Kd) (y:RT Ks),(EC Ks y).length=Ks.length:=by
   intro Ks
   induction Ks with
   | nil=>intro y; rfl
   | cons K Ks ih =>
    intro y
    cases Ks with
    | nil=>rfl
    | cons L Ks=>simp only [EC,List.length_cons] at ih ⊢; rw [ih y.2]
  exact this _ _
 refine ⟨⟨fn,c,hfn,hname,hc⟩,fun q hq=>?_,a.res.length,by rw [el,hol],fun H φ w cargs hs hargs=>?_⟩
 ·obtain ⟨j,hj⟩:=List.mem_iff_getElem?.1 hq
  have hjl:j<a.outs.length:=by rw [<- el]; exact (As.1 hj).1
  obtain ⟨x,hx⟩:=pB a.outs r j a.outs[j] (by simp)
  rw [hx] at hj
  cases hj
  rw [d_]
  exact pI _ _ (Bp.1 hout _ (BC hjl))
 ·have hcl:cargs.length=args.length:=by rw [hargs.length,QN]
  have hsz:(cargs.toArray++Array.replicate (fn.ntmps-cargs.toArray.size) undef).size=fn.ntmps:=by
   simp only [Array.size_append,List.size_toArray,Array.size_replicate]
   omega
  have hf0:HR H φ (Bo bs args) (S8 0 (Di (Fx bs) args)) (cargs.toArray++Array.replicate (fn.ntmps-cargs.toArray.size) undef):=by
   intro t
   rw [ro]
   split
   ·rename_i ht
    have ht2:t<(Di (Fx bs) args).length:=by omega
    have h1:(Di (Fx bs) args)[t]? = some (Di (Fx bs) args)[t]:=by simp
    obtain ⟨v,hv,hvb⟩:=hargs.get t _ h1
    have e1:(Di (Fx bs) args).getD (t-0) .undef=(Di (Fx bs) args)[t]:=by simp [List.getD,ht2]
    have ht3:t<cargs.length:=(As.1 hv).1
    have e2:(cargs.toArray++Array.replicate (fn.ntmps-cargs.toArray.size) undef).getD t undef=v:=by
     rw [Array.getD_eq_getD_getElem?,Array.getElem?_append_left (by simpa using ht3)]
     simp only [List.getElem?_toArray,hv,Option.getD_some]
    rw [e1,e2]
    exact VA.of_VB hvb
   ·trivial
  have fr0:Fr bs.length (Bo bs args).length H φ w H φ (Bo bs args) w:=by
   refine ⟨rfl,rfl,rfl,Nat.le_refl _,fun _ _ _=>rfl,fun _ _=>rfl,fun i bi hi _ b hb=>.inr ⟨i,(As.1 hi).1,hb⟩,fun j hj=>?_,fun _ _ _=>rfl⟩
   have hv:bs[j]? = some bs[j]:=by simp
   unfold Ae
   rw [KX,BO (by rw [Bm]; exact hj),NQ bs _ j _ hv]
   generalize bs[j]=v
   cases v<;>rfl
  have fin:rm fn.ntmps (AH a) r ⟨S8 0 (Di (Fx bs) args),Bo bs args⟩ { tmps:=cargs.toArray++Array.replicate (fn.ntmps-cargs.toArray.size) undef,defers:=[] } w H φ
    (fun act' w'=>act'.defers=[]/\∃ v,(results fn act'.tmps).run P w'=.ok v w'/\QM H φ w args bs ((EC a.outs r).drop a.res.length) ((EC a.outs r).take a.res.length) v w'):=by
   intro s' act' w' H' φ' hk hst hf' hn' hd'
   refine ⟨hd',?_⟩
   unfold AH at hk
   cases h1:s'.result (List.range (Eg a.params 0).length) a.res with
   | none=>rw [h1] at hk; cases hk
   | some y =>
    obtain ⟨rsv,t1,s1⟩:=y
    rw [h1] at hk
    simp only [AA] at hk
    cases h2:s1.shutBoxes t1 (Eg a.params 0) with
    | none=>rw [h2] at hk; cases hk
    | some z =>
     obtain ⟨outs,t2,s2⟩:=z
     rw [h2] at hk
     simp only [AA] at hk
     obtain ⟨nf,v,hv,hend⟩:=AGx (P:=P) (args:=args) hst.sr hf' (hst.fr _ _ _ _ _ fr0) hst.le (fun j p hp=>by have:=FP a.params 0 j p hp; omega) hl.2 h1 h2 hress
     have henc:=ym _ _ r hk nf
     have hrl:=yw h1
     rw [henc,<- hrl,List.drop_left,List.take_left]
     exact ⟨v,hv,hend⟩
  have hwp:=AFr (P:=P) (n:=fn.ntmps) (k:=k) hcal a.body c hcode (RT a.outs) (AH a) (AH a) (fun _ _=>none) r ⟨S8 0 (Di (Fx bs) args),Bo bs args⟩
   { tmps:=cargs.toArray++Array.replicate (fn.ntmps-cargs.toArray.size) undef,defers:=[] } w H φ
   (bodyPost P fn fun out w'=>match out with
    | .returned v=>QM H φ w args bs ((EC a.outs r).drop a.res.length) ((EC a.outs r).take a.res.length) v w'
    | _=>False) hs hf0 hsz hr fin fin (fun i s' act' w' H' φ' hk=>by cases hk)
  exact calls_of_wp hfn hc hwp
def Aw (P:Program) (f:Nat) (a:BL):Bool:=(decide (f<Br)||decide (2*Br<=f))&&AEQ P (f % Br) a
def AER (P:Program) (fns:Nat->Option BL):Prop:=∀ f a,fns f=some a->Aw P f a=true
theorem AA5 {fns:Nat->Option BL} {prims:Gi} (ht:AER P fns) (hp:J6 P prims):∀ k,J6 P (lu fns prims k)
 | 0=>⟨fun f k t T _ h=>(by cases h),fun f args bs rs _ h=>by cases h⟩
 | k+1=>⟨fun f q t T hf h=>(by
  simp only [lu] at h
  split at h
  ·rename_i a ha
   have:=ht _ a ha
   simp only [Aw,AE,Do,decide_eq_true_eq] at this
   omega
  ·exact hp.1 f q t T hf h),fun f args bs rs hlt h=>by
  simp only [lu] at h
  split at h
  ·rename_i a ha
   split at h
   ·rename_i hl
    exact AFu (AA5 ht hp k) (by have:=ht f a ha; simp only [Aw,AE] at this; exact this.2) hl h
   ·cases h
  ·exact hp.2 f args bs rs hlt h⟩
end Go.Proofs.YtfcgblnlopemkaaGreatDoor.Core

namespace Go.Proofs.YtfcgblnlopemkaaGreatDoor.Core
open Go
def Kd.ok:(K:Kd)->K.T->Prop
 | .int k,n=>k.min<=n/\n<=k.max
 | .bool,_=>True
 | .str,s=>s.size<=maxLen
 | .slice e,xs=>xs.length<=maxLen/\∀ x∈xs,Kd.ok e x
 | .pair a b,x=>a.ok x.1/\b.ok x.2
 | .own _ _,_=>False
 | .ref _,_=>False
 | .fun _,_=>False
 | .clo _ _,_=>False
mutual
def jI (P:Program):Nat->TypeId->Kd->Bool
 | 0,_,_=>false
 | D+1,t,K=>match P.underlying t with
  | some (.int k)=>(match K with | .int k'=>decide (k=k') | _=>false)
  | some .bool=>(match K with | .bool=>true | _=>false)
  | some .string=>(match K with | .str=>true | _=>false)
  | some (.slice te)=>(match K with | .slice e=>P.cellsOf te==e.sz&&jI P D te e | _=>false)
  | some (.struct fs)=>P.cellsOf t==K.sz&&(match K with | .pair _ _=>true | _=>false)&&aW P D fs.toList 0 K
  | _=>false
def aW (P:Program):Nat->List Field->Nat->Kd->Bool
 | 0,_,_,_=>false
 | _+1,[],_,_=>false
 | D+1,[f],off,K=>f.offset==off&&P.cellsOf f.type==K.sz&&jI P D f.type K
 | D+1,f::g::fs,off,K=>match K with
  | .pair a b=>f.offset==off&&P.cellsOf f.type==a.sz&&jI P D f.type a&&aW P D (g::fs) (off+a.sz) b
  | _=>false
end
def VX (w:World):HP:=fun b=>w.heap[b]?
theorem ul {w:World} {base:Nat} {a:Addr} {n:Nat} {cs:List Value} (h:w.cells? base a n=some cs):cs.length=n/\∀ i,i<n->w.cell? (a.add i)=cs[i]? := by
 unfold World.cells? at h
 split at h
 ·exact ⟨by simpa using mapM_some_length h,fun i hi=>mapM_some_get h i i (by simp [hi])⟩
 ·cases h
theorem yx (a:Addr):a.add 0=a:=by unfold Addr.add; split<;>simp_all
theorem yy {w:World} {a:Addr} {u:Value} (h:w.cell? a=some u):a=⟨a.block,a.off,none⟩/\∃ c el fz,w.heap[a.block]? = some (.cells c el fz)/\c[a.off]? = some u:=by
 obtain ⟨b,o,sp⟩:=a
 simp only [World.cell?] at h
 split at h
 ·rename_i c el fz hc
  cases sp with
  | some sp=>simp at h
  | none =>
   simp only [Option.isSome_none,Bool.false_eq_true,if_false] at h
   exact ⟨rfl,c,el,fz,hc,h⟩
 ·cases h
mutual
theorem uE {H:Type} {enc:TypeId×Value->H} {P:Program} {w:World} {base:Nat} {spare:Nat->Bool} {held:Bool}:∀ (D:Nat) (t:TypeId) (K:Kd) (fuel:Nat) (cs:List Value) (x:DataW H×List MemPlace),jI P D t K=true ->
  DataW.trod enc P w base spare held fuel t cs=some x->∃ y:K.T,Gj (VX w) K y cs/\Kd.ok K y
 | 0,t,K,fuel,cs,x,h,_=>by simp [jI] at h
 | D+1,t,K,fuel,cs,x,h,hd=>by
  unfold jI at h
  split at h
  ·rename_i k hu
   cases K<;>first | cases h | skip
   simp only [decide_eq_true_eq] at h
   subst h
   obtain ⟨n,rfl,_,hw⟩:=DataW.trod_int hu hd
   simp only [Lit.wf,AE,decide_eq_true_eq] at hw
   exact ⟨n,rfl,hw⟩
  ·rename_i hu
   cases K<;>first | cases h | skip
   obtain ⟨b,rfl,_⟩:=DataW.trod_bool hu hd
   exact ⟨b,rfl,trivial⟩
  ·rename_i hu
   cases K<;>first | cases h | skip
   obtain ⟨s,rfl,_,hs⟩:=DataW.trod_string hu hd
   exact ⟨s,rfl,hs⟩
  ·rename_i te hu
   cases K<;>first | cases h | skip
   rename_i e
   simp only [AE,beq_iff_eq] at h
   rcases DataW.trod_slice hu hd with ⟨rfl,_⟩ | ⟨a,len,cap,elems,rest,n,_,rfl,_,_,hl,hm,hlen,hel,_⟩
   ·exact ⟨[],⟨_,rfl,YI⟩,by simp [Kd.ok]⟩
   ·have each:∀ i,i<len->∃ y:e.T,∃ cs',w.cells? base (a.add (i*e.sz)) e.sz=some cs'/\Gj (VX w) e y cs'/\Kd.ok e y:=by
     intro i hi
     have h1:=hel i hi
     rw [h.1] at h1
     have h2:elems[i]? = some (elems[i]'(by omega)):=by simp
     rw [h2] at h1
     cases hq:w.cells? base (a.add (i*e.sz)) e.sz with
     | none=>rw [hq] at h1; cases h1
     | some cs' =>
      rw [hq] at h1
      simp only [AA] at h1
      obtain ⟨y,h3,h4⟩:=uE D te e n cs' _ h.2 h1
      exact ⟨y,cs',rfl,h3,h4⟩
    have all:∀ m,m<=len->∃ ys:List e.T,ys.length=m/\∀ i y,ys[i]? = some y->∃ cs',w.cells? base (a.add (i*e.sz)) e.sz=some cs'/\Gj (VX w) e y cs'/\Kd.ok e y:=by
     intro m
     induction m with
     | zero=>intro _; exact ⟨[],rfl,fun i y h=>by simp at h⟩
     | succ m ih =>
      intro hm
      obtain ⟨ys,l,hy⟩:=ih (by omega)
      obtain ⟨y,cs',g1,g2,g3⟩:=each m (by omega)
      refine ⟨ys++[y],by simp [l],fun i z hz=>?_⟩
      rcases CF i ys.length with hi | hi
      ·rw [BO hi] at hz
       exact hy i z hz
      ·rw [Cs hi] at hz
       have hi0:i-ys.length=0:=by
        have:=(As.1 hz).1
        simp at this
        omega
       rw [hi0] at hz
       simp at hz
       subst hz
       have:i=m:=by omega
       subst this
       exact ⟨cs',g1,g2,g3⟩
    obtain ⟨ys,l,hy⟩:=all len (Nat.le_refl _)
    have hok:ys.length<=maxLen/\∀ y∈ys,Kd.ok e y:=by
     refine ⟨by omega,fun y hm=>?_⟩
     obtain ⟨i,hi⟩:=List.mem_iff_getElem?.1 hm
     obtain ⟨_,_,_,g⟩:=hy i y hi
     exact g
    refine ⟨ys,⟨_,rfl,some a,cap,by rw [l],by omega,?_⟩,hok⟩
    cases hys:ys with
    | nil=>exact .inl rfl
    | cons y0 yr =>
     right
     have hsz:=Kd.sz_pos e
     obtain ⟨cs0,g1,g2,_⟩:=hy 0 y0 (by rw [hys]; rfl)
     obtain ⟨l0,c0⟩:=ul g1
     have hc0:=c0 0 hsz
     have hcs0:cs0[0]? = some (cs0[0]'(by omega)):=by simp
     rw [hcs0,Nat.zero_mul,yx,yx] at hc0
     obtain ⟨ea,c,el,fz,hb,_⟩:=yy hc0
     have addadd:∀ x y:Nat,(a.add x).add y=⟨a.block,a.off+(x+y),none⟩:=by
      intro x y
      rw [ea,Addr.add_none,Addr.add_none,Nat.add_assoc]
     refine ⟨a.block,a.off,c,el,fz,by rw [<- ea],hb,fun j y hj=>?_⟩
     obtain ⟨cs',g3,g4,_⟩:=hy j y (by rw [hys]; exact hj)
     obtain ⟨l1,c1⟩:=ul g3
     refine ⟨cs',g4,l1,fun i u hu=>?_⟩
     have hi:i<e.sz:=by rw [<- l1]; exact (As.1 hu).1
     have h3:=c1 i hi
     rw [hu,addadd] at h3
     obtain ⟨_,c2,el2,fz2,hb2,h4⟩:=yy h3
     rw [hb] at hb2
     cases hb2
     rw [Nat.add_assoc]
     exact h4
  ·rename_i fs hu
   simp only [AE,beq_iff_eq] at h
   obtain ⟨⟨hc,_⟩,h⟩:=h
   obtain ⟨xs,n,_,_,hl,_,hf⟩:=DataW.trod_struct hu hd
   have:=rp (w:=w) (P:=P) D fs.toList 0 K n cs xs h (fun i f hi=>hf i f (by simpa using hi)) (by
    have:xs.length=fs.size:=by assumption
    simpa using this)
   obtain ⟨y,h1,h2⟩:=this
   refine ⟨y,?_,h2⟩
   rw [hc] at hl
   rw [List.drop_zero,List.take_of_length_le (by omega)] at h1
   exact h1
  ·cases h
theorem rp {H:Type} {enc:TypeId×Value->H} {P:Program} {w:World} {base:Nat} {spare:Nat->Bool} {held:Bool}:∀ (D:Nat) (fs:List Field) (off:Nat) (K:Kd) (fuel:Nat) (cs:List Value) (xs:List (DataW H×List MemPlace)),aW P D fs off K=true ->
  (∀ (i:Nat) (f:Field),fs[i]? = some f->DataW.trod enc P w base spare held fuel f.type ((cs.drop f.offset).take (P.cellsOf f.type))=xs[i]?)->xs.length=fs.length->∃ y:K.T,Gj (VX w) K y ((cs.drop off).take K.sz)/\Kd.ok K y
 | 0,fs,off,K,fuel,cs,xs,h,_,_=>by simp [aW] at h
 | D+1,[],off,K,fuel,cs,xs,h,_,_=>by simp [aW] at h
 | D+1,[f],off,K,fuel,cs,xs,h,hf,hl=>by
  simp only [aW,AE,beq_iff_eq] at h
  obtain ⟨⟨rfl,hc⟩,ht⟩:=h
  have h1:=hf 0 f rfl
  rw [hc] at h1
  have h2:xs[0]? = some (xs[0]'(by simp at hl; omega)):=by simp
  rw [h2] at h1
  exact uE D f.type K fuel _ _ ht h1
 | D+1,f::g::fs,off,K,fuel,cs,xs,h,hf,hl=>by
  simp only [aW] at h
  cases K with
  | pair a b =>
   simp only [AE,beq_iff_eq] at h
   obtain ⟨⟨⟨rfl,hc⟩,ht⟩,hr⟩:=h
   have h1:=hf 0 f rfl
   rw [hc] at h1
   have h2:xs[0]? = some (xs[0]'(by simp at hl; omega)):=by simp
   rw [h2] at h1
   obtain ⟨y1,r1,o1⟩:=uE D f.type a fuel _ _ ht h1
   obtain ⟨y2,r2,o2⟩:=rp (w:=w) (P:=P) D (g::fs) (f.offset+a.sz) b fuel cs (xs.drop 1) hr (fun i q hi=>by
    have:=hf (i+1) q (by simpa using hi)
    rw [this,DC,Nat.add_comm]) (by simp at hl ⊢; omega)
   refine ⟨(y1,y2),⟨_,_,?_,r1,r2⟩,o1,o2⟩
   apply List.ext_getElem?
   intro i
   have l1:=r1.length
   have l2:=r2.length
   simp only [Kd.sz]
   rcases CF i a.sz with hi | hi
   ·rw [BO (by omega)]
    simp only [CA,DC]
    rw [if_pos (by omega),if_pos hi]
   ·rw [Cs (by omega),l1]
    simp only [CA,DC]
    by_cases h3:i<a.sz+b.sz
    ·rw [if_pos h3,if_pos (by omega)]
     congr 1
     omega
    ·rw [if_neg h3,if_neg (by omega)]
  | _=>cases h
end
theorem AES {H:Type} {enc:TypeId×Value->H} {P:Program} {w:World} {base:Nat} {spare:Nat->Bool} {held:Bool} {t:TypeId} {K:Kd} {v:Value} {d:DataW H} {p:List MemPlace} (h:jI P 40 t K=true) (hf:Qd K v)
  (hd:DataW.Trod enc P w base spare held t v d p):∃ x:K.T,VE (VX w) (K.av x) v/\Kd.ok K x:=by
 obtain ⟨fuel,hd⟩:=hd
 obtain ⟨x,h1,h2⟩:=uE 40 t K fuel _ _ h hd
 exact ⟨x,AEB h1 hf,h2⟩
theorem AFv {P:Program} {W:World} {r:Reach} {base:Nat} {t:TypeId} {K:Kd} {v:Value} (h:jI P 40 t K=true) (hv:Value.okWide P W r base t v):Qd K v:=by
 unfold jI at h
 split at h
 ·rename_i k hu
  obtain ⟨n,rfl⟩:=WideShapes.okWide_int hu hv
  cases K<;>first | cases h | rfl
 ·rename_i hu
  obtain ⟨n,rfl⟩:=WideShapes.okWide_bool hu hv
  cases K<;>first | rfl | cases h
 ·rename_i hu
  obtain ⟨n,rfl⟩:=WideShapes.okWide_string hu hv
  cases K<;>first | rfl | cases h
 ·rename_i te hu
  obtain ⟨a,l,c,rfl⟩:=WideShapes.okWide_slice hu hv
  cases K<;>first | cases h | rfl
 ·rename_i fs hu
  obtain ⟨cs,rfl,_⟩:=WideShapes.okWide_struct hu hv
  simp only [AE] at h
  cases K<;>first | exact ⟨_,rfl⟩ | cases h.1.2
 ·cases h
theorem AET (w:World) (φ:CQ) (ht:zS (VX w)):SR (VX w) φ [] w:=by
 refine ⟨fun b o h=>h,fun id bx h=>by simp at h,fun i j bi bj h=>by simp at h,fun i bi h=>by simp at h,fun id cs h=>by simp at h,ht⟩
theorem ADQ {P:Program} {fns:Nat->Option BL} {prims:Gi} (ht:AER P fns) (hp:J6 P prims) {k f:Nat} {args:List AV} (h:lu fns prims k f args []=some [.bool true]) {W:World} {cargs:List Value}
  (ha:Az (VE (VX W)) args cargs) (hlt:f<Br:=by decide) (htab:zS (VX W):=by exact fun p h=>by cases h):Calls P f cargs.toArray W fun e W'=>e=.returned (.bool true)/\RowKit.Below W.heap.size W W':=by
 obtain ⟨_,_,n,hn,hc⟩:=(AA5 ht hp k).2 f args [] _ (.inl hlt) h
 rw [Nat.mod_eq_of_lt hlt] at hc
 have hn:n=1:=by simpa using hn
 subst hn
 have opens:∀ {aw:List AV} {vs:List Value} (k:Nat),Az (VE (VX W)) aw vs->Di k aw=aw/\BM (cellsOf aw)=[]:=by
  intro aw
  induction aw with
  | nil=>intro vs k _; exact ⟨rfl,rfl⟩
  | cons a aw ih =>
   intro vs k h
   obtain ⟨v,r,rfl,h1,h2⟩:=h
   obtain ⟨o1,o2,o3⟩:=h1.opens k
   obtain ⟨i1,i2⟩:=ih (k+AT a.cells) h2
   refine ⟨by simp only [Di,o1,i1],?_⟩
   simp only [cellsOf,List.flatMap_cons] at i2 ⊢
   rw [CW,o3,i2]
   rfl
 have hst:Bo [] args=[]:=by
  rw [KX,CW,(opens 0 ha).2]
  rfl
 have:=hc (VX W) (fun _=>.nilIface) W cargs (by rw [hst]; exact AET W _ htab) (by rw [(opens _ ha).1,hst]; exact ha.imp fun _ _ h=>VB.of_VE h)
 refine this.mono fun e W' he=>?_
 cases e with
 | returned v =>
  obtain ⟨H',φ',_,_,f,hr⟩:=he
  have hv:v=.bool true:=hr
  subst hv
  rw [hst] at f
  exact ⟨rfl,f.os,f.tape,f.output,f.size,fun k hk=>f.old k hk fun j hj=>by simp at hj⟩
 | panicked c=>exact he.elim
 | outgrown=>exact he.elim
end Go.Proofs.YtfcgblnlopemkaaGreatDoor.Core
