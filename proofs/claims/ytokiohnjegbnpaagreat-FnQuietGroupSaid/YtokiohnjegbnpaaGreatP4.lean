/- Texts of the proof, packed: part 5. -/
import Derived.Test.YtokiohnjegbnpaaGreatP3
import Derived.JoinedOf
import Derived.Test.YtokiohnjegbnpaaGreatRows
import Derived.ProofKit
set_option linter.unusedVariables false
set_option linter.unusedSimpArgs false
namespace Go.Proofs.YtokiohnjegbnpaaGreat.Core
open Go
def P8 (m:PM):Int:=if m.op=1 then m.ti.2.2 else vl m.items m.ti.1.toList
def Tc (g:PG) (vr:Nat->Int) (y:AI):Prop:=∃ (k:Nat) (c:PC),g.calls[k]? = some c/\c.op=1/\c.key=y.1/\c.val=y.2.1/\vr k=y.2.2/\1<=y.2.2
structure IF (V:Int->List Int) (g:PG) (vr:Nat->Int):Prop where
 f1:∀ (k:Nat) c,g.calls[k]? = some c->0<=c.done->∀ j,(g.mem j).base=true->c.ep<=(g.mem j).ep->c.ver<=vl (g.mem j).items c.key.toList
 f2:∀ (k:Nat) c,g.calls[k]? = some c->0<=c.done->∀ x∈g.fly,x.kind=2\/x.kind=3->c.ep<x.ep->c.ver<=vl x.items c.key.toList
 p1:∀ i,(g.mem i).op≠0->HJ g i\/((∀ j,(g.mem j).base=true->(g.mem i).ep<(g.mem j).ep->P8 (g.mem i)<=vl (g.mem j).items (g.mem i).ti.1.toList)/\(∀ x∈g.fly,x.kind=2\/x.kind=3->(g.mem i).ep<x.ep->P8 (g.mem i)<=vl x.items (g.mem i).ti.1.toList) /\
  (∀ (k:Nat) c,g.calls[k]? = some c->0<=c.done->c.op=2->(g.mem i).ep<c.ep->c.key.toList=(g.mem i).ti.1.toList->P8 (g.mem i)<=c.ver))
 fr:∀ (k l:Nat) c d,g.calls[k]? = some c->g.calls[l]? = some d->0<=c.done->0<=d.done->c.op=2->c.key.toList=d.key.toList->vr l<vr k->d.ver<=c.ver
 vs:∀ (k:Nat) c,g.calls[k]? = some c->0<=c.done->c.ver<=vr k/\(c.op=1->c.ver=vr k)
 pm:∀ i,∀ y∈(g.mem i).items,Tc g vr y
 px:∀ x∈g.fly,∀ y∈x.items,Tc g vr y
 pt:∀ i,(g.mem i).op=1->Tc g vr (g.mem i).ti
 gt:∀ (k:Nat) c,g.calls[k]? = some c->0<=c.done->c.op=2->(c.ver=0/\c.got=ByteArray.empty)\/∃ y,Tc g vr y/\y.1.toList=c.key.toList/\c.ver=y.2.2/\c.got=y.2.1
theorem IF.mstep {V nv g i m T vr now} (h:IF V g vr) (ha:IA V nv g) (ht:IT V g vr now) (hz:IZ V g vr) (he:IE V g) (hs:CE V nv g i m T):IF V (g.set i m T) vr:=by
 have hmem:∀ j,(g.set i m T).mem j=if j=i then m else g.mem j:=fun _=>rfl
 have hfly:(g.set i m T).fly=g.fly++T:=rfl
 have hcal:(g.set i m T).calls=g.calls:=rfl
 obtain ⟨f1,f2,p1,fr,vs,pm,px,pt,gt⟩:=h
 have hstk:=fun j=>HJ.step (j:=j) hs
 have li:=ha.lead i
 have si:=ha.serv i
 have ti:=ha.task i
 have dn:∀ (k:Nat) c,g.calls[k]? = some c->0<=c.done->c.ep<=(g.mem (CL V c.ep)).ep/\((g.mem (CL V c.ep)).ep=c.ep->(g.mem (CL V c.ep)).leads=true->(g.mem (CL V c.ep)).base=true)/\(∀ j∈V c.ep,j≠CL V c.ep->PO g j c.ep):=by
  intro k c hk hd
  obtain ⟨d1,d2,d3,d4,d5,d6,d7⟩:=ht.dn k c hk hd
  obtain ⟨e,n,x1,x2,x3,x4,x5,x6⟩:=ht.st k (by omega)
  have:e=c.ep:=by omega
  subst this
  exact ⟨x5,fun q1 q2=>(x6 q1 q2).1,hz.w3 k c.ep c.num (by omega) d1 d3 d4⟩
 have q1:=fun a k=>aM (he.ok i) a k
 have k1:∀ (k:Nat) c,g.calls[k]? = some c->0<=c.done->m.base=true->c.ep<=m.ep->c.ver<=vl m.items c.key.toList:=by
  intro k c hk hd
  obtain ⟨d1,d2,d3⟩:=dn k c hk hd
  have g1:=f1 k c hk hd i
  have g2:=f2 k c hk hd
  have d3i:=d3 i
  have q1c:=fun a=>q1 a c.key.toList
  unfold PO at d3i
  clear dn f1 f2 p1 fr vs pm px pt gt hstk q1 d3 ha ht hz he hmem hfly hcal
  cases hs<;>simp_all [PM.idle]<;>grind
 have k2:∀ (k:Nat) c,g.calls[k]? = some c->0<=c.done->∀ x∈T,x.kind=2\/x.kind=3->c.ep<x.ep->c.ver<=vl x.items c.key.toList:=by
  intro k c hk hd
  have g1:=f1 k c hk hd i
  have g2:=f2 k c hk hd
  clear dn f1 f2 p1 fr vs pm px pt gt hstk q1 ha ht hz he hmem hfly hcal k1
  cases hs<;>simp_all [PM.idle]<;>grind
 have special:∀ j,j≠i->(g.mem j).op≠0->(g.mem i).base=true->(g.mem i).ep=(g.mem j).ep->(g.mem i).ep<m.ep->(∀ x∈T,x.kind≠6/\x.kind≠8)->HJ (g.set i m T) j\/P8 (g.mem j)<=vl (g.mem i).items (g.mem j).ti.1.toList:=by
  intro j hj ho hb hep hlt hT
  obtain ⟨t1,t2,t3⟩:=ha.task j ho
  obtain ⟨s1,s2,s3⟩:=ha.serv j t1
  rcases t2 with t2 | t2
  ·by_cases hr:i∉(g.mem j).left\/∃ x∈g.fly,x.kind=6/\x.frm=i/\x.ep=(g.mem j).ep/\x.num=(g.mem j).num
   ·have:=he.e3 j t2 i (Ne.symm hj) hb hep hr
    right
    unfold P8
    rw [if_pos t2,this,eE,(he.e5 j t2).1]
    exact Int.le_refl _
   ·left
    have hr1:i∈(g.mem j).left:=by
     by_cases q:i∈(g.mem j).left
     ·exact q
     ·exact absurd (.inl q) hr
    refine ⟨i,by rw [hmem,if_neg hj]; exact hr1,by rw [hmem,if_neg hj,hmem,if_pos rfl]; omega,fun x hx hk hf hxe hn=>?_⟩
    rw [hmem,if_neg hj] at hk hxe hn
    rw [hfly] at hx
    rcases List.mem_append.1 hx with q | q
    ·exact hr (.inr ⟨x,q,by omega,hf,hxe,hn⟩)
    ·have:=hT x q; omega
  ·right
   unfold P8
   rw [if_neg (by omega)]
   rcases he.e2 j s2 s1 i hb hep with q | q
   ·rw [q]; exact Int.le_refl _
   ·omega
 have kp:∀ j,j≠i->(g.mem j).op≠0->HJ g j\/HJ (g.set i m T) j\/((m.base=true->(g.mem j).ep<m.ep->P8 (g.mem j)<=vl m.items (g.mem j).ti.1.toList)/\(∀ x∈T,x.kind=2\/x.kind=3->(g.mem j).ep<x.ep->P8 (g.mem j)<=vl x.items (g.mem j).ti.1.toList)):=by
  intro j hj ho
  rcases p1 j ho with q | ⟨b1,b2,b3⟩
  ·exact .inl q
  ·have sp:=special j hj ho
   have b1i:=b1 i
   have q1c:=fun a=>q1 a (g.mem j).ti.1.toList
   generalize hA:HJ (g.set i m T) j=A at *
   generalize P8 (g.mem j)=tb at *
   right
   clear dn f1 f2 p1 fr vs pm px pt gt hstk q1 ha ht hz he hmem hfly hcal k1 k2 special hA b1 b3
   cases hs<;>simp_all [PM.idle]<;>grind
 have kt:m.op≠0->(g.mem i).op≠0/\m.op=(g.mem i).op/\m.ti=(g.mem i).ti/\m.items=(g.mem i).items/\m.ep=(g.mem i).ep/\(∀ x∈T,x.kind≠2/\x.kind≠3):=by
  clear dn f1 f2 p1 fr vs pm px pt gt hstk q1 ha ht hz he hmem hfly hcal k1 k2 special kp
  cases hs<;>simp_all [PM.idle]<;>grind
 have kb:m.op≠0->m.base=true:=fun ho=>by
  obtain ⟨t1,t2⟩:=kt ho
  have:=(si (ti t1).1).1
  clear dn f1 f2 p1 fr vs pm px pt gt hstk q1 ha ht hz he hmem hfly hcal k1 k2 special kp
  cases hs<;>simp_all [PM.idle]
 have kv:∀ y∈m.items,Tc g vr y:=by
  have pmi:=pm i
  have ps:=fun (a b:AI) h=>Sn (x:=(g.mem i).items) (a:=a) (b:=b) h
  clear dn f1 f2 p1 fr vs pm pt gt hstk q1 ha ht hz he hmem hfly hcal k1 k2 special kp kt kb
  cases hs<;>simp_all [PM.idle]<;>grind
 have kw:∀ x∈T,∀ y∈x.items,Tc g vr y:=by
  have pmi:=pm i
  clear dn f1 f2 p1 fr vs pm pt gt hstk q1 ha ht hz he hmem hfly hcal k1 k2 special kp kt kb kv
  cases hs<;>simp_all [PM.idle]<;>grind
 clear hs
 have hprov:∀ y,Tc g vr y->Tc (g.set i m T) vr y:=fun y h=>h
 refine ⟨?_,?_,?_,fr,vs,?_,?_,?_,fun k c h1 h2 h3=>gt k c h1 h2 h3⟩
 ·intro k c hk hd j
  rw [hmem]
  split
  ·exact k1 k c hk hd
  ·exact f1 k c hk hd j
 ·intro k c hk hd x hx
  rw [hfly] at hx
  rcases List.mem_append.1 hx with q | q
  ·exact f2 k c hk hd x q
  ·exact k2 k c hk hd x q
 ·intro j ho
  by_cases hj:j=i
  ·subst hj
   have ho2:m.op≠0:=by rw [hmem,if_pos rfl] at ho; exact ho
   obtain ⟨t1,t2,t3,t4,t5,t6⟩:=kt ho2
   have te:P8 m=P8 (g.mem j):=by unfold P8; rw [t2,t3,t4]
   rcases p1 j t1 with q | ⟨b1,b2,b3⟩
   ·exact .inl (hstk j q ho)
   ·right
    rw [hmem,if_pos rfl,te,t3,t5]
    refine ⟨fun l=>?_,fun x hx hk=>?_,b3⟩
    ·rw [hmem]
     split
     ·rename_i e; intro _ h; omega
     ·exact b1 l
    ·rw [hfly] at hx
     rcases List.mem_append.1 hx with r | r
     ·exact b2 x r hk
     ·have:=t6 x r; omega
  ·have ho2:(g.mem j).op≠0:=by rw [hmem,if_neg hj] at ho; exact ho
   rcases kp j hj ho2 with q | q | ⟨q1',q2'⟩
   ·exact .inl (hstk j q ho)
   ·exact .inl q
   ·rcases p1 j ho2 with q | ⟨b1,b2,b3⟩
    ·exact .inl (hstk j q ho)
    ·right
     rw [hmem,if_neg hj]
     refine ⟨fun l=>?_,fun x hx hk=>?_,b3⟩
     ·rw [hmem]
      split
      ·exact q1'
      ·exact b1 l
     ·rw [hfly] at hx
      rcases List.mem_append.1 hx with r | r
      ·exact b2 x r hk
      ·exact q2' x r hk
 ·intro j y hy
  rw [hmem] at hy
  split at hy
  ·exact kv y hy
  ·exact pm j y hy
 ·intro x hx
  rw [hfly] at hx
  rcases List.mem_append.1 hx with r | r
  ·exact px x r
  ·exact kw x r
 ·intro j ho
  by_cases hj:j=i
  ·subst hj
   rw [hmem,if_pos rfl] at ho ⊢
   obtain ⟨t1,t2,t3,t4,t5,t6⟩:=kt (by omega)
   rw [t3]
   exact pt j (by omega)
  ·rw [hmem,if_neg hj] at ho ⊢
   exact pt j ho
theorem IA.drop {V nv g f} (h:IA V nv g):IA V nv { g with fly:=f }:=⟨h.1,h.2,h.3,h.4,h.5,h.6,h.7⟩
theorem IB.drop {V g f} (h:IB V g) (hf:∀ x∈f,x∈g.fly):IB V { g with fly:=f }:=⟨h.mem,fun x hx=>h.fly x (hf x hx)⟩
theorem IZ.drop {V g vr f} (h:IZ V g vr) (hf:∀ x∈f,x∈g.fly):IZ V { g with fly:=f } vr:=⟨h.w1,fun x hx=>h.w2 x (hf x hx),h.w3,h.z1,fun x hx=>h.z2 x (hf x hx)⟩
theorem IE.drop {V g f} (h:IE V g) (hf:∀ x∈f,x∈g.fly):IE V { g with fly:=f } :=
 ⟨h.ok,fun x hx=>h.okx x (hf x hx),fun i a b c x hx=>h.e1 i a b c x (hf x hx),h.e2,fun i a j b c d e=>h.e3 i a j b c d (e.imp id fun ⟨x,hx,q⟩=>⟨x,hf x hx,q⟩),fun x hx=>h.e4 x (hf x hx),h.e5⟩
theorem IF.drop {V g vr f} (h:IF V g vr) (hf:∀ x∈f,x∈g.fly):IF V { g with fly:=f } vr :=
 ⟨h.f1,fun k c a b x hx=>h.f2 k c a b x (hf x hx),fun i a=>(h.p1 i a).imp (HJ.less hf) fun ⟨x,y,z⟩=>⟨x,fun w hw=>y w (hf w hw),z⟩,h.fr,h.vs,h.pm,fun x hx=>h.px x (hf x hx),h.pt,h.gt⟩
theorem IF.call {V g vr} {c:PC} (h:IF V g vr) (h1:c.done=-1):IF V { g with calls:=g.calls++[c] } vr:=by
 obtain ⟨f1,f2,p1,fr,vs,pm,px,pt,gt⟩:=h
 have hg:∀ (k:Nat) d,(g.calls++[c])[k]? = some d->0<=d.done->g.calls[k]? = some d:=by
  intro k d hd h0
  have:g.calls[k]? = some d\/(k=g.calls.length/\d=c):=by grind
  rcases this with e | ⟨_,e⟩
  ·exact e
  ·subst e; omega
 have hp:∀ y,Tc g vr y->Tc { g with calls:=g.calls++[c] } vr y:=fun y ⟨k,d,q,r⟩=>⟨k,d,by grind,r⟩
 refine ⟨fun k d a b=>f1 k d (hg k d a b) b,fun k d a b=>f2 k d (hg k d a b) b,fun i a=>(p1 i a).imp id fun ⟨x,y,z⟩=>⟨x,y,fun k d q r=>z k d (hg k d q r) r⟩,fun k l d e q r s t=>fr k l d e (hg k d q s) (hg l e r t) s t,fun k d a b=>vs k d (hg k d a b) b,
  fun i y hy=>hp y (pm i y hy),fun x hx y hy=>hp y (px x hx y hy),fun i a=>hp _ (pt i a),fun k d a b e=>(gt k d (hg k d a b) b e).imp id fun ⟨y,q,r⟩=>⟨y,hp y q,r⟩⟩
section
variable {V:Int->List Int} {nv now:Int} {g:PG} {vr:Nat->Int} {i:Int} {c:PC} {L:List Int} {a:AI} {T:List PX}
def BN (g:PG) (i:Int) (c:PC) (L:List Int) (a:AI) (T:List PX):PG:={ (g.set i (Lr g i c L a) T) with calls:=g.calls++[c] }
def jb (g:PG) (i:Int) (vr:Nat->Int):Nat->Int:=fun k=>if k=g.calls.length then 1000*(g.mem i).ep+((g.mem i).cnt+1) else vr k
theorem IA.start (h:IA V nv g) (h3:(g.mem i).serves=true) (h5:c.op=1\/c.op=2):IA V nv (BN g i c L a T):=by
 obtain ⟨a1,a2,a3,a4,a5,a6,a7⟩:=h
 have b6:=a6 i
 refine ⟨fun j=>?_,fun j=>?_,fun j=>?_,fun j=>?_,fun j=>?_,fun j=>?_,fun j=>?_⟩<;>simp only [BN,PG.set,Lr]<;>split<;>grind
theorem PP (j:Int):((BN g i c L a T).mem j).ep=(g.mem j).ep/\((BN g i c L a T).mem j).base=(g.mem j).base/\((BN g i c L a T).mem j).leads=(g.mem j).leads/\((BN g i c L a T).mem j).fell=(g.mem j).fell/\((BN g i c L a T).mem j).items=(g.mem j).items/\((BN g i c L a T).mem j).serves=(g.mem j).serves/\((BN g i c L a T).mem j).waits=(g.mem j).waits:=by
 simp only [BN,PG.set,Lr]
 split
 ·rename_i e; subst e; exact ⟨rfl,rfl,rfl,rfl,rfl,rfl,rfl⟩
 ·exact ⟨rfl,rfl,rfl,rfl,rfl,rfl,rfl⟩
theorem IB.start (h:IB V g) (hT:∀ y∈T,y.kind=5\/y.kind=7):IB V (BN g i c L a T):=by
 have mono:∀ e,B1 V g e->B1 V (BN g i c L a T) e:=fun e h=>h.mono fun j=>by rw [(PP j).1]; exact Int.le_refl _
 refine ⟨fun j hb=>?_,fun x hx hk=>?_⟩
 ·obtain ⟨q1,q2,_⟩:=PP (g:=g) (i:=i) (c:=c) (L:=L) (a:=a) (T:=T) j
  rw [q1]; rw [q2] at hb; exact mono _ (h.mem j hb)
 ·rcases List.mem_append.1 hx with q | q
  ·exact mono _ (h.fly x q hk)
  ·have:=hT x q; omega
theorem IZ.start (h:IZ V g vr) (hia:IA V nv g) (hcl:∀ k,g.calls.length<=k->vr k=0) (h3:(g.mem i).serves=true) (hc9:(g.mem i).cnt<900) (hT:∀ y∈T,(y.kind=5\/y.kind=7)/\y.ep=(g.mem i).ep):IZ V (BN g i c L a T) (jb g i vr):=by
 obtain ⟨s1,s2,s3⟩:=hia.serv i h3
 obtain ⟨l1,l2⟩:=hia.lead i s2
 have hcnt:=hia.cnt i
 have he:=PP (g:=g) (i:=i) (c:=c) (L:=L) (a:=a) (T:=T)
 have hb:∀ k e,PO g k e->PO (BN g i c L a T) k e:=fun k e h=>by
  obtain ⟨q1,q2,q3,q4,_⟩:=he k
  unfold PO at *
  rw [q1,q2,q4]; exact h
 have hfly:(BN g i c L a T).fly=g.fly++T:=rfl
 generalize BN g i c L a T=g' at *
 obtain ⟨w1,w2,w3,z1,z2⟩:=h
 refine ⟨?_,?_,?_,?_,?_⟩
 ·intro j h1 h2 k h4 h5 h6
  obtain ⟨q1,q2,q3,q4,q5,q6,q7⟩:=he j
  rw [q3] at h1; rw [q2] at h2; rw [q1] at h4 ⊢; rw [q7] at h6
  exact hb _ _ (w1 j h1 h2 k h4 h5 h6)
 ·intro x hx hk
  rw [hfly] at hx
  rcases List.mem_append.1 hx with q | q
  ·exact hb _ _ (w2 x q hk)
  ·have:=hT x q; omega
 ·intro k e n h1 h2 h4 h5 j h6 h7
  unfold jb at h1 h2
  split at h1
  ·rename_i hk
   rw [if_pos hk] at h2
   have:e=(g.mem i).ep:=by omega
   subst this
   rw [l2] at h7
   exact hb _ _ (w1 i s2 s1 j h6 h7 (by rw [s3]; simp))
  ·rename_i hk
   rw [if_neg hk] at h2
   exact hb _ _ (w3 k e n h1 h2 h4 h5 j h6 h7)
 ·intro k hk
  obtain ⟨q1,q2,q3,q4,q5,q6,q7⟩:=he k
  rw [q2] at hk; rw [q1]
  obtain ⟨r1,r2,r3,_⟩:=he (CL V (g.mem k).ep)
  rw [r1,r2,r3]
  exact z1 k hk
 ·intro x hx hk
  obtain ⟨r1,r2,r3,_⟩:=he (CL V x.ep)
  rw [r1,r2,r3]
  rw [hfly] at hx
  rcases List.mem_append.1 hx with q | q
  ·exact z2 x q hk
  ·have:=(hT x q).2
   rw [this,l2]
   exact ⟨Int.le_refl _,fun _ _=>s1⟩
theorem IE.start (h:IE V g) (hia:IA V nv g) (hit:IT V g vr now) (h3:(g.mem i).serves=true) (h4:(g.mem i).op=0) (h5:c.op=1\/c.op=2) (hL:∀ k,k∈L↔k∈V (g.mem i).ep/\k≠i) (hA:a=(c.key,c.val,1000*(g.mem i).ep+((g.mem i).cnt+1))) (hp:c.op=1->BJ (Aj (g.mem i).items a) a.1=a) (hone:BS [a]=true)
  (hT:∀ y∈T,(y.kind=5/\c.op=1/\y.items=[a]\/y.kind=7/\c.op=2/\y.items=[])/\y.ep=(g.mem i).ep/\y.num=(g.mem i).cnt+1/\y.frm=i):IE V (BN g i c L a T):=by
 obtain ⟨s1,s2,s3⟩:=hia.serv i h3
 obtain ⟨l1,l2⟩:=hia.lead i s2
 have hpos:=hia.pos i
 have hcnt:=hia.cnt i
 have hv1:1<=a.2.2:=by rw [hA]; show 1<=1000*(g.mem i).ep+((g.mem i).cnt+1); omega
 have he:=PP (g:=g) (i:=i) (c:=c) (L:=L) (a:=a) (T:=T)
 have hi:((BN g i c L a T).mem i).op=c.op/\((BN g i c L a T).mem i).num=(g.mem i).cnt+1/\((BN g i c L a T).mem i).ti=a/\((BN g i c L a T).mem i).left=L:=by
  simp [BN,PG.set,Lr]
 have hj:∀ j,j≠i->(BN g i c L a T).mem j=g.mem j:=fun j e=>by simp only [BN,PG.set]; rw [if_neg e]
 have hfly:(BN g i c L a T).fly=g.fly++T:=rfl
 have hfl:=hit.fl
 generalize BN g i c L a T=g' at *
 obtain ⟨ok,okx,e1,e2,e3,e4,e5⟩:=h
 refine ⟨?_,?_,?_,?_,?_,?_,?_⟩
 ·intro j; rw [(he j).2.2.2.2.1]; exact ok j
 ·intro x hx
  rw [hfly] at hx
  rcases List.mem_append.1 hx with q | q
  ·exact okx x q
  ·rcases (hT x q).1 with ⟨_,_,r⟩ | ⟨_,_,r⟩
   ·rw [r]; exact hone
   ·rw [r]; rfl
 ·intro j q1 q2 q3 x hx hk hxe
  obtain ⟨r1,r2,r3,r4,r5,r6,r7⟩:=he j
  rw [r3] at q1; rw [r2] at q2; rw [r6] at q3; rw [r1] at hxe; rw [r5]
  rw [hfly] at hx
  rcases List.mem_append.1 hx with q | q
  ·exact e1 j q1 q2 q3 x q hk hxe
  ·have:=hT x q; omega
 ·intro j q1 q2 l q3 q4
  obtain ⟨r1,r2,r3,r4,r5,r6,r7⟩:=he j
  obtain ⟨t1,t2,t3,t4,t5,t6,t7⟩:=he l
  rw [r3] at q1; rw [r2] at q2; rw [t2] at q3; rw [r1,t1] at q4; rw [r5,t5]
  have:=e2 j q1 q2 l q3 q4
  by_cases e:j=i
  ·subst e
   rcases this with q | q
   ·exact .inl q
   ·omega
  ·rw [hj j e]; exact this
 ·intro j q1 l hl q3 q4 q5
  obtain ⟨r1,r2,r3,r4,r5,r6,r7⟩:=he j
  obtain ⟨t1,t2,t3,t4,t5,t6,t7⟩:=he l
  rw [t2] at q3; rw [r1,t1] at q4; rw [r5,t5]
  rw [r1] at q5
  by_cases e:j=i
  ·subst e
   rw [hi.2.2.2,hi.2.1] at q5
   exfalso
   rcases q5 with q | ⟨x,hx,x1,x2,x3,x4⟩
   ·exact q ((hL l).2 ⟨by rw [<- q4]; exact (hia.view l q3).2,hl⟩)
   ·rw [hfly] at hx
    rcases List.mem_append.1 hx with q | q
    ·have:=hfl x q (by omega) (by omega)
     rw [x3,l2] at this
     have:=this.2 rfl s2
     omega
    ·have:=hT x q; omega
  ·rw [hj j e] at q1 q5 ⊢
   refine e3 j q1 l hl q3 q4 (q5.imp id fun ⟨x,hx,x1,q⟩=>⟨x,?_,x1,q⟩)
   rw [hfly] at hx
   rcases List.mem_append.1 hx with r | r
   ·exact r
   ·have:=hT x r; omega
 ·intro x hx hk b hxb q1 q2 q3
  obtain ⟨r1,r2,r3,r4,r5,r6,r7⟩:=he (CL V x.ep)
  rw [r3] at q1; rw [r2] at q2; rw [r1] at q3; rw [r5]
  rw [hfly] at hx
  rcases List.mem_append.1 hx with q | q
  ·have h6:=e4 x q hk b hxb q1 q2 q3
   by_cases e:CL V x.ep=i
   ·rw [e] at h6 q1 q2 q3 ⊢
    have h7:=hfl x q (by omega) (by omega)
    rw [e] at h7
    have h8:=h7.2 q3 q1
    refine ⟨fun _ hn=>?_,fun _=>h6.2 (fun h=>by omega)⟩
    rw [hi.2.1] at hn; omega
   ·rw [hj _ e]; exact h6
  ·obtain ⟨u1,u2,u3,u4⟩:=hT x q
   have hf:CL V x.ep=i:=by rw [u2]; exact l2
   rcases u1 with ⟨_,u6,u7⟩ | ⟨u5,_⟩
   ·rw [u7] at hxb
    cases hxb
    rw [hf]
    refine ⟨fun _ _=>hi.2.2.1.symm,fun h=>absurd ⟨by rw [hi.1]; exact u6,by rw [hi.2.1]; exact u3⟩ h⟩
   ·omega
 ·intro j q1
  obtain ⟨r1,r2,r3,r4,r5,r6,r7⟩:=he j
  rw [r5]
  by_cases e:j=i
  ·subst e
   rw [hi.2.2.1]
   exact ⟨hp (by rw [<- hi.1]; exact q1),hv1⟩
  ·rw [hj j e] at q1 ⊢; exact e5 j q1
end
section
variable {V:Int->List Int} {nv now:Int} {g:PG} {vr:Nat->Int} {i:Int} {k:Nat} {c:PC}
def Jp (g:PG) (i:Int) (k:Nat) (c:PC) (now:Int):PG:={ (g.set i (P7 (g.mem i)) []) with calls:=g.calls.set k (Mf (g.mem i) c now) }
theorem WH (j:Int):(Jp g i k c now).mem j=if j=i then P7 (g.mem i) else g.mem j:=rfl
theorem aN (j:Int):((Jp g i k c now).mem j).ep=(g.mem j).ep/\((Jp g i k c now).mem j).base=(g.mem j).base/\((Jp g i k c now).mem j).leads=(g.mem j).leads/\((Jp g i k c now).mem j).fell=(g.mem j).fell/\((Jp g i k c now).mem j).serves=(g.mem j).serves/\((Jp g i k c now).mem j).waits=(g.mem j).waits/\((Jp g i k c now).mem j).cnt=(g.mem j).cnt:=by
 rw [WH]
 split
 ·rename_i e; subst e; exact ⟨rfl,rfl,rfl,rfl,rfl,rfl,rfl⟩
 ·exact ⟨rfl,rfl,rfl,rfl,rfl,rfl,rfl⟩
theorem WI:(Jp g i k c now).fly=g.fly:=List.append_nil _
theorem IA.fin (h:IA V nv g):IA V nv (Jp g i k c now):=by
 obtain ⟨a1,a2,a3,a4,a5,a6,a7⟩:=h
 have b:=aN (g:=g) (i:=i) (k:=k) (c:=c) (now:=now)
 refine ⟨fun j=>by rw [(b j).1]; exact a1 j,fun j=>?_,fun j=>?_,fun j=>?_,fun j ho=>?_,fun j=>?_,fun j=>?_⟩
 ·obtain ⟨q1,q2,q3,q4,q5,q6,q7⟩:=b j; rw [q1,q3]; exact a2 j
 ·obtain ⟨q1,q2,q3,q4,q5,q6,q7⟩:=b j; rw [q1,q2]; exact a3 j
 ·obtain ⟨q1,q2,q3,q4,q5,q6,q7⟩:=b j; rw [q2,q3,q5,q6]; exact a4 j
 ·rw [WH] at ho ⊢
  split at ho
  ·exact absurd rfl ho
  ·rename_i e; rw [if_neg e]; exact a5 j ho
 ·rw [(b j).2.2.2.2.2.2]; exact a6 j
 ·obtain ⟨q1,q2,q3,q4,q5,q6,q7⟩:=b j; rw [q4,q2,q3]; exact a7 j
theorem IB.fin (h:IB V g):IB V (Jp g i k c now):=by
 have b:=aN (g:=g) (i:=i) (k:=k) (c:=c) (now:=now)
 have mono:∀ e,B1 V g e->B1 V (Jp g i k c now) e:=fun e h=>h.mono fun j=>by rw [(b j).1]; exact Int.le_refl _
 refine ⟨fun j hb=>?_,fun x hx hk=>?_⟩
 ·rw [(b j).1]; rw [(b j).2.1] at hb; exact mono _ (h.mem j hb)
 ·rw [WI] at hx; exact mono _ (h.fly x hx hk)
theorem IZ.fin (h:IZ V g vr):IZ V (Jp g i k c now) vr:=by
 have b:=aN (g:=g) (i:=i) (k:=k) (c:=c) (now:=now)
 have hb:∀ l e,PO g l e->PO (Jp g i k c now) l e:=fun l e h=>by
  obtain ⟨q1,q2,q3,q4,_⟩:=b l
  unfold PO at *
  rw [q1,q2,q4]; exact h
 have hfly:(Jp g i k c now).fly=g.fly:=WI
 generalize Jp g i k c now=g' at *
 obtain ⟨w1,w2,w3,z1,z2⟩:=h
 refine ⟨?_,fun x hx hk=>hb _ _ (w2 x (by rw [<- hfly]; exact hx) hk),fun k e n h1 h2 h4 h5 j h6 h7=>hb _ _ (w3 k e n h1 h2 h4 h5 j h6 h7),?_,?_⟩
 ·intro j h1 h2 l h4 h5 h6
  obtain ⟨q1,q2,q3,q4,q5,q6,q7⟩:=b j
  rw [q3] at h1; rw [q2] at h2; rw [q1] at h4 ⊢; rw [q6] at h6
  exact hb _ _ (w1 j h1 h2 l h4 h5 h6)
 ·intro l hl
  obtain ⟨q1,q2,q3,q4,q5,q6,q7⟩:=b l
  rw [q2] at hl; rw [q1]
  obtain ⟨r1,r2,r3,_⟩:=b (CL V (g.mem l).ep)
  rw [r1,r2,r3]
  exact z1 l hl
 ·intro x hx hk
  obtain ⟨r1,r2,r3,_⟩:=b (CL V x.ep)
  rw [r1,r2,r3]
  rw [hfly] at hx
  exact z2 x hx hk
theorem IE.fin (h:IE V g) (hia:IA V nv g) (ho:(g.mem i).op≠0) (hl:(g.mem i).left=[]):IE V (Jp g i k c now):=by
 obtain ⟨t1,t2,t3⟩:=hia.task i ho
 obtain ⟨s1,s2,s3⟩:=hia.serv i t1
 obtain ⟨l1,l2⟩:=hia.lead i s2
 have b:=aN (g:=g) (i:=i) (k:=k) (c:=c) (now:=now)
 have hmem:=WH (g:=g) (i:=i) (k:=k) (c:=c) (now:=now)
 have hfly:(Jp g i k c now).fly=g.fly:=WI
 have hlead:=hia.lead
 obtain ⟨ok,okx,e1,e2,e3,e4,e5⟩:=h
 have hi0:(P7 (g.mem i)).op=0:=rfl
 have hii:(P7 (g.mem i)).items=if (g.mem i).op=1 then Aj (g.mem i).items (g.mem i).ti else (g.mem i).items:=rfl
 have all:∀ j,j≠i->(g.mem j).base=true->(g.mem j).ep=(g.mem i).ep->(g.mem j).items=(P7 (g.mem i)).items:=by
  intro j hj h1 h2
  rw [hii]
  split
  ·rename_i q
   exact e3 i q j hj h1 h2 (.inl (by rw [hl]; simp))
  ·rename_i q
   rcases e2 i s2 s1 j h1 h2 with r | r
   ·exact r
   ·exact absurd r.1 q
 have up:∀ kk,vl (g.mem i).items kk<=vl (P7 (g.mem i)).items kk:=by
  intro kk; rw [hii]; split
  ·exact aM (ok i) _ _
  ·exact Int.le_refl _
 generalize Jp g i k c now=g' at *
 refine ⟨?_,by rw [hfly]; exact okx,?_,?_,?_,?_,?_⟩
 ·intro j; rw [hmem]; split
  ·rw [hii]; split
   ·exact Gt (ok i)
   ·exact ok i
  ·exact ok j
 ·intro j h1 h2 h3 x hx hk he
  obtain ⟨q1,q2,q3,q4,q5,q6,q7⟩:=b j
  rw [q3] at h1; rw [q2] at h2; rw [q5] at h3; rw [q1] at he; rw [hfly] at hx
  rw [hmem]
  split
  ·rename_i e; subst e; rw [t1] at h3; cases h3
  ·exact e1 j h1 h2 h3 x hx hk he
 ·intro j h1 h2 l h3 h4
  obtain ⟨q1,q2,q3,q4,q5,q6,q7⟩:=b j
  obtain ⟨r1,r2,r3,r4,r5,r6,r7⟩:=b l
  rw [q3] at h1; rw [q2] at h2; rw [r2] at h3; rw [r1,q1] at h4
  by_cases e:j=i
  ·subst e
   left
   rw [hmem,hmem,if_pos rfl]
   split
   ·rfl
   ·rename_i e2; exact all l e2 h3 h4
  ·rw [hmem l,hmem j,if_neg e]
   split
   ·rename_i e2
    subst e2
    exact absurd (by have:=(hlead j h1).2; rw [<- h4,l2] at this; exact this.symm) e
   ·exact e2 j h1 h2 l h3 h4
 ·intro j h1 l hl2 h3 h4 h5
  obtain ⟨q1,q2,q3,q4,q5,q6,q7⟩:=b j
  obtain ⟨r1,r2,r3,r4,r5,r6,r7⟩:=b l
  rw [r2] at h3; rw [r1,q1] at h4; rw [q1,hfly] at h5
  by_cases e:j=i
  ·subst e; rw [hmem,if_pos rfl,hi0] at h1; omega
  ·rw [hmem,if_neg e] at h1 h5
   rw [hmem l,hmem j,if_neg e]
   split
   ·rename_i e2
    subst e2
    have hj2:=hia.task j (by omega)
    have hj3:=hia.serv j hj2.1
    exact absurd (by have:=(hlead j hj3.2.1).2; rw [<- h4,l2] at this; exact this.symm) e
   ·exact e3 j h1 l hl2 h3 h4 h5
 ·intro x hx hk a hxa h1 h2 h3
  obtain ⟨q1,q2,q3,q4,q5,q6,q7⟩:=b (CL V x.ep)
  rw [q3] at h1; rw [q2] at h2; rw [q1] at h3; rw [hfly] at hx
  have h6:=e4 x hx hk a hxa h1 h2 h3
  rw [hmem]
  split
  ·rename_i e
   rw [e] at h6
   refine ⟨fun h=>by rw [hi0] at h; omega,fun _=>?_⟩
   by_cases q:(g.mem i).op=1/\x.num=(g.mem i).num
   ·have ha:=h6.1 q.1 q.2
    subst ha
    rw [hii,if_pos q.1,eE,(e5 i q.1).1]
    exact Int.le_refl _
   ·exact Int.le_trans (h6.2 q) (up _)
  ·exact h6
 ·intro j h1
  rw [hmem] at h1 ⊢
  split
  ·rename_i e; rw [if_pos e,hi0] at h1; omega
  ·rename_i e; rw [if_neg e] at h1; exact e5 j h1
end
section
variable {V:Int->List Int} {nv now:Int} {g:PG} {vr:Nat->Int} {i:Int} {c:PC} {L:List Int} {a:AI} {T:List PX}
theorem eF (hia:IA V nv g) (hfl:∀ x∈g.fly,5<=x.kind->x.kind<=8->x.ep<=(g.mem (CL V x.ep)).ep/\((g.mem (CL V x.ep)).ep=x.ep->(g.mem (CL V x.ep)).leads=true->x.num<=(g.mem (CL V x.ep)).cnt)) (h3:(g.mem i).serves=true)
  (hL:∀ k,k∈L↔k∈V (g.mem i).ep/\k≠i) (hT:∀ y∈T,y.kind=5\/y.kind=7) {e:Int} (hr:B1 V g e) (he:(g.mem i).ep<e):HJ (BN g i c L a T) i:=by
 obtain ⟨s1,s2,s3⟩:=hia.serv i h3
 obtain ⟨l1,l2⟩:=hia.lead i s2
 obtain ⟨j,hjv,hjl⟩:=hr (g.mem i).ep (hia.pos i) he
 have hep:=fun j=>(PP (g:=g) (i:=i) (c:=c) (L:=L) (a:=a) (T:=T) j).1
 have hi:((BN g i c L a T).mem i).num=(g.mem i).cnt+1/\((BN g i c L a T).mem i).left=L:=by simp [BN,PG.set,Lr]
 have hne:j≠i:=fun e=>by subst e; omega
 refine ⟨j,by rw [hi.2]; exact (hL j).2 ⟨hjv,hne⟩,by rw [hep i,hep j]; exact hjl,fun x hx hk hf hxe=>?_⟩
 rw [hep i] at hxe
 rw [hi.1]
 rcases List.mem_append.1 hx with q | q
 ·have:=hfl x q (by omega) (by omega)
  rw [hxe,l2] at this
  have:=this.2 rfl s2
  omega
 ·have:=hT x q; omega
theorem IF.start (h:IF V g vr) (hia:IA V nv g) (hib:IB V g) (hit:IT V g vr now) (h1:c.done=-1) (h3:(g.mem i).serves=true) (h4:(g.mem i).op=0) (hL:∀ k,k∈L↔k∈V (g.mem i).ep/\k≠i) (hA:a=(c.key,c.val,1000*(g.mem i).ep+((g.mem i).cnt+1)))
  (hT:∀ y∈T,(y.kind=5/\c.op=1/\y.items=[a]\/y.kind=7/\c.op=2/\y.items=[])/\y.ep=(g.mem i).ep/\y.num=(g.mem i).cnt+1/\y.frm=i):IF V (BN g i c L a T) (jb g i vr):=by
 have hep:=PP (g:=g) (i:=i) (c:=c) (L:=L) (a:=a) (T:=T)
 have hT5:∀ y∈T,y.kind=5\/y.kind=7:=fun y hy=>by have:=(hT y hy).1; omega
 have stuck:∀ e,B1 V g e->(g.mem i).ep<e->HJ (BN g i c L a T) i:=fun e hr he=>eF hia hit.fl h3 hL hT5 hr he
 have hi:((BN g i c L a T).mem i).op=c.op/\((BN g i c L a T).mem i).ti=a:=by simp [BN,PG.set,Lr]
 have hj:∀ j,j≠i->(BN g i c L a T).mem j=g.mem j:=fun j e=>by simp only [BN,PG.set]; rw [if_neg e]
 have hfly:(BN g i c L a T).fly=g.fly++T:=rfl
 have hcal:(BN g i c L a T).calls=g.calls++[c]:=rfl
 have hg:∀ (k:Nat) d,(BN g i c L a T).calls[k]? = some d->0<=d.done->g.calls[k]? = some d/\k<g.calls.length:=by
  intro k d hd h0
  rw [hcal] at hd
  have:(g.calls[k]? = some d/\k<g.calls.length)\/(k=g.calls.length/\d=c):=by grind
  rcases this with e | ⟨_,e⟩
  ·exact e
  ·subst e; omega
 have hvr:∀ k,k<g.calls.length->jb g i vr k=vr k:=fun k hk=>by unfold jb; rw [if_neg (by omega)]
 have hp:∀ y,Tc g vr y->Tc (BN g i c L a T) (jb g i vr) y:=fun y ⟨k,d,q,q1,q2,q3,q4⟩=>by
  have hk:=(List.getElem?_eq_some_iff.1 q).1
  exact ⟨k,d,by rw [hcal]; grind,q1,q2,q3,by rw [hvr k hk]; exact q4⟩
 have hnew:c.op=1->Tc (BN g i c L a T) (jb g i vr) a:=fun ho=>⟨g.calls.length,c,by rw [hcal]; simp,ho,by rw [hA],by rw [hA],by unfold jb; rw [if_pos rfl,hA],by rw [hA]; have:=hia.pos i; have:=hia.cnt i; show 1<=1000*(g.mem i).ep+((g.mem i).cnt+1); omega⟩
 obtain ⟨f1,f2,p1,fr,vs,pm,px,pt,gt⟩:=h
 have hdn:=hit.dn
 generalize BN g i c L a T=g' at *
 refine ⟨?_,?_,?_,?_,?_,?_,?_,?_,?_⟩
 ·intro k d hk hd j hb he
  obtain ⟨q1,q2,q3,q4,q5,q6,q7⟩:=hep j
  rw [q2] at hb; rw [q1] at he; rw [q5]
  exact f1 k d (hg k d hk hd).1 hd j hb he
 ·intro k d hk hd x hx hkd he
  rw [hfly] at hx
  rcases List.mem_append.1 hx with q | q
  ·exact f2 k d (hg k d hk hd).1 hd x q hkd he
  ·have:=hT5 x q; omega
 ·intro j ho
  obtain ⟨q1,q2,q3,q4,q5,q6,q7⟩:=hep j
  by_cases e:j=i
  ·subst e
   by_cases hE:∃ e,B1 V g e/\(g.mem j).ep<e
   ·obtain ⟨e,r1,r2⟩:=hE
    exact .inl (stuck e r1 r2)
   ·right
    rw [q1]
    refine ⟨fun l hb hl=>?_,fun x hx hk hl=>?_,fun k d hk hd _ hl _=>?_⟩
    ·rw [(hep l).2.1] at hb; rw [(hep l).1] at hl
     exact absurd ⟨_,hib.mem l hb,hl⟩ hE
    ·rw [hfly] at hx
     rcases List.mem_append.1 hx with q | q
     ·exact absurd ⟨_,hib.fly x q hk,hl⟩ hE
     ·have:=hT5 x q; omega
    ·have:=(hdn k d (hg k d hk hd).1 hd).2.2.2.2.1
     exact absurd ⟨_,this,hl⟩ hE
  ·rw [hj j e] at ho ⊢
   rcases p1 j ho with ⟨w,w1,w2,w3⟩ | ⟨b1,b2,b3⟩
   ·left
    refine ⟨w,by rw [hj j e]; exact w1,by rw [hj j e,(hep w).1]; exact w2,fun x hx=>?_⟩
    rw [hj j e]
    rw [hfly] at hx
    rcases List.mem_append.1 hx with q | q
    ·exact w3 x q
    ·have:=hT5 x q
     intro hk; omega
   ·right
    refine ⟨fun l hb hl=>?_,fun x hx hk hl=>?_,fun k d hk hd h2 hl h5=>b3 k d (hg k d hk hd).1 hd h2 hl h5⟩
    ·obtain ⟨r1,r2,r3,r4,r5,r6,r7⟩:=hep l
     rw [r2] at hb; rw [r1] at hl; rw [r5]
     exact b1 l hb hl
    ·rw [hfly] at hx
     rcases List.mem_append.1 hx with q | q
     ·exact b2 x q hk hl
     ·have:=hT5 x q; omega
 ·intro k l d e hk hl h0 h1' h2 h5 hlt
  obtain ⟨u1,u2⟩:=hg k d hk h0
  obtain ⟨v1,v2⟩:=hg l e hl h1'
  rw [hvr k u2,hvr l v2] at hlt
  exact fr k l d e u1 v1 h0 h1' h2 h5 hlt
 ·intro k d hk h0
  obtain ⟨u1,u2⟩:=hg k d hk h0
  rw [hvr k u2]
  exact vs k d u1 h0
 ·intro j y hy
  rw [(hep j).2.2.2.2.1] at hy
  exact hp y (pm j y hy)
 ·intro x hx y hy
  rw [hfly] at hx
  rcases List.mem_append.1 hx with q | q
  ·exact hp y (px x q y hy)
  ·rcases (hT x q).1 with ⟨_,r2,r3⟩ | ⟨_,_,r3⟩
   ·rw [r3] at hy
    simp only [List.mem_singleton] at hy
    rw [hy]; exact hnew r2
   ·rw [r3] at hy; cases hy
 ·intro j ho
  by_cases e:j=i
  ·subst e
   rw [hi.1] at ho; rw [hi.2]
   exact hnew ho
  ·rw [hj j e] at ho ⊢
   exact hp _ (pt j ho)
 ·intro k d hk h0 h2
  exact (gt k d (hg k d hk h0).1 h0 h2).imp id fun ⟨y,q,r⟩=>⟨y,hp y q,r⟩
end
section
variable {V:Int->List Int} {nv now:Int} {g:PG} {vr:Nat->Int} {i:Int} {k:Nat} {c:PC}
theorem WJ (s:List AI) (kk:ByteArray):BJ s kk=(ByteArray.empty,ByteArray.empty,0)\/(BJ s kk∈s/\(BJ s kk).1.toList=kk.toList):=by
 cases h:Gw s kk with
 | true=>exact .inr (aG h)
 | false=>exact .inl (Sr h)
theorem IF.fin (h:IF V g vr) (hia:IA V nv g) (hit:IT V g vr now) (hie:IE V g) (hn:0<=now) (ho:(g.mem i).op≠0) (hl:(g.mem i).left=[]) (hc:(g.mem i).call=(k:Int)) (hk:g.calls[k]? = some c)
  (hown:∀ y∈(g.mem i).items,y.2.2<=1000*(g.mem i).ep+(g.mem i).cnt):IF V (Jp g i k c now) vr:=by
 obtain ⟨t1,t2,t3⟩:=hia.task i ho
 obtain ⟨s1,s2,s3⟩:=hia.serv i t1
 obtain ⟨l1,l2⟩:=hia.lead i s2
 obtain ⟨k0,d0,r1,r2,r3,r4,r5,r6,r7,r8,r9,r10⟩:=hit.act i ho
 have hk0:k0=k:=by omega
 subst hk0
 rw [hk] at r2
 cases r2
 have hkl:k0<g.calls.length:=(List.getElem?_eq_some_iff.1 hk).1
 have b:=aN (g:=g) (i:=i) (k:=k0) (c:=c) (now:=now)
 have hmem:=WH (g:=g) (i:=i) (k:=k0) (c:=c) (now:=now)
 have hfly:(Jp g i k0 c now).fly=g.fly:=WI
 have hcal:(Jp g i k0 c now).calls=g.calls.set k0 (Mf (g.mem i) c now):=rfl
 have hset:∀ (l:Nat) d,(Jp g i k0 c now).calls[l]? = some d->(l=k0/\d=Mf (g.mem i) c now)\/(l≠k0/\g.calls[l]? = some d):=by
  intro l d hd
  rw [hcal] at hd
  by_cases e:l=k0
  ·subst e
   rw [List.getElem?_set_self hkl] at hd
   exact .inl ⟨rfl,by cases hd; rfl⟩
  ·rw [List.getElem?_set_ne (Ne.symm e)] at hd
   exact .inr ⟨e,hd⟩
 have hset1:(Jp g i k0 c now).calls[k0]? = some (Mf (g.mem i) c now):=by rw [hcal]; exact List.getElem?_set_self hkl
 have hset2:∀ (l:Nat),l≠k0->(Jp g i k0 c now).calls[l]? = g.calls[l]? := fun l e=>by rw [hcal]; exact List.getElem?_set_ne (Ne.symm e)
 have hns:¬ HJ g i:=fun ⟨w,w1,_⟩=>by rw [hl] at w1; cases w1
 obtain ⟨f1,f2,p1,fr,vs,pm,px,pt,gt⟩:=h
 obtain ⟨b1,b2,b3⟩:=(p1 i ho).resolve_left hns
 have hii:(P7 (g.mem i)).items=if (g.mem i).op=1 then Aj (g.mem i).items (g.mem i).ti else (g.mem i).items:=rfl
 have hver:(Mf (g.mem i) c now).ver=P8 (g.mem i):=by
  unfold Mf a_ P8
  dsimp only
  split
  ·rfl
  ·rfl
 have htobe:vl (P7 (g.mem i)).items (g.mem i).ti.1.toList=P8 (g.mem i):=by
  rw [hii]
  unfold P8
  split
  ·rename_i q
   rw [eE,(hie.e5 i q).1]
  ·rfl
 have all:∀ j,j≠i->(g.mem j).base=true->(g.mem j).ep=(g.mem i).ep->(g.mem j).items=(P7 (g.mem i)).items:=by
  intro j hj h1 h2
  rw [hii]
  split
  ·rename_i q
   exact hie.e3 i q j hj h1 h2 (.inl (by rw [hl]; simp))
  ·rename_i q
   rcases hie.e2 i s2 s1 j h1 h2 with r | r
   ·exact r
   ·exact absurd r.1 q
 have up:∀ kk,vl (g.mem i).items kk<=vl (P7 (g.mem i)).items kk:=by
  intro kk; rw [hii]; split
  ·exact aM (hie.ok i) _ _
  ·exact Int.le_refl _
 have hf:(Mf (g.mem i) c now).key=c.key/\(Mf (g.mem i) c now).op=c.op/\(Mf (g.mem i) c now).val=c.val/\(Mf (g.mem i) c now).ep=(g.mem i).ep:=⟨rfl,rfl,rfl,rfl⟩
 have hp:∀ y,Tc g vr y->Tc (Jp g i k0 c now) vr y:=fun y ⟨l,d,q,q1,q2,q3,q4⟩=>by
  by_cases e:l=k0
  ·subst e
   rw [hk] at q
   cases q
   exact ⟨l,_,hset1,q1,q2,q3,q4⟩
  ·exact ⟨l,d,by rw [hset2 l e]; exact q,q1,q2,q3,q4⟩
 have hdn:=hit.dn
 have hst:=hit.st
 have hmp:∀ y∈(P7 (g.mem i)).items,Tc g vr y:=by
  intro y hy
  rw [hii] at hy
  split at hy
  ·rename_i q
   rcases Sn hy with e | e
   ·rw [e]; exact pt i q
   ·exact pm i y e
  ·exact pm i y hy
 generalize hC:Mf (g.mem i) c now=c' at *
 generalize hG:Jp g i k0 c now=g' at *
 refine ⟨?_,?_,?_,?_,?_,?_,?_,?_,?_⟩
 ·intro l d hd hd0 j hb he
  rw [(b j).2.1] at hb; rw [(b j).1] at he
  rw [hmem]
  rcases hset l d hd with ⟨e1,e2⟩ | ⟨e1,e2⟩
  ·subst e2
   rw [hver,hf.1,r6]
   rw [hf.2.2.2] at he
   split
   ·rw [htobe]; exact Int.le_refl _
   ·rename_i e
    by_cases heq:(g.mem j).ep=(g.mem i).ep
    ·rw [all j e hb heq,htobe]; exact Int.le_refl _
    ·exact b1 j hb (by omega)
  ·have:=f1 l d e2 hd0 j hb he
   split
   ·rename_i e; subst e; exact Int.le_trans this (up _)
   ·exact this
 ·intro l d hd hd0 x hx hkd he
  rw [hfly] at hx
  rcases hset l d hd with ⟨e1,e2⟩ | ⟨e1,e2⟩
  ·subst e2
   rw [hf.2.2.2] at he
   rw [hver,hf.1,r6]
   exact b2 x hx hkd he
  ·exact f2 l d e2 hd0 x hx hkd he
 ·intro j hoj
  by_cases e:j=i
  ·subst e
   rw [hmem,if_pos rfl] at hoj
   exact absurd rfl hoj
  ·have hjm:g'.mem j=g.mem j:=by rw [hmem,if_neg e]
   rw [hjm] at hoj ⊢
   rcases p1 j hoj with ⟨w,w1,w2,w3⟩ | ⟨a1,a2,a3⟩
   ·left
    exact ⟨w,by rw [hjm]; exact w1,by rw [hjm,(b w).1]; exact w2,by rw [hjm,hfly]; exact w3⟩
   ·right
    refine ⟨fun l hb hlt=>?_,fun x hx=>a2 x (by rw [<- hfly]; exact hx),fun l d hd hd0 h2 hlt h5=>?_⟩
    ·rw [(b l).2.1] at hb; rw [(b l).1] at hlt
     have:=a1 l hb hlt
     rw [hmem]
     split
     ·rename_i e; subst e; exact Int.le_trans this (up _)
     ·exact this
    ·rcases hset l d hd with ⟨e1,e2⟩ | ⟨e1,e2⟩
     ·subst e2
      rw [hf.2.2.2] at hlt
      rw [hf.1,r6] at h5
      have:=a1 i s1 hlt
      rw [hver]
      rw [hf.2.1,r5] at h2
      unfold P8
      rw [if_neg (show ¬ (g.mem i).op=1 by omega),h5]
      exact this
     ·exact a3 l d e2 hd0 h2 hlt h5
 ·intro l1 l2' d e hd he h0 h1 h2 h5 hlt
  rcases hset l1 d hd with ⟨u1,u2⟩ | ⟨u1,u2⟩
  ·subst u1; subst u2
   rcases hset l2' e he with ⟨v1,v2⟩ | ⟨v1,v2⟩
   ·subst v1; omega
   ·rw [hf.1,r6] at h5
    rw [hf.2.1,r5] at h2
    obtain ⟨d1,d2,d3,d4,d5,d6,d7⟩:=hdn l2' e v2 h1
    have:=f1 l2' e v2 h1 i s1 (by omega)
    rw [hver]
    unfold P8
    rw [if_neg (show ¬ (g.mem i).op=1 by omega),h5]
    exact this
  ·rcases hset l2' e he with ⟨v1,v2⟩ | ⟨v1,v2⟩
   ·subst v1; subst v2
    rw [hf.1,r6] at h5
    obtain ⟨d1,d2,d3,d4,d5,d6,d7⟩:=hdn l1 d u2 h0
    rw [hver]
    by_cases hlt2:(g.mem i).ep<d.ep
    ·exact b3 l1 d u2 h0 h2 hlt2 h5
    ·exfalso
     obtain ⟨e',n,x1,x2,x3,x4,x5,x6⟩:=hst l1 (by omega)
     have hee:e'=(g.mem i).ep:=by omega
     subst hee
     rw [l2] at x6
     have:=(x6 rfl s2).2
     omega
   ·exact fr l1 l2' d e u2 v2 h0 h1 h2 h5 hlt
 ·intro l d hd hd0
  rcases hset l d hd with ⟨u1,u2⟩ | ⟨u1,u2⟩
  ·subst u1; subst u2
   rw [hver,hf.2.1,r5]
   unfold P8
   split
   ·rename_i q
    rw [r8]; exact ⟨Int.le_refl _,fun _=>rfl⟩
   ·rename_i q
    refine ⟨?_,fun h=>absurd h q⟩
    rw [eE,r3,t3]
    have hcnt:=hia.cnt i
    have hpos:=hia.pos i
    rcases WJ (g.mem i).items (g.mem i).ti.1 with z | z
    ·rw [z]; show (0:Int)<=_; omega
    ·exact hown _ z.1
  ·exact vs l d u2 hd0
 ·intro j y hy
  rw [hmem] at hy
  split at hy
  ·exact hp y (hmp y hy)
  ·exact hp y (pm j y hy)
 ·intro x hx y hy
  rw [hfly] at hx
  exact hp y (px x hx y hy)
 ·intro j hoj
  rw [hmem] at hoj ⊢
  split
  ·rename_i e; rw [if_pos e] at hoj; exact absurd hoj (by decide:¬ (0:Int)=1)
  ·rename_i e; rw [if_neg e] at hoj; exact hp _ (pt j hoj)
 ·intro l d hd hd0 h2
  rcases hset l d hd with ⟨u1,u2⟩ | ⟨u1,u2⟩
  ·subst u1; subst u2
   have hop:(g.mem i).op≠1:=by rw [hf.2.1,r5] at h2; omega
   have hgot:d.got=(BJ (g.mem i).items (g.mem i).ti.1).2.1/\d.ver=(BJ (g.mem i).items (g.mem i).ti.1).2.2:=by
    rw [<- hC]
    unfold Mf a_
    rw [hf.2.1] at h2
    dsimp only
    rw [if_pos h2,if_neg hop]
    exact ⟨rfl,rfl⟩
   rcases WJ (g.mem i).items (g.mem i).ti.1 with z | z
   ·left
    rw [hgot.1,hgot.2,z]
    exact ⟨rfl,rfl⟩
   ·right
    exact ⟨_,hp _ (pm i _ z.1),by rw [hf.1,r6]; exact z.2,hgot.2,hgot.1⟩
  ·exact (gt l d u2 hd0 h2).imp id fun ⟨y,q,r⟩=>⟨y,hp y q,r⟩
end

theorem IA.call {V nv g} {c:PC} (h:IA V nv g):IA V nv { g with calls:=g.calls++[c] }:=⟨h.1,h.2,h.3,h.4,h.5,h.6,h.7⟩
theorem IB.call {V g} {c:PC} (h:IB V g):IB V { g with calls:=g.calls++[c] }:=⟨h.mem,h.fly⟩
theorem IZ.call {V g vr} {c:PC} (h:IZ V g vr):IZ V { g with calls:=g.calls++[c] } vr:=⟨h.w1,h.w2,h.w3,h.z1,h.z2⟩
theorem IE.call {V g} {c:PC} (h:IE V g):IE V { g with calls:=g.calls++[c] }:=⟨h.ok,h.okx,h.e1,h.e2,h.e3,h.e4,h.e5⟩
structure eG (V:Int->List Int) (nv:Int) (g:PG) (vr:Nat->Int) (now:Int):Prop where
 a:IA V nv g
 b:IB V g
 t:IT V g vr now
 z:IZ V g vr
 e:IE V g
 f:IF V g vr
theorem eG.mstep {V nv g i m T vr now} (h:eG V nv g vr now) (hv:∀ e,1<=e->e<=nv->CL V e∈V e) (hs:CE V nv g i m T):eG V nv (g.set i m T) vr now :=
 ⟨h.a.step hv hs,h.b.step h.a hv hs,h.t.mstep h.a hs,h.z.mstep h.a hs,h.e.mstep h.a h.z hs,h.f.mstep h.a h.t h.z h.e hs⟩
theorem eG.drop {V nv g vr now f} (h:eG V nv g vr now) (hf:∀ x∈f,x∈g.fly):eG V nv { g with fly:=f } vr now :=
 ⟨h.a.drop,h.b.drop hf,h.t.drop hf,h.z.drop hf,h.e.drop hf,h.f.drop hf⟩
theorem eG.call {V nv g vr now} {c:PC} (h:eG V nv g vr now) (h1:c.done=-1) (h2:c.wen=now):eG V nv { g with calls:=g.calls++[c] } vr now :=
 ⟨h.a.call,h.b.call,h.t.call h1 h2,h.z.call,h.e.call,h.f.call h1⟩
theorem eG.start {V nv g vr now i c L a T} (h:eG V nv g vr now) (h1:c.done=-1) (h2:c.wen=now) (h3:(g.mem i).serves=true) (h4:(g.mem i).op=0) (h5:c.op=1\/c.op=2) (h6:(g.mem i).cnt<900) (hL:∀ k,k∈L↔k∈V (g.mem i).ep/\k≠i) (hA:a=(c.key,c.val,1000*(g.mem i).ep+((g.mem i).cnt+1))) (hp:c.op=1->BJ (Aj (g.mem i).items a) a.1=a) (hone:BS [a]=true)
  (hT:∀ y∈T,(y.kind=5/\c.op=1/\y.items=[a]\/y.kind=7/\c.op=2/\y.items=[])/\y.ep=(g.mem i).ep/\y.num=(g.mem i).cnt+1/\y.frm=i):eG V nv (BN g i c L a T) (jb g i vr) now :=
 ⟨h.a.start h3 h5,h.b.start fun y hy=>(by have:=(hT y hy).1; omega),h.t.start h.a h.b h1 h2 h3 h4 h5 h6 hL hA fun y hy=>(by
  obtain ⟨q1,q2,q3,q4⟩:=hT y hy
  exact ⟨q1.imp id fun q=>⟨q.1,q.2.1⟩,q2,q3,q4⟩),h.z.start h.a h.t.out h3 h6 fun y hy=>(by obtain ⟨q1,q2,q3,q4⟩:=hT y hy; exact ⟨by omega,q2⟩),
  h.e.start h.a h.t h3 h4 h5 hL hA hp hone hT,h.f.start h.a h.b h.t h1 h3 h4 hL hA hT⟩
theorem eG.fin {V nv g vr now i} (h:eG V nv g vr now) (hn:0<=now) (ho:(g.mem i).op≠0) (hl:(g.mem i).left=[]) (hown:∀ y∈(g.mem i).items,y.2.2<=1000*(g.mem i).ep+(g.mem i).cnt):∃ (k:Nat) (c:PC),(g.mem i).call=(k:Int)/\g.calls[k]? = some c/\c.done<0/\eG V nv (Jp g i k c now) vr now:=by
 obtain ⟨k,c,q1,q2,q3,q4,q5⟩:=h.t.act i ho
 exact ⟨k,c,q1,q2,q4,h.a.fin,h.b.fin,h.t.fin h.a h.b ho hl q1 q2,h.z.fin,h.e.fin h.a ho hl,h.f.fin h.a h.t h.e hn ho hl q1 q2 hown⟩
def pm (m:Y):PM:=⟨m.2.1,m.2.2.1,m.2.2.2.1,m.2.2.2.2.1,m.2.2.2.2.2.1,m.2.2.2.2.2.2.1,m.2.2.2.2.2.2.2.1,m.2.2.2.2.2.2.2.2.1,m.2.2.2.2.2.2.2.2.2.1,m.2.2.2.2.2.2.2.2.2.2.1,m.2.2.2.2.2.2.2.2.2.2.2.1,m.2.2.2.2.2.2.2.2.2.2.2.2.1,m.2.2.2.2.2.2.2.2.2.2.2.2.2⟩
def px (x:B0):PX:=⟨x.1,x.2.1,x.2.2.1,x.2.2.2.1,x.2.2.2.2.1,x.2.2.2.2.2⟩
def pc (c:LO):PC:=⟨c.1,c.2.1,c.2.2.1,c.2.2.2.1,c.2.2.2.2.1,c.2.2.2.2.2.1,c.2.2.2.2.2.2.1,c.2.2.2.2.2.2.2.1,c.2.2.2.2.2.2.2.2⟩
def aO:PM:=⟨1,false,false,false,false,[],[],0,0,0,0,(ByteArray.empty,ByteArray.empty,0),[]⟩
def pg (g:AR):PG:=⟨fun i=>if 1<=i/\i<=6 then pm (CK g (i-1).toNat) else aO,g.2.2.1.map px,g.2.2.2.map pc⟩
def vw (views:List (List Int)) (e:Int):List Int:=views.getD (e-1).toNat []
theorem dF (views:List (List Int)) (e:Int):CL (vw views) e=OE views e:=rfl
theorem jQ {views:List (List Int)} (hv:Rd views):∀ e,1<=e->e<=(views.length:Int)->CL (vw views) e∈vw views e:=fun e h1 h2=>by
 have:=aA hv h1 h2 rfl
 rw [List.contains_iff_mem] at this
 exact this
theorem P9 {g:AR} {i:Int} (h:1<=i/\i<=6):(pg g).mem i=pm (CK g (i-1).toNat):=if_pos h
theorem PG.same {a b:PG} (h1:∀ i,a.mem i=b.mem i) (h2:a.fly=b.fly) (h3:a.calls=b.calls):a=b:=by
 cases a; cases b
 simp only at h1 h2 h3
 rw [h2,h3,show _=_ from funext h1]
theorem XM {g:AR} {n:Y} {told:List B0} {said:List E5} {at_:Int} {i:Int} (h6:g.2.1.length=6) (hi:1<=i/\i<=6) (hn:n.1=i) (j:Int):(pg (A_ g n told said at_)).mem j=if j=i then pm n else (pg g).mem j:=by
 by_cases hj:1<=j/\j<=6
 ·rw [P9 hj,Z_ h6 (show (j-1).toNat<6 by omega) (show n.1=(((i-1).toNat:Nat):Int)+1 by omega) (show (i-1).toNat<6 by omega)]
  by_cases e:j=i
  ·rw [if_pos (by omega),if_pos e]
  ·rw [if_neg (by omega),if_neg e,P9 hj]
 ·rw [if_neg (by omega)]
  show (if _ then _ else _)=(if _ then _ else _)
  rw [if_neg hj,if_neg hj]
theorem Yo {g:AR} {n:Y} {told:List B0} {at_:Int} {i:Int} (h6:g.2.1.length=6) (hi:1<=i/\i<=6) (hn:n.1=i):pg (A_ g n told [] at_)=(pg g).set i (pm n) (told.map px) :=
 PG.same (XM h6 hi hn) (by show (g.2.2.1++told).map px=g.2.2.1.map px++told.map px; rw [List.map_append]) rfl
theorem mD {cs:List LO} {k:Nat} {c:PC} (h:(cs.map pc)[k]? = some c):k<cs.length/\c=pc (cs.getD k Fy):=by
 rw [List.getElem?_map] at h
 cases q:cs[k]? with
 | none=>rw [q] at h; cases h
 | some d =>
  rw [q] at h
  cases h
  obtain ⟨hk,e⟩:=List.getElem?_eq_some_iff.1 q
  exact ⟨hk,by rw [AZ hk,e]⟩
theorem kz {at_:Int} {m:Y} {c:LO} {s:E5} (hs:s=(m.2.2.2.2.2.2.2.2.2.2.1,m.2.1,m.2.2.2.2.2.2.2.2.2.2.2.1,a_ (pm m))):pc (Sm at_ s c)=Mf (pm m) (pc c) at_:=by
 subst hs
 have:(if (c.1==2)=true then (a_ (pm m)).2.1 else c.2.2.2.2.2.2.2.2)=if c.1=2 then (a_ (pm m)).2.1 else c.2.2.2.2.2.2.2.2:=by
  by_cases h:c.1=2
  ·rw [if_pos h,if_pos (by simpa using h)]
  ·rw [if_neg h,if_neg (by simpa using h)]
 unfold Sm pc Mf
 dsimp only
 rw [this]
 rfl
theorem aP (m:Y):(Bt m).1=[(m.2.2.2.2.2.2.2.2.2.2.1,m.2.1,m.2.2.2.2.2.2.2.2.2.2.2.1,a_ (pm m))]/\pm (Bt m).2=P7 (pm m)/\(Bt m).2.1=m.1:=by
 unfold Bt
 by_cases h:m.2.2.2.2.2.2.2.2.2.1=1
 ·rw [if_pos (by simpa using h)]
  have h1:a_ (pm m)=m.2.2.2.2.2.2.2.2.2.2.2.2.1:=if_pos h
  have h2:(P7 (pm m))=pm (Kf m (Aj m.2.2.2.2.2.2.2.1 m.2.2.2.2.2.2.2.2.2.2.2.2.1)):=by
   unfold P7
   rw [if_pos (show (pm m).op=1 from h)]
   rfl
  rw [h1,h2]
  exact ⟨rfl,rfl,rfl⟩
 ·rw [if_neg (by simpa using h)]
  have h1:a_ (pm m)=BJ m.2.2.2.2.2.2.2.1 m.2.2.2.2.2.2.2.2.2.2.2.2.1.1:=if_neg h
  have h2:(P7 (pm m))=pm (Kf m m.2.2.2.2.2.2.2.1):=by
   unfold P7
   rw [if_neg (show ¬ (pm m).op=1 from h)]
   rfl
  rw [h1,h2]
  exact ⟨rfl,rfl,rfl⟩
theorem mE {g:AR} {m:Y} {at_:Int} {i:Int} {k:Nat} {c:PC} (h6:g.2.1.length=6) (hi:1<=i/\i<=6) (hm:m.1=i) (hp:(pg g).mem i=pm m) (hc:(pm m).call=(k:Int)) (hk:(pg g).calls[k]? = some c) (hd:c.done<0) :
  pg (A_ g (Bt m).2 [] (Bt m).1 at_)=Jp (pg g) i k c at_:=by
 obtain ⟨f1,f2,f3⟩:=aP m
 obtain ⟨k1,k2⟩:=mD hk
 refine PG.same (fun j=>?_) ?_ ?_
 ·rw [XM h6 hi (by rw [f3,hm]),WH,hp,f2]
 ·rw [WI]
  show (g.2.2.1++[]).map px=_
  rw [List.append_nil]; rfl
 ·show (((Bt m).1).foldl (LP at_) g.2.2.2).map pc=(g.2.2.2.map pc).set k (Mf ((pg g).mem i) c at_)
  have hc':m.2.2.2.2.2.2.2.2.2.2.1=(k:Int):=hc
  rw [f1,List.foldl_cons,List.foldl_nil,hp,k2,<- kz rfl,<- List.map_set]
  congr 1
  unfold LP
  dsimp only
  rw [hc',Int.toNat_natCast,if_neg]
  rw [k2] at hd
  change (g.2.2.2.getD k Fy).2.2.2.2.1<0 at hd
  rw [Bool.or_eq_true,decide_eq_true_eq,decide_eq_true_eq]
  omega
theorem Ui {view:List Int} {id:Int} (hv:kh view) (k:Int):k∈EP view id↔k∈view/\k≠id:=by
 rw [aC hv]
 unfold B8
 rw [List.mem_filter]
 simp
theorem k_ {α:Type} (l:List α):(((l.length:Int))==0)=l.isEmpty:=by
 cases l with
 | nil=>rfl
 | cons a l=>rw [List.isEmpty_cons,beq_eq_false_iff_ne,List.length_cons]; omega
inductive eH (V:Int->List Int) (nv:Int) (g:PG) (m:Y):Y×List B0×List E5->Prop
 | none:eH V nv g m (m,[],[])
 | step (n:Y) (T:List B0) (h:CE V nv g m.1 (pm n) (T.map px)):eH V nv g m (n,T,[])
 | done (n:Y) (h:CE V nv g m.1 (pm n) []) (h1:n.1=m.1) (h2:n.2.2.2.2.2.2.2.2.2.1≠0) (h3:n.2.2.2.2.2.2.2.2.2.2.2.2.2=[]) (h4:n.2.2.2.2.2.2.2.1=m.2.2.2.2.2.2.2.1/\n.2.1=m.2.1/\n.2.2.2.2.2.2.2.2.1=m.2.2.2.2.2.2.2.2.1/\n.2.2.2.1=m.2.2.2.1/\n.2.2.2.2.1=m.2.2.2.2.1):eH V nv g m ((Bt n).2,[],(Bt n).1)
theorem jR {views:List (List Int)} {m:Y} {x:B0} {g:PG} (hv:Rd views) (hm:Ip m) (h:V1 views m) (hx:V2 views x) (hxo:gy x) (hlen:m.2.1<=(views.length:Int)) (ht:x.2.2.1=m.1) (he:x.2.2.2.1=m.2.1) (hp:g.mem m.1=pm m) (hin:px x∈g.fly) :
  eH (vw views) (views.length:Int) g m (Uc m (views.getD (m.2.1-1).toNat []) x):=by
 have hw:=hv.wok (i:=(m.2.1-1).toNat) (by have:=hm.ep; omega)
 unfold Uc
 by_cases k2:x.1=2
 ·rw [if_pos k2]
  split
  ·rename_i hc
   simp only [Bool.and_eq_true,Bool.not_eq_true'] at hc
   refine .step _ _ ?_
   have:=CE.stat (V:=vw views) (nv:=(views.length:Int)) (g:=g) (i:=m.1) (px x) hin k2 (by rw [hp]; exact he) (by rw [hp]; exact hc.1) (by rw [hp]; exact hc.2) (EP (views.getD (m.2.1-1).toNat []) m.1) (fun k=>by
     rw [Ui hw]
     show _↔k∈views.getD (x.2.2.2.1-1).toNat []/\_
     rw [he])
    (((B8 (views.getD (m.2.1-1).toNat []) m.1).map (fun v=>((3:Int),m.1,v,m.2.1,(0:Int),x.2.2.2.2.2))).map px) (fun y hy=>by
     obtain ⟨z,hz,rfl⟩:=List.mem_map.1 hy
     obtain ⟨v,_,rfl⟩:=List.mem_map.1 hz
     exact ⟨rfl,he.symm,rfl,rfl⟩)
   rw [hp] at this
   unfold Ub
   rw [k_]
   exact this
  ·exact .none
 rw [if_neg k2]
 by_cases k3:x.1=3
 ·rw [if_pos k3]
  split
  ·exact .none
  ·rename_i hc
   split
   ·exact .none
   ·rename_i hc2
    split
    ·rename_i hb
     refine .step _ _ ?_
     have:=CE.again (V:=vw views) (nv:=(views.length:Int)) (g:=g) (i:=m.1) (px x) hin k3 (by rw [hp]; exact he.symm) (by rw [hp]; exact hb)
     rw [hp] at this
     exact this
    ·rename_i hb
     have hb':m.2.2.2.1=false:=by simpa using hb
     have hf':m.2.2.1=false:=by
      rw [hb'] at hc2
      simpa using hc2
     have hcc:(views.getD (m.2.1-1).toNat []).contains m.1=true/\(views.getD (m.2.1-1).toNat []).getD 0 0≠m.1:=by
      cases q1:(views.getD (m.2.1-1).toNat []).contains m.1 with
      | false=>rw [q1] at hc; exact absurd rfl hc
      | true =>
       rw [q1] at hc
       exact ⟨rfl,fun e=>hc (by rw [e]; simp)⟩
     refine .step _ _ ?_
     have:=CE.inst (V:=vw views) (nv:=(views.length:Int)) (g:=g) (i:=m.1) (px x) hin k3 (.inr (by rw [hp]; exact ⟨he.symm,hb',hf'⟩))
      (by show _∈views.getD (x.2.2.2.1-1).toNat []; rw [he]; exact List.contains_iff_mem.1 hcc.1) (by rw [dF]; show OE views x.2.2.2.1≠_; rw [he]; exact hcc.2) (by show x.2.2.2.1<=_; omega)
     rw [hp] at this
     rw [<- he]
     exact this
 rw [if_neg k3]
 by_cases k4:x.1=4
 ·rw [if_pos k4]
  split
  ·rename_i hl
   refine .step _ _ ?_
   have:=CE.told (V:=vw views) (nv:=(views.length:Int)) (g:=g) (i:=m.1) (px x) hin k4 (by rw [hp]; exact he.symm) (by rw [hp]; exact hl)
   rw [hp] at this
   rw [k_]
   exact this
  ·exact .none
 rw [if_neg k4]
 by_cases k5:x.1=5
 ·rw [if_pos k5]
  split
  ·rename_i hb
   refine .step _ _ ?_
   obtain ⟨s1,s2⟩:=hx.store k5
   have hlen:x.2.2.2.2.2.length=1:=by
    have:=hxo.shape
    rw [if_neg (by omega),if_pos k5] at this
    exact this
   have:=CE.store (V:=vw views) (nv:=(views.length:Int)) (g:=g) (i:=m.1) (px x) hin k5 (by rw [hp]; exact he.symm) (by rw [hp]; exact hb) (by rw [dF,<- ht]; exact s1) (x.2.2.2.2.2.getD 0 (ByteArray.empty,ByteArray.empty,(0:Int))) (by
    show x.2.2.2.2.2=_
    match x.2.2.2.2.2,hlen with
    | [a],_=>rfl)
   rw [hp] at this
   exact this
  ·exact .none
 rw [if_neg k5]
 by_cases k7:x.1=7
 ·rw [if_pos k7]
  split
  ·rename_i hb
   refine .step _ _ ?_
   have:=CE.sure (V:=vw views) (nv:=(views.length:Int)) (g:=g) (i:=m.1) (px x) hin k7 (by rw [hp]; exact he.symm) (by rw [hp]; exact hb)
   rw [hp] at this
   exact this
  ·exact .none
 rw [if_neg k7]
 by_cases hc:(x.1=6\/x.1=8)/\m.2.2.2.2.2.2.2.2.2.1=(if x.1=8 then 2 else 1)/\m.2.2.2.2.2.2.2.2.2.2.2.1=x.2.2.2.2.1
 ·rw [if_pos hc]
  have hs:CE (vw views) (views.length:Int) g m.1 (pm (bX m x.2.1)) []:=by
   have:=CE.less (V:=vw views) (nv:=(views.length:Int)) (g:=g) (i:=m.1) (px x) hin (by
    rw [hp]
    show (m.2.2.2.2.2.2.2.2.2.1=1/\x.1=6)\/(m.2.2.2.2.2.2.2.2.2.1=2/\x.1=8)
    have h2:=hc.2.1
    rcases hc.1 with q | q
    ·rw [if_neg (by omega)] at h2; exact .inl ⟨h2,q⟩
    ·rw [if_pos q] at h2; exact .inr ⟨h2,q⟩) (by rw [hp]; exact he.symm) (by rw [hp]; exact hc.2.2)
   rw [hp] at this
   exact this
  have h0:m.2.2.2.2.2.2.2.2.2.1≠0:=by have:=hc.2.1; split at this<;>omega
  unfold HE
  split
  ·rename_i hl
   rw [k_,List.isEmpty_iff] at hl
   exact .done _ hs rfl h0 hl ⟨rfl,rfl,rfl,rfl,rfl⟩
  ·exact .step _ _ hs
 ·rw [if_neg hc]
  exact .none
theorem hJ {views:List (List Int)} {m:Y} {x:B0} {g:PG} (hv:Rd views) (hm:Ip m) (h:V1 views m) (hx:V2 views x) (hxo:gy x) (hp:g.mem m.1=pm m) (hin:px x∈g.fly) :
  eH (vw views) (views.length:Int) g m (Db m views x):=by
 unfold Db
 split
 ·rename_i hc
  simp only [Bool.and_eq_true,decide_eq_true_eq,beq_iff_eq] at hc
  obtain ⟨⟨⟨hmo,h1⟩,h2⟩,h3⟩:=hc
  split
  ·rename_i he
   exact jR hv hm h hx hxo (by omega) h1 he hp hin
  ·rename_i hne
   split
   ·rename_i hs
    simp only [Bool.and_eq_true,beq_iff_eq] at hs
    refine .step _ _ ?_
    have:=CE.closes (V:=vw views) (nv:=(views.length:Int)) (g:=g) (i:=m.1) (px x) hin (by rw [hp]; exact hs.1.1.2) (by rw [hp]; exact hs.1.2) h3
    rw [hp] at this
    exact this
   ·split
    ·rename_i hs
     simp only [Bool.and_eq_true,beq_iff_eq,bne_iff_ne] at hs
     refine .step _ _ ?_
     have:=CE.inst (V:=vw views) (nv:=(views.length:Int)) (g:=g) (i:=m.1) (px x) hin hs.1.1 (.inl (by rw [hp]; show m.2.1<x.2.2.2.1; omega)) (List.contains_iff_mem.1 hs.1.2) hs.2 h3
     rw [hp] at this
     exact this
    ·exact .none
 ·exact .none

def F9 (g:AR) (now:Int):Prop:=∃ vr,eG (vw g.1) (g.1.length:Int) (pg g) vr now
theorem bc {g:AR} {i:Nat}:∀ x∈(ES g i).2.2.1,x∈g.2.2.1:=fun x hx=>by
 rcases List.mem_append.1 hx with h1 | h1
 ·exact List.mem_of_mem_take h1
 ·exact List.mem_of_mem_drop h1
theorem lA {g:AR} {l:List B0}:pg (g.1,g.2.1,l,g.2.2.2)={ pg g with fly:=l.map px }:=rfl
theorem F9.sub {g:AR} {l:List B0} {now:Int} (h:F9 g now) (hl:∀ x∈l,x∈g.2.2.1):F9 (g.1,g.2.1,l,g.2.2.2) now:=by
 obtain ⟨vr,h⟩:=h
 refine ⟨vr,?_⟩
 rw [lA]
 refine h.drop fun x hx=>?_
 obtain ⟨y,hy,rfl⟩:=List.mem_map.1 hx
 exact List.mem_map.2 ⟨y,hl y hy,rfl⟩
theorem F9.member {g:AR} {n:Y} {told l:List B0} {at_:Int} {i:Int} (h6:g.2.1.length=6) (hi:1<=i/\i<=6) (hn:n.1=i) (h:F9 (A_ g n told [] at_) at_) (hl:∀ x∈l,x∈g.2.2.1):F9 (A_ (g.1,g.2.1,l,g.2.2.2) n told [] at_) at_:=by
 have:=F9.sub (l:=l++told) h (fun x hx=>by
  rcases List.mem_append.1 hx with q | q
  ·exact List.mem_append_left _ (hl x q)
  ·exact List.mem_append_right _ q)
 exact this
theorem F9.fin {g:AR} {m:Y} {at_:Int} {i:Int} {vr:Nat->Int} (h6:g.2.1.length=6) (hi:1<=i/\i<=6) (hn:0<=at_) (hm:m.1=i) (hp:(pg g).mem i=pm m) (h:eG (vw g.1) (g.1.length:Int) (pg g) vr at_)
  (ho:m.2.2.2.2.2.2.2.2.2.1≠0) (hl:m.2.2.2.2.2.2.2.2.2.2.2.2.2=[]) (hown:Jn m.2.2.2.2.2.2.2.1 (1000*m.2.1+m.2.2.2.2.2.2.2.2.1)):F9 (A_ g (Bt m).2 [] (Bt m).1 at_) at_:=by
 obtain ⟨k,c,q1,q2,q3,q4⟩:=h.fin (i:=i) hn (by rw [hp]; exact ho) (by rw [hp]; exact hl) (by rw [hp]; exact hown)
 refine ⟨vr,?_⟩
 rw [mE h6 hi hm hp (by rw [<- hp]; exact q1) q2 q3]
 exact q4
theorem fG {g:AR} {m:Y} {i:Nat} {at_:Int} (h6:g.2.1.length=6) (hi:i<6) (hm:CK g i=m) (hid:m.1=(i:Int)+1):A_ g m [] [] at_=g:=by
 unfold A_
 rw [hid,show ((i:Int)+1-1).toNat=i by omega,List.append_nil,List.foldl_nil]
 have:g.2.1.set i m=g.2.1:=by
  rw [<- hm]
  unfold CK
  rw [AZ (show i<g.2.1.length by omega)]
  exact List.set_getElem_self _
 rw [this]
theorem F9.deliver {g:AR} {k:Nat} {at_:Int} {j:Nat} (hg:Mk g k) (h3:V3 g) (h:F9 g at_) (ha:0<=at_) (hj:j<g.2.2.1.length):F9 (LQ g j at_) at_:=by
 have hmem:g.2.2.1.getD j ER∈g.2.2.1:=by rw [AZ hj]; exact List.getElem_mem _
 have hx:=hg.fly _ hmem
 have hx2:=h3.fly _ hmem
 have hto:=hx.to
 unfold LQ
 generalize g.2.2.1.getD j ER=x at *
 obtain ⟨m1,m2⟩:=hg.mem (x.2.2.1-1).toNat (by omega)
 have hv1:=h3.mem (x.2.2.1-1).toNat (by omega)
 have hid:(CK g (x.2.2.1-1).toNat).1=x.2.2.1:=by rw [m2]; omega
 have hp:(pg g).mem (CK g (x.2.2.1-1).toNat).1=pm (CK g (x.2.2.1-1).toNat):=by rw [hid,P9 hto]
 have hs:=hJ (g:=pg g) hg.views m1 hv1 hx2 hx hp (List.mem_map.2 ⟨x,hmem,rfl⟩)
 have hids:(Db (CK g (x.2.2.1-1).toNat) g.1 x).1.1=x.2.2.1:=by rw [(NS (x:=x) m1 hg.views).id,hid]
 have hvw:=jQ hg.views
 have h6:=hg.six
 have hsub:=bc (g:=g) (i:=j)
 obtain ⟨vr,hall⟩:=h
 generalize hr:Db (CK g (x.2.2.1-1).toNat) g.1 x=r at *
 clear hr
 cases hs with
 | none =>
  refine F9.member (l:=(ES g j).2.2.1) h6 hto hid ?_ hsub
  rw [fG h6 (show (x.2.2.1-1).toNat<6 by omega) rfl m2]
  exact ⟨vr,hall⟩
 | step n T hs =>
  refine F9.member (l:=(ES g j).2.2.1) h6 hto hids ⟨vr,?_⟩ hsub
  rw [Yo h6 hto hids]
  rw [hid] at hs
  exact hall.mstep hvw hs
 | done n hs h1 h2 h3' h4 =>
  have hn:n.1=x.2.2.1:=by rw [h1,hid]
  have hstep:F9 (A_ (ES g j) n [] [] at_) at_:=F9.member (l:=(ES g j).2.2.1) h6 hto hn ⟨vr,by
   rw [Yo h6 hto hn]
   rw [hid] at hs
   exact hall.mstep hvw hs⟩ hsub
  obtain ⟨vr2,hall2⟩:=hstep
  have hlead:n.2.2.2.2.1=true/\n.2.2.2.1=true:=by
   have hp2:(pg (A_ (ES g j) n [] [] at_)).mem x.2.2.1=pm n:=by rw [XM (g:=ES g j) (show (ES g j).2.1.length=6 from h6) hto hn,if_pos rfl]
   have t:=hall2.a.task x.2.2.1 (by rw [hp2]; exact h2)
   have s:=hall2.a.serv x.2.2.1 t.1
   rw [hp2] at s
   exact ⟨s.2.1,s.1⟩
  have hfin:=F9.fin (g:=A_ (ES g j) n [] [] at_) (m:=n) (at_:=at_) (i:=x.2.2.1) (vr:=vr2) (by show (List.set _ _ _).length=6; rw [List.length_set]; exact h6) hto ha hn (by rw [XM (g:=ES g j) (show (ES g j).2.1.length=6 from h6) hto hn,if_pos rfl]) hall2 h2 h3' (by
   rw [h4.1,h4.2.1,h4.2.2.1]
   exact hv1.own (by rw [<- h4.2.2.2.2]; exact hlead.1) (by rw [<- h4.2.2.2.1]; exact hlead.2))
  have e:A_ (A_ (ES g j) n [] [] at_) (Bt n).2 [] (Bt n).1 at_=A_ (ES g j) (Bt n).2 [] (Bt n).1 at_:=by
   unfold A_
   dsimp only
   rw [(aP n).2.2,List.set_set,List.append_nil,List.append_nil,List.foldl_nil]
  rw [<- e]
  exact hfin
theorem F9.adopt {g:AR} {k:Nat} {at_ node:Int} (hg:Mk g k) (h:F9 g at_) (hn:1<=node/\node<=6):∀ (n:Nat) (e:Int),F9 (IU g at_ (CK g (node-1).toNat) node n e).2 at_
 | 0,_=>h
 | n+1,e=>by
  unfold IU
  split
  ·exact F9.adopt hg h hn n (e+1)
  ·split
   ·rename_i hb
    obtain ⟨m1,m2⟩:=hg.mem (node-1).toNat (by omega)
    have hid:(CK g (node-1).toNat).1=node:=by rw [m2]; omega
    have hids:(E3 (CK g (node-1).toNat) g.1 e).1.1=node:=by rw [(TA (e:=e) m1 hg.views hb).2.1,hid]
    obtain ⟨vr,hall⟩:=h
    refine ⟨vr,?_⟩
    rw [Yo hg.six hn hids]
    refine hall.mstep (jQ hg.views) ?_
    have hp:(pg g).mem node=pm (CK g (node-1).toNat):=P9 hn
    generalize CK g (node-1).toNat=m at *
    unfold E3 at hb ⊢
    split at hb
    ·rename_i hc
     rw [if_pos hc]
     have hw:=hg.views.wok (i:=(e-1).toNat) (by omega)
     split
     ·rename_i h2
      simp only [Bool.and_eq_true,beq_iff_eq] at h2
      have:=CE.had (V:=vw g.1) (nv:=(g.1.length:Int)) (g:=pg g) (i:=node) e (by rw [hp]; show e=m.2.1+1; omega) (by rw [hp]; exact h2.1.1) (by rw [dF,<- hid]; exact hc.2.2.2) hc.2.1 (EP (g.1.getD (e-1).toNat []) m.1) (fun k=>by rw [Ui hw,hid]; exact Iff.rfl)
       (((B8 (g.1.getD (e-1).toNat []) m.1).map (fun v=>((3:Int),m.1,v,e,(0:Int),m.2.2.2.2.2.2.2.1))).map px) (fun y hy=>by
        obtain ⟨z,hz,rfl⟩:=List.mem_map.1 hy
        obtain ⟨v,_,rfl⟩:=List.mem_map.1 hz
        exact ⟨rfl,rfl,by rw [hp]; rfl,hid⟩)
      rw [hp] at this
      unfold Ub
      rw [k_]
      exact this
     ·have:=CE.took (V:=vw g.1) (nv:=(g.1.length:Int)) (g:=pg g) (i:=node) e (by rw [hp]; exact hc.2.2.1) (by rw [dF,<- hid]; exact hc.2.2.2) hc.2.1 (((B8 (g.1.getD (e-2).toNat []) m.1).map (fun v=>((1:Int),m.1,v,e,(0:Int),([]:List AI)))).map px) (fun y hy=>by
        obtain ⟨z,hz,rfl⟩:=List.mem_map.1 hy
        obtain ⟨v,_,rfl⟩:=List.mem_map.1 hz
        exact ⟨rfl,rfl,rfl⟩)
      rw [hp] at this
      exact this
    ·cases hb
   ·exact h
theorem F9.fall {g:AR} {k:Nat} {at_ node:Int} (hg:Mk g k) (h:F9 g at_) (hn:1<=node/\node<=6):F9 (A_ g (RC (CK g (node-1).toNat)) [] [] at_) at_:=by
 obtain ⟨m1,m2⟩:=hg.mem (node-1).toNat (by omega)
 obtain ⟨vr,hall⟩:=h
 refine ⟨vr,?_⟩
 rw [Yo hg.six hn (by show (CK g (node-1).toNat).1=node; rw [m2]; omega)]
 have:=CE.fall (V:=vw g.1) (nv:=(g.1.length:Int)) (g:=pg g) (i:=node)
 rw [P9 hn] at this
 exact hall.mstep (jQ hg.views) this
theorem F9.begin {g:AR} {k:Nat} {at_:Int} {e:EQ} (hg:Mk g k) (h3:V3 g) (h:F9 g at_) (ha:0<=at_) (hn:1<=e.2.1/\e.2.1<=6):F9 (Lq g at_ e).2 at_:=by
 obtain ⟨vr,hall⟩:=h
 unfold Lq
 split
 ·rename_i hb
  obtain ⟨m1,m2⟩:=hg.mem (e.2.1-1).toNat (by omega)
  have hv1:=h3.mem (e.2.1-1).toNat (by omega)
  have hid:(CK g (e.2.1-1).toNat).1=e.2.1:=by rw [m2]; omega
  have hp:(pg g).mem e.2.1=pm (CK g (e.2.1-1).toNat):=P9 hn
  have h6:(Gv g at_ e).2.1.length=6:=hg.six
  generalize CK g (e.2.1-1).toNat=m at *
  unfold GS at hb ⊢
  split at hb
  case isFalse=>cases hb
  rename_i hmay
  rw [if_pos hmay]
  split at hb
  case isTrue=>cases hb
  rename_i hput
  rw [if_neg hput]
  obtain ⟨s1,s2,s3,s4,s5,s6,s7,s8,s9,s10⟩:=S_ hmay
  have hok:=Z9 (key:=e.2.2.2.2.1) (val:=e.2.2.2.2.2) m1 s3 s6 s7
  have hone:=(CT.1 hok).1 _ (List.mem_singleton.2 rfl)
  have hser:=m1.serves s1
  have hown:=hv1.own hser.2.1 hser.1
  have hcnt:=m1.count
  have hep:=m1.ep
  have hw:=hg.views.wok (i:=(m.2.1-1).toNat) (by omega)
  have hL:∀ k,k∈EP (g.1.getD (m.2.1-1).toNat []) m.1↔k∈vw g.1 ((pg g).mem e.2.1).ep/\k≠e.2.1:=fun k=>by
   rw [Ui hw,hp,hid]; exact Iff.rfl
  have hpp:e.2.2.2.1=1->BJ (Aj ((pg g).mem e.2.1).items (Iq m e.2.2.2.2.1 e.2.2.2.2.2)) (Iq m e.2.2.2.2.1 e.2.2.2.2.2).1=Iq m e.2.2.2.2.1 e.2.2.2.2.2:=fun ho=>by
   rw [hp]
   show BJ (Aj m.2.2.2.2.2.2.2.1 _) _=_
   have hvl:Jn m.2.2.2.2.2.2.2.1 ((Iq m e.2.2.2.2.1 e.2.2.2.2.2).2.2-1):=hown.mono (by show _<=1000*m.2.1+(m.2.2.2.2.2.2.2.2.1+1)-1; omega)
   have hr:=aH m1.items hone hvl
   have hpn:=f4 m1.items hone hvl
   rw [hpn]
   by_cases hf:m.2.2.2.2.2.2.2.1.length=12/\Gw m.2.2.2.2.2.2.2.1 (Iq m e.2.2.2.2.1 e.2.2.2.2.2).1=false
   ·exfalso
    refine hput ⟨ho,?_⟩
    rw [hf.2,decide_eq_true hf.1] at hr
    exact hr
   ·rw [if_neg hf]
    exact Ke (UZ _ (CT.1 m1.items).2.1) Z4
  have hst:∀ (T:List B0),(∀ y∈T.map px,(y.kind=5/\e.2.2.2.1=1/\y.items=[Iq m e.2.2.2.2.1 e.2.2.2.2.2]\/y.kind=7/\e.2.2.2.1=2/\y.items=[])/\y.ep=((pg g).mem e.2.1).ep/\y.num=((pg g).mem e.2.1).cnt+1/\y.frm=e.2.1) ->
    F9 (A_ (Gv g at_ e) (MO m (g.1.getD (m.2.1-1).toNat []) e.2.2.2.1 (g.2.2.2.length:Int) e.2.2.2.2.1 e.2.2.2.2.2) T [] at_) at_:=fun T hT=>by
   have:=hall.start (i:=e.2.1) (c:=pc (e.2.2.2.1,e.2.2.2.2.1,e.2.2.2.2.2,at_,-1,0,0,0,ByteArray.empty)) (L:=EP (g.1.getD (m.2.1-1).toNat []) m.1) (a:=Iq m e.2.2.2.2.1 e.2.2.2.2.2) (T:=T.map px) rfl rfl (by rw [hp]; exact s1) (by rw [hp]; exact s2) s4 (by rw [hp]; exact s3) hL (by rw [hp]; rfl) hpp hok hT
   refine ⟨jb (pg g) e.2.1 vr,?_⟩
   have e2:pg (A_ (Gv g at_ e) (MO m (g.1.getD (m.2.1-1).toNat []) e.2.2.2.1 (g.2.2.2.length:Int) e.2.2.2.2.1 e.2.2.2.2.2) T [] at_)=BN (pg g) e.2.1 (pc (e.2.2.2.1,e.2.2.2.2.1,e.2.2.2.2.2,at_,-1,0,0,0,ByteArray.empty)) (EP (g.1.getD (m.2.1-1).toNat []) m.1) (Iq m e.2.2.2.2.1 e.2.2.2.2.2) (T.map px):=by
    refine PG.same (fun j=>?_) ?_ ?_
    ·rw [XM (g:=Gv g at_ e) h6 hn (show (MO m _ _ _ _ _).1=e.2.1 from hid)]
     show _=if j=e.2.1 then Lr (pg g) e.2.1 _ _ _ else _
     unfold Lr
     rw [hp]
     have:(pg g).calls.length=g.2.2.2.length:=List.length_map _
     rw [this]
     rfl
    ·show (g.2.2.1++T).map px=g.2.2.1.map px++T.map px
     rw [List.map_append]
    ·show (g.2.2.2++[_]).map pc=g.2.2.2.map pc++[_]
     rw [List.map_append]; rfl
   rw [e2]
   exact this
  unfold Ue
  split
  ·rename_i hoth
   obtain ⟨vr2,hall2⟩:=hst [] (fun y hy=>by cases hy)
   have hfin:=F9.fin (g:=A_ (Gv g at_ e) (MO m (g.1.getD (m.2.1-1).toNat []) e.2.2.2.1 (g.2.2.2.length:Int) e.2.2.2.2.1 e.2.2.2.2.2) [] [] at_) (m:=MO m (g.1.getD (m.2.1-1).toNat []) e.2.2.2.1 (g.2.2.2.length:Int) e.2.2.2.2.1 e.2.2.2.2.2) (at_:=at_) (i:=e.2.1) (vr:=vr2) (by show (List.set _ _ _).length=6; rw [List.length_set]; exact h6) hn ha hid (by rw [XM (g:=Gv g at_ e) h6 hn (show (MO m _ _ _ _ _).1=e.2.1 from hid),if_pos rfl]) hall2 (by show e.2.2.2.1≠0; omega) hoth (hown.mono (by show _<=1000*m.2.1+(m.2.2.2.2.2.2.2.2.1+1); omega))
   have e3:∀ (n t:Y) (s:List E5),n.1=t.1->A_ (A_ (Gv g at_ e) t [] [] at_) n [] s at_=A_ (Gv g at_ e) n [] s at_:=fun n t s hnt=>by
    unfold A_
    dsimp only
    rw [hnt,List.set_set,List.append_nil,List.append_nil,List.foldl_nil]
   rw [e3 _ _ _ (aP _).2.2] at hfin
   exact hfin
  ·refine hst _ fun y hy=>?_
   obtain ⟨z,hz,rfl⟩:=List.mem_map.1 hy
   unfold fE at hz
   obtain ⟨v,_,rfl⟩:=List.mem_map.1 hz
   rw [hp]
   refine ⟨?_,rfl,rfl,hid⟩
   rcases s4 with q | q
   ·rw [if_pos q,if_pos q]; exact .inl ⟨rfl,q,rfl⟩
   ·rw [if_neg (by omega),if_neg (by omega)]; exact .inr ⟨rfl,q,rfl⟩
 ·refine ⟨vr,?_⟩
  have:=hall.call (c:=pc (e.2.2.2.1,e.2.2.2.2.1,e.2.2.2.2.2,at_,-1,0,0,0,ByteArray.empty)) rfl rfl
  have e2:pg (Gv g at_ e)={ pg g with calls:=(pg g).calls++[pc (e.2.2.2.1,e.2.2.2.2.1,e.2.2.2.2.2,at_,-1,0,0,0,ByteArray.empty)] }:=by
   refine PG.same (fun j=>rfl) rfl ?_
   show (g.2.2.2++[_]).map pc=g.2.2.2.map pc++[_]
   rw [List.map_append]; rfl
  exact e2▸this
theorem F9.event {g:AR} {k:Nat} (hg:Mk g k) (h3:V3 g) {at_:Int} (h:F9 g at_) (ha:0<=at_) {e:EQ} (he:XE e=true):F9 (dI g at_ e).2 at_:=by
 have hn:=Yl he
 unfold dI
 split
 ·exact h.begin hg h3 ha (by omega)
 ·split
  ·exact F9.adopt hg h (by omega) _ _
  ·split
   ·exact h.fall hg (by omega)
   ·unfold au
    split
    ·exact h
    ·rename_i hne
     have hl:0<g.2.2.1.length:=by
      cases hq:g.2.2.1 with
      | nil=>exact absurd hq hne
      | cons a l=>simp
     have hlt:(e.2.2.1 % (g.2.2.1.length:Int)).toNat<g.2.2.1.length:=by
      have h1:=Int.emod_lt_of_pos e.2.2.1 (show (0:Int)<(g.2.2.1.length:Int) by omega)
      have h2:=Int.emod_nonneg e.2.2.1 (show (g.2.2.1.length:Int)≠0 by omega)
      omega
     split
     ·refine F9.sub h fun x hx=>?_
      rcases List.mem_append.1 hx with h1 | h1
      ·exact h1
      ·simp only [List.mem_singleton] at h1
       rw [h1,AZ hlt]
       exact List.getElem_mem _
     ·split
      ·exact F9.sub (l:=(ES g _).2.2.1) h bc
      ·exact h.deliver hg h3 ha hlt
theorem F9.new {views:List (List Int)} (hv:Rd views):F9 (Aq views) 0:=by
 unfold F9
 have hvl:=hv.len
 have hm:∀ i,(1<=i/\i<=6/\(pg (Aq views)).mem i=pm (D3 i views))\/(pg (Aq views)).mem i=aO:=fun i=>by
  by_cases h:1<=i/\i<=6
  ·left
   refine ⟨h.1,h.2,?_⟩
   rw [P9 h]
   have h5:i=1\/i=2\/i=3\/i=4\/i=5\/i=6:=by omega
   rcases h5 with rfl | rfl | rfl | rfl | rfl | rfl<;>rfl
  ·exact .inr (if_neg h)
 have hfirst:=aA hv (e:=1) (by omega) (by omega) rfl
 have key:∀ i,((pg (Aq views)).mem i).ep=1/\((pg (Aq views)).mem i).fell=false/\(((pg (Aq views)).mem i).base=true↔1<=i/\i<=6/\(views.getD 0 []).contains i=true)/\(((pg (Aq views)).mem i).leads=true->OE views 1=i/\((pg (Aq views)).mem i).base=true)/\((pg (Aq views)).mem i).serves=((pg (Aq views)).mem i).leads/\((pg (Aq views)).mem i).waits=[]/\((pg (Aq views)).mem i).items=[]/\((pg (Aq views)).mem i).cnt=0/\((pg (Aq views)).mem i).op=0:=fun i=>by
  rcases hm i with ⟨h1,h2,h⟩ | h
  ·rw [h]
   refine ⟨rfl,rfl,⟨fun h=>⟨h1,h2,h⟩,fun h=>h.2.2⟩,fun hl=>?_,rfl,rfl,rfl,rfl,rfl⟩
   have:(views.getD 0 []).getD 0 0=i:=by
    have:((views.getD 0 []).getD 0 0==i)=true:=hl
    simpa using this
   refine ⟨this,?_⟩
   have hf:OE views 1=i:=this
   rw [hf] at hfirst
   exact hfirst
  ·rw [h]
   refine ⟨rfl,rfl,⟨fun h=>(by cases h),fun hh=>?_⟩,fun h=>(by cases h),rfl,rfl,rfl,rfl,rfl⟩
   have:=P9 (g:=Aq views) ⟨hh.1,hh.2.1⟩
   exfalso
   rcases hm i with ⟨q1,q2,q⟩ | q
   ·rw [h] at q
    have:aO.base=(pm (D3 i views)).base:=by rw [q]
    have h2:(pm (D3 i views)).base=true:=hh.2.2
    rw [h2] at this
    cases this
   ·have h5:i=1\/i=2\/i=3\/i=4\/i=5\/i=6:=by omega
    have h7:(pm (D3 i views))=aO:=by
     rw [<- q,P9 ⟨hh.1,hh.2.1⟩]
     rcases h5 with rfl | rfl | rfl | rfl | rfl | rfl<;>rfl
    have:aO.base=(pm (D3 i views)).base:=by rw [h7]
    have h2:(pm (D3 i views)).base=true:=hh.2.2
    rw [h2] at this
    cases this
 have hfly:(pg (Aq views)).fly=[]:=rfl
 have hcal:(pg (Aq views)).calls=[]:=rfl
 have hview:∀ k∈views.getD 0 [],1<=k/\k<=6:=(hv.wok (i:=0) (by omega)).mem
 have hvw1:vw (Aq views).1 1=views.getD 0 []:=rfl
 have hg1:(Aq views).1=views:=rfl
 generalize pg (Aq views)=g at *
 refine ⟨fun _=>0,⟨?_,?_,?_,?_,?_,?_⟩⟩
 ·refine ⟨fun i=>?_,fun i h=>?_,fun i h=>?_,fun i h=>?_,fun i h=>?_,fun i=>?_,fun i h=>?_⟩<;>obtain ⟨k1,k2,k3,k4,k5,k6,k7,k8,k9⟩:=key i
  ·omega
  ·rw [k1,hg1]; exact ⟨by omega,(k4 h).1⟩
  ·rw [k1,hg1]; exact ⟨by omega,List.contains_iff_mem.1 (k3.1 h).2.2⟩
  ·rw [k5] at h; exact ⟨(k4 h).2,h,k6⟩
  ·exact absurd k9 h
  ·omega
  ·rw [k2] at h; cases h
 ·refine ⟨fun i _ d h1 h2=>?_,fun x hx=>by rw [hfly] at hx; cases hx⟩
  rw [(key i).1] at h2; omega
 ·refine ⟨fun k h=>absurd rfl h,fun k l h=>absurd rfl h,fun _ _=>rfl,fun i h=>absurd (key i).2.2.2.2.2.2.2.2 h,?_,?_,?_,fun i h=>absurd (key i).2.2.2.2.2.2.2.2 h,?_⟩
  ·intro k c h; rw [hcal] at h; cases h
  ·intro k c h; rw [hcal] at h; cases h
  ·intro x h; rw [hfly] at h; cases h
  ·intro k l a b h; rw [hcal] at h; cases h
 ·refine ⟨fun i h1 h2 k hk h3 h4=>?_,fun x hx=>by rw [hfly] at hx; (cases hx),fun k e n h=>absurd rfl h,fun k hk=>?_,fun x hx=>by rw [hfly] at hx; (cases hx)⟩
  ·rw [(key i).1] at hk ⊢
   have:=hview k hk
   exact .inr ⟨(key k).1,.inl ((key k).2.2.1.2 ⟨this.1,this.2,List.contains_iff_mem.2 hk⟩)⟩
  ·rw [(key k).1,(key _).1]
   exact ⟨Int.le_refl _,fun _ h=>((key _).2.2.2.1 h).2⟩
 ·refine ⟨fun i=>by rw [(key i).2.2.2.2.2.2.1]; rfl,fun x hx=>by rw [hfly] at hx; (cases hx),fun i _ _ _ x hx=>by rw [hfly] at hx; (cases hx),fun i _ _ j _ _=>.inl (by rw [(key i).2.2.2.2.2.2.1,(key j).2.2.2.2.2.2.1]),fun i h=>?_,fun x hx=>by rw [hfly] at hx; (cases hx),fun i h=>?_⟩
  ·rw [(key i).2.2.2.2.2.2.2.2] at h; exact absurd h (by decide)
  ·rw [(key i).2.2.2.2.2.2.2.2] at h; exact absurd h (by decide)
 ·refine ⟨?_,?_,fun i h=>absurd (key i).2.2.2.2.2.2.2.2 h,?_,?_,?_,?_,?_,?_⟩
  ·intro k c h; rw [hcal] at h; cases h
  ·intro k c h; rw [hcal] at h; cases h
  ·intro k l a b h; rw [hcal] at h; cases h
  ·intro k c h; rw [hcal] at h; cases h
  ·intro i y hy; rw [(key i).2.2.2.2.2.2.1] at hy; cases hy
  ·intro x h; rw [hfly] at h; cases h
  ·intro i h; rw [(key i).2.2.2.2.2.2.2.2] at h; exact absurd h (by decide)
  ·intro k c h; rw [hcal] at h; cases h

theorem Mk.deliver {g:AR} {k:Nat} (hg:Mk g k) {j:Nat} (hj:j<g.2.2.1.length) (at_:Int):Mk (LQ g j at_) (k+1):=by
 have hmem:g.2.2.1.getD j ER∈g.2.2.1:=by rw [AZ hj]; exact List.getElem_mem _
 have hto:=(hg.fly _ hmem).to
 unfold LQ
 generalize g.2.2.1.getD j ER=x at *
 obtain ⟨m1,m2⟩:=hg.mem (x.2.2.1-1).toNat (by omega)
 have hh:=NS (x:=x) m1 hg.views
 exact (hg.less j).member (i:=(x.2.2.1-1).toNat) (by omega) hh.mok (by rw [hh.id,m2]) (fj hh.told) hh.tlen
theorem V3.deliver {g:AR} {k:Nat} (h:V3 g) (hg:Mk g k) {j:Nat} (hj:j<g.2.2.1.length) {at_:Int} (ha:0<=at_):V3 (LQ g j at_):=by
 have hmem:g.2.2.1.getD j ER∈g.2.2.1:=by rw [AZ hj]; exact List.getElem_mem _
 have hto:=(hg.fly _ hmem).to
 have hx:=h.fly _ hmem
 unfold LQ
 generalize g.2.2.1.getD j ER=x at *
 obtain ⟨m1,m2⟩:=hg.mem (x.2.2.1-1).toNat (by omega)
 exact (h.less j).member (g:=ES g j) hg.six (i:=(x.2.2.1-1).toNat) ha (by omega) (by rw [(NS (x:=x) m1 hg.views).id,m2]) (jF hg.views m1 (h.mem _ (by omega)) hx)

abbrev WK:Type:=Int×ByteArray×ByteArray×Int×Int×Int×Int×Int×ByteArray
theorem FW x:DM x=some (decide (0<=x.2.2.2.2.1)):=aq rfl
def fH (a b:WK):Bool:=decide (0<=a.2.2.2.2.1)&&decide (0<=b.2.2.2.2.1)&&(decide (MM a=MM b)||(decide (a.2.2.2.2.1<b.2.2.2.1)&&decide (MM b<=MM a)))
def eI (a:WK) (i:Nat):Nat->List WK->Bool
 | _,[]=>true
 | j,b::r=>(decide (i=j)||!fH a b)&&eI a i (j+1) r
def hO (x:List WK):Nat->List WK->Bool
 | _,[]=>true
 | i,a::r=>eI a i 0 x&&hO x (i+1) r
theorem XN (x) (h:x.length<=maxLen):OK x=some (hO x 0 x):=ag (by
 have hm:x.length<=9223372036854775807:=h
 unfold Tj
 exact NZ (n:=x.length) (P:=fun i=>G_ x x (x.length:Int) (i:Int)=some (hO x i (x.drop i))) (Oy (by
  unfold KS
  rw [if_neg (by simp),List.drop_length]
  rfl)) (fun i hi ih=>Oy (by
  unfold KS
  simp only [show ((i:Int)<(x.length:Int)) from by omega,decide_true,if_true,show (0:Int)<=(i:Int) from by omega,Int.toNat_natCast,AZ hi]
  rw [EF hi]
  have:=NZ (n:=x.length) (P:=fun j=>Cl x (i:Int) x (x.length:Int) (i:Int) x (x.length:Int) (j:Int) x[i]=some (eI x[i] i j (x.drop j)&&hO x (i+1) (x.drop (i+1)))) (Ox (by
   unfold KR
   rw [if_neg (by simp),List.drop_length,Ae (show i<9223372036854775807 by omega),ih]
   rfl)) (fun j hj ihj=>Ox (by
   have w2:∀ b,decide (0<=x[i].2.2.2.2.1)=true->decide (0<=x[j].2.2.2.2.1)=true->KQ x (i:Int) x (x.length:Int) (i:Int) x (x.length:Int) (j:Int) b x[i] x[j]=some (!fH x[i] x[j]&&(eI x[i] i (j+1) (x.drop (j+1))&&hO x (i+1) (x.drop (i+1)))):=fun b g1 g2=>Wt (by
    unfold Ow fH
    simp only [Ln,X,Ae (show j<9223372036854775807 by omega),ihj,g1,g2,Bool.true_and]
    by_cases e1:MM x[i]=MM x[j]
    ·simp [e1]
    ·by_cases e2:x[i].2.2.2.2.1<x[j].2.2.2.1<;>by_cases e3:MM x[j]<MM x[i]<;>simp [e1,e2,e3]<;>intro h<;>omega)
   unfold KR
   simp only [show ((j:Int)<(x.length:Int)) from by omega,decide_true,if_true,show (0:Int)<=(j:Int) from by omega,Int.toNat_natCast,AZ hj,Ae (show j<9223372036854775807 by omega),ihj,FW,X]
   rw [EF hj]
   by_cases e:i=j
   ·subst e
    simp [eI]
   ·have ne:((i:Int)==(j:Int))=false:=by simp; omega
    by_cases g1:0<=x[i].2.2.2.2.1
    ·by_cases g2:0<=x[j].2.2.2.2.1
     ·have:=w2 false (by simpa using g1) (by simpa using g2)
      simp [g1,g2,eI,e,ne,this,Bool.and_assoc]
     ·have:fH x[i] x[j]=false:=by unfold fH; simp [g2]
      simp [g1,g2,eI,this,ne]
    ·have:fH x[i] x[j]=false:=by unfold fH; simp [g1]
     simp [g1,eI,this,ne])) 0 (by omega)
  exact this)) 0 (by omega))





def Xo (g x:WK):Bool:=(x.1==1)&&(x.2.1.toList==g.2.1.toList)&&(x.2.2.1.toList==g.2.2.2.2.2.2.2.2.toList)&&(decide (x.2.2.2.2.1<0)||(x.2.2.2.2.2.1==g.2.2.2.2.2.1))
theorem WL x g:M3 x g=some (Xo g x):=Zw (by
 unfold SY Xo
 simp only [FW,X]
 by_cases a:x.1=1<;>by_cases b:x.2.1.toList=g.2.1.toList<;>by_cases c:x.2.2.1.toList=g.2.2.2.2.2.2.2.2.toList<;>by_cases d:0<=x.2.2.2.2.1<;>simp [a,b,c,d]<;>omega)
theorem Yb (x:List WK) (g) (h:x.length<=maxLen):Ps x g=some (x.any (Xo g)):=cn (by
 have hm:x.length<=9223372036854775807:=h
 have:∃ r,An x g (x.length:Int) ((0:Nat):Int)=some r/\decide (r>=0)=(x.drop 0).any (Xo g) :=
  NZ (n:=x.length) (P:=fun i=>∃ r,An x g (x.length:Int) (i:Int)=some r/\decide (r>=0)=(x.drop i).any (Xo g))
   ⟨-1,Bz (by
    unfold BD
    rw [if_neg (by simp)]),by simp⟩
   (fun i hi ⟨r,hr,hd⟩=>by
    have e:=WL x[i] g
    cases q:Xo g x[i] with
    | true =>
     refine ⟨i,Bz ?_,by rw [EF hi,List.any_cons,q,Bool.true_or]; simp⟩
     unfold BD
     simp only [show ((i:Int)<(x.length:Int)) from by omega,decide_true,if_true,show (0:Int)<=(i:Int) from by omega,Int.toNat_natCast,AZ hi,e,q,X]
    | false =>
     refine ⟨r,Bz ?_,by rw [hd,EF hi,List.any_cons,q,Bool.false_or]⟩
     unfold BD
     simp only [show ((i:Int)<(x.length:Int)) from by omega,decide_true,if_true,show (0:Int)<=(i:Int) from by omega,Int.toNat_natCast,AZ hi,e,q,X,Ae (show i<9223372036854775807 by omega),hr]
     simp) 0 (by omega)
 obtain ⟨r,hr,hd⟩:=this
 unfold Vl
 have e1:CA x g=some r:=Gq (by unfold DW; exact hr)
 have e2:By x g=some (decide (r>=0)):=F5 (by
  unfold Cz
  rw [e1]
  rfl)
 rw [e2,hd]
 rfl)
def P_ (x:List WK) (g:WK):Bool :=
 if g.1=2 then
  if 0<=g.2.2.2.2.1 then
   if g.2.2.2.2.2.1=0 then g.2.2.2.2.2.2.2.2.toList==(⟨#[]⟩:ByteArray).toList
   else x.any (Xo g)&&!decide (g.2.2.2.2.2.1>MM g)
  else true
 else true
theorem Yc (x) (h:x.length<=maxLen):Po x=some (x.all (P_ x)):=cg (by
 have hm:x.length<=9223372036854775807:=h
 unfold Vc
 have:=NZ (n:=x.length) (P:=fun i=>Dc x x (x.length:Int) (i:Int)=some ((x.drop i).all (P_ x))) (Qp (by
  unfold Ld
  rw [if_neg (by simp)]
  simp)) (fun i hi ih=>Qp (by
  unfold Ld
  simp only [show ((i:Int)<(x.length:Int)) from by omega,decide_true,if_true,show (0:Int)<=(i:Int) from by omega,Int.toNat_natCast,AZ hi,Ae (show i<9223372036854775807 by omega),ih,FW,X]
  rw [EF hi,List.all_cons]
  generalize hq:(x.drop (i+1)).all (P_ x)=q at *
  have J1:∀ d,x[i].1=2->0<=x[i].2.2.2.2.1->Lc x x (x.length:Int) (i:Int) d x[i]=some (P_ x x[i]&&q):=fun d a b'=>YB (by
   unfold Qo
   simp only [Ae (show i<9223372036854775807 by omega),ih,Yb x _ h,Ln,X]
   by_cases c:x[i].2.2.2.2.2.1=0
   ·cases d:x[i].2.2.2.2.2.2.2.2.toList<;>simp [P_,a,b',c,d]
   ·cases e:x.any (Xo x[i])<;>by_cases d:x[i].2.2.2.2.2.1>MM x[i]<;>simp [P_,a,b',c,d,e])
  by_cases a:x[i].1=2
  ·by_cases b:0<=x[i].2.2.2.2.1
   ·have:=J1 (!decide (0<=x[i].2.2.2.2.1)) a b
    simp [b] at this
    simp [a,b,this]
   ·simp [P_,a,b]
  ·simp [P_,a])) 0 (by omega)
 simpa using this)

def f9 (a b:LO):Bool:=decide (a.1=2)&&decide (0<=a.2.2.2.2.1)&&decide (0<=b.2.2.2.2.1)&&(b.2.1.toList==a.2.1.toList)&&decide (MM b<MM a)&&decide (a.2.2.2.2.2.1<b.2.2.2.2.2.1)
theorem Yd (x:List LO) (h:x.length<=maxLen) (hf:∀ k l (hk:k<x.length) (hl:l<x.length),f9 x[k] x[l]=false):Pp x=some true:=ci (by
 have hm:x.length<=9223372036854775807:=h
 unfold Vd
 exact NZ (n:=x.length) (P:=fun i=>Eg x x (x.length:Int) (i:Int)=some true) (Qu (by
  unfold Lf
  rw [if_neg (by simp)])) (fun i hi ih=>Qu (by
  unfold Lf
  have hz:∀ k (hk:k<x.length),x.getD k ((0:Int),ByteArray.empty,ByteArray.empty,(0:Int),(0:Int),(0:Int),(0:Int),(0:Int),ByteArray.empty)=x[k]:=fun k hk=>AZ hk
  simp only [show ((i:Int)<(x.length:Int)) from by omega,decide_true,if_true,show (0:Int)<=(i:Int) from by omega,Int.toNat_natCast,hz i hi,Ae (show i<9223372036854775807 by omega),FW,X,ih]
  by_cases c1:x[i].1=2
  case neg=>rw [if_neg (by simpa using c1)]
  by_cases c2:0<=x[i].2.2.2.2.1
  case neg=>rw [if_pos (by simpa using c1),if_pos (by simp; omega)]
  rw [if_pos (by simpa using c1),if_neg (by simp; omega)]
  exact NZ (n:=x.length) (P:=fun j=>F4 x x (x.length:Int) (i:Int) x (x.length:Int) (j:Int) x[i]=some true) (Qt (by
   unfold Le
   rw [if_neg (by simp),Ae (show i<9223372036854775807 by omega)]
   exact ih)) (fun j hj ihj=>Qt (by
   have he:=hf i j hi hj
   have w2:∀ b,(b=true->x[i].2.2.2.2.2.1<x[j].2.2.2.2.2.1->False)->CD x b x (x.length:Int) (i:Int) x (x.length:Int) (j:Int) x[i] x[j]=some true:=fun b hb=>YD (by
    unfold Qs
    rw [Ae (show j<9223372036854775807 by omega),ihj]
    cases b with
    | false=>rfl
    | true=>rw [if_pos rfl,if_neg (by simpa using hb rfl)])
   unfold Le
   simp only [show ((j:Int)<(x.length:Int)) from by omega,decide_true,if_true,show (0:Int)<=(j:Int) from by omega,Int.toNat_natCast,hz j hj,FW,Ln,X]
   unfold f9 at he
   have wf:=w2 false (fun h=>by cases h)
   have wt:x[j].2.1.toList=x[i].2.1.toList->0<=x[j].2.2.2.2.1->CD x (decide (MM x[j]<MM x[i])) x (x.length:Int) (i:Int) x (x.length:Int) (j:Int) x[i] x[j]=some true:=fun c4 c3=>w2 _ (fun h5 h6=>by
    simp [c1,c2,c3,c4,of_decide_eq_true h5,h6] at he)
   generalize x[i]=a at *
   generalize x[j]=b at *
   by_cases d1:b.1=1<;>by_cases d2:b.1=2<;>by_cases c4:b.2.1.toList=a.2.1.toList<;>by_cases c3:0<=b.2.2.2.2.1<;>simp [d1,d2,c3,c4,wf,wt])) 0 (by omega))) 0 (by omega))

theorem bA (x:List Int) (hx:x.length<=maxLen):∃ p,JN x=some p/\p.length=12/\∀ a∈p,0<=a:=by
 obtain ⟨d,e0,k0⟩:=XF x hx
 obtain ⟨b,d',e1,k1,_⟩:=Da d k0
 have key:∀ (n i:Nat),i+n=12->∀ (d:ff) (l:List Int),kc d->l.length=i->(∀ a∈l,0<=a)->∃ p,Eu (i:Int) d l=some p/\p.length=12/\∀ a∈p,0<=a:=by
  intro n
  induction n with
  | zero =>
   intro i hi d l hd hl ha
   refine ⟨l,K_ ?_,by omega,ha⟩
   unfold Gl
   rw [if_neg (by simp; omega)]
  | succ n ih =>
   intro i hi d l hd hl ha
   obtain ⟨v,d2,e2,k2,v0,_⟩:=UY 10000 d hd
   obtain ⟨p,hp,hq⟩:=ih (i+1) (by omega) d2 (l++[v]) k2 (by simp [hl]) (fun a h=>by
    rcases List.mem_append.1 h with h | h
    ·exact ha a h
    ·simp only [List.mem_singleton] at h; rw [h]; exact v0)
   refine ⟨p,K_ ?_,hq⟩
   unfold Gl
   rw [if_pos (by simp; omega),e2,X,if_pos (by simp; omega),Ae (by omega)]
   exact hp
 obtain ⟨p,hp,hq⟩:=key 12 0 rfl d' [] k1 rfl (fun a h=>by cases h)
 refine ⟨p,Vg ?_,hq⟩
 unfold Nz
 rw [e0,X,e1,X]
 exact hp
def Uj:List EQ:=List.replicate 10 ((2:Int),(1:Int),(0:Int),(0:Int),ByteArray.empty,ByteArray.empty)
def jT (a b:List Int):List EQ:=(((([((1:Int),a.getD 0 0,(0:Int),(1:Int),(⟨#[97]⟩:ByteArray),(⟨#[111,110,101]⟩:ByteArray))]++Uj)++[((5:Int),b.getD 0 0,(0:Int),(0:Int),ByteArray.empty,ByteArray.empty)])++Uj)++[((1:Int),b.getD 0 0,(0:Int),(2:Int),(⟨#[97]⟩:ByteArray),ByteArray.empty)])++Uj
def m4 (g:AR):Bool:=((g.2.2.2.length:Int)==2)&&decide (0<=(g.2.2.2.getD 0 Fy).2.2.2.2.1)&&decide (0<=(g.2.2.2.getD 1 Fy).2.2.2.2.1)&&((g.2.2.2.getD 1 Fy).2.2.2.2.2.2.2.2.toList==(⟨#[111,110,101]⟩:ByteArray).toList)&&((g.2.2.2.getD 1 Fy).2.2.2.2.2.1==1001)&&((g.2.2.2.getD 1 Fy).2.2.2.2.2.2.1==2)&&((g.2.2.1.length:Int)==0)
def fI (g:AR):Bool:=hO g.2.2.2 0 g.2.2.2&&g.2.2.2.all (P_ g.2.2.2)&&(g.2.2.2.all fun a=>g.2.2.2.all fun b=>!f9 a b)&&aK g&&jP g
def hP:List (List Int):=[[1],[1,2],[1,3],[1,2,3],[2],[2,1],[2,3],[2,1,3],[3],[3,1],[3,2],[3,1,2]]
def jU (a b:List Int):Bool:=FU [a,b] 2 [a,b]&&(jT a b).all XE&&m4 (OT 0 (jT a b) (Aq [a,b]) []).1&&fI (OT 0 (jT a b) (Aq [a,b]) []).1
set_option maxRecDepth 100000 in
theorem hU:(hP.all fun a=>hP.all fun b=>jU a b)=true:=by kernel_rfl
theorem jV {g:AR} (hf:mx g) (hm:g.2.2.2.length<=maxLen) (hs:fI g=true):Pq g=some true:=cj (by
 unfold fI at hs
 simp only [Bool.and_eq_true] at hs
 obtain ⟨⟨⟨⟨h1,h2⟩,h3⟩,h4⟩,h5⟩:=hs
 have hfr:∀ k l (hk:k<g.2.2.2.length) (hl:l<g.2.2.2.length),f9 g.2.2.2[k] g.2.2.2[l]=false:=fun k l hk hl=>by
  have:=List.all_eq_true.1 (List.all_eq_true.1 h3 _ (List.getElem_mem hk)) _ (List.getElem_mem hl)
  simpa using this
 unfold Ve
 rw [XN _ hm,h1,X,if_pos rfl,Yc _ hm,h2,X,if_pos rfl,Yd _ hm hfr,X,if_pos rfl,Ss _ hf.n1 hf.n2,h4,X,if_pos rfl,XL _ hf,h5,X])
theorem f_ {f:Int} {a b c:List Int} (hf:1<=f/\f<=3) (h1:a=[f]\/(a=[f]++[1]/\1≠f)) (h2:b=a\/(b=a++[2]/\2≠f)) (h3:c=b\/(c=b++[3]/\3≠f)):c∈hP:=by
 have h5:f=1\/f=2\/f=3:=by omega
 rcases h5 with rfl | rfl | rfl<;>rcases h1 with rfl | ⟨rfl,h1⟩<;>rcases h2 with rfl | ⟨rfl,h2⟩<;>rcases h3 with rfl | ⟨rfl,h3⟩<;>first | decide | omega
theorem hX {a b:List Int} (ha:a∈hP) (hb:b∈hP):Fs a b=some true:=Px (by
 have hq:=List.all_eq_true.1 (List.all_eq_true.1 hU a ha) b hb
 have hpos:∀ c∈hP,0<c.length:=by decide
 have hla:=hpos a ha
 have hlb:=hpos b hb
 unfold jU at hq
 simp only [Bool.and_eq_true] at hq
 obtain ⟨⟨⟨hv,he⟩,hk⟩,hs⟩:=hq
 have hV:Rd [a,b]:=⟨hv⟩
 have hE:∀ e∈jT a b,XE e=true:=fun e h=>List.all_eq_true.1 he e h
 have hL:(jT a b).length=33:=by simp [jT,Uj]
 have hR:=WF hV (show (jT a b).length<=70 by omega) hE
 obtain ⟨r1,_,_⟩:=c_ (jT a b) 0 (Aq [a,b]) [] (bZ hV) (by omega) hE
 generalize (OT 0 (jT a b) (Aq [a,b]) []).1=g at *
 generalize (OT 0 (jT a b) (Aq [a,b]) []).2=cs at *
 have hc:=r1.clen
 have hS:=jV r1.fit (by unfold maxLen; omega) hs
 unfold m4 at hk
 simp only [Bool.and_eq_true,decide_eq_true_eq,beq_iff_eq] at hk
 obtain ⟨⟨⟨⟨⟨⟨k1,k2⟩,k3⟩,k4⟩,k5⟩,k6⟩,k7⟩:=hk
 have J4:D0 a b [a,b] [((1:Int),a.getD 0 0,(0:Int),(1:Int),(⟨#[97]⟩:ByteArray),(⟨#[111,110,101]⟩:ByteArray))] Uj=some true:=Pw (by
  have hn:Uj.length=10:=rfl
  unfold JY
  rw [if_pos (by simp [hn]),if_pos (by omega),if_pos (by omega),if_pos (by simp [hn]),if_pos (by simp [hn]),if_pos (by omega),if_pos (by omega),if_pos (by simp [hn]),if_pos (by simp [hn])]
  change ((Ht [a,b] (jT a b)).bind _)=_
  rw [hR,X]
  dsimp only
  rw [if_pos rfl,if_pos (by rw [beq_iff_eq]; exact k1),if_pos (by omega),if_pos (by omega),if_pos (by exact decide_eq_true k2),if_pos (by omega),if_pos (by omega),if_pos (by exact decide_eq_true k3),if_pos (by omega),if_pos (by omega),if_pos (by rw [beq_iff_eq]; exact k4),if_pos (by omega),if_pos (by omega),if_pos (by rw [beq_iff_eq]; exact k5),if_pos (by omega),if_pos (by omega),if_pos (by rw [beq_iff_eq]; exact k6),hS,X,if_pos rfl,k7]
  rfl)
 unfold JZ
 rw [if_pos (by omega),if_pos (by omega)]
 have key:∀ (n i:Nat),i+n=10->∀ (x4:List EQ),D0 a b [a,b] x4 Uj=some true->D1 (i:Int) a b [a,b] x4 (List.replicate i ((2:Int),(1:Int),(0:Int),(0:Int),ByteArray.empty,ByteArray.empty))=some true:=by
  intro n
  induction n with
  | zero =>
   intro i hi x4 h
   have:i=10:=by omega
   subst this
   refine Ja ?_
   unfold Ft
   rw [if_neg (by decide)]
   exact h
  | succ n ih =>
   intro i hi x4 h
   refine Ja ?_
   unfold Ft
   rw [if_pos (by simp; omega),if_pos (by simp; omega),Ae (by omega),<- List.replicate_succ']
   exact ih (i+1) (by omega) x4 h
 exact key 10 0 rfl _ J4)
theorem XO (x) (hx:Kd.ok (.slice (.int .u8)) x):L7 x=some true:=TK (by
 unfold L8
 rw [ay,X]
 by_cases hbig:x.length<=1048576
 case neg=>rw [if_pos (by simp; omega)]
 rw [if_neg (by simp; omega)]
 obtain ⟨p,e,hp,h0⟩:=bA x (by unfold maxLen; omega)
 have hget:∀ i,i<12->0<=p.getD i 0:=fun i hi=>by rw [AZ (by omega)]; exact h0 _ (List.getElem_mem _)
 have hw:∀ i,i<12->∃ f:Int,IntKind.i64.wrap ((1:Int)+Int.tmod (p.getD i 0) 3)=f/\1<=f/\f<=3:=fun i hi=>by
  have:=hget i hi
  rw [Int.tmod_eq_emod_of_nonneg this]
  exact ⟨_,rfl,by rw [Az (by omega)]; omega,by rw [Az (by omega)]; omega⟩
 rw [e,X,if_pos (by omega),if_pos (by omega),if_neg (by omega),if_pos (by omega),if_pos (by omega),if_neg (by omega)]
 obtain ⟨f,f1,f2⟩:=hw 0 (by omega)
 obtain ⟨s,s1,s2⟩:=hw 1 (by omega)
 rw [show (0:Int).toNat=0 from rfl,show (1:Int).toNat=1 from rfl,f1,s1]
 have step:∀ (v:Nat) (a b:List Int),1<=v->v<=3->0<a.length->0<b.length->a.length<=9->b.length<=9->(∀ a' b',(a'=a\/(a'=a++[(v:Int)]/\(v:Int)≠a.getD 0 0))->(b'=b\/(b'=b++[(v:Int)]/\(v:Int)≠b.getD 0 0))->Bs p ((v+1:Nat):Int) a' b'=some true)->Bs p (v:Int) a b=some true:=by
  intro v a b v1 v3 hla hlb hla2 hlb2 h
  have J:∀ a',(a'=a\/(a'=a++[(v:Int)]/\(v:Int)≠a.getD 0 0))->Cv p (v:Int) a' b=some true:=fun a' ha=>Pv (by
   unfold JX
   rw [if_pos (by omega),if_pos (by omega),Ae (show v<9223372036854775807 by omega),Az (show -9223372036854775808<=(5:Int)+(v:Int)/\(5:Int)+(v:Int)<=9223372036854775807 by omega)]
   by_cases hb:(v:Int)≠b.getD 0 0
   ·rw [if_pos (by rw [bne_iff_ne]; exact hb),if_pos (by omega),if_pos (by omega),if_neg (by omega)]
    split
    ·rw [if_pos (by simp; omega)]
     exact h a' _ ha (.inr ⟨rfl,hb⟩)
    ·exact h a' _ ha (.inl rfl)
   ·rw [if_neg (by rw [bne_iff_ne]; exact hb)]
    exact h a' _ ha (.inl rfl))
  refine Jb ?_
  unfold Fu
  rw [if_pos (by simp; omega),if_pos (by omega),if_pos (by omega),Az (show -9223372036854775808<=(2:Int)+(v:Int)/\(2:Int)+(v:Int)<=9223372036854775807 by omega)]
  by_cases ha:(v:Int)≠a.getD 0 0
  ·rw [if_pos (by rw [bne_iff_ne]; exact ha),if_pos (by omega),if_pos (by omega),if_neg (by omega)]
   split
   ·rw [if_pos (by simp; omega)]
    exact J _ (.inr ⟨rfl,ha⟩)
   ·exact J _ (.inl rfl)
  ·rw [if_neg (by rw [bne_iff_ne]; exact ha)]
   exact J _ (.inl rfl)
 have hd:∀ (f:Int) (a l:List Int),a.getD 0 0=f->0<a.length->(a++l).getD 0 0=f:=fun f a l h hl=>by
  cases a with
  | nil=>simp at hl
  | cons c a=>exact h
 refine step 1 [f] [s] (by omega) (by omega) (by simp) (by simp) (by simp) (by simp) fun a1 b1 ha1 hb1=>?_
 have la1:0<a1.length/\a1.length<=2/\a1.getD 0 0=f:=by rcases ha1 with rfl | ⟨rfl,_⟩<;>simp
 have lb1:0<b1.length/\b1.length<=2/\b1.getD 0 0=s:=by rcases hb1 with rfl | ⟨rfl,_⟩<;>simp
 refine step 2 a1 b1 (by omega) (by omega) la1.1 lb1.1 (by omega) (by omega) fun a2 b2 ha2 hb2=>?_
 rw [la1.2.2] at ha2
 rw [lb1.2.2] at hb2
 have la2:0<a2.length/\a2.length<=3/\a2.getD 0 0=f:=by
  rcases ha2 with rfl | ⟨rfl,_⟩
  ·exact ⟨la1.1,by omega,la1.2.2⟩
  ·exact ⟨by simp,by simp; omega,hd f a1 _ la1.2.2 la1.1⟩
 have lb2:0<b2.length/\b2.length<=3/\b2.getD 0 0=s:=by
  rcases hb2 with rfl | ⟨rfl,_⟩
  ·exact ⟨lb1.1,by omega,lb1.2.2⟩
  ·exact ⟨by simp,by simp; omega,hd s b1 _ lb1.2.2 lb1.1⟩
 refine step 3 a2 b2 (by omega) (by omega) la2.1 lb2.1 (by omega) (by omega) fun a3 b3 ha3 hb3=>?_
 rw [la2.2.2] at ha3
 rw [lb2.2.2] at hb3
 refine Jb ?_
 unfold Fu
 rw [if_neg (by decide)]
 exact hX (f_ f2 ha1 ha2 ha3) (f_ s2 hb1 hb2 hb3))

theorem jW {P:Program} {c:List Char} {rest:List (List Char)} (h:behindMainWord (wordsSigns P.initOrder.toList)=c::rest) (h1:(c == "gc".toList||c == "spec".toList)=false) (h2:(c == "cut".toList||(c == "finals".toList&&rest.head? == some "cut".toList))=true):P.make=some .cut:=by
 unfold Program.make
 rw [h]
 simp only [h1,h2]
 rfl
theorem jX {P:Program} {c:List Char} {rest:List (List Char)} (h:behindMainWord (wordsSigns P.initOrder.toList)=c::rest) (h1:((stripLifts liftWords (c::rest)).2.head? == some "cut".toList)=true) (h2:(stripLifts liftWords (c::rest)).1=[])
  (h3:P.laysLater=false) (h4:P.bearsReflect=false) (h5:P.doorFits []=true):P.mayEnter=true:=by
 unfold Program.mayEnter
 rw [h]
 simp only [h1,h2,h3,h4,h5]
 simp
theorem jY {P:Program} {c:List Char} {rest:List (List Char)} (h:behindMainWord (wordsSigns P.initOrder.toList)=c::rest) (h1:(c == "carried".toList)=false) (h2:(stripLifts liftWords (c::rest)).1=[]):P.liftsFinal=false:=by
 have e:(some c==some "carried".toList)=false:=h1
 unfold Program.liftsFinal Program.headLifts
 rw [h]
 simp only [List.head?_cons,e,h2]
 simp
theorem IW {a b:Bool} (h:a=true) (g:b=true):(a&&b)=true:=by rw [h,g]; rfl
theorem jZ {α:Type} [BEq α] [LawfulBEq α] {a b:α} (h:a=b):(a==b)=true:=by rw [h]; exact beq_self_eq_true b
end Go.Proofs.YtokiohnjegbnpaaGreat.Core

namespace Go.Proofs.YtokiohnjegbnpaaGreat.Core
open Go
set_option maxRecDepth 100000
def m5:List Nat:=[104,97,114,110,101,115,115,32,98,98,51,100,57,98,49,97,49,56,51,53,54,102,49,99,51,99,54,98,98,50,49,49,55,50,51,56,50,55,50,49,99,101,56,52,49,52,101,99,102,54,52,100,50,98,98,99,49,98,54,51,57,56,97,56,102,48,98,52,52,100,57,57,32,99,117,116,32,97,116,32,108,111,111,112,46,101,120,97,109,112,108,101,47,103,48,48,49,56,48,47,108,97,119,115,46,70,110,79,110,101,83,101,114,118,101,115,32,108,111,111,112,46,101,120,97,109,112,108,101,47,103,48,48,49,56,48,47,108,97,119,115,46,70,110,73,110,84,105,109,101,32,108,111,111,112,46,101,120,97,109,112,108,101,47,103,48,48,49,56,48,47,108,97,119,115,46,70,110,82,101,97,100,115,32,108,111,111,112,46,101,120,97,109,112,108,101,47,103,48,48,49,56,48,47,108,97,119,115,46,70,110,84,111,112,32,108,111,111,112,46,101,120,97,109,112,108,101,47,103,48,48,49,56,48,47,108,97,119,115,46,70,110,87,97,116,99,104,101,115,32,108,111,111,112,46,101,120,97,109,112,108,101,47,103,48,48,49,56,48,47,108,97,119,115,46,70,110,81,117,105,101,116,71,114,111,117,112]
def m6:List Nat:=[99,117,116]
def m7:List (List Nat):=[[97,116],[108,111,111,112,46,101,120,97,109,112,108,101,47,103,48,48,49,56,48,47,108,97,119,115,46,70,110,79,110,101,83,101,114,118,101,115],[108,111,111,112,46,101,120,97,109,112,108,101,47,103,48,48,49,56,48,47,108,97,119,115,46,70,110,73,110,84,105,109,101],[108,111,111,112,46,101,120,97,109,112,108,101,47,103,48,48,49,56,48,47,108,97,119,115,46,70,110,82,101,97,100,115],[108,111,111,112,46,101,120,97,109,112,108,101,47,103,48,48,49,56,48,47,108,97,119,115,46,70,110,84,111,112],[108,111,111,112,46,101,120,97,109,112,108,101,47,103,48,48,49,56,48,47,108,97,119,115,46,70,110,87,97,116,99,104,101,115],[108,111,111,112,46,101,120,97,109,112,108,101,47,103,48,48,49,56,48,47,108,97,119,115,46,70,110,81,117,105,101,116,71,114,111,117,112]]
theorem io:Tryz.prog.initOrder.toList=m5.map Char.ofNat:=(congrArg String.toList (show Tryz.prog.initOrder=String.ofList (m5.map Char.ofNat) from by kernel_rfl)).trans String.toList_ofList
theorem my:behindMainWord (wordsSigns Tryz.prog.initOrder.toList)=m6.map Char.ofNat::m7.map fun w=>w.map Char.ofNat:=by
 rw [io]
 kernel_rfl
theorem mz:Tryz.prog.make=some .cut:=jW my (by kernel_rfl) (by kernel_rfl)
theorem enters:Tryz.prog.mayEnter=true:=jX my (by kernel_rfl) (by kernel_rfl) (by kernel_rfl) (by kernel_rfl) (by kernel_rfl)
theorem lB:Tryz.prog.liftsFinal=false:=jY my (by kernel_rfl) (by kernel_rfl)
theorem eJ:laidOutB Tryz.prog=true:=by kernel_rfl
theorem fJ:mapsRowed Tryz.prog=true:=by kernel_rfl
theorem mF:Tryz.prog.stopsHeard=true:=by kernel_rfl
end Go.Proofs.YtokiohnjegbnpaaGreat.Core
