/- Texts of the proof, packed: part 6. -/
import Derived.Test.YtokiohnjegbnpaaGreatP4
import Derived.JoinedOf
import Derived.Test.YtokiohnjegbnpaaGreatRows
import Derived.ProofKit
set_option linter.unusedVariables false
set_option linter.unusedSimpArgs false
namespace Go.Proofs.YtokiohnjegbnpaaGreat.Core
open Go
def E4 (g:AS) (now:Int):Prop:=∃ vr,vG (vw g.1) (g.1.length:Int) (pg g) vr now
theorem E4.later {g:AS} {n n':Int} (h:E4 g n) (hn:n<=n'):E4 g n':=by
 obtain ⟨vr,h⟩:=h
 exact ⟨vr,h.later hn⟩
theorem wr {g:AS} {i:Nat}:∀ x∈(Fb g i).2.2.1,x∈g.2.2.1:=fun x hx=>by
 rcases As.1 hx with h1 | h1
 ·exact List.mem_of_mem_take h1
 ·exact List.mem_of_mem_drop h1
theorem ADp {g:AS} {l:List Bc}:pg (g.1,g.2.1,l,g.2.2.2)={ pg g with fly:=l.map px }:=rfl
theorem E4.sub {g:AS} {l:List Bc} {now:Int} (h:E4 g now) (hl:∀ x∈l,x∈g.2.2.1):E4 (g.1,g.2.1,l,g.2.2.2) now:=by
 obtain ⟨vr,h⟩:=h
 refine ⟨vr,?_⟩
 rw [ADp]
 refine h.drop fun x hx=>?_
 obtain ⟨y,hy,rfl⟩:=List.mem_map.1 hx
 exact List.mem_map.2 ⟨y,hl y hy,rfl⟩
theorem E4.member {g:AS} {n:AE} {told l:List Bc} {at_:Int} {i:Int} (h6:g.2.1.length=6) (hi:1<=i/\i<=6) (hn:n.1=i) (h:E4 (BZ g n told [] at_) at_) (hl:∀ x∈l,x∈g.2.2.1):E4 (BZ (g.1,g.2.1,l,g.2.2.2) n told [] at_) at_:=by
 have:=E4.sub (l:=l++told) h (fun x hx=>by
  rcases As.1 hx with q | q
  ·exact List.mem_append_left _ (hl x q)
  ·exact List.mem_append_right _ q)
 exact this
theorem E4.fin {g:AS} {m:AE} {at_:Int} {i:Int} {vr:Nat->Int} (h6:g.2.1.length=6) (hi:1<=i/\i<=6) (hn:0<=at_) (hm:m.1=i) (hp:(pg g).mem i=pm m) (h:vG (vw g.1) (g.1.length:Int) (pg g) vr at_)
  (ho:m.2.2.2.2.2.2.2.2.2.1≠0) (hl:m.2.2.2.2.2.2.2.2.2.2.2.2.2=[]) (hown:OF m.2.2.2.2.2.2.2.1 (1000*m.2.1+m.2.2.2.2.2.2.2.2.1)):E4 (BZ g (CA m).2 [] (CA m).1 at_) at_:=by
 obtain ⟨k,c,q1,q2,q3,q4⟩:=h.fin (i:=i) hn (by rw [hp]; exact ho) (by rw [hp]; exact hl) (by rw [hp]; exact hown)
 refine ⟨vr,?_⟩
 rw [AET h6 hi hm hp (by rw [<- hp]; exact q1) q2 q3]
 exact q4
theorem AAJ {g:AS} {m:AE} {i:Nat} {at_:Int} (h6:g.2.1.length=6) (hi:i<6) (hm:BB g i=m) (hid:m.1=(i:Int)+1):BZ g m [] [] at_=g:=by
 unfold BZ
 rw [hid,show ((i:Int)+1-1).toNat=i by omega,List.append_nil,List.foldl_nil]
 have:g.2.1.set i m=g.2.1:=by
  rw [<- hm]
  unfold BB
  rw [AU (show i<g.2.1.length by omega)]
  exact List.set_getElem_self _
 rw [this]
theorem E4.deliver {g:AS} {k:Nat} {at_:Int} {j:Nat} (hg:Jg g k) (h3:V3 g) (h:E4 g at_) (ha:0<=at_) (hj:j<g.2.2.1.length):E4 (QL g j at_) at_:=by
 have hmem:g.2.2.1.getD j DM∈g.2.2.1:=by rw [AU hj]; exact BU _
 have hx:=hg.fly _ hmem
 have hx2:=h3.fly _ hmem
 have hto:=hx.to
 unfold QL
 generalize g.2.2.1.getD j DM=x at *
 obtain ⟨m1,m2⟩:=hg.mem (x.2.2.1-1).toNat (by omega)
 have hv1:=h3.mem (x.2.2.1-1).toNat (by omega)
 have hid:(BB g (x.2.2.1-1).toNat).1=x.2.2.1:=by rw [m2]; omega
 have hp:(pg g).mem (BB g (x.2.2.1-1).toNat).1=pm (BB g (x.2.2.1-1).toNat):=by rw [hid,Tv hto]
 have hs:=ABZ (g:=pg g) hg.views m1 hv1 hx2 hx hp (List.mem_map.2 ⟨x,hmem,rfl⟩)
 have hids:(D4 (BB g (x.2.2.1-1).toNat) g.1 x).1.1=x.2.2.1:=by rw [(QK (x:=x) m1 hg.views).id,hid]
 have hvw:=ACf hg.views
 have h6:=hg.six
 have hsub:=wr (g:=g) (i:=j)
 obtain ⟨vr,hall⟩:=h
 generalize hr:D4 (BB g (x.2.2.1-1).toNat) g.1 x=r at *
 clear hr
 cases hs with
 | none =>
  refine E4.member (l:=(Fb g j).2.2.1) h6 hto hid ?_ hsub
  rw [AAJ h6 (show (x.2.2.1-1).toNat<6 by omega) rfl m2]
  exact ⟨vr,hall⟩
 | step n T hs =>
  refine E4.member (l:=(Fb g j).2.2.1) h6 hto hids ⟨vr,?_⟩ hsub
  rw [rg h6 hto hids]
  rw [hid] at hs
  exact hall.mstep hvw hs
 | done n hs h1 h2 h3' h4 =>
  have hn:n.1=x.2.2.1:=by rw [h1,hid]
  have hstep:E4 (BZ (Fb g j) n [] [] at_) at_:=E4.member (l:=(Fb g j).2.2.1) h6 hto hn ⟨vr,by
   rw [rg h6 hto hn]
   rw [hid] at hs
   exact hall.mstep hvw hs⟩ hsub
  obtain ⟨vr2,hall2⟩:=hstep
  have hlead:n.2.2.2.2.1=true/\n.2.2.2.1=true:=by
   have hp2:(pg (BZ (Fb g j) n [] [] at_)).mem x.2.2.1=pm n:=by rw [oZ (g:=Fb g j) (show (Fb g j).2.1.length=6 from h6) hto hn,if_pos rfl]
   have t:=hall2.a.task x.2.2.1 (by rw [hp2]; exact h2)
   have s:=hall2.a.serv x.2.2.1 t.1
   rw [hp2] at s
   exact ⟨s.2.1,s.1⟩
  have hfin:=E4.fin (g:=BZ (Fb g j) n [] [] at_) (m:=n) (at_:=at_) (i:=x.2.2.1) (vr:=vr2) (by show (List.set _ _ _).length=6; rw [List.length_set]; exact h6) hto ha hn (by rw [oZ (g:=Fb g j) (show (Fb g j).2.1.length=6 from h6) hto hn,if_pos rfl]) hall2 h2 h3' (by
   rw [h4.1,h4.2.1,h4.2.2.1]
   exact hv1.own (by rw [<- h4.2.2.2.2]; exact hlead.1) (by rw [<- h4.2.2.2.1]; exact hlead.2))
  have e:BZ (BZ (Fb g j) n [] [] at_) (CA n).2 [] (CA n).1 at_=BZ (Fb g j) (CA n).2 [] (CA n).1 at_:=by
   unfold BZ
   dsimp only
   rw [(vD n).2.2,List.set_set,List.append_nil,List.append_nil,List.foldl_nil]
  rw [<- e]
  exact hfin
theorem E4.adopt {g:AS} {k:Nat} {at_ node:Int} (hg:Jg g k) (h:E4 g at_) (hn:1<=node/\node<=6):∀ (n:Nat) (e:Int),E4 (Ik g at_ (BB g (node-1).toNat) node n e).2 at_
 | 0,_=>h
 | n+1,e=>by
  unfold Ik
  split
  ·exact E4.adopt hg h hn n (e+1)
  ·split
   ·rename_i hb
    obtain ⟨m1,m2⟩:=hg.mem (node-1).toNat (by omega)
    have hid:(BB g (node-1).toNat).1=node:=by rw [m2]; omega
    have hids:(Fq (BB g (node-1).toNat) g.1 e).1.1=node:=by rw [(Xn (e:=e) m1 hg.views hb).2.1,hid]
    obtain ⟨vr,hall⟩:=h
    refine ⟨vr,?_⟩
    rw [rg hg.six hn hids]
    refine hall.mstep (ACf hg.views) ?_
    have hp:(pg g).mem node=pm (BB g (node-1).toNat):=Tv hn
    generalize BB g (node-1).toNat=m at *
    unfold Fq at hb ⊢
    split at hb
    ·rename_i hc
     rw [if_pos hc]
     have hw:=hg.views.wok (i:=(e-1).toNat) (by omega)
     split
     ·rename_i h2
      simp only [AD,beq_iff_eq] at h2
      have:=C0.had (V:=vw g.1) (nv:=(g.1.length:Int)) (g:=pg g) (i:=node) e (by rw [hp]; show e=m.2.1+1; omega) (by rw [hp]; exact h2.1.1) (by rw [yZ,<- hid]; exact hc.2.2.2) hc.2.1 (D3 (g.1.getD (e-1).toNat []) m.1) (fun k=>by rw [jC hw,hid]; exact Iff.rfl)
       (((CI (g.1.getD (e-1).toNat []) m.1).map (fun v=>((3:Int),m.1,v,e,(0:Int),m.2.2.2.2.2.2.2.1))).map px) (fun y hy=>by
        obtain ⟨z,hz,rfl⟩:=List.mem_map.1 hy
        obtain ⟨v,_,rfl⟩:=List.mem_map.1 hz
        exact ⟨rfl,rfl,by rw [hp]; rfl,hid⟩)
      rw [hp] at this
      unfold T1
      rw [ADo]
      exact this
     ·have:=C0.took (V:=vw g.1) (nv:=(g.1.length:Int)) (g:=pg g) (i:=node) e (by rw [hp]; exact hc.2.2.1) (by rw [yZ,<- hid]; exact hc.2.2.2) hc.2.1 (((CI (g.1.getD (e-2).toNat []) m.1).map (fun v=>((1:Int),m.1,v,e,(0:Int),([]:List AP)))).map px) (fun y hy=>by
        obtain ⟨z,hz,rfl⟩:=List.mem_map.1 hy
        obtain ⟨v,_,rfl⟩:=List.mem_map.1 hz
        exact ⟨rfl,rfl,rfl⟩)
      rw [hp] at this
      exact this
    ·cases hb
   ·exact h
theorem E4.fall {g:AS} {k:Nat} {at_ node:Int} (hg:Jg g k) (h:E4 g at_) (hn:1<=node/\node<=6):E4 (BZ g (Xo (BB g (node-1).toNat)) [] [] at_) at_:=by
 obtain ⟨m1,m2⟩:=hg.mem (node-1).toNat (by omega)
 obtain ⟨vr,hall⟩:=h
 refine ⟨vr,?_⟩
 rw [rg hg.six hn (by show (BB g (node-1).toNat).1=node; rw [m2]; omega)]
 have:=C0.fall (V:=vw g.1) (nv:=(g.1.length:Int)) (g:=pg g) (i:=node)
 rw [Tv hn] at this
 exact hall.mstep (ACf hg.views) this
theorem E4.begin {g:AS} {k:Nat} {at_:Int} {e:D6} (hg:Jg g k) (h3:V3 g) (h:E4 g at_) (ha:0<=at_) (hn:1<=e.2.1/\e.2.1<=6):E4 (Jz g at_ e).2 at_:=by
 obtain ⟨vr,hall⟩:=h
 unfold Jz
 split
 ·rename_i hb
  obtain ⟨m1,m2⟩:=hg.mem (e.2.1-1).toNat (by omega)
  have hv1:=h3.mem (e.2.1-1).toNat (by omega)
  have hid:(BB g (e.2.1-1).toNat).1=e.2.1:=by rw [m2]; omega
  have hp:(pg g).mem e.2.1=pm (BB g (e.2.1-1).toNat):=Tv hn
  have h6:(H6 g at_ e).2.1.length=6:=hg.six
  generalize BB g (e.2.1-1).toNat=m at *
  unfold D5 at hb ⊢
  split at hb
  case isFalse=>cases hb
  rename_i hmay
  rw [if_pos hmay]
  split at hb
  case isTrue=>cases hb
  rename_i hput
  rw [if_neg hput]
  obtain ⟨s1,s2,s3,s4,s5,s6,s7,s8,s9,s10⟩:=fE hmay
  have hok:=uq (key:=e.2.2.2.2.1) (val:=e.2.2.2.2.2) m1 s3 s6 s7
  have hone:=(DG.1 hok).1 _ (Cj.2 rfl)
  have hser:=m1.serves s1
  have hown:=hv1.own hser.2.1 hser.1
  have hcnt:=m1.count
  have hep:=m1.ep
  have hw:=hg.views.wok (i:=(m.2.1-1).toNat) (by omega)
  have hL:∀ k,k∈D3 (g.1.getD (m.2.1-1).toNat []) m.1↔k∈vw g.1 ((pg g).mem e.2.1).ep/\k≠e.2.1:=fun k=>by
   rw [jC hw,hp,hid]; exact Iff.rfl
  have hpp:e.2.2.2.1=1->BT (An ((pg g).mem e.2.1).items (HG m e.2.2.2.2.1 e.2.2.2.2.2)) (HG m e.2.2.2.2.1 e.2.2.2.2.2).1=HG m e.2.2.2.2.1 e.2.2.2.2.2:=fun ho=>by
   rw [hp]
   show BT (An m.2.2.2.2.2.2.2.1 _) _=_
   have hvl:OF m.2.2.2.2.2.2.2.1 ((HG m e.2.2.2.2.1 e.2.2.2.2.2).2.2-1):=hown.mono (by show _<=1000*m.2.1+(m.2.2.2.2.2.2.2.2.1+1)-1; omega)
   have hr:=u9 m1.items hone hvl
   have hpn:=AAt m1.items hone hvl
   rw [hpn]
   by_cases hf:m.2.2.2.2.2.2.2.1.length=12/\J6 m.2.2.2.2.2.2.2.1 (HG m e.2.2.2.2.1 e.2.2.2.2.2).1=false
   ·exfalso
    refine hput ⟨ho,?_⟩
    rw [hf.2,decide_eq_true hf.1] at hr
    exact hr
   ·rw [if_neg hf]
    exact PP (iy _ (DG.1 m1.items).2.1) uk
  have hst:∀ (T:List Bc),(∀ y∈T.map px,(y.kind=5/\e.2.2.2.1=1/\y.items=[HG m e.2.2.2.2.1 e.2.2.2.2.2]\/y.kind=7/\e.2.2.2.1=2/\y.items=[])/\y.ep=((pg g).mem e.2.1).ep/\y.num=((pg g).mem e.2.1).cnt+1/\y.frm=e.2.1) ->
    E4 (BZ (H6 g at_ e) (HR m (g.1.getD (m.2.1-1).toNat []) e.2.2.2.1 (g.2.2.2.length:Int) e.2.2.2.2.1 e.2.2.2.2.2) T [] at_) at_:=fun T hT=>by
   have:=hall.start (i:=e.2.1) (c:=pc (e.2.2.2.1,e.2.2.2.2.1,e.2.2.2.2.2,at_,-1,0,0,0,O)) (L:=D3 (g.1.getD (m.2.1-1).toNat []) m.1) (a:=HG m e.2.2.2.2.1 e.2.2.2.2.2) (T:=T.map px) rfl rfl (by rw [hp]; exact s1) (by rw [hp]; exact s2) s4 (by rw [hp]; exact s3) hL (by rw [hp]; rfl) hpp hok hT
   refine ⟨vrN (pg g) e.2.1 vr,?_⟩
   have e2:pg (BZ (H6 g at_ e) (HR m (g.1.getD (m.2.1-1).toNat []) e.2.2.2.1 (g.2.2.2.length:Int) e.2.2.2.2.1 e.2.2.2.2.2) T [] at_)=Bt (pg g) e.2.1 (pc (e.2.2.2.1,e.2.2.2.2.1,e.2.2.2.2.2,at_,-1,0,0,0,O)) (D3 (g.1.getD (m.2.1-1).toNat []) m.1) (HG m e.2.2.2.2.1 e.2.2.2.2.2) (T.map px):=by
    refine PG.same (fun j=>?_) ?_ ?_
    ·rw [oZ (g:=H6 g at_ e) h6 hn (show (HR m _ _ _ _ _).1=e.2.1 from hid)]
     show _=if j=e.2.1 then Q7 (pg g) e.2.1 _ _ _ else _
     unfold Q7
     rw [hp]
     have:(pg g).calls.length=g.2.2.2.length:=List.length_map _
     rw [this]
     rfl
    ·show (g.2.2.1++T).map px=g.2.2.1.map px++T.map px
     rw [List.map_append]
    ·show (g.2.2.2++[_]).map pc=g.2.2.2.map pc++[_]
     rw [List.map_append]; rfl
   rw [e2]
   exact this
  unfold Ts
  split
  ·rename_i hoth
   obtain ⟨vr2,hall2⟩:=hst [] (fun y hy=>by cases hy)
   have hfin:=E4.fin (g:=BZ (H6 g at_ e) (HR m (g.1.getD (m.2.1-1).toNat []) e.2.2.2.1 (g.2.2.2.length:Int) e.2.2.2.2.1 e.2.2.2.2.2) [] [] at_) (m:=HR m (g.1.getD (m.2.1-1).toNat []) e.2.2.2.1 (g.2.2.2.length:Int) e.2.2.2.2.1 e.2.2.2.2.2) (at_:=at_) (i:=e.2.1) (vr:=vr2) (by show (List.set _ _ _).length=6; rw [List.length_set]; exact h6) hn ha hid (by rw [oZ (g:=H6 g at_ e) h6 hn (show (HR m _ _ _ _ _).1=e.2.1 from hid),if_pos rfl]) hall2 (by show e.2.2.2.1≠0; omega) hoth (hown.mono (by show _<=1000*m.2.1+(m.2.2.2.2.2.2.2.2.1+1); omega))
   have e3:∀ (n t:AE) (s:List DH),n.1=t.1->BZ (BZ (H6 g at_ e) t [] [] at_) n [] s at_=BZ (H6 g at_ e) n [] s at_:=fun n t s hnt=>by
    unfold BZ
    dsimp only
    rw [hnt,List.set_set,List.append_nil,List.append_nil,List.foldl_nil]
   rw [e3 _ _ _ (vD _).2.2] at hfin
   exact hfin
  ·refine hst _ fun y hy=>?_
   obtain ⟨z,hz,rfl⟩:=List.mem_map.1 hy
   unfold uo at hz
   obtain ⟨v,_,rfl⟩:=List.mem_map.1 hz
   rw [hp]
   refine ⟨?_,rfl,rfl,hid⟩
   rcases s4 with q | q
   ·rw [if_pos q,if_pos q]; exact .inl ⟨rfl,q,rfl⟩
   ·rw [if_neg (by omega),if_neg (by omega)]; exact .inr ⟨rfl,q,rfl⟩
 ·refine ⟨vr,?_⟩
  have:=hall.call (c:=pc (e.2.2.2.1,e.2.2.2.2.1,e.2.2.2.2.2,at_,-1,0,0,0,O)) rfl rfl
  have e2:pg (H6 g at_ e)={ pg g with calls:=(pg g).calls++[pc (e.2.2.2.1,e.2.2.2.2.1,e.2.2.2.2.2,at_,-1,0,0,0,O)] }:=by
   refine PG.same (fun j=>rfl) rfl ?_
   show (g.2.2.2++[_]).map pc=g.2.2.2.map pc++[_]
   rw [List.map_append]; rfl
  exact e2▸this
theorem E4.event {g:AS} {k:Nat} (hg:Jg g k) (h3:V3 g) {at_:Int} (h:E4 g at_) (ha:0<=at_) {e:D6} (he:Jy e=true):E4 (rN g at_ e).2 at_:=by
 have hn:=mE he
 unfold rN
 split
 ·exact h.begin hg h3 ha (by omega)
 ·split
  ·exact E4.adopt hg h (by omega) _ _
  ·split
   ·exact h.fall hg (by omega)
   ·unfold fu
    split
    ·exact h
    ·rename_i hne
     have hl:0<g.2.2.1.length:=by
      cases hq:g.2.2.1 with
      | nil=>exact absurd hq hne
      | cons a l=>simp
     have hlt:(e.2.2.1 % (g.2.2.1.length:Int)).toNat<g.2.2.1.length:=by
      have h1:=Int.emod_lt_of_pos e.2.2.1 (show (0:Int)<(g.2.2.1.length:Int) by omega)
      have h2:=Int.emod_nonneg e.2.2.1 (show (g.2.2.1.length:Int)≠0 by omega)
      omega
     split
     ·refine E4.sub h fun x hx=>?_
      rcases As.1 hx with h1 | h1
      ·exact h1
      ·simp only [Cj] at h1
       rw [h1,AU hlt]
       exact BU _
     ·split
      ·exact E4.sub (l:=(Fb g _).2.2.1) h wr
      ·exact h.deliver hg h3 ha hlt
theorem E4.new {views:List (List Int)} (hv:SX views):E4 (Ah views) 0:=by
 unfold E4
 have hvl:=hv.len
 have hm:∀ i,(1<=i/\i<=6/\(pg (Ah views)).mem i=pm (E1 i views))\/(pg (Ah views)).mem i=oY:=fun i=>by
  by_cases h:1<=i/\i<=6
  ·left
   refine ⟨h.1,h.2,?_⟩
   rw [Tv h]
   have h5:i=1\/i=2\/i=3\/i=4\/i=5\/i=6:=by omega
   rcases h5 with rfl | rfl | rfl | rfl | rfl | rfl<;>rfl
  ·exact .inr (if_neg h)
 have hfirst:=ut hv (e:=1) (by omega) (by omega) rfl
 have key:∀ i,((pg (Ah views)).mem i).ep=1/\((pg (Ah views)).mem i).fell=false/\(((pg (Ah views)).mem i).base=true↔1<=i/\i<=6/\(views.getD 0 []).contains i=true)/\(((pg (Ah views)).mem i).leads=true->SS views 1=i/\((pg (Ah views)).mem i).base=true)/\((pg (Ah views)).mem i).serves=((pg (Ah views)).mem i).leads/\((pg (Ah views)).mem i).waits=[]/\((pg (Ah views)).mem i).items=[]/\((pg (Ah views)).mem i).cnt=0/\((pg (Ah views)).mem i).op=0:=fun i=>by
  rcases hm i with ⟨h1,h2,h⟩ | h
  ·rw [h]
   refine ⟨rfl,rfl,⟨fun h=>⟨h1,h2,h⟩,fun h=>h.2.2⟩,fun hl=>?_,rfl,rfl,rfl,rfl,rfl⟩
   have:(views.getD 0 []).getD 0 0=i:=by
    have:((views.getD 0 []).getD 0 0==i)=true:=hl
    simpa using this
   refine ⟨this,?_⟩
   have hf:SS views 1=i:=this
   rw [hf] at hfirst
   exact hfirst
  ·rw [h]
   refine ⟨rfl,rfl,⟨fun h=>(by cases h),fun hh=>?_⟩,fun h=>(by cases h),rfl,rfl,rfl,rfl,rfl⟩
   have:=Tv (g:=Ah views) ⟨hh.1,hh.2.1⟩
   exfalso
   rcases hm i with ⟨q1,q2,q⟩ | q
   ·rw [h] at q
    have:oY.base=(pm (E1 i views)).base:=by rw [q]
    have h2:(pm (E1 i views)).base=true:=hh.2.2
    rw [h2] at this
    cases this
   ·have h5:i=1\/i=2\/i=3\/i=4\/i=5\/i=6:=by omega
    have h7:(pm (E1 i views))=oY:=by
     rw [<- q,Tv ⟨hh.1,hh.2.1⟩]
     rcases h5 with rfl | rfl | rfl | rfl | rfl | rfl<;>rfl
    have:oY.base=(pm (E1 i views)).base:=by rw [h7]
    have h2:(pm (E1 i views)).base=true:=hh.2.2
    rw [h2] at this
    cases this
 have hfly:(pg (Ah views)).fly=[]:=rfl
 have hcal:(pg (Ah views)).calls=[]:=rfl
 have hview:∀ k∈views.getD 0 [],1<=k/\k<=6:=(hv.wok (i:=0) (by omega)).mem
 have hvw1:vw (Ah views).1 1=views.getD 0 []:=rfl
 have hg1:(Ah views).1=views:=rfl
 generalize pg (Ah views)=g at *
 refine ⟨fun _=>0,⟨?_,?_,?_,?_,?_,?_⟩⟩
 ·refine ⟨fun i=>?_,fun i h=>?_,fun i h=>?_,fun i h=>?_,fun i h=>?_,fun i=>?_,fun i h=>?_⟩<;>obtain ⟨k1,k2,k3,k4,k5,k6,k7,k8,k9⟩:=key i
  ·omega
  ·rw [k1,hg1]; exact ⟨by omega,(k4 h).1⟩
  ·rw [k1,hg1]; exact ⟨by omega,List.contains_iff_mem.1 (k3.1 h).2.2⟩
  ·rw [k5] at h; exact ⟨(k4 h).2,h,k6⟩
  ·exact absurd k9 h
  ·omega
  ·rw [k2] at h; cases h
 ·refine ⟨fun i _ d h1 h2=>?_,fun x hx=>by rw [hfly] at hx; cases hx⟩
  rw [(key i).1] at h2; omega
 ·refine ⟨fun k h=>absurd rfl h,fun k l h=>absurd rfl h,fun _ _=>rfl,fun i h=>absurd (key i).2.2.2.2.2.2.2.2 h,?_,?_,?_,fun i h=>absurd (key i).2.2.2.2.2.2.2.2 h,?_⟩
  ·intro k c h; rw [hcal] at h; cases h
  ·intro k c h; rw [hcal] at h; cases h
  ·intro x h; rw [hfly] at h; cases h
  ·intro k l a b h; rw [hcal] at h; cases h
 ·refine ⟨fun i h1 h2 k hk h3 h4=>?_,fun x hx=>by rw [hfly] at hx; (cases hx),fun k e n h=>absurd rfl h,fun k hk=>?_,fun x hx=>by rw [hfly] at hx; (cases hx)⟩
  ·rw [(key i).1] at hk ⊢
   have:=hview k hk
   exact .inr ⟨(key k).1,.inl ((key k).2.2.1.2 ⟨this.1,this.2,List.contains_iff_mem.2 hk⟩)⟩
  ·rw [(key k).1,(key _).1]
   exact ⟨Int.le_refl _,fun _ h=>((key _).2.2.2.1 h).2⟩
 ·refine ⟨fun i=>by rw [(key i).2.2.2.2.2.2.1]; rfl,fun x hx=>by rw [hfly] at hx; (cases hx),fun i _ _ _ x hx=>by rw [hfly] at hx; (cases hx),fun i _ _ j _ _=>.inl (by rw [(key i).2.2.2.2.2.2.1,(key j).2.2.2.2.2.2.1]),fun i h=>?_,fun x hx=>by rw [hfly] at hx; (cases hx),fun i h=>?_⟩
  ·rw [(key i).2.2.2.2.2.2.2.2] at h; exact absurd h (by decide)
  ·rw [(key i).2.2.2.2.2.2.2.2] at h; exact absurd h (by decide)
 ·refine ⟨?_,?_,fun i h=>absurd (key i).2.2.2.2.2.2.2.2 h,?_,?_,?_,?_,?_,?_⟩
  ·intro k c h; rw [hcal] at h; cases h
  ·intro k c h; rw [hcal] at h; cases h
  ·intro k l a b h; rw [hcal] at h; cases h
  ·intro k c h; rw [hcal] at h; cases h
  ·intro i y hy; rw [(key i).2.2.2.2.2.2.1] at hy; cases hy
  ·intro x h; rw [hfly] at h; cases h
  ·intro i h; rw [(key i).2.2.2.2.2.2.2.2] at h; exact absurd h (by decide)
  ·intro k c h; rw [hcal] at h; cases h
theorem E4.run:∀ (es:List D6) (n:Nat) (g:AS) (cs:List Int),Jg g n->V3 g->E4 g (n:Int)->n+es.length<=70->(∀ e∈es,Jy e=true)->E4 (Je n es g cs).1 70
 | [],n,g,cs,_,_,h,hn,_=>h.later (by simp only [List.length_nil] at hn; omega)
 | e::es,n,g,cs,hg,h3,h,hn,he=>by
  simp only [List.length_cons] at hn
  obtain ⟨h2,_⟩:=hg.event (at_:=(n:Int)) (he e (by simp))
  exact E4.run es (n+1) _ _ h2 (h3.event hg (by omega) (he e (by simp))) ((h.event hg h3 (by omega) (he e (by simp))).later (by omega)) (by omega) (fun x hx=>he x (by simp [hx]))

theorem Jg.deliver {g:AS} {k:Nat} (hg:Jg g k) {j:Nat} (hj:j<g.2.2.1.length) (at_:Int):Jg (QL g j at_) (k+1):=by
 have hmem:g.2.2.1.getD j DM∈g.2.2.1:=by rw [AU hj]; exact BU _
 have hto:=(hg.fly _ hmem).to
 unfold QL
 generalize g.2.2.1.getD j DM=x at *
 obtain ⟨m1,m2⟩:=hg.mem (x.2.2.1-1).toNat (by omega)
 have hh:=QK (x:=x) m1 hg.views
 exact (hg.less j).member (i:=(x.2.2.1-1).toNat) (by omega) hh.mok (by rw [hh.id,m2]) (AAl hh.told) hh.tlen
theorem V3.deliver {g:AS} {k:Nat} (h:V3 g) (hg:Jg g k) {j:Nat} (hj:j<g.2.2.1.length) {at_:Int} (ha:0<=at_):V3 (QL g j at_):=by
 have hmem:g.2.2.1.getD j DM∈g.2.2.1:=by rw [AU hj]; exact BU _
 have hto:=(hg.fly _ hmem).to
 have hx:=h.fly _ hmem
 unfold QL
 generalize g.2.2.1.getD j DM=x at *
 obtain ⟨m1,m2⟩:=hg.mem (x.2.2.1-1).toNat (by omega)
 exact (h.less j).member (g:=Fb g j) hg.six (i:=(x.2.2.1-1).toNat) ha (by omega) (by rw [(QK (x:=x) m1 hg.views).id,m2]) (ACW hg.views m1 (h.mem _ (by omega)) hx)

abbrev mT:Type:=Int×ByteArray×ByteArray×Int×Int×Int×Int×Int×ByteArray
theorem Ea x:Eh x=some (decide (0<=x.2.2.2.2.1)):=vu rfl
def eW (a b:mT):Bool:=decide (0<=a.2.2.2.2.1)&&decide (0<=b.2.2.2.2.1)&&(decide (DU a=DU b)||(decide (a.2.2.2.2.1<b.2.2.2.1)&&decide (DU b<=DU a)))
def f8 (a:mT) (i:Nat):Nat->List mT->Bool
 | _,[]=>true
 | j,b::r=>(decide (i=j)||!eW a b)&&f8 a i (j+1) r
def jD (x:List mT):Nat->List mT->Bool
 | _,[]=>true
 | i,a::r=>f8 a i 0 x&&jD x (i+1) r
theorem PT (x) (h:x.length<=maxLen):Pi x=some (jD x 0 x):=vm (by
 have hm:x.length<=9223372036854775807:=h
 unfold gP
 exact E0 (n:=x.length) (P:=fun i=>KR x (i:Int)=some (jD x i (x.drop i))) (W0 (by
  unfold O5
  rw [if_neg (by simp),List.drop_length]
  rfl)) (fun i hi ih=>W0 (by
  unfold O5
  simp only [show ((i:Int)<(x.length:Int)) from by omega,decide_true,if_true]
  rw [BC hi]
  have:=E0 (n:=x.length) (P:=fun j=>Dg x (i:Int) (j:Int)=some (f8 x[i] i j (x.drop j)&&jD x (i+1) (x.drop (i+1)))) (Wz (by
   unfold O4
   rw [if_neg (by simp),List.drop_length,AM (show i<9223372036854775807 by omega),ih]
   rfl)) (fun j hj ihj=>Wz (by
   have w2:∀ b,decide (0<=x[i].2.2.2.2.1)=true->decide (0<=x[j].2.2.2.2.1)=true->O3 x (i:Int) (j:Int) b x[i] x[j]=some (!eW x[i] x[j]&&(f8 x[i] i (j+1) (x.drop (j+1))&&jD x (i+1) (x.drop (i+1)))):=fun b g1 g2=>nO (by
    unfold Wy eW
    simp only [Lo,Y,AM (show j<9223372036854775807 by omega),ihj,g1,g2,Bool.true_and]
    by_cases e1:DU x[i]=DU x[j]
    ·simp [e1]
    ·by_cases e2:x[i].2.2.2.2.1<x[j].2.2.2.1<;>by_cases e3:DU x[j]<=DU x[i]<;>simp [e1,e2,e3])
   unfold O4
   simp only [show ((i:Int)<(x.length:Int)) from by omega,show ((j:Int)<(x.length:Int)) from by omega,decide_true,if_true,show (0:Int)<=(i:Int) from by omega,show (0:Int)<=(j:Int) from by omega,Ai,AU hi,AU hj,AM (show j<9223372036854775807 by omega),ihj]
   rw [BC hj]
   by_cases g1:x[i].2.2.2.2.1<0
   ·have:eW x[i] x[j]=false:=by unfold eW; simp [show ¬ 0<=x[i].2.2.2.2.1 by omega]
    simp [g1,f8,this]
   ·by_cases g2:x[j].2.2.2.2.1<0
    ·have:eW x[i] x[j]=false:=by unfold eW; simp [show ¬ 0<=x[j].2.2.2.2.1 by omega]
     simp [g1,g2,f8,this]
    ·by_cases e:i=j
     ·subst e
      simp [g1,f8]
     ·have:=w2 ((i:Int)==(j:Int)) (by simpa using g1) (by simpa using g2)
      have ne:((i:Int)==(j:Int))=false:=by simp; omega
      rw [ne] at this
      simp [g1,g2,f8,e,ne,this,Bool.and_assoc])) 0 (by omega)
  exact this)) 0 (by omega))
theorem PU (x) (h:x.length<=maxLen):Ph x=some (jD x 0 x):=vk (by
 have hm:x.length<=9223372036854775807:=h
 unfold gO
 exact E0 (n:=x.length) (P:=fun i=>KQ x x (x.length:Int) (i:Int)=some (jD x i (x.drop i))) (Wu (by
  unfold O2
  rw [if_neg (by simp),List.drop_length]
  rfl)) (fun i hi ih=>Wu (by
  unfold O2
  simp only [show ((i:Int)<(x.length:Int)) from by omega,decide_true,if_true,show (0:Int)<=(i:Int) from by omega,Ai,AU hi]
  rw [BC hi]
  have:=E0 (n:=x.length) (P:=fun j=>Df x (i:Int) x (x.length:Int) (i:Int) x (x.length:Int) (j:Int) x[i]=some (f8 x[i] i j (x.drop j)&&jD x (i+1) (x.drop (i+1)))) (Wt (by
   unfold O1
   rw [if_neg (by simp),List.drop_length,AM (show i<9223372036854775807 by omega),ih]
   rfl)) (fun j hj ihj=>Wt (by
   have w2:∀ b,decide (0<=x[i].2.2.2.2.1)=true->decide (0<=x[j].2.2.2.2.1)=true->O0 x (i:Int) x (x.length:Int) (i:Int) x (x.length:Int) (j:Int) b x[i] x[j]=some (!eW x[i] x[j]&&(f8 x[i] i (j+1) (x.drop (j+1))&&jD x (i+1) (x.drop (i+1)))):=fun b g1 g2=>nM (by
    unfold Ws eW
    simp only [Lq,Y,AM (show j<9223372036854775807 by omega),ihj,g1,g2,Bool.true_and]
    by_cases e1:DU x[i]=DU x[j]
    ·simp [e1]
    ·by_cases e2:x[i].2.2.2.2.1<x[j].2.2.2.1<;>by_cases e3:DU x[j]<DU x[i]<;>simp [e1,e2,e3]<;>intro h<;>omega)
   unfold O1
   simp only [show ((j:Int)<(x.length:Int)) from by omega,decide_true,if_true,show (0:Int)<=(j:Int) from by omega,Ai,AU hj,AM (show j<9223372036854775807 by omega),ihj,Ea,Y]
   rw [BC hj]
   by_cases e:i=j
   ·subst e
    simp [f8]
   ·have ne:((i:Int)==(j:Int))=false:=by simp; omega
    by_cases g1:0<=x[i].2.2.2.2.1
    ·by_cases g2:0<=x[j].2.2.2.2.1
     ·have:=w2 false (by simpa using g1) (by simpa using g2)
      simp [g1,g2,f8,e,ne,this,Bool.and_assoc]
     ·have:eW x[i] x[j]=false:=by unfold eW; simp [g2]
      simp [g1,g2,f8,this,ne]
    ·have:eW x[i] x[j]=false:=by unfold eW; simp [g1]
     simp [g1,f8,this,ne])) 0 (by omega)
  exact this)) 0 (by omega))

theorem jE (x:List Int) (hx:x.length<=1048576):∃ v es,QS x=some (v,es)/\SX v/\es.length<=69/\∀ e∈es,Jy e=true:=by
 obtain ⟨d,e0,k0⟩:=Xg x (by unfold maxLen; omega)
 obtain ⟨v,es,d1,e1,k1,hv,hl,he⟩:=Vb x d hx k0
 refine ⟨v,es,pw ?_,hv,hl,he⟩
 unfold Z4
 rw [e0,Y,e1,Y]
theorem mU {g:AS} {n:Nat} (hg:Jg g n) (h3:V3 g) {i:Nat} (hi:i<6) (hs:(BB g i).2.2.2.2.2.1=true):(BB g i).2.1<=(g.1.length:Int)/\SS g.1 (BB g i).2.1=(i:Int)+1:=by
 obtain ⟨m1,m2⟩:=hg.mem i hi
 obtain ⟨l1,l2⟩:=(h3.mem i hi).lead (m1.serves hs).2.1
 exact ⟨l1,by rw [l2,m2]⟩

theorem wu (a:F6) (i:Nat):∀ (y:List F6) (j:Nat),(∀ k (h:k<y.length),i≠j+k->eW a y[k]=false)->f8 a i j y=true
 | [],_,_=>rfl
 | b::y,j,h=>by
  unfold f8
  rw [wu a i y (j+1) (fun k hk hne=>by have:=h (k+1) (by simp; omega) (by omega); simpa using this),Bool.and_true]
  by_cases e:i=j
  ·simp [e]
  ·have:=h 0 (by simp) (by omega)
   rw [show eW a b=false from this]
   simp
theorem w4 (x:List F6):∀ (y:List F6) (i:Nat),(∀ k (h:k<y.length),∀ j (hj:j<x.length),i+k≠j->eW y[k] x[j]=false)->jD x i y=true
 | [],_,_=>rfl
 | a::y,i,h=>by
  unfold jD
  rw [w4 x y (i+1) (fun k hk j hj hne=>by have:=h (k+1) (by simp; omega) j hj (by omega); simpa using this),Bool.and_true]
  exact wu a i x 0 fun k hk hne=>by have:=h 0 (by simp) k hk (by omega); simpa using this
theorem vE {g:AS} {n:Nat} {now:Int} {vr:Nat->Int} (hg:Jg g n) (ha:vG (vw g.1) (g.1.length:Int) (pg g) vr now):(∀ k l,vr k≠0->vr k=vr l->k=l)/\(∀ k (hk:k<g.2.2.2.length),0<=(g.2.2.2[k]).2.2.2.2.1->vr k=DU g.2.2.2[k]/\vr k≠0/\DU g.2.2.2[k]=1000*(g.2.2.2[k]).2.2.2.2.2.2.1+(g.2.2.2[k]).2.2.2.2.2.2.2.1/\(g.2.2.2[k]).2.2.2.1<=(g.2.2.2[k]).2.2.2.2.1/\1<=(g.2.2.2[k]).2.2.2.2.2.2.1/\(g.2.2.2[k]).2.2.2.2.2.2.1<=9/\1<=(g.2.2.2[k]).2.2.2.2.2.2.2.1/\(g.2.2.2[k]).2.2.2.2.2.2.2.1<=900) /\
  (∀ k l (hk:k<g.2.2.2.length) (hl:l<g.2.2.2.length),0<=(g.2.2.2[k]).2.2.2.2.1->0<=(g.2.2.2[l]).2.2.2.2.1->(g.2.2.2[k]).2.2.2.2.1<(g.2.2.2[l]).2.2.2.1->vr k<vr l):=by
 have hget:∀ k (hk:k<g.2.2.2.length),(pg g).calls[k]? = some (pc g.2.2.2[k]):=fun k hk=>by
  show (g.2.2.2.map pc)[k]? = _
  rw [Cq,List.getElem?_eq_getElem hk]; rfl
 have hep:∀ i,((pg g).mem i).ep<=9:=fun i=>by
  by_cases hi:1<=i/\i<=6
  ·rw [Tv hi]; exact (hg.mem (i-1).toNat (by omega)).1.ep.2
  ·rw [show (pg g).mem i=oY from if_neg hi]; decide
 refine ⟨ha.t.inj,fun k hk hd=>?_,fun k l hk hl h1 h2 h3=>ha.t.or k l _ _ (hget k hk) (hget l hl) h1 h2 h3⟩
 obtain ⟨d1,d2,d3,d4,d5,d6,d7⟩:=ha.t.dn k _ (hget k hk) hd
 generalize g.2.2.2[k]=c at *
 change vr k=1000*c.2.2.2.2.2.2.1+c.2.2.2.2.2.2.2.1 at d1
 change 1<=c.2.2.2.2.2.2.1 at d2
 change 1<=c.2.2.2.2.2.2.2.1 at d3
 change c.2.2.2.2.2.2.2.1<=900 at d4
 change c.2.2.2.1<=c.2.2.2.2.1 at d7
 obtain ⟨e,n,x1,x2,x3,x4,x5,x6⟩:=ha.t.st k (by omega)
 have:=hep (Cz (vw g.1) e)
 have hee:e=c.2.2.2.2.2.2.1:=by omega
 have hst:DU c=1000*c.2.2.2.2.2.2.1+c.2.2.2.2.2.2.2.1:=by
  unfold DU
  rw [if_pos (by simp only [AD,decide_eq_true_eq]; omega),Af (show -9223372036854775808<=1000*c.2.2.2.2.2.2.1/\1000*c.2.2.2.2.2.2.1<=9223372036854775807 by omega),Af (by omega)]
 exact ⟨by rw [hst]; exact d1,by omega,hst,d7,d2,by omega,d3,d4⟩
theorem AAK {g:AS} {n:Nat} {now:Int} (hg:Jg g n) (h:E4 g now):jD g.2.2.2 0 g.2.2.2=true:=by
 obtain ⟨vr,ha⟩:=h
 obtain ⟨inj,dn,od⟩:=vE hg ha
 refine w4 _ _ 0 fun k hk j hj hne=>?_
 rw [Nat.zero_add] at hne
 unfold eW
 by_cases h1:0<=(g.2.2.2[k]).2.2.2.2.1
 ·by_cases h2:0<=(g.2.2.2[j]).2.2.2.2.1
  ·obtain ⟨a1,a2,_⟩:=dn k hk h1
   obtain ⟨b1,b2,_⟩:=dn j hj h2
   have hs:¬ DU g.2.2.2[k]=DU g.2.2.2[j]:=fun e=>hne (inj k j a2 (by rw [a1,b1,e]))
   rw [decide_eq_false hs,Bool.false_or]
   by_cases h3:(g.2.2.2[k]).2.2.2.2.1<(g.2.2.2[j]).2.2.2.1
   ·have:=od k j hk hj h1 h2 h3
    rw [decide_eq_false (show ¬ DU g.2.2.2[j]<=DU g.2.2.2[k] by omega),Bool.and_false,Bool.and_false]
   ·rw [decide_eq_false h3,Bool.false_and,Bool.and_false]
  ·rw [decide_eq_false h2,Bool.and_false,Bool.false_and]
 ·rw [decide_eq_false h1,Bool.false_and,Bool.false_and]

def Xt (g x:mT):Bool:=(x.1==1)&&(x.2.1.toList==g.2.1.toList)&&(x.2.2.1.toList==g.2.2.2.2.2.2.2.2.toList)&&(decide (x.2.2.2.2.1<0)||(x.2.2.2.2.2.1==g.2.2.2.2.2.1))
theorem mV x g:S6 x g=some (Xt g x):=uO (by
 unfold dt Xt
 simp only [Ea,Y]
 by_cases a:x.1=1<;>by_cases b:x.2.1.toList=g.2.1.toList<;>by_cases c:x.2.2.1.toList=g.2.2.2.2.2.2.2.2.toList<;>by_cases d:0<=x.2.2.2.2.1<;>simp [a,b,c,d]<;>omega)
theorem ob g x:Vj g x=some (Xt g x):=vv (by
 unfold gS Xt
 by_cases a:x.1=1<;>by_cases b:x.2.1.toList=g.2.1.toList<;>by_cases c:x.2.2.1.toList=g.2.2.2.2.2.2.2.2.toList<;>by_cases d:x.2.2.2.2.1<0<;>simp [a,b,c,d])
theorem rR (x:List mT) (g) (h:x.length<=maxLen):YM x g=some (x.any (Xt g)):=yI (by
 have hm:x.length<=9223372036854775807:=h
 have:∃ r,BH x g (x.length:Int) ((0:Nat):Int)=some r/\decide (r>=0)=(x.drop 0).any (Xt g) :=
  E0 (n:=x.length) (P:=fun i=>∃ r,BH x g (x.length:Int) (i:Int)=some r/\decide (r>=0)=(x.drop i).any (Xt g))
   ⟨-1,Cc (by
    unfold Bj
    rw [if_neg (by simp)]),by simp⟩
   (fun i hi ⟨r,hr,hd⟩=>by
    have e:=mV x[i] g
    cases q:Xt g x[i] with
    | true =>
     refine ⟨i,Cc ?_,by rw [BC hi,List.any_cons,q,Bool.true_or]; simp⟩
     unfold Bj
     simp only [show ((i:Int)<(x.length:Int)) from by omega,decide_true,if_true,show (0:Int)<=(i:Int) from by omega,Ai,AU hi,e,q,Y]
    | false =>
     refine ⟨r,Cc ?_,by rw [hd,BC hi,List.any_cons,q,Bool.false_or]⟩
     unfold Bj
     simp only [show ((i:Int)<(x.length:Int)) from by omega,decide_true,if_true,show (0:Int)<=(i:Int) from by omega,Ai,AU hi,e,q,Y,AM (show i<9223372036854775807 by omega),hr]
     simp) 0 (by omega)
 obtain ⟨r,hr,hd⟩:=this
 unfold kf
 have e1:Cu x g=some r:=Ju (by unfold Ey; exact hr)
 have e2:Ca x g=some (decide (r>=0)):=Iu (by
  unfold ED
  rw [e1]
  rfl)
 rw [e2,hd]
 rfl)
def HN (x:List mT) (g:mT):Bool :=
 if g.1=2 then
  if 0<=g.2.2.2.2.1 then
   if g.2.2.2.2.2.1=0 then g.2.2.2.2.2.2.2.2.toList==(⟨#[]⟩:ByteArray).toList
   else x.any (Xt g)&&!decide (g.2.2.2.2.2.1>DU g)
  else true
 else true
theorem Q8 (x) (h:x.length<=maxLen):SI x=some (x.all (HN x)):=yD (by
 have hm:x.length<=9223372036854775807:=h
 unfold kK
 have:=E0 (n:=x.length) (P:=fun i=>FE x (i:Int)=some ((x.drop i).all (HN x))) (aI (by
  unfold Qn
  rw [if_neg (by simp)]
  simp)) (fun i hi ih=>aI (by
  unfold Qn
  simp only [show ((i:Int)<(x.length:Int)) from by omega,decide_true,if_true,show (0:Int)<=(i:Int) from by omega,Ai,AU hi,AM (show i<9223372036854775807 by omega),ih]
  rw [BC hi,List.all_cons]
  generalize hq:(x.drop (i+1)).all (HN x)=q at *
  by_cases a:x[i].1=2
  ·by_cases b:x[i].2.2.2.2.1<0
   ·have:¬ 0<=x[i].2.2.2.2.1:=by omega
    simp [HN,a,b,this]
   ·have b':0<=x[i].2.2.2.2.1:=by omega
    have J3:∀ f,Qk x (i:Int) f x[i]=some ((f&&!decide (x[i].2.2.2.2.2.1>DU x[i]))&&q):=fun f=>qM (by
     unfold aF
     simp only [Lo,Y,AM (show i<9223372036854775807 by omega),ih]
     cases f<;>by_cases c:x[i].2.2.2.2.2.1>DU x[i]<;>simp [c])
    have L2:∀ f,Gl x (i:Int) f ((0:Nat):Int) x[i]=some (((f||(x.drop 0).any (Xt x[i]))&&!decide (x[i].2.2.2.2.2.1>DU x[i]))&&q) :=
     E0 (n:=x.length) (P:=fun j=>∀ f,Gl x (i:Int) f (j:Int) x[i]=some (((f||(x.drop j).any (Xt x[i]))&&!decide (x[i].2.2.2.2.2.1>DU x[i]))&&q)) (fun f=>aH (by
      unfold Qm
      rw [if_neg (by simp),J3]
      simp)) (fun j hj ihj f=>aH (by
      unfold Qm
      simp only [show ((j:Int)<(x.length:Int)) from by omega,decide_true,if_true,show (0:Int)<=(j:Int) from by omega,Ai,AU hj,AM (show j<9223372036854775807 by omega),ihj,ob,Y]
      rw [BC hj,List.any_cons]
      cases f<;>simp)) 0 (by omega)
    have J1:∀ d,Ql x (i:Int) d x[i]=some (HN x x[i]&&q):=fun d=>qN (by
     unfold aG
     have l2:=L2 false
     simp only [Int.ofNat_zero,Int.natCast_zero] at l2
     simp only [AM (show i<9223372036854775807 by omega),ih,l2]
     by_cases c:x[i].2.2.2.2.2.1=0
     ·cases d:x[i].2.2.2.2.2.2.2.2.toList<;>simp [HN,a,b',c,d]
     ·simp [HN,a,b',c])
    simp [a,b,J1]
  ·simp [HN,a])) 0 (by omega)
 simpa using this)
theorem Q9 (x) (h:x.length<=maxLen):SH x=some (x.all (HN x)):=yC (by
 have hm:x.length<=9223372036854775807:=h
 unfold kI
 have:=E0 (n:=x.length) (P:=fun i=>FD x x (x.length:Int) (i:Int)=some ((x.drop i).all (HN x))) (aD (by
  unfold Qj
  rw [if_neg (by simp)]
  simp)) (fun i hi ih=>aD (by
  unfold Qj
  simp only [show ((i:Int)<(x.length:Int)) from by omega,decide_true,if_true,show (0:Int)<=(i:Int) from by omega,Ai,AU hi,AM (show i<9223372036854775807 by omega),ih,Ea,Y]
  rw [BC hi,List.all_cons]
  generalize hq:(x.drop (i+1)).all (HN x)=q at *
  have J1:∀ d,x[i].1=2->0<=x[i].2.2.2.2.1->Qi x x (x.length:Int) (i:Int) d x[i]=some (HN x x[i]&&q):=fun d a b'=>qK (by
   unfold aC
   simp only [AM (show i<9223372036854775807 by omega),ih,rR x _ h,Lq,Y]
   by_cases c:x[i].2.2.2.2.2.1=0
   ·cases d:x[i].2.2.2.2.2.2.2.2.toList<;>simp [HN,a,b',c,d]
   ·cases e:x.any (Xt x[i])<;>by_cases d:x[i].2.2.2.2.2.1>DU x[i]<;>simp [HN,a,b',c,d,e])
  by_cases a:x[i].1=2
  ·by_cases b:0<=x[i].2.2.2.2.1
   ·have:=J1 (!decide (0<=x[i].2.2.2.2.1)) a b
    simp [b] at this
    simp [a,b,this]
   ·simp [HN,a,b]
  ·simp [HN,a])) 0 (by omega)
 simpa using this)

def Jd (a b:F6):Bool:=decide (a.1=2)&&decide (0<=a.2.2.2.2.1)&&decide (0<=b.2.2.2.2.1)&&(b.2.1.toList==a.2.1.toList)&&decide (DU b<DU a)&&decide (a.2.2.2.2.2.1<b.2.2.2.2.2.1)
theorem w5 {g:AS} {n:Nat} {now:Int} {vr:Nat->Int} (hg:Jg g n) (ha:vG (vw g.1) (g.1.length:Int) (pg g) vr now) :
  (∀ k l (hk:k<g.2.2.2.length) (hl:l<g.2.2.2.length),(g.2.2.2[k]).1=2->0<=(g.2.2.2[k]).2.2.2.2.1->0<=(g.2.2.2[l]).2.2.2.2.1->(g.2.2.2[k]).2.1.toList=(g.2.2.2[l]).2.1.toList->vr l<vr k->(g.2.2.2[l]).2.2.2.2.2.1<=(g.2.2.2[k]).2.2.2.2.2.1) /\
  (∀ k (hk:k<g.2.2.2.length),0<=(g.2.2.2[k]).2.2.2.2.1->(g.2.2.2[k]).2.2.2.2.2.1<=vr k/\((g.2.2.2[k]).1=1->(g.2.2.2[k]).2.2.2.2.2.1=vr k)) /\
  (∀ k (hk:k<g.2.2.2.length),(g.2.2.2[k]).1=2->0<=(g.2.2.2[k]).2.2.2.2.1->((g.2.2.2[k]).2.2.2.2.2.1=0/\(g.2.2.2[k]).2.2.2.2.2.2.2.2=O)\/∃ l,∃ hl:l<g.2.2.2.length,(g.2.2.2[l]).1=1/\(g.2.2.2[l]).2.1.toList=(g.2.2.2[k]).2.1.toList/\(g.2.2.2[l]).2.2.1=(g.2.2.2[k]).2.2.2.2.2.2.2.2/\vr l=(g.2.2.2[k]).2.2.2.2.2.1/\1<=vr l):=by
 have hget:∀ k (hk:k<g.2.2.2.length),(pg g).calls[k]? = some (pc g.2.2.2[k]):=fun k hk=>by
  show (g.2.2.2.map pc)[k]? = _
  rw [Cq,List.getElem?_eq_getElem hk]; rfl
 refine ⟨fun k l hk hl h1 h2 h3 h4 h5=>ha.f.fr k l _ _ (hget k hk) (hget l hl) h2 h3 h1 h4 h5,fun k hk hd=>ha.f.vs k _ (hget k hk) hd,fun k hk h1 hd=>?_⟩
 rcases ha.f.gt k _ (hget k hk) hd h1 with q | ⟨y,⟨l,c,c1,c2,c3,c4,c5,c6⟩,y1,y2,y3⟩
 ·exact .inl q
 ·obtain ⟨hl,e⟩:=ACg c1
  rw [AU hl] at e
  subst e
  refine .inr ⟨l,hl,c2,?_,?_,c5.trans y2.symm,by omega⟩
  ·have h1:(g.2.2.2[l]).2.1=y.1:=c3
   rw [h1]; exact y1
  ·exact c4.trans y3.symm
theorem AAL {g:AS} {n:Nat} {now:Int} (hg:Jg g n) (h:E4 g now):g.2.2.2.all (HN g.2.2.2)=true:=by
 obtain ⟨vr,ha⟩:=h
 obtain ⟨inj,dn,od⟩:=vE hg ha
 obtain ⟨fr,vs,gt⟩:=w5 hg ha
 rw [BK]
 intro c hc
 obtain ⟨k,hk,rfl⟩:=Eb hc
 unfold HN
 split
 ·rename_i h1
  split
  ·rename_i hd
   rcases gt k hk h1 hd with ⟨q1,q2⟩ | ⟨l,hl,l1,l2,l3,l4,l5⟩
   ·rw [if_pos q1,q2]
    show (ByteArray.empty.toList==ByteArray.empty.toList)=true
    exact beq_self_eq_true _
   ·rw [if_neg (by omega)]
    obtain ⟨a1,a2,_⟩:=dn k hk hd
    have b1:=(vs k hk hd).1
    rw [AD]
    refine ⟨List.any_eq_true.2 ⟨g.2.2.2[l],BU hl,?_⟩,?_⟩
    ·unfold Xt
     rw [l1,l2,l3]
     simp only [beq_self_eq_true,Bool.true_and,Ec,decide_eq_true_eq,beq_iff_eq]
     by_cases hdl:0<=(g.2.2.2[l]).2.2.2.2.1
     ·right
      rw [(vs l hl hdl).2 l1,l4]
     ·left; omega
    ·rw [decide_eq_false (by omega)]; rfl
  ·rfl
 ·rfl
theorem zf {g:AS} {n:Nat} {now:Int} (hg:Jg g n) (h:E4 g now):∀ k l (hk:k<g.2.2.2.length) (hl:l<g.2.2.2.length),Jd g.2.2.2[k] g.2.2.2[l]=false:=by
 obtain ⟨vr,ha⟩:=h
 obtain ⟨inj,dn,od⟩:=vE hg ha
 obtain ⟨fr,vs,gt⟩:=w5 hg ha
 intro k l hk hl
 cases q:Jd g.2.2.2[k] g.2.2.2[l] with
 | false=>rfl
 | true =>
  unfold Jd at q
  simp only [AD,decide_eq_true_eq,beq_iff_eq] at q
  obtain ⟨⟨⟨⟨⟨q1,q2⟩,q3⟩,q4⟩,q5⟩,q6⟩:=q
  have:=fr k l hk hl q1 q2 q3 q4.symm (by rw [(dn k hk q2).1,(dn l hl q3).1]; exact q5)
  omega
theorem rS (x:List F6) (h:x.length<=maxLen) (hf:∀ k l (hk:k<x.length) (hl:l<x.length),Jd x[k] x[l]=false):NV x=some true:=kM (by
 have hm:x.length<=9223372036854775807:=h
 unfold YS
 exact E0 (n:=x.length) (P:=fun i=>Ir x (i:Int)=some true) (Lg (by
  unfold It
  rw [if_neg (by simp)])) (fun i hi ih=>Lg (by
  unfold It
  rw [if_pos (by simpa using hi)]
  exact E0 (n:=x.length) (P:=fun j=>Cx x (i:Int) (j:Int)=some true) (Lf (by
   unfold Is
   rw [if_neg (by simp),AM (show i<9223372036854775807 by omega)]
   exact ih)) (fun j hj ihj=>Lf (by
   unfold Is
   have hz:∀ k (hk:k<x.length),x.getD k ((0:Int),O,O,(0:Int),(0:Int),(0:Int),(0:Int),(0:Int),O)=x[k]:=fun k hk=>AU hk
   have he:=hf i j hi hj
   simp only [show ((j:Int)<(x.length:Int)) from by omega,show ((i:Int)<(x.length:Int)) from by omega,decide_true,if_true,show (0:Int)<=(i:Int) from by omega,show (0:Int)<=(j:Int) from by omega,Ai,hz i hi,hz j hj,AM (show j<9223372036854775807 by omega),Lo,Y,ihj]
   unfold Jd at he
   generalize x[i]=a at *
   generalize x[j]=b at *
   by_cases c1:a.1=2<;>by_cases c2:0<=a.2.2.2.2.1<;>by_cases c3:0<=b.2.2.2.2.1<;>by_cases c4:b.2.1.toList=a.2.1.toList<;>by_cases c5:DU b<DU a<;>by_cases c6:a.2.2.2.2.2.1<b.2.2.2.2.2.1<;>simp [c1,c2,c3,c4,c5,c6] at he ⊢)) 0 (by omega))) 0 (by omega))
theorem rT (x:List F6) (h:x.length<=maxLen) (hf:∀ k l (hk:k<x.length) (hl:l<x.length),Jd x[k] x[l]=false):NU x=some true:=kL (by
 have hm:x.length<=9223372036854775807:=h
 unfold YR
 exact E0 (n:=x.length) (P:=fun i=>FF x x (x.length:Int) (i:Int)=some true) (Le (by
  unfold Iq
  rw [if_neg (by simp)])) (fun i hi ih=>Le (by
  unfold Iq
  have hz:∀ k (hk:k<x.length),x.getD k ((0:Int),O,O,(0:Int),(0:Int),(0:Int),(0:Int),(0:Int),O)=x[k]:=fun k hk=>AU hk
  simp only [show ((i:Int)<(x.length:Int)) from by omega,decide_true,if_true,show (0:Int)<=(i:Int) from by omega,Ai,hz i hi,AM (show i<9223372036854775807 by omega),Ea,Y,ih]
  by_cases c1:x[i].1=2
  case neg=>rw [if_neg (by simpa using c1)]
  by_cases c2:0<=x[i].2.2.2.2.1
  case neg=>rw [if_pos (by simpa using c1),if_pos (by simp; omega)]
  rw [if_pos (by simpa using c1),if_neg (by simp; omega)]
  exact E0 (n:=x.length) (P:=fun j=>Gm x x (x.length:Int) (i:Int) x (x.length:Int) (j:Int) x[i]=some true) (Ld (by
   unfold Ip
   rw [if_neg (by simp),AM (show i<9223372036854775807 by omega)]
   exact ih)) (fun j hj ihj=>Ld (by
   have he:=hf i j hi hj
   have w2:∀ b,(b=true->x[i].2.2.2.2.2.1<x[j].2.2.2.2.2.1->False)->Cb x b x (x.length:Int) (i:Int) x (x.length:Int) (j:Int) x[i] x[j]=some true:=fun b hb=>aL (by
    unfold Qo
    rw [AM (show j<9223372036854775807 by omega),ihj]
    cases b with
    | false=>rfl
    | true=>rw [if_pos rfl,if_neg (by simpa using hb rfl)])
   unfold Ip
   simp only [show ((j:Int)<(x.length:Int)) from by omega,decide_true,if_true,show (0:Int)<=(j:Int) from by omega,Ai,hz j hj,Ea,Lq,Y]
   unfold Jd at he
   have wf:=w2 false (fun h=>by cases h)
   have wt:x[j].2.1.toList=x[i].2.1.toList->0<=x[j].2.2.2.2.1->Cb x (decide (DU x[j]<DU x[i])) x (x.length:Int) (i:Int) x (x.length:Int) (j:Int) x[i] x[j]=some true:=fun c4 c3=>w2 _ (fun h5 h6=>by
    simp [c1,c2,c3,c4,of_decide_eq_true h5,h6] at he)
   generalize x[i]=a at *
   generalize x[j]=b at *
   by_cases d1:b.1=1<;>by_cases d2:b.1=2<;>by_cases c4:b.2.1.toList=a.2.1.toList<;>by_cases c3:0<=b.2.2.2.2.1<;>simp [d1,d2,c3,c4,wf,wt])) 0 (by omega))) 0 (by omega))

theorem ABa {β:Type} {n:Nat} {L:Nat->Option β} {b:Nat->Bool} {e s:β} (h0:L n=some e) (h:∀ i,i<n->∀ w,L (i+1)=some w->L i=some (if b i=true then w else s)) :
  ∀ i,i<=n->L i=some (if (List.range' i (n-i)).all b=true then e else s):=by
 refine E0 (P:=fun i=>L i=some (if (List.range' i (n-i)).all b=true then e else s)) (by simp [h0]) fun i hi ih=>?_
 rw [h i hi _ ih,show n-i=(n-(i+1))+1 from by omega,List.range'_succ,List.all_cons]
 by_cases hb:b i=true
 ·rw [if_pos hb,hb,Bool.true_and]
 ·have hb':b i=false:=by simpa using hb
  rw [if_neg hb,hb',Bool.false_and]
  rfl
theorem HO {β:Type} {n:Nat} {L:Nat->Option β} {b:Nat->Bool} {e s:β} (h0:L n=some e) (h:∀ i,i<n->∀ w,L (i+1)=some w->L i=some (if b i=true then w else s)) :
  L 0=some (if (List.range n).all b=true then e else s):=by
 have:=ABa h0 h 0 (by omega)
 rwa [Nat.sub_zero,<- List.range_eq_range'] at this
theorem rh (b:Bool):(if b=true then true else false)=b:=by cases b<;>rfl
def Pn:AP:=(O,O,0)
def PV:AE:=((0:Int),(0:Int),false,false,false,false,[],[],(0:Int),(0:Int),(0:Int),(0:Int),(O,O,(0:Int)),[])
def Il (a b:List AP):Bool:=(a.length==b.length)&&(List.range a.length).all fun i=>OI AF (a.getD i Pn) (b.getD i Pn)
theorem Xu (a b:List AP) (h:a.length<=maxLen):Ko a b=some (Il a b):=fX (by
 have hm:a.length<=9223372036854775807:=h
 unfold Rn Il
 by_cases e:a.length=b.length
 ·rw [if_neg (by simp [e])]
  have:=HO (n:=a.length) (L:=fun i=>Fn a b (i:Int)) (b:=fun i=>OI AF (a.getD i Pn) (b.getD i Pn)) (e:=true) (s:=false) (Nq (by
   unfold IV
   rw [if_neg (by simp)])) (fun i hi w hw=>Nq (by
   unfold IV
   rw [if_pos (by simpa using hi),if_pos (by omega),if_pos (by omega),if_pos (by omega),if_pos (by omega),Ai,AM (show i<9223372036854775807 by omega),hw]
   show _=some (if OI AF (a.getD i (O,O,(0:Int))) (b.getD i (O,O,(0:Int)))=true then w else false)
   generalize OI AF (a.getD i (O,O,(0:Int))) (b.getD i (O,O,(0:Int)))=q
   cases q<;>rfl))
  simp only [e,beq_self_eq_true,Bool.true_and]
  rw [show ((0:Int))=((0:Nat):Int) from rfl,this]
  rw [e]
  cases (List.range b.length).all fun i=>OI AF (a.getD i Pn) (b.getD i Pn)<;>rfl
 ·rw [if_pos (by simpa using fun q=>e (by omega))]
  simp [e])
theorem J8 (a b:List AP) (h:a.length<=maxLen):DV a b=some (Il a b):=ML (by
 have hm:a.length<=9223372036854775807:=h
 unfold GP Il
 by_cases e:a.length=b.length
 ·rw [if_neg (by simp [e])]
  have:=HO (n:=a.length) (L:=fun i=>B1 a b (a.length:Int) (i:Int)) (b:=fun i=>OI AF (a.getD i Pn) (b.getD i Pn)) (e:=true) (s:=false) (E8 (by
   unfold C6
   rw [if_neg (by simp)])) (fun i hi w hw=>E8 (by
   unfold C6
   rw [if_pos (by simpa using hi),if_pos (by omega),if_pos (by omega),if_pos (by omega),if_pos (by omega),Ai,AM (show i<9223372036854775807 by omega),hw]
   show _=some (if OI AF (a.getD i (O,O,(0:Int))) (b.getD i (O,O,(0:Int)))=true then w else false)
   generalize OI AF (a.getD i (O,O,(0:Int))) (b.getD i (O,O,(0:Int)))=q
   cases q<;>rfl))
  simp only [e,beq_self_eq_true,Bool.true_and]
  rw [e] at this
  rw [show ((0:Int))=((0:Nat):Int) from rfl,this]
  cases (List.range b.length).all fun i=>OI AF (a.getD i Pn) (b.getD i Pn)<;>rfl
 ·rw [if_pos (by simpa using fun q=>e (by omega))]
  simp [e])
def Ej (g:AS) (e:Int):List Int:=if 1<=e/\e<=(g.1.length:Int) then g.1.getD (e-1).toNat [] else []
theorem Ok (e:Int) (g:AS) (h:g.1.length<=maxLen):JL e g=some (Ej g e,g):=kg (by
 have hm:g.1.length<=9223372036854775807:=h
 unfold U0 Ej
 rw [Aw,Y]
 by_cases c:1<=e/\e<=(g.1.length:Int)
 ·rw [if_neg (by simp [c.1,c.2]),Af (by omega),if_pos (by omega),if_pos (by omega),if_pos c]
 ·rw [if_pos (by rw [<- Bool.decide_and,decide_eq_false c]; rfl),if_neg c])
def AN (g:AS) (i:Nat):AE:=g.2.1.getD i PV
def MS (g:AS) (m:AE):Bool:=!((Ej g m.2.1).length==0)&&(Ej g m.2.1).getD 0 0==m.1
def MT (g:AS):Bool:=(List.range g.2.1.length).all fun i=>!(AN g i).2.2.2.2.2.1||(MS g (AN g i)&&(List.range i).all fun k=>!((AN g k).2.2.2.2.2.1&&(AN g k).2.1==(AN g i).2.1))
theorem J9 (g:AS) (h1:g.1.length<=maxLen) (h2:g.2.1.length<=maxLen):KM g=some (MT g):=nR (by
 have hm1:g.1.length<=9223372036854775807:=h1
 have hm2:g.2.1.length<=9223372036854775807:=h2
 unfold W5
 have key:=HO (n:=g.2.1.length) (L:=fun i=>FT (i:Int) g) (b:=fun i=>!(AN g i).2.2.2.2.2.1||(MS g (AN g i)&&(List.range i).all fun k=>!((AN g k).2.2.2.2.2.1&&(AN g k).2.1==(AN g i).2.1))) (e:=true) (s:=false) (Ri (by
  unfold Kv
  rw [if_neg (by simp)])) (fun i hi w hw=>Ri (by
  unfold Kv
  have hgd:(g.2.1.getD (i:Int).toNat ((0:Int),(0:Int),false,false,false,false,([]:List Int),([]:List AP),(0:Int),(0:Int),(0:Int),(0:Int),(O,O,(0:Int)),([]:List Int)))=AN g i:=rfl
  rw [if_pos (by simpa using hi),if_pos (by omega),if_pos (by omega)]
  simp only [hgd,A_,Y,AM (show i<9223372036854775807 by omega),hw]
  have inner:D8 (i:Int) 0 g (AN g i)=some (if (List.range i).all (fun k=>!((AN g k).2.2.2.2.2.1&&(AN g k).2.1==(AN g i).2.1))=true then w else false):=by
   refine HO (n:=i) (L:=fun k=>D8 (i:Int) (k:Int) g (AN g i)) (Rh (by
    unfold Ku
    rw [if_neg (by simp),AM (show i<9223372036854775807 by omega)]
    exact hw)) (fun k hk u hu=>Rh (by
    unfold Ku
    have hgk:(g.2.1.getD (k:Int).toNat ((0:Int),(0:Int),false,false,false,false,([]:List Int),([]:List AP),(0:Int),(0:Int),(0:Int),(0:Int),(O,O,(0:Int)),([]:List Int)))=AN g k:=rfl
    rw [if_pos (by simpa using hk),if_pos (by omega),if_pos (by omega)]
    simp only [hgk,show (0:Int)<=(k:Int) from by omega,show (k:Int)<(g.2.1.length:Int) from by omega,if_true,AM (show k<9223372036854775807 by omega),hu]
    cases (AN g k).2.2.2.2.2.1<;>cases ((AN g k).2.1==(AN g i).2.1)<;>simp))
  generalize (List.range i).all (fun k=>!((AN g k).2.2.2.2.2.1&&(AN g k).2.1==(AN g i).2.1))=q at inner ⊢
  cases hs:(AN g i).2.2.2.2.2.1
  ·simp
  ·simp only [Bool.not_true,Bool.false_or,Bool.false_eq_true,if_false]
   unfold MS Ej
   by_cases c:1<=(AN g i).2.1/\(AN g i).2.1<=(g.1.length:Int)
   ·rw [if_neg (by simp [c.1,c.2]),Af (by omega),if_pos (by omega),if_pos (by omega),if_pos c]
    generalize g.1.getD ((AN g i).2.1-1).toNat []=v
    by_cases c2:v.length=0
    ·rw [if_pos (by simp [c2])]
     simp [c2]
    ·rw [if_neg (by simp only [beq_iff_eq]; omega),if_pos (by omega),if_pos (by omega),if_pos (by omega),if_pos (by omega),Int.toNat_zero]
     have hv:(!v.length==0)=true:=by simp [c2]
     by_cases c3:v.getD 0 0=(AN g i).1
     ·rw [if_neg (by simpa using c3),inner,hv,c3,beq_self_eq_true,Bool.true_and,Bool.true_and]
     ·rw [if_pos (by simpa using c3)]
      have hv2:(v.getD 0 0==(AN g i).1)=false:=by simpa using c3
      rw [hv2]
      simp
   ·rw [if_pos (by rw [<- Bool.decide_and,decide_eq_false c]; rfl),if_neg c]
    simp))
 rw [rh] at key
 exact key)
theorem HI (g:AS) (h1:g.1.length<=maxLen) (h2:g.2.1.length<=maxLen):Hm g=some (MT g):=nQ (by
 have hm1:g.1.length<=9223372036854775807:=h1
 have hm2:g.2.1.length<=9223372036854775807:=h2
 unfold W4
 have key:=HO (n:=g.2.1.length) (L:=fun i=>FS g.2.1 (g.2.1.length:Int) (i:Int) g.1 g.2.1 g.2.2.1 g.2.2.2) (b:=fun i=>!(AN g i).2.2.2.2.2.1||(MS g (AN g i)&&(List.range i).all fun k=>!((AN g k).2.2.2.2.2.1&&(AN g k).2.1==(AN g i).2.1))) (e:=true) (s:=false) (Rf (by
  unfold Kt
  rw [if_neg (by simp)])) (fun i hi w hw=>Rf (by
  unfold Kt
  have hgd:(g.2.1.getD (i:Int).toNat ((0:Int),(0:Int),false,false,false,false,([]:List Int),([]:List AP),(0:Int),(0:Int),(0:Int),(0:Int),(O,O,(0:Int)),([]:List Int)))=AN g i:=rfl
  rw [if_pos (by simpa using hi),if_pos (by omega),if_pos (by omega)]
  simp only [hgd,Ok _ (g.1,g.2.1,g.2.2.1,g.2.2.2) h1,Y,AM (show i<9223372036854775807 by omega),hw]
  have inner:∀ b,Kq (i:Int) g.2.1 (g.2.1.length:Int) (i:Int) b g (AN g i)=some (if (List.range i).all (fun k=>!((AN g k).2.2.2.2.2.1&&(AN g k).2.1==(AN g i).2.1))=true then w else false):=fun b=>fS (by
   unfold Rd
   have hl:((g.2.1.take (i:Int).toNat).drop (0:Int).toNat)=g.2.1.take i:=by simp
   have hl2:(g.2.1.take i).length=i:=by rw [List.length_take]; omega
   rw [if_pos (by omega),if_pos (by omega),if_pos (by omega),hl,hl2]
   refine HO (n:=i) (L:=fun k=>FR g.2.1 (g.2.1.length:Int) (i:Int) (g.2.1.take i) (i:Int) (k:Int) g (AN g i)) (Re (by
    unfold Kr
    rw [if_neg (by simp),AM (show i<9223372036854775807 by omega)]
    exact hw)) (fun k hk u hu=>Re (by
    unfold Kr
    have hgk:((g.2.1.take i).getD (k:Int).toNat ((0:Int),(0:Int),false,false,false,false,([]:List Int),([]:List AP),(0:Int),(0:Int),(0:Int),(0:Int),(O,O,(0:Int)),([]:List Int)))=AN g k:=by
     show (g.2.1.take i).getD k PV=g.2.1.getD k PV
     rw [AU (by omega),AU (by omega),List.getElem_take]
    rw [if_pos (by simpa using hk),if_pos (by omega),if_pos (by omega)]
    simp only [hgk,if_true,AM (show k<9223372036854775807 by omega),hu]
    cases (AN g k).2.2.2.2.2.1<;>cases ((AN g k).2.1==(AN g i).2.1)<;>simp)))
  generalize (List.range i).all (fun k=>!((AN g k).2.2.2.2.2.1&&(AN g k).2.1==(AN g i).2.1))=q at inner ⊢
  have hview:Ej (g.1,g.2.1,g.2.2.1,g.2.2.2) (AN g i).2.1=Ej g (AN g i).2.1:=rfl
  rw [hview]
  cases hs:(AN g i).2.2.2.2.2.1
  ·simp
  ·simp only [Bool.not_true,Bool.false_or,Bool.false_eq_true,if_false]
   unfold MS
   generalize Ej g (AN g i).2.1=v
   by_cases c2:v.length=0
   ·rw [if_pos (by simp [c2])]
    simp [c2]
   ·rw [if_neg (by simp only [beq_iff_eq]; omega),if_pos (by omega),if_pos (by omega),Int.toNat_zero]
    have hv:(!v.length==0)=true:=by simp [c2]
    by_cases c3:v.getD 0 0=(AN g i).1
    ·rw [if_neg (by simpa using c3),show ((g.1,g.2.1,g.2.2.1,g.2.2.2):AS)=g from rfl,inner,hv,c3,beq_self_eq_true,Bool.true_and,Bool.true_and]
    ·rw [if_pos (by simpa using c3)]
     have hv2:(v.getD 0 0==(AN g i).1)=false:=by simpa using c3
     rw [hv2]
     simp))
 rw [rh] at key
 exact key)
theorem vF (x:AP):OI AF x x=true:=by simp [OI]
theorem bQ (a:List AP):Il a a=true:=by
 unfold Il
 simp only [beq_self_eq_true,Bool.true_and,BK]
 exact fun i _=>vF _
def Ls (g:AS) (m x:AE):Bool:=decide (x.1∈Ej g m.2.1)&&x.2.2.2.1&&(x.2.1==m.2.1)&&!Il x.2.2.2.2.2.2.2.1 m.2.2.2.2.2.2.2.1
def jF (g:AS):Bool:=(List.range g.2.1.length).all fun i=>!(AN g i).2.2.2.2.2.1||!((AN g i).2.2.2.2.2.2.2.2.2.1==0)||(List.range g.2.1.length).all fun k=>!Ls g (AN g i) (AN g k)
structure Fit (g:AS):Prop where
 n1:g.1.length<=maxLen
 n2:g.2.1.length<=maxLen
 n3:∀ e,(Ej g e).length<=maxLen
 n4:∀ k,k<g.2.1.length->(AN g k).2.2.2.2.2.2.2.1.length<=maxLen
theorem PW (g:AS) (hx:Fit g):SK g=some (jF g):=yF (by
 have hm1:g.1.length<=9223372036854775807:=hx.n1
 have hm2:g.2.1.length<=9223372036854775807:=hx.n2
 unfold kQ
 have key:=HO (n:=g.2.1.length) (L:=fun i=>FH (i:Int) g) (b:=fun i=>!(AN g i).2.2.2.2.2.1||!((AN g i).2.2.2.2.2.2.2.2.2.1==0)||(List.range g.2.1.length).all fun k=>!Ls g (AN g i) (AN g k)) (e:=true) (s:=false) (aT (by
  unfold Qt
  rw [if_neg (by simp)])) (fun i hi w hw=>aT (by
  unfold Qt
  have hgd:(g.2.1.getD (i:Int).toNat ((0:Int),(0:Int),false,false,false,false,([]:List Int),([]:List AP),(0:Int),(0:Int),(0:Int),(0:Int),(O,O,(0:Int)),([]:List Int)))=AN g i:=rfl
  rw [if_pos (by simpa using hi),if_pos (by omega),if_pos (by omega)]
  simp only [hgd,A_,Y,AM (show i<9223372036854775807 by omega),hw]
  generalize hm:AN g i=m
  cases hs:m.2.2.2.2.2.1
  ·simp
  ·by_cases ho:m.2.2.2.2.2.2.2.2.2.1=0
   ·rw [if_pos (by simp),if_pos (by simp [ho])]
    by_cases c:1<=m.2.1/\m.2.1<=(g.1.length:Int)
    ·rw [if_neg (by simp [c.1,c.2])]
     have inner:EC (i:Int) 0 g m=some (if (List.range g.2.1.length).all (fun k=>!Ls g m (AN g k))=true then w else false):=by
      refine HO (n:=g.2.1.length) (L:=fun k=>EC (i:Int) (k:Int) g m) (aS (by
       unfold Qs
       rw [if_neg (by simp),AM (show i<9223372036854775807 by omega)]
       exact hw)) (fun k hk u hu=>aS (by
       unfold Qs
       have hgk:(g.2.1.getD (k:Int).toNat ((0:Int),(0:Int),false,false,false,false,([]:List Int),([]:List AP),(0:Int),(0:Int),(0:Int),(0:Int),(O,O,(0:Int)),([]:List Int)))=AN g k:=rfl
       have hok:=hx.n4 k hk
       rw [if_pos (by simpa using hk),if_pos (by omega),if_pos (by omega)]
       have hv:g.1.getD (m.2.1-1).toNat []=Ej g m.2.1:=by unfold Ej; rw [if_pos c]
       simp only [hgk,AM (show k<9223372036854775807 by omega),hu,Af (show -9223372036854775808<=m.2.1-1/\m.2.1-1<=9223372036854775807 by omega),hv,show (0:Int)<=m.2.1-1 from by omega,show m.2.1-1<(g.1.length:Int) from by omega,if_true,
        Cy _ _ (hx.n3 _),Xu _ _ hok,Y]
       unfold Ls
       rw [show List.contains (Ej g m.2.1) (AN g k).1=decide ((AN g k).1∈Ej g m.2.1) from List.contains_eq_mem _ _]
       generalize decide ((AN g k).1∈Ej g m.2.1)=a
       generalize (AN g k).2.2.2.1=b
       generalize ((AN g k).2.1==m.2.1)=d
       generalize Il (AN g k).2.2.2.2.2.2.2.1 m.2.2.2.2.2.2.2.1=e
       cases a<;>cases b<;>cases d<;>cases e<;>simp))
     rw [inner]
     simp [ho]
    ·rw [if_pos (by rw [<- Bool.decide_and,decide_eq_false c]; rfl)]
     have:(List.range g.2.1.length).all (fun k=>!Ls g m (AN g k))=true:=by
      rw [BK]
      intro k _
      unfold Ls Ej
      rw [if_neg c]
      simp
     rw [this]
     simp
   ·rw [if_pos (by simp),if_neg (by simp [ho])]
    simp [ho]))
 rw [rh] at key
 exact key)
theorem Ke (g:AS) (hx:Fit g):NX g=some (jF g):=yE (by
 have hm1:g.1.length<=9223372036854775807:=hx.n1
 have hm2:g.2.1.length<=9223372036854775807:=hx.n2
 unfold kP
 have key:=HO (n:=g.2.1.length) (L:=fun i=>Gn g.2.1 (g.2.1.length:Int) (i:Int) g.1 g.2.1 g.2.2.1 g.2.2.2) (b:=fun i=>!(AN g i).2.2.2.2.2.1||!((AN g i).2.2.2.2.2.2.2.2.2.1==0)||(List.range g.2.1.length).all fun k=>!Ls g (AN g i) (AN g k)) (e:=true) (s:=false) (aQ (by
  unfold Qr
  rw [if_neg (by simp)])) (fun i hi w hw=>aQ (by
  unfold Qr
  have hgd:(g.2.1.getD (i:Int).toNat ((0:Int),(0:Int),false,false,false,false,([]:List Int),([]:List AP),(0:Int),(0:Int),(0:Int),(0:Int),(O,O,(0:Int)),([]:List Int)))=AN g i:=rfl
  rw [if_pos (by simpa using hi),if_pos (by omega),if_pos (by omega)]
  simp only [hgd,AM (show i<9223372036854775807 by omega),hw]
  generalize hm:AN g i=m
  cases hs:m.2.2.2.2.2.1
  ·simp
  ·by_cases ho:m.2.2.2.2.2.2.2.2.2.1=0
   ·rw [if_pos (by simp),if_neg (by simp [ho])]
    have inner:∀ b,Qp (i:Int) g.2.1 (g.2.1.length:Int) (i:Int) b g.1 g.2.1 g.2.2.1 g.2.2.2 m=some (if (List.range g.2.1.length).all (fun k=>!Ls g m (AN g k))=true then w else false):=fun b=>qR (by
     unfold aO
     rw [Ok _ (g.1,g.2.1,g.2.2.1,g.2.2.2) hx.n1,Y]
     show DP (i:Int) (Ej g m.2.1) g.2.1 (g.2.1.length:Int) (i:Int) g.2.1 (g.2.1.length:Int) 0 g m=_
     refine HO (n:=g.2.1.length) (L:=fun k=>DP (i:Int) (Ej g m.2.1) g.2.1 (g.2.1.length:Int) (i:Int) g.2.1 (g.2.1.length:Int) (k:Int) g m) (aP (by
      unfold Qq
      rw [if_neg (by simp),AM (show i<9223372036854775807 by omega)]
      exact hw)) (fun k hk u hu=>aP (by
      unfold Qq
      have hgk:(g.2.1.getD (k:Int).toNat ((0:Int),(0:Int),false,false,false,false,([]:List Int),([]:List AP),(0:Int),(0:Int),(0:Int),(0:Int),(O,O,(0:Int)),([]:List Int)))=AN g k:=rfl
      have hok:=hx.n4 k hk
      rw [if_pos (by simpa using hk),if_pos (by omega),if_pos (by omega)]
      simp only [hgk,AM (show k<9223372036854775807 by omega),hu,Vc _ _ (hx.n3 _),List.contains_eq_mem,J8 _ _ hok,Y]
      by_cases hki:k=i
      ·subst hki
       rw [if_neg (by simp),hm]
       unfold Ls
       rw [bQ]
       simp
      ·rw [if_pos (by simpa using fun q=>hki (by omega))]
       unfold Ls
       generalize decide ((AN g k).1∈Ej g m.2.1)=a
       generalize (AN g k).2.2.2.1=b
       generalize ((AN g k).2.1==m.2.1)=d
       generalize Il (AN g k).2.2.2.2.2.2.2.1 m.2.2.2.2.2.2.2.1=e
       cases a<;>cases b<;>cases d<;>cases e<;>simp)))
    rw [inner]
    simp [ho]
   ·rw [if_pos (by simp),if_pos (by simp [ho])]
    simp [ho]))
 rw [rh] at key
 exact key)
theorem Jg.fit {g:AS} {n:Nat} (hg:Jg g n):Fit g:=by
 have hl:=hg.views.len
 have h6:=hg.six
 refine ⟨by unfold maxLen; omega,by unfold maxLen; omega,fun e=>?_,fun k hk=>?_⟩
 ·unfold Ej
  split
  ·have:=(hg.views.get (i:=(e-1).toNat) (by omega)).2
   unfold maxLen; omega
  ·unfold maxLen; simp
 ·have:=Kc (hg.mem k (by omega)).1.items
  change (BB g k).2.2.2.2.2.2.2.1.length<=_
  unfold maxLen; omega

theorem mW {g:AS} {n:Nat} (hg:Jg g n) (h3:V3 g):MT g=true:=by
 have h6:=hg.six
 unfold MT
 rw [BK]
 intro i hi
 have hi:i<6:=by rw [List.mem_range,h6] at hi; exact hi
 change (!(BB g i).2.2.2.2.2.1||(MS g (BB g i)&&(List.range i).all fun k=>!((BB g k).2.2.2.2.2.1&&(BB g k).2.1==(BB g i).2.1)))=true
 cases hs:(BB g i).2.2.2.2.2.1 with
 | false=>rfl
 | true =>
  obtain ⟨a1,a2⟩:=mU hg h3 hi hs
  obtain ⟨m1,m2⟩:=hg.mem i hi
  have hep:=m1.ep
  have g1:=hg.views.get (i:=((BB g i).2.1-1).toNat) (by omega)
  rw [Bool.not_true,Bool.false_or,AD]
  refine ⟨?_,?_⟩
  ·unfold MS Ej
   rw [if_pos ⟨hep.1,a1⟩]
   have hf:(g.1.getD ((BB g i).2.1-1).toNat []).getD 0 0=(BB g i).1:=by rw [m2]; exact a2
   rw [hf,beq_self_eq_true,Bool.and_true]
   simp only [Do,beq_eq_false_iff_ne]
   omega
  ·rw [BK]
   intro k hk
   have hk:k<i:=List.mem_range.1 hk
   cases hsk:(BB g k).2.2.2.2.2.1 with
   | false=>rfl
   | true =>
    have b2:=(mU hg h3 (show k<6 by omega) hsk).2
    have:((BB g k).2.1==(BB g i).2.1)=false:=by
     rw [beq_eq_false_iff_ne]
     intro q
     rw [q,a2] at b2
     omega
    rw [this]; rfl
theorem pG {g:AS} {n:Nat} {now:Int} (hg:Jg g n) (h:E4 g now):jF g=true:=by
 obtain ⟨vr,ha⟩:=h
 have h6:=hg.six
 unfold jF
 rw [BK]
 intro i hi
 have hi:i<6:=by rw [List.mem_range,h6] at hi; exact hi
 change (!(BB g i).2.2.2.2.2.1||!((BB g i).2.2.2.2.2.2.2.2.2.1==0)||(List.range g.2.1.length).all fun k=>!Ls g (BB g i) (BB g k))=true
 have hmi:∀ k:Nat,k<6->(pg g).mem ((k:Int)+1)=pm (BB g k):=fun k hk=>by
  rw [Tv (by omega),show ((k:Int)+1-1).toNat=k by omega]
 cases hs:(BB g i).2.2.2.2.2.1 with
 | false=>rfl
 | true =>
  by_cases ho:(BB g i).2.2.2.2.2.2.2.2.2.1=0
  ·rw [ho,Bool.not_true,Bool.false_or,beq_self_eq_true,Bool.not_true,Bool.false_or,BK]
   intro k hk
   have hk:k<6:=by rw [List.mem_range,h6] at hk; exact hk
   have hser:=ha.a.serv ((i:Int)+1) (by rw [hmi i hi]; exact hs)
   unfold Ls
   cases hb:(BB g k).2.2.2.1 with
   | false=>simp
   | true =>
    by_cases he:(BB g k).2.1=(BB g i).2.1
    ·have:=ha.e.e2 ((i:Int)+1) hser.2.1 hser.1 ((k:Int)+1) (by rw [hmi k hk]; exact hb) (by rw [hmi k hk,hmi i hi]; exact he)
     rw [hmi k hk,hmi i hi] at this
     rcases this with q | q
     ·have q:(BB g k).2.2.2.2.2.2.2.1=(BB g i).2.2.2.2.2.2.2.1:=q
      rw [q,bQ]
      simp
     ·have q1:(BB g i).2.2.2.2.2.2.2.2.2.1=1:=q.1
      omega
    ·have:((BB g k).2.1==(BB g i).2.1)=false:=by rw [beq_eq_false_iff_ne]; exact he
     rw [this]
     simp
  ·have:((BB g i).2.2.2.2.2.2.2.2.2.1==(0:Int))=false:=by rw [beq_eq_false_iff_ne]; exact ho
   rw [this]; rfl
theorem ACi {g:AS} {n:Nat} {now:Int} (hg:Jg g n) (hn:n<=100000) (h3:V3 g) (h:E4 g now):NW g=some true/\SJ g=some true:=by
 have hc:=hg.clen
 have hm:g.2.2.2.length<=maxLen:=by unfold maxLen; omega
 have ht:=AAK hg h
 have hr:=AAL hg h
 have hf:=zf hg h
 have ho:=mW hg h3
 have hal:=pG hg h
 have hfit:=hg.fit
 refine ⟨kN ?_,kO ?_⟩
 ·unfold YT
  rw [PU _ hm,ht,Y,if_pos rfl,Q9 _ hm,hr,Y,if_pos rfl,rT _ hm hf,Y,if_pos rfl,HI _ hfit.n1 hfit.n2,ho,Y,if_pos rfl,Ke _ hfit,hal,Y]
 ·unfold YU
  rw [PT _ hm,ht,Y,if_pos rfl,Q8 _ hm,hr,Y,if_pos rfl,rS _ hm hf,Y,if_pos rfl,J9 _ hfit.n1 hfit.n2,ho,Y,if_pos rfl,PW _ hfit,hal,Y]

def Ve (x:List F6):Prop:=∀ c∈x,c.1=1\/c.1=2
def jG (x:List F6):Bool:=x.all fun a=>x.all fun b=>!Jd a b
theorem Xv (x:List F6) (h:x.length<=maxLen):NV x=some (jG x):=kM (by
 have hm:x.length<=9223372036854775807:=h
 unfold YS jG
 have key:=E0 (n:=x.length) (P:=fun i=>Ir x (i:Int)=some ((x.drop i).all fun a=>x.all fun b=>!Jd a b)) (Lg (by
  unfold It
  rw [if_neg (by simp),List.drop_length]
  rfl)) (fun i hi ih=>Lg (by
  unfold It
  rw [if_pos (by simpa using hi),BC hi,List.all_cons]
  have:=E0 (n:=x.length) (P:=fun j=>Cx x (i:Int) (j:Int)=some (((x.drop j).all fun b=>!Jd x[i] b)&&((x.drop (i+1)).all fun a=>x.all fun b=>!Jd a b))) (Lf (by
   unfold Is
   rw [if_neg (by simp),AM (show i<9223372036854775807 by omega),ih,List.drop_length]
   rfl)) (fun j hj ihj=>Lf (by
   unfold Is
   have hz:∀ k (hk:k<x.length),x.getD k ((0:Int),O,O,(0:Int),(0:Int),(0:Int),(0:Int),(0:Int),O)=x[k]:=fun k hk=>AU hk
   simp only [show ((j:Int)<(x.length:Int)) from by omega,show ((i:Int)<(x.length:Int)) from by omega,decide_true,if_true,show (0:Int)<=(i:Int) from by omega,show (0:Int)<=(j:Int) from by omega,Ai,hz i hi,hz j hj,AM (show j<9223372036854775807 by omega),Lo,Y,ihj]
   have hel:Jd x[i] x[j]=(decide (x[i].1=2)&&decide (0<=x[i].2.2.2.2.1)&&decide (0<=x[j].2.2.2.2.1)&&(x[j].2.1.toList==x[i].2.1.toList)&&decide (DU x[j]<DU x[i])&&decide (x[i].2.2.2.2.2.1<x[j].2.2.2.2.2.1)):=rfl
   rw [BC hj,List.all_cons,hel]
   generalize (x.drop (j+1)).all (fun b=>!Jd x[i] b)=r1
   generalize (x.drop (i+1)).all (fun a=>x.all fun b=>!Jd a b)=r2
   generalize x[i]=a at *
   generalize x[j]=b at *
   by_cases c1:a.1=2<;>by_cases c2:0<=a.2.2.2.2.1<;>by_cases c3:0<=b.2.2.2.2.1<;>by_cases c4:b.2.1.toList=a.2.1.toList<;>by_cases c5:DU b<DU a<;>by_cases c6:a.2.2.2.2.2.1<b.2.2.2.2.2.1<;>first | (simp [c1,c2,c3,c4,c5,c6]; done) | (simp [c1,c2,c3,c4,c5,c6,beq_eq_false_iff_ne.2 c4]; done))) 0 (by omega)
  exact this)) 0 (by omega)
 exact key)
theorem Xw (x:List F6) (h:x.length<=maxLen) (ho:Ve x):NU x=some (jG x):=kL (by
 have hm:x.length<=9223372036854775807:=h
 unfold YR jG
 have key:=E0 (n:=x.length) (P:=fun i=>FF x x (x.length:Int) (i:Int)=some ((x.drop i).all fun a=>x.all fun b=>!Jd a b)) (Le (by
  unfold Iq
  rw [if_neg (by simp),List.drop_length]
  rfl)) (fun i hi ih=>Le (by
  unfold Iq
  have hz:∀ k (hk:k<x.length),x.getD k ((0:Int),O,O,(0:Int),(0:Int),(0:Int),(0:Int),(0:Int),O)=x[k]:=fun k hk=>AU hk
  simp only [show ((i:Int)<(x.length:Int)) from by omega,decide_true,if_true,show (0:Int)<=(i:Int) from by omega,Ai,hz i hi,AM (show i<9223372036854775807 by omega),Ea,Y,ih]
  rw [BC hi,List.all_cons]
  have skip:(x[i].1=2->0<=x[i].2.2.2.2.1->False)->(x.all fun b=>!Jd x[i] b)=true:=fun hs=>by
   rw [BK]
   intro b _
   unfold Jd
   by_cases c1:x[i].1=2
   ·rw [decide_eq_false (hs c1),Bool.and_false]; rfl
   ·rw [decide_eq_false c1]; rfl
  by_cases c1:x[i].1=2
  case neg=>rw [if_neg (by simpa using c1),skip (fun h=>absurd h c1),Bool.true_and]
  by_cases c2:0<=x[i].2.2.2.2.1
  case neg=>rw [if_pos (by simpa using c1),if_pos (by simp; omega),skip (fun _=>c2),Bool.true_and]
  rw [if_pos (by simpa using c1),if_neg (by simp; omega)]
  have:=E0 (n:=x.length) (P:=fun j=>Gm x x (x.length:Int) (i:Int) x (x.length:Int) (j:Int) x[i]=some (((x.drop j).all fun b=>!Jd x[i] b)&&((x.drop (i+1)).all fun a=>x.all fun b=>!Jd a b))) (Ld (by
   unfold Ip
   rw [if_neg (by simp),AM (show i<9223372036854775807 by omega),ih,List.drop_length]
   rfl)) (fun j hj ihj=>Ld (by
   have hop:=ho x[j] (BU hj)
   have w2:∀ b,Cb x b x (x.length:Int) (i:Int) x (x.length:Int) (j:Int) x[i] x[j]=some (!(b&&decide (x[i].2.2.2.2.2.1<x[j].2.2.2.2.2.1))&&(((x.drop (j+1)).all fun b=>!Jd x[i] b)&&((x.drop (i+1)).all fun a=>x.all fun b=>!Jd a b))):=fun b=>aL (by
    unfold Qo
    rw [AM (show j<9223372036854775807 by omega),ihj]
    cases b with
    | false=>simp
    | true=>by_cases c6:x[i].2.2.2.2.2.1<x[j].2.2.2.2.2.1<;>simp [c6])
   unfold Ip
   simp only [show ((j:Int)<(x.length:Int)) from by omega,decide_true,if_true,show (0:Int)<=(j:Int) from by omega,Ai,hz j hj,Ea,Lq,Y,w2]
   have hel:Jd x[i] x[j]=(decide (x[i].1=2)&&decide (0<=x[i].2.2.2.2.1)&&decide (0<=x[j].2.2.2.2.1)&&(x[j].2.1.toList==x[i].2.1.toList)&&decide (DU x[j]<DU x[i])&&decide (x[i].2.2.2.2.2.1<x[j].2.2.2.2.2.1)):=rfl
   rw [BC hj,List.all_cons,hel]
   generalize (x.drop (j+1)).all (fun b=>!Jd x[i] b)=r1
   generalize (x.drop (i+1)).all (fun a=>x.all fun b=>!Jd a b)=r2
   generalize x[i]=a at *
   generalize x[j]=b at *
   rcases hop with d1 | d1<;>by_cases c4:b.2.1.toList=a.2.1.toList<;>by_cases c3:0<=b.2.2.2.2.1<;>simp [d1,c1,c2,c3,c4,Bool.and_assoc])) 0 (by omega)
  exact this)) 0 (by omega)
 exact key)
structure Yj (g:AS):Prop where
 fit:Fit g
 len:g.2.2.2.length<=maxLen
 ops:Ve g.2.2.2
def yc (g:AS):Bool:=jD g.2.2.2 0 g.2.2.2&&(g.2.2.2.all (HN g.2.2.2)&&(jG g.2.2.2&&(MT g&&jF g)))
theorem AAM {g:AS} (h:Yj g):NW g=some (yc g)/\SJ g=some (yc g):=by
 refine ⟨kN ?_,kO ?_⟩
 ·unfold YT yc
  rw [PU _ h.len,Q9 _ h.len,Xw _ h.len h.ops,HI _ h.fit.n1 h.fit.n2,Ke _ h.fit]
  simp only [Y]
  cases jD g.2.2.2 0 g.2.2.2<;>cases g.2.2.2.all (HN g.2.2.2)<;>cases jG g.2.2.2<;>cases MT g<;>cases jF g<;>rfl
 ·unfold YU yc
  rw [PT _ h.len,Q8 _ h.len,Xv _ h.len,J9 _ h.fit.n1 h.fit.n2,PW _ h.fit]
  simp only [Y]
  cases jD g.2.2.2 0 g.2.2.2<;>cases g.2.2.2.all (HN g.2.2.2)<;>cases jG g.2.2.2<;>cases MT g<;>cases jF g<;>rfl
theorem ACj (at_:Int) (s:DH) {cs:List F6} (h:Ve cs):Ve (H5 at_ cs s):=by
 unfold H5
 split
 ·exact h
 ·rename_i hc
  intro c hc'
  rcases Bw s.1.toNat cs.length with hl | q
  ·rcases List.mem_or_eq_of_mem_set hc' with e | e
   ·exact h c e
   ·rw [e]
    exact (h (cs.getD s.1.toNat EZ) (by rw [AU hl]; exact BU _):_)
  ·rw [List.set_eq_of_length_le q] at hc'
   exact h c hc'
theorem Xx (at_:Int):∀ (said:List DH) {cs:List F6},Ve cs->Ve (said.foldl (H5 at_) cs)
 | [],_,h=>h
 | s::l,_,h=>Xx at_ l (ACj at_ s h)
theorem w6 (g:AS) (at_:Int) (m:AE) (node:Int) (h:Ve g.2.2.2):∀ (n:Nat) (e:Int),Ve (Ik g at_ m node n e).2.2.2.2
 | 0,_=>h
 | n+1,e=>by
  unfold Ik
  split
  ·exact w6 g at_ m node h n (e+1)
  ·split
   ·exact Xx at_ [] h
   ·exact h
theorem ABb {g:AS} {at_:Int} {e:D6} (he:Jy e=true) (h:Ve g.2.2.2):Ve (rN g at_ e).2.2.2.2:=by
 unfold rN
 split
 ·rename_i h1
  have hop:e.2.2.2.1=1\/e.2.2.2.1=2:=by
   unfold Jy at he
   simp only [AD] at he
   have:=he.2
   rw [if_pos h1] at this
   unfold ga at this
   simp only [AD,Ec,decide_eq_true_eq] at this
   exact this.1.1.1
  have hc:Ve (H6 g at_ e).2.2.2:=fun c hc=>by
   rcases As.1 hc with q | q
   ·exact h c q
   ·simp only [Cj] at q
    rw [q]; exact hop
  unfold Jz
  split
  ·exact Xx at_ _ hc
  ·exact hc
 ·split
  ·exact w6 g at_ _ _ h _ _
  ·split
   ·exact Xx at_ _ h
   ·unfold fu
    split
    ·exact h
    ·split
     ·exact h
     ·split
      ·exact h
      ·exact Xx at_ _ h
theorem AAv:∀ (es:List D6) (n:Nat) (g:AS) (cs:List Int),Ve g.2.2.2->(∀ e∈es,Jy e=true)->Ve (Je n es g cs).1.2.2.2
 | [],_,_,_,h,_=>h
 | e::es,n,g,cs,h,he=>AAv es (n+1) _ _ (ABb (he e (by simp)) h) (fun x hx=>he x (by simp [hx]))
theorem AAw {v:List (List Int)} {fl:List Bc} {mem:List AE} {cs:List F6} (hb:Yj (v,mem,fl,cs)) (h6:mem.length=6) (x0:Int) (h0:0<=x0) (h1:0<cs.length->x0<(cs.length:Int)) (d:Ki) (hd:Tq d) :
  ∃ g d',JU x0 d mem cs v fl [] [] [] []=some (g,d')/\Yj g:=by
 have setC:∀ (c:F6),c.1=(cs.getD x0.toNat EZ).1->x0<(cs.length:Int)->Yj (v,mem,fl,cs.set x0.toNat c):=fun c hc hl=>by
  refine ⟨⟨hb.fit.n1,hb.fit.n2,hb.fit.n3,hb.fit.n4⟩,by rw [show (v,mem,fl,cs.set x0.toNat c).2.2.2.length=cs.length from List.length_set]; exact hb.len,fun c' hc'=>?_⟩
  rcases List.mem_or_eq_of_mem_set hc' with e | e
  ·exact hb.ops c' e
  ·rw [e,hc]
   have hl:x0.toNat<cs.length:=by omega
   exact hb.ops _ (by rw [AU hl]; exact BU _)
 have setM:∀ (j:Nat) (m:AE),m.2.2.2.2.2.2.2.1.length<=maxLen->Yj (v,mem.set j m,fl,cs):=fun j m hm=>by
  refine ⟨⟨hb.fit.n1,by rw [show (v,mem.set j m,fl,cs).2.1.length=mem.length from List.length_set]; exact hb.fit.n2,hb.fit.n3,fun k hk=>?_⟩,hb.len,hb.ops⟩
  have hk':k<mem.length:=by rw [show (v,mem.set j m,fl,cs).2.1.length=mem.length from List.length_set] at hk; exact hk
  show ((mem.set j m).getD k PV).2.2.2.2.2.2.2.1.length<=maxLen
  by_cases e:k=j
  ·subst e
   rw [rd hk']; exact hm
  ·have:(mem.set j m).getD k PV=mem.getD k PV:=by simp [List.getD,List.getElem?_set_ne (Ne.symm e)]
   rw [this]
   exact hb.fit.n4 k hk'
 have hmi:∀ j,(mem.getD j PV).2.2.2.2.2.2.2.1.length<=maxLen:=fun j=>by
  rcases Bw j mem.length with q | q
  ·exact hb.fit.n4 j q
  ·rw [List.getD,Dj q]; show (0:Nat)<=maxLen; unfold maxLen; omega
 have T:∃ g d',N0 x0 d mem cs v fl [] [] [] []=some (g,d')/\Yj g:=by
  obtain ⟨y2,d2,e2,k2,_,_⟩:=Aq 20 d hd
  unfold N0
  rw [e2,Y]
  dsimp only
  by_cases c0:y2=0
  ·rw [if_pos (by rw [beq_iff_eq]; exact c0)]
   by_cases hl:0<cs.length
   ·obtain ⟨z,d3,e3,k3,_⟩:=HD [(⟨#[]⟩:ByteArray),(⟨#[118]⟩:ByteArray),(⟨#[122,122]⟩:ByteArray)] (by simp) d2 k2
    rw [if_pos (decide_eq_true (by omega)),e3,Y,if_pos h0,if_pos (h1 hl)]
    exact ⟨_,_,rfl,setC _ rfl (h1 hl)⟩
   ·rw [if_neg (by simpa using hl)]; exact ⟨_,_,rfl,hb⟩
  rw [if_neg (by rw [beq_iff_eq]; exact c0)]
  by_cases c1:y2=1
  ·rw [if_pos (by rw [beq_iff_eq]; exact c1)]
   by_cases hl:0<cs.length
   ·obtain ⟨z,d3,e3,k3,_⟩:=Di [(0:Int),(1001:Int),(1002:Int),(9999:Int)] (by simp) d2 k2
    rw [if_pos (decide_eq_true (by omega)),e3,Y,if_pos h0,if_pos (h1 hl)]
    exact ⟨_,_,rfl,setC _ rfl (h1 hl)⟩
   ·rw [if_neg (by simpa using hl)]; exact ⟨_,_,rfl,hb⟩
  rw [if_neg (by rw [beq_iff_eq]; exact c1)]
  by_cases c2:y2=2
  ·rw [if_pos (by rw [beq_iff_eq]; exact c2)]
   by_cases hl:0<cs.length
   ·obtain ⟨z,d3,e3,k3,_⟩:=Di [(0:Int),(1:Int),(2:Int),(1000:Int),(-1:Int)] (by simp) d2 k2
    rw [if_pos (decide_eq_true (by omega)),e3,Y,if_pos h0,if_pos (h1 hl)]
    exact ⟨_,_,rfl,setC _ rfl (h1 hl)⟩
   ·rw [if_neg (by simpa using hl)]; exact ⟨_,_,rfl,hb⟩
  rw [if_neg (by rw [beq_iff_eq]; exact c2)]
  by_cases c3:y2=3
  ·rw [if_pos (by rw [beq_iff_eq]; exact c3)]
   by_cases hl:0<cs.length
   ·obtain ⟨z,d3,e3,k3,_⟩:=Di [(-1:Int),(0:Int),(50:Int)] (by simp) d2 k2
    rw [if_pos (decide_eq_true (by omega)),e3,Y,if_pos h0,if_pos (h1 hl)]
    exact ⟨_,_,rfl,setC _ rfl (h1 hl)⟩
   ·rw [if_neg (by simpa using hl)]; exact ⟨_,_,rfl,hb⟩
  rw [if_neg (by rw [beq_iff_eq]; exact c3)]
  by_cases c4:y2=4
  ·rw [if_pos (by rw [beq_iff_eq]; exact c4)]
   obtain ⟨z,d3,e3,k3,z0,z1⟩:=Aq (mem.length:Int) d2 k2
   rw [e3,Y,if_pos z0,if_pos (z1 (by omega))]
   exact ⟨_,_,rfl,setM _ _ (hmi _)⟩
  rw [if_neg (by rw [beq_iff_eq]; exact c4)]
  by_cases c5:y2=5
  ·rw [if_pos (by rw [beq_iff_eq]; exact c5)]
   obtain ⟨z,d3,e3,k3,z0,z1⟩:=Aq 3 d2 k2
   obtain ⟨l,d4,e4,k4,l1,l2⟩:=iz d3 k3
   have:=z1 (by omega)
   rw [e3,Y,e4,Y,if_pos z0,if_pos (by dsimp only; omega)]
   exact ⟨_,_,rfl,setM _ _ (by show l.length<=maxLen; unfold maxLen; omega)⟩
  rw [if_neg (by rw [beq_iff_eq]; exact c5)]
  by_cases c6:y2=6
  ·rw [if_pos (by rw [beq_iff_eq]; exact c6)]
   obtain ⟨z,d3,e3,k3,_⟩:=Di [(0:Int),(1:Int),(2:Int),(20:Int)] (by simp) d2 k2
   rw [e3,Y,if_pos (by omega),if_pos (by omega)]
   exact ⟨_,_,rfl,setM _ _ (hmi _)⟩
  rw [if_neg (by rw [beq_iff_eq]; exact c6)]
  exact ⟨_,_,rfl,hb⟩
 obtain ⟨g,d',e,h⟩:=T
 exact ⟨g,d',lK e,h⟩
theorem f9 (x:List Int) (hx:x.length<=1048576):∃ g,Ow x=some g/\Yj g:=by
 obtain ⟨d,e0,k0⟩:=Xg x (by unfold maxLen; omega)
 obtain ⟨g,d1,n,e1,k1,hg,hn,v,es,hv,hl,he,hr⟩:=jA x d hx k0
 have hops:Ve g.2.2.2:=by rw [hr]; exact AAv es 0 _ _ (fun c hc=>by cases hc) he
 have hc:=hg.clen
 have hb:Yj g:=⟨hg.fit,by unfold maxLen; omega,hops⟩
 have B:∃ g' d',S7 g d1=some (g',d')/\Yj g':=by
  by_cases hl:0<g.2.2.2.length
  ·obtain ⟨y,d2,e2,k2,y0,y1⟩:=Aq (g.2.2.2.length:Int) d1 k1
   obtain ⟨g',d',e3,h3⟩:=AAw (v:=g.1) (fl:=g.2.2.1) (mem:=g.2.1) (cs:=g.2.2.2) hb hg.six y y0 (fun _=>y1 (by omega)) d2 k2
   refine ⟨g',d',du ?_,h3⟩
   unfold Tl
   rw [if_pos (decide_eq_true (by omega)),e2,Y]
   exact e3
  ·obtain ⟨g',d',e3,h3⟩:=AAw (v:=g.1) (fl:=g.2.2.1) (mem:=g.2.1) (cs:=g.2.2.2) hb hg.six 0 (by omega) (fun h=>absurd h hl) d1 k1
   refine ⟨g',d',du ?_,h3⟩
   unfold Tl
   rw [if_neg (by simpa using hl)]
   exact e3
 obtain ⟨g',d',e3,h3⟩:=B
 have e4:QW x d=some (g',d'):=qX (by
  unfold aX
  rw [e1,Y,e3,Y])
 refine ⟨g',nP ?_,h3⟩
 unfold W3
 rw [e0,Y,e4,Y]
theorem wH (x) (hx:Kd.ok (.slice (.int .u8)) x):Wo x=some true:=nK (by
 unfold Wp
 rw [wE,Y]
 by_cases hbig:x.length<=1048576
 case neg=>rw [if_pos (by simp; omega)]
 rw [if_neg (by simp; omega)]
 obtain ⟨b,e0,hb⟩:=f9 x hbig
 obtain ⟨s1,s2⟩:=AAM hb
 have same:∀ q:Bool,¬ (true != OI .bool q q)=true:=fun q=>by cases q<;>simp [OI]
 rw [e0,Y,s1,Y,s2,Y,if_neg (same _),HI _ hb.fit.n1 hb.fit.n2,Y,J9 _ hb.fit.n1 hb.fit.n2,Y,if_neg (same _),
  Ke _ hb.fit,Y,PW _ hb.fit,Y,if_neg (same _),PU _ hb.len,Y,PT _ hb.len,Y,if_neg (same _),
  Q9 _ hb.len,Y,Q8 _ hb.len,Y,if_neg (same _),Xw _ hb.len hb.ops,Y,Xv _ hb.len,Y,if_neg (same _)]
 refine fQ ?_
 unfold Rb
 obtain ⟨v,es,e,hv,hl,he⟩:=jE x hbig
 rw [e,Y]
 dsimp only
 rw [mP hv (by omega) he,Y]
 obtain ⟨r1,r2,r3⟩:=mG es 0 (Ah v) [] (PR hv) (by omega) he
 have h3:=V3.run es 0 (Ah v) [] (PR hv) (V3.new hv) (by omega) he
 have hp:=E4.run es 0 (Ah v) [] (PR hv) (V3.new hv) (E4.new hv) (by omega) he
 generalize (Je 0 es (Ah v) []).1=g at *
 have hfit:=r1.fit
 rw [if_pos (by rfl),HI _ hfit.n1 hfit.n2,mW r1 h3,Y,if_pos rfl,Ke _ hfit,pG r1 hp,Y,if_pos rfl,(ACi r1 (by omega) h3 hp).1,Y])

theorem ACk {P:Program} {c:List Char} {rest:List (List Char)} (h:behindMainWord (wordsSigns P.initOrder.toList)=c::rest) (h1:(c == "gc".toList||c == "spec".toList)=false) (h2:(c == "cut".toList||(c == "finals".toList&&rest.head? == some "cut".toList))=true):P.make=some .cut:=by
 unfold Program.make
 rw [h]
 simp only [h1,h2]
 rfl
theorem ACl {P:Program} {c:List Char} {rest:List (List Char)} (h:behindMainWord (wordsSigns P.initOrder.toList)=c::rest) (h1:((stripLifts liftWords (c::rest)).2.head? == some "cut".toList)=true) (h2:(stripLifts liftWords (c::rest)).1=[])
  (h3:P.laysLater=false) (h4:P.bearsReflect=false) (h5:P.doorFits []=true):P.mayEnter=true:=by
 unfold Program.mayEnter
 rw [h]
 simp only [h1,h2,h3,h4,h5]
 simp
theorem ACm {P:Program} {c:List Char} {rest:List (List Char)} (h:behindMainWord (wordsSigns P.initOrder.toList)=c::rest) (h1:(c == "carried".toList)=false) (h2:(stripLifts liftWords (c::rest)).1=[]):P.liftsFinal=false:=by
 have e:(some c==some "carried".toList)=false:=h1
 unfold Program.liftsFinal Program.headLifts
 rw [h]
 simp only [List.head?_cons,e,h2]
 simp
theorem MU {a b:Bool} (h:a=true) (g:b=true):(a&&b)=true:=by rw [h,g]; rfl
theorem ACn {α:Type} [BEq α] [LawfulBEq α] {a b:α} (h:a=b):(a==b)=true:=by rw [h]; exact beq_self_eq_true b
end Go.Proofs.YtokiohnjegbnpaaGreat.Core

namespace Go.Proofs.YtokiohnjegbnpaaGreat.Core
open Go
set_option maxRecDepth 100000
def ioL:List Nat:=[104,97,114,110,101,115,115,32,98,98,51,100,57,98,49,97,49,56,51,53,54,102,49,99,51,99,54,98,98,50,49,49,55,50,51,56,50,55,50,49,99,101,56,52,49,52,101,99,102,54,52,100,50,98,98,99,49,98,54,51,57,56,97,56,102,48,98,52,52,100,57,57,32,99,117,116,32,97,116,32,108,111,111,112,46,101,120,97,109,112,108,101,47,103,48,48,49,56,48,47,108,97,119,115,46,70,110,79,110,101,83,101,114,118,101,115,32,108,111,111,112,46,101,120,97,109,112,108,101,47,103,48,48,49,56,48,47,108,97,119,115,46,70,110,73,110,84,105,109,101,32,108,111,111,112,46,101,120,97,109,112,108,101,47,103,48,48,49,56,48,47,108,97,119,115,46,70,110,82,101,97,100,115,32,108,111,111,112,46,101,120,97,109,112,108,101,47,103,48,48,49,56,48,47,108,97,119,115,46,70,110,84,111,112,32,108,111,111,112,46,101,120,97,109,112,108,101,47,103,48,48,49,56,48,47,108,97,119,115,46,70,110,87,97,116,99,104,101,115,32,108,111,111,112,46,101,120,97,109,112,108,101,47,103,48,48,49,56,48,47,108,97,119,115,46,70,110,81,117,105,101,116,71,114,111,117,112]
def ioC:List Nat:=[99,117,116]
def ioW:List (List Nat):=[[97,116],[108,111,111,112,46,101,120,97,109,112,108,101,47,103,48,48,49,56,48,47,108,97,119,115,46,70,110,79,110,101,83,101,114,118,101,115],[108,111,111,112,46,101,120,97,109,112,108,101,47,103,48,48,49,56,48,47,108,97,119,115,46,70,110,73,110,84,105,109,101],[108,111,111,112,46,101,120,97,109,112,108,101,47,103,48,48,49,56,48,47,108,97,119,115,46,70,110,82,101,97,100,115],[108,111,111,112,46,101,120,97,109,112,108,101,47,103,48,48,49,56,48,47,108,97,119,115,46,70,110,84,111,112],[108,111,111,112,46,101,120,97,109,112,108,101,47,103,48,48,49,56,48,47,108,97,119,115,46,70,110,87,97,116,99,104,101,115],[108,111,111,112,46,101,120,97,109,112,108,101,47,103,48,48,49,56,48,47,108,97,119,115,46,70,110,81,117,105,101,116,71,114,111,117,112]]
theorem io:Tryz.prog.initOrder.toList=ioL.map Char.ofNat:=(congrArg String.toList (show Tryz.prog.initOrder=String.ofList (ioL.map Char.ofNat) from by kernel_rfl)).trans String.toList_ofList
theorem iow:behindMainWord (wordsSigns Tryz.prog.initOrder.toList)=ioC.map Char.ofNat::ioW.map fun w=>w.map Char.ofNat:=by
 rw [io]
 kernel_rfl
theorem AEv:Tryz.prog.make=some .cut:=ACk iow (by kernel_rfl) (by kernel_rfl)
theorem enters:Tryz.prog.mayEnter=true:=ACl iow (by kernel_rfl) (by kernel_rfl) (by kernel_rfl) (by kernel_rfl) (by kernel_rfl)
theorem ADq:Tryz.prog.liftsFinal=false:=ACm iow (by kernel_rfl) (by kernel_rfl)
theorem zg:laidOutB Tryz.prog=true:=by kernel_rfl
theorem AAN:mapsRowed Tryz.prog=true:=by kernel_rfl
theorem AEU:Tryz.prog.stopsHeard=true:=by kernel_rfl
end Go.Proofs.YtokiohnjegbnpaaGreat.Core
