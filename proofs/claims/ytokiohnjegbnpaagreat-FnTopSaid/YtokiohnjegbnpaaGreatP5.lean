/- Texts of the proof, packed: part 6. -/
import Derived.Test.YtokiohnjegbnpaaGreatP4
import Derived.JoinedOf
import Derived.Test.YtokiohnjegbnpaaGreatRows
import Derived.ProofKit
set_option linter.unusedVariables false
set_option linter.unusedSimpArgs false
namespace Go.Proofs.YtokiohnjegbnpaaGreat.Core
open Go
def EL (g:AQ) (now:Int):Prop:=∃ vr,uM (vw g.1) (g.1.length:Int) (pg g) vr now
theorem EL.later {g:AQ} {n n':Int} (h:EL g n) (hn:n<=n'):EL g n':=by
 obtain ⟨vr,h⟩:=h
 exact ⟨vr,h.later hn⟩
theorem vk {g:AQ} {i:Nat}:∀ x∈(FC g i).2.2.1,x∈g.2.2.1:=fun x hx=>by
 rcases List.mem_append.1 hx with h1 | h1
 ·exact List.mem_of_mem_take h1
 ·exact List.mem_of_mem_drop h1
theorem ADN {g:AQ} {l:List BS}:pg (g.1,g.2.1,l,g.2.2.2)={ pg g with fly:=l.map px }:=rfl
theorem EL.sub {g:AQ} {l:List BS} {now:Int} (h:EL g now) (hl:∀ x∈l,x∈g.2.2.1):EL (g.1,g.2.1,l,g.2.2.2) now:=by
 obtain ⟨vr,h⟩:=h
 refine ⟨vr,?_⟩
 rw [ADN]
 refine h.drop fun x hx=>?_
 obtain ⟨y,hy,rfl⟩:=List.mem_map.1 hx
 exact List.mem_map.2 ⟨y,hl y hy,rfl⟩
theorem EL.member {g:AQ} {n:AC} {told l:List BS} {at_:Int} {i:Int} (h6:g.2.1.length=6) (hi:1<=i/\i<=6) (hn:n.1=i) (h:EL (BL g n told [] at_) at_) (hl:∀ x∈l,x∈g.2.2.1):EL (BL (g.1,g.2.1,l,g.2.2.2) n told [] at_) at_:=by
 have:=EL.sub (l:=l++told) h (fun x hx=>by
  rcases List.mem_append.1 hx with q | q
  ·exact List.mem_append_left _ (hl x q)
  ·exact List.mem_append_right _ q)
 exact this
theorem EL.fin {g:AQ} {m:AC} {at_:Int} {i:Int} {vr:Nat->Int} (h6:g.2.1.length=6) (hi:1<=i/\i<=6) (hn:0<=at_) (hm:m.1=i) (hp:(pg g).mem i=pm m) (h:uM (vw g.1) (g.1.length:Int) (pg g) vr at_)
  (ho:m.2.2.2.2.2.2.2.2.2.1≠0) (hl:m.2.2.2.2.2.2.2.2.2.2.2.2.2=[]) (hown:Nf m.2.2.2.2.2.2.2.1 (1000*m.2.1+m.2.2.2.2.2.2.2.2.1)):EL (BL g (Bv m).2 [] (Bv m).1 at_) at_:=by
 obtain ⟨k,c,q1,q2,q3,q4⟩:=h.fin (i:=i) hn (by rw [hp]; exact ho) (by rw [hp]; exact hl) (by rw [hp]; exact hown)
 refine ⟨vr,?_⟩
 rw [AD2 h6 hi hm hp (by rw [<- hp]; exact q1) q2 q3]
 exact q4
theorem zl {g:AQ} {m:AC} {i:Nat} {at_:Int} (h6:g.2.1.length=6) (hi:i<6) (hm:Au g i=m) (hid:m.1=(i:Int)+1):BL g m [] [] at_=g:=by
 unfold BL
 rw [hid,show ((i:Int)+1-1).toNat=i by omega,List.append_nil,List.foldl_nil]
 have:g.2.1.set i m=g.2.1:=by
  rw [<- hm]
  unfold Au
  rw [AT (show i<g.2.1.length by omega)]
  exact List.set_getElem_self _
 rw [this]
theorem EL.deliver {g:AQ} {k:Nat} {at_:Int} {j:Nat} (hg:IY g k) (h3:V3 g) (h:EL g at_) (ha:0<=at_) (hj:j<g.2.2.1.length):EL (IQ g j at_) at_:=by
 have hmem:g.2.2.1.getD j C1∈g.2.2.1:=by rw [AT hj]; exact List.getElem_mem _
 have hx:=hg.fly _ hmem
 have hx2:=h3.fly _ hmem
 have hto:=hx.to
 unfold IQ
 generalize g.2.2.1.getD j C1=x at *
 obtain ⟨m1,m2⟩:=hg.mem (x.2.2.1-1).toNat (by omega)
 have hv1:=h3.mem (x.2.2.1-1).toNat (by omega)
 have hid:(Au g (x.2.2.1-1).toNat).1=x.2.2.1:=by rw [m2]; omega
 have hp:(pg g).mem (Au g (x.2.2.1-1).toNat).1=pm (Au g (x.2.2.1-1).toNat):=by rw [hid,TB hto]
 have hs:=AA9 (g:=pg g) hg.views m1 hv1 hx2 hx hp (List.mem_map.2 ⟨x,hmem,rfl⟩)
 have hids:(Di (Au g (x.2.2.1-1).toNat) g.1 x).1.1=x.2.2.1:=by rw [(Pg (x:=x) m1 hg.views).id,hid]
 have hvw:=ACE hg.views
 have h6:=hg.six
 have hsub:=vk (g:=g) (i:=j)
 obtain ⟨vr,hall⟩:=h
 generalize hr:Di (Au g (x.2.2.1-1).toNat) g.1 x=r at *
 clear hr
 cases hs with
 | none =>
  refine EL.member (l:=(FC g j).2.2.1) h6 hto hid ?_ hsub
  rw [zl h6 (show (x.2.2.1-1).toNat<6 by omega) rfl m2]
  exact ⟨vr,hall⟩
 | step n T hs =>
  refine EL.member (l:=(FC g j).2.2.1) h6 hto hids ⟨vr,?_⟩ hsub
  rw [qm h6 hto hids]
  rw [hid] at hs
  exact hall.mstep hvw hs
 | done n hs h1 h2 h3' h4 =>
  have hn:n.1=x.2.2.1:=by rw [h1,hid]
  have hstep:EL (BL (FC g j) n [] [] at_) at_:=EL.member (l:=(FC g j).2.2.1) h6 hto hn ⟨vr,by
   rw [qm h6 hto hn]
   rw [hid] at hs
   exact hall.mstep hvw hs⟩ hsub
  obtain ⟨vr2,hall2⟩:=hstep
  have hlead:n.2.2.2.2.1=true/\n.2.2.2.1=true:=by
   have hp2:(pg (BL (FC g j) n [] [] at_)).mem x.2.2.1=pm n:=by rw [nh (g:=FC g j) (show (FC g j).2.1.length=6 from h6) hto hn,if_pos rfl]
   have t:=hall2.a.task x.2.2.1 (by rw [hp2]; exact h2)
   have s:=hall2.a.serv x.2.2.1 t.1
   rw [hp2] at s
   exact ⟨s.2.1,s.1⟩
  have hfin:=EL.fin (g:=BL (FC g j) n [] [] at_) (m:=n) (at_:=at_) (i:=x.2.2.1) (vr:=vr2) (by show (List.set _ _ _).length=6; rw [List.length_set]; exact h6) hto ha hn (by rw [nh (g:=FC g j) (show (FC g j).2.1.length=6 from h6) hto hn,if_pos rfl]) hall2 h2 h3' (by
   rw [h4.1,h4.2.1,h4.2.2.1]
   exact hv1.own (by rw [<- h4.2.2.2.2]; exact hlead.1) (by rw [<- h4.2.2.2.1]; exact hlead.2))
  have e:BL (BL (FC g j) n [] [] at_) (Bv n).2 [] (Bv n).1 at_=BL (FC g j) (Bv n).2 [] (Bv n).1 at_:=by
   unfold BL
   dsimp only
   rw [(uI n).2.2,List.set_set,List.append_nil,List.append_nil,List.foldl_nil]
  rw [<- e]
  exact hfin
theorem EL.adopt {g:AQ} {k:Nat} {at_ node:Int} (hg:IY g k) (h:EL g at_) (hn:1<=node/\node<=6):∀ (n:Nat) (e:Int),EL (JT g at_ (Au g (node-1).toNat) node n e).2 at_
 | 0,_=>h
 | n+1,e=>by
  unfold JT
  split
  ·exact EL.adopt hg h hn n (e+1)
  ·split
   ·rename_i hb
    obtain ⟨m1,m2⟩:=hg.mem (node-1).toNat (by omega)
    have hid:(Au g (node-1).toNat).1=node:=by rw [m2]; omega
    have hids:(FT (Au g (node-1).toNat) g.1 e).1.1=node:=by rw [(W3 (e:=e) m1 hg.views hb).2.1,hid]
    obtain ⟨vr,hall⟩:=h
    refine ⟨vr,?_⟩
    rw [qm hg.six hn hids]
    refine hall.mstep (ACE hg.views) ?_
    have hp:(pg g).mem node=pm (Au g (node-1).toNat):=TB hn
    generalize Au g (node-1).toNat=m at *
    unfold FT at hb ⊢
    split at hb
    ·rename_i hc
     rw [if_pos hc]
     have hw:=hg.views.wok (i:=(e-1).toNat) (by omega)
     split
     ·rename_i h2
      simp only [Bool.and_eq_true,beq_iff_eq] at h2
      have:=Cg.had (V:=vw g.1) (nv:=(g.1.length:Int)) (g:=pg g) (i:=node) e (by rw [hp]; show e=m.2.1+1; omega) (by rw [hp]; exact h2.1.1) (by rw [xq,<- hid]; exact hc.2.2.2) hc.2.1 (Dh (g.1.getD (e-1).toNat []) m.1) (fun k=>by rw [iP hw,hid]; exact Iff.rfl)
       (((B2 (g.1.getD (e-1).toNat []) m.1).map (fun v=>((3:Int),m.1,v,e,(0:Int),m.2.2.2.2.2.2.2.1))).map px) (fun y hy=>by
        obtain ⟨z,hz,rfl⟩:=List.mem_map.1 hy
        obtain ⟨v,_,rfl⟩:=List.mem_map.1 hz
        exact ⟨rfl,rfl,by rw [hp]; rfl,hid⟩)
      rw [hp] at this
      unfold TH
      rw [ADM]
      exact this
     ·have:=Cg.took (V:=vw g.1) (nv:=(g.1.length:Int)) (g:=pg g) (i:=node) e (by rw [hp]; exact hc.2.2.1) (by rw [xq,<- hid]; exact hc.2.2.2) hc.2.1 (((B2 (g.1.getD (e-2).toNat []) m.1).map (fun v=>((1:Int),m.1,v,e,(0:Int),([]:List AN)))).map px) (fun y hy=>by
        obtain ⟨z,hz,rfl⟩:=List.mem_map.1 hy
        obtain ⟨v,_,rfl⟩:=List.mem_map.1 hz
        exact ⟨rfl,rfl,rfl⟩)
      rw [hp] at this
      exact this
    ·cases hb
   ·exact h
theorem EL.fall {g:AQ} {k:Nat} {at_ node:Int} (hg:IY g k) (h:EL g at_) (hn:1<=node/\node<=6):EL (BL g (W4 (Au g (node-1).toNat)) [] [] at_) at_:=by
 obtain ⟨m1,m2⟩:=hg.mem (node-1).toNat (by omega)
 obtain ⟨vr,hall⟩:=h
 refine ⟨vr,?_⟩
 rw [qm hg.six hn (by show (Au g (node-1).toNat).1=node; rw [m2]; omega)]
 have:=Cg.fall (V:=vw g.1) (nv:=(g.1.length:Int)) (g:=pg g) (i:=node)
 rw [TB hn] at this
 exact hall.mstep (ACE hg.views) this
theorem EL.begin {g:AQ} {k:Nat} {at_:Int} {e:EC} (hg:IY g k) (h3:V3 g) (h:EL g at_) (ha:0<=at_) (hn:1<=e.2.1/\e.2.1<=6):EL (KV g at_ e).2 at_:=by
 obtain ⟨vr,hall⟩:=h
 unfold KV
 split
 ·rename_i hb
  obtain ⟨m1,m2⟩:=hg.mem (e.2.1-1).toNat (by omega)
  have hv1:=h3.mem (e.2.1-1).toNat (by omega)
  have hid:(Au g (e.2.1-1).toNat).1=e.2.1:=by rw [m2]; omega
  have hp:(pg g).mem e.2.1=pm (Au g (e.2.1-1).toNat):=TB hn
  have h6:(Hi g at_ e).2.1.length=6:=hg.six
  generalize Au g (e.2.1-1).toNat=m at *
  unfold Dj at hb ⊢
  split at hb
  case isFalse=>cases hb
  rename_i hmay
  rw [if_pos hmay]
  split at hb
  case isTrue=>cases hb
  rename_i hput
  rw [if_neg hput]
  obtain ⟨s1,s2,s3,s4,s5,s6,s7,s8,s9,s10⟩:=eH hmay
  have hok:=tt (key:=e.2.2.2.2.1) (val:=e.2.2.2.2.2) m1 s3 s6 s7
  have hone:=(Cw.1 hok).1 _ (List.mem_singleton.2 rfl)
  have hser:=m1.serves s1
  have hown:=hv1.own hser.2.1 hser.1
  have hcnt:=m1.count
  have hep:=m1.ep
  have hw:=hg.views.wok (i:=(m.2.1-1).toNat) (by omega)
  have hL:∀ k,k∈Dh (g.1.getD (m.2.1-1).toNat []) m.1↔k∈vw g.1 ((pg g).mem e.2.1).ep/\k≠e.2.1:=fun k=>by
   rw [iP hw,hp,hid]; exact Iff.rfl
  have hpp:e.2.2.2.1=1->BJ (An ((pg g).mem e.2.1).items (Gs m e.2.2.2.2.1 e.2.2.2.2.2)) (Gs m e.2.2.2.2.1 e.2.2.2.2.2).1=Gs m e.2.2.2.2.1 e.2.2.2.2.2:=fun ho=>by
   rw [hp]
   show BJ (An m.2.2.2.2.2.2.2.1 _) _=_
   have hvl:Nf m.2.2.2.2.2.2.2.1 ((Gs m e.2.2.2.2.1 e.2.2.2.2.2).2.2-1):=hown.mono (by show _<=1000*m.2.1+(m.2.2.2.2.2.2.2.2.1+1)-1; omega)
   have hr:=uD m1.items hone hvl
   have hpn:=AAU m1.items hone hvl
   rw [hpn]
   by_cases hf:m.2.2.2.2.2.2.2.1.length=12/\JV m.2.2.2.2.2.2.2.1 (Gs m e.2.2.2.2.1 e.2.2.2.2.2).1=false
   ·exfalso
    refine hput ⟨ho,?_⟩
    rw [hf.2,decide_eq_true hf.1] at hr
    exact hr
   ·rw [if_neg hf]
    exact Ok (iG _ (Cw.1 m1.items).2.1) tp
  have hst:∀ (T:List BS),(∀ y∈T.map px,(y.kind=5/\e.2.2.2.1=1/\y.items=[Gs m e.2.2.2.2.1 e.2.2.2.2.2]\/y.kind=7/\e.2.2.2.1=2/\y.items=[])/\y.ep=((pg g).mem e.2.1).ep/\y.num=((pg g).mem e.2.1).cnt+1/\y.frm=e.2.1) ->
    EL (BL (Hi g at_ e) (G0 m (g.1.getD (m.2.1-1).toNat []) e.2.2.2.1 (g.2.2.2.length:Int) e.2.2.2.2.1 e.2.2.2.2.2) T [] at_) at_:=fun T hT=>by
   have:=hall.start (i:=e.2.1) (c:=pc (e.2.2.2.1,e.2.2.2.2.1,e.2.2.2.2.2,at_,-1,0,0,0,ByteArray.empty)) (L:=Dh (g.1.getD (m.2.1-1).toNat []) m.1) (a:=Gs m e.2.2.2.2.1 e.2.2.2.2.2) (T:=T.map px) rfl rfl (by rw [hp]; exact s1) (by rw [hp]; exact s2) s4 (by rw [hp]; exact s3) hL (by rw [hp]; rfl) hpp hok hT
   refine ⟨vrN (pg g) e.2.1 vr,?_⟩
   have e2:pg (BL (Hi g at_ e) (G0 m (g.1.getD (m.2.1-1).toNat []) e.2.2.2.1 (g.2.2.2.length:Int) e.2.2.2.2.1 e.2.2.2.2.2) T [] at_)=Bf (pg g) e.2.1 (pc (e.2.2.2.1,e.2.2.2.2.1,e.2.2.2.2.2,at_,-1,0,0,0,ByteArray.empty)) (Dh (g.1.getD (m.2.1-1).toNat []) m.1) (Gs m e.2.2.2.2.1 e.2.2.2.2.2) (T.map px):=by
    refine PG.same (fun j=>?_) ?_ ?_
    ·rw [nh (g:=Hi g at_ e) h6 hn (show (G0 m _ _ _ _ _).1=e.2.1 from hid)]
     show _=if j=e.2.1 then QV (pg g) e.2.1 _ _ _ else _
     unfold QV
     rw [hp]
     have:(pg g).calls.length=g.2.2.2.length:=List.length_map _
     rw [this]
     rfl
    ·show (g.2.2.1++T).map px=g.2.2.1.map px++T.map px
     rw [List.map_append]
    ·show (g.2.2.2++[_]).map pc=g.2.2.2.map pc++[_]
     rw [List.map_append]; rfl
   rw [e2]
   exact this
  unfold S9
  split
  ·rename_i hoth
   obtain ⟨vr2,hall2⟩:=hst [] (fun y hy=>by cases hy)
   have hfin:=EL.fin (g:=BL (Hi g at_ e) (G0 m (g.1.getD (m.2.1-1).toNat []) e.2.2.2.1 (g.2.2.2.length:Int) e.2.2.2.2.1 e.2.2.2.2.2) [] [] at_) (m:=G0 m (g.1.getD (m.2.1-1).toNat []) e.2.2.2.1 (g.2.2.2.length:Int) e.2.2.2.2.1 e.2.2.2.2.2) (at_:=at_) (i:=e.2.1) (vr:=vr2) (by show (List.set _ _ _).length=6; rw [List.length_set]; exact h6) hn ha hid (by rw [nh (g:=Hi g at_ e) h6 hn (show (G0 m _ _ _ _ _).1=e.2.1 from hid),if_pos rfl]) hall2 (by show e.2.2.2.1≠0; omega) hoth (hown.mono (by show _<=1000*m.2.1+(m.2.2.2.2.2.2.2.2.1+1); omega))
   have e3:∀ (n t:AC) (s:List C9),n.1=t.1->BL (BL (Hi g at_ e) t [] [] at_) n [] s at_=BL (Hi g at_ e) n [] s at_:=fun n t s hnt=>by
    unfold BL
    dsimp only
    rw [hnt,List.set_set,List.append_nil,List.append_nil,List.foldl_nil]
   rw [e3 _ _ _ (uI _).2.2] at hfin
   exact hfin
  ·refine hst _ fun y hy=>?_
   obtain ⟨z,hz,rfl⟩:=List.mem_map.1 hy
   unfold ts at hz
   obtain ⟨v,_,rfl⟩:=List.mem_map.1 hz
   rw [hp]
   refine ⟨?_,rfl,rfl,hid⟩
   rcases s4 with q | q
   ·rw [if_pos q,if_pos q]; exact .inl ⟨rfl,q,rfl⟩
   ·rw [if_neg (by omega),if_neg (by omega)]; exact .inr ⟨rfl,q,rfl⟩
 ·refine ⟨vr,?_⟩
  have:=hall.call (c:=pc (e.2.2.2.1,e.2.2.2.2.1,e.2.2.2.2.2,at_,-1,0,0,0,ByteArray.empty)) rfl rfl
  have e2:pg (Hi g at_ e)={ pg g with calls:=(pg g).calls++[pc (e.2.2.2.1,e.2.2.2.2.1,e.2.2.2.2.2,at_,-1,0,0,0,ByteArray.empty)] }:=by
   refine PG.same (fun j=>rfl) rfl ?_
   show (g.2.2.2++[_]).map pc=g.2.2.2.map pc++[_]
   rw [List.map_append]; rfl
  exact e2▸this
theorem EL.event {g:AQ} {k:Nat} (hg:IY g k) (h3:V3 g) {at_:Int} (h:EL g at_) (ha:0<=at_) {e:EC} (he:Lc e=true):EL (tv g at_ e).2 at_:=by
 have hn:=k_ he
 unfold tv
 split
 ·exact h.begin hg h3 ha (by omega)
 ·split
  ·exact EL.adopt hg h (by omega) _ _
  ·split
   ·exact h.fall hg (by omega)
   ·unfold iM
    split
    ·exact h
    ·rename_i hne
     have hl:0<g.2.2.1.length:=by
      cases hq:g.2.2.1 with
      | nil=>exact absurd hq hne
      | cons a l=>simp
     have hlt:(e.2.2.1 % (g.2.2.1.length:Int)).toNat<g.2.2.1.length:=by
      have h1:=Int.emod_lt_of_pos e.2.2.1 (show (0:Int)<(g.2.2.1.length:Int) by omega)
      have h2:=Int.emod_nonneg e.2.2.1 (show (g.2.2.1.length:Int)≠0 by omega)
      omega
     split
     ·refine EL.sub h fun x hx=>?_
      rcases List.mem_append.1 hx with h1 | h1
      ·exact h1
      ·simp only [List.mem_singleton] at h1
       rw [h1,AT hlt]
       exact List.getElem_mem _
     ·split
      ·exact EL.sub (l:=(FC g _).2.2.1) h vk
      ·exact h.deliver hg h3 ha hlt
theorem EL.new {views:List (List Int)} (hv:S7 views):EL (Ag views) 0:=by
 unfold EL
 have hvl:=hv.len
 have hm:∀ i,(1<=i/\i<=6/\(pg (Ag views)).mem i=pm (Eb i views))\/(pg (Ag views)).mem i=ng:=fun i=>by
  by_cases h:1<=i/\i<=6
  ·left
   refine ⟨h.1,h.2,?_⟩
   rw [TB h]
   have h5:i=1\/i=2\/i=3\/i=4\/i=5\/i=6:=by omega
   rcases h5 with rfl | rfl | rfl | rfl | rfl | rfl<;>rfl
  ·exact .inr (if_neg h)
 have hfirst:=tx hv (e:=1) (by omega) (by omega) rfl
 have key:∀ i,((pg (Ag views)).mem i).ep=1/\((pg (Ag views)).mem i).fell=false/\(((pg (Ag views)).mem i).base=true↔1<=i/\i<=6/\(views.getD 0 []).contains i=true)/\(((pg (Ag views)).mem i).leads=true->Ri views 1=i/\((pg (Ag views)).mem i).base=true)/\((pg (Ag views)).mem i).serves=((pg (Ag views)).mem i).leads/\((pg (Ag views)).mem i).waits=[]/\((pg (Ag views)).mem i).items=[]/\((pg (Ag views)).mem i).cnt=0/\((pg (Ag views)).mem i).op=0:=fun i=>by
  rcases hm i with ⟨h1,h2,h⟩ | h
  ·rw [h]
   refine ⟨rfl,rfl,⟨fun h=>⟨h1,h2,h⟩,fun h=>h.2.2⟩,fun hl=>?_,rfl,rfl,rfl,rfl,rfl⟩
   have:(views.getD 0 []).getD 0 0=i:=by
    have:((views.getD 0 []).getD 0 0==i)=true:=hl
    simpa using this
   refine ⟨this,?_⟩
   have hf:Ri views 1=i:=this
   rw [hf] at hfirst
   exact hfirst
  ·rw [h]
   refine ⟨rfl,rfl,⟨fun h=>(by cases h),fun hh=>?_⟩,fun h=>(by cases h),rfl,rfl,rfl,rfl,rfl⟩
   have:=TB (g:=Ag views) ⟨hh.1,hh.2.1⟩
   exfalso
   rcases hm i with ⟨q1,q2,q⟩ | q
   ·rw [h] at q
    have:ng.base=(pm (Eb i views)).base:=by rw [q]
    have h2:(pm (Eb i views)).base=true:=hh.2.2
    rw [h2] at this
    cases this
   ·have h5:i=1\/i=2\/i=3\/i=4\/i=5\/i=6:=by omega
    have h7:(pm (Eb i views))=ng:=by
     rw [<- q,TB ⟨hh.1,hh.2.1⟩]
     rcases h5 with rfl | rfl | rfl | rfl | rfl | rfl<;>rfl
    have:ng.base=(pm (Eb i views)).base:=by rw [h7]
    have h2:(pm (Eb i views)).base=true:=hh.2.2
    rw [h2] at this
    cases this
 have hfly:(pg (Ag views)).fly=[]:=rfl
 have hcal:(pg (Ag views)).calls=[]:=rfl
 have hview:∀ k∈views.getD 0 [],1<=k/\k<=6:=(hv.wok (i:=0) (by omega)).mem
 have hvw1:vw (Ag views).1 1=views.getD 0 []:=rfl
 have hg1:(Ag views).1=views:=rfl
 generalize pg (Ag views)=g at *
 refine ⟨fun _=>0,⟨?_,?_,?_,?_,?_,?_⟩⟩
 ·refine ⟨fun i=>?_,fun i h=>?_,fun i h=>?_,fun i h=>?_,fun i h=>?_,fun i=>?_,fun i h=>?_⟩<;>obtain ⟨k1,k2,k3,k4,k5,k6,k7,k8,k9⟩:=key i
  ·omega
  ·rw [k1,hg1]; exact ⟨by omega,(k4 h).1⟩
  ·rw [k1,hg1]; exact ⟨by omega,List.contains_iff_mem.1 (k3.1 h).2.2⟩
  ·rw [k5] at h; exact ⟨(k4 h).2,h,k6⟩
  ·exact absurd k9 h
  ·omega
  ·rw [k2] at h; cases h
 ·refine ⟨fun i _ d h1 h2=>?_,fun x hx=>by rw [hfly] at hx; cases hx⟩
  rw [(key i).1] at h2; omega
 ·refine ⟨fun k h=>absurd rfl h,fun k l h=>absurd rfl h,fun _ _=>rfl,fun i h=>absurd (key i).2.2.2.2.2.2.2.2 h,?_,?_,?_,fun i h=>absurd (key i).2.2.2.2.2.2.2.2 h,?_⟩
  ·intro k c h; rw [hcal] at h; cases h
  ·intro k c h; rw [hcal] at h; cases h
  ·intro x h; rw [hfly] at h; cases h
  ·intro k l a b h; rw [hcal] at h; cases h
 ·refine ⟨fun i h1 h2 k hk h3 h4=>?_,fun x hx=>by rw [hfly] at hx; (cases hx),fun k e n h=>absurd rfl h,fun k hk=>?_,fun x hx=>by rw [hfly] at hx; (cases hx)⟩
  ·rw [(key i).1] at hk ⊢
   have:=hview k hk
   exact .inr ⟨(key k).1,.inl ((key k).2.2.1.2 ⟨this.1,this.2,List.contains_iff_mem.2 hk⟩)⟩
  ·rw [(key k).1,(key _).1]
   exact ⟨Int.le_refl _,fun _ h=>((key _).2.2.2.1 h).2⟩
 ·refine ⟨fun i=>by rw [(key i).2.2.2.2.2.2.1]; rfl,fun x hx=>by rw [hfly] at hx; (cases hx),fun i _ _ _ x hx=>by rw [hfly] at hx; (cases hx),fun i _ _ j _ _=>.inl (by rw [(key i).2.2.2.2.2.2.1,(key j).2.2.2.2.2.2.1]),fun i h=>?_,fun x hx=>by rw [hfly] at hx; (cases hx),fun i h=>?_⟩
  ·rw [(key i).2.2.2.2.2.2.2.2] at h; exact absurd h (by decide)
  ·rw [(key i).2.2.2.2.2.2.2.2] at h; exact absurd h (by decide)
 ·refine ⟨?_,?_,fun i h=>absurd (key i).2.2.2.2.2.2.2.2 h,?_,?_,?_,?_,?_,?_⟩
  ·intro k c h; rw [hcal] at h; cases h
  ·intro k c h; rw [hcal] at h; cases h
  ·intro k l a b h; rw [hcal] at h; cases h
  ·intro k c h; rw [hcal] at h; cases h
  ·intro i y hy; rw [(key i).2.2.2.2.2.2.1] at hy; cases hy
  ·intro x h; rw [hfly] at h; cases h
  ·intro i h; rw [(key i).2.2.2.2.2.2.2.2] at h; exact absurd h (by decide)
  ·intro k c h; rw [hcal] at h; cases h
theorem EL.run:∀ (es:List EC) (n:Nat) (g:AQ) (cs:List Int),IY g n->V3 g->EL g (n:Int)->n+es.length<=70->(∀ e∈es,Lc e=true)->EL (JU n es g cs).1 70
 | [],n,g,cs,_,_,h,hn,_=>h.later (by simp only [List.length_nil] at hn; omega)
 | e::es,n,g,cs,hg,h3,h,hn,he=>by
  simp only [List.length_cons] at hn
  obtain ⟨h2,_⟩:=hg.event (at_:=(n:Int)) (he e (by simp))
  exact EL.run es (n+1) _ _ h2 (h3.event hg (by omega) (he e (by simp))) ((h.event hg h3 (by omega) (he e (by simp))).later (by omega)) (by omega) (fun x hx=>he x (by simp [hx]))

def fk:Nat->AQ->AQ
 | 0,g=>g
 | n+1,g=>if 0<g.2.2.1.length then fk n (IQ g 0 70) else g
theorem W8 (g:AQ) (k:Nat) (hg:IY g k) (hk:k<=10000):JI g=some (true,g):=cn (by
 have h6:=hg.six
 have hf:=hg.flen
 unfold PO
 refine Ee (n:=g.2.1.length) (P:=fun i=>Eh g.2.1 (g.2.1.length:Int) (i:Int) g=some (true,g)) (L7 ?_) (fun i hi ih=>L7 (by
  unfold HS
  have hm:=(hg.mem i (by omega)).2
  rw [if_pos (by simpa using hi),if_pos (by omega),if_pos (by omega),AK (by omega),Int.toNat_natCast]
  change (if ((Au g i).1 != _)=true then _ else _)=_
  rw [hm,if_neg (by simp)]
  exact ih)) 0 (by omega)
 unfold HS
 rw [if_neg (by simp)]
 refine WM ?_
 unfold L5
 refine Ee (n:=g.2.2.1.length) (P:=fun i=>Eg g.2.2.1 (g.2.2.1.length:Int) (i:Int) g=some (true,g)) (L6 ?_) (fun i hi ih=>L6 (by
  unfold HR
  have hz:g.2.2.1.getD i ((0:Int),(0:Int),(0:Int),(0:Int),(0:Int),([]:List AN))=g.2.2.1[i]:=AT hi
  have hto:=(hg.fly _ (List.getElem_mem hi)).to
  simp only [show ((i:Int)<(g.2.2.1.length:Int)) from by omega,decide_true,if_true,show (0:Int)<=(i:Int) from by omega,Int.toNat_natCast,hz,AK (show i<9223372036854775807 by omega)]
  rw [Fk,X,decide_eq_true hto.1,decide_eq_true hto.2,if_neg (by simp)]
  exact ih)) 0 (by omega)
 unfold HR
 rw [if_neg (by simp)]
 refine WL ?_
 unfold Lz
 rw [if_pos (by rw [h6]; rfl),En hg.views,X])
theorem IY.deliver {g:AQ} {k:Nat} (hg:IY g k) {j:Nat} (hj:j<g.2.2.1.length) (at_:Int):IY (IQ g j at_) (k+1):=by
 have hmem:g.2.2.1.getD j C1∈g.2.2.1:=by rw [AT hj]; exact List.getElem_mem _
 have hto:=(hg.fly _ hmem).to
 unfold IQ
 generalize g.2.2.1.getD j C1=x at *
 obtain ⟨m1,m2⟩:=hg.mem (x.2.2.1-1).toNat (by omega)
 have hh:=Pg (x:=x) m1 hg.views
 exact (hg.less j).member (i:=(x.2.2.1-1).toNat) (by omega) hh.mok (by rw [hh.id,m2]) (AAM hh.told) hh.tlen
theorem V3.deliver {g:AQ} {k:Nat} (h:V3 g) (hg:IY g k) {j:Nat} (hj:j<g.2.2.1.length) {at_:Int} (ha:0<=at_):V3 (IQ g j at_):=by
 have hmem:g.2.2.1.getD j C1∈g.2.2.1:=by rw [AT hj]; exact List.getElem_mem _
 have hto:=(hg.fly _ hmem).to
 have hx:=h.fly _ hmem
 unfold IQ
 generalize g.2.2.1.getD j C1=x at *
 obtain ⟨m1,m2⟩:=hg.mem (x.2.2.1-1).toNat (by omega)
 exact (h.less j).member (g:=FC g j) hg.six (i:=(x.2.2.1-1).toNat) ha (by omega) (by rw [(Pg (x:=x) m1 hg.views).id,m2]) (AB6 hg.views m1 (h.mem _ (by omega)) hx)
theorem xr {g:AQ} {j:Nat} {at_:Int}:(IQ g j at_).1=g.1/\(IQ g j at_).2.2.2.length=g.2.2.2.length:=by
 unfold IQ BL
 exact ⟨rfl,Xz _ _ _⟩
theorem zB:∀ (n:Nat) (g:AQ) (k:Nat),IY g k->V3 g->EL g 70->IY (fk n g) (k+n)/\V3 (fk n g)/\EL (fk n g) 70/\(fk n g).1=g.1/\(fk n g).2.2.2.length=g.2.2.2.length
 | 0,g,k,hg,h3,hp=>⟨hg,h3,hp,rfl,rfl⟩
 | n+1,g,k,hg,h3,hp=>by
  unfold fk
  split
  ·rename_i hl
   obtain ⟨q1,q2,q3,q4,q5⟩:=zB n _ (k+1) (hg.deliver hl 70) (h3.deliver hg hl (by decide)) (hp.deliver hg h3 (by decide) hl)
   obtain ⟨d1,d2⟩:=xr (g:=g) (j:=0) (at_:=70)
   exact ⟨by rw [show k+(n+1)=k+1+n by omega]; exact q1,q2,q3,q4.trans d1,q5.trans d2⟩
  ·refine ⟨⟨hg.views,hg.six,hg.mem,hg.fly,?_,?_⟩,h3,hp,rfl,rfl⟩
   ·have:=hg.flen; omega
   ·have:=hg.clen; omega
theorem vI (g:AQ) (k:Nat) (hg:IY g k) (hk:k<=100) (h3:V3 g) (n:Nat) (hn:n<=1000):cL g (n:Int)=some (fk n g):=yj (by
 unfold oF
 rw [G9 g k hg (by omega),X,W8 g k hg (by omega),X,if_neg (by simp),show min (n:Int) 1000=(n:Int) by omega]
 have key:∀ (n:Nat) (h:AQ) (j:Nat),n<=1000->j+n<=1100->IY h j->V3 h->M7 (n:Int) g [] [] [] [] h.2.1 h.2.2.1 h.2.2.2 h.1=some (fk n h):=by
  intro n
  induction n with
  | zero =>
   intro h j hn hj hg h3
   refine cN ?_
   unfold Sb
   rw [if_neg (by simp)]
   change ((Cl h).bind _)=_
   rw [G9 h j hg (by omega),X]
   rfl
  | succ n ih =>
   intro h j hn hj hg h3
   refine cN ?_
   unfold Sb fk
   rw [if_pos (decide_eq_true (by omega))]
   by_cases hl:0<h.2.2.1.length
   ·rw [if_pos (by simpa using hl),if_pos hl]
    change ((EX ((0:Nat):Int) 70 h).bind _)=_
    rw [MB 70 0 h j hg (by omega) h3 hl,X,Ac (by omega),show ((n+1:Nat):Int)-1=(n:Int) by omega]
    exact ih _ (j+1) (by omega) (by omega) (hg.deliver hl 70) (h3.deliver hg hl (by decide))
   ·rw [if_neg (by simpa using hl),if_neg hl]
    change ((Cl h).bind _)=_
    rw [G9 h j hg (by omega),X]
 exact key n g k hn (by omega) hg h3)

abbrev lP:Type:=Int×ByteArray×ByteArray×Int×Int×Int×Int×Int×ByteArray
theorem Hc x:EJ x=some (decide (0<=x.2.2.2.2.1)):=ux rfl
def dq (a b:lP):Bool:=decide (0<=a.2.2.2.2.1)&&decide (0<=b.2.2.2.2.1)&&(decide (ED a=ED b)||(decide (a.2.2.2.2.1<b.2.2.2.1)&&decide (ED b<=ED a)))
def fK (a:lP) (i:Nat):Nat->List lP->Bool
 | _,[]=>true
 | j,b::r=>(decide (i=j)||!dq a b)&&fK a i (j+1) r
def qW (x:List lP):Nat->List lP->Bool
 | _,[]=>true
 | i,a::r=>fK a i 0 x&&qW x (i+1) r
theorem ni (x) (h:x.length<=maxLen):Ut x=some (qW x 0 x):=um (by
 have hm:x.length<=9223372036854775807:=h
 unfold fX
 exact Ee (n:=x.length) (P:=fun i=>Jm x (i:Int)=some (qW x i (x.drop i))) (WC (by
  unfold OT
  rw [if_neg (by simp),List.drop_length]
  rfl)) (fun i hi ih=>WC (by
  unfold OT
  simp only [show ((i:Int)<(x.length:Int)) from by omega,decide_true,if_true]
  rw [BF hi]
  have:=Ee (n:=x.length) (P:=fun j=>DL x (i:Int) (j:Int)=some (fK x[i] i j (x.drop j)&&qW x (i+1) (x.drop (i+1)))) (WB (by
   unfold OS
   rw [if_neg (by simp),List.drop_length,AK (show i<9223372036854775807 by omega),ih]
   rfl)) (fun j hj ihj=>WB (by
   have w2:∀ b,decide (0<=x[i].2.2.2.2.1)=true->decide (0<=x[j].2.2.2.2.1)=true->OR x (i:Int) (j:Int) b x[i] x[j]=some (!dq x[i] x[j]&&(fK x[i] i (j+1) (x.drop (j+1))&&qW x (i+1) (x.drop (i+1)))):=fun b g1 g2=>mW (by
    unfold WA dq
    simp only [QR,X,AK (show j<9223372036854775807 by omega),ihj,g1,g2,Bool.true_and]
    by_cases e1:ED x[i]=ED x[j]
    ·simp [e1]
    ·by_cases e2:x[i].2.2.2.2.1<x[j].2.2.2.1<;>by_cases e3:ED x[j]<=ED x[i]<;>simp [e1,e2,e3])
   unfold OS
   simp only [show ((i:Int)<(x.length:Int)) from by omega,show ((j:Int)<(x.length:Int)) from by omega,decide_true,if_true,show (0:Int)<=(i:Int) from by omega,show (0:Int)<=(j:Int) from by omega,Int.toNat_natCast,AT hi,AT hj,AK (show j<9223372036854775807 by omega),ihj]
   rw [BF hj]
   by_cases g1:x[i].2.2.2.2.1<0
   ·have:dq x[i] x[j]=false:=by unfold dq; simp [show ¬ 0<=x[i].2.2.2.2.1 by omega]
    simp [g1,fK,this]
   ·by_cases g2:x[j].2.2.2.2.1<0
    ·have:dq x[i] x[j]=false:=by unfold dq; simp [show ¬ 0<=x[j].2.2.2.2.1 by omega]
     simp [g1,g2,fK,this]
    ·by_cases e:i=j
     ·subst e
      simp [g1,fK]
     ·have:=w2 ((i:Int)==(j:Int)) (by simpa using g1) (by simpa using g2)
      have ne:((i:Int)==(j:Int))=false:=by simp; omega
      rw [ne] at this
      simp [g1,g2,fK,e,ne,this,Bool.and_assoc])) 0 (by omega)
  exact this)) 0 (by omega))
theorem nj (x) (h:x.length<=maxLen):Us x=some (qW x 0 x):=ul (by
 have hm:x.length<=9223372036854775807:=h
 unfold fW
 exact Ee (n:=x.length) (P:=fun i=>Jl x x (x.length:Int) (i:Int)=some (qW x i (x.drop i))) (V8 (by
  unfold OQ
  rw [if_neg (by simp),List.drop_length]
  rfl)) (fun i hi ih=>V8 (by
  unfold OQ
  simp only [show ((i:Int)<(x.length:Int)) from by omega,decide_true,if_true,show (0:Int)<=(i:Int) from by omega,Int.toNat_natCast,AT hi]
  rw [BF hi]
  have:=Ee (n:=x.length) (P:=fun j=>DK x (i:Int) x (x.length:Int) (i:Int) x (x.length:Int) (j:Int) x[i]=some (fK x[i] i j (x.drop j)&&qW x (i+1) (x.drop (i+1)))) (V7 (by
   unfold OP
   rw [if_neg (by simp),List.drop_length,AK (show i<9223372036854775807 by omega),ih]
   rfl)) (fun j hj ihj=>V7 (by
   have w2:∀ b,decide (0<=x[i].2.2.2.2.1)=true->decide (0<=x[j].2.2.2.2.1)=true->OO x (i:Int) x (x.length:Int) (i:Int) x (x.length:Int) (j:Int) b x[i] x[j]=some (!dq x[i] x[j]&&(fK x[i] i (j+1) (x.drop (j+1))&&qW x (i+1) (x.drop (i+1)))):=fun b g1 g2=>mU (by
    unfold V6 dq
    simp only [QS,X,AK (show j<9223372036854775807 by omega),ihj,g1,g2,Bool.true_and]
    by_cases e1:ED x[i]=ED x[j]
    ·simp [e1]
    ·by_cases e2:x[i].2.2.2.2.1<x[j].2.2.2.1<;>by_cases e3:ED x[j]<ED x[i]<;>simp [e1,e2,e3]<;>intro h<;>omega)
   unfold OP
   simp only [show ((j:Int)<(x.length:Int)) from by omega,decide_true,if_true,show (0:Int)<=(j:Int) from by omega,Int.toNat_natCast,AT hj,AK (show j<9223372036854775807 by omega),ihj,Hc,X]
   rw [BF hj]
   by_cases e:i=j
   ·subst e
    simp [fK]
   ·have ne:((i:Int)==(j:Int))=false:=by simp; omega
    by_cases g1:0<=x[i].2.2.2.2.1
    ·by_cases g2:0<=x[j].2.2.2.2.1
     ·have:=w2 false (by simpa using g1) (by simpa using g2)
      simp [g1,g2,fK,e,ne,this,Bool.and_assoc]
     ·have:dq x[i] x[j]=false:=by unfold dq; simp [g2]
      simp [g1,g2,fK,this,ne]
    ·have:dq x[i] x[j]=false:=by unfold dq; simp [g1]
     simp [g1,fK,this,ne])) 0 (by omega)
  exact this)) 0 (by omega))

theorem iQ (x:List Int) (hx:x.length<=1048576):∃ v es,Po x=some (v,es)/\S7 v/\es.length<=69/\∀ e∈es,Lc e=true:=by
 obtain ⟨d,e0,k0⟩:=nX x (by unfold maxLen; omega)
 obtain ⟨v,es,d1,e1,k1,hv,hl,he⟩:=lD x d hx k0
 refine ⟨v,es,o6 ?_,hv,hl,he⟩
 unfold ZO
 rw [e0,X,e1,X]
theorem lQ {g:AQ} {n:Nat} (hg:IY g n) (h3:V3 g) {i:Nat} (hi:i<6) (hs:(Au g i).2.2.2.2.2.1=true):(Au g i).2.1<=(g.1.length:Int)/\Ri g.1 (Au g i).2.1=(i:Int)+1:=by
 obtain ⟨m1,m2⟩:=hg.mem i hi
 obtain ⟨l1,l2⟩:=(h3.mem i hi).lead (m1.serves hs).2.1
 exact ⟨l1,by rw [l2,m2]⟩

theorem ACH (a:Hh):Ph AG a a=true:=by simp [Ph]
theorem bC (x:List Hh) (h:x.length<=68719476736):OI x x=some true:=mS (by
 unfold Vz
 rw [if_neg (by simp)]
 exact Ee (n:=x.length) (P:=fun i=>G6 x x (i:Int)=some true) (Qs (by
  unfold KD
  rw [if_neg (by simp)])) (fun i hi ih=>Qs (by
  unfold KD
  rw [if_pos (by simpa using hi),if_pos (by omega),if_pos (by omega),if_pos (by omega),if_pos (by omega),ACH,if_neg (by simp),AK (by omega)]
  exact ih)) 0 (by omega))
theorem vm (a:Hh) (i:Nat):∀ (y:List Hh) (j:Nat),(∀ k (h:k<y.length),i≠j+k->dq a y[k]=false)->fK a i j y=true
 | [],_,_=>rfl
 | b::y,j,h=>by
  unfold fK
  rw [vm a i y (j+1) (fun k hk hne=>by have:=h (k+1) (by simp; omega) (by omega); simpa using this),Bool.and_true]
  by_cases e:i=j
  ·simp [e]
  ·have:=h 0 (by simp) (by omega)
   rw [show dq a b=false from this]
   simp
theorem vn (x:List Hh):∀ (y:List Hh) (i:Nat),(∀ k (h:k<y.length),∀ j (hj:j<x.length),i+k≠j->dq y[k] x[j]=false)->qW x i y=true
 | [],_,_=>rfl
 | a::y,i,h=>by
  unfold qW
  rw [vn x y (i+1) (fun k hk j hj hne=>by have:=h (k+1) (by simp; omega) j hj (by omega); simpa using this),Bool.and_true]
  exact vm a i x 0 fun k hk hne=>by have:=h 0 (by simp) k hk (by omega); simpa using this
theorem uJ {g:AQ} {n:Nat} {now:Int} {vr:Nat->Int} (hg:IY g n) (ha:uM (vw g.1) (g.1.length:Int) (pg g) vr now):(∀ k l,vr k≠0->vr k=vr l->k=l)/\(∀ k (hk:k<g.2.2.2.length),0<=(g.2.2.2[k]).2.2.2.2.1->vr k=ED g.2.2.2[k]/\vr k≠0/\ED g.2.2.2[k]=1000*(g.2.2.2[k]).2.2.2.2.2.2.1+(g.2.2.2[k]).2.2.2.2.2.2.2.1/\(g.2.2.2[k]).2.2.2.1<=(g.2.2.2[k]).2.2.2.2.1/\1<=(g.2.2.2[k]).2.2.2.2.2.2.1/\(g.2.2.2[k]).2.2.2.2.2.2.1<=9/\1<=(g.2.2.2[k]).2.2.2.2.2.2.2.1/\(g.2.2.2[k]).2.2.2.2.2.2.2.1<=900) /\
  (∀ k l (hk:k<g.2.2.2.length) (hl:l<g.2.2.2.length),0<=(g.2.2.2[k]).2.2.2.2.1->0<=(g.2.2.2[l]).2.2.2.2.1->(g.2.2.2[k]).2.2.2.2.1<(g.2.2.2[l]).2.2.2.1->vr k<vr l):=by
 have hget:∀ k (hk:k<g.2.2.2.length),(pg g).calls[k]? = some (pc g.2.2.2[k]):=fun k hk=>by
  show (g.2.2.2.map pc)[k]? = _
  rw [List.getElem?_map,List.getElem?_eq_getElem hk]; rfl
 have hep:∀ i,((pg g).mem i).ep<=9:=fun i=>by
  by_cases hi:1<=i/\i<=6
  ·rw [TB hi]; exact (hg.mem (i-1).toNat (by omega)).1.ep.2
  ·rw [show (pg g).mem i=ng from if_neg hi]; decide
 refine ⟨ha.t.inj,fun k hk hd=>?_,fun k l hk hl h1 h2 h3=>ha.t.or k l _ _ (hget k hk) (hget l hl) h1 h2 h3⟩
 obtain ⟨d1,d2,d3,d4,d5,d6,d7⟩:=ha.t.dn k _ (hget k hk) hd
 generalize g.2.2.2[k]=c at *
 change vr k=1000*c.2.2.2.2.2.2.1+c.2.2.2.2.2.2.2.1 at d1
 change 1<=c.2.2.2.2.2.2.1 at d2
 change 1<=c.2.2.2.2.2.2.2.1 at d3
 change c.2.2.2.2.2.2.2.1<=900 at d4
 change c.2.2.2.1<=c.2.2.2.2.1 at d7
 obtain ⟨e,n,x1,x2,x3,x4,x5,x6⟩:=ha.t.st k (by omega)
 have:=hep (Cf (vw g.1) e)
 have hee:e=c.2.2.2.2.2.2.1:=by omega
 have hst:ED c=1000*c.2.2.2.2.2.2.1+c.2.2.2.2.2.2.2.1:=by
  unfold ED
  rw [if_pos (by simp only [Bool.and_eq_true,decide_eq_true_eq]; omega),Ac (show -9223372036854775808<=1000*c.2.2.2.2.2.2.1/\1000*c.2.2.2.2.2.2.1<=9223372036854775807 by omega),Ac (by omega)]
 exact ⟨by rw [hst]; exact d1,by omega,hst,d7,d2,by omega,d3,d4⟩
theorem zm {g:AQ} {n:Nat} {now:Int} (hg:IY g n) (h:EL g now):qW g.2.2.2 0 g.2.2.2=true:=by
 obtain ⟨vr,ha⟩:=h
 obtain ⟨inj,dn,od⟩:=uJ hg ha
 refine vn _ _ 0 fun k hk j hj hne=>?_
 rw [Nat.zero_add] at hne
 unfold dq
 by_cases h1:0<=(g.2.2.2[k]).2.2.2.2.1
 ·by_cases h2:0<=(g.2.2.2[j]).2.2.2.2.1
  ·obtain ⟨a1,a2,_⟩:=dn k hk h1
   obtain ⟨b1,b2,_⟩:=dn j hj h2
   have hs:¬ ED g.2.2.2[k]=ED g.2.2.2[j]:=fun e=>hne (inj k j a2 (by rw [a1,b1,e]))
   rw [decide_eq_false hs,Bool.false_or]
   by_cases h3:(g.2.2.2[k]).2.2.2.2.1<(g.2.2.2[j]).2.2.2.1
   ·have:=od k j hk hj h1 h2 h3
    rw [decide_eq_false (show ¬ ED g.2.2.2[j]<=ED g.2.2.2[k] by omega),Bool.and_false,Bool.and_false]
   ·rw [decide_eq_false h3,Bool.false_and,Bool.and_false]
  ·rw [decide_eq_false h2,Bool.and_false,Bool.false_and]
 ·rw [decide_eq_false h1,Bool.false_and,Bool.false_and]

def W9 (g x:lP):Bool:=(x.1==1)&&(x.2.1.toList==g.2.1.toList)&&(x.2.2.1.toList==g.2.2.2.2.2.2.2.2.toList)&&(decide (x.2.2.2.2.1<0)||(x.2.2.2.2.2.1==g.2.2.2.2.2.1))
theorem lR x g:SK x g=some (W9 g x):=tM (by
 unfold dF W9
 simp only [Hc,X]
 by_cases a:x.1=1<;>by_cases b:x.2.1.toList=g.2.1.toList<;>by_cases c:x.2.2.1.toList=g.2.2.2.2.2.2.2.2.toList<;>by_cases d:0<=x.2.2.2.2.1<;>simp [a,b,c,d]<;>omega)
theorem nl g x:Uw g x=some (W9 g x):=uy (by
 unfold fa W9
 by_cases a:x.1=1<;>by_cases b:x.2.1.toList=g.2.1.toList<;>by_cases c:x.2.2.1.toList=g.2.2.2.2.2.2.2.2.toList<;>by_cases d:x.2.2.2.2.1<0<;>simp [a,b,c,d])
theorem qX (x:List lP) (g) (h:x.length<=maxLen):Xe x g=some (x.any (W9 g)):=xW (by
 have hm:x.length<=9223372036854775807:=h
 have:∃ r,BA x g (x.length:Int) ((0:Nat):Int)=some r/\decide (r>=0)=(x.drop 0).any (W9 g) :=
  Ee (n:=x.length) (P:=fun i=>∃ r,BA x g (x.length:Int) (i:Int)=some r/\decide (r>=0)=(x.drop i).any (W9 g))
   ⟨-1,CJ (by
    unfold BW
    rw [if_neg (by simp)]),by simp⟩
   (fun i hi ⟨r,hr,hd⟩=>by
    have e:=lR x[i] g
    cases q:W9 g x[i] with
    | true =>
     refine ⟨i,CJ ?_,by rw [BF hi,List.any_cons,q,Bool.true_or]; simp⟩
     unfold BW
     simp only [show ((i:Int)<(x.length:Int)) from by omega,decide_true,if_true,show (0:Int)<=(i:Int) from by omega,Int.toNat_natCast,AT hi,e,q,X]
    | false =>
     refine ⟨r,CJ ?_,by rw [hd,BF hi,List.any_cons,q,Bool.false_or]⟩
     unfold BW
     simp only [show ((i:Int)<(x.length:Int)) from by omega,decide_true,if_true,show (0:Int)<=(i:Int) from by omega,Int.toNat_natCast,AT hi,e,q,X,AK (show i<9223372036854775807 by omega),hr]
     simp) 0 (by omega)
 obtain ⟨r,hr,hd⟩:=this
 unfold jq
 have e1:CZ x g=some r:=JO (by unfold EZ; exact hr)
 have e2:CI x g=some (decide (r>=0)):=IL (by
  unfold Ds
  rw [e1]
  rfl)
 rw [e2,hd]
 rfl)
def Im (x:List lP) (g:lP):Bool :=
 if g.1=2 then
  if 0<=g.2.2.2.2.1 then
   if g.2.2.2.2.2.1=0 then g.2.2.2.2.2.2.2.2.toList==(⟨#[]⟩:ByteArray).toList
   else x.any (W9 g)&&!decide (g.2.2.2.2.2.1>ED g)
  else true
 else true
theorem qY (x) (h:x.length<=maxLen):XZ x=some (x.all (Im x)):=xN (by
 have hm:x.length<=9223372036854775807:=h
 unfold jX
 have:=Ee (n:=x.length) (P:=fun i=>Er x (i:Int)=some ((x.drop i).all (Im x))) (Zd (by
  unfold P7
  rw [if_neg (by simp)]
  simp)) (fun i hi ih=>Zd (by
  unfold P7
  simp only [show ((i:Int)<(x.length:Int)) from by omega,decide_true,if_true,show (0:Int)<=(i:Int) from by omega,Int.toNat_natCast,AT hi,AK (show i<9223372036854775807 by omega),ih]
  rw [BF hi,List.all_cons]
  generalize hq:(x.drop (i+1)).all (Im x)=q at *
  by_cases a:x[i].1=2
  ·by_cases b:x[i].2.2.2.2.1<0
   ·have:¬ 0<=x[i].2.2.2.2.1:=by omega
    simp [Im,a,b,this]
   ·have b':0<=x[i].2.2.2.2.1:=by omega
    have J3:∀ f,P4 x (i:Int) f x[i]=some ((f&&!decide (x[i].2.2.2.2.2.1>ED x[i]))&&q):=fun f=>pN (by
     unfold Za
     simp only [QR,X,AK (show i<9223372036854775807 by omega),ih]
     cases f<;>by_cases c:x[i].2.2.2.2.2.1>ED x[i]<;>simp [c])
    have L2:∀ f,GL x (i:Int) f ((0:Nat):Int) x[i]=some (((f||(x.drop 0).any (W9 x[i]))&&!decide (x[i].2.2.2.2.2.1>ED x[i]))&&q) :=
     Ee (n:=x.length) (P:=fun j=>∀ f,GL x (i:Int) f (j:Int) x[i]=some (((f||(x.drop j).any (W9 x[i]))&&!decide (x[i].2.2.2.2.2.1>ED x[i]))&&q)) (fun f=>Zc (by
      unfold P6
      rw [if_neg (by simp),J3]
      simp)) (fun j hj ihj f=>Zc (by
      unfold P6
      simp only [show ((j:Int)<(x.length:Int)) from by omega,decide_true,if_true,show (0:Int)<=(j:Int) from by omega,Int.toNat_natCast,AT hj,AK (show j<9223372036854775807 by omega),ihj,nl,X]
      rw [BF hj,List.any_cons]
      cases f<;>simp)) 0 (by omega)
    have J1:∀ d,P5 x (i:Int) d x[i]=some (Im x x[i]&&q):=fun d=>pO (by
     unfold Zb
     have l2:=L2 false
     simp only [Int.ofNat_zero,Int.natCast_zero] at l2
     simp only [AK (show i<9223372036854775807 by omega),ih,l2]
     by_cases c:x[i].2.2.2.2.2.1=0
     ·cases d:x[i].2.2.2.2.2.2.2.2.toList<;>simp [Im,a,b',c,d]
     ·simp [Im,a,b',c])
    simp [a,b,J1]
  ·simp [Im,a])) 0 (by omega)
 simpa using this)
theorem qZ (x) (h:x.length<=maxLen):XY x=some (x.all (Im x)):=xM (by
 have hm:x.length<=9223372036854775807:=h
 unfold jW
 have:=Ee (n:=x.length) (P:=fun i=>Ep x x (x.length:Int) (i:Int)=some ((x.drop i).all (Im x))) (ZY (by
  unfold P3
  rw [if_neg (by simp)]
  simp)) (fun i hi ih=>ZY (by
  unfold P3
  simp only [show ((i:Int)<(x.length:Int)) from by omega,decide_true,if_true,show (0:Int)<=(i:Int) from by omega,Int.toNat_natCast,AT hi,AK (show i<9223372036854775807 by omega),ih,Hc,X]
  rw [BF hi,List.all_cons]
  generalize hq:(x.drop (i+1)).all (Im x)=q at *
  have J1:∀ d,x[i].1=2->0<=x[i].2.2.2.2.1->P2 x x (x.length:Int) (i:Int) d x[i]=some (Im x x[i]&&q):=fun d a b'=>pL (by
   unfold ZX
   simp only [AK (show i<9223372036854775807 by omega),ih,qX x _ h,QS,X]
   by_cases c:x[i].2.2.2.2.2.1=0
   ·cases d:x[i].2.2.2.2.2.2.2.2.toList<;>simp [Im,a,b',c,d]
   ·cases e:x.any (W9 x[i])<;>by_cases d:x[i].2.2.2.2.2.1>ED x[i]<;>simp [Im,a,b',c,d,e])
  by_cases a:x[i].1=2
  ·by_cases b:0<=x[i].2.2.2.2.1
   ·have:=J1 (!decide (0<=x[i].2.2.2.2.1)) a b
    simp [b] at this
    simp [a,b,this]
   ·simp [Im,a,b]
  ·simp [Im,a])) 0 (by omega)
 simpa using this)

def uK (a b:Hh):Bool:=decide (a.1=2)&&decide (0<=a.2.2.2.2.1)&&decide (0<=b.2.2.2.2.1)&&(b.2.1.toList==a.2.1.toList)&&decide (ED b<ED a)&&decide (a.2.2.2.2.2.1<b.2.2.2.2.2.1)
theorem vo {g:AQ} {n:Nat} {now:Int} {vr:Nat->Int} (hg:IY g n) (ha:uM (vw g.1) (g.1.length:Int) (pg g) vr now) :
  (∀ k l (hk:k<g.2.2.2.length) (hl:l<g.2.2.2.length),(g.2.2.2[k]).1=2->0<=(g.2.2.2[k]).2.2.2.2.1->0<=(g.2.2.2[l]).2.2.2.2.1->(g.2.2.2[k]).2.1.toList=(g.2.2.2[l]).2.1.toList->vr l<vr k->(g.2.2.2[l]).2.2.2.2.2.1<=(g.2.2.2[k]).2.2.2.2.2.1) /\
  (∀ k (hk:k<g.2.2.2.length),0<=(g.2.2.2[k]).2.2.2.2.1->(g.2.2.2[k]).2.2.2.2.2.1<=vr k/\((g.2.2.2[k]).1=1->(g.2.2.2[k]).2.2.2.2.2.1=vr k)) /\
  (∀ k (hk:k<g.2.2.2.length),(g.2.2.2[k]).1=2->0<=(g.2.2.2[k]).2.2.2.2.1->((g.2.2.2[k]).2.2.2.2.2.1=0/\(g.2.2.2[k]).2.2.2.2.2.2.2.2=ByteArray.empty)\/∃ l,∃ hl:l<g.2.2.2.length,(g.2.2.2[l]).1=1/\(g.2.2.2[l]).2.1.toList=(g.2.2.2[k]).2.1.toList/\(g.2.2.2[l]).2.2.1=(g.2.2.2[k]).2.2.2.2.2.2.2.2/\vr l=(g.2.2.2[k]).2.2.2.2.2.1/\1<=vr l):=by
 have hget:∀ k (hk:k<g.2.2.2.length),(pg g).calls[k]? = some (pc g.2.2.2[k]):=fun k hk=>by
  show (g.2.2.2.map pc)[k]? = _
  rw [List.getElem?_map,List.getElem?_eq_getElem hk]; rfl
 refine ⟨fun k l hk hl h1 h2 h3 h4 h5=>ha.f.fr k l _ _ (hget k hk) (hget l hl) h2 h3 h1 h4 h5,fun k hk hd=>ha.f.vs k _ (hget k hk) hd,fun k hk h1 hd=>?_⟩
 rcases ha.f.gt k _ (hget k hk) hd h1 with q | ⟨y,⟨l,c,c1,c2,c3,c4,c5,c6⟩,y1,y2,y3⟩
 ·exact .inl q
 ·obtain ⟨hl,e⟩:=ACF c1
  rw [AT hl] at e
  subst e
  refine .inr ⟨l,hl,c2,?_,?_,c5.trans y2.symm,by omega⟩
  ·have h1:(g.2.2.2[l]).2.1=y.1:=c3
   rw [h1]; exact y1
  ·exact c4.trans y3.symm
theorem zn {g:AQ} {n:Nat} {now:Int} (hg:IY g n) (h:EL g now):g.2.2.2.all (Im g.2.2.2)=true:=by
 obtain ⟨vr,ha⟩:=h
 obtain ⟨inj,dn,od⟩:=uJ hg ha
 obtain ⟨fr,vs,gt⟩:=vo hg ha
 rw [List.all_eq_true]
 intro c hc
 obtain ⟨k,hk,rfl⟩:=List.getElem_of_mem hc
 unfold Im
 split
 ·rename_i h1
  split
  ·rename_i hd
   rcases gt k hk h1 hd with ⟨q1,q2⟩ | ⟨l,hl,l1,l2,l3,l4,l5⟩
   ·rw [if_pos q1,q2]
    show (ByteArray.empty.toList==ByteArray.empty.toList)=true
    exact beq_self_eq_true _
   ·rw [if_neg (by omega)]
    obtain ⟨a1,a2,_⟩:=dn k hk hd
    have b1:=(vs k hk hd).1
    rw [Bool.and_eq_true]
    refine ⟨List.any_eq_true.2 ⟨g.2.2.2[l],List.getElem_mem hl,?_⟩,?_⟩
    ·unfold W9
     rw [l1,l2,l3]
     simp only [beq_self_eq_true,Bool.true_and,Bool.or_eq_true,decide_eq_true_eq,beq_iff_eq]
     by_cases hdl:0<=(g.2.2.2[l]).2.2.2.2.1
     ·right
      rw [(vs l hl hdl).2 l1,l4]
     ·left; omega
    ·rw [decide_eq_false (by omega)]; rfl
  ·rfl
 ·rfl
theorem zC {g:AQ} {n:Nat} {now:Int} (hg:IY g n) (h:EL g now):∀ k l (hk:k<g.2.2.2.length) (hl:l<g.2.2.2.length),uK g.2.2.2[k] g.2.2.2[l]=false:=by
 obtain ⟨vr,ha⟩:=h
 obtain ⟨inj,dn,od⟩:=uJ hg ha
 obtain ⟨fr,vs,gt⟩:=vo hg ha
 intro k l hk hl
 cases q:uK g.2.2.2[k] g.2.2.2[l] with
 | false=>rfl
 | true =>
  unfold uK at q
  simp only [Bool.and_eq_true,decide_eq_true_eq,beq_iff_eq] at q
  obtain ⟨⟨⟨⟨⟨q1,q2⟩,q3⟩,q4⟩,q5⟩,q6⟩:=q
  have:=fr k l hk hl q1 q2 q3 q4.symm (by rw [(dn k hk q2).1,(dn l hl q3).1]; exact q5)
  omega
theorem qa (x:List Hh) (h:x.length<=maxLen) (hf:∀ k l (hk:k<x.length) (hl:l<x.length),uK x[k] x[l]=false):Xb x=some true:=xP (by
 have hm:x.length<=9223372036854775807:=h
 unfold jZ
 exact Ee (n:=x.length) (P:=fun i=>Kw x (i:Int)=some true) (Zl (by
  unfold QA
  rw [if_neg (by simp)])) (fun i hi ih=>Zl (by
  unfold QA
  rw [if_pos (by simpa using hi)]
  exact Ee (n:=x.length) (P:=fun j=>C4 x (i:Int) (j:Int)=some true) (Zk (by
   unfold P_
   rw [if_neg (by simp),AK (show i<9223372036854775807 by omega)]
   exact ih)) (fun j hj ihj=>Zk (by
   unfold P_
   have hz:∀ k (hk:k<x.length),x.getD k ((0:Int),ByteArray.empty,ByteArray.empty,(0:Int),(0:Int),(0:Int),(0:Int),(0:Int),ByteArray.empty)=x[k]:=fun k hk=>AT hk
   have he:=hf i j hi hj
   simp only [show ((j:Int)<(x.length:Int)) from by omega,show ((i:Int)<(x.length:Int)) from by omega,decide_true,if_true,show (0:Int)<=(i:Int) from by omega,show (0:Int)<=(j:Int) from by omega,Int.toNat_natCast,hz i hi,hz j hj,AK (show j<9223372036854775807 by omega),QR,X,ihj]
   unfold uK at he
   generalize x[i]=a at *
   generalize x[j]=b at *
   by_cases c1:a.1=2<;>by_cases c2:0<=a.2.2.2.2.1<;>by_cases c3:0<=b.2.2.2.2.1<;>by_cases c4:b.2.1.toList=a.2.1.toList<;>by_cases c5:ED b<ED a<;>by_cases c6:a.2.2.2.2.2.1<b.2.2.2.2.2.1<;>simp [c1,c2,c3,c4,c5,c6] at he ⊢)) 0 (by omega))) 0 (by omega))
theorem qb (x:List Hh) (h:x.length<=maxLen) (hf:∀ k l (hk:k<x.length) (hl:l<x.length),uK x[k] x[l]=false):Xa x=some true:=xO (by
 have hm:x.length<=9223372036854775807:=h
 unfold jY
 exact Ee (n:=x.length) (P:=fun i=>GM x x (x.length:Int) (i:Int)=some true) (Zi (by
  unfold P9
  rw [if_neg (by simp)])) (fun i hi ih=>Zi (by
  unfold P9
  have hz:∀ k (hk:k<x.length),x.getD k ((0:Int),ByteArray.empty,ByteArray.empty,(0:Int),(0:Int),(0:Int),(0:Int),(0:Int),ByteArray.empty)=x[k]:=fun k hk=>AT hk
  simp only [show ((i:Int)<(x.length:Int)) from by omega,decide_true,if_true,show (0:Int)<=(i:Int) from by omega,Int.toNat_natCast,hz i hi,AK (show i<9223372036854775807 by omega),Hc,X,ih]
  by_cases c1:x[i].1=2
  case neg=>rw [if_neg (by simpa using c1)]
  by_cases c2:0<=x[i].2.2.2.2.1
  case neg=>rw [if_pos (by simpa using c1),if_pos (by simp; omega)]
  rw [if_pos (by simpa using c1),if_neg (by simp; omega)]
  exact Ee (n:=x.length) (P:=fun j=>IK x x (x.length:Int) (i:Int) x (x.length:Int) (j:Int) x[i]=some true) (Zh (by
   unfold P8
   rw [if_neg (by simp),AK (show i<9223372036854775807 by omega)]
   exact ih)) (fun j hj ihj=>Zh (by
   have he:=hf i j hi hj
   have w2:∀ b,(b=true->x[i].2.2.2.2.2.1<x[j].2.2.2.2.2.1->False)->Cd x b x (x.length:Int) (i:Int) x (x.length:Int) (j:Int) x[i] x[j]=some true:=fun b hb=>pQ (by
    unfold Zg
    rw [AK (show j<9223372036854775807 by omega),ihj]
    cases b with
    | false=>rfl
    | true=>rw [if_pos rfl,if_neg (by simpa using hb rfl)])
   unfold P8
   simp only [show ((j:Int)<(x.length:Int)) from by omega,decide_true,if_true,show (0:Int)<=(j:Int) from by omega,Int.toNat_natCast,hz j hj,Hc,QS,X]
   unfold uK at he
   have wf:=w2 false (fun h=>by cases h)
   have wt:x[j].2.1.toList=x[i].2.1.toList->0<=x[j].2.2.2.2.1->Cd x (decide (ED x[j]<ED x[i])) x (x.length:Int) (i:Int) x (x.length:Int) (j:Int) x[i] x[j]=some true:=fun c4 c3=>w2 _ (fun h5 h6=>by
    simp [c1,c2,c3,c4,of_decide_eq_true h5,h6] at he)
   generalize x[i]=a at *
   generalize x[j]=b at *
   by_cases d1:b.1=1<;>by_cases d2:b.1=2<;>by_cases c4:b.2.1.toList=a.2.1.toList<;>by_cases c3:0<=b.2.2.2.2.1<;>simp [d1,d2,c3,c4,wf,wt])) 0 (by omega))) 0 (by omega))

theorem AA_ {β:Type} {n:Nat} {L:Nat->Option β} {b:Nat->Bool} {e s:β} (h0:L n=some e) (h:∀ i,i<n->∀ w,L (i+1)=some w->L i=some (if b i=true then w else s)) :
  ∀ i,i<=n->L i=some (if (List.range' i (n-i)).all b=true then e else s):=by
 refine Ee (P:=fun i=>L i=some (if (List.range' i (n-i)).all b=true then e else s)) (by simp [h0]) fun i hi ih=>?_
 rw [h i hi _ ih,show n-i=(n-(i+1))+1 from by omega,List.range'_succ,List.all_cons]
 by_cases hb:b i=true
 ·rw [if_pos hb,hb,Bool.true_and]
 ·have hb':b i=false:=by simpa using hb
  rw [if_neg hb,hb',Bool.false_and]
  rfl
theorem Gy {β:Type} {n:Nat} {L:Nat->Option β} {b:Nat->Bool} {e s:β} (h0:L n=some e) (h:∀ i,i<n->∀ w,L (i+1)=some w->L i=some (if b i=true then w else s)) :
  L 0=some (if (List.range n).all b=true then e else s):=by
 have:=AA_ h0 h 0 (by omega)
 rwa [Nat.sub_zero,<- List.range_eq_range'] at this
theorem qn (b:Bool):(if b=true then true else false)=b:=by cases b<;>rfl
def O0:AN:=(ByteArray.empty,ByteArray.empty,0)
def nn:AC:=((0:Int),(0:Int),false,false,false,false,[],[],(0:Int),(0:Int),(0:Int),(0:Int),(ByteArray.empty,ByteArray.empty,(0:Int)),[])
def IG (a b:List AN):Bool:=(a.length==b.length)&&(List.range a.length).all fun i=>Ph AD (a.getD i O0) (b.getD i O0)
theorem W_ (a b:List AN) (h:a.length<=maxLen):KB a b=some (IG a b):=ed (by
 have hm:a.length<=9223372036854775807:=h
 unfold Q4 IG
 by_cases e:a.length=b.length
 ·rw [if_neg (by simp [e])]
  have:=Gy (n:=a.length) (L:=fun i=>FQ a b (i:Int)) (b:=fun i=>Ph AD (a.getD i O0) (b.getD i O0)) (e:=true) (s:=false) (NE (by
   unfold Hy
   rw [if_neg (by simp)])) (fun i hi w hw=>NE (by
   unfold Hy
   rw [if_pos (by simpa using hi),if_pos (by omega),if_pos (by omega),if_pos (by omega),if_pos (by omega),Int.toNat_natCast,AK (show i<9223372036854775807 by omega),hw]
   show _=some (if Ph AD (a.getD i (ByteArray.empty,ByteArray.empty,(0:Int))) (b.getD i (ByteArray.empty,ByteArray.empty,(0:Int)))=true then w else false)
   generalize Ph AD (a.getD i (ByteArray.empty,ByteArray.empty,(0:Int))) (b.getD i (ByteArray.empty,ByteArray.empty,(0:Int)))=q
   cases q<;>rfl))
  simp only [e,beq_self_eq_true,Bool.true_and]
  rw [show ((0:Int))=((0:Nat):Int) from rfl,this]
  rw [e]
  cases (List.range b.length).all fun i=>Ph AD (a.getD i O0) (b.getD i O0)<;>rfl
 ·rw [if_pos (by simpa using fun q=>e (by omega))]
  simp [e])
theorem JX (a b:List AN) (h:a.length<=maxLen):C_ a b=some (IG a b):=LY (by
 have hm:a.length<=9223372036854775807:=h
 unfold Fy IG
 by_cases e:a.length=b.length
 ·rw [if_neg (by simp [e])]
  have:=Gy (n:=a.length) (L:=fun i=>Bm a b (a.length:Int) (i:Int)) (b:=fun i=>Ph AD (a.getD i O0) (b.getD i O0)) (e:=true) (s:=false) (Ei (by
   unfold Cn
   rw [if_neg (by simp)])) (fun i hi w hw=>Ei (by
   unfold Cn
   rw [if_pos (by simpa using hi),if_pos (by omega),if_pos (by omega),if_pos (by omega),if_pos (by omega),Int.toNat_natCast,AK (show i<9223372036854775807 by omega),hw]
   show _=some (if Ph AD (a.getD i (ByteArray.empty,ByteArray.empty,(0:Int))) (b.getD i (ByteArray.empty,ByteArray.empty,(0:Int)))=true then w else false)
   generalize Ph AD (a.getD i (ByteArray.empty,ByteArray.empty,(0:Int))) (b.getD i (ByteArray.empty,ByteArray.empty,(0:Int)))=q
   cases q<;>rfl))
  simp only [e,beq_self_eq_true,Bool.true_and]
  rw [e] at this
  rw [show ((0:Int))=((0:Nat):Int) from rfl,this]
  cases (List.range b.length).all fun i=>Ph AD (a.getD i O0) (b.getD i O0)<;>rfl
 ·rw [if_pos (by simpa using fun q=>e (by omega))]
  simp [e])
def EM (g:AQ) (e:Int):List Int:=if 1<=e/\e<=(g.1.length:Int) then g.1.getD (e-1).toNat [] else []
theorem N9 (e:Int) (g:AQ) (h:g.1.length<=maxLen):Iu e g=some (EM g e,g):=jr (by
 have hm:g.1.length<=9223372036854775807:=h
 unfold UG EM
 rw [Ar,X]
 by_cases c:1<=e/\e<=(g.1.length:Int)
 ·rw [if_neg (by simp [c.1,c.2]),Ac (by omega),if_pos (by omega),if_pos (by omega),if_pos c]
 ·rw [if_pos (by rw [<- Bool.decide_and,decide_eq_false c]; rfl),if_neg c])
def AJ (g:AQ) (i:Nat):AC:=g.2.1.getD i nn
def Lf (g:AQ) (m:AC):Bool:=!((EM g m.2.1).length==0)&&(EM g m.2.1).getD 0 0==m.1
def X2 (g:AQ):Bool:=(List.range g.2.1.length).all fun i=>!(AJ g i).2.2.2.2.2.1||(Lf g (AJ g i)&&(List.range i).all fun k=>!((AJ g k).2.2.2.2.2.1&&(AJ g k).2.1==(AJ g i).2.1))
theorem dr (g:AQ) (h1:g.1.length<=maxLen) (h2:g.2.1.length<=maxLen):OK g=some (X2 g):=mY (by
 have hm1:g.1.length<=9223372036854775807:=h1
 have hm2:g.2.1.length<=9223372036854775807:=h2
 unfold WE
 have key:=Gy (n:=g.2.1.length) (L:=fun i=>E5 (i:Int) g) (b:=fun i=>!(AJ g i).2.2.2.2.2.1||(Lf g (AJ g i)&&(List.range i).all fun k=>!((AJ g k).2.2.2.2.2.1&&(AJ g k).2.1==(AJ g i).2.1))) (e:=true) (s:=false) (Qz (by
  unfold KI
  rw [if_neg (by simp)])) (fun i hi w hw=>Qz (by
  unfold KI
  have hgd:(g.2.1.getD (i:Int).toNat ((0:Int),(0:Int),false,false,false,false,([]:List Int),([]:List AN),(0:Int),(0:Int),(0:Int),(0:Int),(ByteArray.empty,ByteArray.empty,(0:Int)),([]:List Int)))=AJ g i:=rfl
  rw [if_pos (by simpa using hi),if_pos (by omega),if_pos (by omega)]
  simp only [hgd,At,X,AK (show i<9223372036854775807 by omega),hw]
  have inner:Dl (i:Int) 0 g (AJ g i)=some (if (List.range i).all (fun k=>!((AJ g k).2.2.2.2.2.1&&(AJ g k).2.1==(AJ g i).2.1))=true then w else false):=by
   refine Gy (n:=i) (L:=fun k=>Dl (i:Int) (k:Int) g (AJ g i)) (Qy (by
    unfold KH
    rw [if_neg (by simp),AK (show i<9223372036854775807 by omega)]
    exact hw)) (fun k hk u hu=>Qy (by
    unfold KH
    have hgk:(g.2.1.getD (k:Int).toNat ((0:Int),(0:Int),false,false,false,false,([]:List Int),([]:List AN),(0:Int),(0:Int),(0:Int),(0:Int),(ByteArray.empty,ByteArray.empty,(0:Int)),([]:List Int)))=AJ g k:=rfl
    rw [if_pos (by simpa using hk),if_pos (by omega),if_pos (by omega)]
    simp only [hgk,show (0:Int)<=(k:Int) from by omega,show (k:Int)<(g.2.1.length:Int) from by omega,if_true,AK (show k<9223372036854775807 by omega),hu]
    cases (AJ g k).2.2.2.2.2.1<;>cases ((AJ g k).2.1==(AJ g i).2.1)<;>simp))
  generalize (List.range i).all (fun k=>!((AJ g k).2.2.2.2.2.1&&(AJ g k).2.1==(AJ g i).2.1))=q at inner ⊢
  cases hs:(AJ g i).2.2.2.2.2.1
  ·simp
  ·simp only [Bool.not_true,Bool.false_or,Bool.false_eq_true,if_false]
   unfold Lf EM
   by_cases c:1<=(AJ g i).2.1/\(AJ g i).2.1<=(g.1.length:Int)
   ·rw [if_neg (by simp [c.1,c.2]),Ac (by omega),if_pos (by omega),if_pos (by omega),if_pos c]
    generalize g.1.getD ((AJ g i).2.1-1).toNat []=v
    by_cases c2:v.length=0
    ·rw [if_pos (by simp [c2])]
     simp [c2]
    ·rw [if_neg (by simp only [beq_iff_eq]; omega),if_pos (by omega),if_pos (by omega),if_pos (by omega),if_pos (by omega),Int.toNat_zero]
     have hv:(!v.length==0)=true:=by simp [c2]
     by_cases c3:v.getD 0 0=(AJ g i).1
     ·rw [if_neg (by simpa using c3),inner,hv,c3,beq_self_eq_true,Bool.true_and,Bool.true_and]
     ·rw [if_pos (by simpa using c3)]
      have hv2:(v.getD 0 0==(AJ g i).1)=false:=by simpa using c3
      rw [hv2]
      simp
   ·rw [if_pos (by rw [<- Bool.decide_and,decide_eq_false c]; rfl),if_neg c]
    simp))
 rw [qn] at key
 exact key)
theorem dt (g:AQ) (h1:g.1.length<=maxLen) (h2:g.2.1.length<=maxLen):OJ g=some (X2 g):=mX (by
 have hm1:g.1.length<=9223372036854775807:=h1
 have hm2:g.2.1.length<=9223372036854775807:=h2
 unfold WD
 have key:=Gy (n:=g.2.1.length) (L:=fun i=>E4 g.2.1 (g.2.1.length:Int) (i:Int) g.1 g.2.1 g.2.2.1 g.2.2.2) (b:=fun i=>!(AJ g i).2.2.2.2.2.1||(Lf g (AJ g i)&&(List.range i).all fun k=>!((AJ g k).2.2.2.2.2.1&&(AJ g k).2.1==(AJ g i).2.1))) (e:=true) (s:=false) (Qw (by
  unfold KG
  rw [if_neg (by simp)])) (fun i hi w hw=>Qw (by
  unfold KG
  have hgd:(g.2.1.getD (i:Int).toNat ((0:Int),(0:Int),false,false,false,false,([]:List Int),([]:List AN),(0:Int),(0:Int),(0:Int),(0:Int),(ByteArray.empty,ByteArray.empty,(0:Int)),([]:List Int)))=AJ g i:=rfl
  rw [if_pos (by simpa using hi),if_pos (by omega),if_pos (by omega)]
  simp only [hgd,N9 _ (g.1,g.2.1,g.2.2.1,g.2.2.2) h1,X,AK (show i<9223372036854775807 by omega),hw]
  have inner:∀ b,KE (i:Int) g.2.1 (g.2.1.length:Int) (i:Int) b g (AJ g i)=some (if (List.range i).all (fun k=>!((AJ g k).2.2.2.2.2.1&&(AJ g k).2.1==(AJ g i).2.1))=true then w else false):=fun b=>eV (by
   unfold Qu
   have hl:((g.2.1.take (i:Int).toNat).drop (0:Int).toNat)=g.2.1.take i:=by simp
   have hl2:(g.2.1.take i).length=i:=by rw [List.length_take]; omega
   rw [if_pos (by omega),if_pos (by omega),if_pos (by omega),hl,hl2]
   refine Gy (n:=i) (L:=fun k=>E3 g.2.1 (g.2.1.length:Int) (i:Int) (g.2.1.take i) (i:Int) (k:Int) g (AJ g i)) (Qv (by
    unfold KF
    rw [if_neg (by simp),AK (show i<9223372036854775807 by omega)]
    exact hw)) (fun k hk u hu=>Qv (by
    unfold KF
    have hgk:((g.2.1.take i).getD (k:Int).toNat ((0:Int),(0:Int),false,false,false,false,([]:List Int),([]:List AN),(0:Int),(0:Int),(0:Int),(0:Int),(ByteArray.empty,ByteArray.empty,(0:Int)),([]:List Int)))=AJ g k:=by
     show (g.2.1.take i).getD k nn=g.2.1.getD k nn
     rw [AT (by omega),AT (by omega),List.getElem_take]
    rw [if_pos (by simpa using hk),if_pos (by omega),if_pos (by omega)]
    simp only [hgk,if_true,AK (show k<9223372036854775807 by omega),hu]
    cases (AJ g k).2.2.2.2.2.1<;>cases ((AJ g k).2.1==(AJ g i).2.1)<;>simp)))
  generalize (List.range i).all (fun k=>!((AJ g k).2.2.2.2.2.1&&(AJ g k).2.1==(AJ g i).2.1))=q at inner ⊢
  have hview:EM (g.1,g.2.1,g.2.2.1,g.2.2.2) (AJ g i).2.1=EM g (AJ g i).2.1:=rfl
  rw [hview]
  cases hs:(AJ g i).2.2.2.2.2.1
  ·simp
  ·simp only [Bool.not_true,Bool.false_or,Bool.false_eq_true,if_false]
   unfold Lf
   generalize EM g (AJ g i).2.1=v
   by_cases c2:v.length=0
   ·rw [if_pos (by simp [c2])]
    simp [c2]
   ·rw [if_neg (by simp only [beq_iff_eq]; omega),if_pos (by omega),if_pos (by omega),Int.toNat_zero]
    have hv:(!v.length==0)=true:=by simp [c2]
    by_cases c3:v.getD 0 0=(AJ g i).1
    ·rw [if_neg (by simpa using c3),show ((g.1,g.2.1,g.2.2.1,g.2.2.2):AQ)=g from rfl,inner,hv,c3,beq_self_eq_true,Bool.true_and,Bool.true_and]
    ·rw [if_pos (by simpa using c3)]
     have hv2:(v.getD 0 0==(AJ g i).1)=false:=by simpa using c3
     rw [hv2]
     simp))
 rw [qn] at key
 exact key)
theorem uL (x:AN):Ph AD x x=true:=by simp [Ph]
theorem aS (a:List AN):IG a a=true:=by
 unfold IG
 simp only [beq_self_eq_true,Bool.true_and,List.all_eq_true]
 exact fun i _=>uL _
def K7 (g:AQ) (m x:AC):Bool:=decide (x.1∈EM g m.2.1)&&x.2.2.2.1&&(x.2.1==m.2.1)&&!IG x.2.2.2.2.2.2.2.1 m.2.2.2.2.2.2.2.1
def xt (g:AQ):Bool:=(List.range g.2.1.length).all fun i=>!(AJ g i).2.2.2.2.2.1||!((AJ g i).2.2.2.2.2.2.2.2.2.1==0)||(List.range g.2.1.length).all fun k=>!K7 g (AJ g i) (AJ g k)
structure Fit (g:AQ):Prop where
 n1:g.1.length<=maxLen
 n2:g.2.1.length<=maxLen
 n3:∀ e,(EM g e).length<=maxLen
 n4:∀ k,k<g.2.1.length->(AJ g k).2.2.2.2.2.2.2.1.length<=maxLen
theorem no (g:AQ) (hx:Fit g):Xd g=some (xt g):=xT (by
 have hm1:g.1.length<=9223372036854775807:=hx.n1
 have hm2:g.2.1.length<=9223372036854775807:=hx.n2
 unfold jf
 have key:=Gy (n:=g.2.1.length) (L:=fun i=>Es (i:Int) g) (b:=fun i=>!(AJ g i).2.2.2.2.2.1||!((AJ g i).2.2.2.2.2.2.2.2.2.1==0)||(List.range g.2.1.length).all fun k=>!K7 g (AJ g i) (AJ g k)) (e:=true) (s:=false) (Zt (by
  unfold QF
  rw [if_neg (by simp)])) (fun i hi w hw=>Zt (by
  unfold QF
  have hgd:(g.2.1.getD (i:Int).toNat ((0:Int),(0:Int),false,false,false,false,([]:List Int),([]:List AN),(0:Int),(0:Int),(0:Int),(0:Int),(ByteArray.empty,ByteArray.empty,(0:Int)),([]:List Int)))=AJ g i:=rfl
  rw [if_pos (by simpa using hi),if_pos (by omega),if_pos (by omega)]
  simp only [hgd,At,X,AK (show i<9223372036854775807 by omega),hw]
  generalize hm:AJ g i=m
  cases hs:m.2.2.2.2.2.1
  ·simp
  ·by_cases ho:m.2.2.2.2.2.2.2.2.2.1=0
   ·rw [if_pos (by simp),if_pos (by simp [ho])]
    by_cases c:1<=m.2.1/\m.2.1<=(g.1.length:Int)
    ·rw [if_neg (by simp [c.1,c.2])]
     have inner:Dr (i:Int) 0 g m=some (if (List.range g.2.1.length).all (fun k=>!K7 g m (AJ g k))=true then w else false):=by
      refine Gy (n:=g.2.1.length) (L:=fun k=>Dr (i:Int) (k:Int) g m) (Zs (by
       unfold QE
       rw [if_neg (by simp),AK (show i<9223372036854775807 by omega)]
       exact hw)) (fun k hk u hu=>Zs (by
       unfold QE
       have hgk:(g.2.1.getD (k:Int).toNat ((0:Int),(0:Int),false,false,false,false,([]:List Int),([]:List AN),(0:Int),(0:Int),(0:Int),(0:Int),(ByteArray.empty,ByteArray.empty,(0:Int)),([]:List Int)))=AJ g k:=rfl
       have hok:=hx.n4 k hk
       rw [if_pos (by simpa using hk),if_pos (by omega),if_pos (by omega)]
       have hv:g.1.getD (m.2.1-1).toNat []=EM g m.2.1:=by unfold EM; rw [if_pos c]
       simp only [hgk,AK (show k<9223372036854775807 by omega),hu,Ac (show -9223372036854775808<=m.2.1-1/\m.2.1-1<=9223372036854775807 by omega),hv,show (0:Int)<=m.2.1-1 from by omega,show m.2.1-1<(g.1.length:Int) from by omega,if_true,
        Ce _ _ (hx.n3 _),W_ _ _ hok,X]
       unfold K7
       rw [show List.contains (EM g m.2.1) (AJ g k).1=decide ((AJ g k).1∈EM g m.2.1) from List.contains_eq_mem _ _]
       generalize decide ((AJ g k).1∈EM g m.2.1)=a
       generalize (AJ g k).2.2.2.1=b
       generalize ((AJ g k).2.1==m.2.1)=d
       generalize IG (AJ g k).2.2.2.2.2.2.2.1 m.2.2.2.2.2.2.2.1=e
       cases a<;>cases b<;>cases d<;>cases e<;>simp))
     rw [inner]
     simp [ho]
    ·rw [if_pos (by rw [<- Bool.decide_and,decide_eq_false c]; rfl)]
     have:(List.range g.2.1.length).all (fun k=>!K7 g m (AJ g k))=true:=by
      rw [List.all_eq_true]
      intro k _
      unfold K7 EM
      rw [if_neg c]
      simp
     rw [this]
     simp
   ·rw [if_pos (by simp),if_neg (by simp [ho])]
    simp [ho]))
 rw [qn] at key
 exact key)
theorem np (g:AQ) (hx:Fit g):Xc g=some (xt g):=xS (by
 have hm1:g.1.length<=9223372036854775807:=hx.n1
 have hm2:g.2.1.length<=9223372036854775807:=hx.n2
 unfold je
 have key:=Gy (n:=g.2.1.length) (L:=fun i=>GN g.2.1 (g.2.1.length:Int) (i:Int) g.1 g.2.1 g.2.2.1 g.2.2.2) (b:=fun i=>!(AJ g i).2.2.2.2.2.1||!((AJ g i).2.2.2.2.2.2.2.2.2.1==0)||(List.range g.2.1.length).all fun k=>!K7 g (AJ g i) (AJ g k)) (e:=true) (s:=false) (Zq (by
  unfold QD
  rw [if_neg (by simp)])) (fun i hi w hw=>Zq (by
  unfold QD
  have hgd:(g.2.1.getD (i:Int).toNat ((0:Int),(0:Int),false,false,false,false,([]:List Int),([]:List AN),(0:Int),(0:Int),(0:Int),(0:Int),(ByteArray.empty,ByteArray.empty,(0:Int)),([]:List Int)))=AJ g i:=rfl
  rw [if_pos (by simpa using hi),if_pos (by omega),if_pos (by omega)]
  simp only [hgd,AK (show i<9223372036854775807 by omega),hw]
  generalize hm:AJ g i=m
  cases hs:m.2.2.2.2.2.1
  ·simp
  ·by_cases ho:m.2.2.2.2.2.2.2.2.2.1=0
   ·rw [if_pos (by simp),if_neg (by simp [ho])]
    have inner:∀ b,QB (i:Int) g.2.1 (g.2.1.length:Int) (i:Int) b g.1 g.2.1 g.2.2.1 g.2.2.2 m=some (if (List.range g.2.1.length).all (fun k=>!K7 g m (AJ g k))=true then w else false):=fun b=>pU (by
     unfold Zo
     rw [N9 _ (g.1,g.2.1,g.2.2.1,g.2.2.2) hx.n1,X]
     show C5 (i:Int) (EM g m.2.1) g.2.1 (g.2.1.length:Int) (i:Int) g.2.1 (g.2.1.length:Int) 0 g m=_
     refine Gy (n:=g.2.1.length) (L:=fun k=>C5 (i:Int) (EM g m.2.1) g.2.1 (g.2.1.length:Int) (i:Int) g.2.1 (g.2.1.length:Int) (k:Int) g m) (Zp (by
      unfold QC
      rw [if_neg (by simp),AK (show i<9223372036854775807 by omega)]
      exact hw)) (fun k hk u hu=>Zp (by
      unfold QC
      have hgk:(g.2.1.getD (k:Int).toNat ((0:Int),(0:Int),false,false,false,false,([]:List Int),([]:List AN),(0:Int),(0:Int),(0:Int),(0:Int),(ByteArray.empty,ByteArray.empty,(0:Int)),([]:List Int)))=AJ g k:=rfl
      have hok:=hx.n4 k hk
      rw [if_pos (by simpa using hk),if_pos (by omega),if_pos (by omega)]
      simp only [hgk,AK (show k<9223372036854775807 by omega),hu,Un _ _ (hx.n3 _),List.contains_eq_mem,JX _ _ hok,X]
      by_cases hki:k=i
      ·subst hki
       rw [if_neg (by simp),hm]
       unfold K7
       rw [aS]
       simp
      ·rw [if_pos (by simpa using fun q=>hki (by omega))]
       unfold K7
       generalize decide ((AJ g k).1∈EM g m.2.1)=a
       generalize (AJ g k).2.2.2.1=b
       generalize ((AJ g k).2.1==m.2.1)=d
       generalize IG (AJ g k).2.2.2.2.2.2.2.1 m.2.2.2.2.2.2.2.1=e
       cases a<;>cases b<;>cases d<;>cases e<;>simp)))
    rw [inner]
    simp [ho]
   ·rw [if_pos (by simp),if_pos (by simp [ho])]
    simp [ho]))
 rw [qn] at key
 exact key)
theorem IY.fit {g:AQ} {n:Nat} (hg:IY g n):Fit g:=by
 have hl:=hg.views.len
 have h6:=hg.six
 refine ⟨by unfold maxLen; omega,by unfold maxLen; omega,fun e=>?_,fun k hk=>?_⟩
 ·unfold EM
  split
  ·have:=(hg.views.get (i:=(e-1).toNat) (by omega)).2
   unfold maxLen; omega
  ·unfold maxLen; simp
 ·have:=Jy (hg.mem k (by omega)).1.items
  change (Au g k).2.2.2.2.2.2.2.1.length<=_
  unfold maxLen; omega

theorem xu {g:AQ} {n:Nat} (hg:IY g n) (h3:V3 g):X2 g=true:=by
 have h6:=hg.six
 unfold X2
 rw [List.all_eq_true]
 intro i hi
 have hi:i<6:=by rw [List.mem_range,h6] at hi; exact hi
 change (!(Au g i).2.2.2.2.2.1||(Lf g (Au g i)&&(List.range i).all fun k=>!((Au g k).2.2.2.2.2.1&&(Au g k).2.1==(Au g i).2.1)))=true
 cases hs:(Au g i).2.2.2.2.2.1 with
 | false=>rfl
 | true =>
  obtain ⟨a1,a2⟩:=lQ hg h3 hi hs
  obtain ⟨m1,m2⟩:=hg.mem i hi
  have hep:=m1.ep
  have g1:=hg.views.get (i:=((Au g i).2.1-1).toNat) (by omega)
  rw [Bool.not_true,Bool.false_or,Bool.and_eq_true]
  refine ⟨?_,?_⟩
  ·unfold Lf EM
   rw [if_pos ⟨hep.1,a1⟩]
   have hf:(g.1.getD ((Au g i).2.1-1).toNat []).getD 0 0=(Au g i).1:=by rw [m2]; exact a2
   rw [hf,beq_self_eq_true,Bool.and_true]
   simp only [Bool.not_eq_true',beq_eq_false_iff_ne]
   omega
  ·rw [List.all_eq_true]
   intro k hk
   have hk:k<i:=List.mem_range.1 hk
   cases hsk:(Au g k).2.2.2.2.2.1 with
   | false=>rfl
   | true =>
    have b2:=(lQ hg h3 (show k<6 by omega) hsk).2
    have:((Au g k).2.1==(Au g i).2.1)=false:=by
     rw [beq_eq_false_iff_ne]
     intro q
     rw [q,a2] at b2
     omega
    rw [this]; rfl
theorem zD {g:AQ} {n:Nat} {now:Int} (hg:IY g n) (h:EL g now):xt g=true:=by
 obtain ⟨vr,ha⟩:=h
 have h6:=hg.six
 unfold xt
 rw [List.all_eq_true]
 intro i hi
 have hi:i<6:=by rw [List.mem_range,h6] at hi; exact hi
 change (!(Au g i).2.2.2.2.2.1||!((Au g i).2.2.2.2.2.2.2.2.2.1==0)||(List.range g.2.1.length).all fun k=>!K7 g (Au g i) (Au g k))=true
 have hmi:∀ k:Nat,k<6->(pg g).mem ((k:Int)+1)=pm (Au g k):=fun k hk=>by
  rw [TB (by omega),show ((k:Int)+1-1).toNat=k by omega]
 cases hs:(Au g i).2.2.2.2.2.1 with
 | false=>rfl
 | true =>
  by_cases ho:(Au g i).2.2.2.2.2.2.2.2.2.1=0
  ·rw [ho,Bool.not_true,Bool.false_or,beq_self_eq_true,Bool.not_true,Bool.false_or,List.all_eq_true]
   intro k hk
   have hk:k<6:=by rw [List.mem_range,h6] at hk; exact hk
   have hser:=ha.a.serv ((i:Int)+1) (by rw [hmi i hi]; exact hs)
   unfold K7
   cases hb:(Au g k).2.2.2.1 with
   | false=>simp
   | true =>
    by_cases he:(Au g k).2.1=(Au g i).2.1
    ·have:=ha.e.e2 ((i:Int)+1) hser.2.1 hser.1 ((k:Int)+1) (by rw [hmi k hk]; exact hb) (by rw [hmi k hk,hmi i hi]; exact he)
     rw [hmi k hk,hmi i hi] at this
     rcases this with q | q
     ·have q:(Au g k).2.2.2.2.2.2.2.1=(Au g i).2.2.2.2.2.2.2.1:=q
      rw [q,aS]
      simp
     ·have q1:(Au g i).2.2.2.2.2.2.2.2.2.1=1:=q.1
      omega
    ·have:((Au g k).2.1==(Au g i).2.1)=false:=by rw [beq_eq_false_iff_ne]; exact he
     rw [this]
     simp
  ·have:((Au g i).2.2.2.2.2.2.2.2.2.1==(0:Int))=false:=by rw [beq_eq_false_iff_ne]; exact ho
   rw [this]; rfl
theorem zE {g:AQ} {n:Nat} {now:Int} (hg:IY g n) (hn:n<=100000) (h3:V3 g) (h:EL g now):Ra g=some true/\Rb g=some true:=by
 have hc:=hg.clen
 have hm:g.2.2.2.length<=maxLen:=by unfold maxLen; omega
 have ht:=zm hg h
 have hr:=zn hg h
 have hf:=zC hg h
 have ho:=xu hg h3
 have hal:=zD hg h
 have hfit:=hg.fit
 refine ⟨xQ ?_,xR ?_⟩
 ·unfold jc
  rw [nj _ hm,ht,X,if_pos rfl,qZ _ hm,hr,X,if_pos rfl,qb _ hm hf,X,if_pos rfl,dt _ hfit.n1 hfit.n2,ho,X,if_pos rfl,np _ hfit,hal,X]
 ·unfold jd
  rw [ni _ hm,ht,X,if_pos rfl,qY _ hm,hr,X,if_pos rfl,qa _ hm hf,X,if_pos rfl,dr _ hfit.n1 hfit.n2,ho,X,if_pos rfl,no _ hfit,hal,X]
theorem du (x:List Int) (h:x.length<=maxLen):Pr x x=some true:=pS (by
 have hm:x.length<=9223372036854775807:=h
 unfold Zm
 rw [if_neg (by simp)]
 exact Ee (n:=x.length) (P:=fun i=>Hx x x (i:Int)=some true) (Si (by
  unfold LT
  rw [if_neg (by simp)])) (fun i hi ih=>Si (by
  unfold LT
  rw [if_pos (by simpa using hi),if_pos (by omega),if_pos (by omega),if_pos (by omega),if_pos (by omega),if_neg (by simp),AK (by omega)]
  exact ih)) 0 (by omega))
theorem ABA (x) (hx:Kd.ok (.slice (.int .u8)) x):jJ x=some true:=xK (by
 unfold jL
 rw [vF,X]
 by_cases hbig:x.length<=1048576
 case neg=>rw [if_pos (by simp; omega)]
 rw [if_neg (by simp; omega)]
 obtain ⟨v,es,e,hv,hl,he⟩:=iQ x hbig
 rw [e,X]
 dsimp only
 rw [lL hv (by omega) he,X,lB hv (by omega) he,X]
 obtain ⟨r1,r2,r3⟩:=qj es 0 (Ag v) [] (Rn hv) (by omega) he
 have h3:=V3.run es 0 (Ag v) [] (Rn hv) (V3.new hv) (by omega) he
 have hp:=EL.run es 0 (Ag v) [] (Rn hv) (V3.new hv) (EL.new hv) (by omega) he
 generalize (JU 0 es (Ag v) []).1=g at *
 generalize (JU 0 es (Ag v) []).2=cs at *
 have hc:=r1.clen
 have h6:=r1.six
 simp only [List.length_nil,Nat.zero_add] at r3
 rw [if_pos (by rfl),du cs (by unfold maxLen; omega),X,if_pos (by rfl),bC _ (by omega),X,if_pos (by rfl),if_neg (by rw [h6]; decide)]
 refine o5 ?_
 unfold ZN
 have hR:=vI g _ r1 (by omega) h3 300 (by omega)
 rw [show ((300:Nat):Int)=300 from rfl] at hR
 rw [hR,X]
 obtain ⟨q1,q2,q3,q4,q5⟩:=zB 300 g _ r1 h3 hp
 obtain ⟨s1,s2⟩:=zE r1 (by omega) h3 hp
 obtain ⟨s3,s4⟩:=zE q1 (by omega) q2 q3
 rw [s1,X,if_pos rfl,s2,X,if_pos rfl,s3,X,if_pos rfl,s4,X])

theorem ACI {P:Program} {c:List Char} {rest:List (List Char)} (h:behindMainWord (wordsSigns P.initOrder.toList)=c::rest) (h1:(c == "gc".toList||c == "spec".toList)=false) (h2:(c == "cut".toList||(c == "finals".toList&&rest.head? == some "cut".toList))=true):P.make=some .cut:=by
 unfold Program.make
 rw [h]
 simp only [h1,h2]
 rfl
theorem ACJ {P:Program} {c:List Char} {rest:List (List Char)} (h:behindMainWord (wordsSigns P.initOrder.toList)=c::rest) (h1:((stripLifts liftWords (c::rest)).2.head? == some "cut".toList)=true) (h2:(stripLifts liftWords (c::rest)).1=[])
  (h3:P.laysLater=false) (h4:P.bearsReflect=false) (h5:P.doorFits []=true):P.mayEnter=true:=by
 unfold Program.mayEnter
 rw [h]
 simp only [h1,h2,h3,h4,h5]
 simp
theorem ACK {P:Program} {c:List Char} {rest:List (List Char)} (h:behindMainWord (wordsSigns P.initOrder.toList)=c::rest) (h1:(c == "carried".toList)=false) (h2:(stripLifts liftWords (c::rest)).1=[]):P.liftsFinal=false:=by
 have e:(some c==some "carried".toList)=false:=h1
 unfold Program.liftsFinal Program.headLifts
 rw [h]
 simp only [List.head?_cons,e,h2]
 simp
theorem Lg {a b:Bool} (h:a=true) (g:b=true):(a&&b)=true:=by rw [h,g]; rfl
theorem ACL {α:Type} [BEq α] [LawfulBEq α] {a b:α} (h:a=b):(a==b)=true:=by rw [h]; exact beq_self_eq_true b
end Go.Proofs.YtokiohnjegbnpaaGreat.Core

namespace Go.Proofs.YtokiohnjegbnpaaGreat.Core
open Go
set_option maxRecDepth 100000
def ioL:List Nat:=[104,97,114,110,101,115,115,32,98,98,51,100,57,98,49,97,49,56,51,53,54,102,49,99,51,99,54,98,98,50,49,49,55,50,51,56,50,55,50,49,99,101,56,52,49,52,101,99,102,54,52,100,50,98,98,99,49,98,54,51,57,56,97,56,102,48,98,52,52,100,57,57,32,99,117,116,32,97,116,32,108,111,111,112,46,101,120,97,109,112,108,101,47,103,48,48,49,56,48,47,108,97,119,115,46,70,110,79,110,101,83,101,114,118,101,115,32,108,111,111,112,46,101,120,97,109,112,108,101,47,103,48,48,49,56,48,47,108,97,119,115,46,70,110,73,110,84,105,109,101,32,108,111,111,112,46,101,120,97,109,112,108,101,47,103,48,48,49,56,48,47,108,97,119,115,46,70,110,82,101,97,100,115,32,108,111,111,112,46,101,120,97,109,112,108,101,47,103,48,48,49,56,48,47,108,97,119,115,46,70,110,84,111,112,32,108,111,111,112,46,101,120,97,109,112,108,101,47,103,48,48,49,56,48,47,108,97,119,115,46,70,110,87,97,116,99,104,101,115,32,108,111,111,112,46,101,120,97,109,112,108,101,47,103,48,48,49,56,48,47,108,97,119,115,46,70,110,81,117,105,101,116,71,114,111,117,112]
def ioC:List Nat:=[99,117,116]
def ioW:List (List Nat):=[[97,116],[108,111,111,112,46,101,120,97,109,112,108,101,47,103,48,48,49,56,48,47,108,97,119,115,46,70,110,79,110,101,83,101,114,118,101,115],[108,111,111,112,46,101,120,97,109,112,108,101,47,103,48,48,49,56,48,47,108,97,119,115,46,70,110,73,110,84,105,109,101],[108,111,111,112,46,101,120,97,109,112,108,101,47,103,48,48,49,56,48,47,108,97,119,115,46,70,110,82,101,97,100,115],[108,111,111,112,46,101,120,97,109,112,108,101,47,103,48,48,49,56,48,47,108,97,119,115,46,70,110,84,111,112],[108,111,111,112,46,101,120,97,109,112,108,101,47,103,48,48,49,56,48,47,108,97,119,115,46,70,110,87,97,116,99,104,101,115],[108,111,111,112,46,101,120,97,109,112,108,101,47,103,48,48,49,56,48,47,108,97,119,115,46,70,110,81,117,105,101,116,71,114,111,117,112]]
theorem io:Tryz.prog.initOrder.toList=ioL.map Char.ofNat:=(congrArg String.toList (show Tryz.prog.initOrder=String.ofList (ioL.map Char.ofNat) from by kernel_rfl)).trans String.toList_ofList
theorem iow:behindMainWord (wordsSigns Tryz.prog.initOrder.toList)=ioC.map Char.ofNat::ioW.map fun w=>w.map Char.ofNat:=by
 rw [io]
 kernel_rfl
theorem AER:Tryz.prog.make=some .cut:=ACI iow (by kernel_rfl) (by kernel_rfl)
theorem enters:Tryz.prog.mayEnter=true:=ACJ iow (by kernel_rfl) (by kernel_rfl) (by kernel_rfl) (by kernel_rfl) (by kernel_rfl)
theorem ADO:Tryz.prog.liftsFinal=false:=ACK iow (by kernel_rfl) (by kernel_rfl)
theorem zF:laidOutB Tryz.prog=true:=by kernel_rfl
theorem zo:mapsRowed Tryz.prog=true:=by kernel_rfl
theorem AD3:Tryz.prog.stopsHeard=true:=by kernel_rfl
end Go.Proofs.YtokiohnjegbnpaaGreat.Core
