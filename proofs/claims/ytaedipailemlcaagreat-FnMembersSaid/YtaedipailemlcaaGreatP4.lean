/- Texts of the proof, packed: part 5. -/
import Derived.Test.YtaedipailemlcaaGreatP3
import Derived.JoinedOf
import Derived.Test.YtaedipailemlcaaGreatRows
import Derived.ProofKit
set_option linter.unusedVariables false
set_option linter.unusedSimpArgs false
namespace Go.Proofs.YtaedipailemlcaaGreat.Core
open Go
set_option linter.unusedVariables false
set_option linter.unusedSimpArgs false
abbrev Vx:Type:=Int×ByteArray×ByteArray×Int×Int×Int×Int×Int×ByteArray
abbrev BY:Type:=List (List Int)×List AB×List BL×List Vx
abbrev MQ:Type:=Int×Int×Int×Int×ByteArray×ByteArray
def LJ:Vx:=((0:Int),ByteArray.empty,ByteArray.empty,(0:Int),(0:Int),(0:Int),(0:Int),(0:Int),ByteArray.empty)
def F5:BL:=((0:Int),(0:Int),(0:Int),(0:Int),(0:Int),([]:List AT))
def Cp (g:BY) (i:Nat):AB:=g.2.1.getD i KG
structure Wz (g:BY) (n:Nat):Prop where
 views:Vu g.1
 six:g.2.1.length=6
 mem:∀ i,i<6→IX (Cp g i)∧(Cp g i).1=(i:Int)+1
 fly:∀ x∈g.2.2.1,nF x
 flen:g.2.2.1.length≤8*n
 clen:g.2.2.2.length≤n
def fS (at_:Int) (s:DR) (c:Vx):Vx :=
 (c.1,c.2.1,c.2.2.1,c.2.2.2.1,at_,s.2.2.2.2.2,s.2.1,s.2.2.1,if (c.1==2)=true then s.2.2.2.2.1 else c.2.2.2.2.2.2.2.2)
def Uw (at_:Int) (cs:List Vx) (s:DR):List Vx :=
 if (decide (s.1≥(cs.length:Int))||decide ((cs.getD s.1.toNat LJ).2.2.2.2.1≥0))=true then cs else cs.set s.1.toNat (fS at_ s (cs.getD s.1.toNat LJ))
def IA (g:BY) (n:AB) (told:List BL) (said:List DR) (at_:Int):BY :=
 (g.1,g.2.1.set (n.1-1).toNat n,g.2.2.1++told,said.foldl (Uw at_) g.2.2.2)
theorem lg (at_:Int) (cs:List Vx) (s:DR):(Uw at_ cs s).length=cs.length:=by unfold Uw; split<;>simp
theorem Wr (at_:Int):∀ (said:List DR) (cs:List Vx),(said.foldl (Uw at_) cs).length=cs.length
 | [],cs=>rfl
 | s::l,cs=>by rw [List.foldl_cons,Wr at_ l,lg]
theorem ki {α:Type} {l:List α} {i:Nat} {a d:α} (h:i<l.length):(l.set i a).getD i d=a:=by simp [List.getD,h]
theorem FD (n:AB) (told:List BL) (said:List DR) (at_:Int) (g:BY) (hn:1≤n.1∧n.1≤6) (h6:g.2.1.length=6) (hf:g.2.2.1.length+told.length≤68719476736) (hc:g.2.2.2.length≤68719476736) (hs:fM said) :
  D8 n told said at_ g=some (IA g n told said at_):=aA (by
 have hsl:=hs.1
 unfold Q_
 rw [AZ (show -9223372036854775808≤n.1-1∧n.1-1≤9223372036854775807 by omega)]
 simp only [List.nil_append,List.length_nil,Nat.zero_add]
 rw [if_pos (by omega),if_pos (by omega),if_pos (by omega),if_pos (by omega),if_pos (by omega)]
 have key:=Gy (n:=said.length) (P:=fun i=>∀ (cs:List Vx),cs.length≤68719476736→B7 said at_ (i:Int) (g.1,g.2.1.set (n.1-1).toNat n,g.2.2.1++told,cs) n (g.2.1.set (n.1-1).toNat n) (g.2.2.1++told)=some (g.1,g.2.1.set (n.1-1).toNat n,g.2.2.1++told,(said.drop i).foldl (Uw at_) cs)) (fun cs hcs=>Mu (by
  unfold HY
  rw [if_neg (by simp)]
  simp)) (fun i hi ih cs hcs=>Mu (by
  unfold HY
  have hz:said.getD i ((0:Int),(0:Int),(0:Int),ByteArray.empty,ByteArray.empty,(0:Int))=said[i]:=Ad hi
  have h0:=(hs.2 said[i] (List.getElem_mem hi)).1
  simp only [show ((i:Int)<(said.length:Int)) from by omega,decide_true,if_true,show (0:Int)≤(i:Int) from by omega,Int.toNat_natCast,hz,AR (show i<9223372036854775807 by omega)]
  have hz3:cs.getD said[i].1.toNat ((0:Int),ByteArray.empty,ByteArray.empty,(0:Int),(0:Int),(0:Int),(0:Int),(0:Int),ByteArray.empty)=cs.getD said[i].1.toNat LJ:=rfl
  rw [Bp hi,List.foldl_cons,hz3]
  by_cases c1:said[i].1≥(cs.length:Int)
  ·rw [if_pos (by simpa using c1),ih cs hcs]
   have:Uw at_ cs said[i]=cs:=by unfold Uw; rw [if_pos (by simp [c1])]
   rw [this]
  ·rw [if_neg (by simpa using c1),if_pos (by omega),if_pos (by omega)]
   by_cases c2:(cs.getD said[i].1.toNat LJ).2.2.2.2.1≥0
   ·rw [if_pos (show decide ((cs.getD said[i].1.toNat LJ).2.2.2.2.1≥0)=true from decide_eq_true c2),ih cs hcs]
    have:Uw at_ cs said[i]=cs:=by unfold Uw; rw [if_pos (by rw [decide_eq_true c2,Bool.or_true])]
    rw [this]
   ·rw [if_neg (show ¬ decide ((cs.getD said[i].1.toNat LJ).2.2.2.2.1≥0)=true from fun h=>c2 (of_decide_eq_true h))]
    have hcl:said[i].1.toNat<cs.length:=by omega
    have e:Uw at_ cs said[i]=cs.set said[i].1.toNat (fS at_ said[i] (cs.getD said[i].1.toNat LJ)):=by unfold Uw; rw [if_neg (by rw [decide_eq_false c1,decide_eq_false c2]; simp)]
    rw [e]
    refine VV ?_
    unfold Mt
    have hz2:∀ (l:List Vx),l.getD said[i].1.toNat ((0:Int),ByteArray.empty,ByteArray.empty,(0:Int),(0:Int),(0:Int),(0:Int),(0:Int),ByteArray.empty)=l.getD said[i].1.toNat LJ:=fun l=>rfl
    simp only [List.nil_append,List.length_nil,Nat.zero_add,hz2,ki hcl,List.set_set,List.length_set]
    have hk:∀ r,(if cs.length≤68719476736 then r else (none:Option BY))=r:=fun r=>if_pos hcs
    rw [if_pos (show cs.length≤68719476736 from hcs),if_pos (show (0:Int)≤said[i].1 from h0),if_pos (show said[i].1<(cs.length:Int) by omega),AR (show i<9223372036854775807 by omega)]
    unfold fS
    by_cases c3:(cs.getD said[i].1.toNat LJ).1=2
    ·rw [if_pos (show ((cs.getD said[i].1.toNat LJ).1==2)=true by simpa using c3),if_pos (show ((cs.getD said[i].1.toNat LJ).1==2)=true by simpa using c3)]
     exact ih _ (by simpa using hcs)
    ·rw [if_neg (show ¬ ((cs.getD said[i].1.toNat LJ).1==2)=true by simpa using c3),if_neg (show ¬ ((cs.getD said[i].1.toNat LJ).1==2)=true by simpa using c3)]
     exact ih _ (by simpa using hcs))) 0 (by omega) g.2.2.2 hc
 exact key)
theorem m8 {g:BY} {n:AB} {told:List BL} {said:List DR} {at_:Int} {i j:Nat} (h6:g.2.1.length=6) (hj:j<6) (hn:n.1=(i:Int)+1) (hi:i<6):Cp (IA g n told said at_) j=if j=i then n else Cp g j:=by
 unfold Cp IA
 simp only [hn,show ((i:Int)+1-1).toNat=i from by omega]
 by_cases e:j=i
 ·subst e
  rw [if_pos rfl]
  exact ki (by omega)
 ·rw [if_neg e]
  simp [List.getD,List.getElem?_set,Ne.symm e]
theorem Wz.member {g:BY} {k:Nat} (h:Wz g k) {n:AB} {told:List BL} {said:List DR} {at_:Int} {i:Nat} (hi:i<6) (hn:IX n) (hid:n.1=(i:Int)+1) (ht:∀ y∈told,nF y) (hl:told.length≤4):Wz (IA g n told said at_) (k+1):=by
 refine ⟨h.views,by simp [IA,h.six],fun j hj=>?_,fun x hx=>?_,?_,?_⟩
 ·rw [m8 h.six hj hid hi]
  split
  ·rename_i e
   subst e
   exact ⟨hn,hid⟩
  ·exact h.mem j hj
 ·rcases List.mem_append.1 hx with h1 | h1
  ·exact h.fly x h1
  ·exact ht x h1
 ·have:=h.flen
  simp only [IA,List.length_append]
  omega
 ·have:=h.clen
  simp only [IA,Wr]
  omega
def Yi (g:BY) (at_:Int) (e:MQ):BY:=(g.1,g.2.1,g.2.2.1,g.2.2.2++[(e.2.2.2.1,e.2.2.2.2.1,e.2.2.2.2.2,at_,-1,0,0,0,ByteArray.empty)])
def Ws (g:BY) (at_:Int) (e:MQ):Int×BY :=
 if (GJ (Cp g (e.2.1-1).toNat) g.1 e.2.2.2.1 (g.2.2.2.length:Int) e.2.2.2.2.1 e.2.2.2.2.2).2.2.2=true then
  (0,IA (Yi g at_ e) (GJ (Cp g (e.2.1-1).toNat) g.1 e.2.2.2.1 (g.2.2.2.length:Int) e.2.2.2.2.1 e.2.2.2.2.2).1 (GJ (Cp g (e.2.1-1).toNat) g.1 e.2.2.2.1 (g.2.2.2.length:Int) e.2.2.2.2.1 e.2.2.2.2.2).2.1 (GJ (Cp g (e.2.1-1).toNat) g.1 e.2.2.2.1 (g.2.2.2.length:Int) e.2.2.2.2.1 e.2.2.2.2.2).2.2.1 at_)
 else (1,Yi g at_ e)
theorem oN {e:MQ} (h:Pv e=true):1≤e.1∧e.1≤6∧1≤e.2.1∧e.2.1≤6∧0≤e.2.2.1:=by
 unfold Pv at h
 simp only [Bool.and_eq_true,decide_eq_true_eq] at h
 omega
theorem Wz.told {g:BY} {k:Nat} (h:Wz g k):True:=trivial
theorem m9 {m n:AB} {l:List BL} (h:Wp m n l):∀ y∈l,nF y:=fun y hy=>(h y hy).1
theorem Wt (at_:Int) (e:MQ) (g:BY) (k:Nat) (hg:Wz g k) (hk:k≤1000) (hn:1≤e.2.1∧e.2.1≤6):MC at_ e g=some (Ws g at_ e)∧Wz (Ws g at_ e).2 (k+1)∧(Ws g at_ e).2.1=g.1:=by
 have hc:=hg.clen
 have hf:=hg.flen
 have h6:=hg.six
 have wn:IntKind.i64.wrap (e.2.1-1)=e.2.1-1:=AZ (by omega)
 have wl:IntKind.i64.wrap (((g.2.2.2.length+1:Nat):Int)-1)=(g.2.2.2.length:Int):=by rw [AZ (by omega)]; omega
 obtain ⟨m1,m2⟩:=hg.mem (e.2.1-1).toNat (by omega)
 have hb:=ld (op:=e.2.2.2.1) (call:=(g.2.2.2.length:Int)) (key:=e.2.2.2.2.1) (val:=e.2.2.2.2.2) m1 hg.views
 refine ⟨cJ ?_,?_,?_⟩
 ·unfold S7 Ws
  simp only [List.nil_append,List.length_nil,Nat.zero_add,List.length_append,List.length_cons]
  rw [if_pos (by omega),if_pos (by omega),wn,if_pos (by omega),if_pos (by omega),wl,
   show g.2.1.getD (e.2.1-1).toNat ((0:Int),(0:Int),false,false,false,false,([]:List Int),([]:List AT),(0:Int),(0:Int),(0:Int),(0:Int),(ByteArray.empty,ByteArray.empty,(0:Int)),([]:List Int))=Cp g (e.2.1-1).toNat from rfl,
   cS _ _ _ _ _ _ m1 hg.views,Option.bind_some]
  cases hq:(GJ (Cp g (e.2.1-1).toNat) g.1 e.2.2.2.1 (g.2.2.2.length:Int) e.2.2.2.2.1 e.2.2.2.2.2).2.2.2 with
  | false=>rfl
  | true =>
   have hid:=hb.id hq
   have hmo:=hb.mok hq
   have htl:=hb.tlen
   rw [if_neg (by simp),if_pos rfl]
   have:=FD (GJ (Cp g (e.2.1-1).toNat) g.1 e.2.2.2.1 (g.2.2.2.length:Int) e.2.2.2.2.1 e.2.2.2.2.2).1 (GJ (Cp g (e.2.1-1).toNat) g.1 e.2.2.2.1 (g.2.2.2.length:Int) e.2.2.2.2.1 e.2.2.2.2.2).2.1 (GJ (Cp g (e.2.1-1).toNat) g.1 e.2.2.2.1 (g.2.2.2.length:Int) e.2.2.2.2.1 e.2.2.2.2.2).2.2.1 at_ (Yi g at_ e) hmo.id h6 (by show g.2.2.1.length+_≤_; omega) (by simp only [Yi,List.length_append,List.length_cons,List.length_nil]; omega) hb.said
   unfold Yi at this ⊢
   rw [this]
   rfl
 ·unfold Ws
  have hgc:∀ (P:BY→Prop),P (Yi g at_ e)→P (Yi g at_ e):=fun _ h=>h
  split
  ·rename_i hq
   have hid:=hb.id hq
   have hmo:=hb.mok hq
   have htl:=hb.tlen
   have hm:=hg.member (said:=(GJ (Cp g (e.2.1-1).toNat) g.1 e.2.2.2.1 (g.2.2.2.length:Int) e.2.2.2.2.1 e.2.2.2.2.2).2.2.1) (at_:=at_) (i:=(e.2.1-1).toNat) (by omega) hmo (by rw [hid,m2]) (m9 (hb.told hq)) htl
   exact ⟨hm.views,hm.six,hm.mem,hm.fly,hm.flen,by simp only [IA,Wr,Yi,List.length_append,List.length_cons,List.length_nil]; omega⟩
  ·exact ⟨hg.views,hg.six,hg.mem,hg.fly,by have:=hg.flen; show g.2.2.1.length≤_; omega,by simp only [Yi,List.length_append,List.length_cons,List.length_nil]; omega⟩
 ·unfold Ws; split<;>rfl
end Go.Proofs.YtaedipailemlcaaGreat.Core

namespace Go.Proofs.YtaedipailemlcaaGreat.Core
open Go
set_option linter.unusedVariables false
set_option linter.unusedSimpArgs false
def aL (g:BY) (at_:Int) (m:AB) (node:Int):Nat→Int→Int×BY
 | 0,_=>(1,g)
 | k+1,e=>if ((g.1.getD (e-1).toNat []).getD 0 0 != node)=true then aL g at_ m node k (e+1)
  else if (LI m g.1 e).2.2=true then (0,IA g (LI m g.1 e).1 (LI m g.1 e).2.1 [] at_) else (1,g)
def fT (g:BY) (at_ node:Int):Int×BY:=aL g at_ (Cp g (node-1).toNat) node ((g.1.length:Int)-(Cp g (node-1).toNat).2.1).toNat ((Cp g (node-1).toNat).2.1+1)
theorem Wz.up {g:BY} {k:Nat} (h:Wz g k):Wz g (k+1):=⟨h.views,h.six,h.mem,h.fly,by have:=h.flen; omega,by have:=h.clen; omega⟩
theorem Wu (at_ node:Int) (g:BY) (k:Nat) (hg:Wz g k) (hk:k≤1000) (hn:1≤node∧node≤6):MD at_ node g=some (fT g at_ node)∧Wz (fT g at_ node).2 (k+1)∧(fT g at_ node).2.1=g.1:=by
 have hc:=hg.clen
 have hf:=hg.flen
 have h6:=hg.six
 have hvl:=hg.views.len
 have wn:IntKind.i64.wrap (node-1)=node-1:=AZ (by omega)
 obtain ⟨m1,m2⟩:=hg.mem (node-1).toNat (by omega)
 have hep:=m1.ep
 have wm:IntKind.i64.wrap ((Cp g (node-1).toNat).2.1+1)=(Cp g (node-1).toNat).2.1+1:=AZ (by omega)
 have key:∀ (j:Nat) (e:Int),e=(g.1.length:Int)+1-(j:Int)→2≤e→Ft at_ node e g (Cp g (node-1).toNat)=some (aL g at_ (Cp g (node-1).toNat) node j e)∧Wz (aL g at_ (Cp g (node-1).toNat) node j e).2 (k+1)∧(aL g at_ (Cp g (node-1).toNat) node j e).2.1=g.1:=by
  intro j
  induction j with
  | zero =>
   intro e he h2
   refine ⟨IU ?_,hg.up,rfl⟩
   unfold Fu
   rw [if_neg (by simp; omega)]
   rfl
  | succ j ih =>
   intro e he h2
   have we:IntKind.i64.wrap (e-1)=e-1:=AZ (by omega)
   have we2:IntKind.i64.wrap (e+1)=e+1:=AZ (by omega)
   have gv:=hg.views.get (i:=(e-1).toNat) (by omega)
   have ha:=lf (e:=e) m1 hg.views
   obtain ⟨i1,i2,i3⟩:=ih (e+1) (by omega) (by omega)
   unfold aL
   refine ⟨IU ?_,?_,?_⟩
   ·unfold Fu
    rw [if_pos (by simp; omega),we,we2,if_pos (by omega),if_pos (by omega),if_pos (by omega),if_pos (by omega),show (g.1.getD (e-1).toNat ([]:List Int)).getD (0:Int).toNat 0=(g.1.getD (e-1).toNat []).getD 0 0 from rfl]
    by_cases h3:((g.1.getD (e-1).toNat []).getD 0 0 != node)=true
    ·rw [if_pos h3,if_pos h3,i1]
    ·rw [if_neg h3,if_neg h3,cU _ _ _ m1 hg.views,Option.bind_some]
     cases hq:(LI (Cp g (node-1).toNat) g.1 e).2.2 with
     | false=>rfl
     | true =>
      obtain ⟨a1,a2,a3,a4⟩:=ha hq
      rw [if_neg (by simp),if_pos rfl,FD _ _ _ _ _ a1.id h6 (by omega) (by omega) E1]
      rfl
   ·split
    ·exact i2
    ·split
     ·rename_i hq
      obtain ⟨a1,a2,a3,a4⟩:=ha hq
      exact hg.member (i:=(node-1).toNat) (by omega) a1 (by rw [a2,m2]) (m9 a3) a4
     ·exact hg.up
   ·split
    ·exact i3
    ·split<;>rfl
 have hmain:=key ((g.1.length:Int)-(Cp g (node-1).toNat).2.1).toNat ((Cp g (node-1).toNat).2.1+1)
 by_cases hle:(Cp g (node-1).toNat).2.1≤(g.1.length:Int)
 ·obtain ⟨k1,k2,k3⟩:=hmain (by omega) (by omega)
  refine ⟨S8 ?_,k2,k3⟩
  unfold MO
  rw [wn,if_pos (by omega),if_pos (by omega),show g.2.1.getD (node-1).toNat ((0:Int),(0:Int),false,false,false,false,([]:List Int),([]:List AT),(0:Int),(0:Int),(0:Int),(0:Int),(ByteArray.empty,ByteArray.empty,(0:Int)),([]:List Int))=Cp g (node-1).toNat from rfl,wm]
  exact k1
 ·have e0:((g.1.length:Int)-(Cp g (node-1).toNat).2.1).toNat=0:=by omega
  unfold fT
  rw [e0]
  refine ⟨S8 ?_,hg.up,rfl⟩
  unfold MO
  rw [wn,if_pos (by omega),if_pos (by omega),show g.2.1.getD (node-1).toNat ((0:Int),(0:Int),false,false,false,false,([]:List Int),([]:List AT),(0:Int),(0:Int),(0:Int),(0:Int),(ByteArray.empty,ByteArray.empty,(0:Int)),([]:List Int))=Cp g (node-1).toNat from rfl,wm]
  refine IU ?_
  unfold Fu
  rw [if_neg (fun h=>hle (by have:=of_decide_eq_true h; omega))]
  rfl
def gm (g:BY) (i:Nat):BY:=(g.1,g.2.1,g.2.2.1.take i++g.2.2.1.drop (i+1),g.2.2.2)
def lh (g:BY) (at_:Int) (e:MQ):Int×BY :=
 if g.2.2.1=[] then (1,g)
 else if e.1=4 then (0,(g.1,g.2.1,g.2.2.1++[g.2.2.1.getD (e.2.2.1 % (g.2.2.1.length:Int)).toNat F5],g.2.2.2))
 else if e.1=3 then (0,gm g (e.2.2.1 % (g.2.2.1.length:Int)).toNat)
 else (0,IA (gm g (e.2.2.1 % (g.2.2.1.length:Int)).toNat)
  (C1 (Cp g ((g.2.2.1.getD (e.2.2.1 % (g.2.2.1.length:Int)).toNat F5).2.2.1-1).toNat) g.1 (g.2.2.1.getD (e.2.2.1 % (g.2.2.1.length:Int)).toNat F5)).1
  (C1 (Cp g ((g.2.2.1.getD (e.2.2.1 % (g.2.2.1.length:Int)).toNat F5).2.2.1-1).toNat) g.1 (g.2.2.1.getD (e.2.2.1 % (g.2.2.1.length:Int)).toNat F5)).2.1
  (C1 (Cp g ((g.2.2.1.getD (e.2.2.1 % (g.2.2.1.length:Int)).toNat F5).2.2.1-1).toNat) g.1 (g.2.2.1.getD (e.2.2.1 % (g.2.2.1.length:Int)).toNat F5)).2.2 at_)
theorem Wz.less {g:BY} {k:Nat} (h:Wz g k) (i:Nat):Wz (gm g i) k:=by
 refine ⟨h.views,h.six,h.mem,fun x hx=>?_,?_,h.clen⟩
 ·rcases List.mem_append.1 hx with h1 | h1
  ·exact h.fly x (List.mem_of_mem_take h1)
  ·exact h.fly x (List.mem_of_mem_drop h1)
 ·have:=h.flen
  simp only [gm,List.length_append,List.length_take,List.length_drop]
  omega
theorem aM (at_:Int) (e:MQ) (g:BY) (k:Nat) (hg:Wz g k) (hk:k≤1000) (hn:0≤e.2.2.1):Pm at_ e g=some (lh g at_ e)∧Wz (lh g at_ e).2 (k+1)∧(lh g at_ e).2.1=g.1:=by
 have hc:=hg.clen
 have hf:=hg.flen
 have h6:=hg.six
 have hvl:=hg.views.len
 by_cases h0:g.2.2.1=[]
 ·unfold lh
  rw [if_pos h0]
  refine ⟨Vr ?_,hg.up,rfl⟩
  unfold Pu
  rw [h0,if_pos (by rfl)]
 ·have hl:0<g.2.2.1.length:=List.length_pos_iff.2 h0
  have hm:Int.tmod e.2.2.1 (g.2.2.1.length:Int)=e.2.2.1 % (g.2.2.1.length:Int):=Int.tmod_eq_emod_of_nonneg hn
  have hr0:=Int.emod_nonneg e.2.2.1 (show (g.2.2.1.length:Int)≠0 by omega)
  have hr1:=Int.emod_lt_of_pos e.2.2.1 (show 0<(g.2.2.1.length:Int) by omega)
  generalize hq:e.2.2.1 % (g.2.2.1.length:Int)=q at hm hr0 hr1
  have hx:=hg.fly (g.2.2.1.getD q.toNat F5) (by rw [Ad (show q.toNat<g.2.2.1.length by omega)]; exact List.getElem_mem _)
  have wq:IntKind.i64.wrap (q+1)=q+1:=AZ (by omega)
  have hto:=hx.to
  have wt:IntKind.i64.wrap ((g.2.2.1.getD q.toNat F5).2.2.1-1)=(g.2.2.1.getD q.toNat F5).2.2.1-1:=AZ (by omega)
  obtain ⟨m1,m2⟩:=hg.mem ((g.2.2.1.getD q.toNat F5).2.2.1-1).toNat (by omega)
  have hh:=fN (x:=g.2.2.1.getD q.toNat F5) m1 hg.views
  have hless:=hg.less q.toNat
  have hxl:=HK hx.items
  have hz:g.2.2.1.getD q.toNat ((0:Int),(0:Int),(0:Int),(0:Int),(0:Int),([]:List AT))=g.2.2.1.getD q.toNat F5:=rfl
  have hz2:∀ i,g.2.1.getD i ((0:Int),(0:Int),false,false,false,false,([]:List Int),([]:List AT),(0:Int),(0:Int),(0:Int),(0:Int),(ByteArray.empty,ByteArray.empty,(0:Int)),([]:List Int))=Cp g i:=fun i=>rfl
  have e1:(g.2.2.1.take q.toNat).drop (0:Int).toNat=g.2.2.1.take q.toNat:=rfl
  have e2:(g.2.2.1.take (g.2.2.1.length:Int).toNat).drop (q+1).toNat=g.2.2.1.drop (q.toNat+1):=by
   rw [show (g.2.2.1.length:Int).toNat=g.2.2.1.length from by omega,List.take_length,show (q+1).toNat=q.toNat+1 from by omega]
  unfold lh
  rw [if_neg h0,hq]
  refine ⟨Vr ?_,?_,?_⟩
  ·unfold Pu
   rw [if_neg (by simp; exact h0),if_neg (by omega),hm,hz,wq,wt,hz2,e1,e2,if_pos hr0,if_pos hr1]
   simp only [List.nil_append,List.length_nil,Nat.zero_add]
   by_cases h4:e.1=4
   ·rw [if_pos (by simpa using h4),if_pos h4,if_pos (by omega),if_pos (by simp; omega)]
   ·rw [if_neg (by simpa using h4),if_neg h4,if_pos (by omega),if_pos hr0,if_pos (by omega),if_pos (by omega),if_pos (by omega),if_pos (by omega),if_pos (by simp; omega),if_pos (by simp; omega)]
    by_cases h3:e.1=3
    ·rw [if_pos (by simpa using h3),if_pos h3]
     rfl
    ·rw [if_neg (by simpa using h3),if_neg h3,if_pos (by omega),if_pos (by omega),Pe _ _ _ m1 hg.views (by omega),Option.bind_some]
     have htl:=hh.tlen
     have:=FD (C1 (Cp g ((g.2.2.1.getD q.toNat F5).2.2.1-1).toNat) g.1 (g.2.2.1.getD q.toNat F5)).1 (C1 (Cp g ((g.2.2.1.getD q.toNat F5).2.2.1-1).toNat) g.1 (g.2.2.1.getD q.toNat F5)).2.1 (C1 (Cp g ((g.2.2.1.getD q.toNat F5).2.2.1-1).toNat) g.1 (g.2.2.1.getD q.toNat F5)).2.2 at_ (gm g q.toNat) hh.mok.id h6 (by have:=hless.flen; omega) (by have:=hless.clen; omega) hh.said
     unfold gm at this ⊢
     rw [this]
     rfl
  ·split
   ·refine ⟨hg.views,hg.six,hg.mem,fun x hx'=>?_,by simp only [List.length_append,List.length_cons,List.length_nil]; omega,by show g.2.2.2.length≤_; omega⟩
    rcases List.mem_append.1 hx' with h1 | h1
    ·exact hg.fly x h1
    ·simp only [List.mem_singleton] at h1; subst h1; exact hx
   ·split
    ·exact hless.up
    ·exact hless.member (i:=((g.2.2.1.getD q.toNat F5).2.2.1-1).toNat) (by omega) hh.mok (by rw [hh.id,m2]) (m9 hh.told) hh.tlen
  ·split
   ·rfl
   ·split<;>rfl
def oT (g:BY) (at_:Int) (e:MQ):Int×BY :=
 if e.1=1 then Ws g at_ e else if e.1=5 then fT g at_ e.2.1
 else if e.1=6 then (0,IA g (Uu (Cp g (e.2.1-1).toNat)) [] [] at_) else lh g at_ e
theorem MR (at_:Int) (e:MQ) (g:BY) (k:Nat) (hg:Wz g k) (hk:k≤1000) (he:Pv e=true):M7 at_ e g=some (oT g at_ e)∧Wz (oT g at_ e).2 (k+1)∧(oT g at_ e).2.1=g.1:=by
 have hn:=oN he
 have h6:=hg.six
 have hc:=hg.clen
 have hf:=hg.flen
 unfold oT
 by_cases h1:e.1=1
 ·obtain ⟨a,b,c⟩:=Wt at_ e g k hg hk (by omega)
  rw [if_pos h1]
  refine ⟨M_ ?_,b,c⟩
  unfold J8
  rw [if_pos (by simpa using h1),a]
  rfl
 ·rw [if_neg h1]
  by_cases h5:e.1=5
  ·obtain ⟨a,b,c⟩:=Wu at_ e.2.1 g k hg hk (by omega)
   rw [if_pos h5]
   refine ⟨M_ ?_,b,c⟩
   unfold J8
   rw [if_neg (by simpa using h1),if_pos (by simpa using h5),a]
   rfl
  ·rw [if_neg h5]
   by_cases h7:e.1=6
   ·obtain ⟨m1,m2⟩:=hg.mem (e.2.1-1).toNat (by omega)
    rw [if_pos h7]
    refine ⟨M_ ?_,hg.member (i:=(e.2.1-1).toNat) (by omega) m1.fall1 m2 (fun y hy=>by cases hy) (by simp),rfl⟩
    have wn:IntKind.i64.wrap (e.2.1-1)=e.2.1-1:=AZ (by omega)
    unfold J8
    rw [if_neg (by simpa using h1),if_neg (by simpa using h5),if_pos (by simpa using h7),wn,if_pos (by omega),if_pos (by omega),
     show g.2.1.getD (e.2.1-1).toNat ((0:Int),(0:Int),false,false,false,false,([]:List Int),([]:List AT),(0:Int),(0:Int),(0:Int),(0:Int),(ByteArray.empty,ByteArray.empty,(0:Int)),([]:List Int))=Cp g (e.2.1-1).toNat from rfl,
     gF,Option.bind_some,FD _ _ _ _ _ m1.fall1.id h6 (by simp; omega) (by omega) E1]
    rfl
   ·obtain ⟨a,b,c⟩:=aM at_ e g k hg hk (by omega)
    rw [if_neg h7]
    refine ⟨M_ ?_,b,c⟩
    unfold J8
    rw [if_neg (by simpa using h1),if_neg (by simpa using h5),if_neg (by simpa using h7),a]
    rfl
end Go.Proofs.YtaedipailemlcaaGreat.Core

namespace Go.Proofs.YtaedipailemlcaaGreat.Core
open Go
set_option linter.unusedVariables false
set_option linter.unusedSimpArgs false
theorem KI (x:List (List Int)) (h:x.length≤1000) (ho:∀ a∈x,a.length≤1000):E_ x=some x:=VU (by
 unfold Mq
 have key:=Gy (n:=x.length) (P:=fun i=>Dt x (i:Int) (x.take i)=some x) (KA (by
  unfold Fs
  rw [if_neg (by simp),List.take_length])) (fun i hi ih=>KA (by
  unfold Fs
  have:=ho x[i] (List.getElem_mem hi)
  simp only [show ((i:Int)<(x.length:Int)) from by omega,decide_true,if_true,show (0:Int)≤(i:Int) from by omega,Int.toNat_natCast,Ad hi,AR (show i<9223372036854775807 by omega),List.nil_append,List.length_nil,Nat.zero_add,List.length_cons,List.length_take]
  rw [if_pos (by omega),if_pos (by omega),List.take_append_getElem]
  exact ih)) 0 (by omega)
 exact key)
theorem Ta (x:List BL) (h:x.length≤100000) (ho:∀ a∈x,a.2.2.2.2.2.length≤1000):IJ x=some x:=Wj (by
 unfold Nw
 have key:=Gy (n:=x.length) (P:=fun i=>Co x (i:Int) (x.take i)=some x) (Kf (by
  unfold GI
  rw [if_neg (by simp),List.take_length])) (fun i hi ih=>Kf (by
  unfold GI
  have:=ho x[i] (List.getElem_mem hi)
  simp only [show ((i:Int)<(x.length:Int)) from by omega,decide_true,if_true,show (0:Int)≤(i:Int) from by omega,Int.toNat_natCast,Ad hi,AR (show i<9223372036854775807 by omega),List.nil_append,List.length_nil,Nat.zero_add,List.length_cons,List.length_take]
  rw [if_pos (by omega),if_pos (by omega)]
  change Co x _ (x.take i++[x[i]])=_
  rw [List.take_append_getElem]
  exact ih)) 0 (by omega)
 exact key)
theorem Yj (g:BY) (k:Nat) (hg:Wz g k) (hk:k≤1000):NZ g=some g:=fB (by
 have hvl:=hg.views.len
 have hc:=hg.clen
 have hf:=hg.flen
 have h6:=hg.six
 unfold Ud
 rw [KI g.1 (by omega) (fun a ha=>by have:=hg.views.view ha; omega),Option.bind_some,Ta g.2.2.1 (by omega) (fun a ha=>by have:=HK (hg.fly a ha).items; omega),Option.bind_some,if_pos (by simp; omega)]
 have key:∀ (a b c d e:_),Et ((0:Nat):Int) g.1 g.2.1 g.2.2.1 g.2.2.2 a b c d e [] g.1 g.2.2.1 ([]++g.2.2.2)=some g:=by
  intro a b c d e
  have key':=Gy (n:=g.2.1.length) (P:=fun i=>Et (i:Int) g.1 g.2.1 g.2.2.1 g.2.2.2 a b c d e (g.2.1.take i) g.1 g.2.2.1 ([]++g.2.2.2)=some g) (PU (by
   unfold J_
   rw [if_neg (by simp),List.take_length]
   rfl)) (fun i hi ih=>PU (by
   unfold J_
   have hm:=(hg.mem i (by omega)).1
   unfold Cp at hm
   rw [Ad hi] at hm
   simp only [show ((i:Int)<(g.2.1.length:Int)) from by omega,decide_true,if_true,show (0:Int)≤(i:Int) from by omega,Int.toNat_natCast,Ad hi,hm.copy,Option.bind_some,AR (show i<9223372036854775807 by omega),List.length_take,List.length_cons,List.length_nil]
   rw [if_pos (by omega),List.take_append_getElem]
   exact ih)) 0 (by omega)
  exact key'
 exact key _ _ _ _ _)
def C0 (views:List (List Int)):BY:=(views,[Gz 1 views,Gz 2 views,Gz 3 views,Gz 4 views,Gz 5 views,Gz 6 views],[],[])
theorem aN {views:List (List Int)} (hv:Vu views):Wz (C0 views) 0:=by
 refine ⟨hv,rfl,fun i hi=>?_,fun x hx=>(by cases hx),(by simp [C0]),(by simp [C0])⟩
 have h5:i=0∨i=1∨i=2∨i=3∨i=4∨i=5:=by omega
 rcases h5 with rfl | rfl | rfl | rfl | rfl | rfl<;>exact ⟨IX.first1 (by omega) hv,rfl⟩
theorem KJ {views:List (List Int)} (hv:Vu views):Hz views=some (C0 views,true):=cE (by
 have hvl:=hv.len
 unfold S5
 rw [E0 hv,Option.bind_some,if_neg (by simp),KI views (by omega) (fun a ha=>by have:=hv.view ha; omega),Option.bind_some]
 have step:∀ (i:Nat) (a:_) (b:_) (c:_) (d:_) (l:List AB) r,1≤i→i≤6→l.length≤6→EK views ((i+1:Nat):Int) a b c d (l++[Gz (i:Int) views]) views=some r→EK views (i:Int) a b c d l views=some r:=by
  intro i a b c d l r h1 h6 hl hr
  refine Nu ?_
  unfold IS
  rw [if_pos (by simp; omega),VZ _ _ (by omega) hv,Option.bind_some,if_pos (by simp; omega),AR (show i<9223372036854775807 by omega)]
  exact hr
 refine step 1 _ _ _ _ _ _ (by omega) (by omega) (by simp) ?_
 refine step 2 _ _ _ _ _ _ (by omega) (by omega) (by simp) ?_
 refine step 3 _ _ _ _ _ _ (by omega) (by omega) (by simp) ?_
 refine step 4 _ _ _ _ _ _ (by omega) (by omega) (by simp) ?_
 refine step 5 _ _ _ _ _ _ (by omega) (by omega) (by simp) ?_
 refine step 6 _ _ _ _ _ _ (by omega) (by omega) (by simp) ?_
 refine Nu ?_
 unfold IS
 rw [if_neg (by decide)]
 rfl)
def RO:Nat→List MQ→BY→List Int→BY×List Int
 | _,[],g,cs=>(g,cs)
 | n,e::es,g,cs=>RO (n+1) es (oT g (n:Int) e).2 (cs++[(oT g (n:Int) e).1])
theorem ia:∀ (es:List MQ) (n:Nat) (g:BY) (cs:List Int),Wz g n→n+es.length≤70→(∀ e∈es,Pv e=true)→Wz (RO n es g cs).1 (n+es.length)∧(RO n es g cs).1.1=g.1∧(RO n es g cs).2.length=cs.length+es.length
 | [],n,g,cs,hg,_,_=>⟨hg,rfl,rfl⟩
 | e::es,n,g,cs,hg,hn,he=>by
  simp only [List.length_cons] at hn
  obtain ⟨_,h2,h3⟩:=MR (n:Int) e g n hg (by omega) (he e (by simp))
  obtain ⟨h4,h5,h6⟩:=ia es (n+1) _ (cs++[(oT g (n:Int) e).1]) h2 (by omega) (fun x hx=>he x (by simp [hx]))
  refine ⟨?_,h5.trans h3,?_⟩
  ·have:n+(e::es).length=n+1+es.length:=by simp only [List.length_cons]; omega
   rw [this]
   exact h4
  ·simp only [RO,h6,List.length_append,List.length_cons,List.length_nil]
   omega
theorem Yk {views:List (List Int)} {events:List MQ} (hv:Vu views) (hl:events.length≤70) (he:∀ e∈events,Pv e=true) :
  L_ views events=some ((RO 0 events (C0 views) []).1,(RO 0 events (C0 views) []).2,true):=b8 (by
 have hg:=aN hv
 obtain ⟨r1,r2,r3⟩:=ia events 0 (C0 views) [] hg (by omega) he
 unfold S0
 rw [KJ hv,Option.bind_some]
 have L3:∀ y,EG events ((0:Nat):Int) y (C0 views) []=some ((RO 0 events (C0 views) []).1,(RO 0 events (C0 views) []).2,true):=by
  intro y
  have key:=Gy (n:=events.length) (P:=fun i=>∀ (g:BY) (cs:List Int),Wz g i→cs.length=i→RO i (events.drop i) g cs=RO 0 events (C0 views) []→EG events (i:Int) y g cs=some ((RO 0 events (C0 views) []).1,(RO 0 events (C0 views) []).2,true)) (fun g cs hgi hcs hr=>Np (by
   unfold IP
   rw [if_neg (by simp),Yj g events.length hgi (by omega),Option.bind_some]
   rw [List.drop_eq_nil_of_le (Nat.le_refl _)] at hr
   rw [← hr]
   rfl)) (fun i hi ih g cs hgi hcs hr=>Np (by
   unfold IP
   obtain ⟨d1,d2,_⟩:=MR (i:Int) events[i] g i hgi (by omega) (he _ (List.getElem_mem hi))
   simp only [show ((i:Int)<(events.length:Int)) from by omega,decide_true,if_true,show (0:Int)≤(i:Int) from by omega,Int.toNat_natCast,Ad hi,d1,Option.bind_some,AR (show i<9223372036854775807 by omega)]
   rw [if_pos (by simp; omega)]
   refine ih _ _ d2 (by simp; omega) ?_
   rw [Bp hi] at hr
   exact hr)) 0 (by omega) (C0 views) [] hg rfl rfl
  exact key
 have L0:∀ y,Cw events true ((0:Nat):Int) y (C0 views)=some ((RO 0 events (C0 views) []).1,(RO 0 events (C0 views) []).2,true):=by
  intro y
  have J2:Fo events true y (C0 views)=some ((RO 0 events (C0 views) []).1,(RO 0 events (C0 views) []).2,true):=Wa (by
   unfold No
   rw [if_neg (by simp)]
   exact L3 y)
  refine Gy (n:=events.length) (P:=fun i=>Cw events true (i:Int) y (C0 views)=some ((RO 0 events (C0 views) []).1,(RO 0 events (C0 views) []).2,true)) (Nq (by
   unfold IQ
   rw [if_neg (by simp)]
   exact J2)) (fun i hi ih=>Nq (by
   unfold IQ
   rw [if_pos (by simpa using hi),if_pos rfl]
   refine WZ ?_
   unfold Nn
   have hz:events.getD i ((0:Int),(0:Int),(0:Int),(0:Int),ByteArray.empty,ByteArray.empty)=events[i]:=Ad hi
   rw [if_pos (by simp; omega),if_pos (by omega),if_pos (by omega),Int.toNat_natCast,hz,YT,he _ (List.getElem_mem hi),Option.bind_some,AR (show i<9223372036854775807 by omega)]
   exact ih)) 0 (by omega)
 exact L0 _)
theorem Ww (d:E8) (h:H_ d):∃ v d',MB d=some (v,d')∧H_ d'∧Vu v:=by
 have inner:∀ (m j:Nat),j+m=3→∀ (i:Int) (d:E8) (vs:List (List Int)) (v:List Int),H_ d→0≤i→vs.length≤10→v.length≤j→(j=0∨1≤v.length)→(∀ a∈v,1≤a∧a≤6)→v.Nodup →
   ∃ v' d',mw v'∧H_ d'∧∀ r,EI (IntKind.i64.wrap (i+1)) d' (vs++[v'])=some r→EH i (j:Int) d vs v=some r:=by
  intro m
  induction m with
  | zero =>
   intro j hj i d vs v hd hi hvs hv h1 hm hnd
   obtain ⟨y,d1,e1,k1,y0,y1⟩:=AL 3 d hd
   have y1:=y1 (by omega)
   refine ⟨v,d1,⟨by omega,hm,hnd⟩,k1,fun r hr=>Fq ?_⟩
   unfold EJ
   have wy:IntKind.i64.wrap (1+y)=1+y:=AZ (by omega)
   rw [e1,Option.bind_some,wy,if_neg (by simp; omega),if_pos (by simp; omega)]
   exact hr
  | succ m ih =>
   intro j hj i d vs v hd hi hvs hv h1 hm hnd
   obtain ⟨y,d1,e1,k1,y0,y1⟩:=AL 3 d hd
   have y1:=y1 (by omega)
   have wy:IntKind.i64.wrap (1+y)=1+y:=AZ (by omega)
   by_cases hlt:(j:Int)<1+y
   ·obtain ⟨z,d2,e2,k2,z0,z1⟩:=AL 4 d1 k1
    have z1:=z1 (by omega)
    have wz:IntKind.i64.wrap (1+z)=1+z:=AZ (by omega)
    by_cases hc:v.contains (1+z)=true
    ·obtain ⟨v',d',w1,w2,w3⟩:=ih (j+1) (by omega) i d2 vs v k2 hi hvs (by omega) (.inr (by
      cases v with
      | nil=>simp at hc
      | cons a v=>simp)) hm hnd
     refine ⟨v',d',w1,w2,fun r hr=>Fq ?_⟩
     unfold EJ
     rw [e1,Option.bind_some,wy,if_pos (by simpa using hlt),e2,Option.bind_some,wz,CG v _ (by unfold maxLen; omega),Option.bind_some,hc,if_neg (by simp),AR (show j<9223372036854775807 by omega)]
     exact w3 r hr
    ·have hc':v.contains (1+z)=false:=by simpa using hc
     obtain ⟨v',d',w1,w2,w3⟩:=ih (j+1) (by omega) i d2 vs (v++[1+z]) k2 hi hvs (by simp; omega) (.inr (by simp)) (fun a ha=>by
      rcases List.mem_append.1 ha with h | h
      ·exact hm a h
      ·simp only [List.mem_singleton] at h; omega) (by
      rw [List.nodup_append]
      refine ⟨hnd,by simp,fun a ha b hb e=>?_⟩
      simp only [List.mem_singleton] at hb
      subst hb
      subst e
      rw [List.contains_iff_mem.2 ha] at hc'
      cases hc')
     refine ⟨v',d',w1,w2,fun r hr=>Fq ?_⟩
     unfold EJ
     rw [e1,Option.bind_some,wy,if_pos (by simpa using hlt),e2,Option.bind_some,wz,CG v _ (by unfold maxLen; omega),Option.bind_some,hc',if_pos (by rfl),if_pos (by simp; omega),AR (show j<9223372036854775807 by omega)]
     exact w3 r hr
   ·refine ⟨v,d1,⟨by omega,hm,hnd⟩,k1,fun r hr=>Fq ?_⟩
    unfold EJ
    rw [e1,Option.bind_some,wy,if_neg (by simpa using hlt),if_pos (by simp; omega)]
    exact hr
 have outer:∀ (m i:Nat),i+m=5→∀ (d:E8) (vs:List (List Int)),H_ d→vs.length=i→(∀ v∈vs,mw v)→∃ v' d',EI (i:Int) d vs=some (v',d')∧H_ d'∧Vu v':=by
  have fin:∀ (vs:List (List Int)),1≤vs.length→vs.length≤5→(∀ v∈vs,mw v)→Vu vs:=fun vs h1 h2 h3=>⟨Hq.2 ⟨fun v hv=>kZ.2 (h3 v hv),h1,by omega⟩⟩
  intro m
  induction m with
  | zero =>
   intro i hi d vs hd hl hv
   obtain ⟨y,d1,e1,k1,y0,y1⟩:=AL 5 d hd
   have y1:=y1 (by omega)
   have wy:IntKind.i64.wrap (1+y)=1+y:=AZ (by omega)
   refine ⟨vs,d1,IR ?_,k1,fin vs (by omega) (by omega) hv⟩
   unfold Fp
   rw [e1,Option.bind_some,wy,if_neg (by simp; omega)]
  | succ m ih =>
   intro i hi d vs hd hl hv
   obtain ⟨y,d1,e1,k1,y0,y1⟩:=AL 5 d hd
   have y1:=y1 (by omega)
   have wy:IntKind.i64.wrap (1+y)=1+y:=AZ (by omega)
   by_cases hlt:(i:Int)<1+y
   ·obtain ⟨v',d2,w1,k2,w3⟩:=inner 3 0 (by omega) (i:Int) d1 vs [] k1 (by omega) (by omega) (by simp) (.inl rfl) (by simp) (by simp)
    obtain ⟨r1,d3,q1,q2,q3⟩:=ih (i+1) (by omega) d2 (vs++[v']) k2 (by simp; omega) (fun v hv'=>by
     rcases List.mem_append.1 hv' with h | h
     ·exact hv v h
     ·simp only [List.mem_singleton] at h; subst h; exact w1)
    refine ⟨r1,d3,IR ?_,q2,q3⟩
    unfold Fp
    rw [e1,Option.bind_some,wy,if_pos (by simpa using hlt)]
    exact w3 _ (by rw [AR (show i<9223372036854775807 by omega)]; exact q1)
   ·have hi1:1≤i:=by omega
    refine ⟨vs,d1,IR ?_,k1,fin vs (by omega) (by omega) hv⟩
    unfold Fp
    rw [e1,Option.bind_some,wy,if_neg (by simpa using hlt)]
 obtain ⟨v,d',e,k,hv⟩:=outer 5 0 (by omega) d [] h rfl (fun v hv=>by cases hv)
 exact ⟨v,d',cD (by unfold S4; exact e),k,hv⟩
end Go.Proofs.YtaedipailemlcaaGreat.Core

namespace Go.Proofs.YtaedipailemlcaaGreat.Core
open Go
set_option linter.unusedVariables false
set_option linter.unusedSimpArgs false
theorem Yl (d:E8) (g:BY) (k:Nat) (h:H_ d) (hg:Wz g k):∃ e d',NX d g=some (e,d',g)∧H_ d'∧Pv e=true:=by
 have hvl:=hg.views.len
 have h6:=hg.six
 have ev:∀ (kd nd at_:Int),2≤kd∧kd≤6→1≤nd∧nd≤6→0≤at_→Pv (kd,nd,at_,0,ByteArray.empty,ByteArray.empty)=true:=by
  intro kd nd at_ h1 h2 h3
  unfold Pv
  simp only [show decide (1≤kd)=true from decide_eq_true (by omega),show decide (kd≤6)=true from decide_eq_true (by omega),show decide (1≤nd)=true from decide_eq_true (by omega),show decide (nd≤6)=true from decide_eq_true (by omega),show decide (0≤at_)=true from decide_eq_true h3,if_neg (show ¬ kd=1 by omega)]
  simp [lX]
 have ev1:∀ (nd at_ op:Int) (key val:ByteArray),1≤nd∧nd≤6→0≤at_→gf op key val=true→Pv (1,nd,at_,op,key,val)=true:=by
  intro nd at_ op key val h2 h3 h4
  unfold Pv
  simp only [show decide (1≤nd)=true from decide_eq_true (by omega),show decide (nd≤6)=true from decide_eq_true (by omega),show decide (0≤at_)=true from decide_eq_true h3,if_true,h4]
  rfl
 have L3:∀ (m i:Nat),i+m=6→∀ (d:E8) (nd at_ op:Int) (key val:ByteArray) (a b c:_),H_ d→1≤nd∧nd≤6→∃ nd' d',CZ (i:Int) d g a (1,nd,at_,op,key,val) b c=some ((1,nd',at_,op,key,val),d',g)∧H_ d'∧1≤nd'∧nd'≤6:=by
  intro m
  induction m with
  | zero =>
   intro i hi d nd at_ op key val a b c hd hn
   refine ⟨nd,d,Gc ?_,hd,hn⟩
   unfold Ep
   rw [if_neg (by simp; omega)]
  | succ m ih =>
   intro i hi d nd at_ op key val a b c hd hn
   have ws:=AR (show i<9223372036854775807 by omega)
   by_cases hs:(Cp g i).2.2.2.2.2.1=true
   ·obtain ⟨o,d1,e1,k1⟩:=Ex 4 d hd
    cases o
    ·obtain ⟨nd',d',e2,k2,n2⟩:=ih (i+1) (by omega) d1 ((i+1:Nat):Int) at_ op key val a b c k1 (by omega)
     refine ⟨nd',d',Gc ?_,k2,n2⟩
     unfold Ep
     rw [if_pos (by simp; omega),if_pos (by omega),if_pos (by omega),Int.toNat_natCast,show g.2.1.getD i ((0:Int),(0:Int),false,false,false,false,([]:List Int),([]:List AT),(0:Int),(0:Int),(0:Int),(0:Int),(ByteArray.empty,ByteArray.empty,(0:Int)),([]:List Int))=Cp g i from rfl,if_pos hs,e1,Option.bind_some,if_pos (by rfl),ws]
     exact e2
    ·obtain ⟨nd',d',e2,k2,n2⟩:=ih (i+1) (by omega) d1 nd at_ op key val a b c k1 hn
     refine ⟨nd',d',Gc ?_,k2,n2⟩
     unfold Ep
     rw [if_pos (by simp; omega),if_pos (by omega),if_pos (by omega),Int.toNat_natCast,show g.2.1.getD i ((0:Int),(0:Int),false,false,false,false,([]:List Int),([]:List AT),(0:Int),(0:Int),(0:Int),(0:Int),(ByteArray.empty,ByteArray.empty,(0:Int)),([]:List Int))=Cp g i from rfl,if_pos hs,e1,Option.bind_some,if_neg (by simp),ws]
     exact e2
   ·obtain ⟨nd',d',e2,k2,n2⟩:=ih (i+1) (by omega) d nd at_ op key val a b c hd hn
    refine ⟨nd',d',Gc ?_,k2,n2⟩
    unfold Ep
    rw [if_pos (by simp; omega),if_pos (by omega),if_pos (by omega),Int.toNat_natCast,show g.2.1.getD i ((0:Int),(0:Int),false,false,false,false,([]:List Int),([]:List AT),(0:Int),(0:Int),(0:Int),(0:Int),(ByteArray.empty,ByteArray.empty,(0:Int)),([]:List Int))=Cp g i from rfl,if_neg hs,ws]
    exact e2
 have L4:∀ (m i:Nat),i+m=6→∀ (d:E8) (kd nd at_:Int) (a:_),H_ d→1≤nd∧nd≤6→∃ nd' d',Ca (i:Int) d g a (kd,nd,at_,0,ByteArray.empty,ByteArray.empty)=some ((kd,nd',at_,0,ByteArray.empty,ByteArray.empty),d',g)∧H_ d'∧1≤nd'∧nd'≤6:=by
  intro m
  induction m with
  | zero =>
   intro i hi d kd nd at_ a hd hn
   refine ⟨nd,d,Es ?_,hd,hn⟩
   unfold DQ
   rw [if_neg (by simp; omega)]
  | succ m ih =>
   intro i hi d kd nd at_ a hd hn
   have ws:=AR (show i<9223372036854775807 by omega)
   obtain ⟨m1,m2⟩:=hg.mem i (by omega)
   have hep:=m1.ep
   have hz:∀ j,g.2.1.getD j ((0:Int),(0:Int),false,false,false,false,([]:List Int),([]:List AT),(0:Int),(0:Int),(0:Int),(0:Int),(ByteArray.empty,ByteArray.empty,(0:Int)),([]:List Int))=Cp g j:=fun j=>rfl
   obtain ⟨nd0,d0,e0,k0,n0⟩:=ih (i+1) (by omega) d kd nd at_ a hd hn
   by_cases h1:(Cp g i).2.1<(g.1.length:Int)
   ·have gv:=hg.views.get (i:=(Cp g i).2.1.toNat) (by omega)
    by_cases h2:((g.1.getD (Cp g i).2.1.toNat ([]:List Int)).getD (0:Int).toNat 0==(Cp g i).1)=true
    ·obtain ⟨o,d1,e1,k1⟩:=Ex 3 d hd
     cases o
     ·obtain ⟨nd',d',e2,k2,n2⟩:=ih (i+1) (by omega) d1 kd (Cp g i).1 at_ a k1 (by omega)
      refine ⟨nd',d',Es ?_,k2,n2⟩
      unfold DQ
      rw [if_pos (by simp; omega),if_pos (by omega),if_pos (by omega),Int.toNat_natCast,hz,if_pos (by simpa using h1),if_pos (by omega),if_pos (by omega),if_pos (by omega),if_pos (by omega),if_pos h2,e1,Option.bind_some,if_pos (by rfl),ws]
      exact e2
     ·obtain ⟨nd',d',e2,k2,n2⟩:=ih (i+1) (by omega) d1 kd nd at_ a k1 hn
      refine ⟨nd',d',Es ?_,k2,n2⟩
      unfold DQ
      rw [if_pos (by simp; omega),if_pos (by omega),if_pos (by omega),Int.toNat_natCast,hz,if_pos (by simpa using h1),if_pos (by omega),if_pos (by omega),if_pos (by omega),if_pos (by omega),if_pos h2,e1,Option.bind_some,if_neg (by simp),ws]
      exact e2
    ·refine ⟨nd0,d0,Es ?_,k0,n0⟩
     unfold DQ
     rw [if_pos (by simp; omega),if_pos (by omega),if_pos (by omega),Int.toNat_natCast,hz,if_pos (by simpa using h1),if_pos (by omega),if_pos (by omega),if_pos (by omega),if_pos (by omega),if_neg h2,ws]
     exact e0
   ·refine ⟨nd0,d0,Es ?_,k0,n0⟩
    unfold DQ
    rw [if_pos (by simp; omega),if_pos (by omega),if_pos (by omega),Int.toNat_natCast,hz,if_neg (by simpa using h1),ws]
    exact e0
 have keyOk:∀ key∈([(⟨#[97]⟩:ByteArray),(⟨#[98]⟩:ByteArray),(⟨#[99]⟩:ByteArray)]:List ByteArray),key.size=1:=by
  intro key hk
  simp only [List.mem_cons,List.mem_nil_iff,or_false] at hk
  rcases hk with rfl | rfl | rfl<;>rfl
 have valOk:∀ v∈([(⟨#[118]⟩:ByteArray),(⟨#[119]⟩:ByteArray),(⟨#[120]⟩:ByteArray),(⟨#[121]⟩:ByteArray)]:List ByteArray),v.size=1:=by
  intro v hk
  simp only [List.mem_cons,List.mem_nil_iff,or_false] at hk
  rcases hk with rfl | rfl | rfl | rfl<;>rfl
 have J2:∀ (d:E8) (a:_) (kd nd at_:Int),H_ d→1≤kd∧kd≤6→1≤nd∧nd≤6→0≤at_→∃ e d',Eo d g a (kd,nd,at_,0,ByteArray.empty,ByteArray.empty)=some (e,d',g)∧H_ d'∧Pv e=true:=by
  intro d a kd nd at_ hd hk hn ha
  by_cases h1:kd=1
  ·subst h1
   obtain ⟨op,d1,e1,k1,mem1⟩:=B0 [1,1,2] (by simp) d hd
   obtain ⟨key,d2,e2,k2,mem2⟩:=Ey [(⟨#[97]⟩:ByteArray),(⟨#[98]⟩:ByteArray),(⟨#[99]⟩:ByteArray)] (by simp) d1 k1
   have hkey:=keyOk key mem2
   by_cases ho:op=1
   ·obtain ⟨val,d3,e3,k3,mem3⟩:=Ey [(⟨#[118]⟩:ByteArray),(⟨#[119]⟩:ByteArray),(⟨#[120]⟩:ByteArray),(⟨#[121]⟩:ByteArray)] (by simp) d2 k2
    have hval:=valOk val mem3
    obtain ⟨nd',d',e4,k4,n4⟩:=L3 6 0 (by omega) d3 nd at_ op key val a _ _ k3 hn
    refine ⟨_,d',Gd ?_,k4,ev1 nd' at_ op key val n4 ha (by unfold gf; simp [ho,hkey,hval])⟩
    unfold Er
    rw [if_pos (by simp),e1,Option.bind_some,e2,Option.bind_some,if_pos (by simpa using ho),e3,Option.bind_some]
    exact e4
   ·have ho2:op=2:=by simp at mem1; omega
    obtain ⟨nd',d',e4,k4,n4⟩:=L3 6 0 (by omega) d2 nd at_ op key ByteArray.empty a _ _ k2 hn
    refine ⟨_,d',Gd ?_,k4,ev1 nd' at_ op key ByteArray.empty n4 ha (by unfold gf; simp [ho2,hkey,lX])⟩
    unfold Er
    rw [if_pos (by simp),e1,Option.bind_some,e2,Option.bind_some,if_neg (by simpa using ho)]
    exact e4
  ·by_cases h5:kd=5
   ·obtain ⟨nd',d',e4,k4,n4⟩:=L4 6 0 (by omega) d kd nd at_ a hd hn
    refine ⟨_,d',Gd ?_,k4,ev kd nd' at_ (by omega) n4 ha⟩
    unfold Er
    rw [if_neg (by simpa using h1),if_pos (by simpa using h5)]
    exact e4
   ·refine ⟨_,d,Gd ?_,hd,ev kd nd at_ (by omega) hn ha⟩
    unfold Er
    rw [if_neg (by simpa using h1),if_neg (by simpa using h5)]
 have J1:∀ (d:E8) (a:_) (kd nd at_:Int),H_ d→1≤kd∧kd≤6→1≤nd∧nd≤6→0≤at_→∃ e d',Al d g a (kd,nd,at_,0,ByteArray.empty,ByteArray.empty)=some (e,d',g)∧H_ d'∧Pv e=true:=by
  intro d a kd nd at_ hd hk hn ha
  by_cases h2:kd=2
  ·obtain ⟨o,d1,e1,k1⟩:=Ex 2 d hd
   cases o
   ·obtain ⟨e,d',e2,k2,v2⟩:=J2 d1 a kd nd at_ k1 hk hn ha
    refine ⟨e,d',J6 ?_,k2,v2⟩
    unfold Ga
    rw [if_pos (by simpa using h2),e1,Option.bind_some,if_neg (by simp)]
    exact e2
   ·obtain ⟨e,d',e2,k2,v2⟩:=J2 d1 a kd nd 0 k1 hk hn (by omega)
    refine ⟨e,d',J6 ?_,k2,v2⟩
    unfold Ga
    rw [if_pos (by simpa using h2),e1,Option.bind_some,if_pos (by rfl)]
    exact e2
  ·obtain ⟨e,d',e2,k2,v2⟩:=J2 d a kd nd at_ hd hk hn ha
   refine ⟨e,d',J6 ?_,k2,v2⟩
   unfold Ga
   rw [if_neg (by simpa using h2)]
   exact e2
 have six:∀ (d:E8) (a:_) (kd nd at_:Int),H_ d→1≤kd∧kd≤6→1≤nd∧nd≤6→0≤at_→∃ e d',(if (kd==6)=true then ((B_ 4 d).bind fun y5=>(if (!y5.1)=true then (Al y5.2 g a (1,nd,at_,0,ByteArray.empty,ByteArray.empty)) else (Al y5.2 g a (kd,nd,at_,0,ByteArray.empty,ByteArray.empty)))) else (Al d g a (kd,nd,at_,0,ByteArray.empty,ByteArray.empty)))=some (e,d',g)∧H_ d'∧Pv e=true:=by
  intro d a kd nd at_ hd hk hn ha
  by_cases h2:kd=6
  ·obtain ⟨o,d1,e1,k1⟩:=Ex 4 d hd
   cases o
   ·obtain ⟨e,d',e2,k2,v2⟩:=J1 d1 a 1 nd at_ k1 (by omega) hn ha
    refine ⟨e,d',?_,k2,v2⟩
    rw [if_pos (by simpa using h2),e1,Option.bind_some,if_pos (by rfl)]
    exact e2
   ·obtain ⟨e,d',e2,k2,v2⟩:=J1 d1 a kd nd at_ k1 hk hn ha
    refine ⟨e,d',?_,k2,v2⟩
    rw [if_pos (by simpa using h2),e1,Option.bind_some,if_neg (by simp)]
    exact e2
  ·obtain ⟨e,d',e2,k2,v2⟩:=J1 d a kd nd at_ hd hk hn ha
   refine ⟨e,d',?_,k2,v2⟩
   rw [if_neg (by simpa using h2)]
   exact e2
 obtain ⟨kd,d1,e1,k1,mem1⟩:=B0 [1,1,1,2,2,2,2,2,2,2,2,3,4,5,6] (by simp) d h
 obtain ⟨nd,d2,e2,k2,n0,n1⟩:=AL 4 d1 k1
 obtain ⟨at_,d3,e3,k3,a0,a1⟩:=AL 20 d2 k2
 have n1:=n1 (by omega)
 have wn:IntKind.i64.wrap (1+nd)=1+nd:=AZ (by omega)
 have hkd:1≤kd∧kd≤6:=by
  simp only [List.mem_cons,List.mem_nil_iff,or_false] at mem1
  omega
 have fin:∃ e d',Jz d3 g ((0:Int),(0:Int),(0:Int),(0:Int),ByteArray.empty,ByteArray.empty) (kd,1+nd,at_,0,ByteArray.empty,ByteArray.empty)=some (e,d',g)∧H_ d'∧Pv e=true:=by
  by_cases hf:((g.2.2.1.length:Int)==0)=true
  ·cases hin:(decide (2≤kd)&&decide (kd≤4)) with
   | true =>
    obtain ⟨e,d',e4,k4,v4⟩:=J1 d3 ((0:Int),(0:Int),(0:Int),(0:Int),ByteArray.empty,ByteArray.empty) 1 (1+nd) at_ k3 (by omega) (by omega) a0
    refine ⟨e,d',J7 ?_,k4,v4⟩
    unfold Gb
    rw [if_pos hf,Ah,Option.bind_some,if_pos hin,if_neg (show ¬ ((1:Int)==6)=true by decide)]
    exact e4
   | false =>
    obtain ⟨e,d',e4,k4,v4⟩:=six d3 ((0:Int),(0:Int),(0:Int),(0:Int),ByteArray.empty,ByteArray.empty) kd (1+nd) at_ k3 hkd (by omega) a0
    refine ⟨e,d',J7 ?_,k4,v4⟩
    unfold Gb
    rw [if_pos hf,Ah,Option.bind_some,if_neg (by rw [hin]; simp)]
    exact e4
  ·obtain ⟨e,d',e4,k4,v4⟩:=six d3 ((0:Int),(0:Int),(0:Int),(0:Int),ByteArray.empty,ByteArray.empty) kd (1+nd) at_ k3 hkd (by omega) a0
   refine ⟨e,d',J7 ?_,k4,v4⟩
   unfold Gb
   rw [if_neg hf]
   exact e4
 obtain ⟨e,d',e4,k4,v4⟩:=fin
 refine ⟨e,d',e_ ?_,k4,v4⟩
 unfold Ub
 rw [e1,Option.bind_some,e2,Option.bind_some,e3,Option.bind_some,wn]
 exact e4
end Go.Proofs.YtaedipailemlcaaGreat.Core

namespace Go.Proofs.YtaedipailemlcaaGreat.Core
open Go
set_option linter.unusedVariables false
set_option linter.unusedSimpArgs false
theorem Ym (x:List Int) (d:E8) (hx:x.length≤1048576) (h:H_ d):∃ v es d',NU x d=some ((v,es),d')∧H_ d'∧Vu v∧es.length≤69∧∀ e∈es,Pv e=true:=by
 obtain ⟨v,d1,e1,k1,hv⟩:=Ww d h
 have L:∀ (n:Nat),n≤69→∀ a b,∃ es d',DP (n:Int) ((0:Nat):Int) d1 a b [] v (C0 v)=some ((v,es),d')∧H_ d'∧es.length≤69∧∀ e∈es,Pv e=true:=by
  intro n hn a b
  refine Gy (n:=n) (P:=fun i=>∀ (d:E8) (es:List MQ) (g:BY),H_ d→Wz g i→es.length=i→(∀ e∈es,Pv e=true)→∃ es' d',DP (n:Int) (i:Int) d a b es v g=some ((v,es'),d')∧H_ d'∧es'.length≤69∧∀ e∈es',Pv e=true) (fun d es g hd hg hl he=>?_) (fun i hi ih d es g hd hg hl he=>?_) 0 (by omega) d1 [] (C0 v) k1 (aN hv) rfl (fun e he=>by cases he)
  ·refine ⟨es,d,PL ?_,hd,by omega,he⟩
   unfold Js
   rw [if_neg (by simp)]
  ·obtain ⟨e,d2,e2,k2,ke⟩:=Yl d g i hd hg
   obtain ⟨q1,q2,q3⟩:=MR (i:Int) e g i hg (by omega) ke
   obtain ⟨es',d3,e3,k3⟩:=ih d2 (es++[e]) (oT g (i:Int) e).2 k2 q2 (by simp; omega) (fun y hy=>by
    rcases List.mem_append.1 hy with hy | hy
    ·exact he y hy
    ·rw [List.mem_singleton.1 hy]; exact ke)
   refine ⟨es',d3,PL ?_,k3⟩
   unfold Js
   rw [if_pos (by simpa using hi),e2,Option.bind_some]
   dsimp only
   rw [q1,Option.bind_some,if_pos (by simp; omega),AR (by omega)]
   exact e3
 have wq:IntKind.i64.wrap (Int.tdiv (x.length:Int) 4)=((x.length / 4:Nat):Int):=by
  rw [Int.tdiv_eq_ediv_of_nonneg (by omega),AZ (by omega)]
  omega
 have wn:IntKind.i64.wrap (20+((x.length / 4:Nat):Int))=((20+x.length / 4:Nat):Int):=by rw [AZ (by omega)]; omega
 by_cases hn:20+x.length / 4≤69
 ·obtain ⟨es,d',e,k,k2⟩:=L (20+x.length / 4) hn [] []
  refine ⟨v,es,d',UU ?_,k,hv,k2⟩
  unfold Nk
  rw [e1,Option.bind_some,KJ hv,Option.bind_some,if_neg (by omega),wq,wn,if_neg (by simp; omega)]
  exact e
 ·obtain ⟨es,d',e,k,k2⟩:=L 69 (by omega) [] []
  refine ⟨v,es,d',UU ?_,k,hv,k2⟩
  unfold Nk
  rw [e1,Option.bind_some,KJ hv,Option.bind_some,if_neg (by omega),wq,wn,if_pos (by simp; omega)]
  exact e
def pj (g:BY):Prop:=∃ v es,Vu v∧es.length≤70∧(∀ e∈es,Pv e=true)∧g=(RO 0 es (C0 v) []).1
theorem Wx (x:List Int) (d:E8) (hx:x.length≤1048576) (h:H_ d):∃ g d' n,L9 x d=some (g,d')∧H_ d'∧Wz g n∧n≤69∧pj g:=by
 obtain ⟨v,es,d1,e1,k1,hv,hl,he⟩:=Ym x d hx h
 obtain ⟨r1,r2,r3⟩:=ia es 0 (C0 v) [] (aN hv) (by omega) he
 refine ⟨_,d1,0+es.length,bm ?_,k1,r1,by omega,v,es,hv,by omega,he,rfl⟩
 unfold Ss
 rw [e1,Option.bind_some,Yk hv (by omega) he,Option.bind_some]
theorem Yn:∃ b,Na 13 65=some b:=by
 have key:=Gy (n:=13) (P:=fun i=>∀ l:List Int,l.length=13→∃ b,Ge 13 65 (i:Int) l=some b) (fun l hl=>⟨_,PX (by
  unfold KB
  rw [if_neg (by simp)])⟩) (fun i hi ih l hl=>by
  obtain ⟨b,hb⟩:=ih (l.set i 65) (by simpa using hl)
  refine ⟨b,PX ?_⟩
  unfold KB
  rw [if_pos (by simp; omega),if_pos (by omega),if_pos (by omega),AR (by omega),Int.toNat_natCast]
  exact hb) 0 (by omega) (List.replicate 13 0) (by simp)
 obtain ⟨b,hb⟩:=key
 exact ⟨b,fF (by
  unfold Uo
  rw [if_pos (by omega),if_pos (by omega)]
  exact hb)⟩
theorem Yo (n:Nat) (h:n<1000):∃ b,Nb (n:Int)=some b∧b.size≤100:=by
 have one:∀ y:Int,(Mw ([y]:List Int)).size=1:=fun y=>rfl
 have fig:∀ y:Int,∃ r,Kt y=some r:=fun y=>by
  by_cases hy:y<10
  ·exact ⟨_,RC (by unfold LG; rw [if_pos (by simpa using hy)])⟩
  ·exact ⟨_,RC (by unfold LG; rw [if_neg (by simpa using hy)])⟩
 have L:∀ (k n:Nat) (acc:ByteArray),n<10^k→n<1000→acc.size+k≤100→∃ b,Gf (n:Int) false acc=some b∧b.size≤100:=by
  intro k
  induction k with
  | zero =>
   intro n acc hn hk ha
   have:n=0:=by simpa using hn
   subst this
   refine ⟨acc,KD ?_,by omega⟩
   unfold Gg
   rw [if_neg (by simp),if_neg (by simp)]
  | succ k ih =>
   intro n acc hn hk ha
   by_cases h0:n=0
   ·subst h0
    refine ⟨acc,KD ?_,by omega⟩
    unfold Gg
    rw [if_neg (by simp),if_neg (by simp)]
   ·obtain ⟨r,hr⟩:=fig (Int.tmod (n:Int) 10)
    have hq:n / 10<10^k:=by rw [Nat.pow_succ] at hn; omega
    obtain ⟨b,hb,hs⟩:=ih (n / 10) (Mw ([r]:List Int)++acc) hq (by omega) (by rw [ByteArray.size_append,one]; omega)
    refine ⟨b,KD ?_,hs⟩
    unfold Gg
    rw [if_pos (by simpa using h0),if_neg (by omega),if_neg (by have:=Int.tmod_nonneg (a:=(n:Int)) 10 (by omega); simp; omega)]
    refine YR ?_
    unfold PZ
    rw [hr,Option.bind_some,if_pos (by rw [one]; omega),if_neg (by omega),Int.tdiv_eq_ediv_of_nonneg (by omega),AZ (by omega)]
    exact hb
 by_cases h0:n=0
 ·subst h0
  exact ⟨_,Up (by unfold Nx; rw [if_pos (by rfl)]),by decide⟩
 ·obtain ⟨b,hb,hs⟩:=L 3 n ⟨#[]⟩ (by omega) h (by decide)
  refine ⟨b,Up ?_,hs⟩
  unfold Nx
  rw [if_neg (by simpa using h0),show decide ((n:Int)<0)=false from decide_eq_false (by omega)]
  exact hb
theorem Tb (d:E8) (h:H_ d):∃ x d',II d=some (x,d')∧H_ d'∧x.length≤100:=by
 obtain ⟨x,d1,e1,k1,hx,hl⟩:=Ny d h
 obtain ⟨v,d2,e2,k2,v0,v1⟩:=AL 16 d1 k1
 suffices g:∃ x' d',IT d=some (x',d')∧H_ d'∧x'.length≤100 from by
  obtain ⟨x',d',e,k⟩:=g
  exact ⟨x',d',We e,k⟩
 unfold IT
 rw [e1,Option.bind_some,e2,Option.bind_some]
 dsimp only
 by_cases c0:v=0
 ·obtain ⟨a,d3,e3,k3,_⟩:=KF d2 k2
  rw [if_pos (by simpa using c0),e3,Option.bind_some,if_pos (by simp; omega)]
  exact ⟨_,_,rfl,k3,by simp; omega⟩
 rw [if_neg (by simpa using c0)]
 by_cases c1:v=1
 ·rw [if_pos (by simpa using c1)]
  by_cases hp:0<x.length
  ·obtain ⟨a,d3,e3,k3,_⟩:=B0 [0,(-1),1000000000,1000000001] (by simp) d2 k2
   rw [if_pos (by simpa using hp),e3,Option.bind_some,if_pos (by omega),if_pos (by omega)]
   exact ⟨_,_,rfl,k3,by simp; omega⟩
  ·rw [if_neg (by simpa using hp)]
   exact ⟨_,_,rfl,k2,by omega⟩
 rw [if_neg (by simpa using c1)]
 by_cases c2:v=2
 ·rw [if_pos (by simpa using c2)]
  by_cases hp:0<x.length
  ·obtain ⟨b,hb⟩:=Yn
   obtain ⟨a,d3,e3,k3,_⟩:=Ey [(⟨#[]⟩:ByteArray),b] (by simp) d2 k2
   rw [if_pos (by simpa using hp),hb,Option.bind_some,e3,Option.bind_some,if_pos (by omega),if_pos (by omega)]
   exact ⟨_,_,rfl,k3,by simp; omega⟩
  ·rw [if_neg (by simpa using hp)]
   exact ⟨_,_,rfl,k2,by omega⟩
 rw [if_neg (by simpa using c2)]
 by_cases c3:v=3
 ·rw [if_pos (by simpa using c3)]
  have key:=Gy (n:=13) (P:=fun i=>∀ (d:E8) (l:List AT),H_ d→l.length≤i→∃ x' d',ER (i:Int) d x l=some (x',d')∧H_ d'∧x'.length≤100) (fun d l hd hl=>by
    obtain ⟨y,d3,e3,k3,y0,y1⟩:=AL 2 d hd
    have y1:=y1 (by omega)
    refine ⟨l,d3,GH ?_,k3,by omega⟩
    unfold ES
    rw [e3,Option.bind_some,AZ (by omega),if_neg (by simp; omega)])
   (fun i hi ih d l hd hl=>by
    obtain ⟨y,d3,e3,k3,y0,y1⟩:=AL 2 d hd
    have y1:=y1 (by omega)
    by_cases hc:(i:Int)<12+y
    ·obtain ⟨b,hb,hs⟩:=Yo (10+i) (by omega)
     obtain ⟨x',d4,e4,k4⟩:=ih d3 (l++[((⟨#[109]⟩:ByteArray)++b,(⟨#[]⟩:ByteArray),5)]) k3 (by simp; omega)
     refine ⟨x',d4,GH ?_,k4⟩
     unfold ES
     have w1:IntKind.i64.wrap (10+(i:Int))=((10+i:Nat):Int):=by rw [AZ (by omega)]; omega
     rw [e3,Option.bind_some,AZ (n:=12+y) (by omega),if_pos (by simpa using hc),w1,hb,Option.bind_some,if_pos (by show 1+b.size≤_; omega),if_pos (by simp; omega),AR (by omega)]
     exact e4
    ·refine ⟨l,d3,GH ?_,k3,by omega⟩
     unfold ES
     rw [e3,Option.bind_some,AZ (by omega),if_neg (by simpa using hc)]) 0 (by omega) d2 [] k2 (by simp)
  exact key
 rw [if_neg (by simpa using c3)]
 exact ⟨_,_,rfl,k2,by omega⟩
theorem aO (d:E8) (h:H_ d):∃ x d',Pl d=some (x,d')∧H_ d'∧x.2.2.2.2.2.length≤100:=by
 obtain ⟨v1,d1,e1,k1,_⟩:=AL 8 d h
 obtain ⟨v2,d2,e2,k2,_⟩:=AL 4 d1 k1
 obtain ⟨v3,d3,e3,k3,_⟩:=AL 4 d2 k2
 obtain ⟨v4,d4,e4,k4,_⟩:=AL 4 d3 k3
 obtain ⟨v5,d5,e5,k5,_⟩:=AL 6 d4 k4
 have J1:∀ (a:Int) (b:Bool) (z x:BL),x.2.2.2.2.2.length≤100→∃ x' d',HI a b d5 z x=some (x',d')∧H_ d'∧x'.2.2.2.2.2.length≤100:=fun a b z x hx=>by
  cases b with
  | true =>
   obtain ⟨y,d6,e6,k6,_,hl⟩:=Ny d5 k5
   exact ⟨_,_,LF (by unfold HJ; rw [if_pos rfl,e6,Option.bind_some]),k6,by show y.length≤100; omega⟩
  | false =>
   by_cases ha:a=5
   ·obtain ⟨y,d6,e6,k6,_⟩:=KF d5 k5
    exact ⟨_,_,LF (by unfold HJ; rw [if_neg (by simp),if_pos (by simpa using ha),e6,Option.bind_some]),k6,by show [y].length≤100; simp⟩
   ·exact ⟨_,_,LF (by unfold HJ; rw [if_neg (by simp),if_neg (by simpa using ha)]),k5,hx⟩
 have J0:∀ (z x:BL),x.2.2.2.2.2.length≤100→∃ x' d',LD d5 z x=some (x',d')∧H_ d'∧x'.2.2.2.2.2.length≤100:=fun z x hx=>by
  by_cases ha:x.1=2
  ·obtain ⟨x',d',e,k⟩:=J1 x.1 (x.1==2) z x hx
   exact ⟨x',d',Q8 (by unfold LE; rw [if_pos (by simpa using ha)]; exact e),k⟩
  ·obtain ⟨x',d',e,k⟩:=J1 x.1 (x.1==3) z x hx
   exact ⟨x',d',Q8 (by unfold LE; rw [if_neg (by simpa using ha)]; exact e),k⟩
 obtain ⟨x',d',e,k⟩:=J0 F5 (IntKind.i64.wrap (1+v1),IntKind.i64.wrap (1+v2),IntKind.i64.wrap (1+v3),IntKind.i64.wrap (1+v4),v5,[]) (by simp)
 refine ⟨x',d',gC ?_,k⟩
 unfold Vq
 rw [e1,Option.bind_some,e2,Option.bind_some,e3,Option.bind_some,e4,Option.bind_some,e5,Option.bind_some]
 exact e
theorem Va (d:E8) (h:H_ d):∃ x d',Kq d=some (x,d')∧H_ d'∧x.2.2.2.2.2.length≤100:=by
 obtain ⟨x,d1,e1,k1,hx⟩:=aO d h
 obtain ⟨v,d2,e2,k2,v0,v1⟩:=AL 20 d1 k1
 suffices g:∃ x' d',K5 d=some (x',d')∧H_ d'∧x'.2.2.2.2.2.length≤100 from by
  obtain ⟨x',d',e,k⟩:=g
  exact ⟨x',d',Zv e,k⟩
 unfold K5
 rw [e1,Option.bind_some,e2,Option.bind_some]
 dsimp only
 split
 ·obtain ⟨a,d3,e3,k3,_⟩:=B0 [0,1,2,5,9] (by simp) d2 k2
  rw [e3,Option.bind_some]
  exact ⟨_,_,rfl,k3,hx⟩
 ·split
  ·obtain ⟨a,d3,e3,k3,_⟩:=B0 [0,6,7] (by simp) d2 k2
   rw [e3,Option.bind_some]
   exact ⟨_,_,rfl,k3,hx⟩
  ·split
   ·obtain ⟨a,d3,e3,k3,_⟩:=B0 [0,9,10] (by simp) d2 k2
    rw [e3,Option.bind_some]
    exact ⟨_,_,rfl,k3,hx⟩
   ·split
    ·obtain ⟨a,d3,e3,k3,_⟩:=B0 [(-1),1000000000,1000000001] (by simp) d2 k2
     rw [e3,Option.bind_some]
     exact ⟨_,_,rfl,k3,hx⟩
    ·split
     ·obtain ⟨y,d3,e3,k3,hy⟩:=Tb d2 k2
      rw [e3,Option.bind_some]
      exact ⟨_,_,rfl,k3,hy⟩
     ·exact ⟨_,_,rfl,k2,hx⟩
theorem oO {g:BY} {k:Nat} (hg:Wz g k) {i:Nat} (hi:i<g.2.2.1.length):(g.2.2.1.getD i F5).2.2.2.2.2.length≤100:=by
 rw [Ad hi]
 have:=HK (hg.fly _ (List.getElem_mem hi)).items
 omega
theorem Wy (g:BY) (k:Nat) (hg:Wz g k) (m:AB) (d:E8) (h:H_ d):∃ x d',F3 g m d=some (x,d')∧H_ d'∧x.2.2.2.2.2.length≤100:=by
 obtain ⟨x,d1,e1,k1,hx⟩:=Va d h
 have J1:∀ (a:Bool) (d:E8) (z x:BL),H_ d→x.2.2.2.2.2.length≤100→∃ x' d',IM a d g m z x=some (x',d')∧H_ d'∧x'.2.2.2.2.2.length≤100:=fun a d z x hd hx=>by
  obtain ⟨v,d2,e2,k2,_⟩:=AL 2 d hd
  exact ⟨(x.1,x.2.1,x.2.2.1,IntKind.i64.wrap (m.2.1+v),m.2.2.2.2.2.2.2.2.2.2.2.1,x.2.2.2.2.2),d2,WR (by unfold Nd; rw [e2,Option.bind_some]),k2,hx⟩
 have J0:∀ (a:Bool) (d:E8) (z x:BL),(a=true→0<g.2.2.1.length)→H_ d→x.2.2.2.2.2.length≤100→∃ x' d',Fn a d g m z x=some (x',d')∧H_ d'∧x'.2.2.2.2.2.length≤100:=fun a d z x ha hd hx=>by
  cases a with
  | true =>
   have ha:=ha rfl
   obtain ⟨v,d2,e2,k2,v0,v1⟩:=AL (g.2.2.1.length:Int) d hd
   have v1:=v1 (by omega)
   refine ⟨g.2.2.1.getD v.toNat F5,d2,Nf (by unfold IN; rw [if_pos rfl,e2,Option.bind_some,if_pos v0,if_pos v1]; rfl),k2,oO hg (by omega)⟩
  | false =>
   obtain ⟨x',d',e,k⟩:=J1 false d z x hd hx
   exact ⟨x',d',Nf (by unfold IN; rw [if_neg (by simp)]; exact e),k⟩
 by_cases hf:0<g.2.2.1.length
 ·obtain ⟨o,d2,e2,k2⟩:=Ex 3 d1 k1
  obtain ⟨x',d',e,k⟩:=J0 (!o) d2 F5 (x.1,x.2.1,m.1,x.2.2.2) (fun _=>hf) k2 hx
  refine ⟨x',d',Su ?_,k⟩
  unfold ML
  rw [e1,Option.bind_some,if_pos (by simpa using hf),e2,Option.bind_some]
  exact e
 ·obtain ⟨x',d',e,k⟩:=J0 false d1 F5 (x.1,x.2.1,m.1,x.2.2.2) (fun h=>by cases h) k1 hx
  refine ⟨x',d',Su ?_,k⟩
  unfold ML
  rw [e1,Option.bind_some,if_neg (by simpa using hf)]
  exact e
theorem N6 (x:List Int) (hx:x.length≤1048576):∃ m v y,Fj x=some (m,v,y)∧IX m∧Vu v∧y.2.2.2.2.2.length≤100:=by
 obtain ⟨d,e0,k0⟩:=aH x (by unfold maxLen; omega)
 obtain ⟨g,d1,n,e1,k1,hg,hn⟩:=Wx x d hx k0
 have h6:=hg.six
 obtain ⟨v,d2,e2,k2,v0,v1⟩:=AL (g.2.1.length:Int) d1 k1
 have v1:=v1 (by omega)
 obtain ⟨y,d3,e3,k3,hy⟩:=Wy g n hg (Cp g v.toNat) d2 k2
 by_cases hc:1≤y.2.2.1∧y.2.2.1≤6
 ·refine ⟨Cp g (y.2.2.1-1).toNat,g.1,y,Jg ?_,(hg.mem _ (by omega)).1,hg.views,hy⟩
  unfold Fm
  rw [e0,Option.bind_some,e1,Option.bind_some,e2,Option.bind_some,if_pos v0,if_pos v1]
  change ((F3 g (Cp g v.toNat) d2).bind _)=_
  rw [e3,Option.bind_some]
  dsimp only
  rw [Ah,Option.bind_some,if_pos (by rw [h6]; simp; omega),AZ (by omega),if_pos (by omega),if_pos (by omega)]
  rfl
 ·refine ⟨Cp g v.toNat,g.1,y,Jg ?_,(hg.mem _ (by omega)).1,hg.views,hy⟩
  unfold Fm
  rw [e0,Option.bind_some,e1,Option.bind_some,e2,Option.bind_some,if_pos v0,if_pos v1]
  change ((F3 g (Cp g v.toNat) d2).bind _)=_
  rw [e3,Option.bind_some]
  dsimp only
  rw [Ah,Option.bind_some,if_neg (by rw [h6]; simp; omega)]
  rfl
end Go.Proofs.YtaedipailemlcaaGreat.Core

namespace Go.Proofs.YtaedipailemlcaaGreat.Core
open Go
set_option linter.unusedVariables false
set_option linter.unusedSimpArgs false
theorem gG (x:List Int):WK x=some (decide ((x.length:Int)>1048576)):=jy rfl
end Go.Proofs.YtaedipailemlcaaGreat.Core

namespace Go.Proofs.YtaedipailemlcaaGreat.Core
open Go
set_option linter.unusedVariables false
set_option linter.unusedSimpArgs false
theorem ib (x:List AT) {k k2:ByteArray} (h:k.toList=k2.toList):Fa x k=Fa x k2:=by
 unfold Fa
 rw [h]
theorem oP {x:List AT} {a b:AT} (hx:Az x=true) (hb:b∈x):b.2.2≤(Fa (Cb x a) b.1).2.2:=by
 have ho:=(Lz.1 hx).2.1
 have same:b.2.2≤(Fa x b.1).2.2:=by rw [Rz ho hb]; exact Int.le_refl _
 unfold Cb
 split
 ·exact same
 ·rename_i hs
  try rw [if_pos hx]
  split
  ·rename_i hl
   have ho':=(Lz.1 hl).2.1
   cases hk:(b.1.toList==a.1.toList) with
   | false=>rw [Rz ho' (j4 hb hk)]; exact Int.le_refl _
   | true =>
    rw [ib _ (beq_iff_eq.1 hk),Rz ho' mt]
    have:¬ (b.2.2≥a.2.2):=fun h=>hs (List.any_eq_true.2 ⟨b,hb,by rw [hk]; simpa using h⟩)
    omega
  ·exact same
theorem ic (m:AB) (f:Int):(Du m f).1.2.2.2.1=m.2.2.2.1∧(Du m f).1.2.1=m.2.1∧((Du m f).1.2.2.2.2.2.2.2.1=m.2.2.2.2.2.2.2.1∨∃ a,(Du m f).1.2.2.2.2.2.2.2.1=Cb m.2.2.2.2.2.2.2.1 a):=by
 unfold Du
 split
 ·unfold Ez
  split
  ·exact ⟨rfl,rfl,.inr ⟨_,rfl⟩⟩
  ·exact ⟨rfl,rfl,.inl rfl⟩
 ·exact ⟨rfl,rfl,.inl rfl⟩
theorem pL {α:Sort _} {c:Prop} [Decidable c] (a b:α):(if c then a else b)=a∨(if c then a else b)=b:=by
 by_cases h:c
 ·exact .inl (if_pos h)
 ·exact .inr (if_neg h)
theorem ln (m:AB) (view:List Int) (x:BL) (hb:m.2.2.2.1=true):(TZ m view x).1.2.2.2.1=true∧((TZ m view x).1.2.2.2.2.2.2.2.1=m.2.2.2.2.2.2.2.1∨∃ a,(TZ m view x).1.2.2.2.2.2.2.2.1=Cb m.2.2.2.2.2.2.2.1 a):=by
 unfold TZ
 by_cases k2:x.1=2
 ·rw [if_pos k2,if_neg (by rw [hb]; simp)]; exact ⟨hb,.inl rfl⟩
 rw [if_neg k2]
 by_cases k3:x.1=3
 ·rw [if_pos k3]
  split
  ·exact ⟨hb,.inl rfl⟩
  ·rw [if_neg (by rw [hb]; simp)]
   first | exact ⟨hb,.inl rfl⟩ | (rw [if_pos hb]; exact ⟨hb,.inl rfl⟩)
 rw [if_neg k3]
 by_cases k4:x.1=4
 ·rw [if_pos k4]
  split
  ·exact ⟨hb,.inl rfl⟩
  ·exact ⟨hb,.inl rfl⟩
 rw [if_neg k4]
 by_cases k5:x.1=5
 ·rw [if_pos k5,if_pos hb]; exact ⟨hb,.inr ⟨_,rfl⟩⟩
 rw [if_neg k5]
 by_cases k7:x.1=7
 ·rw [if_pos k7,if_pos hb]; exact ⟨hb,.inl rfl⟩
 rw [if_neg k7]
 rcases pL (c:=(x.1=6∨x.1=8)∧m.2.2.2.2.2.2.2.2.2.1=(if x.1=8 then 2 else 1)∧m.2.2.2.2.2.2.2.2.2.2.2.1=x.2.2.2.2.1) (Du m x.2.1) ((m,[],[]):AB×List BL×List DR) with h | h
 ·rw [h]
  obtain ⟨h1,_,h2⟩:=ic m x.2.1
  exact ⟨h1.trans hb,h2⟩
 ·rw [h]; exact ⟨hb,.inl rfl⟩
theorem j7 (m:AB) (views:List (List Int)) (x:BL) (hb:m.2.2.2.1=true) (he:(C1 m views x).1.2.1=m.2.1) :
  (C1 m views x).1.2.2.2.1=true∧((C1 m views x).1.2.2.2.2.2.2.2.1=m.2.2.2.2.2.2.2.1∨∃ a,(C1 m views x).1.2.2.2.2.2.2.2.1=Cb m.2.2.2.2.2.2.2.1 a):=by
 unfold C1 at he ⊢
 split at he
 ·rename_i hc
  rw [if_pos hc]
  split at he
  ·rename_i h1
   rw [if_pos h1]
   exact ln m _ x hb
  ·rename_i h1
   rw [if_neg h1]
   split at he
   ·exact absurd he h1
   ·rename_i h2
    rw [if_neg h2]
    split at he
    ·exact absurd he h1
    ·rename_i h3
     rw [if_neg h3]
     exact ⟨hb,.inl rfl⟩
 ·rename_i hc
  rw [if_neg hc]
  exact ⟨hb,.inl rfl⟩
theorem pl {m:AB} {view:List Int} {x:BL} (h:x.1=3):TZ m view x=if (!view.contains m.1||(view.getD 0 0==m.1))=true then (m,[],[]) else if (!m.2.2.2.1&&m.2.2.1)=true then (m,[],[])
  else if m.2.2.2.1=true then (m,DZ m x 4,[]) else
   ((m.1,m.2.1,false,true,false,false,([]:List Int),x.2.2.2.2.2,(0:Int),(0:Int),(0:Int),(0:Int),(ByteArray.empty,ByteArray.empty,(0:Int)),([]:List Int)),DZ m x 4,[]):=by
 unfold TZ
 rw [if_neg (by omega),if_pos h]
theorem m_ (m:AB) (views:List (List Int)) (x:BL):(Is m views x).1=(C1 m views x).1∧(Is m views x).2.1.length=(C1 m views x).2.1.length∧(Is m views x).2.2=(C1 m views x).2.2:=by
 unfold Is
 cases hmo:Nz x with
 | false =>
  rw [if_neg (by simp)]
  unfold C1
  rw [if_neg (by simp [hmo])]
  exact ⟨rfl,rfl,rfl⟩
 | true =>
  rw [if_pos rfl]
  by_cases k3:x.1=3
  case neg=>rw [cf k3]; exact ⟨rfl,rfl,rfl⟩
  have hx:=R2.1 hmo
  have hf:iZ x=(x.1,x.2.1,x.2.2.1,x.2.2.2.1,0,x.2.2.2.2.2):=if_pos k3
  have hmo2:Nz (x.1,x.2.1,x.2.2.1,x.2.2.2.1,0,x.2.2.2.2.2)=true:=R2.2 ⟨hx.kind,hx.frm,hx.to,hx.ep,(show (0:Int)≤0∧(0:Int)≤1000000000 from by decide),hx.items,hx.shape⟩
  rw [hf]
  unfold C1
  rw [hmo2,hmo]
  dsimp only
  split
  ·split
   ·rw [pl k3,pl (x:=(x.1,x.2.1,x.2.2.1,x.2.2.2.1,0,x.2.2.2.2.2)) k3]
    split
    ·exact ⟨rfl,rfl,rfl⟩
    ·split
     ·exact ⟨rfl,rfl,rfl⟩
     ·split<;>exact ⟨rfl,rfl,rfl⟩
   ·split
    ·exact ⟨rfl,rfl,rfl⟩
    ·split<;>exact ⟨rfl,rfl,rfl⟩
  ·exact ⟨rfl,rfl,rfl⟩
theorem nA {m:AB} {views:List (List Int)} {x:BL} (hm:IX m) (hv:Vu views):cc m (Is m views x):=by
 unfold Is
 split
 ·exact fN hm hv
 ·exact E6 hm
theorem gH (m:AB):Lo m=some (Uu m):=jP rfl
theorem gI (x) (hx:Kd.ok (.slice (.int .u8)) x):Qd x=some true:=ZO (by
 unfold Qe
 rw [gG,Option.bind_some]
 by_cases hbig:x.length≤1048576
 case neg=>rw [if_pos (by simp; omega)]
 rw [if_neg (by simp; omega)]
 obtain ⟨m,v,y,e,hm,hv,hy⟩:=N6 x hbig
 obtain ⟨f1,f2,f3⟩:=m_ m v y
 have hI:=nA (x:=y) hm hv
 have hep:=hm.ep
 rw [e,Option.bind_some]
 dsimp only
 rw [Yh m v y hm hv (by omega),Option.bind_some,Pe m v y hm hv (by omega),Option.bind_some,Fy hm,Option.bind_some,if_pos (by rfl),Fy hI.mok,Option.bind_some,if_pos (by rfl),
  if_pos (by rw [f2]; simp),if_pos (by rw [f3]; simp),if_pos (decide_eq_false (by have:=hI.ep; omega)),if_neg (by rw [hI.id]; simp)]
 refine VO ?_
 unfold Mj
 have hkeep:(Is m v y).1.2.1=m.2.1→m.2.2.2.1=true→(Is m v y).1.2.2.2.1=true∧((Is m v y).1.2.2.2.2.2.2.2.1=m.2.2.2.2.2.2.2.1∨∃ a,(Is m v y).1.2.2.2.2.2.2.2.1=Cb m.2.2.2.2.2.2.2.1 a):=by
  rw [f1]
  exact fun h hb=>j7 m v y hb h
 generalize (Is m v y)=r at hI hkeep
 generalize (C1 m v y).1=s
 obtain ⟨n,told,said⟩:=r
 dsimp only at hI hkeep ⊢
 have l12:=HK hm.items
 have n12:n.2.2.2.2.2.2.2.1.length≤12:=HK hI.mok.items
 have J4:∀ b,FB b m y n s=some true:=fun b=>VM (by
  unfold Mh
  rw [gH,Option.bind_some,Fy hI.mok.fall1,Option.bind_some,if_pos rfl,Option.bind_some,if_pos (by simp [Uu]),Option.bind_some]
  rfl)
 have J2:HT m y n s=some true:=VN (by
  unfold Mi
  by_cases c1:n.2.1=m.2.1
  ·rw [if_pos (by simpa using c1)]
   by_cases c2:m.2.2.2.1=true
   ·obtain ⟨h1,h2⟩:=hkeep c1 c2
    rw [if_pos c2]
    refine Gy (n:=m.2.2.2.2.2.2.2.1.length) (P:=fun i=>FA (i:Int) m y n s=some true) (Mk (by
     unfold HU
     rw [if_neg (by simp),h1])) (fun i hi ih=>Mk (by
     unfold HU
     rw [if_pos (by simpa using hi),if_pos (by omega),if_pos (by omega),Int.toNat_natCast,Ad hi,RE _ _ (by unfold maxLen; omega),Option.bind_some,if_pos (by omega),if_pos (by omega),if_neg ?_,AR (show i<9223372036854775807 by omega)]
     ·exact ih
     ·have hm':m.2.2.2.2.2.2.2.1[i]∈m.2.2.2.2.2.2.2.1:=List.getElem_mem hi
      rw [decide_eq_true_eq]
      rcases h2 with h2 | ⟨a,h2⟩
      ·rw [h2,Rz (Lz.1 hm.items).2.1 hm']; omega
      ·rw [h2]
       have:=oP (a:=a) hm.items hm'
       omega)) 0 (by omega)
   ·rw [if_neg c2]; exact J4 _
  ·rw [if_neg (by simpa using c1)]; exact J4 _)
 have htl:=hI.tlen
 dsimp only at htl
 refine Gy (n:=told.length) (P:=fun i=>FC told (i:Int) m y n s=some true) (Ml (by
  unfold HV
  rw [if_neg (by simp)]
  exact J2)) (fun i hi ih=>Ml (by
  unfold HV
  obtain ⟨o1,o2,o3⟩:=hI.told told[i] (List.getElem_mem hi)
  have:=HK o1.items
  dsimp only at o2 o3
  rw [if_pos (by simpa using hi),if_pos (by omega),if_pos (by omega),Int.toNat_natCast,Ad hi,TE _ (by unfold maxLen; omega),R2.2 o1,Option.bind_some,if_neg (by simp),if_pos (by omega),if_pos (by omega),if_neg (by rw [o2]; simp),if_pos (by omega),if_pos (by omega),if_neg (by rw [o3]; simp),AR (by omega)]
  exact ih)) 0 (by omega))
end Go.Proofs.YtaedipailemlcaaGreat.Core

namespace Go.Proofs.YtaedipailemlcaaGreat.Core
open Go
theorem nB {P:Program} {c:List Char} {rest:List (List Char)} (h:behindMainWord (wordsSigns P.initOrder.toList)=c::rest) (h1:(c == "gc".toList||c == "spec".toList)=false) (h2:(c == "cut".toList||(c == "finals".toList&&rest.head? == some "cut".toList))=true):P.make=some .cut:=by
 unfold Program.make
 rw [h]
 simp only [h1,h2]
 rfl
theorem nC {P:Program} {c:List Char} {rest:List (List Char)} (h:behindMainWord (wordsSigns P.initOrder.toList)=c::rest) (h1:((stripLifts liftWords (c::rest)).2.head? == some "cut".toList)=true) (h2:(stripLifts liftWords (c::rest)).1=[])
  (h3:P.laysLater=false) (h4:P.bearsReflect=false) (h5:P.doorFits []=true):P.mayEnter=true:=by
 unfold Program.mayEnter
 rw [h]
 simp only [h1,h2,h3,h4,h5]
 simp
theorem nD {P:Program} {c:List Char} {rest:List (List Char)} (h:behindMainWord (wordsSigns P.initOrder.toList)=c::rest) (h1:(c == "carried".toList)=false) (h2:(stripLifts liftWords (c::rest)).1=[]):P.liftsFinal=false:=by
 have e:(some c==some "carried".toList)=false:=h1
 unfold Program.liftsFinal Program.headLifts
 rw [h]
 simp only [List.head?_cons,e,h2]
 simp
theorem Ia {a b:Bool} (h:a=true) (g:b=true):(a&&b)=true:=by rw [h,g]; rfl
theorem nE {α:Type} [BEq α] [LawfulBEq α] {a b:α} (h:a=b):(a==b)=true:=by rw [h]; exact beq_self_eq_true b
end Go.Proofs.YtaedipailemlcaaGreat.Core

namespace Go.Proofs.YtaedipailemlcaaGreat.Core
open Go
set_option maxRecDepth 100000
def qF:List Nat:=[104,97,114,110,101,115,115,32,98,50,99,51,48,48,98,97,49,48,99,99,50,54,56,50,57,101,51,51,54,56,98,54,101,51,100,99,99,51,56,98,50,51,98,101,98,50,56,100,50,52,48,100,48,100,102,97,53,53,52,49,102,57,53,54,56,101,56,100,55,48,99,55,32,99,117,116,32,97,116,32,108,111,111,112,46,101,120,97,109,112,108,101,47,103,48,48,49,56,48,47,108,97,119,115,46,70,110,77,101,109,98,101,114,115,32,108,111,111,112,46,101,120,97,109,112,108,101,47,103,48,48,49,56,48,47,108,97,119,115,46,70,110,83,101,97,108,115,32,108,111,111,112,46,101,120,97,109,112,108,101,47,103,48,48,49,56,48,47,108,97,119,115,46,70,110,66,101,103,105,110,115]
def qG:List Nat:=[99,117,116]
def qH:List (List Nat):=[[97,116],[108,111,111,112,46,101,120,97,109,112,108,101,47,103,48,48,49,56,48,47,108,97,119,115,46,70,110,77,101,109,98,101,114,115],[108,111,111,112,46,101,120,97,109,112,108,101,47,103,48,48,49,56,48,47,108,97,119,115,46,70,110,83,101,97,108,115],[108,111,111,112,46,101,120,97,109,112,108,101,47,103,48,48,49,56,48,47,108,97,119,115,46,70,110,66,101,103,105,110,115]]
theorem io:Tryz.prog.initOrder.toList=qF.map Char.ofNat:=(congrArg String.toList (show Tryz.prog.initOrder=String.ofList (qF.map Char.ofNat) from by kernel_rfl)).trans String.toList_ofList
theorem qC:behindMainWord (wordsSigns Tryz.prog.initOrder.toList)=qG.map Char.ofNat::qH.map fun w=>w.map Char.ofNat:=by
 rw [io]
 kernel_rfl
theorem qD:Tryz.prog.make=some .cut:=nB qC (by kernel_rfl) (by kernel_rfl)
theorem pM:Tryz.prog.mayEnter=true:=nC qC (by kernel_rfl) (by kernel_rfl) (by kernel_rfl) (by kernel_rfl) (by kernel_rfl)
theorem oQ:Tryz.prog.liftsFinal=false:=nD qC (by kernel_rfl) (by kernel_rfl)
theorem jY:laidOutB Tryz.prog=true:=by kernel_rfl
theorem j8:mapsRowed Tryz.prog=true:=by kernel_rfl
theorem pN:Tryz.prog.stopsHeard=true:=by kernel_rfl
end Go.Proofs.YtaedipailemlcaaGreat.Core
