/- Texts of the proof, packed: part 5. -/
import Derived.Test.YtokiohnjegbnpaaGreatP3
import Derived.JoinedOf
import Derived.Test.YtokiohnjegbnpaaGreatRows
import Derived.ProofKit
set_option linter.unusedVariables false
set_option linter.unusedSimpArgs false
namespace Go.Proofs.YtokiohnjegbnpaaGreat.Core
open Go
set_option linter.unusedVariables false
set_option linter.unusedSimpArgs false
abbrev Q3:Type:=Int×ByteArray×ByteArray×Int×Int×Int×Int×Int×ByteArray
abbrev An:Type:=List (List Int)×List Z×List BT×List Q3
abbrev Fj:Type:=Int×Int×Int×Int×ByteArray×ByteArray
def Ep:Q3:=((0:Int),ByteArray.empty,ByteArray.empty,(0:Int),(0:Int),(0:Int),(0:Int),(0:Int),ByteArray.empty)
def Ds:BT:=((0:Int),(0:Int),(0:Int),(0:Int),(0:Int),([]:List AQ))
def Az (g:An) (i:Nat):Z:=g.2.1.getD i Im
structure Sq (g:An) (n:Nat):Prop where
 views:RJ g.1
 six:g.2.1.length=6
 mem:∀ i,i<6→IV (Az g i)∧(Az g i).1=(i:Int)+1
 fly:∀ x∈g.2.2.1,qC x
 flen:g.2.2.1.length≤8*n
 clen:g.2.2.2.length≤n
def Ww (at_:Int) (s:C9) (c:Q3):Q3 :=
 (c.1,c.2.1,c.2.2.1,c.2.2.2.1,at_,s.2.2.2.2.2,s.2.1,s.2.2.1,if (c.1==2)=true then s.2.2.2.2.1 else c.2.2.2.2.2.2.2.2)
def IH (at_:Int) (cs:List Q3) (s:C9):List Q3 :=
 if (decide (s.1≥(cs.length:Int))||decide ((cs.getD s.1.toNat Ep).2.2.2.2.1≥0))=true then cs else cs.set s.1.toNat (Ww at_ s (cs.getD s.1.toNat Ep))
def Ez (g:An) (n:Z) (told:List BT) (said:List C9) (at_:Int):An :=
 (g.1,g.2.1.set (n.1-1).toNat n,g.2.2.1++told,said.foldl (IH at_) g.2.2.2)
theorem ou (at_:Int) (cs:List Q3) (s:C9):(IH at_ cs s).length=cs.length:=by unfold IH; split<;>simp
theorem Y4 (at_:Int):∀ (said:List C9) (cs:List Q3),(said.foldl (IH at_) cs).length=cs.length
 | [],cs=>rfl
 | s::l,cs=>by rw [List.foldl_cons,Y4 at_ l,ou]
theorem lX {α:Type} {l:List α} {i:Nat} {a d:α} (h:i<l.length):(l.set i a).getD i d=a:=by simp [List.getD,h]
theorem Ft (n:Z) (told:List BT) (said:List C9) (at_:Int) (g:An) (hn:1≤n.1∧n.1≤6) (h6:g.2.1.length=6) (hf:g.2.2.1.length+told.length≤68719476736) (hc:g.2.2.2.length≤68719476736) (hs:dY said) :
  EV n told said at_ g=some (Ez g n told said at_):=cg (by
 have hsl:=hs.1
 unfold SF
 rw [AX (show -9223372036854775808≤n.1-1∧n.1-1≤9223372036854775807 by omega)]
 simp only [List.nil_append,List.length_nil,Nat.zero_add]
 rw [if_pos (by omega),if_pos (by omega),if_pos (by omega),if_pos (by omega),if_pos (by omega)]
 have key:=G7 (n:=said.length) (P:=fun i=>∀ (cs:List Q3),cs.length≤68719476736→CN said at_ (i:Int) (g.1,g.2.1.set (n.1-1).toNat n,g.2.2.1++told,cs) n (g.2.1.set (n.1-1).toNat n) (g.2.2.1++told)=some (g.1,g.2.1.set (n.1-1).toNat n,g.2.2.1++told,(said.drop i).foldl (IH at_) cs)) (fun cs hcs=>N7 (by
  unfold IQ
  rw [if_neg (by simp)]
  simp)) (fun i hi ih cs hcs=>N7 (by
  unfold IQ
  have hz:said.getD i ((0:Int),(0:Int),(0:Int),ByteArray.empty,ByteArray.empty,(0:Int))=said[i]:=AY hi
  have h0:=(hs.2 said[i] (List.getElem_mem hi)).1
  simp only [show ((i:Int)<(said.length:Int)) from by omega,decide_true,if_true,show (0:Int)≤(i:Int) from by omega,Int.toNat_natCast,hz,AU (show i<9223372036854775807 by omega)]
  have hz3:cs.getD said[i].1.toNat ((0:Int),ByteArray.empty,ByteArray.empty,(0:Int),(0:Int),(0:Int),(0:Int),(0:Int),ByteArray.empty)=cs.getD said[i].1.toNat Ep:=rfl
  rw [Bt hi,List.foldl_cons,hz3]
  by_cases c1:said[i].1≥(cs.length:Int)
  ·rw [if_pos (by simpa using c1),ih cs hcs]
   have:IH at_ cs said[i]=cs:=by unfold IH; rw [if_pos (by simp [c1])]
   rw [this]
  ·rw [if_neg (by simpa using c1),if_pos (by omega),if_pos (by omega)]
   by_cases c2:(cs.getD said[i].1.toNat Ep).2.2.2.2.1≥0
   ·rw [if_pos (show decide ((cs.getD said[i].1.toNat Ep).2.2.2.2.1≥0)=true from decide_eq_true c2),ih cs hcs]
    have:IH at_ cs said[i]=cs:=by unfold IH; rw [if_pos (by rw [decide_eq_true c2,Bool.or_true])]
    rw [this]
   ·rw [if_neg (show ¬ decide ((cs.getD said[i].1.toNat Ep).2.2.2.2.1≥0)=true from fun h=>c2 (of_decide_eq_true h))]
    have hcl:said[i].1.toNat<cs.length:=by omega
    have e:IH at_ cs said[i]=cs.set said[i].1.toNat (Ww at_ said[i] (cs.getD said[i].1.toNat Ep)):=by unfold IH; rw [if_neg (by rw [decide_eq_false c1,decide_eq_false c2]; simp)]
    rw [e]
    refine XY ?_
    unfold N6
    have hz2:∀ (l:List Q3),l.getD said[i].1.toNat ((0:Int),ByteArray.empty,ByteArray.empty,(0:Int),(0:Int),(0:Int),(0:Int),(0:Int),ByteArray.empty)=l.getD said[i].1.toNat Ep:=fun l=>rfl
    simp only [List.nil_append,List.length_nil,Nat.zero_add,hz2,lX hcl,List.set_set,List.length_set]
    have hk:∀ r,(if cs.length≤68719476736 then r else (none:Option An))=r:=fun r=>if_pos hcs
    rw [if_pos (show cs.length≤68719476736 from hcs),if_pos (show (0:Int)≤said[i].1 from h0),if_pos (show said[i].1<(cs.length:Int) by omega),AU (show i<9223372036854775807 by omega)]
    unfold Ww
    by_cases c3:(cs.getD said[i].1.toNat Ep).1=2
    ·rw [if_pos (show ((cs.getD said[i].1.toNat Ep).1==2)=true by simpa using c3),if_pos (show ((cs.getD said[i].1.toNat Ep).1==2)=true by simpa using c3)]
     exact ih _ (by simpa using hcs)
    ·rw [if_neg (show ¬ ((cs.getD said[i].1.toNat Ep).1==2)=true by simpa using c3),if_neg (show ¬ ((cs.getD said[i].1.toNat Ep).1==2)=true by simpa using c3)]
     exact ih _ (by simpa using hcs))) 0 (by omega) g.2.2.2 hc
 exact key)
theorem mj {g:An} {n:Z} {told:List BT} {said:List C9} {at_:Int} {i j:Nat} (h6:g.2.1.length=6) (hj:j<6) (hn:n.1=(i:Int)+1) (hi:i<6):Az (Ez g n told said at_) j=if j=i then n else Az g j:=by
 unfold Az Ez
 simp only [hn,show ((i:Int)+1-1).toNat=i from by omega]
 by_cases e:j=i
 ·subst e
  rw [if_pos rfl]
  exact lX (by omega)
 ·rw [if_neg e]
  simp [List.getD,List.getElem?_set,Ne.symm e]
theorem Sq.member {g:An} {k:Nat} (h:Sq g k) {n:Z} {told:List BT} {said:List C9} {at_:Int} {i:Nat} (hi:i<6) (hn:IV n) (hid:n.1=(i:Int)+1) (ht:∀ y∈told,qC y) (hl:told.length≤4):Sq (Ez g n told said at_) (k+1):=by
 refine ⟨h.views,by simp [Ez,h.six],fun j hj=>?_,fun x hx=>?_,?_,?_⟩
 ·rw [mj h.six hj hid hi]
  split
  ·rename_i e
   subst e
   exact ⟨hn,hid⟩
  ·exact h.mem j hj
 ·rcases List.mem_append.1 hx with h1 | h1
  ·exact h.fly x h1
  ·exact ht x h1
 ·have:=h.flen
  simp only [Ez,List.length_append]
  omega
 ·have:=h.clen
  simp only [Ez,Y4]
  omega
def LH (g:An) (at_:Int) (e:Fj):An:=(g.1,g.2.1,g.2.2.1,g.2.2.2++[(e.2.2.2.1,e.2.2.2.2.1,e.2.2.2.2.2,at_,-1,0,0,0,ByteArray.empty)])
def Nd (g:An) (at_:Int) (e:Fj):Int×An :=
 if (DA (Az g (e.2.1-1).toNat) g.1 e.2.2.2.1 (g.2.2.2.length:Int) e.2.2.2.2.1 e.2.2.2.2.2).2.2.2=true then
  (0,Ez (LH g at_ e) (DA (Az g (e.2.1-1).toNat) g.1 e.2.2.2.1 (g.2.2.2.length:Int) e.2.2.2.2.1 e.2.2.2.2.2).1 (DA (Az g (e.2.1-1).toNat) g.1 e.2.2.2.1 (g.2.2.2.length:Int) e.2.2.2.2.1 e.2.2.2.2.2).2.1 (DA (Az g (e.2.1-1).toNat) g.1 e.2.2.2.1 (g.2.2.2.length:Int) e.2.2.2.2.1 e.2.2.2.2.2).2.2.1 at_)
 else (1,LH g at_ e)
theorem lY {e:Fj} (h:LP e=true):1≤e.1∧e.1≤6∧1≤e.2.1∧e.2.1≤6∧0≤e.2.2.1:=by
 unfold LP at h
 simp only [Bool.and_eq_true,decide_eq_true_eq] at h
 omega
theorem Sq.told {g:An} {k:Nat} (h:Sq g k):True:=trivial
theorem qD {m n:Z} {l:List BT} (h:Y3 m n l):∀ y∈l,qC y:=fun y hy=>(h y hy).1
theorem Y5 (at_:Int) (e:Fj) (g:An) (k:Nat) (hg:Sq g k) (hk:k≤1000) (hn:1≤e.2.1∧e.2.1≤6):NN at_ e g=some (Nd g at_ e)∧Sq (Nd g at_ e).2 (k+1)∧(Nd g at_ e).2.1=g.1:=by
 have hc:=hg.clen
 have hf:=hg.flen
 have h6:=hg.six
 have wn:IntKind.i64.wrap (e.2.1-1)=e.2.1-1:=AX (by omega)
 have wl:IntKind.i64.wrap (((g.2.2.2.length+1:Nat):Int)-1)=(g.2.2.2.length:Int):=by rw [AX (by omega)]; omega
 obtain ⟨m1,m2⟩:=hg.mem (e.2.1-1).toNat (by omega)
 have hb:=da (op:=e.2.2.2.1) (call:=(g.2.2.2.length:Int)) (key:=e.2.2.2.2.1) (val:=e.2.2.2.2.2) m1 hg.views
 refine ⟨fI ?_,?_,?_⟩
 ·unfold UT Nd
  simp only [List.nil_append,List.length_nil,Nat.zero_add,List.length_append,List.length_cons]
  rw [if_pos (by omega),if_pos (by omega),wn,if_pos (by omega),if_pos (by omega),wl,
   show g.2.1.getD (e.2.1-1).toNat ((0:Int),(0:Int),false,false,false,false,([]:List Int),([]:List AQ),(0:Int),(0:Int),(0:Int),(0:Int),(ByteArray.empty,ByteArray.empty,(0:Int)),([]:List Int))=Az g (e.2.1-1).toNat from rfl,
   f5 _ _ _ _ _ _ m1 hg.views,Option.bind_some]
  cases hq:(DA (Az g (e.2.1-1).toNat) g.1 e.2.2.2.1 (g.2.2.2.length:Int) e.2.2.2.2.1 e.2.2.2.2.2).2.2.2 with
  | false=>rfl
  | true =>
   have hid:=hb.id hq
   have hmo:=hb.mok hq
   have htl:=hb.tlen
   rw [if_neg (by simp),if_pos rfl]
   have:=Ft (DA (Az g (e.2.1-1).toNat) g.1 e.2.2.2.1 (g.2.2.2.length:Int) e.2.2.2.2.1 e.2.2.2.2.2).1 (DA (Az g (e.2.1-1).toNat) g.1 e.2.2.2.1 (g.2.2.2.length:Int) e.2.2.2.2.1 e.2.2.2.2.2).2.1 (DA (Az g (e.2.1-1).toNat) g.1 e.2.2.2.1 (g.2.2.2.length:Int) e.2.2.2.2.1 e.2.2.2.2.2).2.2.1 at_ (LH g at_ e) hmo.id h6 (by show g.2.2.1.length+_≤_; omega) (by simp only [LH,List.length_append,List.length_cons,List.length_nil]; omega) hb.said
   unfold LH at this ⊢
   rw [this]
   rfl
 ·unfold Nd
  have hgc:∀ (P:An→Prop),P (LH g at_ e)→P (LH g at_ e):=fun _ h=>h
  split
  ·rename_i hq
   have hid:=hb.id hq
   have hmo:=hb.mok hq
   have htl:=hb.tlen
   have hm:=hg.member (said:=(DA (Az g (e.2.1-1).toNat) g.1 e.2.2.2.1 (g.2.2.2.length:Int) e.2.2.2.2.1 e.2.2.2.2.2).2.2.1) (at_:=at_) (i:=(e.2.1-1).toNat) (by omega) hmo (by rw [hid,m2]) (qD (hb.told hq)) htl
   exact ⟨hm.views,hm.six,hm.mem,hm.fly,hm.flen,by simp only [Ez,Y4,LH,List.length_append,List.length_cons,List.length_nil]; omega⟩
  ·exact ⟨hg.views,hg.six,hg.mem,hg.fly,by have:=hg.flen; show g.2.2.1.length≤_; omega,by simp only [LH,List.length_append,List.length_cons,List.length_nil]; omega⟩
 ·unfold Nd; split<;>rfl
end Go.Proofs.YtokiohnjegbnpaaGreat.Core

namespace Go.Proofs.YtokiohnjegbnpaaGreat.Core
open Go
set_option linter.unusedVariables false
set_option linter.unusedSimpArgs false
def LI (g:An) (at_:Int) (m:Z) (node:Int):Nat→Int→Int×An
 | 0,_=>(1,g)
 | k+1,e=>if ((g.1.getD (e-1).toNat []).getD 0 0 != node)=true then LI g at_ m node k (e+1)
  else if (E6 m g.1 e).2.2=true then (0,Ez g (E6 m g.1 e).1 (E6 m g.1 e).2.1 [] at_) else (1,g)
def Wx (g:An) (at_ node:Int):Int×An:=LI g at_ (Az g (node-1).toNat) node ((g.1.length:Int)-(Az g (node-1).toNat).2.1).toNat ((Az g (node-1).toNat).2.1+1)
theorem Sq.up {g:An} {k:Nat} (h:Sq g k):Sq g (k+1):=⟨h.views,h.six,h.mem,h.fly,by have:=h.flen; omega,by have:=h.clen; omega⟩
theorem Y6 (at_ node:Int) (g:An) (k:Nat) (hg:Sq g k) (hk:k≤1000) (hn:1≤node∧node≤6):NO at_ node g=some (Wx g at_ node)∧Sq (Wx g at_ node).2 (k+1)∧(Wx g at_ node).2.1=g.1:=by
 have hc:=hg.clen
 have hf:=hg.flen
 have h6:=hg.six
 have hvl:=hg.views.len
 have wn:IntKind.i64.wrap (node-1)=node-1:=AX (by omega)
 obtain ⟨m1,m2⟩:=hg.mem (node-1).toNat (by omega)
 have hep:=m1.ep
 have wm:IntKind.i64.wrap ((Az g (node-1).toNat).2.1+1)=(Az g (node-1).toNat).2.1+1:=AX (by omega)
 have key:∀ (j:Nat) (e:Int),e=(g.1.length:Int)+1-(j:Int)→2≤e→Gd at_ node e g (Az g (node-1).toNat)=some (LI g at_ (Az g (node-1).toNat) node j e)∧Sq (LI g at_ (Az g (node-1).toNat) node j e).2 (k+1)∧(LI g at_ (Az g (node-1).toNat) node j e).2.1=g.1:=by
  intro j
  induction j with
  | zero =>
   intro e he h2
   refine ⟨JO ?_,hg.up,rfl⟩
   unfold Ge
   rw [if_neg (by simp; omega)]
   rfl
  | succ j ih =>
   intro e he h2
   have we:IntKind.i64.wrap (e-1)=e-1:=AX (by omega)
   have we2:IntKind.i64.wrap (e+1)=e+1:=AX (by omega)
   have gv:=hg.views.get (i:=(e-1).toNat) (by omega)
   have ha:=db (e:=e) m1 hg.views
   obtain ⟨i1,i2,i3⟩:=ih (e+1) (by omega) (by omega)
   unfold LI
   refine ⟨JO ?_,?_,?_⟩
   ·unfold Ge
    rw [if_pos (by simp; omega),we,we2,if_pos (by omega),if_pos (by omega),if_pos (by omega),if_pos (by omega),show (g.1.getD (e-1).toNat ([]:List Int)).getD (0:Int).toNat 0=(g.1.getD (e-1).toNat []).getD 0 0 from rfl]
    by_cases h3:((g.1.getD (e-1).toNat []).getD 0 0 != node)=true
    ·rw [if_pos h3,if_pos h3,i1]
    ·rw [if_neg h3,if_neg h3,f7 _ _ _ m1 hg.views,Option.bind_some]
     cases hq:(E6 (Az g (node-1).toNat) g.1 e).2.2 with
     | false=>rfl
     | true =>
      obtain ⟨a1,a2,a3,a4⟩:=ha hq
      rw [if_neg (by simp),if_pos rfl,Ft _ _ _ _ _ a1.id h6 (by omega) (by omega) Eo]
      rfl
   ·split
    ·exact i2
    ·split
     ·rename_i hq
      obtain ⟨a1,a2,a3,a4⟩:=ha hq
      exact hg.member (i:=(node-1).toNat) (by omega) a1 (by rw [a2,m2]) (qD a3) a4
     ·exact hg.up
   ·split
    ·exact i3
    ·split<;>rfl
 have hmain:=key ((g.1.length:Int)-(Az g (node-1).toNat).2.1).toNat ((Az g (node-1).toNat).2.1+1)
 by_cases hle:(Az g (node-1).toNat).2.1≤(g.1.length:Int)
 ·obtain ⟨k1,k2,k3⟩:=hmain (by omega) (by omega)
  refine ⟨UU ?_,k2,k3⟩
  unfold NU
  rw [wn,if_pos (by omega),if_pos (by omega),show g.2.1.getD (node-1).toNat ((0:Int),(0:Int),false,false,false,false,([]:List Int),([]:List AQ),(0:Int),(0:Int),(0:Int),(0:Int),(ByteArray.empty,ByteArray.empty,(0:Int)),([]:List Int))=Az g (node-1).toNat from rfl,wm]
  exact k1
 ·have e0:((g.1.length:Int)-(Az g (node-1).toNat).2.1).toNat=0:=by omega
  unfold Wx
  rw [e0]
  refine ⟨UU ?_,hg.up,rfl⟩
  unfold NU
  rw [wn,if_pos (by omega),if_pos (by omega),show g.2.1.getD (node-1).toNat ((0:Int),(0:Int),false,false,false,false,([]:List Int),([]:List AQ),(0:Int),(0:Int),(0:Int),(0:Int),(ByteArray.empty,ByteArray.empty,(0:Int)),([]:List Int))=Az g (node-1).toNat from rfl,wm]
  refine JO ?_
  unfold Ge
  rw [if_neg (fun h=>hle (by have:=of_decide_eq_true h; omega))]
  rfl
def Lz (g:An) (i:Nat):An:=(g.1,g.2.1,g.2.2.1.take i++g.2.2.1.drop (i+1),g.2.2.2)
def jL (g:An) (at_:Int) (e:Fj):Int×An :=
 if g.2.2.1=[] then (1,g)
 else if e.1=4 then (0,(g.1,g.2.1,g.2.2.1++[g.2.2.1.getD (e.2.2.1 % (g.2.2.1.length:Int)).toNat Ds],g.2.2.2))
 else if e.1=3 then (0,Lz g (e.2.2.1 % (g.2.2.1.length:Int)).toNat)
 else (0,Ez (Lz g (e.2.2.1 % (g.2.2.1.length:Int)).toNat)
  (Dk (Az g ((g.2.2.1.getD (e.2.2.1 % (g.2.2.1.length:Int)).toNat Ds).2.2.1-1).toNat) g.1 (g.2.2.1.getD (e.2.2.1 % (g.2.2.1.length:Int)).toNat Ds)).1
  (Dk (Az g ((g.2.2.1.getD (e.2.2.1 % (g.2.2.1.length:Int)).toNat Ds).2.2.1-1).toNat) g.1 (g.2.2.1.getD (e.2.2.1 % (g.2.2.1.length:Int)).toNat Ds)).2.1
  (Dk (Az g ((g.2.2.1.getD (e.2.2.1 % (g.2.2.1.length:Int)).toNat Ds).2.2.1-1).toNat) g.1 (g.2.2.1.getD (e.2.2.1 % (g.2.2.1.length:Int)).toNat Ds)).2.2 at_)
theorem Sq.less {g:An} {k:Nat} (h:Sq g k) (i:Nat):Sq (Lz g i) k:=by
 refine ⟨h.views,h.six,h.mem,fun x hx=>?_,?_,h.clen⟩
 ·rcases List.mem_append.1 hx with h1 | h1
  ·exact h.fly x (List.mem_of_mem_take h1)
  ·exact h.fly x (List.mem_of_mem_drop h1)
 ·have:=h.flen
  simp only [Lz,List.length_append,List.length_take,List.length_drop]
  omega
theorem dd (at_:Int) (e:Fj) (g:An) (k:Nat) (hg:Sq g k) (hk:k≤1000) (hn:0≤e.2.2.1):RA at_ e g=some (jL g at_ e)∧Sq (jL g at_ e).2 (k+1)∧(jL g at_ e).2.1=g.1:=by
 have hc:=hg.clen
 have hf:=hg.flen
 have h6:=hg.six
 have hvl:=hg.views.len
 by_cases h0:g.2.2.1=[]
 ·unfold jL
  rw [if_pos h0]
  refine ⟨Xv ?_,hg.up,rfl⟩
  unfold RC
  rw [h0,if_pos (by rfl)]
 ·have hl:0<g.2.2.1.length:=List.length_pos_iff.2 h0
  have hm:Int.tmod e.2.2.1 (g.2.2.1.length:Int)=e.2.2.1 % (g.2.2.1.length:Int):=Int.tmod_eq_emod_of_nonneg hn
  have hr0:=Int.emod_nonneg e.2.2.1 (show (g.2.2.1.length:Int)≠0 by omega)
  have hr1:=Int.emod_lt_of_pos e.2.2.1 (show 0<(g.2.2.1.length:Int) by omega)
  generalize hq:e.2.2.1 % (g.2.2.1.length:Int)=q at hm hr0 hr1
  have hx:=hg.fly (g.2.2.1.getD q.toNat Ds) (by rw [AY (show q.toNat<g.2.2.1.length by omega)]; exact List.getElem_mem _)
  have wq:IntKind.i64.wrap (q+1)=q+1:=AX (by omega)
  have hto:=hx.to
  have wt:IntKind.i64.wrap ((g.2.2.1.getD q.toNat Ds).2.2.1-1)=(g.2.2.1.getD q.toNat Ds).2.2.1-1:=AX (by omega)
  obtain ⟨m1,m2⟩:=hg.mem ((g.2.2.1.getD q.toNat Ds).2.2.1-1).toNat (by omega)
  have hh:=bG (x:=g.2.2.1.getD q.toNat Ds) m1 hg.views
  have hless:=hg.less q.toNat
  have hxl:=Jk hx.items
  have hz:g.2.2.1.getD q.toNat ((0:Int),(0:Int),(0:Int),(0:Int),(0:Int),([]:List AQ))=g.2.2.1.getD q.toNat Ds:=rfl
  have hz2:∀ i,g.2.1.getD i ((0:Int),(0:Int),false,false,false,false,([]:List Int),([]:List AQ),(0:Int),(0:Int),(0:Int),(0:Int),(ByteArray.empty,ByteArray.empty,(0:Int)),([]:List Int))=Az g i:=fun i=>rfl
  have e1:(g.2.2.1.take q.toNat).drop (0:Int).toNat=g.2.2.1.take q.toNat:=rfl
  have e2:(g.2.2.1.take (g.2.2.1.length:Int).toNat).drop (q+1).toNat=g.2.2.1.drop (q.toNat+1):=by
   rw [show (g.2.2.1.length:Int).toNat=g.2.2.1.length from by omega,List.take_length,show (q+1).toNat=q.toNat+1 from by omega]
  unfold jL
  rw [if_neg h0,hq]
  refine ⟨Xv ?_,?_,?_⟩
  ·unfold RC
   rw [if_neg (by simp; exact h0),if_neg (by omega),hm,hz,wq,wt,hz2,e1,e2,if_pos hr0,if_pos hr1]
   simp only [List.nil_append,List.length_nil,Nat.zero_add]
   by_cases h4:e.1=4
   ·rw [if_pos (by simpa using h4),if_pos h4,if_pos (by omega),if_pos (by simp; omega)]
   ·rw [if_neg (by simpa using h4),if_neg h4,if_pos (by omega),if_pos hr0,if_pos (by omega),if_pos (by omega),if_pos (by omega),if_pos (by omega),if_pos (by simp; omega),if_pos (by simp; omega)]
    by_cases h3:e.1=3
    ·rw [if_pos (by simpa using h3),if_pos h3]
     rfl
    ·rw [if_neg (by simpa using h3),if_neg h3,if_pos (by omega),if_pos (by omega),bE _ _ _ m1 hg.views (by omega),Option.bind_some]
     have htl:=hh.tlen
     have:=Ft (Dk (Az g ((g.2.2.1.getD q.toNat Ds).2.2.1-1).toNat) g.1 (g.2.2.1.getD q.toNat Ds)).1 (Dk (Az g ((g.2.2.1.getD q.toNat Ds).2.2.1-1).toNat) g.1 (g.2.2.1.getD q.toNat Ds)).2.1 (Dk (Az g ((g.2.2.1.getD q.toNat Ds).2.2.1-1).toNat) g.1 (g.2.2.1.getD q.toNat Ds)).2.2 at_ (Lz g q.toNat) hh.mok.id h6 (by have:=hless.flen; omega) (by have:=hless.clen; omega) hh.said
     unfold Lz at this ⊢
     rw [this]
     rfl
  ·split
   ·refine ⟨hg.views,hg.six,hg.mem,fun x hx'=>?_,by simp only [List.length_append,List.length_cons,List.length_nil]; omega,by show g.2.2.2.length≤_; omega⟩
    rcases List.mem_append.1 hx' with h1 | h1
    ·exact hg.fly x h1
    ·simp only [List.mem_singleton] at h1; subst h1; exact hx
   ·split
    ·exact hless.up
    ·exact hless.member (i:=((g.2.2.1.getD q.toNat Ds).2.2.1-1).toNat) (by omega) hh.mok (by rw [hh.id,m2]) (qD hh.told) hh.tlen
  ·split
   ·rfl
   ·split<;>rfl
def lh (g:An) (at_:Int) (e:Fj):Int×An :=
 if e.1=1 then Nd g at_ e else if e.1=5 then Wx g at_ e.2.1
 else if e.1=6 then (0,Ez g (Uu (Az g (e.2.1-1).toNat)) [] [] at_) else jL g at_ e
theorem Gn (at_:Int) (e:Fj) (g:An) (k:Nat) (hg:Sq g k) (hk:k≤1000) (he:LP e=true):OL at_ e g=some (lh g at_ e)∧Sq (lh g at_ e).2 (k+1)∧(lh g at_ e).2.1=g.1:=by
 have hn:=lY he
 have h6:=hg.six
 have hc:=hg.clen
 have hf:=hg.flen
 unfold lh
 by_cases h1:e.1=1
 ·obtain ⟨a,b,c⟩:=Y5 at_ e g k hg hk (by omega)
  rw [if_pos h1]
  refine ⟨OQ ?_,b,c⟩
  unfold Km
  rw [if_pos (by simpa using h1),a]
  rfl
 ·rw [if_neg h1]
  by_cases h5:e.1=5
  ·obtain ⟨a,b,c⟩:=Y6 at_ e.2.1 g k hg hk (by omega)
   rw [if_pos h5]
   refine ⟨OQ ?_,b,c⟩
   unfold Km
   rw [if_neg (by simpa using h1),if_pos (by simpa using h5),a]
   rfl
  ·rw [if_neg h5]
   by_cases h7:e.1=6
   ·obtain ⟨m1,m2⟩:=hg.mem (e.2.1-1).toNat (by omega)
    rw [if_pos h7]
    refine ⟨OQ ?_,hg.member (i:=(e.2.1-1).toNat) (by omega) m1.fall1 m2 (fun y hy=>by cases hy) (by simp),rfl⟩
    have wn:IntKind.i64.wrap (e.2.1-1)=e.2.1-1:=AX (by omega)
    unfold Km
    rw [if_neg (by simpa using h1),if_neg (by simpa using h5),if_pos (by simpa using h7),wn,if_pos (by omega),if_pos (by omega),
     show g.2.1.getD (e.2.1-1).toNat ((0:Int),(0:Int),false,false,false,false,([]:List Int),([]:List AQ),(0:Int),(0:Int),(0:Int),(0:Int),(ByteArray.empty,ByteArray.empty,(0:Int)),([]:List Int))=Az g (e.2.1-1).toNat from rfl,
     ju,Option.bind_some,Ft _ _ _ _ _ m1.fall1.id h6 (by simp; omega) (by omega) Eo]
    rfl
   ·obtain ⟨a,b,c⟩:=dd at_ e g k hg hk (by omega)
    rw [if_neg h7]
    refine ⟨OQ ?_,b,c⟩
    unfold Km
    rw [if_neg (by simpa using h1),if_neg (by simpa using h5),if_neg (by simpa using h7),a]
    rfl
end Go.Proofs.YtokiohnjegbnpaaGreat.Core

namespace Go.Proofs.YtokiohnjegbnpaaGreat.Core
open Go
set_option linter.unusedVariables false
set_option linter.unusedSimpArgs false
theorem LJ (x:List (List Int)) (h:x.length≤1000) (ho:∀ a∈x,a.length≤1000):Fp x=some x:=XW (by
 unfold N1
 have key:=G7 (n:=x.length) (P:=fun i=>ED x (i:Int) (x.take i)=some x) (Ky (by
  unfold Gc
  rw [if_neg (by simp),List.take_length])) (fun i hi ih=>Ky (by
  unfold Gc
  have:=ho x[i] (List.getElem_mem hi)
  simp only [show ((i:Int)<(x.length:Int)) from by omega,decide_true,if_true,show (0:Int)≤(i:Int) from by omega,Int.toNat_natCast,AY hi,AU (show i<9223372036854775807 by omega),List.nil_append,List.length_nil,Nat.zero_add,List.length_cons,List.length_take]
  rw [if_pos (by omega),if_pos (by omega),List.take_append_getElem]
  exact ih)) 0 (by omega)
 exact key)
theorem VI (x:List BT) (h:x.length≤100000) (ho:∀ a∈x,a.2.2.2.2.2.length≤1000):JB x=some x:=Yt (by
 unfold PS
 have key:=G7 (n:=x.length) (P:=fun i=>DG x (i:Int) (x.take i)=some x) (Ll (by
  unfold G4
  rw [if_neg (by simp),List.take_length])) (fun i hi ih=>Ll (by
  unfold G4
  have:=ho x[i] (List.getElem_mem hi)
  simp only [show ((i:Int)<(x.length:Int)) from by omega,decide_true,if_true,show (0:Int)≤(i:Int) from by omega,Int.toNat_natCast,AY hi,AU (show i<9223372036854775807 by omega),List.nil_append,List.length_nil,Nat.zero_add,List.length_cons,List.length_take]
  rw [if_pos (by omega),if_pos (by omega)]
  change DG x _ (x.take i++[x[i]])=_
  rw [List.take_append_getElem]
  exact ih)) 0 (by omega)
 exact key)
theorem bH (g:An) (k:Nat) (hg:Sq g k) (hk:k≤1000):O0 g=some g:=ib (by
 have hvl:=hg.views.len
 have hc:=hg.clen
 have hf:=hg.flen
 have h6:=hg.six
 unfold WF
 rw [LJ g.1 (by omega) (fun a ha=>by have:=hg.views.view ha; omega),Option.bind_some,VI g.2.2.1 (by omega) (fun a ha=>by have:=Jk (hg.fly a ha).items; omega),Option.bind_some,if_pos (by simp; omega)]
 have key:∀ (a b c d e:_),FT ((0:Nat):Int) g.1 g.2.1 g.2.2.1 g.2.2.2 a b c d e [] g.1 g.2.2.1 ([]++g.2.2.2)=some g:=by
  intro a b c d e
  have key':=G7 (n:=g.2.1.length) (P:=fun i=>FT (i:Int) g.1 g.2.1 g.2.2.1 g.2.2.2 a b c d e (g.2.1.take i) g.1 g.2.2.1 ([]++g.2.2.2)=some g) (QV (by
   unfold Kn
   rw [if_neg (by simp),List.take_length]
   rfl)) (fun i hi ih=>QV (by
   unfold Kn
   have hm:=(hg.mem i (by omega)).1
   unfold Az at hm
   rw [AY hi] at hm
   simp only [show ((i:Int)<(g.2.1.length:Int)) from by omega,decide_true,if_true,show (0:Int)≤(i:Int) from by omega,Int.toNat_natCast,AY hi,hm.copy,Option.bind_some,AU (show i<9223372036854775807 by omega),List.length_take,List.length_cons,List.length_nil]
   rw [if_pos (by omega),List.take_append_getElem]
   exact ih)) 0 (by omega)
  exact key'
 exact key _ _ _ _ _)
def Ap (views:List (List Int)):An:=(views,[GJ 1 views,GJ 2 views,GJ 3 views,GJ 4 views,GJ 5 views,GJ 6 views],[],[])
theorem Sr {views:List (List Int)} (hv:RJ views):Sq (Ap views) 0:=by
 refine ⟨hv,rfl,fun i hi=>?_,fun x hx=>(by cases hx),(by simp [Ap]),(by simp [Ap])⟩
 have h5:i=0∨i=1∨i=2∨i=3∨i=4∨i=5:=by omega
 rcases h5 with rfl | rfl | rfl | rfl | rfl | rfl<;>exact ⟨IV.first1 (by omega) hv,rfl⟩
theorem LK {views:List (List Int)} (hv:RJ views):Iw views=some (Ap views,true):=fE (by
 have hvl:=hv.len
 unfold UP
 rw [Fd hv,Option.bind_some,if_neg (by simp),LJ views (by omega) (fun a ha=>by have:=hv.view ha; omega),Option.bind_some]
 have step:∀ (i:Nat) (a:_) (b:_) (c:_) (d:_) (l:List Z) r,1≤i→i≤6→l.length≤6→Ei views ((i+1:Nat):Int) a b c d (l++[GJ (i:Int) views]) views=some r→Ei views (i:Int) a b c d l views=some r:=by
  intro i a b c d l r h1 h6 hl hr
  refine PL ?_
  unfold JM
  rw [if_pos (by simp; omega),Xh _ _ (by omega) hv,Option.bind_some,if_pos (by simp; omega),AU (show i<9223372036854775807 by omega)]
  exact hr
 refine step 1 _ _ _ _ _ _ (by omega) (by omega) (by simp) ?_
 refine step 2 _ _ _ _ _ _ (by omega) (by omega) (by simp) ?_
 refine step 3 _ _ _ _ _ _ (by omega) (by omega) (by simp) ?_
 refine step 4 _ _ _ _ _ _ (by omega) (by omega) (by simp) ?_
 refine step 5 _ _ _ _ _ _ (by omega) (by omega) (by simp) ?_
 refine step 6 _ _ _ _ _ _ (by omega) (by omega) (by simp) ?_
 refine PL ?_
 unfold JM
 rw [if_neg (by decide)]
 rfl)
def IC:Nat→List Fj→An→List Int→An×List Int
 | _,[],g,cs=>(g,cs)
 | n,e::es,g,cs=>IC (n+1) es (lh g (n:Int) e).2 (cs++[(lh g (n:Int) e).1])
theorem gJ:∀ (es:List Fj) (n:Nat) (g:An) (cs:List Int),Sq g n→n+es.length≤70→(∀ e∈es,LP e=true)→Sq (IC n es g cs).1 (n+es.length)∧(IC n es g cs).1.1=g.1∧(IC n es g cs).2.length=cs.length+es.length
 | [],n,g,cs,hg,_,_=>⟨hg,rfl,rfl⟩
 | e::es,n,g,cs,hg,hn,he=>by
  simp only [List.length_cons] at hn
  obtain ⟨_,h2,h3⟩:=Gn (n:Int) e g n hg (by omega) (he e (by simp))
  obtain ⟨h4,h5,h6⟩:=gJ es (n+1) _ (cs++[(lh g (n:Int) e).1]) h2 (by omega) (fun x hx=>he x (by simp [hx]))
  refine ⟨?_,h5.trans h3,?_⟩
  ·have:n+(e::es).length=n+1+es.length:=by simp only [List.length_cons]; omega
   rw [this]
   exact h4
  ·simp only [IC,h6,List.length_append,List.length_cons,List.length_nil]
   omega
theorem bI {views:List (List Int)} {events:List Fj} (hv:RJ views) (hl:events.length≤70) (he:∀ e∈events,LP e=true) :
  NK views events=some ((IC 0 events (Ap views) []).1,(IC 0 events (Ap views) []).2,true):=e_ (by
 have hg:=Sr hv
 obtain ⟨r1,r2,r3⟩:=gJ events 0 (Ap views) [] hg (by omega) he
 unfold UL
 rw [LK hv,Option.bind_some]
 have L3:∀ y,Eg events ((0:Nat):Int) y (Ap views) []=some ((IC 0 events (Ap views) []).1,(IC 0 events (Ap views) []).2,true):=by
  intro y
  have key:=G7 (n:=events.length) (P:=fun i=>∀ (g:An) (cs:List Int),Sq g i→cs.length=i→IC i (events.drop i) g cs=IC 0 events (Ap views) []→Eg events (i:Int) y g cs=some ((IC 0 events (Ap views) []).1,(IC 0 events (Ap views) []).2,true)) (fun g cs hgi hcs hr=>PE (by
   unfold JI
   rw [if_neg (by simp),bH g events.length hgi (by omega),Option.bind_some]
   rw [List.drop_eq_nil_of_le (Nat.le_refl _)] at hr
   rw [← hr]
   rfl)) (fun i hi ih g cs hgi hcs hr=>PE (by
   unfold JI
   obtain ⟨d1,d2,_⟩:=Gn (i:Int) events[i] g i hgi (by omega) (he _ (List.getElem_mem hi))
   simp only [show ((i:Int)<(events.length:Int)) from by omega,decide_true,if_true,show (0:Int)≤(i:Int) from by omega,Int.toNat_natCast,AY hi,d1,Option.bind_some,AU (show i<9223372036854775807 by omega)]
   rw [if_pos (by simp; omega)]
   refine ih _ _ d2 (by simp; omega) ?_
   rw [Bt hi] at hr
   exact hr)) 0 (by omega) (Ap views) [] hg rfl rfl
  exact key
 have L0:∀ y,DN events true ((0:Nat):Int) y (Ap views)=some ((IC 0 events (Ap views) []).1,(IC 0 events (Ap views) []).2,true):=by
  intro y
  have J2:GZ events true y (Ap views)=some ((IC 0 events (Ap views) []).1,(IC 0 events (Ap views) []).2,true):=Ya (by
   unfold PD
   rw [if_neg (by simp)]
   exact L3 y)
  refine G7 (n:=events.length) (P:=fun i=>DN events true (i:Int) y (Ap views)=some ((IC 0 events (Ap views) []).1,(IC 0 events (Ap views) []).2,true)) (PF (by
   unfold JJ
   rw [if_neg (by simp)]
   exact J2)) (fun i hi ih=>PF (by
   unfold JJ
   rw [if_pos (by simpa using hi),if_pos rfl]
   refine YZ ?_
   unfold PC
   have hz:events.getD i ((0:Int),(0:Int),(0:Int),(0:Int),ByteArray.empty,ByteArray.empty)=events[i]:=AY hi
   rw [if_pos (by simp; omega),if_pos (by omega),if_pos (by omega),Int.toNat_natCast,hz,a_,he _ (List.getElem_mem hi),Option.bind_some,AU (show i<9223372036854775807 by omega)]
   exact ih)) 0 (by omega)
 exact L0 _)
theorem Y7 (d:NA) (h:Ut d):∃ v d',NM d=some (v,d')∧Ut d'∧RJ v:=by
 have inner:∀ (m j:Nat),j+m=3→∀ (i:Int) (d:NA) (vs:List (List Int)) (v:List Int),Ut d→0≤i→vs.length≤10→v.length≤j→(j=0∨1≤v.length)→(∀ a∈v,1≤a∧a≤6)→v.Nodup →
   ∃ v' d',qB v'∧Ut d'∧∀ r,Ek (IntKind.i64.wrap (i+1)) d' (vs++[v'])=some r→Ej i (j:Int) d vs v=some r:=by
  intro m
  induction m with
  | zero =>
   intro j hj i d vs v hd hi hvs hv h1 hm hnd
   obtain ⟨y,d1,e1,k1,y0,y1⟩:=BY 3 d hd
   have y1:=y1 (by omega)
   refine ⟨v,d1,⟨by omega,hm,hnd⟩,k1,fun r hr=>Gb ?_⟩
   unfold El
   have wy:IntKind.i64.wrap (1+y)=1+y:=AX (by omega)
   rw [e1,Option.bind_some,wy,if_neg (by simp; omega),if_pos (by simp; omega)]
   exact hr
  | succ m ih =>
   intro j hj i d vs v hd hi hvs hv h1 hm hnd
   obtain ⟨y,d1,e1,k1,y0,y1⟩:=BY 3 d hd
   have y1:=y1 (by omega)
   have wy:IntKind.i64.wrap (1+y)=1+y:=AX (by omega)
   by_cases hlt:(j:Int)<1+y
   ·obtain ⟨z,d2,e2,k2,z0,z1⟩:=BY 4 d1 k1
    have z1:=z1 (by omega)
    have wz:IntKind.i64.wrap (1+z)=1+z:=AX (by omega)
    by_cases hc:v.contains (1+z)=true
    ·obtain ⟨v',d',w1,w2,w3⟩:=ih (j+1) (by omega) i d2 vs v k2 hi hvs (by omega) (.inr (by
      cases v with
      | nil=>simp at hc
      | cons a v=>simp)) hm hnd
     refine ⟨v',d',w1,w2,fun r hr=>Gb ?_⟩
     unfold El
     rw [e1,Option.bind_some,wy,if_pos (by simpa using hlt),e2,Option.bind_some,wz,CZ v _ (by unfold maxLen; omega),Option.bind_some,hc,if_neg (by simp),AU (show j<9223372036854775807 by omega)]
     exact w3 r hr
    ·have hc':v.contains (1+z)=false:=by simpa using hc
     obtain ⟨v',d',w1,w2,w3⟩:=ih (j+1) (by omega) i d2 vs (v++[1+z]) k2 hi hvs (by simp; omega) (.inr (by simp)) (fun a ha=>by
      rcases List.mem_append.1 ha with h | h
      ·exact hm a h
      ·simp only [List.mem_singleton] at h; omega) (by
      rw [List.nodup_append]
      refine ⟨hnd,by simp,fun a ha b hb e=>?_⟩
      simp only [List.mem_singleton] at hb
      subst hb
      subst e
      rw [List.contains_iff_mem.2 ha] at hc'
      cases hc')
     refine ⟨v',d',w1,w2,fun r hr=>Gb ?_⟩
     unfold El
     rw [e1,Option.bind_some,wy,if_pos (by simpa using hlt),e2,Option.bind_some,wz,CZ v _ (by unfold maxLen; omega),Option.bind_some,hc',if_pos (by rfl),if_pos (by simp; omega),AU (show j<9223372036854775807 by omega)]
     exact w3 r hr
   ·refine ⟨v,d1,⟨by omega,hm,hnd⟩,k1,fun r hr=>Gb ?_⟩
    unfold El
    rw [e1,Option.bind_some,wy,if_neg (by simpa using hlt),if_pos (by simp; omega)]
    exact hr
 have outer:∀ (m i:Nat),i+m=5→∀ (d:NA) (vs:List (List Int)),Ut d→vs.length=i→(∀ v∈vs,qB v)→∃ v' d',Ek (i:Int) d vs=some (v',d')∧Ut d'∧RJ v':=by
  have fin:∀ (vs:List (List Int)),1≤vs.length→vs.length≤5→(∀ v∈vs,qB v)→RJ vs:=fun vs h1 h2 h3=>⟨Il.2 ⟨fun v hv=>nw.2 (h3 v hv),h1,by omega⟩⟩
  intro m
  induction m with
  | zero =>
   intro i hi d vs hd hl hv
   obtain ⟨y,d1,e1,k1,y0,y1⟩:=BY 5 d hd
   have y1:=y1 (by omega)
   have wy:IntKind.i64.wrap (1+y)=1+y:=AX (by omega)
   refine ⟨vs,d1,JN ?_,k1,fin vs (by omega) (by omega) hv⟩
   unfold Ga
   rw [e1,Option.bind_some,wy,if_neg (by simp; omega)]
  | succ m ih =>
   intro i hi d vs hd hl hv
   obtain ⟨y,d1,e1,k1,y0,y1⟩:=BY 5 d hd
   have y1:=y1 (by omega)
   have wy:IntKind.i64.wrap (1+y)=1+y:=AX (by omega)
   by_cases hlt:(i:Int)<1+y
   ·obtain ⟨v',d2,w1,k2,w3⟩:=inner 3 0 (by omega) (i:Int) d1 vs [] k1 (by omega) (by omega) (by simp) (.inl rfl) (by simp) (by simp)
    obtain ⟨r1,d3,q1,q2,q3⟩:=ih (i+1) (by omega) d2 (vs++[v']) k2 (by simp; omega) (fun v hv'=>by
     rcases List.mem_append.1 hv' with h | h
     ·exact hv v h
     ·simp only [List.mem_singleton] at h; subst h; exact w1)
    refine ⟨r1,d3,JN ?_,q2,q3⟩
    unfold Ga
    rw [e1,Option.bind_some,wy,if_pos (by simpa using hlt)]
    exact w3 _ (by rw [AU (show i<9223372036854775807 by omega)]; exact q1)
   ·have hi1:1≤i:=by omega
    refine ⟨vs,d1,JN ?_,k1,fin vs (by omega) (by omega) hv⟩
    unfold Ga
    rw [e1,Option.bind_some,wy,if_neg (by simpa using hlt)]
 obtain ⟨v,d',e,k,hv⟩:=outer 5 0 (by omega) d [] h rfl (fun v hv=>by cases hv)
 exact ⟨v,d',fH (by unfold UR; exact e),k,hv⟩
end Go.Proofs.YtokiohnjegbnpaaGreat.Core

namespace Go.Proofs.YtokiohnjegbnpaaGreat.Core
open Go
set_option linter.unusedVariables false
set_option linter.unusedSimpArgs false
theorem bJ (d:NA) (g:An) (k:Nat) (h:Ut d) (hg:Sq g k):∃ e d',O1 d g=some (e,d',g)∧Ut d'∧LP e=true:=by
 have hvl:=hg.views.len
 have h6:=hg.six
 have ev:∀ (kd nd at_:Int),2≤kd∧kd≤6→1≤nd∧nd≤6→0≤at_→LP (kd,nd,at_,0,ByteArray.empty,ByteArray.empty)=true:=by
  intro kd nd at_ h1 h2 h3
  unfold LP
  simp only [show decide (1≤kd)=true from decide_eq_true (by omega),show decide (kd≤6)=true from decide_eq_true (by omega),show decide (1≤nd)=true from decide_eq_true (by omega),show decide (nd≤6)=true from decide_eq_true (by omega),show decide (0≤at_)=true from decide_eq_true h3,if_neg (show ¬ kd=1 by omega)]
  simp [lV]
 have ev1:∀ (nd at_ op:Int) (key val:ByteArray),1≤nd∧nd≤6→0≤at_→ay op key val=true→LP (1,nd,at_,op,key,val)=true:=by
  intro nd at_ op key val h2 h3 h4
  unfold LP
  simp only [show decide (1≤nd)=true from decide_eq_true (by omega),show decide (nd≤6)=true from decide_eq_true (by omega),show decide (0≤at_)=true from decide_eq_true h3,if_true,h4]
  rfl
 have L3:∀ (m i:Nat),i+m=6→∀ (d:NA) (nd at_ op:Int) (key val:ByteArray) (a b c:_),Ut d→1≤nd∧nd≤6→∃ nd' d',Cx (i:Int) d g a (1,nd,at_,op,key,val) b c=some ((1,nd',at_,op,key,val),d',g)∧Ut d'∧1≤nd'∧nd'≤6:=by
  intro m
  induction m with
  | zero =>
   intro i hi d nd at_ op key val a b c hd hn
   refine ⟨nd,d,HH ?_,hd,hn⟩
   unfold FW
   rw [if_neg (by simp; omega)]
  | succ m ih =>
   intro i hi d nd at_ op key val a b c hd hn
   have ws:=AU (show i<9223372036854775807 by omega)
   by_cases hs:(Az g i).2.2.2.2.2.1=true
   ·obtain ⟨o,d1,e1,k1⟩:=HT 4 d hd
    cases o
    ·obtain ⟨nd',d',e2,k2,n2⟩:=ih (i+1) (by omega) d1 ((i+1:Nat):Int) at_ op key val a b c k1 (by omega)
     refine ⟨nd',d',HH ?_,k2,n2⟩
     unfold FW
     rw [if_pos (by simp; omega),if_pos (by omega),if_pos (by omega),Int.toNat_natCast,show g.2.1.getD i ((0:Int),(0:Int),false,false,false,false,([]:List Int),([]:List AQ),(0:Int),(0:Int),(0:Int),(0:Int),(ByteArray.empty,ByteArray.empty,(0:Int)),([]:List Int))=Az g i from rfl,if_pos hs,e1,Option.bind_some,if_pos (by rfl),ws]
     exact e2
    ·obtain ⟨nd',d',e2,k2,n2⟩:=ih (i+1) (by omega) d1 nd at_ op key val a b c k1 hn
     refine ⟨nd',d',HH ?_,k2,n2⟩
     unfold FW
     rw [if_pos (by simp; omega),if_pos (by omega),if_pos (by omega),Int.toNat_natCast,show g.2.1.getD i ((0:Int),(0:Int),false,false,false,false,([]:List Int),([]:List AQ),(0:Int),(0:Int),(0:Int),(0:Int),(ByteArray.empty,ByteArray.empty,(0:Int)),([]:List Int))=Az g i from rfl,if_pos hs,e1,Option.bind_some,if_neg (by simp),ws]
     exact e2
   ·obtain ⟨nd',d',e2,k2,n2⟩:=ih (i+1) (by omega) d nd at_ op key val a b c hd hn
    refine ⟨nd',d',HH ?_,k2,n2⟩
    unfold FW
    rw [if_pos (by simp; omega),if_pos (by omega),if_pos (by omega),Int.toNat_natCast,show g.2.1.getD i ((0:Int),(0:Int),false,false,false,false,([]:List Int),([]:List AQ),(0:Int),(0:Int),(0:Int),(0:Int),(ByteArray.empty,ByteArray.empty,(0:Int)),([]:List Int))=Az g i from rfl,if_neg hs,ws]
    exact e2
 have L4:∀ (m i:Nat),i+m=6→∀ (d:NA) (kd nd at_:Int) (a:_),Ut d→1≤nd∧nd≤6→∃ nd' d',Cy (i:Int) d g a (kd,nd,at_,0,ByteArray.empty,ByteArray.empty)=some ((kd,nd',at_,0,ByteArray.empty,ByteArray.empty),d',g)∧Ut d'∧1≤nd'∧nd'≤6:=by
  intro m
  induction m with
  | zero =>
   intro i hi d kd nd at_ a hd hn
   refine ⟨nd,d,FY ?_,hd,hn⟩
   unfold Do
   rw [if_neg (by simp; omega)]
  | succ m ih =>
   intro i hi d kd nd at_ a hd hn
   have ws:=AU (show i<9223372036854775807 by omega)
   obtain ⟨m1,m2⟩:=hg.mem i (by omega)
   have hep:=m1.ep
   have hz:∀ j,g.2.1.getD j ((0:Int),(0:Int),false,false,false,false,([]:List Int),([]:List AQ),(0:Int),(0:Int),(0:Int),(0:Int),(ByteArray.empty,ByteArray.empty,(0:Int)),([]:List Int))=Az g j:=fun j=>rfl
   obtain ⟨nd0,d0,e0,k0,n0⟩:=ih (i+1) (by omega) d kd nd at_ a hd hn
   by_cases h1:(Az g i).2.1<(g.1.length:Int)
   ·have gv:=hg.views.get (i:=(Az g i).2.1.toNat) (by omega)
    by_cases h2:((g.1.getD (Az g i).2.1.toNat ([]:List Int)).getD (0:Int).toNat 0==(Az g i).1)=true
    ·obtain ⟨o,d1,e1,k1⟩:=HT 3 d hd
     cases o
     ·obtain ⟨nd',d',e2,k2,n2⟩:=ih (i+1) (by omega) d1 kd (Az g i).1 at_ a k1 (by omega)
      refine ⟨nd',d',FY ?_,k2,n2⟩
      unfold Do
      rw [if_pos (by simp; omega),if_pos (by omega),if_pos (by omega),Int.toNat_natCast,hz,if_pos (by simpa using h1),if_pos (by omega),if_pos (by omega),if_pos (by omega),if_pos (by omega),if_pos h2,e1,Option.bind_some,if_pos (by rfl),ws]
      exact e2
     ·obtain ⟨nd',d',e2,k2,n2⟩:=ih (i+1) (by omega) d1 kd nd at_ a k1 hn
      refine ⟨nd',d',FY ?_,k2,n2⟩
      unfold Do
      rw [if_pos (by simp; omega),if_pos (by omega),if_pos (by omega),Int.toNat_natCast,hz,if_pos (by simpa using h1),if_pos (by omega),if_pos (by omega),if_pos (by omega),if_pos (by omega),if_pos h2,e1,Option.bind_some,if_neg (by simp),ws]
      exact e2
    ·refine ⟨nd0,d0,FY ?_,k0,n0⟩
     unfold Do
     rw [if_pos (by simp; omega),if_pos (by omega),if_pos (by omega),Int.toNat_natCast,hz,if_pos (by simpa using h1),if_pos (by omega),if_pos (by omega),if_pos (by omega),if_pos (by omega),if_neg h2,ws]
     exact e0
   ·refine ⟨nd0,d0,FY ?_,k0,n0⟩
    unfold Do
    rw [if_pos (by simp; omega),if_pos (by omega),if_pos (by omega),Int.toNat_natCast,hz,if_neg (by simpa using h1),ws]
    exact e0
 have keyOk:∀ key∈([(⟨#[97]⟩:ByteArray),(⟨#[98]⟩:ByteArray),(⟨#[99]⟩:ByteArray)]:List ByteArray),key.size=1:=by
  intro key hk
  simp only [List.mem_cons,List.mem_nil_iff,or_false] at hk
  rcases hk with rfl | rfl | rfl<;>rfl
 have valOk:∀ v∈([(⟨#[118]⟩:ByteArray),(⟨#[119]⟩:ByteArray),(⟨#[120]⟩:ByteArray),(⟨#[121]⟩:ByteArray)]:List ByteArray),v.size=1:=by
  intro v hk
  simp only [List.mem_cons,List.mem_nil_iff,or_false] at hk
  rcases hk with rfl | rfl | rfl | rfl<;>rfl
 have J2:∀ (d:NA) (a:_) (kd nd at_:Int),Ut d→1≤kd∧kd≤6→1≤nd∧nd≤6→0≤at_→∃ e d',FV d g a (kd,nd,at_,0,ByteArray.empty,ByteArray.empty)=some (e,d',g)∧Ut d'∧LP e=true:=by
  intro d a kd nd at_ hd hk hn ha
  by_cases h1:kd=1
  ·subst h1
   obtain ⟨op,d1,e1,k1,mem1⟩:=NB [1,1,2] (by simp) d hd
   obtain ⟨key,d2,e2,k2,mem2⟩:=Q1 [(⟨#[97]⟩:ByteArray),(⟨#[98]⟩:ByteArray),(⟨#[99]⟩:ByteArray)] (by simp) d1 k1
   have hkey:=keyOk key mem2
   by_cases ho:op=1
   ·obtain ⟨val,d3,e3,k3,mem3⟩:=Q1 [(⟨#[118]⟩:ByteArray),(⟨#[119]⟩:ByteArray),(⟨#[120]⟩:ByteArray),(⟨#[121]⟩:ByteArray)] (by simp) d2 k2
    have hval:=valOk val mem3
    obtain ⟨nd',d',e4,k4,n4⟩:=L3 6 0 (by omega) d3 nd at_ op key val a _ _ k3 hn
    refine ⟨_,d',HI ?_,k4,ev1 nd' at_ op key val n4 ha (by unfold ay; simp [ho,hkey,hval])⟩
    unfold FX
    rw [if_pos (by simp),e1,Option.bind_some,e2,Option.bind_some,if_pos (by simpa using ho),e3,Option.bind_some]
    exact e4
   ·have ho2:op=2:=by simp at mem1; omega
    obtain ⟨nd',d',e4,k4,n4⟩:=L3 6 0 (by omega) d2 nd at_ op key ByteArray.empty a _ _ k2 hn
    refine ⟨_,d',HI ?_,k4,ev1 nd' at_ op key ByteArray.empty n4 ha (by unfold ay; simp [ho2,hkey,lV])⟩
    unfold FX
    rw [if_pos (by simp),e1,Option.bind_some,e2,Option.bind_some,if_neg (by simpa using ho)]
    exact e4
  ·by_cases h5:kd=5
   ·obtain ⟨nd',d',e4,k4,n4⟩:=L4 6 0 (by omega) d kd nd at_ a hd hn
    refine ⟨_,d',HI ?_,k4,ev kd nd' at_ (by omega) n4 ha⟩
    unfold FX
    rw [if_neg (by simpa using h1),if_pos (by simpa using h5)]
    exact e4
   ·refine ⟨_,d,HI ?_,hd,ev kd nd at_ (by omega) hn ha⟩
    unfold FX
    rw [if_neg (by simpa using h1),if_neg (by simpa using h5)]
 have J1:∀ (d:NA) (a:_) (kd nd at_:Int),Ut d→1≤kd∧kd≤6→1≤nd∧nd≤6→0≤at_→∃ e d',Aq d g a (kd,nd,at_,0,ByteArray.empty,ByteArray.empty)=some (e,d',g)∧Ut d'∧LP e=true:=by
  intro d a kd nd at_ hd hk hn ha
  by_cases h2:kd=2
  ·obtain ⟨o,d1,e1,k1⟩:=HT 2 d hd
   cases o
   ·obtain ⟨e,d',e2,k2,v2⟩:=J2 d1 a kd nd at_ k1 hk hn ha
    refine ⟨e,d',Kr ?_,k2,v2⟩
    unfold HF
    rw [if_pos (by simpa using h2),e1,Option.bind_some,if_neg (by simp)]
    exact e2
   ·obtain ⟨e,d',e2,k2,v2⟩:=J2 d1 a kd nd 0 k1 hk hn (by omega)
    refine ⟨e,d',Kr ?_,k2,v2⟩
    unfold HF
    rw [if_pos (by simpa using h2),e1,Option.bind_some,if_pos (by rfl)]
    exact e2
  ·obtain ⟨e,d',e2,k2,v2⟩:=J2 d a kd nd at_ hd hk hn ha
   refine ⟨e,d',Kr ?_,k2,v2⟩
   unfold HF
   rw [if_neg (by simpa using h2)]
   exact e2
 have six:∀ (d:NA) (a:_) (kd nd at_:Int),Ut d→1≤kd∧kd≤6→1≤nd∧nd≤6→0≤at_→∃ e d',(if (kd==6)=true then ((Cu 4 d).bind fun y5=>(if (!y5.1)=true then (Aq y5.2 g a (1,nd,at_,0,ByteArray.empty,ByteArray.empty)) else (Aq y5.2 g a (kd,nd,at_,0,ByteArray.empty,ByteArray.empty)))) else (Aq d g a (kd,nd,at_,0,ByteArray.empty,ByteArray.empty)))=some (e,d',g)∧Ut d'∧LP e=true:=by
  intro d a kd nd at_ hd hk hn ha
  by_cases h2:kd=6
  ·obtain ⟨o,d1,e1,k1⟩:=HT 4 d hd
   cases o
   ·obtain ⟨e,d',e2,k2,v2⟩:=J1 d1 a 1 nd at_ k1 (by omega) hn ha
    refine ⟨e,d',?_,k2,v2⟩
    rw [if_pos (by simpa using h2),e1,Option.bind_some,if_pos (by rfl)]
    exact e2
   ·obtain ⟨e,d',e2,k2,v2⟩:=J1 d1 a kd nd at_ k1 hk hn ha
    refine ⟨e,d',?_,k2,v2⟩
    rw [if_pos (by simpa using h2),e1,Option.bind_some,if_neg (by simp)]
    exact e2
  ·obtain ⟨e,d',e2,k2,v2⟩:=J1 d a kd nd at_ hd hk hn ha
   refine ⟨e,d',?_,k2,v2⟩
   rw [if_neg (by simpa using h2)]
   exact e2
 obtain ⟨kd,d1,e1,k1,mem1⟩:=NB [1,1,1,2,2,2,2,2,2,2,2,3,4,5,6] (by simp) d h
 obtain ⟨nd,d2,e2,k2,n0,n1⟩:=BY 4 d1 k1
 obtain ⟨at_,d3,e3,k3,a0,a1⟩:=BY 20 d2 k2
 have n1:=n1 (by omega)
 have wn:IntKind.i64.wrap (1+nd)=1+nd:=AX (by omega)
 have hkd:1≤kd∧kd≤6:=by
  simp only [List.mem_cons,List.mem_nil_iff,or_false] at mem1
  omega
 have fin:∃ e d',Kq d3 g ((0:Int),(0:Int),(0:Int),(0:Int),ByteArray.empty,ByteArray.empty) (kd,1+nd,at_,0,ByteArray.empty,ByteArray.empty)=some (e,d',g)∧Ut d'∧LP e=true:=by
  by_cases hf:((g.2.2.1.length:Int)==0)=true
  ·cases hin:(decide (2≤kd)&&decide (kd≤4)) with
   | true =>
    obtain ⟨e,d',e4,k4,v4⟩:=J1 d3 ((0:Int),(0:Int),(0:Int),(0:Int),ByteArray.empty,ByteArray.empty) 1 (1+nd) at_ k3 (by omega) (by omega) a0
    refine ⟨e,d',Kt ?_,k4,v4⟩
    unfold HG
    rw [if_pos hf,Au,Option.bind_some,if_pos hin,if_neg (show ¬ ((1:Int)==6)=true by decide)]
    exact e4
   | false =>
    obtain ⟨e,d',e4,k4,v4⟩:=six d3 ((0:Int),(0:Int),(0:Int),(0:Int),ByteArray.empty,ByteArray.empty) kd (1+nd) at_ k3 hkd (by omega) a0
    refine ⟨e,d',Kt ?_,k4,v4⟩
    unfold HG
    rw [if_pos hf,Au,Option.bind_some,if_neg (by rw [hin]; simp)]
    exact e4
  ·obtain ⟨e,d',e4,k4,v4⟩:=six d3 ((0:Int),(0:Int),(0:Int),(0:Int),ByteArray.empty,ByteArray.empty) kd (1+nd) at_ k3 hkd (by omega) a0
   refine ⟨e,d',Kt ?_,k4,v4⟩
   unfold HG
   rw [if_neg hf]
   exact e4
 obtain ⟨e,d',e4,k4,v4⟩:=fin
 refine ⟨e,d',ik ?_,k4,v4⟩
 unfold WM
 rw [e1,Option.bind_some,e2,Option.bind_some,e3,Option.bind_some,wn]
 exact e4
end Go.Proofs.YtokiohnjegbnpaaGreat.Core

namespace Go.Proofs.YtokiohnjegbnpaaGreat.Core
open Go
set_option linter.unusedVariables false
set_option linter.unusedSimpArgs false
theorem bK (x:List Int) (d:NA) (hx:x.length≤1048576) (h:Ut d):∃ v es d',Ox x d=some ((v,es),d')∧Ut d'∧RJ v∧es.length≤69∧∀ e∈es,LP e=true:=by
 obtain ⟨v,d1,e1,k1,hv⟩:=Y7 d h
 have L:∀ (n:Nat),n≤69→∀ a b,∃ es d',Dn (n:Int) ((0:Nat):Int) d1 a b [] v (Ap v)=some ((v,es),d')∧Ut d'∧es.length≤69∧∀ e∈es,LP e=true:=by
  intro n hn a b
  refine G7 (n:=n) (P:=fun i=>∀ (d:NA) (es:List Fj) (g:An),Ut d→Sq g i→es.length=i→(∀ e∈es,LP e=true)→∃ es' d',Dn (n:Int) (i:Int) d a b es v g=some ((v,es'),d')∧Ut d'∧es'.length≤69∧∀ e∈es',LP e=true) (fun d es g hd hg hl he=>?_) (fun i hi ih d es g hd hg hl he=>?_) 0 (by omega) d1 [] (Ap v) k1 (Sr hv) rfl (fun e he=>by cases he)
  ·refine ⟨es,d,QS ?_,hd,by omega,he⟩
   unfold Kj
   rw [if_neg (by simp)]
  ·obtain ⟨e,d2,e2,k2,ke⟩:=bJ d g i hd hg
   obtain ⟨q1,q2,q3⟩:=Gn (i:Int) e g i hg (by omega) ke
   obtain ⟨es',d3,e3,k3⟩:=ih d2 (es++[e]) (lh g (i:Int) e).2 k2 q2 (by simp; omega) (fun y hy=>by
    rcases List.mem_append.1 hy with hy | hy
    ·exact he y hy
    ·rw [List.mem_singleton.1 hy]; exact ke)
   refine ⟨es',d3,QS ?_,k3⟩
   unfold Kj
   rw [if_pos (by simpa using hi),e2,Option.bind_some]
   dsimp only
   rw [q1,Option.bind_some,if_pos (by simp; omega),AU (by omega)]
   exact e3
 have wq:IntKind.i64.wrap (Int.tdiv (x.length:Int) 4)=((x.length / 4:Nat):Int):=by
  rw [Int.tdiv_eq_ediv_of_nonneg (by omega),AX (by omega)]
  omega
 have wn:IntKind.i64.wrap (20+((x.length / 4:Nat):Int))=((20+x.length / 4:Nat):Int):=by rw [AX (by omega)]; omega
 by_cases hn:20+x.length / 4≤69
 ·obtain ⟨es,d',e,k,k2⟩:=L (20+x.length / 4) hn [] []
  refine ⟨v,es,d',WC ?_,k,hv,k2⟩
  unfold PH
  rw [e1,Option.bind_some,LK hv,Option.bind_some,if_neg (by omega),wq,wn,if_neg (by simp; omega)]
  exact e
 ·obtain ⟨es,d',e,k,k2⟩:=L 69 (by omega) [] []
  refine ⟨v,es,d',WC ?_,k,hv,k2⟩
  unfold PH
  rw [e1,Option.bind_some,LK hv,Option.bind_some,if_neg (by omega),wq,wn,if_pos (by simp; omega)]
  exact e
end Go.Proofs.YtokiohnjegbnpaaGreat.Core

namespace Go.Proofs.YtokiohnjegbnpaaGreat.Core
open Go
set_option linter.unusedVariables false
set_option linter.unusedSimpArgs false
def XI (views:List (List Int)) (e:Int):Int:=(views.getD (e-1).toNat []).getD 0 0
def ND (l:List AQ) (b:Int):Prop:=∀ y∈l,y.2.2≤b
theorem ND.mono {l:List AQ} {a b:Int} (h:ND l a) (hab:a≤b):ND l b:=fun y hy=>Int.le_trans (h y hy) hab
theorem de {b:Int}:ND [] b:=fun y hy=>by cases hy
theorem mm {x:List AQ} {a b:AQ} (h:b∈DD x a):b=a∨b∈x:=by
 unfold DD at h
 split at h
 ·exact .inr h
 ·split at h
  ·split at h
   ·exact me h
   ·exact .inr h
  ·exact .inr h
theorem ND.put {l:List AQ} {a:AQ} {b:Int} (h:ND l b) (ha:a.2.2≤b):ND (DD l a) b:=fun y hy=>by
 rcases mm hy with e | e
 ·rw [e]; exact ha
 ·exact h y e
structure V1 (views:List (List Int)) (m:Z):Prop where
 lead:m.2.2.2.2.1=true→m.2.1≤(views.length:Int)∧XI views m.2.1=m.1
 ver:ND m.2.2.2.2.2.2.2.1 (1000*m.2.1+900)
 own:m.2.2.2.2.1=true→m.2.2.2.1=true→ND m.2.2.2.2.2.2.2.1 (1000*m.2.1+m.2.2.2.2.2.2.2.2.1)
 task:m.2.2.2.2.2.2.2.2.2.1≠0→m.2.2.2.2.2.2.2.2.2.2.2.2.1.2.2≤1000*m.2.1+m.2.2.2.2.2.2.2.2.1
 view:m.2.2.2.1=true→m.2.1≤(views.length:Int)∧(views.getD (m.2.1-1).toNat []).contains m.1=true
structure V2 (views:List (List Int)) (x:BT):Prop where
 inst:x.1=3→x.2.2.2.2.1=0
 old:x.1=2∨x.1=3→ND x.2.2.2.2.2 (1000*x.2.2.2.1)
 store:x.1=5→x.2.2.1≠XI views x.2.2.2.1∧ND x.2.2.2.2.2 (1000*x.2.2.2.1+900)
theorem V2.plain {views:List (List Int)} {x:BT} (h2:x.1≠2) (h3:x.1≠3) (h5:x.1≠5):V2 views x:=⟨fun h=>absurd h h3,fun h=>by omega,fun h=>absurd h h5⟩
theorem V1.finish {views:List (List Int)} {m:Z} (h:V1 views m) (hc:m.2.2.2.2.2.2.2.2.1≤900) (h0:m.2.2.2.2.2.2.2.2.2.1≠0):V1 views (Ey m).2:=by
 have ht:=h.task h0
 unfold Ey
 split
 ·exact ⟨h.lead,h.ver.put (by omega),fun h1 h2=>(h.own h1 h2).put ht,fun h0=>absurd rfl h0,h.view⟩
 ·exact ⟨h.lead,h.ver,h.own,fun h0=>absurd rfl h0,h.view⟩
theorem V1.bare {views:List (List Int)} {m:Z} (h:V1 views m) {e:Int} (he:m.2.1≤e):V1 views (Sm m e) :=
 ⟨fun h=>(by cases h),h.ver.mono (by show _≤1000*e+900; omega),fun h=>(by cases h),fun h=>absurd rfl h,fun h=>(by cases h)⟩
theorem V1.inst {views:List (List Int)} {i e:Int} {its:List AQ} (h:ND its (1000*e)) (hv:e≤(views.length:Int)∧(views.getD (e-1).toNat []).contains i=true):V1 views (i,e,false,true,false,false,([]:List Int),its,(0:Int),(0:Int),(0:Int),(0:Int),(ByteArray.empty,ByteArray.empty,(0:Int)),([]:List Int)) :=
 ⟨fun h=>(by cases h),h.mono (by show _≤1000*e+900; omega),fun h=>(by cases h),fun h=>absurd rfl h,fun _=>hv⟩
theorem qE {views:List (List Int)} {i e:Int} (hv:RJ views) (h1:1≤e) (he:e≤(views.length:Int)) (hf:XI views e=i):(views.getD (e-1).toNat []).contains i=true:=by
 have g:=hv.get (i:=(e-1).toNat) (by omega)
 rw [← hf,List.contains_iff_mem,XI,AY (show 0<(views.getD (e-1).toNat []).length by omega)]
 exact List.getElem_mem _
theorem V1.has {views:List (List Int)} {m:Z} {view:List Int} {its:List AQ} (hv:RJ views) (h1:1≤m.2.1) (hl:m.2.2.2.2.1=true) (h:V1 views m) (hc:0≤m.2.2.2.2.2.2.2.2.1) (hi:ND its (1000*m.2.1)):V1 views (Sl m view its) :=
 ⟨h.lead,hi.mono (by show _≤1000*m.2.1+900; omega),fun _ _=>hi.mono (by show _≤1000*m.2.1+m.2.2.2.2.2.2.2.2.1; omega),h.task,fun _=>⟨(h.lead hl).1,qE hv h1 (h.lead hl).1 (h.lead hl).2⟩⟩
theorem V2.insts {views:List (List Int)} {i e:Int} {l:List Int} {its:List AQ} (h:ND its (1000*e)):∀ y∈l.map (fun v=>((3:Int),i,v,e,(0:Int),its)),V2 views y:=by
 intro y hy
 obtain ⟨v,_,rfl⟩:=List.mem_map.1 hy
 exact ⟨fun _=>rfl,fun _=>h,fun h5=>absurd h5 (by decide:(3:Int)≠5)⟩
theorem V2.reply {views:List (List Int)} {m:Z} {x:BT} {k:Int} (hk:k=4∨k=6∨k=8):∀ y∈Dy m x k,V2 views y:=by
 intro y hy
 simp only [Dy,List.mem_singleton] at hy
 subst hy
 exact V2.plain (by show k≠2; omega) (by show k≠3; omega) (by show k≠5; omega)
theorem ny {views:List (List Int)}:∀ y∈([]:List BT),V2 views y:=fun y hy=>by cases hy
def V4 (views:List (List Int)) (n:Z) (told:List BT):Prop:=V1 views n∧∀ y∈told,V2 views y
theorem V4.same {views:List (List Int)} {m:Z} (h:V1 views m):V4 views m []:=⟨h,ny⟩
theorem qF {views:List (List Int)} {m:Z} (h:V1 views m) (hc:m.2.2.2.2.2.2.2.2.1≤900) (h0:m.2.2.2.2.2.2.2.2.2.1≠0) (f:Int):V4 views (Fs m f).1 (Fs m f).2.1:=by
 have hl:V1 views (mh m f):=⟨h.lead,h.ver,h.own,h.task,h.view⟩
 unfold Fs
 split
 ·exact ⟨hl.finish hc h0,ny⟩
 ·exact .same hl
theorem s0 {views:List (List Int)} {m:Z} {x:BT} (hv:RJ views) (hlen:m.2.1≤(views.length:Int)) (hm:IV m) (h:V1 views m) (hx:V2 views x) (hxo:qC x) (ht:x.2.2.1=m.1) (he:x.2.2.2.1=m.2.1):V4 views (Y2 m (views.getD (m.2.1-1).toNat []) x).1 (Y2 m (views.getD (m.2.1-1).toNat []) x).2.1:=by
 have hcnt:=hm.count
 unfold Y2
 by_cases k2:x.1=2
 ·rw [if_pos k2]
  split
  ·rename_i hc
   simp only [Bool.and_eq_true] at hc
   have:=hx.old (.inl k2)
   rw [he] at this
   exact ⟨V1.has hv hm.ep.1 hc.1 h hcnt.1 this,V2.insts this⟩
  ·exact .same h
 rw [if_neg k2]
 by_cases k3:x.1=3
 ·rw [if_pos k3]
  split
  ·exact .same h
  ·rename_i hc
   split
   ·exact .same h
   ·split
    ·exact ⟨h,V2.reply (.inl rfl)⟩
    ·have:=hx.old (.inr k3)
     rw [he] at this
     refine ⟨V1.inst this ⟨hlen,?_⟩,V2.reply (.inl rfl)⟩
     cases q:(views.getD (m.2.1-1).toNat []).contains m.1 with
     | true=>rfl
     | false=>rw [q] at hc; exact absurd rfl hc
 rw [if_neg k3]
 by_cases k4:x.1=4
 ·rw [if_pos k4]
  split
  ·exact .same ⟨h.lead,h.ver,h.own,h.task,h.view⟩
  ·exact .same h
 rw [if_neg k4]
 by_cases k5:x.1=5
 ·rw [if_pos k5]
  split
  ·obtain ⟨s1,s2⟩:=hx.store k5
   have hlen:x.2.2.2.2.2.length=1:=by
    have:=hxo.shape
    rw [if_neg (by omega),if_pos k5] at this
    exact this
   have hit:(x.2.2.2.2.2.getD 0 (ByteArray.empty,ByteArray.empty,(0:Int))).2.2≤1000*m.2.1+900:=by
    rw [AY (show 0<x.2.2.2.2.2.length by omega),← he]
    exact s2 _ (List.getElem_mem _)
   refine ⟨⟨h.lead,h.ver.put hit,fun h1 h2=>?_,h.task,h.view⟩,V2.reply (.inr (.inl rfl))⟩
   exact absurd (h.lead h1).2 (by rw [← he,← ht]; exact Ne.symm s1)
  ·exact .same h
 rw [if_neg k5]
 by_cases k7:x.1=7
 ·rw [if_pos k7]
  split
  ·exact ⟨h,V2.reply (.inr (.inr rfl))⟩
  ·exact .same h
 rw [if_neg k7]
 by_cases hc:(x.1=6∨x.1=8)∧m.2.2.2.2.2.2.2.2.2.1=(if x.1=8 then 2 else 1)∧m.2.2.2.2.2.2.2.2.2.2.2.1=x.2.2.2.2.1
 ·rw [if_pos hc]
  exact qF h hcnt.2 (by have:=hc.2.1; split at this<;>omega) _
 ·rw [if_neg hc]
  exact .same h
theorem sW {views:List (List Int)} {m:Z} {x:BT} (hv:RJ views) (hm:IV m) (h:V1 views m) (hx:V2 views x):V4 views (Dk m views x).1 (Dk m views x).2.1:=by
 unfold Dk
 split
 ·rename_i hc
  simp only [Bool.and_eq_true,decide_eq_true_eq,beq_iff_eq] at hc
  obtain ⟨⟨⟨hmo,h1⟩,h2⟩,h3⟩:=hc
  split
  ·rename_i he
   exact s0 hv (by omega) hm h hx (XG.1 hmo) h1 he
  ·split
   ·rename_i hs
    simp only [Bool.and_eq_true,beq_iff_eq] at hs
    refine ⟨h.bare h2,fun y hy=>?_⟩
    simp only [List.mem_singleton] at hy
    subst hy
    refine ⟨fun h3=>absurd h3 (by decide:(2:Int)≠3),fun _=>h.ver.mono ?_,fun h5=>absurd h5 (by decide:(2:Int)≠5)⟩
    show _≤1000*x.2.2.2.1
    omega
   ·split
    ·rename_i hs
     simp only [Bool.and_eq_true,beq_iff_eq] at hs
     exact ⟨V1.inst (hx.old (.inr hs.1.1)) ⟨h3,hs.1.2⟩,V2.reply (.inl rfl)⟩
    ·exact .same h
 ·exact .same h
theorem rZ {view:List Int} {i v:Int} (h:v∈B5 view i):v≠i:=by
 have:=(List.mem_filter.1 h).2
 simpa using this
theorem rc {views:List (List Int)} {m:Z} {op call:Int} {key val:ByteArray} (hm:IV m) (h:V1 views m) (hb:(DA m views op call key val).2.2.2=true) :
  V4 views (DA m views op call key val).1 (DA m views op call key val).2.1:=by
 have hcnt:=hm.count
 unfold DA at hb ⊢
 split at hb
 ·rename_i hmay
  rw [if_pos hmay]
  obtain ⟨h1,h2,h3,h4,h5,h6,h7,h8,h9,h10⟩:=dZ hmay
  split at hb
  ·cases hb
  ·rename_i hn
   rw [if_neg hn]
   have ht:V1 views (IG m (views.getD (m.2.1-1).toNat []) op call key val):=by
    refine ⟨h.lead,h.ver,fun a b=>(h.own a b).mono ?_,fun _=>?_,h.view⟩
    ·show _≤1000*m.2.1+(m.2.2.2.2.2.2.2.2.1+1); omega
    ·show 1000*m.2.1+(m.2.2.2.2.2.2.2.2.1+1)≤1000*m.2.1+(m.2.2.2.2.2.2.2.2.1+1); omega
   unfold RK
   split
   ·exact ⟨ht.finish (by show m.2.2.2.2.2.2.2.2.1+1≤900; omega) (by show op≠0; omega),ny⟩
   ·refine ⟨ht,fun y hy=>?_⟩
    obtain ⟨v,hv,rfl⟩:=List.mem_map.1 hy
    have hne:=rZ hv
    by_cases ho:op=1
    ·rw [if_pos ho,if_pos ho]
     refine ⟨fun h3=>absurd h3 (by decide:(5:Int)≠3),fun h=>absurd h (by decide:¬ ((5:Int)=2∨(5:Int)=3)),fun _=>⟨fun e=>hne (e.trans ?_),fun z hz=>?_⟩⟩
     ·exact h10
     ·simp only [List.mem_singleton] at hz
      subst hz
      show 1000*m.2.1+(m.2.2.2.2.2.2.2.2.1+1)≤1000*m.2.1+900
      omega
    ·rw [if_neg ho,if_neg ho]
     exact V2.plain (by decide:(7:Int)≠2) (by decide:(7:Int)≠3) (by decide:(7:Int)≠5)
 ·cases hb
theorem rd {views:List (List Int)} {m:Z} {e:Int} (hvo:RJ views) (h:V1 views m) (hb:(E6 m views e).2.2=true):V4 views (E6 m views e).1 (E6 m views e).2.1:=by
 unfold E6 at hb ⊢
 split at hb
 ·rename_i hc
  rw [if_pos hc]
  have hv:ND m.2.2.2.2.2.2.2.1 (1000*e):=h.ver.mono (by omega)
  have hn:V1 views (Jr m e):=⟨fun _=>⟨hc.2.1,hc.2.2.2⟩,hv.mono (by show _≤1000*e+900; omega),fun _ h=>(by cases h),fun h=>absurd rfl h,fun h=>(by cases h)⟩
  split
  ·exact ⟨V1.has hvo (by show 1≤e; omega) rfl hn (by show (0:Int)≤0; omega) hv,V2.insts hv⟩
  ·refine ⟨hn,fun y hy=>?_⟩
   obtain ⟨v,hv,rfl⟩:=List.mem_map.1 hy
   exact V2.plain (by decide:(1:Int)≠2) (by decide:(1:Int)≠3) (by decide:(1:Int)≠5)
 ·cases hb
theorem V1.fall {views:List (List Int)} {m:Z}:V1 views (Uu m):=⟨fun h=>(by cases h),de,fun h=>(by cases h),fun h=>absurd rfl h,fun h=>(by cases h)⟩
theorem V1.first {views:List (List Int)} {i:Int} (hv:RJ views):V1 views (GJ i views):=by
 have:=hv.len
 refine ⟨fun h=>⟨by show (1:Int)≤_; omega,?_⟩,de,fun _ _=>de,fun h=>absurd rfl h,fun h=>⟨by show (1:Int)≤_; omega,h⟩⟩
 exact beq_iff_eq.1 h
structure V3 (g:An):Prop where
 mem:∀ i,i<6→V1 g.1 (Az g i)
 fly:∀ x∈g.2.2.1,V2 g.1 x
 calls:∀ c∈g.2.2.2,c.2.2.2.2.1=-1∨0≤c.2.2.2.2.1
theorem nP {at_:Int} (ha:0≤at_) (s:C9) {cs:List Q3} (h:∀ c∈cs,c.2.2.2.2.1=-1∨0≤c.2.2.2.2.1):∀ c∈IH at_ cs s,c.2.2.2.2.1=-1∨0≤c.2.2.2.2.1:=by
 unfold IH
 split
 ·exact h
 ·intro c hc
  rcases List.mem_or_eq_of_mem_set hc with e | e
  ·exact h c e
  ·rw [e]; exact .inr ha
theorem eA {at_:Int} (ha:0≤at_):∀ (said:List C9) {cs:List Q3},(∀ c∈cs,c.2.2.2.2.1=-1∨0≤c.2.2.2.2.1)→∀ c∈said.foldl (IH at_) cs,c.2.2.2.2.1=-1∨0≤c.2.2.2.2.1
 | [],_,h=>h
 | s::l,_,h=>eA ha l (nP ha s h)
theorem V3.member {g:An} (h:V3 g) (h6:g.2.1.length=6) {n:Z} {told:List BT} {said:List C9} {at_:Int} {i:Nat} (ha:0≤at_) (hi:i<6) (hid:n.1=(i:Int)+1) (hn:V4 g.1 n told):V3 (Ez g n told said at_):=by
 refine ⟨fun j hj=>?_,fun x hx=>?_,eA ha said h.calls⟩
 ·rw [mj h6 hj hid hi]
  split
  ·exact hn.1
  ·exact h.mem j hj
 ·rcases List.mem_append.1 hx with h1 | h1
  ·exact h.fly x h1
  ·exact hn.2 x h1
theorem V3.less {g:An} (h:V3 g) (i:Nat):V3 (Lz g i):=⟨h.mem,fun x hx=>by
 rcases List.mem_append.1 hx with h1 | h1
 ·exact h.fly x (List.mem_of_mem_take h1)
 ·exact h.fly x (List.mem_of_mem_drop h1),h.calls⟩
theorem V3.call {g:An} (h:V3 g) (at_:Int) (e:Fj):V3 (LH g at_ e):=⟨h.mem,h.fly,fun c hc=>by
 rcases List.mem_append.1 hc with h1 | h1
 ·exact h.calls c h1
 ·simp only [List.mem_singleton] at h1
  rw [h1]; exact .inl rfl⟩
theorem V3.adopt {g:An} {k:Nat} (h:V3 g) (hg:Sq g k) {at_ node:Int} (ha:0≤at_) (hn:1≤node∧node≤6):∀ (n:Nat) (e:Int),V3 (LI g at_ (Az g (node-1).toNat) node n e).2
 | 0,_=>h
 | n+1,e=>by
  unfold LI
  split
  ·exact V3.adopt h hg ha hn n (e+1)
  ·split
   ·rename_i hb
    obtain ⟨m1,m2⟩:=hg.mem (node-1).toNat (by omega)
    have hao:=db (e:=e) m1 hg.views hb
    exact h.member hg.six (i:=(node-1).toNat) ha (by omega) (by rw [hao.2.1,m2]) (rd hg.views (h.mem _ (by omega)) hb)
   ·exact h
theorem V3.event {g:An} {k:Nat} (h:V3 g) (hg:Sq g k) {at_:Int} (ha:0≤at_) {e:Fj} (he:LP e=true):V3 (lh g at_ e).2:=by
 have hn:=lY he
 unfold lh
 split
 ·unfold Nd
  split
  ·rename_i hb
   obtain ⟨m1,m2⟩:=hg.mem (e.2.1-1).toNat (by omega)
   have hbo:=da (op:=e.2.2.2.1) (call:=(g.2.2.2.length:Int)) (key:=e.2.2.2.2.1) (val:=e.2.2.2.2.2) m1 hg.views
   exact (h.call at_ e).member (g:=LH g at_ e) hg.six (i:=(e.2.1-1).toNat) ha (by omega) (by rw [hbo.id hb,m2]) (rc m1 (h.mem _ (by omega)) hb)
  ·exact h.call at_ e
 ·split
  ·exact h.adopt hg ha (by omega) _ _
  ·split
   ·obtain ⟨m1,m2⟩:=hg.mem (e.2.1-1).toNat (by omega)
    exact h.member hg.six (i:=(e.2.1-1).toNat) ha (by omega) m2 ⟨V1.fall,ny⟩
   ·unfold jL
    split
    ·exact h
    ·rename_i hne
     have hl:0<g.2.2.1.length:=by
      cases hq:g.2.2.1 with
      | nil=>exact absurd hq hne
      | cons a l=>simp
     have hlt:(e.2.2.1 % (g.2.2.1.length:Int)).toNat<g.2.2.1.length:=by
      have h1:=Int.emod_lt_of_pos e.2.2.1 (show (0:Int)<(g.2.2.1.length:Int) by omega)
      have h2:=Int.emod_nonneg e.2.2.1 (show (g.2.2.1.length:Int)≠0 by omega)
      omega
     have hmem:g.2.2.1.getD (e.2.2.1 % (g.2.2.1.length:Int)).toNat Ds∈g.2.2.1:=by
      rw [AY hlt]
      exact List.getElem_mem _
     split
     ·refine ⟨h.mem,fun x hx=>?_,h.calls⟩
      rcases List.mem_append.1 hx with h1 | h1
      ·exact h.fly x h1
      ·simp only [List.mem_singleton] at h1
       rw [h1]
       exact h.fly _ hmem
     ·split
      ·exact h.less _
      ·have hto:=(hg.fly _ hmem).to
       generalize hx:g.2.2.1.getD (e.2.2.1 % (g.2.2.1.length:Int)).toNat Ds=x at *
       obtain ⟨m1,m2⟩:=hg.mem (x.2.2.1-1).toNat (by omega)
       exact (h.less _).member (g:=Lz g (e.2.2.1 % (g.2.2.1.length:Int)).toNat) hg.six (i:=(x.2.2.1-1).toNat) ha (by omega) (by rw [(bG (x:=x) m1 hg.views).id,m2]) (sW hg.views m1 (h.mem _ (by omega)) (h.fly _ hmem))
theorem V3.new {views:List (List Int)} (hv:RJ views):V3 (Ap views):=by
 refine ⟨fun i hi=>?_,(fun x hx=>by cases hx),fun x hx=>by cases hx⟩
 have h5:i=0∨i=1∨i=2∨i=3∨i=4∨i=5:=by omega
 rcases h5 with rfl | rfl | rfl | rfl | rfl | rfl<;>exact V1.first hv
theorem V3.run:∀ (es:List Fj) (n:Nat) (g:An) (cs:List Int),Sq g n→V3 g→n+es.length≤70→(∀ e∈es,LP e=true)→V3 (IC n es g cs).1
 | [],n,g,cs,_,h,_,_=>h
 | e::es,n,g,cs,hg,h,hn,he=>by
  simp only [List.length_cons] at hn
  obtain ⟨_,h2,_⟩:=Gn (n:Int) e g n hg (by omega) (he e (by simp))
  exact V3.run es (n+1) _ _ h2 (h.event hg (by omega) (he e (by simp))) (by omega) (fun x hx=>he x (by simp [hx]))
end Go.Proofs.YtokiohnjegbnpaaGreat.Core

namespace Go.Proofs.YtokiohnjegbnpaaGreat.Core
open Go
set_option linter.unusedVariables false
set_option linter.unusedSimpArgs false
theorem bL (a b:Int):Kf a b=some (decide (a<b)):=jE (by
 have h:∀ a,Ix a=some false:=fun a=>fq (by unfold Us; simp)
 unfold Wn
 rw [h,Option.bind_some,if_neg (by simp)])
def lZ (l:List Int) (j:Nat):List Int:=(l.set (j+1) (l.getD j 0)).set j (l.getD (j+1) 0)
def qG:Nat→List Int→List Int
 | 0,l=>l
 | j+1,l=>if l.getD (j+1) 0<l.getD j 0 then qG j (lZ l j) else l
def se:Nat→Nat→List Int→List Int
 | 0,_,l=>l
 | k+1,i,l=>se k (i+1) (qG i l)
theorem bM (l:List Int) (j:Nat):(lZ l j).length=l.length:=by simp [lZ]
theorem gK:∀ (j:Nat) (l:List Int),(qG j l).length=l.length
 | 0,l=>rfl
 | j+1,l=>by
  unfold qG
  split
  ·rw [gK j,bM]
  ·rfl
theorem ow {l:List Int} {j:Nat} (h:j+1<l.length):(lZ l j).Perm l:=by
 obtain ⟨p,a,b,q,rfl,rfl⟩:∃ p a b q,l=p++a::b::q∧p.length=j :=
  ⟨l.take j,l[j],l[j+1],l.drop (j+2),by rw [← List.drop_eq_getElem_cons h,← List.drop_eq_getElem_cons (show j<l.length by omega),List.take_append_drop],by rw [List.length_take]; omega⟩
 have e:lZ (p++a::b::q) p.length=p++b::a::q:=by
  unfold lZ
  have e1:(p++a::b::q).getD p.length 0=a:=by simp [List.getD]
  have e2:(p++a::b::q).getD (p.length+1) 0=b:=by simp [List.getD]
  rw [e1,e2,List.set_append_right _ _ (by omega),List.set_append_right _ _ (by omega)]
  simp
 rw [e]
 exact List.Perm.append_left p (List.Perm.swap a b q)
theorem mn:∀ (j:Nat) (l:List Int),j<l.length→(qG j l).Perm l
 | 0,l,_=>List.Perm.refl l
 | j+1,l,h=>by
  unfold qG
  split
  ·exact (mn j _ (by rw [bM]; omega)).trans (ow h)
  ·exact List.Perm.refl l
theorem jM:∀ (k i:Nat) (l:List Int),i+k=l.length→(se k i l).Perm l
 | 0,_,l,_=>List.Perm.refl l
 | k+1,i,l,h=>(jM k (i+1) _ (by rw [gK]; omega)).trans (mn i l (by omega))
theorem nz {l:List Int} {j:Nat} (h:j+1<l.length) (a:Nat):(lZ l j).getD a 0=if a=j then l.getD (j+1) 0 else if a=j+1 then l.getD j 0 else l.getD a 0:=by
 unfold lZ
 simp only [List.getD_eq_getElem?_getD,List.getElem?_set,List.length_set]
 by_cases h1:a=j
 ·subst h1
  rw [if_pos rfl,if_pos (by omega),if_pos rfl]
  simp
 ·rw [if_neg (fun e=>h1 e.symm),if_neg h1]
  by_cases h2:a=j+1
  ·subst h2
   rw [if_pos rfl,if_pos (by omega),if_pos rfl]
   simp
  ·rw [if_neg (fun e=>h2 e.symm),if_neg h2]
def sX (i:Nat) (l:List Int):Prop:=∀ a b,a<b→b≤i→l.getD a 0≤l.getD b 0
theorem qH (i:Nat):∀ (j:Nat) (l:List Int),j≤i→i<l.length→(∀ a b,a<b→b≤i→b≠j→l.getD a 0≤l.getD b 0)→sX i (qG j l)
 | 0,l,_,_,h=>fun a b h1 h2=>h a b h1 h2 (by omega)
 | j+1,l,hj,hi,h=>by
  unfold qG
  split
  ·rename_i hlt
   refine qH i j _ (by omega) (by rw [bM]; exact hi) fun a b h1 h2 h3=>?_
   rw [nz (by omega),nz (by omega)]
   rw [if_neg h3]
   by_cases hb:b=j+1
   ·subst hb
    rw [if_pos rfl]
    by_cases ha:a=j
    ·rw [if_pos ha]; omega
    ·rw [if_neg ha,if_neg (by omega)]
     exact h a j (by omega) (by omega) (by omega)
   ·rw [if_neg hb]
    by_cases ha:a=j
    ·rw [if_pos ha]; exact h (j+1) b (by omega) h2 hb
    ·rw [if_neg ha]
     by_cases ha2:a=j+1
     ·rw [if_pos ha2]; exact h j b (by omega) h2 hb
     ·rw [if_neg ha2]; exact h a b h1 h2 hb
  ·rename_i hlt
   intro a b h1 h2
   by_cases hb:b=j+1
   ·subst hb
    by_cases ha:a=j
    ·subst ha; omega
    ·have:=h a j (by omega) (by omega) (by omega)
     omega
   ·exact h a b h1 h2 hb
theorem qI:∀ (k i:Nat) (l:List Int),i+k=l.length→1≤i→sX (i-1) l→sX (l.length-1) (se k i l)
 | 0,i,l,h,hi,hu=>by
  have:i-1=l.length-1:=by omega
  rw [← this]; exact hu
 | k+1,i,l,h,hi,hu=>by
  have:=qI k (i+1) (qG i l) (by rw [gK]; omega) (by omega) (by
   rw [Nat.add_sub_cancel]
   exact qH i i l (Nat.le_refl _) (by omega) fun a b h1 h2 h3=>hu a b h1 (by omega))
  rw [gK] at this
  exact this
theorem n5 (n i:Nat) (hn:n≤12) (g:List Int→List Int) (K:∀ l:List Int,l.length=n→Am 0 (n:Int) ((i:Int)+1) l=some (g l)) (hi:i<n) :
  ∀ (j:Nat) (l:List Int),j<n→l.length=n→Bg 0 (n:Int) (i:Int) (j:Int) l=some (g (qG j l))
 | 0,l,hj,hl=>D4 (by
  unfold CO
  rw [if_neg (by simp),AX (by omega)]
  exact K l hl)
 | j+1,l,hj,hl=>D4 (by
  unfold CO
  have e1:IntKind.i64.wrap (((j+1:Nat):Int)-1)=(j:Int):=by rw [AX (by omega)]; omega
  have e2:((j+1:Nat):Int).toNat=j+1:=by omega
  have e3:((j:Nat):Int).toNat=j:=by omega
  rw [if_pos (by simp<;>omega),if_pos (by omega),if_pos (by omega),e1,if_pos (by omega),if_pos (by omega),bL,Option.bind_some,e2,e3]
  unfold qG
  by_cases h:l.getD (j+1) 0<l.getD j 0
  ·rw [if_pos (by simpa using h),if_pos h]
   refine IT ?_
   unfold D3
   simp only [e1,e2,e3]
   rw [if_pos (by omega),if_pos (by omega),if_pos (by omega),if_pos (by omega),if_pos (by omega),if_pos (by omega),if_pos (by omega),if_pos (by rw [List.length_set]; omega)]
   exact n5 n i hn g K hi j (lZ l j) (by omega) (by rw [bM]; exact hl)
  ·rw [if_neg (by simpa using h),if_neg h,AX (by omega)]
   exact K l hl)
theorem n6 (n:Nat) (hn:n≤12):∀ (k i:Nat) (l:List Int),i+k=n→l.length=n→Am 0 (n:Int) (i:Int) l=some (se k i l)
 | 0,i,l,h,hl=>CP (by
  unfold Bh
  rw [if_neg (by simp; omega)]
  rfl)
 | k+1,i,l,h,hl=>CP (by
  unfold Bh
  rw [if_pos (by simp; omega)]
  exact n5 n i hn (se k (i+1)) (fun l hl=>by have:=n6 n hn k (i+1) l (by omega) hl; rw [← this]; congr 1) (by omega) i l (by omega) hl)
set_option maxRecDepth 100000 in
theorem sY (n:Nat) (h:n≤12):∃ r,NP (IntKind.u64.wrap (n:Int))=some r:=by
 have h1:∃ r,Fb (n:Int) 0=some r:=by
  have hs:IntKind.u8.wrap (n:Int)=(n:Int):=by
   have:n=0∨n=1∨n=2∨n=3∨n=4∨n=5∨n=6∨n=7∨n=8∨n=9∨n=10∨n=11∨n=12:=by omega
   rcases this with h | h | h | h | h | h | h | h | h | h | h | h | h<;>subst h<;>rfl
  have ht:∃ r,Hk (n:Int) 0=some r:=by
   unfold Hk
   rw [if_neg (by simp; omega),if_pos (by rw [hs]; omega),if_pos (by
    rw [hs]
    exact Int.lt_of_lt_of_le (show (n:Int)<13 by omega) (by decide))]
   exact ⟨_,rfl⟩
  obtain ⟨r,hr⟩:=ht
  exact ⟨r,Wo hr⟩
 obtain ⟨r,hr⟩:=h1
 have h2:Kg (n:Int)=some r:=ax (by
  unfold Qz
  rw [if_neg (by simp; omega)]
  exact Wp (by
   unfold M9
   rw [if_neg (by simp; omega)]
   exact hr))
 have hu:IntKind.u64.wrap (n:Int)=(n:Int):=by
  have:n=0∨n=1∨n=2∨n=3∨n=4∨n=5∨n=6∨n=7∨n=8∨n=9∨n=10∨n=11∨n=12:=by omega
  rcases this with h | h | h | h | h | h | h | h | h | h | h | h | h<;>subst h<;>rfl
 exact ⟨r,fm (by unfold Ur; rw [hu,h2]; rfl)⟩
theorem n7 (l:List Int) (h:l.length≤12):∃ r,CT l=some r∧r.Perm l∧r.Pairwise (· ≤ ·):=by
 obtain ⟨b,hb⟩:=sY l.length h
 have hins:∃ r,Cn 0 (l.length:Int) l=some r∧r.Perm l∧r.Pairwise (· ≤ ·):=by
  by_cases h0:l.length=0
  ·have:l=[]:=List.length_eq_zero_iff.1 h0
   subst this
   refine ⟨[],E4 ?_,List.Perm.refl _,List.Pairwise.nil⟩
   unfold Co
   refine CP ?_
   unfold Bh
   rw [if_neg (by rw [AX (by omega)]; simp)]
  ·refine ⟨se (l.length-1) 1 l,E4 ?_,jM _ _ _ (by omega),?_⟩
   ·unfold Co
    rw [AX (by omega)]
    exact n6 l.length h (l.length-1) 1 l (by omega) rfl
   ·have hu:=qI (l.length-1) 1 l (by omega) (Nat.le_refl _) (fun a b h1 h2=>by omega)
    have hp:=(jM (l.length-1) 1 l (by omega)).length_eq
    rw [List.pairwise_iff_getElem]
    intro i j hi hj hij
    have:=hu i j hij (by omega)
    rwa [AY hi,AY hj] at this
 obtain ⟨r,h1,h2,h3⟩:=hins
 refine ⟨r,U_ ?_,h2,h3⟩
 unfold Ls
 have hq:B8 0 (l.length:Int) b l=some r:=OR (by
  unfold HO
  refine MT ?_
  unfold GF
  rw [if_pos (by rw [AX (by omega)]; simp; omega),h1]
  rfl)
 rw [hb,Option.bind_some,hq]
 rfl
theorem n8:∀ {a b:List Int},a.Pairwise (· < ·)→b.Pairwise (· < ·)→(∀ x,x∈a↔x∈b)→a=b
 | [],[],_,_,_=>rfl
 | [],y::b,_,_,h=>absurd ((h y).2 (by simp)) (by simp)
 | x::a,[],_,_,h=>absurd ((h x).1 (by simp)) (by simp)
 | x::a,y::b,ha,hb,h=>by
  rw [List.pairwise_cons] at ha hb
  have hxy:x=y:=by
   have h1:=(h x).1 (by simp)
   have h2:=(h y).2 (by simp)
   rcases List.mem_cons.1 h1 with e | h1
   ·exact e
   ·rcases List.mem_cons.1 h2 with e | h2
    ·exact e.symm
    ·have:=ha.1 y h2
     have:=hb.1 x h1
     omega
  subst hxy
  rw [n8 ha.2 hb.2 fun z=>?_]
  constructor
  ·intro hz
   rcases List.mem_cons.1 ((h z).1 (by simp [hz])) with e | h
   ·subst e; have:=ha.1 z hz; omega
   ·exact h
  ·intro hz
   rcases List.mem_cons.1 ((h z).2 (by simp [hz])) with e | h
   ·subst e; have:=hb.1 z hz; omega
   ·exact h
theorem nQ {view:List Int} {id x:Int} (hv:qB view):x∈GI view id↔x∈B5 view id:=by
 unfold GI B5
 simp only [List.mem_filter,Bool.and_eq_true,List.contains_eq_mem,decide_eq_true_eq]
 constructor
 ·rintro ⟨_,h1,h2⟩; exact ⟨h2,h1⟩
 ·rintro ⟨h1,h2⟩
  have:=hv.mem x h1
  refine ⟨?_,h2,h1⟩
  have h5:x=1∨x=2∨x=3∨x=4∨x=5∨x=6:=by omega
  rcases h5 with h | h | h | h | h | h<;>simp [h]
theorem df {view:List Int} (hv:qB view) (id:Int):CT (B5 view id)=some (GI view id):=by
 have hl:=Gi view id
 have:=hv.len
 obtain ⟨r,h1,h2,h3⟩:=n7 (B5 view id) (by omega)
 rw [h1]
 congr 1
 have hnd:r.Nodup:=h2.nodup_iff.2 (hv.nd.filter _)
 refine n8 ?_ (TY view id).2 fun x=>(h2.mem_iff).trans (nQ hv).symm
 have:=h3.and (List.nodup_iff_pairwise_ne.1 hnd)
 exact this.imp fun {a b} h=>by have:=h.1; have:=h.2; omega
theorem eB {view:List Int} (hv:qB view) (id:Int):(GI view id).length=(B5 view id).length:=by
 obtain ⟨r,h1,h2,_⟩:=n7 (B5 view id) (by have:=Gi view id; have:=hv.len; omega)
 rw [df hv] at h1
 cases h1
 exact h2.length_eq
end Go.Proofs.YtokiohnjegbnpaaGreat.Core

namespace Go.Proofs.YtokiohnjegbnpaaGreat.Core
open Go
set_option linter.unusedVariables false
set_option linter.unusedSimpArgs false
theorem Wy (x:List Int) (n:Int) (h:x.length≤maxLen):CK x n=some (x.contains n):=Pa (by
 have hm:x.length≤9223372036854775807:=h
 have key:=G7 (n:=x.length) (P:=fun i=>∃ r,CL x n (x.length:Int) (i:Int)=some r∧(decide (r≥0)=(x.drop i).contains n)) ⟨-1,Bs (by
  unfold BS
  rw [if_neg (by simp)]),by simp⟩ (fun i hi ⟨r,hr,hc⟩=>by
  by_cases e:n=x[i]
  ·refine ⟨(i:Int),Bs ?_,?_⟩
   ·unfold BS
    simp only [show ((i:Int)<(x.length:Int)) from by omega,decide_true,if_true,show (0:Int)≤(i:Int) from by omega,Int.toNat_natCast,AY hi]
    rw [if_pos (by simpa using e)]
   ·rw [Bt hi,List.contains_cons,e]
    simp only [beq_self_eq_true,Bool.true_or]
    exact decide_eq_true (by omega)
  ·refine ⟨r,Bs ?_,?_⟩
   ·unfold BS
    simp only [show ((i:Int)<(x.length:Int)) from by omega,decide_true,if_true,show (0:Int)≤(i:Int) from by omega,Int.toNat_natCast,AY hi,AU (show i<9223372036854775807 by omega)]
    rw [if_neg (by simpa using e)]
    exact hr
   ·rw [Bt hi,hc,List.contains_cons]
    simp [e]) 0 (by omega)
 obtain ⟨r,hr,hc⟩:=key
 unfold ID
 have:Ct x n=some r:=Kz hr
 rw [this,Option.bind_some,hc,List.drop_zero])
theorem Wz (m:Z) (h1:m.2.2.2.2.2.2.1.length≤68719476736) (h2:m.2.2.2.2.2.2.2.1.length≤68719476736) (h3:m.2.2.2.2.2.2.2.2.2.2.2.2.2.length≤68719476736):CS m=some m:=aI (by
 unfold Qd
 rw [CJ h1,Option.bind_some,As h2,Option.bind_some,CJ h3,Option.bind_some])
theorem IV.icopy {m:Z} (h:IV m):CS m=some m:=by
 obtain ⟨h1,h2,h3⟩:=h.lens
 exact Wz m (by omega) (by omega) (by omega)
theorem LL (x:BT) (h:x.2.2.2.2.2.length≤68719476736):F7 x=some x:=im (by
 unfold WR
 rw [As h,Option.bind_some])
theorem MV (view:List Int) (m:Z) (h:view.length≤68719476736):Bq view m=some (B5 view m.1,m):=We (by
 unfold M5
 have key:=G7 (n:=view.length) (P:=fun i=>∀ acc:List Int,acc.length≤i→Cl view (view.length:Int) (i:Int) m acc=some (acc++(view.drop i).filter (· != m.1),m)) (fun acc ha=>Jg (by
  unfold GB
  rw [if_neg (by simp)]
  simp)) (fun i hi ih acc ha=>Jg (by
  unfold GB
  simp only [show ((i:Int)<(view.length:Int)) from by omega,decide_true,if_true,show (0:Int)≤(i:Int) from by omega,Int.toNat_natCast,AY hi,AU (show i<9223372036854775807 by omega)]
  rw [Bt hi,List.filter_cons]
  by_cases hh:(view[i] != m.1)=true
  ·rw [if_pos hh,if_pos (by simp; omega),ih _ (by simp; omega),if_pos hh,List.append_assoc]
   rfl
  ·rw [if_neg hh,ih _ (by omega),if_neg hh])) 0 (by omega) [] (by simp)
 exact key)
def n9 (m:Z) (ids:List Int) (x:BT):List BT:=ids.map fun v=>(x.1,m.1,v,m.2.1,x.2.2.2.2)
theorem B_ (ids:List Int) (x:BT) (m:Z) (h:ids.length≤68719476736) (hx:x.2.2.2.2.2.length≤68719476736):Ac ids x m=some (n9 m ids x,m):=VD (by
 unfold Lu
 have key:=G7 (n:=ids.length) (P:=fun i=>∀ acc:List BT,acc.length≤i→DW ids (ids.length:Int) (i:Int) m x acc=some (acc++(ids.drop i).map (fun v=>(x.1,m.1,v,m.2.1,x.2.2.2.2)),m)) (fun acc ha=>Id (by
  unfold Fi
  rw [if_neg (by simp)]
  simp)) (fun i hi ih acc ha=>Id (by
  unfold Fi
  simp only [show ((i:Int)<(ids.length:Int)) from by omega,decide_true,if_true,show (0:Int)≤(i:Int) from by omega,Int.toNat_natCast,AY hi,AU (show i<9223372036854775807 by omega)]
  rw [LL x hx,Option.bind_some,if_pos (by simp; omega),ih _ (by simp; omega),Bt hi,List.map_cons,List.append_assoc]
  rfl)) 0 (by omega) [] (by simp)
 exact key)
def tP (m:Z):Z:=(m.1,m.2.1,m.2.2.1,m.2.2.2.1,false,false,([]:List Int),m.2.2.2.2.2.2.2.1,(0:Int),(0:Int),(0:Int),(0:Int),(ByteArray.empty,ByteArray.empty,(0:Int)),([]:List Int))
theorem RL (m:Z):FR m=some (tP m):=ae rfl
theorem PY (view:List Int) (its:List AQ) (m:Z) (hv:qB view) (hi:its.length≤68719476736) (hs:m.2.2.2.2.2.1=false) :
  Cv view its m=some ((B5 view m.1).map (fun v=>(3,m.1,v,m.2.1,0,its)),Sl m view its):=TV (by
 have hvl:=hv.len
 have hrl:=Gi view m.1
 unfold K6
 rw [MV view m (by omega),Option.bind_some,As hi,Option.bind_some,CJ (by show (B5 view m.1).length≤_; omega),Option.bind_some,df hv,Option.bind_some]
 have ho:=eB hv m.1
 unfold Sl
 rw [ho]
 by_cases h0:(B5 view m.1).length=0
 ·rw [if_pos (by simpa using h0),B_ _ _ _ (by show (B5 view m.1).length≤_; omega) hi,Option.bind_some,h0]
  rfl
 ·rw [if_neg (by simpa using h0),B_ _ _ _ (by show (B5 view m.1).length≤_; omega) hi,Option.bind_some]
  have:(((B5 view m.1).length:Int)==0)=false:=by simpa using h0
  rw [this]
  show some (_,(m.1,m.2.1,m.2.2.1,true,m.2.2.2.2.1,m.2.2.2.2.2.1,_))=_
  rw [hs]
  rfl)
theorem Q4 (v:List Int) (x:Int) (h:v.length≤68719476736):Kc v x=some (v.filter (· != x)):=jB (by
 unfold Wi
 rw [CJ h,Option.bind_some,OP,Option.bind_some]
 rfl)
theorem W0 (m:Z) (h:m.2.2.2.2.2.2.2.1.length≤34359738367):GY m=some (Ey m):=Yv (by
 unfold PU Ey
 rw [Q0 _ _ h,Sd _ _ (by unfold maxLen; omega)]
 split
 ·rw [Option.bind_some]
  refine Lt ?_
  unfold G6
  rfl
 ·rw [Option.bind_some]
  refine Lt ?_
  unfold G6
  rfl)
def qJ (m:Z) (views:List (List Int)) (x:BT):List BT×Z :=
 if (x.2.2.2.1==m.2.1+1&&m.2.2.2.1&&(views.getD (m.2.1-1).toNat []).contains m.1)=true then ([(2,m.1,x.2.1,x.2.2.2.1,0,m.2.2.2.2.2.2.2.1)],Sm m x.2.2.2.1) else ([],m)
theorem jN (m:Z) (views:List (List Int)) (x:BT) (hm:IV m) (hv:RJ views) (he:m.2.1≤views.length) :
  JD views x m=some (qJ m views x):=Yz (by
 have hvl:=hv.len
 have hep:=hm.ep
 obtain ⟨l1,l2,l3⟩:=hm.lens
 have hf:m.2.2.2.1=true→m.2.2.1=false:=fun h=>by
  cases hh:m.2.2.1 with
  | false=>rfl
  | true=>rw [(hm.fell hh).1] at h; cases h
 unfold PW qJ
 rw [AX (n:=m.2.1+1) (by omega),AX (n:=m.2.1-1) (by omega)]
 by_cases c1:x.2.2.2.1=m.2.1+1
 case neg=>rw [if_pos (by simpa using c1),if_neg (by simp [c1])]
 rw [if_neg (by simpa using c1)]
 by_cases c2:m.2.2.2.1=true
 case neg=>rw [if_pos (by simpa using c2),if_neg (by simp [c2])]
 rw [if_neg (by simpa using c2),if_pos (by omega),if_pos (by omega),Wy _ _ (by have:=(hv.get (i:=(m.2.1-1).toNat) (by omega)).2; unfold maxLen; omega),Option.bind_some]
 cases c3:(views.getD (m.2.1-1).toNat []).contains m.1 with
 | false=>rw [if_pos (by rfl),if_neg (by simp)]
 | true =>
  rw [if_neg (by simp),if_pos (by simp [c1,c2])]
  exact VG (by
   unfold Lw
   rw [RL,Option.bind_some,B_ _ _ _ (by simp) (by show m.2.2.2.2.2.2.2.1.length≤_; omega),Option.bind_some]
   show some (_,(m.1,x.2.2.2.1,m.2.2.1,_))=_
   rw [hf c2]
   rfl))
def qK (m:Z) (e:Int) (its:List AQ):Z:=(m.1,e,false,true,false,false,([]:List Int),its,(0:Int),(0:Int),(0:Int),(0:Int),(ByteArray.empty,ByteArray.empty,(0:Int)),([]:List Int))
def qL (m:Z) (view:List Int) (x:BT):List BT×Z :=
 if (!view.contains m.1||(view.getD 0 0==m.1))=true then ([],m)
 else if x.2.2.2.1>m.2.1∨(m.2.2.2.1=false∧m.2.2.1=false) then ([(4,m.1,x.2.1,x.2.2.2.1,0,([]:List AQ))],qK m x.2.2.2.1 x.2.2.2.2.2)
 else if m.2.2.2.1=false then ([],m) else ([(4,m.1,x.2.1,m.2.1,0,([]:List AQ))],m)
theorem bN (m:Z) (view:List Int) (x:BT) (hv:qB view) (hx:x.2.2.2.2.2.length≤68719476736) :
  Gy view x m=some (qL m view x):=VH (by
 have hvl:=hv.len
 unfold Lx qL
 rw [Wy _ _ (by unfold maxLen; omega),Option.bind_some]
 cases c3:view.contains m.1 with
 | false=>rw [if_pos (by rfl),if_pos (by rfl)]
 | true =>
  rw [if_neg (by simp),if_pos (by omega),if_pos (by omega)]
  by_cases c4:view.getD 0 0=m.1
  ·rw [if_pos (by simpa using c4),if_pos (by rw [c4]; simp)]
  ·rw [if_neg (by simpa using c4),if_neg (by have:(view.getD 0 0==m.1)=false:=(by simpa using c4); rw [this]; simp)]
   have J1:∀ b:Bool,CV b m x=some (if b=true then ([(4,m.1,x.2.1,x.2.2.2.1,0,([]:List AQ))],qK m x.2.2.2.1 x.2.2.2.2.2) else if m.2.2.2.1=false then ([],m) else ([(4,m.1,x.2.1,m.2.1,0,([]:List AQ))],m)):=fun b=>RG (by
    unfold If
    cases b with
    | true =>
     rw [if_pos rfl,if_pos rfl,As hx,Option.bind_some,RL,Option.bind_some,B_ _ _ _ (by simp) (by simp),Option.bind_some]
     rfl
    | false =>
     simp only [Bool.false_eq_true,if_false]
     cases hb:m.2.2.2.1 with
     | false=>simp
     | true =>
      simp only [Bool.not_true,Bool.false_eq_true,if_false,Bool.true_eq_false]
      rw [B_ _ _ _ (by simp) (by simp),Option.bind_some]
      rfl)
   refine RH ?_
   unfold Ig
   rw [J1,J1,J1]
   by_cases c5:x.2.2.2.1>m.2.1
   ·rw [if_pos (by simpa using c5)]
    simp [c5]
   ·rw [if_neg (by simpa using c5)]
    cases hb:m.2.2.2.1<;>cases hf:m.2.2.1<;>simp [c5])
def la (m:Z) (x:BT):List BT×Z :=
 if (x.2.2.2.1==m.2.1&&m.2.2.2.1)=true then
  (if x.1=7 then ([(8,m.1,x.2.1,m.2.1,x.2.2.2.2.1,([]:List AQ))],m)
  else ([(6,m.1,x.2.1,m.2.1,x.2.2.2.2.1,([]:List AQ))],(m.1,m.2.1,m.2.2.1,m.2.2.2.1,m.2.2.2.2.1,m.2.2.2.2.2.1,m.2.2.2.2.2.2.1,DD m.2.2.2.2.2.2.2.1 (x.2.2.2.2.2.getD 0 (ByteArray.empty,ByteArray.empty,(0:Int))),m.2.2.2.2.2.2.2.2)))
 else ([],m)
theorem f8 (m:Z) (x:BT) (hm:m.2.2.2.2.2.2.2.1.length≤12) (h5:x.1≠7→0<x.2.2.2.2.2.length) :
  IL x m=some (la m x):=Xd (by
 unfold N_ la
 by_cases c1:x.2.2.2.1=m.2.1
 case neg=>rw [if_pos (by simpa using c1),if_neg (by simp [c1])]
 rw [if_neg (by simpa using c1)]
 by_cases c2:m.2.2.2.1=true
 case neg=>rw [if_pos (by simpa using c2),if_neg (by simp [c2])]
 rw [if_neg (by simpa using c2),if_pos (by simp [c1,c2])]
 refine TW ?_
 unfold LB
 by_cases c7:x.1=7
 ·rw [if_pos (by simpa using c7),if_pos c7,B_ _ _ _ (by simp) (by simp),Option.bind_some]
  rfl
 ·have:=h5 c7
  rw [if_neg (by simpa using c7),if_neg c7,if_pos (by omega),if_pos (by omega),Q0 _ _ (by omega),Option.bind_some,B_ _ _ _ (by simp) (by simp),Option.bind_some]
  rfl)
theorem Ss (m:Z) (op:Int) (x:BT) (hm:IV m) :
  FS op x m=some (if (x.2.2.2.1==m.2.1&&m.2.2.2.2.2.2.2.2.2.1==op&&m.2.2.2.2.2.2.2.2.2.2.2.1==x.2.2.2.2.1)=true then ((Fs m x.2.1).2.2,(Fs m x.2.1).1) else ([],m)):=Wj (by
 obtain ⟨l1,l2,l3⟩:=hm.lens
 unfold M6
 by_cases c1:x.2.2.2.1=m.2.1
 case neg=>rw [if_pos (by simpa using c1),if_neg (by simp [c1])]
 rw [if_neg (by simpa using c1)]
 by_cases c2:m.2.2.2.2.2.2.2.2.2.1=op
 case neg=>rw [if_pos (by simpa using c2),if_neg (by simp [c2])]
 rw [if_neg (by simpa using c2)]
 by_cases c3:m.2.2.2.2.2.2.2.2.2.2.2.1=x.2.2.2.2.1
 case neg=>rw [if_pos (by simpa using c3),if_neg (by simp [c3])]
 rw [if_neg (by simpa using c3),if_pos (by simp [c1,c2,c3])]
 refine SY ?_
 unfold Jj Fs
 rw [Q4 _ _ (by omega),Option.bind_some]
 by_cases c4:(m.2.2.2.2.2.2.2.2.2.2.2.2.2.filter (· != x.2.1)).length=0
 ·rw [if_neg (by rw [c4]; decide),if_pos (by rw [c4]; decide),W0 _ (by show m.2.2.2.2.2.2.2.1.length≤_; omega)]
  rfl
 ·rw [if_pos (decide_eq_true (by omega)),if_neg (by rw [beq_iff_eq]; omega)]
  rfl)
end Go.Proofs.YtokiohnjegbnpaaGreat.Core

namespace Go.Proofs.YtokiohnjegbnpaaGreat.Core
open Go
set_option linter.unusedVariables false
set_option linter.unusedSimpArgs false
def jv (x:BT):BT:=if x.1=3 then (x.1,x.2.1,x.2.2.1,x.2.2.2.1,0,x.2.2.2.2.2) else x
def W3 (m:Z) (views:List (List Int)) (x:BT):Z×List BT×List C9:=if Sk x=true then Dk m views (jv x) else (m,[],[])
theorem qM (x:BT):(jv x).2.2.1=x.2.2.1∧(jv x).2.2.2.1=x.2.2.2.1:=by unfold jv; split<;>exact ⟨rfl,rfl⟩
theorem XJ {m:Z} {views:List (List Int)} {x:BT} (h:¬ (x.2.2.1=m.1∧m.2.1≤x.2.2.2.1∧x.2.2.2.1≤(views.length:Int)∧Sk x=true)):W3 m views x=(m,[],[]):=by
 unfold W3
 split
 ·rename_i hx
  unfold Dk
  rw [if_neg (by
   rw [(qM x).1,(qM x).2]
   simp only [Bool.and_eq_true,beq_iff_eq,decide_eq_true_eq]
   exact fun g=>h ⟨g.1.1.2,g.1.2,g.2,hx⟩)]
 ·rfl
theorem lc {x:BT} (h:x.1≠3):jv x=x:=if_neg h
theorem qN {x:BT} (h:x.1=3→x.2.2.2.2.1=0):jv x=x:=by
 unfold jv
 split
 ·rename_i e
  obtain ⟨a,b,c,d,e,f⟩:=x
  have:=h ‹_›
  dsimp only at this
  rw [this]
 ·rfl
theorem mo {m:Z} {views:List (List Int)} {x:BT} (hx:qC x) (h1:x.2.2.1=m.1) (h2:m.2.1≤x.2.2.2.1) (h3:x.2.2.2.1≤(views.length:Int)):Dk m views x =
  (if x.2.2.2.1=m.2.1 then Y2 m (views.getD (m.2.1-1).toNat []) x
  else if (x.1==1&&(x.2.2.2.1==m.2.1+1)&&m.2.2.2.1&&(views.getD (m.2.1-1).toNat []).contains m.1)=true then (Sm m x.2.2.2.1,[(2,m.1,x.2.1,x.2.2.2.1,0,m.2.2.2.2.2.2.2.1)],[])
  else if (x.1==3&&(views.getD (x.2.2.2.1-1).toNat []).contains m.1&&((views.getD (x.2.2.2.1-1).toNat []).getD 0 0 != m.1))=true then
   ((m.1,x.2.2.2.1,false,true,false,false,([]:List Int),x.2.2.2.2.2,(0:Int),(0:Int),(0:Int),(0:Int),(ByteArray.empty,ByteArray.empty,(0:Int)),([]:List Int)),Dy m x 4,[])
  else (m,[],[])):=by
 unfold Dk
 rw [if_pos (by rw [XG.2 hx]; simp [h1,h2,h3])]
theorem bO {a:Z} {b:List BT} {c:List C9} {r:Z×List BT×List C9} (h:r=(a,b,c)):(b,c,a)=(r.2.1,r.2.2,r.1):=by rw [h]
theorem jO (m:Z) (views:List (List Int)) (x:BT) (hm:IV m) (hv:RJ views) (hx:qC x) (h1:x.2.2.1=m.1) (h2:m.2.1≤x.2.2.2.1) (h3:x.2.2.2.1≤(views.length:Int)) :
  JC views x m=some ((W3 m views x).2.1,(W3 m views x).2.2,(W3 m views x).1):=Yu (by
 have hvl:=hv.len
 have hep:=hm.ep
 have hxe:=hx.ep
 have hxi:=Jk hx.items
 obtain ⟨l1,l2,l3⟩:=hm.lens
 have hin:=mo hx h1 h2 h3
 unfold PT W3
 rw [if_pos (XG.2 hx)]
 have hV:=hv.wok (i:=(m.2.1-1).toNat) (by omega)
 generalize hVe:views.getD (m.2.1-1).toNat []=V at hV hin
 have hk:=hx.kind
 by_cases k1:x.1=1
 ·rw [if_pos (by simpa using k1),jN m views x hm hv (by omega),Option.bind_some,lc (by omega)]
  congr 1
  apply bO
  rw [hin]
  unfold qJ
  rw [hVe]
  by_cases e:x.2.2.2.1=m.2.1
  ·rw [if_pos e,if_neg (by rw [e]; simp; omega)]
   unfold Y2
   simp [k1]
  ·rw [if_neg e]
   cases hc:(x.2.2.2.1==m.2.1+1&&m.2.2.2.1&&V.contains m.1) with
   | true =>
    rw [if_pos (by rw [k1]; simpa using hc),if_pos rfl]
   | false =>
    rw [if_neg (by rw [k1]; simpa using hc),if_neg (by simp [k1]),if_neg (by simp)]
 rw [if_neg (by simpa using k1)]
 by_cases k2:x.1=2
 ·have J:∀ b:Bool,(b=true→m.2.2.2.1=false)→DH views b m x=some (if b=true then ((B5 V m.1).map (fun v=>(3,m.1,v,m.2.1,0,x.2.2.2.2.2)),[],Sl m V x.2.2.2.2.2) else ([],[],m)):=fun b hb=>U7 (by
   unfold Lo
   cases b with
   | false=>rw [if_neg (by simp),if_neg (by simp)]
   | true =>
    have hs:m.2.2.2.2.2.1=false:=by
     cases hh:m.2.2.2.2.2.1 with
     | false=>rfl
     | true=>have:=(hm.serves hh).1; rw [hb rfl] at this; cases this
    rw [if_pos rfl,if_pos rfl,AX (by omega),if_pos (by omega),if_pos (by omega),hVe,PY V _ m hV (by omega) hs,Option.bind_some])
  rw [if_pos (by simpa using k2),lc (by omega)]
  by_cases e:x.2.2.2.1=m.2.1
  ·rw [if_pos (by simpa using e)]
   have ho:Dk m views x=(if (m.2.2.2.2.1&&!m.2.2.2.1)=true then (Sl m V x.2.2.2.2.2,(B5 V m.1).map (fun v=>(3,m.1,v,m.2.1,0,x.2.2.2.2.2)),[]) else (m,[],[])):=by
    rw [hin,if_pos e]; unfold Y2; rw [if_pos k2]
   rw [ho]
   cases hl:m.2.2.2.2.1 with
   | false=>rw [if_neg (by simp),J false (by simp),if_neg (by simp),if_neg (by simp)]
   | true =>
    rw [if_pos (by rfl),J _ (by simp)]
    cases hb:m.2.2.2.1 with
    | true=>rw [if_neg (by simp),if_neg (by simp)]
    | false=>rw [if_pos (by rfl),if_pos (by rfl)]
  ·rw [if_neg (by simpa using e),J false (by simp),if_neg (by simp)]
   congr 1
   apply bO
   rw [hin,if_neg e,if_neg (by simp [k2]),if_neg (by simp [k2])]
 rw [if_neg (by simpa using k2)]
 by_cases k3:x.1=3
 ·have hW:=hv.wok (i:=(x.2.2.2.1-1).toNat) (by omega)
  rw [if_pos (by simpa using k3),AX (by omega),if_pos (by omega),if_pos (by omega)]
  have hx':qC (jv x):=by
   unfold jv
   rw [if_pos k3]
   exact ⟨hx.kind,hx.frm,hx.to,hx.ep,(show (0:Int)≤0∧(0:Int)≤1000000000 from by decide),hx.items,hx.shape⟩
  have hf:jv x=(x.1,x.2.1,x.2.2.1,x.2.2.2.1,0,x.2.2.2.2.2):=if_pos k3
  have hin2:=mo (m:=m) (views:=views) hx' (by rw [hf]; exact h1) (by rw [hf]; exact h2) (by rw [hf]; exact h3)
  rw [hVe] at hin2
  generalize hWe:views.getD (x.2.2.2.1-1).toNat []=Wv at hW
  rw [bN m Wv x hW (by omega),Option.bind_some]
  congr 1
  apply bO
  rw [hin2,hf]
  dsimp only
  rw [hWe]
  unfold qL
  by_cases e:x.2.2.2.1=m.2.1
  ·have hVW:Wv=V:=by rw [← hWe,← hVe,e]
   rw [if_pos e]
   unfold Y2
   rw [if_neg (by rw [k3]; decide),if_pos k3,hVW]
   dsimp only
   cases hc:(!V.contains m.1||(V.getD 0 0==m.1)) with
   | true=>simp only [if_true]
   | false =>
    simp only [Bool.false_eq_true,if_false]
    cases hb:m.2.2.2.1<;>cases hf2:m.2.2.1<;>simp [e,Dy,qK]
  ·rw [if_neg e,if_neg (by rw [k3]; simp)]
   cases hc:(!Wv.contains m.1||(Wv.getD 0 0==m.1)) with
   | true =>
    rw [if_neg (by
     intro h
     simp only [Bool.and_eq_true,bne_iff_ne,Bool.or_eq_true,Bool.not_eq_true',beq_iff_eq] at h hc
     rcases hc with hc | hc
     ·rw [hc] at h; exact absurd h.1.2 (by simp)
     ·exact h.2 hc),if_pos rfl]
   | false =>
    rw [if_pos (by
     simp only [Bool.or_eq_false_iff,Bool.not_eq_false'] at hc
     rw [k3,hc.1]
     simpa using hc.2),if_neg (by simp),if_pos (Or.inl (by omega))]
    rfl
 rw [if_neg (by simpa using k3),lc k3]
 by_cases k4:x.1=4
 ·rw [if_pos (by simpa using k4)]
  have J:∀ b:Bool,Ew b m x=some (if b=true then ([],[],(m.1,m.2.1,m.2.2.1,m.2.2.2.1,m.2.2.2.2.1,m.2.2.2.1&&(((m.2.2.2.2.2.2.1.filter (· != x.2.1)).length:Int)==0),m.2.2.2.2.2.2.1.filter (· != x.2.1),m.2.2.2.2.2.2.2)) else ([],[],m)):=fun b=>U8 (by
   unfold Lq
   cases b with
   | false=>rw [if_neg (by simp),if_neg (by simp)]
   | true =>
    rw [if_pos rfl,if_pos rfl,Q4 _ _ (by omega),Option.bind_some]
    cases hs:m.2.2.2.2.2.1 with
    | true =>
     obtain ⟨q1,q2,q3⟩:=hm.serves hs
     rw [if_neg (by simp),q3,q1]
     rfl
    | false =>
     rw [if_pos rfl]
     cases hq:(((m.2.2.2.2.2.2.1.filter (· != x.2.1)).length:Int)==0) with
     | true=>rw [if_pos rfl,Bool.and_true]
     | false=>rw [if_neg (by simp),Bool.and_false])
  by_cases e:x.2.2.2.1=m.2.1
  ·rw [if_pos (by simpa using e),J]
   have ho:Dk m views x=(if m.2.2.2.2.1=true then
     ((m.1,m.2.1,m.2.2.1,m.2.2.2.1,m.2.2.2.2.1,m.2.2.2.1&&(((m.2.2.2.2.2.2.1.filter (· != x.2.1)).length:Int)==0),m.2.2.2.2.2.2.1.filter (· != x.2.1),m.2.2.2.2.2.2.2),[],[]) else (m,[],[])):=by
    rw [hin,if_pos e]; unfold Y2; rw [if_neg k2,if_neg k3,if_pos k4]
   rw [ho]
   cases hl:m.2.2.2.2.1 with
   | false=>rw [if_neg (by simp),if_neg (by simp)]
   | true=>rw [if_pos rfl,if_pos rfl]
  ·rw [if_neg (by simpa using e),J,if_neg (by simp)]
   congr 1
   apply bO
   rw [hin,if_neg e,if_neg (by simp [k4]),if_neg (by simp [k4])]
 rw [if_neg (by simpa using k4)]
 have st:x.1=5∨x.1=7→la m x=((Dk m views x).2.1,(Dk m views x).1)∧(Dk m views x).2.2=[]:=fun hk=>by
  rw [hin]
  unfold la
  by_cases e:x.2.2.2.1=m.2.1
  ·rw [if_pos e]
   unfold Y2 Dy
   rw [if_neg k2,if_neg k3,if_neg k4,e]
   cases hb:m.2.2.2.1 with
   | true =>
    rcases hk with hk | hk
    ·rw [if_pos (by simp),if_neg (by omega),if_pos hk,if_pos rfl]
     exact ⟨rfl,rfl⟩
    ·rw [if_pos (by simp),if_pos hk,if_neg (by omega),if_pos hk,if_pos rfl]
     exact ⟨rfl,rfl⟩
   | false =>
    rcases hk with hk | hk
    ·rw [if_neg (by simp),if_pos hk,if_neg (by simp)]
     exact ⟨rfl,rfl⟩
    ·rw [if_neg (by simp),if_neg (by omega),if_pos hk,if_neg (by simp)]
     exact ⟨rfl,rfl⟩
  ·simp [e,k1,k3]
 have sd:∀ op,x.1=6∧op=1∨x.1=8∧op=2→(if (x.2.2.2.1==m.2.1&&m.2.2.2.2.2.2.2.2.2.1==op&&m.2.2.2.2.2.2.2.2.2.2.2.1==x.2.2.2.2.1)=true then ((Fs m x.2.1).2.2,(Fs m x.2.1).1) else ([],m))=((Dk m views x).2.2,(Dk m views x).1)∧(Dk m views x).2.1=[]:=fun op hk=>by
  have ht:(Fs m x.2.1).2.1=[]:=by unfold Fs; split<;>rfl
  rw [hin]
  by_cases e:x.2.2.2.1=m.2.1
  ·rw [if_pos e]
   unfold Y2
   rw [if_neg k2,if_neg k3,if_neg k4,if_neg (show ¬ x.1=5 by omega),if_neg (show ¬ x.1=7 by omega),e]
   have hop:(if x.1=8 then (2:Int) else 1)=op:=by
    rcases hk with ⟨h,h'⟩ | ⟨h,h'⟩
    ·rw [if_neg (by omega),h']
    ·rw [if_pos h,h']
   rw [hop]
   by_cases c1:m.2.2.2.2.2.2.2.2.2.1=op
   ·by_cases c2:m.2.2.2.2.2.2.2.2.2.2.2.1=x.2.2.2.2.1
    ·rw [if_pos (by simp [c1,c2]),if_pos ⟨by omega,c1,c2⟩]
     exact ⟨rfl,ht⟩
    ·simp [c2]
   ·simp [c1]
  ·simp [e,k1,k3]
 have h7:x.1≠7→x.1=5→0<x.2.2.2.2.2.length:=fun _ h5=>by
  have:=hx.shape
  rw [if_neg (by omega),if_pos h5] at this
  omega
 have J2:∀ b:Bool,(b=true↔x.1=5∨x.1=7)→Ex x.1 b m x=some ((Dk m views x).2.1,(Dk m views x).2.2,(Dk m views x).1):=fun b hb=>U9 (by
  unfold Lr
  cases b with
  | true =>
   have hk5:=hb.1 rfl
   obtain ⟨q1,q2⟩:=st hk5
   rw [if_pos rfl,f8 m x l2 (fun h=>h7 h (by omega)),Option.bind_some,q1,q2]
  | false =>
   have hn:¬ (x.1=5∨x.1=7):=fun h=>by have:=hb.2 h; cases this
   rw [if_neg (by simp)]
   by_cases k6:x.1=6
   ·obtain ⟨q1,q2⟩:=sd 1 (.inl ⟨k6,rfl⟩)
    rw [if_pos (by simpa using k6),Ss m 1 x hm,Option.bind_some,q1,q2]
   ·obtain ⟨q1,q2⟩:=sd 2 (.inr ⟨by omega,rfl⟩)
    rw [if_neg (by simpa using k6),if_pos (by rw [beq_iff_eq]; omega),Ss m 2 x hm,Option.bind_some,q1,q2])
 by_cases k5:x.1=5
 ·rw [if_pos (by simpa using k5),J2 _ (by simp [k5])]
 ·rw [if_neg (by simpa using k5),J2 _ (by simp [k5])])
theorem Gj {m:Z} (h:IV m):C8 m=some true:=by
 obtain ⟨h1,h2,h3⟩:=h.lens
 rw [Y1 m (by unfold maxLen; omega) (by unfold maxLen; omega) (by unfold maxLen; omega),nu.2 h]
theorem Fe {views:List (List Int)} (h:RJ views):Dh views=some true:=by
 have:=h.len
 rw [bC views (by unfold maxLen; omega) (fun a ha=>by have:=(h.view ha).2; unfold maxLen; omega),h.ok]
theorem bP (m:Z) (views:List (List Int)) (x:BT) (hm:IV m) (hv:RJ views) (hx:x.2.2.2.2.2.length≤68719476736) :
  KZ m views x=some (W3 m views x):=ir (by
 have hxm:x.2.2.2.2.2.length≤maxLen:=by unfold maxLen; omega
 unfold WW
 rw [hm.icopy,Option.bind_some]
 by_cases c1:x.2.2.1=m.1
 case neg=>rw [if_neg (by simpa using c1),XJ (fun h=>c1 h.1)]
 rw [if_pos (by simpa using c1)]
 by_cases c2:x.2.2.2.1<m.2.1
 ·rw [if_neg (by simpa using c2),XJ (fun h=>by omega)]
 rw [if_pos (by simpa using c2)]
 by_cases c3:x.2.2.2.1>(views.length:Int)
 ·rw [if_neg (by simpa using c3),XJ (fun h=>by omega)]
 rw [if_pos (by simpa using c3),Gj hm,Option.bind_some,if_pos (by rfl),Fe hv,Option.bind_some,if_pos (by rfl),f4 x hxm,Option.bind_some]
 cases hmo:Sk x with
 | false=>rw [if_pos (by rfl),XJ (fun h=>by rw [hmo] at h; cases h.2.2.2)]
 | true =>
  rw [if_neg (by simp)]
  have hx':=XG.1 hmo
  refine aN ?_
  unfold Qg
  have hok:IV (W3 m views x).1:=by
   unfold W3
   rw [if_pos hmo]
   exact (bG hm hv).mok
  rw [jO m views x hm hv hx' c1 (by omega) (by omega),Option.bind_some,hok.icopy,Option.bind_some])
end Go.Proofs.YtokiohnjegbnpaaGreat.Core

namespace Go.Proofs.YtokiohnjegbnpaaGreat.Core
open Go
set_option linter.unusedVariables false
set_option linter.unusedSimpArgs false
theorem jw (x:List Int):YS x=some (decide ((x.length:Int)>1048576)):=nL rfl
theorem jx (m:Z):QQ m=some (Uu m):=mZ rfl
end Go.Proofs.YtokiohnjegbnpaaGreat.Core

namespace Go.Proofs.YtokiohnjegbnpaaGreat.Core
open Go
set_option linter.unusedVariables false
set_option linter.unusedSimpArgs false
end Go.Proofs.YtokiohnjegbnpaaGreat.Core

namespace Go.Proofs.YtokiohnjegbnpaaGreat.Core
open Go
set_option linter.unusedVariables false
set_option linter.unusedSimpArgs false
def X2 (k:ByteArray) (b:AQ):Bool:=b.1.toList==k.toList
theorem mq (k:ByteArray):∀ x:List AQ,(x.filter (Sf k)).length+(x.filter (OS k)).length+(x.filter (X2 k)).length=x.length
 | []=>rfl
 | b::x=>by
  have ih:=mq k x
  have hi:OS k b=!(Sf k b||X2 k b):=rfl
  cases hl:Sf k b with
  | true =>
   have hs:X2 k b=false:=by
    cases q:X2 k b with
    | false=>rfl
    | true =>
     have e:b.1.toList=k.toList:=by simpa [X2] using q
     unfold Sf at hl
     rw [e,XF] at hl
     cases hl
   simp only [List.filter_cons,hi,hl,hs,Bool.true_or,Bool.not_true,if_true,Bool.false_eq_true,if_false,List.length_cons]
   omega
  | false =>
   cases hs:X2 k b with
   | true =>
    simp only [List.filter_cons,hi,hl,hs,Bool.false_or,Bool.not_true,if_true,Bool.false_eq_true,if_false,List.length_cons]
    omega
   | false =>
    simp only [List.filter_cons,hi,hl,hs,Bool.or_false,Bool.not_false,if_true,Bool.false_eq_true,if_false,List.length_cons]
    omega
def JR (x:List AQ) (k:ByteArray):Bool:=x.any (X2 k)
theorem jP {x:List AQ} {k:ByteArray}:JR x k=true↔1≤(x.filter (X2 k)).length:=by
 unfold JR
 rw [List.any_eq_true]
 constructor
 ·rintro ⟨b,hb,hs⟩
  exact List.length_pos_of_mem (List.mem_filter.2 ⟨hb,hs⟩)
 ·intro h
  obtain ⟨b,hb⟩:=List.exists_mem_of_length_pos h
  exact ⟨b,(List.mem_filter.1 hb).1,(List.mem_filter.1 hb).2⟩
theorem eC {x:List AQ} {k:ByteArray} (h:JR x k=false):C0 x k=(ByteArray.empty,ByteArray.empty,0):=by
 unfold C0
 have:x.find? (fun a=>a.1.toList==k.toList)=none:=by
  rw [List.find?_eq_none]
  intro b hb hs
  have:JR x k=true:=List.any_eq_true.2 ⟨b,hb,hs⟩
  rw [h] at this
  cases this
 rw [this]
 rfl
theorem nR {x:List AQ} {k:ByteArray} (h:JR x k=true):C0 x k∈x∧(C0 x k).1.toList=k.toList:=by
 obtain ⟨b,hb,hs⟩:=List.any_eq_true.1 h
 unfold C0
 cases q:x.find? (fun a=>a.1.toList==k.toList) with
 | none =>
  rw [List.find?_eq_none] at q
  exact absurd hs (q b hb)
 | some c=>exact ⟨List.mem_of_find?_eq_some q,by simpa using List.find?_some q⟩
theorem qO {x:List AQ} {k:ByteArray} (hx:BH x=true):VM (.pair .str (.pair .str (.int .i64))) (C0 x k) (ByteArray.empty,ByteArray.empty,(0:Int))=!JR x k:=by
 cases h:JR x k with
 | false=>rw [eC h]; exact mf _
 | true =>
  obtain ⟨h1,h2⟩:=nR h
  have h3:=(Hl.1 hx).1 _ h1
  unfold LD at h3
  simp only [Bool.and_eq_true,decide_eq_true_eq] at h3
  have h4:((C0 x k).2.2==(0:Int))=false:=by
   rw [beq_eq_false_iff_ne]
   omega
  show ((C0 x k).1.toList==_&&((C0 x k).2.1.toList==_&&((C0 x k).2.2==(0:Int))))=false
  rw [h4,Bool.and_false,Bool.and_false]
theorem re {x:List AQ} {a:AQ} (hx:BH x=true) (ha:LD a=true) (hv:ND x (a.2.2-1)) :
  DD x a=if x.length=12∧JR x a.1=false then x else Sg x a:=by
 obtain ⟨h1,h2,h3⟩:=Hl.1 hx
 have hs:Wt x a=false:=by
  cases q:Wt x a with
  | false=>rfl
  | true =>
   obtain ⟨b,hb,hc⟩:=List.any_eq_true.1 q
   simp only [Bool.and_eq_true,decide_eq_true_eq] at hc
   have:=hv b hb
   omega
 have hl:=mq a.1 x
 have hlen:(Sg x a).length=(x.filter (Sf a.1)).length+1+(x.filter (OS a.1)).length:=by simp [Sg]; omega
 unfold DD
 rw [hs,if_neg (by simp),if_pos hx]
 have hk:BH (Sg x a)=true↔(Sg x a).length≤12:=by
  rw [Hl]
  refine ⟨fun h=>h.2.2,fun h=>⟨fun b hb=>?_,jH a h2,h⟩⟩
  rcases me hb with e | e
  ·rw [e]; exact ha
  ·exact h1 b e
 cases hh:JR x a.1 with
 | true =>
  have:=jP.1 hh
  rw [if_pos (hk.2 (by omega)),if_neg (by simp)]
 | false =>
  have h0:(x.filter (X2 a.1)).length=0:=by
   rcases Nat.eq_zero_or_pos (x.filter (X2 a.1)).length with e | e
   ·exact e
   ·have:=jP.2 e
    rw [hh] at this
    cases this
  by_cases h12:x.length=12
  ·rw [if_neg (fun h=>by have:=hk.1 h; omega),if_pos ⟨h12,rfl⟩]
  ·rw [if_pos (hk.2 (by omega)),if_neg (fun h=>h12 h.1)]
theorem nS {x:List AQ} {a:AQ} (hx:BH x=true) (ha:LD a=true) (hv:ND x (a.2.2-1)) :
  VM (.pair .str (.pair .str (.int .i64))) (C0 (DD x a) a.1) a=!(decide (x.length=12)&&!JR x a.1):=by
 obtain ⟨h1,h2,h3⟩:=Hl.1 hx
 have ha2:=ha
 unfold LD at ha2
 simp only [Bool.and_eq_true,decide_eq_true_eq] at ha2
 rw [re hx ha hv]
 by_cases h:x.length=12∧JR x a.1=false
 ·rw [if_pos h,eC h.2,h.2,decide_eq_true h.1]
  have h4:((0:Int)==a.2.2)=false:=by
   rw [beq_eq_false_iff_ne]
   omega
  show (_&&(_&&((0:Int)==a.2.2)))=false
  rw [h4,Bool.and_false,Bool.and_false]
 ·rw [if_neg h,nO (jH a h2) qA,mf]
  by_cases h12:x.length=12
  ·cases hh:JR x a.1 with
   | true=>simp
   | false=>exact absurd ⟨h12,hh⟩ h
  ·simp [h12]
def s_ (m:Z) (views:List (List Int)):Bool:=m.2.2.2.2.2.1&&(m.2.2.2.2.2.2.2.2.2.1==0)&&decide (m.2.2.2.2.2.2.2.2.1<900)&&decide (m.2.1≤(views.length:Int))&&((views.getD (m.2.1-1).toNat []).getD 0 0==m.1)
def tA (op call:Int) (key val:ByteArray):Bool:=(op==1||op==2)&&(decide (0≤call)&&decide (call≤1000))&&(decide (1≤(key.size:Int))&&decide ((key.size:Int)≤12))&&decide ((val.size:Int)≤20)&&(op==1||lV val)
theorem jQ (m:Z) (views:List (List Int)) (op call:Int) (key val:ByteArray):TZ m views op call key val=(s_ m views&&tA op call key val):=by
 unfold TZ s_ tA
 ac_rfl
theorem Y8 (m:Z) (views:List (List Int)) (hm:IV m) (hv:RJ views):GX views m=some (s_ m views,m):=TR (by
 have hvl:=hv.len
 have hep:=hm.ep
 have hcnt:=hm.count
 have wm:IntKind.i64.wrap (m.2.1-1)=m.2.1-1:=AX (by omega)
 unfold K5 s_
 cases h1:m.2.2.2.2.2.1 with
 | false=>rfl
 | true =>
  rw [if_pos (by rfl)]
  by_cases h2:m.2.2.2.2.2.2.2.2.2.1=0
  ·rw [if_pos (by rw [h2]; rfl),h2]
   by_cases h3:m.2.2.2.2.2.2.2.2.1=900
   ·rw [if_neg (by rw [h3]; simp),h3]
    rfl
   ·rw [if_pos (by simpa using h3),decide_eq_true (show m.2.2.2.2.2.2.2.2.1<900 by omega)]
    by_cases h4:m.2.1>(views.length:Int)
    ·rw [if_pos (by simpa using h4),decide_eq_false (show ¬ m.2.1≤(views.length:Int) by omega)]
     rfl
    ·rw [if_neg (by simpa using h4),decide_eq_true (show m.2.1≤(views.length:Int) by omega)]
     refine Pc ?_
     have g1:=hv.get (i:=(m.2.1-1).toNat) (by omega)
     unfold IF
     rw [Fe hv,Option.bind_some,if_pos (by rfl),wm,if_pos (by omega),if_pos (by omega),if_pos (by omega),if_pos (by omega)]
     rfl
  ·rw [if_neg (by simpa using h2),show (m.2.2.2.2.2.2.2.2.2.1==(0:Int))=false by simpa using h2]
   rfl)
theorem jR (op call:Int) (key val:ByteArray):KY op call key val=some (tA op call key val):=aH (by
 have w:∀ b,Iz op val b=some (op==1||lV val):=fun b=>US (by
  unfold NT
  rw [dV]
  by_cases h:op=1
  ·rw [if_neg (by simp [h]),h]; rfl
  ·rw [if_pos (by simpa using h),show (op==1)=false by simpa using h]; rfl)
 unfold TO tA
 have oq:decide ((val.size:Int)>20)=!decide ((val.size:Int)≤20):=by
  by_cases h:(val.size:Int)≤20
  ·rw [decide_eq_true h,decide_eq_false (by omega)]; rfl
  ·rw [decide_eq_false h,decide_eq_true (by omega)]; rfl
 have h12:(op==1||op==2)=(decide (1≤op)&&decide (op≤2)):=by
  by_cases a:op=1
  ·subst a; rfl
  ·by_cases b:op=2
   ·subst b; rfl
   ·rw [show (op==1)=false by simpa using a,show (op==2)=false by simpa using b,← Bool.decide_and,decide_eq_false (by omega)]; rfl
 rw [Al,Option.bind_some,Al,Nc,h12]
 cases (decide (1≤op)&&decide (op≤2)) with
 | false=>rfl
 | true =>
  rw [if_pos (by rfl),Option.bind_some]
  cases (decide (0≤call)&&decide (call≤1000)) with
  | false=>rfl
  | true =>
   rw [if_pos (by rfl),Option.bind_some]
   cases (decide (1≤(key.size:Int))&&decide ((key.size:Int)≤12)) with
   | false=>rfl
   | true =>
    rw [if_pos (by rfl),oq,w]
    cases decide ((val.size:Int)≤20)<;>rfl)
theorem f9 (m:Z) (views:List (List Int)) (op call:Int) (key val:ByteArray) (hm:IV m) (hv:RJ views) (h1:V1 views m):ON m views op call key val=some (DA m views op call key val):=lO (by
 have hvl:=hv.len
 have hep:=hm.ep
 have hcnt:=hm.count
 have hl:=hm.lens
 have wm:IntKind.i64.wrap (m.2.1-1)=m.2.1-1:=AX (by omega)
 have wc:IntKind.i64.wrap (m.2.2.2.2.2.2.2.2.1+1)=m.2.2.2.2.2.2.2.2.1+1:=AX (by omega)
 have wk:IntKind.i64.wrap (1000*m.2.1)=1000*m.2.1:=AX (by omega)
 have wv:IntKind.i64.wrap (1000*m.2.1+(m.2.2.2.2.2.2.2.2.1+1))=1000*m.2.1+(m.2.2.2.2.2.2.2.2.1+1):=AX (by omega)
 unfold aQ DA
 rw [Gj hm,Option.bind_some,if_pos (by rfl),Y8 m views hm hv,Option.bind_some,jR,jQ]
 cases hb:s_ m views with
 | false=>rfl
 | true =>
  dsimp only
  rw [if_pos (by rfl),Option.bind_some]
  cases ha:tA op call key val with
  | false=>rfl
  | true =>
   rw [if_neg (by simp),if_pos (by rfl)]
   have hmay:TZ m views op call key val=true:=by rw [jQ,hb,ha]; rfl
   obtain ⟨s1,s2,s3,s4,s5,s6,s7,s8,s9,s10⟩:=dZ hmay
   obtain ⟨b1,b2,_⟩:=hm.serves s1
   have hw:=hv.wok (i:=(m.2.1-1).toNat) (by omega)
   have hwl:=hw.len
   have hrl:=Gi (views.getD (m.2.1-1).toNat []) m.1
   have ho:=eB hw m.1
   have hone:LD (In m key val)=true:=(Hl.1 (mi hm s3 s6 s7)).1 _ (by simp)
   have href:=nS (a:=In m key val) hm.items hone ((h1.own b2 b1).mono (by show _≤1000*m.2.1+(m.2.2.2.2.2.2.2.2.1+1)-1; omega))
   have hz:=qO (k:=key) hm.items
   have J1:∀ b z,Gl views op call b m z (m.1,m.2.1,m.2.2.1,m.2.2.2.1,m.2.2.2.2.1,m.2.2.2.2.2.1,m.2.2.2.2.2.2.1,m.2.2.2.2.2.2.2.1,m.2.2.2.2.2.2.2.2.1+1,m.2.2.2.2.2.2.2.2.2) (key,val,1000*m.2.1+(m.2.2.2.2.2.2.2.2.1+1))=some (RK m (views.getD (m.2.1-1).toNat []) op call key val):=fun b z=>fK (by
    unfold UX
    rw [wm,if_pos (by omega),if_pos (by omega),MV _ _ (by omega),Option.bind_some,CJ (by show (B5 (views.getD (m.2.1-1).toNat []) m.1).length≤_; omega),Option.bind_some]
    have hsort:=df hw m.1
    change ((CT (B5 (views.getD (m.2.1-1).toNat []) m.1)).bind _)=_
    rw [hsort,Option.bind_some]
    have J2:∀ a c d e x,(∀ q:BT,q=x→q.2.2.2.2.2.length≤12)→(n9 (IG m (views.getD (m.2.1-1).toNat []) op call key val) (B5 (views.getD (m.2.1-1).toNat []) m.1) x=jt m (views.getD (m.2.1-1).toNat []) op key val) →
      I0 (B5 (views.getD (m.2.1-1).toNat []) m.1) a c (IG m (views.getD (m.2.1-1).toNat []) op call key val) d e x=some (RK m (views.getD (m.2.1-1).toNat []) op call key val):=fun a c d e x hx12 htell=>fJ (by
     have hx:=hx12 x rfl
     unfold UW RK
     by_cases h0:(B5 (views.getD (m.2.1-1).toNat []) m.1).length=0
     ·rw [if_pos (by simpa using h0),if_pos (List.length_eq_zero_iff.1 (by rw [ho,h0])),W0 _ (by show m.2.2.2.2.2.2.2.1.length≤_; omega),Option.bind_some]
     ·rw [if_neg (by simpa using h0),if_neg (fun e=>h0 (by rw [← ho,e]; rfl)),B_ _ _ _ (by omega) (by omega),Option.bind_some,htell]
      exact bU)
    by_cases hop:op=1
    ·rw [if_pos (by simpa using hop)]
     refine J2 _ _ _ _ _ (fun q e=>by subst e; simp) ?_
     unfold n9 jt
     simp only [hop,if_true]
     rfl
    ·rw [if_neg (by simpa using hop)]
     refine J2 _ _ _ _ _ (fun q e=>by subst e; simp) ?_
     unfold n9 jt
     simp only [hop,if_false]
     rfl)
   refine fL ?_
   unfold UY
   rw [hm.icopy,Option.bind_some,wc,wk,wv]
   by_cases hop:op=1
   ·rw [if_pos (by simpa using hop)]
    by_cases h12:m.2.2.2.2.2.2.2.1.length=12
    ·rw [if_pos (by simp only [beq_iff_eq]; omega),Sd _ _ (by unfold maxLen; omega),Option.bind_some]
     change (if (false != VM (.pair .str (.pair .str (.int .i64))) (C0 m.2.2.2.2.2.2.2.1 key) (ByteArray.empty,ByteArray.empty,(0:Int)))=true then _ else _)=_
     rw [hz]
     rw [h12] at href
     cases hh:JR m.2.2.2.2.2.2.2.1 key with
     | false =>
      have hh2:JR m.2.2.2.2.2.2.2.1 (In m key val).1=false:=hh
      rw [hh2] at href
      rw [if_pos (by rfl),if_pos ⟨hop,href⟩]
      rfl
     | true =>
      have hh2:JR m.2.2.2.2.2.2.2.1 (In m key val).1=true:=hh
      rw [hh2] at href
      rw [if_neg (by simp),if_neg (fun h=>by have:=h.2; change VM (.pair .str (.pair .str (.int .i64))) (C0 _ (In m key val).1) _=false at this; rw [href] at this; cases this)]
      exact J1 _ _
    ·rw [if_neg (by simp; omega),if_neg (fun h=>by
      have:=h.2
      change VM (.pair .str (.pair .str (.int .i64))) (C0 _ (In m key val).1) _=false at this
      rw [href,decide_eq_false h12] at this
      cases this)]
     exact J1 _ _
   ·rw [if_neg (by simpa using hop),if_neg (fun h=>hop h.1)]
    exact J1 _ _)
end Go.Proofs.YtokiohnjegbnpaaGreat.Core

namespace Go.Proofs.YtokiohnjegbnpaaGreat.Core
open Go
set_option linter.unusedVariables false
set_option linter.unusedSimpArgs false
def ld (m:Z) (views:List (List Int)) (e:Int):Z×List BT×Bool :=
 if 2≤e∧e≤(views.length:Int)∧m.2.1<e∧(views.getD (e-1).toNat []).getD 0 0=m.1 then
  if (m.2.2.2.1&&(m.2.1==e-1))=true then
   (Sl (Jr m e) (views.getD (e-1).toNat []) m.2.2.2.2.2.2.2.1,(B5 (views.getD (e-1).toNat []) m.1).map (fun v=>(3,m.1,v,e,0,m.2.2.2.2.2.2.2.1)),true)
  else (Jr m e,(B5 (views.getD (e-2).toNat []) m.1).map (fun v=>(1,m.1,v,e,0,[])),true)
 else (Im,[],false)
theorem f_ (m:Z) (views:List (List Int)) (e:Int) (hm:IV m) (hv:RJ views):OO m views e=some (ld m views e):=lP (by
 have hvl:=hv.len
 have hep:=hm.ep
 have hl:=hm.lens
 unfold aR ld
 rw [Gj hm,Option.bind_some,if_neg (by simp),Fe hv,Option.bind_some,if_neg (by simp),Al,Option.bind_some]
 by_cases h1:2≤e∧e≤(views.length:Int)
 case neg =>
  rw [if_pos (by rw [← Bool.decide_and,decide_eq_false h1]; rfl),if_neg (fun h=>h1 ⟨h.1,h.2.1⟩)]
  rfl
 have we:IntKind.i64.wrap (e-1)=e-1:=AX (by omega)
 have we2:IntKind.i64.wrap (e-2)=e-2:=AX (by omega)
 rw [if_neg (by rw [← Bool.decide_and,decide_eq_true h1]; simp),we]
 by_cases h2:m.2.1<e
 case neg =>
  rw [if_pos (by simp; omega),if_neg (fun h=>h2 h.2.2.1)]
  rfl
 have g1:=hv.get (i:=(e-1).toNat) (by omega)
 have hw:=hv.wok (i:=(e-1).toNat) (by omega)
 have hw2:=hv.wok (i:=(e-2).toNat) (by omega)
 have hwl:=hw2.len
 rw [if_neg (by simp; omega),if_pos (by omega),if_pos (by omega),if_pos (by omega),if_pos (by omega)]
 by_cases h3:(views.getD (e-1).toNat []).getD 0 0=m.1
 case neg =>
  rw [if_pos (by simpa using h3),if_neg (fun h=>h3 h.2.2.2)]
  rfl
 rw [if_neg (by simpa using h3),if_pos ⟨h1.1,h1.2,h2,h3⟩]
 refine fN ?_
 unfold Ub
 rw [hm.icopy,Option.bind_some,we]
 have J1:∀ b z,I1 views e b m z m=some (if b=true then (Sl (Jr m e) (views.getD (e-1).toNat []) m.2.2.2.2.2.2.2.1,(B5 (views.getD (e-1).toNat []) m.1).map (fun v=>(3,m.1,v,e,0,m.2.2.2.2.2.2.2.1)),true)
   else (Jr m e,(B5 (views.getD (e-2).toNat []) m.1).map (fun v=>(1,m.1,v,e,0,[])),true)):=fun b z=>fM (by
  unfold Ua
  rw [RL,Option.bind_some,we,we2]
  cases b with
  | true =>
   rw [if_pos rfl,if_pos (by omega),if_pos (by omega)]
   change ((Cv (views.getD (e-1).toNat []) m.2.2.2.2.2.2.2.1 (Jr m e)).bind _)=_
   rw [PY _ _ (Jr m e) hw (by omega) rfl,Option.bind_some]
   rfl
  | false =>
   rw [if_neg (by simp),if_pos (by omega),if_pos (by omega)]
   change lr ((Bq (views.getD (e-2).toNat []) (Jr m e)).bind _) ((Bq (views.getD (e-2).toNat []) (Jr m e)).bind _)=_
   have hrl:=Gi (views.getD (e-2).toNat []) m.1
   rw [MV _ (Jr m e) (by omega),Option.bind_some,Option.bind_some,B_ _ _ (Jr m e) (by show (B5 (views.getD (e-2).toNat []) m.1).length≤_; omega) (by simp),Option.bind_some,Option.bind_some,Option.bind_some,bU]
   exact bU)
 cases hb:m.2.2.2.1 with
 | true=>rw [if_pos rfl,J1,Bool.true_and]
 | false=>rw [if_neg (by simp),J1,Bool.false_and])
theorem Xi (id:Int) (views:List (List Int)) (hi:1≤id∧id≤6) (hv:RJ views):MC id views=some (GJ id views,true):=ca (by
 have hvl:=hv.len
 have g:=hv.get (i:=0) (by omega)
 unfold SD
 rw [GH,Option.bind_some,if_pos (by rw [← Bool.decide_and,decide_eq_true hi]; rfl),Fe hv,Option.bind_some,if_neg (by simp)]
 refine XU ?_
 unfold Nz
 rw [show views.getD (0:Int).toNat ([]:List Int)=views.getD 0 [] from rfl,Wy _ _ (by unfold maxLen; omega),Option.bind_some]
 repeat rw [if_pos (by omega)]
 rfl)
end Go.Proofs.YtokiohnjegbnpaaGreat.Core

namespace Go.Proofs.YtokiohnjegbnpaaGreat.Core
open Go
set_option linter.unusedVariables false
set_option linter.unusedSimpArgs false
theorem OB (x:List (List Int)) (h:x.length≤1000) (ho:∀ a∈x,a.length≤1000):Hy x=some x:=cZ (by
 have key:=G7 (n:=x.length) (P:=fun i=>Fq x (x.length:Int) (i:Int) (x.take i)=some x) (Nx (by
  unfold IP
  rw [if_neg (by simp),List.take_length])) (fun i hi ih=>Nx (by
  unfold IP
  have hb:=ho x[i] (List.getElem_mem hi)
  simp only [show ((i:Int)<(x.length:Int)) from by omega,decide_true,if_true,show (0:Int)≤(i:Int) from by omega,Int.toNat_natCast,AY hi,AU (show i<9223372036854775807 by omega)]
  rw [CJ (by omega),Option.bind_some,if_pos (by simp; omega),List.take_append_getElem]
  exact ih)) 0 (by omega)
 unfold SC
 exact key)
theorem Xj (g:An) (k:Nat) (hg:Sq g k) (hk:k≤10000):Hx g=some g:=cM (by
 have hvl:=hg.views.len
 have hc:=hg.clen
 have hf:=hg.flen
 have h6:=hg.six
 unfold R7
 rw [OB g.1 (by omega) (fun a ha=>by have:=hg.views.view ha; omega),Option.bind_some,JF (by omega),Option.bind_some]
 have L2:∀ a b c d e f h,C2 g.2.2.1 (g.2.2.1.length:Int) ((0:Nat):Int) a b c d e f h g.1 g.2.1 [] g.2.2.2 g.1=some g→True:=fun _ _ _ _ _ _ _ _=>trivial
 have key2:∀ a b c d e f h k,C2 g.2.2.1 (g.2.2.1.length:Int) ((0:Nat):Int) a b c d e f h k g.2.1 [] g.2.2.2 g.1=some g:=by
  intro a b c d e f h k
  have key':=G7 (n:=g.2.2.1.length) (P:=fun i=>C2 g.2.2.1 (g.2.2.1.length:Int) (i:Int) a b c d e f h k g.2.1 (g.2.2.1.take i) g.2.2.2 g.1=some g) (Nv (by
   unfold IM
   rw [if_neg (by simp),List.take_length])) (fun i hi ih=>Nv (by
   unfold IM
   have hm:=Jk (hg.fly _ (List.getElem_mem hi)).items
   have hz:g.2.2.1.getD i ((0:Int),(0:Int),(0:Int),(0:Int),(0:Int),([]:List AQ))=g.2.2.1[i]:=AY hi
   simp only [show ((i:Int)<(g.2.2.1.length:Int)) from by omega,decide_true,if_true,show (0:Int)≤(i:Int) from by omega,Int.toNat_natCast,hz,AU (show i<9223372036854775807 by omega)]
   rw [LL _ (by omega),Option.bind_some,if_pos (by simp; omega),List.take_append_getElem]
   exact ih)) 0 (by omega)
  exact key'
 have key:∀ a b c d e f h k,C3 g.2.1 (g.2.1.length:Int) ((0:Nat):Int) a b g.2.2.1 c d e f h [] k g.2.2.2 g.1=some g→True:=fun _ _ _ _ _ _ _ _ _=>trivial
 have key0:∀ a b c d e f h,C3 g.2.1 (g.2.1.length:Int) ((0:Nat):Int) a b g.2.2.1 c d e f h [] [] g.2.2.2 g.1=some g:=by
  intro a b c d e f h
  have key':=G7 (n:=g.2.1.length) (P:=fun i=>C3 g.2.1 (g.2.1.length:Int) (i:Int) a b g.2.2.1 c d e f h (g.2.1.take i) [] g.2.2.2 g.1=some g) (Nw (by
   unfold IN
   rw [if_neg (by simp),List.take_length]
   refine XS ?_
   unfold Nu
   exact key2 _ _ _ _ _ _ _ _)) (fun i hi ih=>Nw (by
   unfold IN
   have hm:=(hg.mem i (by omega)).1
   unfold Az at hm
   rw [AY hi] at hm
   have hz:g.2.1.getD i ((0:Int),(0:Int),false,false,false,false,([]:List Int),([]:List AQ),(0:Int),(0:Int),(0:Int),(0:Int),(ByteArray.empty,ByteArray.empty,(0:Int)),([]:List Int))=g.2.1[i]:=AY hi
   simp only [show ((i:Int)<(g.2.1.length:Int)) from by omega,decide_true,if_true,show (0:Int)≤(i:Int) from by omega,Int.toNat_natCast,hz,hm.icopy,Option.bind_some,AU (show i<9223372036854775807 by omega)]
   rw [if_pos (by simp; omega),List.take_append_getElem]
   exact ih)) 0 (by omega)
  exact key'
 exact key0 _ _ _ _ _ _ _)
theorem bQ {views:List (List Int)} (hv:RJ views):NL views=some (Ap views,true):=fD (by
 have hvl:=hv.len
 unfold UO
 rw [Fe hv,Option.bind_some,if_neg (by simp),OB views (by omega) (fun a ha=>by have:=hv.view ha; omega),Option.bind_some]
 have step:∀ (i:Nat) (a:_) (b:_) (c:_) (d:_) (l:List Z) r,1≤i→i≤6→l.length≤6→Eh views ((i+1:Nat):Int) a b c d (l++[GJ (i:Int) views]) [] [] views=some r→Eh views (i:Int) a b c d l [] [] views=some r:=by
  intro i a b c d l r h1 h6 hl hr
  refine PI ?_
  unfold JL
  rw [if_pos (by simp; omega),Xi _ _ (by omega) hv,Option.bind_some,if_pos (by simp; omega),AU (show i<9223372036854775807 by omega)]
  exact hr
 refine step 1 _ _ _ _ _ _ (by omega) (by omega) (by simp) ?_
 refine step 2 _ _ _ _ _ _ (by omega) (by omega) (by simp) ?_
 refine step 3 _ _ _ _ _ _ (by omega) (by omega) (by simp) ?_
 refine step 4 _ _ _ _ _ _ (by omega) (by omega) (by simp) ?_
 refine step 5 _ _ _ _ _ _ (by omega) (by omega) (by simp) ?_
 refine step 6 _ _ _ _ _ _ (by omega) (by omega) (by simp) ?_
 refine PI ?_
 unfold JL
 rw [if_neg (by decide)]
 rfl)
theorem EF {k:Nat} (id:Int) (g:An) (ms:Sq g k) (hi:1≤id∧id≤6):Bf id g=some (id-1,g):=XV (by
 have h6:=ms.six
 have step:∀ j (hj:j<6),Gx (g.2.1.getD j ((0:Int),(0:Int),false,false,false,false,([]:List Int),([]:List AQ),(0:Int),(0:Int),(0:Int),(0:Int),(ByteArray.empty,ByteArray.empty,(0:Int)),([]:List Int))) id=some ((j:Int)+1==id):=fun j hj=>U6 (by
  unfold Ln
  have:=(ms.mem j hj).2
  unfold Az at this
  change some ((g.2.1.getD j Im).1==id)=_
  rw [this])
 have key:∀ (d j:Nat),j+d=5→(j:Int)+1≤id→A_ g.2.1 id (g.2.1.length:Int) (j:Int)=some (id-1):=by
  intro d
  induction d with
  | zero =>
   intro j hj hle
   refine Cb ?_
   unfold Ba
   rw [if_pos (by simp; omega),if_pos (by omega),if_pos (by omega),Int.toNat_natCast,step j (by omega),Option.bind_some,if_pos (by simp; omega)]
   congr 1; omega
  | succ d ih =>
   intro j hj hle
   refine Cb ?_
   unfold Ba
   rw [if_pos (by simp; omega),if_pos (by omega),if_pos (by omega),Int.toNat_natCast,step j (by omega),Option.bind_some]
   by_cases e:(j:Int)+1=id
   ·rw [if_pos (by simpa using e)]
    congr 1; omega
   ·rw [if_neg (by simpa using e),AU (by omega)]
    exact ih (j+1) (by omega) (by omega)
 unfold N0
 rw [show Bx g.2.1 id=some (id-1) from Gf (by
  unfold Cz
  exact key 5 0 rfl (by omega)),Option.bind_some])
theorem Hm (told:List BT) (said:List C9) (at_:Int) (g:An) (hf:g.2.2.1.length+told.length≤68719476736) (hc:g.2.2.2.length≤68719476736) (hs:dY said) (hd:∀ c∈g.2.2.2,c.2.2.2.2.1=-1∨0≤c.2.2.2.2.1) :
  FQ told said at_ g=some (g.1,g.2.1,g.2.2.1++told,said.foldl (IH at_) g.2.2.2):=aO (by
 have hsl:=hs.1
 unfold Qh
 rw [if_pos hf]
 have fin:∀ (n:Nat) (cs:List Q3),n=said.length→CD at_ said (said.length:Int) (n:Int) g.1 g.2.1 (g.2.2.1++told) cs=some (g.1,g.2.1,g.2.2.1++told,cs):=fun n cs hn=>M3 (by
  unfold Hf
  rw [if_neg (by simp; omega)])
 match said,hs,hsl,fin with
 | [],_,_,fin=>exact fin 0 _ rfl
 | [s],hs,_,fin =>
  have h0:=(hs.2 s (by simp)).1
  refine M3 ?_
  unfold Hf
  have wl:IntKind.i64.wrap ((g.2.2.2.length:Int)-1)=(g.2.2.2.length:Int)-1:=AX (by omega)
  rw [if_pos (by simp),if_pos (by omega),if_pos (by simp)]
  change ((Ae s.1 0 (IntKind.i64.wrap ((g.2.2.2.length:Int)-1))).bind _)=_
  rw [Al,Option.bind_some,wl,AX (show -9223372036854775808≤(0:Int)+1∧(0:Int)+1≤9223372036854775807 by omega)]
  show _=some (g.1,g.2.1,g.2.2.1++told,IH at_ g.2.2.2 s)
  have f1:=fun cs=>fin 1 cs rfl
  by_cases c1:s.1≥(g.2.2.2.length:Int)
  ·rw [if_pos (by rw [← Bool.decide_and,decide_eq_false (by omega)]; rfl)]
   have:IH at_ g.2.2.2 s=g.2.2.2:=by unfold IH; rw [if_pos (by simp [c1])]
   rw [this]
   exact f1 _
  ·rw [if_neg (by rw [← Bool.decide_and,decide_eq_true (by omega)]; simp)]
   change (if 0≤s.1 then (if s.1<(g.2.2.2.length:Int) then (if ((g.2.2.2.getD s.1.toNat Ep).2.2.2.2.1 != -1)=true then _ else _) else _) else _)=_
   rw [if_pos h0,if_pos (by omega)]
   have hcl:s.1.toNat<g.2.2.2.length:=by omega
   have hdd:=hd (g.2.2.2.getD s.1.toNat Ep) (by rw [AY hcl]; exact List.getElem_mem _)
   by_cases c2:(g.2.2.2.getD s.1.toNat Ep).2.2.2.2.1≥0
   ·rw [if_pos (by simp only [bne_iff_ne,ne_eq]; omega)]
    have:IH at_ g.2.2.2 s=g.2.2.2:=by unfold IH; rw [if_pos (by rw [decide_eq_true c2,Bool.or_true])]
    rw [this]
    exact f1 _
   ·rw [if_neg (by simp only [bne_iff_ne,ne_eq]; omega)]
    have e:IH at_ g.2.2.2 s=g.2.2.2.set s.1.toNat (Ww at_ s (g.2.2.2.getD s.1.toNat Ep)):=by unfold IH; rw [if_neg (by rw [decide_eq_false c1,decide_eq_false c2]; simp)]
    rw [e]
    refine WX ?_
    unfold M2
    have hz2:∀ (l:List Q3),l.getD s.1.toNat ((0:Int),ByteArray.empty,ByteArray.empty,(0:Int),(0:Int),(0:Int),(0:Int),(0:Int),ByteArray.empty)=l.getD s.1.toNat Ep:=fun l=>rfl
    have hz3:([s]:List C9).getD (0:Int).toNat ((0:Int),(0:Int),(0:Int),ByteArray.empty,ByteArray.empty,(0:Int))=s:=rfl
    simp only [hz3,hz2,lX hcl,List.set_set,List.length_set]
    rw [if_pos h0,if_pos (by omega),AX (show -9223372036854775808≤(0:Int)+1∧(0:Int)+1≤9223372036854775807 by omega)]
    unfold Ww
    by_cases c3:(g.2.2.2.getD s.1.toNat Ep).1=2
    ·rw [if_pos (show ((g.2.2.2.getD s.1.toNat Ep).1==2)=true by simpa using c3),if_pos (show ((g.2.2.2.getD s.1.toNat Ep).1==2)=true by simpa using c3)]
     exact f1 _
    ·rw [if_neg (show ¬ ((g.2.2.2.getD s.1.toNat Ep).1==2)=true by simpa using c3),if_neg (show ¬ ((g.2.2.2.getD s.1.toNat Ep).1==2)=true by simpa using c3)]
     exact f1 _
 | _::_::_,_,hsl,_=>simp at hsl)
end Go.Proofs.YtokiohnjegbnpaaGreat.Core

namespace Go.Proofs.YtokiohnjegbnpaaGreat.Core
open Go
set_option linter.unusedVariables false
set_option linter.unusedSimpArgs false
theorem Sq.call {g:An} {k:Nat} (h:Sq g k) (at_:Int) (e:Fj):Sq (LH g at_ e) (k+1) :=
 ⟨h.views,h.six,h.mem,h.fly,by have:=h.flen; show g.2.2.1.length≤_; omega,by have:=h.clen; simp only [LH,List.length_append,List.length_cons,List.length_nil]; omega⟩
theorem VJ (at_:Int) (e:Fj) (g:An) (k:Nat) (hg:Sq g k) (hk:k≤1000) (h3:V3 g) (hn:1≤e.2.1∧e.2.1≤6):I_ e at_ g=some ((Nd g at_ e).1==0,(Nd g at_ e).2):=Yn (by
 have hc:=hg.clen
 have hf:=hg.flen
 have h6:=hg.six
 have hgc:=hg.call at_ e
 have h3c:=h3.call at_ e
 obtain ⟨m1,m2⟩:=hg.mem (e.2.1-1).toNat (by omega)
 have hb:=da (op:=e.2.2.2.1) (call:=(g.2.2.2.length:Int)) (key:=e.2.2.2.2.1) (val:=e.2.2.2.2.2) m1 hg.views
 unfold PP Nd
 rw [if_pos (by simp; omega)]
 change ((Bf e.2.1 (LH g at_ e)).bind _)=_
 rw [EF e.2.1 _ hgc hn,Option.bind_some]
 change (if 0≤e.2.1-1 then (if e.2.1-1<(g.2.1.length:Int) then ((ON (Az g (e.2.1-1).toNat) g.1 e.2.2.2.1 (g.2.2.2.length:Int) e.2.2.2.2.1 e.2.2.2.2.2).bind _) else none) else none)=_
 rw [if_pos (by omega),if_pos (by omega),f9 _ _ _ _ _ _ m1 hg.views (h3.mem _ (by omega)),Option.bind_some]
 cases hq:(DA (Az g (e.2.1-1).toNat) g.1 e.2.2.2.1 (g.2.2.2.length:Int) e.2.2.2.2.1 e.2.2.2.2.2).2.2.2 with
 | false=>rfl
 | true =>
  have hid:=hb.id hq
  have htl:=hb.tlen
  rw [if_neg (by simp),if_pos rfl]
  change (if 0≤e.2.1-1 then (if e.2.1-1<(g.2.1.length:Int) then _ else none) else none)=_
  rw [if_pos (by omega),if_pos (by omega)]
  dsimp only
  have:=Hm (DA (Az g (e.2.1-1).toNat) g.1 e.2.2.2.1 (g.2.2.2.length:Int) e.2.2.2.2.1 e.2.2.2.2.2).2.1 (DA (Az g (e.2.1-1).toNat) g.1 e.2.2.2.1 (g.2.2.2.length:Int) e.2.2.2.2.1 e.2.2.2.2.2).2.2.1 at_
   ((LH g at_ e).1,(LH g at_ e).2.1.set (e.2.1-1).toNat (DA (Az g (e.2.1-1).toNat) g.1 e.2.2.2.1 (g.2.2.2.length:Int) e.2.2.2.2.1 e.2.2.2.2.2).1,(LH g at_ e).2.2.1,(LH g at_ e).2.2.2) (by show g.2.2.1.length+_≤_; omega) (by simp only [LH,List.length_append,List.length_cons,List.length_nil]; omega) hb.said h3c.calls
  rw [this,Option.bind_some]
  unfold Ez
  rw [hid,m2,show (((e.2.1-1).toNat:Int)+1-1).toNat=(e.2.1-1).toNat by omega]
  rfl)
theorem oz {m:Z} {views:List (List Int)} {e:Int} (h:V1 views m):ld m views e=E6 m views e:=by
 unfold ld E6
 split
 ·cases hb:m.2.2.2.1 with
  | false=>rfl
  | true =>
   have hv:=(h.view hb).2
   by_cases he:m.2.1=e-1
   ·rw [show (e-2).toNat=(m.2.1-1).toNat by omega,hv,show (m.2.1==e-1)=true by simpa using he]
    rfl
   ·rw [show (m.2.1==e-1)=false by simpa using he]
    rfl
 ·rfl
theorem VK (at_:Int) (e:Fj) (g:An) (k:Nat) (hg:Sq g k) (hk:k≤1000) (h3:V3 g) (hn:1≤e.2.1∧e.2.1≤6):JA e at_ g=some ((Wx g at_ e.2.1).1==0,(Wx g at_ e.2.1).2):=Yo (by
 have hc:=hg.clen
 have hf:=hg.flen
 have h6:=hg.six
 have hvl:=hg.views.len
 obtain ⟨m1,m2⟩:=hg.mem (e.2.1-1).toNat (by omega)
 have hep:=m1.ep
 have h1:=h3.mem (e.2.1-1).toNat (by omega)
 unfold PQ Wx
 rw [EF e.2.1 g hg hn,Option.bind_some]
 change (if 0≤e.2.1-1 then (if e.2.1-1<(g.2.1.length:Int) then DF at_ (e.2.1-1) (IntKind.i64.wrap ((Az g (e.2.1-1).toNat).2.1+1)) g.1 g.2.1 g.2.2.1 g.2.2.2 e else none) else none)=_
 rw [if_pos (by omega),if_pos (by omega),AX (by omega)]
 have key:∀ (n:Nat) (ep:Int),1≤ep→ep+(n:Int)=(g.1.length:Int)+1→DF at_ (e.2.1-1) ep g.1 g.2.1 g.2.2.1 g.2.2.2 e=some ((LI g at_ (Az g (e.2.1-1).toNat) e.2.1 n ep).1==0,(LI g at_ (Az g (e.2.1-1).toNat) e.2.1 n ep).2):=by
  intro n
  induction n with
  | zero =>
   intro ep h1 h2
   refine G3 ?_
   unfold Eu
   rw [if_neg (by simp; omega)]
   rfl
  | succ n ih =>
   intro ep hp1 hp2
   refine G3 ?_
   unfold Eu LI
   have we:IntKind.i64.wrap (ep-1)=ep-1:=AX (by omega)
   have g1:=hg.views.get (i:=(ep-1).toNat) (by omega)
   rw [if_pos (by simp; omega),we,if_pos (by omega),if_pos (by omega),if_pos (by omega),if_pos (by omega)]
   change (if ((g.1.getD (ep-1).toNat []).getD 0 0 != e.2.1)=true then _ else _)=_
   by_cases hq:((g.1.getD (ep-1).toNat []).getD 0 0 != e.2.1)=true
   ·rw [if_pos hq,if_pos hq,AX (by omega)]
    exact ih (ep+1) (by omega) (by omega)
   ·rw [if_neg hq,if_neg hq,if_pos (by omega),if_pos (by omega)]
    change ((OO (Az g (e.2.1-1).toNat) g.1 ep).bind _)=_
    rw [f_ _ _ _ m1 hg.views,Option.bind_some,oz h1]
    cases hb:(E6 (Az g (e.2.1-1).toNat) g.1 ep).2.2 with
    | false=>rfl
    | true =>
     have ha:=db (e:=ep) m1 hg.views hb
     have hal:=ha.2.2.2
     rw [if_pos rfl,if_pos rfl,if_pos (by omega),if_pos (by omega)]
     dsimp only
     have:=Hm (E6 (Az g (e.2.1-1).toNat) g.1 ep).2.1 [] at_ (g.1,g.2.1.set (e.2.1-1).toNat (E6 (Az g (e.2.1-1).toNat) g.1 ep).1,g.2.2.1,g.2.2.2) (by show g.2.2.1.length+_≤_; omega) (by show g.2.2.2.length≤_; omega) Eo h3.calls
     rw [this,Option.bind_some]
     unfold Ez
     rw [ha.2.1,m2,show (((e.2.1-1).toNat:Int)+1-1).toNat=(e.2.1-1).toNat by omega]
     rfl
 by_cases hle:(Az g (e.2.1-1).toNat).2.1≤(g.1.length:Int)
 ·exact key _ _ (by omega) (by omega)
 ·have e0:((g.1.length:Int)-(Az g (e.2.1-1).toNat).2.1).toNat=0:=by omega
  rw [e0]
  refine G3 ?_
  unfold Eu
  rw [if_neg (fun h=>hle (by have:=of_decide_eq_true h; omega))]
  rfl)
def mr (g:An) (i:Nat) (at_:Int):An:=Ez (Lz g i)
 (Dk (Az g ((g.2.2.1.getD i Ds).2.2.1-1).toNat) g.1 (g.2.2.1.getD i Ds)).1 (Dk (Az g ((g.2.2.1.getD i Ds).2.2.1-1).toNat) g.1 (g.2.2.1.getD i Ds)).2.1 (Dk (Az g ((g.2.2.1.getD i Ds).2.2.1-1).toNat) g.1 (g.2.2.1.getD i Ds)).2.2 at_
theorem Su (at_:Int) (i:Nat) (g:An) (k:Nat) (hg:Sq g k) (hk:k≤10000) (h3:V3 g) (hi:i<g.2.2.1.length):Ha (i:Int) at_ g=some (mr g i at_):=WL (by
 have hc:=hg.clen
 have hf:=hg.flen
 have h6:=hg.six
 have hmem:g.2.2.1.getD i Ds∈g.2.2.1:=by rw [AY hi]; exact List.getElem_mem _
 have hx:=hg.fly _ hmem
 have hv2:=h3.fly _ hmem
 unfold My mr
 rw [if_pos (by omega),if_pos (by omega),AU (by omega)]
 change ((BP g.2.2.1 (i:Int) ((i+1:Nat):Int)).bind fun y1=>((Bf (g.2.2.1.getD i Ds).2.2.1 (g.1,g.2.1,y1,g.2.2.2)).bind _))=_
 rw [E3 (by omega) (by omega),Option.bind_some]
 have hto:=hx.to
 generalize hxx:g.2.2.1.getD i Ds=x at *
 obtain ⟨m1,m2⟩:=hg.mem (x.2.2.1-1).toNat (by omega)
 have hho:=bG (x:=x) m1 hg.views
 have hil:=Jk hx.items
 change ((Bf x.2.2.1 (Lz g i)).bind _)=_
 rw [EF x.2.2.1 (Lz g i) (hg.less i) hto,Option.bind_some]
 change (if decide (x.2.2.1-1≥0)=true then (if 0≤x.2.2.1-1 then (if x.2.2.1-1<(g.2.1.length:Int) then ((KZ (Az g (x.2.2.1-1).toNat) g.1 (g.2.2.1.getD (i:Int).toNat Ds)).bind _) else none) else none) else _)=_
 rw [Int.toNat_natCast,hxx,if_pos (by simp; omega),if_pos (by omega),if_pos (by omega),bP _ _ _ m1 hg.views (by omega),Option.bind_some]
 have hhi:W3 (Az g (x.2.2.1-1).toNat) g.1 x=Dk (Az g (x.2.2.1-1).toNat) g.1 x:=by
  unfold W3
  rw [if_pos (XG.2 hx),qN hv2.inst]
 rw [hhi]
 change (if 0≤x.2.2.1-1 then (if x.2.2.1-1<(g.2.1.length:Int) then _ else none) else none)=_
 rw [if_pos (by omega),if_pos (by omega)]
 dsimp only
 have htl:=hho.tlen
 have:=Hm (Dk (Az g (x.2.2.1-1).toNat) g.1 x).2.1 (Dk (Az g (x.2.2.1-1).toNat) g.1 x).2.2 at_
  ((Lz g i).1,(Lz g i).2.1.set (x.2.2.1-1).toNat (Dk (Az g (x.2.2.1-1).toNat) g.1 x).1,(Lz g i).2.2.1,(Lz g i).2.2.2) (by
   have:(Lz g i).2.2.1.length≤g.2.2.1.length:=by simp only [Lz,List.length_append,List.length_take,List.length_drop]; omega
   show (Lz g i).2.2.1.length+_≤_; omega) (by show g.2.2.2.length≤_; omega) hho.said h3.calls
 rw [this,Option.bind_some]
 unfold Ez
 rw [hho.id,m2,show (((x.2.2.1-1).toNat:Int)+1-1).toNat=(x.2.2.1-1).toNat by omega])
theorem VL (at_:Int) (e:Fj) (g:An) (k:Nat) (hg:Sq g k) (hk:k≤1000) (h3:V3 g) (he:LP e=true):GV e at_ g=some ((lh g at_ e).1==0,(lh g at_ e).2):=Yd (by
 have hn:=lY he
 have h6:=hg.six
 have hf:=hg.flen
 unfold PJ lh
 by_cases h1:e.1=1
 ·rw [if_pos (by simpa using h1),if_pos h1,VJ at_ e g k hg hk h3 (by omega)]; rfl
 rw [if_neg (by simpa using h1),if_neg h1]
 by_cases h5:e.1=5
 ·rw [if_pos (by simpa using h5),if_pos h5,VK at_ e g k hg hk h3 (by omega)]; rfl
 rw [if_neg (by simpa using h5),if_neg h5]
 by_cases h7:e.1=6
 ·obtain ⟨m1,m2⟩:=hg.mem (e.2.1-1).toNat (by omega)
  rw [if_pos (by simpa using h7),if_pos h7,EF e.2.1 g hg (by omega),Option.bind_some]
  change (if 0≤e.2.1-1 then (if e.2.1-1<(g.2.1.length:Int) then ((QQ (Az g (e.2.1-1).toNat)).bind _) else none) else none)=_
  rw [if_pos (by omega),if_pos (by omega),jx,Option.bind_some]
  change (if 0≤e.2.1-1 then (if e.2.1-1<(g.2.1.length:Int) then _ else none) else none)=_
  rw [if_pos (by omega),if_pos (by omega)]
  unfold Ez
  have:((Uu (Az g (e.2.1-1).toNat)).1-1).toNat=(e.2.1-1).toNat:=by
   show ((Az g (e.2.1-1).toNat).1-1).toNat=_
   rw [m2]; omega
  rw [this,List.append_nil]
  rfl
 rw [if_neg (by simpa using h7),if_neg h7]
 have hm:Hc e at_ g=some ((jL g at_ e).1==0,(jL g at_ e).2):=WQ (by
  unfold Mz jL
  by_cases h0:g.2.2.1=[]
  ·rw [if_pos (by rw [h0]; rfl),if_pos h0]; rfl
  have hl:0<g.2.2.1.length:=by
   cases hq:g.2.2.1 with
   | nil=>exact absurd hq h0
   | cons a l=>simp
  have hem:Int.tmod e.2.2.1 (g.2.2.1.length:Int)=e.2.2.1 % (g.2.2.1.length:Int):=Int.tmod_eq_emod_of_nonneg (by omega)
  have hlt:(e.2.2.1 % (g.2.2.1.length:Int)).toNat<g.2.2.1.length:=by
   have h1:=Int.emod_lt_of_pos e.2.2.1 (show (0:Int)<(g.2.2.1.length:Int) by omega)
   have h2:=Int.emod_nonneg e.2.2.1 (show (g.2.2.1.length:Int)≠0 by omega)
   omega
  obtain ⟨i,hi⟩:∃ i:Nat,e.2.2.1 % (g.2.2.1.length:Int)=(i:Int):=⟨(e.2.2.1 % (g.2.2.1.length:Int)).toNat,by
   have h2:=Int.emod_nonneg e.2.2.1 (show (g.2.2.1.length:Int)≠0 by omega)
   omega⟩
  rw [if_neg (by simp only [beq_iff_eq]; omega),if_neg (by omega),if_neg h0,hem,hi]
  rw [hi,Int.toNat_natCast] at hlt
  simp only [Int.toNat_natCast]
  by_cases k2:e.1=2
  ·rw [if_pos (by simpa using k2),if_neg (by omega),if_neg (by omega),Su at_ i g k hg (by omega) h3 hlt]
   rfl
  rw [if_neg (by simpa using k2)]
  by_cases k3:e.1=3
  ·rw [if_pos (by simpa using k3),if_neg (by omega),if_pos k3,AU (by omega),E3 (by omega) (by omega)]
   rfl
  have k4:e.1=4:=by omega
  have hmem:g.2.2.1.getD i Ds∈g.2.2.1:=by rw [AY hlt]; exact List.getElem_mem _
  have hil:=Jk (hg.fly _ hmem).items
  rw [if_neg (by simpa using k3),if_pos (by simpa using k4),if_pos k4,if_pos (by omega),if_pos (by omega)]
  change ((F7 (g.2.2.1.getD i Ds)).bind _)=_
  rw [LL _ (by omega),Option.bind_some,if_pos (by simp; omega)]
  rfl)
 rw [hm]
 rfl)
theorem bR {views:List (List Int)} {events:List Fj} (hv:RJ views) (hl:events.length≤70) (he:∀ e∈events,LP e=true) :
  NJ views events=some ((IC 0 events (Ap views) []).1,(IC 0 events (Ap views) []).2,true):=ew (by
 have hg:=Sr hv
 obtain ⟨r1,r2,r3⟩:=gJ events 0 (Ap views) [] hg (by omega) he
 unfold UK
 rw [bQ hv,Option.bind_some,if_pos (by rfl),if_neg (by simp; omega)]
 refine YX ?_
 unfold O8
 have codes:∀ (g:An) (a:Int) (e:Fj),LP e=true→(lh g a e).1=0∨(lh g a e).1=1:=by
  intro g a e he
  have hfa:∀ (m:Z) (nd:Int) (n:Nat) (ep:Int),(LI g a m nd n ep).1=0∨(LI g a m nd n ep).1=1:=by
   intro m nd n
   induction n with
   | zero=>intro ep; exact .inr rfl
   | succ n ih =>
    intro ep
    unfold LI
    split
    ·exact ih _
    ·split
     ·exact .inl rfl
     ·exact .inr rfl
  unfold lh
  split
  ·unfold Nd; split
   ·exact .inl rfl
   ·exact .inr rfl
  ·split
   ·exact hfa _ _ _ _
   ·split
    ·exact .inl rfl
    ·unfold jL
     split
     ·exact .inr rfl
     ·split
      ·exact .inl rfl
      ·split
       ·exact .inl rfl
       ·exact .inl rfl
 have L3:∀ a b c d,Ee events (events.length:Int) ((0:Nat):Int) a b c d (Ap views).2.1 (Ap views).2.2.1 (Ap views).2.2.2 (Ap views).1 []=some ((IC 0 events (Ap views) []).1,(IC 0 events (Ap views) []).2,true):=by
  intro a b c d
  have key:=G7 (n:=events.length) (P:=fun i=>∀ (g:An) (cs:List Int),Sq g i→V3 g→cs.length=i→IC i (events.drop i) g cs=IC 0 events (Ap views) []→Ee events (events.length:Int) (i:Int) a b c d g.2.1 g.2.2.1 g.2.2.2 g.1 cs=some ((IC 0 events (Ap views) []).1,(IC 0 events (Ap views) []).2,true)) (fun g cs hgi h3 hcs hr=>O9 (by
   unfold JG
   rw [if_neg (by simp)]
   change ((Hx g).bind _)=_
   rw [Xj g events.length hgi (by omega),Option.bind_some]
   rw [List.drop_eq_nil_of_le (Nat.le_refl _)] at hr
   rw [← hr]
   rfl)) (fun i hi ih g cs hgi h3 hcs hr=>O9 (by
   unfold JG
   obtain ⟨d1,d2,_⟩:=Gn (i:Int) events[i] g i hgi (by omega) (he _ (List.getElem_mem hi))
   have hz:events.getD i ((0:Int),(0:Int),(0:Int),(0:Int),ByteArray.empty,ByteArray.empty)=events[i]:=AY hi
   simp only [show ((i:Int)<(events.length:Int)) from by omega,decide_true,if_true,show (0:Int)≤(i:Int) from by omega,Int.toNat_natCast,hz,AU (show i<9223372036854775807 by omega)]
   change ((GV events[i] (i:Int) g).bind _)=_
   rw [VL (i:Int) events[i] g i hgi (by omega) h3 (he _ (List.getElem_mem hi)),Option.bind_some]
   have hcode:Q_ ((lh g (i:Int) events[i]).1==0)=some (lh g (i:Int) events[i]).1:=jl (by
    unfold Xt
    rcases codes g (i:Int) events[i] (he _ (List.getElem_mem hi)) with q | q<;>rw [q]<;>rfl)
   dsimp only
   rw [hcode,Option.bind_some,if_pos (by simp; omega)]
   refine ih _ _ d2 (h3.event hgi (by omega) (he _ (List.getElem_mem hi))) (by simp; omega) ?_
   rw [Bt hi] at hr
   exact hr)) 0 (by omega) (Ap views) [] hg (V3.new hv) rfl rfl
  exact key
 have L1:∀ a b c d,Ef events events (events.length:Int) ((0:Nat):Int) a b c d (Ap views).2.1 (Ap views).2.2.1 (Ap views).2.2.2 (Ap views).1=some ((IC 0 events (Ap views) []).1,(IC 0 events (Ap views) []).2,true):=by
  intro a b c d
  refine G7 (n:=events.length) (P:=fun i=>Ef events events (events.length:Int) (i:Int) a b c d (Ap views).2.1 (Ap views).2.2.1 (Ap views).2.2.2 (Ap views).1=some ((IC 0 events (Ap views) []).1,(IC 0 events (Ap views) []).2,true)) (O_ (by
   unfold JH
   rw [if_neg (by simp)]
   refine YW ?_
   unfold O7
   exact L3 _ _ _ _)) (fun i hi ih=>O_ (by
   unfold JH
   have hz:events.getD i ((0:Int),(0:Int),(0:Int),(0:Int),ByteArray.empty,ByteArray.empty)=events[i]:=AY hi
   simp only [show ((i:Int)<(events.length:Int)) from by omega,decide_true,if_true,show (0:Int)≤(i:Int) from by omega,Int.toNat_natCast,hz,AU (show i<9223372036854775807 by omega)]
   rw [az,he _ (List.getElem_mem hi),Option.bind_some,if_neg (by simp)]
   exact ih)) 0 (by omega)
 exact L1 _ _ _ _)
end Go.Proofs.YtokiohnjegbnpaaGreat.Core

namespace Go.Proofs.YtokiohnjegbnpaaGreat.Core
open Go
set_option linter.unusedVariables false
set_option linter.unusedSimpArgs false
theorem Y9 (x:List Int) (hx:x.length≤1048576):∃ v es,NI x=some (v,es)∧RJ v∧es.length≤69∧∀ e∈es,LP e=true:=by
 obtain ⟨d,e0,k0⟩:=dW x (by unfold maxLen; omega)
 obtain ⟨v,es,d1,e1,k1,hv,hl,he⟩:=bK x d hx k0
 refine ⟨v,es,eu ?_,hv,hl,he⟩
 unfold UJ
 rw [e0,Option.bind_some,e1,Option.bind_some]
theorem Ta {g:An} {n:Nat} (hg:Sq g n) (h3:V3 g) {i:Nat} (hi:i<6) (hs:(Az g i).2.2.2.2.2.1=true):(Az g i).2.1≤(g.1.length:Int)∧XI g.1 (Az g i).2.1=(i:Int)+1:=by
 obtain ⟨m1,m2⟩:=hg.mem i hi
 obtain ⟨l1,l2⟩:=(h3.mem i hi).lead (m1.serves hs).2.1
 exact ⟨l1,by rw [l2,m2]⟩
theorem gA (x) (hx:Kd.ok (.slice (.int .u8)) x):Ow x=some true:=YT (by
 unfold O4
 rw [jw,Option.bind_some]
 by_cases hbig:x.length≤1048576
 case neg=>rw [if_pos (by simp; omega)]
 rw [if_neg (by simp; omega)]
 obtain ⟨v,es,e,hv,hl,he⟩:=Y9 x hbig
 rw [e,Option.bind_some]
 dsimp only
 rw [bR hv (by omega) he,Option.bind_some,bI hv (by omega) he,Option.bind_some]
 obtain ⟨r1,r2,r3⟩:=gJ es 0 (Ap v) [] (Sr hv) (by omega) he
 have h3:=V3.run es 0 (Ap v) [] (Sr hv) (V3.new hv) (by omega) he
 generalize (IC 0 es (Ap v) []).1=g at *
 generalize (IC 0 es (Ap v) []).2=cs at *
 have hgv:g.1=v:=r2
 have h6:=r1.six
 rw [if_pos (by rfl),if_pos (by rw [h6]; rfl),if_neg (by simp)]
 have key:=G7 (n:=6) (P:=fun i=>Et v (i:Int) g g=some true) (Lj (by
  unfold G1
  rw [if_neg (by rw [h6]; simp)])) (fun i hi ih=>Lj (by
  unfold G1
  obtain ⟨m1,m2⟩:=r1.mem i hi
  have hep:=m1.ep
  have wi:IntKind.i64.wrap ((i:Int)+1)=(i:Int)+1:=AX (by omega)
  have L1:Bc v (i:Int) ((0:Nat):Int) g g (Az g i)=some true:=G7 (n:=i) (P:=fun j=>Bc v (i:Int) (j:Int) g g (Az g i)=some true) (Li (by
   unfold G0
   rw [if_neg (by simp),wi]
   exact ih)) (fun j hj ihj=>Li (by
   unfold G0
   rw [if_pos (by simpa using hj),AU (by omega)]
   by_cases hs:(Az g i).2.2.2.2.2.1=true
   ·rw [if_pos hs,if_pos (by omega),if_pos (by omega),Int.toNat_natCast]
    change (if (Az g j).2.2.2.2.2.1=true then (if 0≤(j:Int) then (if (j:Int)<(g.2.1.length:Int) then (if ((Az g j).2.1==(Az g i).2.1)=true then _ else _) else _) else _) else _)=_
    by_cases hsj:(Az g j).2.2.2.2.2.1=true
    ·rw [if_pos hsj,if_pos (by omega),if_pos (by omega),if_neg]
     ·exact ihj
     ·intro q
      have q:(Az g j).2.1=(Az g i).2.1:=by simpa using q
      have a:=(Ta r1 h3 hi hs).2
      have b:=(Ta r1 h3 (show j<6 by omega) hsj).2
      rw [q,a] at b
      omega
    ·rw [if_neg hsj]
     exact ihj
   ·rw [if_neg hs]
    exact ihj)) 0 (by omega)
  rw [if_pos (by rw [h6]; simp; omega),if_pos (by omega),if_pos (by omega),Int.toNat_natCast]
  change ((C8 (Az g i)).bind fun y5=>(if (!y5)=true then (some false) else (if ((Az g i).1 != IntKind.i64.wrap ((i:Int)+1))=true then _ else _)))=_
  rw [Gj m1,Option.bind_some,if_neg (by simp),wi,if_neg (by rw [m2]; simp)]
  change (if (Az g i).2.2.2.2.2.1=true then _ else _)=_
  by_cases hs:(Az g i).2.2.2.2.2.1=true
  ·obtain ⟨a1,a2⟩:=Ta r1 h3 hi hs
   rw [if_pos hs]
   change (if 0≤IntKind.i64.wrap ((Az g i).2.1-1) then (if IntKind.i64.wrap ((Az g i).2.1-1)<(v.length:Int) then (if (0:Int)≤0 then (if (0:Int)<((v.getD (IntKind.i64.wrap ((Az g i).2.1-1)).toNat []).length:Int) then (if ((v.getD (IntKind.i64.wrap ((Az g i).2.1-1)).toNat []).getD (0:Int).toNat 0 != (Az g i).1)=true then _ else _) else _) else _) else _) else _)=_
   rw [hgv] at a1 a2
   have g1:=hv.get (i:=((Az g i).2.1-1).toNat) (by omega)
   rw [AX (show -9223372036854775808≤(Az g i).2.1-1∧(Az g i).2.1-1≤9223372036854775807 by omega),if_pos (by omega),if_pos (by omega),if_pos (by omega),if_pos (by omega),if_neg]
   ·exact L1
   ·change ¬ ((XI v (Az g i).2.1) != (Az g i).1)=true
    rw [a2,m2]; simp
  ·rw [if_neg hs]
   exact L1)) 0 (by omega)
 exact key)
end Go.Proofs.YtokiohnjegbnpaaGreat.Core

namespace Go.Proofs.YtokiohnjegbnpaaGreat.Core
open Go
theorem qP {P:Program} {c:List Char} {rest:List (List Char)} (h:behindMainWord (wordsSigns P.initOrder.toList)=c::rest) (h1:(c == "gc".toList||c == "spec".toList)=false) (h2:(c == "cut".toList||(c == "finals".toList&&rest.head? == some "cut".toList))=true):P.make=some .cut:=by
 unfold Program.make
 rw [h]
 simp only [h1,h2]
 rfl
theorem qQ {P:Program} {c:List Char} {rest:List (List Char)} (h:behindMainWord (wordsSigns P.initOrder.toList)=c::rest) (h1:((stripLifts liftWords (c::rest)).2.head? == some "cut".toList)=true) (h2:(stripLifts liftWords (c::rest)).1=[])
  (h3:P.laysLater=false) (h4:P.bearsReflect=false) (h5:P.doorFits []=true):P.mayEnter=true:=by
 unfold Program.mayEnter
 rw [h]
 simp only [h1,h2,h3,h4,h5]
 simp
theorem qR {P:Program} {c:List Char} {rest:List (List Char)} (h:behindMainWord (wordsSigns P.initOrder.toList)=c::rest) (h1:(c == "carried".toList)=false) (h2:(stripLifts liftWords (c::rest)).1=[]):P.liftsFinal=false:=by
 have e:(some c==some "carried".toList)=false:=h1
 unfold Program.liftsFinal Program.headLifts
 rw [h]
 simp only [List.head?_cons,e,h2]
 simp
theorem JS {a b:Bool} (h:a=true) (g:b=true):(a&&b)=true:=by rw [h,g]; rfl
theorem qS {α:Type} [BEq α] [LawfulBEq α] {a b:α} (h:a=b):(a==b)=true:=by rw [h]; exact beq_self_eq_true b
end Go.Proofs.YtokiohnjegbnpaaGreat.Core

namespace Go.Proofs.YtokiohnjegbnpaaGreat.Core
open Go
set_option maxRecDepth 100000
def tT:List Nat:=[104,97,114,110,101,115,115,32,98,98,51,100,57,98,49,97,49,56,51,53,54,102,49,99,51,99,54,98,98,50,49,49,55,50,51,56,50,55,50,49,99,101,56,52,49,52,101,99,102,54,52,100,50,98,98,99,49,98,54,51,57,56,97,56,102,48,98,52,52,100,57,57,32,99,117,116,32,97,116,32,108,111,111,112,46,101,120,97,109,112,108,101,47,103,48,48,49,56,48,47,108,97,119,115,46,70,110,79,110,101,83,101,114,118,101,115,32,108,111,111,112,46,101,120,97,109,112,108,101,47,103,48,48,49,56,48,47,108,97,119,115,46,70,110,73,110,84,105,109,101,32,108,111,111,112,46,101,120,97,109,112,108,101,47,103,48,48,49,56,48,47,108,97,119,115,46,70,110,82,101,97,100,115,32,108,111,111,112,46,101,120,97,109,112,108,101,47,103,48,48,49,56,48,47,108,97,119,115,46,70,110,84,111,112,32,108,111,111,112,46,101,120,97,109,112,108,101,47,103,48,48,49,56,48,47,108,97,119,115,46,70,110,87,97,116,99,104,101,115,32,108,111,111,112,46,101,120,97,109,112,108,101,47,103,48,48,49,56,48,47,108,97,119,115,46,70,110,81,117,105,101,116,71,114,111,117,112]
def tU:List Nat:=[99,117,116]
def tV:List (List Nat):=[[97,116],[108,111,111,112,46,101,120,97,109,112,108,101,47,103,48,48,49,56,48,47,108,97,119,115,46,70,110,79,110,101,83,101,114,118,101,115],[108,111,111,112,46,101,120,97,109,112,108,101,47,103,48,48,49,56,48,47,108,97,119,115,46,70,110,73,110,84,105,109,101],[108,111,111,112,46,101,120,97,109,112,108,101,47,103,48,48,49,56,48,47,108,97,119,115,46,70,110,82,101,97,100,115],[108,111,111,112,46,101,120,97,109,112,108,101,47,103,48,48,49,56,48,47,108,97,119,115,46,70,110,84,111,112],[108,111,111,112,46,101,120,97,109,112,108,101,47,103,48,48,49,56,48,47,108,97,119,115,46,70,110,87,97,116,99,104,101,115],[108,111,111,112,46,101,120,97,109,112,108,101,47,103,48,48,49,56,48,47,108,97,119,115,46,70,110,81,117,105,101,116,71,114,111,117,112]]
theorem io:Tryz.prog.initOrder.toList=tT.map Char.ofNat:=(congrArg String.toList (show Tryz.prog.initOrder=String.ofList (tT.map Char.ofNat) from by kernel_rfl)).trans String.toList_ofList
theorem tQ:behindMainWord (wordsSigns Tryz.prog.initOrder.toList)=tU.map Char.ofNat::tV.map fun w=>w.map Char.ofNat:=by
 rw [io]
 kernel_rfl
theorem tR:Tryz.prog.make=some .cut:=qP tQ (by kernel_rfl) (by kernel_rfl)
theorem enters:Tryz.prog.mayEnter=true:=qQ tQ (by kernel_rfl) (by kernel_rfl) (by kernel_rfl) (by kernel_rfl) (by kernel_rfl)
theorem rf:Tryz.prog.liftsFinal=false:=qR tQ (by kernel_rfl) (by kernel_rfl)
theorem mt:laidOutB Tryz.prog=true:=by kernel_rfl
theorem nT:mapsRowed Tryz.prog=true:=by kernel_rfl
theorem sZ:Tryz.prog.stopsHeard=true:=by kernel_rfl
end Go.Proofs.YtokiohnjegbnpaaGreat.Core
