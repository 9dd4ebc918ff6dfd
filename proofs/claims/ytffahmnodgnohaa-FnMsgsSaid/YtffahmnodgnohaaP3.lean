/- Texts of the proof, packed: part 4. -/
import Derived.Test.YtffahmnodgnohaaP2
import Derived.JoinedOf
import Derived.Test.YtffahmnodgnohaaRows
import Derived.ProofKit
set_option linter.unusedVariables false
set_option linter.unusedSimpArgs false
namespace Go.Proofs.Ytffahmnodgnohaa.Core
open Go
theorem Wu (a b:ByteArray):(a.toList==b.toList)=decide (a=b):=by
 rw [Bool.eq_iff_iff,beq_iff_eq,decide_eq_true_eq]
 refine ⟨fun h=>?_,fun h=>by rw [h]⟩
 rw [ByteArray.toList_eq,ByteArray.toList_eq] at h
 cases a with
 | mk da =>
  cases b with
  | mk db=>exact congrArg ByteArray.mk (Array.toList_inj.1 h)
theorem E4 {t:ByteArray} {i:Nat} {c:Int} {r:List Int} (h:(AG t).drop i=c::r):i<t.size/\((t.data.toList.getD i 0).toNat:Int)=c/\(AG t).drop (i+1)=r:=by
 have hl:i<(AG t).length:=by
  rcases Aw i (AG t).length with h2 | h2
  ·exact h2
  ·rw [List.drop_eq_nil_of_le h2] at h; cases h
 rw [List.drop_eq_getElem_cons hl] at h
 simp only [List.cons.injEq] at h
 have hs:i<t.size:=by rw [AR] at hl; exact hl
 refine ⟨hs,?_,h.2⟩
 rw [Rn hs,<- h.1]
 simp [AG]
theorem XY {t:ByteArray} {i:Nat} {a r:List Int} (h:(AG t).drop i=a++r):(AG t).drop (i+a.length)=r/\i+a.length<=t.size\/a=[]:=by
 by_cases ha:a=[]
 ·exact .inr ha
 ·left
  constructor
  ·rw [<- List.drop_drop,h,List.drop_left]
  ·have:=congrArg List.length h
   simp only [List.length_drop,List.length_append,AR] at this
   have:0<a.length:=List.length_pos_iff.2 ha
   omega
theorem TP {t s:ByteArray} {i:Nat} {r:List Int} (h:(AG t).drop i=AG s++r):t.extract i (i+s.size)=s:=by
 have e:AG (t.extract i (i+s.size))=AG s:=by
  have e1:AG (t.extract i (i+s.size))=((AG t).drop i).take s.size:=by
   simp only [AG,ByteArray.data_extract,Array.toList_extract,List.extract_eq_take_drop,List.map_take,List.map_drop]
   congr 1
   omega
  rw [e1,h,List.take_left' (AR s)]
 rw [<- GR (t.extract i (i+s.size)),e,GR]
def L_ (t:ByteArray):Prop:=t.size<=1099511627776
def IT (t:ByteArray) (a:Nat) (r:Int×Int×Bool):Prop:=r.2.2=true->∃ k m:Nat,r.1=(k:Int)/\k<=1000000000/\r.2.1=(m:Int)/\a<m/\m<=t.size
theorem NJ {i:Nat} (h:i<=5):128^i<=34359738368:=Nat.le_trans (Nat.pow_le_pow_right (by omega) h) (by decide)
theorem Ju (u:UInt8):(u.toNat:Int)<256:=by have:=u.toNat_lt; omega
theorem Wv {acc U:Nat} {u:UInt8} (hU:U<=34359738368) (ha:acc<=U):IntKind.i64.wrap ((acc:Int)+IntKind.i64.wrap (Int.tmod (u.toNat:Int) 128*(U:Int)))=((acc+u.toNat % 128*U:Nat):Int)/\acc+u.toNat % 128*U<=U*128:=by
 have hb:=Ju u
 have e:Int.tmod (u.toNat:Int) 128=((u.toNat % 128:Nat):Int):=by rw [Int.tmod_eq_emod_of_nonneg (by omega)]; omega
 have h1:u.toNat % 128*U<=127*U:=BE _ (by omega)
 rw [e,<- Int.natCast_mul,AN (n:=((u.toNat % 128*U:Nat):Int)) (by omega),AN (by omega)]
 exact ⟨by omega,by omega⟩
theorem YU {t:ByteArray} {a:Nat} (ht:L_ t) (ha:a<=t.size):∀ i:Nat,i<=5->∀ acc U:Nat,U=128^i->acc<=U->∃ r,Bl t (a:Int) (acc:Int) (U:Int) (i:Int)=some r/\IT t a r:=by
 refine IY (n:=5) (P:=fun i=>∀ acc U:Nat,U=128^i->acc<=U->∃ r,Bl t (a:Int) (acc:Int) (U:Int) (i:Int)=some r/\IT t a r) ?_ ?_
 ·intro acc U _ _
  exact ⟨(0,0,false),GC (by unfold DF; rw [if_neg (by simp)]),fun h=>by cases h⟩
 ·intro i hi ih acc U hU hacc
  have hb:t.size<=1099511627776:=ht
  have hUs:=NJ (show i<=5 by omega)
  rw [<- hU] at hUs
  have w1:IntKind.i64.wrap ((a:Int)+(i:Int))=((a+i:Nat):Int):=by rw [AN (by omega)]; omega
  suffices g:∃ r,DF t (a:Int) (acc:Int) (U:Int) (i:Int)=some r/\IT t a r from g.imp fun r g=>⟨GC g.1,g.2⟩
  unfold DF
  rw [if_pos (by simp; omega),w1]
  by_cases hlt:a+i<t.size
  ·rw [if_pos (by simpa using (by omega:((a+i:Nat):Int)<(t.size:Int)))]
   suffices g:∃ r,D3 t (a:Int) (acc:Int) (U:Int) (i:Int) (decide (((a+i:Nat):Int)<(t.size:Int)))=some r/\IT t a r from g.imp fun r g=>⟨Ja g.1,g.2⟩
   unfold D3
   rw [w1,if_pos (by omega),if_pos (by omega),if_neg (by omega),BN]
   generalize t.data.toList.getD (a+i) 0=u
   have hu:=Ju u
   obtain ⟨d1,d2⟩:=Wv (u:=u) hUs hacc
   have w2:IntKind.i64.wrap (u.toNat:Int)=(u.toNat:Int):=AN (by omega)
   rw [w2,d1]
   have w3:IntKind.i64.wrap ((U:Int)*128)=((U*128:Nat):Int):=by rw [AN (by omega)]; omega
   have w4:IntKind.i64.wrap (((a+i:Nat):Int)+1)=((a+i+1:Nat):Int):=Af (by omega)
   rw [w3,w4,Af (by omega)]
   have fin:∃ r,(if decide (((acc+u.toNat % 128*U:Nat):Int)>1000000000)=true then some ((0:Int),(0:Int),false) else some (((acc+u.toNat % 128*U:Nat):Int),((a+i+1:Nat):Int),true))=some r/\IT t a r:=by
    by_cases hm:acc+u.toNat % 128*U>1000000000
    ·exact ⟨(0,0,false),by rw [if_pos (by simpa using (by omega:((acc+u.toNat % 128*U:Nat):Int)>1000000000))],fun h=>by cases h⟩
    ·exact ⟨_,by rw [if_neg (by simpa using (by omega:¬ ((acc+u.toNat % 128*U:Nat):Int)>1000000000))],fun _=>⟨_,_,rfl,by omega,rfl,by omega,by omega⟩⟩
   by_cases h1:u.toNat>=128
   ·rw [if_pos (by simpa using (by omega:(u.toNat:Int)>=128))]
    exact ih _ _ (by rw [hU,Nat.pow_succ]) d2
   ·rw [if_neg (by simpa using (by omega:¬ (u.toNat:Int)>=128))]
    split
    ·split
     ·exact fin
     ·exact ⟨_,rfl,fun h=>by cases h⟩
    ·exact fin
  ·exact ⟨(0,0,false),by rw [if_neg (by simpa using (by omega:¬ ((a+i:Nat):Int)<(t.size:Int)))],fun h=>by cases h⟩
theorem Ww {t:ByteArray} {a:Nat} (ht:L_ t) (ha:a<=t.size):∃ r,EK t (a:Int)=some r/\IT t a r:=by
 obtain ⟨r,h1,h2⟩:=YU ht ha 0 (by omega) 0 1 rfl (by omega)
 refine ⟨r,Mq ?_,h2⟩
 unfold IN
 rw [if_pos (by simp),if_neg (by simp; omega)]
 exact h1
theorem YV {t:ByteArray} {a:Nat} (ht:L_ t) (ha:a<=t.size):∀ i,i<=5->∀ acc U:Nat,U=128^i->acc<=U->∃ r,Bk t (a:Int) (acc:Int) (U:Int) ((a+i:Nat):Int)=some r/\IT t a r:=by
 have hb:t.size<=1099511627776:=ht
 have w5:IntKind.i64.wrap ((a:Int)+5)=((a+5:Nat):Int):=by rw [AN (by omega)]; omega
 refine IY (n:=5) (P:=fun i=>∀ acc U:Nat,U=128^i->acc<=U->∃ r,Bk t (a:Int) (acc:Int) (U:Int) ((a+i:Nat):Int)=some r/\IT t a r) ?_ ?_
 ·intro acc U _ _
  refine ⟨(0,0,false),GB ?_,fun h=>by cases h⟩
  unfold DE
  rw [w5]
  split
  ·rw [if_neg (by simp)]
  ·rfl
 ·intro i hi ih acc U hU hacc
  have hUs:=NJ (show i<=5 by omega)
  rw [<- hU] at hUs
  suffices g:∃ r,DE t (a:Int) (acc:Int) (U:Int) ((a+i:Nat):Int)=some r/\IT t a r from g.imp fun r g=>⟨GB g.1,g.2⟩
  unfold DE
  rw [w5]
  by_cases hlt:a+i<t.size
  ·rw [if_pos (by simpa using (by omega:((a+i:Nat):Int)<(t.size:Int))),if_pos (by simpa using (by omega:((a+i:Nat):Int)<((a+5:Nat):Int)))]
   suffices g:∃ r,D2 t (a:Int) (acc:Int) (U:Int) ((a+i:Nat):Int) (decide (((a+i:Nat):Int)<((a+5:Nat):Int)))=some r/\IT t a r from g.imp fun r g=>⟨JX g.1,g.2⟩
   unfold D2
   rw [if_pos (by omega),if_pos (by omega),if_neg (by omega),if_pos (by omega),if_pos (by omega),BN]
   generalize t.data.toList.getD (a+i) 0=u
   have hu:=Ju u
   obtain ⟨d1,d2⟩:=Wv (u:=u) hUs hacc
   have w2:IntKind.i64.wrap (u.toNat:Int)=(u.toNat:Int):=AN (by omega)
   rw [w2,d1]
   have w3:IntKind.i64.wrap ((U:Int)*128)=((U*128:Nat):Int):=by rw [AN (by omega)]; omega
   have w4:IntKind.i64.wrap (((a+i:Nat):Int)+1)=((a+i+1:Nat):Int):=Af (by omega)
   rw [w3,w4]
   by_cases h1:u.toNat<128
   ·rw [if_pos (by simpa using (by omega:(u.toNat:Int)<128))]
    by_cases hm:acc+u.toNat % 128*U>1000000000
    ·exact ⟨(0,0,false),by rw [if_pos (by simpa using (by omega:((acc+u.toNat % 128*U:Nat):Int)>1000000000))],fun h=>by cases h⟩
    ·rw [if_neg (by simpa using (by omega:¬ ((acc+u.toNat % 128*U:Nat):Int)>1000000000)),if_pos (by omega),if_pos (by omega),if_pos (by omega),Cj (by omega),J]
     split
     ·exact ⟨_,rfl,fun h=>by cases h⟩
     ·exact ⟨_,rfl,fun _=>⟨_,_,rfl,by omega,rfl,by omega,by omega⟩⟩
   ·rw [if_neg (by simpa using (by omega:¬ (u.toNat:Int)<128))]
    exact ih _ _ (by rw [hU,Nat.pow_succ]) d2
  ·exact ⟨(0,0,false),by rw [if_neg (by simpa using (by omega:¬ ((a+i:Nat):Int)<(t.size:Int)))],fun h=>by cases h⟩
theorem Zb {t:ByteArray} {a:Nat} (ht:L_ t) (ha:a<=t.size):∃ r,Ft t (a:Int)=some r/\IT t a r:=by
 obtain ⟨r,h1,h2⟩:=YV ht ha 0 (by omega) 0 1 rfl (by omega)
 refine ⟨r,Mp ?_,h2⟩
 unfold IM
 rw [E2,J,if_neg (by simp; omega)]
 exact h1
theorem Vn {t:ByteArray} {a:Nat} (ht:L_ t):∀ i,i<=5->∀ (acc U q n:Nat) (r:List Int),U=128^i->acc<=U->(AG t).drop (a+i)=Dn q++r->n=acc+q*U->n<=1000000000->(i=0\/0<q) ->
  Bl t (a:Int) (acc:Int) (U:Int) (i:Int)=some ((n:Int),((a+i+(Dn q).length:Nat):Int),true):=by
 have hb:t.size<=1099511627776:=ht
 refine IY (n:=5) (P:=fun i=>∀ (acc U q n:Nat) (r:List Int),U=128^i->acc<=U->(AG t).drop (a+i)=Dn q++r->n=acc+q*U->n<=1000000000->(i=0\/0<q) ->
  Bl t (a:Int) (acc:Int) (U:Int) (i:Int)=some ((n:Int),((a+i+(Dn q).length:Nat):Int),true)) ?_ ?_
 ·intro acc U q n r hU _ _ hn hle hq
  exfalso
  have:1*U<=q*U:=BE _ (by omega)
  have:U=34359738368:=by rw [hU]
  omega
 ·intro i hi ih acc U q n r hU hacc hd hn hle hq
  have hUs:=NJ (show i<=5 by omega)
  rw [<- hU] at hUs
  have hUp:0<U:=by rw [hU]; exact Nat.pow_pos (by omega)
  obtain ⟨c,rest,hv⟩:∃ c rest,Dn q=c::rest:=by rw [Dn]; split<;>exact ⟨_,_,rfl⟩
  rw [hv] at hd
  obtain ⟨hlt,hc,hd2⟩:=E4 hd
  have w1:IntKind.i64.wrap ((a:Int)+(i:Int))=((a+i:Nat):Int):=by rw [AN (by omega)]; omega
  refine GC ?_
  unfold DF
  rw [if_pos (by simp; omega),w1,if_pos (by simpa using (by omega:((a+i:Nat):Int)<(t.size:Int)))]
  refine Ja ?_
  unfold D3
  rw [w1,if_pos (by omega),if_pos (by omega),if_neg (by omega),BN]
  revert hc
  generalize t.data.toList.getD (a+i) 0=u
  intro hc
  have hu:=Ju u
  obtain ⟨d1,d2⟩:=Wv (u:=u) hUs hacc
  have w2:IntKind.i64.wrap (u.toNat:Int)=(u.toNat:Int):=AN (by omega)
  have w3:IntKind.i64.wrap ((U:Int)*128)=((U*128:Nat):Int):=by rw [AN (by omega)]; omega
  have w4:IntKind.i64.wrap (((a+i:Nat):Int)+1)=((a+i+1:Nat):Int):=Af (by omega)
  rw [w2,d1,w3,w4,Af (by omega)]
  rw [Dn] at hv
  by_cases h1:q>127
  ·rw [if_pos h1] at hv
   simp only [List.cons.injEq] at hv
   obtain ⟨rfl,rfl⟩:=hv
   have e1:u.toNat=128+q % 128:=by omega
   rw [if_pos (by simpa using (by omega:(u.toNat:Int)>=128))]
   have e2:u.toNat % 128=q % 128:=by omega
   rw [e2] at d2 ⊢
   have e3:q*U=q % 128*U+q / 128*(U*128):=by
    have:q=q % 128+q / 128*128:=by omega
    calc q*U=(q % 128+q / 128*128)*U:=by rw [<- this]
     _=q % 128*U+q / 128*(U*128):=by rw [Nat.add_mul,Nat.mul_assoc,Nat.mul_comm 128 U]
   have:=ih (acc+q % 128*U) (U*128) (q / 128) n r (by rw [hU,Nat.pow_succ]) d2 (by rw [<- Nat.add_assoc]; exact hd2) (by omega) hle (.inr (by omega))
   have e5:(Dn q).length=(Dn (q / 128)).length+1:=by rw [Dn,if_pos h1]; rfl
   rw [this,e5]
   congr 3
   omega
  ·rw [if_neg h1] at hv
   simp only [List.cons.injEq] at hv
   obtain ⟨rfl,rfl⟩:=hv
   have e1:u.toNat=q:=by omega
   have e2:u.toNat % 128=q:=by omega
   rw [if_neg (by simpa using (by omega:¬ (u.toNat:Int)>=128)),e2]
   have e4:(Dn q).length=1:=by rw [Dn,if_neg h1]; rfl
   rw [e4]
   have fin:(if decide (((acc+q*U:Nat):Int)>1000000000)=true then some ((0:Int),(0:Int),false) else some (((acc+q*U:Nat):Int),((a+i+1:Nat):Int),true))=some ((n:Int),((a+i+1:Nat):Int),true):=by
    rw [if_neg (by simpa using (by omega:¬ ((acc+q*U:Nat):Int)>1000000000)),hn]
   split
   ·rename_i h2
    have h2:(u.toNat:Int)=0:=by simpa using h2
    rw [if_pos (by simp; omega)]
    exact fin
   ·exact fin
theorem YW {t:ByteArray} {a n:Nat} {r:List Int} (ht:L_ t) (hd:(AG t).drop a=Dn n++r) (hn:n<=1000000000):EK t (a:Int)=some ((n:Int),((a+(Dn n).length:Nat):Int),true):=by
 have hb:t.size<=1099511627776:=ht
 have ha:a<=t.size:=by
  have:=congrArg List.length hd
  have h1:0<(Dn n).length:=by rw [Dn]; split<;>simp
  simp only [List.length_drop,List.length_append,AR] at this
  omega
 refine Mq ?_
 unfold IN
 rw [if_pos (by simp),if_neg (by simp; omega)]
 exact Vn ht 0 (by omega) 0 1 n n r rfl (by omega) hd (by omega) hn (.inl rfl)
theorem Vo {t:ByteArray} {a N:Nat} {R:List Int} (ht:L_ t) (hcap:N<=1000000000) (hall:(AG t).drop a=Dn N++R):∀ i,i<=5->∀ (acc U q:Nat) (r:List Int),U=128^i->acc<=U->(AG t).drop (a+i)=Dn q++r->N=acc+q*U->a+i+(Dn q).length=a+(Dn N).length->(i=0\/0<q) ->
  Bk t (a:Int) (acc:Int) (U:Int) ((a+i:Nat):Int)=some ((N:Int),((a+(Dn N).length:Nat):Int),true):=by
 have hb:t.size<=1099511627776:=ht
 have hle2:a<=t.size:=by
  have:=congrArg List.length hall
  have h1:0<(Dn N).length:=by rw [Dn]; split<;>simp
  simp only [List.length_drop,List.length_append,AR] at this
  omega
 have w5:IntKind.i64.wrap ((a:Int)+5)=((a+5:Nat):Int):=by rw [AN (by omega)]; omega
 refine IY (n:=5) (P:=fun i=>∀ (acc U q:Nat) (r:List Int),U=128^i->acc<=U->(AG t).drop (a+i)=Dn q++r->N=acc+q*U->a+i+(Dn q).length=a+(Dn N).length->(i=0\/0<q) ->
  Bk t (a:Int) (acc:Int) (U:Int) ((a+i:Nat):Int)=some ((N:Int),((a+(Dn N).length:Nat):Int),true)) ?_ ?_
 ·intro acc U q r hU _ _ hn _ hq
  exfalso
  have:1*U<=q*U:=BE _ (by omega)
  have:U=34359738368:=by rw [hU]
  omega
 ·intro i hi ih acc U q r hU hacc hd hn hlen hq
  have hUs:=NJ (show i<=5 by omega)
  rw [<- hU] at hUs
  have hUp:0<U:=by rw [hU]; exact Nat.pow_pos (by omega)
  obtain ⟨c,rest,hv⟩:∃ c rest,Dn q=c::rest:=by rw [Dn]; split<;>exact ⟨_,_,rfl⟩
  rw [hv] at hd
  obtain ⟨hlt,hc,hd2⟩:=E4 hd
  refine GB ?_
  unfold DE
  rw [w5,if_pos (by simpa using (by omega:((a+i:Nat):Int)<(t.size:Int))),if_pos (by simpa using (by omega:((a+i:Nat):Int)<((a+5:Nat):Int)))]
  refine JX ?_
  unfold D2
  rw [if_pos (by omega),if_pos (by omega),if_neg (by omega),if_pos (by omega),if_pos (by omega),BN]
  revert hc
  generalize t.data.toList.getD (a+i) 0=u
  intro hc
  have hu:=Ju u
  obtain ⟨d1,d2⟩:=Wv (u:=u) hUs hacc
  have w2:IntKind.i64.wrap (u.toNat:Int)=(u.toNat:Int):=AN (by omega)
  have w3:IntKind.i64.wrap ((U:Int)*128)=((U*128:Nat):Int):=by rw [AN (by omega)]; omega
  have w4:IntKind.i64.wrap (((a+i:Nat):Int)+1)=((a+i+1:Nat):Int):=Af (by omega)
  rw [w2,d1,w3,w4]
  rw [Dn] at hv
  by_cases h1:q>127
  ·rw [if_pos h1] at hv
   simp only [List.cons.injEq] at hv
   obtain ⟨rfl,rfl⟩:=hv
   have e1:u.toNat=128+q % 128:=by omega
   rw [if_neg (by simpa using (by omega:¬ (u.toNat:Int)<128))]
   have e2:u.toNat % 128=q % 128:=by omega
   rw [e2] at d2 ⊢
   have e3:q*U=q % 128*U+q / 128*(U*128):=by
    have:q=q % 128+q / 128*128:=by omega
    calc q*U=(q % 128+q / 128*128)*U:=by rw [<- this]
     _=q % 128*U+q / 128*(U*128):=by rw [Nat.add_mul,Nat.mul_assoc,Nat.mul_comm 128 U]
   have e5:(Dn q).length=(Dn (q / 128)).length+1:=by rw [Dn,if_pos h1]; rfl
   exact ih (acc+q % 128*U) (U*128) (q / 128) r (by rw [hU,Nat.pow_succ]) d2 (by rw [<- Nat.add_assoc]; exact hd2) (by omega) (by omega) (.inr (by omega))
  ·rw [if_neg h1] at hv
   simp only [List.cons.injEq] at hv
   obtain ⟨rfl,rfl⟩:=hv
   have e2:u.toNat % 128=q:=by omega
   have e4:(Dn q).length=1:=by rw [Dn,if_neg h1]; rfl
   rw [if_pos (by simpa using (by omega:(u.toNat:Int)<128)),e2,<- hn,if_neg (by simpa using (by omega:¬ (N:Int)>1000000000)),if_pos (by omega),if_pos (by omega),if_pos (by omega),Cj hcap,J]
   have ec:t.extract (a:Int).toNat ((a+i+1:Nat):Int).toNat=AC (Dn N):=by
    have:=TP (t:=t) (s:=AC (Dn N)) (i:=a) (r:=R) (by rw [CD (M2 _)]; exact hall)
    rw [AX] at this
    rw [BN,BN,show a+i+1=a+(Dn N).length by omega]
    exact this
   rw [ec,if_neg (by simp)]
   congr 3
   omega
theorem aN {t:ByteArray} {a n:Nat} {r:List Int} (ht:L_ t) (hd:(AG t).drop a=Dn n++r) (hn:n<=1000000000):Ft t (a:Int)=some ((n:Int),((a+(Dn n).length:Nat):Int),true):=by
 have hb:t.size<=1099511627776:=ht
 have ha:a<=t.size:=by
  have:=congrArg List.length hd
  have h1:0<(Dn n).length:=by rw [Dn]; split<;>simp
  simp only [List.length_drop,List.length_append,AR] at this
  omega
 refine Mp ?_
 unfold IM
 rw [E2,J,if_neg (by simp; omega)]
 exact Vo ht hn hd 0 (by omega) 0 1 n r rfl (by omega) hd (by omega) (by omega) (.inl rfl)

theorem Do {t:ByteArray} {a b:Nat} (h:b<=t.size):(t.extract a b).size=b-a:=by
 rw [ByteArray.size_extract]; omega
theorem PN {t:ByteArray} {p:Nat} {bad:Bool} (ht:L_ t) (hp:p<=t.size):∃ v q b,Ar (t,(p:Int),bad)=some (v,(t,((q:Nat):Int),b))/\q<=t.size:=by
 have hb:t.size<=1099511627776:=ht
 suffices g:∃ v q b,DB (t,(p:Int),bad)=some (v,(t,((q:Nat):Int),b))/\q<=t.size from g.imp fun v g=>g.imp fun q g=>g.imp fun b g=>⟨HH g.1,g.2⟩
 unfold DB
 cases bad with
 | true=>exact ⟨0,p,true,rfl,hp⟩
 | false =>
  rw [if_neg (by simp)]
  by_cases h:p>=t.size
  ·exact ⟨0,p,true,by rw [if_pos (by simpa using (by omega:(p:Int)>=(t.size:Int)))],hp⟩
  ·rw [if_neg (by simpa using (by omega:¬ (p:Int)>=(t.size:Int)))]
   have hJ:∀ b,DZ b (t,(p:Int),false)=some (IntKind.i64.wrap ((t.data.toList.getD p 0).toNat:Int),(t,((p+1:Nat):Int),false)):=fun b=>FM (by
    unfold Da
    have e:IntKind.i64.wrap (IntKind.i64.wrap ((p:Int)+1)-1)=(p:Int):=by rw [Af (by omega),AN (by omega)]; omega
    dsimp only
    rw [e,if_pos (by omega),if_pos (by omega),Af (by omega),BN])
   exact ⟨_,p+1,false,hJ _,by omega⟩
theorem Ro {t:ByteArray} {p:Nat} {c:Int} {r:List Int} (ht:L_ t) (hd:(AG t).drop p=c::r):Ar (t,(p:Int),false)=some (c,(t,((p+1:Nat):Int),false)):=by
 have hb:t.size<=1099511627776:=ht
 obtain ⟨h1,h2,h3⟩:=E4 hd
 refine HH ?_
 unfold DB
 rw [if_neg (by simp),if_neg (by simpa using (by omega:¬ (p:Int)>=(t.size:Int)))]
 refine FM ?_
 unfold Da
 have e:IntKind.i64.wrap (IntKind.i64.wrap ((p:Int)+1)-1)=(p:Int):=by rw [Af (by omega),AN (by omega)]; omega
 dsimp only
 rw [e,if_pos (by omega),if_pos (by omega),Af (by omega),BN,h2,AN (by have:=Ju (t.data.toList.getD p 0); omega)]
theorem TQ {t:ByteArray} {p:Nat} {bad:Bool} (ht:L_ t) (hp:p<=t.size):∃ v q b,BF (t,(p:Int),bad)=some (v,(t,((q:Nat):Int),b))/\q<=t.size:=by
 obtain ⟨⟨n,m,ok⟩,h1,h2⟩:=Ww ht hp
 suffices g:∃ v q b,CL (t,(p:Int),bad)=some (v,(t,((q:Nat):Int),b))/\q<=t.size from g.imp fun v g=>g.imp fun q g=>g.imp fun b g=>⟨FN g.1,g.2⟩
 unfold CL
 rw [h1,J]
 cases bad with
 | true=>exact ⟨0,p,true,by rw [if_neg (by simp)],hp⟩
 | false =>
  rw [if_pos rfl]
  cases ok with
  | false=>exact ⟨0,p,true,by rw [if_pos (by simp)],hp⟩
  | true =>
   obtain ⟨k,m',e1,_,e2,_,h3⟩:=h2 rfl
   simp only at e1 e2
   subst e1 e2
   exact ⟨_,m',false,by rw [if_neg (by simp)],h3⟩
theorem U5 {t:ByteArray} {p n:Nat} {r:List Int} (ht:L_ t) (hd:(AG t).drop p=Dn n++r) (hn:n<=1000000000):BF (t,(p:Int),false)=some ((n:Int),(t,((p+(Dn n).length:Nat):Int),false)):=by
 refine FN ?_
 unfold CL
 rw [YW ht hd hn,J,if_pos rfl,if_neg (by simp)]
theorem TR {t:ByteArray} {p:Nat} {bad:Bool} (ht:L_ t) (hp:p<=t.size):∃ v q b,Bg (t,(p:Int),bad)=some (v,(t,((q:Nat):Int),b))/\q<=t.size:=by
 have hb:t.size<=1099511627776:=ht
 have rs:∃ r:ByteArray×Int×Bool,Ge t (p:Int)=some r/\(r.2.2=true->∃ m:Nat,r.2.1=(m:Int)/\m<=t.size):=by
  suffices g:∃ r:ByteArray×Int×Bool,Eb t (p:Int)=some r/\(r.2.2=true->∃ m:Nat,r.2.1=(m:Int)/\m<=t.size) from g.imp fun r g=>⟨K3 g.1,g.2⟩
  obtain ⟨⟨n,m,ok⟩,h1,h2⟩:=Ww ht hp
  unfold Eb
  rw [h1,J]
  cases ok with
  | false=>exact ⟨_,by rw [if_neg (by simp)],fun h=>by cases h⟩
  | true =>
   obtain ⟨k,m',e1,hk,e2,_,h3⟩:=h2 rfl
   simp only at e1 e2
   subst e1 e2
   rw [if_pos (by simp)]
   by_cases g1:k>20000
   ·exact ⟨_,by rw [if_neg (by simp; omega)],fun h=>by cases h⟩
   ·rw [if_pos (by simp; omega)]
    have e3:IntKind.i64.wrap ((t.size:Int)-(m':Int))=((t.size-m':Nat):Int):=by rw [AN (by omega)]; omega
    simp only [e3]
    by_cases g2:k>t.size-m'
    ·exact ⟨_,by rw [if_pos (by simpa using (by omega:(k:Int)>((t.size-m':Nat):Int)))],fun h=>by cases h⟩
    ·rw [if_neg (by simpa using (by omega:¬ (k:Int)>((t.size-m':Nat):Int)))]
     have e4:IntKind.i64.wrap ((m':Int)+(k:Int))=((m'+k:Nat):Int):=by rw [AN (by omega)]; omega
     refine ⟨_,HW (by unfold Eh; rw [e4,if_pos (by omega),if_pos (by omega),if_pos (by omega)]),fun _=>⟨_,rfl,by omega⟩⟩
 obtain ⟨⟨s,m,ok⟩,h1,h2⟩:=rs
 suffices g:∃ v q b,Cb (t,(p:Int),bad)=some (v,(t,((q:Nat):Int),b))/\q<=t.size from g.imp fun v g=>g.imp fun q g=>g.imp fun b g=>⟨F9 g.1,g.2⟩
 unfold Cb
 rw [h1,J]
 cases bad with
 | true=>exact ⟨_,p,true,by rw [if_neg (by simp)],hp⟩
 | false =>
  rw [if_pos rfl]
  cases ok with
  | false=>exact ⟨_,p,true,by rw [if_pos (by simp)],hp⟩
  | true =>
   obtain ⟨m',e2,h3⟩:=h2 rfl
   simp only at e2
   subst e2
   exact ⟨_,m',false,by rw [if_neg (by simp)],h3⟩
theorem YX {t:ByteArray} {i:Nat} {a r:List Int} (h:(AG t).drop i=a++r) (ha:0<a.length):i+a.length<=t.size/\(AG t).drop (i+a.length)=r:=by
 rcases XY h with g | g
 ·exact ⟨g.2,g.1⟩
 ·rw [g] at ha; simp at ha
theorem Zc (n:Nat):0<(Dn n).length:=by rw [Dn]; split<;>simp
theorem CT {t:ByteArray} {i:Nat} {a r:List Int} (h:(AG t).drop i=a++r) (hi:i<=t.size):i+a.length<=t.size/\(AG t).drop (i+a.length)=r:=by
 constructor
 ·have:=congrArg List.length h
  simp only [List.length_drop,List.length_append,AR] at this
  omega
 ·rw [<- List.drop_drop,h,List.drop_left]
theorem UK {t s:ByteArray} {p:Nat} {r:List Int} (ht:L_ t) (hd:(AG t).drop p=Dn s.size++(AG s++r)) (hn:s.size<=20000) :
  Bg (t,(p:Int),false)=some (s,(t,((p+(Dn s.size).length+s.size:Nat):Int),false)):=by
 have hb:t.size<=1099511627776:=ht
 obtain ⟨l1,d1⟩:=YX hd (Zc _)
 obtain ⟨l2,d2⟩:=CT d1 l1
 rw [AR] at l2
 refine F9 ?_
 unfold Cb
 have e3:IntKind.i64.wrap ((t.size:Int)-((p+(Dn s.size).length:Nat):Int))=((t.size-(p+(Dn s.size).length):Nat):Int):=by rw [AN (by omega)]; omega
 have e4:IntKind.i64.wrap (((p+(Dn s.size).length:Nat):Int)+(s.size:Int))=((p+(Dn s.size).length+s.size:Nat):Int):=by rw [AN (by omega)]; omega
 have:=K3 (a0:=t) (a1:=(p:Int)) (r:=(s,((p+(Dn s.size).length+s.size:Nat):Int),true)) (by
  unfold Eb
  rw [YW ht hd (by omega),J,if_pos (by simp),if_pos (by simp; omega)]
  simp only [e3]
  rw [if_neg (by simpa using (by omega:¬ (s.size:Int)>((t.size-(p+(Dn s.size).length):Nat):Int)))]
  refine HW ?_
  unfold Eh
  rw [e4,if_pos (by omega),if_pos (by omega),if_pos (by omega),BN,BN,TP d1])
 rw [this,J,if_pos rfl,if_neg (by simp)]
theorem Qr {t:ByteArray} {p n:Nat} {bad:Bool} (ht:L_ t) (hp:p<=t.size) (hn:n<=1000000000):∃ s q b,DY (n:Int) (t,(p:Int),bad)=some (s,(t,((q:Nat):Int),b))/\q<=t.size/\(b=false->s.size=n):=by
 have hb:t.size<=1099511627776:=ht
 suffices g:∃ s q b,F8 (n:Int) (t,(p:Int),bad)=some (s,(t,((q:Nat):Int),b))/\q<=t.size/\(b=false->s.size=n) from g.imp fun v g=>g.imp fun q g=>g.imp fun b g=>⟨Mj g.1,g.2⟩
 unfold F8
 cases bad with
 | true=>exact ⟨_,p,true,rfl,hp,fun h=>by cases h⟩
 | false =>
  rw [if_neg (by simp)]
  have e3:IntKind.i64.wrap ((t.size:Int)-(p:Int))=((t.size-p:Nat):Int):=by rw [AN (by omega)]; omega
  simp only [e3]
  by_cases h:n>t.size-p
  ·exact ⟨_,p,true,by rw [if_pos (by simpa using (by omega:(n:Int)>((t.size-p:Nat):Int)))],hp,fun h=>by cases h⟩
  ·rw [if_neg (by simpa using (by omega:¬ (n:Int)>((t.size-p:Nat):Int)))]
   have e4:IntKind.i64.wrap ((p:Int)+(n:Int))=((p+n:Nat):Int):=by rw [AN (by omega)]; omega
   have e5:IntKind.i64.wrap (((p+n:Nat):Int)-(n:Int))=(p:Int):=by rw [AN (by omega)]; omega
   refine ⟨_,p+n,false,JS (by unfold F7; simp only [e4,e5]; rw [if_pos (by omega),if_pos (by omega),if_pos (by omega)]),by omega,fun _=>?_⟩
   rw [BN,BN,Do (by omega)]
   omega
theorem TS {t s:ByteArray} {p:Nat} {r:List Int} (ht:L_ t) (hp:p<=t.size) (hd:(AG t).drop p=AG s++r):DY (s.size:Int) (t,(p:Int),false)=some (s,(t,((p+s.size:Nat):Int),false)):=by
 have hb:t.size<=1099511627776:=ht
 obtain ⟨l2,d2⟩:=CT hd hp
 rw [AR] at l2
 refine Mj ?_
 unfold F8
 rw [if_neg (by simp)]
 have e3:IntKind.i64.wrap ((t.size:Int)-(p:Int))=((t.size-p:Nat):Int):=by rw [AN (by omega)]; omega
 simp only [e3]
 rw [if_neg (by simpa using (by omega:¬ (s.size:Int)>((t.size-p:Nat):Int)))]
 have e4:IntKind.i64.wrap ((p:Int)+(s.size:Int))=((p+s.size:Nat):Int):=by rw [AN (by omega)]; omega
 have e5:IntKind.i64.wrap (((p+s.size:Nat):Int)-(s.size:Int))=(p:Int):=by rw [AN (by omega)]; omega
 refine JS ?_
 unfold F7
 simp only [e4,e5]
 rw [if_pos (by omega),if_pos (by omega),if_pos (by omega),BN,BN,TP hd]
theorem PO {t:ByteArray} {p:Nat} {bad:Bool} (ht:L_ t) (hp:p<=t.size):∃ v q b,Bz (t,(p:Int),bad)=some (v,(t,((q:Nat):Int),b))/\q<=t.size:=by
 obtain ⟨s,q,b,h1,h2,h3⟩:=Qr (n:=1) (bad:=bad) ht hp (by omega)
 suffices g:∃ v q b,G6 (t,(p:Int),bad)=some (v,(t,((q:Nat):Int),b))/\q<=t.size from g.imp fun v g=>g.imp fun q g=>g.imp fun b g=>⟨Nf g.1,g.2⟩
 unfold G6
 rw [show ((1:Int))=((1:Nat):Int) from rfl,h1,J]
 cases b with
 | true=>exact ⟨_,q,true,by rw [if_pos rfl],h2⟩
 | false =>
  have:=h3 rfl
  exact ⟨_,q,false,by dsimp only; rw [if_neg (by simp),if_pos (by omega),if_pos (by omega)],h2⟩
theorem Rp {t:ByteArray} {p:Nat} {c:Int} {r:List Int} (ht:L_ t) (hd:(AG t).drop p=c::r):Bz (t,(p:Int),false)=some (c,(t,((p+1:Nat):Int),false)):=by
 obtain ⟨h1,h2,h3⟩:=E4 hd
 have hc:Cv [c]=true:=by
  have:=Ju (t.data.toList.getD p 0)
  simp only [Cv,List.all_cons,List.all_nil,Bool.and_true,O,decide_eq_true_eq]
  omega
 have ht1:=TS (s:=AC [c]) (p:=p) ht (by omega) (by rw [CD hc]; exact hd)
 refine Nf ?_
 unfold G6
 have e1:((AC [c]).size:Int)=1:=rfl
 rw [e1] at ht1
 rw [ht1,J,if_neg (by simp),if_pos (by omega),if_pos (by rw [e1]; omega)]
 have:(((AC [c]).data.toList.getD (0:Int).toNat 0).toNat:Int)=c:=by
  simp only [Cv,List.all_cons,List.all_nil,Bool.and_true,O,decide_eq_true_eq] at hc
  have e:((UInt8.ofNat c.toNat).toNat:Int)=c:=by
   have:c.toNat<256:=by omega
   simp [UInt8.toNat_ofNat',Nat.mod_eq_of_lt this]
   omega
  simpa [AC] using e
 rw [this,AN (by have:=Ju (t.data.toList.getD p 0); omega)]
 rfl
theorem M4 {t:ByteArray} {p:Nat} {bad:Bool} (ht:L_ t) (hp:p<=t.size):∃ v q:Nat,∃ b,Cd (t,(p:Int),bad)=some ((v:Int),(t,(q:Int),b))/\q<=t.size/\v<=1000000000:=by
 obtain ⟨⟨n,m,ok⟩,h1,h2⟩:=Zb ht hp
 suffices g:∃ v q:Nat,∃ b,G7 (t,(p:Int),bad)=some ((v:Int),(t,(q:Int),b))/\q<=t.size/\v<=1000000000 from g.imp fun v g=>g.imp fun q g=>g.imp fun b g=>⟨Ng g.1,g.2⟩
 unfold G7
 rw [h1,J]
 cases bad with
 | true=>exact ⟨0,p,true,by rw [if_neg (by simp)]; rfl,hp,by omega⟩
 | false =>
  rw [if_pos rfl]
  cases ok with
  | false=>exact ⟨0,p,true,by rw [if_pos (by simp)]; rfl,hp,by omega⟩
  | true =>
   obtain ⟨k,m',e1,hk,e2,_,h3⟩:=h2 rfl
   simp only at e1 e2
   subst e1 e2
   exact ⟨k,m',false,by rw [if_neg (by simp)],h3,hk⟩
theorem PP {t:ByteArray} {p n:Nat} {r:List Int} (ht:L_ t) (hd:(AG t).drop p=Dn n++r) (hn:n<=1000000000):Cd (t,(p:Int),false)=some ((n:Int),(t,((p+(Dn n).length:Nat):Int),false)):=by
 refine Ng ?_
 unfold G7
 rw [aN ht hd hn,J,if_pos rfl,if_neg (by simp)]
theorem Zd {x:ByteArray} (hx:x.size<=1048576):∃ s ok,Ex x=some (s,ok)/\L_ s:=by
 suffices g:∃ s ok,E1 x=some (s,ok)/\L_ s from g.imp fun s g=>g.imp fun ok g=>⟨Lx g.1,g.2⟩
 have hz:L_ (⟨#[]⟩:ByteArray):=by unfold L_; decide
 unfold E1
 have w:IntKind.i64.wrap ((x.size:Int)-4)=(x.size:Int)-4:=AN (by omega)
 simp only [w]
 by_cases h1:(x.size:Int)-4<0
 ·exact ⟨_,_,by rw [if_pos (by simpa using h1)],hz⟩
 ·rw [if_neg (by simpa using h1)]
  by_cases h2:(x.size:Int)-4>20000
  ·exact ⟨_,_,by rw [if_pos (by simpa using h2)],hz⟩
  ·have hs:(x.extract (0:Int).toNat ((x.size:Int)-4).toNat).size=x.size-4:=by rw [Do (by omega)]; simp; omega
   rw [if_neg (by simpa using h2),if_pos (by omega),if_pos (by omega),if_pos (by omega),if_pos (by omega),if_pos (by omega),if_pos (by omega),GS (by omega),J]
   split
   ·exact ⟨_,_,rfl,hz⟩
   ·exact ⟨_,_,by rw [if_pos (by omega),if_pos (by omega),if_pos (by omega)],by unfold L_; omega⟩
theorem Wx {x:ByteArray} (hx:x.size<=1048576):∃ s ok,Cy x=some (s,ok)/\L_ s:=by
 suffices g:∃ s ok,Cz x=some (s,ok)/\L_ s from g.imp fun s g=>g.imp fun ok g=>⟨HO g.1,g.2⟩
 have hz:L_ (⟨#[]⟩:ByteArray):=by unfold L_; decide
 unfold Cz
 have w:IntKind.i64.wrap ((x.size:Int)-4)=(x.size:Int)-4:=AN (by omega)
 simp only [w]
 by_cases h1:(x.size:Int)-4<0
 ·exact ⟨_,_,by rw [if_pos (by simpa using h1)],hz⟩
 ·rw [if_neg (by simpa using h1)]
  by_cases h2:(x.size:Int)-4>20000
  ·exact ⟨_,_,by rw [if_pos (by simpa using h2)],hz⟩
  ·have hs:(x.extract (0:Int).toNat ((x.size:Int)-4).toNat).size=x.size-4:=by rw [Do (by omega)]; simp; omega
   rw [if_neg (by simpa using h2),if_pos (by omega),if_pos (by omega),if_pos (by omega),if_pos (by omega),if_pos (by omega),if_pos (by omega)]
   have hf:=GT (b:=x.extract (0:Int).toNat ((x.size:Int)-4).toNat) (by omega)
   cases h3:Ca (x.extract (0:Int).toNat ((x.size:Int)-4).toNat) with
   | none=>rw [h3] at hf; cases hf
   | some y =>
    rw [h3,J] at hf
    rw [J,hf,J]
    split
    ·exact ⟨_,_,rfl,hz⟩
    ·exact ⟨_,_,by rw [if_pos (by omega),if_pos (by omega),if_pos (by omega)],by unfold L_; omega⟩
theorem IU {b:ByteArray} (hb:b.size<=20000):(b++AC (FB b.data.toList)).size=b.size+4/\(b++AC (FB b.data.toList)).extract 0 b.size=b/\(b++AC (FB b.data.toList)).extract b.size (b.size+4)=AC (FB b.data.toList):=by
 have hl:(AC (FB b.data.toList)).size=4:=by rw [AX]; rfl
 refine ⟨by rw [ByteArray.size_append,hl],?_,?_⟩
 ·have:=TP (t:=b++AC (FB b.data.toList)) (s:=b) (i:=0) (r:=AG (AC (FB b.data.toList))) (by rw [Du]; rfl)
  simpa using this
 ·have:=TP (t:=b++AC (FB b.data.toList)) (s:=AC (FB b.data.toList)) (i:=b.size) (r:=[]) (by rw [Du,List.append_nil,List.drop_left' (AR b)])
  rwa [hl] at this
theorem aO {b:ByteArray} (hb:b.size<=20000):Ex (b++AC (FB b.data.toList))=some (b,true):=by
 obtain ⟨h1,h2,h3⟩:=IU hb
 refine Lx ?_
 unfold E1
 have w:IntKind.i64.wrap (((b++AC (FB b.data.toList)).size:Int)-4)=(b.size:Int):=by rw [h1,AN (by omega)]; omega
 simp only [w]
 have e1:((b++AC (FB b.data.toList)).size:Int).toNat=b.size+4:=by rw [h1]; rfl
 rw [if_neg (by simp),if_neg (by simp; omega),if_pos (by omega),if_pos (by omega),if_pos (by rw [h1]; omega),if_pos (by omega),if_pos (by rw [h1]; omega),if_pos (by omega),e1,BN,show (0:Int).toNat=0 from rfl,h2,h3,
  GS (by omega),J,if_neg (by simp),if_pos (by omega),if_pos (by omega),if_pos (by rw [h1]; omega)]
theorem aP {b:ByteArray} (hb:b.size<=20000):Cy (b++AC (FB b.data.toList))=some (b,true):=by
 obtain ⟨h1,h2,h3⟩:=IU hb
 refine HO ?_
 unfold Cz
 have w:IntKind.i64.wrap (((b++AC (FB b.data.toList)).size:Int)-4)=(b.size:Int):=by rw [h1,AN (by omega)]; omega
 simp only [w]
 have e1:((b++AC (FB b.data.toList)).size:Int).toNat=b.size+4:=by rw [h1]; rfl
 have hf:=GT (b:=b) (by omega)
 cases h4:Ca b with
 | none=>rw [h4] at hf; cases hf
 | some y =>
  rw [h4,J] at hf
  rw [if_neg (by simp),if_neg (by simp; omega),if_pos (by omega),if_pos (by rw [h1]; omega),if_pos (by omega),if_pos (by omega),if_pos (by omega),if_pos (by rw [h1]; omega),e1,BN,show (0:Int).toNat=0 from rfl,h2,h3,h4,
   J,hf,J,if_neg (by simp),if_pos (by omega),if_pos (by omega),if_pos (by rw [h1]; omega)]
def ZM:EC:=(0,0,0,0,0,[])
def IV (text:ByteArray) (r:EC×Bool):Prop:=r=(ZM,false)\/∃ m:EC,r=(m,true)/\Al m=(text,true)
theorem aQ {text:ByteArray} {l:List U3} {n1 n2 n3 n4 n5:Int} {rd:ByteArray×Int×Bool} {x:EC} (hx:x.2.2.2.2.2.length<=maxLen) :
  ∃ r,F4 text l n1 n2 n3 n4 n5 rd x.2.2.2.2.2 x.1 x.2.1 x.2.2.1 x.2.2.2.1 x.2.2.2.2.1=some r/\IV text r/\(rd.2.2=false->Al x=(text,true)->r=(x,true)):=by
 suffices g:∃ r,F5 text l n1 n2 n3 n4 n5 rd x.2.2.2.2.2 x.1 x.2.1 x.2.2.1 x.2.2.2.1 x.2.2.2.2.1=some r/\IV text r/\(rd.2.2=false->Al x=(text,true)->r=(x,true)) from g.imp fun r g=>⟨Ow g.1,g.2⟩
 unfold F5
 rw [show (x.1,x.2.1,x.2.2.1,x.2.2.2.1,x.2.2.2.2.1,x.2.2.2.2.2)=x from rfl,GU x hx,J]
 by_cases h1:rd.2.2=false
 ·rw [if_pos h1]
  by_cases h2:(Al x).2=true
  ·rw [if_pos (by simp [h2]),Wu]
   by_cases h3:(Al x).1=text
   ·rw [if_neg (by simp [h3])]
    exact ⟨_,rfl,.inr ⟨x,rfl,by rw [<- h3,<- h2]⟩,fun _ _=>rfl⟩
   ·rw [if_pos (by simp [h3])]
    exact ⟨_,rfl,.inl rfl,fun _ h=>absurd (congrArg Prod.fst h) h3⟩
  ·rw [if_neg (by simpa using h2)]
   exact ⟨_,rfl,.inl rfl,fun _ h=>absurd (congrArg Prod.snd h) h2⟩
 ·rw [if_neg h1]
  exact ⟨_,rfl,.inl rfl,fun h=>absurd h h1⟩
theorem aR {text:ByteArray} {l:List U3} {n1 n2 n3 n4 n5:Int} {rd:ByteArray×Int×Bool} {x:EC} (hx:x.2.2.2.2.2.length<=maxLen) :
  ∃ r,C9 text l n1 n2 n3 n4 n5 rd x.2.2.2.2.2 x.1 x.2.1 x.2.2.1 x.2.2.2.1 x.2.2.2.2.1=some r/\IV text r/\(rd.2.2=false->Al x=(text,true)->r=(x,true)):=by
 suffices g:∃ r,F0 text l n1 n2 n3 n4 n5 rd x.2.2.2.2.2 x.1 x.2.1 x.2.2.1 x.2.2.2.1 x.2.2.2.2.1=some r/\IV text r/\(rd.2.2=false->Al x=(text,true)->r=(x,true)) from g.imp fun r g=>⟨Ou g.1,g.2⟩
 unfold F0
 rw [show (x.1,x.2.1,x.2.2.1,x.2.2.2.1,x.2.2.2.2.1,x.2.2.2.2.2)=x from rfl,Jt x hx,J]
 by_cases h1:rd.2.2=false
 ·rw [if_pos h1]
  by_cases h2:(Al x).2=true
  ·rw [if_pos (by simp [h2]),Wu]
   by_cases h3:(Al x).1=text
   ·rw [if_neg (by simp [h3])]
    exact ⟨_,rfl,.inr ⟨x,rfl,by rw [<- h3,<- h2]⟩,fun _ _=>rfl⟩
   ·rw [if_pos (by simp [h3])]
    exact ⟨_,rfl,.inl rfl,fun _ h=>absurd (congrArg Prod.fst h) h3⟩
  ·rw [if_neg (by simpa using h2)]
   exact ⟨_,rfl,.inl rfl,fun _ h=>absurd (congrArg Prod.snd h) h2⟩
 ·rw [if_neg h1]
  exact ⟨_,rfl,.inl rfl,fun h=>absurd h h1⟩
theorem XZ {text t:ByteArray} {l:List U3} {n1 n2 n3 n4 n5 a1 a2 a3 a4 a5 c:Int} (ht:L_ t) (hc:c<=13):∀ (k i p:Nat) (b:Bool) (xs:List U3),13-i=k->i<=13->p<=t.size->xs.length=i ->
  ∃ r,CJ text c (i:Int) l n1 n2 n3 n4 n5 (t,(p:Int),b) xs a1 a2 a3 a4 a5=some r/\IV text r:=by
 intro k
 induction k with
 | zero =>
  intro i p b xs hk hi hp hl
  obtain ⟨r,h1,h2,_⟩:=aQ (text:=text) (l:=l) (n1:=n1) (n2:=n2) (n3:=n3) (n4:=n4) (n5:=n5) (rd:=(t,(p:Int),b)) (x:=(a1,a2,a3,a4,a5,xs)) (by simp only [hl]; unfold maxLen; omega)
  exact ⟨r,C_ (by unfold CK; rw [if_neg (by simp; omega)]; exact h1),h2⟩
 | succ k ih =>
  intro i p b xs hk hi hp hl
  by_cases hic:(i:Int)<c
  ·obtain ⟨v1,q1,b1,e1,g1⟩:=TR (bad:=b) ht hp
   obtain ⟨v2,q2,b2,e2,g2⟩:=TR (bad:=b1) ht g1
   obtain ⟨v3,q3,b3,e3,g3⟩:=TQ (bad:=b2) ht g2
   obtain ⟨r,h1,h2⟩:=ih (i+1) q3 b3 (xs++[(v1,v2,v3)]) (by omega) (by omega) g3 (by simp [hl])
   exact ⟨r,C_ (by unfold CK; rw [if_pos (by simpa using hic),e1,J,e2,J,e3,J,if_pos (by simp only [List.length_cons,List.length_nil]; omega),Af (by omega)]; exact h1),h2⟩
  ·obtain ⟨r,h1,h2,_⟩:=aQ (text:=text) (l:=l) (n1:=n1) (n2:=n2) (n3:=n3) (n4:=n4) (n5:=n5) (rd:=(t,(p:Int),b)) (x:=(a1,a2,a3,a4,a5,xs)) (by simp only [hl]; unfold maxLen; omega)
   exact ⟨r,C_ (by unfold CK; rw [if_neg (by simpa using hic)]; exact h1),h2⟩
theorem Xa {text t:ByteArray} {l:List U3} {n1 n2 n3 n4 n5 a1 a2 a3 a4 a5 c:Int} (ht:L_ t):∀ (k i p:Nat) (b:Bool) (xs:List U3),50-i=k->i<=50->p<=t.size->xs.length=i ->
  ∃ r,CH text c (i:Int) l n1 n2 n3 n4 n5 (t,(p:Int),b) xs a1 a2 a3 a4 a5=some r/\IV text r:=by
 intro k
 induction k with
 | zero =>
  intro i p b xs hk hi hp hl
  obtain ⟨r,h1,h2,_⟩:=aR (text:=text) (l:=l) (n1:=n1) (n2:=n2) (n3:=n3) (n4:=n4) (n5:=n5) (rd:=(t,(p:Int),b)) (x:=(a1,a2,a3,a4,a5,xs)) (by simp only [hl]; unfold maxLen; omega)
  exact ⟨r,CI (by unfold Bj; split<;>first | exact h1 | (rw [if_neg (by simp; omega)]; exact h1)),h2⟩
 | succ k ih =>
  intro i p b xs hk hi hp hl
  obtain ⟨r0,f1,f2,_⟩:=aR (text:=text) (l:=l) (n1:=n1) (n2:=n2) (n3:=n3) (n4:=n4) (n5:=n5) (rd:=(t,(p:Int),b)) (x:=(a1,a2,a3,a4,a5,xs)) (by simp only [hl]; unfold maxLen; omega)
  by_cases hic:(i:Int)<c
  ·cases b with
   | true=>exact ⟨r0,CI (by unfold Bj; rw [if_pos (by simpa using hic),if_pos (by simp; omega),if_neg (by simp)]; exact f1),f2⟩
   | false =>
    obtain ⟨v1,q1,b1,e1,g1,m1⟩:=M4 (bad:=false) ht hp
    obtain ⟨s1,q2,b2,e2,g2,_⟩:=Qr (bad:=b1) ht g1 m1
    obtain ⟨v2,q3,b3,e3,g3,m2⟩:=M4 (bad:=b2) ht g2
    obtain ⟨s2,q4,b4,e4,g4,_⟩:=Qr (bad:=b3) ht g3 m2
    obtain ⟨v3,q5,b5,e5,g5,m3⟩:=M4 (bad:=b4) ht g4
    obtain ⟨r,h1,h2⟩:=ih (i+1) q5 b5 (xs++[(s1,s2,(v3:Int))]) (by omega) (by omega) g5 (by simp [hl])
    exact ⟨r,CI (by unfold Bj; rw [if_pos (by simpa using hic),if_pos (by simp; omega),if_pos (by simp)]; exact JO (by
     unfold Fz
     rw [e1,J,e2,J,e3,J,e4,J,e5,J,if_pos (by simp only [List.length_cons,List.length_nil]; omega),Af (by omega)]
     exact h1)),h2⟩
  ·exact ⟨r0,CI (by unfold Bj; rw [if_neg (by simpa using hic)]; exact f1),f2⟩
theorem Qs {text:ByteArray} (hx:text.size<=1048576):∃ r,BT text=some r/\IV text r:=by
 suffices g:∃ r,F6 text=some r/\IV text r from g.imp fun r g=>⟨Md g.1,g.2⟩
 unfold F6
 obtain ⟨t,ok,e0,ht⟩:=Zd hx
 rw [e0,J]
 cases ok with
 | false=>exact ⟨(ZM,false),by rw [if_pos (by simp)]; rfl,.inl rfl⟩
 | true =>
  rw [if_neg (by simp)]
  obtain ⟨v1,q1,b1,e1,g1⟩:=PN (p:=0) (bad:=false) ht (by omega)
  obtain ⟨v2,q2,b2,e2,g2⟩:=PN (bad:=b1) ht g1
  obtain ⟨v3,q3,b3,e3,g3⟩:=PN (bad:=b2) ht g2
  obtain ⟨v4,q4,b4,e4,g4⟩:=PN (bad:=b3) ht g3
  obtain ⟨v5,q5,b5,e5,g5⟩:=TQ (bad:=b4) ht g4
  obtain ⟨v6,q6,b6,e6,g6⟩:=TQ (bad:=b5) ht g5
  have e1:Ar (t,0,false)=some (v1,(t,(q1:Int),b1)):=e1
  simp only [e1,J,e2,e3,e4,e5,e6]
  exact XZ ht (by omega) 13 0 q6 b6 [] rfl (by omega) g6 rfl
theorem Xb {text:ByteArray} (hx:text.size<=1048576):∃ r,EI text=some r/\IV text r:=by
 suffices g:∃ r,F3 text=some r/\IV text r from g.imp fun r g=>⟨Mc g.1,g.2⟩
 unfold F3
 obtain ⟨t,ok,e0,ht⟩:=Wx hx
 rw [e0,J]
 obtain ⟨v1,q1,b1,e1,g1⟩:=PO (p:=0) (bad:=!ok) ht (by omega)
 obtain ⟨v2,q2,b2,e2,g2⟩:=PO (bad:=b1) ht g1
 obtain ⟨v3,q3,b3,e3,g3⟩:=PO (bad:=b2) ht g2
 obtain ⟨v4,q4,b4,e4,g4⟩:=PO (bad:=b3) ht g3
 obtain ⟨v5,q5,b5,e5,g5,_⟩:=M4 (bad:=b4) ht g4
 obtain ⟨v6,q6,b6,e6,g6,_⟩:=M4 (bad:=b5) ht g5
 have e1:Bz (t,0,!ok)=some (v1,(t,(q1:Int),b1)):=e1
 simp only [e1,J,e2,e3,e4,e5,e6]
 exact Xa ht 50 0 q6 b6 [] rfl (by omega) g6 rfl
theorem Gs {m:EC} {text:ByteArray} (h:Al m=(text,true)):Js m/\(AC (DN m)).size<=20000/\text=AC (DN m)++AC (FB (AC (DN m)).data.toList):=by
 unfold Al at h
 split at h
 ·rename_i hm
  unfold FC at h
  split at h
  ·cases h
  ·rename_i hs
   exact ⟨Js.of hm,by omega,(congrArg Prod.fst h).symm⟩
 ·cases h
theorem YY {text t:ByteArray} {l:List U3} {n1 n2 n3 n4 n5:Int} {m:EC} (ht:L_ t) (M:Js m) (hm:Al m=(text,true)):∀ (i:Nat),i<=m.2.2.2.2.2.length->∀ p:Nat,p<=t.size->(AG t).drop p=(m.2.2.2.2.2.drop i).flatMap Dq ->
  CJ text (m.2.2.2.2.2.length:Int) (i:Int) l n1 n2 n3 n4 n5 (t,(p:Int),false) (m.2.2.2.2.2.take i) m.1 m.2.1 m.2.2.1 m.2.2.2.1 m.2.2.2.2.1=some (m,true):=by
 have hl:=M.l
 refine IY (n:=m.2.2.2.2.2.length) (P:=fun i=>∀ p:Nat,p<=t.size->(AG t).drop p=(m.2.2.2.2.2.drop i).flatMap Dq ->
  CJ text (m.2.2.2.2.2.length:Int) (i:Int) l n1 n2 n3 n4 n5 (t,(p:Int),false) (m.2.2.2.2.2.take i) m.1 m.2.1 m.2.2.1 m.2.2.2.1 m.2.2.2.2.1=some (m,true)) ?_ ?_
 ·intro p hp hd
  obtain ⟨r,h1,_,h3⟩:=aQ (text:=text) (l:=l) (n1:=n1) (n2:=n2) (n3:=n3) (n4:=n4) (n5:=n5) (rd:=(t,(p:Int),false)) (x:=m) (by unfold maxLen; omega)
  refine C_ ?_
  unfold CK
  rw [if_neg (by simp),List.take_length,h1,h3 rfl hm]
 ·intro i hi ih p hp hd
  obtain ⟨q1,q2,q3,q4⟩:=M.i _ (FP hi)
  rw [List.drop_eq_getElem_cons hi,List.flatMap_cons,Dq] at hd
  simp only [BC] at hd
  have e1:=UK ht hd (by omega)
  obtain ⟨l1,d1⟩:=CT hd hp
  obtain ⟨l2,d2⟩:=CT d1 l1
  rw [AR] at l2 d2
  have e2:=UK ht d2 (by omega)
  obtain ⟨l3,d3⟩:=CT d2 l2
  obtain ⟨l4,d4⟩:=CT d3 l3
  rw [AR] at l4 d4
  have e3:=U5 ht d4 (by omega)
  obtain ⟨l5,d5⟩:=CT d4 l4
  refine C_ ?_
  unfold CK
  rw [if_pos (by simpa using hi),e1,J,e2,J,e3,J,if_pos (by simp only [List.length_cons,List.length_nil,List.length_take]; omega),Af (by omega)]
  have et:m.2.2.2.2.2.take i++[(m.2.2.2.2.2[i].1,m.2.2.2.2.2[i].2.1,((m.2.2.2.2.2[i].2.2.toNat:Nat):Int))]=m.2.2.2.2.2.take (i+1):=by
   have:((m.2.2.2.2.2[i].2.2.toNat:Nat):Int)=m.2.2.2.2.2[i].2.2:=by omega
   rw [this,List.take_succ_eq_append_getElem hi]
  simp only at et ⊢
  rw [et]
  exact ih _ l5 d5
theorem YZ {text t:ByteArray} {l:List U3} {n1 n2 n3 n4 n5:Int} {m:EC} (ht:L_ t) (M:Js m) (hm:Al m=(text,true)):∀ (i:Nat),i<=m.2.2.2.2.2.length->∀ p:Nat,p<=t.size->(AG t).drop p=(m.2.2.2.2.2.drop i).flatMap Dq ->
  CH text (m.2.2.2.2.2.length:Int) (i:Int) l n1 n2 n3 n4 n5 (t,(p:Int),false) (m.2.2.2.2.2.take i) m.1 m.2.1 m.2.2.1 m.2.2.2.1 m.2.2.2.2.1=some (m,true):=by
 have hl:=M.l
 refine IY (n:=m.2.2.2.2.2.length) (P:=fun i=>∀ p:Nat,p<=t.size->(AG t).drop p=(m.2.2.2.2.2.drop i).flatMap Dq ->
  CH text (m.2.2.2.2.2.length:Int) (i:Int) l n1 n2 n3 n4 n5 (t,(p:Int),false) (m.2.2.2.2.2.take i) m.1 m.2.1 m.2.2.1 m.2.2.2.1 m.2.2.2.2.1=some (m,true)) ?_ ?_
 ·intro p hp hd
  obtain ⟨r,h1,_,h3⟩:=aR (text:=text) (l:=l) (n1:=n1) (n2:=n2) (n3:=n3) (n4:=n4) (n5:=n5) (rd:=(t,(p:Int),false)) (x:=m) (by unfold maxLen; omega)
  refine CI ?_
  unfold Bj
  rw [if_neg (by simp),List.take_length,h1,h3 rfl hm]
 ·intro i hi ih p hp hd
  obtain ⟨q1,q2,q3,q4⟩:=M.i _ (FP hi)
  rw [List.drop_eq_getElem_cons hi,List.flatMap_cons,Dq] at hd
  simp only [BC] at hd
  have e1:=PP ht hd (by omega)
  obtain ⟨l1,d1⟩:=CT hd hp
  have e2:=TS ht l1 d1
  obtain ⟨l2,d2⟩:=CT d1 l1
  rw [AR] at l2 d2
  have e3:=PP ht d2 (by omega)
  obtain ⟨l3,d3⟩:=CT d2 l2
  have e4:=TS ht l3 d3
  obtain ⟨l4,d4⟩:=CT d3 l3
  rw [AR] at l4 d4
  have e5:=PP ht d4 (by omega)
  obtain ⟨l5,d5⟩:=CT d4 l4
  refine CI ?_
  unfold Bj
  rw [if_pos (by simpa using hi),if_pos (by simp; omega),if_pos (by simp)]
  refine JO ?_
  unfold Fz
  rw [e1,J,e2,J,e3,J,e4,J,e5,J,if_pos (by simp only [List.length_cons,List.length_nil,List.length_take]; omega),Af (by omega)]
  have et:m.2.2.2.2.2.take i++[(m.2.2.2.2.2[i].1,m.2.2.2.2.2[i].2.1,((m.2.2.2.2.2[i].2.2.toNat:Nat):Int))]=m.2.2.2.2.2.take (i+1):=by
   have:((m.2.2.2.2.2[i].2.2.toNat:Nat):Int)=m.2.2.2.2.2[i].2.2:=by omega
   rw [this,List.take_succ_eq_append_getElem hi]
  simp only at et ⊢
  rw [et]
  exact ih _ l5 d5
theorem Wy {m:EC} (M:Js m):(AG (AC (DN m))).drop 0=m.1::m.2.1::m.2.2.1::m.2.2.2.1::(Dn m.2.2.2.2.1.toNat++(Dn m.2.2.2.2.2.length++(m.2.2.2.2.2.drop 0).flatMap Dq)):=by
 rw [CD (TN M),DN,M3]
 simp
theorem Ya {t:ByteArray} (h:t.size<=20000):L_ t:=by unfold L_; omega
theorem Vp {m:EC} {text:ByteArray} (h:Al m=(text,true)):BT text=some (m,true):=by
 obtain ⟨M,hs,rfl⟩:=Gs h
 have ht:=Ya hs
 refine Md ?_
 unfold F6
 rw [aO hs,J,if_neg (by simp)]
 have d0:=Wy M
 have hn:=M.n; have hl:=M.l
 generalize AC (DN m)=t at h hs ht d0 ⊢
 obtain ⟨_,_,d1⟩:=E4 d0
 obtain ⟨_,_,d2⟩:=E4 d1
 obtain ⟨_,_,d3⟩:=E4 d2
 obtain ⟨l4,_,d4⟩:=E4 d3
 have e1:Ar (t,0,false)=some (m.1,(t,((0+1:Nat):Int),false)):=Ro ht d0
 have e2:=Ro ht d1
 have e3:=Ro ht d2
 have e4:=Ro ht d3
 have e5:=U5 ht d4 (by omega)
 obtain ⟨l5,d5⟩:=CT d4 (by omega)
 have e6:=U5 ht d5 (by omega)
 obtain ⟨l6,d6⟩:=CT d5 l5
 have en:((m.2.2.2.2.1.toNat:Nat):Int)=m.2.2.2.2.1:=by omega
 simp only [e1,J,e2,e3,e4,e5,e6,en]
 rw [show min (m.2.2.2.2.2.length:Int) 13=(m.2.2.2.2.2.length:Int) by omega]
 exact YY ht M h 0 (by omega) _ l6 d6
theorem Yb {m:EC} {text:ByteArray} (h:Al m=(text,true)):EI text=some (m,true):=by
 obtain ⟨M,hs,rfl⟩:=Gs h
 have ht:=Ya hs
 refine Mc ?_
 unfold F3
 rw [aP hs,J]
 have d0:=Wy M
 have hn:=M.n; have hl:=M.l
 generalize AC (DN m)=t at h hs ht d0 ⊢
 obtain ⟨_,_,d1⟩:=E4 d0
 obtain ⟨_,_,d2⟩:=E4 d1
 obtain ⟨_,_,d3⟩:=E4 d2
 obtain ⟨l4,_,d4⟩:=E4 d3
 have e1:Bz (t,0,!true)=some (m.1,(t,((0+1:Nat):Int),false)):=Rp ht d0
 have e2:=Rp ht d1
 have e3:=Rp ht d2
 have e4:=Rp ht d3
 have e5:=PP ht d4 (by omega)
 obtain ⟨l5,d5⟩:=CT d4 (by omega)
 have e6:=PP ht d5 (by omega)
 obtain ⟨l6,d6⟩:=CT d5 l5
 have en:((m.2.2.2.2.1.toNat:Nat):Int)=m.2.2.2.2.1:=by omega
 simp only [e1,J,e2,e3,e4,e5,e6,en]
 exact YZ ht M h 0 (by omega) _ l6 d6
theorem Xc {text:ByteArray} (hx:text.size<=1048576):∃ r:EC×Bool,BT text=some r/\EI text=some r/\r.1.2.2.2.2.2.length<=12/\IV text r:=by
 obtain ⟨r1,e1,o1⟩:=Qs hx
 obtain ⟨r2,e2,o2⟩:=Xb hx
 rcases o1 with h1 | ⟨m,h1,h3⟩
 ·rcases o2 with h2 | ⟨m,h2,h3⟩
  ·exact ⟨r1,e1,by rw [e2,h2,h1],by rw [h1]; simp [ZM],.inl h1⟩
  ·exfalso
   have:=Vp h3
   rw [e1,h1] at this
   cases this
 ·refine ⟨r1,e1,by rw [h1]; exact Yb h3,?_,.inr ⟨m,h1,h3⟩⟩
  rw [h1]
  exact (Gs h3).1.l

abbrev Ce:Type:=ByteArray×ByteArray×Int
def WP (k:ByteArray) (b:Ce):Bool:=Op.bytesLess b.1.toList k.toList
def TU (x:List Ce) (a:Ce):Bool:=x.any fun b=>(b.1.toList==a.1.toList)&&decide (b.2.2>=a.2.2)
def M5 (k:ByteArray) (b:Ce):Bool:=!(Op.bytesLess b.1.toList k.toList||(b.1.toList==k.toList))
def Yc (x:List Ce) (a:Ce):List Ce:=x.filter (WP a.1)++[a]++x.filter (M5 a.1)
def BY (x:List Ce):Bool:=Bn x 0 x.length
def LZ (x:List Ce) (a:Ce):List Ce:=if TU x a=true then x else if BY x=true then (if BY (Yc x a)=true then Yc x a else x) else x
theorem PQ (x:List Ce) (a:Ce) (hx:x.length<=34359738367):II x a=some (LZ x a):=TI (by
 have J4:∀ same out:List Ce,out.length<=maxLen->GL x a same out=some (if BY x=true then (if BY out=true then out else same) else same):=fun same out ho=>PH (by
  unfold Jo BY
  rw [GP x (by unfold maxLen; omega),GP out ho]
  cases Bn x 0 x.length<;>cases Bn out 0 out.length<;>simp)
 have L3:∀ same out:List Ce,out.length<=x.length+1->CQ x ((0:Nat):Int) a same out=some (if BY x=true then (if BY (out++(x.drop 0).filter (M5 a.1))=true then out++(x.drop 0).filter (M5 a.1) else same) else same):=by
  intro same out ho
  refine IY (n:=x.length) (P:=fun i=>∀ out:List Ce,out.length<=x.length+1+i->CQ x (i:Int) a same out=some (if BY x=true then (if BY (out++(x.drop i).filter (M5 a.1))=true then out++(x.drop i).filter (M5 a.1) else same) else same)) (fun out ho=>Jq ?_) (fun i hi ih out ho=>Jq ?_) 0 (by omega) out ho
  ·unfold GN
   rw [if_neg (by simp),J4 same out (by unfold maxLen; omega)]
   simp
  ·unfold GN
   simp only [show ((i:Int)<(x.length:Int)) from by omega,decide_true,if_true,show (0:Int)<=(i:Int) from by omega,BN,D9 hi,Af (show i<9223372036854775807 by omega)]
   rw [NH hi,List.filter_cons]
   change (if M5 a.1 x[i]=true then _ else _)=_
   by_cases hh:M5 a.1 x[i]=true
   ·rw [if_pos hh,if_pos (by simp; omega),ih _ (by simp; omega),if_pos hh,BC]
    rfl
   ·rw [if_neg hh,ih _ (by omega),if_neg hh]
 have J2:∀ same out:List Ce,out.length<=x.length->GM x a same out=some (if BY x=true then (if BY (out++[a]++x.filter (M5 a.1))=true then out++[a]++x.filter (M5 a.1) else same) else same):=fun same out ho=>PI (by
  unfold Jp
  rw [if_pos (by simp; omega)]
  have:=L3 same (out++[a]) (by simp; omega)
  simpa using this)
 have L0:∀ same:List Ce,CR x ((0:Nat):Int) a same []=some (if TU (x.drop 0) a=true then same else if BY x=true then (if BY (([]++(x.drop 0).filter (WP a.1))++[a]++x.filter (M5 a.1))=true then ([]++(x.drop 0).filter (WP a.1))++[a]++x.filter (M5 a.1) else same) else same):=by
  intro same
  refine IY (n:=x.length) (P:=fun i=>∀ out:List Ce,out.length<=i->CR x (i:Int) a same out=some (if TU (x.drop i) a=true then same else if BY x=true then (if BY ((out++(x.drop i).filter (WP a.1))++[a]++x.filter (M5 a.1))=true then (out++(x.drop i).filter (WP a.1))++[a]++x.filter (M5 a.1) else same) else same)) (fun out ho=>Jr ?_) (fun i hi ih out ho=>Jr ?_) 0 (by omega) [] (by simp)
  ·unfold GO
   rw [if_neg (by simp),J2 same out ho]
   simp [TU]
  ·unfold GO
   simp only [show ((i:Int)<(x.length:Int)) from by omega,decide_true,if_true,show (0:Int)<=(i:Int) from by omega,BN,D9 hi]
   have J1:∀ out:List Ce,out.length<=i+1->D8 x (i:Int) a same out=some (if TU (x.drop i) a=true then same else if BY x=true then (if BY ((out++(x.drop (i+1)).filter (WP a.1))++[a]++x.filter (M5 a.1))=true then (out++(x.drop (i+1)).filter (WP a.1))++[a]++x.filter (M5 a.1) else same) else same):=fun out ho=>PG (by
    unfold Jn
    simp only [show ((i:Int)<(x.length:Int)) from by omega,decide_true,if_true,show (0:Int)<=(i:Int) from by omega,BN,D9 hi,Af (show i<9223372036854775807 by omega),ih out ho]
    rw [NH hi]
    rw [show TU (x[i]::x.drop (i+1)) a=(((x[i].1.toList==a.1.toList)&&decide (x[i].2.2>=a.2.2))||TU (x.drop (i+1)) a) from List.any_cons]
    generalize (x[i].1.toList==a.1.toList)=p
    generalize decide (x[i].2.2>=a.2.2)=q
    cases p<;>cases q<;>simp)
   rw [NH hi,List.filter_cons]
   change (if WP a.1 x[i]=true then _ else _)=_
   rw [NH hi] at J1
   by_cases hh:WP a.1 x[i]=true
   ·rw [if_pos hh,if_pos (by simp; omega),J1 _ (by simp; omega),if_pos hh]
    simp only [BC,List.cons_append,List.nil_append]
   ·rw [if_neg hh,J1 _ (by omega),if_neg hh]
 unfold M1
 rw [if_pos (by simp; omega)]
 have:=L0 ([]++x)
 simpa [LZ,Yc] using this)

abbrev HX:Type:=List Int×Int×Int
def La (d:HX):Prop:=0<=d.2.1/\d.1.length<=maxLen
theorem RC (a:Int):0<=Dx .i64 a 255/\Dx .i64 a 255<=255:=by
 unfold Dx
 have h:(BitVec.ofInt (IntKind.bits .i64) a &&& BitVec.ofInt (IntKind.bits .i64) 255).toNat<=255:=by
  rw [BitVec.toNat_and]
  refine Nat.le_trans Nat.and_le_right ?_
  decide
 rw [AN (by omega)]
 omega
theorem Bm (d:HX) (h:La d):∃ b d',Bh d=some (b,d')/\La d'/\0<=b/\b<=255:=by
 have hm:d.1.length<=9223372036854775807:=h.2
 have hp:=h.1
 suffices g:∃ b d',IL d=some (b,d')/\La d'/\0<=b/\b<=255 from g.imp fun b g=>g.imp fun d' g=>⟨S_ g.1,g.2⟩
 unfold IL
 rw [if_neg (by omega),if_neg (by omega)]
 by_cases h1:d.2.1<(d.1.length:Int)
 ·rw [if_pos (by simpa using h1),if_pos hp,if_pos h1]
  refine ⟨_,_,rfl,⟨?_,h.2⟩,RC _⟩
  show 0<=IntKind.i64.wrap (d.2.1+1)
  rw [AN (by omega)]
  omega
 ·rw [if_neg (by simpa using h1)]
  exact ⟨_,_,rfl,h,RC _⟩
theorem AK (n:Int) (d:HX) (h:La d):∃ v d',AW n d=some (v,d')/\La d'/\0<=v/\(0<n->v<n):=by
 suffices g:∃ b d',HQ n d=some (b,d')/\La d'/\0<=b/\(0<n->b<n) from g.imp fun b g=>g.imp fun d' g=>⟨Rb g.1,g.2⟩
 unfold HQ
 by_cases h1:n<=0
 ·exact ⟨0,d,by rw [if_pos (by simpa using h1)],h,by omega,by omega⟩
 ·rw [if_neg (by simpa using h1)]
  by_cases h2:n<=256
  ·obtain ⟨b,d1,e1,k1,b0,b1⟩:=Bm d h
   refine ⟨_,_,by rw [if_pos (by simpa using h2),e1,J,if_neg (by omega)],k1,Int.tmod_nonneg _ b0,fun _=>Int.tmod_lt_of_pos _ (by omega)⟩
  ·obtain ⟨b1,d1,e1,k1,b10,b11⟩:=Bm d h
   obtain ⟨b2,d2,e2,k2,b20,b21⟩:=Bm d1 k1
   obtain ⟨b3,d3,e3,k3,b30,b31⟩:=Bm d2 k2
   obtain ⟨b4,d4,e4,k4,b40,b41⟩:=Bm d3 k3
   refine ⟨_,_,by rw [if_neg (by simpa using h2),e1,J,e2,J,e3,J,e4,J,if_neg (by omega)],k4,Int.tmod_nonneg _ ?_,fun _=>Int.tmod_lt_of_pos _ (by omega)⟩
   rw [AN (n:=b1*16777216) (by omega),AN (n:=b2*65536) (by omega),AN (n:=b3*256) (by omega),AN (n:=b1*16777216+b2*65536) (by omega),AN (n:=b1*16777216+b2*65536+b3*256) (by omega),AN (by omega)]
   omega
theorem CE (x:List Int) (hx:0<x.length) (d:HX) (h:La d):∃ v d',Bi x d=some (v,d')/\La d'/\v∈x:=by
 obtain ⟨v,d',e,k,v0,v1⟩:=AK (x.length:Int) d h
 have v1:=v1 (by omega)
 have hv:v.toNat<x.length:=by omega
 exact ⟨_,_,O6 (by unfold Jb; rw [e,J,if_pos v0,if_pos v1]),k,by rw [D9 hv]; exact FP hv⟩
theorem Gt (x:List Int) (h:x.length<=maxLen):∃ d,En x=some d/\La d:=by
 have hm:x.length<=9223372036854775807:=h
 have key:=IY (n:=x.length) (P:=fun i=>∀ a,∃ d,EZ x a (i:Int)=some d/\La d) (fun a=>⟨(x,0,a),Gi (by
  unfold Ea
  rw [if_neg (by simp)]),⟨Int.le_refl _,h⟩⟩) (fun i hi ih a=>by
  by_cases h4:(i:Int)<4000
  ·obtain ⟨d,e,k⟩:=ih (Dx .i64 (IntKind.i64.wrap ((IntKind.i64.wrap ((IntKind.i64.wrap (a*(131:Int)))+(IntKind.i64.wrap (x.getD (i:Int).toNat (0:Int)))))+(7:Int))) (1073741823:Int))
   refine ⟨d,Gi ?_,k⟩
   unfold Ea
   rw [if_pos (by simpa using hi),if_pos (by simpa using h4)]
   refine QG ?_
   unfold Kx
   rw [if_pos (by omega),if_pos (by omega),Af (show i<9223372036854775807 by omega)]
   exact e
  ·refine ⟨(x,0,a),Gi ?_,⟨Int.le_refl _,h⟩⟩
   unfold Ea
   rw [if_pos (by simpa using hi),if_neg (by simpa using h4)]) 0 (by omega)
 obtain ⟨d,e,k⟩:=key (IntKind.i64.wrap ((14301:Int)+(x.length:Int)))
 exact ⟨d,Tv e,k⟩

theorem Yd (x:List Ce) (a:Ce):(Yc x a).length<=x.length+1:=by
 have h1:(x.filter (M5 a.1)).length<=(x.filter fun b=>!WP a.1 b).length:=by
  rw [<- List.countP_eq_length_filter,<- List.countP_eq_length_filter]
  refine List.countP_mono_left fun b _ hb=>?_
  simp only [M5,WP,C0,Bool.or_eq_false_iff] at hb ⊢
  exact hb.1
 have h2:(x.filter (WP a.1)).length+(x.filter fun b=>!WP a.1 b).length=x.length:=by
  rw [<- List.countP_eq_length_filter,<- List.countP_eq_length_filter]
  have:=List.length_eq_countP_add_countP (WP a.1) (l:=x)
  rw [this]
  congr 2
  funext b
  cases WP a.1 b<;>rfl
 simp only [Yc,List.length_append,List.length_cons,List.length_nil]
 omega
theorem Ye (a:Ce):PT (.pair .str (.pair .str (.int .i64))) a a=true:=by simp [PT]
theorem L6 (x:List Ce) (hx:x.length<=maxLen):Gd x x=some true:=QA (by
 have hm:x.length<=9223372036854775807:=hx
 unfold Kt
 rw [if_neg (by simp)]
 exact IY (n:=x.length) (P:=fun i=>DO x x (i:Int)=some true) (HU (by
  unfold Ef
  rw [if_neg (by simp)])) (fun i hi ih=>HU (by
  unfold Ef
  simp only [show ((i:Int)<(x.length:Int)) from by omega,decide_true,if_true,show (0:Int)<=(i:Int) from by omega,BN,D9 hi,Af (show i<9223372036854775807 by omega),ih]
  rw [if_neg (by simp [Ye])])) 0 (by omega))
theorem GV (x:List ByteArray) (hx:0<x.length) (d:HX) (h:La d):∃ v d',EM x d=some (v,d')/\La d'/\v∈x:=by
 obtain ⟨v,d',e,k,v0,v1⟩:=AK (x.length:Int) d h
 have v1:=v1 (by omega)
 have hv:v.toNat<x.length:=by omega
 exact ⟨_,_,TF (by unfold Mx; rw [e,J,if_pos v0,if_pos v1]),k,by rw [D9 hv]; exact FP hv⟩
theorem GW (d:HX) (h:La d):∃ a d',EL d=some (a,d')/\La d'/\NI a=true:=by
 obtain ⟨k,d1,e1,k1,m1⟩:=GV [(⟨#[97]⟩:ByteArray),(⟨#[98]⟩:ByteArray),(⟨#[99]⟩:ByteArray),(⟨#[100]⟩:ByteArray),(⟨#[101]⟩:ByteArray),(⟨#[102]⟩:ByteArray),(⟨#[103]⟩:ByteArray),(⟨#[104]⟩:ByteArray),(⟨#[107,49]⟩:ByteArray),(⟨#[107,50]⟩:ByteArray),(⟨#[107,51]⟩:ByteArray),(⟨#[107,101,121]⟩:ByteArray)] (by simp) d h
 obtain ⟨v,d2,e2,k2,m2⟩:=GV [(⟨#[]⟩:ByteArray),(⟨#[118]⟩:ByteArray),(⟨#[119]⟩:ByteArray),(⟨#[120,120]⟩:ByteArray),(⟨#[121,121,121]⟩:ByteArray)] (by simp) d1 k1
 obtain ⟨n,d3,e3,k3,n0,n1⟩:=AK 30 d2 k2
 have n1:=n1 (by omega)
 have f1:J6 d=some (k,d1):=Ty (by unfold Nj; rw [e1]; rfl)
 have f2:J7 d1=some (v,d2):=Tz (by unfold Nk; rw [e2]; rfl)
 refine ⟨(k,v,1001+n),d3,TE (by unfold Mw; rw [f1,J,f2,J,e3,J,AN (n:=1001+n) (by omega)]),k3,?_⟩
 have hk:∀ k∈[(⟨#[97]⟩:ByteArray),(⟨#[98]⟩:ByteArray),(⟨#[99]⟩:ByteArray),(⟨#[100]⟩:ByteArray),(⟨#[101]⟩:ByteArray),(⟨#[102]⟩:ByteArray),(⟨#[103]⟩:ByteArray),(⟨#[104]⟩:ByteArray),(⟨#[107,49]⟩:ByteArray),(⟨#[107,50]⟩:ByteArray),(⟨#[107,51]⟩:ByteArray),(⟨#[107,101,121]⟩:ByteArray)],1<=k.size/\k.size<=12:=by decide
 have hv:∀ k∈[(⟨#[]⟩:ByteArray),(⟨#[118]⟩:ByteArray),(⟨#[119]⟩:ByteArray),(⟨#[120,120]⟩:ByteArray),(⟨#[121,121,121]⟩:ByteArray)],k.size<=20:=by decide
 have a1:=hk k m1
 have a2:=hv v m2
 simp only [NI,O,decide_eq_true_eq]
 omega
theorem WQ {x:List Ce} {a:Ce} (h:BY x=true):BY (LZ x a)=true:=by
 unfold LZ
 rw [if_pos h]
 split
 ·exact h
 ·split
  ·assumption
  ·exact h
theorem Vq (x:List Ce) (a:Ce):(LZ x a).length<=x.length+1:=by
 have:=Yd x a
 unfold LZ
 (repeat' split)<;>omega
theorem IW (d:HX) (h:La d):∃ x d',Ey d=some (x,d')/\La d'/\BY x=true/\x.length<=5:=by
 have key:=IY (n:=5) (P:=fun i=>∀ (d:HX) (x:List Ce),La d->BY x=true->x.length<=i->∃ y d',Dl (i:Int) d x=some (y,d')/\La d'/\BY y=true/\y.length<=5)
  (fun d x hd hx hl=>by
   obtain ⟨v,d1,e1,k1,v0,v1⟩:=AK 6 d hd
   have v1:=v1 (by omega)
   refine ⟨x,d1,FA ?_,k1,hx,hl⟩
   unfold Dm
   rw [e1,J,if_neg (by simp; omega)])
  (fun i hi ih d x hd hx hl=>by
   obtain ⟨v,d1,e1,k1,v0,v1⟩:=AK 6 d hd
   by_cases hv:(i:Int)<v
   ·obtain ⟨a,d2,e2,k2,o2⟩:=GW d1 k1
    obtain ⟨y,d3,e3,k3⟩:=ih d2 (LZ x a) k2 (WQ hx) (by have:=Vq x a; omega)
    refine ⟨y,d3,FA ?_,k3⟩
    unfold Dm
    rw [e1,J,if_pos (by simpa using hv),e2,J,PQ x a (by omega),J,Af (by omega)]
    exact e3
   ·refine ⟨x,d1,FA ?_,k1,hx,by omega⟩
    unfold Dm
    rw [e1,J,if_neg (by simpa using hv)]) 0 (by omega) d [] h (by decide) (by simp)
 obtain ⟨y,d',e,k⟩:=key
 exact ⟨y,d',Re (by unfold L1; exact e),k⟩



def UL (v:List Int) (i:Nat):Nat->Bool
 | 0=>true
 | k+1=>(decide (1<=v.getD i 0)&&decide (v.getD i 0<=6))&&!(v.take i).contains (v.getD i 0)&&UL v (i+1) k
def aS (v:List Int):Bool:=(decide (1<=(v.length:Int))&&decide ((v.length:Int)<=4))&&UL v 0 v.length
def UM (x:List (List Int)) (n:Nat):List (List Int)->Bool
 | []=>decide (1<=(n:Int))&&decide ((n:Int)<=9)
 | v::r=>aS v&&UM x n r

abbrev Yf:Type:=Int×Int×Int×(ByteArray×ByteArray×Int)×List Int
abbrev Rq:Type:=Int×Int×Bool×Bool×Bool×Bool×List Int×List (ByteArray×ByteArray×Int)×Int×Yf
def aT (t:Yf):Bool:=(t.1==0)&&(t.2.1==0)&&(t.2.2.1==0)&&PT (.pair .str (.pair .str (.int .i64))) t.2.2.2.1 (Z,Z,(0:Int))&&((t.2.2.2.2.length:Int)==0)
def Yg (t:Yf) (serves:Bool):Bool:=(t.1==1||t.1==2)&&serves&&(decide (0<=t.2.1)&&decide (t.2.1<=1000))&&(decide (1<=t.2.2.1)&&decide (t.2.2.1<=900))

def bn (v:List Int):Prop:=(∀ a∈v,1<=a/\a<=6)/\v.Pairwise (· < ·)
structure br (m:Rq):Prop where
 id:1<=m.1/\m.1<=6
 ep:1<=m.2.1/\m.2.1<=9
 serves:m.2.2.2.2.2.1=true->m.2.2.2.1=true/\m.2.2.2.2.1=true/\m.2.2.2.2.2.2.1=[]
 fell:m.2.2.1=true->m.2.2.2.1=false/\m.2.2.2.2.1=false
 waits:bn m.2.2.2.2.2.2.1
 left:bn m.2.2.2.2.2.2.2.2.2.2.2.2.2
 items:BY m.2.2.2.2.2.2.2.1=true
 count:0<=m.2.2.2.2.2.2.2.2.1/\m.2.2.2.2.2.2.2.2.1<=900
 task:aT m.2.2.2.2.2.2.2.2.2=true\/Yg m.2.2.2.2.2.2.2.2.2 m.2.2.2.2.2.1=true

structure bt (views:List (List Int)):Prop where
 ok:UM views views.length views=true

structure bw (x:EC):Prop where
 kind:1<=x.1/\x.1<=8
 frm:1<=x.2.1/\x.2.1<=6
 to:1<=x.2.2.1/\x.2.2.1<=6
 ep:1<=x.2.2.2.1/\x.2.2.2.1<=9
 num:0<=x.2.2.2.2.1/\x.2.2.2.2.1<=1000000000
 items:BY x.2.2.2.2.2=true
 shape:if x.1=2\/x.1=3 then True else if x.1=5 then x.2.2.2.2.2.length=1 else x.2.2.2.2.2=[]

def bE:Rq:=((0:Int),(0:Int),false,false,false,false,([]:List Int),([]:List Ce),(0:Int),(0:Int),(0:Int),(0:Int),(Z,Z,(0:Int)),([]:List Int))

abbrev bF:Type:=Int×ByteArray×ByteArray×Int×Int×Int×Int×Int×ByteArray
abbrev N_:Type:=List (List Int)×List Rq×List EC×List bF
abbrev aU:Type:=Int×Int×Int×Int×ByteArray×ByteArray
def bG:EC:=((0:Int),(0:Int),(0:Int),(0:Int),(0:Int),([]:List Ce))
def bH (g:N_) (i:Nat):Rq:=g.2.1.getD i bE
structure bd (g:N_) (n:Nat):Prop where
 views:bt g.1
 six:g.2.1.length=6
 mem:∀ i,i<6->br (bH g i)/\(bH g i).1=(i:Int)+1
 fly:∀ x∈g.2.2.1,bw x
 flen:g.2.2.1.length<=8*n
 clen:g.2.2.2.length<=n
def bo (g:N_) (at_:Int) (e:aU):N_:=(g.1,g.2.1,g.2.2.1,g.2.2.2++[(e.2.2.2.1,e.2.2.2.2.1,e.2.2.2.2.2,at_,-1,0,0,0,Z)])

def Zk (g:N_) (i:Nat):N_:=(g.1,g.2.1,g.2.2.1.take i++g.2.2.1.drop (i+1),g.2.2.2)
theorem bd.less {g:N_} {k:Nat} (h:bd g k) (i:Nat):bd (Zk g i) k:=by
 refine ⟨h.views,h.six,h.mem,fun x hx=>?_,?_,h.clen⟩
 ·rcases Ck.1 hx with h1 | h1
  ·exact h.fly x (List.mem_of_mem_take h1)
  ·exact h.fly x (List.mem_of_mem_drop h1)
 ·have:=h.flen
  simp only [Zk,List.length_append,List.length_take,List.length_drop]
  omega





theorem PR:∃ b,IF 13 65=some b:=by
 have key:=IY (n:=13) (P:=fun i=>∀ l:List Int,l.length=13->∃ b,D5 13 65 (i:Int) l=some b) (fun l hl=>⟨_,Jg (by
  unfold GG
  rw [if_neg (by simp)])⟩) (fun i hi ih l hl=>by
  obtain ⟨b,hb⟩:=ih (l.set i 65) (by simpa using hl)
  refine ⟨b,Jg ?_⟩
  unfold GG
  rw [if_pos (by simp; omega),if_pos (by omega),if_pos (by omega),Af (by omega),BN]
  exact hb) 0 (by omega) (List.replicate 13 0) (by simp)
 obtain ⟨b,hb⟩:=key
 exact ⟨b,TG (by
  unfold My
  rw [if_pos (by omega),if_pos (by omega)]
  exact hb)⟩
theorem PS (n:Nat) (h:n<1000):∃ b,IG (n:Int)=some b/\b.size<=100:=by
 have one:∀ y:Int,(AC ([y]:List Int)).size=1:=fun y=>rfl
 have fig:∀ y:Int,∃ r,Gf y=some r:=fun y=>by
  by_cases hy:y<10
  ·exact ⟨_,K_ (by unfold Gr; rw [if_pos (by simpa using hy)])⟩
  ·exact ⟨_,K_ (by unfold Gr; rw [if_neg (by simpa using hy)])⟩
 have L:∀ (k n:Nat) (acc:ByteArray),n<10^k->n<1000->acc.size+k<=100->∃ b,D6 (n:Int) false acc=some b/\b.size<=100:=by
  intro k
  induction k with
  | zero =>
   intro n acc hn hk ha
   have:n=0:=by simpa using hn
   subst this
   refine ⟨acc,GI ?_,by omega⟩
   unfold D7
   rw [if_neg (by simp),if_neg (by simp)]
  | succ k ih =>
   intro n acc hn hk ha
   by_cases h0:n=0
   ·subst h0
    refine ⟨acc,GI ?_,by omega⟩
    unfold D7
    rw [if_neg (by simp),if_neg (by simp)]
   ·obtain ⟨r,hr⟩:=fig (Int.tmod (n:Int) 10)
    have hq:n / 10<10^k:=by rw [Nat.pow_succ] at hn; omega
    obtain ⟨b,hb,hs⟩:=ih (n / 10) (AC ([r]:List Int)++acc) hq (by omega) (by rw [ByteArray.size_append,one]; omega)
    refine ⟨b,GI ?_,hs⟩
    unfold D7
    rw [if_pos (by simpa using h0),if_neg (by omega),if_neg (by have:=Int.tmod_nonneg (a:=(n:Int)) 10 (by omega); simp; omega)]
    refine PD ?_
    unfold Ji
    rw [hr,J,if_pos (by rw [one]; omega),if_neg (by omega),Int.tdiv_eq_ediv_of_nonneg (by omega),AN (by omega)]
    exact hb
 by_cases h0:n=0
 ·subst h0
  exact ⟨_,Mz (by unfold IP; rw [if_pos (by rfl)]),by decide⟩
 ·obtain ⟨b,hb,hs⟩:=L 3 n ⟨#[]⟩ (by omega) h (by decide)
  refine ⟨b,Mz ?_,hs⟩
  unfold IP
  rw [if_neg (by simpa using h0),show decide ((n:Int)<0)=false from decide_eq_false (by omega)]
  exact hb
theorem L7 (d:HX) (h:La d):∃ x d',E8 d=some (x,d')/\La d'/\x.length<=100:=by
 obtain ⟨x,d1,e1,k1,hx,hl⟩:=IW d h
 obtain ⟨v,d2,e2,k2,v0,v1⟩:=AK 16 d1 k1
 suffices g:∃ x' d',E_ d=some (x',d')/\La d'/\x'.length<=100 from by
  obtain ⟨x',d',e,k⟩:=g
  exact ⟨x',d',N8 e,k⟩
 unfold E_
 rw [e1,J,e2,J]
 dsimp only
 by_cases c0:v=0
 ·obtain ⟨a,d3,e3,k3,_⟩:=GW d2 k2
  rw [if_pos (by simpa using c0),e3,J,if_pos (by simp; omega)]
  exact ⟨_,_,rfl,k3,by simp; omega⟩
 rw [if_neg (by simpa using c0)]
 by_cases c1:v=1
 ·rw [if_pos (by simpa using c1)]
  by_cases hp:0<x.length
  ·obtain ⟨a,d3,e3,k3,_⟩:=CE [0,(-1),1000000000,1000000001] (by simp) d2 k2
   rw [if_pos (by simpa using hp),e3,J,if_pos (by omega),if_pos (by omega)]
   exact ⟨_,_,rfl,k3,by simp; omega⟩
  ·rw [if_neg (by simpa using hp)]
   exact ⟨_,_,rfl,k2,by omega⟩
 rw [if_neg (by simpa using c1)]
 by_cases c2:v=2
 ·rw [if_pos (by simpa using c2)]
  by_cases hp:0<x.length
  ·obtain ⟨b,hb⟩:=PR
   obtain ⟨a,d3,e3,k3,_⟩:=GV [(⟨#[]⟩:ByteArray),b] (by simp) d2 k2
   rw [if_pos (by simpa using hp),hb,J,e3,J,if_pos (by omega),if_pos (by omega)]
   exact ⟨_,_,rfl,k3,by simp; omega⟩
  ·rw [if_neg (by simpa using hp)]
   exact ⟨_,_,rfl,k2,by omega⟩
 rw [if_neg (by simpa using c2)]
 by_cases c3:v=3
 ·rw [if_pos (by simpa using c3)]
  have key:=IY (n:=13) (P:=fun i=>∀ (d:HX) (l:List Ce),La d->l.length<=i->∃ x' d',Cs (i:Int) d x l=some (x',d')/\La d'/\x'.length<=100) (fun d l hd hl=>by
    obtain ⟨y,d3,e3,k3,y0,y1⟩:=AK 2 d hd
    have y1:=y1 (by omega)
    refine ⟨l,d3,Dw ?_,k3,by omega⟩
    unfold Ct
    rw [e3,J,AN (by omega),if_neg (by simp; omega)])
   (fun i hi ih d l hd hl=>by
    obtain ⟨y,d3,e3,k3,y0,y1⟩:=AK 2 d hd
    have y1:=y1 (by omega)
    by_cases hc:(i:Int)<12+y
    ·obtain ⟨b,hb,hs⟩:=PS (10+i) (by omega)
     obtain ⟨x',d4,e4,k4⟩:=ih d3 (l++[((⟨#[109]⟩:ByteArray)++b,(⟨#[]⟩:ByteArray),5)]) k3 (by simp; omega)
     refine ⟨x',d4,Dw ?_,k4⟩
     unfold Ct
     have w1:IntKind.i64.wrap (10+(i:Int))=((10+i:Nat):Int):=by rw [AN (by omega)]; omega
     rw [e3,J,AN (n:=12+y) (by omega),if_pos (by simpa using hc),w1,hb,J,if_pos (by show 1+b.size<=_; omega),if_pos (by simp; omega),Af (by omega)]
     exact e4
    ·refine ⟨l,d3,Dw ?_,k3,by omega⟩
     unfold Ct
     rw [e3,J,AN (by omega),if_neg (by simpa using hc)]) 0 (by omega) d2 [] k2 (by simp)
  exact key
 rw [if_neg (by simpa using c3)]
 exact ⟨_,_,rfl,k2,by omega⟩
theorem Qt (d:HX) (h:La d):∃ x d',J5 d=some (x,d')/\La d'/\x.2.2.2.2.2.length<=100:=by
 obtain ⟨v1,d1,e1,k1,_⟩:=AK 8 d h
 obtain ⟨v2,d2,e2,k2,_⟩:=AK 4 d1 k1
 obtain ⟨v3,d3,e3,k3,_⟩:=AK 4 d2 k2
 obtain ⟨v4,d4,e4,k4,_⟩:=AK 4 d3 k3
 obtain ⟨v5,d5,e5,k5,_⟩:=AK 6 d4 k4
 have J1:∀ (a:Int) (b:Bool) (z x:EC),x.2.2.2.2.2.length<=100->∃ x' d',Ec a b d5 z x=some (x',d')/\La d'/\x'.2.2.2.2.2.length<=100:=fun a b z x hx=>by
  cases b with
  | true =>
   obtain ⟨y,d6,e6,k6,_,hl⟩:=IW d5 k5
   exact ⟨_,_,Gm (by unfold Ed; rw [if_pos rfl,e6,J]),k6,by show y.length<=100; omega⟩
  | false =>
   by_cases ha:a=5
   ·obtain ⟨y,d6,e6,k6,_⟩:=GW d5 k5
    exact ⟨_,_,Gm (by unfold Ed; rw [if_neg (by simp),if_pos (by simpa using ha),e6,J]),k6,by show [y].length<=100; simp⟩
   ·exact ⟨_,_,Gm (by unfold Ed; rw [if_neg (by simp),if_neg (by simpa using ha)]),k5,hx⟩
 have J0:∀ (z x:EC),x.2.2.2.2.2.length<=100->∃ x' d',Gk d5 z x=some (x',d')/\La d'/\x'.2.2.2.2.2.length<=100:=fun z x hx=>by
  by_cases ha:x.1=2
  ·obtain ⟨x',d',e,k⟩:=J1 x.1 (x.1==2) z x hx
   exact ⟨x',d',K4 (by unfold Gl; rw [if_pos (by simpa using ha)]; exact e),k⟩
  ·obtain ⟨x',d',e,k⟩:=J1 x.1 (x.1==3) z x hx
   exact ⟨x',d',K4 (by unfold Gl; rw [if_neg (by simpa using ha)]; exact e),k⟩
 obtain ⟨x',d',e,k⟩:=J0 bG (IntKind.i64.wrap (1+v1),IntKind.i64.wrap (1+v2),IntKind.i64.wrap (1+v3),IntKind.i64.wrap (1+v4),v5,[]) (by simp)
 refine ⟨x',d',Tx ?_,k⟩
 unfold Ni
 rw [e1,J,e2,J,e3,J,e4,J,e5,J]
 exact e
theorem HY (d:HX) (h:La d):∃ x d',EV d=some (x,d')/\La d'/\x.2.2.2.2.2.length<=100:=by
 obtain ⟨x,d1,e1,k1,hx⟩:=Qt d h
 obtain ⟨v,d2,e2,k2,v0,v1⟩:=AK 20 d1 k1
 suffices g:∃ x' d',Gh d=some (x',d')/\La d'/\x'.2.2.2.2.2.length<=100 from by
  obtain ⟨x',d',e,k⟩:=g
  exact ⟨x',d',QF e,k⟩
 unfold Gh
 rw [e1,J,e2,J]
 dsimp only
 split
 ·obtain ⟨a,d3,e3,k3,_⟩:=CE [0,1,2,5,9] (by simp) d2 k2
  rw [e3,J]
  exact ⟨_,_,rfl,k3,hx⟩
 ·split
  ·obtain ⟨a,d3,e3,k3,_⟩:=CE [0,6,7] (by simp) d2 k2
   rw [e3,J]
   exact ⟨_,_,rfl,k3,hx⟩
  ·split
   ·obtain ⟨a,d3,e3,k3,_⟩:=CE [0,9,10] (by simp) d2 k2
    rw [e3,J]
    exact ⟨_,_,rfl,k3,hx⟩
   ·split
    ·obtain ⟨a,d3,e3,k3,_⟩:=CE [(-1),1000000000,1000000001] (by simp) d2 k2
     rw [e3,J]
     exact ⟨_,_,rfl,k3,hx⟩
    ·split
     ·obtain ⟨y,d3,e3,k3,hy⟩:=L7 d2 k2
      rw [e3,J]
      exact ⟨_,_,rfl,k3,hy⟩
     ·exact ⟨_,_,rfl,k2,hx⟩

theorem Zl {a b:Nat} (ha:a<4294967296) (hb:b<4294967296):CF .u32 (a:Int) (b:Int)=((a ^^^ b:Nat):Int):=by
 have e:∀ n:Nat,n<4294967296->(BitVec.ofInt (IntKind.bits .u32) (n:Int)).toNat=n:=fun n hn=>by
  simp only [BitVec.toNat_ofInt,IntKind.bits]
  omega
 have hx:a ^^^ b<4294967296:=Nat.xor_lt_two_pow (n:=32) ha hb
 unfold CF
 rw [BitVec.toNat_xor,e a ha,e b hb,TJ (by omega)]
theorem be {a b:Nat} (ha:a<256) (hb:b<256):CF .u8 (a:Int) (b:Int)=((a ^^^ b:Nat):Int):=by
 have e:∀ n:Nat,n<256->(BitVec.ofInt (IntKind.bits .u8) (n:Int)).toNat=n:=fun n hn=>by
  simp only [BitVec.toNat_ofInt,IntKind.bits]
  omega
 have hx:a ^^^ b<256:=Nat.xor_lt_two_pow (n:=8) ha hb
 unfold CF
 rw [BitVec.toNat_xor,e a ha,e b hb,RB (by omega)]
theorem LB (a b:Nat):(a ^^^ b) ^^^ b=a:=by rw [Nat.xor_assoc,Nat.xor_self,Nat.xor_zero]
def Vr (x:Nat):Nat:=if x % 2=1 then (x / 2) ^^^ 3558460437 else x / 2
theorem TV {x:Nat} (h:x<4294967296):J8 (x:Int)=(Vr x:Int):=by
 unfold J8 Vr
 by_cases e:x % 2=1
 ·rw [if_pos (by omega),if_pos e,<- Zl (by omega) (by omega)]
  congr 1
 ·rw [if_neg (by omega),if_neg e]
  omega
theorem Xd {x y:Nat} (hx:x<4294967296) (hy:y<4294967296) (h:Vr x=Vr y):x=y:=by
 have top:∀ a:Nat,a<2147483648->2147483648<=a ^^^ 3558460437:=fun a ha=>by
  have h1:(a ^^^ 3558460437).testBit 31=true:=by
   rw [Nat.testBit_xor,Nat.testBit_lt_two_pow (i:=31) ha]
   decide
  exact Nat.ge_two_pow_of_testBit h1
 unfold Vr at h
 split at h<;>split at h
 ·have:=congrArg (· ^^^ 3558460437) h
  simp only [LB] at this
  omega
 ·have:=top (x / 2) (by omega)
  omega
 ·have:=top (y / 2) (by omega)
  omega
 ·omega
theorem WR {x y:Int} (hx:0<=x/\x<4294967296) (hy:0<=y/\y<4294967296) (h:J8 x=J8 y):x=y:=by
 have ex:x=(x.toNat:Int):=by omega
 have ey:y=(y.toNat:Int):=by omega
 rw [ex,ey,TV (by omega),TV (by omega)] at h
 have:=Xd (x:=x.toNat) (y:=y.toNat) (by omega) (by omega) (by omega)
 omega
theorem M6:∀ (n:Nat) {x y:Int},0<=x/\x<4294967296->0<=y/\y<4294967296->E3 n x=E3 n y->x=y
 | 0,_,_,_,_,h=>h
 | n+1,_,_,hx,hy,h=>WR hx hy (M6 n (Qo hx) (Qo hy) h)
theorem Ze {x:Int} (hx:0<=x/\x<4294967296) (b:UInt8):CF .u32 x (b.toNat:Int)=((x.toNat ^^^ b.toNat:Nat):Int):=by
 have ex:x=(x.toNat:Int):=by omega
 have:=b.toNat_lt
 rw [ex,Zl (by omega) (by omega)]
 rfl
theorem Vs {x y:Int} (hx:0<=x/\x<4294967296) (hy:0<=y/\y<4294967296) {b:UInt8} (h:LY x b=LY y b):x=y:=by
 have h1:=M6 8 (J9 _ _) (J9 _ _) h
 rw [Ze hx,Ze hy] at h1
 have h2:(x.toNat ^^^ b.toNat) ^^^ b.toNat=(y.toNat ^^^ b.toNat) ^^^ b.toNat:=by rw [show x.toNat ^^^ b.toNat=y.toNat ^^^ b.toNat by omega]
 rw [LB,LB] at h2
 omega
theorem U6 {x:Int} (hx:0<=x/\x<4294967296) {b c:UInt8} (h:LY x b=LY x c):b=c:=by
 have h1:=M6 8 (J9 _ _) (J9 _ _) h
 rw [Ze hx,Ze hx] at h1
 have h2:(b.toNat ^^^ x.toNat) ^^^ x.toNat=(c.toNat ^^^ x.toNat) ^^^ x.toNat:=by rw [Nat.xor_comm b.toNat,Nat.xor_comm c.toNat,show x.toNat ^^^ b.toNat=x.toNat ^^^ c.toNat by omega]
 rw [LB,LB] at h2
 exact UInt8.toNat_inj.1 h2
theorem UN:∀ (l:List UInt8) {x y:Int},0<=x/\x<4294967296->0<=y/\y<4294967296->IR x l=IR y l->x=y
 | [],_,_,_,_,h=>h
 | b::l,x,y,hx,hy,h=>Vs hx hy (UN l (EO x b) (EO y b) h)
theorem UO:∀ (l:List UInt8) (i:Nat) {x:Int} (u:UInt8),0<=x/\x<4294967296->∀ h:i<l.length,IR x l=IR x (l.set i u)->l[i]=u
 | [],i,_,_,_,h,_=>by simp at h
 | b::l,0,x,u,hx,_,e=>U6 hx (UN l (EO x b) (EO x u) e)
 | b::l,i+1,x,u,hx,h,e=>by
  have h:i<l.length:=by simpa using h
  have:=UO l i u (EO x b) h e
  simpa using this
theorem Yh {a b:List UInt8} (h:FB a=FB b):IR 4294967295 a=IR 4294967295 b:=by
 have ha:=TL a (x:=4294967295) (by omega)
 have hb:=TL b (x:=4294967295) (by omega)
 have w:∀ n:Int,IntKind.u8.wrap n=n % 256:=fun _=>rfl
 have p1:(2:Int)^(min (24:Int).toNat (IntKind.bits .u32))=16777216:=by decide
 have p2:(2:Int)^(min (16:Int).toNat (IntKind.bits .u32))=65536:=by decide
 have p3:(2:Int)^(min (8:Int).toNat (IntKind.bits .u32))=256:=by decide
 simp only [FB,p1,p2,p3,w,List.cons.injEq,Int.fdiv_eq_ediv_of_nonneg _ (show (0:Int)<=16777216 by omega),Int.fdiv_eq_ediv_of_nonneg _ (show (0:Int)<=65536 by omega),Int.fdiv_eq_ediv_of_nonneg _ (show (0:Int)<=256 by omega)] at h
 omega
def LC (b:List UInt8):List UInt8:=(AC (FB b)).data.toList
theorem Qu (b:List UInt8):(LC b).length=4:=rfl
theorem Xe {a b:List UInt8} (h:LC a=LC b):FB a=FB b:=by
 refine Vl (UI a) (UI b) ?_
 apply ByteArray.ext
 apply Array.ext'
 exact h
theorem aV {b c:List UInt8} {i:Nat} {u:UInt8} (hi:i<(b++LC b).length) (hu:(b++LC b)[i]≠u) (h:(b++LC b).set i u=c++LC c):False:=by
 have hl:=congrArg List.length h
 simp only [List.length_set,List.length_append,Qu] at hl hi
 rw [List.set_append] at h
 split at h
 ·rename_i h1
  obtain ⟨e1,e2⟩:=List.append_inj h (by simp; omega)
  rw [List.getElem_append_left h1] at hu
  refine hu (UO b i u (x:=4294967295) (by omega) h1 ?_)
  rw [e1]
  exact Yh (Xe e2)
 ·rename_i h1
  obtain ⟨e1,e2⟩:=List.append_inj h (by omega)
  subst e1
  rw [List.getElem_append_right (by omega)] at hu
  apply hu
  have e3:(LC b)[i-b.length]? = ((LC b).set (i-b.length) u)[i-b.length]? := by rw [e2]
  rw [List.getElem?_set_self (by rw [Qu]; omega),List.getElem?_eq_getElem (by rw [Qu]; omega)] at e3
  exact Option.some.inj e3
theorem LD {n:Nat} (h:n<=1000000000):(Dn n).length<=5:=by
 have step:∀ n,(Dn n).length<=if n>127 then (Dn (n / 128)).length+1 else 1:=fun n=>by
  rw [Dn]
  split<;>simp
 have h0:=step n
 have h1:=step (n / 128)
 have h2:=step (n / 128 / 128)
 have h3:=step (n / 128 / 128 / 128)
 have h4:=step (n / 128 / 128 / 128 / 128)
 split at h0<;>split at h1<;>split at h2<;>split at h3<;>split at h4<;>omega
theorem Vt {x:U3} (h:WM x):(Dq x).length<=50:=by
 obtain ⟨h1,h2,h3,h4⟩:=h
 have a1:=LD (n:=x.1.size) (by omega)
 have a2:=LD (n:=x.2.1.size) (by omega)
 have a3:=LD (n:=x.2.2.toNat) (by omega)
 simp only [Dq,List.length_append,AR]
 omega
theorem RD:∀ (l:List U3),(∀ x∈l,WM x)->(l.flatMap Dq).length<=l.length*50
 | [],_=>by simp
 | x::l,h=>by
  have:=RD l fun y hy=>h y (List.mem_cons_of_mem _ hy)
  have:=Vt (h x (List.mem_cons_self ..))
  simp only [List.flatMap_cons,List.length_append,List.length_cons]
  omega
theorem OA {x:EC} (h:GQ x=true):∃ t,Al x=(t,true):=by
 have M:=Js.of h
 have h1:=RD _ M.i
 have h2:=M.l
 have h3:=M.n
 have a1:=LD (n:=x.2.2.2.2.1.toNat) (by omega)
 have a2:=LD (n:=x.2.2.2.2.2.length) (by omega)
 have hs:¬ (AC (DN x)).size>20000:=by
  rw [AX]
  simp only [DN,M3,List.length_append,List.length_cons,List.length_nil]
  omega
 unfold Al FC
 rw [if_pos h,if_neg hs]
 exact ⟨_,rfl⟩
theorem Lb (x:EC):(Al x).1.size<=20004:=by
 have hz:ByteArray.empty.size<=20004:=by decide
 unfold Al FC
 split
 ·split
  ·exact hz
  ·rename_i h
   have:=(IU (b:=AC (DN x)) (by omega)).1
   show (AC (DN x)++AC (FB (AC (DN x)).data.toList)).size<=20004
   omega
 ·exact hz
theorem Vu {x:EC} (h:GQ x=true):(Al x).2=true:=by
 obtain ⟨t,ht⟩:=OA h
 rw [ht]
theorem Vv (x:EC):(Al x).2=GQ x:=by
 cases h:GQ x with
 | true=>exact Vu h
 | false=>unfold Al; rw [if_neg (by rw [h]; simp)]
theorem IX (d:HX) (h:La d):∃ b d',Fu 1 d=some (b,d')/\La d'/\b.size=1:=by
 obtain ⟨v,d1,e1,k1,_⟩:=Bm d h
 refine ⟨AC [IntKind.u8.wrap v],d1,TC ?_,k1,rfl⟩
 unfold Mu
 rw [if_neg (by simp)]
 refine Jc ?_
 unfold GD
 rw [if_pos (by simp),e1,J,if_pos (by simp),AN (by omega)]
 refine Jc ?_
 unfold GD
 rw [if_neg (by simp)]
 rfl
theorem UP (x:ByteArray) (b:Bool) (hx:x.size<=1048576) (d:HX) (h:La d):∃ y d',DP x b d=some (y,d')/\La d'/\y.size<=x.size+1:=by
 suffices g:∃ y d',Eg x b d=some (y,d')/\La d'/\y.size<=x.size+1 from g.imp fun y g=>g.imp fun d' g=>⟨NQ g.1,g.2⟩
 unfold Eg
 cases b with
 | false=>exact ⟨_,_,by rw [if_neg (by simp)],h,by omega⟩
 | true =>
  rw [if_pos rfl]
  by_cases h0:0<x.size
  ·obtain ⟨v,d1,e1,k1,v0,v1⟩:=AK (x.size:Int) d h
   have v1:=v1 (by omega)
   obtain ⟨s,d2,e2,k2,hs⟩:=IX d1 k1
   have w:IntKind.i64.wrap (v+1)=v+1:=AN (by omega)
   have a1:(x.extract (0:Int).toNat v.toNat).size=v.toNat:=by rw [Do (by omega)]; simp
   have a2:(x.extract (v+1).toNat (x.size:Int).toNat).size=x.size-(v+1).toNat:=by rw [BN,Do (by omega)]
   rw [if_pos (by simpa using h0),e1,J]
   simp only [w]
   rw [if_pos (by omega),if_pos (by omega),if_pos (by omega),if_pos (by omega),if_pos (by omega),if_pos (by omega),e2,J,if_pos (by simp only [a1,hs]; omega),if_pos (by rw [ByteArray.size_append,a1,a2]; simp only [hs]; omega)]
   refine ⟨_,_,rfl,k2,?_⟩
   rw [ByteArray.size_append,ByteArray.size_append,a1,a2]
   simp only [hs]
   omega
  ·rw [if_neg (by simpa using h0)]
   exact ⟨_,_,rfl,h,by omega⟩
theorem HZ (x:ByteArray) (hx:x.size<=1048576) (d:HX) (h:La d):∃ y d',EW x d=some (y,d')/\La d'/\y.size<=x.size+1:=by
 suffices g:∃ y d',Gj x d=some (y,d')/\La d'/\y.size<=x.size+1 from g.imp fun y g=>g.imp fun d' g=>⟨QL g.1,g.2⟩
 unfold Gj
 obtain ⟨v,d1,e1,k1,v0,v1⟩:=AK 12 d h
 rw [e1,J]
 dsimp only
 by_cases c0:v=0
 ·obtain ⟨s,d2,e2,k2,hs⟩:=IX d1 k1
  rw [if_pos (by simpa using c0),e2,J,if_pos (by simp only [hs]; omega)]
  exact ⟨_,_,rfl,k2,by rw [ByteArray.size_append]; simp only [hs]; omega⟩
 rw [if_neg (by simpa using c0)]
 by_cases c1:v=1
 ·have w:IntKind.i64.wrap ((x.size:Int)+1)=(x.size:Int)+1:=AN (by omega)
  obtain ⟨n,d2,e2,k2,n0,n1⟩:=AK ((x.size:Int)+1) d1 k1
  have n1:=n1 (by omega)
  rw [if_pos (by simpa using c1),w,e2,J,if_pos (by omega),if_pos (by omega),if_pos (by omega)]
  exact ⟨_,_,rfl,k2,by rw [Do (by omega)]; omega⟩
 rw [if_neg (by simpa using c1)]
 by_cases c2:v=2
 ·rw [if_pos (by simpa using c2)]
  exact UP x _ hx d1 k1
 ·rw [if_neg (by simpa using c2)]
  exact UP x _ hx d1 k1
theorem L8 (x:List Int) (hx:x.length<=maxLen):∃ m,E6 x=some m/\m.2.2.2.2.2.length<=100:=by
 obtain ⟨d,e,k⟩:=Gt x hx
 obtain ⟨m,d1,e1,k1,hl⟩:=HY d k
 exact ⟨m,N2 (by unfold IJ; rw [e,J,e1,J]),hl⟩
theorem Xf {x s:ByteArray} {ok:Bool} (hx:x.size<=1048576) (h:Cy x=some (s,ok)):s.size<=20000:=by
 suffices g:∃ s' ok',Cz x=some (s',ok')/\s'.size<=20000 from by
  obtain ⟨s',ok',e,hs⟩:=g
  have:=HO e
  rw [h] at this
  cases this
  exact hs
 have hz:(⟨#[]⟩:ByteArray).size<=20000:=by decide
 unfold Cz
 have w:IntKind.i64.wrap ((x.size:Int)-4)=(x.size:Int)-4:=AN (by omega)
 simp only [w]
 by_cases h1:(x.size:Int)-4<0
 ·exact ⟨_,_,by rw [if_pos (by simpa using h1)],hz⟩
 ·rw [if_neg (by simpa using h1)]
  by_cases h2:(x.size:Int)-4>20000
  ·exact ⟨_,_,by rw [if_pos (by simpa using h2)],hz⟩
  ·have hs:(x.extract (0:Int).toNat ((x.size:Int)-4).toNat).size=x.size-4:=by rw [Do (by omega)]; simp; omega
   rw [if_neg (by simpa using h2),if_pos (by omega),if_pos (by omega),if_pos (by omega),if_pos (by omega),if_pos (by omega),if_pos (by omega)]
   have hf:=GT (b:=x.extract (0:Int).toNat ((x.size:Int)-4).toNat) (by omega)
   cases h3:Ca (x.extract (0:Int).toNat ((x.size:Int)-4).toNat) with
   | none=>rw [h3] at hf; cases hf
   | some y =>
    rw [h3,J] at hf
    rw [J,hf,J]
    split
    ·exact ⟨_,_,rfl,hz⟩
    ·exact ⟨_,_,by rw [if_pos (by omega),if_pos (by omega),if_pos (by omega)],by omega⟩
theorem Vw (b:ByteArray):(FC b).1.size<=20004:=by
 have hz:ByteArray.empty.size<=20004:=by decide
 unfold FC
 split
 ·exact hz
 ·have:=(IU (b:=b) (by omega)).1
  show (b++AC (FB b.data.toList)).size<=20004
  omega
theorem L9 (x:List Int) (hx:x.length<=maxLen):∃ t,E7 x=some t/\t.size<=1048576:=by
 suffices g:∃ t,E9 x=some t/\t.size<=1048576 from g.imp fun t g=>⟨N5 g.1,g.2⟩
 obtain ⟨d,e,k⟩:=Gt x hx
 obtain ⟨m,d1,e1,k1,hl⟩:=HY d k
 have hl2:m.2.2.2.2.2.length<=maxLen:=Nat.le_trans hl (by decide)
 obtain ⟨v,d2,e2,k2,v0,v1⟩:=AK 6 d1 k1
 have hsz:=Lb m
 unfold E9
 rw [e,J,e1,J,Jt m hl2,J,e2,J]
 dsimp only
 by_cases c0:v=0
 ·obtain ⟨y,d3,e3,k3,hy⟩:=HZ (Al m).1 (by omega) d2 k2
  rw [if_pos (by simpa using c0),e3,J]
  exact ⟨_,rfl,by show y.size<=_; omega⟩
 rw [if_neg (by simpa using c0)]
 by_cases c1:v=1
 ·obtain ⟨s,ok,e3,_⟩:=Wx (x:=(Al m).1) (by omega)
  have hs:=Xf (by omega) e3
  rw [if_pos (by simpa using c1),e3,J]
  cases ok with
  | true =>
   obtain ⟨y,d4,e4,k4,hy⟩:=HZ s (by omega) d2 k2
   rw [if_pos rfl,e4,J,LA (by show y.size<_; omega),J]
   exact ⟨_,rfl,Nat.le_trans (Vw y) (by omega)⟩
  | false =>
   rw [if_neg (by simp)]
   exact ⟨_,rfl,by omega⟩
 ·rw [if_neg (by simpa using c1)]
  exact ⟨_,rfl,by omega⟩
theorem M7 (x:List Int) (hx:x.length<=maxLen):∃ l,Fp x=some l/\l.length=12/\∀ y∈l,0<=y:=by
 obtain ⟨d,e,k⟩:=Gt x hx
 obtain ⟨v,d1,e1,k1,_⟩:=Bm d k
 have key:=IY (n:=12) (P:=fun i=>∀ (d:HX) (l:List Int),La d->l.length=i->(∀ y∈l,0<=y)->∃ r,DA (i:Int) d l=some r/\r.length=12/\∀ y∈r,0<=y)
  (fun d l hd hl hp=>⟨l,HG (by unfold EN; rw [if_neg (by simp)]),hl,hp⟩)
  (fun i hi ih d l hd hl hp=>by
   obtain ⟨v,d1,e1,k1,v0,v1⟩:=AK 10000 d hd
   obtain ⟨r,er,hr⟩:=ih d1 (l++[v]) k1 (by simp [hl]) (fun y hy=>by
    rcases Ck.1 hy with hy | hy
    ·exact hp y hy
    ·rw [IZ.1 hy]; exact v0)
   refine ⟨r,HG ?_,hr⟩
   unfold EN
   rw [if_pos (by simp; omega),e1,J,if_pos (by simp; omega),Af (by omega)]
   exact er) 0 (by omega) d1 [] k1 rfl (by simp)
 obtain ⟨r,er,hr⟩:=key
 exact ⟨r,Oz (by unfold JP; rw [e,J,e1,J]; exact er),hr⟩
theorem Zf {a:Nat} {y:Int} (ha:a<256) (hy:0<=y):∃ c:Nat,c<256/\c≠a/\CF .u8 (a:Int) (IntKind.u8.wrap (IntKind.i64.wrap (1+Int.tmod y 255)))=(c:Int):=by
 have h0:=Int.tmod_nonneg 255 hy
 have h1:=Int.tmod_lt_of_pos y (show (0:Int)<255 by omega)
 rw [AN (by omega),RB (by omega)]
 have e:1+Int.tmod y 255=((1+(Int.tmod y 255).toNat:Nat):Int):=by omega
 rw [e,be ha (by omega)]
 refine ⟨_,Nat.xor_lt_two_pow (n:=8) ha (by omega),fun h=>?_,rfl⟩
 have h2:(a ^^^ (1+(Int.tmod y 255).toNat)) ^^^ a=a ^^^ a:=by rw [h]
 rw [Nat.xor_comm a,LB,Nat.xor_self] at h2
 omega
theorem TW {m:EC} {text:ByteArray} (h:Al m=(text,true)) {i c:Nat} (hi:i<text.size) (hc:c<256) (hne:c≠(text.data.toList.getD i 0).toNat):∃ r,BT (AC ((AG text).set i (c:Int)))=some r/\r.2=false:=by
 obtain ⟨M,hs,ht⟩:=Gs h
 have hsz:text.size<=20004:=by have:=Lb m; rw [h] at this; exact this
 have hl:(AC ((AG text).set i (c:Int))).size=text.size:=by rw [AX,List.length_set,AR]
 obtain ⟨r,e,o⟩:=Qs (text:=AC ((AG text).set i (c:Int))) (by omega)
 refine ⟨r,e,?_⟩
 rcases o with rfl | ⟨m2,rfl,h2⟩
 ·rfl
 ·exfalso
  obtain ⟨_,_,ht2⟩:=Gs h2
  have e1:(AC ((AG text).set i (c:Int))).data.toList=text.data.toList.set i (UInt8.ofNat c):=by
   have:(AC ((AG text).set i (c:Int))).data.toList=((AG text).set i (c:Int)).map fun n=>UInt8.ofNat n.toNat:=rfl
   rw [this,List.map_set]
   have h3:=congrArg (fun b:ByteArray=>b.data.toList) (GR text)
   have h4:(AG text).map (fun n=>UInt8.ofNat n.toNat)=text.data.toList:=h3
   rw [h4,BN]
  have e2:text.data.toList=(AC (DN m)).data.toList++LC (AC (DN m)).data.toList:=by
   have:=congrArg (fun b:ByteArray=>b.data.toList) ht
   simpa [ByteArray.data_append,LC] using this
  have e3:text.data.toList.set i (UInt8.ofNat c)=(AC (DN m2)).data.toList++LC (AC (DN m2)).data.toList:=by
   rw [<- e1]
   have:=congrArg (fun b:ByteArray=>b.data.toList) ht2
   simpa [ByteArray.data_append,LC] using this
  have hi2:i<text.data.toList.length:=by simpa using hi
  have e4:text.data.toList[i]≠UInt8.ofNat c:=fun h5=>by
   rw [D9 hi2,h5] at hne
   simp [UInt8.toNat_ofNat',Nat.mod_eq_of_lt hc] at hne
  rw [e2] at e3
  exact aV (by rw [<- e2]; exact hi2) (by simpa only [<- e2] using e4) e3
theorem WS (x) (hx:Kd.ok (.slice (.int .u8)) x):NZ x=some true:=Tq (by
 unfold Na
 rw [show N1 x=some (decide ((x.length:Int)>(1048576:Int))) from WJ rfl,J]
 by_cases hb:(x.length:Int)>1048576
 ·rw [if_pos (by simpa using hb)]
 ·rw [if_neg (by simpa using hb)]
  have hxm:x.length<=maxLen:=hx.1
  obtain ⟨m,e1,hl⟩:=L8 x hxm
  have hl2:m.2.2.2.2.2.length<=maxLen:=Nat.le_trans hl (by decide)
  obtain ⟨t,e5,ht⟩:=L9 x hxm
  obtain ⟨r,e6,e7,hrl,ho⟩:=Xc (text:=t) ht
  have hrl2:r.1.2.2.2.2.2.length<=maxLen:=Nat.le_trans hrl (by decide)
  obtain ⟨l,e8,hll,hlp⟩:=M7 x hxm
  have rd:∃ r0,BT (Al m).1=some r0:=by
   obtain ⟨r0,h,_⟩:=Qs (text:=(Al m).1) (by have:=Lb m; omega)
   exact ⟨r0,h⟩
  have J2:GQ m=true->∀ a2 a3 a4 a5 a6 a7 a8 a9 a10 a11 a12 a13,Gg x (Al m).1 a2 a3 a4 a5 a6 a7 a8 a9 a10 a11 a12 a13=some true:=fun hm a2 a3 a4 a5 a6 a7 a8 a9 a10 a11 a12 a13=>Py (by
   obtain ⟨text,htext⟩:=OA hm
   have hsz:4<=text.size:=by
    obtain ⟨_,hs,hp⟩:=Gs htext
    rw [hp,(IU hs).1]
    omega
   unfold Ko
   rw [e8,J,show (Al m).1=text by rw [htext],AR]
   have p0:0<=l.getD (0:Int).toNat 0:=by
    rw [D9 (by rw [hll]; decide)]
    exact hlp _ (FP _)
   have p1:0<=l.getD (1:Int).toNat 0:=by
    rw [D9 (by rw [hll]; decide)]
    exact hlp _ (FP _)
   generalize l.getD (0:Int).toNat 0=y0 at p0 ⊢
   generalize l.getD (1:Int).toNat 0=y1 at p1 ⊢
   have t0:=Int.tmod_nonneg (text.size:Int) p0
   have t1:=Int.tmod_lt_of_pos y0 (show (0:Int)<(text.size:Int) by omega)
   rw [if_pos (by omega),if_pos (by omega),if_neg (by omega),if_pos t0,if_pos t1,if_pos (by omega),if_pos (by omega),if_neg (by omega),if_pos t0,if_pos t1]
   generalize hn:(Int.tmod y0 (text.size:Int)).toNat=n
   have hn2:n<text.size:=by
    rw [<- hn]
    omega
   have eb:(AG text).getD n 0=((text.data.toList.getD n 0).toNat:Int):=by
    rw [D9 (by rw [AR]; exact hn2),Rn hn2]
    simp [AG]
   obtain ⟨c,hc,hne,ec⟩:=Zf (a:=(text.data.toList.getD n 0).toNat) (y:=y1) (text.data.toList.getD n 0).toNat_lt p1
   rw [eb,ec]
   obtain ⟨r2,e9,h9⟩:=TW htext hn2 hc hne
   show ((BT (AC ((AG text).set n (c:Int)))).bind fun y14=>(some (!y14.2)))=some true
   rw [e9,J,h9]
   rfl)
  have J1:∀ (b:Bool),(GQ m=b)->∀ a5 a7 a8 a9 a10 a11 a12 a13,(r.2=true->a5=t)->Ci x (Al m).1 t r.2 r.2 a5 (!b) a7 a8 a9 a10 a11 a12 a13=some true:=fun b hm a5 a7 a8 a9 a10 a11 a12 a13 h5=>Pz (by
   unfold Kp
   cases b with
   | true =>
    rw [if_neg (by simp)]
    exact J2 hm ..
   | false =>
    rw [if_pos (by simp),if_pos (by simp [PT])]
    cases h2:r.2 with
    | true=>rw [if_pos (by simp),h5 h2]; simp
    | false=>rw [if_neg (by simp)])
  have J0:∀ a3 a5 a6,EX x (Al m).1 (GQ m) a3 m a5 a6=some true:=fun a3 a5 a6=>P0 (by
   unfold Kq
   rw [e5,J,e6,J,e7,J,GU r.1 hrl2,J,if_pos (by simp [PT])]
   have h5:r.2=true->(Al r.1).1=t:=fun h=>by
    rcases ho with rfl | ⟨m2,rfl,h2⟩
    ·cases h
    ·rw [h2]
   cases h2:r.2 with
   | true =>
    have h5:=h5 h2
    rw [if_pos rfl,if_pos (by rw [h5]; simp)]
    have:=J1 (GQ m) rfl (Al r.1).1 m a5 a6 r.1.2.2.2.2.2 r.1 r.1.2.2.2.2.2 r.1 (fun _=>h5)
    rw [h2] at this
    exact this
   | false =>
    rw [if_neg (by simp)]
    have:=J1 (GQ m) rfl (Al r.1).1 m a5 a6 r.1.2.2.2.2.2 r.1 r.1.2.2.2.2.2 r.1 h5
    rw [h2] at this
    exact this)
  rw [e1,J,GU m hl2,J]
  obtain ⟨r0,er0⟩:=rd
  rw [er0,J,L2 m hl2,J,Vv,if_pos (by simp [PT]),L4 m hl2,J,if_pos (by simp [PT])]
  cases hm:GQ m with
  | false =>
   rw [if_neg (by simp)]
   have:=J0 false r0.1.2.2.2.2.2 r0.1
   rw [hm] at this
   exact this
  | true =>
   obtain ⟨text,htext⟩:=OA hm
   have h3:=Vp htext
   have h4:r0=(m,true):=by
    rw [htext] at er0
    rw [h3] at er0
    cases er0
    rfl
   subst h4
   rw [if_pos rfl,if_pos (by simp),if_pos (by simp),if_pos (by simp),if_pos (by simp),if_pos (by simp),if_pos (by simp),L6 _ hl2,J,if_neg (by simp)]
   have:=J0 (!true) m.2.2.2.2.2 m
   rw [hm] at this
   exact this)

theorem Yi {P:Program} {c:List Char} {rest:List (List Char)} (h:behindMainWord (wordsSigns P.initOrder.toList)=c::rest) (h1:(c == "gc".toList||c == "spec".toList)=false) (h2:(c == "cut".toList||(c == "finals".toList&&rest.head? == some "cut".toList))=true):P.make=some .cut:=by
 unfold Program.make
 rw [h]
 simp only [h1,h2]
 rfl
theorem Yj {P:Program} {c:List Char} {rest:List (List Char)} (h:behindMainWord (wordsSigns P.initOrder.toList)=c::rest) (h1:((stripLifts liftWords (c::rest)).2.head? == some "cut".toList)=true) (h2:(stripLifts liftWords (c::rest)).1=[])
  (h3:P.laysLater=false) (h4:P.bearsReflect=false) (h5:P.doorFits []=true):P.mayEnter=true:=by
 unfold Program.mayEnter
 rw [h]
 simp only [h1,h2,h3,h4,h5]
 simp
theorem Yk {P:Program} {c:List Char} {rest:List (List Char)} (h:behindMainWord (wordsSigns P.initOrder.toList)=c::rest) (h1:(c == "carried".toList)=false) (h2:(stripLifts liftWords (c::rest)).1=[]):P.liftsFinal=false:=by
 have e:(some c==some "carried".toList)=false:=h1
 unfold Program.liftsFinal Program.headLifts
 rw [h]
 simp only [List.head?_cons,e,h2]
 simp
theorem FD {a b:Bool} (h:a=true) (g:b=true):(a&&b)=true:=by rw [h,g]; rfl
theorem Yl {α:Type} [BEq α] [LawfulBEq α] {a b:α} (h:a=b):(a==b)=true:=by rw [h]; exact beq_self_eq_true b
end Go.Proofs.Ytffahmnodgnohaa.Core

namespace Go.Proofs.Ytffahmnodgnohaa.Core
open Go
set_option maxRecDepth 100000
def bp:List Nat:=[104,97,114,110,101,115,115,32,57,52,51,54,48,100,51,54,48,102,97,48,51,101,55,56,99,49,99,55,102,52,101,50,52,51,100,50,100,97,57,53,55,57,52,98,57,49,49,99,102,51,55,51,101,101,49,49,101,100,97,49,52,100,97,99,49,98,51,56,98,51,55,99,32,99,117,116,32,97,116,32,108,111,111,112,46,101,120,97,109,112,108,101,47,103,48,48,49,56,48,47,108,97,119,115,46,70,110,69,120,97,99,116,77,115,103,84,101,120,116,32,108,111,111,112,46,101,120,97,109,112,108,101,47,103,48,48,49,56,48,47,108,97,119,115,46,70,110,69,120,97,99,116,82,101,97,100,77,115,103,32,108,111,111,112,46,101,120,97,109,112,108,101,47,103,48,48,49,56,48,47,108,97,119,115,46,70,110,77,115,103,115,32,108,111,111,112,46,101,120,97,109,112,108,101,47,103,48,48,49,56,48,47,108,97,119,115,46,70,110,69,120,97,99,116,77,101,109,98,101,114,78,101,119,32,108,111,111,112,46,101,120,97,109,112,108,101,47,103,48,48,49,56,48,47,108,97,119,115,46,70,110,69,120,97,99,116,67,111,117,110,99,105,108,78,101,119,32,108,111,111,112,46,101,120,97,109,112,108,101,47,103,48,48,49,56,48,47,108,97,119,115,46,70,110,69,120,97,99,116,71,114,111,117,112,78,101,119,32,108,111,111,112,46,101,120,97,109,112,108,101,47,103,48,48,49,56,48,47,108,97,119,115,46,70,110,65,108,111,110,101,49,50,32,108,111,111,112,46,101,120,97,109,112,108,101,47,103,48,48,49,56,48,47,108,97,119,115,46,70,110,67,104,111,115,101,110,32,108,111,111,112,46,101,120,97,109,112,108,101,47,103,48,48,49,56,48,47,108,97,119,115,46,70,110,68,101,99,105,100,101,115]
def bz:List Nat:=[99,117,116]
def b7:List (List Nat):=[[97,116],[108,111,111,112,46,101,120,97,109,112,108,101,47,103,48,48,49,56,48,47,108,97,119,115,46,70,110,69,120,97,99,116,77,115,103,84,101,120,116],[108,111,111,112,46,101,120,97,109,112,108,101,47,103,48,48,49,56,48,47,108,97,119,115,46,70,110,69,120,97,99,116,82,101,97,100,77,115,103],[108,111,111,112,46,101,120,97,109,112,108,101,47,103,48,48,49,56,48,47,108,97,119,115,46,70,110,77,115,103,115],[108,111,111,112,46,101,120,97,109,112,108,101,47,103,48,48,49,56,48,47,108,97,119,115,46,70,110,69,120,97,99,116,77,101,109,98,101,114,78,101,119],[108,111,111,112,46,101,120,97,109,112,108,101,47,103,48,48,49,56,48,47,108,97,119,115,46,70,110,69,120,97,99,116,67,111,117,110,99,105,108,78,101,119],[108,111,111,112,46,101,120,97,109,112,108,101,47,103,48,48,49,56,48,47,108,97,119,115,46,70,110,69,120,97,99,116,71,114,111,117,112,78,101,119],[108,111,111,112,46,101,120,97,109,112,108,101,47,103,48,48,49,56,48,47,108,97,119,115,46,70,110,65,108,111,110,101,49,50],[108,111,111,112,46,101,120,97,109,112,108,101,47,103,48,48,49,56,48,47,108,97,119,115,46,70,110,67,104,111,115,101,110],[108,111,111,112,46,101,120,97,109,112,108,101,47,103,48,48,49,56,48,47,108,97,119,115,46,70,110,68,101,99,105,100,101,115]]
theorem io:Try.prog.initOrder.toList=bp.map Char.ofNat:=(congrArg String.toList (show Try.prog.initOrder=String.ofList (bp.map Char.ofNat) from by kernel_rfl)).trans String.toList_ofList
theorem bf:behindMainWord (wordsSigns Try.prog.initOrder.toList)=bz.map Char.ofNat::b7.map fun w=>w.map Char.ofNat:=by
 rw [io]
 kernel_rfl
theorem bg:Try.prog.make=some .cut:=Yi bf (by kernel_rfl) (by kernel_rfl)
theorem enters:Try.prog.mayEnter=true:=Yj bf (by kernel_rfl) (by kernel_rfl) (by kernel_rfl) (by kernel_rfl) (by kernel_rfl)
theorem Zg:Try.prog.liftsFinal=false:=Yk bf (by kernel_rfl) (by kernel_rfl)
theorem Vx:laidOutB Try.prog=true:=by kernel_rfl
theorem WT:mapsRowed Try.prog=true:=by kernel_rfl
theorem aW:Try.prog.stopsHeard=true:=by kernel_rfl
end Go.Proofs.Ytffahmnodgnohaa.Core
