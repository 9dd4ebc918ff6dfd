/- Texts of the proof, packed: part 5. -/
import Derived.Test.YtokiohnjegbnpaaGreatP3
set_option linter.unusedVariables false
set_option linter.unusedSimpArgs false
namespace Go.Proofs.YtokiohnjegbnpaaGreat.Core
open Go
abbrev AAH:Type:=Int×Int×Int×(ByteArray×ByteArray×Int)×List Int
abbrev AC:Type:=Int×Int×Bool×Bool×Bool×Bool×List Int×List (ByteArray×ByteArray×Int)×Int×AAH
def F4 (v:List Int) (i:Nat):Nat->Bool
 | 0=>true
 | k+1=>(decide (1<=v.getD i 0)&&decide (v.getD i 0<=6))&&(decide (i=0)||decide (v.getD (i-1) 0<v.getD i 0))&&F4 v (i+1) k
theorem Wu (x:List Int) (h:x.length<=maxLen):DQ x=some (F4 x 0 x.length):=vC (by
 have hm:x.length<=9223372036854775807:=h
 unfold fh
 have:=Ee (n:=x.length) (P:=fun i=>Ha x (i:Int)=some (F4 x i (x.length-i))) (Wo (by
  unfold Oj
  rw [if_neg (by simp),Nat.sub_self]
  rfl)) (fun i hi ih=>Wo (by
  unfold Oj
  have e:x.length-i=(x.length-(i+1))+1:=by omega
  simp only [show ((i:Int)<(x.length:Int)) from by omega,decide_true,if_true,show (0:Int)<=(i:Int) from by omega,Int.toNat_natCast,AK (show i<9223372036854775807 by omega),ih,At,X]
  rw [e,F4]
  generalize (decide (1<=x.getD i 0)&&decide (x.getD i 0<=6))=a
  cases a
  ·simp
  by_cases h0:0<i
  ·rw [eD (by omega) h0]
   simp only [Int.toNat_natCast,show ((0:Int)<=((i-1:Nat):Int)) from by omega,show (((i-1:Nat):Int)<(x.length:Int)) from by omega,if_true]
   rcases Int.lt_or_le (x.getD (i-1) 0) (x.getD i 0) with hb | hb
   ·have d1:decide (x.getD (i-1) 0>=x.getD i 0)=false:=decide_eq_false (by omega)
    have d2:decide (x.getD (i-1) 0<x.getD i 0)=true:=decide_eq_true hb
    simp only [d1,d2]
    simp [h0,show i≠0 by omega]
   ·have d1:decide (x.getD (i-1) 0>=x.getD i 0)=true:=decide_eq_true (by omega)
    have d2:decide (x.getD (i-1) 0<x.getD i 0)=false:=decide_eq_false (by omega)
    simp only [d1,d2]
    simp [h0,show i≠0 by omega]
  ·have:i=0:=by omega
   subst this
   simp)) 0 (by omega)
 simpa using this)
theorem N8 (x:List Int) (h:x.length<=maxLen):Ht x 1 6=some (F4 x 0 x.length):=g8 (by
 have hm:x.length<=9223372036854775807:=h
 unfold Su
 have:=Ee (n:=x.length) (P:=fun i=>Dz x 1 6 x (x.length:Int) (i:Int)=some (F4 x i (x.length-i))) (Nw (by
  unfold If
  rw [if_neg (by simp),Nat.sub_self]
  rfl)) (fun i hi ih=>Nw (by
  unfold If
  have e:x.length-i=(x.length-(i+1))+1:=by omega
  simp only [show ((i:Int)<(x.length:Int)) from by omega,decide_true,if_true,show (0:Int)<=(i:Int) from by omega,Int.toNat_natCast,AK (show i<9223372036854775807 by omega),ih,Ar,X]
  rw [e,F4]
  generalize (decide (1<=x.getD i 0)&&decide (x.getD i 0<=6))=a
  cases a
  ·simp
  by_cases h0:0<i
  ·rw [eD (by omega) h0]
   simp only [Int.toNat_natCast,show ((0:Int)<=((i-1:Nat):Int)) from by omega,show (((i-1:Nat):Int)<(x.length:Int)) from by omega,if_true]
   rcases Int.lt_or_le (x.getD (i-1) 0) (x.getD i 0) with hb | hb
   ·have d1:decide (x.getD i 0<=x.getD (i-1) 0)=false:=decide_eq_false (by omega)
    have d2:decide (x.getD (i-1) 0<x.getD i 0)=true:=decide_eq_true hb
    simp only [d1,d2]
    simp [h0,show i≠0 by omega]
   ·have d1:decide (x.getD i 0<=x.getD (i-1) 0)=true:=decide_eq_true (by omega)
    have d2:decide (x.getD (i-1) 0<x.getD i 0)=false:=decide_eq_false (by omega)
    simp only [d1,d2]
    simp [h0,show i≠0 by omega]
  ·have:i=0:=by omega
   subst this
   simp)) 0 (by omega)
 simpa using this)
def KS (t:AAH):Bool:=(t.1==0)&&(t.2.1==0)&&(t.2.2.1==0)&&Ph (.pair .str (.pair .str (.int .i64))) t.2.2.2.1 (ByteArray.empty,ByteArray.empty,(0:Int))&&((t.2.2.2.2.length:Int)==0)
def F5 (t:AAH) (serves:Bool):Bool:=(t.1==1||t.1==2)&&serves&&(decide (0<=t.2.1)&&decide (t.2.1<=1000))&&(decide (1<=t.2.2.1)&&decide (t.2.2.1<=900))
def Ww (x:AC):Bool :=
 (decide (1<=x.1)&&decide (x.1<=6))&&(decide (1<=x.2.1)&&decide (x.2.1<=9))&&(!x.2.2.2.2.2.1||(x.2.2.2.1&&x.2.2.2.2.1&&!decide ((x.2.2.2.2.2.2.1.length:Int)>0)))&&(!x.2.2.1||(!x.2.2.2.1&&!x.2.2.2.2.1)) &&
  F4 x.2.2.2.2.2.2.1 0 x.2.2.2.2.2.2.1.length&&F4 x.2.2.2.2.2.2.2.2.2.2.2.2.2 0 x.2.2.2.2.2.2.2.2.2.2.2.2.2.length&&B_ x.2.2.2.2.2.2.2.1 0 x.2.2.2.2.2.2.2.1.length&&(decide (0<=x.2.2.2.2.2.2.2.2.1)&&decide (x.2.2.2.2.2.2.2.2.1<=900)) &&
  (KS x.2.2.2.2.2.2.2.2.2||F5 x.2.2.2.2.2.2.2.2.2 x.2.2.2.2.2.1)
theorem fG (t:AAH):ON t=some (KS t):=nU (by
 unfold Wp KS
 generalize (t.1==0)=a
 generalize (t.2.1==0)=b
 generalize (t.2.2.1==0)=c
 generalize Ph (.pair .str (.pair .str (.int .i64))) t.2.2.2.1 (ByteArray.empty,ByteArray.empty,(0:Int))=d
 cases a<;>cases b<;>cases c<;>cases d<;>simp)
theorem iH (x:AC) (h1:x.2.2.2.2.2.2.1.length<=maxLen) (h2:x.2.2.2.2.2.2.2.1.length<=maxLen) (h3:x.2.2.2.2.2.2.2.2.2.2.2.2.2.length<=maxLen):GK x=some (Ww x):=qB (by
 have w0:∀ b,D9 b x=some (KS x.2.2.2.2.2.2.2.2.2||F5 x.2.2.2.2.2.2.2.2.2 x.2.2.2.2.2.1):=fun b=>iC (by
  unfold S5 F5
  simp only [At,fG,X]
  generalize KS x.2.2.2.2.2.2.2.2.2=a
  generalize (x.2.2.2.2.2.2.2.2.2.1==1)=b
  generalize (x.2.2.2.2.2.2.2.2.2.1==2)=c
  generalize x.2.2.2.2.2.1=d
  generalize (decide (0<=x.2.2.2.2.2.2.2.2.2.2.1)&&decide (x.2.2.2.2.2.2.2.2.2.2.1<=1000))=e
  generalize (decide (1<=x.2.2.2.2.2.2.2.2.2.2.2.1)&&decide (x.2.2.2.2.2.2.2.2.2.2.2.1<=900))=f
  cases a<;>cases b<;>cases c<;>cases d<;>cases e<;>simp)
 unfold aJ Ww
 simp only [At,Wu _ h1,Wu _ h3,I9 _ h2,X,w0]
 generalize (decide (1<=x.1)&&decide (x.1<=6))=a
 generalize (decide (1<=x.2.1)&&decide (x.2.1<=9))=b
 generalize decide ((x.2.2.2.2.2.2.1.length:Int)>0)=c
 generalize F4 x.2.2.2.2.2.2.1 0 x.2.2.2.2.2.2.1.length=d
 generalize F4 x.2.2.2.2.2.2.2.2.2.2.2.2.2 0 x.2.2.2.2.2.2.2.2.2.2.2.2.2.length=e
 generalize B_ x.2.2.2.2.2.2.2.1 0 x.2.2.2.2.2.2.2.1.length=f
 generalize (decide (0<=x.2.2.2.2.2.2.2.2.1)&&decide (x.2.2.2.2.2.2.2.2.1<=900))=g
 generalize (KS x.2.2.2.2.2.2.2.2.2||F5 x.2.2.2.2.2.2.2.2.2 x.2.2.2.2.2.1)=t
 generalize x.2.2.2.2.2.1=s
 generalize x.2.2.2.2.1=l
 generalize x.2.2.2.1=m
 generalize x.2.2.1=n
 cases a
 ·simp
 cases b
 ·simp
 cases d<;>cases e<;>cases f<;>cases g<;>cases s<;>cases n<;>cases m<;>cases l<;>cases c<;>simp)
theorem Wx (x:AC) (h3:x.2.2.2.2.2.2.2.2.2.2.2.2.2.length<=maxLen):DJ x=some (F4 x.2.2.2.2.2.2.2.2.2.2.2.2.2 0 x.2.2.2.2.2.2.2.2.2.2.2.2.2.length&&(KS x.2.2.2.2.2.2.2.2.2||F5 x.2.2.2.2.2.2.2.2.2 x.2.2.2.2.2.1),x):=cm (by
 unfold PN KS F5
 simp only [Ar,N8 _ h3,X]
 by_cases hk:x.2.2.2.2.2.2.2.2.2.1=0
 ·rw [if_pos (by simp [hk])]
  have k1:(x.2.2.2.2.2.2.2.2.2.1==1)=false:=by simp [hk]
  have k2:(x.2.2.2.2.2.2.2.2.2.1==2)=false:=by simp [hk]
  have k0:(x.2.2.2.2.2.2.2.2.2.1==0)=true:=by simp [hk]
  rw [k1,k2,k0]
  have hl:((x.2.2.2.2.2.2.2.2.2.2.2.2.2.length:Int)==0)=true->F4 x.2.2.2.2.2.2.2.2.2.2.2.2.2 0 x.2.2.2.2.2.2.2.2.2.2.2.2.2.length=true:=by
   intro h
   have:x.2.2.2.2.2.2.2.2.2.2.2.2.2.length=0:=by simpa using h
   rw [this]
   rfl
  generalize ((x.2.2.2.2.2.2.2.2.2.2.2.2.2.length:Int)==0)=l at hl
  generalize F4 x.2.2.2.2.2.2.2.2.2.2.2.2.2 0 x.2.2.2.2.2.2.2.2.2.2.2.2.2.length=u at hl
  generalize (x.2.2.2.2.2.2.2.2.2.2.1==0)=b
  generalize (x.2.2.2.2.2.2.2.2.2.2.2.1==0)=c
  generalize Ph (.pair .str (.pair .str (.int .i64))) x.2.2.2.2.2.2.2.2.2.2.2.2.1 (ByteArray.empty,ByteArray.empty,(0:Int))=d
  cases b<;>cases c<;>cases d<;>cases l<;>cases u<;>simp at hl ⊢
 ·rw [if_neg (by simp [hk])]
  have k0:(x.2.2.2.2.2.2.2.2.2.1==0)=false:=by simp [hk]
  have k12:(decide (1<=x.2.2.2.2.2.2.2.2.2.1)&&decide (x.2.2.2.2.2.2.2.2.2.1<=2))=(x.2.2.2.2.2.2.2.2.2.1==1||x.2.2.2.2.2.2.2.2.2.1==2):=by
   rw [Bool.eq_iff_iff]
   simp
   omega
  rw [k12,k0]
  generalize (x.2.2.2.2.2.2.2.2.2.1==1||x.2.2.2.2.2.2.2.2.2.1==2)=k
  generalize F4 x.2.2.2.2.2.2.2.2.2.2.2.2.2 0 x.2.2.2.2.2.2.2.2.2.2.2.2.2.length=u
  generalize (decide (0<=x.2.2.2.2.2.2.2.2.2.2.1)&&decide (x.2.2.2.2.2.2.2.2.2.2.1<=1000))=e
  generalize (decide (1<=x.2.2.2.2.2.2.2.2.2.2.2.1)&&decide (x.2.2.2.2.2.2.2.2.2.2.2.1<=900))=f
  cases k<;>cases u<;>cases e<;>cases f<;>rcases Bool.eq_false_or_eq_true x.2.2.2.2.2.1 with hs | hs<;>simp [hs])
theorem iI (x:AC) (h1:x.2.2.2.2.2.2.1.length<=maxLen) (h2:x.2.2.2.2.2.2.2.1.length<=maxLen) (h3:x.2.2.2.2.2.2.2.2.2.2.2.2.2.length<=maxLen):GJ x=some (Ww x):=o9 (by
 have w0:∀ b,LR b x=some ((!x.2.2.2.2.2.1||(x.2.2.2.1&&x.2.2.2.2.1&&!decide ((x.2.2.2.2.2.2.1.length:Int)>0)))&&(!x.2.2.1||(!x.2.2.2.1&&!x.2.2.2.2.1))&&(F4 x.2.2.2.2.2.2.2.2.2.2.2.2.2 0 x.2.2.2.2.2.2.2.2.2.2.2.2.2.length&&(KS x.2.2.2.2.2.2.2.2.2||F5 x.2.2.2.2.2.2.2.2.2 x.2.2.2.2.2.1))):=fun b=>gW (by
  unfold Sa
  simp only [Wx x h3,X]
  generalize (F4 x.2.2.2.2.2.2.2.2.2.2.2.2.2 0 x.2.2.2.2.2.2.2.2.2.2.2.2.2.length&&(KS x.2.2.2.2.2.2.2.2.2||F5 x.2.2.2.2.2.2.2.2.2 x.2.2.2.2.2.1))=t
  generalize decide ((x.2.2.2.2.2.2.1.length:Int)>0)=c
  generalize x.2.2.2.2.2.1=s
  generalize x.2.2.2.2.1=l
  generalize x.2.2.2.1=m
  generalize x.2.2.1=n
  cases s<;>cases n<;>cases m<;>cases l<;>cases c<;>simp)
 unfold ZR Ww
 simp only [Ar,Fk,N8 _ h1,Na _ h2 Pc,X,w0]
 generalize (decide (1<=x.1)&&decide (x.1<=6))=a
 generalize (decide (1<=x.2.1)&&decide (x.2.1<=9))=b
 generalize F4 x.2.2.2.2.2.2.1 0 x.2.2.2.2.2.2.1.length=d
 generalize F4 x.2.2.2.2.2.2.2.2.2.2.2.2.2 0 x.2.2.2.2.2.2.2.2.2.2.2.2.2.length=e
 generalize B_ x.2.2.2.2.2.2.2.1 0 x.2.2.2.2.2.2.2.1.length=f
 generalize (decide (0<=x.2.2.2.2.2.2.2.2.1)&&decide (x.2.2.2.2.2.2.2.2.1<=900))=g
 generalize (KS x.2.2.2.2.2.2.2.2.2||F5 x.2.2.2.2.2.2.2.2.2 x.2.2.2.2.2.1)=t
 generalize (!x.2.2.2.2.2.1||(x.2.2.2.1&&x.2.2.2.2.1&&!decide ((x.2.2.2.2.2.2.1.length:Int)>0)))=p
 generalize (!x.2.2.1||(!x.2.2.2.1&&!x.2.2.2.2.1))=q
 cases a
 ·simp
 cases b
 ·simp
 cases d<;>cases e<;>cases f<;>cases g<;>cases p<;>cases q<;>simp)

abbrev BS:Type:=Int×Int×Int×Int×Int×List (ByteArray×ByteArray×Int)
def Wy (x:BS):Bool :=
 (decide (1<=x.1)&&decide (x.1<=8))&&(decide (1<=x.2.1)&&decide (x.2.1<=6))&&(decide (1<=x.2.2.1)&&decide (x.2.2.1<=6))&&(decide (1<=x.2.2.2.1)&&decide (x.2.2.2.1<=9))&&(decide (0<=x.2.2.2.2.1)&&decide (x.2.2.2.2.1<=1000000000))&&B_ x.2.2.2.2.2 0 x.2.2.2.2.2.length &&
  (if x.1=2\/x.1=3 then true else if x.1=5 then ((x.2.2.2.2.2.length:Int)==1) else ((x.2.2.2.2.2.length:Int)==0))
theorem qP (x:BS) (h:x.2.2.2.2.2.length<=maxLen):Xi x=some (Wy x):=xg (by
 have w1:∀ a b,K5 a b x=some (if b=true then true else if a=5 then ((x.2.2.2.2.2.length:Int)==1) else ((x.2.2.2.2.2.length:Int)==0)):=fun a b=>qG (by
  unfold aK
  by_cases h1:b=true<;>by_cases h2:a=5<;>simp [h1,h2])
 have w0:∀ b,QQ b x=some (if x.1=2\/x.1=3 then true else if x.1=5 then ((x.2.2.2.2.2.length:Int)==1) else ((x.2.2.2.2.2.length:Int)==0)):=fun b=>qH (by
  unfold aL
  by_cases h1:x.1=2<;>by_cases h2:x.1=3<;>simp [h1,h2,w1])
 unfold kY Wy
 simp only [At,I9 _ h,X,w0]
 generalize (decide (1<=x.1)&&decide (x.1<=8))=a
 generalize (decide (1<=x.2.1)&&decide (x.2.1<=6))=b
 generalize (decide (1<=x.2.2.1)&&decide (x.2.2.1<=6))=c
 generalize (decide (1<=x.2.2.2.1)&&decide (x.2.2.2.1<=9))=d
 generalize (decide (0<=x.2.2.2.2.1)&&decide (x.2.2.2.2.1<=1000000000))=e
 generalize B_ x.2.2.2.2.2 0 x.2.2.2.2.2.length=f
 cases a<;>cases b<;>cases c<;>cases d<;>cases e<;>cases f<;>simp)
theorem qQ (x:BS) (h:x.2.2.2.2.2.length<=maxLen):Xh x=some (Wy x):=xf (by
 have w1:∀ a b,K4 a b x=some (if b=true then true else if a=5 then ((x.2.2.2.2.2.length:Int)==1) else ((x.2.2.2.2.2.length:Int)==0)):=fun a b=>p8 (by
  unfold aH
  by_cases h1:b=true<;>by_cases h2:a=5<;>simp [h1,h2])
 have w0:∀ b,QP b x=some (if x.1=2\/x.1=3 then true else if x.1=5 then ((x.2.2.2.2.2.length:Int)==1) else ((x.2.2.2.2.2.length:Int)==0)):=fun b=>p9 (by
  unfold aI
  by_cases h1:x.1=2<;>by_cases h2:x.1=3<;>simp [h1,h2,w1])
 unfold kQ Wy
 simp only [Ar,Fk,Na _ h Pc,X,w0]
 generalize (decide (1<=x.1)&&decide (x.1<=8))=a
 generalize (decide (1<=x.2.1)&&decide (x.2.1<=6))=b
 generalize (decide (1<=x.2.2.1)&&decide (x.2.2.1<=6))=c
 generalize (decide (1<=x.2.2.2.1)&&decide (x.2.2.2.1<=9))=d
 generalize (decide (0<=x.2.2.2.2.1)&&decide (x.2.2.2.2.1<=1000000000))=e
 generalize B_ x.2.2.2.2.2 0 x.2.2.2.2.2.length=f
 cases a<;>cases b<;>cases c<;>cases d<;>cases e<;>cases f<;>simp)

abbrev C9:Type:=Int×Int×Int×AN
def asc (v:List Int):Prop:=(∀ a∈v,1<=a/\a<=6)/\v.Pairwise (· < ·)
theorem tq {v:List Int}:∀ (m i:Nat),i+m=v.length->(F4 v i m=true↔∀ a (ha:a<v.length),i<=a->(1<=v[a]/\v[a]<=6)/\(a≠0->v.getD (a-1) 0<v[a]))
 | 0,i,h=>by
  simp only [F4,true_iff]
  intro a ha hi
  omega
 | m+1,i,h=>by
  have hi:i<v.length:=by omega
  rw [F4,Bool.and_eq_true,Bool.and_eq_true,tq m (i+1) (by omega),AT hi]
  simp only [Bool.or_eq_true,Bool.and_eq_true,decide_eq_true_eq]
  constructor
  ·rintro ⟨⟨h1,h2⟩,h3⟩ a ha hia
   by_cases e:a=i
   ·subst e
    exact ⟨h1,fun h0=>h2.resolve_left h0⟩
   ·exact h3 a ha (by omega)
  ·intro h3
   refine ⟨⟨(h3 i hi (Nat.le_refl _)).1,?_⟩,fun a ha hia=>h3 a ha (by omega)⟩
   by_cases e:i=0
   ·exact .inl e
   ·exact .inr ((h3 i hi (Nat.le_refl _)).2 e)
theorem ADD {v:List Int}:F4 v 0 v.length=true↔asc v:=by
 rw [tq _ _ (by omega)]
 constructor
 ·intro h
  refine ⟨fun a ha=>?_,?_⟩
  ·obtain ⟨i,hi,rfl⟩:=List.getElem_of_mem ha
   exact (h i hi (Nat.zero_le _)).1
  ·have st:∀ d a (ha:a+d+1<v.length),v.getD a 0<v.getD (a+d+1) 0:=by
    intro d
    induction d with
    | zero =>
     intro a ha
     have:=(h (a+1) (by omega) (Nat.zero_le _)).2 (by omega)
     rw [AT (show a+0+1<v.length from ha)]
     simpa using this
    | succ d ih =>
     intro a ha
     have h1:=ih a (by omega)
     have h2:=(h (a+(d+1)+1) ha (Nat.zero_le _)).2 (by omega)
     rw [AT ha]
     simp only [Nat.add_sub_cancel] at h2
     have h3:v.getD (a+d+1) 0<v[a+(d+1)+1]:=h2
     omega
   rw [List.pairwise_iff_getElem]
   intro i j hi hj hij
   have:=st (j-i-1) i (by omega)
   rw [show i+(j-i-1)+1=j by omega,AT hi,AT hj] at this
   exact this
 ·rintro ⟨h1,h2⟩ a ha _
  refine ⟨h1 _ (List.getElem_mem ha),fun h0=>?_⟩
  rw [AT (show a-1<v.length by omega)]
  exact (List.pairwise_iff_getElem.1 h2) (a-1) a (by omega) ha (by omega)
theorem AAI {v:List Int} (h:asc v):v.length<=6:=by
 have hs:v.Sublist [1,2,3,4,5,6]:=by
  have key:∀ (l:List Int) (n:Nat),n<=6->(∀ a∈l,(6-n:Int)<a/\a<=6)->l.Pairwise (· < ·)->l.length<=n:=by
   intro l
   induction l with
   | nil=>intro n _ _ _; simp
   | cons a l ih =>
    intro n hn hb hp
    have ha:=hb a (by simp)
    have hp2:=List.pairwise_cons.1 hp
    have:=ih ((6-a).toNat) (by omega) (fun b hb'=>⟨by have:=hp2.1 b hb'; omega,(hb b (by simp [hb'])).2⟩) hp2.2
    simp only [List.length_cons]
    omega
  have hl:=key v 6 (by omega) (fun a ha=>by have:=h.1 a ha; omega) h.2
  exact List.Sublist.trans (List.Sublist.refl v) (by
   have:∀ (l:List Int) (s:List Int),s.Pairwise (· < ·)->l.Pairwise (· < ·)->(∀ a∈l,a∈s)->l.Sublist s:=by
    intro l s
    induction s generalizing l with
    | nil =>
     intro _ _ hm
     cases l with
     | nil=>exact List.Sublist.slnil
     | cons a l=>exact absurd (hm a (by simp)) (by simp)
    | cons b s ih =>
     intro hs hl hm
     cases l with
     | nil=>exact List.nil_sublist _
     | cons a l =>
      have hs2:=List.pairwise_cons.1 hs
      have hl2:=List.pairwise_cons.1 hl
      rcases List.mem_cons.1 (hm a (by simp)) with e | e
      ·subst e
       refine (ih l hs2.2 hl2.2 fun c hc=>?_).cons_cons _
       rcases List.mem_cons.1 (hm c (by simp [hc])) with e | e
       ·have:=hl2.1 c hc; omega
       ·exact e
      ·refine (ih (a::l) hs2.2 hl fun c hc=>?_).cons _
       rcases List.mem_cons.1 (hm c hc) with e2 | e2
       ·have h1:=hs2.1 a e
        rcases List.mem_cons.1 hc with e3 | e3
        ·omega
        ·have:=hl2.1 c e3; omega
       ·exact e2
   refine this v [1,2,3,4,5,6] (by decide) h.2 fun a ha=>?_
   have:=h.1 a ha
   have h5:a=1\/a=2\/a=3\/a=4\/a=5\/a=6:=by omega
   rcases h5 with h | h | h | h | h | h<;>simp [h])
 simpa using hs.length_le
structure Jx (m:AC):Prop where
 id:1<=m.1/\m.1<=6
 ep:1<=m.2.1/\m.2.1<=9
 serves:m.2.2.2.2.2.1=true->m.2.2.2.1=true/\m.2.2.2.2.1=true/\m.2.2.2.2.2.2.1=[]
 fell:m.2.2.1=true->m.2.2.2.1=false/\m.2.2.2.2.1=false
 waits:asc m.2.2.2.2.2.2.1
 left:asc m.2.2.2.2.2.2.2.2.2.2.2.2.2
 items:Aw m.2.2.2.2.2.2.2.1=true
 count:0<=m.2.2.2.2.2.2.2.2.1/\m.2.2.2.2.2.2.2.2.1<=900
 task:KS m.2.2.2.2.2.2.2.2.2=true\/F5 m.2.2.2.2.2.2.2.2.2 m.2.2.2.2.2.1=true
theorem AAJ {m:AC}:Ww m=true↔Jx m:=by
 unfold Ww
 simp only [Bool.and_eq_true,Bool.or_eq_true,Bool.not_eq_true',decide_eq_true_eq,ADD,decide_eq_false_iff_not]
 constructor
 ·rintro ⟨⟨⟨⟨⟨⟨⟨⟨h1,h2⟩,h3⟩,h4⟩,h5⟩,h6⟩,h7⟩,h8⟩,h9⟩
  refine ⟨h1,h2,fun h=>?_,fun h=>?_,h5,h6,h7,h8,h9⟩
  ·rcases h3 with h3 | ⟨⟨a,b⟩,c⟩
   ·rw [h] at h3; cases h3
   ·exact ⟨a,b,List.length_eq_zero_iff.1 (by omega)⟩
  ·rcases h4 with h4 | h4
   ·rw [h] at h4; cases h4
   ·exact h4
 ·rintro ⟨h1,h2,h3,h4,h5,h6,h7,h8,h9⟩
  refine ⟨⟨⟨⟨⟨⟨⟨⟨h1,h2⟩,?_⟩,?_⟩,h5⟩,h6⟩,h7⟩,h8⟩,h9⟩
  ·cases hs:m.2.2.2.2.2.1 with
   | false=>exact .inl rfl
   | true =>
    obtain ⟨a,b,c⟩:=h3 hs
    exact .inr ⟨⟨a,b⟩,by rw [c]; simp⟩
  ·cases hs:m.2.2.1 with
   | false=>exact .inl rfl
   | true=>exact .inr (h4 hs)
theorem Jy {x:List AN} (h:Aw x=true):x.length<=12:=(Cw.1 h).2.2
theorem Jx.lens {m:AC} (h:Jx m):m.2.2.2.2.2.2.1.length<=6/\m.2.2.2.2.2.2.2.1.length<=12/\m.2.2.2.2.2.2.2.2.2.2.2.2.2.length<=6:=⟨AAI h.waits,Jy h.items,AAI h.left⟩
theorem ku (m:AC) (h1:m.2.2.2.2.2.2.1.length<=68719476736) (h2:m.2.2.2.2.2.2.2.1.length<=68719476736) (h3:m.2.2.2.2.2.2.2.2.2.2.2.2.2.length<=68719476736):DZ m=some m:=tK (by
 unfold dC
 rw [if_pos (by simpa using h1),if_pos (by simpa using h2),if_pos (by simpa using h3)]
 rfl)
theorem Jx.copy {m:AC} (h:Jx m):DZ m=some m:=by
 obtain ⟨h1,h2,h3⟩:=h.lens
 exact ku m (by omega) (by omega) (by omega)
def Dh (view:List Int) (id:Int):List Int:=[1,2,3,4,5,6].filter fun v=>v != id&&view.contains v
theorem Xx (view:List Int) (id:Int):asc (Dh view id):=by
 refine ⟨fun a ha=>?_,List.Pairwise.filter _ (by decide)⟩
 have:=(List.mem_filter.1 ha).1
 simp at this
 omega
theorem KT (view:List Int) (id:Int) (h:view.length<=maxLen):HO view id=some (Dh view id):=nD (by
 unfold Wc
 have step:∀ (v:Nat) (acc r:List Int),v<=6->1<=v->acc.length<=6->CP view id ((v+1:Nat):Int) (if ((v:Int) != id&&view.contains (v:Int))=true then acc++[(v:Int)] else acc)=some r->CP view id (v:Int) acc=some r:=by
  intro v acc r hv hv1 ha hr
  refine RG ?_
  unfold KQ
  rw [if_pos (by simp; omega),AK (show v<9223372036854775807 by omega),Ce view _ h]
  by_cases h1:((v:Int) != id)=true
  ·rw [if_pos h1,X]
   by_cases h2:view.contains (v:Int)=true
   ·rw [if_pos h2,if_pos (by simp; omega)]
    rw [if_pos (by rw [h1,h2]; rfl)] at hr
    exact hr
   ·rw [if_neg h2]
    rw [if_neg (fun hc=>h2 (by simp only [Bool.and_eq_true] at hc; exact hc.2))] at hr
    exact hr
  ·rw [if_neg h1]
   rw [if_neg (fun hc=>h1 (by simp only [Bool.and_eq_true] at hc; exact hc.1))] at hr
   exact hr
 have fin:∀ acc,CP view id ((7:Nat):Int) acc=some acc:=fun acc=>RG (by
  unfold KQ
  rw [if_neg (by decide)])
 have g:∀ (acc:List Int) (v:Int),(if (v != id&&view.contains v)=true then acc++[v] else acc).length<=acc.length+1:=by
  intro acc v; split<;>simp
 refine step 1 [] _ (by omega) (by omega) (by simp) ?_
 refine step 2 _ _ (by omega) (by omega) (by have:=g [] ((1:Nat):Int); simp only [List.length_nil] at this; omega) ?_
 have l2:=g [] ((1:Nat):Int)
 generalize e1:(if (((1:Nat):Int) != id&&view.contains ((1:Nat):Int))=true then ([]:List Int)++[((1:Nat):Int)] else [])=a1 at l2 ⊢
 have l3:=g a1 ((2:Nat):Int)
 generalize e2:(if (((2:Nat):Int) != id&&view.contains ((2:Nat):Int))=true then a1++[((2:Nat):Int)] else a1)=a2 at l3 ⊢
 have l4:=g a2 ((3:Nat):Int)
 simp only [List.length_nil] at l2
 refine step 3 _ _ (by omega) (by omega) (by omega) ?_
 generalize e3:(if (((3:Nat):Int) != id&&view.contains ((3:Nat):Int))=true then a2++[((3:Nat):Int)] else a2)=a3 at l4 ⊢
 have l5:=g a3 ((4:Nat):Int)
 refine step 4 _ _ (by omega) (by omega) (by omega) ?_
 generalize e4:(if (((4:Nat):Int) != id&&view.contains ((4:Nat):Int))=true then a3++[((4:Nat):Int)] else a3)=a4 at l5 ⊢
 have l6:=g a4 ((5:Nat):Int)
 refine step 5 _ _ (by omega) (by omega) (by omega) ?_
 generalize e5:(if (((5:Nat):Int) != id&&view.contains ((5:Nat):Int))=true then a4++[((5:Nat):Int)] else a4)=a5 at l6 ⊢
 refine step 6 _ _ (by omega) (by omega) (by omega) ?_
 rw [fin]
 congr 1
 unfold Dh
 have fl:∀ (p:Int->Bool) (v:Int) (l:List Int),(v::l).filter p=(if p v=true then [v] else [])++l.filter p:=by
  intro p v l; rw [List.filter_cons]; split<;>simp
 have ap:∀ (c:Bool) (a:List Int) (v:Int),(if c=true then a++[v] else a)=a++(if c=true then [v] else []):=by
  intro c a v; split<;>simp
 rw [ap,<- e5,ap,<- e4,ap,<- e3,ap,<- e2,ap,<- e1,ap]
 simp only [fl,List.filter_nil,List.append_nil,List.nil_append,List.append_assoc]
 rfl)
theorem tr {v:List Int} (h:asc v) (p:Int->Bool):asc (v.filter p):=⟨fun a ha=>h.1 a (List.mem_filter.1 ha).1,h.2.filter p⟩
theorem Pf (v:List Int) (x:Int) (h:v.length<=68719476736):Iw v x=some (v.filter (· != x)):=kf (by
 unfold Ui
 have key:=Ee (n:=v.length) (P:=fun i=>∀ acc:List Int,acc.length<=i->Ea v x (i:Int) acc=some (acc++(v.drop i).filter (· != x))) (fun acc ha=>Pa (by
  unfold JP
  rw [if_neg (by simp)]
  simp)) (fun i hi ih acc ha=>Pa (by
  unfold JP
  simp only [show ((i:Int)<(v.length:Int)) from by omega,decide_true,if_true,show (0:Int)<=(i:Int) from by omega,Int.toNat_natCast,AT hi,AK (show i<9223372036854775807 by omega)]
  rw [BF hi,List.filter_cons]
  by_cases hh:(v[i] != x)=true
  ·rw [if_pos hh,if_pos (by simp; omega),ih _ (by simp; omega),if_pos hh,List.append_assoc]
   rfl
  ·rw [if_neg hh,ih _ (by omega),if_neg hh])) 0 (by omega) [] (by simp)
 simpa using key)

def B2 (view:List Int) (id:Int):List Int:=view.filter (· != id)
def TH (m:AC) (view:List Int) (its:List AN):AC :=
 (m.1,m.2.1,m.2.2.1,true,m.2.2.2.2.1,(((Dh view m.1).length:Int)==0),Dh view m.1,its,m.2.2.2.2.2.2.2.2)
def Wz (m:AC) (e:Int):AC :=
 (m.1,e,false,false,false,false,([]:List Int),m.2.2.2.2.2.2.2.1,(0:Int),(0:Int),(0:Int),(0:Int),(ByteArray.empty,ByteArray.empty,(0:Int)),([]:List Int))
def Ey (m:AC) (x:BS) (k:Int):List BS:=[(k,m.1,x.2.1,x.2.2.2.1,x.2.2.2.2.1,([]:List AN))]
def Ol (m:AC) (its:List AN):AC :=
 (m.1,m.2.1,m.2.2.1,m.2.2.2.1,m.2.2.2.2.1,m.2.2.2.2.2.1,m.2.2.2.2.2.2.1,its,m.2.2.2.2.2.2.2.2.1,(0:Int),(0:Int),(0:Int),(ByteArray.empty,ByteArray.empty,(0:Int)),([]:List Int))
def Bv (m:AC):List C9×AC :=
 if (m.2.2.2.2.2.2.2.2.2.1==1)=true then ([(m.2.2.2.2.2.2.2.2.2.2.1,m.2.1,m.2.2.2.2.2.2.2.2.2.2.2.1,m.2.2.2.2.2.2.2.2.2.2.2.2.1)],Ol m (An m.2.2.2.2.2.2.2.1 m.2.2.2.2.2.2.2.2.2.2.2.2.1))
 else ([(m.2.2.2.2.2.2.2.2.2.2.1,m.2.1,m.2.2.2.2.2.2.2.2.2.2.2.1,BJ m.2.2.2.2.2.2.2.1 m.2.2.2.2.2.2.2.2.2.2.2.2.1.1)],Ol m m.2.2.2.2.2.2.2.1)
theorem W0 (view:List Int) (its:List AN) (m:AC) (h:view.length<=68719476736) (hi:its.length<=68719476736) :
  Oz view its m=some ((B2 view m.1).map (fun v=>(3,m.1,v,m.2.1,0,its)),TH m view its):=vA (by
 unfold ff
 rw [if_pos (by simpa using hi),KT view _ (by unfold maxLen; omega),X]
 have key:=Ee (n:=view.length) (P:=fun i=>∀ acc:List BS,acc.length<=i->HW view its (i:Int) (TH m view its) acc ([]++its)=some (acc++((view.drop i).filter (· != m.1)).map (fun v=>((3:Int),m.1,v,m.2.1,(0:Int),its)),TH m view its)) (fun acc ha=>We (by
  unfold Oa
  rw [if_neg (by simp)]
  simp)) (fun i hi2 ih acc ha=>We (by
  unfold Oa
  simp only [show ((i:Int)<(view.length:Int)) from by omega,decide_true,if_true,show (0:Int)<=(i:Int) from by omega,Int.toNat_natCast,AT hi2,AK (show i<9223372036854775807 by omega)]
  rw [show (TH m view its).1=m.1 from rfl,show (TH m view its).2.1=m.2.1 from rfl,BF hi2,List.filter_cons]
  by_cases hh:(view[i] != m.1)=true
  ·rw [if_pos hh,if_pos (by simpa using hi),if_pos (by simp; omega),ih _ (by simp; omega),if_pos hh,List.map_cons,List.append_assoc]
   rfl
  ·rw [if_neg hh,ih _ (by omega),if_neg hh])) 0 (by omega) [] (by simp)
 exact key)
theorem Um (m:AC) (e:Int) (h:m.2.2.2.2.2.2.2.1.length<=68719476736):M0 m e=some (Wz m e):=ta (by
 unfold dQ
 rw [if_pos (by simpa using h)]
 rfl)
theorem H_ (m:AC) (x:BS) (k:Int):Eo m x k=some (Ey m x k):=qJ rfl
theorem KU (m:AC) (h:m.2.2.2.2.2.2.2.1.length<=34359738367):HQ m=some (Bv m):=nE (by
 unfold Wd Bv
 rw [Nb _ _ h,Wr _ _ (by unfold maxLen; omega)]
 split<;>rfl)
def vg (m:AC) (f:Int):AC :=
 (m.1,m.2.1,m.2.2.1,m.2.2.2.1,m.2.2.2.2.1,m.2.2.2.2.2.1,m.2.2.2.2.2.2.1,m.2.2.2.2.2.2.2.1,m.2.2.2.2.2.2.2.2.1,m.2.2.2.2.2.2.2.2.2.1,m.2.2.2.2.2.2.2.2.2.2.1,m.2.2.2.2.2.2.2.2.2.2.2.1,m.2.2.2.2.2.2.2.2.2.2.2.2.1,m.2.2.2.2.2.2.2.2.2.2.2.2.2.filter (· != f))
def Gq (m:AC) (f:Int):AC×List BS×List C9 :=
 if (((m.2.2.2.2.2.2.2.2.2.2.2.2.2.filter (· != f)).length:Int)==0)=true then ((Bv (vg m f)).2,[],(Bv (vg m f)).1) else (vg m f,[],[])
def de (m:AC) (view:List Int) (x:BS):AC×List BS×List C9 :=
 if x.1=2 then (if (m.2.2.2.2.1&&!m.2.2.2.1)=true then (TH m view x.2.2.2.2.2,(B2 view m.1).map (fun v=>(3,m.1,v,m.2.1,0,x.2.2.2.2.2)),[]) else (m,[],[]))
 else if x.1=3 then (if (!view.contains m.1||(view.getD 0 0==m.1))=true then (m,[],[]) else if (!m.2.2.2.1&&m.2.2.1)=true then (m,[],[])
  else if m.2.2.2.1=true then (m,Ey m x 4,[]) else
   ((m.1,m.2.1,false,true,false,false,([]:List Int),x.2.2.2.2.2,(0:Int),(0:Int),(0:Int),(0:Int),(ByteArray.empty,ByteArray.empty,(0:Int)),([]:List Int)),Ey m x 4,[]))
 else if x.1=4 then (if m.2.2.2.2.1=true then
   ((m.1,m.2.1,m.2.2.1,m.2.2.2.1,m.2.2.2.2.1,m.2.2.2.1&&(((m.2.2.2.2.2.2.1.filter (· != x.2.1)).length:Int)==0),m.2.2.2.2.2.2.1.filter (· != x.2.1),m.2.2.2.2.2.2.2),[],[]) else (m,[],[]))
 else if x.1=5 then (if m.2.2.2.1=true then
   ((m.1,m.2.1,m.2.2.1,m.2.2.2.1,m.2.2.2.2.1,m.2.2.2.2.2.1,m.2.2.2.2.2.2.1,An m.2.2.2.2.2.2.2.1 (x.2.2.2.2.2.getD 0 (ByteArray.empty,ByteArray.empty,(0:Int))),m.2.2.2.2.2.2.2.2),Ey m x 6,[]) else (m,[],[]))
 else if x.1=7 then (if m.2.2.2.1=true then (m,Ey m x 8,[]) else (m,[],[]))
 else if (x.1=6\/x.1=8)/\m.2.2.2.2.2.2.2.2.2.1=(if x.1=8 then 2 else 1)/\m.2.2.2.2.2.2.2.2.2.2.2.1=x.2.2.2.2.1 then
  (Gq m x.2.1)
 else (m,[],[])
theorem nY (m:AC) (view:List Int) (x:BS) (hm:Jx m) (hv:view.length<=68719476736) (hv0:0<view.length) (hx:x.2.2.2.2.2.length<=68719476736) (h5:x.1=5->0<x.2.2.2.2.2.length) :
  Uy m view x=some (de m view x):=vB (by
 obtain ⟨l1,l2,l3⟩:=hm.lens
 unfold fg
 rw [hm.copy,X]
 unfold de
 by_cases k2:x.1=2
 ·rw [if_pos (by simpa using k2),if_pos k2]
  have J:∀ b y,Js view [] [] b m x y m=some (if b=true then (TH m view x.2.2.2.2.2,(B2 view m.1).map (fun v=>(3,m.1,v,m.2.1,0,x.2.2.2.2.2)),[]) else (m,[],[])):=fun b y=>nG (by
   unfold Wf
   cases b
   ·rfl
   ·rw [if_pos rfl,W0 view _ m hv hx]
    rfl)
  rw [J,J]
  cases m.2.2.2.2.1<;>cases m.2.2.2.1<;>rfl
 ·rw [if_neg (by simpa using k2),if_neg k2]
  by_cases k3:x.1=3
  ·rw [if_pos (by simpa using k3),if_pos k3,Ce view _ (by unfold maxLen; omega),X]
   have J2:∀ b y,Jt [] [] b m x y m=some (if m.2.2.2.1=true then (m,Ey m x 4,[]) else
     ((m.1,m.2.1,false,true,false,false,([]:List Int),x.2.2.2.2.2,(0:Int),(0:Int),(0:Int),(0:Int),(ByteArray.empty,ByteArray.empty,(0:Int)),([]:List Int)),Ey m x 4,[])):=fun b y=>nH (by
    unfold Wg
    rw [Um m _ (by omega),H_,X,X]
    have hx':([]:List AN).length+x.2.2.2.2.2.length<=68719476736:=by simpa using hx
    cases m.2.2.2.1
    ·rw [if_pos (show (!false)=true from rfl),if_pos hx']; rfl
    ·rfl)
   have J1:∀ b y,Ob [] [] b m x y m=some (if (!m.2.2.2.1&&m.2.2.1)=true then (m,[],[]) else if m.2.2.2.1=true then (m,Ey m x 4,[]) else
     ((m.1,m.2.1,false,true,false,false,([]:List Int),x.2.2.2.2.2,(0:Int),(0:Int),(0:Int),(0:Int),(ByteArray.empty,ByteArray.empty,(0:Int)),([]:List Int)),Ey m x 4,[])):=fun b y=>nI (by
    unfold Wh
    rw [J2,J2]
    cases m.2.2.2.1<;>cases m.2.2.1<;>rfl)
   rw [show view.getD (0:Int).toNat 0=view.getD 0 0 from rfl]
   cases view.contains m.1
   ·rfl
   ·rw [if_neg (by simp),if_pos (by omega),if_pos (by omega),J1]
    cases (view.getD 0 0==m.1)<;>rfl
  ·rw [if_neg (by simpa using k3),if_neg k3]
   by_cases k4:x.1=4
   ·rw [if_pos (by simpa using k4),if_pos k4,Pf _ _ (by omega),X]
    cases m.2.2.2.2.1<;>cases m.2.2.2.1<;>rfl
   ·rw [if_neg (by simpa using k4),if_neg k4]
    by_cases k5:x.1=5
    ·have:=h5 k5
     rw [if_pos (by simpa using k5),if_pos k5,Nb _ _ (by omega),X,H_,X,show x.2.2.2.2.2.getD (0:Int).toNat (ByteArray.empty,ByteArray.empty,(0:Int))=x.2.2.2.2.2.getD 0 (ByteArray.empty,ByteArray.empty,(0:Int)) from rfl]
     cases m.2.2.2.1
     ·rfl
     ·rw [if_pos rfl,if_pos rfl,if_pos (by omega),if_pos (by omega)]
    ·rw [if_neg (by simpa using k5),if_neg k5]
     by_cases k7:x.1=7
     ·rw [if_pos (by simpa using k7),if_pos k7,H_,X]
      cases m.2.2.2.1<;>rfl
     ·rw [if_neg (by simpa using k7),if_neg k7]
      have J5:∀ b y,Oc [] [] b m x y m=some (Gq m x.2.1):=fun b y=>nJ (by
       unfold Wi
       rw [Pf _ _ (by omega),X,KU _ (by simp only; omega),X]
       unfold Gq
       split<;>rfl)
      have J4:∀ op y,Ju [] [] op m x y m=some (if m.2.2.2.2.2.2.2.2.2.1=op/\m.2.2.2.2.2.2.2.2.2.2.2.1=x.2.2.2.2.1 then (Gq m x.2.1) else (m,[],[])):=fun op y=>nK (by
       unfold Wj
       rw [J5]
       by_cases h1:m.2.2.2.2.2.2.2.2.2.1=op
       ·rw [if_pos (by simp [h1])]
        by_cases h2:m.2.2.2.2.2.2.2.2.2.2.2.1=x.2.2.2.2.1
        ·rw [if_neg (by simp [h2]),if_pos (show _/\_ from ⟨h1,h2⟩)]
        ·rw [if_pos (by simp [h2]),if_neg (show ¬(_/\_) from fun h=>h2 h.2)]
       ·rw [if_neg (by simp [h1]),if_neg (fun h=>h1 h.1)])
      have J3:∀ b y,Jv [] [] b m x y m=some (if b=true/\m.2.2.2.2.2.2.2.2.2.1=(if x.1=8 then 2 else 1)/\m.2.2.2.2.2.2.2.2.2.2.2.1=x.2.2.2.2.1 then (Gq m x.2.1) else (m,[],[])):=fun b y=>nL (by
       unfold Wk
       rw [J4,J4]
       cases b
       ·rw [if_neg (by simp),if_neg (by simp)]
       ·rw [if_pos rfl]
        by_cases k8:x.1=8
        ·simp only [k8,beq_self_eq_true,if_true,true_and]
        ·rw [if_neg (by simpa using k8)]
         simp only [k8,if_false,true_and])
      rw [J3,J3]
      by_cases k6:x.1=6
      ·simp only [k6,beq_self_eq_true,if_true,true_and,true_or]
      ·rw [if_neg (by simpa using k6)]
       simp only [k6,false_or,beq_iff_eq])
structure S7 (views:List (List Int)):Prop where
 ok:Fl views views.length views=true
theorem Kk {n:Nat}:∀ {l:List (List Int)} {x:List (List Int)},Fl x n l=true↔(∀ v∈l,Xw v=true)/\1<=n/\n<=9
 | [],x=>by simp [Fl]; omega
 | v::l,x=>by
  rw [Fl,Bool.and_eq_true,Kk]
  simp [and_assoc]
theorem S7.len {views:List (List Int)} (h:S7 views):1<=views.length/\views.length<=9:=(Kk.1 h.ok).2
theorem S7.view {views:List (List Int)} (h:S7 views) {v:List Int} (hv:v∈views):1<=v.length/\v.length<=4:=by
 have:=(Kk.1 h.ok).1 v hv
 unfold Xw at this
 simp only [Bool.and_eq_true,decide_eq_true_eq] at this
 omega
theorem S7.get {views:List (List Int)} (h:S7 views) {i:Nat} (hi:i<views.length):1<=(views.getD i []).length/\(views.getD i []).length<=4:=by
 rw [AT hi]
 exact h.view (List.getElem_mem hi)
theorem Gr {views:List (List Int)} (h:S7 views):EY views=some true:=by
 rw [ko views (by have:=h.len; unfold maxLen; omega) (fun a ha=>by have:=h.view ha; unfold maxLen; omega),h.ok]
theorem Ld {m:AC} (h:Jx m):GK m=some true:=by
 obtain ⟨h1,h2,h3⟩:=h.lens
 rw [iH m (by unfold maxLen; omega) (by unfold maxLen; omega) (by unfold maxLen; omega),AAJ.2 h]
def Di (m:AC) (views:List (List Int)) (x:BS):AC×List BS×List C9 :=
 if (Wy x&&(x.2.2.1==m.1)&&decide (m.2.1<=x.2.2.2.1)&&decide (x.2.2.2.1<=(views.length:Int)))=true then
  if x.2.2.2.1=m.2.1 then de m (views.getD (m.2.1-1).toNat []) x
  else if (x.1==1&&(x.2.2.2.1==m.2.1+1)&&m.2.2.2.1&&(views.getD (m.2.1-1).toNat []).contains m.1)=true then (Wz m x.2.2.2.1,[(2,m.1,x.2.1,x.2.2.2.1,0,m.2.2.2.2.2.2.2.1)],[])
  else if (x.1==3&&(views.getD (x.2.2.2.1-1).toNat []).contains m.1&&((views.getD (x.2.2.2.1-1).toNat []).getD 0 0 != m.1))=true then
   ((m.1,x.2.2.2.1,false,true,false,false,([]:List Int),x.2.2.2.2.2,(0:Int),(0:Int),(0:Int),(0:Int),(ByteArray.empty,ByteArray.empty,(0:Int)),([]:List Int)),Ey m x 4,[])
  else (m,[],[])
 else (m,[],[])
theorem ADE {x:BS} (h:Wy x=true):x.2.2.2.2.2.length<=12/\(x.1=5->x.2.2.2.2.2.length=1):=by
 unfold Wy at h
 simp only [Bool.and_eq_true] at h
 refine ⟨Jy (x:=x.2.2.2.2.2) h.1.2,fun h5=>?_⟩
 have:=h.2
 rw [if_neg (by omega),if_pos h5] at this
 simp only [beq_iff_eq] at this
 omega
theorem ky (m:AC) (views:List (List Int)) (x:BS) (hm:Jx m) (hv:S7 views) (hx:x.2.2.2.2.2.length<=68719476736) :
  SM m views x=some (Di m views x):=tU (by
 have hvl:=hv.len
 have hep:=hm.ep
 unfold dL Di
 rw [hm.copy,X,Ld hm,X,if_pos (by rfl),Gr hv,X,if_pos (by rfl),qP x (by unfold maxLen; omega),X]
 cases hmo:Wy x with
 | false=>rfl
 | true =>
  obtain ⟨xl,x5⟩:=ADE hmo
  rw [if_pos (by rfl)]
  by_cases h1:x.2.2.1=m.1
  ·rw [if_pos (by simp [h1])]
   by_cases h2:x.2.2.2.1<m.2.1
   ·rw [if_neg (by simpa using h2),if_neg (by simp; omega)]
   ·rw [if_pos (by simpa using h2)]
    by_cases h3:x.2.2.2.1>(views.length:Int)
    ·rw [if_neg (by simpa using h3),if_neg (by simp; omega)]
    ·rw [if_pos (by simpa using h3),if_neg (by simp; omega),if_pos (by simp [h1]; omega)]
     have wm:IntKind.i64.wrap (m.2.1-1)=m.2.1-1:=Ac (by omega)
     have wp:IntKind.i64.wrap (m.2.1+1)=m.2.1+1:=Ac (by omega)
     have wx:IntKind.i64.wrap (x.2.2.2.1-1)=x.2.2.2.1-1:=Ac (by omega)
     have g1:=hv.get (i:=(m.2.1-1).toNat) (by omega)
     have g2:=hv.get (i:=(x.2.2.2.1-1).toNat) (by omega)
     have J3:∀ b y,Gl [] [] b m x y m=some (if b=true then ((m.1,x.2.2.2.1,false,true,false,false,([]:List Int),x.2.2.2.2.2,(0:Int),(0:Int),(0:Int),(0:Int),(ByteArray.empty,ByteArray.empty,(0:Int)),([]:List Int)),Ey m x 4,[]) else (m,[],[])):=fun b y=>kM (by
      unfold UV
      cases b
      ·rfl
      ·rw [if_pos rfl,if_pos (by simpa using hx),H_]
       rfl)
     have J2:∀ b y,NQ views [] [] b m x y m=some (if (x.1==3&&(views.getD (x.2.2.2.1-1).toNat []).contains m.1&&((views.getD (x.2.2.2.1-1).toNat []).getD 0 0 != m.1))=true then
       ((m.1,x.2.2.2.1,false,true,false,false,([]:List Int),x.2.2.2.2.2,(0:Int),(0:Int),(0:Int),(0:Int),(ByteArray.empty,ByteArray.empty,(0:Int)),([]:List Int)),Ey m x 4,[]) else (m,[],[])):=fun b y=>kN (by
      unfold UW
      rw [wx,if_pos (by omega),if_pos (by omega),Ce _ _ (by unfold maxLen; omega),X,show (views.getD (x.2.2.2.1-1).toNat ([]:List Int)).getD (0:Int).toNat 0=(views.getD (x.2.2.2.1-1).toNat []).getD 0 0 from rfl]
      simp only [J3]
      rw [if_pos (show (0:Int)<=0 by omega),if_pos (show (0:Int)<((views.getD (x.2.2.2.1-1).toNat ([]:List Int)).length:Int) by omega)]
      cases (x.1==3)<;>cases (views.getD (x.2.2.2.1-1).toNat ([]:List Int)).contains m.1<;>rfl)
     have J1:∀ b y,Ek views [] [] b m x y m=some (if b=true then (Wz m x.2.2.2.1,[(2,m.1,x.2.1,x.2.2.2.1,0,m.2.2.2.2.2.2.2.1)],[]) else
       if (x.1==3&&(views.getD (x.2.2.2.1-1).toNat []).contains m.1&&((views.getD (x.2.2.2.1-1).toNat []).getD 0 0 != m.1))=true then
       ((m.1,x.2.2.2.1,false,true,false,false,([]:List Int),x.2.2.2.2.2,(0:Int),(0:Int),(0:Int),(0:Int),(ByteArray.empty,ByteArray.empty,(0:Int)),([]:List Int)),Ey m x 4,[]) else (m,[],[])):=fun b y=>kO (by
      unfold UX
      have hl:([]:List AN).length+m.2.2.2.2.2.2.2.1.length<=68719476736:=by have:=hm.lens; simp; omega
      rw [J2,Um m _ (by have:=hm.lens; omega),X,if_pos hl]
      cases b<;>rfl)
     refine kP ?_
     unfold UY
     rw [wm,wp]
     by_cases h4:x.2.2.2.1=m.2.1
     ·rw [if_pos (by simpa using h4),if_pos (by omega),if_pos (by omega),if_pos h4,nY m _ x hm (by omega) (by omega) hx (fun h=>by have:=x5 h; omega)]
      rfl
     ·rw [if_neg (by simpa using h4),if_neg h4,Ce _ _ (by unfold maxLen; omega),X]
      simp only [J1]
      rw [if_pos (show (0:Int)<=m.2.1-1 by omega),if_pos (show m.2.1-1<(views.length:Int) by omega)]
      cases (x.1==1)<;>cases (x.2.2.2.1==m.2.1+1)<;>cases m.2.2.2.1<;>cases (views.getD (m.2.1-1).toNat ([]:List Int)).contains m.1<;>rfl
  ·rw [if_neg (by simp [h1]),if_neg (by simp [h1])])

theorem fi {v:List Int}:∀ (m i:Nat),i+m=v.length->(IX v i m=true↔∀ a (ha:a<v.length),i<=a->(1<=v[a]/\v[a]<=6)/\v[a]∉v.take a)
 | 0,i,h=>by
  simp only [IX,true_iff]
  intro a ha hi
  omega
 | m+1,i,h=>by
  have hi:i<v.length:=by omega
  rw [IX,Bool.and_eq_true,Bool.and_eq_true,fi m (i+1) (by omega),AT hi]
  simp only [Bool.and_eq_true,decide_eq_true_eq,Bool.not_eq_true',List.contains_eq_mem,decide_eq_false_iff_not]
  constructor
  ·rintro ⟨⟨h1,h2⟩,h3⟩ a ha hia
   by_cases e:a=i
   ·subst e
    exact ⟨h1,h2⟩
   ·exact h3 a ha (by omega)
  ·intro h3
   exact ⟨⟨(h3 i hi (Nat.le_refl _)).1,(h3 i hi (Nat.le_refl _)).2⟩,fun a ha hia=>h3 a ha (by omega)⟩
structure WOk (v:List Int):Prop where
 len:1<=v.length/\v.length<=4
 mem:∀ a∈v,1<=a/\a<=6
 nd:v.Nodup
theorem AAK {v:List Int}:Xw v=true↔WOk v:=by
 unfold Xw
 simp only [Bool.and_eq_true,decide_eq_true_eq]
 rw [fi _ _ (by omega)]
 constructor
 ·rintro ⟨h1,h2⟩
  refine ⟨by omega,fun a ha=>?_,?_⟩
  ·obtain ⟨i,hi,rfl⟩:=List.getElem_of_mem ha
   exact (h2 i hi (Nat.zero_le _)).1
  ·rw [List.nodup_iff_pairwise_ne,List.pairwise_iff_getElem]
   intro i j hi hj hij e
   have:=(h2 j hj (Nat.zero_le _)).2
   apply this
   rw [<- e]
   exact List.mem_iff_getElem.2 ⟨i,by rw [List.length_take]; omega,by rw [List.getElem_take]⟩
 ·rintro ⟨h1,h2,h3⟩
  refine ⟨by omega,fun a ha _=>⟨h2 _ (List.getElem_mem ha),fun hm=>?_⟩⟩
  obtain ⟨i,hi,e⟩:=List.getElem_of_mem hm
  rw [List.length_take] at hi
  rw [List.getElem_take] at e
  have:=(List.getElem_inj h3).1 e
  omega
theorem S7.wok {views:List (List Int)} (h:S7 views) {i:Nat} (hi:i<views.length):WOk (views.getD i []):=by
 rw [AT hi]
 exact AAK.1 ((Kk.1 h.ok).1 _ (List.getElem_mem hi))
structure XOk (x:BS):Prop where
 kind:1<=x.1/\x.1<=8
 frm:1<=x.2.1/\x.2.1<=6
 to:1<=x.2.2.1/\x.2.2.1<=6
 ep:1<=x.2.2.2.1/\x.2.2.2.1<=9
 num:0<=x.2.2.2.2.1/\x.2.2.2.2.1<=1000000000
 items:Aw x.2.2.2.2.2=true
 shape:if x.1=2\/x.1=3 then True else if x.1=5 then x.2.2.2.2.2.length=1 else x.2.2.2.2.2=[]
theorem eF {x:BS}:Wy x=true↔XOk x:=by
 unfold Wy
 simp only [Bool.and_eq_true,decide_eq_true_eq]
 constructor
 ·rintro ⟨⟨⟨⟨⟨⟨h1,h2⟩,h3⟩,h4⟩,h5⟩,h6⟩,h7⟩
  refine ⟨h1,h2,h3,h4,h5,h6,?_⟩
  split at h7
  ·rename_i e; rw [if_pos e]; trivial
  ·rename_i e
   rw [if_neg e]
   split at h7
   ·rename_i e2; rw [if_pos e2]; simp only [beq_iff_eq] at h7; omega
   ·rename_i e2; rw [if_neg e2]; simp only [beq_iff_eq] at h7; exact List.length_eq_zero_iff.1 (by omega)
 ·rintro ⟨h1,h2,h3,h4,h5,h6,h7⟩
  refine ⟨⟨⟨⟨⟨⟨h1,h2⟩,h3⟩,h4⟩,h5⟩,h6⟩,?_⟩
  split
  ·rfl
  ·rename_i e
   rw [if_neg e] at h7
   split
   ·rename_i e2; rw [if_pos e2] at h7; simp; omega
   ·rename_i e2; rw [if_neg e2] at h7; simp [h7]
theorem Rm:Aw []=true:=rfl
def iJ (m n:AC) (l:List BS):Prop:=∀ y∈l,XOk y/\y.2.1=m.1/\y.2.2.2.1=n.2.1
theorem kz {m n:AC} {view:List Int} {k num:Int} {its:List AN} (hm:1<=m.1/\m.1<=6) (he:1<=n.2.1/\n.2.1<=9) (hv:∀ a∈view,1<=a/\a<=6) (hk:1<=k/\k<=8) (hn:0<=num/\num<=1000000000) (hi:Aw its=true)
  (hs:if k=2\/k=3 then True else if k=5 then its.length=1 else its=[]):iJ m n ((B2 view m.1).map fun v=>(k,m.1,v,n.2.1,num,its)):=by
 intro y hy
 obtain ⟨v,hv2,rfl⟩:=List.mem_map.1 hy
 exact ⟨⟨hk,hm,hv v (List.mem_filter.1 hv2).1,he,hn,hi,hs⟩,rfl,rfl⟩
theorem S8 {m n:AC} {x:BS} {k:Int} (hm:1<=m.1/\m.1<=6) (hx:XOk x) (he:x.2.2.2.1=n.2.1) (hk:k=4\/k=6\/k=8):iJ m n (Ey m x k):=by
 intro y hy
 simp only [Ey,List.mem_singleton] at hy
 subst hy
 refine ⟨⟨by show 1<=k/\k<=8; omega,hm,hx.frm,hx.ep,hx.num,Rm,?_⟩,rfl,he⟩
 show if k=2\/k=3 then True else if k=5 then ([]:List AN).length=1 else ([]:List AN)=[]
 rw [if_neg (by omega),if_neg (by omega)]
theorem df {m n:AC}:iJ m n []:=fun y hy=>by cases hy
theorem eG:KS ((0:Int),(0:Int),(0:Int),(ByteArray.empty,ByteArray.empty,(0:Int)),([]:List Int))=true:=by simp [KS,Ph]
theorem Jx.has {m:AC} {view:List Int} {its:List AN} (h:Jx m) (hl:m.2.2.2.2.1=true) (hb:m.2.2.2.1=false) (hi:Aw its=true):Jx (TH m view its):=by
 have hns:m.2.2.2.2.2.1=false:=by
  cases hs:m.2.2.2.2.2.1 with
  | false=>rfl
  | true=>have:=(h.serves hs).1; rw [hb] at this; cases this
 refine ⟨h.id,h.ep,fun hs=>⟨rfl,hl,?_⟩,fun hf=>?_,Xx _ _,h.left,hi,h.count,?_⟩
 ·simp only [TH,beq_iff_eq] at hs ⊢
  exact List.length_eq_zero_iff.1 (by omega)
 ·have:=(h.fell hf).2; rw [hl] at this; cases this
 ·rcases h.task with h1 | h1
  ·exact .inl h1
  ·unfold F5 at h1
   rw [hns] at h1
   simp at h1
theorem Jx.bare {m:AC} (h:Jx m) {e:Int} (he:1<=e/\e<=9):Jx (Wz m e) :=
 ⟨h.id,he,fun hs=>(by cases hs),fun hf=>(by cases hf),⟨by simp [Wz],by simp [Wz]⟩,⟨by simp [Wz],by simp [Wz]⟩,h.items,⟨by simp [Wz],by simp [Wz]⟩,.inl eG⟩
theorem Jx.install {m:AC} (h:Jx m) {e:Int} {its:List AN} (he:1<=e/\e<=9) (hi:Aw its=true) :
  Jx (m.1,e,false,true,false,false,([]:List Int),its,(0:Int),(0:Int),(0:Int),(0:Int),(ByteArray.empty,ByteArray.empty,(0:Int)),([]:List Int)) :=
 ⟨h.id,he,fun hs=>(by cases hs),fun hf=>(by cases hf),⟨by simp,by simp⟩,⟨by simp,by simp⟩,hi,⟨by simp,by simp⟩,.inl eG⟩
theorem Jx.clear {m:AC} (h:Jx m) {its:List AN} (hi:Aw its=true):Jx (Ol m its) :=
 ⟨h.id,h.ep,h.serves,h.fell,h.waits,⟨by simp [Ol],by simp [Ol]⟩,hi,h.count,.inl eG⟩
theorem Jx.finish {m:AC} (h:Jx m):Jx (Bv m).2:=by
 unfold Bv
 split
 ·exact h.clear (JS h.items)
 ·exact h.clear h.items
theorem ADF {m:AC} (h:Jx m) (h0:m.2.2.2.2.2.2.2.2.2.1≠0):F5 m.2.2.2.2.2.2.2.2.2 m.2.2.2.2.2.1=true:=by
 rcases h.task with h1 | h1
 ·unfold KS at h1
  simp only [Bool.and_eq_true,beq_iff_eq] at h1
  exact absurd h1.1.1.1.1 h0
 ·exact h1
def nZ (l:List C9):Prop:=l.length<=1/\∀ s∈l,0<=s.1/\s.1<=1000
theorem F6:nZ []:=⟨by simp,fun s hs=>by cases hs⟩
theorem oI {m:AC} (h:Jx m) (h0:m.2.2.2.2.2.2.2.2.2.1≠0):nZ (Bv m).1:=by
 have h1:=ADF h h0
 unfold F5 at h1
 simp only [Bool.and_eq_true,decide_eq_true_eq] at h1
 unfold Bv
 split
 ·exact ⟨by simp,fun s hs=>by simp at hs; subst hs; exact h1.1.2⟩
 ·exact ⟨by simp,fun s hs=>by simp at hs; subst hs; exact h1.1.2⟩
structure xi (m:AC) (r:AC×List BS×List C9):Prop where
 mok:Jx r.1
 id:r.1.1=m.1
 ep:m.2.1<=r.1.2.1
 told:iJ m r.1 r.2.1
 tlen:r.2.1.length<=4
 said:nZ r.2.2
theorem IC {m:AC} (h:Jx m):xi m (m,[],[]):=⟨h,rfl,Int.le_refl _,df,by simp,F6⟩
theorem ID (view:List Int) (id:Int):(B2 view id).length<=view.length:=List.length_filter_le _ _
theorem Jx.left_filter {m:AC} (h:Jx m) (f:Int):Jx (vg m f):=by
 refine ⟨h.id,h.ep,h.serves,h.fell,h.waits,tr h.left _,h.items,h.count,?_⟩
 rcases h.task with h1 | h1
 ·left
  unfold KS at h1 ⊢
  simp only [Bool.and_eq_true,beq_iff_eq] at h1 ⊢
  refine ⟨h1.1,?_⟩
  have h2:=List.length_filter_le (· != f) m.2.2.2.2.2.2.2.2.2.2.2.2.2
  have h3:=h1.2
  show (((m.2.2.2.2.2.2.2.2.2.2.2.2.2.filter (· != f)).length:Nat):Int)=0
  omega
 ·exact .inr h1
theorem ADG {m:AC} {view:List Int} {x:BS} (hm:Jx m) (hv:WOk view) (hx:XOk x) (he:x.2.2.2.1=m.2.1):xi m (de m view x):=by
 unfold de
 split
 ·split
  ·rename_i h1 h2
   simp only [Bool.and_eq_true,Bool.not_eq_true'] at h2
   refine ⟨hm.has h2.1 h2.2 hx.items,rfl,Int.le_refl _,?_,by simp only [List.length_map]; have:=ID view m.1; have:=hv.len; omega,F6⟩
   exact kz (n:=TH m view x.2.2.2.2.2) hm.id hm.ep hv.mem (by omega) (by omega) hx.items (by simp)
  ·exact IC hm
 ·split
  ·split
   ·exact IC hm
   ·split
    ·exact IC hm
    ·split
     ·exact ⟨hm,rfl,Int.le_refl _,S8 hm.id hx he (by omega),by simp [Ey],F6⟩
     ·exact ⟨hm.install hm.ep hx.items,rfl,Int.le_refl _,S8 hm.id hx he (by omega),by simp [Ey],F6⟩
  ·split
   ·split
    ·rename_i hl
     refine ⟨⟨hm.id,hm.ep,fun hs=>?_,hm.fell,tr hm.waits _,hm.left,hm.items,hm.count,?_⟩,rfl,Int.le_refl _,df,by simp,F6⟩
     ·simp only [Bool.and_eq_true,beq_iff_eq] at hs
      exact ⟨hs.1,hl,List.length_eq_zero_iff.1 (show (List.filter (· != x.2.1) m.2.2.2.2.2.2.1).length=0 by have h:((List.filter (· != x.2.1) m.2.2.2.2.2.2.1).length:Int)=0:=hs.2; omega)⟩
     ·rcases hm.task with h1 | h1
      ·exact .inl h1
      ·right
       have hs:m.2.2.2.2.2.1=true:=by
        unfold F5 at h1
        simp only [Bool.and_eq_true] at h1
        exact h1.1.1.2
       obtain ⟨a,b,c⟩:=hm.serves hs
       rw [hs] at h1
       simp only [c,List.filter_nil,List.length_nil,a,Bool.true_and]
       exact h1
    ·exact IC hm
   ·split
    ·split
     ·exact ⟨⟨hm.id,hm.ep,hm.serves,hm.fell,hm.waits,hm.left,JS hm.items,hm.count,hm.task⟩,rfl,Int.le_refl _,S8 hm.id hx he (by omega),by simp [Ey],F6⟩
     ·exact IC hm
    ·split
     ·split
      ·exact ⟨hm,rfl,Int.le_refl _,S8 hm.id hx he (by omega),by simp [Ey],F6⟩
      ·exact IC hm
     ·by_cases hc:(x.1=6\/x.1=8)/\m.2.2.2.2.2.2.2.2.2.1=(if x.1=8 then 2 else 1)/\m.2.2.2.2.2.2.2.2.2.2.2.1=x.2.2.2.2.1
      ·rw [if_pos hc]
       have hn:=hm.left_filter x.2.1
       unfold Gq
       split
       ·refine ⟨hn.finish,?_,?_,df,by simp,oI hn ?_⟩
        ·unfold Bv; split<;>rfl
        ·unfold Bv; split<;>exact Int.le_refl _
        ·have:=hc.2.1
         show m.2.2.2.2.2.2.2.2.2.1≠0
         rw [this]
         split<;>omega
       ·exact ⟨hn,rfl,Int.le_refl _,df,by simp,F6⟩
      ·rw [if_neg hc]
       exact IC hm
theorem Pg {m:AC} {views:List (List Int)} {x:BS} (hm:Jx m) (hv:S7 views):xi m (Di m views x):=by
 unfold Di
 split
 ·rename_i hc
  simp only [Bool.and_eq_true,decide_eq_true_eq,beq_iff_eq] at hc
  obtain ⟨⟨⟨h1,h2⟩,h3⟩,h4⟩:=hc
  have hx:=eF.1 h1
  have hvl:=hv.len
  have he:=hm.ep
  split
  ·rename_i e
   exact ADG hm (hv.wok (by omega)) hx e
  ·split
   ·refine ⟨hm.bare hx.ep,rfl,h3,fun y hy=>?_,by simp,F6⟩
    simp only [List.mem_singleton] at hy
    subst hy
    exact ⟨⟨by simp,hm.id,hx.frm,hx.ep,by simp,hm.items,by simp⟩,rfl,rfl⟩
   ·split
    ·exact ⟨hm.install hx.ep hx.items,rfl,h3,S8 hm.id hx rfl (by omega),by simp [Ey],F6⟩
    ·exact IC hm
 ·exact IC hm

def Kl:AC:=((0:Int),(0:Int),false,false,false,false,([]:List Int),([]:List AN),(0:Int),(0:Int),(0:Int),(0:Int),(ByteArray.empty,ByteArray.empty,(0:Int)),([]:List Int))
def Xy (m:AC) (views:List (List Int)) (op call:Int) (key val:ByteArray):Bool :=
 m.2.2.2.2.2.1&&(m.2.2.2.2.2.2.2.2.2.1==0)&&decide (m.2.2.2.2.2.2.2.2.1<900)&&(op==1||op==2)&&(decide (0<=call)&&decide (call<=1000))&&(decide (1<=(key.size:Int))&&decide ((key.size:Int)<=12))&&decide ((val.size:Int)<=20)&&(op==1||xh val)&&decide (m.2.1<=(views.length:Int))&&((views.getD (m.2.1-1).toNat []).getD 0 0==m.1)
def Gs (m:AC) (key val:ByteArray):AN:=(key,val,1000*m.2.1+(m.2.2.2.2.2.2.2.2.1+1))
def G0 (m:AC) (view:List Int) (op call:Int) (key val:ByteArray):AC :=
 (m.1,m.2.1,m.2.2.1,m.2.2.2.1,m.2.2.2.2.1,m.2.2.2.2.2.1,m.2.2.2.2.2.2.1,m.2.2.2.2.2.2.2.1,m.2.2.2.2.2.2.2.2.1+1,op,call,m.2.2.2.2.2.2.2.2.1+1,Gs m key val,Dh view m.1)
def ts (m:AC) (view:List Int) (op:Int) (key val:ByteArray):List BS :=
 (B2 view m.1).map fun v=>(if op=1 then 5 else 7,m.1,v,m.2.1,m.2.2.2.2.2.2.2.2.1+1,if op=1 then [Gs m key val] else [])
def S9 (m:AC) (view:List Int) (op call:Int) (key val:ByteArray):AC×List BS×List C9×Bool :=
 if Dh view m.1=[] then ((Bv (G0 m view op call key val)).2,[],(Bv (G0 m view op call key val)).1,true) else (G0 m view op call key val,ts m view op key val,[],true)
def Dj (m:AC) (views:List (List Int)) (op call:Int) (key val:ByteArray):AC×List BS×List C9×Bool :=
 if Xy m views op call key val=true then
  (if op=1/\Ph (.pair .str (.pair .str (.int .i64))) (BJ (An m.2.2.2.2.2.2.2.1 (Gs m key val)) key) (Gs m key val)=false then (Kl,[],[],false) else S9 m (views.getD (m.2.1-1).toNat []) op call key val)
 else (Kl,[],[],false)
theorem qR (m:AC) (views:List (List Int)) (op call:Int) (key val:ByteArray) (hm:Jx m) (hv:S7 views):Xf m views op call key val=some (Dj m views op call key val):=xd (by
 have hvl:=hv.len
 have hep:=hm.ep
 have hl:=hm.lens
 have hcnt:=hm.count
 have wm:IntKind.i64.wrap (m.2.1-1)=m.2.1-1:=Ac (by omega)
 have wc:IntKind.i64.wrap (m.2.2.2.2.2.2.2.2.1+1)=m.2.2.2.2.2.2.2.2.1+1:=Ac (by omega)
 have w1:IntKind.i64.wrap (1000*m.2.1)=1000*m.2.1:=Ac (by omega)
 have w2:IntKind.i64.wrap (1000*m.2.1+(m.2.2.2.2.2.2.2.2.1+1))=1000*m.2.1+(m.2.2.2.2.2.2.2.2.1+1):=Ac (by omega)
 unfold kK
 rw [Ld hm,X,if_neg (by simp),Gr hv,X,if_neg (by simp)]
 have bad:Xy m views op call key val=false->Dj m views op call key val=(Kl,[],[],false):=fun h=>by unfold Dj; rw [h]; rfl
 by_cases c1:m.2.2.2.2.2.1=true
 case neg =>
  rw [if_pos (by simpa using c1),bad (by unfold Xy; simp [c1])]
  rfl
 rw [if_neg (by simpa using c1)]
 by_cases c2:m.2.2.2.2.2.2.2.2.2.1=0
 case neg =>
  rw [if_pos (by simpa using c2),bad (by unfold Xy; simp [c2])]
  rfl
 rw [if_neg (by simpa using c2)]
 by_cases c3:m.2.2.2.2.2.2.2.2.1<900
 case neg =>
  rw [if_pos (by simp; omega),bad (by unfold Xy; simp [c3])]
  rfl
 rw [if_neg (by simp; omega)]
 have view:∀ (hep2:m.2.1<=(views.length:Int)),1<=(views.getD (m.2.1-1).toNat []).length/\(views.getD (m.2.1-1).toNat []).length<=4:=fun h=>hv.get (by omega)
 have L2:∀ (v:List Int) (hv:v.length<=4) (y:AC) (its:List AN),op=1->Et op [] v 0 m y [] (G0 m v op call key val) (Gs m key val) its=some (G0 m v op call key val,ts m v op key val,[],true):=by
  intro v hv y its ho
  have key':=Ee (n:=v.length) (P:=fun i=>∀ acc:List BS,acc.length<=i->Et op [] v (i:Int) m y acc (G0 m v op call key val) (Gs m key val) its=some (G0 m v op call key val,acc++((v.drop i).filter (· != m.1)).map (fun v=>((5:Int),m.1,v,m.2.1,m.2.2.2.2.2.2.2.2.1+1,[Gs m key val])),[],true)) (fun acc ha=>aB (by
   unfold QM
   rw [if_neg (by simp)]
   simp)) (fun i hi ih acc ha=>aB (by
   unfold QM
   simp only [show ((i:Int)<(v.length:Int)) from by omega,decide_true,if_true,show (0:Int)<=(i:Int) from by omega,Int.toNat_natCast,AT hi,AK (show i<9223372036854775807 by omega),ho,beq_self_eq_true]
   rw [ho] at ih
   rw [BF hi,List.filter_cons]
   by_cases hh:v[i]=m.1
   ·rw [if_pos (by simpa using hh),ih _ (by omega),if_neg (by simpa using hh)]
   ·rw [if_neg (by simpa using hh),if_pos (by simp; omega),ih _ (by simp; omega),if_pos (by simpa using hh),List.map_cons,List.append_assoc]
    rfl)) 0 (by omega) [] (by simp)
  unfold ts
  rw [if_pos ho,if_pos ho]
  exact key'
 have L4:∀ (v:List Int) (hv:v.length<=4) (y:AC),op≠1->Eu op [] v 0 m y [] (G0 m v op call key val) (Gs m key val)=some (G0 m v op call key val,ts m v op key val,[],true):=by
  intro v hv y ho
  have key':=Ee (n:=v.length) (P:=fun i=>∀ acc:List BS,acc.length<=i->Eu op [] v (i:Int) m y acc (G0 m v op call key val) (Gs m key val)=some (G0 m v op call key val,acc++((v.drop i).filter (· != m.1)).map (fun v=>((7:Int),m.1,v,m.2.1,m.2.2.2.2.2.2.2.2.1+1,([]:List AN))),[],true)) (fun acc ha=>aC (by
   unfold QN
   rw [if_neg (by simp)]
   simp)) (fun i hi ih acc ha=>aC (by
   unfold QN
   have ho':¬ ((op==1)=true):=by simpa using ho
   simp only [show ((i:Int)<(v.length:Int)) from by omega,decide_true,if_true,show (0:Int)<=(i:Int) from by omega,Int.toNat_natCast,AT hi,AK (show i<9223372036854775807 by omega),if_neg ho']
   rw [BF hi,List.filter_cons]
   by_cases hh:v[i]=m.1
   ·rw [if_pos (by simpa using hh),ih _ (by omega),if_neg (by simpa using hh)]
   ·rw [if_neg (by simpa using hh),if_pos (by simp; omega),ih _ (by simp; omega),if_pos (by simpa using hh),List.map_cons,List.append_assoc]
    rfl)) 0 (by omega) [] (by simp)
  unfold ts
  rw [if_neg ho,if_neg ho]
  exact key'
 have nil_iff:∀ l:List Int,((l.length:Int)==0)=true↔l=[]:=fun l=>by
  rw [beq_iff_eq]
  exact ⟨fun h=>List.length_eq_zero_iff.1 (by omega),fun h=>by rw [h]; rfl⟩
 have J1:∀ (b:Bool) (y:AC) (its:List AN),op=1->m.2.1<=(views.length:Int)->QK views op call [] b m y [] (m.1,m.2.1,m.2.2.1,m.2.2.2.1,m.2.2.2.2.1,m.2.2.2.2.2.1,m.2.2.2.2.2.2.1,m.2.2.2.2.2.2.2.1,m.2.2.2.2.2.2.2.2.1+1,m.2.2.2.2.2.2.2.2.2) (Gs m key val) its=some (S9 m (views.getD (m.2.1-1).toNat []) op call key val):=fun b y its ho he=>pq (by
  have:=view he
  unfold Z9 S9
  rw [wm,if_pos (by omega),if_pos (by omega),KT _ _ (by unfold maxLen; omega),X]
  by_cases hz:Dh (views.getD (m.2.1-1).toNat []) m.1=[]
  ·rw [if_pos ((nil_iff _).2 hz),if_pos hz]
   have:=KU (G0 m (views.getD (m.2.1-1).toNat []) op call key val) (by show m.2.2.2.2.2.2.2.1.length<=_; omega)
   unfold G0 at this
   simp only
   rw [this]
   rfl
  ·rw [if_neg (fun h=>hz ((nil_iff _).1 h)),if_neg hz]
   exact L2 _ (by omega) y its ho)
 have J3:∀ (b:Bool) (y:AC),op≠1->m.2.1<=(views.length:Int)->QL views op call [] b m y [] (m.1,m.2.1,m.2.2.1,m.2.2.2.1,m.2.2.2.2.1,m.2.2.2.2.2.1,m.2.2.2.2.2.2.1,m.2.2.2.2.2.2.2.1,m.2.2.2.2.2.2.2.2.1+1,m.2.2.2.2.2.2.2.2.2) (Gs m key val)=some (S9 m (views.getD (m.2.1-1).toNat []) op call key val):=fun b y ho he=>pr (by
  have:=view he
  unfold Z_ S9
  rw [wm,if_pos (by omega),if_pos (by omega),KT _ _ (by unfold maxLen; omega),X]
  by_cases hz:Dh (views.getD (m.2.1-1).toNat []) m.1=[]
  ·rw [if_pos ((nil_iff _).2 hz),if_pos hz]
   have:=KU (G0 m (views.getD (m.2.1-1).toNat []) op call key val) (by show m.2.2.2.2.2.2.2.1.length<=_; omega)
   unfold G0 at this
   simp only
   rw [this]
   rfl
  ·rw [if_neg (fun h=>hz ((nil_iff _).1 h)),if_neg hz]
   exact L4 _ (by omega) y ho)
 have J0:∀ (b:Bool) (y:AC),Xy m views op call key val=true->m.2.1<=(views.length:Int)->C6 views op call key val [] b m y []=some (Dj m views op call key val):=fun b y hmay he=>pu (by
  unfold aA Dj
  rw [if_pos hmay,hm.copy,X,wc,w1,w2]
  by_cases ho:op=1
  ·rw [if_pos (by simpa using ho),Nb _ _ (by omega),X,Wr _ _ (by have:=yv m.2.2.2.2.2.2.2.1 (key,val,1000*m.2.1+(m.2.2.2.2.2.2.2.2.1+1)); unfold maxLen; omega),X]
   cases hq:Ph (.pair .str (.pair .str (.int .i64))) (BJ (An m.2.2.2.2.2.2.2.1 (Gs m key val)) key) (Gs m key val) with
   | false =>
    have hq':Ph AD (BJ (An m.2.2.2.2.2.2.2.1 (key,val,1000*m.2.1+(m.2.2.2.2.2.2.2.2.1+1))) key) (key,val,1000*m.2.1+(m.2.2.2.2.2.2.2.2.1+1))=false:=hq
    rw [hq',if_pos (show (true != false)=true from rfl),if_pos (show op=1/\false=false from ⟨ho,rfl⟩)]
    rfl
   | true =>
    have hq':Ph AD (BJ (An m.2.2.2.2.2.2.2.1 (key,val,1000*m.2.1+(m.2.2.2.2.2.2.2.2.1+1))) key) (key,val,1000*m.2.1+(m.2.2.2.2.2.2.2.2.1+1))=true:=hq
    rw [hq',if_neg (show ¬ (true != true)=true by simp),if_neg (show ¬ (op=1/\true=false) by rintro ⟨_,h⟩; cases h)]
    exact J1 _ y _ ho he
  ·rw [if_neg (by simpa using ho),if_neg (fun h=>ho h.1)]
   exact J3 _ y ho he)
 have tail:op=1\/op=2->((AU call 0 1000).bind fun y3=>(if (!y3)=true then (some (Kl,([]:List BS),([]:List C9),false)) else ((AU (key.size:Int) 1 12).bind fun y4=>(if (!y4)=true then (some (Kl,([]:List BS),([]:List C9),false)) else (if (decide ((val.size:Int)>20))=true then (some (Kl,([]:List BS),([]:List C9),false)) else (if (op==2)=true then (if (!(val.toList==(⟨#[]⟩:ByteArray).toList))=true then (some (Kl,([]:List BS),([]:List C9),false)) else (if (decide (m.2.1>(views.length:Int)))=true then (some (Kl,([]:List BS),([]:List C9),false)) else (if 0<=(IntKind.i64.wrap (m.2.1-1)) then (if (IntKind.i64.wrap (m.2.1-1))<(views.length:Int) then (if 0<=(0:Int) then (if (0:Int)<((views.getD (IntKind.i64.wrap (m.2.1-1)).toNat ([]:List Int)).length:Int) then (if (((views.getD (IntKind.i64.wrap (m.2.1-1)).toNat ([]:List Int)).getD (0:Int).toNat 0) != m.1)=true then (some (Kl,([]:List BS),([]:List C9),false)) else (C6 views op call key val ([]:List C9) (((views.getD (IntKind.i64.wrap (m.2.1-1)).toNat ([]:List Int)).getD (0:Int).toNat 0) != m.1) m Kl ([]:List BS))) else none) else none) else none) else none))) else (if (decide (m.2.1>(views.length:Int)))=true then (some (Kl,([]:List BS),([]:List C9),false)) else (if 0<=(IntKind.i64.wrap (m.2.1-1)) then (if (IntKind.i64.wrap (m.2.1-1))<(views.length:Int) then (if 0<=(0:Int) then (if (0:Int)<((views.getD (IntKind.i64.wrap (m.2.1-1)).toNat ([]:List Int)).length:Int) then (if (((views.getD (IntKind.i64.wrap (m.2.1-1)).toNat ([]:List Int)).getD (0:Int).toNat 0) != m.1)=true then (some (Kl,([]:List BS),([]:List C9),false)) else (C6 views op call key val ([]:List C9) (((views.getD (IntKind.i64.wrap (m.2.1-1)).toNat ([]:List Int)).getD (0:Int).toNat 0) != m.1) m Kl ([]:List BS))) else none) else none) else none) else none))))))))=some (Dj m views op call key val):=by
  intro hop
  rw [At,X,At,X,wm]
  cases c5:(decide (0<=call)&&decide (call<=1000)) with
  | false=>rw [bad (by unfold Xy; rw [c5]; simp)]; rfl
  | true =>
  rw [if_neg (by simp)]
  cases c6:(decide (1<=(key.size:Int))&&decide ((key.size:Int)<=12)) with
  | false=>rw [bad (by unfold Xy; rw [c6]; simp)]; rfl
  | true =>
  rw [if_neg (by simp)]
  by_cases c7:(val.size:Int)<=20
  case neg=>rw [if_pos (by simp; omega),bad (by unfold Xy; simp [c7])]
  rw [if_neg (by simp; omega)]
  have last:(op==1||xh val)=true->(if (decide (m.2.1>(views.length:Int)))=true then (some (Kl,([]:List BS),([]:List C9),false)) else (if 0<=m.2.1-1 then (if m.2.1-1<(views.length:Int) then (if 0<=(0:Int) then (if (0:Int)<((views.getD (m.2.1-1).toNat ([]:List Int)).length:Int) then (if (((views.getD (m.2.1-1).toNat ([]:List Int)).getD (0:Int).toNat 0) != m.1)=true then (some (Kl,([]:List BS),([]:List C9),false)) else (C6 views op call key val ([]:List C9) (((views.getD (m.2.1-1).toNat ([]:List Int)).getD (0:Int).toNat 0) != m.1) m Kl ([]:List BS))) else none) else none) else none) else none))=some (Dj m views op call key val):=by
   intro c8
   by_cases c9:m.2.1<=(views.length:Int)
   case neg=>rw [if_pos (by simp; omega),bad (by unfold Xy; simp [c9])]
   have:=view c9
   rw [if_neg (by simp; omega),if_pos (by omega),if_pos (by omega),if_pos (by omega),if_pos (by omega),show (views.getD (m.2.1-1).toNat ([]:List Int)).getD (0:Int).toNat 0=(views.getD (m.2.1-1).toNat []).getD 0 0 from rfl]
   by_cases c10:(views.getD (m.2.1-1).toNat []).getD 0 0=m.1
   case neg=>rw [if_pos (by simpa using c10),bad (by unfold Xy; rw [show ((views.getD (m.2.1-1).toNat []).getD 0 0==m.1)=false from by simpa using c10,Bool.and_false])]
   rw [if_neg (by simpa using c10)]
   refine J0 _ _ ?_ c9
   unfold Xy
   rw [c1,c5,c6,c8]
   simp only [c2,beq_self_eq_true,c3,c7,c9,c10,decide_true,Bool.and_true,Bool.true_and]
   rcases hop with h | h<;>simp [h]
  by_cases c8:op=2
  ·rw [if_pos (by simpa using c8)]
   cases ce:xh val with
   | false =>
    rw [if_pos (by rw [nW,ce]; rfl),bad (by unfold Xy; rw [ce,show (op==1)=false from by simp [c8]]; simp)]
   | true =>
    rw [if_neg (by rw [nW,ce]; simp)]
    exact last (by rw [ce,Bool.or_true])
  ·rw [if_neg (by simpa using c8)]
   exact last (by rw [show (op==1)=true from by simp; omega]; rfl)
 by_cases c4:op=1
 ·rw [if_neg (by simpa using c4)]
  exact tail (.inl c4)
 ·rw [if_pos (by simpa using c4)]
  by_cases c4':op=2
  ·rw [if_neg (by simpa using c4')]
   exact tail (.inr c4')
  ·rw [if_pos (by simpa using c4'),bad (by unfold Xy; rw [show (op==1||op==2)=false from by simp [c4,c4']]; simp)]
   rfl)
structure AAL (m:AC) (r:AC×List BS×List C9×Bool):Prop where
 mok:r.2.2.2=true->Jx r.1
 id:r.2.2.2=true->r.1.1=m.1
 ep:r.2.2.2=true->r.1.2.1=m.2.1
 told:r.2.2.2=true->iJ m r.1 r.2.1
 tlen:r.2.1.length<=4
 said:nZ r.2.2.1
theorem vh {m:AC}:AAL m (Kl,[],[],false):=⟨fun h=>(by cases h),fun h=>(by cases h),fun h=>(by cases h),fun h=>(by cases h),by simp,F6⟩
theorem eH {m:AC} {views:List (List Int)} {op call:Int} {key val:ByteArray} (h:Xy m views op call key val=true) :
  m.2.2.2.2.2.1=true/\m.2.2.2.2.2.2.2.2.2.1=0/\m.2.2.2.2.2.2.2.2.1<900/\(op=1\/op=2)/\(0<=call/\call<=1000)/\(1<=(key.size:Int)/\(key.size:Int)<=12)/\(val.size:Int)<=20/\(op=1\/xh val=true)/\m.2.1<=(views.length:Int)/\(views.getD (m.2.1-1).toNat []).getD 0 0=m.1:=by
 unfold Xy at h
 simp only [Bool.and_eq_true,Bool.or_eq_true,decide_eq_true_eq,beq_iff_eq] at h
 obtain ⟨⟨⟨⟨⟨⟨⟨⟨⟨h1,h2⟩,h3⟩,h4⟩,h5⟩,h6⟩,h7⟩,h8⟩,h9⟩,h10⟩:=h
 exact ⟨h1,h2,h3,h4,h5,h6,h7,h8,h9,h10⟩
theorem tt {m:AC} {key val:ByteArray} (h:Jx m) (h3:m.2.2.2.2.2.2.2.2.1<900) (h6:1<=(key.size:Int)/\(key.size:Int)<=12) (h7:(val.size:Int)<=20):Aw [Gs m key val]=true:=by
 refine Cw.2 ⟨fun b hb=>?_,?_,by simp⟩
 ·simp only [List.mem_singleton] at hb
  subst hb
  unfold Jw Gs
  have:=h.ep
  have:=h.count
  simp only [Bool.and_eq_true,decide_eq_true_eq]
  omega
 ·exact vf.2 (by simp)
theorem Jx.task1 {m:AC} {view:List Int} {op call:Int} {key val:ByteArray} (h:Jx m) (h1:m.2.2.2.2.2.1=true) (h3:m.2.2.2.2.2.2.2.2.1<900) (h4:op=1\/op=2) (h5:0<=call/\call<=1000):Jx (G0 m view op call key val):=by
 have hc:=h.count
 refine ⟨h.id,h.ep,h.serves,h.fell,h.waits,Xx _ _,h.items,?_,.inr ?_⟩
 ·show 0<=m.2.2.2.2.2.2.2.2.1+1/\m.2.2.2.2.2.2.2.2.1+1<=900
  omega
 ·unfold F5 G0
  rw [h1]
  simp only [Bool.and_eq_true,Bool.or_eq_true,decide_eq_true_eq,beq_iff_eq]
  exact ⟨⟨⟨h4,trivial⟩,h5⟩,by omega⟩
theorem eI {m:AC} {views:List (List Int)} {op call:Int} {key val:ByteArray} (hm:Jx m) (hv:S7 views):AAL m (Dj m views op call key val):=by
 unfold Dj
 split
 ·rename_i hmay
  obtain ⟨h1,h2,h3,h4,h5,h6,h7,h8,h9,h10⟩:=eH hmay
  split
  ·exact vh
  ·unfold S9
   have hep:=hm.ep
   have ht:=hm.task1 (view:=views.getD (m.2.1-1).toNat []) (key:=key) (val:=val) h1 h3 h4 h5
   have h0:(G0 m (views.getD (m.2.1-1).toNat []) op call key val).2.2.2.2.2.2.2.2.2.1≠0:=by show op≠0; omega
   have hw:=hv.wok (i:=(m.2.1-1).toNat) (by omega)
   split
   ·exact ⟨fun _=>ht.finish,fun _=>(by unfold Bv; split<;>rfl),fun _=>(by unfold Bv; split<;>rfl),fun _=>df,by simp,oI ht h0⟩
   ·refine ⟨fun _=>ht,fun _=>rfl,fun _=>rfl,fun _=>?_,?_,F6⟩
    ·unfold ts
     have hc:=hm.count
     have hi:=tt hm h3 h6 h7
     refine kz (n:=G0 m (views.getD (m.2.1-1).toNat []) op call key val) hm.id hm.ep hw.mem (by split<;>omega) (by omega) ?_ ?_
     ·split
      ·exact hi
      ·exact Rm
     ·by_cases ho:op=1
      ·rw [if_pos ho,if_pos ho,if_neg (by omega),if_pos rfl]; rfl
      ·rw [if_neg ho,if_neg ho,if_neg (by omega),if_neg (by omega)]
    ·unfold ts
     simp only [List.length_map]
     have:=ID (views.getD (m.2.1-1).toNat []) m.1
     have:=hw.len
     omega
 ·exact vh
def MI (m:AC) (e:Int):AC:=(m.1,e,false,false,true,false,([]:List Int),m.2.2.2.2.2.2.2.1,(0:Int),(0:Int),(0:Int),(0:Int),(ByteArray.empty,ByteArray.empty,(0:Int)),([]:List Int))
def FT (m:AC) (views:List (List Int)) (e:Int):AC×List BS×Bool :=
 if 2<=e/\e<=(views.length:Int)/\m.2.1<e/\(views.getD (e-1).toNat []).getD 0 0=m.1 then
  if (m.2.2.2.1&&(m.2.1==e-1)&&(views.getD (e-2).toNat []).contains m.1)=true then
   (TH (MI m e) (views.getD (e-1).toNat []) m.2.2.2.2.2.2.2.1,(B2 (views.getD (e-1).toNat []) m.1).map (fun v=>(3,m.1,v,e,0,m.2.2.2.2.2.2.2.1)),true)
  else (MI m e,(B2 (views.getD (e-2).toNat []) m.1).map (fun v=>(1,m.1,v,e,0,[])),true)
 else (Kl,[],false)
theorem Jx.new1 {m:AC} (h:Jx m) {e:Int} (he:1<=e/\e<=9):Jx (MI m e) :=
 ⟨h.id,he,fun hs=>(by cases hs),fun hf=>(by cases hf),⟨by simp [MI],by simp [MI]⟩,⟨by simp [MI],by simp [MI]⟩,h.items,⟨by simp [MI],by simp [MI]⟩,.inl eG⟩
theorem qS (m:AC) (views:List (List Int)) (e:Int) (hm:Jx m) (hv:S7 views):Xg m views e=some (FT m views e):=xe (by
 have hvl:=hv.len
 have hep:=hm.ep
 have hl:=hm.lens
 unfold kL FT
 rw [Ld hm,X,if_neg (by simp),Gr hv,X,if_neg (by simp),At,X]
 by_cases h1:2<=e/\e<=(views.length:Int)
 case neg =>
  rw [if_pos (by rw [<- Bool.decide_and,decide_eq_false h1]; rfl),if_neg (fun h=>h1 ⟨h.1,h.2.1⟩)]
  rfl
 have we:IntKind.i64.wrap (e-1)=e-1:=Ac (by omega)
 have we2:IntKind.i64.wrap (e-2)=e-2:=Ac (by omega)
 rw [if_neg (by rw [<- Bool.decide_and,decide_eq_true h1]; simp),we]
 by_cases h2:m.2.1<e
 case neg =>
  rw [if_pos (by simp; omega),if_neg (fun h=>h2 h.2.2.1)]
  rfl
 have g1:=hv.get (i:=(e-1).toNat) (by omega)
 have g2:=hv.get (i:=(e-2).toNat) (by omega)
 rw [if_neg (by simp; omega),if_pos (by omega),if_pos (by omega),if_pos (by omega),if_pos (by omega),show (views.getD (e-1).toNat ([]:List Int)).getD (0:Int).toNat 0=(views.getD (e-1).toNat []).getD 0 0 from rfl]
 by_cases h3:(views.getD (e-1).toNat []).getD 0 0=m.1
 case neg =>
  rw [if_pos (by simpa using h3),if_neg (fun h=>h3 h.2.2.2)]
  rfl
 rw [if_neg (by simpa using h3),if_pos ⟨h1.1,h1.2,h2,h3⟩]
 have L2:∀ y,GO views e 0 m y [] ([]++m.2.2.2.2.2.2.2.1) (MI m e)=some (MI m e,(B2 (views.getD (e-2).toNat []) m.1).map (fun v=>(1,m.1,v,e,0,[])),true):=by
  intro y
  have hcopy:=(hm.new1 (e:=e) (by omega)).copy
  have key':=Ee (n:=(views.getD (e-2).toNat []).length) (P:=fun i=>∀ acc:List BS,acc.length<=i->GO views e (i:Int) m y acc ([]++m.2.2.2.2.2.2.2.1) (MI m e)=some (MI m e,acc++(((views.getD (e-2).toNat []).drop i).filter (· != m.1)).map (fun v=>((1:Int),m.1,v,e,(0:Int),([]:List AN))),true)) (fun acc ha=>aG (by
   unfold QO
   rw [we2,if_pos (by omega),if_pos (by omega),if_neg (by simp),hcopy]
   simp)) (fun i hi ih acc ha=>aG (by
   unfold QO
   rw [we2,if_pos (by omega),if_pos (by omega)]
   simp only [show ((i:Int)<((views.getD (e-2).toNat ([]:List Int)).length:Int)) from by omega,decide_true,if_true,show (0:Int)<=(i:Int) from by omega,Int.toNat_natCast,AK (show i<9223372036854775807 by omega),show (0:Int)<=e-2 from by omega,show e-2<(views.length:Int) from by omega]
   rw [AT hi,BF hi,List.filter_cons]
   by_cases hh:((views.getD (e-2).toNat ([]:List Int))[i] != m.1)=true
   ·rw [if_pos hh,if_pos (by simp; omega),ih _ (by simp; omega),if_pos hh,List.map_cons,List.append_assoc]
    rfl
   ·rw [if_neg hh,ih _ (by omega),if_neg hh])) 0 (by omega) [] (by simp)
  exact key'
 have J1:∀ (b:Bool) y,IN views e b m y []=some (if b=true then (TH (MI m e) (views.getD (e-1).toNat []) m.2.2.2.2.2.2.2.1,(B2 (views.getD (e-1).toNat []) m.1).map (fun v=>(3,m.1,v,e,0,m.2.2.2.2.2.2.2.1)),true) else (MI m e,(B2 (views.getD (e-2).toNat []) m.1).map (fun v=>(1,m.1,v,e,0,[])),true)):=fun b y=>py (by
  unfold aE
  rw [we,if_pos (by simp; omega)]
  cases b
  ·rw [if_neg (by simp)]
   exact L2 y
  ·rw [if_pos rfl,if_pos (by omega),if_pos (by omega)]
   have hh:=W0 (views.getD (e-1).toNat []) m.2.2.2.2.2.2.2.1 (MI m e) (by omega) (by omega)
   have hc:=((hm.new1 (e:=e) (by omega)).has (view:=views.getD (e-1).toNat []) (its:=m.2.2.2.2.2.2.2.1) rfl rfl hm.items).copy
   unfold MI at hh hc ⊢
   simp only [List.nil_append]
   rw [hh,X,hc]
   rfl)
 refine pz ?_
 unfold aF
 rw [we,we2,Ce _ _ (by unfold maxLen; omega),X]
 simp only [J1]
 rw [if_pos (show (0:Int)<=e-2 by omega),if_pos (show e-2<(views.length:Int) by omega)]
 cases m.2.2.2.1<;>cases (m.2.1==e-1)<;>cases (views.getD (e-2).toNat ([]:List Int)).contains m.1<;>rfl)
theorem W3 {m:AC} {views:List (List Int)} {e:Int} (hm:Jx m) (hv:S7 views):(FT m views e).2.2=true->Jx (FT m views e).1/\(FT m views e).1.1=m.1/\iJ m (FT m views e).1 (FT m views e).2.1/\(FT m views e).2.1.length<=4:=by
 intro h
 have hvl:=hv.len
 have hep:=hm.ep
 unfold FT at h ⊢
 split
 ·rename_i hc
  have he:1<=e/\e<=9:=by omega
  split
  ·have hw:=hv.wok (i:=(e-1).toNat) (by omega)
   refine ⟨(hm.new1 he).has rfl rfl hm.items,rfl,kz (n:=TH (MI m e) (views.getD (e-1).toNat []) m.2.2.2.2.2.2.2.1) hm.id he hw.mem (by omega) (by omega) hm.items (by simp),?_⟩
   simp only [List.length_map]
   have:=ID (views.getD (e-1).toNat []) m.1
   have:=hw.len
   omega
  ·have hw:=hv.wok (i:=(e-2).toNat) (by omega)
   refine ⟨hm.new1 he,rfl,kz (n:=MI m e) hm.id he hw.mem (by omega) (by omega) Rm (by simp),?_⟩
   simp only [List.length_map]
   have:=ID (views.getD (e-2).toNat []) m.1
   have:=hw.len
   omega
 ·rename_i hc
  rw [if_neg hc] at h
  cases h
def W4 (m:AC):AC:=(m.1,m.2.1,true,false,false,false,([]:List Int),([]:List AN),(0:Int),(0:Int),(0:Int),(0:Int),(ByteArray.empty,ByteArray.empty,(0:Int)),([]:List Int))
theorem vD (m:AC):cM m=some (W4 m):=yn rfl
theorem Jx.fall1 {m:AC} (h:Jx m):Jx (W4 m) :=
 ⟨h.id,h.ep,fun hs=>(by cases hs),fun hf=>⟨rfl,rfl⟩,⟨by simp [W4],by simp [W4]⟩,⟨by simp [W4],by simp [W4]⟩,Rm,⟨by simp [W4],by simp [W4]⟩,.inl eG⟩
def Eb (id:Int) (views:List (List Int)):AC :=
 (id,(1:Int),false,(views.getD 0 []).contains id,((views.getD 0 []).getD 0 0==id),((views.getD 0 []).getD 0 0==id),([]:List Int),([]:List AN),(0:Int),(0:Int),(0:Int),(0:Int),(ByteArray.empty,ByteArray.empty,(0:Int)),([]:List Int))
theorem fH (id:Int) (views:List (List Int)) (hi:1<=id/\id<=6) (hv:S7 views):OM id views=some (Eb id views,true):=mx (by
 have hvl:=hv.len
 have g:=hv.get (i:=0) (by omega)
 unfold WU
 rw [Gr hv,X,if_pos (by rfl),At,X,if_neg (by rw [<- Bool.decide_and,decide_eq_true hi]; simp)]
 refine eu ?_
 unfold RA
 rw [show views.getD (0:Int).toNat ([]:List Int)=views.getD 0 [] from rfl,Ce _ _ (by unfold maxLen; omega),X]
 repeat rw [if_pos (by omega)]
 rfl)
theorem Jx.first1 {id:Int} {views:List (List Int)} (hi:1<=id/\id<=6) (hv:S7 views):Jx (Eb id views):=by
 have hvl:=hv.len
 have g:=hv.get (i:=0) (by omega)
 refine ⟨hi,by simp [Eb],fun hs=>⟨?_,hs,rfl⟩,fun hf=>(by cases hf),⟨by simp [Eb],by simp [Eb]⟩,⟨by simp [Eb],by simp [Eb]⟩,Rm,⟨by simp [Eb],by simp [Eb]⟩,.inl eG⟩
 simp only [Eb,beq_iff_eq] at hs ⊢
 rw [<- hs,List.contains_iff_mem,AT (show 0<(views.getD 0 []).length by omega)]
 exact List.getElem_mem _

abbrev Hh:Type:=Int×ByteArray×ByteArray×Int×Int×Int×Int×Int×ByteArray
abbrev AQ:Type:=List (List Int)×List AC×List BS×List Hh
abbrev EC:Type:=Int×Int×Int×Int×ByteArray×ByteArray
def Ez:Hh:=((0:Int),ByteArray.empty,ByteArray.empty,(0:Int),(0:Int),(0:Int),(0:Int),(0:Int),ByteArray.empty)
def C1:BS:=((0:Int),(0:Int),(0:Int),(0:Int),(0:Int),([]:List AN))
def Au (g:AQ) (i:Nat):AC:=g.2.1.getD i Kl
theorem zj (g:AQ) (i:Nat):g.2.1.getD i ((0:Int),(0:Int),false,false,false,false,([]:List Int),([]:List AN),(0:Int),(0:Int),(0:Int),(0:Int),(ByteArray.empty,ByteArray.empty,(0:Int)),([]:List Int))=Au g i:=rfl
structure IY (g:AQ) (n:Nat):Prop where
 views:S7 g.1
 six:g.2.1.length=6
 mem:∀ i,i<6->Jx (Au g i)/\(Au g i).1=(i:Int)+1
 fly:∀ x∈g.2.2.1,XOk x
 flen:g.2.2.1.length<=8*n
 clen:g.2.2.2.length<=n
def S_ (at_:Int) (s:C9) (c:Hh):Hh :=
 (c.1,c.2.1,c.2.2.1,c.2.2.2.1,at_,s.2.2.2.2.2,s.2.1,s.2.2.1,if (c.1==2)=true then s.2.2.2.2.1 else c.2.2.2.2.2.2.2.2)
def JA (at_:Int) (cs:List Hh) (s:C9):List Hh :=
 if (decide (s.1>=(cs.length:Int))||decide ((cs.getD s.1.toNat Ez).2.2.2.2.1>=0))=true then cs else cs.set s.1.toNat (S_ at_ s (cs.getD s.1.toNat Ez))
def BL (g:AQ) (n:AC) (told:List BS) (said:List C9) (at_:Int):AQ :=
 (g.1,g.2.1.set (n.1-1).toNat n,g.2.2.1++told,said.foldl (JA at_) g.2.2.2)
theorem AA6 (at_:Int) (cs:List Hh) (s:C9):(JA at_ cs s).length=cs.length:=by unfold JA; split<;>simp
theorem Xz (at_:Int):∀ (said:List C9) (cs:List Hh),(said.foldl (JA at_) cs).length=cs.length
 | [],cs=>rfl
 | s::l,cs=>by rw [List.foldl_cons,Xz at_ l,AA6]
theorem xj {α:Type} {l:List α} {i:Nat} {a d:α} (h:i<l.length):(l.set i a).getD i d=a:=by simp [List.getD,h]
theorem G8 (n:AC) (told:List BS) (said:List C9) (at_:Int) (g:AQ) (hn:1<=n.1/\n.1<=6) (h6:g.2.1.length=6) (hf:g.2.2.1.length+told.length<=68719476736) (hc:g.2.2.2.length<=68719476736) (hs:nZ said) :
  Fj n told said at_ g=some (BL g n told said at_):=my (by
 have hsl:=hs.1
 unfold WV
 rw [Ac (show -9223372036854775808<=n.1-1/\n.1-1<=9223372036854775807 by omega)]
 simp only [List.nil_append,List.length_nil,Nat.zero_add]
 rw [if_pos (by omega),if_pos (by omega),if_pos (by omega),if_pos (by omega),if_pos (by omega)]
 have key:=Ee (n:=said.length) (P:=fun i=>∀ (cs:List Hh),cs.length<=68719476736->Cq said at_ (i:Int) (g.1,g.2.1.set (n.1-1).toNat n,g.2.2.1++told,cs) n (g.2.1.set (n.1-1).toNat n) (g.2.2.1++told)=some (g.1,g.2.1.set (n.1-1).toNat n,g.2.2.1++told,(said.drop i).foldl (JA at_) cs)) (fun cs hcs=>RE (by
  unfold KO
  rw [if_neg (by simp)]
  simp)) (fun i hi ih cs hcs=>RE (by
  unfold KO
  have hz:said.getD i ((0:Int),(0:Int),(0:Int),ByteArray.empty,ByteArray.empty,(0:Int))=said[i]:=AT hi
  have h0:=(hs.2 said[i] (List.getElem_mem hi)).1
  simp only [show ((i:Int)<(said.length:Int)) from by omega,decide_true,if_true,show (0:Int)<=(i:Int) from by omega,Int.toNat_natCast,hz,AK (show i<9223372036854775807 by omega)]
  have hz3:cs.getD said[i].1.toNat ((0:Int),ByteArray.empty,ByteArray.empty,(0:Int),(0:Int),(0:Int),(0:Int),(0:Int),ByteArray.empty)=cs.getD said[i].1.toNat Ez:=rfl
  rw [BF hi,List.foldl_cons,hz3]
  by_cases c1:said[i].1>=(cs.length:Int)
  ·rw [if_pos (by simpa using c1),ih cs hcs]
   have:JA at_ cs said[i]=cs:=by unfold JA; rw [if_pos (by simp [c1])]
   rw [this]
  ·rw [if_neg (by simpa using c1),if_pos (by omega),if_pos (by omega)]
   by_cases c2:(cs.getD said[i].1.toNat Ez).2.2.2.2.1>=0
   ·rw [if_pos (show decide ((cs.getD said[i].1.toNat Ez).2.2.2.2.1>=0)=true from decide_eq_true c2),ih cs hcs]
    have:JA at_ cs said[i]=cs:=by unfold JA; rw [if_pos (by rw [decide_eq_true c2,Bool.or_true])]
    rw [this]
   ·rw [if_neg (show ¬ decide ((cs.getD said[i].1.toNat Ez).2.2.2.2.1>=0)=true from fun h=>c2 (of_decide_eq_true h))]
    have hcl:said[i].1.toNat<cs.length:=by omega
    have e:JA at_ cs said[i]=cs.set said[i].1.toNat (S_ at_ said[i] (cs.getD said[i].1.toNat Ez)):=by unfold JA; rw [if_neg (by rw [decide_eq_false c1,decide_eq_false c2]; simp)]
    rw [e]
    refine ew ?_
    unfold RD
    have hz2:∀ (l:List Hh),l.getD said[i].1.toNat ((0:Int),ByteArray.empty,ByteArray.empty,(0:Int),(0:Int),(0:Int),(0:Int),(0:Int),ByteArray.empty)=l.getD said[i].1.toNat Ez:=fun l=>rfl
    simp only [List.nil_append,List.length_nil,Nat.zero_add,hz2,xj hcl,List.set_set,List.length_set]
    have hk:∀ r,(if cs.length<=68719476736 then r else (none:Option AQ))=r:=fun r=>if_pos hcs
    rw [if_pos (show cs.length<=68719476736 from hcs),if_pos (show (0:Int)<=said[i].1 from h0),if_pos (show said[i].1<(cs.length:Int) by omega),AK (show i<9223372036854775807 by omega)]
    unfold S_
    by_cases c3:(cs.getD said[i].1.toNat Ez).1=2
    ·rw [if_pos (show ((cs.getD said[i].1.toNat Ez).1==2)=true by simpa using c3),if_pos (show ((cs.getD said[i].1.toNat Ez).1==2)=true by simpa using c3)]
     exact ih _ (by simpa using hcs)
    ·rw [if_neg (show ¬ ((cs.getD said[i].1.toNat Ez).1==2)=true by simpa using c3),if_neg (show ¬ ((cs.getD said[i].1.toNat Ez).1==2)=true by simpa using c3)]
     exact ih _ (by simpa using hcs))) 0 (by omega) g.2.2.2 hc
 exact key)
theorem tu {g:AQ} {n:AC} {told:List BS} {said:List C9} {at_:Int} {i j:Nat} (h6:g.2.1.length=6) (hj:j<6) (hn:n.1=(i:Int)+1) (hi:i<6):Au (BL g n told said at_) j=if j=i then n else Au g j:=by
 unfold Au BL
 simp only [hn,show ((i:Int)+1-1).toNat=i from by omega]
 by_cases e:j=i
 ·subst e
  rw [if_pos rfl]
  exact xj (by omega)
 ·rw [if_neg e]
  simp [List.getD,List.getElem?_set,Ne.symm e]
theorem IY.member {g:AQ} {k:Nat} (h:IY g k) {n:AC} {told:List BS} {said:List C9} {at_:Int} {i:Nat} (hi:i<6) (hn:Jx n) (hid:n.1=(i:Int)+1) (ht:∀ y∈told,XOk y) (hl:told.length<=4):IY (BL g n told said at_) (k+1):=by
 refine ⟨h.views,by simp [BL,h.six],fun j hj=>?_,fun x hx=>?_,?_,?_⟩
 ·rw [tu h.six hj hid hi]
  split
  ·rename_i e
   subst e
   exact ⟨hn,hid⟩
  ·exact h.mem j hj
 ·rcases List.mem_append.1 hx with h1 | h1
  ·exact h.fly x h1
  ·exact ht x h1
 ·have:=h.flen
  simp only [BL,List.length_append]
  omega
 ·have:=h.clen
  simp only [BL,Xz]
  omega
def Hi (g:AQ) (at_:Int) (e:EC):AQ:=(g.1,g.2.1,g.2.2.1,g.2.2.2++[(e.2.2.2.1,e.2.2.2.2.1,e.2.2.2.2.2,at_,-1,0,0,0,ByteArray.empty)])
def KV (g:AQ) (at_:Int) (e:EC):Int×AQ :=
 if (Dj (Au g (e.2.1-1).toNat) g.1 e.2.2.2.1 (g.2.2.2.length:Int) e.2.2.2.2.1 e.2.2.2.2.2).2.2.2=true then
  (0,BL (Hi g at_ e) (Dj (Au g (e.2.1-1).toNat) g.1 e.2.2.2.1 (g.2.2.2.length:Int) e.2.2.2.2.1 e.2.2.2.2.2).1 (Dj (Au g (e.2.1-1).toNat) g.1 e.2.2.2.1 (g.2.2.2.length:Int) e.2.2.2.2.1 e.2.2.2.2.2).2.1 (Dj (Au g (e.2.1-1).toNat) g.1 e.2.2.2.1 (g.2.2.2.length:Int) e.2.2.2.2.1 e.2.2.2.2.2).2.2.1 at_)
 else (1,Hi g at_ e)
theorem k_ {e:EC} (h:Lc e=true):1<=e.1/\e.1<=6/\1<=e.2.1/\e.2.1<=6/\0<=e.2.2.1:=by
 unfold Lc at h
 simp only [Bool.and_eq_true,decide_eq_true_eq] at h
 omega
theorem AAM {m n:AC} {l:List BS} (h:iJ m n l):∀ y∈l,XOk y:=fun y hy=>(h y hy).1
theorem IY.began {at_:Int} {e:EC} {g:AQ} {k:Nat} (hg:IY g k) (hn:1<=e.2.1/\e.2.1<=6):IY (KV g at_ e).2 (k+1)/\(KV g at_ e).2.1=g.1:=by
 have hc:=hg.clen
 obtain ⟨m1,m2⟩:=hg.mem (e.2.1-1).toNat (by omega)
 have hb:=eI (op:=e.2.2.2.1) (call:=(g.2.2.2.length:Int)) (key:=e.2.2.2.2.1) (val:=e.2.2.2.2.2) m1 hg.views
 refine ⟨?_,?_⟩
 ·unfold KV
  split
  ·rename_i hq
   have hid:=hb.id hq
   have hm:=hg.member (said:=(Dj (Au g (e.2.1-1).toNat) g.1 e.2.2.2.1 (g.2.2.2.length:Int) e.2.2.2.2.1 e.2.2.2.2.2).2.2.1) (at_:=at_) (i:=(e.2.1-1).toNat) (by omega) (hb.mok hq) (by rw [hid,m2]) (AAM (hb.told hq)) hb.tlen
   exact ⟨hm.views,hm.six,hm.mem,hm.fly,hm.flen,by simp only [BL,Xz,Hi,List.length_append,List.length_cons,List.length_nil]; omega⟩
  ·exact ⟨hg.views,hg.six,hg.mem,hg.fly,by have:=hg.flen; show g.2.2.1.length<=_; omega,by simp only [Hi,List.length_append,List.length_cons,List.length_nil]; omega⟩
 ·unfold KV; split<;>rfl
theorem iK (at_:Int) (e:EC) (g:AQ) (k:Nat) (hg:IY g k) (hk:k<=1000) (hn:1<=e.2.1/\e.2.1<=6):Pu at_ e g=some (KV g at_ e)/\IY (KV g at_ e).2 (k+1)/\(KV g at_ e).2.1=g.1:=by
 have hc:=hg.clen
 have hf:=hg.flen
 have h6:=hg.six
 have wn:IntKind.i64.wrap (e.2.1-1)=e.2.1-1:=Ac (by omega)
 have wl:IntKind.i64.wrap (((g.2.2.2.length+1:Nat):Int)-1)=(g.2.2.2.length:Int):=by rw [Ac (by omega)]; omega
 obtain ⟨m1,m2⟩:=hg.mem (e.2.1-1).toNat (by omega)
 have hb:=eI (op:=e.2.2.2.1) (call:=(g.2.2.2.length:Int)) (key:=e.2.2.2.2.1) (val:=e.2.2.2.2.2) m1 hg.views
 refine ⟨pe ?_,hg.began hn⟩
 ·unfold Z0 KV
  simp only [List.nil_append,List.length_nil,Nat.zero_add,List.length_append,List.length_cons]
  rw [if_pos (by omega),if_pos (by omega),wn,if_pos (by omega),if_pos (by omega),wl,
   zj g (e.2.1-1).toNat,
   qR _ _ _ _ _ _ m1 hg.views,X]
  cases hq:(Dj (Au g (e.2.1-1).toNat) g.1 e.2.2.2.1 (g.2.2.2.length:Int) e.2.2.2.2.1 e.2.2.2.2.2).2.2.2 with
  | false=>rfl
  | true =>
   have hid:=hb.id hq
   have hmo:=hb.mok hq
   have htl:=hb.tlen
   rw [if_neg (by simp),if_pos rfl]
   have:=G8 (Dj (Au g (e.2.1-1).toNat) g.1 e.2.2.2.1 (g.2.2.2.length:Int) e.2.2.2.2.1 e.2.2.2.2.2).1 (Dj (Au g (e.2.1-1).toNat) g.1 e.2.2.2.1 (g.2.2.2.length:Int) e.2.2.2.2.1 e.2.2.2.2.2).2.1 (Dj (Au g (e.2.1-1).toNat) g.1 e.2.2.2.1 (g.2.2.2.length:Int) e.2.2.2.2.1 e.2.2.2.2.2).2.2.1 at_ (Hi g at_ e) hmo.id h6 (by show g.2.2.1.length+_<=_; omega) (by simp only [Hi,List.length_append,List.length_cons,List.length_nil]; omega) hb.said
   unfold Hi at this ⊢
   rw [this]
   rfl

def JT (g:AQ) (at_:Int) (m:AC) (node:Int):Nat->Int->Int×AQ
 | 0,_=>(1,g)
 | k+1,e=>if ((g.1.getD (e-1).toNat []).getD 0 0 != node)=true then JT g at_ m node k (e+1)
  else if (FT m g.1 e).2.2=true then (0,BL g (FT m g.1 e).1 (FT m g.1 e).2.1 [] at_) else (1,g)
def dg (g:AQ) (at_ node:Int):Int×AQ:=JT g at_ (Au g (node-1).toNat) node ((g.1.length:Int)-(Au g (node-1).toNat).2.1).toNat ((Au g (node-1).toNat).2.1+1)
theorem IY.up {g:AQ} {k:Nat} (h:IY g k):IY g (k+1):=⟨h.views,h.six,h.mem,h.fly,by have:=h.flen; omega,by have:=h.clen; omega⟩
theorem IY.adopted {at_ node:Int} {g:AQ} {k:Nat} (hg:IY g k) (hn:1<=node/\node<=6):∀ (j:Nat) (e:Int),IY (JT g at_ (Au g (node-1).toNat) node j e).2 (k+1)/\(JT g at_ (Au g (node-1).toNat) node j e).2.1=g.1
 | 0,_=>⟨hg.up,rfl⟩
 | j+1,e=>by
  obtain ⟨m1,m2⟩:=hg.mem (node-1).toNat (by omega)
  unfold JT
  split
  ·exact IY.adopted hg hn j (e+1)
  ·split
   ·rename_i hq
    obtain ⟨a1,a2,a3,a4⟩:=W3 (e:=e) m1 hg.views hq
    exact ⟨hg.member (i:=(node-1).toNat) (by omega) a1 (by rw [a2,m2]) (AAM a3) a4,rfl⟩
   ·exact ⟨hg.up,rfl⟩
theorem iL (at_ node:Int) (g:AQ) (k:Nat) (hg:IY g k) (hk:k<=1000) (hn:1<=node/\node<=6):Pv at_ node g=some (dg g at_ node)/\IY (dg g at_ node).2 (k+1)/\(dg g at_ node).2.1=g.1:=by
 have hc:=hg.clen
 have hf:=hg.flen
 have h6:=hg.six
 have hvl:=hg.views.len
 have wn:IntKind.i64.wrap (node-1)=node-1:=Ac (by omega)
 obtain ⟨m1,m2⟩:=hg.mem (node-1).toNat (by omega)
 have hep:=m1.ep
 have wm:IntKind.i64.wrap ((Au g (node-1).toNat).2.1+1)=(Au g (node-1).toNat).2.1+1:=Ac (by omega)
 have key:∀ (j:Nat) (e:Int),e=(g.1.length:Int)+1-(j:Int)->2<=e->H7 at_ node e g (Au g (node-1).toNat)=some (JT g at_ (Au g (node-1).toNat) node j e):=by
  intro j
  induction j with
  | zero =>
   intro e he h2
   refine La ?_
   unfold H8
   rw [if_neg (by simp; omega)]
   rfl
  | succ j ih =>
   intro e he h2
   have we:IntKind.i64.wrap (e-1)=e-1:=Ac (by omega)
   have we2:IntKind.i64.wrap (e+1)=e+1:=Ac (by omega)
   have gv:=hg.views.get (i:=(e-1).toNat) (by omega)
   have ha:=W3 (e:=e) m1 hg.views
   have i1:=ih (e+1) (by omega) (by omega)
   unfold JT
   refine La ?_
   ·unfold H8
    rw [if_pos (by simp; omega),we,we2,if_pos (by omega),if_pos (by omega),if_pos (by omega),if_pos (by omega),show (g.1.getD (e-1).toNat ([]:List Int)).getD (0:Int).toNat 0=(g.1.getD (e-1).toNat []).getD 0 0 from rfl]
    by_cases h3:((g.1.getD (e-1).toNat []).getD 0 0 != node)=true
    ·rw [if_pos h3,if_pos h3,i1]
    ·rw [if_neg h3,if_neg h3,qS _ _ _ m1 hg.views,X]
     cases hq:(FT (Au g (node-1).toNat) g.1 e).2.2 with
     | false=>rfl
     | true =>
      obtain ⟨a1,a2,a3,a4⟩:=ha hq
      rw [if_neg (by simp),if_pos rfl,G8 _ _ _ _ _ a1.id h6 (by omega) (by omega) F6]
      rfl
 have hmain:=key ((g.1.length:Int)-(Au g (node-1).toNat).2.1).toNat ((Au g (node-1).toNat).2.1+1)
 by_cases hle:(Au g (node-1).toNat).2.1<=(g.1.length:Int)
 ·have k1:=hmain (by omega) (by omega)
  refine ⟨Z1 ?_,hg.adopted hn _ _⟩
  unfold QJ
  rw [wn,if_pos (by omega),if_pos (by omega),zj g (node-1).toNat,wm]
  exact k1
 ·have e0:((g.1.length:Int)-(Au g (node-1).toNat).2.1).toNat=0:=by omega
  unfold dg
  rw [e0]
  refine ⟨Z1 ?_,hg.up,rfl⟩
  unfold QJ
  rw [wn,if_pos (by omega),if_pos (by omega),zj g (node-1).toNat,wm]
  refine La ?_
  unfold H8
  rw [if_neg (fun h=>hle (by have:=of_decide_eq_true h; omega))]
  rfl
def FC (g:AQ) (i:Nat):AQ:=(g.1,g.2.1,g.2.2.1.take i++g.2.2.1.drop (i+1),g.2.2.2)
def iM (g:AQ) (at_:Int) (e:EC):Int×AQ :=
 if g.2.2.1=[] then (1,g)
 else if e.1=4 then (0,(g.1,g.2.1,g.2.2.1++[g.2.2.1.getD (e.2.2.1 % (g.2.2.1.length:Int)).toNat C1],g.2.2.2))
 else if e.1=3 then (0,FC g (e.2.2.1 % (g.2.2.1.length:Int)).toNat)
 else (0,BL (FC g (e.2.2.1 % (g.2.2.1.length:Int)).toNat)
  (Di (Au g ((g.2.2.1.getD (e.2.2.1 % (g.2.2.1.length:Int)).toNat C1).2.2.1-1).toNat) g.1 (g.2.2.1.getD (e.2.2.1 % (g.2.2.1.length:Int)).toNat C1)).1
  (Di (Au g ((g.2.2.1.getD (e.2.2.1 % (g.2.2.1.length:Int)).toNat C1).2.2.1-1).toNat) g.1 (g.2.2.1.getD (e.2.2.1 % (g.2.2.1.length:Int)).toNat C1)).2.1
  (Di (Au g ((g.2.2.1.getD (e.2.2.1 % (g.2.2.1.length:Int)).toNat C1).2.2.1-1).toNat) g.1 (g.2.2.1.getD (e.2.2.1 % (g.2.2.1.length:Int)).toNat C1)).2.2 at_)
theorem IY.less {g:AQ} {k:Nat} (h:IY g k) (i:Nat):IY (FC g i) k:=by
 refine ⟨h.views,h.six,h.mem,fun x hx=>?_,?_,h.clen⟩
 ·rcases List.mem_append.1 hx with h1 | h1
  ·exact h.fly x (List.mem_of_mem_take h1)
  ·exact h.fly x (List.mem_of_mem_drop h1)
 ·have:=h.flen
  simp only [FC,List.length_append,List.length_take,List.length_drop]
  omega
theorem IY.flew {at_:Int} {e:EC} {g:AQ} {k:Nat} (hg:IY g k):IY (iM g at_ e).2 (k+1)/\(iM g at_ e).2.1=g.1:=by
 have hc:=hg.clen
 have hf:=hg.flen
 unfold iM
 split
 ·exact ⟨hg.up,rfl⟩
 ·rename_i h0
  have hl:0<g.2.2.1.length:=List.length_pos_iff.2 h0
  have hr0:=Int.emod_nonneg e.2.2.1 (show (g.2.2.1.length:Int)≠0 by omega)
  have hr1:=Int.emod_lt_of_pos e.2.2.1 (show 0<(g.2.2.1.length:Int) by omega)
  generalize hq:e.2.2.1 % (g.2.2.1.length:Int)=q at hr0 hr1
  have hx:=hg.fly (g.2.2.1.getD q.toNat C1) (by rw [AT (show q.toNat<g.2.2.1.length by omega)]; exact List.getElem_mem _)
  have hto:=hx.to
  obtain ⟨m1,m2⟩:=hg.mem ((g.2.2.1.getD q.toNat C1).2.2.1-1).toNat (by omega)
  have hh:=Pg (x:=g.2.2.1.getD q.toNat C1) m1 hg.views
  have hless:=hg.less q.toNat
  split
  ·refine ⟨⟨hg.views,hg.six,hg.mem,fun x hx'=>?_,by simp only [List.length_append,List.length_cons,List.length_nil]; omega,by show g.2.2.2.length<=_; omega⟩,rfl⟩
   rcases List.mem_append.1 hx' with h1 | h1
   ·exact hg.fly x h1
   ·simp only [List.mem_singleton] at h1; subst h1; exact hx
  ·split
   ·exact ⟨hless.up,rfl⟩
   ·exact ⟨hless.member (i:=((g.2.2.1.getD q.toNat C1).2.2.1-1).toNat) (by omega) hh.mok (by rw [hh.id,m2]) (AAM hh.told) hh.tlen,rfl⟩
theorem na (at_:Int) (e:EC) (g:AQ) (k:Nat) (hg:IY g k) (hk:k<=1000) (hn:0<=e.2.2.1):Ux at_ e g=some (iM g at_ e)/\IY (iM g at_ e).2 (k+1)/\(iM g at_ e).2.1=g.1:=by
 have hc:=hg.clen
 have hf:=hg.flen
 have h6:=hg.six
 have hvl:=hg.views.len
 refine ⟨uz ?_,hg.flew⟩
 by_cases h0:g.2.2.1=[]
 ·unfold iM
  rw [if_pos h0]
  unfold Uz
  rw [h0,if_pos (by rfl)]
 ·have hl:0<g.2.2.1.length:=List.length_pos_iff.2 h0
  have hm:Int.tmod e.2.2.1 (g.2.2.1.length:Int)=e.2.2.1 % (g.2.2.1.length:Int):=Int.tmod_eq_emod_of_nonneg hn
  have hr0:=Int.emod_nonneg e.2.2.1 (show (g.2.2.1.length:Int)≠0 by omega)
  have hr1:=Int.emod_lt_of_pos e.2.2.1 (show 0<(g.2.2.1.length:Int) by omega)
  generalize hq:e.2.2.1 % (g.2.2.1.length:Int)=q at hm hr0 hr1
  have hx:=hg.fly (g.2.2.1.getD q.toNat C1) (by rw [AT (show q.toNat<g.2.2.1.length by omega)]; exact List.getElem_mem _)
  have wq:IntKind.i64.wrap (q+1)=q+1:=Ac (by omega)
  have hto:=hx.to
  have wt:IntKind.i64.wrap ((g.2.2.1.getD q.toNat C1).2.2.1-1)=(g.2.2.1.getD q.toNat C1).2.2.1-1:=Ac (by omega)
  obtain ⟨m1,m2⟩:=hg.mem ((g.2.2.1.getD q.toNat C1).2.2.1-1).toNat (by omega)
  have hh:=Pg (x:=g.2.2.1.getD q.toNat C1) m1 hg.views
  have hless:=hg.less q.toNat
  have hxl:=Jy hx.items
  have hz:g.2.2.1.getD q.toNat ((0:Int),(0:Int),(0:Int),(0:Int),(0:Int),([]:List AN))=g.2.2.1.getD q.toNat C1:=rfl
  have hz2:∀ i,g.2.1.getD i ((0:Int),(0:Int),false,false,false,false,([]:List Int),([]:List AN),(0:Int),(0:Int),(0:Int),(0:Int),(ByteArray.empty,ByteArray.empty,(0:Int)),([]:List Int))=Au g i:=fun i=>rfl
  have e1:(g.2.2.1.take q.toNat).drop (0:Int).toNat=g.2.2.1.take q.toNat:=rfl
  have e2:(g.2.2.1.take (g.2.2.1.length:Int).toNat).drop (q+1).toNat=g.2.2.1.drop (q.toNat+1):=by
   rw [show (g.2.2.1.length:Int).toNat=g.2.2.1.length from by omega,List.take_length,show (q+1).toNat=q.toNat+1 from by omega]
  unfold iM
  rw [if_neg h0,hq]
  ·unfold Uz
   rw [if_neg (by simp; exact h0),if_neg (by omega),hm,hz,wq,wt,hz2,e1,e2,if_pos hr0,if_pos hr1]
   simp only [List.nil_append,List.length_nil,Nat.zero_add]
   by_cases h4:e.1=4
   ·rw [if_pos (by simpa using h4),if_pos h4,if_pos (by omega),if_pos (by simp; omega)]
   ·rw [if_neg (by simpa using h4),if_neg h4,if_pos (by omega),if_pos hr0,if_pos (by omega),if_pos (by omega),if_pos (by omega),if_pos (by omega),if_pos (by simp; omega),if_pos (by simp; omega)]
    by_cases h3:e.1=3
    ·rw [if_pos (by simpa using h3),if_pos h3]
     rfl
    ·rw [if_neg (by simpa using h3),if_neg h3,if_pos (by omega),if_pos (by omega),ky _ _ _ m1 hg.views (by omega),X]
     have htl:=hh.tlen
     have:=G8 (Di (Au g ((g.2.2.1.getD q.toNat C1).2.2.1-1).toNat) g.1 (g.2.2.1.getD q.toNat C1)).1 (Di (Au g ((g.2.2.1.getD q.toNat C1).2.2.1-1).toNat) g.1 (g.2.2.1.getD q.toNat C1)).2.1 (Di (Au g ((g.2.2.1.getD q.toNat C1).2.2.1-1).toNat) g.1 (g.2.2.1.getD q.toNat C1)).2.2 at_ (FC g q.toNat) hh.mok.id h6 (by have:=hless.flen; omega) (by have:=hless.clen; omega) hh.said
     unfold FC at this ⊢
     rw [this]
     rfl
def tv (g:AQ) (at_:Int) (e:EC):Int×AQ :=
 if e.1=1 then KV g at_ e else if e.1=5 then dg g at_ e.2.1
 else if e.1=6 then (0,BL g (W4 (Au g (e.2.1-1).toNat)) [] [] at_) else iM g at_ e
theorem IY.event {at_:Int} {e:EC} {g:AQ} {k:Nat} (hg:IY g k) (he:Lc e=true):IY (tv g at_ e).2 (k+1)/\(tv g at_ e).2.1=g.1:=by
 have hn:=k_ he
 unfold tv
 split
 ·exact hg.began (by omega)
 ·split
  ·exact hg.adopted (by omega) _ _
  ·split
   ·obtain ⟨m1,m2⟩:=hg.mem (e.2.1-1).toNat (by omega)
    exact ⟨hg.member (i:=(e.2.1-1).toNat) (by omega) m1.fall1 m2 (fun y hy=>by cases hy) (by simp),rfl⟩
   ·exact hg.flew
theorem aR (at_:Int) (e:EC) (g:AQ) (k:Nat) (hg:IY g k) (hk:k<=1000) (he:Lc e=true):Rc at_ e g=some (tv g at_ e)/\IY (tv g at_ e).2 (k+1)/\(tv g at_ e).2.1=g.1:=by
 have hn:=k_ he
 have h6:=hg.six
 have hc:=hg.clen
 have hf:=hg.flen
 refine ⟨xU ?_,hg.event he⟩
 unfold tv
 by_cases h1:e.1=1
 ·have a:=(iK at_ e g k hg hk (by omega)).1
  rw [if_pos h1]
  unfold NB
  rw [if_pos (by simpa using h1),a]
  rfl
 ·rw [if_neg h1]
  by_cases h5:e.1=5
  ·have a:=(iL at_ e.2.1 g k hg hk (by omega)).1
   rw [if_pos h5]
   unfold NB
   rw [if_neg (by simpa using h1),if_pos (by simpa using h5),a]
   rfl
  ·rw [if_neg h5]
   by_cases h7:e.1=6
   ·obtain ⟨m1,m2⟩:=hg.mem (e.2.1-1).toNat (by omega)
    rw [if_pos h7]
    have wn:IntKind.i64.wrap (e.2.1-1)=e.2.1-1:=Ac (by omega)
    unfold NB
    rw [if_neg (by simpa using h1),if_neg (by simpa using h5),if_pos (by simpa using h7),wn,if_pos (by omega),if_pos (by omega),
     zj g (e.2.1-1).toNat,
     vD,X,G8 _ _ _ _ _ m1.fall1.id h6 (by simp; omega) (by omega) F6]
    rfl
   ·have a:=(na at_ e g k hg hk (by omega)).1
    rw [if_neg h7]
    unfold NB
    rw [if_neg (by simpa using h1),if_neg (by simpa using h5),if_neg (by simpa using h7),a]
    rfl

theorem Nc (x:List (List Int)) (h:x.length<=1000) (ho:∀ a∈x,a.length<=1000):G5 x=some x:=er (by
 unfold Q9
 have key:=Ee (n:=x.length) (P:=fun i=>FR x (i:Int) (x.take i)=some x) (NN (by
  unfold H6
  rw [if_neg (by simp),List.take_length])) (fun i hi ih=>NN (by
  unfold H6
  have:=ho x[i] (List.getElem_mem hi)
  simp only [show ((i:Int)<(x.length:Int)) from by omega,decide_true,if_true,show (0:Int)<=(i:Int) from by omega,Int.toNat_natCast,AT hi,AK (show i<9223372036854775807 by omega),List.nil_append,List.length_nil,Nat.zero_add,List.length_cons,List.length_take]
  rw [if_pos (by omega),if_pos (by omega),List.take_append_getElem]
  exact ih)) 0 (by omega)
 exact key)
theorem az (x:List BS) (h:x.length<=100000) (ho:∀ a∈x,a.2.2.2.2.2.length<=1000):LH x=some x:=h_ (by
 unfold S0
 have key:=Ee (n:=x.length) (P:=fun i=>D1 x (i:Int) (x.take i)=some x) (Nx (by
  unfold Ih
  rw [if_neg (by simp),List.take_length])) (fun i hi ih=>Nx (by
  unfold Ih
  have:=ho x[i] (List.getElem_mem hi)
  simp only [show ((i:Int)<(x.length:Int)) from by omega,decide_true,if_true,show (0:Int)<=(i:Int) from by omega,Int.toNat_natCast,AT hi,AK (show i<9223372036854775807 by omega),List.nil_append,List.length_nil,Nat.zero_add,List.length_cons,List.length_take]
  rw [if_pos (by omega),if_pos (by omega)]
  change D1 x _ (x.take i++[x[i]])=_
  rw [List.take_append_getElem]
  exact ih)) 0 (by omega)
 exact key)
theorem lA (g:AQ) (k:Nat) (hg:IY g k) (hk:k<=1000):SI g=some g:=tA (by
 have hvl:=hg.views.len
 have hc:=hg.clen
 have hf:=hg.flen
 have h6:=hg.six
 unfold cd
 rw [Nc g.1 (by omega) (fun a ha=>by have:=hg.views.view ha; omega),X,az g.2.2.1 (by omega) (fun a ha=>by have:=Jy (hg.fly a ha).items; omega),X,if_pos (by simp; omega)]
 have key:∀ (a b c d e:_),Gf ((0:Nat):Int) g.1 g.2.1 g.2.2.1 g.2.2.2 a b c d e [] g.1 g.2.2.1 ([]++g.2.2.2)=some g:=by
  intro a b c d e
  have key':=Ee (n:=g.2.1.length) (P:=fun i=>Gf (i:Int) g.1 g.2.1 g.2.2.1 g.2.2.2 a b c d e (g.2.1.take i) g.1 g.2.2.1 ([]++g.2.2.2)=some g) (UE (by
   unfold NC
   rw [if_neg (by simp),List.take_length]
   rfl)) (fun i hi ih=>UE (by
   unfold NC
   have hm:=(hg.mem i (by omega)).1
   unfold Au at hm
   rw [AT hi] at hm
   simp only [show ((i:Int)<(g.2.1.length:Int)) from by omega,decide_true,if_true,show (0:Int)<=(i:Int) from by omega,Int.toNat_natCast,AT hi,hm.copy,X,AK (show i<9223372036854775807 by omega),List.length_take,List.length_cons,List.length_nil]
   rw [if_pos (by omega),List.take_append_getElem]
   exact ih)) 0 (by omega)
  exact key'
 exact key _ _ _ _ _)
def Ag (views:List (List Int)):AQ:=(views,[Eb 1 views,Eb 2 views,Eb 3 views,Eb 4 views,Eb 5 views,Eb 6 views],[],[])
theorem Rn {views:List (List Int)} (hv:S7 views):IY (Ag views) 0:=by
 refine ⟨hv,rfl,fun i hi=>?_,fun x hx=>(by cases hx),(by simp [Ag]),(by simp [Ag])⟩
 have h5:i=0\/i=1\/i=2\/i=3\/i=4\/i=5:=by omega
 rcases h5 with rfl | rfl | rfl | rfl | rfl | rfl<;>exact ⟨Jx.first1 (by omega) hv,rfl⟩
theorem Nd {views:List (List Int)} (hv:S7 views):Ku views=some (Ag views,true):=pZ (by
 have hvl:=hv.len
 unfold Zw
 rw [Gr hv,X,if_neg (by simp),Nc views (by omega) (fun a ha=>by have:=hv.view ha; omega),X]
 have step:∀ (i:Nat) (a:_) (b:_) (c:_) (d:_) (l:List AC) r,1<=i->i<=6->l.length<=6->Fx views ((i+1:Nat):Int) a b c d (l++[Eb (i:Int) views]) views=some r->Fx views (i:Int) a b c d l views=some r:=by
  intro i a b c d l r h1 h6 hl hr
  refine Ss ?_
  unfold LX
  rw [if_pos (by simp; omega),fH _ _ (by omega) hv,X,if_pos (by simp; omega),AK (show i<9223372036854775807 by omega)]
  exact hr
 refine step 1 _ _ _ _ _ _ (by omega) (by omega) (by simp) ?_
 refine step 2 _ _ _ _ _ _ (by omega) (by omega) (by simp) ?_
 refine step 3 _ _ _ _ _ _ (by omega) (by omega) (by simp) ?_
 refine step 4 _ _ _ _ _ _ (by omega) (by omega) (by simp) ?_
 refine step 5 _ _ _ _ _ _ (by omega) (by omega) (by simp) ?_
 refine step 6 _ _ _ _ _ _ (by omega) (by omega) (by simp) ?_
 refine Ss ?_
 unfold LX
 rw [if_neg (by decide)]
 rfl)
def JU:Nat->List EC->AQ->List Int->AQ×List Int
 | _,[],g,cs=>(g,cs)
 | n,e::es,g,cs=>JU (n+1) es (tv g (n:Int) e).2 (cs++[(tv g (n:Int) e).1])
theorem qj:∀ (es:List EC) (n:Nat) (g:AQ) (cs:List Int),IY g n->n+es.length<=70->(∀ e∈es,Lc e=true)->IY (JU n es g cs).1 (n+es.length)/\(JU n es g cs).1.1=g.1/\(JU n es g cs).2.length=cs.length+es.length
 | [],n,g,cs,hg,_,_=>⟨hg,rfl,rfl⟩
 | e::es,n,g,cs,hg,hn,he=>by
  simp only [List.length_cons] at hn
  obtain ⟨h2,h3⟩:=hg.event (at_:=(n:Int)) (he e (by simp))
  obtain ⟨h4,h5,h6⟩:=qj es (n+1) _ (cs++[(tv g (n:Int) e).1]) h2 (by omega) (fun x hx=>he x (by simp [hx]))
  refine ⟨?_,h5.trans h3,?_⟩
  ·have:n+(e::es).length=n+1+es.length:=by simp only [List.length_cons]; omega
   rw [this]
   exact h4
  ·simp only [JU,h6,List.length_append,List.length_cons,List.length_nil]
   omega
theorem lB {views:List (List Int)} {events:List EC} (hv:S7 views) (hl:events.length<=70) (he:∀ e∈events,Lc e=true) :
  Pq views events=some ((JU 0 events (Ag views) []).1,(JU 0 events (Ag views) []).2,true):=o8 (by
 have hg:=Rn hv
 obtain ⟨r1,r2,r3⟩:=qj events 0 (Ag views) [] hg (by omega) he
 unfold ZQ
 rw [Nd hv,X]
 have L3:∀ y,Fv events ((0:Nat):Int) y (Ag views) []=some ((JU 0 events (Ag views) []).1,(JU 0 events (Ag views) []).2,true):=by
  intro y
  have key:=Ee (n:=events.length) (P:=fun i=>∀ (g:AQ) (cs:List Int),IY g i->cs.length=i->JU i (events.drop i) g cs=JU 0 events (Ag views) []->Fv events (i:Int) y g cs=some ((JU 0 events (Ag views) []).1,(JU 0 events (Ag views) []).2,true)) (fun g cs hgi hcs hr=>SY (by
   unfold LP
   rw [if_neg (by simp),lA g events.length hgi (by omega),X]
   rw [List.drop_eq_nil_of_le (Nat.le_refl _)] at hr
   rw [<- hr]
   rfl)) (fun i hi ih g cs hgi hcs hr=>SY (by
   unfold LP
   obtain ⟨d1,d2,_⟩:=aR (i:Int) events[i] g i hgi (by omega) (he _ (List.getElem_mem hi))
   simp only [show ((i:Int)<(events.length:Int)) from by omega,decide_true,if_true,show (0:Int)<=(i:Int) from by omega,Int.toNat_natCast,AT hi,d1,X,AK (show i<9223372036854775807 by omega)]
   rw [if_pos (by simp; omega)]
   refine ih _ _ d2 (by simp; omega) ?_
   rw [BF hi] at hr
   exact hr)) 0 (by omega) (Ag views) [] hg rfl rfl
  exact key
 have L0:∀ y,D8 events true ((0:Nat):Int) y (Ag views)=some ((JU 0 events (Ag views) []).1,(JU 0 events (Ag views) []).2,true):=by
  intro y
  have J2:Hw events true y (Ag views)=some ((JU 0 events (Ag views) []).1,(JU 0 events (Ag views) []).2,true):=gV (by
   unfold SX
   rw [if_neg (by simp)]
   exact L3 y)
  refine Ee (n:=events.length) (P:=fun i=>D8 events true (i:Int) y (Ag views)=some ((JU 0 events (Ag views) []).1,(JU 0 events (Ag views) []).2,true)) (SZ (by
   unfold LQ
   rw [if_neg (by simp)]
   exact J2)) (fun i hi ih=>SZ (by
   unfold LQ
   rw [if_pos (by simpa using hi),if_pos rfl]
   refine gU ?_
   unfold SW
   have hz:events.getD i ((0:Int),(0:Int),(0:Int),(0:Int),ByteArray.empty,ByteArray.empty)=events[i]:=AT hi
   rw [if_pos (by simp; omega),if_pos (by omega),if_pos (by omega),Int.toNat_natCast,hz,kj,he _ (List.getElem_mem hi),X,AK (show i<9223372036854775807 by omega)]
   exact ih)) 0 (by omega)
 exact L0 _)
theorem iN (d:Pd) (h:aQ d):∃ v d',Pt d=some (v,d')/\aQ d'/\S7 v:=by
 have inner:∀ (m j:Nat),j+m=3->∀ (i:Int) (d:Pd) (vs:List (List Int)) (v:List Int),aQ d->0<=i->vs.length<=10->v.length<=j->(j=0\/1<=v.length)->(∀ a∈v,1<=a/\a<=6)->v.Nodup ->
   ∃ v' d',WOk v'/\aQ d'/\∀ r,F0 (IntKind.i64.wrap (i+1)) d' (vs++[v'])=some r->Fz i (j:Int) d vs v=some r:=by
  intro m
  induction m with
  | zero =>
   intro j hj i d vs v hd hi hvs hv h1 hm hnd
   obtain ⟨y,d1,e1,k1,y0,y1⟩:=Bl 3 d hd
   have y1:=y1 (by omega)
   refine ⟨v,d1,⟨by omega,hm,hnd⟩,k1,fun r hr=>H5 ?_⟩
   unfold F3
   have wy:IntKind.i64.wrap (1+y)=1+y:=Ac (by omega)
   rw [e1,X,wy,if_neg (by simp; omega),if_pos (by simp; omega)]
   exact hr
  | succ m ih =>
   intro j hj i d vs v hd hi hvs hv h1 hm hnd
   obtain ⟨y,d1,e1,k1,y0,y1⟩:=Bl 3 d hd
   have y1:=y1 (by omega)
   have wy:IntKind.i64.wrap (1+y)=1+y:=Ac (by omega)
   by_cases hlt:(j:Int)<1+y
   ·obtain ⟨z,d2,e2,k2,z0,z1⟩:=Bl 4 d1 k1
    have z1:=z1 (by omega)
    have wz:IntKind.i64.wrap (1+z)=1+z:=Ac (by omega)
    by_cases hc:v.contains (1+z)=true
    ·obtain ⟨v',d',w1,w2,w3⟩:=ih (j+1) (by omega) i d2 vs v k2 hi hvs (by omega) (.inr (by
      cases v with
      | nil=>simp at hc
      | cons a v=>simp)) hm hnd
     refine ⟨v',d',w1,w2,fun r hr=>H5 ?_⟩
     unfold F3
     rw [e1,X,wy,if_pos (by simpa using hlt),e2,X,wz,Ce v _ (by unfold maxLen; omega),X,hc,if_neg (by simp),AK (show j<9223372036854775807 by omega)]
     exact w3 r hr
    ·have hc':v.contains (1+z)=false:=by simpa using hc
     obtain ⟨v',d',w1,w2,w3⟩:=ih (j+1) (by omega) i d2 vs (v++[1+z]) k2 hi hvs (by simp; omega) (.inr (by simp)) (fun a ha=>by
      rcases List.mem_append.1 ha with h | h
      ·exact hm a h
      ·simp only [List.mem_singleton] at h; omega) (by
      rw [List.nodup_append]
      refine ⟨hnd,by simp,fun a ha b hb e=>?_⟩
      simp only [List.mem_singleton] at hb
      subst hb
      subst e
      rw [List.contains_iff_mem.2 ha] at hc'
      cases hc')
     refine ⟨v',d',w1,w2,fun r hr=>H5 ?_⟩
     unfold F3
     rw [e1,X,wy,if_pos (by simpa using hlt),e2,X,wz,Ce v _ (by unfold maxLen; omega),X,hc',if_pos (by rfl),if_pos (by simp; omega),AK (show j<9223372036854775807 by omega)]
     exact w3 r hr
   ·refine ⟨v,d1,⟨by omega,hm,hnd⟩,k1,fun r hr=>H5 ?_⟩
    unfold F3
    rw [e1,X,wy,if_neg (by simpa using hlt),if_pos (by simp; omega)]
    exact hr
 have outer:∀ (m i:Nat),i+m=5->∀ (d:Pd) (vs:List (List Int)),aQ d->vs.length=i->(∀ v∈vs,WOk v)->∃ v' d',F0 (i:Int) d vs=some (v',d')/\aQ d'/\S7 v':=by
  have fin:∀ (vs:List (List Int)),1<=vs.length->vs.length<=5->(∀ v∈vs,WOk v)->S7 vs:=fun vs h1 h2 h3=>⟨Kk.2 ⟨fun v hv=>AAK.2 (h3 v hv),h1,by omega⟩⟩
  intro m
  induction m with
  | zero =>
   intro i hi d vs hd hl hv
   obtain ⟨y,d1,e1,k1,y0,y1⟩:=Bl 5 d hd
   have y1:=y1 (by omega)
   have wy:IntKind.i64.wrap (1+y)=1+y:=Ac (by omega)
   refine ⟨vs,d1,LZ ?_,k1,fin vs (by omega) (by omega) hv⟩
   unfold Hz
   rw [e1,X,wy,if_neg (by simp; omega)]
  | succ m ih =>
   intro i hi d vs hd hl hv
   obtain ⟨y,d1,e1,k1,y0,y1⟩:=Bl 5 d hd
   have y1:=y1 (by omega)
   have wy:IntKind.i64.wrap (1+y)=1+y:=Ac (by omega)
   by_cases hlt:(i:Int)<1+y
   ·obtain ⟨v',d2,w1,k2,w3⟩:=inner 3 0 (by omega) (i:Int) d1 vs [] k1 (by omega) (by omega) (by simp) (.inl rfl) (by simp) (by simp)
    obtain ⟨r1,d3,q1,q2,q3⟩:=ih (i+1) (by omega) d2 (vs++[v']) k2 (by simp; omega) (fun v hv'=>by
     rcases List.mem_append.1 hv' with h | h
     ·exact hv v h
     ·simp only [List.mem_singleton] at h; subst h; exact w1)
    refine ⟨r1,d3,LZ ?_,q2,q3⟩
    unfold Hz
    rw [e1,X,wy,if_pos (by simpa using hlt)]
    exact w3 _ (by rw [AK (show i<9223372036854775807 by omega)]; exact q1)
   ·have hi1:1<=i:=by omega
    refine ⟨vs,d1,LZ ?_,k1,fin vs (by omega) (by omega) hv⟩
    unfold Hz
    rw [e1,X,wy,if_neg (by simpa using hlt)]
 obtain ⟨v,d',e,k,hv⟩:=outer 5 0 (by omega) d [] h rfl (fun v hv=>by cases hv)
 exact ⟨v,d',pd (by unfold Zy; exact e),k,hv⟩

theorem lC (d:Pd) (g:AQ) (k:Nat) (h:aQ d) (hg:IY g k):∃ e d',SJ d g=some (e,d',g)/\aQ d'/\Lc e=true:=by
 have hvl:=hg.views.len
 have h6:=hg.six
 have ev:∀ (kd nd at_:Int),2<=kd/\kd<=6->1<=nd/\nd<=6->0<=at_->Lc (kd,nd,at_,0,ByteArray.empty,ByteArray.empty)=true:=by
  intro kd nd at_ h1 h2 h3
  unfold Lc
  simp only [show decide (1<=kd)=true from decide_eq_true (by omega),show decide (kd<=6)=true from decide_eq_true (by omega),show decide (1<=nd)=true from decide_eq_true (by omega),show decide (nd<=6)=true from decide_eq_true (by omega),show decide (0<=at_)=true from decide_eq_true h3,if_neg (show ¬ kd=1 by omega)]
  simp [xh]
 have ev1:∀ (nd at_ op:Int) (key val:ByteArray),1<=nd/\nd<=6->0<=at_->kh op key val=true->Lc (1,nd,at_,op,key,val)=true:=by
  intro nd at_ op key val h2 h3 h4
  unfold Lc
  simp only [show decide (1<=nd)=true from decide_eq_true (by omega),show decide (nd<=6)=true from decide_eq_true (by omega),show decide (0<=at_)=true from decide_eq_true h3,if_true,h4]
  rfl
 have L3:∀ (m i:Nat),i+m=6->∀ (d:Pd) (nd at_ op:Int) (key val:ByteArray) (a b c:_),aQ d->1<=nd/\nd<=6->∃ nd' d',De (i:Int) d g a (1,nd,at_,op,key,val) b c=some ((1,nd',at_,op,key,val),d',g)/\aQ d'/\1<=nd'/\nd'<=6:=by
  intro m
  induction m with
  | zero =>
   intro i hi d nd at_ op key val a b c hd hn
   refine ⟨nd,d,Iz ?_,hd,hn⟩
   unfold Gi
   rw [if_neg (by simp; omega)]
  | succ m ih =>
   intro i hi d nd at_ op key val a b c hd hn
   have ws:=AK (show i<9223372036854775807 by omega)
   by_cases hs:(Au g i).2.2.2.2.2.1=true
   ·obtain ⟨o,d1,e1,k1⟩:=I_ 4 d hd
    cases o
    ·obtain ⟨nd',d',e2,k2,n2⟩:=ih (i+1) (by omega) d1 ((i+1:Nat):Int) at_ op key val a b c k1 (by omega)
     refine ⟨nd',d',Iz ?_,k2,n2⟩
     unfold Gi
     rw [if_pos (by simp; omega),if_pos (by omega),if_pos (by omega),Int.toNat_natCast,zj g i,if_pos hs,e1,X,if_pos (by rfl),ws]
     exact e2
    ·obtain ⟨nd',d',e2,k2,n2⟩:=ih (i+1) (by omega) d1 nd at_ op key val a b c k1 hn
     refine ⟨nd',d',Iz ?_,k2,n2⟩
     unfold Gi
     rw [if_pos (by simp; omega),if_pos (by omega),if_pos (by omega),Int.toNat_natCast,zj g i,if_pos hs,e1,X,if_neg (by simp),ws]
     exact e2
   ·obtain ⟨nd',d',e2,k2,n2⟩:=ih (i+1) (by omega) d nd at_ op key val a b c hd hn
    refine ⟨nd',d',Iz ?_,k2,n2⟩
    unfold Gi
    rw [if_pos (by simp; omega),if_pos (by omega),if_pos (by omega),Int.toNat_natCast,zj g i,if_neg hs,ws]
    exact e2
 have L4:∀ (m i:Nat),i+m=6->∀ (d:Pd) (kd nd at_:Int) (a:_),aQ d->1<=nd/\nd<=6->∃ nd' d',Df (i:Int) d g a (kd,nd,at_,0,ByteArray.empty,ByteArray.empty)=some ((kd,nd',at_,0,ByteArray.empty,ByteArray.empty),d',g)/\aQ d'/\1<=nd'/\nd'<=6:=by
  intro m
  induction m with
  | zero =>
   intro i hi d kd nd at_ a hd hn
   refine ⟨nd,d,Gk ?_,hd,hn⟩
   unfold Ej
   rw [if_neg (by simp; omega)]
  | succ m ih =>
   intro i hi d kd nd at_ a hd hn
   have ws:=AK (show i<9223372036854775807 by omega)
   obtain ⟨m1,m2⟩:=hg.mem i (by omega)
   have hep:=m1.ep
   have hz:∀ j,g.2.1.getD j ((0:Int),(0:Int),false,false,false,false,([]:List Int),([]:List AN),(0:Int),(0:Int),(0:Int),(0:Int),(ByteArray.empty,ByteArray.empty,(0:Int)),([]:List Int))=Au g j:=fun j=>rfl
   obtain ⟨nd0,d0,e0,k0,n0⟩:=ih (i+1) (by omega) d kd nd at_ a hd hn
   by_cases h1:(Au g i).2.1<(g.1.length:Int)
   ·have gv:=hg.views.get (i:=(Au g i).2.1.toNat) (by omega)
    by_cases h2:((g.1.getD (Au g i).2.1.toNat ([]:List Int)).getD (0:Int).toNat 0==(Au g i).1)=true
    ·obtain ⟨o,d1,e1,k1⟩:=I_ 3 d hd
     cases o
     ·obtain ⟨nd',d',e2,k2,n2⟩:=ih (i+1) (by omega) d1 kd (Au g i).1 at_ a k1 (by omega)
      refine ⟨nd',d',Gk ?_,k2,n2⟩
      unfold Ej
      rw [if_pos (by simp; omega),if_pos (by omega),if_pos (by omega),Int.toNat_natCast,hz,if_pos (by simpa using h1),if_pos (by omega),if_pos (by omega),if_pos (by omega),if_pos (by omega),if_pos h2,e1,X,if_pos (by rfl),ws]
      exact e2
     ·obtain ⟨nd',d',e2,k2,n2⟩:=ih (i+1) (by omega) d1 kd nd at_ a k1 hn
      refine ⟨nd',d',Gk ?_,k2,n2⟩
      unfold Ej
      rw [if_pos (by simp; omega),if_pos (by omega),if_pos (by omega),Int.toNat_natCast,hz,if_pos (by simpa using h1),if_pos (by omega),if_pos (by omega),if_pos (by omega),if_pos (by omega),if_pos h2,e1,X,if_neg (by simp),ws]
      exact e2
    ·refine ⟨nd0,d0,Gk ?_,k0,n0⟩
     unfold Ej
     rw [if_pos (by simp; omega),if_pos (by omega),if_pos (by omega),Int.toNat_natCast,hz,if_pos (by simpa using h1),if_pos (by omega),if_pos (by omega),if_pos (by omega),if_pos (by omega),if_neg h2,ws]
     exact e0
   ·refine ⟨nd0,d0,Gk ?_,k0,n0⟩
    unfold Ej
    rw [if_pos (by simp; omega),if_pos (by omega),if_pos (by omega),Int.toNat_natCast,hz,if_neg (by simpa using h1),ws]
    exact e0
 have keyOk:∀ key∈([(⟨#[97]⟩:ByteArray),(⟨#[98]⟩:ByteArray),(⟨#[99]⟩:ByteArray)]:List ByteArray),key.size=1:=by
  intro key hk
  simp only [List.mem_cons,List.mem_nil_iff,or_false] at hk
  rcases hk with rfl | rfl | rfl<;>rfl
 have valOk:∀ v∈([(⟨#[118]⟩:ByteArray),(⟨#[119]⟩:ByteArray),(⟨#[120]⟩:ByteArray),(⟨#[121]⟩:ByteArray)]:List ByteArray),v.size=1:=by
  intro v hk
  simp only [List.mem_cons,List.mem_nil_iff,or_false] at hk
  rcases hk with rfl | rfl | rfl | rfl<;>rfl
 have J2:∀ (d:Pd) (a:_) (kd nd at_:Int),aQ d->1<=kd/\kd<=6->1<=nd/\nd<=6->0<=at_->∃ e d',Gh d g a (kd,nd,at_,0,ByteArray.empty,ByteArray.empty)=some (e,d',g)/\aQ d'/\Lc e=true:=by
  intro d a kd nd at_ hd hk hn ha
  by_cases h1:kd=1
  ·subst h1
   obtain ⟨op,d1,e1,k1,mem1⟩:=Pe [1,1,2] (by simp) d hd
   obtain ⟨key,d2,e2,k2,mem2⟩:=Ul [(⟨#[97]⟩:ByteArray),(⟨#[98]⟩:ByteArray),(⟨#[99]⟩:ByteArray)] (by simp) d1 k1
   have hkey:=keyOk key mem2
   by_cases ho:op=1
   ·obtain ⟨val,d3,e3,k3,mem3⟩:=Ul [(⟨#[118]⟩:ByteArray),(⟨#[119]⟩:ByteArray),(⟨#[120]⟩:ByteArray),(⟨#[121]⟩:ByteArray)] (by simp) d2 k2
    have hval:=valOk val mem3
    obtain ⟨nd',d',e4,k4,n4⟩:=L3 6 0 (by omega) d3 nd at_ op key val a _ _ k3 hn
    refine ⟨_,d',I0 ?_,k4,ev1 nd' at_ op key val n4 ha (by unfold kh; simp [ho,hkey,hval])⟩
    unfold Gj
    rw [if_pos (by simp),e1,X,e2,X,if_pos (by simpa using ho),e3,X]
    exact e4
   ·have ho2:op=2:=by simp at mem1; omega
    obtain ⟨nd',d',e4,k4,n4⟩:=L3 6 0 (by omega) d2 nd at_ op key ByteArray.empty a _ _ k2 hn
    refine ⟨_,d',I0 ?_,k4,ev1 nd' at_ op key ByteArray.empty n4 ha (by unfold kh; simp [ho2,hkey,xh])⟩
    unfold Gj
    rw [if_pos (by simp),e1,X,e2,X,if_neg (by simpa using ho)]
    exact e4
  ·by_cases h5:kd=5
   ·obtain ⟨nd',d',e4,k4,n4⟩:=L4 6 0 (by omega) d kd nd at_ a hd hn
    refine ⟨_,d',I0 ?_,k4,ev kd nd' at_ (by omega) n4 ha⟩
    unfold Gj
    rw [if_neg (by simpa using h1),if_pos (by simpa using h5)]
    exact e4
   ·refine ⟨_,d,I0 ?_,hd,ev kd nd at_ (by omega) hn ha⟩
    unfold Gj
    rw [if_neg (by simpa using h1),if_neg (by simpa using h5)]
 have J1:∀ (d:Pd) (a:_) (kd nd at_:Int),aQ d->1<=kd/\kd<=6->1<=nd/\nd<=6->0<=at_->∃ e d',BC d g a (kd,nd,at_,0,ByteArray.empty,ByteArray.empty)=some (e,d',g)/\aQ d'/\Lc e=true:=by
  intro d a kd nd at_ hd hk hn ha
  by_cases h2:kd=2
  ·obtain ⟨o,d1,e1,k1⟩:=I_ 2 d hd
   cases o
   ·obtain ⟨e,d',e2,k2,v2⟩:=J2 d1 a kd nd at_ k1 hk hn ha
    refine ⟨e,d',NH ?_,k2,v2⟩
    unfold Ix
    rw [if_pos (by simpa using h2),e1,X,if_neg (by simp)]
    exact e2
   ·obtain ⟨e,d',e2,k2,v2⟩:=J2 d1 a kd nd 0 k1 hk hn (by omega)
    refine ⟨e,d',NH ?_,k2,v2⟩
    unfold Ix
    rw [if_pos (by simpa using h2),e1,X,if_pos (by rfl)]
    exact e2
  ·obtain ⟨e,d',e2,k2,v2⟩:=J2 d a kd nd at_ hd hk hn ha
   refine ⟨e,d',NH ?_,k2,v2⟩
   unfold Ix
   rw [if_neg (by simpa using h2)]
   exact e2
 have six:∀ (d:Pd) (a:_) (kd nd at_:Int),aQ d->1<=kd/\kd<=6->1<=nd/\nd<=6->0<=at_->∃ e d',(if (kd==6)=true then ((Db 4 d).bind fun y5=>(if (!y5.1)=true then (BC y5.2 g a (1,nd,at_,0,ByteArray.empty,ByteArray.empty)) else (BC y5.2 g a (kd,nd,at_,0,ByteArray.empty,ByteArray.empty)))) else (BC d g a (kd,nd,at_,0,ByteArray.empty,ByteArray.empty)))=some (e,d',g)/\aQ d'/\Lc e=true:=by
  intro d a kd nd at_ hd hk hn ha
  by_cases h2:kd=6
  ·obtain ⟨o,d1,e1,k1⟩:=I_ 4 d hd
   cases o
   ·obtain ⟨e,d',e2,k2,v2⟩:=J1 d1 a 1 nd at_ k1 (by omega) hn ha
    refine ⟨e,d',?_,k2,v2⟩
    rw [if_pos (by simpa using h2),e1,X,if_pos (by rfl)]
    exact e2
   ·obtain ⟨e,d',e2,k2,v2⟩:=J1 d1 a kd nd at_ k1 hk hn ha
    refine ⟨e,d',?_,k2,v2⟩
    rw [if_pos (by simpa using h2),e1,X,if_neg (by simp)]
    exact e2
  ·obtain ⟨e,d',e2,k2,v2⟩:=J1 d a kd nd at_ hd hk hn ha
   refine ⟨e,d',?_,k2,v2⟩
   rw [if_neg (by simpa using h2)]
   exact e2
 obtain ⟨kd,d1,e1,k1,mem1⟩:=Pe [1,1,1,2,2,2,2,2,2,2,2,3,4,5,6] (by simp) d h
 obtain ⟨nd,d2,e2,k2,n0,n1⟩:=Bl 4 d1 k1
 obtain ⟨at_,d3,e3,k3,a0,a1⟩:=Bl 20 d2 k2
 have n1:=n1 (by omega)
 have wn:IntKind.i64.wrap (1+nd)=1+nd:=Ac (by omega)
 have hkd:1<=kd/\kd<=6:=by
  simp only [List.mem_cons,List.mem_nil_iff,or_false] at mem1
  omega
 have fin:∃ e d',NG d3 g ((0:Int),(0:Int),(0:Int),(0:Int),ByteArray.empty,ByteArray.empty) (kd,1+nd,at_,0,ByteArray.empty,ByteArray.empty)=some (e,d',g)/\aQ d'/\Lc e=true:=by
  by_cases hf:((g.2.2.1.length:Int)==0)=true
  ·cases hin:(decide (2<=kd)&&decide (kd<=4)) with
   | true =>
    obtain ⟨e,d',e4,k4,v4⟩:=J1 d3 ((0:Int),(0:Int),(0:Int),(0:Int),ByteArray.empty,ByteArray.empty) 1 (1+nd) at_ k3 (by omega) (by omega) a0
    refine ⟨e,d',NI ?_,k4,v4⟩
    unfold Iy
    rw [if_pos hf,At,X,if_pos hin,if_neg (show ¬ ((1:Int)==6)=true by decide)]
    exact e4
   | false =>
    obtain ⟨e,d',e4,k4,v4⟩:=six d3 ((0:Int),(0:Int),(0:Int),(0:Int),ByteArray.empty,ByteArray.empty) kd (1+nd) at_ k3 hkd (by omega) a0
    refine ⟨e,d',NI ?_,k4,v4⟩
    unfold Iy
    rw [if_pos hf,At,X,if_neg (by rw [hin]; simp)]
    exact e4
  ·obtain ⟨e,d',e4,k4,v4⟩:=six d3 ((0:Int),(0:Int),(0:Int),(0:Int),ByteArray.empty,ByteArray.empty) kd (1+nd) at_ k3 hkd (by omega) a0
   refine ⟨e,d',NI ?_,k4,v4⟩
   unfold Iy
   rw [if_neg hf]
   exact e4
 obtain ⟨e,d',e4,k4,v4⟩:=fin
 refine ⟨e,d',tG ?_,k4,v4⟩
 unfold cq
 rw [e1,X,e2,X,e3,X,wn]
 exact e4

theorem lD (x:List Int) (d:Pd) (hx:x.length<=1048576) (h:aQ d):∃ v es d',SF x d=some ((v,es),d')/\aQ d'/\S7 v/\es.length<=69/\∀ e∈es,Lc e=true:=by
 obtain ⟨v,d1,e1,k1,hv⟩:=iN d h
 have L:∀ (n:Nat),n<=69->∀ a b,∃ es d',Ef (n:Int) ((0:Nat):Int) d1 a b [] v (Ag v)=some ((v,es),d')/\aQ d'/\es.length<=69/\∀ e∈es,Lc e=true:=by
  intro n hn a b
  refine Ee (n:=n) (P:=fun i=>∀ (d:Pd) (es:List EC) (g:AQ),aQ d->IY g i->es.length=i->(∀ e∈es,Lc e=true)->∃ es' d',Ef (n:Int) (i:Int) d a b es v g=some ((v,es'),d')/\aQ d'/\es'.length<=69/\∀ e∈es',Lc e=true) (fun d es g hd hg hl he=>?_) (fun i hi ih d es g hd hg hl he=>?_) 0 (by omega) d1 [] (Ag v) k1 (Rn hv) rfl (fun e he=>by cases he)
  ·refine ⟨es,d,UB ?_,hd,by omega,he⟩
   unfold M9
   rw [if_neg (by simp)]
  ·obtain ⟨e,d2,e2,k2,ke⟩:=lC d g i hd hg
   obtain ⟨q1,q2,q3⟩:=aR (i:Int) e g i hg (by omega) ke
   obtain ⟨es',d3,e3,k3⟩:=ih d2 (es++[e]) (tv g (i:Int) e).2 k2 q2 (by simp; omega) (fun y hy=>by
    rcases List.mem_append.1 hy with hy | hy
    ·exact he y hy
    ·rw [List.mem_singleton.1 hy]; exact ke)
   refine ⟨es',d3,UB ?_,k3⟩
   unfold M9
   rw [if_pos (by simpa using hi),e2,X]
   dsimp only
   rw [q1,X,if_pos (by simp; omega),AK (by omega)]
   exact e3
 have wq:IntKind.i64.wrap (Int.tdiv (x.length:Int) 4)=((x.length / 4:Nat):Int):=by
  rw [Int.tdiv_eq_ediv_of_nonneg (by omega),Ac (by omega)]
  omega
 have wn:IntKind.i64.wrap (20+((x.length / 4:Nat):Int))=((20+x.length / 4:Nat):Int):=by rw [Ac (by omega)]; omega
 by_cases hn:20+x.length / 4<=69
 ·obtain ⟨es,d',e,k,k2⟩:=L (20+x.length / 4) hn [] []
  refine ⟨v,es,d',cZ ?_,k,hv,k2⟩
  unfold Sp
  rw [e1,X,Nd hv,X,if_neg (by omega),wq,wn,if_neg (by simp; omega)]
  exact e
 ·obtain ⟨es,d',e,k,k2⟩:=L 69 (by omega) [] []
  refine ⟨v,es,d',cZ ?_,k,hv,k2⟩
  unfold Sp
  rw [e1,X,Nd hv,X,if_neg (by omega),wq,wn,if_pos (by simp; omega)]
  exact e

def Ri (views:List (List Int)) (e:Int):Int:=(views.getD (e-1).toNat []).getD 0 0
def Nf (l:List AN) (b:Int):Prop:=∀ y∈l,y.2.2<=b
theorem Nf.mono {l:List AN} {a b:Int} (h:Nf l a) (hab:a<=b):Nf l b:=fun y hy=>Int.le_trans (h y hy) hab
theorem nb {b:Int}:Nf [] b:=fun y hy=>by cases hy
theorem dh {x:List AN} {a b:AN} (h:b∈An x a):b=a\/b∈x:=by
 unfold An at h
 split at h
 ·exact .inr h
 ·split at h
  ·split at h
   ·exact yq h
   ·exact .inr h
  ·exact .inr h
theorem Nf.put {l:List AN} {a:AN} {b:Int} (h:Nf l b) (ha:a.2.2<=b):Nf (An l a) b:=fun y hy=>by
 rcases dh hy with e | e
 ·rw [e]; exact ha
 ·exact h y e
structure V1 (views:List (List Int)) (m:AC):Prop where
 lead:m.2.2.2.2.1=true->m.2.1<=(views.length:Int)/\Ri views m.2.1=m.1
 ver:Nf m.2.2.2.2.2.2.2.1 (1000*m.2.1+900)
 own:m.2.2.2.2.1=true->m.2.2.2.1=true->Nf m.2.2.2.2.2.2.2.1 (1000*m.2.1+m.2.2.2.2.2.2.2.2.1)
 task:m.2.2.2.2.2.2.2.2.2.1≠0->m.2.2.2.2.2.2.2.2.2.2.2.2.1.2.2<=1000*m.2.1+m.2.2.2.2.2.2.2.2.1
 view:m.2.2.2.1=true->m.2.1<=(views.length:Int)/\(views.getD (m.2.1-1).toNat []).contains m.1=true
structure V2 (views:List (List Int)) (x:BS):Prop where
 inst:x.1=3->x.2.2.2.2.1=0
 old:x.1=2\/x.1=3->Nf x.2.2.2.2.2 (1000*x.2.2.2.1)
 store:x.1=5->x.2.2.1≠Ri views x.2.2.2.1/\Nf x.2.2.2.2.2 (1000*x.2.2.2.1+900)
theorem V2.plain {views:List (List Int)} {x:BS} (h2:x.1≠2) (h3:x.1≠3) (h5:x.1≠5):V2 views x:=⟨fun h=>absurd h h3,fun h=>by omega,fun h=>absurd h h5⟩
theorem V1.finish {views:List (List Int)} {m:AC} (h:V1 views m) (hc:m.2.2.2.2.2.2.2.2.1<=900) (h0:m.2.2.2.2.2.2.2.2.2.1≠0):V1 views (Bv m).2:=by
 have ht:=h.task h0
 unfold Bv
 split
 ·exact ⟨h.lead,h.ver.put (by omega),fun h1 h2=>(h.own h1 h2).put ht,fun h0=>absurd rfl h0,h.view⟩
 ·exact ⟨h.lead,h.ver,h.own,fun h0=>absurd rfl h0,h.view⟩
theorem V1.bare {views:List (List Int)} {m:AC} (h:V1 views m) {e:Int} (he:m.2.1<=e):V1 views (Wz m e) :=
 ⟨fun h=>(by cases h),h.ver.mono (by show _<=1000*e+900; omega),fun h=>(by cases h),fun h=>absurd rfl h,fun h=>(by cases h)⟩
theorem V1.inst {views:List (List Int)} {i e:Int} {its:List AN} (h:Nf its (1000*e)) (hv:e<=(views.length:Int)/\(views.getD (e-1).toNat []).contains i=true):V1 views (i,e,false,true,false,false,([]:List Int),its,(0:Int),(0:Int),(0:Int),(0:Int),(ByteArray.empty,ByteArray.empty,(0:Int)),([]:List Int)) :=
 ⟨fun h=>(by cases h),h.mono (by show _<=1000*e+900; omega),fun h=>(by cases h),fun h=>absurd rfl h,fun _=>hv⟩
theorem tx {views:List (List Int)} {i e:Int} (hv:S7 views) (h1:1<=e) (he:e<=(views.length:Int)) (hf:Ri views e=i):(views.getD (e-1).toNat []).contains i=true:=by
 have g:=hv.get (i:=(e-1).toNat) (by omega)
 rw [<- hf,List.contains_iff_mem,Ri,AT (show 0<(views.getD (e-1).toNat []).length by omega)]
 exact List.getElem_mem _
theorem V1.has {views:List (List Int)} {m:AC} {view:List Int} {its:List AN} (hv:S7 views) (h1:1<=m.2.1) (hl:m.2.2.2.2.1=true) (h:V1 views m) (hc:0<=m.2.2.2.2.2.2.2.2.1) (hi:Nf its (1000*m.2.1)):V1 views (TH m view its) :=
 ⟨h.lead,hi.mono (by show _<=1000*m.2.1+900; omega),fun _ _=>hi.mono (by show _<=1000*m.2.1+m.2.2.2.2.2.2.2.2.1; omega),h.task,fun _=>⟨(h.lead hl).1,tx hv h1 (h.lead hl).1 (h.lead hl).2⟩⟩
theorem V2.insts {views:List (List Int)} {i e:Int} {l:List Int} {its:List AN} (h:Nf its (1000*e)):∀ y∈l.map (fun v=>((3:Int),i,v,e,(0:Int),its)),V2 views y:=by
 intro y hy
 obtain ⟨v,_,rfl⟩:=List.mem_map.1 hy
 exact ⟨fun _=>rfl,fun _=>h,fun h5=>absurd h5 (by decide:(3:Int)≠5)⟩
theorem V2.reply {views:List (List Int)} {m:AC} {x:BS} {k:Int} (hk:k=4\/k=6\/k=8):∀ y∈Ey m x k,V2 views y:=by
 intro y hy
 simp only [Ey,List.mem_singleton] at hy
 subst hy
 exact V2.plain (by show k≠2; omega) (by show k≠3; omega) (by show k≠5; omega)
theorem AAN {views:List (List Int)}:∀ y∈([]:List BS),V2 views y:=fun y hy=>by cases hy
def V4 (views:List (List Int)) (n:AC) (told:List BS):Prop:=V1 views n/\∀ y∈told,V2 views y
theorem V4.same {views:List (List Int)} {m:AC} (h:V1 views m):V4 views m []:=⟨h,AAN⟩
theorem AB5 {views:List (List Int)} {m:AC} (h:V1 views m) (hc:m.2.2.2.2.2.2.2.2.1<=900) (h0:m.2.2.2.2.2.2.2.2.2.1≠0) (f:Int):V4 views (Gq m f).1 (Gq m f).2.1:=by
 have hl:V1 views (vg m f):=⟨h.lead,h.ver,h.own,h.task,h.view⟩
 unfold Gq
 split
 ·exact ⟨hl.finish hc h0,AAN⟩
 ·exact .same hl
theorem AEK {views:List (List Int)} {m:AC} {x:BS} (hv:S7 views) (hlen:m.2.1<=(views.length:Int)) (hm:Jx m) (h:V1 views m) (hx:V2 views x) (hxo:XOk x) (ht:x.2.2.1=m.1) (he:x.2.2.2.1=m.2.1):V4 views (de m (views.getD (m.2.1-1).toNat []) x).1 (de m (views.getD (m.2.1-1).toNat []) x).2.1:=by
 have hcnt:=hm.count
 unfold de
 by_cases k2:x.1=2
 ·rw [if_pos k2]
  split
  ·rename_i hc
   simp only [Bool.and_eq_true] at hc
   have:=hx.old (.inl k2)
   rw [he] at this
   exact ⟨V1.has hv hm.ep.1 hc.1 h hcnt.1 this,V2.insts this⟩
  ·exact .same h
 rw [if_neg k2]
 by_cases k3:x.1=3
 ·rw [if_pos k3]
  split
  ·exact .same h
  ·rename_i hc
   split
   ·exact .same h
   ·split
    ·exact ⟨h,V2.reply (.inl rfl)⟩
    ·have:=hx.old (.inr k3)
     rw [he] at this
     refine ⟨V1.inst this ⟨hlen,?_⟩,V2.reply (.inl rfl)⟩
     cases q:(views.getD (m.2.1-1).toNat []).contains m.1 with
     | true=>rfl
     | false=>rw [q] at hc; exact absurd rfl hc
 rw [if_neg k3]
 by_cases k4:x.1=4
 ·rw [if_pos k4]
  split
  ·exact .same ⟨h.lead,h.ver,h.own,h.task,h.view⟩
  ·exact .same h
 rw [if_neg k4]
 by_cases k5:x.1=5
 ·rw [if_pos k5]
  split
  ·obtain ⟨s1,s2⟩:=hx.store k5
   have hlen:x.2.2.2.2.2.length=1:=by
    have:=hxo.shape
    rw [if_neg (by omega),if_pos k5] at this
    exact this
   have hit:(x.2.2.2.2.2.getD 0 (ByteArray.empty,ByteArray.empty,(0:Int))).2.2<=1000*m.2.1+900:=by
    rw [AT (show 0<x.2.2.2.2.2.length by omega),<- he]
    exact s2 _ (List.getElem_mem _)
   refine ⟨⟨h.lead,h.ver.put hit,fun h1 h2=>?_,h.task,h.view⟩,V2.reply (.inr (.inl rfl))⟩
   exact absurd (h.lead h1).2 (by rw [<- he,<- ht]; exact Ne.symm s1)
  ·exact .same h
 rw [if_neg k5]
 by_cases k7:x.1=7
 ·rw [if_pos k7]
  split
  ·exact ⟨h,V2.reply (.inr (.inr rfl))⟩
  ·exact .same h
 rw [if_neg k7]
 by_cases hc:(x.1=6\/x.1=8)/\m.2.2.2.2.2.2.2.2.2.1=(if x.1=8 then 2 else 1)/\m.2.2.2.2.2.2.2.2.2.2.2.1=x.2.2.2.2.1
 ·rw [if_pos hc]
  exact AB5 h hcnt.2 (by have:=hc.2.1; split at this<;>omega) _
 ·rw [if_neg hc]
  exact .same h
theorem AB6 {views:List (List Int)} {m:AC} {x:BS} (hv:S7 views) (hm:Jx m) (h:V1 views m) (hx:V2 views x):V4 views (Di m views x).1 (Di m views x).2.1:=by
 unfold Di
 split
 ·rename_i hc
  simp only [Bool.and_eq_true,decide_eq_true_eq,beq_iff_eq] at hc
  obtain ⟨⟨⟨hmo,h1⟩,h2⟩,h3⟩:=hc
  split
  ·rename_i he
   exact AEK hv (by omega) hm h hx (eF.1 hmo) h1 he
  ·split
   ·rename_i hs
    simp only [Bool.and_eq_true,beq_iff_eq] at hs
    refine ⟨h.bare h2,fun y hy=>?_⟩
    simp only [List.mem_singleton] at hy
    subst hy
    refine ⟨fun h3=>absurd h3 (by decide:(2:Int)≠3),fun _=>h.ver.mono ?_,fun h5=>absurd h5 (by decide:(2:Int)≠5)⟩
    show _<=1000*x.2.2.2.1
    omega
   ·split
    ·rename_i hs
     simp only [Bool.and_eq_true,beq_iff_eq] at hs
     exact ⟨V1.inst (hx.old (.inr hs.1.1)) ⟨h3,hs.1.2⟩,V2.reply (.inl rfl)⟩
    ·exact .same h
 ·exact .same h
theorem ADH {view:List Int} {i v:Int} (h:v∈B2 view i):v≠i:=by
 have:=(List.mem_filter.1 h).2
 simpa using this
theorem ADI {views:List (List Int)} {m:AC} {op call:Int} {key val:ByteArray} (hm:Jx m) (h:V1 views m) (hb:(Dj m views op call key val).2.2.2=true) :
  V4 views (Dj m views op call key val).1 (Dj m views op call key val).2.1:=by
 have hcnt:=hm.count
 unfold Dj at hb ⊢
 split at hb
 ·rename_i hmay
  rw [if_pos hmay]
  obtain ⟨h1,h2,h3,h4,h5,h6,h7,h8,h9,h10⟩:=eH hmay
  split at hb
  ·cases hb
  ·rename_i hn
   rw [if_neg hn]
   have ht:V1 views (G0 m (views.getD (m.2.1-1).toNat []) op call key val):=by
    refine ⟨h.lead,h.ver,fun a b=>(h.own a b).mono ?_,fun _=>?_,h.view⟩
    ·show _<=1000*m.2.1+(m.2.2.2.2.2.2.2.2.1+1); omega
    ·show 1000*m.2.1+(m.2.2.2.2.2.2.2.2.1+1)<=1000*m.2.1+(m.2.2.2.2.2.2.2.2.1+1); omega
   unfold S9
   split
   ·exact ⟨ht.finish (by show m.2.2.2.2.2.2.2.2.1+1<=900; omega) (by show op≠0; omega),AAN⟩
   ·refine ⟨ht,fun y hy=>?_⟩
    obtain ⟨v,hv,rfl⟩:=List.mem_map.1 hy
    have hne:=ADH hv
    by_cases ho:op=1
    ·rw [if_pos ho,if_pos ho]
     refine ⟨fun h3=>absurd h3 (by decide:(5:Int)≠3),fun h=>absurd h (by decide:¬ ((5:Int)=2\/(5:Int)=3)),fun _=>⟨fun e=>hne (e.trans ?_),fun z hz=>?_⟩⟩
     ·exact h10
     ·simp only [List.mem_singleton] at hz
      subst hz
      show 1000*m.2.1+(m.2.2.2.2.2.2.2.2.1+1)<=1000*m.2.1+900
      omega
    ·rw [if_neg ho,if_neg ho]
     exact V2.plain (by decide:(7:Int)≠2) (by decide:(7:Int)≠3) (by decide:(7:Int)≠5)
 ·cases hb
theorem ADJ {views:List (List Int)} {m:AC} {e:Int} (hvo:S7 views) (h:V1 views m) (hb:(FT m views e).2.2=true):V4 views (FT m views e).1 (FT m views e).2.1:=by
 unfold FT at hb ⊢
 split at hb
 ·rename_i hc
  rw [if_pos hc]
  have hv:Nf m.2.2.2.2.2.2.2.1 (1000*e):=h.ver.mono (by omega)
  have hn:V1 views (MI m e):=⟨fun _=>⟨hc.2.1,hc.2.2.2⟩,hv.mono (by show _<=1000*e+900; omega),fun _ h=>(by cases h),fun h=>absurd rfl h,fun h=>(by cases h)⟩
  split
  ·exact ⟨V1.has hvo (by show 1<=e; omega) rfl hn (by show (0:Int)<=0; omega) hv,V2.insts hv⟩
  ·refine ⟨hn,fun y hy=>?_⟩
   obtain ⟨v,hv,rfl⟩:=List.mem_map.1 hy
   exact V2.plain (by decide:(1:Int)≠2) (by decide:(1:Int)≠3) (by decide:(1:Int)≠5)
 ·cases hb
theorem V1.fall {views:List (List Int)} {m:AC}:V1 views (W4 m):=⟨fun h=>(by cases h),nb,fun h=>(by cases h),fun h=>absurd rfl h,fun h=>(by cases h)⟩
theorem V1.first {views:List (List Int)} {i:Int} (hv:S7 views):V1 views (Eb i views):=by
 have:=hv.len
 refine ⟨fun h=>⟨by show (1:Int)<=_; omega,?_⟩,nb,fun _ _=>nb,fun h=>absurd rfl h,fun h=>⟨by show (1:Int)<=_; omega,h⟩⟩
 exact beq_iff_eq.1 h
structure V3 (g:AQ):Prop where
 mem:∀ i,i<6->V1 g.1 (Au g i)
 fly:∀ x∈g.2.2.1,V2 g.1 x
 calls:∀ c∈g.2.2.2,c.2.2.2.2.1=-1\/0<=c.2.2.2.2.1
theorem zk {at_:Int} (ha:0<=at_) (s:C9) {cs:List Hh} (h:∀ c∈cs,c.2.2.2.2.1=-1\/0<=c.2.2.2.2.1):∀ c∈JA at_ cs s,c.2.2.2.2.1=-1\/0<=c.2.2.2.2.1:=by
 unfold JA
 split
 ·exact h
 ·intro c hc
  rcases List.mem_or_eq_of_mem_set hc with e | e
  ·exact h c e
  ·rw [e]; exact .inr ha
theorem oJ {at_:Int} (ha:0<=at_):∀ (said:List C9) {cs:List Hh},(∀ c∈cs,c.2.2.2.2.1=-1\/0<=c.2.2.2.2.1)->∀ c∈said.foldl (JA at_) cs,c.2.2.2.2.1=-1\/0<=c.2.2.2.2.1
 | [],_,h=>h
 | s::l,_,h=>oJ ha l (zk ha s h)
theorem V3.member {g:AQ} (h:V3 g) (h6:g.2.1.length=6) {n:AC} {told:List BS} {said:List C9} {at_:Int} {i:Nat} (ha:0<=at_) (hi:i<6) (hid:n.1=(i:Int)+1) (hn:V4 g.1 n told):V3 (BL g n told said at_):=by
 refine ⟨fun j hj=>?_,fun x hx=>?_,oJ ha said h.calls⟩
 ·rw [tu h6 hj hid hi]
  split
  ·exact hn.1
  ·exact h.mem j hj
 ·rcases List.mem_append.1 hx with h1 | h1
  ·exact h.fly x h1
  ·exact hn.2 x h1
theorem V3.less {g:AQ} (h:V3 g) (i:Nat):V3 (FC g i):=⟨h.mem,fun x hx=>by
 rcases List.mem_append.1 hx with h1 | h1
 ·exact h.fly x (List.mem_of_mem_take h1)
 ·exact h.fly x (List.mem_of_mem_drop h1),h.calls⟩
theorem V3.call {g:AQ} (h:V3 g) (at_:Int) (e:EC):V3 (Hi g at_ e):=⟨h.mem,h.fly,fun c hc=>by
 rcases List.mem_append.1 hc with h1 | h1
 ·exact h.calls c h1
 ·simp only [List.mem_singleton] at h1
  rw [h1]; exact .inl rfl⟩
theorem V3.adopt {g:AQ} {k:Nat} (h:V3 g) (hg:IY g k) {at_ node:Int} (ha:0<=at_) (hn:1<=node/\node<=6):∀ (n:Nat) (e:Int),V3 (JT g at_ (Au g (node-1).toNat) node n e).2
 | 0,_=>h
 | n+1,e=>by
  unfold JT
  split
  ·exact V3.adopt h hg ha hn n (e+1)
  ·split
   ·rename_i hb
    obtain ⟨m1,m2⟩:=hg.mem (node-1).toNat (by omega)
    have hao:=W3 (e:=e) m1 hg.views hb
    exact h.member hg.six (i:=(node-1).toNat) ha (by omega) (by rw [hao.2.1,m2]) (ADJ hg.views (h.mem _ (by omega)) hb)
   ·exact h
theorem V3.event {g:AQ} {k:Nat} (h:V3 g) (hg:IY g k) {at_:Int} (ha:0<=at_) {e:EC} (he:Lc e=true):V3 (tv g at_ e).2:=by
 have hn:=k_ he
 unfold tv
 split
 ·unfold KV
  split
  ·rename_i hb
   obtain ⟨m1,m2⟩:=hg.mem (e.2.1-1).toNat (by omega)
   have hbo:=eI (op:=e.2.2.2.1) (call:=(g.2.2.2.length:Int)) (key:=e.2.2.2.2.1) (val:=e.2.2.2.2.2) m1 hg.views
   exact (h.call at_ e).member (g:=Hi g at_ e) hg.six (i:=(e.2.1-1).toNat) ha (by omega) (by rw [hbo.id hb,m2]) (ADI m1 (h.mem _ (by omega)) hb)
  ·exact h.call at_ e
 ·split
  ·exact h.adopt hg ha (by omega) _ _
  ·split
   ·obtain ⟨m1,m2⟩:=hg.mem (e.2.1-1).toNat (by omega)
    exact h.member hg.six (i:=(e.2.1-1).toNat) ha (by omega) m2 ⟨V1.fall,AAN⟩
   ·unfold iM
    split
    ·exact h
    ·rename_i hne
     have hl:0<g.2.2.1.length:=by
      cases hq:g.2.2.1 with
      | nil=>exact absurd hq hne
      | cons a l=>simp
     have hlt:(e.2.2.1 % (g.2.2.1.length:Int)).toNat<g.2.2.1.length:=by
      have h1:=Int.emod_lt_of_pos e.2.2.1 (show (0:Int)<(g.2.2.1.length:Int) by omega)
      have h2:=Int.emod_nonneg e.2.2.1 (show (g.2.2.1.length:Int)≠0 by omega)
      omega
     have hmem:g.2.2.1.getD (e.2.2.1 % (g.2.2.1.length:Int)).toNat C1∈g.2.2.1:=by
      rw [AT hlt]
      exact List.getElem_mem _
     split
     ·refine ⟨h.mem,fun x hx=>?_,h.calls⟩
      rcases List.mem_append.1 hx with h1 | h1
      ·exact h.fly x h1
      ·simp only [List.mem_singleton] at h1
       rw [h1]
       exact h.fly _ hmem
     ·split
      ·exact h.less _
      ·have hto:=(hg.fly _ hmem).to
       generalize hx:g.2.2.1.getD (e.2.2.1 % (g.2.2.1.length:Int)).toNat C1=x at *
       obtain ⟨m1,m2⟩:=hg.mem (x.2.2.1-1).toNat (by omega)
       exact (h.less _).member (g:=FC g (e.2.2.1 % (g.2.2.1.length:Int)).toNat) hg.six (i:=(x.2.2.1-1).toNat) ha (by omega) (by rw [(Pg (x:=x) m1 hg.views).id,m2]) (AB6 hg.views m1 (h.mem _ (by omega)) (h.fly _ hmem))
theorem V3.new {views:List (List Int)} (hv:S7 views):V3 (Ag views):=by
 refine ⟨fun i hi=>?_,(fun x hx=>by cases hx),fun x hx=>by cases hx⟩
 have h5:i=0\/i=1\/i=2\/i=3\/i=4\/i=5:=by omega
 rcases h5 with rfl | rfl | rfl | rfl | rfl | rfl<;>exact V1.first hv
theorem V3.run:∀ (es:List EC) (n:Nat) (g:AQ) (cs:List Int),IY g n->V3 g->n+es.length<=70->(∀ e∈es,Lc e=true)->V3 (JU n es g cs).1
 | [],n,g,cs,_,h,_,_=>h
 | e::es,n,g,cs,hg,h,hn,he=>by
  simp only [List.length_cons] at hn
  obtain ⟨h2,_⟩:=hg.event (at_:=(n:Int)) (he e (by simp))
  exact V3.run es (n+1) _ _ h2 (h.event hg (by omega) (he e (by simp))) (by omega) (fun x hx=>he x (by simp [hx]))

theorem lE (a b:Int):M3 a b=some (decide (a<b)):=th (by
 have h:∀ a,Kv a=some false:=fun a=>qN (by unfold aO; simp)
 unfold dX
 rw [h,X,if_neg (by simp)])
def xk (l:List Int) (j:Nat):List Int:=(l.set (j+1) (l.getD j 0)).set j (l.getD (j+1) 0)
def bub:Nat->List Int->List Int
 | 0,l=>l
 | j+1,l=>if l.getD (j+1) 0<l.getD j 0 then bub j (xk l j) else l
def srt:Nat->Nat->List Int->List Int
 | 0,_,l=>l
 | k+1,i,l=>srt k (i+1) (bub i l)
theorem lF (l:List Int) (j:Nat):(xk l j).length=l.length:=by simp [xk]
theorem qk:∀ (j:Nat) (l:List Int),(bub j l).length=l.length
 | 0,l=>rfl
 | j+1,l=>by
  unfold bub
  split
  ·rw [qk j,lF]
  ·rfl
theorem AA7 {l:List Int} {j:Nat} (h:j+1<l.length):(xk l j).Perm l:=by
 obtain ⟨p,a,b,q,rfl,rfl⟩:∃ p a b q,l=p++a::b::q/\p.length=j :=
  ⟨l.take j,l[j],l[j+1],l.drop (j+2),by rw [<- List.drop_eq_getElem_cons h,<- List.drop_eq_getElem_cons (show j<l.length by omega),List.take_append_drop],by rw [List.length_take]; omega⟩
 have e:xk (p++a::b::q) p.length=p++b::a::q:=by
  unfold xk
  have e1:(p++a::b::q).getD p.length 0=a:=by simp [List.getD]
  have e2:(p++a::b::q).getD (p.length+1) 0=b:=by simp [List.getD]
  rw [e1,e2,List.set_append_right _ _ (by omega),List.set_append_right _ _ (by omega)]
  simp
 rw [e]
 exact List.Perm.append_left p (List.Perm.swap a b q)
theorem yw:∀ (j:Nat) (l:List Int),j<l.length->(bub j l).Perm l
 | 0,l,_=>List.Perm.refl l
 | j+1,l,h=>by
  unfold bub
  split
  ·exact (yw j _ (by rw [lF]; omega)).trans (AA7 h)
  ·exact List.Perm.refl l
theorem tz:∀ (k i:Nat) (l:List Int),i+k=l.length->(srt k i l).Perm l
 | 0,_,l,_=>List.Perm.refl l
 | k+1,i,l,h=>(tz k (i+1) _ (by rw [qk]; omega)).trans (yw i l (by omega))
theorem AAO {l:List Int} {j:Nat} (h:j+1<l.length) (a:Nat):(xk l j).getD a 0=if a=j then l.getD (j+1) 0 else if a=j+1 then l.getD j 0 else l.getD a 0:=by
 unfold xk
 simp only [List.getD_eq_getElem?_getD,List.getElem?_set,List.length_set]
 by_cases h1:a=j
 ·subst h1
  rw [if_pos rfl,if_pos (by omega),if_pos rfl]
  simp
 ·rw [if_neg (fun e=>h1 e.symm),if_neg h1]
  by_cases h2:a=j+1
  ·subst h2
   rw [if_pos rfl,if_pos (by omega),if_pos rfl]
   simp
  ·rw [if_neg (fun e=>h2 e.symm),if_neg h2]
def AD0 (i:Nat) (l:List Int):Prop:=∀ a b,a<b->b<=i->l.getD a 0<=l.getD b 0
theorem AB7 (i:Nat):∀ (j:Nat) (l:List Int),j<=i->i<l.length->(∀ a b,a<b->b<=i->b≠j->l.getD a 0<=l.getD b 0)->AD0 i (bub j l)
 | 0,l,_,_,h=>fun a b h1 h2=>h a b h1 h2 (by omega)
 | j+1,l,hj,hi,h=>by
  unfold bub
  split
  ·rename_i hlt
   refine AB7 i j _ (by omega) (by rw [lF]; exact hi) fun a b h1 h2 h3=>?_
   rw [AAO (by omega),AAO (by omega)]
   rw [if_neg h3]
   by_cases hb:b=j+1
   ·subst hb
    rw [if_pos rfl]
    by_cases ha:a=j
    ·rw [if_pos ha]; omega
    ·rw [if_neg ha,if_neg (by omega)]
     exact h a j (by omega) (by omega) (by omega)
   ·rw [if_neg hb]
    by_cases ha:a=j
    ·rw [if_pos ha]; exact h (j+1) b (by omega) h2 hb
    ·rw [if_neg ha]
     by_cases ha2:a=j+1
     ·rw [if_pos ha2]; exact h j b (by omega) h2 hb
     ·rw [if_neg ha2]; exact h a b h1 h2 hb
  ·rename_i hlt
   intro a b h1 h2
   by_cases hb:b=j+1
   ·subst hb
    by_cases ha:a=j
    ·subst ha; omega
    ·have:=h a j (by omega) (by omega) (by omega)
     omega
   ·exact h a b h1 h2 hb
theorem AB8:∀ (k i:Nat) (l:List Int),i+k=l.length->1<=i->AD0 (i-1) l->AD0 (l.length-1) (srt k i l)
 | 0,i,l,h,hi,hu=>by
  have:i-1=l.length-1:=by omega
  rw [<- this]; exact hu
 | k+1,i,l,h,hi,hu=>by
  have:=AB8 k (i+1) (bub i l) (by rw [qk]; omega) (by omega) (by
   rw [Nat.add_sub_cancel]
   exact AB7 i i l (Nat.le_refl _) (by omega) fun a b h1 h2 h3=>hu a b h1 (by omega))
  rw [qk] at this
  exact this
theorem AAP (n i:Nat) (hn:n<=12) (g:List Int->List Int) (K:∀ l:List Int,l.length=n->Az 0 (n:Int) ((i:Int)+1) l=some (g l)) (hi:i<n) :
  ∀ (j:Nat) (l:List Int),j<n->l.length=n->Bt 0 (n:Int) (i:Int) (j:Int) l=some (g (bub j l))
 | 0,l,hj,hl=>FB (by
  unfold Cr
  rw [if_neg (by simp),Ac (by omega)]
  exact K l hl)
 | j+1,l,hj,hl=>FB (by
  unfold Cr
  have e1:IntKind.i64.wrap (((j+1:Nat):Int)-1)=(j:Int):=by rw [Ac (by omega)]; omega
  have e2:((j+1:Nat):Int).toNat=j+1:=by omega
  have e3:((j:Nat):Int).toNat=j:=by omega
  rw [if_pos (by simp<;>omega),if_pos (by omega),if_pos (by omega),e1,if_pos (by omega),if_pos (by omega),lE,X,e2,e3]
  unfold bub
  by_cases h:l.getD (j+1) 0<l.getD j 0
  ·rw [if_pos (by simpa using h),if_pos h]
   refine KR ?_
   unfold FA
   simp only [e1,e2,e3]
   rw [if_pos (by omega),if_pos (by omega),if_pos (by omega),if_pos (by omega),if_pos (by omega),if_pos (by omega),if_pos (by omega),if_pos (by rw [List.length_set]; omega)]
   exact AAP n i hn g K hi j (xk l j) (by omega) (by rw [lF]; exact hl)
  ·rw [if_neg (by simpa using h),if_neg h,Ac (by omega)]
   exact K l hl)
theorem AAQ (n:Nat) (hn:n<=12):∀ (k i:Nat) (l:List Int),i+k=n->l.length=n->Az 0 (n:Int) (i:Int) l=some (srt k i l)
 | 0,i,l,h,hl=>Cs (by
  unfold Bu
  rw [if_neg (by simp; omega)]
  rfl)
 | k+1,i,l,h,hl=>Cs (by
  unfold Bu
  rw [if_pos (by simp; omega)]
  exact AAP n i hn (srt k (i+1)) (fun l hl=>by have:=AAQ n hn k (i+1) l (by omega) hl; rw [<- this]; congr 1) (by omega) i l (by omega) hl)
set_option maxRecDepth 100000 in
theorem AD1 (n:Nat) (h:n<=12):∃ r,Pw (IntKind.u64.wrap (n:Int))=some r:=by
 have h1:∃ r,Gn (n:Int) 0=some r:=by
  have hs:IntKind.u8.wrap (n:Int)=(n:Int):=by
   have:n=0\/n=1\/n=2\/n=3\/n=4\/n=5\/n=6\/n=7\/n=8\/n=9\/n=10\/n=11\/n=12:=by omega
   rcases this with h | h | h | h | h | h | h | h | h | h | h | h | h<;>subst h<;>rfl
  have ht:∃ r,JR (n:Int) 0=some r:=by
   unfold JR
   rw [if_neg (by simp; omega),if_pos (by rw [hs]; omega),if_pos (by
    rw [hs]
    exact Int.lt_of_lt_of_le (show (n:Int)<13 by omega) (by decide))]
   exact ⟨_,rfl⟩
  obtain ⟨r,hr⟩:=ht
  exact ⟨r,dY hr⟩
 obtain ⟨r,hr⟩:=h1
 have h2:M4 (n:Int)=some r:=kg (by
  unfold Uj
  rw [if_neg (by simp; omega)]
  exact dZ (by
   unfold Pb
   rw [if_neg (by simp; omega)]
   exact hr))
 have hu:IntKind.u64.wrap (n:Int)=(n:Int):=by
  have:n=0\/n=1\/n=2\/n=3\/n=4\/n=5\/n=6\/n=7\/n=8\/n=9\/n=10\/n=11\/n=12:=by omega
  rcases this with h | h | h | h | h | h | h | h | h | h | h | h | h<;>subst h<;>rfl
 exact ⟨r,qK (by unfold aN; rw [hu,h2]; rfl)⟩
theorem AAR (l:List Int) (h:l.length<=12):∃ r,Cx l=some r/\r.Perm l/\r.Pairwise (· <= ·):=by
 obtain ⟨b,hb⟩:=AD1 l.length h
 have hins:∃ r,DO 0 (l.length:Int) l=some r/\r.Perm l/\r.Pairwise (· <= ·):=by
  by_cases h0:l.length=0
  ·have:l=[]:=List.length_eq_zero_iff.1 h0
   subst this
   refine ⟨[],GF ?_,List.Perm.refl _,List.Pairwise.nil⟩
   unfold DP
   refine Cs ?_
   unfold Bu
   rw [if_neg (by rw [Ac (by omega)]; simp)]
  ·refine ⟨srt (l.length-1) 1 l,GF ?_,tz _ _ _ (by omega),?_⟩
   ·unfold DP
    rw [Ac (by omega)]
    exact AAQ l.length h (l.length-1) 1 l (by omega) rfl
   ·have hu:=AB8 (l.length-1) 1 l (by omega) (Nat.le_refl _) (fun a b h1 h2=>by omega)
    have hp:=(tz (l.length-1) 1 l (by omega)).length_eq
    rw [List.pairwise_iff_getElem]
    intro i j hi hj hij
    have:=hu i j hij (by omega)
    rwa [AT hi,AT hj] at this
 obtain ⟨r,h1,h2,h3⟩:=hins
 refine ⟨r,ar ?_,h2,h3⟩
 unfold N2
 have hq:CT 0 (l.length:Int) b l=some r:=Rh (by
  unfold I6
  refine Oi ?_
  unfold HZ
  rw [if_pos (by rw [Ac (by omega)]; simp; omega),h1]
  rfl)
 rw [hb,X,hq]
 rfl
theorem AAS:∀ {a b:List Int},a.Pairwise (· < ·)->b.Pairwise (· < ·)->(∀ x,x∈a↔x∈b)->a=b
 | [],[],_,_,_=>rfl
 | [],y::b,_,_,h=>absurd ((h y).2 (by simp)) (by simp)
 | x::a,[],_,_,h=>absurd ((h x).1 (by simp)) (by simp)
 | x::a,y::b,ha,hb,h=>by
  rw [List.pairwise_cons] at ha hb
  have hxy:x=y:=by
   have h1:=(h x).1 (by simp)
   have h2:=(h y).2 (by simp)
   rcases List.mem_cons.1 h1 with e | h1
   ·exact e
   ·rcases List.mem_cons.1 h2 with e | h2
    ·exact e.symm
    ·have:=ha.1 y h2
     have:=hb.1 x h1
     omega
  subst hxy
  rw [AAS ha.2 hb.2 fun z=>?_]
  constructor
  ·intro hz
   rcases List.mem_cons.1 ((h z).1 (by simp [hz])) with e | h
   ·subst e; have:=ha.1 z hz; omega
   ·exact h
  ·intro hz
   rcases List.mem_cons.1 ((h z).2 (by simp [hz])) with e | h
   ·subst e; have:=hb.1 z hz; omega
   ·exact h
theorem t8 {view:List Int} {id x:Int} (hv:WOk view):x∈Dh view id↔x∈B2 view id:=by
 unfold Dh B2
 simp only [List.mem_filter,Bool.and_eq_true,List.contains_eq_mem,decide_eq_true_eq]
 constructor
 ·rintro ⟨_,h1,h2⟩; exact ⟨h2,h1⟩
 ·rintro ⟨h1,h2⟩
  have:=hv.mem x h1
  refine ⟨?_,h2,h1⟩
  have h5:x=1\/x=2\/x=3\/x=4\/x=5\/x=6:=by omega
  rcases h5 with h | h | h | h | h | h<;>simp [h]
theorem nc {view:List Int} (hv:WOk view) (id:Int):Cx (B2 view id)=some (Dh view id):=by
 have hl:=ID view id
 have:=hv.len
 obtain ⟨r,h1,h2,h3⟩:=AAR (B2 view id) (by omega)
 rw [h1]
 congr 1
 have hnd:r.Nodup:=h2.nodup_iff.2 (hv.nd.filter _)
 refine AAS ?_ (Xx view id).2 fun x=>(h2.mem_iff).trans (t8 hv).symm
 have:=h3.and (List.nodup_iff_pairwise_ne.1 hnd)
 exact this.imp fun {a b} h=>by have:=h.1; have:=h.2; omega
theorem oK {view:List Int} (hv:WOk view) (id:Int):(Dh view id).length=(B2 view id).length:=by
 obtain ⟨r,h1,h2,_⟩:=AAR (B2 view id) (by have:=ID view id; have:=hv.len; omega)
 rw [nc hv] at h1
 cases h1
 exact h2.length_eq

theorem Un (x:List Int) (n:Int) (h:x.length<=maxLen):B8 x n=some (x.contains n):=TD (by
 have hm:x.length<=9223372036854775807:=h
 have key:=Ee (n:=x.length) (P:=fun i=>∃ r,Co x n (x.length:Int) (i:Int)=some r/\(decide (r>=0)=(x.drop i).contains n)) ⟨-1,B9 (by
  unfold Be
  rw [if_neg (by simp)]),by simp⟩ (fun i hi ⟨r,hr,hc⟩=>by
  by_cases e:n=x[i]
  ·refine ⟨(i:Int),B9 ?_,?_⟩
   ·unfold Be
    simp only [show ((i:Int)<(x.length:Int)) from by omega,decide_true,if_true,show (0:Int)<=(i:Int) from by omega,Int.toNat_natCast,AT hi]
    rw [if_pos (by simpa using e)]
   ·rw [BF hi,List.contains_cons,e]
    simp only [beq_self_eq_true,Bool.true_or]
    exact decide_eq_true (by omega)
  ·refine ⟨r,B9 ?_,?_⟩
   ·unfold Be
    simp only [show ((i:Int)<(x.length:Int)) from by omega,decide_true,if_true,show (0:Int)<=(i:Int) from by omega,Int.toNat_natCast,AT hi,AK (show i<9223372036854775807 by omega)]
    rw [if_neg (by simpa using e)]
    exact hr
   ·rw [BF hi,hc,List.contains_cons]
    simp [e]) 0 (by omega)
 obtain ⟨r,hr,hc⟩:=key
 unfold Jz
 have:Da x n=some r:=NO hr
 rw [this,X,hc,List.drop_zero])
theorem di (m:AC) (h1:m.2.2.2.2.2.2.1.length<=68719476736) (h2:m.2.2.2.2.2.2.2.1.length<=68719476736) (h3:m.2.2.2.2.2.2.2.2.2.2.2.2.2.length<=68719476736):Cv m=some m:=j7 (by
 unfold UN
 rw [Cm h1,X,BE h2,X,Cm h3,X])
theorem Jx.icopy {m:AC} (h:Jx m):Cv m=some m:=by
 obtain ⟨h1,h2,h3⟩:=h.lens
 exact di m (by omega) (by omega) (by omega)
theorem Ng (x:BS) (h:x.2.2.2.2.2.length<=68719476736):HN x=some x:=tI (by
 unfold cz
 rw [BE h,X])
theorem Om (view:List Int) (m:AC) (h:view.length<=68719476736):B6 view m=some (B2 view m.1,m):=dN (by
 unfold PW
 have key:=Ee (n:=view.length) (P:=fun i=>∀ acc:List Int,acc.length<=i->DM view (view.length:Int) (i:Int) m acc=some (acc++(view.drop i).filter (· != m.1),m)) (fun acc ha=>L8 (by
  unfold HV
  rw [if_neg (by simp)]
  simp)) (fun i hi ih acc ha=>L8 (by
  unfold HV
  simp only [show ((i:Int)<(view.length:Int)) from by omega,decide_true,if_true,show (0:Int)<=(i:Int) from by omega,Int.toNat_natCast,AT hi,AK (show i<9223372036854775807 by omega)]
  rw [BF hi,List.filter_cons]
  by_cases hh:(view[i] != m.1)=true
  ·rw [if_pos hh,if_pos (by simp; omega),ih _ (by simp; omega),if_pos hh,List.append_assoc]
   rfl
  ·rw [if_neg hh,ih _ (by omega),if_neg hh])) 0 (by omega) [] (by simp)
 exact key)
def AAT (m:AC) (ids:List Int) (x:BS):List BS:=ids.map fun v=>(x.1,m.1,v,m.2.1,x.2.2.2.2)
theorem CV (ids:List Int) (x:BS) (m:AC) (h:ids.length<=68719476736) (hx:x.2.2.2.2.2.length<=68719476736):Am ids x m=some (AAT m ids x,m):=au (by
 unfold N4
 have key:=Ee (n:=ids.length) (P:=fun i=>∀ acc:List BS,acc.length<=i->EK ids (ids.length:Int) (i:Int) m x acc=some (acc++(ids.drop i).map (fun v=>(x.1,m.1,v,m.2.1,x.2.2.2.2)),m)) (fun acc ha=>Kb (by
  unfold Gx
  rw [if_neg (by simp)]
  simp)) (fun i hi ih acc ha=>Kb (by
  unfold Gx
  simp only [show ((i:Int)<(ids.length:Int)) from by omega,decide_true,if_true,show (0:Int)<=(i:Int) from by omega,Int.toNat_natCast,AT hi,AK (show i<9223372036854775807 by omega)]
  rw [Ng x hx,X,if_pos (by simp; omega),ih _ (by simp; omega),BF hi,List.map_cons,List.append_assoc]
  rfl)) 0 (by omega) [] (by simp)
 exact key)
def AEQ (m:AC):AC:=(m.1,m.2.1,m.2.2.1,m.2.2.2.1,false,false,([]:List Int),m.2.2.2.2.2.2.2.1,(0:Int),(0:Int),(0:Int),(0:Int),(ByteArray.empty,ByteArray.empty,(0:Int)),([]:List Int))
theorem U6 (m:AC):Gd m=some (AEQ m):=kS rfl
theorem TA (view:List Int) (its:List AN) (m:AC) (hv:WOk view) (hi:its.length<=68719476736) (hs:m.2.2.2.2.2.1=false) :
  Dc view its m=some ((B2 view m.1).map (fun v=>(3,m.1,v,m.2.1,0,its)),TH m view its):=Xu (by
 have hvl:=hv.len
 have hrl:=ID view m.1
 unfold NS
 rw [Om view m (by omega),X,BE hi,X,Cm (by show (B2 view m.1).length<=_; omega),X,nc hv,X]
 have ho:=oK hv m.1
 unfold TH
 rw [ho]
 by_cases h0:(B2 view m.1).length=0
 ·rw [if_pos (by simpa using h0),CV _ _ _ (by show (B2 view m.1).length<=_; omega) hi,X,h0]
  rfl
 ·rw [if_neg (by simpa using h0),CV _ _ _ (by show (B2 view m.1).length<=_; omega) hi,X]
  have:(((B2 view m.1).length:Int)==0)=false:=by simpa using h0
  rw [this]
  show some (_,(m.1,m.2.1,m.2.2.1,true,m.2.2.2.2.1,m.2.2.2.2.2.1,_))=_
  rw [hs]
  rfl)
theorem Uo (v:List Int) (x:Int) (h:v.length<=68719476736):M1 v x=some (v.filter (· != x)):=tc (by
 unfold dR
 rw [Cm h,X,Rg,X]
 rfl)
theorem dj (m:AC) (h:m.2.2.2.2.2.2.2.1.length<=34359738367):Hv m=some (Bv m):=iB (by
 unfold S4 Bv
 rw [Uk _ _ h,Ws _ _ (by unfold maxLen; omega)]
 split
 ·rw [X]
  refine N3 ?_
  unfold Il
  rfl
 ·rw [X]
  refine N3 ?_
  unfold Il
  rfl)
def AB9 (m:AC) (views:List (List Int)) (x:BS):List BS×AC :=
 if (x.2.2.2.1==m.2.1+1&&m.2.2.2.1&&(views.getD (m.2.1-1).toNat []).contains m.1)=true then ([(2,m.1,x.2.1,x.2.2.2.1,0,m.2.2.2.2.2.2.2.1)],Wz m x.2.2.2.1) else ([],m)
theorem t_ (m:AC) (views:List (List Int)) (x:BS) (hm:Jx m) (hv:S7 views) (he:m.2.1<=views.length) :
  LJ views x m=some (AB9 m views x):=iF (by
 have hvl:=hv.len
 have hep:=hm.ep
 obtain ⟨l1,l2,l3⟩:=hm.lens
 have hf:m.2.2.2.1=true->m.2.2.1=false:=fun h=>by
  cases hh:m.2.2.1 with
  | false=>rfl
  | true=>rw [(hm.fell hh).1] at h; cases h
 unfold S6 AB9
 rw [Ac (n:=m.2.1+1) (by omega),Ac (n:=m.2.1-1) (by omega)]
 by_cases c1:x.2.2.2.1=m.2.1+1
 case neg=>rw [if_pos (by simpa using c1),if_neg (by simp [c1])]
 rw [if_neg (by simpa using c1)]
 by_cases c2:m.2.2.2.1=true
 case neg=>rw [if_pos (by simpa using c2),if_neg (by simp [c2])]
 rw [if_neg (by simpa using c2),if_pos (by omega),if_pos (by omega),Un _ _ (by have:=(hv.get (i:=(m.2.1-1).toNat) (by omega)).2; unfold maxLen; omega),X]
 cases c3:(views.getD (m.2.1-1).toNat []).contains m.1 with
 | false=>rw [if_pos (by rfl),if_neg (by simp)]
 | true =>
  rw [if_neg (by simp),if_pos (by simp [c1,c2])]
  exact ax (by
   unfold N6
   rw [U6,X,CV _ _ _ (by simp) (by show m.2.2.2.2.2.2.2.1.length<=_; omega),X]
   show some (_,(m.1,x.2.2.2.1,m.2.2.1,_))=_
   rw [hf c2]
   rfl))
def AB_ (m:AC) (e:Int) (its:List AN):AC:=(m.1,e,false,true,false,false,([]:List Int),its,(0:Int),(0:Int),(0:Int),(0:Int),(ByteArray.empty,ByteArray.empty,(0:Int)),([]:List Int))
def ACA (m:AC) (view:List Int) (x:BS):List BS×AC :=
 if (!view.contains m.1||(view.getD 0 0==m.1))=true then ([],m)
 else if x.2.2.2.1>m.2.1\/(m.2.2.2.1=false/\m.2.2.1=false) then ([(4,m.1,x.2.1,x.2.2.2.1,0,([]:List AN))],AB_ m x.2.2.2.1 x.2.2.2.2.2)
 else if m.2.2.2.1=false then ([],m) else ([(4,m.1,x.2.1,m.2.1,0,([]:List AN))],m)
theorem lH (m:AC) (view:List Int) (x:BS) (hv:WOk view) (hx:x.2.2.2.2.2.length<=68719476736) :
  Id view x m=some (ACA m view x):=ay (by
 have hvl:=hv.len
 unfold N7 ACA
 rw [Un _ _ (by unfold maxLen; omega),X]
 cases c3:view.contains m.1 with
 | false=>rw [if_pos (by rfl),if_pos (by rfl)]
 | true =>
  rw [if_neg (by simp),if_pos (by omega),if_pos (by omega)]
  by_cases c4:view.getD 0 0=m.1
  ·rw [if_pos (by simpa using c4),if_pos (by rw [c4]; simp)]
  ·rw [if_neg (by simpa using c4),if_neg (by have:(view.getD 0 0==m.1)=false:=(by simpa using c4); rw [this]; simp)]
   have J1:∀ b:Bool,Cz b m x=some (if b=true then ([(4,m.1,x.2.1,x.2.2.2.1,0,([]:List AN))],AB_ m x.2.2.2.1 x.2.2.2.2.2) else if m.2.2.2.1=false then ([],m) else ([(4,m.1,x.2.1,m.2.1,0,([]:List AN))],m)):=fun b=>U3 (by
    unfold Ke
    cases b with
    | true =>
     rw [if_pos rfl,if_pos rfl,BE hx,X,U6,X,CV _ _ _ (by simp) (by simp),X]
     rfl
    | false =>
     simp only [Bool.false_eq_true,if_false]
     cases hb:m.2.2.2.1 with
     | false=>simp
     | true =>
      simp only [Bool.not_true,Bool.false_eq_true,if_false,Bool.true_eq_false]
      rw [CV _ _ _ (by simp) (by simp),X]
      rfl)
   refine U4 ?_
   unfold Kf
   rw [J1,J1,J1]
   by_cases c5:x.2.2.2.1>m.2.1
   ·rw [if_pos (by simpa using c5)]
    simp [c5]
   ·rw [if_neg (by simpa using c5)]
    cases hb:m.2.2.2.1<;>cases hf:m.2.2.1<;>simp [c5])
def xm (m:AC) (x:BS):List BS×AC :=
 if (x.2.2.2.1==m.2.1&&m.2.2.2.1)=true then
  (if x.1=7 then ([(8,m.1,x.2.1,m.2.1,x.2.2.2.2.1,([]:List AN))],m)
  else ([(6,m.1,x.2.1,m.2.1,x.2.2.2.2.1,([]:List AN))],(m.1,m.2.1,m.2.2.1,m.2.2.2.1,m.2.2.2.2.1,m.2.2.2.2.2.1,m.2.2.2.2.2.2.1,An m.2.2.2.2.2.2.2.1 (x.2.2.2.2.2.getD 0 (ByteArray.empty,ByteArray.empty,(0:Int))),m.2.2.2.2.2.2.2.2)))
 else ([],m)
theorem qT (m:AC) (x:BS) (hm:m.2.2.2.2.2.2.2.1.length<=12) (h5:x.1≠7->0<x.2.2.2.2.2.length) :
  KC x m=some (xm m x):=fD (by
 unfold RH xm
 by_cases c1:x.2.2.2.1=m.2.1
 case neg=>rw [if_pos (by simpa using c1),if_neg (by simp [c1])]
 rw [if_neg (by simpa using c1)]
 by_cases c2:m.2.2.2.1=true
 case neg=>rw [if_pos (by simpa using c2),if_neg (by simp [c2])]
 rw [if_neg (by simpa using c2),if_pos (by simp [c1,c2])]
 refine Xv ?_
 unfold NY
 by_cases c7:x.1=7
 ·rw [if_pos (by simpa using c7),if_pos c7,CV _ _ _ (by simp) (by simp),X]
  rfl
 ·have:=h5 c7
  rw [if_neg (by simpa using c7),if_neg c7,if_pos (by omega),if_pos (by omega),Uk _ _ (by omega),X,CV _ _ _ (by simp) (by simp),X]
  rfl)
theorem W5 (m:AC) (op:Int) (x:BS) (hm:Jx m) :
  Ge op x m=some (if (x.2.2.2.1==m.2.1&&m.2.2.2.2.2.2.2.2.2.1==op&&m.2.2.2.2.2.2.2.2.2.2.2.1==x.2.2.2.2.1)=true then ((Gq m x.2.1).2.2,(Gq m x.2.1).1) else ([],m)):=dS (by
 obtain ⟨l1,l2,l3⟩:=hm.lens
 unfold PY
 by_cases c1:x.2.2.2.1=m.2.1
 case neg=>rw [if_pos (by simpa using c1),if_neg (by simp [c1])]
 rw [if_neg (by simpa using c1)]
 by_cases c2:m.2.2.2.2.2.2.2.2.2.1=op
 case neg=>rw [if_pos (by simpa using c2),if_neg (by simp [c2])]
 rw [if_neg (by simpa using c2)]
 by_cases c3:m.2.2.2.2.2.2.2.2.2.2.2.1=x.2.2.2.2.1
 case neg=>rw [if_pos (by simpa using c3),if_neg (by simp [c3])]
 rw [if_neg (by simpa using c3),if_pos (by simp [c1,c2,c3])]
 refine Wn ?_
 unfold MA Gq
 rw [Uo _ _ (by omega),X]
 by_cases c4:(m.2.2.2.2.2.2.2.2.2.2.2.2.2.filter (· != x.2.1)).length=0
 ·rw [if_neg (by rw [c4]; decide),if_pos (by rw [c4]; decide),dj _ (by show m.2.2.2.2.2.2.2.1.length<=_; omega)]
  rfl
 ·rw [if_pos (decide_eq_true (by omega)),if_neg (by rw [beq_iff_eq]; omega)]
  rfl)

def vE (x:BS):BS:=if x.1=3 then (x.1,x.2.1,x.2.2.1,x.2.2.2.1,0,x.2.2.2.2.2) else x
def dl (m:AC) (views:List (List Int)) (x:BS):AC×List BS×List C9:=if Wy x=true then Di m views (vE x) else (m,[],[])
theorem ACB (x:BS):(vE x).2.2.1=x.2.2.1/\(vE x).2.2.2.1=x.2.2.2.1:=by unfold vE; split<;>exact ⟨rfl,rfl⟩
theorem eJ {m:AC} {views:List (List Int)} {x:BS} (h:¬ (x.2.2.1=m.1/\m.2.1<=x.2.2.2.1/\x.2.2.2.1<=(views.length:Int)/\Wy x=true)):dl m views x=(m,[],[]):=by
 unfold dl
 split
 ·rename_i hx
  unfold Di
  rw [if_neg (by
   rw [(ACB x).1,(ACB x).2]
   simp only [Bool.and_eq_true,beq_iff_eq,decide_eq_true_eq]
   exact fun g=>h ⟨g.1.1.2,g.1.2,g.2,hx⟩)]
 ·rfl
theorem xn {x:BS} (h:x.1≠3):vE x=x:=if_neg h
theorem ACC {x:BS} (h:x.1=3->x.2.2.2.2.1=0):vE x=x:=by
 unfold vE
 split
 ·rename_i e
  obtain ⟨a,b,c,d,e,f⟩:=x
  have:=h ‹_›
  dsimp only at this
  rw [this]
 ·rfl
theorem yx {m:AC} {views:List (List Int)} {x:BS} (hx:XOk x) (h1:x.2.2.1=m.1) (h2:m.2.1<=x.2.2.2.1) (h3:x.2.2.2.1<=(views.length:Int)):Di m views x =
  (if x.2.2.2.1=m.2.1 then de m (views.getD (m.2.1-1).toNat []) x
  else if (x.1==1&&(x.2.2.2.1==m.2.1+1)&&m.2.2.2.1&&(views.getD (m.2.1-1).toNat []).contains m.1)=true then (Wz m x.2.2.2.1,[(2,m.1,x.2.1,x.2.2.2.1,0,m.2.2.2.2.2.2.2.1)],[])
  else if (x.1==3&&(views.getD (x.2.2.2.1-1).toNat []).contains m.1&&((views.getD (x.2.2.2.1-1).toNat []).getD 0 0 != m.1))=true then
   ((m.1,x.2.2.2.1,false,true,false,false,([]:List Int),x.2.2.2.2.2,(0:Int),(0:Int),(0:Int),(0:Int),(ByteArray.empty,ByteArray.empty,(0:Int)),([]:List Int)),Ey m x 4,[])
  else (m,[],[])):=by
 unfold Di
 rw [if_pos (by rw [eF.2 hx]; simp [h1,h2,h3])]
theorem lI {a:AC} {b:List BS} {c:List C9} {r:AC×List BS×List C9} (h:r=(a,b,c)):(b,c,a)=(r.2.1,r.2.2,r.1):=by rw [h]
theorem uA (m:AC) (views:List (List Int)) (x:BS) (hm:Jx m) (hv:S7 views) (hx:XOk x) (h1:x.2.2.1=m.1) (h2:m.2.1<=x.2.2.2.1) (h3:x.2.2.2.1<=(views.length:Int)) :
  LI views x m=some ((dl m views x).2.1,(dl m views x).2.2,(dl m views x).1):=iA (by
 have hvl:=hv.len
 have hep:=hm.ep
 have hxe:=hx.ep
 have hxi:=Jy hx.items
 obtain ⟨l1,l2,l3⟩:=hm.lens
 have hin:=yx hx h1 h2 h3
 unfold S3 dl
 rw [if_pos (eF.2 hx)]
 have hV:=hv.wok (i:=(m.2.1-1).toNat) (by omega)
 generalize hVe:views.getD (m.2.1-1).toNat []=V at hV hin
 have hk:=hx.kind
 by_cases k1:x.1=1
 ·rw [if_pos (by simpa using k1),t_ m views x hm hv (by omega),X,xn (by omega)]
  congr 1
  apply lI
  rw [hin]
  unfold AB9
  rw [hVe]
  by_cases e:x.2.2.2.1=m.2.1
  ·rw [if_pos e,if_neg (by rw [e]; simp; omega)]
   unfold de
   simp [k1]
  ·rw [if_neg e]
   cases hc:(x.2.2.2.1==m.2.1+1&&m.2.2.2.1&&V.contains m.1) with
   | true =>
    rw [if_pos (by rw [k1]; simpa using hc),if_pos rfl]
   | false =>
    rw [if_neg (by rw [k1]; simpa using hc),if_neg (by simp [k1]),if_neg (by simp)]
 rw [if_neg (by simpa using k1)]
 by_cases k2:x.1=2
 ·have J:∀ b:Bool,(b=true->m.2.2.2.1=false)->D2 views b m x=some (if b=true then ((B2 V m.1).map (fun v=>(3,m.1,v,m.2.1,0,x.2.2.2.2.2)),[],TH m V x.2.2.2.2.2) else ([],[],m)):=fun b hb=>am (by
   unfold Nz
   cases b with
   | false=>rw [if_neg (by simp),if_neg (by simp)]
   | true =>
    have hs:m.2.2.2.2.2.1=false:=by
     cases hh:m.2.2.2.2.2.1 with
     | false=>rfl
     | true=>have:=(hm.serves hh).1; rw [hb rfl] at this; cases this
    rw [if_pos rfl,if_pos rfl,Ac (by omega),if_pos (by omega),if_pos (by omega),hVe,TA V _ m hV (by omega) hs,X])
  rw [if_pos (by simpa using k2),xn (by omega)]
  by_cases e:x.2.2.2.1=m.2.1
  ·rw [if_pos (by simpa using e)]
   have ho:Di m views x=(if (m.2.2.2.2.1&&!m.2.2.2.1)=true then (TH m V x.2.2.2.2.2,(B2 V m.1).map (fun v=>(3,m.1,v,m.2.1,0,x.2.2.2.2.2)),[]) else (m,[],[])):=by
    rw [hin,if_pos e]; unfold de; rw [if_pos k2]
   rw [ho]
   cases hl:m.2.2.2.2.1 with
   | false=>rw [if_neg (by simp),J false (by simp),if_neg (by simp),if_neg (by simp)]
   | true =>
    rw [if_pos (by rfl),J _ (by simp)]
    cases hb:m.2.2.2.1 with
    | true=>rw [if_neg (by simp),if_neg (by simp)]
    | false=>rw [if_pos (by rfl),if_pos (by rfl)]
  ·rw [if_neg (by simpa using e),J false (by simp),if_neg (by simp)]
   congr 1
   apply lI
   rw [hin,if_neg e,if_neg (by simp [k2]),if_neg (by simp [k2])]
 rw [if_neg (by simpa using k2)]
 by_cases k3:x.1=3
 ·have hW:=hv.wok (i:=(x.2.2.2.1-1).toNat) (by omega)
  rw [if_pos (by simpa using k3),Ac (by omega),if_pos (by omega),if_pos (by omega)]
  have hx':XOk (vE x):=by
   unfold vE
   rw [if_pos k3]
   exact ⟨hx.kind,hx.frm,hx.to,hx.ep,(show (0:Int)<=0/\(0:Int)<=1000000000 from by decide),hx.items,hx.shape⟩
  have hf:vE x=(x.1,x.2.1,x.2.2.1,x.2.2.2.1,0,x.2.2.2.2.2):=if_pos k3
  have hin2:=yx (m:=m) (views:=views) hx' (by rw [hf]; exact h1) (by rw [hf]; exact h2) (by rw [hf]; exact h3)
  rw [hVe] at hin2
  generalize hWe:views.getD (x.2.2.2.1-1).toNat []=Wv at hW
  rw [lH m Wv x hW (by omega),X]
  congr 1
  apply lI
  rw [hin2,hf]
  dsimp only
  rw [hWe]
  unfold ACA
  by_cases e:x.2.2.2.1=m.2.1
  ·have hVW:Wv=V:=by rw [<- hWe,<- hVe,e]
   rw [if_pos e]
   unfold de
   rw [if_neg (by rw [k3]; decide),if_pos k3,hVW]
   dsimp only
   cases hc:(!V.contains m.1||(V.getD 0 0==m.1)) with
   | true=>simp only [if_true]
   | false =>
    simp only [Bool.false_eq_true,if_false]
    cases hb:m.2.2.2.1<;>cases hf2:m.2.2.1<;>simp [e,Ey,AB_]
  ·rw [if_neg e,if_neg (by rw [k3]; simp)]
   cases hc:(!Wv.contains m.1||(Wv.getD 0 0==m.1)) with
   | true =>
    rw [if_neg (by
     intro h
     simp only [Bool.and_eq_true,bne_iff_ne,Bool.or_eq_true,Bool.not_eq_true',beq_iff_eq] at h hc
     rcases hc with hc | hc
     ·rw [hc] at h; exact absurd h.1.2 (by simp)
     ·exact h.2 hc),if_pos rfl]
   | false =>
    rw [if_pos (by
     simp only [Bool.or_eq_false_iff,Bool.not_eq_false'] at hc
     rw [k3,hc.1]
     simpa using hc.2),if_neg (by simp),if_pos (Or.inl (by omega))]
    rfl
 rw [if_neg (by simpa using k3),xn k3]
 by_cases k4:x.1=4
 ·rw [if_pos (by simpa using k4)]
  have J:∀ b:Bool,F_ b m x=some (if b=true then ([],[],(m.1,m.2.1,m.2.2.1,m.2.2.2.1,m.2.2.2.2.1,m.2.2.2.1&&(((m.2.2.2.2.2.2.1.filter (· != x.2.1)).length:Int)==0),m.2.2.2.2.2.2.1.filter (· != x.2.1),m.2.2.2.2.2.2.2)) else ([],[],m)):=fun b=>an (by
   unfold N0
   cases b with
   | false=>rw [if_neg (by simp),if_neg (by simp)]
   | true =>
    rw [if_pos rfl,if_pos rfl,Uo _ _ (by omega),X]
    cases hs:m.2.2.2.2.2.1 with
    | true =>
     obtain ⟨q1,q2,q3⟩:=hm.serves hs
     rw [if_neg (by simp),q3,q1]
     rfl
    | false =>
     rw [if_pos rfl]
     cases hq:(((m.2.2.2.2.2.2.1.filter (· != x.2.1)).length:Int)==0) with
     | true=>rw [if_pos rfl,Bool.and_true]
     | false=>rw [if_neg (by simp),Bool.and_false])
  by_cases e:x.2.2.2.1=m.2.1
  ·rw [if_pos (by simpa using e),J]
   have ho:Di m views x=(if m.2.2.2.2.1=true then
     ((m.1,m.2.1,m.2.2.1,m.2.2.2.1,m.2.2.2.2.1,m.2.2.2.1&&(((m.2.2.2.2.2.2.1.filter (· != x.2.1)).length:Int)==0),m.2.2.2.2.2.2.1.filter (· != x.2.1),m.2.2.2.2.2.2.2),[],[]) else (m,[],[])):=by
    rw [hin,if_pos e]; unfold de; rw [if_neg k2,if_neg k3,if_pos k4]
   rw [ho]
   cases hl:m.2.2.2.2.1 with
   | false=>rw [if_neg (by simp),if_neg (by simp)]
   | true=>rw [if_pos rfl,if_pos rfl]
  ·rw [if_neg (by simpa using e),J,if_neg (by simp)]
   congr 1
   apply lI
   rw [hin,if_neg e,if_neg (by simp [k4]),if_neg (by simp [k4])]
 rw [if_neg (by simpa using k4)]
 have st:x.1=5\/x.1=7->xm m x=((Di m views x).2.1,(Di m views x).1)/\(Di m views x).2.2=[]:=fun hk=>by
  rw [hin]
  unfold xm
  by_cases e:x.2.2.2.1=m.2.1
  ·rw [if_pos e]
   unfold de Ey
   rw [if_neg k2,if_neg k3,if_neg k4,e]
   cases hb:m.2.2.2.1 with
   | true =>
    rcases hk with hk | hk
    ·rw [if_pos (by simp),if_neg (by omega),if_pos hk,if_pos rfl]
     exact ⟨rfl,rfl⟩
    ·rw [if_pos (by simp),if_pos hk,if_neg (by omega),if_pos hk,if_pos rfl]
     exact ⟨rfl,rfl⟩
   | false =>
    rcases hk with hk | hk
    ·rw [if_neg (by simp),if_pos hk,if_neg (by simp)]
     exact ⟨rfl,rfl⟩
    ·rw [if_neg (by simp),if_neg (by omega),if_pos hk,if_neg (by simp)]
     exact ⟨rfl,rfl⟩
  ·simp [e,k1,k3]
 have sd:∀ op,x.1=6/\op=1\/x.1=8/\op=2->(if (x.2.2.2.1==m.2.1&&m.2.2.2.2.2.2.2.2.2.1==op&&m.2.2.2.2.2.2.2.2.2.2.2.1==x.2.2.2.2.1)=true then ((Gq m x.2.1).2.2,(Gq m x.2.1).1) else ([],m))=((Di m views x).2.2,(Di m views x).1)/\(Di m views x).2.1=[]:=fun op hk=>by
  have ht:(Gq m x.2.1).2.1=[]:=by unfold Gq; split<;>rfl
  rw [hin]
  by_cases e:x.2.2.2.1=m.2.1
  ·rw [if_pos e]
   unfold de
   rw [if_neg k2,if_neg k3,if_neg k4,if_neg (show ¬ x.1=5 by omega),if_neg (show ¬ x.1=7 by omega),e]
   have hop:(if x.1=8 then (2:Int) else 1)=op:=by
    rcases hk with ⟨h,h'⟩ | ⟨h,h'⟩
    ·rw [if_neg (by omega),h']
    ·rw [if_pos h,h']
   rw [hop]
   by_cases c1:m.2.2.2.2.2.2.2.2.2.1=op
   ·by_cases c2:m.2.2.2.2.2.2.2.2.2.2.2.1=x.2.2.2.2.1
    ·rw [if_pos (by simp [c1,c2]),if_pos ⟨by omega,c1,c2⟩]
     exact ⟨rfl,ht⟩
    ·simp [c2]
   ·simp [c1]
  ·simp [e,k1,k3]
 have h7:x.1≠7->x.1=5->0<x.2.2.2.2.2.length:=fun _ h5=>by
  have:=hx.shape
  rw [if_neg (by omega),if_pos h5] at this
  omega
 have J2:∀ b:Bool,(b=true↔x.1=5\/x.1=7)->GA x.1 b m x=some ((Di m views x).2.1,(Di m views x).2.2,(Di m views x).1):=fun b hb=>aq (by
  unfold N1
  cases b with
  | true =>
   have hk5:=hb.1 rfl
   obtain ⟨q1,q2⟩:=st hk5
   rw [if_pos rfl,qT m x l2 (fun h=>h7 h (by omega)),X,q1,q2]
  | false =>
   have hn:¬ (x.1=5\/x.1=7):=fun h=>by have:=hb.2 h; cases this
   rw [if_neg (by simp)]
   by_cases k6:x.1=6
   ·obtain ⟨q1,q2⟩:=sd 1 (.inl ⟨k6,rfl⟩)
    rw [if_pos (by simpa using k6),W5 m 1 x hm,X,q1,q2]
   ·obtain ⟨q1,q2⟩:=sd 2 (.inr ⟨by omega,rfl⟩)
    rw [if_neg (by simpa using k6),if_pos (by rw [beq_iff_eq]; omega),W5 m 2 x hm,X,q1,q2])
 by_cases k5:x.1=5
 ·rw [if_pos (by simpa using k5),J2 _ (by simp [k5])]
 ·rw [if_neg (by simpa using k5),J2 _ (by simp [k5])])
theorem Le {m:AC} (h:Jx m):GJ m=some true:=by
 obtain ⟨h1,h2,h3⟩:=h.lens
 rw [iI m (by unfold maxLen; omega) (by unfold maxLen; omega) (by unfold maxLen; omega),AAJ.2 h]
theorem En {views:List (List Int)} (h:S7 views):DY views=some true:=by
 have:=h.len
 rw [kq views (by unfold maxLen; omega) (fun a ha=>by have:=(h.view ha).2; unfold maxLen; omega),h.ok]
theorem lJ (m:AC) (views:List (List Int)) (x:BS) (hm:Jx m) (hv:S7 views) (hx:x.2.2.2.2.2.length<=68719476736) :
  My m views x=some (dl m views x):=tL (by
 have hxm:x.2.2.2.2.2.length<=maxLen:=by unfold maxLen; omega
 unfold dD
 rw [hm.icopy,X]
 by_cases c1:x.2.2.1=m.1
 case neg=>rw [if_neg (by simpa using c1),eJ (fun h=>c1 h.1)]
 rw [if_pos (by simpa using c1)]
 by_cases c2:x.2.2.2.1<m.2.1
 ·rw [if_neg (by simpa using c2),eJ (fun h=>by omega)]
 rw [if_pos (by simpa using c2)]
 by_cases c3:x.2.2.2.1>(views.length:Int)
 ·rw [if_neg (by simpa using c3),eJ (fun h=>by omega)]
 rw [if_pos (by simpa using c3),Le hm,X,if_pos (by rfl),En hv,X,if_pos (by rfl),qQ x hxm,X]
 cases hmo:Wy x with
 | false=>rw [if_pos (by rfl),eJ (fun h=>by rw [hmo] at h; cases h.2.2.2)]
 | true =>
  rw [if_neg (by simp)]
  have hx':=eF.1 hmo
  refine kC ?_
  unfold UQ
  have hok:Jx (dl m views x).1:=by
   unfold dl
   rw [if_pos hmo]
   exact (Pg hm hv).mok
  rw [uA m views x hm hv hx' c1 (by omega) (by omega),X,hok.icopy,X])

theorem vF (x:List Int):gO x=some (decide ((x.length:Int)>1048576)):=zf rfl
theorem vG (m:AC):T_ m=some (W4 m):=yl rfl



theorem xo (x:List AN) {k k2:ByteArray} (h:k.toList=k2.toList):BJ x k=BJ x k2:=by
 unfold BJ
 rw [h]
theorem ADK {x:List AN} {a b:AN} (hx:Aw x=true) (hb:b∈x):b.2.2<=(BJ (An x a) b.1).2.2:=by
 have ho:=(Cw.1 hx).2.1
 have same:b.2.2<=(BJ x b.1).2.2:=by rw [Ok ho hb]; exact Int.le_refl _
 unfold An
 split
 ·exact same
 ·rename_i hs
  try rw [if_pos hx]
  split
  ·rename_i hl
   have ho':=(Cw.1 hl).2.1
   cases hk:(b.1.toList==a.1.toList) with
   | false=>rw [Ok ho' (zi hb hk)]; exact Int.le_refl _
   | true =>
    rw [xo _ (beq_iff_eq.1 hk),Ok ho' tp]
    have:¬ (b.2.2>=a.2.2):=fun h=>hs (List.any_eq_true.2 ⟨b,hb,by rw [hk]; simpa using h⟩)
    omega
  ·exact same

def fj (k:ByteArray) (b:AN):Bool:=b.1.toList==k.toList
theorem yy (k:ByteArray):∀ x:List AN,(x.filter (U7 k)).length+(x.filter (QU k)).length+(x.filter (fj k)).length=x.length
 | []=>rfl
 | b::x=>by
  have ih:=yy k x
  have hi:QU k b=!(U7 k b||fj k b):=rfl
  cases hl:U7 k b with
  | true =>
   have hs:fj k b=false:=by
    cases q:fj k b with
    | false=>rfl
    | true =>
     have e:b.1.toList=k.toList:=by simpa [fj] using q
     unfold U7 at hl
     rw [e,eE] at hl
     cases hl
   simp only [List.filter_cons,hi,hl,hs,Bool.true_or,Bool.not_true,if_true,Bool.false_eq_true,if_false,List.length_cons]
   omega
  | false =>
   cases hs:fj k b with
   | true =>
    simp only [List.filter_cons,hi,hl,hs,Bool.false_or,Bool.not_true,if_true,Bool.false_eq_true,if_false,List.length_cons]
    omega
   | false =>
    simp only [List.filter_cons,hi,hl,hs,Bool.or_false,Bool.not_false,if_true,Bool.false_eq_true,if_false,List.length_cons]
    omega
def JV (x:List AN) (k:ByteArray):Bool:=x.any (fj k)
theorem uB {x:List AN} {k:ByteArray}:JV x k=true↔1<=(x.filter (fj k)).length:=by
 unfold JV
 rw [List.any_eq_true]
 constructor
 ·rintro ⟨b,hb,hs⟩
  exact List.length_pos_of_mem (List.mem_filter.2 ⟨hb,hs⟩)
 ·intro h
  obtain ⟨b,hb⟩:=List.exists_mem_of_length_pos h
  exact ⟨b,(List.mem_filter.1 hb).1,(List.mem_filter.1 hb).2⟩
theorem dp {x:List AN} {k:ByteArray} (h:JV x k=false):BJ x k=(ByteArray.empty,ByteArray.empty,0):=by
 unfold BJ
 have:x.find? (fun a=>a.1.toList==k.toList)=none:=by
  rw [List.find?_eq_none]
  intro b hb hs
  have:JV x k=true:=List.any_eq_true.2 ⟨b,hb,hs⟩
  rw [h] at this
  cases this
 rw [this]
 rfl
theorem uC {x:List AN} {k:ByteArray} (h:JV x k=true):BJ x k∈x/\(BJ x k).1.toList=k.toList:=by
 obtain ⟨b,hb,hs⟩:=List.any_eq_true.1 h
 unfold BJ
 cases q:x.find? (fun a=>a.1.toList==k.toList) with
 | none =>
  rw [List.find?_eq_none] at q
  exact absurd hs (q b hb)
 | some c=>exact ⟨List.mem_of_find?_eq_some q,by simpa using List.find?_some q⟩
theorem ACD {x:List AN} {k:ByteArray} (hx:Aw x=true):Ph (.pair .str (.pair .str (.int .i64))) (BJ x k) (ByteArray.empty,ByteArray.empty,(0:Int))=!JV x k:=by
 cases h:JV x k with
 | false=>rw [dp h]; exact yu _
 | true =>
  obtain ⟨h1,h2⟩:=uC h
  have h3:=(Cw.1 hx).1 _ h1
  unfold Jw at h3
  simp only [Bool.and_eq_true,decide_eq_true_eq] at h3
  have h4:((BJ x k).2.2==(0:Int))=false:=by
   rw [beq_eq_false_iff_ne]
   omega
  show ((BJ x k).1.toList==_&&((BJ x k).2.1.toList==_&&((BJ x k).2.2==(0:Int))))=false
  rw [h4,Bool.and_false,Bool.and_false]
theorem AAU {x:List AN} {a:AN} (hx:Aw x=true) (ha:Jw a=true) (hv:Nf x (a.2.2-1)) :
  An x a=if x.length=12/\JV x a.1=false then x else TG x a:=by
 obtain ⟨h1,h2,h3⟩:=Cw.1 hx
 have hs:aP x a=false:=by
  cases q:aP x a with
  | false=>rfl
  | true =>
   obtain ⟨b,hb,hc⟩:=List.any_eq_true.1 q
   simp only [Bool.and_eq_true,decide_eq_true_eq] at hc
   have:=hv b hb
   omega
 have hl:=yy a.1 x
 have hlen:(TG x a).length=(x.filter (U7 a.1)).length+1+(x.filter (QU a.1)).length:=by simp [TG]; omega
 unfold An
 rw [hs,if_neg (by simp),if_pos hx]
 have hk:Aw (TG x a)=true↔(TG x a).length<=12:=by
  rw [Cw]
  refine ⟨fun h=>h.2.2,fun h=>⟨fun b hb=>?_,iG a h2,h⟩⟩
  rcases yq hb with e | e
  ·rw [e]; exact ha
  ·exact h1 b e
 cases hh:JV x a.1 with
 | true =>
  have:=uB.1 hh
  rw [if_pos (hk.2 (by omega)),if_neg (by simp)]
 | false =>
  have h0:(x.filter (fj a.1)).length=0:=by
   rcases Nat.eq_zero_or_pos (x.filter (fj a.1)).length with e | e
   ·exact e
   ·have:=uB.2 e
    rw [hh] at this
    cases this
  by_cases h12:x.length=12
  ·rw [if_neg (fun h=>by have:=hk.1 h; omega),if_pos ⟨h12,rfl⟩]
  ·rw [if_pos (hk.2 (by omega)),if_neg (fun h=>h12 h.1)]
theorem uD {x:List AN} {a:AN} (hx:Aw x=true) (ha:Jw a=true) (hv:Nf x (a.2.2-1)) :
  Ph (.pair .str (.pair .str (.int .i64))) (BJ (An x a) a.1) a=!(decide (x.length=12)&&!JV x a.1):=by
 obtain ⟨h1,h2,h3⟩:=Cw.1 hx
 have ha2:=ha
 unfold Jw at ha2
 simp only [Bool.and_eq_true,decide_eq_true_eq] at ha2
 rw [AAU hx ha hv]
 by_cases h:x.length=12/\JV x a.1=false
 ·rw [if_pos h,dp h.2,h.2,decide_eq_true h.1]
  have h4:((0:Int)==a.2.2)=false:=by
   rw [beq_eq_false_iff_ne]
   omega
  show (_&&(_&&((0:Int)==a.2.2)))=false
  rw [h4,Bool.and_false,Bool.and_false]
 ·rw [if_neg h,Ok (iG a h2) tp,yu]
  by_cases h12:x.length=12
  ·cases hh:JV x a.1 with
   | true=>simp
   | false=>exact absurd ⟨h12,hh⟩ h
  ·simp [h12]
def mbS (m:AC) (views:List (List Int)):Bool:=m.2.2.2.2.2.1&&(m.2.2.2.2.2.2.2.2.2.1==0)&&decide (m.2.2.2.2.2.2.2.2.1<900)&&decide (m.2.1<=(views.length:Int))&&((views.getD (m.2.1-1).toNat []).getD 0 0==m.1)
def akS (op call:Int) (key val:ByteArray):Bool:=(op==1||op==2)&&(decide (0<=call)&&decide (call<=1000))&&(decide (1<=(key.size:Int))&&decide ((key.size:Int)<=12))&&decide ((val.size:Int)<=20)&&(op==1||xh val)
theorem uE (m:AC) (views:List (List Int)) (op call:Int) (key val:ByteArray):Xy m views op call key val=(mbS m views&&akS op call key val):=by
 unfold Xy mbS akS
 ac_rfl
theorem iO (m:AC) (views:List (List Int)) (hm:Jx m) (hv:S7 views):Hu views m=some (mbS m views,m):=Xr (by
 have hvl:=hv.len
 have hep:=hm.ep
 have hcnt:=hm.count
 have wm:IntKind.i64.wrap (m.2.1-1)=m.2.1-1:=Ac (by omega)
 unfold NR mbS
 cases h1:m.2.2.2.2.2.1 with
 | false=>rfl
 | true =>
  rw [if_pos (by rfl)]
  by_cases h2:m.2.2.2.2.2.2.2.2.2.1=0
  ·rw [if_pos (by rw [h2]; rfl),h2]
   by_cases h3:m.2.2.2.2.2.2.2.2.1=900
   ·rw [if_neg (by rw [h3]; simp),h3]
    rfl
   ·rw [if_pos (by simpa using h3),decide_eq_true (show m.2.2.2.2.2.2.2.2.1<900 by omega)]
    by_cases h4:m.2.1>(views.length:Int)
    ·rw [if_pos (by simpa using h4),decide_eq_false (show ¬ m.2.1<=(views.length:Int) by omega)]
     rfl
    ·rw [if_neg (by simpa using h4),decide_eq_true (show m.2.1<=(views.length:Int) by omega)]
     refine TF ?_
     have g1:=hv.get (i:=(m.2.1-1).toNat) (by omega)
     unfold J7
     rw [En hv,X,if_pos (by rfl),wm,if_pos (by omega),if_pos (by omega),if_pos (by omega),if_pos (by omega)]
     rfl
  ·rw [if_neg (by simpa using h2),show (m.2.2.2.2.2.2.2.2.2.1==(0:Int))=false by simpa using h2]
   rfl)
theorem uF (op call:Int) (key val:ByteArray):Mx op call key val=some (akS op call key val):=j6 (by
 have w:∀ b,Ky op val b=some (op==1||xh val):=fun b=>Zz (by
  unfold QI
  rw [nW]
  by_cases h:op=1
  ·rw [if_neg (by simp [h]),h]; rfl
  ·rw [if_pos (by simpa using h),show (op==1)=false by simpa using h]; rfl)
 unfold Xo akS
 have AA3:decide ((val.size:Int)>20)=!decide ((val.size:Int)<=20):=by
  by_cases h:(val.size:Int)<=20
  ·rw [decide_eq_true h,decide_eq_false (by omega)]; rfl
  ·rw [decide_eq_false h,decide_eq_true (by omega)]; rfl
 have h12:(op==1||op==2)=(decide (1<=op)&&decide (op<=2)):=by
  by_cases a:op=1
  ·subst a; rfl
  ·by_cases b:op=2
   ·subst b; rfl
   ·rw [show (op==1)=false by simpa using a,show (op==2)=false by simpa using b,<- Bool.decide_and,decide_eq_false (by omega)]; rfl
 rw [Ar,X,Ar,QT,h12]
 cases (decide (1<=op)&&decide (op<=2)) with
 | false=>rfl
 | true =>
  rw [if_pos (by rfl),X]
  cases (decide (0<=call)&&decide (call<=1000)) with
  | false=>rfl
  | true =>
   rw [if_pos (by rfl),X]
   cases (decide (1<=(key.size:Int))&&decide ((key.size:Int)<=12)) with
   | false=>rfl
   | true =>
    rw [if_pos (by rfl),AA3,w]
    cases decide ((val.size:Int)<=20)<;>rfl)
theorem qU (m:AC) (views:List (List Int)) (op call:Int) (key val:ByteArray) (hm:Jx m) (hv:S7 views) (h1:V1 views m):Re m views op call key val=some (Dj m views op call key val):=xb (by
 have hvl:=hv.len
 have hep:=hm.ep
 have hcnt:=hm.count
 have hl:=hm.lens
 have wm:IntKind.i64.wrap (m.2.1-1)=m.2.1-1:=Ac (by omega)
 have wc:IntKind.i64.wrap (m.2.2.2.2.2.2.2.2.1+1)=m.2.2.2.2.2.2.2.2.1+1:=Ac (by omega)
 have wk:IntKind.i64.wrap (1000*m.2.1)=1000*m.2.1:=Ac (by omega)
 have wv:IntKind.i64.wrap (1000*m.2.1+(m.2.2.2.2.2.2.2.2.1+1))=1000*m.2.1+(m.2.2.2.2.2.2.2.2.1+1):=Ac (by omega)
 unfold kG Dj
 rw [Le hm,X,if_pos (by rfl),iO m views hm hv,X,uF,uE]
 cases hb:mbS m views with
 | false=>rfl
 | true =>
  dsimp only
  rw [if_pos (by rfl),X]
  cases ha:akS op call key val with
  | false=>rfl
  | true =>
   rw [if_neg (by simp),if_pos (by rfl)]
   have hmay:Xy m views op call key val=true:=by rw [uE,hb,ha]; rfl
   obtain ⟨s1,s2,s3,s4,s5,s6,s7,s8,s9,s10⟩:=eH hmay
   obtain ⟨b1,b2,_⟩:=hm.serves s1
   have hw:=hv.wok (i:=(m.2.1-1).toNat) (by omega)
   have hwl:=hw.len
   have hrl:=ID (views.getD (m.2.1-1).toNat []) m.1
   have ho:=oK hw m.1
   have hone:Jw (Gs m key val)=true:=(Cw.1 (tt hm s3 s6 s7)).1 _ (by simp)
   have href:=uD (a:=Gs m key val) hm.items hone ((h1.own b2 b1).mono (by show _<=1000*m.2.1+(m.2.2.2.2.2.2.2.2.1+1)-1; omega))
   have hz:=ACD (k:=key) hm.items
   have J1:∀ b z,IM views op call b m z (m.1,m.2.1,m.2.2.1,m.2.2.2.1,m.2.2.2.2.1,m.2.2.2.2.2.1,m.2.2.2.2.2.2.1,m.2.2.2.2.2.2.2.1,m.2.2.2.2.2.2.2.2.1+1,m.2.2.2.2.2.2.2.2.2) (key,val,1000*m.2.1+(m.2.2.2.2.2.2.2.2.1+1))=some (S9 m (views.getD (m.2.1-1).toNat []) op call key val):=fun b z=>ph (by
    unfold Z4
    rw [wm,if_pos (by omega),if_pos (by omega),Om _ _ (by omega),X,Cm (by show (B2 (views.getD (m.2.1-1).toNat []) m.1).length<=_; omega),X]
    have hsort:=nc hw m.1
    change ((Cx (B2 (views.getD (m.2.1-1).toNat []) m.1)).bind _)=_
    rw [hsort,X]
    have J2:∀ a c d e x,(∀ q:BS,q=x->q.2.2.2.2.2.length<=12)->(AAT (G0 m (views.getD (m.2.1-1).toNat []) op call key val) (B2 (views.getD (m.2.1-1).toNat []) m.1) x=ts m (views.getD (m.2.1-1).toNat []) op key val) ->
      Kz (B2 (views.getD (m.2.1-1).toNat []) m.1) a c (G0 m (views.getD (m.2.1-1).toNat []) op call key val) d e x=some (S9 m (views.getD (m.2.1-1).toNat []) op call key val):=fun a c d e x hx12 htell=>pf (by
     have hx:=hx12 x rfl
     unfold Z3 S9
     by_cases h0:(B2 (views.getD (m.2.1-1).toNat []) m.1).length=0
     ·rw [if_pos (by simpa using h0),if_pos (List.length_eq_zero_iff.1 (by rw [ho,h0])),dj _ (by show m.2.2.2.2.2.2.2.1.length<=_; omega),X]
     ·rw [if_neg (by simpa using h0),if_neg (fun e=>h0 (by rw [<- ho,e]; rfl)),CV _ _ _ (by omega) (by omega),X,htell]
      exact lV)
    by_cases hop:op=1
    ·rw [if_pos (by simpa using hop)]
     refine J2 _ _ _ _ _ (fun q e=>by subst e; simp) ?_
     unfold AAT ts
     simp only [hop,if_true]
     rfl
    ·rw [if_neg (by simpa using hop)]
     refine J2 _ _ _ _ _ (fun q e=>by subst e; simp) ?_
     unfold AAT ts
     simp only [hop,if_false]
     rfl)
   refine pj ?_
   unfold Z5
   rw [hm.icopy,X,wc,wk,wv]
   by_cases hop:op=1
   ·rw [if_pos (by simpa using hop)]
    by_cases h12:m.2.2.2.2.2.2.2.1.length=12
    ·rw [if_pos (by simp only [beq_iff_eq]; omega),Ws _ _ (by unfold maxLen; omega),X]
     change (if (false != Ph (.pair .str (.pair .str (.int .i64))) (BJ m.2.2.2.2.2.2.2.1 key) (ByteArray.empty,ByteArray.empty,(0:Int)))=true then _ else _)=_
     rw [hz]
     rw [h12] at href
     cases hh:JV m.2.2.2.2.2.2.2.1 key with
     | false =>
      have hh2:JV m.2.2.2.2.2.2.2.1 (Gs m key val).1=false:=hh
      rw [hh2] at href
      rw [if_pos (by rfl),if_pos ⟨hop,href⟩]
      rfl
     | true =>
      have hh2:JV m.2.2.2.2.2.2.2.1 (Gs m key val).1=true:=hh
      rw [hh2] at href
      rw [if_neg (by simp),if_neg (fun h=>by have:=h.2; change Ph (.pair .str (.pair .str (.int .i64))) (BJ _ (Gs m key val).1) _=false at this; rw [href] at this; cases this)]
      exact J1 _ _
    ·rw [if_neg (by simp; omega),if_neg (fun h=>by
      have:=h.2
      change Ph (.pair .str (.pair .str (.int .i64))) (BJ _ (Gs m key val).1) _=false at this
      rw [href,decide_eq_false h12] at this
      cases this)]
     exact J1 _ _
   ·rw [if_neg (by simpa using hop),if_neg (fun h=>hop h.1)]
    exact J1 _ _)

def xp (m:AC) (views:List (List Int)) (e:Int):AC×List BS×Bool :=
 if 2<=e/\e<=(views.length:Int)/\m.2.1<e/\(views.getD (e-1).toNat []).getD 0 0=m.1 then
  if (m.2.2.2.1&&(m.2.1==e-1))=true then
   (TH (MI m e) (views.getD (e-1).toNat []) m.2.2.2.2.2.2.2.1,(B2 (views.getD (e-1).toNat []) m.1).map (fun v=>(3,m.1,v,e,0,m.2.2.2.2.2.2.2.1)),true)
  else (MI m e,(B2 (views.getD (e-2).toNat []) m.1).map (fun v=>(1,m.1,v,e,0,[])),true)
 else (Kl,[],false)
theorem qV (m:AC) (views:List (List Int)) (e:Int) (hm:Jx m) (hv:S7 views):Rf m views e=some (xp m views e):=xc (by
 have hvl:=hv.len
 have hep:=hm.ep
 have hl:=hm.lens
 unfold kH xp
 rw [Le hm,X,if_neg (by simp),En hv,X,if_neg (by simp),Ar,X]
 by_cases h1:2<=e/\e<=(views.length:Int)
 case neg =>
  rw [if_pos (by rw [<- Bool.decide_and,decide_eq_false h1]; rfl),if_neg (fun h=>h1 ⟨h.1,h.2.1⟩)]
  rfl
 have we:IntKind.i64.wrap (e-1)=e-1:=Ac (by omega)
 have we2:IntKind.i64.wrap (e-2)=e-2:=Ac (by omega)
 rw [if_neg (by rw [<- Bool.decide_and,decide_eq_true h1]; simp),we]
 by_cases h2:m.2.1<e
 case neg =>
  rw [if_pos (by simp; omega),if_neg (fun h=>h2 h.2.2.1)]
  rfl
 have g1:=hv.get (i:=(e-1).toNat) (by omega)
 have hw:=hv.wok (i:=(e-1).toNat) (by omega)
 have hw2:=hv.wok (i:=(e-2).toNat) (by omega)
 have hwl:=hw2.len
 rw [if_neg (by simp; omega),if_pos (by omega),if_pos (by omega),if_pos (by omega),if_pos (by omega)]
 by_cases h3:(views.getD (e-1).toNat []).getD 0 0=m.1
 case neg =>
  rw [if_pos (by simpa using h3),if_neg (fun h=>h3 h.2.2.2)]
  rfl
 rw [if_neg (by simpa using h3),if_pos ⟨h1.1,h1.2,h2,h3⟩]
 refine pn ?_
 unfold Z8
 rw [hm.icopy,X,we]
 have J1:∀ b z,K3 views e b m z m=some (if b=true then (TH (MI m e) (views.getD (e-1).toNat []) m.2.2.2.2.2.2.2.1,(B2 (views.getD (e-1).toNat []) m.1).map (fun v=>(3,m.1,v,e,0,m.2.2.2.2.2.2.2.1)),true)
   else (MI m e,(B2 (views.getD (e-2).toNat []) m.1).map (fun v=>(1,m.1,v,e,0,[])),true)):=fun b z=>pl (by
  unfold Z7
  rw [U6,X,we,we2]
  cases b with
  | true =>
   rw [if_pos rfl,if_pos (by omega),if_pos (by omega)]
   change ((Dc (views.getD (e-1).toNat []) m.2.2.2.2.2.2.2.1 (MI m e)).bind _)=_
   rw [TA _ _ (MI m e) hw (by omega) rfl,X]
   rfl
  | false =>
   rw [if_neg (by simp),if_pos (by omega),if_pos (by omega)]
   change xz ((B6 (views.getD (e-2).toNat []) (MI m e)).bind _) ((B6 (views.getD (e-2).toNat []) (MI m e)).bind _)=_
   have hrl:=ID (views.getD (e-2).toNat []) m.1
   rw [Om _ (MI m e) (by omega),X,X,CV _ _ (MI m e) (by show (B2 (views.getD (e-2).toNat []) m.1).length<=_; omega) (by simp),X,X,X,lV]
   exact lV)
 cases hb:m.2.2.2.1 with
 | true=>rw [if_pos rfl,J1,Bool.true_and]
 | false=>rw [if_neg (by simp),J1,Bool.false_and])
theorem fI (id:Int) (views:List (List Int)) (hi:1<=id/\id<=6) (hv:S7 views):OL id views=some (Eb id views,true):=mr (by
 have hvl:=hv.len
 have g:=hv.get (i:=0) (by omega)
 unfold WT
 rw [Fk,X,if_pos (by rw [<- Bool.decide_and,decide_eq_true hi]; rfl),En hv,X,if_neg (by simp)]
 refine en ?_
 unfold Q7
 rw [show views.getD (0:Int).toNat ([]:List Int)=views.getD 0 [] from rfl,Un _ _ (by unfold maxLen; omega),X]
 repeat rw [if_pos (by omega)]
 rfl)

theorem RJ (x:List (List Int)) (h:x.length<=1000) (ho:∀ a∈x,a.length<=1000):Jj x=some x:=mq (by
 have key:=Ee (n:=x.length) (P:=fun i=>G7 x (x.length:Int) (i:Int) (x.take i)=some x) (Q5 (by
  unfold KN
  rw [if_neg (by simp),List.take_length])) (fun i hi ih=>Q5 (by
  unfold KN
  have hb:=ho x[i] (List.getElem_mem hi)
  simp only [show ((i:Int)<(x.length:Int)) from by omega,decide_true,if_true,show (0:Int)<=(i:Int) from by omega,Int.toNat_natCast,AT hi,AK (show i<9223372036854775807 by omega)]
  rw [Cm (by omega),X,if_pos (by simp; omega),List.take_append_getElem]
  exact ih)) 0 (by omega)
 unfold WS
 exact key)
theorem G9 (g:AQ) (k:Nat) (hg:IY g k) (hk:k<=10000):Cl g=some g:=mc (by
 have hvl:=hg.views.len
 have hc:=hg.clen
 have hf:=hg.flen
 have h6:=hg.six
 unfold WI
 rw [RJ g.1 (by omega) (fun a ha=>by have:=hg.views.view ha; omega),X,LL (by omega),X]
 have key2:∀ a b c d e f h k,E6 g.2.2.1 (g.2.2.1.length:Int) ((0:Nat):Int) a b c d e f h k g.2.1 [] g.2.2.2 g.1=some g:=by
  intro a b c d e f h k
  have key':=Ee (n:=g.2.2.1.length) (P:=fun i=>E6 g.2.2.1 (g.2.2.1.length:Int) (i:Int) a b c d e f h k g.2.1 (g.2.2.1.take i) g.2.2.2 g.1=some g) (Q2 (by
   unfold KJ
   rw [if_neg (by simp),List.take_length])) (fun i hi ih=>Q2 (by
   unfold KJ
   have hm:=Jy (hg.fly _ (List.getElem_mem hi)).items
   have hz:g.2.2.1.getD i ((0:Int),(0:Int),(0:Int),(0:Int),(0:Int),([]:List AN))=g.2.2.1[i]:=AT hi
   simp only [show ((i:Int)<(g.2.2.1.length:Int)) from by omega,decide_true,if_true,show (0:Int)<=(i:Int) from by omega,Int.toNat_natCast,hz,AK (show i<9223372036854775807 by omega)]
   rw [Ng _ (by omega),X,if_pos (by simp; omega),List.take_append_getElem]
   exact ih)) 0 (by omega)
  exact key'
 have key0:∀ a b c d e f h,E7 g.2.1 (g.2.1.length:Int) ((0:Nat):Int) a b g.2.2.1 c d e f h [] [] g.2.2.2 g.1=some g:=by
  intro a b c d e f h
  have key':=Ee (n:=g.2.1.length) (P:=fun i=>E7 g.2.1 (g.2.1.length:Int) (i:Int) a b g.2.2.1 c d e f h (g.2.1.take i) [] g.2.2.2 g.1=some g) (Q3 (by
   unfold KK
   rw [if_neg (by simp),List.take_length]
   refine eZ ?_
   unfold Q1
   exact key2 _ _ _ _ _ _ _ _)) (fun i hi ih=>Q3 (by
   unfold KK
   have hm:=(hg.mem i (by omega)).1
   unfold Au at hm
   rw [AT hi] at hm
   have hz:g.2.1.getD i ((0:Int),(0:Int),false,false,false,false,([]:List Int),([]:List AN),(0:Int),(0:Int),(0:Int),(0:Int),(ByteArray.empty,ByteArray.empty,(0:Int)),([]:List Int))=g.2.1[i]:=AT hi
   simp only [show ((i:Int)<(g.2.1.length:Int)) from by omega,decide_true,if_true,show (0:Int)<=(i:Int) from by omega,Int.toNat_natCast,hz,hm.icopy,X,AK (show i<9223372036854775807 by omega)]
   rw [if_pos (by simp; omega),List.take_append_getElem]
   exact ih)) 0 (by omega)
  exact key'
 exact key0 _ _ _ _ _ _ _)
theorem lK {views:List (List Int)} (hv:S7 views):Ps views=some (Ag views,true):=pY (by
 have hvl:=hv.len
 unfold Zv
 rw [En hv,X,if_neg (by simp),RJ views (by omega) (fun a ha=>by have:=hv.view ha; omega),X]
 have step:∀ (i:Nat) (a:_) (b:_) (c:_) (d:_) (l:List AC) r,1<=i->i<=6->l.length<=6->Fw views ((i+1:Nat):Int) a b c d (l++[Eb (i:Int) views]) [] [] views=some r->Fw views (i:Int) a b c d l [] [] views=some r:=by
  intro i a b c d l r h1 h6 hl hr
  refine Sq ?_
  unfold LW
  rw [if_pos (by simp; omega),fI _ _ (by omega) hv,X,if_pos (by simp; omega),AK (show i<9223372036854775807 by omega)]
  exact hr
 refine step 1 _ _ _ _ _ _ (by omega) (by omega) (by simp) ?_
 refine step 2 _ _ _ _ _ _ (by omega) (by omega) (by simp) ?_
 refine step 3 _ _ _ _ _ _ (by omega) (by omega) (by simp) ?_
 refine step 4 _ _ _ _ _ _ (by omega) (by omega) (by simp) ?_
 refine step 5 _ _ _ _ _ _ (by omega) (by omega) (by simp) ?_
 refine step 6 _ _ _ _ _ _ (by omega) (by omega) (by simp) ?_
 refine Sq ?_
 unfold LW
 rw [if_neg (by decide)]
 rfl)
theorem FU {k:Nat} (id:Int) (g:AQ) (ms:IY g k) (hi:1<=id/\id<=6):Bs id g=some (id-1,g):=eo (by
 have h6:=ms.six
 have step:∀ j (hj:j<6),Ic (g.2.1.getD j ((0:Int),(0:Int),false,false,false,false,([]:List Int),([]:List AN),(0:Int),(0:Int),(0:Int),(0:Int),(ByteArray.empty,ByteArray.empty,(0:Int)),([]:List Int))) id=some ((j:Int)+1==id):=fun j hj=>ak (by
  unfold Ny
  have:=(ms.mem j hj).2
  unfold Au at this
  change some ((g.2.1.getD j Kl).1==id)=_
  rw [this])
 have key:∀ (d j:Nat),j+d=5->(j:Int)+1<=id->BK g.2.1 id (g.2.1.length:Int) (j:Int)=some (id-1):=by
  intro d
  induction d with
  | zero =>
   intro j hj hle
   refine C8 ?_
   unfold Bo
   rw [if_pos (by simp; omega),if_pos (by omega),if_pos (by omega),Int.toNat_natCast,step j (by omega),X,if_pos (by simp; omega)]
   congr 1; omega
  | succ d ih =>
   intro j hj hle
   refine C8 ?_
   unfold Bo
   rw [if_pos (by simp; omega),if_pos (by omega),if_pos (by omega),Int.toNat_natCast,step j (by omega),X]
   by_cases e:(j:Int)+1=id
   ·rw [if_pos (by simpa using e)]
    congr 1; omega
   ·rw [if_neg (by simpa using e),AK (by omega)]
    exact ih (j+1) (by omega) (by omega)
 unfold Q8
 rw [show CC g.2.1 id=some (id-1) from H9 (by
  unfold Dg
  exact key 5 0 rfl (by omega)),X])
theorem JW (told:List BS) (said:List C9) (at_:Int) (g:AQ) (hf:g.2.2.1.length+told.length<=68719476736) (hc:g.2.2.2.length<=68719476736) (hs:nZ said) (hd:∀ c∈g.2.2.2,c.2.2.2.2.1=-1\/0<=c.2.2.2.2.1) :
  Gc told said at_ g=some (g.1,g.2.1,g.2.2.1++told,said.foldl (JA at_) g.2.2.2):=kD (by
 have hsl:=hs.1
 unfold UR
 rw [if_pos hf]
 have fin:∀ (n:Nat) (cs:List Hh),n=said.length->Ca at_ said (said.length:Int) (n:Int) g.1 g.2.1 (g.2.2.1++told) cs=some (g.1,g.2.1,g.2.2.1++told,cs):=fun n cs hn=>PU (by
  unfold JL
  rw [if_neg (by simp; omega)])
 match said,hs,hsl,fin with
 | [],_,_,fin=>exact fin 0 _ rfl
 | [s],hs,_,fin =>
  have h0:=(hs.2 s (by simp)).1
  refine PU ?_
  unfold JL
  have wl:IntKind.i64.wrap ((g.2.2.2.length:Int)-1)=(g.2.2.2.length:Int)-1:=Ac (by omega)
  rw [if_pos (by simp),if_pos (by omega),if_pos (by simp)]
  change ((Af s.1 0 (IntKind.i64.wrap ((g.2.2.2.length:Int)-1))).bind _)=_
  rw [Ar,X,wl,Ac (show -9223372036854775808<=(0:Int)+1/\(0:Int)+1<=9223372036854775807 by omega)]
  show _=some (g.1,g.2.1,g.2.2.1++told,JA at_ g.2.2.2 s)
  have f1:=fun cs=>fin 1 cs rfl
  by_cases c1:s.1>=(g.2.2.2.length:Int)
  ·rw [if_pos (by rw [<- Bool.decide_and,decide_eq_false (by omega)]; rfl)]
   have:JA at_ g.2.2.2 s=g.2.2.2:=by unfold JA; rw [if_pos (by simp [c1])]
   rw [this]
   exact f1 _
  ·rw [if_neg (by rw [<- Bool.decide_and,decide_eq_true (by omega)]; simp)]
   change (if 0<=s.1 then (if s.1<(g.2.2.2.length:Int) then (if ((g.2.2.2.getD s.1.toNat Ez).2.2.2.2.1 != -1)=true then _ else _) else _) else _)=_
   rw [if_pos h0,if_pos (by omega)]
   have hcl:s.1.toNat<g.2.2.2.length:=by omega
   have hdd:=hd (g.2.2.2.getD s.1.toNat Ez) (by rw [AT hcl]; exact List.getElem_mem _)
   by_cases c2:(g.2.2.2.getD s.1.toNat Ez).2.2.2.2.1>=0
   ·rw [if_pos (by simp only [bne_iff_ne,ne_eq]; omega)]
    have:JA at_ g.2.2.2 s=g.2.2.2:=by unfold JA; rw [if_pos (by rw [decide_eq_true c2,Bool.or_true])]
    rw [this]
    exact f1 _
   ·rw [if_neg (by simp only [bne_iff_ne,ne_eq]; omega)]
    have e:JA at_ g.2.2.2 s=g.2.2.2.set s.1.toNat (S_ at_ s (g.2.2.2.getD s.1.toNat Ez)):=by unfold JA; rw [if_neg (by rw [decide_eq_false c1,decide_eq_false c2]; simp)]
    rw [e]
    refine dE ?_
    unfold PT
    have hz2:∀ (l:List Hh),l.getD s.1.toNat ((0:Int),ByteArray.empty,ByteArray.empty,(0:Int),(0:Int),(0:Int),(0:Int),(0:Int),ByteArray.empty)=l.getD s.1.toNat Ez:=fun l=>rfl
    have hz3:([s]:List C9).getD (0:Int).toNat ((0:Int),(0:Int),(0:Int),ByteArray.empty,ByteArray.empty,(0:Int))=s:=rfl
    simp only [hz3,hz2,xj hcl,List.set_set,List.length_set]
    rw [if_pos h0,if_pos (by omega),Ac (show -9223372036854775808<=(0:Int)+1/\(0:Int)+1<=9223372036854775807 by omega)]
    unfold S_
    by_cases c3:(g.2.2.2.getD s.1.toNat Ez).1=2
    ·rw [if_pos (show ((g.2.2.2.getD s.1.toNat Ez).1==2)=true by simpa using c3),if_pos (show ((g.2.2.2.getD s.1.toNat Ez).1==2)=true by simpa using c3)]
     exact f1 _
    ·rw [if_neg (show ¬ ((g.2.2.2.getD s.1.toNat Ez).1==2)=true by simpa using c3),if_neg (show ¬ ((g.2.2.2.getD s.1.toNat Ez).1==2)=true by simpa using c3)]
     exact f1 _
 | _::_::_,_,hsl,_=>simp at hsl)

theorem IY.call {g:AQ} {k:Nat} (h:IY g k) (at_:Int) (e:EC):IY (Hi g at_ e) (k+1) :=
 ⟨h.views,h.six,h.mem,h.fly,by have:=h.flen; show g.2.2.1.length<=_; omega,by have:=h.clen; simp only [Hi,List.length_append,List.length_cons,List.length_nil]; omega⟩
theorem a_ (at_:Int) (e:EC) (g:AQ) (k:Nat) (hg:IY g k) (hk:k<=1000) (h3:V3 g) (hn:1<=e.2.1/\e.2.1<=6):LF e at_ g=some ((KV g at_ e).1==0,(KV g at_ e).2):=hO (by
 have hc:=hg.clen
 have hf:=hg.flen
 have h6:=hg.six
 have hgc:=hg.call at_ e
 have h3c:=h3.call at_ e
 obtain ⟨m1,m2⟩:=hg.mem (e.2.1-1).toNat (by omega)
 have hb:=eI (op:=e.2.2.2.1) (call:=(g.2.2.2.length:Int)) (key:=e.2.2.2.2.1) (val:=e.2.2.2.2.2) m1 hg.views
 unfold Sx KV
 rw [if_pos (by simp; omega)]
 change ((Bs e.2.1 (Hi g at_ e)).bind _)=_
 rw [FU e.2.1 _ hgc hn,X]
 change (if 0<=e.2.1-1 then (if e.2.1-1<(g.2.1.length:Int) then ((Re (Au g (e.2.1-1).toNat) g.1 e.2.2.2.1 (g.2.2.2.length:Int) e.2.2.2.2.1 e.2.2.2.2.2).bind _) else none) else none)=_
 rw [if_pos (by omega),if_pos (by omega),qU _ _ _ _ _ _ m1 hg.views (h3.mem _ (by omega)),X]
 cases hq:(Dj (Au g (e.2.1-1).toNat) g.1 e.2.2.2.1 (g.2.2.2.length:Int) e.2.2.2.2.1 e.2.2.2.2.2).2.2.2 with
 | false=>rfl
 | true =>
  have hid:=hb.id hq
  have htl:=hb.tlen
  rw [if_neg (by simp),if_pos rfl]
  change (if 0<=e.2.1-1 then (if e.2.1-1<(g.2.1.length:Int) then _ else none) else none)=_
  rw [if_pos (by omega),if_pos (by omega)]
  dsimp only
  have:=JW (Dj (Au g (e.2.1-1).toNat) g.1 e.2.2.2.1 (g.2.2.2.length:Int) e.2.2.2.2.1 e.2.2.2.2.2).2.1 (Dj (Au g (e.2.1-1).toNat) g.1 e.2.2.2.1 (g.2.2.2.length:Int) e.2.2.2.2.1 e.2.2.2.2.2).2.2.1 at_
   ((Hi g at_ e).1,(Hi g at_ e).2.1.set (e.2.1-1).toNat (Dj (Au g (e.2.1-1).toNat) g.1 e.2.2.2.1 (g.2.2.2.length:Int) e.2.2.2.2.1 e.2.2.2.2.2).1,(Hi g at_ e).2.2.1,(Hi g at_ e).2.2.2) (by show g.2.2.1.length+_<=_; omega) (by simp only [Hi,List.length_append,List.length_cons,List.length_nil]; omega) hb.said h3c.calls
  rw [this,X]
  unfold BL
  rw [hid,m2,show (((e.2.1-1).toNat:Int)+1-1).toNat=(e.2.1-1).toNat by omega]
  rfl)
theorem AA8 {m:AC} {views:List (List Int)} {e:Int} (h:V1 views m):xp m views e=FT m views e:=by
 unfold xp FT
 split
 ·cases hb:m.2.2.2.1 with
  | false=>rfl
  | true =>
   have hv:=(h.view hb).2
   by_cases he:m.2.1=e-1
   ·rw [show (e-2).toNat=(m.2.1-1).toNat by omega,hv,show (m.2.1==e-1)=true by simpa using he]
    rfl
   ·rw [show (m.2.1==e-1)=false by simpa using he]
    rfl
 ·rfl
theorem bA (at_:Int) (e:EC) (g:AQ) (k:Nat) (hg:IY g k) (hk:k<=1000) (h3:V3 g) (hn:1<=e.2.1/\e.2.1<=6):LG e at_ g=some ((dg g at_ e.2.1).1==0,(dg g at_ e.2.1).2):=hP (by
 have hc:=hg.clen
 have hf:=hg.flen
 have h6:=hg.six
 have hvl:=hg.views.len
 obtain ⟨m1,m2⟩:=hg.mem (e.2.1-1).toNat (by omega)
 have hep:=m1.ep
 have h1:=h3.mem (e.2.1-1).toNat (by omega)
 unfold Sy dg
 rw [FU e.2.1 g hg hn,X]
 change (if 0<=e.2.1-1 then (if e.2.1-1<(g.2.1.length:Int) then D0 at_ (e.2.1-1) (IntKind.i64.wrap ((Au g (e.2.1-1).toNat).2.1+1)) g.1 g.2.1 g.2.2.1 g.2.2.2 e else none) else none)=_
 rw [if_pos (by omega),if_pos (by omega),Ac (by omega)]
 have key:∀ (n:Nat) (ep:Int),1<=ep->ep+(n:Int)=(g.1.length:Int)+1->D0 at_ (e.2.1-1) ep g.1 g.2.1 g.2.2.1 g.2.2.2 e=some ((JT g at_ (Au g (e.2.1-1).toNat) e.2.1 n ep).1==0,(JT g at_ (Au g (e.2.1-1).toNat) e.2.1 n ep).2):=by
  intro n
  induction n with
  | zero =>
   intro ep h1 h2
   refine Ig ?_
   unfold F9
   rw [if_neg (by simp; omega)]
   rfl
  | succ n ih =>
   intro ep hp1 hp2
   refine Ig ?_
   unfold F9 JT
   have we:IntKind.i64.wrap (ep-1)=ep-1:=Ac (by omega)
   have g1:=hg.views.get (i:=(ep-1).toNat) (by omega)
   rw [if_pos (by simp; omega),we,if_pos (by omega),if_pos (by omega),if_pos (by omega),if_pos (by omega)]
   change (if ((g.1.getD (ep-1).toNat []).getD 0 0 != e.2.1)=true then _ else _)=_
   by_cases hq:((g.1.getD (ep-1).toNat []).getD 0 0 != e.2.1)=true
   ·rw [if_pos hq,if_pos hq,Ac (by omega)]
    exact ih (ep+1) (by omega) (by omega)
   ·rw [if_neg hq,if_neg hq,if_pos (by omega),if_pos (by omega)]
    change ((Rf (Au g (e.2.1-1).toNat) g.1 ep).bind _)=_
    rw [qV _ _ _ m1 hg.views,X,AA8 h1]
    cases hb:(FT (Au g (e.2.1-1).toNat) g.1 ep).2.2 with
    | false=>rfl
    | true =>
     have ha:=W3 (e:=ep) m1 hg.views hb
     have hal:=ha.2.2.2
     rw [if_pos rfl,if_pos rfl,if_pos (by omega),if_pos (by omega)]
     dsimp only
     have:=JW (FT (Au g (e.2.1-1).toNat) g.1 ep).2.1 [] at_ (g.1,g.2.1.set (e.2.1-1).toNat (FT (Au g (e.2.1-1).toNat) g.1 ep).1,g.2.2.1,g.2.2.2) (by show g.2.2.1.length+_<=_; omega) (by show g.2.2.2.length<=_; omega) F6 h3.calls
     rw [this,X]
     unfold BL
     rw [ha.2.1,m2,show (((e.2.1-1).toNat:Int)+1-1).toNat=(e.2.1-1).toNat by omega]
     rfl
 by_cases hle:(Au g (e.2.1-1).toNat).2.1<=(g.1.length:Int)
 ·exact key _ _ (by omega) (by omega)
 ·have e0:((g.1.length:Int)-(Au g (e.2.1-1).toNat).2.1).toNat=0:=by omega
  rw [e0]
  refine Ig ?_
  unfold F9
  rw [if_neg (fun h=>hle (by have:=of_decide_eq_true h; omega))]
  rfl)
def IQ (g:AQ) (i:Nat) (at_:Int):AQ:=BL (FC g i)
 (Di (Au g ((g.2.2.1.getD i C1).2.2.1-1).toNat) g.1 (g.2.2.1.getD i C1)).1 (Di (Au g ((g.2.2.1.getD i C1).2.2.1-1).toNat) g.1 (g.2.2.1.getD i C1)).2.1 (Di (Au g ((g.2.2.1.getD i C1).2.2.1-1).toNat) g.1 (g.2.2.1.getD i C1)).2.2 at_
theorem MB (at_:Int) (i:Nat) (g:AQ) (k:Nat) (hg:IY g k) (hk:k<=10000) (h3:V3 g) (hi:i<g.2.2.1.length):EX (i:Int) at_ g=some (IQ g i at_):=cp (by
 have hc:=hg.clen
 have hf:=hg.flen
 have h6:=hg.six
 have hmem:g.2.2.1.getD i C1∈g.2.2.1:=by rw [AT hi]; exact List.getElem_mem _
 have hx:=hg.fly _ hmem
 have hv2:=h3.fly _ hmem
 unfold PP IQ
 rw [if_pos (by omega),if_pos (by omega),AK (by omega)]
 change ((Bc g.2.2.1 (i:Int) ((i+1:Nat):Int)).bind fun y1=>((Bs (g.2.2.1.getD i C1).2.2.1 (g.1,g.2.1,y1,g.2.2.2)).bind _))=_
 rw [GE (by omega) (by omega),X]
 have hto:=hx.to
 generalize hxx:g.2.2.1.getD i C1=x at *
 obtain ⟨m1,m2⟩:=hg.mem (x.2.2.1-1).toNat (by omega)
 have hho:=Pg (x:=x) m1 hg.views
 have hil:=Jy hx.items
 change ((Bs x.2.2.1 (FC g i)).bind _)=_
 rw [FU x.2.2.1 (FC g i) (hg.less i) hto,X]
 change (if decide (x.2.2.1-1>=0)=true then (if 0<=x.2.2.1-1 then (if x.2.2.1-1<(g.2.1.length:Int) then ((My (Au g (x.2.2.1-1).toNat) g.1 (g.2.2.1.getD (i:Int).toNat C1)).bind _) else none) else none) else _)=_
 rw [Int.toNat_natCast,hxx,if_pos (by simp; omega),if_pos (by omega),if_pos (by omega),lJ _ _ _ m1 hg.views (by omega),X]
 have hhi:dl (Au g (x.2.2.1-1).toNat) g.1 x=Di (Au g (x.2.2.1-1).toNat) g.1 x:=by
  unfold dl
  rw [if_pos (eF.2 hx),ACC hv2.inst]
 rw [hhi]
 change (if 0<=x.2.2.1-1 then (if x.2.2.1-1<(g.2.1.length:Int) then _ else none) else none)=_
 rw [if_pos (by omega),if_pos (by omega)]
 dsimp only
 have htl:=hho.tlen
 have:=JW (Di (Au g (x.2.2.1-1).toNat) g.1 x).2.1 (Di (Au g (x.2.2.1-1).toNat) g.1 x).2.2 at_
  ((FC g i).1,(FC g i).2.1.set (x.2.2.1-1).toNat (Di (Au g (x.2.2.1-1).toNat) g.1 x).1,(FC g i).2.2.1,(FC g i).2.2.2) (by
   have:(FC g i).2.2.1.length<=g.2.2.1.length:=by simp only [FC,List.length_append,List.length_take,List.length_drop]; omega
   show (FC g i).2.2.1.length+_<=_; omega) (by show g.2.2.2.length<=_; omega) hho.said h3.calls
 rw [this,X]
 unfold BL
 rw [hho.id,m2,show (((x.2.2.1-1).toNat:Int)+1-1).toNat=(x.2.2.1-1).toNat by omega])
theorem bB (at_:Int) (e:EC) (g:AQ) (k:Nat) (hg:IY g k) (hk:k<=1000) (h3:V3 g) (he:Lc e=true):Hs e at_ g=some ((tv g at_ e).1==0,(tv g at_ e).2):=gu (by
 have hn:=k_ he
 have h6:=hg.six
 have hf:=hg.flen
 unfold Sr tv
 by_cases h1:e.1=1
 ·rw [if_pos (by simpa using h1),if_pos h1,a_ at_ e g k hg hk h3 (by omega)]; rfl
 rw [if_neg (by simpa using h1),if_neg h1]
 by_cases h5:e.1=5
 ·rw [if_pos (by simpa using h5),if_pos h5,bA at_ e g k hg hk h3 (by omega)]; rfl
 rw [if_neg (by simpa using h5),if_neg h5]
 by_cases h7:e.1=6
 ·obtain ⟨m1,m2⟩:=hg.mem (e.2.1-1).toNat (by omega)
  rw [if_pos (by simpa using h7),if_pos h7,FU e.2.1 g hg (by omega),X]
  change (if 0<=e.2.1-1 then (if e.2.1-1<(g.2.1.length:Int) then ((T_ (Au g (e.2.1-1).toNat)).bind _) else none) else none)=_
  rw [if_pos (by omega),if_pos (by omega),vG,X]
  change (if 0<=e.2.1-1 then (if e.2.1-1<(g.2.1.length:Int) then _ else none) else none)=_
  rw [if_pos (by omega),if_pos (by omega)]
  unfold BL
  have:((W4 (Au g (e.2.1-1).toNat)).1-1).toNat=(e.2.1-1).toNat:=by
   show ((Au g (e.2.1-1).toNat).1-1).toNat=_
   rw [m2]; omega
  rw [this,List.append_nil]
  rfl
 rw [if_neg (by simpa using h7),if_neg h7]
 have hm:JJ e at_ g=some ((iM g at_ e).1==0,(iM g at_ e).2):=cw (by
  unfold PQ iM
  by_cases h0:g.2.2.1=[]
  ·rw [if_pos (by rw [h0]; rfl),if_pos h0]; rfl
  have hl:0<g.2.2.1.length:=by
   cases hq:g.2.2.1 with
   | nil=>exact absurd hq h0
   | cons a l=>simp
  have hem:Int.tmod e.2.2.1 (g.2.2.1.length:Int)=e.2.2.1 % (g.2.2.1.length:Int):=Int.tmod_eq_emod_of_nonneg (by omega)
  have hlt:(e.2.2.1 % (g.2.2.1.length:Int)).toNat<g.2.2.1.length:=by
   have h1:=Int.emod_lt_of_pos e.2.2.1 (show (0:Int)<(g.2.2.1.length:Int) by omega)
   have h2:=Int.emod_nonneg e.2.2.1 (show (g.2.2.1.length:Int)≠0 by omega)
   omega
  obtain ⟨i,hi⟩:∃ i:Nat,e.2.2.1 % (g.2.2.1.length:Int)=(i:Int):=⟨(e.2.2.1 % (g.2.2.1.length:Int)).toNat,by
   have h2:=Int.emod_nonneg e.2.2.1 (show (g.2.2.1.length:Int)≠0 by omega)
   omega⟩
  rw [if_neg (by simp only [beq_iff_eq]; omega),if_neg (by omega),if_neg h0,hem,hi]
  rw [hi,Int.toNat_natCast] at hlt
  simp only [Int.toNat_natCast]
  by_cases k2:e.1=2
  ·rw [if_pos (by simpa using k2),if_neg (by omega),if_neg (by omega),MB at_ i g k hg (by omega) h3 hlt]
   rfl
  rw [if_neg (by simpa using k2)]
  by_cases k3:e.1=3
  ·rw [if_pos (by simpa using k3),if_neg (by omega),if_pos k3,AK (by omega),GE (by omega) (by omega)]
   rfl
  have k4:e.1=4:=by omega
  have hmem:g.2.2.1.getD i C1∈g.2.2.1:=by rw [AT hlt]; exact List.getElem_mem _
  have hil:=Jy (hg.fly _ hmem).items
  rw [if_neg (by simpa using k3),if_pos (by simpa using k4),if_pos k4,if_pos (by omega),if_pos (by omega)]
  change ((HN (g.2.2.1.getD i C1)).bind _)=_
  rw [Ng _ (by omega),X,if_pos (by simp; omega)]
  rfl)
 rw [hm]
 rfl)
theorem lL {views:List (List Int)} {events:List EC} (hv:S7 views) (hl:events.length<=70) (he:∀ e∈events,Lc e=true) :
  Pp views events=some ((JU 0 events (Ag views) []).1,(JU 0 events (Ag views) []).2,true):=o7 (by
 have hg:=Rn hv
 obtain ⟨r1,r2,r3⟩:=qj events 0 (Ag views) [] hg (by omega) he
 unfold ZP
 rw [lK hv,X,if_pos (by rfl),if_neg (by simp; omega)]
 refine gS ?_
 unfold SQ
 have codes:∀ (g:AQ) (a:Int) (e:EC),Lc e=true->(tv g a e).1=0\/(tv g a e).1=1:=by
  intro g a e he
  have hfa:∀ (m:AC) (nd:Int) (n:Nat) (ep:Int),(JT g a m nd n ep).1=0\/(JT g a m nd n ep).1=1:=by
   intro m nd n
   induction n with
   | zero=>intro ep; exact .inr rfl
   | succ n ih =>
    intro ep
    unfold JT
    split
    ·exact ih _
    ·split
     ·exact .inl rfl
     ·exact .inr rfl
  unfold tv
  split
  ·unfold KV; split
   ·exact .inl rfl
   ·exact .inr rfl
  ·split
   ·exact hfa _ _ _ _
   ·split
    ·exact .inl rfl
    ·unfold iM
     split
     ·exact .inr rfl
     ·split
      ·exact .inl rfl
      ·split
       ·exact .inl rfl
       ·exact .inl rfl
 have L3:∀ a b c d,Ft events (events.length:Int) ((0:Nat):Int) a b c d (Ag views).2.1 (Ag views).2.2.1 (Ag views).2.2.2 (Ag views).1 []=some ((JU 0 events (Ag views) []).1,(JU 0 events (Ag views) []).2,true):=by
  intro a b c d
  have key:=Ee (n:=events.length) (P:=fun i=>∀ (g:AQ) (cs:List Int),IY g i->V3 g->cs.length=i->JU i (events.drop i) g cs=JU 0 events (Ag views) []->Ft events (events.length:Int) (i:Int) a b c d g.2.1 g.2.2.1 g.2.2.2 g.1 cs=some ((JU 0 events (Ag views) []).1,(JU 0 events (Ag views) []).2,true)) (fun g cs hgi h3 hcs hr=>SS (by
   unfold LN
   rw [if_neg (by simp)]
   change ((Cl g).bind _)=_
   rw [G9 g events.length hgi (by omega),X]
   rw [List.drop_eq_nil_of_le (Nat.le_refl _)] at hr
   rw [<- hr]
   rfl)) (fun i hi ih g cs hgi h3 hcs hr=>SS (by
   unfold LN
   obtain ⟨d2,_⟩:=hgi.event (at_:=(i:Int)) (he _ (List.getElem_mem hi))
   have hz:events.getD i ((0:Int),(0:Int),(0:Int),(0:Int),ByteArray.empty,ByteArray.empty)=events[i]:=AT hi
   simp only [show ((i:Int)<(events.length:Int)) from by omega,decide_true,if_true,show (0:Int)<=(i:Int) from by omega,Int.toNat_natCast,hz,AK (show i<9223372036854775807 by omega)]
   change ((Hs events[i] (i:Int) g).bind _)=_
   rw [bB (i:Int) events[i] g i hgi (by omega) h3 (he _ (List.getElem_mem hi)),X]
   have hcode:Uv ((tv g (i:Int) events[i]).1==0)=some (tv g (i:Int) events[i]).1:=uu (by
    unfold fY
    rcases codes g (i:Int) events[i] (he _ (List.getElem_mem hi)) with q | q<;>rw [q]<;>rfl)
   dsimp only
   rw [hcode,X,if_pos (by simp; omega)]
   refine ih _ _ d2 (h3.event hgi (by omega) (he _ (List.getElem_mem hi))) (by simp; omega) ?_
   rw [BF hi] at hr
   exact hr)) 0 (by omega) (Ag views) [] hg (V3.new hv) rfl rfl
  exact key
 have L1:∀ a b c d,Fu events events (events.length:Int) ((0:Nat):Int) a b c d (Ag views).2.1 (Ag views).2.2.1 (Ag views).2.2.2 (Ag views).1=some ((JU 0 events (Ag views) []).1,(JU 0 events (Ag views) []).2,true):=by
  intro a b c d
  refine Ee (n:=events.length) (P:=fun i=>Fu events events (events.length:Int) (i:Int) a b c d (Ag views).2.1 (Ag views).2.2.1 (Ag views).2.2.2 (Ag views).1=some ((JU 0 events (Ag views) []).1,(JU 0 events (Ag views) []).2,true)) (ST (by
   unfold LO
   rw [if_neg (by simp)]
   refine gR ?_
   unfold SP
   exact L3 _ _ _ _)) (fun i hi ih=>ST (by
   unfold LO
   have hz:events.getD i ((0:Int),(0:Int),(0:Int),(0:Int),ByteArray.empty,ByteArray.empty)=events[i]:=AT hi
   simp only [show ((i:Int)<(events.length:Int)) from by omega,decide_true,if_true,show (0:Int)<=(i:Int) from by omega,Int.toNat_natCast,hz,AK (show i<9223372036854775807 by omega)]
   rw [ki,he _ (List.getElem_mem hi),X,if_neg (by simp)]
   exact ih)) 0 (by omega)
 exact L1 _ _ _ _)

structure PM where
 ep:Int
 fell:Bool
 base:Bool
 leads:Bool
 serves:Bool
 waits:List Int
 items:List AN
 cnt:Int
 op:Int
 call:Int
 num:Int
 ti:AN
 left:List Int
structure PX where
 kind:Int
 frm:Int
 to:Int
 ep:Int
 num:Int
 items:List AN
structure PC where
 op:Int
 key:ByteArray
 val:ByteArray
 wen:Int
 done:Int
 ver:Int
 ep:Int
 num:Int
 got:ByteArray
structure PG where
 mem:Int->PM
 fly:List PX
 calls:List PC
def PG.set (g:PG) (i:Int) (m:PM) (T:List PX):PG:={ g with mem:=fun j=>if j=i then m else g.mem j,fly:=g.fly++T }
def Cf (V:Int->List Int) (e:Int):Int:=(V e).getD 0 0
def PM.idle (m:PM) (e:Int) (b l:Bool) (its:List AN):PM:={ ep:=e,fell:=false,base:=b,leads:=l,serves:=false,waits:=[],items:=its,cnt:=0,op:=0,call:=0,num:=0,ti:=(ByteArray.empty,ByteArray.empty,0),left:=[] }
inductive Cg (V:Int->List Int) (nv:Int) (g:PG) (i:Int):PM->List PX->Prop
 | seal (x:PX) (hx:x∈g.fly) (h1:x.ep=(g.mem i).ep+1) (h2:(g.mem i).base=true) (h3:x.ep<=nv):Cg V nv g i ((g.mem i).idle x.ep false false (g.mem i).items) [⟨2,i,x.frm,x.ep,0,(g.mem i).items⟩]
 | stat (x:PX) (hx:x∈g.fly) (h1:x.kind=2) (h2:x.ep=(g.mem i).ep) (h3:(g.mem i).leads=true) (h4:(g.mem i).base=false) (W:List Int) (hw:∀ k,k∈W↔k∈V x.ep/\k≠i) (T:List PX) (hT:∀ y∈T,y.kind=3/\y.ep=x.ep/\y.items=x.items/\y.frm=i) :
   Cg V nv g i { g.mem i with base:=true,items:=x.items,waits:=W,serves:=W.isEmpty } T
 | inst (x:PX) (hx:x∈g.fly) (h1:x.kind=3) (h2:(g.mem i).ep<x.ep\/(g.mem i).ep=x.ep/\(g.mem i).base=false/\(g.mem i).fell=false) (h3:i∈V x.ep) (h4:Cf V x.ep≠i) (h5:x.ep<=nv) :
   Cg V nv g i ((g.mem i).idle x.ep true false x.items) [⟨4,i,x.frm,x.ep,x.num,[]⟩]
 | again (x:PX) (hx:x∈g.fly) (h1:x.kind=3) (h2:(g.mem i).ep=x.ep) (h3:(g.mem i).base=true):Cg V nv g i (g.mem i) [⟨4,i,x.frm,x.ep,x.num,[]⟩]
 | told (x:PX) (hx:x∈g.fly) (h1:x.kind=4) (h2:(g.mem i).ep=x.ep) (h3:(g.mem i).leads=true) :
   Cg V nv g i { g.mem i with waits:=(g.mem i).waits.filter (· != x.frm),serves:=(g.mem i).base&&((g.mem i).waits.filter (· != x.frm)).isEmpty } []
 | store (x:PX) (hx:x∈g.fly) (h1:x.kind=5) (h2:(g.mem i).ep=x.ep) (h3:(g.mem i).base=true) (h4:i≠Cf V x.ep) (a:AN) (h5:x.items=[a]) :
   Cg V nv g i { g.mem i with items:=An (g.mem i).items a } [⟨6,i,x.frm,x.ep,x.num,[]⟩]
 | sure (x:PX) (hx:x∈g.fly) (h1:x.kind=7) (h2:(g.mem i).ep=x.ep) (h3:(g.mem i).base=true):Cg V nv g i (g.mem i) [⟨8,i,x.frm,x.ep,x.num,[]⟩]
 | less (x:PX) (hx:x∈g.fly) (h1:(g.mem i).op=1/\x.kind=6\/(g.mem i).op=2/\x.kind=8) (h2:(g.mem i).ep=x.ep) (h3:(g.mem i).num=x.num):Cg V nv g i { g.mem i with left:=(g.mem i).left.filter (· != x.frm) } []
 | had (e:Int) (h1:e=(g.mem i).ep+1) (h2:(g.mem i).base=true) (h3:Cf V e=i) (h4:e<=nv) (W:List Int) (hw:∀ k,k∈W↔k∈V e/\k≠i) (T:List PX) (hT:∀ y∈T,y.kind=3/\y.ep=e/\y.items=(g.mem i).items/\y.frm=i) :
   Cg V nv g i { (g.mem i).idle e true true (g.mem i).items with waits:=W,serves:=W.isEmpty } T
 | took (e:Int) (h1:(g.mem i).ep<e) (h3:Cf V e=i) (h4:e<=nv) (T:List PX) (hT:∀ y∈T,y.kind=1/\y.ep=e/\y.items=[]):Cg V nv g i ((g.mem i).idle e false true (g.mem i).items) T
 | fall:Cg V nv g i { (g.mem i).idle (g.mem i).ep false false [] with fell:=true } []
def W6 (g:PG) (k e:Int):Prop:=e<(g.mem k).ep\/((g.mem k).ep=e/\((g.mem k).base=true\/(g.mem k).fell=true))
theorem Cg.ep {V nv g i m T} (h:Cg V nv g i m T):(g.mem i).ep<=m.ep:=by
 cases h<;>simp_all [PM.idle]<;>grind
theorem W6.step {V nv g i m T k e} (h:Cg V nv g i m T) (hb:W6 g k e):W6 (g.set i m T) k e:=by
 unfold W6 PG.set at *
 cases h<;>simp_all [PM.idle]<;>grind
def CK (V:Int->List Int) (g:PG) (e:Int):Prop:=∀ d,1<=d->d<e->∃ j∈V d,d<(g.mem j).ep
theorem ql {V nv g i m T} (h:Cg V nv g i m T) (j:Int):(g.mem j).ep<=((g.set i m T).mem j).ep:=by
 have:=h.ep
 simp only [PG.set]
 split
 ·rename_i e; subst e; exact this
 ·exact Int.le_refl _
theorem CK.mono {V g g' e} (h:CK V g e) (hm:∀ j,(g.mem j).ep<=(g'.mem j).ep):CK V g' e:=fun d h1 h2=>by
 obtain ⟨j,hj,h3⟩:=h d h1 h2
 exact ⟨j,hj,by have:=hm j; omega⟩
theorem CK.next {V g e j} (h:CK V g e) (hj:j∈V e) (hl:e<(g.mem j).ep):CK V g (e+1):=fun d h1 h2=>by
 by_cases q:d=e
 ·subst q; exact ⟨j,hj,hl⟩
 ·exact h d h1 (by omega)
structure IA (V:Int->List Int) (nv:Int) (g:PG):Prop where
 pos:∀ i,1<=(g.mem i).ep
 lead:∀ i,(g.mem i).leads=true->(g.mem i).ep<=nv/\Cf V (g.mem i).ep=i
 view:∀ i,(g.mem i).base=true->(g.mem i).ep<=nv/\i∈V (g.mem i).ep
 serv:∀ i,(g.mem i).serves=true->(g.mem i).base=true/\(g.mem i).leads=true/\(g.mem i).waits=[]
 task:∀ i,(g.mem i).op≠0->(g.mem i).serves=true/\((g.mem i).op=1\/(g.mem i).op=2)/\(g.mem i).num=(g.mem i).cnt
 cnt:∀ i,0<=(g.mem i).cnt
 fell:∀ i,(g.mem i).fell=true->(g.mem i).base=false/\(g.mem i).leads=false
theorem IA.step {V nv g i m T} (h:IA V nv g) (hv:∀ e,1<=e->e<=nv->Cf V e∈V e) (hs:Cg V nv g i m T):IA V nv (g.set i m T):=by
 obtain ⟨a1,a2,a3,a4,a5,a6,a7⟩:=h
 have b1:=a1 i; have b2:=a2 i; have b3:=a3 i; have b4:=a4 i; have b5:=a5 i; have b6:=a6 i; have b7:=a7 i
 have key:1<=m.ep/\(m.leads=true->m.ep<=nv/\Cf V m.ep=i)/\(m.base=true->m.ep<=nv/\i∈V m.ep)/\(m.serves=true->m.base=true/\m.leads=true/\m.waits=[])/\(m.op≠0->m.serves=true/\(m.op=1\/m.op=2)/\m.num=m.cnt)/\0<=m.cnt/\(m.fell=true->m.base=false/\m.leads=false):=by
  cases hs<;>simp_all [PM.idle]<;>grind
 refine ⟨fun j=>?_,fun j=>?_,fun j=>?_,fun j=>?_,fun j=>?_,fun j=>?_,fun j=>?_⟩<;>simp only [PG.set]<;>split<;>grind
structure IB (V:Int->List Int) (g:PG):Prop where
 mem:∀ i,(g.mem i).base=true->CK V g (g.mem i).ep
 fly:∀ x∈g.fly,x.kind=2\/x.kind=3->CK V g x.ep
theorem IB.step {V nv g i m T} (h:IB V g) (ha:IA V nv g) (hv:∀ e,1<=e->e<=nv->Cf V e∈V e) (hs:Cg V nv g i m T):IB V (g.set i m T):=by
 have hm:=ql hs
 have mono:∀ e,CK V g e->CK V (g.set i m T) e:=fun e h=>h.mono hm
 have next:∀ e,CK V g e->i∈V e->e<m.ep->CK V (g.set i m T) (e+1):=fun e h h1 h2=>(mono e h).next h1 (by simp [PG.set]; exact h2)
 have b:=h.mem i
 have v:=ha.view i
 have f:=h.fly
 have k1:m.base=true->CK V (g.set i m T) m.ep:=by
  generalize g.set i m T=g' at *
  cases hs<;>simp_all [PM.idle]<;>grind
 have k2:∀ y∈T,y.kind=2\/y.kind=3->CK V (g.set i m T) y.ep:=by
  generalize g.set i m T=g' at *
  cases hs<;>simp_all [PM.idle]<;>grind
 refine ⟨fun j=>?_,fun y hy hk=>?_⟩
 ·show ((if j=i then m else g.mem j).base=true->CK V _ (if j=i then m else g.mem j).ep)
  split
  ·exact k1
  ·exact fun hb=>mono _ (h.mem j hb)
 ·rcases List.mem_append.1 hy with e | e
  ·exact mono _ (h.fly y e hk)
  ·exact k2 y e hk
def J8 (g:PG) (i:Int):Prop:=∃ j∈(g.mem i).left,(g.mem i).ep<(g.mem j).ep/\∀ x∈g.fly,((g.mem i).op=1/\x.kind=6\/(g.mem i).op=2/\x.kind=8)->x.frm=j->x.ep=(g.mem i).ep->x.num≠(g.mem i).num
structure IT (V:Int->List Int) (g:PG) (vr:Nat->Int) (now:Int):Prop where
 st:∀ k,vr k≠0->∃ e n,vr k=1000*e+n/\1<=e/\1<=n/\n<=900/\e<=(g.mem (Cf V e)).ep/\((g.mem (Cf V e)).ep=e->(g.mem (Cf V e)).leads=true->(g.mem (Cf V e)).base=true/\n<=(g.mem (Cf V e)).cnt)
 inj:∀ k l,vr k≠0->vr k=vr l->k=l
 out:∀ k,g.calls.length<=k->vr k=0
 act:∀ i,(g.mem i).op≠0->∃ (k:Nat) (c:PC),(g.mem i).call=(k:Int)/\g.calls[k]? = some c/\vr k=1000*(g.mem i).ep+(g.mem i).num/\c.done<0/\c.op=(g.mem i).op/\c.key=(g.mem i).ti.1/\c.val=(g.mem i).ti.2.1/\(g.mem i).ti.2.2=vr k/\1<=(g.mem i).num/\(g.mem i).num<=900
 dn:∀ (k:Nat) c,g.calls[k]? = some c->0<=c.done->vr k=1000*c.ep+c.num/\1<=c.ep/\1<=c.num/\c.num<=900/\CK V g c.ep/\c.done<=now/\c.wen<=c.done
 wn:∀ (k:Nat) c,g.calls[k]? = some c->c.wen<=now
 fl:∀ x∈g.fly,5<=x.kind->x.kind<=8->x.ep<=(g.mem (Cf V x.ep)).ep/\((g.mem (Cf V x.ep)).ep=x.ep->(g.mem (Cf V x.ep)).leads=true->x.num<=(g.mem (Cf V x.ep)).cnt)
 tm:∀ i,(g.mem i).op≠0->∀ (k l:Nat) c a,(g.mem i).call=(k:Int)->g.calls[k]? = some c->g.calls[l]? = some a->0<=a.done->a.done<c.wen->a.ep<=(g.mem i).ep\/J8 g i
 or:∀ (k l:Nat) a b,g.calls[k]? = some a->g.calls[l]? = some b->0<=a.done->0<=b.done->a.done<b.wen->vr k<vr l
theorem Cg.task {V nv g i m T} (h:Cg V nv g i m T):m.op≠0->m.ep=(g.mem i).ep/\m.op=(g.mem i).op/\m.call=(g.mem i).call/\m.num=(g.mem i).num/\m.ti=(g.mem i).ti/\m.cnt=(g.mem i).cnt:=by
 cases h<;>simp_all [PM.idle]
theorem Cg.lead {V nv g i m T} (h:Cg V nv g i m T):m.ep=(g.mem i).ep->m.leads=true->(g.mem i).leads=true/\m.cnt=(g.mem i).cnt/\((g.mem i).base=true->m.base=true):=by
 cases h<;>simp_all [PM.idle]<;>grind
theorem Cg.new {V nv g i m T} (h:Cg V nv g i m T):m.ep≠(g.mem i).ep->m.cnt=0/\m.op=0:=by
 cases h<;>simp_all [PM.idle]<;>grind
theorem Cg.talk {V nv g i m T} (h:Cg V nv g i m T):∀ y∈T,5<=y.kind->(y.kind=6\/y.kind=8)/\y.frm=i/\y.ep=(g.mem i).ep/\∃ x∈g.fly,5<=x.kind/\x.kind<=8/\x.ep=y.ep/\x.num=y.num:=by
 cases h<;>simp_all [PM.idle]<;>grind
theorem J8.step {V nv g i m T j} (h:Cg V nv g i m T) (hb:J8 g j) (ho:((g.set i m T).mem j).op≠0):J8 (g.set i m T) j:=by
 obtain ⟨k,hk,h1,h2⟩:=hb
 have hm:=ql h
 have ht:=h.task
 have hta:=h.talk
 have hl:i=j->k∈m.left:=by
  intro e; subst e
  simp only [PG.set,if_true] at ho
  cases h<;>simp_all [PM.idle]<;>grind
 have hep:((g.set i m T).mem j).ep=(g.mem j).ep/\((g.set i m T).mem j).num=(g.mem j).num/\k∈((g.set i m T).mem j).left/\((g.set i m T).mem j).op=(g.mem j).op:=by
  simp only [PG.set] at ho ⊢
  grind
 refine ⟨k,hep.2.2.1,?_,fun x hx hk6 hf he=>?_⟩
 ·rw [hep.1]; have:=hm k; omega
 ·rw [hep.2.1]
  rw [hep.1] at he
  rw [hep.2.2.2] at hk6
  rcases List.mem_append.1 hx with e | e
  ·exact h2 x e hk6 hf he
  ·have:=hta x e (by omega)
   grind
theorem IT.mstep {V nv g i m T vr now} (h:IT V g vr now) (ha:IA V nv g) (hs:Cg V nv g i m T):IT V (g.set i m T) vr now:=by
 have hm:=ql hs
 have ht:=hs.task
 have hl:=hs.lead
 have hn:=hs.new
 have hta:=hs.talk
 have hstk:=fun j=>J8.step (j:=j) hs
 have mono:∀ e,CK V g e->CK V (g.set i m T) e:=fun e h=>h.mono hm
 have hmem:∀ j,(g.set i m T).mem j=if j=i then m else g.mem j:=fun _=>rfl
 have hfly:(g.set i m T).fly=g.fly++T:=rfl
 have hc:(g.set i m T).calls=g.calls:=rfl
 have hep:=hs.ep
 generalize g.set i m T=g' at *
 obtain ⟨c1,c2,c3,c4,c5,c6,c7,c8,c9⟩:=h
 have hlead:=ha.lead
 refine ⟨?_,c2,by rw [hc]; exact c3,?_,?_,by rw [hc]; exact c6,?_,?_,by rw [hc]; exact c9⟩
 ·intro k hk
  obtain ⟨e,n,d⟩:=c1 k hk
  refine ⟨e,n,?_⟩
  simp only [hmem]
  grind
 ·simp only [hmem,hc]
  grind
 ·rw [hc]
  grind
 ·intro x hx h5 h8
  rw [hfly] at hx
  simp only [hmem]
  grind
 ·intro j ho k l c a
  have:=c8 j
  have:=hstk j
  simp only [hmem,hc] at *
  grind
theorem J8.less {g:PG} {f:List PX} {i:Int} (h:∀ x∈f,x∈g.fly) (hb:J8 g i):J8 { g with fly:=f } i:=by
 obtain ⟨j,h1,h2,h3⟩:=hb
 exact ⟨j,h1,h2,fun x hx=>h3 x (h x hx)⟩
theorem IT.later {V g vr n n'} (h:IT V g vr n) (hn:n<=n'):IT V g vr n':=by
 obtain ⟨c1,c2,c3,c4,c5,c6,c7,c8,c9⟩:=h
 exact ⟨c1,c2,c3,c4,by grind,by grind,c7,c8,c9⟩
theorem IT.drop {V g vr now f} (h:IT V g vr now) (hf:∀ x∈f,x∈g.fly):IT V { g with fly:=f } vr now:=by
 have hs:=fun i=>J8.less (i:=i) hf
 obtain ⟨c1,c2,c3,c4,c5,c6,c7,c8,c9⟩:=h
 refine ⟨c1,c2,c3,c4,c5,c6,fun x hx=>c7 x (hf x hx),?_,c9⟩
 intro i ho k l c a h1 h2 h3 h4 h5
 exact (c8 i ho k l c a h1 h2 h3 h4 h5).imp id (hs i)
theorem IT.call {V g vr now} {c:PC} (h:IT V g vr now) (h1:c.done=-1) (h2:c.wen=now):IT V { g with calls:=g.calls++[c] } vr now:=by
 obtain ⟨c1,c2,c3,c4,c5,c6,c7,c8,c9⟩:=h
 have hg:∀ (k:Nat) d,(g.calls++[c])[k]? = some d->g.calls[k]? = some d\/(k=g.calls.length/\d=c):=by grind
 have hg2:∀ (k:Nat) d,g.calls[k]? = some d->(g.calls++[c])[k]? = some d:=by grind
 have hst:∀ i,J8 g i->J8 { g with calls:=g.calls++[c] } i:=fun i h=>h
 refine ⟨c1,c2,?_,?_,?_,?_,c7,?_,?_⟩
 ·grind
 ·intro i ho
  obtain ⟨k,d,q1,q2,q3⟩:=c4 i ho
  exact ⟨k,d,q1,hg2 k d q2,q3⟩
 ·intro k d hk hd
  rcases hg k d hk with e | ⟨e,e2⟩
  ·exact c5 k d e hd
  ·subst e2; omega
 ·intro k d hk
  rcases hg k d hk with e | ⟨e,e2⟩
  ·exact c6 k d e
  ·subst e2; omega
 ·intro i ho k l d a q1 q2 q3 q4 q5
  obtain ⟨k',d',r1,r2,_⟩:=c4 i ho
  have:k'=k:=by simp only at q1; omega
  subst this
  have q2':=hg2 k' d' r2
  simp only at q2
  rw [q2'] at q2
  cases q2
  rcases hg l a q3 with e | ⟨e,e2⟩
  ·exact (c8 i ho _ l _ a q1 r2 e q4 q5).imp id (hst i)
  ·subst e2; omega
 ·intro k l a b q1 q2 q3 q4 q5
  rcases hg k a q1 with e | ⟨e,e2⟩
  ·rcases hg l b q2 with f | ⟨f,f2⟩
   ·exact c9 k l a b e f q3 q4 q5
   ·subst f2; omega
  ·subst e2; omega
def QV (g:PG) (i:Int) (c:PC) (L:List Int) (a:AN):PM:={ g.mem i with cnt:=(g.mem i).cnt+1,op:=c.op,call:=(g.calls.length:Int),num:=(g.mem i).cnt+1,ti:=a,left:=L }
theorem IT.start {V nv g vr now} {i:Int} {c:PC} {L:List Int} {a:AN} {T:List PX} (h:IT V g vr now) (hia:IA V nv g) (hib:IB V g) (h1:c.done=-1) (h2:c.wen=now) (h3:(g.mem i).serves=true) (h4:(g.mem i).op=0) (h5:c.op=1\/c.op=2) (h6:(g.mem i).cnt<900) (hL:∀ k,k∈L↔k∈V (g.mem i).ep/\k≠i) (hA:a=(c.key,c.val,1000*(g.mem i).ep+((g.mem i).cnt+1)))
  (hT:∀ y∈T,(y.kind=5/\c.op=1/\y.items=[a]\/y.kind=7/\c.op=2)/\y.ep=(g.mem i).ep/\y.num=(g.mem i).cnt+1/\y.frm=i) :
  IT V { (g.set i (QV g i c L a) T) with calls:=g.calls++[c] } (fun k=>if k=g.calls.length then 1000*(g.mem i).ep+((g.mem i).cnt+1) else vr k) now:=by
 obtain ⟨c1,c2,c3,c4,c5,c6,c7,c8,c9⟩:=h
 have hg:∀ (k:Nat) d,(g.calls++[c])[k]? = some d->g.calls[k]? = some d/\k<g.calls.length\/(k=g.calls.length/\d=c):=by grind
 have hg2:∀ (k:Nat) d,g.calls[k]? = some d->(g.calls++[c])[k]? = some d/\k<g.calls.length:=by grind
 obtain ⟨s1,s2,s3⟩:=hia.serv i h3
 obtain ⟨l1,l2⟩:=hia.lead i s2
 have hpos:=hia.pos i
 have hcnt:=hia.cnt i
 have hz:vr g.calls.length=0:=c3 _ (Nat.le_refl _)
 generalize hq:({ (g.set i (QV g i c L a) T) with calls:=g.calls++[c] }:PG)=g'
 have hmem:∀ j,g'.mem j=if j=i then QV g i c L a else g.mem j:=by subst hq; intro j; rfl
 have hfly:g'.fly=g.fly++T:=by subst hq; rfl
 have hcal:g'.calls=g.calls++[c]:=by subst hq; rfl
 have hep:∀ j,(g'.mem j).ep=(g.mem j).ep/\(g'.mem j).leads=(g.mem j).leads/\(g'.mem j).base=(g.mem j).base/\(g.mem j).cnt<=(g'.mem j).cnt:=by
  intro j; rw [hmem]; split
  ·rename_i e; subst e; exact ⟨rfl,rfl,rfl,by simp only [QV]; omega⟩
  ·exact ⟨rfl,rfl,rfl,Int.le_refl _⟩
 have hi:(g'.mem i).cnt=(g.mem i).cnt+1/\(g'.mem i).op=c.op/\(g'.mem i).call=(g.calls.length:Int)/\(g'.mem i).num=(g.mem i).cnt+1/\(g'.mem i).ti=a/\(g'.mem i).left=L:=by rw [hmem,if_pos rfl]; exact ⟨rfl,rfl,rfl,rfl,rfl,rfl⟩
 have hj:∀ j,j≠i->g'.mem j=g.mem j:=fun j e=>by rw [hmem,if_neg e]
 have rmono:∀ e,CK V g e->CK V g' e:=fun e h=>h.mono fun j=>by rw [(hep j).1]; exact Int.le_refl _
 have stuck:∀ e,CK V g e->(g.mem i).ep<e->J8 g' i:=fun e hr he=>by
  obtain ⟨j,hjv,hjl⟩:=hr (g.mem i).ep hpos he
  have hne:j≠i:=fun e=>by subst e; omega
  refine ⟨j,by rw [hi.2.2.2.2.2]; exact (hL j).2 ⟨hjv,hne⟩,by rw [(hep i).1,(hep j).1]; exact hjl,fun x hx hk hf hxe=>?_⟩
  rw [(hep i).1] at hxe
  rw [hi.2.2.2.1]
  rw [hfly] at hx
  rcases List.mem_append.1 hx with q | q
  ·have:=c7 x q (by omega) (by omega)
   rw [hxe,l2] at this
   have:=this.2 rfl s2
   omega
  ·have:=hT x q
   omega
 refine ⟨?_,?_,?_,?_,?_,?_,?_,?_,?_⟩
 ·intro k hk
  by_cases e:k=g.calls.length
  ·subst e
   simp only [if_true]
   refine ⟨(g.mem i).ep,(g.mem i).cnt+1,rfl,hpos,by omega,by omega,?_,fun _ _=>?_⟩
   ·rw [(hep _).1,l2]; exact Int.le_refl _
   ·rw [l2,hi.1,(hep i).2.2.1]; exact ⟨s1,Int.le_refl _⟩
  ·simp only [if_neg e] at hk ⊢
   obtain ⟨e,n,d1,d2,d3,d4,d5,d6⟩:=c1 k hk
   refine ⟨e,n,d1,d2,d3,d4,by rw [(hep _).1]; exact d5,fun q1 q2=>?_⟩
   obtain ⟨p1,p2,p3,p4⟩:=hep (Cf V e)
   rw [p1] at q1; rw [p2] at q2
   have:=d6 q1 q2
   exact ⟨by rw [p3]; exact this.1,by omega⟩
 ·have hdist:∀ k,k≠g.calls.length->vr k≠1000*(g.mem i).ep+((g.mem i).cnt+1):=fun k hk e=>by
   obtain ⟨e',n,d1,d2,d3,d4,d5,d6⟩:=c1 k (by omega)
   have:e'=(g.mem i).ep:=by omega
   subst this
   rw [l2] at d6
   have:=d6 rfl s2
   omega
  intro k l hk hkl
  by_cases e:k=g.calls.length
  ·by_cases f:l=g.calls.length
   ·omega
   ·rw [if_pos e,if_neg f] at hkl
    exact absurd hkl.symm (hdist l f)
  ·rw [if_neg e] at hk hkl
   by_cases f:l=g.calls.length
   ·rw [if_pos f] at hkl
    exact absurd hkl (hdist k e)
   ·rw [if_neg f] at hkl
    exact c2 k l hk hkl
 ·intro k hk
  rw [hcal] at hk
  simp only [List.length_append,List.length_cons,List.length_nil] at hk
  rw [if_neg (by omega)]
  exact c3 k (by omega)
 ·intro j ho
  by_cases e:j=i
  ·subst e
   refine ⟨g.calls.length,c,hi.2.2.1,by rw [hcal]; simp,?_,by omega,hi.2.1.symm,?_⟩
   ·rw [if_pos rfl,(hep _).1,hi.2.2.2.1]
   ·rw [hi.2.2.2.2.1,hi.2.2.2.1,if_pos rfl,hA]
    exact ⟨rfl,rfl,rfl,by omega,by omega⟩
  ·rw [hj j e] at ho ⊢
   obtain ⟨k,d,q1,q2,q3⟩:=c4 j ho
   have:=hg2 k d q2
   exact ⟨k,d,q1,by rw [hcal]; exact this.1,by rw [if_neg (by omega)]; exact q3⟩
 ·intro k d hk hd
  rw [hcal] at hk
  rcases hg k d hk with ⟨e,e1⟩ | ⟨e,e2⟩
  ·obtain ⟨d1,d2,d3,d4,d5,d6,d7⟩:=c5 k d e hd
   exact ⟨by rw [if_neg (by omega)]; exact d1,d2,d3,d4,rmono _ d5,d6,d7⟩
  ·subst e2; omega
 ·intro k d hk
  rw [hcal] at hk
  rcases hg k d hk with ⟨e,e1⟩ | ⟨e,e2⟩
  ·exact c6 k d e
  ·subst e2; omega
 ·intro x hx h5 h8
  rw [hfly] at hx
  obtain ⟨p1,p2,p3,p4⟩:=hep (Cf V x.ep)
  rcases List.mem_append.1 hx with q | q
  ·have:=c7 x q h5 h8
   rw [p1,p2]
   exact ⟨this.1,fun q1 q2=>Int.le_trans (this.2 q1 q2) p4⟩
  ·obtain ⟨_,q2,q3,_⟩:=hT x q
   rw [q2,l2,(hep i).1,q3,hi.1]
   exact ⟨Int.le_refl _,fun _ _=>Int.le_refl _⟩
 ·intro j ho k l d b q1 q2 q3 q4 q5
  rw [hcal] at q2 q3
  rcases hg l b q3 with ⟨e,e1⟩ | ⟨e,e2⟩
  ·by_cases hji:j=i
   ·subst hji
    rw [(hep j).1]
    by_cases hle:b.ep<=(g.mem j).ep
    ·exact .inl hle
    ·exact .inr (stuck b.ep (c5 l b e q4).2.2.2.2.1 (by omega))
   ·rw [hj j hji] at ho q1 ⊢
    obtain ⟨k',d',r1,r2,_⟩:=c4 j ho
    have:k'=k:=by omega
    subst this
    have:=hg2 k' d' r2
    rw [this.1] at q2
    cases q2
    rcases c8 j ho _ l _ b q1 r2 e q4 q5 with r | ⟨w,w1,w2,w3⟩
    ·exact .inl r
    ·right
     refine ⟨w,by rw [hj j hji]; exact w1,by rw [hj j hji,(hep w).1]; exact w2,fun x hx=>?_⟩
     rw [hj j hji]
     rw [hfly] at hx
     rcases List.mem_append.1 hx with q | q
     ·exact w3 x q
     ·have:=hT x q
      intro hk; omega
  ·subst e2; omega
 ·intro k l b d q1 q2 q3 q4 q5
  rw [hcal] at q1 q2
  rcases hg k b q1 with ⟨e,e1⟩ | ⟨e,e2⟩
  ·rcases hg l d q2 with ⟨f,f1⟩ | ⟨f,f2⟩
   ·rw [if_neg (by omega),if_neg (by omega)]
    exact c9 k l b d e f q3 q4 q5
   ·subst f2; omega
  ·subst e2; omega
def X0 (m:PM):PM:={ m with items:=if m.op=1 then An m.items m.ti else m.items,op:=0,call:=0,num:=0,ti:=(ByteArray.empty,ByteArray.empty,0),left:=[] }
def vH (m:PM):AN:=if m.op=1 then m.ti else BJ m.items m.ti.1
def Rj (m:PM) (c:PC) (now:Int):PC:={ c with done:=now,ver:=(vH m).2.2,ep:=m.ep,num:=m.num,got:=if c.op=2 then (vH m).2.1 else c.got }
theorem IT.fin {V nv g vr now} {i:Int} {k:Nat} {c:PC} (h:IT V g vr now) (hia:IA V nv g) (hib:IB V g) (ho:(g.mem i).op≠0) (hl:(g.mem i).left=[]) (hc:(g.mem i).call=(k:Int)) (hk:g.calls[k]? = some c) :
  IT V { (g.set i (X0 (g.mem i)) []) with calls:=g.calls.set k (Rj (g.mem i) c now) } vr now:=by
 obtain ⟨c1,c2,c3,c4,c5,c6,c7,c8,c9⟩:=h
 obtain ⟨t1,t2,t3⟩:=hia.task i ho
 obtain ⟨s1,s2,s3⟩:=hia.serv i t1
 obtain ⟨l1,l2⟩:=hia.lead i s2
 have hpos:=hia.pos i
 obtain ⟨k0,d0,r1,r2,r3,r4,r5,r6,r7,r8,r9,r10⟩:=c4 i ho
 have hk0:k0=k:=by omega
 subst hk0
 rw [hk] at r2
 cases r2
 have hkl:k0<g.calls.length:=(List.getElem?_eq_some_iff.1 hk).1
 have hcal0:∀ (l:Nat) d,(g.calls.set k0 (Rj (g.mem i) c now))[l]? = some d->(l=k0/\d=Rj (g.mem i) c now)\/(l≠k0/\g.calls[l]? = some d):=by
  intro l d hd
  by_cases e:l=k0
  ·subst e
   rw [List.getElem?_set_self hkl] at hd
   exact .inl ⟨rfl,by cases hd; rfl⟩
  ·rw [List.getElem?_set_ne (Ne.symm e)] at hd
   exact .inr ⟨e,hd⟩
 have hcal1:∀ (l:Nat) d,l≠k0->g.calls[l]? = some d->(g.calls.set k0 (Rj (g.mem i) c now))[l]? = some d:=by
  intro l d hne hd
  rw [List.getElem?_set_ne (Ne.symm hne)]
  exact hd
 generalize hq:({ (g.set i (X0 (g.mem i)) []) with calls:=g.calls.set k0 (Rj (g.mem i) c now) }:PG)=g'
 have hmem:∀ j,g'.mem j=if j=i then X0 (g.mem i) else g.mem j:=by subst hq; intro j; rfl
 have hfly:g'.fly=g.fly:=by subst hq; exact List.append_nil _
 have hcal:g'.calls=g.calls.set k0 (Rj (g.mem i) c now):=by subst hq; rfl
 have hep:∀ j,(g'.mem j).ep=(g.mem j).ep/\(g'.mem j).leads=(g.mem j).leads/\(g'.mem j).base=(g.mem j).base/\(g.mem j).cnt=(g'.mem j).cnt:=by
  intro j; rw [hmem]; split
  ·rename_i e; subst e; exact ⟨rfl,rfl,rfl,rfl⟩
  ·exact ⟨rfl,rfl,rfl,rfl⟩
 have hj:∀ j,j≠i->g'.mem j=g.mem j:=fun j e=>by rw [hmem,if_neg e]
 have hi0:(g'.mem i).op=0:=by rw [hmem,if_pos rfl]; rfl
 have rmono:∀ e,CK V g e->CK V g' e:=fun e h=>h.mono fun j=>by rw [(hep j).1]; exact Int.le_refl _
 have hact:∀ j,j≠i->(g.mem j).op≠0->∀ (l:Nat),(g.mem j).call=(l:Int)->l≠k0:=fun j hji hoj l hl e=>by
  subst e
  obtain ⟨u1,u2,u3⟩:=hia.task j hoj
  obtain ⟨v1,v2,v3⟩:=hia.serv j u1
  obtain ⟨w1,w2⟩:=hia.lead j v2
  obtain ⟨k',d',q1,q2,q3,q4,q5,q6,q7,q8,q9,q10⟩:=c4 j hoj
  have:k'=l:=by omega
  subst this
  have:(g.mem j).ep=(g.mem i).ep:=by omega
  rw [this,l2] at w2
  exact hji w2.symm
 refine ⟨?_,c2,?_,?_,?_,?_,?_,?_,?_⟩
 ·intro l hl0
  obtain ⟨e,n,d1,d2,d3,d4,d5,d6⟩:=c1 l hl0
  obtain ⟨p1,p2,p3,p4⟩:=hep (Cf V e)
  exact ⟨e,n,d1,d2,d3,d4,by rw [p1]; exact d5,fun q1 q2=>by rw [p3,<- p4]; exact d6 (by rw [<- p1]; exact q1) (by rw [<- p2]; exact q2)⟩
 ·intro l hl0
  rw [hcal,List.length_set] at hl0
  exact c3 l hl0
 ·intro j hoj
  by_cases e:j=i
  ·subst e; exact absurd hi0 hoj
  ·rw [hj j e] at hoj ⊢
   obtain ⟨k',d',q1,q2,q3⟩:=c4 j hoj
   exact ⟨k',d',q1,by rw [hcal]; exact hcal1 k' d' (hact j e hoj k' q1) q2,q3⟩
 ·intro l d hd hdn
  rw [hcal] at hd
  rcases hcal0 l d hd with ⟨e,e2⟩ | ⟨e,e2⟩
  ·subst e; subst e2
   exact ⟨r3,hpos,r9,r10,rmono _ (hib.mem i s1),Int.le_refl _,c6 l c hk⟩
  ·obtain ⟨d1,d2,d3,d4,d5,d6,d7⟩:=c5 l d e2 hdn
   exact ⟨d1,d2,d3,d4,rmono _ d5,d6,d7⟩
 ·intro l d hd
  rw [hcal] at hd
  rcases hcal0 l d hd with ⟨e,e2⟩ | ⟨e,e2⟩
  ·subst e; subst e2; exact c6 l c hk
  ·exact c6 l d e2
 ·intro x hx h5 h8
  rw [hfly] at hx
  obtain ⟨p1,p2,p3,p4⟩:=hep (Cf V x.ep)
  have:=c7 x hx h5 h8
  rw [p1,p2,<- p4]
  exact this
 ·intro j hoj k1 l d b q1 q2 q3 q4 q5
  by_cases e:j=i
  ·subst e; exact absurd hi0 hoj
  ·rw [hj j e] at hoj q1 ⊢
   rw [hcal] at q2 q3
   have hne:=hact j e hoj k1 q1
   rcases hcal0 k1 d q2 with ⟨f,_⟩ | ⟨f,f2⟩
   ·exact absurd f hne
   ·rcases hcal0 l b q3 with ⟨u,u2⟩ | ⟨u,u2⟩
    ·subst u2
     have:=c6 k1 d f2
     simp only [Rj] at q5
     omega
    ·rcases c8 j hoj k1 l d b q1 f2 u2 q4 q5 with r | ⟨w,w1,w2,w3⟩
     ·exact .inl r
     ·exact .inr ⟨w,by rw [hj j e]; exact w1,by rw [hj j e,(hep w).1]; exact w2,by rw [hj j e,hfly]; exact w3⟩
 ·intro k1 l a b q1 q2 q3 q4 q5
  rw [hcal] at q1 q2
  rcases hcal0 k1 a q1 with ⟨e,e2⟩ | ⟨e,e2⟩
  ·subst e2
   have:b.wen<=now:=by
    rcases hcal0 l b q2 with ⟨f,f2⟩ | ⟨f,f2⟩
    ·subst f2; exact c6 k0 c hk
    ·exact c6 l b f2
   simp only [Rj] at q5
   omega
  ·rcases hcal0 l b q2 with ⟨f,f2⟩ | ⟨f,f2⟩
   ·subst f; subst f2
    have hlt:=q5
    simp only [Rj] at hlt
    have:=c8 i ho l k1 c a hc hk e2 q3 hlt
    rcases this with r | ⟨w,w1,_⟩
    ·obtain ⟨d1,d2,d3,d4,d5,d6,d7⟩:=c5 k1 a e2 q3
     obtain ⟨e',n,x1,x2,x3,x4,x5,x6⟩:=c1 k1 (by omega)
     have hee:e'=a.ep:=by omega
     subst hee
     by_cases heq:a.ep=(g.mem i).ep
     ·rw [heq,l2] at x6
      have x7:=x6 rfl s2
      have hne:vr k1≠vr l:=fun q=>e (c2 k1 l (by omega) q)
      omega
     ·omega
    ·rw [hl] at w1; cases w1
   ·exact c9 k1 l a b e2 f2 q3 q4 q5

structure IZ (V:Int->List Int) (g:PG) (vr:Nat->Int):Prop where
 w1:∀ i,(g.mem i).leads=true->(g.mem i).base=true->∀ k∈V (g.mem i).ep,k≠i->k∉(g.mem i).waits->W6 g k (g.mem i).ep
 w2:∀ x∈g.fly,x.kind=4->W6 g x.frm x.ep
 w3:∀ k e n,vr k≠0->vr k=1000*e+n->1<=n->n<=900->∀ j∈V e,j≠Cf V e->W6 g j e
 z1:∀ k,(g.mem k).base=true->(g.mem k).ep<=(g.mem (Cf V (g.mem k).ep)).ep/\((g.mem (Cf V (g.mem k).ep)).ep=(g.mem k).ep->(g.mem (Cf V (g.mem k).ep)).leads=true->(g.mem (Cf V (g.mem k).ep)).base=true)
 z2:∀ x∈g.fly,x.kind=3\/5<=x.kind->x.ep<=(g.mem (Cf V x.ep)).ep/\((g.mem (Cf V x.ep)).ep=x.ep->(g.mem (Cf V x.ep)).leads=true->(g.mem (Cf V x.ep)).base=true)
theorem IZ.mstep {V nv g i m T vr} (h:IZ V g vr) (ha:IA V nv g) (hs:Cg V nv g i m T):IZ V (g.set i m T) vr:=by
 have hb:=fun k e=>W6.step (k:=k) (e:=e) hs
 have hm:=ql hs
 have hmem:∀ j,(g.set i m T).mem j=if j=i then m else g.mem j:=fun _=>rfl
 have hfly:(g.set i m T).fly=g.fly++T:=rfl
 have hep:=hs.ep
 have hlead:=ha.lead
 have li:=ha.lead i
 obtain ⟨w1,w2,w3,z1,z2⟩:=h
 have bi:m.base=true->W6 (g.set i m T) i m.ep:=fun hb=>.inr ⟨by simp [PG.set],.inl (by simp [PG.set]; exact hb)⟩
 generalize hg':g.set i m T=g' at *
 refine ⟨?_,?_,fun k e n h1 h2 h3 h4 j h5 h6=>hb _ _ (w3 k e n h1 h2 h3 h4 j h5 h6),?_,?_⟩
 ·have key:m.leads=true->m.base=true->∀ k∈V m.ep,k≠i->k∉m.waits->W6 g' k m.ep:=by
   have w1i:=w1 i
   clear hg' z1 z2 w1 w3 hm hmem hfly bi
   cases hs<;>simp_all [PM.idle]<;>grind
  intro j
  rw [hmem]
  split
  ·rename_i e; subst e; exact key
  ·exact fun h1 h2 k h3 h4 h5=>hb _ _ (w1 j h1 h2 k h3 h4 h5)
 ·have key:∀ y∈T,y.kind=4->W6 g' y.frm y.ep:=by
   clear hg' z1 z2 w1 w3 hm hmem hfly
   cases hs<;>simp_all [PM.idle]<;>grind
  intro x hx hk
  rw [hfly] at hx
  rcases List.mem_append.1 hx with q | q
  ·exact hb _ _ (w2 x q hk)
  ·exact key x q hk
 ·have hl:=hs.lead
  have key:m.base=true->m.ep<=(g'.mem (Cf V m.ep)).ep/\((g'.mem (Cf V m.ep)).ep=m.ep->(g'.mem (Cf V m.ep)).leads=true->(g'.mem (Cf V m.ep)).base=true):=by
   have z1i:=z1 i
   simp only [hmem] at hm ⊢
   clear hg' w1 w2 w3 hfly bi hb z1 hmem
   cases hs<;>simp_all [PM.idle]<;>grind
  intro k
  rw [hmem k]
  split
  ·exact key
  ·have:=z1 k
   simp only [hmem] at hm ⊢
   grind
 ·have hl:=hs.lead
  have key:∀ y∈T,y.kind=3\/5<=y.kind->y.ep<=(g'.mem (Cf V y.ep)).ep/\((g'.mem (Cf V y.ep)).ep=y.ep->(g'.mem (Cf V y.ep)).leads=true->(g'.mem (Cf V y.ep)).base=true):=by
   simp only [hmem] at hm ⊢
   clear hg' w1 w2 w3 hfly bi hb hmem
   cases hs<;>simp_all [PM.idle]<;>grind
  intro x hx hk
  rw [hfly] at hx
  rcases List.mem_append.1 hx with q | q
  ·have:=z2 x q hk
   simp only [hmem] at hm ⊢
   grind
  ·exact key x q hk
def vl (s:List AN) (k:List UInt8):Int:=((s.find? fun a=>a.1.toList==k).getD (ByteArray.empty,ByteArray.empty,0)).2.2
theorem yz (s:List AN) (k:ByteArray):vl s k.toList=(BJ s k).2.2:=rfl
theorem uG {s:List AN} (h:Aw s=true) (a:AN) (k:List UInt8):vl s k<=vl (An s a) k:=by
 unfold vl
 cases q:s.find? (fun b=>b.1.toList==k) with
 | none =>
  cases r:(An s a).find? (fun b=>b.1.toList==k) with
  | none=>exact Int.le_refl _
  | some b =>
   have:=(Cw.1 (JS (a:=a) h)).1 b (List.mem_of_find?_eq_some r)
   unfold Jw at this
   simp only [Bool.and_eq_true,decide_eq_true_eq] at this
   show (0:Int)<=b.2.2
   omega
 | some b =>
  have hb:=List.mem_of_find?_eq_some q
  have hk:b.1.toList=k:=by simpa using List.find?_some q
  have:=ADK (a:=a) h hb
  subst hk
  exact this
theorem eK {s:List AN} {a:AN} (h:Aw s=true) (h1:1<=a.2.2) (hv:a.2.2<=vl s a.1.toList):An s a=s:=by
 have:=(AA5 (Cw.1 h).2.1 h1).1 hv
 unfold An
 rw [if_pos this]
theorem vj {s:List AN} {a:AN} (h:Aw s=true) (h1:1<=a.2.2) (he:BJ (An s a) a.1=a):An (An s a) a=An s a :=
 eK (JS h) h1 (by rw [yz,he]; exact Int.le_refl _)
theorem AAV {s:List AN} {a:AN} (h:Aw s=true) (ha:a∈s):1<=a.2.2:=by
 have:=(Cw.1 h).1 a ha
 unfold Jw at this
 simp only [Bool.and_eq_true,decide_eq_true_eq] at this
 omega
structure IE (V:Int->List Int) (g:PG):Prop where
 ok:∀ i,Aw (g.mem i).items=true
 okx:∀ x∈g.fly,Aw x.items=true
 e1:∀ i,(g.mem i).leads=true->(g.mem i).base=true->(g.mem i).serves=false->∀ x∈g.fly,x.kind=3->x.ep=(g.mem i).ep->x.items=(g.mem i).items
 e2:∀ i,(g.mem i).leads=true->(g.mem i).base=true->∀ j,(g.mem j).base=true->(g.mem j).ep=(g.mem i).ep->(g.mem j).items=(g.mem i).items\/((g.mem i).op=1/\(g.mem j).items=An (g.mem i).items (g.mem i).ti)
 e3:∀ i,(g.mem i).op=1->∀ j,j≠i->(g.mem j).base=true->(g.mem j).ep=(g.mem i).ep->(j∉(g.mem i).left\/∃ x∈g.fly,x.kind=6/\x.frm=j/\x.ep=(g.mem i).ep/\x.num=(g.mem i).num)->(g.mem j).items=An (g.mem i).items (g.mem i).ti
 e4:∀ x∈g.fly,x.kind=5->∀ a,x.items=[a]->(g.mem (Cf V x.ep)).leads=true->(g.mem (Cf V x.ep)).base=true->(g.mem (Cf V x.ep)).ep=x.ep ->
  ((g.mem (Cf V x.ep)).op=1->x.num=(g.mem (Cf V x.ep)).num->a=(g.mem (Cf V x.ep)).ti)/\(¬ ((g.mem (Cf V x.ep)).op=1/\x.num=(g.mem (Cf V x.ep)).num)->a.2.2<=vl (g.mem (Cf V x.ep)).items a.1.toList)
 e5:∀ i,(g.mem i).op=1->BJ (An (g.mem i).items (g.mem i).ti) (g.mem i).ti.1=(g.mem i).ti/\1<=(g.mem i).ti.2.2
set_option maxHeartbeats 1000000 in
theorem IE.mstep {V nv g i m T vr} (h:IE V g) (ha:IA V nv g) (hz:IZ V g vr) (hs:Cg V nv g i m T):IE V (g.set i m T):=by
 have hmem:∀ j,(g.set i m T).mem j=if j=i then m else g.mem j:=fun _=>rfl
 have hfly:(g.set i m T).fly=g.fly++T:=rfl
 have hlead:=ha.lead
 have hserv:=ha.serv
 have htask:=ha.task
 obtain ⟨w1,w2,w3,z1,z2⟩:=hz
 obtain ⟨ok,okx,e1,e2,e3,e4,e5⟩:=h
 have hni:=Rm
 have fresh:∀ x:PX,((g.mem i).ep<x.ep\/(g.mem i).ep=x.ep/\(g.mem i).base=false/\(g.mem i).fell=false)->∀ f,(g.mem f).leads=true->(g.mem f).base=true->(g.mem f).ep=x.ep->i∈V x.ep->i≠f->(g.mem f).serves=false:=by
  intro x hx f h1 h2 h3 h4 h5
  cases q:(g.mem f).serves with
  | false=>rfl
  | true =>
   have hw:=(hserv f q).2.2
   have:=w1 f h1 h2 i (by rw [h3]; exact h4) h5 (by rw [hw]; simp)
   rw [h3] at this
   unfold W6 at this
   grind
 have p1:=fun a=>JS (a:=a) (ok i)
 have li:=hlead i
 have si:=hserv i
 have ti:=htask i
 have hok:Aw m.items=true:=by
  clear e1 e2 e3 e4 e5 w1 w2 w3 z1 z2 fresh hmem hfly hlead hserv htask
  cases hs<;>simp_all [PM.idle]
 have hokx:∀ x∈T,Aw x.items=true:=by
  clear e1 e2 e3 e4 e5 w1 w2 w3 z1 z2 fresh hmem hfly hlead hserv htask
  cases hs<;>simp_all [PM.idle]<;>grind
 have k1:m.leads=true->m.base=true->m.serves=false->∀ x∈g.fly++T,x.kind=3->x.ep=m.ep->x.items=m.items:=by
  have e1i:=e1 i
  clear e1 e2 e3 e4 e5 w1 w2 w3 z1 fresh hmem hfly hlead hserv htask okx p1 hok hokx
  cases hs<;>simp_all [PM.idle]<;>grind
 have k1b:∀ f,f≠i->(g.mem f).leads=true->∀ x∈T,x.kind=3->x.ep≠(g.mem f).ep:=by
  intro f hf hl
  have lf:=hlead f hl
  clear e1 e2 e3 e4 e5 w1 w2 w3 z1 z2 fresh hmem hfly hlead hserv htask okx p1 hok hokx k1
  cases hs<;>simp_all [PM.idle]<;>grind
 have k2a:m.leads=true->m.base=true->∀ j,j≠i->(g.mem j).base=true->(g.mem j).ep=m.ep->(g.mem j).items=m.items\/(m.op=1/\(g.mem j).items=An m.items m.ti):=by
  have e2i:=e2 i
  clear e1 e2 e3 e4 e5 w1 w2 w3 z2 fresh hmem hfly hlead hserv htask okx p1 hok hokx k1 k1b
  intro q1 q2 j hj q3 q4
  have z:=z1 j q3
  clear z1
  cases hs<;>(try dsimp only [PM.idle] at *)<;>grind
 have k2b:∀ f,f≠i->(g.mem f).leads=true->(g.mem f).base=true->m.base=true->m.ep=(g.mem f).ep->m.items=(g.mem f).items\/((g.mem f).op=1/\m.items=An (g.mem f).items (g.mem f).ti):=by
  intro f hf h1 h2 h3 h4
  have lf:=hlead f h1
  have e2f:=e2 f h1 h2 i
  have e5f:=e5 f
  have e1f:=e1 f h1 h2
  have fr:=fun (x:PX) hx=>fresh x hx f h1 h2
  have st:∀ a,1<=a.2.2->a.2.2<=vl (g.mem f).items a.1.toList->An (g.mem f).items a=(g.mem f).items:=fun a b c=>eK (ok f) b c
  have st2:∀ a,1<=a.2.2->a.2.2<=vl (g.mem f).items a.1.toList->An (An (g.mem f).items (g.mem f).ti) a=An (g.mem f).items (g.mem f).ti:=fun a b c=>eK (JS (ok f)) b (Int.le_trans c (uG (ok f) _ _))
  have tw:=vj (a:=(g.mem f).ti) (ok f)
  have ov:∀ x∈g.fly,∀ a,x.items=[a]->1<=a.2.2:=fun x hx a e=>AAV (okx x hx) (by rw [e]; simp)
  clear e1 e2 e3 e5 w1 w2 w3 z1 z2 fresh hmem hfly hlead hserv htask okx p1 hok hokx k1 k1b k2a
  cases hs<;>(try dsimp only [PM.idle] at *)<;>grind
 have k3a:m.op=1->∀ j,j≠i->(g.mem j).base=true->(g.mem j).ep=m.ep->(j∉m.left\/∃ x∈g.fly,x.kind=6/\x.frm=j/\x.ep=m.ep/\x.num=m.num)->(g.mem j).items=An m.items m.ti:=by
  have e3i:=e3 i
  clear e1 e2 e3 e4 e5 w1 w2 w3 z1 z2 fresh hmem hfly hlead hserv htask okx p1 hok hokx k1 k1b k2a k2b
  intro q1 j q2 q3 q4 q5
  have e3j:=fun a b=>e3i a j q2 q3 b
  clear e3i
  cases hs<;>(try dsimp only [PM.idle] at *)<;>grind
 have k3b:∀ f,f≠i->(g.mem f).op=1->m.base=true->m.ep=(g.mem f).ep->(i∉(g.mem f).left\/∃ x∈g.fly++T,x.kind=6/\x.frm=i/\x.ep=(g.mem f).ep/\x.num=(g.mem f).num)->m.items=An (g.mem f).items (g.mem f).ti:=by
  intro f hf ho h3 h4 h5
  have h0:=htask f (by omega)
  obtain ⟨h2,h1,h6⟩:=hserv f h0.1
  have lf:=hlead f h1
  have e2f:=e2 f h1 h2 i
  have e3f:=fun a b c=>e3 f ho i (Ne.symm hf) a b (.inl c)
  have e3g:(g.mem i).base=true->(g.mem i).ep=(g.mem f).ep->∀ x∈g.fly,x.kind=6->x.frm=i->x.ep=(g.mem f).ep->x.num=(g.mem f).num->(g.mem i).items=An (g.mem f).items (g.mem f).ti:=fun a b x hx c1 c2 c3 c4=>e3 f ho i (Ne.symm hf) a b (.inr ⟨x,hx,c1,c2,c3,c4⟩)
  have e5f:=e5 f ho
  have fr:=fun (x:PX) hx=>fresh x hx f h1 h2
  have st2:∀ a,1<=a.2.2->a.2.2<=vl (g.mem f).items a.1.toList->An (An (g.mem f).items (g.mem f).ti) a=An (g.mem f).items (g.mem f).ti:=fun a b c=>eK (JS (ok f)) b (Int.le_trans c (uG (ok f) _ _))
  have tw:=vj (a:=(g.mem f).ti) (ok f) e5f.2 e5f.1
  have ov:∀ x∈g.fly,∀ a,x.items=[a]->1<=a.2.2:=fun x hx a e=>AAV (okx x hx) (by rw [e]; simp)
  clear e1 e2 e3 e5 w1 w2 w3 z1 z2 fresh hmem hfly hlead hserv htask okx p1 hok hokx k1 k1b k2a k2b k3a
  cases hs<;>(try dsimp only [PM.idle] at *)<;>grind
 have k4:∀ x∈g.fly,x.kind=5->Cf V x.ep=i->m.leads=true->m.base=true->m.ep=x.ep->(g.mem i).leads=true/\(g.mem i).base=true/\(g.mem i).ep=x.ep/\m.op=(g.mem i).op/\m.num=(g.mem i).num/\m.ti=(g.mem i).ti/\m.items=(g.mem i).items:=by
  intro x hx hk hf
  have z:=z2 x hx (.inr (by omega))
  rw [hf] at z
  clear e1 e2 e3 e4 e5 w1 w2 w3 z1 z2 fresh hmem hfly hlead hserv htask okx p1 hok hokx k1 k1b k2a k2b k3a k3b
  cases hs<;>simp_all [PM.idle]<;>grind
 have k5:m.op=1->m.items=(g.mem i).items/\m.ti=(g.mem i).ti/\(g.mem i).op=1:=by
  clear e1 e2 e3 e4 e5 w1 w2 w3 z1 z2 fresh hmem hfly hlead hserv htask okx p1 hok hokx k1 k1b k2a k2b k3a k3b k4
  cases hs<;>simp_all [PM.idle]<;>grind
 have kT:∀ x∈T,x.kind≠5:=by
  clear e1 e2 e3 e4 e5 w1 w2 w3 z1 z2 fresh hmem hfly hlead hserv htask okx p1 hok hokx k1 k1b k2a k2b k3a k3b k4 k5
  cases hs<;>simp_all [PM.idle]<;>grind
 have k6:∀ x∈T,x.kind=6->x.frm=i:=fun x hx hk=>(hs.talk x hx (by omega)).2.1
 clear hs
 generalize g.set i m T=g' at *
 refine ⟨?_,?_,?_,?_,?_,?_,?_⟩
 ·intro j; rw [hmem]; split
  ·exact hok
  ·exact ok j
 ·intro x hx
  rw [hfly] at hx
  rcases List.mem_append.1 hx with q | q
  ·exact okx x q
  ·exact hokx x q
 ·intro j; rw [hmem,hfly]; split
  ·exact k1
  ·intro h1 h2 h3 x hx hk he
   rcases List.mem_append.1 hx with q | q
   ·exact e1 j h1 h2 h3 x q hk he
   ·rename_i hne; exact absurd he (k1b j hne h1 x q hk)
 ·intro j h1 h2 l h3 h4
  rw [hmem] at h1 h2 h3 h4 ⊢
  rw [hmem]
  grind
 ·intro j h1 l hl h3 h4 h5
  rw [hfly] at h5
  rw [hmem] at h1 h3 h4 h5 ⊢
  rw [hmem] at h4 ⊢
  by_cases hji:j=i
  ·subst hji
   simp only [if_true] at *
   rw [if_neg hl] at *
   refine k3a h1 l hl h3 h4 (h5.imp id fun ⟨x,hx,q⟩=>⟨x,?_,q⟩)
   rcases List.mem_append.1 hx with r | r
   ·exact r
   ·exact absurd (k6 x r q.1) (by rw [q.2.1]; exact hl)
  ·rw [if_neg hji] at *
   by_cases hli:l=i
   ·subst hli
    simp only [if_true] at *
    exact k3b j hji h1 h3 h4 h5
   ·rw [if_neg hli] at *
    refine e3 j h1 l hl h3 h4 (h5.imp id fun ⟨x,hx,q⟩=>⟨x,?_,q⟩)
    rcases List.mem_append.1 hx with r | r
    ·exact r
    ·exact absurd (k6 x r q.1) (by rw [q.2.1]; exact hli)
 ·intro x hx hk a hxa h1 h2 h3
  rw [hfly] at hx
  rcases List.mem_append.1 hx with q | q
  ·rw [hmem] at h1 h2 h3 ⊢
   have:=e4 x q hk a hxa
   by_cases hf:Cf V x.ep=i
   ·rw [if_pos hf] at *
    have:=k4 x q hk hf h1 h2 h3
    rw [hf] at *
    grind
   ·rw [if_neg hf] at *
    exact this h1 h2 h3
  ·exact absurd hk (kT x q)
 ·intro j h1
  rw [hmem] at h1 ⊢
  have:=e5 i
  grind

def X1 (m:PM):Int:=if m.op=1 then m.ti.2.2 else vl m.items m.ti.1.toList
def fJ (g:PG) (vr:Nat->Int) (y:AN):Prop:=∃ (k:Nat) (c:PC),g.calls[k]? = some c/\c.op=1/\c.key=y.1/\c.val=y.2.1/\vr k=y.2.2/\1<=y.2.2
structure IF (V:Int->List Int) (g:PG) (vr:Nat->Int):Prop where
 f1:∀ (k:Nat) c,g.calls[k]? = some c->0<=c.done->∀ j,(g.mem j).base=true->c.ep<=(g.mem j).ep->c.ver<=vl (g.mem j).items c.key.toList
 f2:∀ (k:Nat) c,g.calls[k]? = some c->0<=c.done->∀ x∈g.fly,x.kind=2\/x.kind=3->c.ep<x.ep->c.ver<=vl x.items c.key.toList
 p1:∀ i,(g.mem i).op≠0->J8 g i\/((∀ j,(g.mem j).base=true->(g.mem i).ep<(g.mem j).ep->X1 (g.mem i)<=vl (g.mem j).items (g.mem i).ti.1.toList)/\(∀ x∈g.fly,x.kind=2\/x.kind=3->(g.mem i).ep<x.ep->X1 (g.mem i)<=vl x.items (g.mem i).ti.1.toList) /\
  (∀ (k:Nat) c,g.calls[k]? = some c->0<=c.done->c.op=2->(g.mem i).ep<c.ep->c.key.toList=(g.mem i).ti.1.toList->X1 (g.mem i)<=c.ver))
 fr:∀ (k l:Nat) c d,g.calls[k]? = some c->g.calls[l]? = some d->0<=c.done->0<=d.done->c.op=2->c.key.toList=d.key.toList->vr l<vr k->d.ver<=c.ver
 vs:∀ (k:Nat) c,g.calls[k]? = some c->0<=c.done->c.ver<=vr k/\(c.op=1->c.ver=vr k)
 pm:∀ i,∀ y∈(g.mem i).items,fJ g vr y
 px:∀ x∈g.fly,∀ y∈x.items,fJ g vr y
 pt:∀ i,(g.mem i).op=1->fJ g vr (g.mem i).ti
 gt:∀ (k:Nat) c,g.calls[k]? = some c->0<=c.done->c.op=2->(c.ver=0/\c.got=ByteArray.empty)\/∃ y,fJ g vr y/\y.1.toList=c.key.toList/\c.ver=y.2.2/\c.got=y.2.1
theorem IF.mstep {V nv g i m T vr now} (h:IF V g vr) (ha:IA V nv g) (ht:IT V g vr now) (hz:IZ V g vr) (he:IE V g) (hs:Cg V nv g i m T):IF V (g.set i m T) vr:=by
 have hmem:∀ j,(g.set i m T).mem j=if j=i then m else g.mem j:=fun _=>rfl
 have hfly:(g.set i m T).fly=g.fly++T:=rfl
 have hcal:(g.set i m T).calls=g.calls:=rfl
 obtain ⟨f1,f2,p1,fr,vs,pm,px,pt,gt⟩:=h
 have hstk:=fun j=>J8.step (j:=j) hs
 have li:=ha.lead i
 have si:=ha.serv i
 have ti:=ha.task i
 have dn:∀ (k:Nat) c,g.calls[k]? = some c->0<=c.done->c.ep<=(g.mem (Cf V c.ep)).ep/\((g.mem (Cf V c.ep)).ep=c.ep->(g.mem (Cf V c.ep)).leads=true->(g.mem (Cf V c.ep)).base=true)/\(∀ j∈V c.ep,j≠Cf V c.ep->W6 g j c.ep):=by
  intro k c hk hd
  obtain ⟨d1,d2,d3,d4,d5,d6,d7⟩:=ht.dn k c hk hd
  obtain ⟨e,n,x1,x2,x3,x4,x5,x6⟩:=ht.st k (by omega)
  have:e=c.ep:=by omega
  subst this
  exact ⟨x5,fun q1 q2=>(x6 q1 q2).1,hz.w3 k c.ep c.num (by omega) d1 d3 d4⟩
 have q1:=fun a k=>uG (he.ok i) a k
 have k1:∀ (k:Nat) c,g.calls[k]? = some c->0<=c.done->m.base=true->c.ep<=m.ep->c.ver<=vl m.items c.key.toList:=by
  intro k c hk hd
  obtain ⟨d1,d2,d3⟩:=dn k c hk hd
  have g1:=f1 k c hk hd i
  have g2:=f2 k c hk hd
  have d3i:=d3 i
  have q1c:=fun a=>q1 a c.key.toList
  unfold W6 at d3i
  clear dn f1 f2 p1 fr vs pm px pt gt hstk q1 d3 ha ht hz he hmem hfly hcal
  cases hs<;>simp_all [PM.idle]<;>grind
 have k2:∀ (k:Nat) c,g.calls[k]? = some c->0<=c.done->∀ x∈T,x.kind=2\/x.kind=3->c.ep<x.ep->c.ver<=vl x.items c.key.toList:=by
  intro k c hk hd
  have g1:=f1 k c hk hd i
  have g2:=f2 k c hk hd
  clear dn f1 f2 p1 fr vs pm px pt gt hstk q1 ha ht hz he hmem hfly hcal k1
  cases hs<;>simp_all [PM.idle]<;>grind
 have special:∀ j,j≠i->(g.mem j).op≠0->(g.mem i).base=true->(g.mem i).ep=(g.mem j).ep->(g.mem i).ep<m.ep->(∀ x∈T,x.kind≠6/\x.kind≠8)->J8 (g.set i m T) j\/X1 (g.mem j)<=vl (g.mem i).items (g.mem j).ti.1.toList:=by
  intro j hj ho hb hep hlt hT
  obtain ⟨t1,t2,t3⟩:=ha.task j ho
  obtain ⟨s1,s2,s3⟩:=ha.serv j t1
  rcases t2 with t2 | t2
  ·by_cases hr:i∉(g.mem j).left\/∃ x∈g.fly,x.kind=6/\x.frm=i/\x.ep=(g.mem j).ep/\x.num=(g.mem j).num
   ·have:=he.e3 j t2 i (Ne.symm hj) hb hep hr
    right
    unfold X1
    rw [if_pos t2,this,yz,(he.e5 j t2).1]
    exact Int.le_refl _
   ·left
    have hr1:i∈(g.mem j).left:=by
     by_cases q:i∈(g.mem j).left
     ·exact q
     ·exact absurd (.inl q) hr
    refine ⟨i,by rw [hmem,if_neg hj]; exact hr1,by rw [hmem,if_neg hj,hmem,if_pos rfl]; omega,fun x hx hk hf hxe hn=>?_⟩
    rw [hmem,if_neg hj] at hk hxe hn
    rw [hfly] at hx
    rcases List.mem_append.1 hx with q | q
    ·exact hr (.inr ⟨x,q,by omega,hf,hxe,hn⟩)
    ·have:=hT x q; omega
  ·right
   unfold X1
   rw [if_neg (by omega)]
   rcases he.e2 j s2 s1 i hb hep with q | q
   ·rw [q]; exact Int.le_refl _
   ·omega
 have kp:∀ j,j≠i->(g.mem j).op≠0->J8 g j\/J8 (g.set i m T) j\/((m.base=true->(g.mem j).ep<m.ep->X1 (g.mem j)<=vl m.items (g.mem j).ti.1.toList)/\(∀ x∈T,x.kind=2\/x.kind=3->(g.mem j).ep<x.ep->X1 (g.mem j)<=vl x.items (g.mem j).ti.1.toList)):=by
  intro j hj ho
  rcases p1 j ho with q | ⟨b1,b2,b3⟩
  ·exact .inl q
  ·have sp:=special j hj ho
   have b1i:=b1 i
   have q1c:=fun a=>q1 a (g.mem j).ti.1.toList
   generalize hA:J8 (g.set i m T) j=A at *
   generalize X1 (g.mem j)=tb at *
   right
   clear dn f1 f2 p1 fr vs pm px pt gt hstk q1 ha ht hz he hmem hfly hcal k1 k2 special hA b1 b3
   cases hs<;>simp_all [PM.idle]<;>grind
 have kt:m.op≠0->(g.mem i).op≠0/\m.op=(g.mem i).op/\m.ti=(g.mem i).ti/\m.items=(g.mem i).items/\m.ep=(g.mem i).ep/\(∀ x∈T,x.kind≠2/\x.kind≠3):=by
  clear dn f1 f2 p1 fr vs pm px pt gt hstk q1 ha ht hz he hmem hfly hcal k1 k2 special kp
  cases hs<;>simp_all [PM.idle]<;>grind
 have kb:m.op≠0->m.base=true:=fun ho=>by
  obtain ⟨t1,t2⟩:=kt ho
  have:=(si (ti t1).1).1
  clear dn f1 f2 p1 fr vs pm px pt gt hstk q1 ha ht hz he hmem hfly hcal k1 k2 special kp
  cases hs<;>simp_all [PM.idle]
 have kv:∀ y∈m.items,fJ g vr y:=by
  have pmi:=pm i
  have ps:=fun (a b:AN) h=>dh (x:=(g.mem i).items) (a:=a) (b:=b) h
  clear dn f1 f2 p1 fr vs pm pt gt hstk q1 ha ht hz he hmem hfly hcal k1 k2 special kp kt kb
  cases hs<;>simp_all [PM.idle]<;>grind
 have kw:∀ x∈T,∀ y∈x.items,fJ g vr y:=by
  have pmi:=pm i
  clear dn f1 f2 p1 fr vs pm pt gt hstk q1 ha ht hz he hmem hfly hcal k1 k2 special kp kt kb kv
  cases hs<;>simp_all [PM.idle]<;>grind
 clear hs
 have hprov:∀ y,fJ g vr y->fJ (g.set i m T) vr y:=fun y h=>h
 refine ⟨?_,?_,?_,fr,vs,?_,?_,?_,fun k c h1 h2 h3=>gt k c h1 h2 h3⟩
 ·intro k c hk hd j
  rw [hmem]
  split
  ·exact k1 k c hk hd
  ·exact f1 k c hk hd j
 ·intro k c hk hd x hx
  rw [hfly] at hx
  rcases List.mem_append.1 hx with q | q
  ·exact f2 k c hk hd x q
  ·exact k2 k c hk hd x q
 ·intro j ho
  by_cases hj:j=i
  ·subst hj
   have ho2:m.op≠0:=by rw [hmem,if_pos rfl] at ho; exact ho
   obtain ⟨t1,t2,t3,t4,t5,t6⟩:=kt ho2
   have te:X1 m=X1 (g.mem j):=by unfold X1; rw [t2,t3,t4]
   rcases p1 j t1 with q | ⟨b1,b2,b3⟩
   ·exact .inl (hstk j q ho)
   ·right
    rw [hmem,if_pos rfl,te,t3,t5]
    refine ⟨fun l=>?_,fun x hx hk=>?_,b3⟩
    ·rw [hmem]
     split
     ·rename_i e; intro _ h; omega
     ·exact b1 l
    ·rw [hfly] at hx
     rcases List.mem_append.1 hx with r | r
     ·exact b2 x r hk
     ·have:=t6 x r; omega
  ·have ho2:(g.mem j).op≠0:=by rw [hmem,if_neg hj] at ho; exact ho
   rcases kp j hj ho2 with q | q | ⟨q1',q2'⟩
   ·exact .inl (hstk j q ho)
   ·exact .inl q
   ·rcases p1 j ho2 with q | ⟨b1,b2,b3⟩
    ·exact .inl (hstk j q ho)
    ·right
     rw [hmem,if_neg hj]
     refine ⟨fun l=>?_,fun x hx hk=>?_,b3⟩
     ·rw [hmem]
      split
      ·exact q1'
      ·exact b1 l
     ·rw [hfly] at hx
      rcases List.mem_append.1 hx with r | r
      ·exact b2 x r hk
      ·exact q2' x r hk
 ·intro j y hy
  rw [hmem] at hy
  split at hy
  ·exact kv y hy
  ·exact pm j y hy
 ·intro x hx
  rw [hfly] at hx
  rcases List.mem_append.1 hx with r | r
  ·exact px x r
  ·exact kw x r
 ·intro j ho
  by_cases hj:j=i
  ·subst hj
   rw [hmem,if_pos rfl] at ho ⊢
   obtain ⟨t1,t2,t3,t4,t5,t6⟩:=kt (by omega)
   rw [t3]
   exact pt j (by omega)
  ·rw [hmem,if_neg hj] at ho ⊢
   exact pt j ho
theorem IA.drop {V nv g f} (h:IA V nv g):IA V nv { g with fly:=f }:=⟨h.1,h.2,h.3,h.4,h.5,h.6,h.7⟩
theorem IB.drop {V g f} (h:IB V g) (hf:∀ x∈f,x∈g.fly):IB V { g with fly:=f }:=⟨h.mem,fun x hx=>h.fly x (hf x hx)⟩
theorem IZ.drop {V g vr f} (h:IZ V g vr) (hf:∀ x∈f,x∈g.fly):IZ V { g with fly:=f } vr:=⟨h.w1,fun x hx=>h.w2 x (hf x hx),h.w3,h.z1,fun x hx=>h.z2 x (hf x hx)⟩
theorem IE.drop {V g f} (h:IE V g) (hf:∀ x∈f,x∈g.fly):IE V { g with fly:=f } :=
 ⟨h.ok,fun x hx=>h.okx x (hf x hx),fun i a b c x hx=>h.e1 i a b c x (hf x hx),h.e2,fun i a j b c d e=>h.e3 i a j b c d (e.imp id fun ⟨x,hx,q⟩=>⟨x,hf x hx,q⟩),fun x hx=>h.e4 x (hf x hx),h.e5⟩
theorem IF.drop {V g vr f} (h:IF V g vr) (hf:∀ x∈f,x∈g.fly):IF V { g with fly:=f } vr :=
 ⟨h.f1,fun k c a b x hx=>h.f2 k c a b x (hf x hx),fun i a=>(h.p1 i a).imp (J8.less hf) fun ⟨x,y,z⟩=>⟨x,fun w hw=>y w (hf w hw),z⟩,h.fr,h.vs,h.pm,fun x hx=>h.px x (hf x hx),h.pt,h.gt⟩
theorem IF.call {V g vr} {c:PC} (h:IF V g vr) (h1:c.done=-1):IF V { g with calls:=g.calls++[c] } vr:=by
 obtain ⟨f1,f2,p1,fr,vs,pm,px,pt,gt⟩:=h
 have hg:∀ (k:Nat) d,(g.calls++[c])[k]? = some d->0<=d.done->g.calls[k]? = some d:=by
  intro k d hd h0
  have:g.calls[k]? = some d\/(k=g.calls.length/\d=c):=by grind
  rcases this with e | ⟨_,e⟩
  ·exact e
  ·subst e; omega
 have hp:∀ y,fJ g vr y->fJ { g with calls:=g.calls++[c] } vr y:=fun y ⟨k,d,q,r⟩=>⟨k,d,by grind,r⟩
 refine ⟨fun k d a b=>f1 k d (hg k d a b) b,fun k d a b=>f2 k d (hg k d a b) b,fun i a=>(p1 i a).imp id fun ⟨x,y,z⟩=>⟨x,y,fun k d q r=>z k d (hg k d q r) r⟩,fun k l d e q r s t=>fr k l d e (hg k d q s) (hg l e r t) s t,fun k d a b=>vs k d (hg k d a b) b,
  fun i y hy=>hp y (pm i y hy),fun x hx y hy=>hp y (px x hx y hy),fun i a=>hp _ (pt i a),fun k d a b e=>(gt k d (hg k d a b) b e).imp id fun ⟨y,q,r⟩=>⟨y,hp y q,r⟩⟩
section
variable {V:Int->List Int} {nv now:Int} {g:PG} {vr:Nat->Int} {i:Int} {c:PC} {L:List Int} {a:AN} {T:List PX}
def Bf (g:PG) (i:Int) (c:PC) (L:List Int) (a:AN) (T:List PX):PG:={ (g.set i (QV g i c L a) T) with calls:=g.calls++[c] }
def vrN (g:PG) (i:Int) (vr:Nat->Int):Nat->Int:=fun k=>if k=g.calls.length then 1000*(g.mem i).ep+((g.mem i).cnt+1) else vr k
theorem IA.start (h:IA V nv g) (h3:(g.mem i).serves=true) (h5:c.op=1\/c.op=2):IA V nv (Bf g i c L a T):=by
 obtain ⟨a1,a2,a3,a4,a5,a6,a7⟩:=h
 have b6:=a6 i
 refine ⟨fun j=>?_,fun j=>?_,fun j=>?_,fun j=>?_,fun j=>?_,fun j=>?_,fun j=>?_⟩<;>simp only [Bf,PG.set,QV]<;>split<;>grind
theorem W7 (j:Int):((Bf g i c L a T).mem j).ep=(g.mem j).ep/\((Bf g i c L a T).mem j).base=(g.mem j).base/\((Bf g i c L a T).mem j).leads=(g.mem j).leads/\((Bf g i c L a T).mem j).fell=(g.mem j).fell/\((Bf g i c L a T).mem j).items=(g.mem j).items/\((Bf g i c L a T).mem j).serves=(g.mem j).serves/\((Bf g i c L a T).mem j).waits=(g.mem j).waits:=by
 simp only [Bf,PG.set,QV]
 split
 ·rename_i e; subst e; exact ⟨rfl,rfl,rfl,rfl,rfl,rfl,rfl⟩
 ·exact ⟨rfl,rfl,rfl,rfl,rfl,rfl,rfl⟩
theorem IB.start (h:IB V g) (hT:∀ y∈T,y.kind=5\/y.kind=7):IB V (Bf g i c L a T):=by
 have mono:∀ e,CK V g e->CK V (Bf g i c L a T) e:=fun e h=>h.mono fun j=>by rw [(W7 j).1]; exact Int.le_refl _
 refine ⟨fun j hb=>?_,fun x hx hk=>?_⟩
 ·obtain ⟨q1,q2,_⟩:=W7 (g:=g) (i:=i) (c:=c) (L:=L) (a:=a) (T:=T) j
  rw [q1]; rw [q2] at hb; exact mono _ (h.mem j hb)
 ·rcases List.mem_append.1 hx with q | q
  ·exact mono _ (h.fly x q hk)
  ·have:=hT x q; omega
theorem IZ.start (h:IZ V g vr) (hia:IA V nv g) (hcl:∀ k,g.calls.length<=k->vr k=0) (h3:(g.mem i).serves=true) (hc9:(g.mem i).cnt<900) (hT:∀ y∈T,(y.kind=5\/y.kind=7)/\y.ep=(g.mem i).ep):IZ V (Bf g i c L a T) (vrN g i vr):=by
 obtain ⟨s1,s2,s3⟩:=hia.serv i h3
 obtain ⟨l1,l2⟩:=hia.lead i s2
 have hcnt:=hia.cnt i
 have he:=W7 (g:=g) (i:=i) (c:=c) (L:=L) (a:=a) (T:=T)
 have hb:∀ k e,W6 g k e->W6 (Bf g i c L a T) k e:=fun k e h=>by
  obtain ⟨q1,q2,q3,q4,_⟩:=he k
  unfold W6 at *
  rw [q1,q2,q4]; exact h
 have hfly:(Bf g i c L a T).fly=g.fly++T:=rfl
 generalize Bf g i c L a T=g' at *
 obtain ⟨w1,w2,w3,z1,z2⟩:=h
 refine ⟨?_,?_,?_,?_,?_⟩
 ·intro j h1 h2 k h4 h5 h6
  obtain ⟨q1,q2,q3,q4,q5,q6,q7⟩:=he j
  rw [q3] at h1; rw [q2] at h2; rw [q1] at h4 ⊢; rw [q7] at h6
  exact hb _ _ (w1 j h1 h2 k h4 h5 h6)
 ·intro x hx hk
  rw [hfly] at hx
  rcases List.mem_append.1 hx with q | q
  ·exact hb _ _ (w2 x q hk)
  ·have:=hT x q; omega
 ·intro k e n h1 h2 h4 h5 j h6 h7
  unfold vrN at h1 h2
  split at h1
  ·rename_i hk
   rw [if_pos hk] at h2
   have:e=(g.mem i).ep:=by omega
   subst this
   rw [l2] at h7
   exact hb _ _ (w1 i s2 s1 j h6 h7 (by rw [s3]; simp))
  ·rename_i hk
   rw [if_neg hk] at h2
   exact hb _ _ (w3 k e n h1 h2 h4 h5 j h6 h7)
 ·intro k hk
  obtain ⟨q1,q2,q3,q4,q5,q6,q7⟩:=he k
  rw [q2] at hk; rw [q1]
  obtain ⟨r1,r2,r3,_⟩:=he (Cf V (g.mem k).ep)
  rw [r1,r2,r3]
  exact z1 k hk
 ·intro x hx hk
  obtain ⟨r1,r2,r3,_⟩:=he (Cf V x.ep)
  rw [r1,r2,r3]
  rw [hfly] at hx
  rcases List.mem_append.1 hx with q | q
  ·exact z2 x q hk
  ·have:=(hT x q).2
   rw [this,l2]
   exact ⟨Int.le_refl _,fun _ _=>s1⟩
theorem IE.start (h:IE V g) (hia:IA V nv g) (hit:IT V g vr now) (h3:(g.mem i).serves=true) (h4:(g.mem i).op=0) (h5:c.op=1\/c.op=2) (hL:∀ k,k∈L↔k∈V (g.mem i).ep/\k≠i) (hA:a=(c.key,c.val,1000*(g.mem i).ep+((g.mem i).cnt+1))) (hp:c.op=1->BJ (An (g.mem i).items a) a.1=a) (hone:Aw [a]=true)
  (hT:∀ y∈T,(y.kind=5/\c.op=1/\y.items=[a]\/y.kind=7/\c.op=2/\y.items=[])/\y.ep=(g.mem i).ep/\y.num=(g.mem i).cnt+1/\y.frm=i):IE V (Bf g i c L a T):=by
 obtain ⟨s1,s2,s3⟩:=hia.serv i h3
 obtain ⟨l1,l2⟩:=hia.lead i s2
 have hpos:=hia.pos i
 have hcnt:=hia.cnt i
 have hv1:1<=a.2.2:=by rw [hA]; show 1<=1000*(g.mem i).ep+((g.mem i).cnt+1); omega
 have he:=W7 (g:=g) (i:=i) (c:=c) (L:=L) (a:=a) (T:=T)
 have hi:((Bf g i c L a T).mem i).op=c.op/\((Bf g i c L a T).mem i).num=(g.mem i).cnt+1/\((Bf g i c L a T).mem i).ti=a/\((Bf g i c L a T).mem i).left=L:=by
  simp [Bf,PG.set,QV]
 have hj:∀ j,j≠i->(Bf g i c L a T).mem j=g.mem j:=fun j e=>by simp only [Bf,PG.set]; rw [if_neg e]
 have hfly:(Bf g i c L a T).fly=g.fly++T:=rfl
 have hfl:=hit.fl
 generalize Bf g i c L a T=g' at *
 obtain ⟨ok,okx,e1,e2,e3,e4,e5⟩:=h
 refine ⟨?_,?_,?_,?_,?_,?_,?_⟩
 ·intro j; rw [(he j).2.2.2.2.1]; exact ok j
 ·intro x hx
  rw [hfly] at hx
  rcases List.mem_append.1 hx with q | q
  ·exact okx x q
  ·rcases (hT x q).1 with ⟨_,_,r⟩ | ⟨_,_,r⟩
   ·rw [r]; exact hone
   ·rw [r]; rfl
 ·intro j q1 q2 q3 x hx hk hxe
  obtain ⟨r1,r2,r3,r4,r5,r6,r7⟩:=he j
  rw [r3] at q1; rw [r2] at q2; rw [r6] at q3; rw [r1] at hxe; rw [r5]
  rw [hfly] at hx
  rcases List.mem_append.1 hx with q | q
  ·exact e1 j q1 q2 q3 x q hk hxe
  ·have:=hT x q; omega
 ·intro j q1 q2 l q3 q4
  obtain ⟨r1,r2,r3,r4,r5,r6,r7⟩:=he j
  obtain ⟨t1,t2,t3,t4,t5,t6,t7⟩:=he l
  rw [r3] at q1; rw [r2] at q2; rw [t2] at q3; rw [r1,t1] at q4; rw [r5,t5]
  have:=e2 j q1 q2 l q3 q4
  by_cases e:j=i
  ·subst e
   rcases this with q | q
   ·exact .inl q
   ·omega
  ·rw [hj j e]; exact this
 ·intro j q1 l hl q3 q4 q5
  obtain ⟨r1,r2,r3,r4,r5,r6,r7⟩:=he j
  obtain ⟨t1,t2,t3,t4,t5,t6,t7⟩:=he l
  rw [t2] at q3; rw [r1,t1] at q4; rw [r5,t5]
  rw [r1] at q5
  by_cases e:j=i
  ·subst e
   rw [hi.2.2.2,hi.2.1] at q5
   exfalso
   rcases q5 with q | ⟨x,hx,x1,x2,x3,x4⟩
   ·exact q ((hL l).2 ⟨by rw [<- q4]; exact (hia.view l q3).2,hl⟩)
   ·rw [hfly] at hx
    rcases List.mem_append.1 hx with q | q
    ·have:=hfl x q (by omega) (by omega)
     rw [x3,l2] at this
     have:=this.2 rfl s2
     omega
    ·have:=hT x q; omega
  ·rw [hj j e] at q1 q5 ⊢
   refine e3 j q1 l hl q3 q4 (q5.imp id fun ⟨x,hx,x1,q⟩=>⟨x,?_,x1,q⟩)
   rw [hfly] at hx
   rcases List.mem_append.1 hx with r | r
   ·exact r
   ·have:=hT x r; omega
 ·intro x hx hk b hxb q1 q2 q3
  obtain ⟨r1,r2,r3,r4,r5,r6,r7⟩:=he (Cf V x.ep)
  rw [r3] at q1; rw [r2] at q2; rw [r1] at q3; rw [r5]
  rw [hfly] at hx
  rcases List.mem_append.1 hx with q | q
  ·have h6:=e4 x q hk b hxb q1 q2 q3
   by_cases e:Cf V x.ep=i
   ·rw [e] at h6 q1 q2 q3 ⊢
    have h7:=hfl x q (by omega) (by omega)
    rw [e] at h7
    have h8:=h7.2 q3 q1
    refine ⟨fun _ hn=>?_,fun _=>h6.2 (fun h=>by omega)⟩
    rw [hi.2.1] at hn; omega
   ·rw [hj _ e]; exact h6
  ·obtain ⟨u1,u2,u3,u4⟩:=hT x q
   have hf:Cf V x.ep=i:=by rw [u2]; exact l2
   rcases u1 with ⟨_,u6,u7⟩ | ⟨u5,_⟩
   ·rw [u7] at hxb
    cases hxb
    rw [hf]
    refine ⟨fun _ _=>hi.2.2.1.symm,fun h=>absurd ⟨by rw [hi.1]; exact u6,by rw [hi.2.1]; exact u3⟩ h⟩
   ·omega
 ·intro j q1
  obtain ⟨r1,r2,r3,r4,r5,r6,r7⟩:=he j
  rw [r5]
  by_cases e:j=i
  ·subst e
   rw [hi.2.2.1]
   exact ⟨hp (by rw [<- hi.1]; exact q1),hv1⟩
  ·rw [hj j e] at q1 ⊢; exact e5 j q1
end
section
variable {V:Int->List Int} {nv now:Int} {g:PG} {vr:Nat->Int} {i:Int} {k:Nat} {c:PC}
def Nh (g:PG) (i:Int) (k:Nat) (c:PC) (now:Int):PG:={ (g.set i (X0 (g.mem i)) []) with calls:=g.calls.set k (Rj (g.mem i) c now) }
theorem lM (j:Int):(Nh g i k c now).mem j=if j=i then X0 (g.mem i) else g.mem j:=rfl
theorem uH (j:Int):((Nh g i k c now).mem j).ep=(g.mem j).ep/\((Nh g i k c now).mem j).base=(g.mem j).base/\((Nh g i k c now).mem j).leads=(g.mem j).leads/\((Nh g i k c now).mem j).fell=(g.mem j).fell/\((Nh g i k c now).mem j).serves=(g.mem j).serves/\((Nh g i k c now).mem j).waits=(g.mem j).waits/\((Nh g i k c now).mem j).cnt=(g.mem j).cnt:=by
 rw [lM]
 split
 ·rename_i e; subst e; exact ⟨rfl,rfl,rfl,rfl,rfl,rfl,rfl⟩
 ·exact ⟨rfl,rfl,rfl,rfl,rfl,rfl,rfl⟩
theorem lN:(Nh g i k c now).fly=g.fly:=List.append_nil _
theorem IA.fin (h:IA V nv g):IA V nv (Nh g i k c now):=by
 obtain ⟨a1,a2,a3,a4,a5,a6,a7⟩:=h
 have b:=uH (g:=g) (i:=i) (k:=k) (c:=c) (now:=now)
 refine ⟨fun j=>by rw [(b j).1]; exact a1 j,fun j=>?_,fun j=>?_,fun j=>?_,fun j ho=>?_,fun j=>?_,fun j=>?_⟩
 ·obtain ⟨q1,q2,q3,q4,q5,q6,q7⟩:=b j; rw [q1,q3]; exact a2 j
 ·obtain ⟨q1,q2,q3,q4,q5,q6,q7⟩:=b j; rw [q1,q2]; exact a3 j
 ·obtain ⟨q1,q2,q3,q4,q5,q6,q7⟩:=b j; rw [q2,q3,q5,q6]; exact a4 j
 ·rw [lM] at ho ⊢
  split at ho
  ·exact absurd rfl ho
  ·rename_i e; rw [if_neg e]; exact a5 j ho
 ·rw [(b j).2.2.2.2.2.2]; exact a6 j
 ·obtain ⟨q1,q2,q3,q4,q5,q6,q7⟩:=b j; rw [q4,q2,q3]; exact a7 j
theorem IB.fin (h:IB V g):IB V (Nh g i k c now):=by
 have b:=uH (g:=g) (i:=i) (k:=k) (c:=c) (now:=now)
 have mono:∀ e,CK V g e->CK V (Nh g i k c now) e:=fun e h=>h.mono fun j=>by rw [(b j).1]; exact Int.le_refl _
 refine ⟨fun j hb=>?_,fun x hx hk=>?_⟩
 ·rw [(b j).1]; rw [(b j).2.1] at hb; exact mono _ (h.mem j hb)
 ·rw [lN] at hx; exact mono _ (h.fly x hx hk)
theorem IZ.fin (h:IZ V g vr):IZ V (Nh g i k c now) vr:=by
 have b:=uH (g:=g) (i:=i) (k:=k) (c:=c) (now:=now)
 have hb:∀ l e,W6 g l e->W6 (Nh g i k c now) l e:=fun l e h=>by
  obtain ⟨q1,q2,q3,q4,_⟩:=b l
  unfold W6 at *
  rw [q1,q2,q4]; exact h
 have hfly:(Nh g i k c now).fly=g.fly:=lN
 generalize Nh g i k c now=g' at *
 obtain ⟨w1,w2,w3,z1,z2⟩:=h
 refine ⟨?_,fun x hx hk=>hb _ _ (w2 x (by rw [<- hfly]; exact hx) hk),fun k e n h1 h2 h4 h5 j h6 h7=>hb _ _ (w3 k e n h1 h2 h4 h5 j h6 h7),?_,?_⟩
 ·intro j h1 h2 l h4 h5 h6
  obtain ⟨q1,q2,q3,q4,q5,q6,q7⟩:=b j
  rw [q3] at h1; rw [q2] at h2; rw [q1] at h4 ⊢; rw [q6] at h6
  exact hb _ _ (w1 j h1 h2 l h4 h5 h6)
 ·intro l hl
  obtain ⟨q1,q2,q3,q4,q5,q6,q7⟩:=b l
  rw [q2] at hl; rw [q1]
  obtain ⟨r1,r2,r3,_⟩:=b (Cf V (g.mem l).ep)
  rw [r1,r2,r3]
  exact z1 l hl
 ·intro x hx hk
  obtain ⟨r1,r2,r3,_⟩:=b (Cf V x.ep)
  rw [r1,r2,r3]
  rw [hfly] at hx
  exact z2 x hx hk
theorem IE.fin (h:IE V g) (hia:IA V nv g) (ho:(g.mem i).op≠0) (hl:(g.mem i).left=[]):IE V (Nh g i k c now):=by
 obtain ⟨t1,t2,t3⟩:=hia.task i ho
 obtain ⟨s1,s2,s3⟩:=hia.serv i t1
 obtain ⟨l1,l2⟩:=hia.lead i s2
 have b:=uH (g:=g) (i:=i) (k:=k) (c:=c) (now:=now)
 have hmem:=lM (g:=g) (i:=i) (k:=k) (c:=c) (now:=now)
 have hfly:(Nh g i k c now).fly=g.fly:=lN
 have hlead:=hia.lead
 obtain ⟨ok,okx,e1,e2,e3,e4,e5⟩:=h
 have hi0:(X0 (g.mem i)).op=0:=rfl
 have hii:(X0 (g.mem i)).items=if (g.mem i).op=1 then An (g.mem i).items (g.mem i).ti else (g.mem i).items:=rfl
 have all:∀ j,j≠i->(g.mem j).base=true->(g.mem j).ep=(g.mem i).ep->(g.mem j).items=(X0 (g.mem i)).items:=by
  intro j hj h1 h2
  rw [hii]
  split
  ·rename_i q
   exact e3 i q j hj h1 h2 (.inl (by rw [hl]; simp))
  ·rename_i q
   rcases e2 i s2 s1 j h1 h2 with r | r
   ·exact r
   ·exact absurd r.1 q
 have up:∀ kk,vl (g.mem i).items kk<=vl (X0 (g.mem i)).items kk:=by
  intro kk; rw [hii]; split
  ·exact uG (ok i) _ _
  ·exact Int.le_refl _
 generalize Nh g i k c now=g' at *
 refine ⟨?_,by rw [hfly]; exact okx,?_,?_,?_,?_,?_⟩
 ·intro j; rw [hmem]; split
  ·rw [hii]; split
   ·exact JS (ok i)
   ·exact ok i
  ·exact ok j
 ·intro j h1 h2 h3 x hx hk he
  obtain ⟨q1,q2,q3,q4,q5,q6,q7⟩:=b j
  rw [q3] at h1; rw [q2] at h2; rw [q5] at h3; rw [q1] at he; rw [hfly] at hx
  rw [hmem]
  split
  ·rename_i e; subst e; rw [t1] at h3; cases h3
  ·exact e1 j h1 h2 h3 x hx hk he
 ·intro j h1 h2 l h3 h4
  obtain ⟨q1,q2,q3,q4,q5,q6,q7⟩:=b j
  obtain ⟨r1,r2,r3,r4,r5,r6,r7⟩:=b l
  rw [q3] at h1; rw [q2] at h2; rw [r2] at h3; rw [r1,q1] at h4
  by_cases e:j=i
  ·subst e
   left
   rw [hmem,hmem,if_pos rfl]
   split
   ·rfl
   ·rename_i e2; exact all l e2 h3 h4
  ·rw [hmem l,hmem j,if_neg e]
   split
   ·rename_i e2
    subst e2
    exact absurd (by have:=(hlead j h1).2; rw [<- h4,l2] at this; exact this.symm) e
   ·exact e2 j h1 h2 l h3 h4
 ·intro j h1 l hl2 h3 h4 h5
  obtain ⟨q1,q2,q3,q4,q5,q6,q7⟩:=b j
  obtain ⟨r1,r2,r3,r4,r5,r6,r7⟩:=b l
  rw [r2] at h3; rw [r1,q1] at h4; rw [q1,hfly] at h5
  by_cases e:j=i
  ·subst e; rw [hmem,if_pos rfl,hi0] at h1; omega
  ·rw [hmem,if_neg e] at h1 h5
   rw [hmem l,hmem j,if_neg e]
   split
   ·rename_i e2
    subst e2
    have hj2:=hia.task j (by omega)
    have hj3:=hia.serv j hj2.1
    exact absurd (by have:=(hlead j hj3.2.1).2; rw [<- h4,l2] at this; exact this.symm) e
   ·exact e3 j h1 l hl2 h3 h4 h5
 ·intro x hx hk a hxa h1 h2 h3
  obtain ⟨q1,q2,q3,q4,q5,q6,q7⟩:=b (Cf V x.ep)
  rw [q3] at h1; rw [q2] at h2; rw [q1] at h3; rw [hfly] at hx
  have h6:=e4 x hx hk a hxa h1 h2 h3
  rw [hmem]
  split
  ·rename_i e
   rw [e] at h6
   refine ⟨fun h=>by rw [hi0] at h; omega,fun _=>?_⟩
   by_cases q:(g.mem i).op=1/\x.num=(g.mem i).num
   ·have ha:=h6.1 q.1 q.2
    subst ha
    rw [hii,if_pos q.1,yz,(e5 i q.1).1]
    exact Int.le_refl _
   ·exact Int.le_trans (h6.2 q) (up _)
  ·exact h6
 ·intro j h1
  rw [hmem] at h1 ⊢
  split
  ·rename_i e; rw [if_pos e,hi0] at h1; omega
  ·rename_i e; rw [if_neg e] at h1; exact e5 j h1
end
section
variable {V:Int->List Int} {nv now:Int} {g:PG} {vr:Nat->Int} {i:Int} {c:PC} {L:List Int} {a:AN} {T:List PX}
theorem y_ (hia:IA V nv g) (hfl:∀ x∈g.fly,5<=x.kind->x.kind<=8->x.ep<=(g.mem (Cf V x.ep)).ep/\((g.mem (Cf V x.ep)).ep=x.ep->(g.mem (Cf V x.ep)).leads=true->x.num<=(g.mem (Cf V x.ep)).cnt)) (h3:(g.mem i).serves=true)
  (hL:∀ k,k∈L↔k∈V (g.mem i).ep/\k≠i) (hT:∀ y∈T,y.kind=5\/y.kind=7) {e:Int} (hr:CK V g e) (he:(g.mem i).ep<e):J8 (Bf g i c L a T) i:=by
 obtain ⟨s1,s2,s3⟩:=hia.serv i h3
 obtain ⟨l1,l2⟩:=hia.lead i s2
 obtain ⟨j,hjv,hjl⟩:=hr (g.mem i).ep (hia.pos i) he
 have hep:=fun j=>(W7 (g:=g) (i:=i) (c:=c) (L:=L) (a:=a) (T:=T) j).1
 have hi:((Bf g i c L a T).mem i).num=(g.mem i).cnt+1/\((Bf g i c L a T).mem i).left=L:=by simp [Bf,PG.set,QV]
 have hne:j≠i:=fun e=>by subst e; omega
 refine ⟨j,by rw [hi.2]; exact (hL j).2 ⟨hjv,hne⟩,by rw [hep i,hep j]; exact hjl,fun x hx hk hf hxe=>?_⟩
 rw [hep i] at hxe
 rw [hi.1]
 rcases List.mem_append.1 hx with q | q
 ·have:=hfl x q (by omega) (by omega)
  rw [hxe,l2] at this
  have:=this.2 rfl s2
  omega
 ·have:=hT x q; omega
theorem IF.start (h:IF V g vr) (hia:IA V nv g) (hib:IB V g) (hit:IT V g vr now) (h1:c.done=-1) (h3:(g.mem i).serves=true) (h4:(g.mem i).op=0) (hL:∀ k,k∈L↔k∈V (g.mem i).ep/\k≠i) (hA:a=(c.key,c.val,1000*(g.mem i).ep+((g.mem i).cnt+1)))
  (hT:∀ y∈T,(y.kind=5/\c.op=1/\y.items=[a]\/y.kind=7/\c.op=2/\y.items=[])/\y.ep=(g.mem i).ep/\y.num=(g.mem i).cnt+1/\y.frm=i):IF V (Bf g i c L a T) (vrN g i vr):=by
 have hep:=W7 (g:=g) (i:=i) (c:=c) (L:=L) (a:=a) (T:=T)
 have hT5:∀ y∈T,y.kind=5\/y.kind=7:=fun y hy=>by have:=(hT y hy).1; omega
 have stuck:∀ e,CK V g e->(g.mem i).ep<e->J8 (Bf g i c L a T) i:=fun e hr he=>y_ hia hit.fl h3 hL hT5 hr he
 have hi:((Bf g i c L a T).mem i).op=c.op/\((Bf g i c L a T).mem i).ti=a:=by simp [Bf,PG.set,QV]
 have hj:∀ j,j≠i->(Bf g i c L a T).mem j=g.mem j:=fun j e=>by simp only [Bf,PG.set]; rw [if_neg e]
 have hfly:(Bf g i c L a T).fly=g.fly++T:=rfl
 have hcal:(Bf g i c L a T).calls=g.calls++[c]:=rfl
 have hg:∀ (k:Nat) d,(Bf g i c L a T).calls[k]? = some d->0<=d.done->g.calls[k]? = some d/\k<g.calls.length:=by
  intro k d hd h0
  rw [hcal] at hd
  have:(g.calls[k]? = some d/\k<g.calls.length)\/(k=g.calls.length/\d=c):=by grind
  rcases this with e | ⟨_,e⟩
  ·exact e
  ·subst e; omega
 have hvr:∀ k,k<g.calls.length->vrN g i vr k=vr k:=fun k hk=>by unfold vrN; rw [if_neg (by omega)]
 have hp:∀ y,fJ g vr y->fJ (Bf g i c L a T) (vrN g i vr) y:=fun y ⟨k,d,q,q1,q2,q3,q4⟩=>by
  have hk:=(List.getElem?_eq_some_iff.1 q).1
  exact ⟨k,d,by rw [hcal]; grind,q1,q2,q3,by rw [hvr k hk]; exact q4⟩
 have hnew:c.op=1->fJ (Bf g i c L a T) (vrN g i vr) a:=fun ho=>⟨g.calls.length,c,by rw [hcal]; simp,ho,by rw [hA],by rw [hA],by unfold vrN; rw [if_pos rfl,hA],by rw [hA]; have:=hia.pos i; have:=hia.cnt i; show 1<=1000*(g.mem i).ep+((g.mem i).cnt+1); omega⟩
 obtain ⟨f1,f2,p1,fr,vs,pm,px,pt,gt⟩:=h
 have hdn:=hit.dn
 generalize Bf g i c L a T=g' at *
 refine ⟨?_,?_,?_,?_,?_,?_,?_,?_,?_⟩
 ·intro k d hk hd j hb he
  obtain ⟨q1,q2,q3,q4,q5,q6,q7⟩:=hep j
  rw [q2] at hb; rw [q1] at he; rw [q5]
  exact f1 k d (hg k d hk hd).1 hd j hb he
 ·intro k d hk hd x hx hkd he
  rw [hfly] at hx
  rcases List.mem_append.1 hx with q | q
  ·exact f2 k d (hg k d hk hd).1 hd x q hkd he
  ·have:=hT5 x q; omega
 ·intro j ho
  obtain ⟨q1,q2,q3,q4,q5,q6,q7⟩:=hep j
  by_cases e:j=i
  ·subst e
   by_cases hE:∃ e,CK V g e/\(g.mem j).ep<e
   ·obtain ⟨e,r1,r2⟩:=hE
    exact .inl (stuck e r1 r2)
   ·right
    rw [q1]
    refine ⟨fun l hb hl=>?_,fun x hx hk hl=>?_,fun k d hk hd _ hl _=>?_⟩
    ·rw [(hep l).2.1] at hb; rw [(hep l).1] at hl
     exact absurd ⟨_,hib.mem l hb,hl⟩ hE
    ·rw [hfly] at hx
     rcases List.mem_append.1 hx with q | q
     ·exact absurd ⟨_,hib.fly x q hk,hl⟩ hE
     ·have:=hT5 x q; omega
    ·have:=(hdn k d (hg k d hk hd).1 hd).2.2.2.2.1
     exact absurd ⟨_,this,hl⟩ hE
  ·rw [hj j e] at ho ⊢
   rcases p1 j ho with ⟨w,w1,w2,w3⟩ | ⟨b1,b2,b3⟩
   ·left
    refine ⟨w,by rw [hj j e]; exact w1,by rw [hj j e,(hep w).1]; exact w2,fun x hx=>?_⟩
    rw [hj j e]
    rw [hfly] at hx
    rcases List.mem_append.1 hx with q | q
    ·exact w3 x q
    ·have:=hT5 x q
     intro hk; omega
   ·right
    refine ⟨fun l hb hl=>?_,fun x hx hk hl=>?_,fun k d hk hd h2 hl h5=>b3 k d (hg k d hk hd).1 hd h2 hl h5⟩
    ·obtain ⟨r1,r2,r3,r4,r5,r6,r7⟩:=hep l
     rw [r2] at hb; rw [r1] at hl; rw [r5]
     exact b1 l hb hl
    ·rw [hfly] at hx
     rcases List.mem_append.1 hx with q | q
     ·exact b2 x q hk hl
     ·have:=hT5 x q; omega
 ·intro k l d e hk hl h0 h1' h2 h5 hlt
  obtain ⟨u1,u2⟩:=hg k d hk h0
  obtain ⟨v1,v2⟩:=hg l e hl h1'
  rw [hvr k u2,hvr l v2] at hlt
  exact fr k l d e u1 v1 h0 h1' h2 h5 hlt
 ·intro k d hk h0
  obtain ⟨u1,u2⟩:=hg k d hk h0
  rw [hvr k u2]
  exact vs k d u1 h0
 ·intro j y hy
  rw [(hep j).2.2.2.2.1] at hy
  exact hp y (pm j y hy)
 ·intro x hx y hy
  rw [hfly] at hx
  rcases List.mem_append.1 hx with q | q
  ·exact hp y (px x q y hy)
  ·rcases (hT x q).1 with ⟨_,r2,r3⟩ | ⟨_,_,r3⟩
   ·rw [r3] at hy
    simp only [List.mem_singleton] at hy
    rw [hy]; exact hnew r2
   ·rw [r3] at hy; cases hy
 ·intro j ho
  by_cases e:j=i
  ·subst e
   rw [hi.1] at ho; rw [hi.2]
   exact hnew ho
  ·rw [hj j e] at ho ⊢
   exact hp _ (pt j ho)
 ·intro k d hk h0 h2
  exact (gt k d (hg k d hk h0).1 h0 h2).imp id fun ⟨y,q,r⟩=>⟨y,hp y q,r⟩
end
section
variable {V:Int->List Int} {nv now:Int} {g:PG} {vr:Nat->Int} {i:Int} {k:Nat} {c:PC}
theorem lO (s:List AN) (kk:ByteArray):BJ s kk=(ByteArray.empty,ByteArray.empty,0)\/(BJ s kk∈s/\(BJ s kk).1.toList=kk.toList):=by
 cases h:JV s kk with
 | true=>exact .inr (uC h)
 | false=>exact .inl (dp h)
theorem IF.fin (h:IF V g vr) (hia:IA V nv g) (hit:IT V g vr now) (hie:IE V g) (hn:0<=now) (ho:(g.mem i).op≠0) (hl:(g.mem i).left=[]) (hc:(g.mem i).call=(k:Int)) (hk:g.calls[k]? = some c)
  (hown:∀ y∈(g.mem i).items,y.2.2<=1000*(g.mem i).ep+(g.mem i).cnt):IF V (Nh g i k c now) vr:=by
 obtain ⟨t1,t2,t3⟩:=hia.task i ho
 obtain ⟨s1,s2,s3⟩:=hia.serv i t1
 obtain ⟨l1,l2⟩:=hia.lead i s2
 obtain ⟨k0,d0,r1,r2,r3,r4,r5,r6,r7,r8,r9,r10⟩:=hit.act i ho
 have hk0:k0=k:=by omega
 subst hk0
 rw [hk] at r2
 cases r2
 have hkl:k0<g.calls.length:=(List.getElem?_eq_some_iff.1 hk).1
 have b:=uH (g:=g) (i:=i) (k:=k0) (c:=c) (now:=now)
 have hmem:=lM (g:=g) (i:=i) (k:=k0) (c:=c) (now:=now)
 have hfly:(Nh g i k0 c now).fly=g.fly:=lN
 have hcal:(Nh g i k0 c now).calls=g.calls.set k0 (Rj (g.mem i) c now):=rfl
 have hset:∀ (l:Nat) d,(Nh g i k0 c now).calls[l]? = some d->(l=k0/\d=Rj (g.mem i) c now)\/(l≠k0/\g.calls[l]? = some d):=by
  intro l d hd
  rw [hcal] at hd
  by_cases e:l=k0
  ·subst e
   rw [List.getElem?_set_self hkl] at hd
   exact .inl ⟨rfl,by cases hd; rfl⟩
  ·rw [List.getElem?_set_ne (Ne.symm e)] at hd
   exact .inr ⟨e,hd⟩
 have hset1:(Nh g i k0 c now).calls[k0]? = some (Rj (g.mem i) c now):=by rw [hcal]; exact List.getElem?_set_self hkl
 have hset2:∀ (l:Nat),l≠k0->(Nh g i k0 c now).calls[l]? = g.calls[l]? := fun l e=>by rw [hcal]; exact List.getElem?_set_ne (Ne.symm e)
 have hns:¬ J8 g i:=fun ⟨w,w1,_⟩=>by rw [hl] at w1; cases w1
 obtain ⟨f1,f2,p1,fr,vs,pm,px,pt,gt⟩:=h
 obtain ⟨b1,b2,b3⟩:=(p1 i ho).resolve_left hns
 have hii:(X0 (g.mem i)).items=if (g.mem i).op=1 then An (g.mem i).items (g.mem i).ti else (g.mem i).items:=rfl
 have hver:(Rj (g.mem i) c now).ver=X1 (g.mem i):=by
  unfold Rj vH X1
  dsimp only
  split
  ·rfl
  ·rfl
 have htobe:vl (X0 (g.mem i)).items (g.mem i).ti.1.toList=X1 (g.mem i):=by
  rw [hii]
  unfold X1
  split
  ·rename_i q
   rw [yz,(hie.e5 i q).1]
  ·rfl
 have all:∀ j,j≠i->(g.mem j).base=true->(g.mem j).ep=(g.mem i).ep->(g.mem j).items=(X0 (g.mem i)).items:=by
  intro j hj h1 h2
  rw [hii]
  split
  ·rename_i q
   exact hie.e3 i q j hj h1 h2 (.inl (by rw [hl]; simp))
  ·rename_i q
   rcases hie.e2 i s2 s1 j h1 h2 with r | r
   ·exact r
   ·exact absurd r.1 q
 have up:∀ kk,vl (g.mem i).items kk<=vl (X0 (g.mem i)).items kk:=by
  intro kk; rw [hii]; split
  ·exact uG (hie.ok i) _ _
  ·exact Int.le_refl _
 have hf:(Rj (g.mem i) c now).key=c.key/\(Rj (g.mem i) c now).op=c.op/\(Rj (g.mem i) c now).val=c.val/\(Rj (g.mem i) c now).ep=(g.mem i).ep:=⟨rfl,rfl,rfl,rfl⟩
 have hp:∀ y,fJ g vr y->fJ (Nh g i k0 c now) vr y:=fun y ⟨l,d,q,q1,q2,q3,q4⟩=>by
  by_cases e:l=k0
  ·subst e
   rw [hk] at q
   cases q
   exact ⟨l,_,hset1,q1,q2,q3,q4⟩
  ·exact ⟨l,d,by rw [hset2 l e]; exact q,q1,q2,q3,q4⟩
 have hdn:=hit.dn
 have hst:=hit.st
 have hmp:∀ y∈(X0 (g.mem i)).items,fJ g vr y:=by
  intro y hy
  rw [hii] at hy
  split at hy
  ·rename_i q
   rcases dh hy with e | e
   ·rw [e]; exact pt i q
   ·exact pm i y e
  ·exact pm i y hy
 generalize hC:Rj (g.mem i) c now=c' at *
 generalize hG:Nh g i k0 c now=g' at *
 refine ⟨?_,?_,?_,?_,?_,?_,?_,?_,?_⟩
 ·intro l d hd hd0 j hb he
  rw [(b j).2.1] at hb; rw [(b j).1] at he
  rw [hmem]
  rcases hset l d hd with ⟨e1,e2⟩ | ⟨e1,e2⟩
  ·subst e2
   rw [hver,hf.1,r6]
   rw [hf.2.2.2] at he
   split
   ·rw [htobe]; exact Int.le_refl _
   ·rename_i e
    by_cases heq:(g.mem j).ep=(g.mem i).ep
    ·rw [all j e hb heq,htobe]; exact Int.le_refl _
    ·exact b1 j hb (by omega)
  ·have:=f1 l d e2 hd0 j hb he
   split
   ·rename_i e; subst e; exact Int.le_trans this (up _)
   ·exact this
 ·intro l d hd hd0 x hx hkd he
  rw [hfly] at hx
  rcases hset l d hd with ⟨e1,e2⟩ | ⟨e1,e2⟩
  ·subst e2
   rw [hf.2.2.2] at he
   rw [hver,hf.1,r6]
   exact b2 x hx hkd he
  ·exact f2 l d e2 hd0 x hx hkd he
 ·intro j hoj
  by_cases e:j=i
  ·subst e
   rw [hmem,if_pos rfl] at hoj
   exact absurd rfl hoj
  ·have hjm:g'.mem j=g.mem j:=by rw [hmem,if_neg e]
   rw [hjm] at hoj ⊢
   rcases p1 j hoj with ⟨w,w1,w2,w3⟩ | ⟨a1,a2,a3⟩
   ·left
    exact ⟨w,by rw [hjm]; exact w1,by rw [hjm,(b w).1]; exact w2,by rw [hjm,hfly]; exact w3⟩
   ·right
    refine ⟨fun l hb hlt=>?_,fun x hx=>a2 x (by rw [<- hfly]; exact hx),fun l d hd hd0 h2 hlt h5=>?_⟩
    ·rw [(b l).2.1] at hb; rw [(b l).1] at hlt
     have:=a1 l hb hlt
     rw [hmem]
     split
     ·rename_i e; subst e; exact Int.le_trans this (up _)
     ·exact this
    ·rcases hset l d hd with ⟨e1,e2⟩ | ⟨e1,e2⟩
     ·subst e2
      rw [hf.2.2.2] at hlt
      rw [hf.1,r6] at h5
      have:=a1 i s1 hlt
      rw [hver]
      rw [hf.2.1,r5] at h2
      unfold X1
      rw [if_neg (show ¬ (g.mem i).op=1 by omega),h5]
      exact this
     ·exact a3 l d e2 hd0 h2 hlt h5
 ·intro l1 l2' d e hd he h0 h1 h2 h5 hlt
  rcases hset l1 d hd with ⟨u1,u2⟩ | ⟨u1,u2⟩
  ·subst u1; subst u2
   rcases hset l2' e he with ⟨v1,v2⟩ | ⟨v1,v2⟩
   ·subst v1; omega
   ·rw [hf.1,r6] at h5
    rw [hf.2.1,r5] at h2
    obtain ⟨d1,d2,d3,d4,d5,d6,d7⟩:=hdn l2' e v2 h1
    have:=f1 l2' e v2 h1 i s1 (by omega)
    rw [hver]
    unfold X1
    rw [if_neg (show ¬ (g.mem i).op=1 by omega),h5]
    exact this
  ·rcases hset l2' e he with ⟨v1,v2⟩ | ⟨v1,v2⟩
   ·subst v1; subst v2
    rw [hf.1,r6] at h5
    obtain ⟨d1,d2,d3,d4,d5,d6,d7⟩:=hdn l1 d u2 h0
    rw [hver]
    by_cases hlt2:(g.mem i).ep<d.ep
    ·exact b3 l1 d u2 h0 h2 hlt2 h5
    ·exfalso
     obtain ⟨e',n,x1,x2,x3,x4,x5,x6⟩:=hst l1 (by omega)
     have hee:e'=(g.mem i).ep:=by omega
     subst hee
     rw [l2] at x6
     have:=(x6 rfl s2).2
     omega
   ·exact fr l1 l2' d e u2 v2 h0 h1 h2 h5 hlt
 ·intro l d hd hd0
  rcases hset l d hd with ⟨u1,u2⟩ | ⟨u1,u2⟩
  ·subst u1; subst u2
   rw [hver,hf.2.1,r5]
   unfold X1
   split
   ·rename_i q
    rw [r8]; exact ⟨Int.le_refl _,fun _=>rfl⟩
   ·rename_i q
    refine ⟨?_,fun h=>absurd h q⟩
    rw [yz,r3,t3]
    have hcnt:=hia.cnt i
    have hpos:=hia.pos i
    rcases lO (g.mem i).items (g.mem i).ti.1 with z | z
    ·rw [z]; show (0:Int)<=_; omega
    ·exact hown _ z.1
  ·exact vs l d u2 hd0
 ·intro j y hy
  rw [hmem] at hy
  split at hy
  ·exact hp y (hmp y hy)
  ·exact hp y (pm j y hy)
 ·intro x hx y hy
  rw [hfly] at hx
  exact hp y (px x hx y hy)
 ·intro j hoj
  rw [hmem] at hoj ⊢
  split
  ·rename_i e; rw [if_pos e] at hoj; exact absurd hoj (by decide:¬ (0:Int)=1)
  ·rename_i e; rw [if_neg e] at hoj; exact hp _ (pt j hoj)
 ·intro l d hd hd0 h2
  rcases hset l d hd with ⟨u1,u2⟩ | ⟨u1,u2⟩
  ·subst u1; subst u2
   have hop:(g.mem i).op≠1:=by rw [hf.2.1,r5] at h2; omega
   have hgot:d.got=(BJ (g.mem i).items (g.mem i).ti.1).2.1/\d.ver=(BJ (g.mem i).items (g.mem i).ti.1).2.2:=by
    rw [<- hC]
    unfold Rj vH
    rw [hf.2.1] at h2
    dsimp only
    rw [if_pos h2,if_neg hop]
    exact ⟨rfl,rfl⟩
   rcases lO (g.mem i).items (g.mem i).ti.1 with z | z
   ·left
    rw [hgot.1,hgot.2,z]
    exact ⟨rfl,rfl⟩
   ·right
    exact ⟨_,hp _ (pm i _ z.1),by rw [hf.1,r6]; exact z.2,hgot.2,hgot.1⟩
  ·exact (gt l d u2 hd0 h2).imp id fun ⟨y,q,r⟩=>⟨y,hp y q,r⟩
end

theorem IA.call {V nv g} {c:PC} (h:IA V nv g):IA V nv { g with calls:=g.calls++[c] }:=⟨h.1,h.2,h.3,h.4,h.5,h.6,h.7⟩
theorem IB.call {V g} {c:PC} (h:IB V g):IB V { g with calls:=g.calls++[c] }:=⟨h.mem,h.fly⟩
theorem IZ.call {V g vr} {c:PC} (h:IZ V g vr):IZ V { g with calls:=g.calls++[c] } vr:=⟨h.w1,h.w2,h.w3,h.z1,h.z2⟩
theorem IE.call {V g} {c:PC} (h:IE V g):IE V { g with calls:=g.calls++[c] }:=⟨h.ok,h.okx,h.e1,h.e2,h.e3,h.e4,h.e5⟩
structure uM (V:Int->List Int) (nv:Int) (g:PG) (vr:Nat->Int) (now:Int):Prop where
 a:IA V nv g
 b:IB V g
 t:IT V g vr now
 z:IZ V g vr
 e:IE V g
 f:IF V g vr
theorem uM.mstep {V nv g i m T vr now} (h:uM V nv g vr now) (hv:∀ e,1<=e->e<=nv->Cf V e∈V e) (hs:Cg V nv g i m T):uM V nv (g.set i m T) vr now :=
 ⟨h.a.step hv hs,h.b.step h.a hv hs,h.t.mstep h.a hs,h.z.mstep h.a hs,h.e.mstep h.a h.z hs,h.f.mstep h.a h.t h.z h.e hs⟩
theorem uM.drop {V nv g vr now f} (h:uM V nv g vr now) (hf:∀ x∈f,x∈g.fly):uM V nv { g with fly:=f } vr now :=
 ⟨h.a.drop,h.b.drop hf,h.t.drop hf,h.z.drop hf,h.e.drop hf,h.f.drop hf⟩
theorem uM.later {V nv g vr now n} (h:uM V nv g vr now) (hn:now<=n):uM V nv g vr n:=⟨h.a,h.b,h.t.later hn,h.z,h.e,h.f⟩
theorem uM.call {V nv g vr now} {c:PC} (h:uM V nv g vr now) (h1:c.done=-1) (h2:c.wen=now):uM V nv { g with calls:=g.calls++[c] } vr now :=
 ⟨h.a.call,h.b.call,h.t.call h1 h2,h.z.call,h.e.call,h.f.call h1⟩
theorem uM.start {V nv g vr now i c L a T} (h:uM V nv g vr now) (h1:c.done=-1) (h2:c.wen=now) (h3:(g.mem i).serves=true) (h4:(g.mem i).op=0) (h5:c.op=1\/c.op=2) (h6:(g.mem i).cnt<900) (hL:∀ k,k∈L↔k∈V (g.mem i).ep/\k≠i) (hA:a=(c.key,c.val,1000*(g.mem i).ep+((g.mem i).cnt+1))) (hp:c.op=1->BJ (An (g.mem i).items a) a.1=a) (hone:Aw [a]=true)
  (hT:∀ y∈T,(y.kind=5/\c.op=1/\y.items=[a]\/y.kind=7/\c.op=2/\y.items=[])/\y.ep=(g.mem i).ep/\y.num=(g.mem i).cnt+1/\y.frm=i):uM V nv (Bf g i c L a T) (vrN g i vr) now :=
 ⟨h.a.start h3 h5,h.b.start fun y hy=>(by have:=(hT y hy).1; omega),h.t.start h.a h.b h1 h2 h3 h4 h5 h6 hL hA fun y hy=>(by
  obtain ⟨q1,q2,q3,q4⟩:=hT y hy
  exact ⟨q1.imp id fun q=>⟨q.1,q.2.1⟩,q2,q3,q4⟩),h.z.start h.a h.t.out h3 h6 fun y hy=>(by obtain ⟨q1,q2,q3,q4⟩:=hT y hy; exact ⟨by omega,q2⟩),
  h.e.start h.a h.t h3 h4 h5 hL hA hp hone hT,h.f.start h.a h.b h.t h1 h3 h4 hL hA hT⟩
theorem uM.fin {V nv g vr now i} (h:uM V nv g vr now) (hn:0<=now) (ho:(g.mem i).op≠0) (hl:(g.mem i).left=[]) (hown:∀ y∈(g.mem i).items,y.2.2<=1000*(g.mem i).ep+(g.mem i).cnt):∃ (k:Nat) (c:PC),(g.mem i).call=(k:Int)/\g.calls[k]? = some c/\c.done<0/\uM V nv (Nh g i k c now) vr now:=by
 obtain ⟨k,c,q1,q2,q3,q4,q5⟩:=h.t.act i ho
 exact ⟨k,c,q1,q2,q4,h.a.fin,h.b.fin,h.t.fin h.a h.b ho hl q1 q2,h.z.fin,h.e.fin h.a ho hl,h.f.fin h.a h.t h.e hn ho hl q1 q2 hown⟩
def pm (m:AC):PM:=⟨m.2.1,m.2.2.1,m.2.2.2.1,m.2.2.2.2.1,m.2.2.2.2.2.1,m.2.2.2.2.2.2.1,m.2.2.2.2.2.2.2.1,m.2.2.2.2.2.2.2.2.1,m.2.2.2.2.2.2.2.2.2.1,m.2.2.2.2.2.2.2.2.2.2.1,m.2.2.2.2.2.2.2.2.2.2.2.1,m.2.2.2.2.2.2.2.2.2.2.2.2.1,m.2.2.2.2.2.2.2.2.2.2.2.2.2⟩
def px (x:BS):PX:=⟨x.1,x.2.1,x.2.2.1,x.2.2.2.1,x.2.2.2.2.1,x.2.2.2.2.2⟩
def pc (c:Hh):PC:=⟨c.1,c.2.1,c.2.2.1,c.2.2.2.1,c.2.2.2.2.1,c.2.2.2.2.2.1,c.2.2.2.2.2.2.1,c.2.2.2.2.2.2.2.1,c.2.2.2.2.2.2.2.2⟩
def ng:PM:=⟨1,false,false,false,false,[],[],0,0,0,0,(ByteArray.empty,ByteArray.empty,0),[]⟩
def pg (g:AQ):PG:=⟨fun i=>if 1<=i/\i<=6 then pm (Au g (i-1).toNat) else ng,g.2.2.1.map px,g.2.2.2.map pc⟩
def vw (views:List (List Int)) (e:Int):List Int:=views.getD (e-1).toNat []
theorem xq (views:List (List Int)) (e:Int):Cf (vw views) e=Ri views e:=rfl
theorem ACE {views:List (List Int)} (hv:S7 views):∀ e,1<=e->e<=(views.length:Int)->Cf (vw views) e∈vw views e:=fun e h1 h2=>by
 have:=tx hv h1 h2 rfl
 rw [List.contains_iff_mem] at this
 exact this
theorem TB {g:AQ} {i:Int} (h:1<=i/\i<=6):(pg g).mem i=pm (Au g (i-1).toNat):=if_pos h
theorem PG.same {a b:PG} (h1:∀ i,a.mem i=b.mem i) (h2:a.fly=b.fly) (h3:a.calls=b.calls):a=b:=by
 cases a; cases b
 simp only at h1 h2 h3
 rw [h2,h3,show _=_ from funext h1]
theorem nh {g:AQ} {n:AC} {told:List BS} {said:List C9} {at_:Int} {i:Int} (h6:g.2.1.length=6) (hi:1<=i/\i<=6) (hn:n.1=i) (j:Int):(pg (BL g n told said at_)).mem j=if j=i then pm n else (pg g).mem j:=by
 by_cases hj:1<=j/\j<=6
 ·rw [TB hj,tu h6 (show (j-1).toNat<6 by omega) (show n.1=(((i-1).toNat:Nat):Int)+1 by omega) (show (i-1).toNat<6 by omega)]
  by_cases e:j=i
  ·rw [if_pos (by omega),if_pos e]
  ·rw [if_neg (by omega),if_neg e,TB hj]
 ·rw [if_neg (by omega)]
  show (if _ then _ else _)=(if _ then _ else _)
  rw [if_neg hj,if_neg hj]
theorem qm {g:AQ} {n:AC} {told:List BS} {at_:Int} {i:Int} (h6:g.2.1.length=6) (hi:1<=i/\i<=6) (hn:n.1=i):pg (BL g n told [] at_)=(pg g).set i (pm n) (told.map px) :=
 PG.same (nh h6 hi hn) (by show (g.2.2.1++told).map px=g.2.2.1.map px++told.map px; rw [List.map_append]) rfl
theorem ACF {cs:List Hh} {k:Nat} {c:PC} (h:(cs.map pc)[k]? = some c):k<cs.length/\c=pc (cs.getD k Ez):=by
 rw [List.getElem?_map] at h
 cases q:cs[k]? with
 | none=>rw [q] at h; cases h
 | some d =>
  rw [q] at h
  cases h
  obtain ⟨hk,e⟩:=List.getElem?_eq_some_iff.1 q
  exact ⟨hk,by rw [AT hk,e]⟩
theorem ADL {at_:Int} {m:AC} {c:Hh} {s:C9} (hs:s=(m.2.2.2.2.2.2.2.2.2.2.1,m.2.1,m.2.2.2.2.2.2.2.2.2.2.2.1,vH (pm m))):pc (S_ at_ s c)=Rj (pm m) (pc c) at_:=by
 subst hs
 have:(if (c.1==2)=true then (vH (pm m)).2.1 else c.2.2.2.2.2.2.2.2)=if c.1=2 then (vH (pm m)).2.1 else c.2.2.2.2.2.2.2.2:=by
  by_cases h:c.1=2
  ·rw [if_pos h,if_pos (by simpa using h)]
  ·rw [if_neg h,if_neg (by simpa using h)]
 unfold S_ pc Rj
 dsimp only
 rw [this]
 rfl
theorem uI (m:AC):(Bv m).1=[(m.2.2.2.2.2.2.2.2.2.2.1,m.2.1,m.2.2.2.2.2.2.2.2.2.2.2.1,vH (pm m))]/\pm (Bv m).2=X0 (pm m)/\(Bv m).2.1=m.1:=by
 unfold Bv
 by_cases h:m.2.2.2.2.2.2.2.2.2.1=1
 ·rw [if_pos (by simpa using h)]
  have h1:vH (pm m)=m.2.2.2.2.2.2.2.2.2.2.2.2.1:=if_pos h
  have h2:(X0 (pm m))=pm (Ol m (An m.2.2.2.2.2.2.2.1 m.2.2.2.2.2.2.2.2.2.2.2.2.1)):=by
   unfold X0
   rw [if_pos (show (pm m).op=1 from h)]
   rfl
  rw [h1,h2]
  exact ⟨rfl,rfl,rfl⟩
 ·rw [if_neg (by simpa using h)]
  have h1:vH (pm m)=BJ m.2.2.2.2.2.2.2.1 m.2.2.2.2.2.2.2.2.2.2.2.2.1.1:=if_neg h
  have h2:(X0 (pm m))=pm (Ol m m.2.2.2.2.2.2.2.1):=by
   unfold X0
   rw [if_neg (show ¬ (pm m).op=1 from h)]
   rfl
  rw [h1,h2]
  exact ⟨rfl,rfl,rfl⟩
theorem AD2 {g:AQ} {m:AC} {at_:Int} {i:Int} {k:Nat} {c:PC} (h6:g.2.1.length=6) (hi:1<=i/\i<=6) (hm:m.1=i) (hp:(pg g).mem i=pm m) (hc:(pm m).call=(k:Int)) (hk:(pg g).calls[k]? = some c) (hd:c.done<0) :
  pg (BL g (Bv m).2 [] (Bv m).1 at_)=Nh (pg g) i k c at_:=by
 obtain ⟨f1,f2,f3⟩:=uI m
 obtain ⟨k1,k2⟩:=ACF hk
 refine PG.same (fun j=>?_) ?_ ?_
 ·rw [nh h6 hi (by rw [f3,hm]),lM,hp,f2]
 ·rw [lN]
  show (g.2.2.1++[]).map px=_
  rw [List.append_nil]; rfl
 ·show (((Bv m).1).foldl (JA at_) g.2.2.2).map pc=(g.2.2.2.map pc).set k (Rj ((pg g).mem i) c at_)
  have hc':m.2.2.2.2.2.2.2.2.2.2.1=(k:Int):=hc
  rw [f1,List.foldl_cons,List.foldl_nil,hp,k2,<- ADL rfl,<- List.map_set]
  congr 1
  unfold JA
  dsimp only
  rw [hc',Int.toNat_natCast,if_neg]
  rw [k2] at hd
  change (g.2.2.2.getD k Ez).2.2.2.2.1<0 at hd
  rw [Bool.or_eq_true,decide_eq_true_eq,decide_eq_true_eq]
  omega
theorem iP {view:List Int} {id:Int} (hv:WOk view) (k:Int):k∈Dh view id↔k∈view/\k≠id:=by
 rw [t8 hv]
 unfold B2
 rw [List.mem_filter]
 simp
theorem ADM {α:Type} (l:List α):(((l.length:Int))==0)=l.isEmpty:=by
 cases l with
 | nil=>rfl
 | cons a l=>rw [List.isEmpty_cons,beq_eq_false_iff_ne,List.length_cons]; omega
inductive zA (V:Int->List Int) (nv:Int) (g:PG) (m:AC):AC×List BS×List C9->Prop
 | none:zA V nv g m (m,[],[])
 | step (n:AC) (T:List BS) (h:Cg V nv g m.1 (pm n) (T.map px)):zA V nv g m (n,T,[])
 | done (n:AC) (h:Cg V nv g m.1 (pm n) []) (h1:n.1=m.1) (h2:n.2.2.2.2.2.2.2.2.2.1≠0) (h3:n.2.2.2.2.2.2.2.2.2.2.2.2.2=[]) (h4:n.2.2.2.2.2.2.2.1=m.2.2.2.2.2.2.2.1/\n.2.1=m.2.1/\n.2.2.2.2.2.2.2.2.1=m.2.2.2.2.2.2.2.2.1/\n.2.2.2.1=m.2.2.2.1/\n.2.2.2.2.1=m.2.2.2.2.1):zA V nv g m ((Bv n).2,[],(Bv n).1)
theorem ACG {views:List (List Int)} {m:AC} {x:BS} {g:PG} (hv:S7 views) (hm:Jx m) (h:V1 views m) (hx:V2 views x) (hxo:XOk x) (hlen:m.2.1<=(views.length:Int)) (ht:x.2.2.1=m.1) (he:x.2.2.2.1=m.2.1) (hp:g.mem m.1=pm m) (hin:px x∈g.fly) :
  zA (vw views) (views.length:Int) g m (de m (views.getD (m.2.1-1).toNat []) x):=by
 have hw:=hv.wok (i:=(m.2.1-1).toNat) (by have:=hm.ep; omega)
 unfold de
 by_cases k2:x.1=2
 ·rw [if_pos k2]
  split
  ·rename_i hc
   simp only [Bool.and_eq_true,Bool.not_eq_true'] at hc
   refine .step _ _ ?_
   have:=Cg.stat (V:=vw views) (nv:=(views.length:Int)) (g:=g) (i:=m.1) (px x) hin k2 (by rw [hp]; exact he) (by rw [hp]; exact hc.1) (by rw [hp]; exact hc.2) (Dh (views.getD (m.2.1-1).toNat []) m.1) (fun k=>by
     rw [iP hw]
     show _↔k∈views.getD (x.2.2.2.1-1).toNat []/\_
     rw [he])
    (((B2 (views.getD (m.2.1-1).toNat []) m.1).map (fun v=>((3:Int),m.1,v,m.2.1,(0:Int),x.2.2.2.2.2))).map px) (fun y hy=>by
     obtain ⟨z,hz,rfl⟩:=List.mem_map.1 hy
     obtain ⟨v,_,rfl⟩:=List.mem_map.1 hz
     exact ⟨rfl,he.symm,rfl,rfl⟩)
   rw [hp] at this
   unfold TH
   rw [ADM]
   exact this
  ·exact .none
 rw [if_neg k2]
 by_cases k3:x.1=3
 ·rw [if_pos k3]
  split
  ·exact .none
  ·rename_i hc
   split
   ·exact .none
   ·rename_i hc2
    split
    ·rename_i hb
     refine .step _ _ ?_
     have:=Cg.again (V:=vw views) (nv:=(views.length:Int)) (g:=g) (i:=m.1) (px x) hin k3 (by rw [hp]; exact he.symm) (by rw [hp]; exact hb)
     rw [hp] at this
     exact this
    ·rename_i hb
     have hb':m.2.2.2.1=false:=by simpa using hb
     have hf':m.2.2.1=false:=by
      rw [hb'] at hc2
      simpa using hc2
     have hcc:(views.getD (m.2.1-1).toNat []).contains m.1=true/\(views.getD (m.2.1-1).toNat []).getD 0 0≠m.1:=by
      cases q1:(views.getD (m.2.1-1).toNat []).contains m.1 with
      | false=>rw [q1] at hc; exact absurd rfl hc
      | true =>
       rw [q1] at hc
       exact ⟨rfl,fun e=>hc (by rw [e]; simp)⟩
     refine .step _ _ ?_
     have:=Cg.inst (V:=vw views) (nv:=(views.length:Int)) (g:=g) (i:=m.1) (px x) hin k3 (.inr (by rw [hp]; exact ⟨he.symm,hb',hf'⟩))
      (by show _∈views.getD (x.2.2.2.1-1).toNat []; rw [he]; exact List.contains_iff_mem.1 hcc.1) (by rw [xq]; show Ri views x.2.2.2.1≠_; rw [he]; exact hcc.2) (by show x.2.2.2.1<=_; omega)
     rw [hp] at this
     rw [<- he]
     exact this
 rw [if_neg k3]
 by_cases k4:x.1=4
 ·rw [if_pos k4]
  split
  ·rename_i hl
   refine .step _ _ ?_
   have:=Cg.told (V:=vw views) (nv:=(views.length:Int)) (g:=g) (i:=m.1) (px x) hin k4 (by rw [hp]; exact he.symm) (by rw [hp]; exact hl)
   rw [hp] at this
   rw [ADM]
   exact this
  ·exact .none
 rw [if_neg k4]
 by_cases k5:x.1=5
 ·rw [if_pos k5]
  split
  ·rename_i hb
   refine .step _ _ ?_
   obtain ⟨s1,s2⟩:=hx.store k5
   have hlen:x.2.2.2.2.2.length=1:=by
    have:=hxo.shape
    rw [if_neg (by omega),if_pos k5] at this
    exact this
   have:=Cg.store (V:=vw views) (nv:=(views.length:Int)) (g:=g) (i:=m.1) (px x) hin k5 (by rw [hp]; exact he.symm) (by rw [hp]; exact hb) (by rw [xq,<- ht]; exact s1) (x.2.2.2.2.2.getD 0 (ByteArray.empty,ByteArray.empty,(0:Int))) (by
    show x.2.2.2.2.2=_
    match x.2.2.2.2.2,hlen with
    | [a],_=>rfl)
   rw [hp] at this
   exact this
  ·exact .none
 rw [if_neg k5]
 by_cases k7:x.1=7
 ·rw [if_pos k7]
  split
  ·rename_i hb
   refine .step _ _ ?_
   have:=Cg.sure (V:=vw views) (nv:=(views.length:Int)) (g:=g) (i:=m.1) (px x) hin k7 (by rw [hp]; exact he.symm) (by rw [hp]; exact hb)
   rw [hp] at this
   exact this
  ·exact .none
 rw [if_neg k7]
 by_cases hc:(x.1=6\/x.1=8)/\m.2.2.2.2.2.2.2.2.2.1=(if x.1=8 then 2 else 1)/\m.2.2.2.2.2.2.2.2.2.2.2.1=x.2.2.2.2.1
 ·rw [if_pos hc]
  have hs:Cg (vw views) (views.length:Int) g m.1 (pm (vg m x.2.1)) []:=by
   have:=Cg.less (V:=vw views) (nv:=(views.length:Int)) (g:=g) (i:=m.1) (px x) hin (by
    rw [hp]
    show (m.2.2.2.2.2.2.2.2.2.1=1/\x.1=6)\/(m.2.2.2.2.2.2.2.2.2.1=2/\x.1=8)
    have h2:=hc.2.1
    rcases hc.1 with q | q
    ·rw [if_neg (by omega)] at h2; exact .inl ⟨h2,q⟩
    ·rw [if_pos q] at h2; exact .inr ⟨h2,q⟩) (by rw [hp]; exact he.symm) (by rw [hp]; exact hc.2.2)
   rw [hp] at this
   exact this
  have h0:m.2.2.2.2.2.2.2.2.2.1≠0:=by have:=hc.2.1; split at this<;>omega
  unfold Gq
  split
  ·rename_i hl
   rw [ADM,List.isEmpty_iff] at hl
   exact .done _ hs rfl h0 hl ⟨rfl,rfl,rfl,rfl,rfl⟩
  ·exact .step _ _ hs
 ·rw [if_neg hc]
  exact .none
theorem AA9 {views:List (List Int)} {m:AC} {x:BS} {g:PG} (hv:S7 views) (hm:Jx m) (h:V1 views m) (hx:V2 views x) (hxo:XOk x) (hp:g.mem m.1=pm m) (hin:px x∈g.fly) :
  zA (vw views) (views.length:Int) g m (Di m views x):=by
 unfold Di
 split
 ·rename_i hc
  simp only [Bool.and_eq_true,decide_eq_true_eq,beq_iff_eq] at hc
  obtain ⟨⟨⟨hmo,h1⟩,h2⟩,h3⟩:=hc
  split
  ·rename_i he
   exact ACG hv hm h hx hxo (by omega) h1 he hp hin
  ·rename_i hne
   split
   ·rename_i hs
    simp only [Bool.and_eq_true,beq_iff_eq] at hs
    refine .step _ _ ?_
    have:=Cg.seal (V:=vw views) (nv:=(views.length:Int)) (g:=g) (i:=m.1) (px x) hin (by rw [hp]; exact hs.1.1.2) (by rw [hp]; exact hs.1.2) h3
    rw [hp] at this
    exact this
   ·split
    ·rename_i hs
     simp only [Bool.and_eq_true,beq_iff_eq,bne_iff_ne] at hs
     refine .step _ _ ?_
     have:=Cg.inst (V:=vw views) (nv:=(views.length:Int)) (g:=g) (i:=m.1) (px x) hin hs.1.1 (.inl (by rw [hp]; show m.2.1<x.2.2.2.1; omega)) (List.contains_iff_mem.1 hs.1.2) hs.2 h3
     rw [hp] at this
     exact this
    ·exact .none
 ·exact .none
end Go.Proofs.YtokiohnjegbnpaaGreat.Core
