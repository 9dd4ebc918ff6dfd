/- Texts of the proof, packed: part 5. -/
import Derived.Test.YtokiohnjegbnpaaGreatP3
set_option linter.unusedVariables false
set_option linter.unusedSimpArgs false
namespace Go.Proofs.YtokiohnjegbnpaaGreat.Core
open Go
abbrev AAg:Type:=Int×Int×Int×(ByteArray×ByteArray×Int)×List Int
abbrev AE:Type:=Int×Int×Bool×Bool×Bool×Bool×List Int×List (ByteArray×ByteArray×Int)×Int×AAg
def GT (v:List Int) (i:Nat):Nat->Bool
 | 0=>true
 | k+1=>(decide (1<=v.getD i 0)&&decide (v.getD i 0<=6))&&(decide (i=0)||decide (v.getD (i-1) 0<v.getD i 0))&&GT v (i+1) k
theorem Xh (x:List Int) (h:x.length<=maxLen):Dn x=some (GT x 0 x.length):=v_ (by
 have hm:x.length<=9223372036854775807:=h
 unfold gX
 have:=E0 (n:=x.length) (P:=fun i=>Hy x (i:Int)=some (GT x i (x.length-i))) (Xa (by
  unfold PO
  rw [if_neg (by simp),Nat.sub_self]
  rfl)) (fun i hi ih=>Xa (by
  unfold PO
  have e:x.length-i=(x.length-(i+1))+1:=by omega
  simp only [show ((i:Int)<(x.length:Int)) from by omega,decide_true,if_true,show (0:Int)<=(i:Int) from by omega,Ai,AM (show i<9223372036854775807 by omega),ih,A_,Y]
  rw [e,GT]
  generalize (decide (1<=x.getD i 0)&&decide (x.getD i 0<=6))=a
  cases a
  ·simp
  by_cases h0:0<i
  ·rw [fA (by omega) h0]
   simp only [Ai,show ((0:Int)<=((i-1:Nat):Int)) from by omega,show (((i-1:Nat):Int)<(x.length:Int)) from by omega,if_true]
   rcases Int.lt_or_le (x.getD (i-1) 0) (x.getD i 0) with hb | hb
   ·have d1:decide (x.getD (i-1) 0>=x.getD i 0)=false:=decide_eq_false (by omega)
    have d2:decide (x.getD (i-1) 0<x.getD i 0)=true:=decide_eq_true hb
    simp only [d1,d2]
    simp [h0,show i≠0 by omega]
   ·have d1:decide (x.getD (i-1) 0>=x.getD i 0)=true:=decide_eq_true (by omega)
    have d2:decide (x.getD (i-1) 0<x.getD i 0)=false:=decide_eq_false (by omega)
    simp only [d1,d2]
    simp [h0,show i≠0 by omega]
  ·have:i=0:=by omega
   subst this
   simp)) 0 (by omega)
 simpa using this)
theorem Oj (x:List Int) (h:x.length<=maxLen):IQ x 1 6=some (GT x 0 x.length):=iZ (by
 have hm:x.length<=9223372036854775807:=h
 unfold Te
 have:=E0 (n:=x.length) (P:=fun i=>EL x 1 6 x (x.length:Int) (i:Int)=some (GT x i (x.length-i))) (OX (by
  unfold I_
  rw [if_neg (by simp),Nat.sub_self]
  rfl)) (fun i hi ih=>OX (by
  unfold I_
  have e:x.length-i=(x.length-(i+1))+1:=by omega
  simp only [show ((i:Int)<(x.length:Int)) from by omega,decide_true,if_true,show (0:Int)<=(i:Int) from by omega,Ai,AM (show i<9223372036854775807 by omega),ih,Aw,Y]
  rw [e,GT]
  generalize (decide (1<=x.getD i 0)&&decide (x.getD i 0<=6))=a
  cases a
  ·simp
  by_cases h0:0<i
  ·rw [fA (by omega) h0]
   simp only [Ai,show ((0:Int)<=((i-1:Nat):Int)) from by omega,show (((i-1:Nat):Int)<(x.length:Int)) from by omega,if_true]
   rcases Int.lt_or_le (x.getD (i-1) 0) (x.getD i 0) with hb | hb
   ·have d1:decide (x.getD i 0<=x.getD (i-1) 0)=false:=decide_eq_false (by omega)
    have d2:decide (x.getD (i-1) 0<x.getD i 0)=true:=decide_eq_true hb
    simp only [d1,d2]
    simp [h0,show i≠0 by omega]
   ·have d1:decide (x.getD i 0<=x.getD (i-1) 0)=true:=decide_eq_true (by omega)
    have d2:decide (x.getD (i-1) 0<x.getD i 0)=false:=decide_eq_false (by omega)
    simp only [d1,d2]
    simp [h0,show i≠0 by omega]
  ·have:i=0:=by omega
   subst this
   simp)) 0 (by omega)
 simpa using this)
def K8 (t:AAg):Bool:=(t.1==0)&&(t.2.1==0)&&(t.2.2.1==0)&&OI (.pair .str (.pair .str (.int .i64))) t.2.2.2.1 (O,O,(0:Int))&&((t.2.2.2.2.length:Int)==0)
def GU (t:AAg) (serves:Bool):Bool:=(t.1==1||t.1==2)&&serves&&(decide (0<=t.2.1)&&decide (t.2.1<=1000))&&(decide (1<=t.2.2.1)&&decide (t.2.2.1<=900))
def Xi (x:AE):Bool :=
 (decide (1<=x.1)&&decide (x.1<=6))&&(decide (1<=x.2.1)&&decide (x.2.1<=9))&&(!x.2.2.2.2.2.1||(x.2.2.2.1&&x.2.2.2.2.1&&!decide ((x.2.2.2.2.2.2.1.length:Int)>0)))&&(!x.2.2.1||(!x.2.2.2.1&&!x.2.2.2.2.1)) &&
  GT x.2.2.2.2.2.2.1 0 x.2.2.2.2.2.2.1.length&&GT x.2.2.2.2.2.2.2.2.2.2.2.2.2 0 x.2.2.2.2.2.2.2.2.2.2.2.2.2.length&&CS x.2.2.2.2.2.2.2.1 0 x.2.2.2.2.2.2.2.1.length&&(decide (0<=x.2.2.2.2.2.2.2.2.1)&&decide (x.2.2.2.2.2.2.2.2.1<=900)) &&
  (K8 x.2.2.2.2.2.2.2.2.2||GU x.2.2.2.2.2.2.2.2.2 x.2.2.2.2.2.1)
theorem fp (t:AAg):Oz t=some (K8 t):=oQ (by
 unfold Xb K8
 generalize (t.1==0)=a
 generalize (t.2.1==0)=b
 generalize (t.2.2.1==0)=c
 generalize OI (.pair .str (.pair .str (.int .i64))) t.2.2.2.1 (O,O,(0:Int))=d
 cases a<;>cases b<;>cases c<;>cases d<;>simp)
theorem i4 (x:AE) (h1:x.2.2.2.2.2.2.1.length<=maxLen) (h2:x.2.2.2.2.2.2.2.1.length<=maxLen) (h3:x.2.2.2.2.2.2.2.2.2.2.2.2.2.length<=maxLen):Gk x=some (Xi x):=qw (by
 have w0:∀ b,EV b x=some (K8 x.2.2.2.2.2.2.2.2.2||GU x.2.2.2.2.2.2.2.2.2 x.2.2.2.2.2.1):=fun b=>iu (by
  unfold To GU
  simp only [A_,fp,Y]
  generalize K8 x.2.2.2.2.2.2.2.2.2=a
  generalize (x.2.2.2.2.2.2.2.2.2.1==1)=b
  generalize (x.2.2.2.2.2.2.2.2.2.1==2)=c
  generalize x.2.2.2.2.2.1=d
  generalize (decide (0<=x.2.2.2.2.2.2.2.2.2.2.1)&&decide (x.2.2.2.2.2.2.2.2.2.2.1<=1000))=e
  generalize (decide (1<=x.2.2.2.2.2.2.2.2.2.2.2.1)&&decide (x.2.2.2.2.2.2.2.2.2.2.2.1<=900))=f
  cases a<;>cases b<;>cases c<;>cases d<;>cases e<;>simp)
 unfold bI Xi
 simp only [A_,Xh _ h1,Xh _ h3,Ja _ h2,Y,w0]
 generalize (decide (1<=x.1)&&decide (x.1<=6))=a
 generalize (decide (1<=x.2.1)&&decide (x.2.1<=9))=b
 generalize decide ((x.2.2.2.2.2.2.1.length:Int)>0)=c
 generalize GT x.2.2.2.2.2.2.1 0 x.2.2.2.2.2.2.1.length=d
 generalize GT x.2.2.2.2.2.2.2.2.2.2.2.2.2 0 x.2.2.2.2.2.2.2.2.2.2.2.2.2.length=e
 generalize CS x.2.2.2.2.2.2.2.1 0 x.2.2.2.2.2.2.2.1.length=f
 generalize (decide (0<=x.2.2.2.2.2.2.2.2.1)&&decide (x.2.2.2.2.2.2.2.2.1<=900))=g
 generalize (K8 x.2.2.2.2.2.2.2.2.2||GU x.2.2.2.2.2.2.2.2.2 x.2.2.2.2.2.1)=t
 generalize x.2.2.2.2.2.1=s
 generalize x.2.2.2.2.1=l
 generalize x.2.2.2.1=m
 generalize x.2.2.1=n
 cases a
 ·simp
 cases b
 ·simp
 cases d<;>cases e<;>cases f<;>cases g<;>cases s<;>cases n<;>cases m<;>cases l<;>cases c<;>simp)
theorem Xj (x:AE) (h3:x.2.2.2.2.2.2.2.2.2.2.2.2.2.length<=maxLen):De x=some (GT x.2.2.2.2.2.2.2.2.2.2.2.2.2 0 x.2.2.2.2.2.2.2.2.2.2.2.2.2.length&&(K8 x.2.2.2.2.2.2.2.2.2||GU x.2.2.2.2.2.2.2.2.2 x.2.2.2.2.2.1),x):=dZ (by
 unfold P6 K8 GU
 simp only [Aw,Oj _ h3,Y]
 by_cases hk:x.2.2.2.2.2.2.2.2.2.1=0
 ·rw [if_pos (by simp [hk])]
  have k1:(x.2.2.2.2.2.2.2.2.2.1==1)=false:=by simp [hk]
  have k2:(x.2.2.2.2.2.2.2.2.2.1==2)=false:=by simp [hk]
  have k0:(x.2.2.2.2.2.2.2.2.2.1==0)=true:=by simp [hk]
  rw [k1,k2,k0]
  have hl:((x.2.2.2.2.2.2.2.2.2.2.2.2.2.length:Int)==0)=true->GT x.2.2.2.2.2.2.2.2.2.2.2.2.2 0 x.2.2.2.2.2.2.2.2.2.2.2.2.2.length=true:=by
   intro h
   have:x.2.2.2.2.2.2.2.2.2.2.2.2.2.length=0:=by simpa using h
   rw [this]
   rfl
  generalize ((x.2.2.2.2.2.2.2.2.2.2.2.2.2.length:Int)==0)=l at hl
  generalize GT x.2.2.2.2.2.2.2.2.2.2.2.2.2 0 x.2.2.2.2.2.2.2.2.2.2.2.2.2.length=u at hl
  generalize (x.2.2.2.2.2.2.2.2.2.2.1==0)=b
  generalize (x.2.2.2.2.2.2.2.2.2.2.2.1==0)=c
  generalize OI (.pair .str (.pair .str (.int .i64))) x.2.2.2.2.2.2.2.2.2.2.2.2.1 (O,O,(0:Int))=d
  cases b<;>cases c<;>cases d<;>cases l<;>cases u<;>simp at hl ⊢
 ·rw [if_neg (by simp [hk])]
  have k0:(x.2.2.2.2.2.2.2.2.2.1==0)=false:=by simp [hk]
  have k12:(decide (1<=x.2.2.2.2.2.2.2.2.2.1)&&decide (x.2.2.2.2.2.2.2.2.2.1<=2))=(x.2.2.2.2.2.2.2.2.2.1==1||x.2.2.2.2.2.2.2.2.2.1==2):=by
   rw [Bool.eq_iff_iff]
   simp
   omega
  rw [k12,k0]
  generalize (x.2.2.2.2.2.2.2.2.2.1==1||x.2.2.2.2.2.2.2.2.2.1==2)=k
  generalize GT x.2.2.2.2.2.2.2.2.2.2.2.2.2 0 x.2.2.2.2.2.2.2.2.2.2.2.2.2.length=u
  generalize (decide (0<=x.2.2.2.2.2.2.2.2.2.2.1)&&decide (x.2.2.2.2.2.2.2.2.2.2.1<=1000))=e
  generalize (decide (1<=x.2.2.2.2.2.2.2.2.2.2.2.1)&&decide (x.2.2.2.2.2.2.2.2.2.2.2.1<=900))=f
  cases k<;>cases u<;>cases e<;>cases f<;>rcases Bool.eq_false_or_eq_true x.2.2.2.2.2.1 with hs | hs<;>simp [hs])
theorem i5 (x:AE) (h1:x.2.2.2.2.2.2.1.length<=maxLen) (h2:x.2.2.2.2.2.2.2.1.length<=maxLen) (h3:x.2.2.2.2.2.2.2.2.2.2.2.2.2.length<=maxLen):Gj x=some (Xi x):=p8 (by
 have w0:∀ b,MG b x=some ((!x.2.2.2.2.2.1||(x.2.2.2.1&&x.2.2.2.2.1&&!decide ((x.2.2.2.2.2.2.1.length:Int)>0)))&&(!x.2.2.1||(!x.2.2.2.1&&!x.2.2.2.2.1))&&(GT x.2.2.2.2.2.2.2.2.2.2.2.2.2 0 x.2.2.2.2.2.2.2.2.2.2.2.2.2.length&&(K8 x.2.2.2.2.2.2.2.2.2||GU x.2.2.2.2.2.2.2.2.2 x.2.2.2.2.2.1))):=fun b=>iJ (by
  unfold TM
  simp only [Xj x h3,Y]
  generalize (GT x.2.2.2.2.2.2.2.2.2.2.2.2.2 0 x.2.2.2.2.2.2.2.2.2.2.2.2.2.length&&(K8 x.2.2.2.2.2.2.2.2.2||GU x.2.2.2.2.2.2.2.2.2 x.2.2.2.2.2.1))=t
  generalize decide ((x.2.2.2.2.2.2.1.length:Int)>0)=c
  generalize x.2.2.2.2.2.1=s
  generalize x.2.2.2.2.1=l
  generalize x.2.2.2.1=m
  generalize x.2.2.1=n
  cases s<;>cases n<;>cases m<;>cases l<;>cases c<;>simp)
 unfold Z7 Xi
 simp only [Aw,Hz,Oj _ h1,OC _ h2 QI,Y,w0]
 generalize (decide (1<=x.1)&&decide (x.1<=6))=a
 generalize (decide (1<=x.2.1)&&decide (x.2.1<=9))=b
 generalize GT x.2.2.2.2.2.2.1 0 x.2.2.2.2.2.2.1.length=d
 generalize GT x.2.2.2.2.2.2.2.2.2.2.2.2.2 0 x.2.2.2.2.2.2.2.2.2.2.2.2.2.length=e
 generalize CS x.2.2.2.2.2.2.2.1 0 x.2.2.2.2.2.2.2.1.length=f
 generalize (decide (0<=x.2.2.2.2.2.2.2.2.1)&&decide (x.2.2.2.2.2.2.2.2.1<=900))=g
 generalize (K8 x.2.2.2.2.2.2.2.2.2||GU x.2.2.2.2.2.2.2.2.2 x.2.2.2.2.2.1)=t
 generalize (!x.2.2.2.2.2.1||(x.2.2.2.1&&x.2.2.2.2.1&&!decide ((x.2.2.2.2.2.2.1.length:Int)>0)))=p
 generalize (!x.2.2.1||(!x.2.2.2.1&&!x.2.2.2.2.1))=q
 cases a
 ·simp
 cases b
 ·simp
 cases d<;>cases e<;>cases f<;>cases g<;>cases p<;>cases q<;>simp)

abbrev Bc:Type:=Int×Int×Int×Int×Int×List (ByteArray×ByteArray×Int)
def Xk (x:Bc):Bool :=
 (decide (1<=x.1)&&decide (x.1<=8))&&(decide (1<=x.2.1)&&decide (x.2.1<=6))&&(decide (1<=x.2.2.1)&&decide (x.2.2.1<=6))&&(decide (1<=x.2.2.2.1)&&decide (x.2.2.2.1<=9))&&(decide (0<=x.2.2.2.2.1)&&decide (x.2.2.2.2.1<=1000000000))&&CS x.2.2.2.2.2 0 x.2.2.2.2.2.length &&
  (if x.1=2\/x.1=3 then true else if x.1=5 then ((x.2.2.2.2.2.length:Int)==1) else ((x.2.2.2.2.2.length:Int)==0))
theorem rJ (x:Bc) (h:x.2.2.2.2.2.length<=maxLen):YQ x=some (Xk x):=yR (by
 have w1:∀ a b,Ln a b x=some (if b=true then true else if a=5 then ((x.2.2.2.2.2.length:Int)==1) else ((x.2.2.2.2.2.length:Int)==0)):=fun a b=>rA (by
  unfold bJ
  by_cases h1:b=true<;>by_cases h2:a=5<;>simp [h1,h2])
 have w0:∀ b,Q4 b x=some (if x.1=2\/x.1=3 then true else if x.1=5 then ((x.2.2.2.2.2.length:Int)==1) else ((x.2.2.2.2.2.length:Int)==0)):=fun b=>rB (by
  unfold bK
  by_cases h1:x.1=2<;>by_cases h2:x.1=3<;>simp [h1,h2,w1])
 unfold ln Xk
 simp only [A_,Ja _ h,Y,w0]
 generalize (decide (1<=x.1)&&decide (x.1<=8))=a
 generalize (decide (1<=x.2.1)&&decide (x.2.1<=6))=b
 generalize (decide (1<=x.2.2.1)&&decide (x.2.2.1<=6))=c
 generalize (decide (1<=x.2.2.2.1)&&decide (x.2.2.2.1<=9))=d
 generalize (decide (0<=x.2.2.2.2.1)&&decide (x.2.2.2.2.1<=1000000000))=e
 generalize CS x.2.2.2.2.2 0 x.2.2.2.2.2.length=f
 cases a<;>cases b<;>cases c<;>cases d<;>cases e<;>cases f<;>simp)
theorem rK (x:Bc) (h:x.2.2.2.2.2.length<=maxLen):YP x=some (Xk x):=yQ (by
 have w1:∀ a b,Ll a b x=some (if b=true then true else if a=5 then ((x.2.2.2.2.2.length:Int)==1) else ((x.2.2.2.2.2.length:Int)==0)):=fun a b=>qq (by
  unfold bF
  by_cases h1:b=true<;>by_cases h2:a=5<;>simp [h1,h2])
 have w0:∀ b,Q3 b x=some (if x.1=2\/x.1=3 then true else if x.1=5 then ((x.2.2.2.2.2.length:Int)==1) else ((x.2.2.2.2.2.length:Int)==0)):=fun b=>qr (by
  unfold bG
  by_cases h1:x.1=2<;>by_cases h2:x.1=3<;>simp [h1,h2,w1])
 unfold lW Xk
 simp only [Aw,Hz,OC _ h QI,Y,w0]
 generalize (decide (1<=x.1)&&decide (x.1<=8))=a
 generalize (decide (1<=x.2.1)&&decide (x.2.1<=6))=b
 generalize (decide (1<=x.2.2.1)&&decide (x.2.2.1<=6))=c
 generalize (decide (1<=x.2.2.2.1)&&decide (x.2.2.2.1<=9))=d
 generalize (decide (0<=x.2.2.2.2.1)&&decide (x.2.2.2.2.1<=1000000000))=e
 generalize CS x.2.2.2.2.2 0 x.2.2.2.2.2.length=f
 cases a<;>cases b<;>cases c<;>cases d<;>cases e<;>cases f<;>simp)

abbrev DH:Type:=Int×Int×Int×AP
def asc (v:List Int):Prop:=(∀ a∈v,1<=a/\a<=6)/\v.Pairwise (· < ·)
theorem ul {v:List Int}:∀ (m i:Nat),i+m=v.length->(GT v i m=true↔∀ a (ha:a<v.length),i<=a->(1<=v[a]/\v[a]<=6)/\(a≠0->v.getD (a-1) 0<v[a]))
 | 0,i,h=>by
  simp only [GT,true_iff]
  intro a ha hi
  omega
 | m+1,i,h=>by
  have hi:i<v.length:=by omega
  rw [GT,AD,AD,ul m (i+1) (by omega),AU hi]
  simp only [Ec,AD,decide_eq_true_eq]
  constructor
  ·rintro ⟨⟨h1,h2⟩,h3⟩ a ha hia
   by_cases e:a=i
   ·subst e
    exact ⟨h1,fun h0=>h2.resolve_left h0⟩
   ·exact h3 a ha (by omega)
  ·intro h3
   refine ⟨⟨(h3 i hi (Nat.le_refl _)).1,?_⟩,fun a ha hia=>h3 a ha (by omega)⟩
   by_cases e:i=0
   ·exact .inl e
   ·exact .inr ((h3 i hi (Nat.le_refl _)).2 e)
theorem ADf {v:List Int}:GT v 0 v.length=true↔asc v:=by
 rw [ul _ _ (by omega)]
 constructor
 ·intro h
  refine ⟨fun a ha=>?_,?_⟩
  ·obtain ⟨i,hi,rfl⟩:=Eb ha
   exact (h i hi (Nat.zero_le _)).1
  ·have st:∀ d a (ha:a+d+1<v.length),v.getD a 0<v.getD (a+d+1) 0:=by
    intro d
    induction d with
    | zero =>
     intro a ha
     have:=(h (a+1) (by omega) (Nat.zero_le _)).2 (by omega)
     rw [AU (show a+0+1<v.length from ha)]
     simpa using this
    | succ d ih =>
     intro a ha
     have h1:=ih a (by omega)
     have h2:=(h (a+(d+1)+1) ha (Nat.zero_le _)).2 (by omega)
     rw [AU ha]
     simp only [Nat.add_sub_cancel] at h2
     have h3:v.getD (a+d+1) 0<v[a+(d+1)+1]:=h2
     omega
   rw [List.pairwise_iff_getElem]
   intro i j hi hj hij
   have:=st (j-i-1) i (by omega)
   rw [show i+(j-i-1)+1=j by omega,AU hi,AU hj] at this
   exact this
 ·rintro ⟨h1,h2⟩ a ha _
  refine ⟨h1 _ (BU ha),fun h0=>?_⟩
  rw [AU (show a-1<v.length by omega)]
  exact (List.pairwise_iff_getElem.1 h2) (a-1) a (by omega) ha (by omega)
theorem AAh {v:List Int} (h:asc v):v.length<=6:=by
 have hs:v.Sublist [1,2,3,4,5,6]:=by
  have key:∀ (l:List Int) (n:Nat),n<=6->(∀ a∈l,(6-n:Int)<a/\a<=6)->l.Pairwise (· < ·)->l.length<=n:=by
   intro l
   induction l with
   | nil=>intro n _ _ _; simp
   | cons a l ih =>
    intro n hn hb hp
    have ha:=hb a (by simp)
    have hp2:=List.pairwise_cons.1 hp
    have:=ih ((6-a).toNat) (by omega) (fun b hb'=>⟨by have:=hp2.1 b hb'; omega,(hb b (by simp [hb'])).2⟩) hp2.2
    simp only [List.length_cons]
    omega
  have hl:=key v 6 (by omega) (fun a ha=>by have:=h.1 a ha; omega) h.2
  exact List.Sublist.trans (List.Sublist.refl v) (by
   have:∀ (l:List Int) (s:List Int),s.Pairwise (· < ·)->l.Pairwise (· < ·)->(∀ a∈l,a∈s)->l.Sublist s:=by
    intro l s
    induction s generalizing l with
    | nil =>
     intro _ _ hm
     cases l with
     | nil=>exact List.Sublist.slnil
     | cons a l=>exact absurd (hm a (by simp)) (by simp)
    | cons b s ih =>
     intro hs hl hm
     cases l with
     | nil=>exact List.nil_sublist _
     | cons a l =>
      have hs2:=List.pairwise_cons.1 hs
      have hl2:=List.pairwise_cons.1 hl
      rcases BQ.1 (hm a (by simp)) with e | e
      ·subst e
       refine (ih l hs2.2 hl2.2 fun c hc=>?_).cons_cons _
       rcases BQ.1 (hm c (by simp [hc])) with e | e
       ·have:=hl2.1 c hc; omega
       ·exact e
      ·refine (ih (a::l) hs2.2 hl fun c hc=>?_).cons _
       rcases BQ.1 (hm c hc) with e2 | e2
       ·have h1:=hs2.1 a e
        rcases BQ.1 hc with e3 | e3
        ·omega
        ·have:=hl2.1 c e3; omega
       ·exact e2
   refine this v [1,2,3,4,5,6] (by decide) h.2 fun a ha=>?_
   have:=h.1 a ha
   have h5:a=1\/a=2\/a=3\/a=4\/a=5\/a=6:=by omega
   rcases h5 with h | h | h | h | h | h<;>simp [h])
 simpa using hs.length_le
structure Kb (m:AE):Prop where
 id:1<=m.1/\m.1<=6
 ep:1<=m.2.1/\m.2.1<=9
 serves:m.2.2.2.2.2.1=true->m.2.2.2.1=true/\m.2.2.2.2.1=true/\m.2.2.2.2.2.2.1=[]
 fell:m.2.2.1=true->m.2.2.2.1=false/\m.2.2.2.2.1=false
 waits:asc m.2.2.2.2.2.2.1
 left:asc m.2.2.2.2.2.2.2.2.2.2.2.2.2
 items:Ax m.2.2.2.2.2.2.2.1=true
 count:0<=m.2.2.2.2.2.2.2.2.1/\m.2.2.2.2.2.2.2.2.1<=900
 task:K8 m.2.2.2.2.2.2.2.2.2=true\/GU m.2.2.2.2.2.2.2.2.2 m.2.2.2.2.2.1=true
theorem AAi {m:AE}:Xi m=true↔Kb m:=by
 unfold Xi
 simp only [AD,Ec,Do,decide_eq_true_eq,ADf,decide_eq_false_iff_not]
 constructor
 ·rintro ⟨⟨⟨⟨⟨⟨⟨⟨h1,h2⟩,h3⟩,h4⟩,h5⟩,h6⟩,h7⟩,h8⟩,h9⟩
  refine ⟨h1,h2,fun h=>?_,fun h=>?_,h5,h6,h7,h8,h9⟩
  ·rcases h3 with h3 | ⟨⟨a,b⟩,c⟩
   ·rw [h] at h3; cases h3
   ·exact ⟨a,b,E5.1 (by omega)⟩
  ·rcases h4 with h4 | h4
   ·rw [h] at h4; cases h4
   ·exact h4
 ·rintro ⟨h1,h2,h3,h4,h5,h6,h7,h8,h9⟩
  refine ⟨⟨⟨⟨⟨⟨⟨⟨h1,h2⟩,?_⟩,?_⟩,h5⟩,h6⟩,h7⟩,h8⟩,h9⟩
  ·cases hs:m.2.2.2.2.2.1 with
   | false=>exact .inl rfl
   | true =>
    obtain ⟨a,b,c⟩:=h3 hs
    exact .inr ⟨⟨a,b⟩,by rw [c]; simp⟩
  ·cases hs:m.2.2.1 with
   | false=>exact .inl rfl
   | true=>exact .inr (h4 hs)
theorem Kc {x:List AP} (h:Ax x=true):x.length<=12:=(DG.1 h).2.2
theorem Kb.lens {m:AE} (h:Kb m):m.2.2.2.2.2.2.1.length<=6/\m.2.2.2.2.2.2.2.1.length<=12/\m.2.2.2.2.2.2.2.2.2.2.2.2.2.length<=6:=⟨AAh h.waits,Kc h.items,AAh h.left⟩
theorem mB (m:AE) (h1:m.2.2.2.2.2.2.1.length<=68719476736) (h2:m.2.2.2.2.2.2.2.1.length<=68719476736) (h3:m.2.2.2.2.2.2.2.2.2.2.2.2.2.length<=68719476736):Dv m=some m:=uM (by
 unfold dp
 rw [if_pos (by simpa using h1),if_pos (by simpa using h2),if_pos (by simpa using h3)]
 rfl)
theorem Kb.copy {m:AE} (h:Kb m):Dv m=some m:=by
 obtain ⟨h1,h2,h3⟩:=h.lens
 exact mB m (by omega) (by omega) (by omega)
def D3 (view:List Int) (id:Int):List Int:=[1,2,3,4,5,6].filter fun v=>v != id&&view.contains v
theorem Yf (view:List Int) (id:Int):asc (D3 view id):=by
 refine ⟨fun a ha=>?_,List.Pairwise.filter _ (by decide)⟩
 have:=(List.mem_filter.1 ha).1
 simp at this
 omega
theorem K9 (view:List Int) (id:Int) (h:view.length<=maxLen):Hp view id=some (D3 view id):=n_ (by
 unfold XO
 have step:∀ (v:Nat) (acc r:List Int),v<=6->1<=v->acc.length<=6->Ci view id ((v+1:Nat):Int) (if ((v:Int) != id&&view.contains (v:Int))=true then acc++[(v:Int)] else acc)=some r->Ci view id (v:Int) acc=some r:=by
  intro v acc r hv hv1 ha hr
  refine R0 ?_
  unfold K6
  rw [if_pos (by simp; omega),AM (show v<9223372036854775807 by omega),Cy view _ h]
  by_cases h1:((v:Int) != id)=true
  ·rw [if_pos h1,Y]
   by_cases h2:view.contains (v:Int)=true
   ·rw [if_pos h2,if_pos (by simp; omega)]
    rw [if_pos (by rw [h1,h2]; rfl)] at hr
    exact hr
   ·rw [if_neg h2]
    rw [if_neg (fun hc=>h2 (by simp only [AD] at hc; exact hc.2))] at hr
    exact hr
  ·rw [if_neg h1]
   rw [if_neg (fun hc=>h1 (by simp only [AD] at hc; exact hc.1))] at hr
   exact hr
 have fin:∀ acc,Ci view id ((7:Nat):Int) acc=some acc:=fun acc=>R0 (by
  unfold K6
  rw [if_neg (by decide)])
 have g:∀ (acc:List Int) (v:Int),(if (v != id&&view.contains v)=true then acc++[v] else acc).length<=acc.length+1:=by
  intro acc v; split<;>simp
 refine step 1 [] _ (by omega) (by omega) (by simp) ?_
 refine step 2 _ _ (by omega) (by omega) (by have:=g [] ((1:Nat):Int); simp only [List.length_nil] at this; omega) ?_
 have l2:=g [] ((1:Nat):Int)
 generalize e1:(if (((1:Nat):Int) != id&&view.contains ((1:Nat):Int))=true then ([]:List Int)++[((1:Nat):Int)] else [])=a1 at l2 ⊢
 have l3:=g a1 ((2:Nat):Int)
 generalize e2:(if (((2:Nat):Int) != id&&view.contains ((2:Nat):Int))=true then a1++[((2:Nat):Int)] else a1)=a2 at l3 ⊢
 have l4:=g a2 ((3:Nat):Int)
 simp only [List.length_nil] at l2
 refine step 3 _ _ (by omega) (by omega) (by omega) ?_
 generalize e3:(if (((3:Nat):Int) != id&&view.contains ((3:Nat):Int))=true then a2++[((3:Nat):Int)] else a2)=a3 at l4 ⊢
 have l5:=g a3 ((4:Nat):Int)
 refine step 4 _ _ (by omega) (by omega) (by omega) ?_
 generalize e4:(if (((4:Nat):Int) != id&&view.contains ((4:Nat):Int))=true then a3++[((4:Nat):Int)] else a3)=a4 at l5 ⊢
 have l6:=g a4 ((5:Nat):Int)
 refine step 5 _ _ (by omega) (by omega) (by omega) ?_
 generalize e5:(if (((5:Nat):Int) != id&&view.contains ((5:Nat):Int))=true then a4++[((5:Nat):Int)] else a4)=a5 at l6 ⊢
 refine step 6 _ _ (by omega) (by omega) (by omega) ?_
 rw [fin]
 congr 1
 unfold D3
 have fl:∀ (p:Int->Bool) (v:Int) (l:List Int),(v::l).filter p=(if p v=true then [v] else [])++l.filter p:=by
  intro p v l; rw [List.filter_cons]; split<;>simp
 have ap:∀ (c:Bool) (a:List Int) (v:Int),(if c=true then a++[v] else a)=a++(if c=true then [v] else []):=by
  intro c a v; split<;>simp
 rw [ap,<- e5,ap,<- e4,ap,<- e3,ap,<- e2,ap,<- e1,ap]
 simp only [fl,List.filter_nil,List.append_nil,List.nil_append,Bv]
 rfl)
theorem um {v:List Int} (h:asc v) (p:Int->Bool):asc (v.filter p):=⟨fun a ha=>h.1 a (List.mem_filter.1 ha).1,h.2.filter p⟩
theorem QJ (v:List Int) (x:Int) (h:v.length<=68719476736):JM v x=some (v.filter (· != x)):=lw (by
 unfold VX
 have key:=E0 (n:=v.length) (P:=fun i=>∀ acc:List Int,acc.length<=i->Ez v x (i:Int) acc=some (acc++(v.drop i).filter (· != x))) (fun acc ha=>QG (by
  unfold Jv
  rw [if_neg (by simp)]
  simp)) (fun i hi ih acc ha=>QG (by
  unfold Jv
  simp only [show ((i:Int)<(v.length:Int)) from by omega,decide_true,if_true,show (0:Int)<=(i:Int) from by omega,Ai,AU hi,AM (show i<9223372036854775807 by omega)]
  rw [BC hi,List.filter_cons]
  by_cases hh:(v[i] != x)=true
  ·rw [if_pos hh,if_pos (by simp; omega),ih _ (by simp; omega),if_pos hh,Bv]
   rfl
  ·rw [if_neg hh,ih _ (by omega),if_neg hh])) 0 (by omega) [] (by simp)
 simpa using key)

def CI (view:List Int) (id:Int):List Int:=view.filter (· != id)
def T1 (m:AE) (view:List Int) (its:List AP):AE :=
 (m.1,m.2.1,m.2.2.1,true,m.2.2.2.2.1,(((D3 view m.1).length:Int)==0),D3 view m.1,its,m.2.2.2.2.2.2.2.2)
def Xl (m:AE) (e:Int):AE :=
 (m.1,e,false,false,false,false,([]:List Int),m.2.2.2.2.2.2.2.1,(0:Int),(0:Int),(0:Int),(0:Int),(O,O,(0:Int)),([]:List Int))
def FN (m:AE) (x:Bc) (k:Int):List Bc:=[(k,m.1,x.2.1,x.2.2.2.1,x.2.2.2.2.1,([]:List AP))]
def PQ (m:AE) (its:List AP):AE :=
 (m.1,m.2.1,m.2.2.1,m.2.2.2.1,m.2.2.2.2.1,m.2.2.2.2.2.1,m.2.2.2.2.2.2.1,its,m.2.2.2.2.2.2.2.2.1,(0:Int),(0:Int),(0:Int),(O,O,(0:Int)),([]:List Int))
def CA (m:AE):List DH×AE :=
 if (m.2.2.2.2.2.2.2.2.2.1==1)=true then ([(m.2.2.2.2.2.2.2.2.2.2.1,m.2.1,m.2.2.2.2.2.2.2.2.2.2.2.1,m.2.2.2.2.2.2.2.2.2.2.2.2.1)],PQ m (An m.2.2.2.2.2.2.2.1 m.2.2.2.2.2.2.2.2.2.2.2.2.1))
 else ([(m.2.2.2.2.2.2.2.2.2.2.1,m.2.1,m.2.2.2.2.2.2.2.2.2.2.2.1,BT m.2.2.2.2.2.2.2.1 m.2.2.2.2.2.2.2.2.2.2.2.2.1.1)],PQ m m.2.2.2.2.2.2.2.1)
theorem Xm (view:List Int) (its:List AP) (m:AE) (h:view.length<=68719476736) (hi:its.length<=68719476736) :
  Pm view its m=some ((CI view m.1).map (fun v=>(3,m.1,v,m.2.1,0,its)),T1 m view its):=v7 (by
 unfold gV
 rw [if_pos (by simpa using hi),K9 view _ (by unfold maxLen; omega),Y]
 have key:=E0 (n:=view.length) (P:=fun i=>∀ acc:List Bc,acc.length<=i->Hu view its (i:Int) (T1 m view its) acc ([]++its)=some (acc++((view.drop i).filter (· != m.1)).map (fun v=>((3:Int),m.1,v,m.2.1,(0:Int),its)),T1 m view its)) (fun acc ha=>XQ (by
  unfold PB
  rw [if_neg (by simp)]
  simp)) (fun i hi2 ih acc ha=>XQ (by
  unfold PB
  simp only [show ((i:Int)<(view.length:Int)) from by omega,decide_true,if_true,show (0:Int)<=(i:Int) from by omega,Ai,AU hi2,AM (show i<9223372036854775807 by omega)]
  rw [show (T1 m view its).1=m.1 from rfl,show (T1 m view its).2.1=m.2.1 from rfl,BC hi2,List.filter_cons]
  by_cases hh:(view[i] != m.1)=true
  ·rw [if_pos hh,if_pos (by simpa using hi),if_pos (by simp; omega),ih _ (by simp; omega),if_pos hh,List.map_cons,Bv]
   rfl
  ·rw [if_neg hh,ih _ (by omega),if_neg hh])) 0 (by omega) [] (by simp)
 exact key)
theorem Va (m:AE) (e:Int) (h:m.2.2.2.2.2.2.2.1.length<=68719476736):Nb m e=some (Xl m e):=uc (by
 unfold eB
 rw [if_pos (by simpa using h)]
 rfl)
theorem Ih (m:AE) (x:Bc) (k:Int):FC m x k=some (FN m x k):=rD rfl
theorem K_ (m:AE) (h:m.2.2.2.2.2.2.2.1.length<=34359738367):Hq m=some (CA m):=oA (by
 unfold XP CA
 rw [Jb _ _ h,Xd _ _ (by unfold maxLen; omega)]
 split<;>rfl)
def wh (m:AE) (f:Int):AE :=
 (m.1,m.2.1,m.2.2.1,m.2.2.2.1,m.2.2.2.2.1,m.2.2.2.2.2.1,m.2.2.2.2.2.2.1,m.2.2.2.2.2.2.2.1,m.2.2.2.2.2.2.2.2.1,m.2.2.2.2.2.2.2.2.2.1,m.2.2.2.2.2.2.2.2.2.2.1,m.2.2.2.2.2.2.2.2.2.2.2.1,m.2.2.2.2.2.2.2.2.2.2.2.2.1,m.2.2.2.2.2.2.2.2.2.2.2.2.2.filter (· != f))
def HE (m:AE) (f:Int):AE×List Bc×List DH :=
 if (((m.2.2.2.2.2.2.2.2.2.2.2.2.2.filter (· != f)).length:Int)==0)=true then ((CA (wh m f)).2,[],(CA (wh m f)).1) else (wh m f,[],[])
def eO (m:AE) (view:List Int) (x:Bc):AE×List Bc×List DH :=
 if x.1=2 then (if (m.2.2.2.2.1&&!m.2.2.2.1)=true then (T1 m view x.2.2.2.2.2,(CI view m.1).map (fun v=>(3,m.1,v,m.2.1,0,x.2.2.2.2.2)),[]) else (m,[],[]))
 else if x.1=3 then (if (!view.contains m.1||(view.getD 0 0==m.1))=true then (m,[],[]) else if (!m.2.2.2.1&&m.2.2.1)=true then (m,[],[])
  else if m.2.2.2.1=true then (m,FN m x 4,[]) else
   ((m.1,m.2.1,false,true,false,false,([]:List Int),x.2.2.2.2.2,(0:Int),(0:Int),(0:Int),(0:Int),(O,O,(0:Int)),([]:List Int)),FN m x 4,[]))
 else if x.1=4 then (if m.2.2.2.2.1=true then
   ((m.1,m.2.1,m.2.2.1,m.2.2.2.1,m.2.2.2.2.1,m.2.2.2.1&&(((m.2.2.2.2.2.2.1.filter (· != x.2.1)).length:Int)==0),m.2.2.2.2.2.2.1.filter (· != x.2.1),m.2.2.2.2.2.2.2),[],[]) else (m,[],[]))
 else if x.1=5 then (if m.2.2.2.1=true then
   ((m.1,m.2.1,m.2.2.1,m.2.2.2.1,m.2.2.2.2.1,m.2.2.2.2.2.1,m.2.2.2.2.2.2.1,An m.2.2.2.2.2.2.2.1 (x.2.2.2.2.2.getD 0 (O,O,(0:Int))),m.2.2.2.2.2.2.2.2),FN m x 6,[]) else (m,[],[]))
 else if x.1=7 then (if m.2.2.2.1=true then (m,FN m x 8,[]) else (m,[],[]))
 else if (x.1=6\/x.1=8)/\m.2.2.2.2.2.2.2.2.2.1=(if x.1=8 then 2 else 1)/\m.2.2.2.2.2.2.2.2.2.2.2.1=x.2.2.2.2.1 then
  (HE m x.2.1)
 else (m,[],[])
theorem oT (m:AE) (view:List Int) (x:Bc) (hm:Kb m) (hv:view.length<=68719476736) (hv0:0<view.length) (hx:x.2.2.2.2.2.length<=68719476736) (h5:x.1=5->0<x.2.2.2.2.2.length) :
  Vl m view x=some (eO m view x):=v8 (by
 obtain ⟨l1,l2,l3⟩:=hm.lens
 unfold gW
 rw [hm.copy,Y]
 unfold eO
 by_cases k2:x.1=2
 ·rw [if_pos (by simpa using k2),if_pos k2]
  have J:∀ b y,KX view [] [] b m x y m=some (if b=true then (T1 m view x.2.2.2.2.2,(CI view m.1).map (fun v=>(3,m.1,v,m.2.1,0,x.2.2.2.2.2)),[]) else (m,[],[])):=fun b y=>oC (by
   unfold XR
   cases b
   ·rfl
   ·rw [if_pos rfl,Xm view _ m hv hx]
    rfl)
  rw [J,J]
  cases m.2.2.2.2.1<;>cases m.2.2.2.1<;>rfl
 ·rw [if_neg (by simpa using k2),if_neg k2]
  by_cases k3:x.1=3
  ·rw [if_pos (by simpa using k3),if_pos k3,Cy view _ (by unfold maxLen; omega),Y]
   have J2:∀ b y,KY [] [] b m x y m=some (if m.2.2.2.1=true then (m,FN m x 4,[]) else
     ((m.1,m.2.1,false,true,false,false,([]:List Int),x.2.2.2.2.2,(0:Int),(0:Int),(0:Int),(0:Int),(O,O,(0:Int)),([]:List Int)),FN m x 4,[])):=fun b y=>oD (by
    unfold XS
    rw [Va m _ (by omega),Ih,Y,Y]
    have hx':([]:List AP).length+x.2.2.2.2.2.length<=68719476736:=by simpa using hx
    cases m.2.2.2.1
    ·rw [if_pos (show (!false)=true from rfl),if_pos hx']; rfl
    ·rfl)
   have J1:∀ b y,PD [] [] b m x y m=some (if (!m.2.2.2.1&&m.2.2.1)=true then (m,[],[]) else if m.2.2.2.1=true then (m,FN m x 4,[]) else
     ((m.1,m.2.1,false,true,false,false,([]:List Int),x.2.2.2.2.2,(0:Int),(0:Int),(0:Int),(0:Int),(O,O,(0:Int)),([]:List Int)),FN m x 4,[])):=fun b y=>oE (by
    unfold XT
    rw [J2,J2]
    cases m.2.2.2.1<;>cases m.2.2.1<;>rfl)
   rw [show view.getD (0:Int).toNat 0=view.getD 0 0 from rfl]
   cases view.contains m.1
   ·rfl
   ·rw [if_neg (by simp),if_pos (by omega),if_pos (by omega),J1]
    cases (view.getD 0 0==m.1)<;>rfl
  ·rw [if_neg (by simpa using k3),if_neg k3]
   by_cases k4:x.1=4
   ·rw [if_pos (by simpa using k4),if_pos k4,QJ _ _ (by omega),Y]
    cases m.2.2.2.2.1<;>cases m.2.2.2.1<;>rfl
   ·rw [if_neg (by simpa using k4),if_neg k4]
    by_cases k5:x.1=5
    ·have:=h5 k5
     rw [if_pos (by simpa using k5),if_pos k5,Jb _ _ (by omega),Y,Ih,Y,show x.2.2.2.2.2.getD (0:Int).toNat (O,O,(0:Int))=x.2.2.2.2.2.getD 0 (O,O,(0:Int)) from rfl]
     cases m.2.2.2.1
     ·rfl
     ·rw [if_pos rfl,if_pos rfl,if_pos (by omega),if_pos (by omega)]
    ·rw [if_neg (by simpa using k5),if_neg k5]
     by_cases k7:x.1=7
     ·rw [if_pos (by simpa using k7),if_pos k7,Ih,Y]
      cases m.2.2.2.1<;>rfl
     ·rw [if_neg (by simpa using k7),if_neg k7]
      have J5:∀ b y,PE [] [] b m x y m=some (HE m x.2.1):=fun b y=>oF (by
       unfold XU
       rw [QJ _ _ (by omega),Y,K_ _ (by simp only; omega),Y]
       unfold HE
       split<;>rfl)
      have J4:∀ op y,KZ [] [] op m x y m=some (if m.2.2.2.2.2.2.2.2.2.1=op/\m.2.2.2.2.2.2.2.2.2.2.2.1=x.2.2.2.2.1 then (HE m x.2.1) else (m,[],[])):=fun op y=>oG (by
       unfold XV
       rw [J5]
       by_cases h1:m.2.2.2.2.2.2.2.2.2.1=op
       ·rw [if_pos (by simp [h1])]
        by_cases h2:m.2.2.2.2.2.2.2.2.2.2.2.1=x.2.2.2.2.1
        ·rw [if_neg (by simp [h2]),if_pos (show _/\_ from ⟨h1,h2⟩)]
        ·rw [if_pos (by simp [h2]),if_neg (show ¬(_/\_) from fun h=>h2 h.2)]
       ·rw [if_neg (by simp [h1]),if_neg (fun h=>h1 h.1)])
      have J3:∀ b y,Ka [] [] b m x y m=some (if b=true/\m.2.2.2.2.2.2.2.2.2.1=(if x.1=8 then 2 else 1)/\m.2.2.2.2.2.2.2.2.2.2.2.1=x.2.2.2.2.1 then (HE m x.2.1) else (m,[],[])):=fun b y=>oH (by
       unfold XW
       rw [J4,J4]
       cases b
       ·rw [if_neg (by simp),if_neg (by simp)]
       ·rw [if_pos rfl]
        by_cases k8:x.1=8
        ·simp only [k8,beq_self_eq_true,if_true,true_and]
        ·rw [if_neg (by simpa using k8)]
         simp only [k8,if_false,true_and])
      rw [J3,J3]
      by_cases k6:x.1=6
      ·simp only [k6,beq_self_eq_true,if_true,true_and,true_or]
      ·rw [if_neg (by simpa using k6)]
       simp only [k6,false_or,beq_iff_eq])
structure SX (views:List (List Int)):Prop where
 ok:GC views views.length views=true
theorem LO {n:Nat}:∀ {l:List (List Int)} {x:List (List Int)},GC x n l=true↔(∀ v∈l,Ye v=true)/\1<=n/\n<=9
 | [],x=>by simp [GC]; omega
 | v::l,x=>by
  rw [GC,AD,LO]
  simp [and_assoc]
theorem SX.len {views:List (List Int)} (h:SX views):1<=views.length/\views.length<=9:=(LO.1 h.ok).2
theorem SX.view {views:List (List Int)} (h:SX views) {v:List Int} (hv:v∈views):1<=v.length/\v.length<=4:=by
 have:=(LO.1 h.ok).1 v hv
 unfold Ye at this
 simp only [AD,decide_eq_true_eq] at this
 omega
theorem SX.get {views:List (List Int)} (h:SX views) {i:Nat} (hi:i<views.length):1<=(views.getD i []).length/\(views.getD i []).length<=4:=by
 rw [AU hi]
 exact h.view (BU hi)
theorem HF {views:List (List Int)} (h:SX views):Ex views=some true:=by
 rw [l_ views (by have:=h.len; unfold maxLen; omega) (fun a ha=>by have:=h.view ha; unfold maxLen; omega),h.ok]
theorem MQ {m:AE} (h:Kb m):Gk m=some true:=by
 obtain ⟨h1,h2,h3⟩:=h.lens
 rw [i4 m (by unfold maxLen; omega) (by unfold maxLen; omega) (by unfold maxLen; omega),AAi.2 h]
def D4 (m:AE) (views:List (List Int)) (x:Bc):AE×List Bc×List DH :=
 if (Xk x&&(x.2.2.1==m.1)&&decide (m.2.1<=x.2.2.2.1)&&decide (x.2.2.2.1<=(views.length:Int)))=true then
  if x.2.2.2.1=m.2.1 then eO m (views.getD (m.2.1-1).toNat []) x
  else if (x.1==1&&(x.2.2.2.1==m.2.1+1)&&m.2.2.2.1&&(views.getD (m.2.1-1).toNat []).contains m.1)=true then (Xl m x.2.2.2.1,[(2,m.1,x.2.1,x.2.2.2.1,0,m.2.2.2.2.2.2.2.1)],[])
  else if (x.1==3&&(views.getD (x.2.2.2.1-1).toNat []).contains m.1&&((views.getD (x.2.2.2.1-1).toNat []).getD 0 0 != m.1))=true then
   ((m.1,x.2.2.2.1,false,true,false,false,([]:List Int),x.2.2.2.2.2,(0:Int),(0:Int),(0:Int),(0:Int),(O,O,(0:Int)),([]:List Int)),FN m x 4,[])
  else (m,[],[])
 else (m,[],[])
theorem ADg {x:Bc} (h:Xk x=true):x.2.2.2.2.2.length<=12/\(x.1=5->x.2.2.2.2.2.length=1):=by
 unfold Xk at h
 simp only [AD] at h
 refine ⟨Kc (x:=x.2.2.2.2.2) h.1.2,fun h5=>?_⟩
 have:=h.2
 rw [if_neg (by omega),if_pos h5] at this
 simp only [beq_iff_eq] at this
 omega
theorem mC (m:AE) (views:List (List Int)) (x:Bc) (hm:Kb m) (hv:SX views) (hx:x.2.2.2.2.2.length<=68719476736) :
  S9 m views x=some (D4 m views x):=uW (by
 have hvl:=hv.len
 have hep:=hm.ep
 unfold dz D4
 rw [hm.copy,Y,MQ hm,Y,if_pos (by rfl),HF hv,Y,if_pos (by rfl),rJ x (by unfold maxLen; omega),Y]
 cases hmo:Xk x with
 | false=>rfl
 | true =>
  obtain ⟨xl,x5⟩:=ADg hmo
  rw [if_pos (by rfl)]
  by_cases h1:x.2.2.1=m.1
  ·rw [if_pos (by simp [h1])]
   by_cases h2:x.2.2.2.1<m.2.1
   ·rw [if_neg (by simpa using h2),if_neg (by simp; omega)]
   ·rw [if_pos (by simpa using h2)]
    by_cases h3:x.2.2.2.1>(views.length:Int)
    ·rw [if_neg (by simpa using h3),if_neg (by simp; omega)]
    ·rw [if_pos (by simpa using h3),if_neg (by simp; omega),if_pos (by simp [h1]; omega)]
     have wm:IntKind.i64.wrap (m.2.1-1)=m.2.1-1:=Af (by omega)
     have wp:IntKind.i64.wrap (m.2.1+1)=m.2.1+1:=Af (by omega)
     have wx:IntKind.i64.wrap (x.2.2.2.1-1)=x.2.2.2.1-1:=Af (by omega)
     have g1:=hv.get (i:=(m.2.1-1).toNat) (by omega)
     have g2:=hv.get (i:=(x.2.2.2.1-1).toNat) (by omega)
     have J3:∀ b y,G_ [] [] b m x y m=some (if b=true then ((m.1,x.2.2.2.1,false,true,false,false,([]:List Int),x.2.2.2.2.2,(0:Int),(0:Int),(0:Int),(0:Int),(O,O,(0:Int)),([]:List Int)),FN m x 4,[]) else (m,[],[])):=fun b y=>lR (by
      unfold VJ
      cases b
      ·rfl
      ·rw [if_pos rfl,if_pos (by simpa using hx),Ih]
       rfl)
     have J2:∀ b y,N3 views [] [] b m x y m=some (if (x.1==3&&(views.getD (x.2.2.2.1-1).toNat []).contains m.1&&((views.getD (x.2.2.2.1-1).toNat []).getD 0 0 != m.1))=true then
       ((m.1,x.2.2.2.1,false,true,false,false,([]:List Int),x.2.2.2.2.2,(0:Int),(0:Int),(0:Int),(0:Int),(O,O,(0:Int)),([]:List Int)),FN m x 4,[]) else (m,[],[])):=fun b y=>lT (by
      unfold VK
      rw [wx,if_pos (by omega),if_pos (by omega),Cy _ _ (by unfold maxLen; omega),Y,show (views.getD (x.2.2.2.1-1).toNat ([]:List Int)).getD (0:Int).toNat 0=(views.getD (x.2.2.2.1-1).toNat []).getD 0 0 from rfl]
      simp only [J3]
      rw [if_pos (show (0:Int)<=0 by omega),if_pos (show (0:Int)<((views.getD (x.2.2.2.1-1).toNat ([]:List Int)).length:Int) by omega)]
      cases (x.1==3)<;>cases (views.getD (x.2.2.2.1-1).toNat ([]:List Int)).contains m.1<;>rfl)
     have J1:∀ b y,E_ views [] [] b m x y m=some (if b=true then (Xl m x.2.2.2.1,[(2,m.1,x.2.1,x.2.2.2.1,0,m.2.2.2.2.2.2.2.1)],[]) else
       if (x.1==3&&(views.getD (x.2.2.2.1-1).toNat []).contains m.1&&((views.getD (x.2.2.2.1-1).toNat []).getD 0 0 != m.1))=true then
       ((m.1,x.2.2.2.1,false,true,false,false,([]:List Int),x.2.2.2.2.2,(0:Int),(0:Int),(0:Int),(0:Int),(O,O,(0:Int)),([]:List Int)),FN m x 4,[]) else (m,[],[])):=fun b y=>lU (by
      unfold VL
      have hl:([]:List AP).length+m.2.2.2.2.2.2.2.1.length<=68719476736:=by have:=hm.lens; simp; omega
      rw [J2,Va m _ (by have:=hm.lens; omega),Y,if_pos hl]
      cases b<;>rfl)
     refine lV ?_
     unfold VM
     rw [wm,wp]
     by_cases h4:x.2.2.2.1=m.2.1
     ·rw [if_pos (by simpa using h4),if_pos (by omega),if_pos (by omega),if_pos h4,oT m _ x hm (by omega) (by omega) hx (fun h=>by have:=x5 h; omega)]
      rfl
     ·rw [if_neg (by simpa using h4),if_neg h4,Cy _ _ (by unfold maxLen; omega),Y]
      simp only [J1]
      rw [if_pos (show (0:Int)<=m.2.1-1 by omega),if_pos (show m.2.1-1<(views.length:Int) by omega)]
      cases (x.1==1)<;>cases (x.2.2.2.1==m.2.1+1)<;>cases m.2.2.2.1<;>cases (views.getD (m.2.1-1).toNat ([]:List Int)).contains m.1<;>rfl
  ·rw [if_neg (by simp [h1]),if_neg (by simp [h1])])

theorem gd {v:List Int}:∀ (m i:Nat),i+m=v.length->(I4 v i m=true↔∀ a (ha:a<v.length),i<=a->(1<=v[a]/\v[a]<=6)/\v[a]∉v.take a)
 | 0,i,h=>by
  simp only [I4,true_iff]
  intro a ha hi
  omega
 | m+1,i,h=>by
  have hi:i<v.length:=by omega
  rw [I4,AD,AD,gd m (i+1) (by omega),AU hi]
  simp only [AD,decide_eq_true_eq,Do,List.contains_eq_mem,decide_eq_false_iff_not]
  constructor
  ·rintro ⟨⟨h1,h2⟩,h3⟩ a ha hia
   by_cases e:a=i
   ·subst e
    exact ⟨h1,h2⟩
   ·exact h3 a ha (by omega)
  ·intro h3
   exact ⟨⟨(h3 i hi (Nat.le_refl _)).1,(h3 i hi (Nat.le_refl _)).2⟩,fun a ha hia=>h3 a ha (by omega)⟩
structure WOk (v:List Int):Prop where
 len:1<=v.length/\v.length<=4
 mem:∀ a∈v,1<=a/\a<=6
 nd:v.Nodup
theorem AAj {v:List Int}:Ye v=true↔WOk v:=by
 unfold Ye
 simp only [AD,decide_eq_true_eq]
 rw [gd _ _ (by omega)]
 constructor
 ·rintro ⟨h1,h2⟩
  refine ⟨by omega,fun a ha=>?_,?_⟩
  ·obtain ⟨i,hi,rfl⟩:=Eb ha
   exact (h2 i hi (Nat.zero_le _)).1
  ·rw [List.nodup_iff_pairwise_ne,List.pairwise_iff_getElem]
   intro i j hi hj hij e
   have:=(h2 j hj (Nat.zero_le _)).2
   apply this
   rw [<- e]
   exact List.mem_iff_getElem.2 ⟨i,by rw [List.length_take]; omega,by rw [List.getElem_take]⟩
 ·rintro ⟨h1,h2,h3⟩
  refine ⟨by omega,fun a ha _=>⟨h2 _ (BU ha),fun hm=>?_⟩⟩
  obtain ⟨i,hi,e⟩:=Eb hm
  rw [List.length_take] at hi
  rw [List.getElem_take] at e
  have:=(List.getElem_inj h3).1 e
  omega
theorem SX.wok {views:List (List Int)} (h:SX views) {i:Nat} (hi:i<views.length):WOk (views.getD i []):=by
 rw [AU hi]
 exact AAj.1 ((LO.1 h.ok).1 _ (BU hi))
structure XOk (x:Bc):Prop where
 kind:1<=x.1/\x.1<=8
 frm:1<=x.2.1/\x.2.1<=6
 to:1<=x.2.2.1/\x.2.2.1<=6
 ep:1<=x.2.2.2.1/\x.2.2.2.1<=9
 num:0<=x.2.2.2.2.1/\x.2.2.2.2.1<=1000000000
 items:Ax x.2.2.2.2.2=true
 shape:if x.1=2\/x.1=3 then True else if x.1=5 then x.2.2.2.2.2.length=1 else x.2.2.2.2.2=[]
theorem fC {x:Bc}:Xk x=true↔XOk x:=by
 unfold Xk
 simp only [AD,decide_eq_true_eq]
 constructor
 ·rintro ⟨⟨⟨⟨⟨⟨h1,h2⟩,h3⟩,h4⟩,h5⟩,h6⟩,h7⟩
  refine ⟨h1,h2,h3,h4,h5,h6,?_⟩
  split at h7
  ·rename_i e; rw [if_pos e]; trivial
  ·rename_i e
   rw [if_neg e]
   split at h7
   ·rename_i e2; rw [if_pos e2]; simp only [beq_iff_eq] at h7; omega
   ·rename_i e2; rw [if_neg e2]; simp only [beq_iff_eq] at h7; exact E5.1 (by omega)
 ·rintro ⟨h1,h2,h3,h4,h5,h6,h7⟩
  refine ⟨⟨⟨⟨⟨⟨h1,h2⟩,h3⟩,h4⟩,h5⟩,h6⟩,?_⟩
  split
  ·rfl
  ·rename_i e
   rw [if_neg e] at h7
   split
   ·rename_i e2; rw [if_pos e2] at h7; simp; omega
   ·rename_i e2; rw [if_neg e2] at h7; simp [h7]
theorem SY:Ax []=true:=rfl
def i6 (m n:AE) (l:List Bc):Prop:=∀ y∈l,XOk y/\y.2.1=m.1/\y.2.2.2.1=n.2.1
theorem mD {m n:AE} {view:List Int} {k num:Int} {its:List AP} (hm:1<=m.1/\m.1<=6) (he:1<=n.2.1/\n.2.1<=9) (hv:∀ a∈view,1<=a/\a<=6) (hk:1<=k/\k<=8) (hn:0<=num/\num<=1000000000) (hi:Ax its=true)
  (hs:if k=2\/k=3 then True else if k=5 then its.length=1 else its=[]):i6 m n ((CI view m.1).map fun v=>(k,m.1,v,n.2.1,num,its)):=by
 intro y hy
 obtain ⟨v,hv2,rfl⟩:=List.mem_map.1 hy
 exact ⟨⟨hk,hm,hv v (List.mem_filter.1 hv2).1,he,hn,hi,hs⟩,rfl,rfl⟩
theorem Tr {m n:AE} {x:Bc} {k:Int} (hm:1<=m.1/\m.1<=6) (hx:XOk x) (he:x.2.2.2.1=n.2.1) (hk:k=4\/k=6\/k=8):i6 m n (FN m x k):=by
 intro y hy
 simp only [FN,Cj] at hy
 subst hy
 refine ⟨⟨by show 1<=k/\k<=8; omega,hm,hx.frm,hx.ep,hx.num,SY,?_⟩,rfl,he⟩
 show if k=2\/k=3 then True else if k=5 then ([]:List AP).length=1 else ([]:List AP)=[]
 rw [if_neg (by omega),if_neg (by omega)]
theorem eP {m n:AE}:i6 m n []:=fun y hy=>by cases hy
theorem fD:K8 ((0:Int),(0:Int),(0:Int),(O,O,(0:Int)),([]:List Int))=true:=by simp [K8,OI]
theorem Kb.has {m:AE} {view:List Int} {its:List AP} (h:Kb m) (hl:m.2.2.2.2.1=true) (hb:m.2.2.2.1=false) (hi:Ax its=true):Kb (T1 m view its):=by
 have hns:m.2.2.2.2.2.1=false:=by
  cases hs:m.2.2.2.2.2.1 with
  | false=>rfl
  | true=>have:=(h.serves hs).1; rw [hb] at this; cases this
 refine ⟨h.id,h.ep,fun hs=>⟨rfl,hl,?_⟩,fun hf=>?_,Yf _ _,h.left,hi,h.count,?_⟩
 ·simp only [T1,beq_iff_eq] at hs ⊢
  exact E5.1 (by omega)
 ·have:=(h.fell hf).2; rw [hl] at this; cases this
 ·rcases h.task with h1 | h1
  ·exact .inl h1
  ·unfold GU at h1
   rw [hns] at h1
   simp at h1
theorem Kb.bare {m:AE} (h:Kb m) {e:Int} (he:1<=e/\e<=9):Kb (Xl m e) :=
 ⟨h.id,he,fun hs=>(by cases hs),fun hf=>(by cases hf),⟨by simp [Xl],by simp [Xl]⟩,⟨by simp [Xl],by simp [Xl]⟩,h.items,⟨by simp [Xl],by simp [Xl]⟩,.inl fD⟩
theorem Kb.install {m:AE} (h:Kb m) {e:Int} {its:List AP} (he:1<=e/\e<=9) (hi:Ax its=true) :
  Kb (m.1,e,false,true,false,false,([]:List Int),its,(0:Int),(0:Int),(0:Int),(0:Int),(O,O,(0:Int)),([]:List Int)) :=
 ⟨h.id,he,fun hs=>(by cases hs),fun hf=>(by cases hf),⟨by simp,by simp⟩,⟨by simp,by simp⟩,hi,⟨by simp,by simp⟩,.inl fD⟩
theorem Kb.clear {m:AE} (h:Kb m) {its:List AP} (hi:Ax its=true):Kb (PQ m its) :=
 ⟨h.id,h.ep,h.serves,h.fell,h.waits,⟨by simp [PQ],by simp [PQ]⟩,hi,h.count,.inl fD⟩
theorem Kb.finish {m:AE} (h:Kb m):Kb (CA m).2:=by
 unfold CA
 split
 ·exact h.clear (Ig h.items)
 ·exact h.clear h.items
theorem ADh {m:AE} (h:Kb m) (h0:m.2.2.2.2.2.2.2.2.2.1≠0):GU m.2.2.2.2.2.2.2.2.2 m.2.2.2.2.2.1=true:=by
 rcases h.task with h1 | h1
 ·unfold K8 at h1
  simp only [AD,beq_iff_eq] at h1
  exact absurd h1.1.1.1.1 h0
 ·exact h1
def oU (l:List DH):Prop:=l.length<=1/\∀ s∈l,0<=s.1/\s.1<=1000
theorem GV:oU []:=⟨by simp,fun s hs=>by cases hs⟩
theorem pD {m:AE} (h:Kb m) (h0:m.2.2.2.2.2.2.2.2.2.1≠0):oU (CA m).1:=by
 have h1:=ADh h h0
 unfold GU at h1
 simp only [AD,decide_eq_true_eq] at h1
 unfold CA
 split
 ·exact ⟨by simp,fun s hs=>by simp at hs; subst hs; exact h1.1.2⟩
 ·exact ⟨by simp,fun s hs=>by simp at hs; subst hs; exact h1.1.2⟩
structure yT (m:AE) (r:AE×List Bc×List DH):Prop where
 mok:Kb r.1
 id:r.1.1=m.1
 ep:m.2.1<=r.1.2.1
 told:i6 m r.1 r.2.1
 tlen:r.2.1.length<=4
 said:oU r.2.2
theorem Ii {m:AE} (h:Kb m):yT m (m,[],[]):=⟨h,rfl,Int.le_refl _,eP,by simp,GV⟩
theorem Ij (view:List Int) (id:Int):(CI view id).length<=view.length:=List.length_filter_le _ _
theorem Kb.left_filter {m:AE} (h:Kb m) (f:Int):Kb (wh m f):=by
 refine ⟨h.id,h.ep,h.serves,h.fell,h.waits,um h.left _,h.items,h.count,?_⟩
 rcases h.task with h1 | h1
 ·left
  unfold K8 at h1 ⊢
  simp only [AD,beq_iff_eq] at h1 ⊢
  refine ⟨h1.1,?_⟩
  have h2:=List.length_filter_le (· != f) m.2.2.2.2.2.2.2.2.2.2.2.2.2
  have h3:=h1.2
  show (((m.2.2.2.2.2.2.2.2.2.2.2.2.2.filter (· != f)).length:Nat):Int)=0
  omega
 ·exact .inr h1
theorem ADi {m:AE} {view:List Int} {x:Bc} (hm:Kb m) (hv:WOk view) (hx:XOk x) (he:x.2.2.2.1=m.2.1):yT m (eO m view x):=by
 unfold eO
 split
 ·split
  ·rename_i h1 h2
   simp only [AD,Do] at h2
   refine ⟨hm.has h2.1 h2.2 hx.items,rfl,Int.le_refl _,?_,by simp only [List.length_map]; have:=Ij view m.1; have:=hv.len; omega,GV⟩
   exact mD (n:=T1 m view x.2.2.2.2.2) hm.id hm.ep hv.mem (by omega) (by omega) hx.items (by simp)
  ·exact Ii hm
 ·split
  ·split
   ·exact Ii hm
   ·split
    ·exact Ii hm
    ·split
     ·exact ⟨hm,rfl,Int.le_refl _,Tr hm.id hx he (by omega),by simp [FN],GV⟩
     ·exact ⟨hm.install hm.ep hx.items,rfl,Int.le_refl _,Tr hm.id hx he (by omega),by simp [FN],GV⟩
  ·split
   ·split
    ·rename_i hl
     refine ⟨⟨hm.id,hm.ep,fun hs=>?_,hm.fell,um hm.waits _,hm.left,hm.items,hm.count,?_⟩,rfl,Int.le_refl _,eP,by simp,GV⟩
     ·simp only [AD,beq_iff_eq] at hs
      exact ⟨hs.1,hl,E5.1 (show (List.filter (· != x.2.1) m.2.2.2.2.2.2.1).length=0 by have h:((List.filter (· != x.2.1) m.2.2.2.2.2.2.1).length:Int)=0:=hs.2; omega)⟩
     ·rcases hm.task with h1 | h1
      ·exact .inl h1
      ·right
       have hs:m.2.2.2.2.2.1=true:=by
        unfold GU at h1
        simp only [AD] at h1
        exact h1.1.1.2
       obtain ⟨a,b,c⟩:=hm.serves hs
       rw [hs] at h1
       simp only [c,List.filter_nil,List.length_nil,a,Bool.true_and]
       exact h1
    ·exact Ii hm
   ·split
    ·split
     ·exact ⟨⟨hm.id,hm.ep,hm.serves,hm.fell,hm.waits,hm.left,Ig hm.items,hm.count,hm.task⟩,rfl,Int.le_refl _,Tr hm.id hx he (by omega),by simp [FN],GV⟩
     ·exact Ii hm
    ·split
     ·split
      ·exact ⟨hm,rfl,Int.le_refl _,Tr hm.id hx he (by omega),by simp [FN],GV⟩
      ·exact Ii hm
     ·by_cases hc:(x.1=6\/x.1=8)/\m.2.2.2.2.2.2.2.2.2.1=(if x.1=8 then 2 else 1)/\m.2.2.2.2.2.2.2.2.2.2.2.1=x.2.2.2.2.1
      ·rw [if_pos hc]
       have hn:=hm.left_filter x.2.1
       unfold HE
       split
       ·refine ⟨hn.finish,?_,?_,eP,by simp,pD hn ?_⟩
        ·unfold CA; split<;>rfl
        ·unfold CA; split<;>exact Int.le_refl _
        ·have:=hc.2.1
         show m.2.2.2.2.2.2.2.2.2.1≠0
         rw [this]
         split<;>omega
       ·exact ⟨hn,rfl,Int.le_refl _,eP,by simp,GV⟩
      ·rw [if_neg hc]
       exact Ii hm
theorem QK {m:AE} {views:List (List Int)} {x:Bc} (hm:Kb m) (hv:SX views):yT m (D4 m views x):=by
 unfold D4
 split
 ·rename_i hc
  simp only [AD,decide_eq_true_eq,beq_iff_eq] at hc
  obtain ⟨⟨⟨h1,h2⟩,h3⟩,h4⟩:=hc
  have hx:=fC.1 h1
  have hvl:=hv.len
  have he:=hm.ep
  split
  ·rename_i e
   exact ADi hm (hv.wok (by omega)) hx e
  ·split
   ·refine ⟨hm.bare hx.ep,rfl,h3,fun y hy=>?_,by simp,GV⟩
    simp only [Cj] at hy
    subst hy
    exact ⟨⟨by simp,hm.id,hx.frm,hx.ep,by simp,hm.items,by simp⟩,rfl,rfl⟩
   ·split
    ·exact ⟨hm.install hx.ep hx.items,rfl,h3,Tr hm.id hx rfl (by omega),by simp [FN],GV⟩
    ·exact Ii hm
 ·exact Ii hm

def LP:AE:=((0:Int),(0:Int),false,false,false,false,([]:List Int),([]:List AP),(0:Int),(0:Int),(0:Int),(0:Int),(O,O,(0:Int)),([]:List Int))
def Yg (m:AE) (views:List (List Int)) (op call:Int) (key val:ByteArray):Bool :=
 m.2.2.2.2.2.1&&(m.2.2.2.2.2.2.2.2.2.1==0)&&decide (m.2.2.2.2.2.2.2.2.1<900)&&(op==1||op==2)&&(decide (0<=call)&&decide (call<=1000))&&(decide (1<=(key.size:Int))&&decide ((key.size:Int)<=12))&&decide ((val.size:Int)<=20)&&(op==1||yS val)&&decide (m.2.1<=(views.length:Int))&&((views.getD (m.2.1-1).toNat []).getD 0 0==m.1)
def HG (m:AE) (key val:ByteArray):AP:=(key,val,1000*m.2.1+(m.2.2.2.2.2.2.2.2.1+1))
def HR (m:AE) (view:List Int) (op call:Int) (key val:ByteArray):AE :=
 (m.1,m.2.1,m.2.2.1,m.2.2.2.1,m.2.2.2.2.1,m.2.2.2.2.2.1,m.2.2.2.2.2.2.1,m.2.2.2.2.2.2.2.1,m.2.2.2.2.2.2.2.2.1+1,op,call,m.2.2.2.2.2.2.2.2.1+1,HG m key val,D3 view m.1)
def uo (m:AE) (view:List Int) (op:Int) (key val:ByteArray):List Bc :=
 (CI view m.1).map fun v=>(if op=1 then 5 else 7,m.1,v,m.2.1,m.2.2.2.2.2.2.2.2.1+1,if op=1 then [HG m key val] else [])
def Ts (m:AE) (view:List Int) (op call:Int) (key val:ByteArray):AE×List Bc×List DH×Bool :=
 if D3 view m.1=[] then ((CA (HR m view op call key val)).2,[],(CA (HR m view op call key val)).1,true) else (HR m view op call key val,uo m view op key val,[],true)
def D5 (m:AE) (views:List (List Int)) (op call:Int) (key val:ByteArray):AE×List Bc×List DH×Bool :=
 if Yg m views op call key val=true then
  (if op=1/\OI (.pair .str (.pair .str (.int .i64))) (BT (An m.2.2.2.2.2.2.2.1 (HG m key val)) key) (HG m key val)=false then (LP,[],[],false) else Ts m (views.getD (m.2.1-1).toNat []) op call key val)
 else (LP,[],[],false)
theorem rL (m:AE) (views:List (List Int)) (op call:Int) (key val:ByteArray) (hm:Kb m) (hv:SX views):YN m views op call key val=some (D5 m views op call key val):=yO (by
 have hvl:=hv.len
 have hep:=hm.ep
 have hl:=hm.lens
 have hcnt:=hm.count
 have wm:IntKind.i64.wrap (m.2.1-1)=m.2.1-1:=Af (by omega)
 have wc:IntKind.i64.wrap (m.2.2.2.2.2.2.2.2.1+1)=m.2.2.2.2.2.2.2.2.1+1:=Af (by omega)
 have w1:IntKind.i64.wrap (1000*m.2.1)=1000*m.2.1:=Af (by omega)
 have w2:IntKind.i64.wrap (1000*m.2.1+(m.2.2.2.2.2.2.2.2.1+1))=1000*m.2.1+(m.2.2.2.2.2.2.2.2.1+1):=Af (by omega)
 unfold lP
 rw [MQ hm,Y,if_neg (by simp),HF hv,Y,if_neg (by simp)]
 have bad:Yg m views op call key val=false->D5 m views op call key val=(LP,[],[],false):=fun h=>by unfold D5; rw [h]; rfl
 by_cases c1:m.2.2.2.2.2.1=true
 case neg =>
  rw [if_pos (by simpa using c1),bad (by unfold Yg; simp [c1])]
  rfl
 rw [if_neg (by simpa using c1)]
 by_cases c2:m.2.2.2.2.2.2.2.2.2.1=0
 case neg =>
  rw [if_pos (by simpa using c2),bad (by unfold Yg; simp [c2])]
  rfl
 rw [if_neg (by simpa using c2)]
 by_cases c3:m.2.2.2.2.2.2.2.2.1<900
 case neg =>
  rw [if_pos (by simp; omega),bad (by unfold Yg; simp [c3])]
  rfl
 rw [if_neg (by simp; omega)]
 have view:∀ (hep2:m.2.1<=(views.length:Int)),1<=(views.getD (m.2.1-1).toNat []).length/\(views.getD (m.2.1-1).toNat []).length<=4:=fun h=>hv.get (by omega)
 have L2:∀ (v:List Int) (hv:v.length<=4) (y:AE) (its:List AP),op=1->FI op [] v 0 m y [] (HR m v op call key val) (HG m key val) its=some (HR m v op call key val,uo m v op key val,[],true):=by
  intro v hv y its ho
  have key':=E0 (n:=v.length) (P:=fun i=>∀ acc:List Bc,acc.length<=i->FI op [] v (i:Int) m y acc (HR m v op call key val) (HG m key val) its=some (HR m v op call key val,acc++((v.drop i).filter (· != m.1)).map (fun v=>((5:Int),m.1,v,m.2.1,m.2.2.2.2.2.2.2.2.1+1,[HG m key val])),[],true)) (fun acc ha=>a_ (by
   unfold Q0
   rw [if_neg (by simp)]
   simp)) (fun i hi ih acc ha=>a_ (by
   unfold Q0
   simp only [show ((i:Int)<(v.length:Int)) from by omega,decide_true,if_true,show (0:Int)<=(i:Int) from by omega,Ai,AU hi,AM (show i<9223372036854775807 by omega),ho,beq_self_eq_true]
   rw [ho] at ih
   rw [BC hi,List.filter_cons]
   by_cases hh:v[i]=m.1
   ·rw [if_pos (by simpa using hh),ih _ (by omega),if_neg (by simpa using hh)]
   ·rw [if_neg (by simpa using hh),if_pos (by simp; omega),ih _ (by simp; omega),if_pos (by simpa using hh),List.map_cons,Bv]
    rfl)) 0 (by omega) [] (by simp)
  unfold uo
  rw [if_pos ho,if_pos ho]
  exact key'
 have L4:∀ (v:List Int) (hv:v.length<=4) (y:AE),op≠1->FJ op [] v 0 m y [] (HR m v op call key val) (HG m key val)=some (HR m v op call key val,uo m v op key val,[],true):=by
  intro v hv y ho
  have key':=E0 (n:=v.length) (P:=fun i=>∀ acc:List Bc,acc.length<=i->FJ op [] v (i:Int) m y acc (HR m v op call key val) (HG m key val)=some (HR m v op call key val,acc++((v.drop i).filter (· != m.1)).map (fun v=>((7:Int),m.1,v,m.2.1,m.2.2.2.2.2.2.2.2.1+1,([]:List AP))),[],true)) (fun acc ha=>bA (by
   unfold Q1
   rw [if_neg (by simp)]
   simp)) (fun i hi ih acc ha=>bA (by
   unfold Q1
   have ho':¬ ((op==1)=true):=by simpa using ho
   simp only [show ((i:Int)<(v.length:Int)) from by omega,decide_true,if_true,show (0:Int)<=(i:Int) from by omega,Ai,AU hi,AM (show i<9223372036854775807 by omega),if_neg ho']
   rw [BC hi,List.filter_cons]
   by_cases hh:v[i]=m.1
   ·rw [if_pos (by simpa using hh),ih _ (by omega),if_neg (by simpa using hh)]
   ·rw [if_neg (by simpa using hh),if_pos (by simp; omega),ih _ (by simp; omega),if_pos (by simpa using hh),List.map_cons,Bv]
    rfl)) 0 (by omega) [] (by simp)
  unfold uo
  rw [if_neg ho,if_neg ho]
  exact key'
 have nil_iff:∀ l:List Int,((l.length:Int)==0)=true↔l=[]:=fun l=>by
  rw [beq_iff_eq]
  exact ⟨fun h=>E5.1 (by omega),fun h=>by rw [h]; rfl⟩
 have J1:∀ (b:Bool) (y:AE) (its:List AP),op=1->m.2.1<=(views.length:Int)->Qy views op call [] b m y [] (m.1,m.2.1,m.2.2.1,m.2.2.2.1,m.2.2.2.2.1,m.2.2.2.2.2.1,m.2.2.2.2.2.2.1,m.2.2.2.2.2.2.2.1,m.2.2.2.2.2.2.2.2.1+1,m.2.2.2.2.2.2.2.2.2) (HG m key val) its=some (Ts m (views.getD (m.2.1-1).toNat []) op call key val):=fun b y its ho he=>qk (by
  have:=view he
  unfold ax Ts
  rw [wm,if_pos (by omega),if_pos (by omega),K9 _ _ (by unfold maxLen; omega),Y]
  by_cases hz:D3 (views.getD (m.2.1-1).toNat []) m.1=[]
  ·rw [if_pos ((nil_iff _).2 hz),if_pos hz]
   have:=K_ (HR m (views.getD (m.2.1-1).toNat []) op call key val) (by show m.2.2.2.2.2.2.2.1.length<=_; omega)
   unfold HR at this
   simp only
   rw [this]
   rfl
  ·rw [if_neg (fun h=>hz ((nil_iff _).1 h)),if_neg hz]
   exact L2 _ (by omega) y its ho)
 have J3:∀ (b:Bool) (y:AE),op≠1->m.2.1<=(views.length:Int)->Qz views op call [] b m y [] (m.1,m.2.1,m.2.2.1,m.2.2.2.1,m.2.2.2.2.1,m.2.2.2.2.2.1,m.2.2.2.2.2.2.1,m.2.2.2.2.2.2.2.1,m.2.2.2.2.2.2.2.2.1+1,m.2.2.2.2.2.2.2.2.2) (HG m key val)=some (Ts m (views.getD (m.2.1-1).toNat []) op call key val):=fun b y ho he=>ql (by
  have:=view he
  unfold ay Ts
  rw [wm,if_pos (by omega),if_pos (by omega),K9 _ _ (by unfold maxLen; omega),Y]
  by_cases hz:D3 (views.getD (m.2.1-1).toNat []) m.1=[]
  ·rw [if_pos ((nil_iff _).2 hz),if_pos hz]
   have:=K_ (HR m (views.getD (m.2.1-1).toNat []) op call key val) (by show m.2.2.2.2.2.2.2.1.length<=_; omega)
   unfold HR at this
   simp only
   rw [this]
   rfl
  ·rw [if_neg (fun h=>hz ((nil_iff _).1 h)),if_neg hz]
   exact L4 _ (by omega) y ho)
 have J0:∀ (b:Bool) (y:AE),Yg m views op call key val=true->m.2.1<=(views.length:Int)->DQ views op call key val [] b m y []=some (D5 m views op call key val):=fun b y hmay he=>qm (by
  unfold az D5
  rw [if_pos hmay,hm.copy,Y,wc,w1,w2]
  by_cases ho:op=1
  ·rw [if_pos (by simpa using ho),Jb _ _ (by omega),Y,Xd _ _ (by have:=pC m.2.2.2.2.2.2.2.1 (key,val,1000*m.2.1+(m.2.2.2.2.2.2.2.2.1+1)); unfold maxLen; omega),Y]
   cases hq:OI (.pair .str (.pair .str (.int .i64))) (BT (An m.2.2.2.2.2.2.2.1 (HG m key val)) key) (HG m key val) with
   | false =>
    have hq':OI AF (BT (An m.2.2.2.2.2.2.2.1 (key,val,1000*m.2.1+(m.2.2.2.2.2.2.2.2.1+1))) key) (key,val,1000*m.2.1+(m.2.2.2.2.2.2.2.2.1+1))=false:=hq
    rw [hq',if_pos (show (true != false)=true from rfl),if_pos (show op=1/\false=false from ⟨ho,rfl⟩)]
    rfl
   | true =>
    have hq':OI AF (BT (An m.2.2.2.2.2.2.2.1 (key,val,1000*m.2.1+(m.2.2.2.2.2.2.2.2.1+1))) key) (key,val,1000*m.2.1+(m.2.2.2.2.2.2.2.2.1+1))=true:=hq
    rw [hq',if_neg (show ¬ (true != true)=true by simp),if_neg (show ¬ (op=1/\true=false) by rintro ⟨_,h⟩; cases h)]
    exact J1 _ y _ ho he
  ·rw [if_neg (by simpa using ho),if_neg (fun h=>ho h.1)]
   exact J3 _ y ho he)
 have tail:op=1\/op=2->((AW call 0 1000).bind fun y3=>(if (!y3)=true then (some (LP,([]:List Bc),([]:List DH),false)) else ((AW (key.size:Int) 1 12).bind fun y4=>(if (!y4)=true then (some (LP,([]:List Bc),([]:List DH),false)) else (if (decide ((val.size:Int)>20))=true then (some (LP,([]:List Bc),([]:List DH),false)) else (if (op==2)=true then (if (!(val.toList==(⟨#[]⟩:ByteArray).toList))=true then (some (LP,([]:List Bc),([]:List DH),false)) else (if (decide (m.2.1>(views.length:Int)))=true then (some (LP,([]:List Bc),([]:List DH),false)) else (if 0<=(IntKind.i64.wrap (m.2.1-1)) then (if (IntKind.i64.wrap (m.2.1-1))<(views.length:Int) then (if 0<=(0:Int) then (if (0:Int)<((views.getD (IntKind.i64.wrap (m.2.1-1)).toNat ([]:List Int)).length:Int) then (if (((views.getD (IntKind.i64.wrap (m.2.1-1)).toNat ([]:List Int)).getD (0:Int).toNat 0) != m.1)=true then (some (LP,([]:List Bc),([]:List DH),false)) else (DQ views op call key val ([]:List DH) (((views.getD (IntKind.i64.wrap (m.2.1-1)).toNat ([]:List Int)).getD (0:Int).toNat 0) != m.1) m LP ([]:List Bc))) else none) else none) else none) else none))) else (if (decide (m.2.1>(views.length:Int)))=true then (some (LP,([]:List Bc),([]:List DH),false)) else (if 0<=(IntKind.i64.wrap (m.2.1-1)) then (if (IntKind.i64.wrap (m.2.1-1))<(views.length:Int) then (if 0<=(0:Int) then (if (0:Int)<((views.getD (IntKind.i64.wrap (m.2.1-1)).toNat ([]:List Int)).length:Int) then (if (((views.getD (IntKind.i64.wrap (m.2.1-1)).toNat ([]:List Int)).getD (0:Int).toNat 0) != m.1)=true then (some (LP,([]:List Bc),([]:List DH),false)) else (DQ views op call key val ([]:List DH) (((views.getD (IntKind.i64.wrap (m.2.1-1)).toNat ([]:List Int)).getD (0:Int).toNat 0) != m.1) m LP ([]:List Bc))) else none) else none) else none) else none))))))))=some (D5 m views op call key val):=by
  intro hop
  rw [A_,Y,A_,Y,wm]
  cases c5:(decide (0<=call)&&decide (call<=1000)) with
  | false=>rw [bad (by unfold Yg; rw [c5]; simp)]; rfl
  | true =>
  rw [if_neg (by simp)]
  cases c6:(decide (1<=(key.size:Int))&&decide ((key.size:Int)<=12)) with
  | false=>rw [bad (by unfold Yg; rw [c6]; simp)]; rfl
  | true =>
  rw [if_neg (by simp)]
  by_cases c7:(val.size:Int)<=20
  case neg=>rw [if_pos (by simp; omega),bad (by unfold Yg; simp [c7])]
  rw [if_neg (by simp; omega)]
  have last:(op==1||yS val)=true->(if (decide (m.2.1>(views.length:Int)))=true then (some (LP,([]:List Bc),([]:List DH),false)) else (if 0<=m.2.1-1 then (if m.2.1-1<(views.length:Int) then (if 0<=(0:Int) then (if (0:Int)<((views.getD (m.2.1-1).toNat ([]:List Int)).length:Int) then (if (((views.getD (m.2.1-1).toNat ([]:List Int)).getD (0:Int).toNat 0) != m.1)=true then (some (LP,([]:List Bc),([]:List DH),false)) else (DQ views op call key val ([]:List DH) (((views.getD (m.2.1-1).toNat ([]:List Int)).getD (0:Int).toNat 0) != m.1) m LP ([]:List Bc))) else none) else none) else none) else none))=some (D5 m views op call key val):=by
   intro c8
   by_cases c9:m.2.1<=(views.length:Int)
   case neg=>rw [if_pos (by simp; omega),bad (by unfold Yg; simp [c9])]
   have:=view c9
   rw [if_neg (by simp; omega),if_pos (by omega),if_pos (by omega),if_pos (by omega),if_pos (by omega),show (views.getD (m.2.1-1).toNat ([]:List Int)).getD (0:Int).toNat 0=(views.getD (m.2.1-1).toNat []).getD 0 0 from rfl]
   by_cases c10:(views.getD (m.2.1-1).toNat []).getD 0 0=m.1
   case neg=>rw [if_pos (by simpa using c10),bad (by unfold Yg; rw [show ((views.getD (m.2.1-1).toNat []).getD 0 0==m.1)=false from by simpa using c10,Bool.and_false])]
   rw [if_neg (by simpa using c10)]
   refine J0 _ _ ?_ c9
   unfold Yg
   rw [c1,c5,c6,c8]
   simp only [c2,beq_self_eq_true,c3,c7,c9,c10,decide_true,Bool.and_true,Bool.true_and]
   rcases hop with h | h<;>simp [h]
  by_cases c8:op=2
  ·rw [if_pos (by simpa using c8)]
   cases ce:yS val with
   | false =>
    rw [if_pos (by rw [oS,ce]; rfl),bad (by unfold Yg; rw [ce,show (op==1)=false from by simp [c8]]; simp)]
   | true =>
    rw [if_neg (by rw [oS,ce]; simp)]
    exact last (by rw [ce,Bool.or_true])
  ·rw [if_neg (by simpa using c8)]
   exact last (by rw [show (op==1)=true from by simp; omega]; rfl)
 by_cases c4:op=1
 ·rw [if_neg (by simpa using c4)]
  exact tail (.inl c4)
 ·rw [if_pos (by simpa using c4)]
  by_cases c4':op=2
  ·rw [if_neg (by simpa using c4')]
   exact tail (.inr c4')
  ·rw [if_pos (by simpa using c4'),bad (by unfold Yg; rw [show (op==1||op==2)=false from by simp [c4,c4']]; simp)]
   rfl)
structure AAk (m:AE) (r:AE×List Bc×List DH×Bool):Prop where
 mok:r.2.2.2=true->Kb r.1
 id:r.2.2.2=true->r.1.1=m.1
 ep:r.2.2.2=true->r.1.2.1=m.2.1
 told:r.2.2.2=true->i6 m r.1 r.2.1
 tlen:r.2.1.length<=4
 said:oU r.2.2.1
theorem wi {m:AE}:AAk m (LP,[],[],false):=⟨fun h=>(by cases h),fun h=>(by cases h),fun h=>(by cases h),fun h=>(by cases h),by simp,GV⟩
theorem fE {m:AE} {views:List (List Int)} {op call:Int} {key val:ByteArray} (h:Yg m views op call key val=true) :
  m.2.2.2.2.2.1=true/\m.2.2.2.2.2.2.2.2.2.1=0/\m.2.2.2.2.2.2.2.2.1<900/\(op=1\/op=2)/\(0<=call/\call<=1000)/\(1<=(key.size:Int)/\(key.size:Int)<=12)/\(val.size:Int)<=20/\(op=1\/yS val=true)/\m.2.1<=(views.length:Int)/\(views.getD (m.2.1-1).toNat []).getD 0 0=m.1:=by
 unfold Yg at h
 simp only [AD,Ec,decide_eq_true_eq,beq_iff_eq] at h
 obtain ⟨⟨⟨⟨⟨⟨⟨⟨⟨h1,h2⟩,h3⟩,h4⟩,h5⟩,h6⟩,h7⟩,h8⟩,h9⟩,h10⟩:=h
 exact ⟨h1,h2,h3,h4,h5,h6,h7,h8,h9,h10⟩
theorem uq {m:AE} {key val:ByteArray} (h:Kb m) (h3:m.2.2.2.2.2.2.2.2.1<900) (h6:1<=(key.size:Int)/\(key.size:Int)<=12) (h7:(val.size:Int)<=20):Ax [HG m key val]=true:=by
 refine DG.2 ⟨fun b hb=>?_,?_,by simp⟩
 ·simp only [Cj] at hb
  subst hb
  unfold If HG
  have:=h.ep
  have:=h.count
  simp only [AD,decide_eq_true_eq]
  omega
 ·exact wg.2 (by simp)
theorem Kb.task1 {m:AE} {view:List Int} {op call:Int} {key val:ByteArray} (h:Kb m) (h1:m.2.2.2.2.2.1=true) (h3:m.2.2.2.2.2.2.2.2.1<900) (h4:op=1\/op=2) (h5:0<=call/\call<=1000):Kb (HR m view op call key val):=by
 have hc:=h.count
 refine ⟨h.id,h.ep,h.serves,h.fell,h.waits,Yf _ _,h.items,?_,.inr ?_⟩
 ·show 0<=m.2.2.2.2.2.2.2.2.1+1/\m.2.2.2.2.2.2.2.2.1+1<=900
  omega
 ·unfold GU HR
  rw [h1]
  simp only [AD,Ec,decide_eq_true_eq,beq_iff_eq]
  exact ⟨⟨⟨h4,trivial⟩,h5⟩,by omega⟩
theorem fF {m:AE} {views:List (List Int)} {op call:Int} {key val:ByteArray} (hm:Kb m) (hv:SX views):AAk m (D5 m views op call key val):=by
 unfold D5
 split
 ·rename_i hmay
  obtain ⟨h1,h2,h3,h4,h5,h6,h7,h8,h9,h10⟩:=fE hmay
  split
  ·exact wi
  ·unfold Ts
   have hep:=hm.ep
   have ht:=hm.task1 (view:=views.getD (m.2.1-1).toNat []) (key:=key) (val:=val) h1 h3 h4 h5
   have h0:(HR m (views.getD (m.2.1-1).toNat []) op call key val).2.2.2.2.2.2.2.2.2.1≠0:=by show op≠0; omega
   have hw:=hv.wok (i:=(m.2.1-1).toNat) (by omega)
   split
   ·exact ⟨fun _=>ht.finish,fun _=>(by unfold CA; split<;>rfl),fun _=>(by unfold CA; split<;>rfl),fun _=>eP,by simp,pD ht h0⟩
   ·refine ⟨fun _=>ht,fun _=>rfl,fun _=>rfl,fun _=>?_,?_,GV⟩
    ·unfold uo
     have hc:=hm.count
     have hi:=uq hm h3 h6 h7
     refine mD (n:=HR m (views.getD (m.2.1-1).toNat []) op call key val) hm.id hm.ep hw.mem (by split<;>omega) (by omega) ?_ ?_
     ·split
      ·exact hi
      ·exact SY
     ·by_cases ho:op=1
      ·rw [if_pos ho,if_pos ho,if_neg (by omega),if_pos rfl]; rfl
      ·rw [if_neg ho,if_neg ho,if_neg (by omega),if_neg (by omega)]
    ·unfold uo
     simp only [List.length_map]
     have:=Ij (views.getD (m.2.1-1).toNat []) m.1
     have:=hw.len
     omega
 ·exact wi
def Ms (m:AE) (e:Int):AE:=(m.1,e,false,false,true,false,([]:List Int),m.2.2.2.2.2.2.2.1,(0:Int),(0:Int),(0:Int),(0:Int),(O,O,(0:Int)),([]:List Int))
def Fq (m:AE) (views:List (List Int)) (e:Int):AE×List Bc×Bool :=
 if 2<=e/\e<=(views.length:Int)/\m.2.1<e/\(views.getD (e-1).toNat []).getD 0 0=m.1 then
  if (m.2.2.2.1&&(m.2.1==e-1)&&(views.getD (e-2).toNat []).contains m.1)=true then
   (T1 (Ms m e) (views.getD (e-1).toNat []) m.2.2.2.2.2.2.2.1,(CI (views.getD (e-1).toNat []) m.1).map (fun v=>(3,m.1,v,e,0,m.2.2.2.2.2.2.2.1)),true)
  else (Ms m e,(CI (views.getD (e-2).toNat []) m.1).map (fun v=>(1,m.1,v,e,0,[])),true)
 else (LP,[],false)
theorem Kb.new1 {m:AE} (h:Kb m) {e:Int} (he:1<=e/\e<=9):Kb (Ms m e) :=
 ⟨h.id,he,fun hs=>(by cases hs),fun hf=>(by cases hf),⟨by simp [Ms],by simp [Ms]⟩,⟨by simp [Ms],by simp [Ms]⟩,h.items,⟨by simp [Ms],by simp [Ms]⟩,.inl fD⟩
theorem rM (m:AE) (views:List (List Int)) (e:Int) (hm:Kb m) (hv:SX views):YO m views e=some (Fq m views e):=yP (by
 have hvl:=hv.len
 have hep:=hm.ep
 have hl:=hm.lens
 unfold lQ Fq
 rw [MQ hm,Y,if_neg (by simp),HF hv,Y,if_neg (by simp),A_,Y]
 by_cases h1:2<=e/\e<=(views.length:Int)
 case neg =>
  rw [if_pos (by rw [<- Bool.decide_and,decide_eq_false h1]; rfl),if_neg (fun h=>h1 ⟨h.1,h.2.1⟩)]
  rfl
 have we:IntKind.i64.wrap (e-1)=e-1:=Af (by omega)
 have we2:IntKind.i64.wrap (e-2)=e-2:=Af (by omega)
 rw [if_neg (by rw [<- Bool.decide_and,decide_eq_true h1]; simp),we]
 by_cases h2:m.2.1<e
 case neg =>
  rw [if_pos (by simp; omega),if_neg (fun h=>h2 h.2.2.1)]
  rfl
 have g1:=hv.get (i:=(e-1).toNat) (by omega)
 have g2:=hv.get (i:=(e-2).toNat) (by omega)
 rw [if_neg (by simp; omega),if_pos (by omega),if_pos (by omega),if_pos (by omega),if_pos (by omega),show (views.getD (e-1).toNat ([]:List Int)).getD (0:Int).toNat 0=(views.getD (e-1).toNat []).getD 0 0 from rfl]
 by_cases h3:(views.getD (e-1).toNat []).getD 0 0=m.1
 case neg =>
  rw [if_pos (by simpa using h3),if_neg (fun h=>h3 h.2.2.2)]
  rfl
 rw [if_neg (by simpa using h3),if_pos ⟨h1.1,h1.2,h2,h3⟩]
 have L2:∀ y,Gp views e 0 m y [] ([]++m.2.2.2.2.2.2.2.1) (Ms m e)=some (Ms m e,(CI (views.getD (e-2).toNat []) m.1).map (fun v=>(1,m.1,v,e,0,[])),true):=by
  intro y
  have hcopy:=(hm.new1 (e:=e) (by omega)).copy
  have key':=E0 (n:=(views.getD (e-2).toNat []).length) (P:=fun i=>∀ acc:List Bc,acc.length<=i->Gp views e (i:Int) m y acc ([]++m.2.2.2.2.2.2.2.1) (Ms m e)=some (Ms m e,acc++(((views.getD (e-2).toNat []).drop i).filter (· != m.1)).map (fun v=>((1:Int),m.1,v,e,(0:Int),([]:List AP))),true)) (fun acc ha=>bE (by
   unfold Q2
   rw [we2,if_pos (by omega),if_pos (by omega),if_neg (by simp),hcopy]
   simp)) (fun i hi ih acc ha=>bE (by
   unfold Q2
   rw [we2,if_pos (by omega),if_pos (by omega)]
   simp only [show ((i:Int)<((views.getD (e-2).toNat ([]:List Int)).length:Int)) from by omega,decide_true,if_true,show (0:Int)<=(i:Int) from by omega,Ai,AM (show i<9223372036854775807 by omega),show (0:Int)<=e-2 from by omega,show e-2<(views.length:Int) from by omega]
   rw [AU hi,BC hi,List.filter_cons]
   by_cases hh:((views.getD (e-2).toNat ([]:List Int))[i] != m.1)=true
   ·rw [if_pos hh,if_pos (by simp; omega),ih _ (by simp; omega),if_pos hh,List.map_cons,Bv]
    rfl
   ·rw [if_neg hh,ih _ (by omega),if_neg hh])) 0 (by omega) [] (by simp)
  exact key'
 have J1:∀ (b:Bool) y,Iw views e b m y []=some (if b=true then (T1 (Ms m e) (views.getD (e-1).toNat []) m.2.2.2.2.2.2.2.1,(CI (views.getD (e-1).toNat []) m.1).map (fun v=>(3,m.1,v,e,0,m.2.2.2.2.2.2.2.1)),true) else (Ms m e,(CI (views.getD (e-2).toNat []) m.1).map (fun v=>(1,m.1,v,e,0,[])),true)):=fun b y=>qo (by
  unfold bC
  rw [we,if_pos (by simp; omega)]
  cases b
  ·rw [if_neg (by simp)]
   exact L2 y
  ·rw [if_pos rfl,if_pos (by omega),if_pos (by omega)]
   have hh:=Xm (views.getD (e-1).toNat []) m.2.2.2.2.2.2.2.1 (Ms m e) (by omega) (by omega)
   have hc:=((hm.new1 (e:=e) (by omega)).has (view:=views.getD (e-1).toNat []) (its:=m.2.2.2.2.2.2.2.1) rfl rfl hm.items).copy
   unfold Ms at hh hc ⊢
   simp only [List.nil_append]
   rw [hh,Y,hc]
   rfl)
 refine qp ?_
 unfold bD
 rw [we,we2,Cy _ _ (by unfold maxLen; omega),Y]
 simp only [J1]
 rw [if_pos (show (0:Int)<=e-2 by omega),if_pos (show e-2<(views.length:Int) by omega)]
 cases m.2.2.2.1<;>cases (m.2.1==e-1)<;>cases (views.getD (e-2).toNat ([]:List Int)).contains m.1<;>rfl)
theorem Xn {m:AE} {views:List (List Int)} {e:Int} (hm:Kb m) (hv:SX views):(Fq m views e).2.2=true->Kb (Fq m views e).1/\(Fq m views e).1.1=m.1/\i6 m (Fq m views e).1 (Fq m views e).2.1/\(Fq m views e).2.1.length<=4:=by
 intro h
 have hvl:=hv.len
 have hep:=hm.ep
 unfold Fq at h ⊢
 split
 ·rename_i hc
  have he:1<=e/\e<=9:=by omega
  split
  ·have hw:=hv.wok (i:=(e-1).toNat) (by omega)
   refine ⟨(hm.new1 he).has rfl rfl hm.items,rfl,mD (n:=T1 (Ms m e) (views.getD (e-1).toNat []) m.2.2.2.2.2.2.2.1) hm.id he hw.mem (by omega) (by omega) hm.items (by simp),?_⟩
   simp only [List.length_map]
   have:=Ij (views.getD (e-1).toNat []) m.1
   have:=hw.len
   omega
  ·have hw:=hv.wok (i:=(e-2).toNat) (by omega)
   refine ⟨hm.new1 he,rfl,mD (n:=Ms m e) hm.id he hw.mem (by omega) (by omega) SY (by simp),?_⟩
   simp only [List.length_map]
   have:=Ij (views.getD (e-2).toNat []) m.1
   have:=hw.len
   omega
 ·rename_i hc
  rw [if_neg hc] at h
  cases h
def Xo (m:AE):AE:=(m.1,m.2.1,true,false,false,false,([]:List Int),([]:List AP),(0:Int),(0:Int),(0:Int),(0:Int),(O,O,(0:Int)),([]:List Int))
theorem wC (m:AE):dF m=some (Xo m):=zU rfl
theorem Kb.fall1 {m:AE} (h:Kb m):Kb (Xo m) :=
 ⟨h.id,h.ep,fun hs=>(by cases hs),fun hf=>⟨rfl,rfl⟩,⟨by simp [Xo],by simp [Xo]⟩,⟨by simp [Xo],by simp [Xo]⟩,SY,⟨by simp [Xo],by simp [Xo]⟩,.inl fD⟩
def E1 (id:Int) (views:List (List Int)):AE :=
 (id,(1:Int),false,(views.getD 0 []).contains id,((views.getD 0 []).getD 0 0==id),((views.getD 0 []).getD 0 0==id),([]:List Int),([]:List AP),(0:Int),(0:Int),(0:Int),(0:Int),(O,O,(0:Int)),([]:List Int))
theorem fq (id:Int) (views:List (List Int)) (hi:1<=id/\id<=6) (hv:SX views):Oy id views=some (E1 id views,true):=np (by
 have hvl:=hv.len
 have g:=hv.get (i:=0) (by omega)
 unfold XG
 rw [HF hv,Y,if_pos (by rfl),A_,Y,if_neg (by rw [<- Bool.decide_and,decide_eq_true hi]; simp)]
 refine fc ?_
 unfold Ru
 rw [show views.getD (0:Int).toNat ([]:List Int)=views.getD 0 [] from rfl,Cy _ _ (by unfold maxLen; omega),Y]
 repeat rw [if_pos (by omega)]
 rfl)
theorem Kb.first1 {id:Int} {views:List (List Int)} (hi:1<=id/\id<=6) (hv:SX views):Kb (E1 id views):=by
 have hvl:=hv.len
 have g:=hv.get (i:=0) (by omega)
 refine ⟨hi,by simp [E1],fun hs=>⟨?_,hs,rfl⟩,fun hf=>(by cases hf),⟨by simp [E1],by simp [E1]⟩,⟨by simp [E1],by simp [E1]⟩,SY,⟨by simp [E1],by simp [E1]⟩,.inl fD⟩
 simp only [E1,beq_iff_eq] at hs ⊢
 rw [<- hs,List.contains_iff_mem,AU (show 0<(views.getD 0 []).length by omega)]
 exact BU _

abbrev F6:Type:=Int×ByteArray×ByteArray×Int×Int×Int×Int×Int×ByteArray
abbrev AS:Type:=List (List Int)×List AE×List Bc×List F6
abbrev D6:Type:=Int×Int×Int×Int×ByteArray×ByteArray
def EZ:F6:=((0:Int),O,O,(0:Int),(0:Int),(0:Int),(0:Int),(0:Int),O)
def DM:Bc:=((0:Int),(0:Int),(0:Int),(0:Int),(0:Int),([]:List AP))
def BB (g:AS) (i:Nat):AE:=g.2.1.getD i LP
theorem AAH (g:AS) (i:Nat):g.2.1.getD i ((0:Int),(0:Int),false,false,false,false,([]:List Int),([]:List AP),(0:Int),(0:Int),(0:Int),(0:Int),(O,O,(0:Int)),([]:List Int))=BB g i:=rfl
structure Jg (g:AS) (n:Nat):Prop where
 views:SX g.1
 six:g.2.1.length=6
 mem:∀ i,i<6->Kb (BB g i)/\(BB g i).1=(i:Int)+1
 fly:∀ x∈g.2.2.1,XOk x
 flen:g.2.2.1.length<=8*n
 clen:g.2.2.2.length<=n
def Tt (at_:Int) (s:DH) (c:F6):F6 :=
 (c.1,c.2.1,c.2.2.1,c.2.2.2.1,at_,s.2.2.2.2.2,s.2.1,s.2.2.1,if (c.1==2)=true then s.2.2.2.2.1 else c.2.2.2.2.2.2.2.2)
def H5 (at_:Int) (cs:List F6) (s:DH):List F6 :=
 if (decide (s.1>=(cs.length:Int))||decide ((cs.getD s.1.toNat EZ).2.2.2.2.1>=0))=true then cs else cs.set s.1.toNat (Tt at_ s (cs.getD s.1.toNat EZ))
def BZ (g:AS) (n:AE) (told:List Bc) (said:List DH) (at_:Int):AS :=
 (g.1,g.2.1.set (n.1-1).toNat n,g.2.2.1++told,said.foldl (H5 at_) g.2.2.2)
theorem ABW (at_:Int) (cs:List F6) (s:DH):(H5 at_ cs s).length=cs.length:=by unfold H5; split<;>simp
theorem i7 (at_:Int):∀ (said:List DH) (cs:List F6),(said.foldl (H5 at_) cs).length=cs.length
 | [],cs=>rfl
 | s::l,cs=>by rw [List.foldl_cons,i7 at_ l,ABW]
theorem rd {α:Type} {l:List α} {i:Nat} {a d:α} (h:i<l.length):(l.set i a).getD i d=a:=by simp [List.getD,h]
theorem HY (n:AE) (told:List Bc) (said:List DH) (at_:Int) (g:AS) (hn:1<=n.1/\n.1<=6) (h6:g.2.1.length=6) (hf:g.2.2.1.length+told.length<=68719476736) (hc:g.2.2.2.length<=68719476736) (hs:oU said) :
  GB n told said at_ g=some (BZ g n told said at_):=nq (by
 have hsl:=hs.1
 unfold XH
 rw [Af (show -9223372036854775808<=n.1-1/\n.1-1<=9223372036854775807 by omega)]
 simp only [List.nil_append,List.length_nil,Nat.zero_add]
 rw [if_pos (by omega),if_pos (by omega),if_pos (by omega),if_pos (by omega),if_pos (by omega)]
 have key:=E0 (n:=said.length) (P:=fun i=>∀ (cs:List F6),cs.length<=68719476736->C9 said at_ (i:Int) (g.1,g.2.1.set (n.1-1).toNat n,g.2.2.1++told,cs) n (g.2.1.set (n.1-1).toNat n) (g.2.2.1++told)=some (g.1,g.2.1.set (n.1-1).toNat n,g.2.2.1++told,(said.drop i).foldl (H5 at_) cs)) (fun cs hcs=>Ry (by
  unfold K4
  rw [if_neg (by simp)]
  simp)) (fun i hi ih cs hcs=>Ry (by
  unfold K4
  have hz:said.getD i ((0:Int),(0:Int),(0:Int),O,O,(0:Int))=said[i]:=AU hi
  have h0:=(hs.2 said[i] (BU hi)).1
  simp only [show ((i:Int)<(said.length:Int)) from by omega,decide_true,if_true,show (0:Int)<=(i:Int) from by omega,Ai,hz,AM (show i<9223372036854775807 by omega)]
  have hz3:cs.getD said[i].1.toNat ((0:Int),O,O,(0:Int),(0:Int),(0:Int),(0:Int),(0:Int),O)=cs.getD said[i].1.toNat EZ:=rfl
  rw [BC hi,List.foldl_cons,hz3]
  by_cases c1:said[i].1>=(cs.length:Int)
  ·rw [if_pos (by simpa using c1),ih cs hcs]
   have:H5 at_ cs said[i]=cs:=by unfold H5; rw [if_pos (by simp [c1])]
   rw [this]
  ·rw [if_neg (by simpa using c1),if_pos (by omega),if_pos (by omega)]
   by_cases c2:(cs.getD said[i].1.toNat EZ).2.2.2.2.1>=0
   ·rw [if_pos (show decide ((cs.getD said[i].1.toNat EZ).2.2.2.2.1>=0)=true from decide_eq_true c2),ih cs hcs]
    have:H5 at_ cs said[i]=cs:=by unfold H5; rw [if_pos (by rw [decide_eq_true c2,Bool.or_true])]
    rw [this]
   ·rw [if_neg (show ¬ decide ((cs.getD said[i].1.toNat EZ).2.2.2.2.1>=0)=true from fun h=>c2 (of_decide_eq_true h))]
    have hcl:said[i].1.toNat<cs.length:=by omega
    have e:H5 at_ cs said[i]=cs.set said[i].1.toNat (Tt at_ said[i] (cs.getD said[i].1.toNat EZ)):=by unfold H5; rw [if_neg (by rw [decide_eq_false c1,decide_eq_false c2]; simp)]
    rw [e]
    refine ff ?_
    unfold Rx
    have hz2:∀ (l:List F6),l.getD said[i].1.toNat ((0:Int),O,O,(0:Int),(0:Int),(0:Int),(0:Int),(0:Int),O)=l.getD said[i].1.toNat EZ:=fun l=>rfl
    simp only [List.nil_append,List.length_nil,Nat.zero_add,hz2,rd hcl,List.set_set,List.length_set]
    have hk:∀ r,(if cs.length<=68719476736 then r else (none:Option AS))=r:=fun r=>if_pos hcs
    rw [if_pos (show cs.length<=68719476736 from hcs),if_pos (show (0:Int)<=said[i].1 from h0),if_pos (show said[i].1<(cs.length:Int) by omega),AM (show i<9223372036854775807 by omega)]
    unfold Tt
    by_cases c3:(cs.getD said[i].1.toNat EZ).1=2
    ·rw [if_pos (show ((cs.getD said[i].1.toNat EZ).1==2)=true by simpa using c3),if_pos (show ((cs.getD said[i].1.toNat EZ).1==2)=true by simpa using c3)]
     exact ih _ (by simpa using hcs)
    ·rw [if_neg (show ¬ ((cs.getD said[i].1.toNat EZ).1==2)=true by simpa using c3),if_neg (show ¬ ((cs.getD said[i].1.toNat EZ).1==2)=true by simpa using c3)]
     exact ih _ (by simpa using hcs))) 0 (by omega) g.2.2.2 hc
 exact key)
theorem ur {g:AS} {n:AE} {told:List Bc} {said:List DH} {at_:Int} {i j:Nat} (h6:g.2.1.length=6) (hj:j<6) (hn:n.1=(i:Int)+1) (hi:i<6):BB (BZ g n told said at_) j=if j=i then n else BB g j:=by
 unfold BB BZ
 simp only [hn,show ((i:Int)+1-1).toNat=i from by omega]
 by_cases e:j=i
 ·subst e
  rw [if_pos rfl]
  exact rd (by omega)
 ·rw [if_neg e]
  simp [List.getD,Bp,Ne.symm e]
theorem Jg.member {g:AS} {k:Nat} (h:Jg g k) {n:AE} {told:List Bc} {said:List DH} {at_:Int} {i:Nat} (hi:i<6) (hn:Kb n) (hid:n.1=(i:Int)+1) (ht:∀ y∈told,XOk y) (hl:told.length<=4):Jg (BZ g n told said at_) (k+1):=by
 refine ⟨h.views,by simp [BZ,h.six],fun j hj=>?_,fun x hx=>?_,?_,?_⟩
 ·rw [ur h.six hj hid hi]
  split
  ·rename_i e
   subst e
   exact ⟨hn,hid⟩
  ·exact h.mem j hj
 ·rcases As.1 hx with h1 | h1
  ·exact h.fly x h1
  ·exact ht x h1
 ·have:=h.flen
  simp only [BZ,List.length_append]
  omega
 ·have:=h.clen
  simp only [BZ,i7]
  omega
def H6 (g:AS) (at_:Int) (e:D6):AS:=(g.1,g.2.1,g.2.2.1,g.2.2.2++[(e.2.2.2.1,e.2.2.2.2.1,e.2.2.2.2.2,at_,-1,0,0,0,O)])
def Jz (g:AS) (at_:Int) (e:D6):Int×AS :=
 if (D5 (BB g (e.2.1-1).toNat) g.1 e.2.2.2.1 (g.2.2.2.length:Int) e.2.2.2.2.1 e.2.2.2.2.2).2.2.2=true then
  (0,BZ (H6 g at_ e) (D5 (BB g (e.2.1-1).toNat) g.1 e.2.2.2.1 (g.2.2.2.length:Int) e.2.2.2.2.1 e.2.2.2.2.2).1 (D5 (BB g (e.2.1-1).toNat) g.1 e.2.2.2.1 (g.2.2.2.length:Int) e.2.2.2.2.1 e.2.2.2.2.2).2.1 (D5 (BB g (e.2.1-1).toNat) g.1 e.2.2.2.1 (g.2.2.2.length:Int) e.2.2.2.2.1 e.2.2.2.2.2).2.2.1 at_)
 else (1,H6 g at_ e)
theorem mE {e:D6} (h:Jy e=true):1<=e.1/\e.1<=6/\1<=e.2.1/\e.2.1<=6/\0<=e.2.2.1:=by
 unfold Jy at h
 simp only [AD,decide_eq_true_eq] at h
 omega
theorem AAl {m n:AE} {l:List Bc} (h:i6 m n l):∀ y∈l,XOk y:=fun y hy=>(h y hy).1
theorem Jg.began {at_:Int} {e:D6} {g:AS} {k:Nat} (hg:Jg g k) (hn:1<=e.2.1/\e.2.1<=6):Jg (Jz g at_ e).2 (k+1)/\(Jz g at_ e).2.1=g.1:=by
 have hc:=hg.clen
 obtain ⟨m1,m2⟩:=hg.mem (e.2.1-1).toNat (by omega)
 have hb:=fF (op:=e.2.2.2.1) (call:=(g.2.2.2.length:Int)) (key:=e.2.2.2.2.1) (val:=e.2.2.2.2.2) m1 hg.views
 refine ⟨?_,?_⟩
 ·unfold Jz
  split
  ·rename_i hq
   have hid:=hb.id hq
   have hm:=hg.member (said:=(D5 (BB g (e.2.1-1).toNat) g.1 e.2.2.2.1 (g.2.2.2.length:Int) e.2.2.2.2.1 e.2.2.2.2.2).2.2.1) (at_:=at_) (i:=(e.2.1-1).toNat) (by omega) (hb.mok hq) (by rw [hid,m2]) (AAl (hb.told hq)) hb.tlen
   exact ⟨hm.views,hm.six,hm.mem,hm.fly,hm.flen,by simp only [BZ,i7,H6,List.length_append,List.length_cons,List.length_nil]; omega⟩
  ·exact ⟨hg.views,hg.six,hg.mem,hg.fly,by have:=hg.flen; show g.2.2.1.length<=_; omega,by simp only [H6,List.length_append,List.length_cons,List.length_nil]; omega⟩
 ·unfold Jz; split<;>rfl
theorem i8 (at_:Int) (e:D6) (g:AS) (k:Nat) (hg:Jg g k) (hk:k<=1000) (hn:1<=e.2.1/\e.2.1<=6):QY at_ e g=some (Jz g at_ e)/\Jg (Jz g at_ e).2 (k+1)/\(Jz g at_ e).2.1=g.1:=by
 have hc:=hg.clen
 have hf:=hg.flen
 have h6:=hg.six
 have wn:IntKind.i64.wrap (e.2.1-1)=e.2.1-1:=Af (by omega)
 have wl:IntKind.i64.wrap (((g.2.2.2.length+1:Nat):Int)-1)=(g.2.2.2.length:Int):=by rw [Af (by omega)]; omega
 obtain ⟨m1,m2⟩:=hg.mem (e.2.1-1).toNat (by omega)
 have hb:=fF (op:=e.2.2.2.1) (call:=(g.2.2.2.length:Int)) (key:=e.2.2.2.2.1) (val:=e.2.2.2.2.2) m1 hg.views
 refine ⟨qb ?_,hg.began hn⟩
 ·unfold ae Jz
  simp only [List.nil_append,List.length_nil,Nat.zero_add,List.length_append,List.length_cons]
  rw [if_pos (by omega),if_pos (by omega),wn,if_pos (by omega),if_pos (by omega),wl,
   AAH g (e.2.1-1).toNat,
   rL _ _ _ _ _ _ m1 hg.views,Y]
  cases hq:(D5 (BB g (e.2.1-1).toNat) g.1 e.2.2.2.1 (g.2.2.2.length:Int) e.2.2.2.2.1 e.2.2.2.2.2).2.2.2 with
  | false=>rfl
  | true =>
   have hid:=hb.id hq
   have hmo:=hb.mok hq
   have htl:=hb.tlen
   rw [if_neg (by simp),if_pos rfl]
   have:=HY (D5 (BB g (e.2.1-1).toNat) g.1 e.2.2.2.1 (g.2.2.2.length:Int) e.2.2.2.2.1 e.2.2.2.2.2).1 (D5 (BB g (e.2.1-1).toNat) g.1 e.2.2.2.1 (g.2.2.2.length:Int) e.2.2.2.2.1 e.2.2.2.2.2).2.1 (D5 (BB g (e.2.1-1).toNat) g.1 e.2.2.2.1 (g.2.2.2.length:Int) e.2.2.2.2.1 e.2.2.2.2.2).2.2.1 at_ (H6 g at_ e) hmo.id h6 (by show g.2.2.1.length+_<=_; omega) (by simp only [H6,List.length_append,List.length_cons,List.length_nil]; omega) hb.said
   unfold H6 at this ⊢
   rw [this]
   rfl

def Ik (g:AS) (at_:Int) (m:AE) (node:Int):Nat->Int->Int×AS
 | 0,_=>(1,g)
 | k+1,e=>if ((g.1.getD (e-1).toNat []).getD 0 0 != node)=true then Ik g at_ m node k (e+1)
  else if (Fq m g.1 e).2.2=true then (0,BZ g (Fq m g.1 e).1 (Fq m g.1 e).2.1 [] at_) else (1,g)
def eQ (g:AS) (at_ node:Int):Int×AS:=Ik g at_ (BB g (node-1).toNat) node ((g.1.length:Int)-(BB g (node-1).toNat).2.1).toNat ((BB g (node-1).toNat).2.1+1)
theorem Jg.up {g:AS} {k:Nat} (h:Jg g k):Jg g (k+1):=⟨h.views,h.six,h.mem,h.fly,by have:=h.flen; omega,by have:=h.clen; omega⟩
theorem Jg.adopted {at_ node:Int} {g:AS} {k:Nat} (hg:Jg g k) (hn:1<=node/\node<=6):∀ (j:Nat) (e:Int),Jg (Ik g at_ (BB g (node-1).toNat) node j e).2 (k+1)/\(Ik g at_ (BB g (node-1).toNat) node j e).2.1=g.1
 | 0,_=>⟨hg.up,rfl⟩
 | j+1,e=>by
  obtain ⟨m1,m2⟩:=hg.mem (node-1).toNat (by omega)
  unfold Ik
  split
  ·exact Jg.adopted hg hn j (e+1)
  ·split
   ·rename_i hq
    obtain ⟨a1,a2,a3,a4⟩:=Xn (e:=e) m1 hg.views hq
    exact ⟨hg.member (i:=(node-1).toNat) (by omega) a1 (by rw [a2,m2]) (AAl a3) a4,rfl⟩
   ·exact ⟨hg.up,rfl⟩
theorem i9 (at_ node:Int) (g:AS) (k:Nat) (hg:Jg g k) (hk:k<=1000) (hn:1<=node/\node<=6):QZ at_ node g=some (eQ g at_ node)/\Jg (eQ g at_ node).2 (k+1)/\(eQ g at_ node).2.1=g.1:=by
 have hc:=hg.clen
 have hf:=hg.flen
 have h6:=hg.six
 have hvl:=hg.views.len
 have wn:IntKind.i64.wrap (node-1)=node-1:=Af (by omega)
 obtain ⟨m1,m2⟩:=hg.mem (node-1).toNat (by omega)
 have hep:=m1.ep
 have wm:IntKind.i64.wrap ((BB g (node-1).toNat).2.1+1)=(BB g (node-1).toNat).2.1+1:=Af (by omega)
 have key:∀ (j:Nat) (e:Int),e=(g.1.length:Int)+1-(j:Int)->2<=e->Ia at_ node e g (BB g (node-1).toNat)=some (Ik g at_ (BB g (node-1).toNat) node j e):=by
  intro j
  induction j with
  | zero =>
   intro e he h2
   refine MN ?_
   unfold Ib
   rw [if_neg (by simp; omega)]
   rfl
  | succ j ih =>
   intro e he h2
   have we:IntKind.i64.wrap (e-1)=e-1:=Af (by omega)
   have we2:IntKind.i64.wrap (e+1)=e+1:=Af (by omega)
   have gv:=hg.views.get (i:=(e-1).toNat) (by omega)
   have ha:=Xn (e:=e) m1 hg.views
   have i1:=ih (e+1) (by omega) (by omega)
   unfold Ik
   refine MN ?_
   ·unfold Ib
    rw [if_pos (by simp; omega),we,we2,if_pos (by omega),if_pos (by omega),if_pos (by omega),if_pos (by omega),show (g.1.getD (e-1).toNat ([]:List Int)).getD (0:Int).toNat 0=(g.1.getD (e-1).toNat []).getD 0 0 from rfl]
    by_cases h3:((g.1.getD (e-1).toNat []).getD 0 0 != node)=true
    ·rw [if_pos h3,if_pos h3,i1]
    ·rw [if_neg h3,if_neg h3,rM _ _ _ m1 hg.views,Y]
     cases hq:(Fq (BB g (node-1).toNat) g.1 e).2.2 with
     | false=>rfl
     | true =>
      obtain ⟨a1,a2,a3,a4⟩:=ha hq
      rw [if_neg (by simp),if_pos rfl,HY _ _ _ _ _ a1.id h6 (by omega) (by omega) GV]
      rfl
 have hmain:=key ((g.1.length:Int)-(BB g (node-1).toNat).2.1).toNat ((BB g (node-1).toNat).2.1+1)
 by_cases hle:(BB g (node-1).toNat).2.1<=(g.1.length:Int)
 ·have k1:=hmain (by omega) (by omega)
  refine ⟨af ?_,hg.adopted hn _ _⟩
  unfold Qx
  rw [wn,if_pos (by omega),if_pos (by omega),AAH g (node-1).toNat,wm]
  exact k1
 ·have e0:((g.1.length:Int)-(BB g (node-1).toNat).2.1).toNat=0:=by omega
  unfold eQ
  rw [e0]
  refine ⟨af ?_,hg.up,rfl⟩
  unfold Qx
  rw [wn,if_pos (by omega),if_pos (by omega),AAH g (node-1).toNat,wm]
  refine MN ?_
  unfold Ib
  rw [if_neg (fun h=>hle (by have:=of_decide_eq_true h; omega))]
  rfl
def Fb (g:AS) (i:Nat):AS:=(g.1,g.2.1,g.2.2.1.take i++g.2.2.1.drop (i+1),g.2.2.2)
def fu (g:AS) (at_:Int) (e:D6):Int×AS :=
 if g.2.2.1=[] then (1,g)
 else if e.1=4 then (0,(g.1,g.2.1,g.2.2.1++[g.2.2.1.getD (e.2.2.1 % (g.2.2.1.length:Int)).toNat DM],g.2.2.2))
 else if e.1=3 then (0,Fb g (e.2.2.1 % (g.2.2.1.length:Int)).toNat)
 else (0,BZ (Fb g (e.2.2.1 % (g.2.2.1.length:Int)).toNat)
  (D4 (BB g ((g.2.2.1.getD (e.2.2.1 % (g.2.2.1.length:Int)).toNat DM).2.2.1-1).toNat) g.1 (g.2.2.1.getD (e.2.2.1 % (g.2.2.1.length:Int)).toNat DM)).1
  (D4 (BB g ((g.2.2.1.getD (e.2.2.1 % (g.2.2.1.length:Int)).toNat DM).2.2.1-1).toNat) g.1 (g.2.2.1.getD (e.2.2.1 % (g.2.2.1.length:Int)).toNat DM)).2.1
  (D4 (BB g ((g.2.2.1.getD (e.2.2.1 % (g.2.2.1.length:Int)).toNat DM).2.2.1-1).toNat) g.1 (g.2.2.1.getD (e.2.2.1 % (g.2.2.1.length:Int)).toNat DM)).2.2 at_)
theorem Jg.less {g:AS} {k:Nat} (h:Jg g k) (i:Nat):Jg (Fb g i) k:=by
 refine ⟨h.views,h.six,h.mem,fun x hx=>?_,?_,h.clen⟩
 ·rcases As.1 hx with h1 | h1
  ·exact h.fly x (List.mem_of_mem_take h1)
  ·exact h.fly x (List.mem_of_mem_drop h1)
 ·have:=h.flen
  simp only [Fb,List.length_append,List.length_take,List.length_drop]
  omega
theorem Jg.flew {at_:Int} {e:D6} {g:AS} {k:Nat} (hg:Jg g k):Jg (fu g at_ e).2 (k+1)/\(fu g at_ e).2.1=g.1:=by
 have hc:=hg.clen
 have hf:=hg.flen
 unfold fu
 split
 ·exact ⟨hg.up,rfl⟩
 ·rename_i h0
  have hl:0<g.2.2.1.length:=List.length_pos_iff.2 h0
  have hr0:=Int.emod_nonneg e.2.2.1 (show (g.2.2.1.length:Int)≠0 by omega)
  have hr1:=Int.emod_lt_of_pos e.2.2.1 (show 0<(g.2.2.1.length:Int) by omega)
  generalize hq:e.2.2.1 % (g.2.2.1.length:Int)=q at hr0 hr1
  have hx:=hg.fly (g.2.2.1.getD q.toNat DM) (by rw [AU (show q.toNat<g.2.2.1.length by omega)]; exact BU _)
  have hto:=hx.to
  obtain ⟨m1,m2⟩:=hg.mem ((g.2.2.1.getD q.toNat DM).2.2.1-1).toNat (by omega)
  have hh:=QK (x:=g.2.2.1.getD q.toNat DM) m1 hg.views
  have hless:=hg.less q.toNat
  split
  ·refine ⟨⟨hg.views,hg.six,hg.mem,fun x hx'=>?_,by simp only [List.length_append,List.length_cons,List.length_nil]; omega,by show g.2.2.2.length<=_; omega⟩,rfl⟩
   rcases As.1 hx' with h1 | h1
   ·exact hg.fly x h1
   ·simp only [Cj] at h1; subst h1; exact hx
  ·split
   ·exact ⟨hless.up,rfl⟩
   ·exact ⟨hless.member (i:=((g.2.2.1.getD q.toNat DM).2.2.1-1).toNat) (by omega) hh.mok (by rw [hh.id,m2]) (AAl hh.told) hh.tlen,rfl⟩
theorem oV (at_:Int) (e:D6) (g:AS) (k:Nat) (hg:Jg g k) (hk:k<=1000) (hn:0<=e.2.2.1):Vk at_ e g=some (fu g at_ e)/\Jg (fu g at_ e).2 (k+1)/\(fu g at_ e).2.1=g.1:=by
 have hc:=hg.clen
 have hf:=hg.flen
 have h6:=hg.six
 have hvl:=hg.views.len
 refine ⟨vz ?_,hg.flew⟩
 by_cases h0:g.2.2.1=[]
 ·unfold fu
  rw [if_pos h0]
  unfold Vo
  rw [h0,if_pos (by rfl)]
 ·have hl:0<g.2.2.1.length:=List.length_pos_iff.2 h0
  have hm:Int.tmod e.2.2.1 (g.2.2.1.length:Int)=e.2.2.1 % (g.2.2.1.length:Int):=Int.tmod_eq_emod_of_nonneg hn
  have hr0:=Int.emod_nonneg e.2.2.1 (show (g.2.2.1.length:Int)≠0 by omega)
  have hr1:=Int.emod_lt_of_pos e.2.2.1 (show 0<(g.2.2.1.length:Int) by omega)
  generalize hq:e.2.2.1 % (g.2.2.1.length:Int)=q at hm hr0 hr1
  have hx:=hg.fly (g.2.2.1.getD q.toNat DM) (by rw [AU (show q.toNat<g.2.2.1.length by omega)]; exact BU _)
  have wq:IntKind.i64.wrap (q+1)=q+1:=Af (by omega)
  have hto:=hx.to
  have wt:IntKind.i64.wrap ((g.2.2.1.getD q.toNat DM).2.2.1-1)=(g.2.2.1.getD q.toNat DM).2.2.1-1:=Af (by omega)
  obtain ⟨m1,m2⟩:=hg.mem ((g.2.2.1.getD q.toNat DM).2.2.1-1).toNat (by omega)
  have hh:=QK (x:=g.2.2.1.getD q.toNat DM) m1 hg.views
  have hless:=hg.less q.toNat
  have hxl:=Kc hx.items
  have hz:g.2.2.1.getD q.toNat ((0:Int),(0:Int),(0:Int),(0:Int),(0:Int),([]:List AP))=g.2.2.1.getD q.toNat DM:=rfl
  have hz2:∀ i,g.2.1.getD i ((0:Int),(0:Int),false,false,false,false,([]:List Int),([]:List AP),(0:Int),(0:Int),(0:Int),(0:Int),(O,O,(0:Int)),([]:List Int))=BB g i:=fun i=>rfl
  have e1:(g.2.2.1.take q.toNat).drop (0:Int).toNat=g.2.2.1.take q.toNat:=rfl
  have e2:(g.2.2.1.take (g.2.2.1.length:Int).toNat).drop (q+1).toNat=g.2.2.1.drop (q.toNat+1):=by
   rw [show (g.2.2.1.length:Int).toNat=g.2.2.1.length from by omega,List.take_length,show (q+1).toNat=q.toNat+1 from by omega]
  unfold fu
  rw [if_neg h0,hq]
  ·unfold Vo
   rw [if_neg (by simp; exact h0),if_neg (by omega),hm,hz,wq,wt,hz2,e1,e2,if_pos hr0,if_pos hr1]
   simp only [List.nil_append,List.length_nil,Nat.zero_add]
   by_cases h4:e.1=4
   ·rw [if_pos (by simpa using h4),if_pos h4,if_pos (by omega),if_pos (by simp; omega)]
   ·rw [if_neg (by simpa using h4),if_neg h4,if_pos (by omega),if_pos hr0,if_pos (by omega),if_pos (by omega),if_pos (by omega),if_pos (by omega),if_pos (by simp; omega),if_pos (by simp; omega)]
    by_cases h3:e.1=3
    ·rw [if_pos (by simpa using h3),if_pos h3]
     rfl
    ·rw [if_neg (by simpa using h3),if_neg h3,if_pos (by omega),if_pos (by omega),mC _ _ _ m1 hg.views (by omega),Y]
     have htl:=hh.tlen
     have:=HY (D4 (BB g ((g.2.2.1.getD q.toNat DM).2.2.1-1).toNat) g.1 (g.2.2.1.getD q.toNat DM)).1 (D4 (BB g ((g.2.2.1.getD q.toNat DM).2.2.1-1).toNat) g.1 (g.2.2.1.getD q.toNat DM)).2.1 (D4 (BB g ((g.2.2.1.getD q.toNat DM).2.2.1-1).toNat) g.1 (g.2.2.1.getD q.toNat DM)).2.2 at_ (Fb g q.toNat) hh.mok.id h6 (by have:=hless.flen; omega) (by have:=hless.clen; omega) hh.said
     unfold Fb at this ⊢
     rw [this]
     rfl
def rN (g:AS) (at_:Int) (e:D6):Int×AS :=
 if e.1=1 then Jz g at_ e else if e.1=5 then eQ g at_ e.2.1
 else if e.1=6 then (0,BZ g (Xo (BB g (e.2.1-1).toNat)) [] [] at_) else fu g at_ e
theorem Jg.event {at_:Int} {e:D6} {g:AS} {k:Nat} (hg:Jg g k) (he:Jy e=true):Jg (rN g at_ e).2 (k+1)/\(rN g at_ e).2.1=g.1:=by
 have hn:=mE he
 unfold rN
 split
 ·exact hg.began (by omega)
 ·split
  ·exact hg.adopted (by omega) _ _
  ·split
   ·obtain ⟨m1,m2⟩:=hg.mem (e.2.1-1).toNat (by omega)
    exact ⟨hg.member (i:=(e.2.1-1).toNat) (by omega) m1.fall1 m2 (fun y hy=>by cases hy) (by simp),rfl⟩
   ·exact hg.flew
theorem bP (at_:Int) (e:D6) (g:AS) (k:Nat) (hg:Jg g k) (hk:k<=1000) (he:Jy e=true):SL at_ e g=some (rN g at_ e)/\Jg (rN g at_ e).2 (k+1)/\(rN g at_ e).2.1=g.1:=by
 have hn:=mE he
 have h6:=hg.six
 have hc:=hg.clen
 have hf:=hg.flen
 refine ⟨yG ?_,hg.event he⟩
 unfold rN
 by_cases h1:e.1=1
 ·have a:=(i8 at_ e g k hg hk (by omega)).1
  rw [if_pos h1]
  unfold Nn
  rw [if_pos (by simpa using h1),a]
  rfl
 ·rw [if_neg h1]
  by_cases h5:e.1=5
  ·have a:=(i9 at_ e.2.1 g k hg hk (by omega)).1
   rw [if_pos h5]
   unfold Nn
   rw [if_neg (by simpa using h1),if_pos (by simpa using h5),a]
   rfl
  ·rw [if_neg h5]
   by_cases h7:e.1=6
   ·obtain ⟨m1,m2⟩:=hg.mem (e.2.1-1).toNat (by omega)
    rw [if_pos h7]
    have wn:IntKind.i64.wrap (e.2.1-1)=e.2.1-1:=Af (by omega)
    unfold Nn
    rw [if_neg (by simpa using h1),if_neg (by simpa using h5),if_pos (by simpa using h7),wn,if_pos (by omega),if_pos (by omega),
     AAH g (e.2.1-1).toNat,
     wC,Y,HY _ _ _ _ _ m1.fall1.id h6 (by simp; omega) (by omega) GV]
    rfl
   ·have a:=(oV at_ e g k hg hk (by omega)).1
    rw [if_neg h7]
    unfold Nn
    rw [if_neg (by simpa using h1),if_neg (by simpa using h5),if_neg (by simpa using h7),a]
    rfl

theorem OD (x:List (List Int)) (h:x.length<=1000) (ho:∀ a∈x,a.length<=1000):HW x=some x:=fb (by
 unfold Rs
 have key:=E0 (n:=x.length) (P:=fun i=>Fo x (i:Int) (x.take i)=some x) (Nz (by
  unfold IY
  rw [if_neg (by simp),List.take_length])) (fun i hi ih=>Nz (by
  unfold IY
  have:=ho x[i] (BU hi)
  simp only [show ((i:Int)<(x.length:Int)) from by omega,decide_true,if_true,show (0:Int)<=(i:Int) from by omega,Ai,AU hi,AM (show i<9223372036854775807 by omega),List.nil_append,List.length_nil,Nat.zero_add,List.length_cons,List.length_take]
  rw [if_pos (by omega),if_pos (by omega),List.take_append_getElem]
  exact ih)) 0 (by omega)
 exact key)
theorem bp (x:List Bc) (h:x.length<=100000) (ho:∀ a∈x,a.2.2.2.2.2.length<=1000):L8 x=some x:=im (by
 unfold Tk
 have key:=E0 (n:=x.length) (P:=fun i=>EN x (i:Int) (x.take i)=some x) (OY (by
  unfold JB
  rw [if_neg (by simp),List.take_length])) (fun i hi ih=>OY (by
  unfold JB
  have:=ho x[i] (BU hi)
  simp only [show ((i:Int)<(x.length:Int)) from by omega,decide_true,if_true,show (0:Int)<=(i:Int) from by omega,Ai,AU hi,AM (show i<9223372036854775807 by omega),List.nil_append,List.length_nil,Nat.zero_add,List.length_cons,List.length_take]
  rw [if_pos (by omega),if_pos (by omega)]
  change EN x _ (x.take i++[x[i]])=_
  rw [List.take_append_getElem]
  exact ih)) 0 (by omega)
 exact key)
theorem mF (g:AS) (k:Nat) (hg:Jg g k) (hk:k<=1000):S4 g=some g:=uC (by
 have hvl:=hg.views.len
 have hc:=hg.clen
 have hf:=hg.flen
 have h6:=hg.six
 unfold dU
 rw [OD g.1 (by omega) (fun a ha=>by have:=hg.views.view ha; omega),Y,bp g.2.2.1 (by omega) (fun a ha=>by have:=Kc (hg.fly a ha).items; omega),Y,if_pos (by simp; omega)]
 have key:∀ (a b c d:_),G4 ((0:Nat):Int) g.1 g.2.1 g.2.2.1 g.2.2.2 a b c d [] ([]++g.2.2.2) g.1 g.2.2.1=some g:=by
  intro a b c d
  have key':=E0 (n:=g.2.1.length) (P:=fun i=>G4 (i:Int) g.1 g.2.1 g.2.2.1 g.2.2.2 a b c d (g.2.1.take i) ([]++g.2.2.2) g.1 g.2.2.1=some g) (Uy (by
   unfold No
   rw [if_neg (by simp),List.take_length]
   rfl)) (fun i hi ih=>Uy (by
   unfold No
   have hm:=(hg.mem i (by omega)).1
   unfold BB at hm
   rw [AU hi] at hm
   simp only [show ((i:Int)<(g.2.1.length:Int)) from by omega,decide_true,if_true,show (0:Int)<=(i:Int) from by omega,Ai,AU hi,hm.copy,Y,AM (show i<9223372036854775807 by omega),List.length_take,List.length_cons,List.length_nil]
   rw [if_pos (by omega),List.take_append_getElem]
   exact ih)) 0 (by omega)
  exact key'
 exact key _ _ _ _)
def Ah (views:List (List Int)):AS:=(views,[E1 1 views,E1 2 views,E1 3 views,E1 4 views,E1 5 views,E1 6 views],[],[])
theorem PR {views:List (List Int)} (hv:SX views):Jg (Ah views) 0:=by
 refine ⟨hv,rfl,fun i hi=>?_,fun x hx=>(by cases hx),(by simp [Ah]),(by simp [Ah])⟩
 have h5:i=0\/i=1\/i=2\/i=3\/i=4\/i=5:=by omega
 rcases h5 with rfl | rfl | rfl | rfl | rfl | rfl<;>exact ⟨Kb.first1 (by omega) hv,rfl⟩
theorem OE {views:List (List Int)} (hv:SX views):Lb views=some (Ah views,true):=qW (by
 have hvl:=hv.len
 unfold aW
 rw [HF hv,Y,if_neg (by simp),OD views (by omega) (fun a ha=>by have:=hv.view ha; omega),Y]
 have step:∀ (i:Nat) (a:_) (b:_) (c:_) (d:_) (l:List AE) r,1<=i->i<=6->l.length<=6->GO views ((i+1:Nat):Int) a b c d (l++[E1 (i:Int) views]) views=some r->GO views (i:Int) a b c d l views=some r:=by
  intro i a b c d l r h1 h6 hl hr
  refine Td ?_
  unfold MK
  rw [if_pos (by simp; omega),fq _ _ (by omega) hv,Y,if_pos (by simp; omega),AM (show i<9223372036854775807 by omega)]
  exact hr
 refine step 1 _ _ _ _ _ _ (by omega) (by omega) (by simp) ?_
 refine step 2 _ _ _ _ _ _ (by omega) (by omega) (by simp) ?_
 refine step 3 _ _ _ _ _ _ (by omega) (by omega) (by simp) ?_
 refine step 4 _ _ _ _ _ _ (by omega) (by omega) (by simp) ?_
 refine step 5 _ _ _ _ _ _ (by omega) (by omega) (by simp) ?_
 refine step 6 _ _ _ _ _ _ (by omega) (by omega) (by simp) ?_
 refine Td ?_
 unfold MK
 rw [if_neg (by decide)]
 rfl)
def Je:Nat->List D6->AS->List Int->AS×List Int
 | _,[],g,cs=>(g,cs)
 | n,e::es,g,cs=>Je (n+1) es (rN g (n:Int) e).2 (cs++[(rN g (n:Int) e).1])
theorem mG:∀ (es:List D6) (n:Nat) (g:AS) (cs:List Int),Jg g n->n+es.length<=70->(∀ e∈es,Jy e=true)->Jg (Je n es g cs).1 (n+es.length)/\(Je n es g cs).1.1=g.1/\(Je n es g cs).2.length=cs.length+es.length
 | [],n,g,cs,hg,_,_=>⟨hg,rfl,rfl⟩
 | e::es,n,g,cs,hg,hn,he=>by
  simp only [List.length_cons] at hn
  obtain ⟨h2,h3⟩:=hg.event (at_:=(n:Int)) (he e (by simp))
  obtain ⟨h4,h5,h6⟩:=mG es (n+1) _ (cs++[(rN g (n:Int) e).1]) h2 (by omega) (fun x hx=>he x (by simp [hx]))
  refine ⟨?_,h5.trans h3,?_⟩
  ·have:n+(e::es).length=n+1+es.length:=by simp only [List.length_cons]; omega
   rw [this]
   exact h4
  ·simp only [Je,h6,List.length_append,List.length_cons,List.length_nil]
   omega
theorem mH {views:List (List Int)} {events:List D6} (hv:SX views) (hl:events.length<=70) (he:∀ e∈events,Jy e=true) :
  QU views events=some ((Je 0 events (Ah views) []).1,(Je 0 events (Ah views) []).2,true):=pz (by
 have hg:=PR hv
 obtain ⟨r1,r2,r3⟩:=mG events 0 (Ah views) [] hg (by omega) he
 unfold Z6
 rw [OE hv,Y]
 have L3:∀ y1 y2 y3 y4,GM events ((0:Nat):Int) y1 y2 y3 y4 (Ah views) []=some ((Je 0 events (Ah views) []).1,(Je 0 events (Ah views) []).2,true):=by
  intro y1 y2 y3 y4
  have key:=E0 (n:=events.length) (P:=fun i=>∀ (g:AS) (cs:List Int),Jg g i->cs.length=i->Je i (events.drop i) g cs=Je 0 events (Ah views) []->GM events (i:Int) y1 y2 y3 y4 g cs=some ((Je 0 events (Ah views) []).1,(Je 0 events (Ah views) []).2,true)) (fun g cs hgi hcs hr=>TK (by
   unfold ME
   rw [if_neg (by simp),mF g events.length hgi (by omega),Y]
   rw [List.drop_eq_nil_of_le (Nat.le_refl _)] at hr
   rw [<- hr]
   rfl)) (fun i hi ih g cs hgi hcs hr=>TK (by
   unfold ME
   obtain ⟨d1,d2,_⟩:=bP (i:Int) events[i] g i hgi (by omega) (he _ (BU hi))
   simp only [show ((i:Int)<(events.length:Int)) from by omega,decide_true,if_true,show (0:Int)<=(i:Int) from by omega,Ai,AU hi,d1,Y,AM (show i<9223372036854775807 by omega)]
   rw [if_pos (by simp; omega)]
   refine ih _ _ d2 (by simp; omega) ?_
   rw [BC hi] at hr
   exact hr)) 0 (by omega) (Ah views) [] hg rfl rfl
  exact key
 have L0:∀ y1 y2 y3 y4,EU events true ((0:Nat):Int) y1 y2 y3 y4 (Ah views)=some ((Je 0 events (Ah views) []).1,(Je 0 events (Ah views) []).2,true):=by
  intro y1 y2 y3 y4
  have J2:IU events true y1 y2 y3 y4 (Ah views)=some ((Je 0 events (Ah views) []).1,(Je 0 events (Ah views) []).2,true):=iI (by
   unfold TJ
   rw [if_neg (by simp)]
   exact L3 y1 y2 y3 y4)
  refine E0 (n:=events.length) (P:=fun i=>EU events true (i:Int) y1 y2 y3 y4 (Ah views)=some ((Je 0 events (Ah views) []).1,(Je 0 events (Ah views) []).2,true)) (TL (by
   unfold MF
   rw [if_neg (by simp)]
   exact J2)) (fun i hi ih=>TL (by
   unfold MF
   rw [if_pos (by simpa using hi),if_pos rfl]
   refine iH ?_
   unfold TI
   have hz:events.getD i ((0:Int),(0:Int),(0:Int),(0:Int),O,O)=events[i]:=AU hi
   rw [if_pos (by simp; omega),if_pos (by omega),if_pos (by omega),Ai,hz,l7,he _ (BU hi),Y,AM (show i<9223372036854775807 by omega)]
   exact ih)) 0 (by omega)
 exact L0 _ _ _ _)
theorem i_ (d:Ki) (h:Tq d):∃ v d',QX d=some (v,d')/\Tq d'/\SX v:=by
 have inner:∀ (m j:Nat),j+m=3->∀ (i:Int) (d:Ki) (vs:List (List Int)) (v:List Int),Tq d->0<=i->vs.length<=10->v.length<=j->(j=0\/1<=v.length)->(∀ a∈v,1<=a/\a<=6)->v.Nodup ->
   ∃ v' d',WOk v'/\Tq d'/\∀ r,GR (IntKind.i64.wrap (i+1)) d' (vs++[v'])=some r->GQ i (j:Int) d vs v=some r:=by
  intro m
  induction m with
  | zero =>
   intro j hj i d vs v hd hi hvs hv h1 hm hnd
   obtain ⟨y,d1,e1,k1,y0,y1⟩:=Aq 3 d hd
   have y1:=y1 (by omega)
   refine ⟨v,d1,⟨by omega,hm,hnd⟩,k1,fun r hr=>IX ?_⟩
   unfold GS
   have wy:IntKind.i64.wrap (1+y)=1+y:=Af (by omega)
   rw [e1,Y,wy,if_neg (by simp; omega),if_pos (by simp; omega)]
   exact hr
  | succ m ih =>
   intro j hj i d vs v hd hi hvs hv h1 hm hnd
   obtain ⟨y,d1,e1,k1,y0,y1⟩:=Aq 3 d hd
   have y1:=y1 (by omega)
   have wy:IntKind.i64.wrap (1+y)=1+y:=Af (by omega)
   by_cases hlt:(j:Int)<1+y
   ·obtain ⟨z,d2,e2,k2,z0,z1⟩:=Aq 4 d1 k1
    have z1:=z1 (by omega)
    have wz:IntKind.i64.wrap (1+z)=1+z:=Af (by omega)
    by_cases hc:v.contains (1+z)=true
    ·obtain ⟨v',d',w1,w2,w3⟩:=ih (j+1) (by omega) i d2 vs v k2 hi hvs (by omega) (.inr (by
      cases v with
      | nil=>simp at hc
      | cons a v=>simp)) hm hnd
     refine ⟨v',d',w1,w2,fun r hr=>IX ?_⟩
     unfold GS
     rw [e1,Y,wy,if_pos (by simpa using hlt),e2,Y,wz,Cy v _ (by unfold maxLen; omega),Y,hc,if_neg (by simp),AM (show j<9223372036854775807 by omega)]
     exact w3 r hr
    ·have hc':v.contains (1+z)=false:=by simpa using hc
     obtain ⟨v',d',w1,w2,w3⟩:=ih (j+1) (by omega) i d2 vs (v++[1+z]) k2 hi hvs (by simp; omega) (.inr (by simp)) (fun a ha=>by
      rcases As.1 ha with h | h
      ·exact hm a h
      ·simp only [Cj] at h; omega) (by
      rw [List.nodup_append]
      refine ⟨hnd,by simp,fun a ha b hb e=>?_⟩
      simp only [Cj] at hb
      subst hb
      subst e
      rw [List.contains_iff_mem.2 ha] at hc'
      cases hc')
     refine ⟨v',d',w1,w2,fun r hr=>IX ?_⟩
     unfold GS
     rw [e1,Y,wy,if_pos (by simpa using hlt),e2,Y,wz,Cy v _ (by unfold maxLen; omega),Y,hc',if_pos (by rfl),if_pos (by simp; omega),AM (show j<9223372036854775807 by omega)]
     exact w3 r hr
   ·refine ⟨v,d1,⟨by omega,hm,hnd⟩,k1,fun r hr=>IX ?_⟩
    unfold GS
    rw [e1,Y,wy,if_neg (by simpa using hlt),if_pos (by simp; omega)]
    exact hr
 have outer:∀ (m i:Nat),i+m=5->∀ (d:Ki) (vs:List (List Int)),Tq d->vs.length=i->(∀ v∈vs,WOk v)->∃ v' d',GR (i:Int) d vs=some (v',d')/\Tq d'/\SX v':=by
  have fin:∀ (vs:List (List Int)),1<=vs.length->vs.length<=5->(∀ v∈vs,WOk v)->SX vs:=fun vs h1 h2 h3=>⟨LO.2 ⟨fun v hv=>AAj.2 (h3 v hv),h1,by omega⟩⟩
  intro m
  induction m with
  | zero =>
   intro i hi d vs hd hl hv
   obtain ⟨y,d1,e1,k1,y0,y1⟩:=Aq 5 d hd
   have y1:=y1 (by omega)
   have wy:IntKind.i64.wrap (1+y)=1+y:=Af (by omega)
   refine ⟨vs,d1,MM ?_,k1,fin vs (by omega) (by omega) hv⟩
   unfold IW
   rw [e1,Y,wy,if_neg (by simp; omega)]
  | succ m ih =>
   intro i hi d vs hd hl hv
   obtain ⟨y,d1,e1,k1,y0,y1⟩:=Aq 5 d hd
   have y1:=y1 (by omega)
   have wy:IntKind.i64.wrap (1+y)=1+y:=Af (by omega)
   by_cases hlt:(i:Int)<1+y
   ·obtain ⟨v',d2,w1,k2,w3⟩:=inner 3 0 (by omega) (i:Int) d1 vs [] k1 (by omega) (by omega) (by simp) (.inl rfl) (by simp) (by simp)
    obtain ⟨r1,d3,q1,q2,q3⟩:=ih (i+1) (by omega) d2 (vs++[v']) k2 (by simp; omega) (fun v hv'=>by
     rcases As.1 hv' with h | h
     ·exact hv v h
     ·simp only [Cj] at h; subst h; exact w1)
    refine ⟨r1,d3,MM ?_,q2,q3⟩
    unfold IW
    rw [e1,Y,wy,if_pos (by simpa using hlt)]
    exact w3 _ (by rw [AM (show i<9223372036854775807 by omega)]; exact q1)
   ·have hi1:1<=i:=by omega
    refine ⟨vs,d1,MM ?_,k1,fin vs (by omega) (by omega) hv⟩
    unfold IW
    rw [e1,Y,wy,if_neg (by simpa using hlt)]
 obtain ⟨v,d',e,k,hv⟩:=outer 5 0 (by omega) d [] h rfl (fun v hv=>by cases hv)
 exact ⟨v,d',qa (by unfold aZ; exact e),k,hv⟩

theorem mI (d:Ki) (g:AS) (k:Nat) (h:Tq d) (hg:Jg g k):∃ e d',S5 d g=some (e,d',g)/\Tq d'/\Jy e=true:=by
 have hvl:=hg.views.len
 have h6:=hg.six
 have ev:∀ (kd nd at_:Int),2<=kd/\kd<=6->1<=nd/\nd<=6->0<=at_->Jy (kd,nd,at_,0,O,O)=true:=by
  intro kd nd at_ h1 h2 h3
  unfold Jy
  simp only [show decide (1<=kd)=true from decide_eq_true (by omega),show decide (kd<=6)=true from decide_eq_true (by omega),show decide (1<=nd)=true from decide_eq_true (by omega),show decide (nd<=6)=true from decide_eq_true (by omega),show decide (0<=at_)=true from decide_eq_true h3,if_neg (show ¬ kd=1 by omega)]
  simp [yS]
 have ev1:∀ (nd at_ op:Int) (key val:ByteArray),1<=nd/\nd<=6->0<=at_->ga op key val=true->Jy (1,nd,at_,op,key,val)=true:=by
  intro nd at_ op key val h2 h3 h4
  unfold Jy
  simp only [show decide (1<=nd)=true from decide_eq_true (by omega),show decide (nd<=6)=true from decide_eq_true (by omega),show decide (0<=at_)=true from decide_eq_true h3,if_true,h4]
  rfl
 have L3:∀ (m i:Nat),i+m=6->∀ (d:Ki) (nd at_ op:Int) (key val:ByteArray) (a b c:_),Tq d->1<=nd/\nd<=6->∃ nd' d',D0 (i:Int) d g a (1,nd,at_,op,key,val) b c=some ((1,nd',at_,op,key,val),d',g)/\Tq d'/\1<=nd'/\nd'<=6:=by
  intro m
  induction m with
  | zero =>
   intro i hi d nd at_ op key val a b c hd hn
   refine ⟨nd,d,JP ?_,hd,hn⟩
   unfold G7
   rw [if_neg (by simp; omega)]
  | succ m ih =>
   intro i hi d nd at_ op key val a b c hd hn
   have ws:=AM (show i<9223372036854775807 by omega)
   by_cases hs:(BB g i).2.2.2.2.2.1=true
   ·obtain ⟨o,d1,e1,k1⟩:=Jc 4 d hd
    cases o
    ·obtain ⟨nd',d',e2,k2,n2⟩:=ih (i+1) (by omega) d1 ((i+1:Nat):Int) at_ op key val a b c k1 (by omega)
     refine ⟨nd',d',JP ?_,k2,n2⟩
     unfold G7
     rw [if_pos (by simp; omega),if_pos (by omega),if_pos (by omega),Ai,AAH g i,if_pos hs,e1,Y,if_pos (by rfl),ws]
     exact e2
    ·obtain ⟨nd',d',e2,k2,n2⟩:=ih (i+1) (by omega) d1 nd at_ op key val a b c k1 hn
     refine ⟨nd',d',JP ?_,k2,n2⟩
     unfold G7
     rw [if_pos (by simp; omega),if_pos (by omega),if_pos (by omega),Ai,AAH g i,if_pos hs,e1,Y,if_neg (by simp),ws]
     exact e2
   ·obtain ⟨nd',d',e2,k2,n2⟩:=ih (i+1) (by omega) d nd at_ op key val a b c hd hn
    refine ⟨nd',d',JP ?_,k2,n2⟩
    unfold G7
    rw [if_pos (by simp; omega),if_pos (by omega),if_pos (by omega),Ai,AAH g i,if_neg hs,ws]
    exact e2
 have L4:∀ (m i:Nat),i+m=6->∀ (d:Ki) (kd nd at_:Int) (a:_),Tq d->1<=nd/\nd<=6->∃ nd' d',D1 (i:Int) d g a (kd,nd,at_,0,O,O)=some ((kd,nd',at_,0,O,O),d',g)/\Tq d'/\1<=nd'/\nd'<=6:=by
  intro m
  induction m with
  | zero =>
   intro i hi d kd nd at_ a hd hn
   refine ⟨nd,d,G9 ?_,hd,hn⟩
   unfold E9
   rw [if_neg (by simp; omega)]
  | succ m ih =>
   intro i hi d kd nd at_ a hd hn
   have ws:=AM (show i<9223372036854775807 by omega)
   obtain ⟨m1,m2⟩:=hg.mem i (by omega)
   have hep:=m1.ep
   have hz:∀ j,g.2.1.getD j ((0:Int),(0:Int),false,false,false,false,([]:List Int),([]:List AP),(0:Int),(0:Int),(0:Int),(0:Int),(O,O,(0:Int)),([]:List Int))=BB g j:=fun j=>rfl
   obtain ⟨nd0,d0,e0,k0,n0⟩:=ih (i+1) (by omega) d kd nd at_ a hd hn
   by_cases h1:(BB g i).2.1<(g.1.length:Int)
   ·have gv:=hg.views.get (i:=(BB g i).2.1.toNat) (by omega)
    by_cases h2:((g.1.getD (BB g i).2.1.toNat ([]:List Int)).getD (0:Int).toNat 0==(BB g i).1)=true
    ·obtain ⟨o,d1,e1,k1⟩:=Jc 3 d hd
     cases o
     ·obtain ⟨nd',d',e2,k2,n2⟩:=ih (i+1) (by omega) d1 kd (BB g i).1 at_ a k1 (by omega)
      refine ⟨nd',d',G9 ?_,k2,n2⟩
      unfold E9
      rw [if_pos (by simp; omega),if_pos (by omega),if_pos (by omega),Ai,hz,if_pos (by simpa using h1),if_pos (by omega),if_pos (by omega),if_pos (by omega),if_pos (by omega),if_pos h2,e1,Y,if_pos (by rfl),ws]
      exact e2
     ·obtain ⟨nd',d',e2,k2,n2⟩:=ih (i+1) (by omega) d1 kd nd at_ a k1 hn
      refine ⟨nd',d',G9 ?_,k2,n2⟩
      unfold E9
      rw [if_pos (by simp; omega),if_pos (by omega),if_pos (by omega),Ai,hz,if_pos (by simpa using h1),if_pos (by omega),if_pos (by omega),if_pos (by omega),if_pos (by omega),if_pos h2,e1,Y,if_neg (by simp),ws]
      exact e2
    ·refine ⟨nd0,d0,G9 ?_,k0,n0⟩
     unfold E9
     rw [if_pos (by simp; omega),if_pos (by omega),if_pos (by omega),Ai,hz,if_pos (by simpa using h1),if_pos (by omega),if_pos (by omega),if_pos (by omega),if_pos (by omega),if_neg h2,ws]
     exact e0
   ·refine ⟨nd0,d0,G9 ?_,k0,n0⟩
    unfold E9
    rw [if_pos (by simp; omega),if_pos (by omega),if_pos (by omega),Ai,hz,if_neg (by simpa using h1),ws]
    exact e0
 have keyOk:∀ key∈([(⟨#[97]⟩:ByteArray),(⟨#[98]⟩:ByteArray),(⟨#[99]⟩:ByteArray)]:List ByteArray),key.size=1:=by
  intro key hk
  simp only [BQ,List.mem_nil_iff,or_false] at hk
  rcases hk with rfl | rfl | rfl<;>rfl
 have valOk:∀ v∈([(⟨#[118]⟩:ByteArray),(⟨#[119]⟩:ByteArray),(⟨#[120]⟩:ByteArray),(⟨#[121]⟩:ByteArray)]:List ByteArray),v.size=1:=by
  intro v hk
  simp only [BQ,List.mem_nil_iff,or_false] at hk
  rcases hk with rfl | rfl | rfl | rfl<;>rfl
 have J2:∀ (d:Ki) (a:_) (kd nd at_:Int),Tq d->1<=kd/\kd<=6->1<=nd/\nd<=6->0<=at_->∃ e d',G6 d g a (kd,nd,at_,0,O,O)=some (e,d',g)/\Tq d'/\Jy e=true:=by
  intro d a kd nd at_ hd hk hn ha
  by_cases h1:kd=1
  ·subst h1
   obtain ⟨op,d1,e1,k1,mem1⟩:=Di [1,1,2] (by simp) d hd
   obtain ⟨key,d2,e2,k2,mem2⟩:=HD [(⟨#[97]⟩:ByteArray),(⟨#[98]⟩:ByteArray),(⟨#[99]⟩:ByteArray)] (by simp) d1 k1
   have hkey:=keyOk key mem2
   by_cases ho:op=1
   ·obtain ⟨val,d3,e3,k3,mem3⟩:=HD [(⟨#[118]⟩:ByteArray),(⟨#[119]⟩:ByteArray),(⟨#[120]⟩:ByteArray),(⟨#[121]⟩:ByteArray)] (by simp) d2 k2
    have hval:=valOk val mem3
    obtain ⟨nd',d',e4,k4,n4⟩:=L3 6 0 (by omega) d3 nd at_ op key val a _ _ k3 hn
    refine ⟨_,d',JQ ?_,k4,ev1 nd' at_ op key val n4 ha (by unfold ga; simp [ho,hkey,hval])⟩
    unfold G8
    rw [if_pos (by simp),e1,Y,e2,Y,if_pos (by simpa using ho),e3,Y]
    exact e4
   ·have ho2:op=2:=by simp at mem1; omega
    obtain ⟨nd',d',e4,k4,n4⟩:=L3 6 0 (by omega) d2 nd at_ op key O a _ _ k2 hn
    refine ⟨_,d',JQ ?_,k4,ev1 nd' at_ op key O n4 ha (by unfold ga; simp [ho2,hkey,yS])⟩
    unfold G8
    rw [if_pos (by simp),e1,Y,e2,Y,if_neg (by simpa using ho)]
    exact e4
  ·by_cases h5:kd=5
   ·obtain ⟨nd',d',e4,k4,n4⟩:=L4 6 0 (by omega) d kd nd at_ a hd hn
    refine ⟨_,d',JQ ?_,k4,ev kd nd' at_ (by omega) n4 ha⟩
    unfold G8
    rw [if_neg (by simpa using h1),if_pos (by simpa using h5)]
    exact e4
   ·refine ⟨_,d,JQ ?_,hd,ev kd nd at_ (by omega) hn ha⟩
    unfold G8
    rw [if_neg (by simpa using h1),if_neg (by simpa using h5)]
 have J1:∀ (d:Ki) (a:_) (kd nd at_:Int),Tq d->1<=kd/\kd<=6->1<=nd/\nd<=6->0<=at_->∃ e d',BL d g a (kd,nd,at_,0,O,O)=some (e,d',g)/\Tq d'/\Jy e=true:=by
  intro d a kd nd at_ hd hk hn ha
  by_cases h2:kd=2
  ·obtain ⟨o,d1,e1,k1⟩:=Jc 2 d hd
   cases o
   ·obtain ⟨e,d',e2,k2,v2⟩:=J2 d1 a kd nd at_ k1 hk hn ha
    refine ⟨e,d',Nt ?_,k2,v2⟩
    unfold JN
    rw [if_pos (by simpa using h2),e1,Y,if_neg (by simp)]
    exact e2
   ·obtain ⟨e,d',e2,k2,v2⟩:=J2 d1 a kd nd 0 k1 hk hn (by omega)
    refine ⟨e,d',Nt ?_,k2,v2⟩
    unfold JN
    rw [if_pos (by simpa using h2),e1,Y,if_pos (by rfl)]
    exact e2
  ·obtain ⟨e,d',e2,k2,v2⟩:=J2 d a kd nd at_ hd hk hn ha
   refine ⟨e,d',Nt ?_,k2,v2⟩
   unfold JN
   rw [if_neg (by simpa using h2)]
   exact e2
 have six:∀ (d:Ki) (a:_) (kd nd at_:Int),Tq d->1<=kd/\kd<=6->1<=nd/\nd<=6->0<=at_->∃ e d',(if (kd==6)=true then ((Dx 4 d).bind fun y5=>(if (!y5.1)=true then (BL y5.2 g a (1,nd,at_,0,O,O)) else (BL y5.2 g a (kd,nd,at_,0,O,O)))) else (BL d g a (kd,nd,at_,0,O,O)))=some (e,d',g)/\Tq d'/\Jy e=true:=by
  intro d a kd nd at_ hd hk hn ha
  by_cases h2:kd=6
  ·obtain ⟨o,d1,e1,k1⟩:=Jc 4 d hd
   cases o
   ·obtain ⟨e,d',e2,k2,v2⟩:=J1 d1 a 1 nd at_ k1 (by omega) hn ha
    refine ⟨e,d',?_,k2,v2⟩
    rw [if_pos (by simpa using h2),e1,Y,if_pos (by rfl)]
    exact e2
   ·obtain ⟨e,d',e2,k2,v2⟩:=J1 d1 a kd nd at_ k1 hk hn ha
    refine ⟨e,d',?_,k2,v2⟩
    rw [if_pos (by simpa using h2),e1,Y,if_neg (by simp)]
    exact e2
  ·obtain ⟨e,d',e2,k2,v2⟩:=J1 d a kd nd at_ hd hk hn ha
   refine ⟨e,d',?_,k2,v2⟩
   rw [if_neg (by simpa using h2)]
   exact e2
 obtain ⟨kd,d1,e1,k1,mem1⟩:=Di [1,1,1,2,2,2,2,2,2,2,2,3,4,5,6] (by simp) d h
 obtain ⟨nd,d2,e2,k2,n0,n1⟩:=Aq 4 d1 k1
 obtain ⟨at_,d3,e3,k3,a0,a1⟩:=Aq 20 d2 k2
 have n1:=n1 (by omega)
 have wn:IntKind.i64.wrap (1+nd)=1+nd:=Af (by omega)
 have hkd:1<=kd/\kd<=6:=by
  simp only [BQ,List.mem_nil_iff,or_false] at mem1
  omega
 have fin:∃ e d',Ns d3 g ((0:Int),(0:Int),(0:Int),(0:Int),O,O) (kd,1+nd,at_,0,O,O)=some (e,d',g)/\Tq d'/\Jy e=true:=by
  by_cases hf:((g.2.2.1.length:Int)==0)=true
  ·cases hin:(decide (2<=kd)&&decide (kd<=4)) with
   | true =>
    obtain ⟨e,d',e4,k4,v4⟩:=J1 d3 ((0:Int),(0:Int),(0:Int),(0:Int),O,O) 1 (1+nd) at_ k3 (by omega) (by omega) a0
    refine ⟨e,d',Nu ?_,k4,v4⟩
    unfold JO
    rw [if_pos hf,A_,Y,if_pos hin,if_neg (show ¬ ((1:Int)==6)=true by decide)]
    exact e4
   | false =>
    obtain ⟨e,d',e4,k4,v4⟩:=six d3 ((0:Int),(0:Int),(0:Int),(0:Int),O,O) kd (1+nd) at_ k3 hkd (by omega) a0
    refine ⟨e,d',Nu ?_,k4,v4⟩
    unfold JO
    rw [if_pos hf,A_,Y,if_neg (by rw [hin]; simp)]
    exact e4
  ·obtain ⟨e,d',e4,k4,v4⟩:=six d3 ((0:Int),(0:Int),(0:Int),(0:Int),O,O) kd (1+nd) at_ k3 hkd (by omega) a0
   refine ⟨e,d',Nu ?_,k4,v4⟩
   unfold JO
   rw [if_neg hf]
   exact e4
 obtain ⟨e,d',e4,k4,v4⟩:=fin
 refine ⟨e,d',uI ?_,k4,v4⟩
 unfold db
 rw [e1,Y,e2,Y,e3,Y,wn]
 exact e4

theorem Vb (x:List Int) (d:Ki) (hx:x.length<=1048576) (h:Tq d):∃ v es d',NY x d=some ((v,es),d')/\Tq d'/\SX v/\es.length<=69/\∀ e∈es,Jy e=true:=by
 obtain ⟨v,d1,e1,k1,hv⟩:=i_ d h
 have L:∀ (n:Nat),n<=69->∀ a b,∃ es d',E7 (n:Int) ((0:Nat):Int) d1 a b [] v (Ah v)=some ((v,es),d')/\Tq d'/\es.length<=69/\∀ e∈es,Jy e=true:=by
  intro n hn a b
  refine E0 (n:=n) (P:=fun i=>∀ (d:Ki) (es:List D6) (g:AS),Tq d->Jg g i->es.length=i->(∀ e∈es,Jy e=true)->∃ es' d',E7 (n:Int) (i:Int) d a b es v g=some ((v,es'),d')/\Tq d'/\es'.length<=69/\∀ e∈es',Jy e=true) (fun d es g hd hg hl he=>?_) (fun i hi ih d es g hd hg hl he=>?_) 0 (by omega) d1 [] (Ah v) k1 (PR hv) rfl (fun e he=>by cases he)
  ·refine ⟨es,d,Uv ?_,hd,by omega,he⟩
   unfold Nk
   rw [if_neg (by simp)]
  ·obtain ⟨e,d2,e2,k2,ke⟩:=mI d g i hd hg
   obtain ⟨q1,q2,q3⟩:=bP (i:Int) e g i hg (by omega) ke
   obtain ⟨es',d3,e3,k3⟩:=ih d2 (es++[e]) (rN g (i:Int) e).2 k2 q2 (by simp; omega) (fun y hy=>by
    rcases As.1 hy with hy | hy
    ·exact he y hy
    ·rw [Cj.1 hy]; exact ke)
   refine ⟨es',d3,Uv ?_,k3⟩
   unfold Nk
   rw [if_pos (by simpa using hi),e2,Y]
   dsimp only
   rw [q1,Y,if_pos (by simp; omega),AM (by omega)]
   exact e3
 have wq:IntKind.i64.wrap (Int.tdiv (x.length:Int) 4)=((x.length / 4:Nat):Int):=by
  rw [Int.tdiv_eq_ediv_of_nonneg (by omega),Af (by omega)]
  omega
 have wn:IntKind.i64.wrap (20+((x.length / 4:Nat):Int))=((20+x.length / 4:Nat):Int):=by rw [Af (by omega)]; omega
 by_cases hn:20+x.length / 4<=69
 ·obtain ⟨es,d',e,k,k2⟩:=L (20+x.length / 4) hn [] []
  refine ⟨v,es,d',dQ ?_,k,hv,k2⟩
  unfold Ta
  rw [e1,Y,OE hv,Y,if_neg (by omega),wq,wn,if_neg (by simp; omega)]
  exact e
 ·obtain ⟨es,d',e,k,k2⟩:=L 69 (by omega) [] []
  refine ⟨v,es,d',dQ ?_,k,hv,k2⟩
  unfold Ta
  rw [e1,Y,OE hv,Y,if_neg (by omega),wq,wn,if_pos (by simp; omega)]
  exact e
def AEm (g:AS):Prop:=∃ v es,SX v/\es.length<=70/\(∀ e∈es,Jy e=true)/\g=(Je 0 es (Ah v) []).1
theorem jA (x:List Int) (d:Ki) (hx:x.length<=1048576) (h:Tq d):∃ g d' n,Qa x d=some (g,d')/\Tq d'/\Jg g n/\n<=69/\AEm g:=by
 obtain ⟨v,es,d1,e1,k1,hv,hl,he⟩:=Vb x d hx h
 obtain ⟨r1,r2,r3⟩:=mG es 0 (Ah v) [] (PR hv) (by omega) he
 refine ⟨_,d1,0+es.length,qc ?_,k1,r1,by omega,v,es,hv,by omega,he,rfl⟩
 unfold ag
 rw [e1,Y,mH hv (by omega) he,Y]

def SS (views:List (List Int)) (e:Int):Int:=(views.getD (e-1).toNat []).getD 0 0
def OF (l:List AP) (b:Int):Prop:=∀ y∈l,y.2.2<=b
theorem OF.mono {l:List AP} {a b:Int} (h:OF l a) (hab:a<=b):OF l b:=fun y hy=>Int.le_trans (h y hy) hab
theorem oW {b:Int}:OF [] b:=fun y hy=>by cases hy
theorem eR {x:List AP} {a b:AP} (h:b∈An x a):b=a\/b∈x:=by
 unfold An at h
 split at h
 ·exact .inr h
 ·split at h
  ·split at h
   ·exact zX h
   ·exact .inr h
  ·exact .inr h
theorem OF.put {l:List AP} {a:AP} {b:Int} (h:OF l b) (ha:a.2.2<=b):OF (An l a) b:=fun y hy=>by
 rcases eR hy with e | e
 ·rw [e]; exact ha
 ·exact h y e
structure V1 (views:List (List Int)) (m:AE):Prop where
 lead:m.2.2.2.2.1=true->m.2.1<=(views.length:Int)/\SS views m.2.1=m.1
 ver:OF m.2.2.2.2.2.2.2.1 (1000*m.2.1+900)
 own:m.2.2.2.2.1=true->m.2.2.2.1=true->OF m.2.2.2.2.2.2.2.1 (1000*m.2.1+m.2.2.2.2.2.2.2.2.1)
 task:m.2.2.2.2.2.2.2.2.2.1≠0->m.2.2.2.2.2.2.2.2.2.2.2.2.1.2.2<=1000*m.2.1+m.2.2.2.2.2.2.2.2.1
 view:m.2.2.2.1=true->m.2.1<=(views.length:Int)/\(views.getD (m.2.1-1).toNat []).contains m.1=true
structure V2 (views:List (List Int)) (x:Bc):Prop where
 inst:x.1=3->x.2.2.2.2.1=0
 old:x.1=2\/x.1=3->OF x.2.2.2.2.2 (1000*x.2.2.2.1)
 store:x.1=5->x.2.2.1≠SS views x.2.2.2.1/\OF x.2.2.2.2.2 (1000*x.2.2.2.1+900)
theorem V2.plain {views:List (List Int)} {x:Bc} (h2:x.1≠2) (h3:x.1≠3) (h5:x.1≠5):V2 views x:=⟨fun h=>absurd h h3,fun h=>by omega,fun h=>absurd h h5⟩
theorem V1.finish {views:List (List Int)} {m:AE} (h:V1 views m) (hc:m.2.2.2.2.2.2.2.2.1<=900) (h0:m.2.2.2.2.2.2.2.2.2.1≠0):V1 views (CA m).2:=by
 have ht:=h.task h0
 unfold CA
 split
 ·exact ⟨h.lead,h.ver.put (by omega),fun h1 h2=>(h.own h1 h2).put ht,fun h0=>absurd rfl h0,h.view⟩
 ·exact ⟨h.lead,h.ver,h.own,fun h0=>absurd rfl h0,h.view⟩
theorem V1.bare {views:List (List Int)} {m:AE} (h:V1 views m) {e:Int} (he:m.2.1<=e):V1 views (Xl m e) :=
 ⟨fun h=>(by cases h),h.ver.mono (by show _<=1000*e+900; omega),fun h=>(by cases h),fun h=>absurd rfl h,fun h=>(by cases h)⟩
theorem V1.inst {views:List (List Int)} {i e:Int} {its:List AP} (h:OF its (1000*e)) (hv:e<=(views.length:Int)/\(views.getD (e-1).toNat []).contains i=true):V1 views (i,e,false,true,false,false,([]:List Int),its,(0:Int),(0:Int),(0:Int),(0:Int),(O,O,(0:Int)),([]:List Int)) :=
 ⟨fun h=>(by cases h),h.mono (by show _<=1000*e+900; omega),fun h=>(by cases h),fun h=>absurd rfl h,fun _=>hv⟩
theorem ut {views:List (List Int)} {i e:Int} (hv:SX views) (h1:1<=e) (he:e<=(views.length:Int)) (hf:SS views e=i):(views.getD (e-1).toNat []).contains i=true:=by
 have g:=hv.get (i:=(e-1).toNat) (by omega)
 rw [<- hf,List.contains_iff_mem,SS,AU (show 0<(views.getD (e-1).toNat []).length by omega)]
 exact BU _
theorem V1.has {views:List (List Int)} {m:AE} {view:List Int} {its:List AP} (hv:SX views) (h1:1<=m.2.1) (hl:m.2.2.2.2.1=true) (h:V1 views m) (hc:0<=m.2.2.2.2.2.2.2.2.1) (hi:OF its (1000*m.2.1)):V1 views (T1 m view its) :=
 ⟨h.lead,hi.mono (by show _<=1000*m.2.1+900; omega),fun _ _=>hi.mono (by show _<=1000*m.2.1+m.2.2.2.2.2.2.2.2.1; omega),h.task,fun _=>⟨(h.lead hl).1,ut hv h1 (h.lead hl).1 (h.lead hl).2⟩⟩
theorem V2.insts {views:List (List Int)} {i e:Int} {l:List Int} {its:List AP} (h:OF its (1000*e)):∀ y∈l.map (fun v=>((3:Int),i,v,e,(0:Int),its)),V2 views y:=by
 intro y hy
 obtain ⟨v,_,rfl⟩:=List.mem_map.1 hy
 exact ⟨fun _=>rfl,fun _=>h,fun h5=>absurd h5 (by decide:(3:Int)≠5)⟩
theorem V2.reply {views:List (List Int)} {m:AE} {x:Bc} {k:Int} (hk:k=4\/k=6\/k=8):∀ y∈FN m x k,V2 views y:=by
 intro y hy
 simp only [FN,Cj] at hy
 subst hy
 exact V2.plain (by show k≠2; omega) (by show k≠3; omega) (by show k≠5; omega)
theorem AAm {views:List (List Int)}:∀ y∈([]:List Bc),V2 views y:=fun y hy=>by cases hy
def V4 (views:List (List Int)) (n:AE) (told:List Bc):Prop:=V1 views n/\∀ y∈told,V2 views y
theorem V4.same {views:List (List Int)} {m:AE} (h:V1 views m):V4 views m []:=⟨h,AAm⟩
theorem ACV {views:List (List Int)} {m:AE} (h:V1 views m) (hc:m.2.2.2.2.2.2.2.2.1<=900) (h0:m.2.2.2.2.2.2.2.2.2.1≠0) (f:Int):V4 views (HE m f).1 (HE m f).2.1:=by
 have hl:V1 views (wh m f):=⟨h.lead,h.ver,h.own,h.task,h.view⟩
 unfold HE
 split
 ·exact ⟨hl.finish hc h0,AAm⟩
 ·exact .same hl
theorem AEn {views:List (List Int)} {m:AE} {x:Bc} (hv:SX views) (hlen:m.2.1<=(views.length:Int)) (hm:Kb m) (h:V1 views m) (hx:V2 views x) (hxo:XOk x) (ht:x.2.2.1=m.1) (he:x.2.2.2.1=m.2.1):V4 views (eO m (views.getD (m.2.1-1).toNat []) x).1 (eO m (views.getD (m.2.1-1).toNat []) x).2.1:=by
 have hcnt:=hm.count
 unfold eO
 by_cases k2:x.1=2
 ·rw [if_pos k2]
  split
  ·rename_i hc
   simp only [AD] at hc
   have:=hx.old (.inl k2)
   rw [he] at this
   exact ⟨V1.has hv hm.ep.1 hc.1 h hcnt.1 this,V2.insts this⟩
  ·exact .same h
 rw [if_neg k2]
 by_cases k3:x.1=3
 ·rw [if_pos k3]
  split
  ·exact .same h
  ·rename_i hc
   split
   ·exact .same h
   ·split
    ·exact ⟨h,V2.reply (.inl rfl)⟩
    ·have:=hx.old (.inr k3)
     rw [he] at this
     refine ⟨V1.inst this ⟨hlen,?_⟩,V2.reply (.inl rfl)⟩
     cases q:(views.getD (m.2.1-1).toNat []).contains m.1 with
     | true=>rfl
     | false=>rw [q] at hc; exact absurd rfl hc
 rw [if_neg k3]
 by_cases k4:x.1=4
 ·rw [if_pos k4]
  split
  ·exact .same ⟨h.lead,h.ver,h.own,h.task,h.view⟩
  ·exact .same h
 rw [if_neg k4]
 by_cases k5:x.1=5
 ·rw [if_pos k5]
  split
  ·obtain ⟨s1,s2⟩:=hx.store k5
   have hlen:x.2.2.2.2.2.length=1:=by
    have:=hxo.shape
    rw [if_neg (by omega),if_pos k5] at this
    exact this
   have hit:(x.2.2.2.2.2.getD 0 (O,O,(0:Int))).2.2<=1000*m.2.1+900:=by
    rw [AU (show 0<x.2.2.2.2.2.length by omega),<- he]
    exact s2 _ (BU _)
   refine ⟨⟨h.lead,h.ver.put hit,fun h1 h2=>?_,h.task,h.view⟩,V2.reply (.inr (.inl rfl))⟩
   exact absurd (h.lead h1).2 (by rw [<- he,<- ht]; exact Ne.symm s1)
  ·exact .same h
 rw [if_neg k5]
 by_cases k7:x.1=7
 ·rw [if_pos k7]
  split
  ·exact ⟨h,V2.reply (.inr (.inr rfl))⟩
  ·exact .same h
 rw [if_neg k7]
 by_cases hc:(x.1=6\/x.1=8)/\m.2.2.2.2.2.2.2.2.2.1=(if x.1=8 then 2 else 1)/\m.2.2.2.2.2.2.2.2.2.2.2.1=x.2.2.2.2.1
 ·rw [if_pos hc]
  exact ACV h hcnt.2 (by have:=hc.2.1; split at this<;>omega) _
 ·rw [if_neg hc]
  exact .same h
theorem ACW {views:List (List Int)} {m:AE} {x:Bc} (hv:SX views) (hm:Kb m) (h:V1 views m) (hx:V2 views x):V4 views (D4 m views x).1 (D4 m views x).2.1:=by
 unfold D4
 split
 ·rename_i hc
  simp only [AD,decide_eq_true_eq,beq_iff_eq] at hc
  obtain ⟨⟨⟨hmo,h1⟩,h2⟩,h3⟩:=hc
  split
  ·rename_i he
   exact AEn hv (by omega) hm h hx (fC.1 hmo) h1 he
  ·split
   ·rename_i hs
    simp only [AD,beq_iff_eq] at hs
    refine ⟨h.bare h2,fun y hy=>?_⟩
    simp only [Cj] at hy
    subst hy
    refine ⟨fun h3=>absurd h3 (by decide:(2:Int)≠3),fun _=>h.ver.mono ?_,fun h5=>absurd h5 (by decide:(2:Int)≠5)⟩
    show _<=1000*x.2.2.2.1
    omega
   ·split
    ·rename_i hs
     simp only [AD,beq_iff_eq] at hs
     exact ⟨V1.inst (hx.old (.inr hs.1.1)) ⟨h3,hs.1.2⟩,V2.reply (.inl rfl)⟩
    ·exact .same h
 ·exact .same h
theorem ADj {view:List Int} {i v:Int} (h:v∈CI view i):v≠i:=by
 have:=(List.mem_filter.1 h).2
 simpa using this
theorem ADk {views:List (List Int)} {m:AE} {op call:Int} {key val:ByteArray} (hm:Kb m) (h:V1 views m) (hb:(D5 m views op call key val).2.2.2=true) :
  V4 views (D5 m views op call key val).1 (D5 m views op call key val).2.1:=by
 have hcnt:=hm.count
 unfold D5 at hb ⊢
 split at hb
 ·rename_i hmay
  rw [if_pos hmay]
  obtain ⟨h1,h2,h3,h4,h5,h6,h7,h8,h9,h10⟩:=fE hmay
  split at hb
  ·cases hb
  ·rename_i hn
   rw [if_neg hn]
   have ht:V1 views (HR m (views.getD (m.2.1-1).toNat []) op call key val):=by
    refine ⟨h.lead,h.ver,fun a b=>(h.own a b).mono ?_,fun _=>?_,h.view⟩
    ·show _<=1000*m.2.1+(m.2.2.2.2.2.2.2.2.1+1); omega
    ·show 1000*m.2.1+(m.2.2.2.2.2.2.2.2.1+1)<=1000*m.2.1+(m.2.2.2.2.2.2.2.2.1+1); omega
   unfold Ts
   split
   ·exact ⟨ht.finish (by show m.2.2.2.2.2.2.2.2.1+1<=900; omega) (by show op≠0; omega),AAm⟩
   ·refine ⟨ht,fun y hy=>?_⟩
    obtain ⟨v,hv,rfl⟩:=List.mem_map.1 hy
    have hne:=ADj hv
    by_cases ho:op=1
    ·rw [if_pos ho,if_pos ho]
     refine ⟨fun h3=>absurd h3 (by decide:(5:Int)≠3),fun h=>absurd h (by decide:¬ ((5:Int)=2\/(5:Int)=3)),fun _=>⟨fun e=>hne (e.trans ?_),fun z hz=>?_⟩⟩
     ·exact h10
     ·simp only [Cj] at hz
      subst hz
      show 1000*m.2.1+(m.2.2.2.2.2.2.2.2.1+1)<=1000*m.2.1+900
      omega
    ·rw [if_neg ho,if_neg ho]
     exact V2.plain (by decide:(7:Int)≠2) (by decide:(7:Int)≠3) (by decide:(7:Int)≠5)
 ·cases hb
theorem ADl {views:List (List Int)} {m:AE} {e:Int} (hvo:SX views) (h:V1 views m) (hb:(Fq m views e).2.2=true):V4 views (Fq m views e).1 (Fq m views e).2.1:=by
 unfold Fq at hb ⊢
 split at hb
 ·rename_i hc
  rw [if_pos hc]
  have hv:OF m.2.2.2.2.2.2.2.1 (1000*e):=h.ver.mono (by omega)
  have hn:V1 views (Ms m e):=⟨fun _=>⟨hc.2.1,hc.2.2.2⟩,hv.mono (by show _<=1000*e+900; omega),fun _ h=>(by cases h),fun h=>absurd rfl h,fun h=>(by cases h)⟩
  split
  ·exact ⟨V1.has hvo (by show 1<=e; omega) rfl hn (by show (0:Int)<=0; omega) hv,V2.insts hv⟩
  ·refine ⟨hn,fun y hy=>?_⟩
   obtain ⟨v,hv,rfl⟩:=List.mem_map.1 hy
   exact V2.plain (by decide:(1:Int)≠2) (by decide:(1:Int)≠3) (by decide:(1:Int)≠5)
 ·cases hb
theorem V1.fall {views:List (List Int)} {m:AE}:V1 views (Xo m):=⟨fun h=>(by cases h),oW,fun h=>(by cases h),fun h=>absurd rfl h,fun h=>(by cases h)⟩
theorem V1.first {views:List (List Int)} {i:Int} (hv:SX views):V1 views (E1 i views):=by
 have:=hv.len
 refine ⟨fun h=>⟨by show (1:Int)<=_; omega,?_⟩,oW,fun _ _=>oW,fun h=>absurd rfl h,fun h=>⟨by show (1:Int)<=_; omega,h⟩⟩
 exact beq_iff_eq.1 h
structure V3 (g:AS):Prop where
 mem:∀ i,i<6->V1 g.1 (BB g i)
 fly:∀ x∈g.2.2.1,V2 g.1 x
 calls:∀ c∈g.2.2.2,c.2.2.2.2.1=-1\/0<=c.2.2.2.2.1
theorem AAI {at_:Int} (ha:0<=at_) (s:DH) {cs:List F6} (h:∀ c∈cs,c.2.2.2.2.1=-1\/0<=c.2.2.2.2.1):∀ c∈H5 at_ cs s,c.2.2.2.2.1=-1\/0<=c.2.2.2.2.1:=by
 unfold H5
 split
 ·exact h
 ·intro c hc
  rcases List.mem_or_eq_of_mem_set hc with e | e
  ·exact h c e
  ·rw [e]; exact .inr ha
theorem pE {at_:Int} (ha:0<=at_):∀ (said:List DH) {cs:List F6},(∀ c∈cs,c.2.2.2.2.1=-1\/0<=c.2.2.2.2.1)->∀ c∈said.foldl (H5 at_) cs,c.2.2.2.2.1=-1\/0<=c.2.2.2.2.1
 | [],_,h=>h
 | s::l,_,h=>pE ha l (AAI ha s h)
theorem V3.member {g:AS} (h:V3 g) (h6:g.2.1.length=6) {n:AE} {told:List Bc} {said:List DH} {at_:Int} {i:Nat} (ha:0<=at_) (hi:i<6) (hid:n.1=(i:Int)+1) (hn:V4 g.1 n told):V3 (BZ g n told said at_):=by
 refine ⟨fun j hj=>?_,fun x hx=>?_,pE ha said h.calls⟩
 ·rw [ur h6 hj hid hi]
  split
  ·exact hn.1
  ·exact h.mem j hj
 ·rcases As.1 hx with h1 | h1
  ·exact h.fly x h1
  ·exact hn.2 x h1
theorem V3.less {g:AS} (h:V3 g) (i:Nat):V3 (Fb g i):=⟨h.mem,fun x hx=>by
 rcases As.1 hx with h1 | h1
 ·exact h.fly x (List.mem_of_mem_take h1)
 ·exact h.fly x (List.mem_of_mem_drop h1),h.calls⟩
theorem V3.call {g:AS} (h:V3 g) (at_:Int) (e:D6):V3 (H6 g at_ e):=⟨h.mem,h.fly,fun c hc=>by
 rcases As.1 hc with h1 | h1
 ·exact h.calls c h1
 ·simp only [Cj] at h1
  rw [h1]; exact .inl rfl⟩
theorem V3.adopt {g:AS} {k:Nat} (h:V3 g) (hg:Jg g k) {at_ node:Int} (ha:0<=at_) (hn:1<=node/\node<=6):∀ (n:Nat) (e:Int),V3 (Ik g at_ (BB g (node-1).toNat) node n e).2
 | 0,_=>h
 | n+1,e=>by
  unfold Ik
  split
  ·exact V3.adopt h hg ha hn n (e+1)
  ·split
   ·rename_i hb
    obtain ⟨m1,m2⟩:=hg.mem (node-1).toNat (by omega)
    have hao:=Xn (e:=e) m1 hg.views hb
    exact h.member hg.six (i:=(node-1).toNat) ha (by omega) (by rw [hao.2.1,m2]) (ADl hg.views (h.mem _ (by omega)) hb)
   ·exact h
theorem V3.event {g:AS} {k:Nat} (h:V3 g) (hg:Jg g k) {at_:Int} (ha:0<=at_) {e:D6} (he:Jy e=true):V3 (rN g at_ e).2:=by
 have hn:=mE he
 unfold rN
 split
 ·unfold Jz
  split
  ·rename_i hb
   obtain ⟨m1,m2⟩:=hg.mem (e.2.1-1).toNat (by omega)
   have hbo:=fF (op:=e.2.2.2.1) (call:=(g.2.2.2.length:Int)) (key:=e.2.2.2.2.1) (val:=e.2.2.2.2.2) m1 hg.views
   exact (h.call at_ e).member (g:=H6 g at_ e) hg.six (i:=(e.2.1-1).toNat) ha (by omega) (by rw [hbo.id hb,m2]) (ADk m1 (h.mem _ (by omega)) hb)
  ·exact h.call at_ e
 ·split
  ·exact h.adopt hg ha (by omega) _ _
  ·split
   ·obtain ⟨m1,m2⟩:=hg.mem (e.2.1-1).toNat (by omega)
    exact h.member hg.six (i:=(e.2.1-1).toNat) ha (by omega) m2 ⟨V1.fall,AAm⟩
   ·unfold fu
    split
    ·exact h
    ·rename_i hne
     have hl:0<g.2.2.1.length:=by
      cases hq:g.2.2.1 with
      | nil=>exact absurd hq hne
      | cons a l=>simp
     have hlt:(e.2.2.1 % (g.2.2.1.length:Int)).toNat<g.2.2.1.length:=by
      have h1:=Int.emod_lt_of_pos e.2.2.1 (show (0:Int)<(g.2.2.1.length:Int) by omega)
      have h2:=Int.emod_nonneg e.2.2.1 (show (g.2.2.1.length:Int)≠0 by omega)
      omega
     have hmem:g.2.2.1.getD (e.2.2.1 % (g.2.2.1.length:Int)).toNat DM∈g.2.2.1:=by
      rw [AU hlt]
      exact BU _
     split
     ·refine ⟨h.mem,fun x hx=>?_,h.calls⟩
      rcases As.1 hx with h1 | h1
      ·exact h.fly x h1
      ·simp only [Cj] at h1
       rw [h1]
       exact h.fly _ hmem
     ·split
      ·exact h.less _
      ·have hto:=(hg.fly _ hmem).to
       generalize hx:g.2.2.1.getD (e.2.2.1 % (g.2.2.1.length:Int)).toNat DM=x at *
       obtain ⟨m1,m2⟩:=hg.mem (x.2.2.1-1).toNat (by omega)
       exact (h.less _).member (g:=Fb g (e.2.2.1 % (g.2.2.1.length:Int)).toNat) hg.six (i:=(x.2.2.1-1).toNat) ha (by omega) (by rw [(QK (x:=x) m1 hg.views).id,m2]) (ACW hg.views m1 (h.mem _ (by omega)) (h.fly _ hmem))
theorem V3.new {views:List (List Int)} (hv:SX views):V3 (Ah views):=by
 refine ⟨fun i hi=>?_,(fun x hx=>by cases hx),fun x hx=>by cases hx⟩
 have h5:i=0\/i=1\/i=2\/i=3\/i=4\/i=5:=by omega
 rcases h5 with rfl | rfl | rfl | rfl | rfl | rfl<;>exact V1.first hv
theorem V3.run:∀ (es:List D6) (n:Nat) (g:AS) (cs:List Int),Jg g n->V3 g->n+es.length<=70->(∀ e∈es,Jy e=true)->V3 (Je n es g cs).1
 | [],n,g,cs,_,h,_,_=>h
 | e::es,n,g,cs,hg,h,hn,he=>by
  simp only [List.length_cons] at hn
  obtain ⟨h2,_⟩:=hg.event (at_:=(n:Int)) (he e (by simp))
  exact V3.run es (n+1) _ _ h2 (h.event hg (by omega) (he e (by simp))) (by omega) (fun x hx=>he x (by simp [hx]))

theorem mJ (a b:Int):Nf a b=some (decide (a<b)):=uh (by
 have h:∀ a,Lc a=some false:=fun a=>rH (by unfold bN; simp)
 unfold eI
 rw [h,Y,if_neg (by simp)])
def yU (l:List Int) (j:Nat):List Int:=(l.set (j+1) (l.getD j 0)).set j (l.getD (j+1) 0)
def bub:Nat->List Int->List Int
 | 0,l=>l
 | j+1,l=>if l.getD (j+1) 0<l.getD j 0 then bub j (yU l j) else l
def srt:Nat->Nat->List Int->List Int
 | 0,_,l=>l
 | k+1,i,l=>srt k (i+1) (bub i l)
theorem mK (l:List Int) (j:Nat):(yU l j).length=l.length:=by simp [yU]
theorem re:∀ (j:Nat) (l:List Int),(bub j l).length=l.length
 | 0,l=>rfl
 | j+1,l=>by
  unfold bub
  split
  ·rw [re j,mK]
  ·rfl
theorem ABX {l:List Int} {j:Nat} (h:j+1<l.length):(yU l j).Perm l:=by
 obtain ⟨p,a,b,q,rfl,rfl⟩:∃ p a b q,l=p++a::b::q/\p.length=j :=
  ⟨l.take j,l[j],l[j+1],l.drop (j+2),by rw [<- List.drop_eq_getElem_cons h,<- List.drop_eq_getElem_cons (show j<l.length by omega),List.take_append_drop],by rw [List.length_take]; omega⟩
 have e:yU (p++a::b::q) p.length=p++b::a::q:=by
  unfold yU
  have e1:(p++a::b::q).getD p.length 0=a:=by simp [List.getD]
  have e2:(p++a::b::q).getD (p.length+1) 0=b:=by simp [List.getD]
  rw [e1,e2,List.set_append_right _ _ (by omega),List.set_append_right _ _ (by omega)]
  simp
 rw [e]
 exact List.Perm.append_left p (List.Perm.swap a b q)
theorem zZ:∀ (j:Nat) (l:List Int),j<l.length->(bub j l).Perm l
 | 0,l,_=>List.Perm.refl l
 | j+1,l,h=>by
  unfold bub
  split
  ·exact (zZ j _ (by rw [mK]; omega)).trans (ABX h)
  ·exact List.Perm.refl l
theorem uu:∀ (k i:Nat) (l:List Int),i+k=l.length->(srt k i l).Perm l
 | 0,_,l,_=>List.Perm.refl l
 | k+1,i,l,h=>(uu k (i+1) _ (by rw [re]; omega)).trans (zZ i l (by omega))
theorem AAn {l:List Int} {j:Nat} (h:j+1<l.length) (a:Nat):(yU l j).getD a 0=if a=j then l.getD (j+1) 0 else if a=j+1 then l.getD j 0 else l.getD a 0:=by
 unfold yU
 simp only [List.getD_eq_getElem?_getD,Bp,List.length_set]
 by_cases h1:a=j
 ·subst h1
  rw [if_pos rfl,if_pos (by omega),if_pos rfl]
  simp
 ·rw [if_neg (fun e=>h1 e.symm),if_neg h1]
  by_cases h2:a=j+1
  ·subst h2
   rw [if_pos rfl,if_pos (by omega),if_pos rfl]
   simp
  ·rw [if_neg (fun e=>h2 e.symm),if_neg h2]
def AER (i:Nat) (l:List Int):Prop:=∀ a b,a<b->b<=i->l.getD a 0<=l.getD b 0
theorem ACX (i:Nat):∀ (j:Nat) (l:List Int),j<=i->i<l.length->(∀ a b,a<b->b<=i->b≠j->l.getD a 0<=l.getD b 0)->AER i (bub j l)
 | 0,l,_,_,h=>fun a b h1 h2=>h a b h1 h2 (by omega)
 | j+1,l,hj,hi,h=>by
  unfold bub
  split
  ·rename_i hlt
   refine ACX i j _ (by omega) (by rw [mK]; exact hi) fun a b h1 h2 h3=>?_
   rw [AAn (by omega),AAn (by omega)]
   rw [if_neg h3]
   by_cases hb:b=j+1
   ·subst hb
    rw [if_pos rfl]
    by_cases ha:a=j
    ·rw [if_pos ha]; omega
    ·rw [if_neg ha,if_neg (by omega)]
     exact h a j (by omega) (by omega) (by omega)
   ·rw [if_neg hb]
    by_cases ha:a=j
    ·rw [if_pos ha]; exact h (j+1) b (by omega) h2 hb
    ·rw [if_neg ha]
     by_cases ha2:a=j+1
     ·rw [if_pos ha2]; exact h j b (by omega) h2 hb
     ·rw [if_neg ha2]; exact h a b h1 h2 hb
  ·rename_i hlt
   intro a b h1 h2
   by_cases hb:b=j+1
   ·subst hb
    by_cases ha:a=j
    ·subst ha; omega
    ·have:=h a j (by omega) (by omega) (by omega)
     omega
   ·exact h a b h1 h2 hb
theorem ACY:∀ (k i:Nat) (l:List Int),i+k=l.length->1<=i->AER (i-1) l->AER (l.length-1) (srt k i l)
 | 0,i,l,h,hi,hu=>by
  have:i-1=l.length-1:=by omega
  rw [<- this]; exact hu
 | k+1,i,l,h,hi,hu=>by
  have:=ACY k (i+1) (bub i l) (by rw [re]; omega) (by omega) (by
   rw [Nat.add_sub_cancel]
   exact ACX i i l (Nat.le_refl _) (by omega) fun a b h1 h2 h3=>hu a b h1 (by omega))
  rw [re] at this
  exact this
theorem AAo (n i:Nat) (hn:n<=12) (g:List Int->List Int) (K:∀ l:List Int,l.length=n->BF 0 (n:Int) ((i:Int)+1) l=some (g l)) (hi:i<n) :
  ∀ (j:Nat) (l:List Int),j<n->l.length=n->B9 0 (n:Int) (i:Int) (j:Int) l=some (g (bub j l))
 | 0,l,hj,hl=>Fa (by
  unfold C_
  rw [if_neg (by simp),Af (by omega)]
  exact K l hl)
 | j+1,l,hj,hl=>Fa (by
  unfold C_
  have e1:IntKind.i64.wrap (((j+1:Nat):Int)-1)=(j:Int):=by rw [Af (by omega)]; omega
  have e2:((j+1:Nat):Int).toNat=j+1:=by omega
  have e3:((j:Nat):Int).toNat=j:=by omega
  rw [if_pos (by simp<;>omega),if_pos (by omega),if_pos (by omega),e1,if_pos (by omega),if_pos (by omega),mJ,Y,e2,e3]
  unfold bub
  by_cases h:l.getD (j+1) 0<l.getD j 0
  ·rw [if_pos (by simpa using h),if_pos h]
   refine K7 ?_
   unfold FZ
   simp only [e1,e2,e3]
   rw [if_pos (by omega),if_pos (by omega),if_pos (by omega),if_pos (by omega),if_pos (by omega),if_pos (by omega),if_pos (by omega),if_pos (by rw [List.length_set]; omega)]
   exact AAo n i hn g K hi j (yU l j) (by omega) (by rw [mK]; exact hl)
  ·rw [if_neg (by simpa using h),if_neg h,Af (by omega)]
   exact K l hl)
theorem AAp (n:Nat) (hn:n<=12):∀ (k i:Nat) (l:List Int),i+k=n->l.length=n->BF 0 (n:Int) (i:Int) l=some (srt k i l)
 | 0,i,l,h,hl=>DA (by
  unfold B_
  rw [if_neg (by simp; omega)]
  rfl)
 | k+1,i,l,h,hl=>DA (by
  unfold B_
  rw [if_pos (by simp; omega)]
  exact AAo n i hn (srt k (i+1)) (fun l hl=>by have:=AAp n hn k (i+1) l (by omega) hl; rw [<- this]; congr 1) (by omega) i l (by omega) hl)
set_option maxRecDepth 100000 in
theorem AES (n:Nat) (h:n<=12):∃ r,Qc (IntKind.u64.wrap (n:Int))=some r:=by
 have h1:∃ r,HB (n:Int) 0=some r:=by
  have hs:IntKind.u8.wrap (n:Int)=(n:Int):=by
   have:n=0\/n=1\/n=2\/n=3\/n=4\/n=5\/n=6\/n=7\/n=8\/n=9\/n=10\/n=11\/n=12:=by omega
   rcases this with h | h | h | h | h | h | h | h | h | h | h | h | h<;>subst h<;>rfl
  have ht:∃ r,Jx (n:Int) 0=some r:=by
   unfold Jx
   rw [if_neg (by simp; omega),if_pos (by rw [hs]; omega),if_pos (by
    rw [hs]
    exact Int.lt_of_lt_of_le (show (n:Int)<13 by omega) (by decide))]
   exact ⟨_,rfl⟩
  obtain ⟨r,hr⟩:=ht
  exact ⟨r,eJ hr⟩
 obtain ⟨r,hr⟩:=h1
 have h2:Ng (n:Int)=some r:=lx (by
  unfold VY
  rw [if_neg (by simp; omega)]
  exact eK (by
   unfold QH
   rw [if_neg (by simp; omega)]
   exact hr))
 have hu:IntKind.u64.wrap (n:Int)=(n:Int):=by
  have:n=0\/n=1\/n=2\/n=3\/n=4\/n=5\/n=6\/n=7\/n=8\/n=9\/n=10\/n=11\/n=12:=by omega
  rcases this with h | h | h | h | h | h | h | h | h | h | h | h | h<;>subst h<;>rfl
 exact ⟨r,rE (by unfold bM; rw [hu,h2]; rfl)⟩
theorem AAq (l:List Int) (h:l.length<=12):∃ r,DI l=some r/\r.Perm l/\r.Pairwise (· <= ·):=by
 obtain ⟨b,hb⟩:=AES l.length h
 have hins:∃ r,Dl 0 (l.length:Int) l=some r/\r.Perm l/\r.Pairwise (· <= ·):=by
  by_cases h0:l.length=0
  ·have:l=[]:=E5.1 h0
   subst this
   refine ⟨[],Gf ?_,List.Perm.refl _,List.Pairwise.nil⟩
   unfold Dm
   refine DA ?_
   unfold B_
   rw [if_neg (by rw [Af (by omega)]; simp)]
  ·refine ⟨srt (l.length-1) 1 l,Gf ?_,uu _ _ _ (by omega),?_⟩
   ·unfold Dm
    rw [Af (by omega)]
    exact AAp l.length h (l.length-1) 1 l (by omega) rfl
   ·have hu:=ACY (l.length-1) 1 l (by omega) (Nat.le_refl _) (fun a b h1 h2=>by omega)
    have hp:=(uu (l.length-1) 1 l (by omega)).length_eq
    rw [List.pairwise_iff_getElem]
    intro i j hi hj hij
    have:=hu i j hij (by omega)
    rwa [AU hi,AU hj] at this
 obtain ⟨r,h1,h2,h3⟩:=hins
 refine ⟨r,bl ?_,h2,h3⟩
 unfold Od
 have hq:Cm 0 (l.length:Int) b l=some r:=SQ (by
  unfold JX
  refine PN ?_
  unfold Hx
  rw [if_pos (by rw [Af (by omega)]; simp; omega),h1]
  rfl)
 rw [hb,Y,hq]
 rfl
theorem AAr:∀ {a b:List Int},a.Pairwise (· < ·)->b.Pairwise (· < ·)->(∀ x,x∈a↔x∈b)->a=b
 | [],[],_,_,_=>rfl
 | [],y::b,_,_,h=>absurd ((h y).2 (by simp)) (by simp)
 | x::a,[],_,_,h=>absurd ((h x).1 (by simp)) (by simp)
 | x::a,y::b,ha,hb,h=>by
  rw [List.pairwise_cons] at ha hb
  have hxy:x=y:=by
   have h1:=(h x).1 (by simp)
   have h2:=(h y).2 (by simp)
   rcases BQ.1 h1 with e | h1
   ·exact e
   ·rcases BQ.1 h2 with e | h2
    ·exact e.symm
    ·have:=ha.1 y h2
     have:=hb.1 x h1
     omega
  subst hxy
  rw [AAr ha.2 hb.2 fun z=>?_]
  constructor
  ·intro hz
   rcases BQ.1 ((h z).1 (by simp [hz])) with e | h
   ·subst e; have:=ha.1 z hz; omega
   ·exact h
  ·intro hz
   rcases BQ.1 ((h z).2 (by simp [hz])) with e | h
   ·subst e; have:=hb.1 z hz; omega
   ·exact h
theorem uv {view:List Int} {id x:Int} (hv:WOk view):x∈D3 view id↔x∈CI view id:=by
 unfold D3 CI
 simp only [List.mem_filter,AD,List.contains_eq_mem,decide_eq_true_eq]
 constructor
 ·rintro ⟨_,h1,h2⟩; exact ⟨h2,h1⟩
 ·rintro ⟨h1,h2⟩
  have:=hv.mem x h1
  refine ⟨?_,h2,h1⟩
  have h5:x=1\/x=2\/x=3\/x=4\/x=5\/x=6:=by omega
  rcases h5 with h | h | h | h | h | h<;>simp [h]
theorem oX {view:List Int} (hv:WOk view) (id:Int):DI (CI view id)=some (D3 view id):=by
 have hl:=Ij view id
 have:=hv.len
 obtain ⟨r,h1,h2,h3⟩:=AAq (CI view id) (by omega)
 rw [h1]
 congr 1
 have hnd:r.Nodup:=h2.nodup_iff.2 (hv.nd.filter _)
 refine AAr ?_ (Yf view id).2 fun x=>(h2.mem_iff).trans (uv hv).symm
 have:=h3.and (List.nodup_iff_pairwise_ne.1 hnd)
 exact this.imp fun {a b} h=>by have:=h.1; have:=h.2; omega
theorem pF {view:List Int} (hv:WOk view) (id:Int):(D3 view id).length=(CI view id).length:=by
 obtain ⟨r,h1,h2,_⟩:=AAq (CI view id) (by have:=Ij view id; have:=hv.len; omega)
 rw [oX hv] at h1
 cases h1
 exact h2.length_eq

theorem Vc (x:List Int) (n:Int) (h:x.length<=maxLen):CQ x n=some (x.contains n):=Tx (by
 have hm:x.length<=9223372036854775807:=h
 have key:=E0 (n:=x.length) (P:=fun i=>∃ r,C7 x n (x.length:Int) (i:Int)=some r/\(decide (r>=0)=(x.drop i).contains n)) ⟨-1,CR (by
  unfold Bs
  rw [if_neg (by simp)]),by simp⟩ (fun i hi ⟨r,hr,hc⟩=>by
  by_cases e:n=x[i]
  ·refine ⟨(i:Int),CR ?_,?_⟩
   ·unfold Bs
    simp only [show ((i:Int)<(x.length:Int)) from by omega,decide_true,if_true,show (0:Int)<=(i:Int) from by omega,Ai,AU hi]
    rw [if_pos (by simpa using e)]
   ·rw [BC hi,List.contains_cons,e]
    simp only [beq_self_eq_true,Bool.true_or]
    exact decide_eq_true (by omega)
  ·refine ⟨r,CR ?_,?_⟩
   ·unfold Bs
    simp only [show ((i:Int)<(x.length:Int)) from by omega,decide_true,if_true,show (0:Int)<=(i:Int) from by omega,Ai,AU hi,AM (show i<9223372036854775807 by omega)]
    rw [if_neg (by simpa using e)]
    exact hr
   ·rw [BC hi,hc,List.contains_cons]
    simp [e]) 0 (by omega)
 obtain ⟨r,hr,hc⟩:=key
 unfold Kf
 have:Dw x n=some r:=N1 hr
 rw [this,Y,hc,List.drop_zero])
theorem eS (m:AE) (h1:m.2.2.2.2.2.2.1.length<=68719476736) (h2:m.2.2.2.2.2.2.2.1.length<=68719476736) (h3:m.2.2.2.2.2.2.2.2.2.2.2.2.2.length<=68719476736):DE m=some m:=lC (by
 unfold U7
 rw [C5 h1,Y,BN h2,Y,C5 h3,Y])
theorem Kb.icopy {m:AE} (h:Kb m):DE m=some m:=by
 obtain ⟨h1,h2,h3⟩:=h.lens
 exact eS m (by omega) (by omega) (by omega)
theorem OG (x:Bc) (h:x.2.2.2.2.2.length<=68719476736):Hn x=some x:=uK (by
 unfold dh
 rw [BN h,Y])
theorem PS (view:List Int) (m:AE) (h:view.length<=68719476736):CN view m=some (CI view m.1,m):=d9 (by
 unfold QD
 have key:=E0 (n:=view.length) (P:=fun i=>∀ acc:List Int,acc.length<=i->Dh view (view.length:Int) (i:Int) m acc=some (acc++(view.drop i).filter (· != m.1),m)) (fun acc ha=>Mi (by
  unfold Ht
  rw [if_neg (by simp)]
  simp)) (fun i hi ih acc ha=>Mi (by
  unfold Ht
  simp only [show ((i:Int)<(view.length:Int)) from by omega,decide_true,if_true,show (0:Int)<=(i:Int) from by omega,Ai,AU hi,AM (show i<9223372036854775807 by omega)]
  rw [BC hi,List.filter_cons]
  by_cases hh:(view[i] != m.1)=true
  ·rw [if_pos hh,if_pos (by simp; omega),ih _ (by simp; omega),if_pos hh,Bv]
   rfl
  ·rw [if_neg hh,ih _ (by omega),if_neg hh])) 0 (by omega) [] (by simp)
 exact key)
def AAs (m:AE) (ids:List Int) (x:Bc):List Bc:=ids.map fun v=>(x.1,m.1,v,m.2.1,x.2.2.2.2)
theorem Co (ids:List Int) (x:Bc) (m:AE) (h:ids.length<=68719476736) (hx:x.2.2.2.2.2.length<=68719476736):Ar ids x m=some (AAs m ids x,m):=bm (by
 unfold Of
 have key:=E0 (n:=ids.length) (P:=fun i=>∀ acc:List Bc,acc.length<=i->Ei ids (ids.length:Int) (i:Int) m x acc=some (acc++(ids.drop i).map (fun v=>(x.1,m.1,v,m.2.1,x.2.2.2.2)),m)) (fun acc ha=>LF (by
  unfold HM
  rw [if_neg (by simp)]
  simp)) (fun i hi ih acc ha=>LF (by
  unfold HM
  simp only [show ((i:Int)<(ids.length:Int)) from by omega,decide_true,if_true,show (0:Int)<=(i:Int) from by omega,Ai,AU hi,AM (show i<9223372036854775807 by omega)]
  rw [OG x hx,Y,if_pos (by simp; omega),ih _ (by simp; omega),BC hi,List.map_cons,Bv]
  rfl)) 0 (by omega) [] (by simp)
 exact key)
def AEu (m:AE):AE:=(m.1,m.2.1,m.2.2.1,m.2.2.2.1,false,false,([]:List Int),m.2.2.2.2.2.2.2.1,(0:Int),(0:Int),(0:Int),(0:Int),(O,O,(0:Int)),([]:List Int))
theorem Vv (m:AE):G2 m=some (AEu m):=la rfl
theorem Tu (view:List Int) (its:List AP) (m:AE) (hv:WOk view) (hi:its.length<=68719476736) (hs:m.2.2.2.2.2.1=false) :
  Dy view its m=some ((CI view m.1).map (fun v=>(3,m.1,v,m.2.1,0,its)),T1 m view its):=Yc (by
 have hvl:=hv.len
 have hrl:=Ij view m.1
 unfold N5
 rw [PS view m (by omega),Y,BN hi,Y,C5 (by show (CI view m.1).length<=_; omega),Y,oX hv,Y]
 have ho:=pF hv m.1
 unfold T1
 rw [ho]
 by_cases h0:(CI view m.1).length=0
 ·rw [if_pos (by simpa using h0),Co _ _ _ (by show (CI view m.1).length<=_; omega) hi,Y,h0]
  rfl
 ·rw [if_neg (by simpa using h0),Co _ _ _ (by show (CI view m.1).length<=_; omega) hi,Y]
  have:(((CI view m.1).length:Int)==0)=false:=by simpa using h0
  rw [this]
  show some (_,(m.1,m.2.1,m.2.2.1,true,m.2.2.2.2.1,m.2.2.2.2.2.1,_))=_
  rw [hs]
  rfl)
theorem Vd (v:List Int) (x:Int) (h:v.length<=68719476736):Nc v x=some (v.filter (· != x)):=ud (by
 unfold eC
 rw [C5 h,Y,SP,Y]
 rfl)
theorem eT (m:AE) (h:m.2.2.2.2.2.2.2.1.length<=34359738367):IS m=some (CA m):=ir (by
 unfold Tn CA
 rw [VZ _ _ h,Xe _ _ (by unfold maxLen; omega)]
 split
 ·rw [Y]
  refine Oe ?_
  unfold JF
  rfl
 ·rw [Y]
  refine Oe ?_
  unfold JF
  rfl)
def ACZ (m:AE) (views:List (List Int)) (x:Bc):List Bc×AE :=
 if (x.2.2.2.1==m.2.1+1&&m.2.2.2.1&&(views.getD (m.2.1-1).toNat []).contains m.1)=true then ([(2,m.1,x.2.1,x.2.2.2.1,0,m.2.2.2.2.2.2.2.1)],Xl m x.2.2.2.1) else ([],m)
theorem uw (m:AE) (views:List (List Int)) (x:Bc) (hm:Kb m) (hv:SX views) (he:m.2.1<=views.length) :
  L_ views x m=some (ACZ m views x):=ix (by
 have hvl:=hv.len
 have hep:=hm.ep
 obtain ⟨l1,l2,l3⟩:=hm.lens
 have hf:m.2.2.2.1=true->m.2.2.1=false:=fun h=>by
  cases hh:m.2.2.1 with
  | false=>rfl
  | true=>rw [(hm.fell hh).1] at h; cases h
 unfold Tp ACZ
 rw [Af (n:=m.2.1+1) (by omega),Af (n:=m.2.1-1) (by omega)]
 by_cases c1:x.2.2.2.1=m.2.1+1
 case neg=>rw [if_pos (by simpa using c1),if_neg (by simp [c1])]
 rw [if_neg (by simpa using c1)]
 by_cases c2:m.2.2.2.1=true
 case neg=>rw [if_pos (by simpa using c2),if_neg (by simp [c2])]
 rw [if_neg (by simpa using c2),if_pos (by omega),if_pos (by omega),Vc _ _ (by have:=(hv.get (i:=(m.2.1-1).toNat) (by omega)).2; unfold maxLen; omega),Y]
 cases c3:(views.getD (m.2.1-1).toNat []).contains m.1 with
 | false=>rw [if_pos (by rfl),if_neg (by simp)]
 | true =>
  rw [if_neg (by simp),if_pos (by simp [c1,c2])]
  exact bn (by
   unfold Oh
   rw [Vv,Y,Co _ _ _ (by simp) (by show m.2.2.2.2.2.2.2.1.length<=_; omega),Y]
   show some (_,(m.1,x.2.2.2.1,m.2.2.1,_))=_
   rw [hf c2]
   rfl))
def ACa (m:AE) (e:Int) (its:List AP):AE:=(m.1,e,false,true,false,false,([]:List Int),its,(0:Int),(0:Int),(0:Int),(0:Int),(O,O,(0:Int)),([]:List Int))
def ACb (m:AE) (view:List Int) (x:Bc):List Bc×AE :=
 if (!view.contains m.1||(view.getD 0 0==m.1))=true then ([],m)
 else if x.2.2.2.1>m.2.1\/(m.2.2.2.1=false/\m.2.2.1=false) then ([(4,m.1,x.2.1,x.2.2.2.1,0,([]:List AP))],ACa m x.2.2.2.1 x.2.2.2.2.2)
 else if m.2.2.2.1=false then ([],m) else ([(4,m.1,x.2.1,m.2.1,0,([]:List AP))],m)
theorem mL (m:AE) (view:List Int) (x:Bc) (hv:WOk view) (hx:x.2.2.2.2.2.length<=68719476736) :
  I8 view x m=some (ACb m view x):=bo (by
 have hvl:=hv.len
 unfold Oi ACb
 rw [Vc _ _ (by unfold maxLen; omega),Y]
 cases c3:view.contains m.1 with
 | false=>rw [if_pos (by rfl),if_pos (by rfl)]
 | true =>
  rw [if_neg (by simp),if_pos (by omega),if_pos (by omega)]
  by_cases c4:view.getD 0 0=m.1
  ·rw [if_pos (by simpa using c4),if_pos (by rw [c4]; simp)]
  ·rw [if_neg (by simpa using c4),if_neg (by have:(view.getD 0 0==m.1)=false:=(by simpa using c4); rw [this]; simp)]
   have J1:∀ b:Bool,DK b m x=some (if b=true then ([(4,m.1,x.2.1,x.2.2.2.1,0,([]:List AP))],ACa m x.2.2.2.1 x.2.2.2.2.2) else if m.2.2.2.1=false then ([],m) else ([(4,m.1,x.2.1,m.2.1,0,([]:List AP))],m)):=fun b=>Vs (by
    unfold LH
    cases b with
    | true =>
     rw [if_pos rfl,if_pos rfl,BN hx,Y,Vv,Y,Co _ _ _ (by simp) (by simp),Y]
     rfl
    | false =>
     simp only [Bool.false_eq_true,if_false]
     cases hb:m.2.2.2.1 with
     | false=>simp
     | true =>
      simp only [Bool.not_true,Bool.false_eq_true,if_false,Bool.true_eq_false]
      rw [Co _ _ _ (by simp) (by simp),Y]
      rfl)
   refine Vt ?_
   unfold LI
   rw [J1,J1,J1]
   by_cases c5:x.2.2.2.1>m.2.1
   ·rw [if_pos (by simpa using c5)]
    simp [c5]
   ·rw [if_neg (by simpa using c5)]
    cases hb:m.2.2.2.1<;>cases hf:m.2.2.1<;>simp [c5])
def yV (m:AE) (x:Bc):List Bc×AE :=
 if (x.2.2.2.1==m.2.1&&m.2.2.2.1)=true then
  (if x.1=7 then ([(8,m.1,x.2.1,m.2.1,x.2.2.2.2.1,([]:List AP))],m)
  else ([(6,m.1,x.2.1,m.2.1,x.2.2.2.2.1,([]:List AP))],(m.1,m.2.1,m.2.2.1,m.2.2.2.1,m.2.2.2.2.1,m.2.2.2.2.2.1,m.2.2.2.2.2.2.1,An m.2.2.2.2.2.2.2.1 (x.2.2.2.2.2.getD 0 (O,O,(0:Int))),m.2.2.2.2.2.2.2.2)))
 else ([],m)
theorem rO (m:AE) (x:Bc) (hm:m.2.2.2.2.2.2.2.1.length<=12) (h5:x.1≠7->0<x.2.2.2.2.2.length) :
  Kp x m=some (yV m x):=fk (by
 unfold R1 yV
 by_cases c1:x.2.2.2.1=m.2.1
 case neg=>rw [if_pos (by simpa using c1),if_neg (by simp [c1])]
 rw [if_neg (by simpa using c1)]
 by_cases c2:m.2.2.2.1=true
 case neg=>rw [if_pos (by simpa using c2),if_neg (by simp [c2])]
 rw [if_neg (by simpa using c2),if_pos (by simp [c1,c2])]
 refine Yd ?_
 unfold OA
 by_cases c7:x.1=7
 ·rw [if_pos (by simpa using c7),if_pos c7,Co _ _ _ (by simp) (by simp),Y]
  rfl
 ·have:=h5 c7
  rw [if_neg (by simpa using c7),if_neg c7,if_pos (by omega),if_pos (by omega),VZ _ _ (by omega),Y,Co _ _ _ (by simp) (by simp),Y]
  rfl)
theorem Xp (m:AE) (op:Int) (x:Bc) (hm:Kb m) :
  G3 op x m=some (if (x.2.2.2.1==m.2.1&&m.2.2.2.2.2.2.2.2.2.1==op&&m.2.2.2.2.2.2.2.2.2.2.2.1==x.2.2.2.2.1)=true then ((HE m x.2.1).2.2,(HE m x.2.1).1) else ([],m)):=eD (by
 obtain ⟨l1,l2,l3⟩:=hm.lens
 unfold QE
 by_cases c1:x.2.2.2.1=m.2.1
 case neg=>rw [if_pos (by simpa using c1),if_neg (by simp [c1])]
 rw [if_neg (by simpa using c1)]
 by_cases c2:m.2.2.2.2.2.2.2.2.2.1=op
 case neg=>rw [if_pos (by simpa using c2),if_neg (by simp [c2])]
 rw [if_neg (by simpa using c2)]
 by_cases c3:m.2.2.2.2.2.2.2.2.2.2.2.1=x.2.2.2.2.1
 case neg=>rw [if_pos (by simpa using c3),if_neg (by simp [c3])]
 rw [if_neg (by simpa using c3),if_pos (by simp [c1,c2,c3])]
 refine XZ ?_
 unfold Ml HE
 rw [Vd _ _ (by omega),Y]
 by_cases c4:(m.2.2.2.2.2.2.2.2.2.2.2.2.2.filter (· != x.2.1)).length=0
 ·rw [if_neg (by rw [c4]; decide),if_pos (by rw [c4]; decide),eT _ (by show m.2.2.2.2.2.2.2.1.length<=_; omega)]
  rfl
 ·rw [if_pos (decide_eq_true (by omega)),if_neg (by rw [beq_iff_eq]; omega)]
  rfl)

def wD (x:Bc):Bc:=if x.1=3 then (x.1,x.2.1,x.2.2.1,x.2.2.2.1,0,x.2.2.2.2.2) else x
def eU (m:AE) (views:List (List Int)) (x:Bc):AE×List Bc×List DH:=if Xk x=true then D4 m views (wD x) else (m,[],[])
theorem ACc (x:Bc):(wD x).2.2.1=x.2.2.1/\(wD x).2.2.2.1=x.2.2.2.1:=by unfold wD; split<;>exact ⟨rfl,rfl⟩
theorem fG {m:AE} {views:List (List Int)} {x:Bc} (h:¬ (x.2.2.1=m.1/\m.2.1<=x.2.2.2.1/\x.2.2.2.1<=(views.length:Int)/\Xk x=true)):eU m views x=(m,[],[]):=by
 unfold eU
 split
 ·rename_i hx
  unfold D4
  rw [if_neg (by
   rw [(ACc x).1,(ACc x).2]
   simp only [AD,beq_iff_eq,decide_eq_true_eq]
   exact fun g=>h ⟨g.1.1.2,g.1.2,g.2,hx⟩)]
 ·rfl
theorem yW {x:Bc} (h:x.1≠3):wD x=x:=if_neg h
theorem ACd {x:Bc} (h:x.1=3->x.2.2.2.2.1=0):wD x=x:=by
 unfold wD
 split
 ·rename_i e
  obtain ⟨a,b,c,d,e,f⟩:=x
  have:=h ‹_›
  dsimp only at this
  rw [this]
 ·rfl
theorem za {m:AE} {views:List (List Int)} {x:Bc} (hx:XOk x) (h1:x.2.2.1=m.1) (h2:m.2.1<=x.2.2.2.1) (h3:x.2.2.2.1<=(views.length:Int)):D4 m views x =
  (if x.2.2.2.1=m.2.1 then eO m (views.getD (m.2.1-1).toNat []) x
  else if (x.1==1&&(x.2.2.2.1==m.2.1+1)&&m.2.2.2.1&&(views.getD (m.2.1-1).toNat []).contains m.1)=true then (Xl m x.2.2.2.1,[(2,m.1,x.2.1,x.2.2.2.1,0,m.2.2.2.2.2.2.2.1)],[])
  else if (x.1==3&&(views.getD (x.2.2.2.1-1).toNat []).contains m.1&&((views.getD (x.2.2.2.1-1).toNat []).getD 0 0 != m.1))=true then
   ((m.1,x.2.2.2.1,false,true,false,false,([]:List Int),x.2.2.2.2.2,(0:Int),(0:Int),(0:Int),(0:Int),(O,O,(0:Int)),([]:List Int)),FN m x 4,[])
  else (m,[],[])):=by
 unfold D4
 rw [if_pos (by rw [fC.2 hx]; simp [h1,h2,h3])]
theorem mM {a:AE} {b:List Bc} {c:List DH} {r:AE×List Bc×List DH} (h:r=(a,b,c)):(b,c,a)=(r.2.1,r.2.2,r.1):=by rw [h]
theorem ux (m:AE) (views:List (List Int)) (x:Bc) (hm:Kb m) (hv:SX views) (hx:XOk x) (h1:x.2.2.1=m.1) (h2:m.2.1<=x.2.2.2.1) (h3:x.2.2.2.1<=(views.length:Int)) :
  L9 views x m=some ((eU m views x).2.1,(eU m views x).2.2,(eU m views x).1):=ip (by
 have hvl:=hv.len
 have hep:=hm.ep
 have hxe:=hx.ep
 have hxi:=Kc hx.items
 obtain ⟨l1,l2,l3⟩:=hm.lens
 have hin:=za hx h1 h2 h3
 unfold Tm eU
 rw [if_pos (fC.2 hx)]
 have hV:=hv.wok (i:=(m.2.1-1).toNat) (by omega)
 generalize hVe:views.getD (m.2.1-1).toNat []=V at hV hin
 have hk:=hx.kind
 by_cases k1:x.1=1
 ·rw [if_pos (by simpa using k1),uw m views x hm hv (by omega),Y,yW (by omega)]
  congr 1
  apply mM
  rw [hin]
  unfold ACZ
  rw [hVe]
  by_cases e:x.2.2.2.1=m.2.1
  ·rw [if_pos e,if_neg (by rw [e]; simp; omega)]
   unfold eO
   simp [k1]
  ·rw [if_neg e]
   cases hc:(x.2.2.2.1==m.2.1+1&&m.2.2.2.1&&V.contains m.1) with
   | true =>
    rw [if_pos (by rw [k1]; simpa using hc),if_pos rfl]
   | false =>
    rw [if_neg (by rw [k1]; simpa using hc),if_neg (by simp [k1]),if_neg (by simp)]
 rw [if_neg (by simpa using k1)]
 by_cases k2:x.1=2
 ·have J:∀ b:Bool,(b=true->m.2.2.2.1=false)->EO views b m x=some (if b=true then ((CI V m.1).map (fun v=>(3,m.1,v,m.2.1,0,x.2.2.2.2.2)),[],T1 m V x.2.2.2.2.2) else ([],[],m)):=fun b hb=>bf (by
   unfold Oa
   cases b with
   | false=>rw [if_neg (by simp),if_neg (by simp)]
   | true =>
    have hs:m.2.2.2.2.2.1=false:=by
     cases hh:m.2.2.2.2.2.1 with
     | false=>rfl
     | true=>have:=(hm.serves hh).1; rw [hb rfl] at this; cases this
    rw [if_pos rfl,if_pos rfl,Af (by omega),if_pos (by omega),if_pos (by omega),hVe,Tu V _ m hV (by omega) hs,Y])
  rw [if_pos (by simpa using k2),yW (by omega)]
  by_cases e:x.2.2.2.1=m.2.1
  ·rw [if_pos (by simpa using e)]
   have ho:D4 m views x=(if (m.2.2.2.2.1&&!m.2.2.2.1)=true then (T1 m V x.2.2.2.2.2,(CI V m.1).map (fun v=>(3,m.1,v,m.2.1,0,x.2.2.2.2.2)),[]) else (m,[],[])):=by
    rw [hin,if_pos e]; unfold eO; rw [if_pos k2]
   rw [ho]
   cases hl:m.2.2.2.2.1 with
   | false=>rw [if_neg (by simp),J false (by simp),if_neg (by simp),if_neg (by simp)]
   | true =>
    rw [if_pos (by rfl),J _ (by simp)]
    cases hb:m.2.2.2.1 with
    | true=>rw [if_neg (by simp),if_neg (by simp)]
    | false=>rw [if_pos (by rfl),if_pos (by rfl)]
  ·rw [if_neg (by simpa using e),J false (by simp),if_neg (by simp)]
   congr 1
   apply mM
   rw [hin,if_neg e,if_neg (by simp [k2]),if_neg (by simp [k2])]
 rw [if_neg (by simpa using k2)]
 by_cases k3:x.1=3
 ·have hW:=hv.wok (i:=(x.2.2.2.1-1).toNat) (by omega)
  rw [if_pos (by simpa using k3),Af (by omega),if_pos (by omega),if_pos (by omega)]
  have hx':XOk (wD x):=by
   unfold wD
   rw [if_pos k3]
   exact ⟨hx.kind,hx.frm,hx.to,hx.ep,(show (0:Int)<=0/\(0:Int)<=1000000000 from by decide),hx.items,hx.shape⟩
  have hf:wD x=(x.1,x.2.1,x.2.2.1,x.2.2.2.1,0,x.2.2.2.2.2):=if_pos k3
  have hin2:=za (m:=m) (views:=views) hx' (by rw [hf]; exact h1) (by rw [hf]; exact h2) (by rw [hf]; exact h3)
  rw [hVe] at hin2
  generalize hWe:views.getD (x.2.2.2.1-1).toNat []=Wv at hW
  rw [mL m Wv x hW (by omega),Y]
  congr 1
  apply mM
  rw [hin2,hf]
  dsimp only
  rw [hWe]
  unfold ACb
  by_cases e:x.2.2.2.1=m.2.1
  ·have hVW:Wv=V:=by rw [<- hWe,<- hVe,e]
   rw [if_pos e]
   unfold eO
   rw [if_neg (by rw [k3]; decide),if_pos k3,hVW]
   dsimp only
   cases hc:(!V.contains m.1||(V.getD 0 0==m.1)) with
   | true=>simp only [if_true]
   | false =>
    simp only [Bool.false_eq_true,if_false]
    cases hb:m.2.2.2.1<;>cases hf2:m.2.2.1<;>simp [e,FN,ACa]
  ·rw [if_neg e,if_neg (by rw [k3]; simp)]
   cases hc:(!Wv.contains m.1||(Wv.getD 0 0==m.1)) with
   | true =>
    rw [if_neg (by
     intro h
     simp only [AD,bne_iff_ne,Ec,Do,beq_iff_eq] at h hc
     rcases hc with hc | hc
     ·rw [hc] at h; exact absurd h.1.2 (by simp)
     ·exact h.2 hc),if_pos rfl]
   | false =>
    rw [if_pos (by
     simp only [Bool.or_eq_false_iff,Bool.not_eq_false'] at hc
     rw [k3,hc.1]
     simpa using hc.2),if_neg (by simp),if_pos (Or.inl (by omega))]
    rfl
 rw [if_neg (by simpa using k3),yW k3]
 by_cases k4:x.1=4
 ·rw [if_pos (by simpa using k4)]
  have J:∀ b:Bool,GZ b m x=some (if b=true then ([],[],(m.1,m.2.1,m.2.2.1,m.2.2.2.1,m.2.2.2.2.1,m.2.2.2.1&&(((m.2.2.2.2.2.2.1.filter (· != x.2.1)).length:Int)==0),m.2.2.2.2.2.2.1.filter (· != x.2.1),m.2.2.2.2.2.2.2)) else ([],[],m)):=fun b=>bg (by
   unfold Ob
   cases b with
   | false=>rw [if_neg (by simp),if_neg (by simp)]
   | true =>
    rw [if_pos rfl,if_pos rfl,Vd _ _ (by omega),Y]
    cases hs:m.2.2.2.2.2.1 with
    | true =>
     obtain ⟨q1,q2,q3⟩:=hm.serves hs
     rw [if_neg (by simp),q3,q1]
     rfl
    | false =>
     rw [if_pos rfl]
     cases hq:(((m.2.2.2.2.2.2.1.filter (· != x.2.1)).length:Int)==0) with
     | true=>rw [if_pos rfl,Bool.and_true]
     | false=>rw [if_neg (by simp),Bool.and_false])
  by_cases e:x.2.2.2.1=m.2.1
  ·rw [if_pos (by simpa using e),J]
   have ho:D4 m views x=(if m.2.2.2.2.1=true then
     ((m.1,m.2.1,m.2.2.1,m.2.2.2.1,m.2.2.2.2.1,m.2.2.2.1&&(((m.2.2.2.2.2.2.1.filter (· != x.2.1)).length:Int)==0),m.2.2.2.2.2.2.1.filter (· != x.2.1),m.2.2.2.2.2.2.2),[],[]) else (m,[],[])):=by
    rw [hin,if_pos e]; unfold eO; rw [if_neg k2,if_neg k3,if_pos k4]
   rw [ho]
   cases hl:m.2.2.2.2.1 with
   | false=>rw [if_neg (by simp),if_neg (by simp)]
   | true=>rw [if_pos rfl,if_pos rfl]
  ·rw [if_neg (by simpa using e),J,if_neg (by simp)]
   congr 1
   apply mM
   rw [hin,if_neg e,if_neg (by simp [k4]),if_neg (by simp [k4])]
 rw [if_neg (by simpa using k4)]
 have st:x.1=5\/x.1=7->yV m x=((D4 m views x).2.1,(D4 m views x).1)/\(D4 m views x).2.2=[]:=fun hk=>by
  rw [hin]
  unfold yV
  by_cases e:x.2.2.2.1=m.2.1
  ·rw [if_pos e]
   unfold eO FN
   rw [if_neg k2,if_neg k3,if_neg k4,e]
   cases hb:m.2.2.2.1 with
   | true =>
    rcases hk with hk | hk
    ·rw [if_pos (by simp),if_neg (by omega),if_pos hk,if_pos rfl]
     exact ⟨rfl,rfl⟩
    ·rw [if_pos (by simp),if_pos hk,if_neg (by omega),if_pos hk,if_pos rfl]
     exact ⟨rfl,rfl⟩
   | false =>
    rcases hk with hk | hk
    ·rw [if_neg (by simp),if_pos hk,if_neg (by simp)]
     exact ⟨rfl,rfl⟩
    ·rw [if_neg (by simp),if_neg (by omega),if_pos hk,if_neg (by simp)]
     exact ⟨rfl,rfl⟩
  ·simp [e,k1,k3]
 have sd:∀ op,x.1=6/\op=1\/x.1=8/\op=2->(if (x.2.2.2.1==m.2.1&&m.2.2.2.2.2.2.2.2.2.1==op&&m.2.2.2.2.2.2.2.2.2.2.2.1==x.2.2.2.2.1)=true then ((HE m x.2.1).2.2,(HE m x.2.1).1) else ([],m))=((D4 m views x).2.2,(D4 m views x).1)/\(D4 m views x).2.1=[]:=fun op hk=>by
  have ht:(HE m x.2.1).2.1=[]:=by unfold HE; split<;>rfl
  rw [hin]
  by_cases e:x.2.2.2.1=m.2.1
  ·rw [if_pos e]
   unfold eO
   rw [if_neg k2,if_neg k3,if_neg k4,if_neg (show ¬ x.1=5 by omega),if_neg (show ¬ x.1=7 by omega),e]
   have hop:(if x.1=8 then (2:Int) else 1)=op:=by
    rcases hk with ⟨h,h'⟩ | ⟨h,h'⟩
    ·rw [if_neg (by omega),h']
    ·rw [if_pos h,h']
   rw [hop]
   by_cases c1:m.2.2.2.2.2.2.2.2.2.1=op
   ·by_cases c2:m.2.2.2.2.2.2.2.2.2.2.2.1=x.2.2.2.2.1
    ·rw [if_pos (by simp [c1,c2]),if_pos ⟨by omega,c1,c2⟩]
     exact ⟨rfl,ht⟩
    ·simp [c2]
   ·simp [c1]
  ·simp [e,k1,k3]
 have h7:x.1≠7->x.1=5->0<x.2.2.2.2.2.length:=fun _ h5=>by
  have:=hx.shape
  rw [if_neg (by omega),if_pos h5] at this
  omega
 have J2:∀ b:Bool,(b=true↔x.1=5\/x.1=7)->Ga x.1 b m x=some ((D4 m views x).2.1,(D4 m views x).2.2,(D4 m views x).1):=fun b hb=>bh (by
  unfold Oc
  cases b with
  | true =>
   have hk5:=hb.1 rfl
   obtain ⟨q1,q2⟩:=st hk5
   rw [if_pos rfl,rO m x l2 (fun h=>h7 h (by omega)),Y,q1,q2]
  | false =>
   have hn:¬ (x.1=5\/x.1=7):=fun h=>by have:=hb.2 h; cases this
   rw [if_neg (by simp)]
   by_cases k6:x.1=6
   ·obtain ⟨q1,q2⟩:=sd 1 (.inl ⟨k6,rfl⟩)
    rw [if_pos (by simpa using k6),Xp m 1 x hm,Y,q1,q2]
   ·obtain ⟨q1,q2⟩:=sd 2 (.inr ⟨by omega,rfl⟩)
    rw [if_neg (by simpa using k6),if_pos (by rw [beq_iff_eq]; omega),Xp m 2 x hm,Y,q1,q2])
 by_cases k5:x.1=5
 ·rw [if_pos (by simpa using k5),J2 _ (by simp [k5])]
 ·rw [if_neg (by simpa using k5),J2 _ (by simp [k5])])
theorem MR {m:AE} (h:Kb m):Gj m=some true:=by
 obtain ⟨h1,h2,h3⟩:=h.lens
 rw [i5 m (by unfold maxLen; omega) (by unfold maxLen; omega) (by unfold maxLen; omega),AAi.2 h]
theorem HH {views:List (List Int)} (h:SX views):Ew views=some true:=by
 have:=h.len
 rw [mA views (by unfold maxLen; omega) (fun a ha=>by have:=(h.view ha).2; unfold maxLen; omega),h.ok]
theorem mN (m:AE) (views:List (List Int)) (x:Bc) (hm:Kb m) (hv:SX views) (hx:x.2.2.2.2.2.length<=68719476736) :
  Na m views x=some (eU m views x):=uN (by
 have hxm:x.2.2.2.2.2.length<=maxLen:=by unfold maxLen; omega
 unfold dq
 rw [hm.icopy,Y]
 by_cases c1:x.2.2.1=m.1
 case neg=>rw [if_neg (by simpa using c1),fG (fun h=>c1 h.1)]
 rw [if_pos (by simpa using c1)]
 by_cases c2:x.2.2.2.1<m.2.1
 ·rw [if_neg (by simpa using c2),fG (fun h=>by omega)]
 rw [if_pos (by simpa using c2)]
 by_cases c3:x.2.2.2.1>(views.length:Int)
 ·rw [if_neg (by simpa using c3),fG (fun h=>by omega)]
 rw [if_pos (by simpa using c3),MR hm,Y,if_pos (by rfl),HH hv,Y,if_pos (by rfl),rK x hxm,Y]
 cases hmo:Xk x with
 | false=>rw [if_pos (by rfl),fG (fun h=>by rw [hmo] at h; cases h.2.2.2)]
 | true =>
  rw [if_neg (by simp)]
  have hx':=fC.1 hmo
  refine lI ?_
  unfold U_
  have hok:Kb (eU m views x).1:=by
   unfold eU
   rw [if_pos hmo]
   exact (QK hm hv).mok
  rw [ux m views x hm hv hx' c1 (by omega) (by omega),Y,hok.icopy,Y])

theorem wE (x:List Int):iB x=some (decide ((x.length:Int)>1048576)):=AAD rfl
theorem wF (m:AE):Ut m=some (Xo m):=zS rfl



theorem yX (x:List AP) {k k2:ByteArray} (h:k.toList=k2.toList):BT x k=BT x k2:=by
 unfold BT
 rw [h]
theorem ADm {x:List AP} {a b:AP} (hx:Ax x=true) (hb:b∈x):b.2.2<=(BT (An x a) b.1).2.2:=by
 have ho:=(DG.1 hx).2.1
 have same:b.2.2<=(BT x b.1).2.2:=by rw [PP ho hb]; exact Int.le_refl _
 unfold An
 split
 ·exact same
 ·rename_i hs
  try rw [if_pos hx]
  split
  ·rename_i hl
   have ho':=(DG.1 hl).2.1
   cases hk:(b.1.toList==a.1.toList) with
   | false=>rw [PP ho' (AAG hb hk)]; exact Int.le_refl _
   | true =>
    rw [yX _ (beq_iff_eq.1 hk),PP ho' uk]
    have:¬ (b.2.2>=a.2.2):=fun h=>hs (List.any_eq_true.2 ⟨b,hb,by rw [hk]; simpa using h⟩)
    omega
  ·exact same

def ge (k:ByteArray) (b:AP):Bool:=b.1.toList==k.toList
theorem zb (k:ByteArray):∀ x:List AP,(x.filter (Vw k)).length+(x.filter (Q6 k)).length+(x.filter (ge k)).length=x.length
 | []=>rfl
 | b::x=>by
  have ih:=zb k x
  have hi:Q6 k b=!(Vw k b||ge k b):=rfl
  cases hl:Vw k b with
  | true =>
   have hs:ge k b=false:=by
    cases q:ge k b with
    | false=>rfl
    | true =>
     have e:b.1.toList=k.toList:=by simpa [ge] using q
     unfold Vw at hl
     rw [e,fB] at hl
     cases hl
   simp only [List.filter_cons,hi,hl,hs,Bool.true_or,Bool.not_true,if_true,Bool.false_eq_true,if_false,List.length_cons]
   omega
  | false =>
   cases hs:ge k b with
   | true =>
    simp only [List.filter_cons,hi,hl,hs,Bool.false_or,Bool.not_true,if_true,Bool.false_eq_true,if_false,List.length_cons]
    omega
   | false =>
    simp only [List.filter_cons,hi,hl,hs,Bool.or_false,Bool.not_false,if_true,Bool.false_eq_true,if_false,List.length_cons]
    omega
def J6 (x:List AP) (k:ByteArray):Bool:=x.any (ge k)
theorem uy {x:List AP} {k:ByteArray}:J6 x k=true↔1<=(x.filter (ge k)).length:=by
 unfold J6
 rw [List.any_eq_true]
 constructor
 ·rintro ⟨b,hb,hs⟩
  exact List.length_pos_of_mem (List.mem_filter.2 ⟨hb,hs⟩)
 ·intro h
  obtain ⟨b,hb⟩:=List.exists_mem_of_length_pos h
  exact ⟨b,(List.mem_filter.1 hb).1,(List.mem_filter.1 hb).2⟩
theorem eV {x:List AP} {k:ByteArray} (h:J6 x k=false):BT x k=(O,O,0):=by
 unfold BT
 have:x.find? (fun a=>a.1.toList==k.toList)=none:=by
  rw [List.find?_eq_none]
  intro b hb hs
  have:J6 x k=true:=List.any_eq_true.2 ⟨b,hb,hs⟩
  rw [h] at this
  cases this
 rw [this]
 rfl
theorem uz {x:List AP} {k:ByteArray} (h:J6 x k=true):BT x k∈x/\(BT x k).1.toList=k.toList:=by
 obtain ⟨b,hb,hs⟩:=List.any_eq_true.1 h
 unfold BT
 cases q:x.find? (fun a=>a.1.toList==k.toList) with
 | none =>
  rw [List.find?_eq_none] at q
  exact absurd hs (q b hb)
 | some c=>exact ⟨List.mem_of_find?_eq_some q,by simpa using List.find?_some q⟩
theorem ACe {x:List AP} {k:ByteArray} (hx:Ax x=true):OI (.pair .str (.pair .str (.int .i64))) (BT x k) (O,O,(0:Int))=!J6 x k:=by
 cases h:J6 x k with
 | false=>rw [eV h]; exact zY _
 | true =>
  obtain ⟨h1,h2⟩:=uz h
  have h3:=(DG.1 hx).1 _ h1
  unfold If at h3
  simp only [AD,decide_eq_true_eq] at h3
  have h4:((BT x k).2.2==(0:Int))=false:=by
   rw [beq_eq_false_iff_ne]
   omega
  show ((BT x k).1.toList==_&&((BT x k).2.1.toList==_&&((BT x k).2.2==(0:Int))))=false
  rw [h4,Bool.and_false,Bool.and_false]
theorem AAt {x:List AP} {a:AP} (hx:Ax x=true) (ha:If a=true) (hv:OF x (a.2.2-1)) :
  An x a=if x.length=12/\J6 x a.1=false then x else T0 x a:=by
 obtain ⟨h1,h2,h3⟩:=DG.1 hx
 have hs:bO x a=false:=by
  cases q:bO x a with
  | false=>rfl
  | true =>
   obtain ⟨b,hb,hc⟩:=List.any_eq_true.1 q
   simp only [AD,decide_eq_true_eq] at hc
   have:=hv b hb
   omega
 have hl:=zb a.1 x
 have hlen:(T0 x a).length=(x.filter (Vw a.1)).length+1+(x.filter (Q6 a.1)).length:=by simp [T0]; omega
 unfold An
 rw [hs,if_neg (by simp),if_pos hx]
 have hk:Ax (T0 x a)=true↔(T0 x a).length<=12:=by
  rw [DG]
  refine ⟨fun h=>h.2.2,fun h=>⟨fun b hb=>?_,iy a h2,h⟩⟩
  rcases zX hb with e | e
  ·rw [e]; exact ha
  ·exact h1 b e
 cases hh:J6 x a.1 with
 | true =>
  have:=uy.1 hh
  rw [if_pos (hk.2 (by omega)),if_neg (by simp)]
 | false =>
  have h0:(x.filter (ge a.1)).length=0:=by
   rcases Nat.eq_zero_or_pos (x.filter (ge a.1)).length with e | e
   ·exact e
   ·have:=uy.2 e
    rw [hh] at this
    cases this
  by_cases h12:x.length=12
  ·rw [if_neg (fun h=>by have:=hk.1 h; omega),if_pos ⟨h12,rfl⟩]
  ·rw [if_pos (hk.2 (by omega)),if_neg (fun h=>h12 h.1)]
theorem u9 {x:List AP} {a:AP} (hx:Ax x=true) (ha:If a=true) (hv:OF x (a.2.2-1)) :
  OI (.pair .str (.pair .str (.int .i64))) (BT (An x a) a.1) a=!(decide (x.length=12)&&!J6 x a.1):=by
 obtain ⟨h1,h2,h3⟩:=DG.1 hx
 have ha2:=ha
 unfold If at ha2
 simp only [AD,decide_eq_true_eq] at ha2
 rw [AAt hx ha hv]
 by_cases h:x.length=12/\J6 x a.1=false
 ·rw [if_pos h,eV h.2,h.2,decide_eq_true h.1]
  have h4:((0:Int)==a.2.2)=false:=by
   rw [beq_eq_false_iff_ne]
   omega
  show (_&&(_&&((0:Int)==a.2.2)))=false
  rw [h4,Bool.and_false,Bool.and_false]
 ·rw [if_neg h,PP (iy a h2) uk,zY]
  by_cases h12:x.length=12
  ·cases hh:J6 x a.1 with
   | true=>simp
   | false=>exact absurd ⟨h12,hh⟩ h
  ·simp [h12]
def mbS (m:AE) (views:List (List Int)):Bool:=m.2.2.2.2.2.1&&(m.2.2.2.2.2.2.2.2.2.1==0)&&decide (m.2.2.2.2.2.2.2.2.1<900)&&decide (m.2.1<=(views.length:Int))&&((views.getD (m.2.1-1).toNat []).getD 0 0==m.1)
def akS (op call:Int) (key val:ByteArray):Bool:=(op==1||op==2)&&(decide (0<=call)&&decide (call<=1000))&&(decide (1<=(key.size:Int))&&decide ((key.size:Int)<=12))&&decide ((val.size:Int)<=20)&&(op==1||yS val)
theorem u_ (m:AE) (views:List (List Int)) (op call:Int) (key val:ByteArray):Yg m views op call key val=(mbS m views&&akS op call key val):=by
 unfold Yg mbS akS
 ac_rfl
theorem jB (m:AE) (views:List (List Int)) (hm:Kb m) (hv:SX views):IR views m=some (mbS m views,m):=YZ (by
 have hvl:=hv.len
 have hep:=hm.ep
 have hcnt:=hm.count
 have wm:IntKind.i64.wrap (m.2.1-1)=m.2.1-1:=Af (by omega)
 unfold N4 mbS
 cases h1:m.2.2.2.2.2.1 with
 | false=>rfl
 | true =>
  rw [if_pos (by rfl)]
  by_cases h2:m.2.2.2.2.2.2.2.2.2.1=0
  ·rw [if_pos (by rw [h2]; rfl),h2]
   by_cases h3:m.2.2.2.2.2.2.2.2.1=900
   ·rw [if_neg (by rw [h3]; simp),h3]
    rfl
   ·rw [if_pos (by simpa using h3),decide_eq_true (show m.2.2.2.2.2.2.2.2.1<900 by omega)]
    by_cases h4:m.2.1>(views.length:Int)
    ·rw [if_pos (by simpa using h4),decide_eq_false (show ¬ m.2.1<=(views.length:Int) by omega)]
     rfl
    ·rw [if_neg (by simpa using h4),decide_eq_true (show m.2.1<=(views.length:Int) by omega)]
     refine Tz ?_
     have g1:=hv.get (i:=(m.2.1-1).toNat) (by omega)
     unfold Kh
     rw [HH hv,Y,if_pos (by rfl),wm,if_pos (by omega),if_pos (by omega),if_pos (by omega),if_pos (by omega)]
     rfl
  ·rw [if_neg (by simpa using h2),show (m.2.2.2.2.2.2.2.2.2.1==(0:Int))=false by simpa using h2]
   rfl)
theorem vA (op call:Int) (key val:ByteArray):NZ op call key val=some (akS op call key val):=lB (by
 have w:∀ b,Li op val b=some (op==1||yS val):=fun b=>aa (by
  unfold Qw
  rw [oS]
  by_cases h:op=1
  ·rw [if_neg (by simp [h]),h]; rfl
  ·rw [if_pos (by simpa using h),show (op==1)=false by simpa using h]; rfl)
 unfold YW akS
 have ABT:decide ((val.size:Int)>20)=!decide ((val.size:Int)<=20):=by
  by_cases h:(val.size:Int)<=20
  ·rw [decide_eq_true h,decide_eq_false (by omega)]; rfl
  ·rw [decide_eq_false h,decide_eq_true (by omega)]; rfl
 have h12:(op==1||op==2)=(decide (1<=op)&&decide (op<=2)):=by
  by_cases a:op=1
  ·subst a; rfl
  ·by_cases b:op=2
   ·subst b; rfl
   ·rw [show (op==1)=false by simpa using a,show (op==2)=false by simpa using b,<- Bool.decide_and,decide_eq_false (by omega)]; rfl
 rw [Aw,Y,Aw,Q5,h12]
 cases (decide (1<=op)&&decide (op<=2)) with
 | false=>rfl
 | true =>
  rw [if_pos (by rfl),Y]
  cases (decide (0<=call)&&decide (call<=1000)) with
  | false=>rfl
  | true =>
   rw [if_pos (by rfl),Y]
   cases (decide (1<=(key.size:Int))&&decide ((key.size:Int)<=12)) with
   | false=>rfl
   | true =>
    rw [if_pos (by rfl),ABT,w]
    cases decide ((val.size:Int)<=20)<;>rfl)
theorem rP (m:AE) (views:List (List Int)) (op call:Int) (key val:ByteArray) (hm:Kb m) (hv:SX views) (h1:V1 views m):SN m views op call key val=some (D5 m views op call key val):=yM (by
 have hvl:=hv.len
 have hep:=hm.ep
 have hcnt:=hm.count
 have hl:=hm.lens
 have wm:IntKind.i64.wrap (m.2.1-1)=m.2.1-1:=Af (by omega)
 have wc:IntKind.i64.wrap (m.2.2.2.2.2.2.2.2.1+1)=m.2.2.2.2.2.2.2.2.1+1:=Af (by omega)
 have wk:IntKind.i64.wrap (1000*m.2.1)=1000*m.2.1:=Af (by omega)
 have wv:IntKind.i64.wrap (1000*m.2.1+(m.2.2.2.2.2.2.2.2.1+1))=1000*m.2.1+(m.2.2.2.2.2.2.2.2.1+1):=Af (by omega)
 unfold lM D5
 rw [MR hm,Y,if_pos (by rfl),jB m views hm hv,Y,vA,u_]
 cases hb:mbS m views with
 | false=>rfl
 | true =>
  dsimp only
  rw [if_pos (by rfl),Y]
  cases ha:akS op call key val with
  | false=>rfl
  | true =>
   rw [if_neg (by simp),if_pos (by rfl)]
   have hmay:Yg m views op call key val=true:=by rw [u_,hb,ha]; rfl
   obtain ⟨s1,s2,s3,s4,s5,s6,s7,s8,s9,s10⟩:=fE hmay
   obtain ⟨b1,b2,_⟩:=hm.serves s1
   have hw:=hv.wok (i:=(m.2.1-1).toNat) (by omega)
   have hwl:=hw.len
   have hrl:=Ij (views.getD (m.2.1-1).toNat []) m.1
   have ho:=pF hw m.1
   have hone:If (HG m key val)=true:=(DG.1 (uq hm s3 s6 s7)).1 _ (by simp)
   have href:=u9 (a:=HG m key val) hm.items hone ((h1.own b2 b1).mono (by show _<=1000*m.2.1+(m.2.2.2.2.2.2.2.2.1+1)-1; omega))
   have hz:=ACe (k:=key) hm.items
   have J1:∀ b z,Iv views op call b m z (m.1,m.2.1,m.2.2.1,m.2.2.2.1,m.2.2.2.2.1,m.2.2.2.2.2.1,m.2.2.2.2.2.2.1,m.2.2.2.2.2.2.2.1,m.2.2.2.2.2.2.2.2.1+1,m.2.2.2.2.2.2.2.2.2) (key,val,1000*m.2.1+(m.2.2.2.2.2.2.2.2.1+1))=some (Ts m (views.getD (m.2.1-1).toNat []) op call key val):=fun b z=>qe (by
    unfold am
    rw [wm,if_pos (by omega),if_pos (by omega),PS _ _ (by omega),Y,C5 (by show (CI (views.getD (m.2.1-1).toNat []) m.1).length<=_; omega),Y]
    have hsort:=oX hw m.1
    change ((DI (CI (views.getD (m.2.1-1).toNat []) m.1)).bind _)=_
    rw [hsort,Y]
    have J2:∀ a c d e x,(∀ q:Bc,q=x->q.2.2.2.2.2.length<=12)->(AAs (HR m (views.getD (m.2.1-1).toNat []) op call key val) (CI (views.getD (m.2.1-1).toNat []) m.1) x=uo m (views.getD (m.2.1-1).toNat []) op key val) ->
      Lj (CI (views.getD (m.2.1-1).toNat []) m.1) a c (HR m (views.getD (m.2.1-1).toNat []) op call key val) d e x=some (Ts m (views.getD (m.2.1-1).toNat []) op call key val):=fun a c d e x hx12 htell=>qd (by
     have hx:=hx12 x rfl
     unfold ak Ts
     by_cases h0:(CI (views.getD (m.2.1-1).toNat []) m.1).length=0
     ·rw [if_pos (by simpa using h0),if_pos (E5.1 (by rw [ho,h0])),eT _ (by show m.2.2.2.2.2.2.2.1.length<=_; omega),Y]
     ·rw [if_neg (by simpa using h0),if_neg (fun e=>h0 (by rw [<- ho,e]; rfl)),Co _ _ _ (by omega) (by omega),Y,htell]
      exact mZ)
    by_cases hop:op=1
    ·rw [if_pos (by simpa using hop)]
     refine J2 _ _ _ _ _ (fun q e=>by subst e; simp) ?_
     unfold AAs uo
     simp only [hop,if_true]
     rfl
    ·rw [if_neg (by simpa using hop)]
     refine J2 _ _ _ _ _ (fun q e=>by subst e; simp) ?_
     unfold AAs uo
     simp only [hop,if_false]
     rfl)
   refine qf ?_
   unfold an
   rw [hm.icopy,Y,wc,wk,wv]
   by_cases hop:op=1
   ·rw [if_pos (by simpa using hop)]
    by_cases h12:m.2.2.2.2.2.2.2.1.length=12
    ·rw [if_pos (by simp only [beq_iff_eq]; omega),Xe _ _ (by unfold maxLen; omega),Y]
     change (if (false != OI (.pair .str (.pair .str (.int .i64))) (BT m.2.2.2.2.2.2.2.1 key) (O,O,(0:Int)))=true then _ else _)=_
     rw [hz]
     rw [h12] at href
     cases hh:J6 m.2.2.2.2.2.2.2.1 key with
     | false =>
      have hh2:J6 m.2.2.2.2.2.2.2.1 (HG m key val).1=false:=hh
      rw [hh2] at href
      rw [if_pos (by rfl),if_pos ⟨hop,href⟩]
      rfl
     | true =>
      have hh2:J6 m.2.2.2.2.2.2.2.1 (HG m key val).1=true:=hh
      rw [hh2] at href
      rw [if_neg (by simp),if_neg (fun h=>by have:=h.2; change OI (.pair .str (.pair .str (.int .i64))) (BT _ (HG m key val).1) _=false at this; rw [href] at this; cases this)]
      exact J1 _ _
    ·rw [if_neg (by simp; omega),if_neg (fun h=>by
      have:=h.2
      change OI (.pair .str (.pair .str (.int .i64))) (BT _ (HG m key val).1) _=false at this
      rw [href,decide_eq_false h12] at this
      cases this)]
     exact J1 _ _
   ·rw [if_neg (by simpa using hop),if_neg (fun h=>hop h.1)]
    exact J1 _ _)

def yY (m:AE) (views:List (List Int)) (e:Int):AE×List Bc×Bool :=
 if 2<=e/\e<=(views.length:Int)/\m.2.1<e/\(views.getD (e-1).toNat []).getD 0 0=m.1 then
  if (m.2.2.2.1&&(m.2.1==e-1))=true then
   (T1 (Ms m e) (views.getD (e-1).toNat []) m.2.2.2.2.2.2.2.1,(CI (views.getD (e-1).toNat []) m.1).map (fun v=>(3,m.1,v,e,0,m.2.2.2.2.2.2.2.1)),true)
  else (Ms m e,(CI (views.getD (e-2).toNat []) m.1).map (fun v=>(1,m.1,v,e,0,[])),true)
 else (LP,[],false)
theorem rQ (m:AE) (views:List (List Int)) (e:Int) (hm:Kb m) (hv:SX views):SO m views e=some (yY m views e):=yN (by
 have hvl:=hv.len
 have hep:=hm.ep
 have hl:=hm.lens
 unfold lN yY
 rw [MR hm,Y,if_neg (by simp),HH hv,Y,if_neg (by simp),Aw,Y]
 by_cases h1:2<=e/\e<=(views.length:Int)
 case neg =>
  rw [if_pos (by rw [<- Bool.decide_and,decide_eq_false h1]; rfl),if_neg (fun h=>h1 ⟨h.1,h.2.1⟩)]
  rfl
 have we:IntKind.i64.wrap (e-1)=e-1:=Af (by omega)
 have we2:IntKind.i64.wrap (e-2)=e-2:=Af (by omega)
 rw [if_neg (by rw [<- Bool.decide_and,decide_eq_true h1]; simp),we]
 by_cases h2:m.2.1<e
 case neg =>
  rw [if_pos (by simp; omega),if_neg (fun h=>h2 h.2.2.1)]
  rfl
 have g1:=hv.get (i:=(e-1).toNat) (by omega)
 have hw:=hv.wok (i:=(e-1).toNat) (by omega)
 have hw2:=hv.wok (i:=(e-2).toNat) (by omega)
 have hwl:=hw2.len
 rw [if_neg (by simp; omega),if_pos (by omega),if_pos (by omega),if_pos (by omega),if_pos (by omega)]
 by_cases h3:(views.getD (e-1).toNat []).getD 0 0=m.1
 case neg =>
  rw [if_pos (by simpa using h3),if_neg (fun h=>h3 h.2.2.2)]
  rfl
 rw [if_neg (by simpa using h3),if_pos ⟨h1.1,h1.2,h2,h3⟩]
 refine qh ?_
 unfold au
 rw [hm.icopy,Y,we]
 have J1:∀ b z,Lk views e b m z m=some (if b=true then (T1 (Ms m e) (views.getD (e-1).toNat []) m.2.2.2.2.2.2.2.1,(CI (views.getD (e-1).toNat []) m.1).map (fun v=>(3,m.1,v,e,0,m.2.2.2.2.2.2.2.1)),true)
   else (Ms m e,(CI (views.getD (e-2).toNat []) m.1).map (fun v=>(1,m.1,v,e,0,[])),true)):=fun b z=>qg (by
  unfold ar
  rw [Vv,Y,we,we2]
  cases b with
  | true =>
   rw [if_pos rfl,if_pos (by omega),if_pos (by omega)]
   change ((Dy (views.getD (e-1).toNat []) m.2.2.2.2.2.2.2.1 (Ms m e)).bind _)=_
   rw [Tu _ _ (Ms m e) hw (by omega) rfl,Y]
   rfl
  | false =>
   rw [if_neg (by simp),if_pos (by omega),if_pos (by omega)]
   change yh ((CN (views.getD (e-2).toNat []) (Ms m e)).bind _) ((CN (views.getD (e-2).toNat []) (Ms m e)).bind _)=_
   have hrl:=Ij (views.getD (e-2).toNat []) m.1
   rw [PS _ (Ms m e) (by omega),Y,Y,Co _ _ (Ms m e) (by show (CI (views.getD (e-2).toNat []) m.1).length<=_; omega) (by simp),Y,Y,Y,mZ]
   exact mZ)
 cases hb:m.2.2.2.1 with
 | true=>rw [if_pos rfl,J1,Bool.true_and]
 | false=>rw [if_neg (by simp),J1,Bool.false_and])
theorem fw (id:Int) (views:List (List Int)) (hi:1<=id/\id<=6) (hv:SX views):Ox id views=some (E1 id views,true):=nl (by
 have hvl:=hv.len
 have g:=hv.get (i:=0) (by omega)
 unfold XF
 rw [Hz,Y,if_pos (by rw [<- Bool.decide_and,decide_eq_true hi]; rfl),HH hv,Y,if_neg (by simp)]
 refine fZ ?_
 unfold Rq
 rw [show views.getD (0:Int).toNat ([]:List Int)=views.getD 0 [] from rfl,Vc _ _ (by unfold maxLen; omega),Y]
 repeat rw [if_pos (by omega)]
 rfl)

theorem R3 (x:List (List Int)) (h:x.length<=1000) (ho:∀ a∈x,a.length<=1000):KO x=some x:=nj (by
 have key:=E0 (n:=x.length) (P:=fun i=>HX x (x.length:Int) (i:Int) (x.take i)=some x) (Ro (by
  unfold K3
  rw [if_neg (by simp),List.take_length])) (fun i hi ih=>Ro (by
  unfold K3
  have hb:=ho x[i] (BU hi)
  simp only [show ((i:Int)<(x.length:Int)) from by omega,decide_true,if_true,show (0:Int)<=(i:Int) from by omega,Ai,AU hi,AM (show i<9223372036854775807 by omega)]
  rw [C5 (by omega),Y,if_pos (by simp; omega),List.take_append_getElem]
  exact ih)) 0 (by omega)
 unfold XE
 exact key)
theorem f4 (g:AS) (k:Nat) (hg:Jg g k) (hk:k<=10000):KN g=some g:=nV (by
 have hvl:=hg.views.len
 have hc:=hg.clen
 have hf:=hg.flen
 have h6:=hg.six
 unfold W9
 rw [R3 g.1 (by omega) (fun a ha=>by have:=hg.views.view ha; omega),Y,MB (by omega),Y]
 have key2:∀ a b c d e f h k,FU g.2.2.1 (g.2.2.1.length:Int) ((0:Nat):Int) a b c d e f h k g.2.1 [] g.2.2.2 g.1=some g:=by
  intro a b c d e f h k
  have key':=E0 (n:=g.2.2.1.length) (P:=fun i=>FU g.2.2.1 (g.2.2.1.length:Int) (i:Int) a b c d e f h k g.2.1 (g.2.2.1.take i) g.2.2.2 g.1=some g) (Rl (by
   unfold Kw
   rw [if_neg (by simp),List.take_length])) (fun i hi ih=>Rl (by
   unfold Kw
   have hm:=Kc (hg.fly _ (BU hi)).items
   have hz:g.2.2.1.getD i ((0:Int),(0:Int),(0:Int),(0:Int),(0:Int),([]:List AP))=g.2.2.1[i]:=AU hi
   simp only [show ((i:Int)<(g.2.2.1.length:Int)) from by omega,decide_true,if_true,show (0:Int)<=(i:Int) from by omega,Ai,hz,AM (show i<9223372036854775807 by omega)]
   rw [OG _ (by omega),Y,if_pos (by simp; omega),List.take_append_getElem]
   exact ih)) 0 (by omega)
  exact key'
 have key0:∀ a b c d e f h,FV g.2.1 (g.2.1.length:Int) ((0:Nat):Int) a b g.2.2.1 c d e f h [] [] g.2.2.2 g.1=some g:=by
  intro a b c d e f h
  have key':=E0 (n:=g.2.1.length) (P:=fun i=>FV g.2.1 (g.2.1.length:Int) (i:Int) a b g.2.2.1 c d e f h (g.2.1.take i) [] g.2.2.2 g.1=some g) (Rm (by
   unfold Kx
   rw [if_neg (by simp),List.take_length]
   refine fW ?_
   unfold Rk
   exact key2 _ _ _ _ _ _ _ _)) (fun i hi ih=>Rm (by
   unfold Kx
   have hm:=(hg.mem i (by omega)).1
   unfold BB at hm
   rw [AU hi] at hm
   have hz:g.2.1.getD i ((0:Int),(0:Int),false,false,false,false,([]:List Int),([]:List AP),(0:Int),(0:Int),(0:Int),(0:Int),(O,O,(0:Int)),([]:List Int))=g.2.1[i]:=AU hi
   simp only [show ((i:Int)<(g.2.1.length:Int)) from by omega,decide_true,if_true,show (0:Int)<=(i:Int) from by omega,Ai,hz,hm.icopy,Y,AM (show i<9223372036854775807 by omega)]
   rw [if_pos (by simp; omega),List.take_append_getElem]
   exact ih)) 0 (by omega)
  exact key'
 exact key0 _ _ _ _ _ _ _)
theorem mO {views:List (List Int)} (hv:SX views):QV views=some (Ah views,true):=qV (by
 have hvl:=hv.len
 unfold aV
 rw [HH hv,Y,if_neg (by simp),R3 views (by omega) (fun a ha=>by have:=hv.view ha; omega),Y]
 have step:∀ (i:Nat) (a:_) (b:_) (c:_) (d:_) (l:List AE) r,1<=i->i<=6->l.length<=6->GN views ((i+1:Nat):Int) a b c d (l++[E1 (i:Int) views]) [] [] views=some r->GN views (i:Int) a b c d l [] [] views=some r:=by
  intro i a b c d l r h1 h6 hl hr
  refine Tb ?_
  unfold MJ
  rw [if_pos (by simp; omega),fw _ _ (by omega) hv,Y,if_pos (by simp; omega),AM (show i<9223372036854775807 by omega)]
  exact hr
 refine step 1 _ _ _ _ _ _ (by omega) (by omega) (by simp) ?_
 refine step 2 _ _ _ _ _ _ (by omega) (by omega) (by simp) ?_
 refine step 3 _ _ _ _ _ _ (by omega) (by omega) (by simp) ?_
 refine step 4 _ _ _ _ _ _ (by omega) (by omega) (by simp) ?_
 refine step 5 _ _ _ _ _ _ (by omega) (by omega) (by simp) ?_
 refine step 6 _ _ _ _ _ _ (by omega) (by omega) (by simp) ?_
 refine Tb ?_
 unfold MJ
 rw [if_neg (by decide)]
 rfl)
theorem Fs {k:Nat} (id:Int) (g:AS) (ms:Jg g k) (hi:1<=id/\id<=6):B8 id g=some (id-1,g):=fa (by
 have h6:=ms.six
 have step:∀ j (hj:j<6),I7 (g.2.1.getD j ((0:Int),(0:Int),false,false,false,false,([]:List Int),([]:List AP),(0:Int),(0:Int),(0:Int),(0:Int),(O,O,(0:Int)),([]:List Int))) id=some ((j:Int)+1==id):=fun j hj=>be (by
  unfold OZ
  have:=(ms.mem j hj).2
  unfold BB at this
  change some ((g.2.1.getD j LP).1==id)=_
  rw [this])
 have key:∀ (d j:Nat),j+d=5->(j:Int)+1<=id->BV g.2.1 id (g.2.1.length:Int) (j:Int)=some (id-1):=by
  intro d
  induction d with
  | zero =>
   intro j hj hle
   refine DS ?_
   unfold B4
   rw [if_pos (by simp; omega),if_pos (by omega),if_pos (by omega),Ai,step j (by omega),Y,if_pos (by simp; omega)]
   congr 1; omega
  | succ d ih =>
   intro j hj hle
   refine DS ?_
   unfold B4
   rw [if_pos (by simp; omega),if_pos (by omega),if_pos (by omega),Ai,step j (by omega),Y]
   by_cases e:(j:Int)+1=id
   ·rw [if_pos (by simpa using e)]
    congr 1; omega
   ·rw [if_neg (by simpa using e),AM (by omega)]
    exact ih (j+1) (by omega) (by omega)
 unfold Rr
 rw [show CV g.2.1 id=some (id-1) from Ic (by
  unfold D2
  exact key 5 0 rfl (by omega)),Y])
theorem J7 (told:List Bc) (said:List DH) (at_:Int) (g:AS) (hf:g.2.2.1.length+told.length<=68719476736) (hc:g.2.2.2.length<=68719476736) (hs:oU said) (hd:∀ c∈g.2.2.2,c.2.2.2.2.1=-1\/0<=c.2.2.2.2.1) :
  G1 told said at_ g=some (g.1,g.2.1,g.2.2.1++told,said.foldl (H5 at_) g.2.2.2):=lJ (by
 have hsl:=hs.1
 unfold VD
 rw [if_pos hf]
 have fin:∀ (n:Nat) (cs:List F6),n=said.length->Cv at_ said (said.length:Int) (n:Int) g.1 g.2.1 (g.2.2.1++told) cs=some (g.1,g.2.1,g.2.2.1++told,cs):=fun n cs hn=>QB (by
  unfold Jr
  rw [if_neg (by simp; omega)])
 match said,hs,hsl,fin with
 | [],_,_,fin=>exact fin 0 _ rfl
 | [s],hs,_,fin =>
  have h0:=(hs.2 s (by simp)).1
  refine QB ?_
  unfold Jr
  have wl:IntKind.i64.wrap ((g.2.2.2.length:Int)-1)=(g.2.2.2.length:Int)-1:=Af (by omega)
  rw [if_pos (by simp),if_pos (by omega),if_pos (by simp)]
  change ((Aj s.1 0 (IntKind.i64.wrap ((g.2.2.2.length:Int)-1))).bind _)=_
  rw [Aw,Y,wl,Af (show -9223372036854775808<=(0:Int)+1/\(0:Int)+1<=9223372036854775807 by omega)]
  show _=some (g.1,g.2.1,g.2.2.1++told,H5 at_ g.2.2.2 s)
  have f1:=fun cs=>fin 1 cs rfl
  by_cases c1:s.1>=(g.2.2.2.length:Int)
  ·rw [if_pos (by rw [<- Bool.decide_and,decide_eq_false (by omega)]; rfl)]
   have:H5 at_ g.2.2.2 s=g.2.2.2:=by unfold H5; rw [if_pos (by simp [c1])]
   rw [this]
   exact f1 _
  ·rw [if_neg (by rw [<- Bool.decide_and,decide_eq_true (by omega)]; simp)]
   change (if 0<=s.1 then (if s.1<(g.2.2.2.length:Int) then (if ((g.2.2.2.getD s.1.toNat EZ).2.2.2.2.1 != -1)=true then _ else _) else _) else _)=_
   rw [if_pos h0,if_pos (by omega)]
   have hcl:s.1.toNat<g.2.2.2.length:=by omega
   have hdd:=hd (g.2.2.2.getD s.1.toNat EZ) (by rw [AU hcl]; exact BU _)
   by_cases c2:(g.2.2.2.getD s.1.toNat EZ).2.2.2.2.1>=0
   ·rw [if_pos (by simp only [bne_iff_ne,ne_eq]; omega)]
    have:H5 at_ g.2.2.2 s=g.2.2.2:=by unfold H5; rw [if_pos (by rw [decide_eq_true c2,Bool.or_true])]
    rw [this]
    exact f1 _
   ·rw [if_neg (by simp only [bne_iff_ne,ne_eq]; omega)]
    have e:H5 at_ g.2.2.2 s=g.2.2.2.set s.1.toNat (Tt at_ s (g.2.2.2.getD s.1.toNat EZ)):=by unfold H5; rw [if_neg (by rw [decide_eq_false c1,decide_eq_false c2]; simp)]
    rw [e]
    refine dr ?_
    unfold QA
    have hz2:∀ (l:List F6),l.getD s.1.toNat ((0:Int),O,O,(0:Int),(0:Int),(0:Int),(0:Int),(0:Int),O)=l.getD s.1.toNat EZ:=fun l=>rfl
    have hz3:([s]:List DH).getD (0:Int).toNat ((0:Int),(0:Int),(0:Int),O,O,(0:Int))=s:=rfl
    simp only [hz3,hz2,rd hcl,List.set_set,List.length_set]
    rw [if_pos h0,if_pos (by omega),Af (show -9223372036854775808<=(0:Int)+1/\(0:Int)+1<=9223372036854775807 by omega)]
    unfold Tt
    by_cases c3:(g.2.2.2.getD s.1.toNat EZ).1=2
    ·rw [if_pos (show ((g.2.2.2.getD s.1.toNat EZ).1==2)=true by simpa using c3),if_pos (show ((g.2.2.2.getD s.1.toNat EZ).1==2)=true by simpa using c3)]
     exact f1 _
    ·rw [if_neg (show ¬ ((g.2.2.2.getD s.1.toNat EZ).1==2)=true by simpa using c3),if_neg (show ¬ ((g.2.2.2.getD s.1.toNat EZ).1==2)=true by simpa using c3)]
     exact f1 _
 | _::_::_,_,hsl,_=>simp at hsl)

theorem Jg.call {g:AS} {k:Nat} (h:Jg g k) (at_:Int) (e:D6):Jg (H6 g at_ e) (k+1) :=
 ⟨h.views,h.six,h.mem,h.fly,by have:=h.flen; show g.2.2.1.length<=_; omega,by have:=h.clen; simp only [H6,List.length_append,List.length_cons,List.length_nil]; omega⟩
theorem br (at_:Int) (e:D6) (g:AS) (k:Nat) (hg:Jg g k) (hk:k<=1000) (h3:V3 g) (hn:1<=e.2.1/\e.2.1<=6):L6 e at_ g=some ((Jz g at_ e).1==0,(Jz g at_ e).2):=ie (by
 have hc:=hg.clen
 have hf:=hg.flen
 have h6:=hg.six
 have hgc:=hg.call at_ e
 have h3c:=h3.call at_ e
 obtain ⟨m1,m2⟩:=hg.mem (e.2.1-1).toNat (by omega)
 have hb:=fF (op:=e.2.2.2.1) (call:=(g.2.2.2.length:Int)) (key:=e.2.2.2.2.1) (val:=e.2.2.2.2.2) m1 hg.views
 unfold Th Jz
 rw [if_pos (by simp; omega)]
 change ((B8 e.2.1 (H6 g at_ e)).bind _)=_
 rw [Fs e.2.1 _ hgc hn,Y]
 change (if 0<=e.2.1-1 then (if e.2.1-1<(g.2.1.length:Int) then ((SN (BB g (e.2.1-1).toNat) g.1 e.2.2.2.1 (g.2.2.2.length:Int) e.2.2.2.2.1 e.2.2.2.2.2).bind _) else none) else none)=_
 rw [if_pos (by omega),if_pos (by omega),rP _ _ _ _ _ _ m1 hg.views (h3.mem _ (by omega)),Y]
 cases hq:(D5 (BB g (e.2.1-1).toNat) g.1 e.2.2.2.1 (g.2.2.2.length:Int) e.2.2.2.2.1 e.2.2.2.2.2).2.2.2 with
 | false=>rfl
 | true =>
  have hid:=hb.id hq
  have htl:=hb.tlen
  rw [if_neg (by simp),if_pos rfl]
  change (if 0<=e.2.1-1 then (if e.2.1-1<(g.2.1.length:Int) then _ else none) else none)=_
  rw [if_pos (by omega),if_pos (by omega)]
  dsimp only
  have:=J7 (D5 (BB g (e.2.1-1).toNat) g.1 e.2.2.2.1 (g.2.2.2.length:Int) e.2.2.2.2.1 e.2.2.2.2.2).2.1 (D5 (BB g (e.2.1-1).toNat) g.1 e.2.2.2.1 (g.2.2.2.length:Int) e.2.2.2.2.1 e.2.2.2.2.2).2.2.1 at_
   ((H6 g at_ e).1,(H6 g at_ e).2.1.set (e.2.1-1).toNat (D5 (BB g (e.2.1-1).toNat) g.1 e.2.2.2.1 (g.2.2.2.length:Int) e.2.2.2.2.1 e.2.2.2.2.2).1,(H6 g at_ e).2.2.1,(H6 g at_ e).2.2.2) (by show g.2.2.1.length+_<=_; omega) (by simp only [H6,List.length_append,List.length_cons,List.length_nil]; omega) hb.said h3c.calls
  rw [this,Y]
  unfold BZ
  rw [hid,m2,show (((e.2.1-1).toNat:Int)+1-1).toNat=(e.2.1-1).toNat by omega]
  rfl)
theorem ABY {m:AE} {views:List (List Int)} {e:Int} (h:V1 views m):yY m views e=Fq m views e:=by
 unfold yY Fq
 split
 ·cases hb:m.2.2.2.1 with
  | false=>rfl
  | true =>
   have hv:=(h.view hb).2
   by_cases he:m.2.1=e-1
   ·rw [show (e-2).toNat=(m.2.1-1).toNat by omega,hv,show (m.2.1==e-1)=true by simpa using he]
    rfl
   ·rw [show (m.2.1==e-1)=false by simpa using he]
    rfl
 ·rfl
theorem bt (at_:Int) (e:D6) (g:AS) (k:Nat) (hg:Jg g k) (hk:k<=1000) (h3:V3 g) (hn:1<=e.2.1/\e.2.1<=6):L7 e at_ g=some ((eQ g at_ e.2.1).1==0,(eQ g at_ e.2.1).2):=ig (by
 have hc:=hg.clen
 have hf:=hg.flen
 have h6:=hg.six
 have hvl:=hg.views.len
 obtain ⟨m1,m2⟩:=hg.mem (e.2.1-1).toNat (by omega)
 have hep:=m1.ep
 have h1:=h3.mem (e.2.1-1).toNat (by omega)
 unfold Ti eQ
 rw [Fs e.2.1 g hg hn,Y]
 change (if 0<=e.2.1-1 then (if e.2.1-1<(g.2.1.length:Int) then EM at_ (e.2.1-1) (IntKind.i64.wrap ((BB g (e.2.1-1).toNat).2.1+1)) g.1 g.2.1 g.2.2.1 g.2.2.2 e else none) else none)=_
 rw [if_pos (by omega),if_pos (by omega),Af (by omega)]
 have key:∀ (n:Nat) (ep:Int),1<=ep->ep+(n:Int)=(g.1.length:Int)+1->EM at_ (e.2.1-1) ep g.1 g.2.1 g.2.2.1 g.2.2.2 e=some ((Ik g at_ (BB g (e.2.1-1).toNat) e.2.1 n ep).1==0,(Ik g at_ (BB g (e.2.1-1).toNat) e.2.1 n ep).2):=by
  intro n
  induction n with
  | zero =>
   intro ep h1 h2
   refine JA ?_
   unfold GY
   rw [if_neg (by simp; omega)]
   rfl
  | succ n ih =>
   intro ep hp1 hp2
   refine JA ?_
   unfold GY Ik
   have we:IntKind.i64.wrap (ep-1)=ep-1:=Af (by omega)
   have g1:=hg.views.get (i:=(ep-1).toNat) (by omega)
   rw [if_pos (by simp; omega),we,if_pos (by omega),if_pos (by omega),if_pos (by omega),if_pos (by omega)]
   change (if ((g.1.getD (ep-1).toNat []).getD 0 0 != e.2.1)=true then _ else _)=_
   by_cases hq:((g.1.getD (ep-1).toNat []).getD 0 0 != e.2.1)=true
   ·rw [if_pos hq,if_pos hq,Af (by omega)]
    exact ih (ep+1) (by omega) (by omega)
   ·rw [if_neg hq,if_neg hq,if_pos (by omega),if_pos (by omega)]
    change ((SO (BB g (e.2.1-1).toNat) g.1 ep).bind _)=_
    rw [rQ _ _ _ m1 hg.views,Y,ABY h1]
    cases hb:(Fq (BB g (e.2.1-1).toNat) g.1 ep).2.2 with
    | false=>rfl
    | true =>
     have ha:=Xn (e:=ep) m1 hg.views hb
     have hal:=ha.2.2.2
     rw [if_pos rfl,if_pos rfl,if_pos (by omega),if_pos (by omega)]
     dsimp only
     have:=J7 (Fq (BB g (e.2.1-1).toNat) g.1 ep).2.1 [] at_ (g.1,g.2.1.set (e.2.1-1).toNat (Fq (BB g (e.2.1-1).toNat) g.1 ep).1,g.2.2.1,g.2.2.2) (by show g.2.2.1.length+_<=_; omega) (by show g.2.2.2.length<=_; omega) GV h3.calls
     rw [this,Y]
     unfold BZ
     rw [ha.2.1,m2,show (((e.2.1-1).toNat:Int)+1-1).toNat=(e.2.1-1).toNat by omega]
     rfl
 by_cases hle:(BB g (e.2.1-1).toNat).2.1<=(g.1.length:Int)
 ·exact key _ _ (by omega) (by omega)
 ·have e0:((g.1.length:Int)-(BB g (e.2.1-1).toNat).2.1).toNat=0:=by omega
  rw [e0]
  refine JA ?_
  unfold GY
  rw [if_neg (fun h=>hle (by have:=of_decide_eq_true h; omega))]
  rfl)
def QL (g:AS) (i:Nat) (at_:Int):AS:=BZ (Fb g i)
 (D4 (BB g ((g.2.2.1.getD i DM).2.2.1-1).toNat) g.1 (g.2.2.1.getD i DM)).1 (D4 (BB g ((g.2.2.1.getD i DM).2.2.1-1).toNat) g.1 (g.2.2.1.getD i DM)).2.1 (D4 (BB g ((g.2.2.1.getD i DM).2.2.1-1).toNat) g.1 (g.2.2.1.getD i DM)).2.2 at_
theorem Xq (at_:Int) (i:Nat) (g:AS) (k:Nat) (hg:Jg g k) (hk:k<=10000) (h3:V3 g) (hi:i<g.2.2.1.length):Jp (i:Int) at_ g=some (QL g i at_):=da (by
 have hc:=hg.clen
 have hf:=hg.flen
 have h6:=hg.six
 have hmem:g.2.2.1.getD i DM∈g.2.2.1:=by rw [AU hi]; exact BU _
 have hx:=hg.fly _ hmem
 have hv2:=h3.fly _ hmem
 unfold P7 QL
 rw [if_pos (by omega),if_pos (by omega),AM (by omega)]
 change ((Bq g.2.2.1 (i:Int) ((i+1:Nat):Int)).bind fun y1=>((B8 (g.2.2.1.getD i DM).2.2.1 (g.1,g.2.1,y1,g.2.2.2)).bind _))=_
 rw [Ge (by omega) (by omega),Y]
 have hto:=hx.to
 generalize hxx:g.2.2.1.getD i DM=x at *
 obtain ⟨m1,m2⟩:=hg.mem (x.2.2.1-1).toNat (by omega)
 have hho:=QK (x:=x) m1 hg.views
 have hil:=Kc hx.items
 change ((B8 x.2.2.1 (Fb g i)).bind _)=_
 rw [Fs x.2.2.1 (Fb g i) (hg.less i) hto,Y]
 change (if decide (x.2.2.1-1>=0)=true then (if 0<=x.2.2.1-1 then (if x.2.2.1-1<(g.2.1.length:Int) then ((Na (BB g (x.2.2.1-1).toNat) g.1 (g.2.2.1.getD (i:Int).toNat DM)).bind _) else none) else none) else _)=_
 rw [Ai,hxx,if_pos (by simp; omega),if_pos (by omega),if_pos (by omega),mN _ _ _ m1 hg.views (by omega),Y]
 have hhi:eU (BB g (x.2.2.1-1).toNat) g.1 x=D4 (BB g (x.2.2.1-1).toNat) g.1 x:=by
  unfold eU
  rw [if_pos (fC.2 hx),ACd hv2.inst]
 rw [hhi]
 change (if 0<=x.2.2.1-1 then (if x.2.2.1-1<(g.2.1.length:Int) then _ else none) else none)=_
 rw [if_pos (by omega),if_pos (by omega)]
 dsimp only
 have htl:=hho.tlen
 have:=J7 (D4 (BB g (x.2.2.1-1).toNat) g.1 x).2.1 (D4 (BB g (x.2.2.1-1).toNat) g.1 x).2.2 at_
  ((Fb g i).1,(Fb g i).2.1.set (x.2.2.1-1).toNat (D4 (BB g (x.2.2.1-1).toNat) g.1 x).1,(Fb g i).2.2.1,(Fb g i).2.2.2) (by
   have:(Fb g i).2.2.1.length<=g.2.2.1.length:=by simp only [Fb,List.length_append,List.length_take,List.length_drop]; omega
   show (Fb g i).2.2.1.length+_<=_; omega) (by show g.2.2.2.length<=_; omega) hho.said h3.calls
 rw [this,Y]
 unfold BZ
 rw [hho.id,m2,show (((x.2.2.1-1).toNat:Int)+1-1).toNat=(x.2.2.1-1).toNat by omega])
theorem bw (at_:Int) (e:D6) (g:AS) (k:Nat) (hg:Jg g k) (hk:k<=1000) (h3:V3 g) (he:Jy e=true):IP e at_ g=some ((rN g at_ e).1==0,(rN g at_ e).2):=iT (by
 have hn:=mE he
 have h6:=hg.six
 have hf:=hg.flen
 unfold Tc rN
 by_cases h1:e.1=1
 ·rw [if_pos (by simpa using h1),if_pos h1,br at_ e g k hg hk h3 (by omega)]; rfl
 rw [if_neg (by simpa using h1),if_neg h1]
 by_cases h5:e.1=5
 ·rw [if_pos (by simpa using h5),if_pos h5,bt at_ e g k hg hk h3 (by omega)]; rfl
 rw [if_neg (by simpa using h5),if_neg h5]
 by_cases h7:e.1=6
 ·obtain ⟨m1,m2⟩:=hg.mem (e.2.1-1).toNat (by omega)
  rw [if_pos (by simpa using h7),if_pos h7,Fs e.2.1 g hg (by omega),Y]
  change (if 0<=e.2.1-1 then (if e.2.1-1<(g.2.1.length:Int) then ((Ut (BB g (e.2.1-1).toNat)).bind _) else none) else none)=_
  rw [if_pos (by omega),if_pos (by omega),wF,Y]
  change (if 0<=e.2.1-1 then (if e.2.1-1<(g.2.1.length:Int) then _ else none) else none)=_
  rw [if_pos (by omega),if_pos (by omega)]
  unfold BZ
  have:((Xo (BB g (e.2.1-1).toNat)).1-1).toNat=(e.2.1-1).toNat:=by
   show ((BB g (e.2.1-1).toNat).1-1).toNat=_
   rw [m2]; omega
  rw [this,List.append_nil]
  rfl
 rw [if_neg (by simpa using h7),if_neg h7]
 have hm:Jq e at_ g=some ((fu g at_ e).1==0,(fu g at_ e).2):=dg (by
  unfold P8 fu
  by_cases h0:g.2.2.1=[]
  ·rw [if_pos (by rw [h0]; rfl),if_pos h0]; rfl
  have hl:0<g.2.2.1.length:=by
   cases hq:g.2.2.1 with
   | nil=>exact absurd hq h0
   | cons a l=>simp
  have hem:Int.tmod e.2.2.1 (g.2.2.1.length:Int)=e.2.2.1 % (g.2.2.1.length:Int):=Int.tmod_eq_emod_of_nonneg (by omega)
  have hlt:(e.2.2.1 % (g.2.2.1.length:Int)).toNat<g.2.2.1.length:=by
   have h1:=Int.emod_lt_of_pos e.2.2.1 (show (0:Int)<(g.2.2.1.length:Int) by omega)
   have h2:=Int.emod_nonneg e.2.2.1 (show (g.2.2.1.length:Int)≠0 by omega)
   omega
  obtain ⟨i,hi⟩:∃ i:Nat,e.2.2.1 % (g.2.2.1.length:Int)=(i:Int):=⟨(e.2.2.1 % (g.2.2.1.length:Int)).toNat,by
   have h2:=Int.emod_nonneg e.2.2.1 (show (g.2.2.1.length:Int)≠0 by omega)
   omega⟩
  rw [if_neg (by simp only [beq_iff_eq]; omega),if_neg (by omega),if_neg h0,hem,hi]
  rw [hi,Ai] at hlt
  simp only [Ai]
  by_cases k2:e.1=2
  ·rw [if_pos (by simpa using k2),if_neg (by omega),if_neg (by omega),Xq at_ i g k hg (by omega) h3 hlt]
   rfl
  rw [if_neg (by simpa using k2)]
  by_cases k3:e.1=3
  ·rw [if_pos (by simpa using k3),if_neg (by omega),if_pos k3,AM (by omega),Ge (by omega) (by omega)]
   rfl
  have k4:e.1=4:=by omega
  have hmem:g.2.2.1.getD i DM∈g.2.2.1:=by rw [AU hlt]; exact BU _
  have hil:=Kc (hg.fly _ hmem).items
  rw [if_neg (by simpa using k3),if_pos (by simpa using k4),if_pos k4,if_pos (by omega),if_pos (by omega)]
  change ((Hn (g.2.2.1.getD i DM)).bind _)=_
  rw [OG _ (by omega),Y,if_pos (by simp; omega)]
  rfl)
 rw [hm]
 rfl)
theorem mP {views:List (List Int)} {events:List D6} (hv:SX views) (hl:events.length<=70) (he:∀ e∈events,Jy e=true) :
  QT views events=some ((Je 0 events (Ah views) []).1,(Je 0 events (Ah views) []).2,true):=py (by
 have hg:=PR hv
 obtain ⟨r1,r2,r3⟩:=mG events 0 (Ah views) [] hg (by omega) he
 unfold Z5
 rw [mO hv,Y,if_pos (by rfl),if_neg (by simp; omega)]
 refine iF ?_
 unfold TD
 have codes:∀ (g:AS) (a:Int) (e:D6),Jy e=true->(rN g a e).1=0\/(rN g a e).1=1:=by
  intro g a e he
  have hfa:∀ (m:AE) (nd:Int) (n:Nat) (ep:Int),(Ik g a m nd n ep).1=0\/(Ik g a m nd n ep).1=1:=by
   intro m nd n
   induction n with
   | zero=>intro ep; exact .inr rfl
   | succ n ih =>
    intro ep
    unfold Ik
    split
    ·exact ih _
    ·split
     ·exact .inl rfl
     ·exact .inr rfl
  unfold rN
  split
  ·unfold Jz; split
   ·exact .inl rfl
   ·exact .inr rfl
  ·split
   ·exact hfa _ _ _ _
   ·split
    ·exact .inl rfl
    ·unfold fu
     split
     ·exact .inr rfl
     ·split
      ·exact .inl rfl
      ·split
       ·exact .inl rfl
       ·exact .inl rfl
 have L3:∀ a b c d,GK events (events.length:Int) ((0:Nat):Int) a b c d (Ah views).2.1 (Ah views).2.2.1 (Ah views).2.2.2 (Ah views).1 []=some ((Je 0 events (Ah views) []).1,(Je 0 events (Ah views) []).2,true):=by
  intro a b c d
  have key:=E0 (n:=events.length) (P:=fun i=>∀ (g:AS) (cs:List Int),Jg g i->V3 g->cs.length=i->Je i (events.drop i) g cs=Je 0 events (Ah views) []->GK events (events.length:Int) (i:Int) a b c d g.2.1 g.2.2.1 g.2.2.2 g.1 cs=some ((Je 0 events (Ah views) []).1,(Je 0 events (Ah views) []).2,true)) (fun g cs hgi h3 hcs hr=>TE (by
   unfold MC
   rw [if_neg (by simp)]
   change ((KN g).bind _)=_
   rw [f4 g events.length hgi (by omega),Y]
   rw [List.drop_eq_nil_of_le (Nat.le_refl _)] at hr
   rw [<- hr]
   rfl)) (fun i hi ih g cs hgi h3 hcs hr=>TE (by
   unfold MC
   obtain ⟨d2,_⟩:=hgi.event (at_:=(i:Int)) (he _ (BU hi))
   have hz:events.getD i ((0:Int),(0:Int),(0:Int),(0:Int),O,O)=events[i]:=AU hi
   simp only [show ((i:Int)<(events.length:Int)) from by omega,decide_true,if_true,show (0:Int)<=(i:Int) from by omega,Ai,hz,AM (show i<9223372036854775807 by omega)]
   change ((IP events[i] (i:Int) g).bind _)=_
   rw [bw (i:Int) events[i] g i hgi (by omega) h3 (he _ (BU hi)),Y]
   have hcode:Vi ((rN g (i:Int) events[i]).1==0)=some (rN g (i:Int) events[i]).1:=vp (by
    unfold gQ
    rcases codes g (i:Int) events[i] (he _ (BU hi)) with q | q<;>rw [q]<;>rfl)
   dsimp only
   rw [hcode,Y,if_pos (by simp; omega)]
   refine ih _ _ d2 (h3.event hgi (by omega) (he _ (BU hi))) (by simp; omega) ?_
   rw [BC hi] at hr
   exact hr)) 0 (by omega) (Ah views) [] hg (V3.new hv) rfl rfl
  exact key
 have L1:∀ a b c d,GL events events (events.length:Int) ((0:Nat):Int) a b c d (Ah views).2.1 (Ah views).2.2.1 (Ah views).2.2.2 (Ah views).1=some ((Je 0 events (Ah views) []).1,(Je 0 events (Ah views) []).2,true):=by
  intro a b c d
  refine E0 (n:=events.length) (P:=fun i=>GL events events (events.length:Int) (i:Int) a b c d (Ah views).2.1 (Ah views).2.2.1 (Ah views).2.2.2 (Ah views).1=some ((Je 0 events (Ah views) []).1,(Je 0 events (Ah views) []).2,true)) (TF (by
   unfold MD
   rw [if_neg (by simp)]
   refine iE ?_
   unfold TC
   exact L3 _ _ _ _)) (fun i hi ih=>TF (by
   unfold MD
   have hz:events.getD i ((0:Int),(0:Int),(0:Int),(0:Int),O,O)=events[i]:=AU hi
   simp only [show ((i:Int)<(events.length:Int)) from by omega,decide_true,if_true,show (0:Int)<=(i:Int) from by omega,Ai,hz,AM (show i<9223372036854775807 by omega)]
   rw [ly,he _ (BU hi),Y,if_neg (by simp)]
   exact ih)) 0 (by omega)
 exact L1 _ _ _ _)

structure PM where
 ep:Int
 fell:Bool
 base:Bool
 leads:Bool
 serves:Bool
 waits:List Int
 items:List AP
 cnt:Int
 op:Int
 call:Int
 num:Int
 ti:AP
 left:List Int
structure PX where
 kind:Int
 frm:Int
 to:Int
 ep:Int
 num:Int
 items:List AP
structure PC where
 op:Int
 key:ByteArray
 val:ByteArray
 wen:Int
 done:Int
 ver:Int
 ep:Int
 num:Int
 got:ByteArray
structure PG where
 mem:Int->PM
 fly:List PX
 calls:List PC
def PG.set (g:PG) (i:Int) (m:PM) (T:List PX):PG:={ g with mem:=fun j=>if j=i then m else g.mem j,fly:=g.fly++T }
def Cz (V:Int->List Int) (e:Int):Int:=(V e).getD 0 0
def PM.idle (m:PM) (e:Int) (b l:Bool) (its:List AP):PM:={ ep:=e,fell:=false,base:=b,leads:=l,serves:=false,waits:=[],items:=its,cnt:=0,op:=0,call:=0,num:=0,ti:=(O,O,0),left:=[] }
inductive C0 (V:Int->List Int) (nv:Int) (g:PG) (i:Int):PM->List PX->Prop
 | closes (x:PX) (hx:x∈g.fly) (h1:x.ep=(g.mem i).ep+1) (h2:(g.mem i).base=true) (h3:x.ep<=nv):C0 V nv g i ((g.mem i).idle x.ep false false (g.mem i).items) [⟨2,i,x.frm,x.ep,0,(g.mem i).items⟩]
 | stat (x:PX) (hx:x∈g.fly) (h1:x.kind=2) (h2:x.ep=(g.mem i).ep) (h3:(g.mem i).leads=true) (h4:(g.mem i).base=false) (W:List Int) (hw:∀ k,k∈W↔k∈V x.ep/\k≠i) (T:List PX) (hT:∀ y∈T,y.kind=3/\y.ep=x.ep/\y.items=x.items/\y.frm=i) :
   C0 V nv g i { g.mem i with base:=true,items:=x.items,waits:=W,serves:=W.isEmpty } T
 | inst (x:PX) (hx:x∈g.fly) (h1:x.kind=3) (h2:(g.mem i).ep<x.ep\/(g.mem i).ep=x.ep/\(g.mem i).base=false/\(g.mem i).fell=false) (h3:i∈V x.ep) (h4:Cz V x.ep≠i) (h5:x.ep<=nv) :
   C0 V nv g i ((g.mem i).idle x.ep true false x.items) [⟨4,i,x.frm,x.ep,x.num,[]⟩]
 | again (x:PX) (hx:x∈g.fly) (h1:x.kind=3) (h2:(g.mem i).ep=x.ep) (h3:(g.mem i).base=true):C0 V nv g i (g.mem i) [⟨4,i,x.frm,x.ep,x.num,[]⟩]
 | told (x:PX) (hx:x∈g.fly) (h1:x.kind=4) (h2:(g.mem i).ep=x.ep) (h3:(g.mem i).leads=true) :
   C0 V nv g i { g.mem i with waits:=(g.mem i).waits.filter (· != x.frm),serves:=(g.mem i).base&&((g.mem i).waits.filter (· != x.frm)).isEmpty } []
 | store (x:PX) (hx:x∈g.fly) (h1:x.kind=5) (h2:(g.mem i).ep=x.ep) (h3:(g.mem i).base=true) (h4:i≠Cz V x.ep) (a:AP) (h5:x.items=[a]) :
   C0 V nv g i { g.mem i with items:=An (g.mem i).items a } [⟨6,i,x.frm,x.ep,x.num,[]⟩]
 | sure (x:PX) (hx:x∈g.fly) (h1:x.kind=7) (h2:(g.mem i).ep=x.ep) (h3:(g.mem i).base=true):C0 V nv g i (g.mem i) [⟨8,i,x.frm,x.ep,x.num,[]⟩]
 | less (x:PX) (hx:x∈g.fly) (h1:(g.mem i).op=1/\x.kind=6\/(g.mem i).op=2/\x.kind=8) (h2:(g.mem i).ep=x.ep) (h3:(g.mem i).num=x.num):C0 V nv g i { g.mem i with left:=(g.mem i).left.filter (· != x.frm) } []
 | had (e:Int) (h1:e=(g.mem i).ep+1) (h2:(g.mem i).base=true) (h3:Cz V e=i) (h4:e<=nv) (W:List Int) (hw:∀ k,k∈W↔k∈V e/\k≠i) (T:List PX) (hT:∀ y∈T,y.kind=3/\y.ep=e/\y.items=(g.mem i).items/\y.frm=i) :
   C0 V nv g i { (g.mem i).idle e true true (g.mem i).items with waits:=W,serves:=W.isEmpty } T
 | took (e:Int) (h1:(g.mem i).ep<e) (h3:Cz V e=i) (h4:e<=nv) (T:List PX) (hT:∀ y∈T,y.kind=1/\y.ep=e/\y.items=[]):C0 V nv g i ((g.mem i).idle e false true (g.mem i).items) T
 | fall:C0 V nv g i { (g.mem i).idle (g.mem i).ep false false [] with fell:=true } []
def Xr (g:PG) (k e:Int):Prop:=e<(g.mem k).ep\/((g.mem k).ep=e/\((g.mem k).base=true\/(g.mem k).fell=true))
theorem C0.ep {V nv g i m T} (h:C0 V nv g i m T):(g.mem i).ep<=m.ep:=by
 cases h<;>simp_all [PM.idle]<;>grind
theorem Xr.step {V nv g i m T k e} (h:C0 V nv g i m T) (hb:Xr g k e):Xr (g.set i m T) k e:=by
 unfold Xr PG.set at *
 cases h<;>simp_all [PM.idle]<;>grind
def Cd (V:Int->List Int) (g:PG) (e:Int):Prop:=∀ d,1<=d->d<e->∃ j∈V d,d<(g.mem j).ep
theorem rf {V nv g i m T} (h:C0 V nv g i m T) (j:Int):(g.mem j).ep<=((g.set i m T).mem j).ep:=by
 have:=h.ep
 simp only [PG.set]
 split
 ·rename_i e; subst e; exact this
 ·exact Int.le_refl _
theorem Cd.mono {V g g' e} (h:Cd V g e) (hm:∀ j,(g.mem j).ep<=(g'.mem j).ep):Cd V g' e:=fun d h1 h2=>by
 obtain ⟨j,hj,h3⟩:=h d h1 h2
 exact ⟨j,hj,by have:=hm j; omega⟩
theorem Cd.next {V g e j} (h:Cd V g e) (hj:j∈V e) (hl:e<(g.mem j).ep):Cd V g (e+1):=fun d h1 h2=>by
 by_cases q:d=e
 ·subst q; exact ⟨j,hj,hl⟩
 ·exact h d h1 (by omega)
structure IA (V:Int->List Int) (nv:Int) (g:PG):Prop where
 pos:∀ i,1<=(g.mem i).ep
 lead:∀ i,(g.mem i).leads=true->(g.mem i).ep<=nv/\Cz V (g.mem i).ep=i
 view:∀ i,(g.mem i).base=true->(g.mem i).ep<=nv/\i∈V (g.mem i).ep
 serv:∀ i,(g.mem i).serves=true->(g.mem i).base=true/\(g.mem i).leads=true/\(g.mem i).waits=[]
 task:∀ i,(g.mem i).op≠0->(g.mem i).serves=true/\((g.mem i).op=1\/(g.mem i).op=2)/\(g.mem i).num=(g.mem i).cnt
 cnt:∀ i,0<=(g.mem i).cnt
 fell:∀ i,(g.mem i).fell=true->(g.mem i).base=false/\(g.mem i).leads=false
theorem IA.step {V nv g i m T} (h:IA V nv g) (hv:∀ e,1<=e->e<=nv->Cz V e∈V e) (hs:C0 V nv g i m T):IA V nv (g.set i m T):=by
 obtain ⟨a1,a2,a3,a4,a5,a6,a7⟩:=h
 have b1:=a1 i; have b2:=a2 i; have b3:=a3 i; have b4:=a4 i; have b5:=a5 i; have b6:=a6 i; have b7:=a7 i
 have key:1<=m.ep/\(m.leads=true->m.ep<=nv/\Cz V m.ep=i)/\(m.base=true->m.ep<=nv/\i∈V m.ep)/\(m.serves=true->m.base=true/\m.leads=true/\m.waits=[])/\(m.op≠0->m.serves=true/\(m.op=1\/m.op=2)/\m.num=m.cnt)/\0<=m.cnt/\(m.fell=true->m.base=false/\m.leads=false):=by
  cases hs<;>simp_all [PM.idle]<;>grind
 refine ⟨fun j=>?_,fun j=>?_,fun j=>?_,fun j=>?_,fun j=>?_,fun j=>?_,fun j=>?_⟩<;>simp only [PG.set]<;>split<;>grind
structure IB (V:Int->List Int) (g:PG):Prop where
 mem:∀ i,(g.mem i).base=true->Cd V g (g.mem i).ep
 fly:∀ x∈g.fly,x.kind=2\/x.kind=3->Cd V g x.ep
theorem IB.step {V nv g i m T} (h:IB V g) (ha:IA V nv g) (hv:∀ e,1<=e->e<=nv->Cz V e∈V e) (hs:C0 V nv g i m T):IB V (g.set i m T):=by
 have hm:=rf hs
 have mono:∀ e,Cd V g e->Cd V (g.set i m T) e:=fun e h=>h.mono hm
 have next:∀ e,Cd V g e->i∈V e->e<m.ep->Cd V (g.set i m T) (e+1):=fun e h h1 h2=>(mono e h).next h1 (by simp [PG.set]; exact h2)
 have b:=h.mem i
 have v:=ha.view i
 have f:=h.fly
 have k1:m.base=true->Cd V (g.set i m T) m.ep:=by
  generalize g.set i m T=g' at *
  cases hs<;>simp_all [PM.idle]<;>grind
 have k2:∀ y∈T,y.kind=2\/y.kind=3->Cd V (g.set i m T) y.ep:=by
  generalize g.set i m T=g' at *
  cases hs<;>simp_all [PM.idle]<;>grind
 refine ⟨fun j=>?_,fun y hy hk=>?_⟩
 ·show ((if j=i then m else g.mem j).base=true->Cd V _ (if j=i then m else g.mem j).ep)
  split
  ·exact k1
  ·exact fun hb=>mono _ (h.mem j hb)
 ·rcases As.1 hy with e | e
  ·exact mono _ (h.fly y e hk)
  ·exact k2 y e hk
def Kj (g:PG) (i:Int):Prop:=∃ j∈(g.mem i).left,(g.mem i).ep<(g.mem j).ep/\∀ x∈g.fly,((g.mem i).op=1/\x.kind=6\/(g.mem i).op=2/\x.kind=8)->x.frm=j->x.ep=(g.mem i).ep->x.num≠(g.mem i).num
structure IT (V:Int->List Int) (g:PG) (vr:Nat->Int) (now:Int):Prop where
 st:∀ k,vr k≠0->∃ e n,vr k=1000*e+n/\1<=e/\1<=n/\n<=900/\e<=(g.mem (Cz V e)).ep/\((g.mem (Cz V e)).ep=e->(g.mem (Cz V e)).leads=true->(g.mem (Cz V e)).base=true/\n<=(g.mem (Cz V e)).cnt)
 inj:∀ k l,vr k≠0->vr k=vr l->k=l
 out:∀ k,g.calls.length<=k->vr k=0
 act:∀ i,(g.mem i).op≠0->∃ (k:Nat) (c:PC),(g.mem i).call=(k:Int)/\g.calls[k]? = some c/\vr k=1000*(g.mem i).ep+(g.mem i).num/\c.done<0/\c.op=(g.mem i).op/\c.key=(g.mem i).ti.1/\c.val=(g.mem i).ti.2.1/\(g.mem i).ti.2.2=vr k/\1<=(g.mem i).num/\(g.mem i).num<=900
 dn:∀ (k:Nat) c,g.calls[k]? = some c->0<=c.done->vr k=1000*c.ep+c.num/\1<=c.ep/\1<=c.num/\c.num<=900/\Cd V g c.ep/\c.done<=now/\c.wen<=c.done
 wn:∀ (k:Nat) c,g.calls[k]? = some c->c.wen<=now
 fl:∀ x∈g.fly,5<=x.kind->x.kind<=8->x.ep<=(g.mem (Cz V x.ep)).ep/\((g.mem (Cz V x.ep)).ep=x.ep->(g.mem (Cz V x.ep)).leads=true->x.num<=(g.mem (Cz V x.ep)).cnt)
 tm:∀ i,(g.mem i).op≠0->∀ (k l:Nat) c a,(g.mem i).call=(k:Int)->g.calls[k]? = some c->g.calls[l]? = some a->0<=a.done->a.done<c.wen->a.ep<=(g.mem i).ep\/Kj g i
 or:∀ (k l:Nat) a b,g.calls[k]? = some a->g.calls[l]? = some b->0<=a.done->0<=b.done->a.done<b.wen->vr k<vr l
theorem C0.task {V nv g i m T} (h:C0 V nv g i m T):m.op≠0->m.ep=(g.mem i).ep/\m.op=(g.mem i).op/\m.call=(g.mem i).call/\m.num=(g.mem i).num/\m.ti=(g.mem i).ti/\m.cnt=(g.mem i).cnt:=by
 cases h<;>simp_all [PM.idle]
theorem C0.lead {V nv g i m T} (h:C0 V nv g i m T):m.ep=(g.mem i).ep->m.leads=true->(g.mem i).leads=true/\m.cnt=(g.mem i).cnt/\((g.mem i).base=true->m.base=true):=by
 cases h<;>simp_all [PM.idle]<;>grind
theorem C0.new {V nv g i m T} (h:C0 V nv g i m T):m.ep≠(g.mem i).ep->m.cnt=0/\m.op=0:=by
 cases h<;>simp_all [PM.idle]<;>grind
theorem C0.talk {V nv g i m T} (h:C0 V nv g i m T):∀ y∈T,5<=y.kind->(y.kind=6\/y.kind=8)/\y.frm=i/\y.ep=(g.mem i).ep/\∃ x∈g.fly,5<=x.kind/\x.kind<=8/\x.ep=y.ep/\x.num=y.num:=by
 cases h<;>simp_all [PM.idle]<;>grind
theorem Kj.step {V nv g i m T j} (h:C0 V nv g i m T) (hb:Kj g j) (ho:((g.set i m T).mem j).op≠0):Kj (g.set i m T) j:=by
 obtain ⟨k,hk,h1,h2⟩:=hb
 have hm:=rf h
 have ht:=h.task
 have hta:=h.talk
 have hl:i=j->k∈m.left:=by
  intro e; subst e
  simp only [PG.set,if_true] at ho
  cases h<;>simp_all [PM.idle]<;>grind
 have hep:((g.set i m T).mem j).ep=(g.mem j).ep/\((g.set i m T).mem j).num=(g.mem j).num/\k∈((g.set i m T).mem j).left/\((g.set i m T).mem j).op=(g.mem j).op:=by
  simp only [PG.set] at ho ⊢
  grind
 refine ⟨k,hep.2.2.1,?_,fun x hx hk6 hf he=>?_⟩
 ·rw [hep.1]; have:=hm k; omega
 ·rw [hep.2.1]
  rw [hep.1] at he
  rw [hep.2.2.2] at hk6
  rcases As.1 hx with e | e
  ·exact h2 x e hk6 hf he
  ·have:=hta x e (by omega)
   grind
theorem IT.mstep {V nv g i m T vr now} (h:IT V g vr now) (ha:IA V nv g) (hs:C0 V nv g i m T):IT V (g.set i m T) vr now:=by
 have hm:=rf hs
 have ht:=hs.task
 have hl:=hs.lead
 have hn:=hs.new
 have hta:=hs.talk
 have hstk:=fun j=>Kj.step (j:=j) hs
 have mono:∀ e,Cd V g e->Cd V (g.set i m T) e:=fun e h=>h.mono hm
 have hmem:∀ j,(g.set i m T).mem j=if j=i then m else g.mem j:=fun _=>rfl
 have hfly:(g.set i m T).fly=g.fly++T:=rfl
 have hc:(g.set i m T).calls=g.calls:=rfl
 have hep:=hs.ep
 generalize g.set i m T=g' at *
 obtain ⟨c1,c2,c3,c4,c5,c6,c7,c8,c9⟩:=h
 have hlead:=ha.lead
 refine ⟨?_,c2,by rw [hc]; exact c3,?_,?_,by rw [hc]; exact c6,?_,?_,by rw [hc]; exact c9⟩
 ·intro k hk
  obtain ⟨e,n,d⟩:=c1 k hk
  refine ⟨e,n,?_⟩
  simp only [hmem]
  grind
 ·simp only [hmem,hc]
  grind
 ·rw [hc]
  grind
 ·intro x hx h5 h8
  rw [hfly] at hx
  simp only [hmem]
  grind
 ·intro j ho k l c a
  have:=c8 j
  have:=hstk j
  simp only [hmem,hc] at *
  grind
theorem Kj.less {g:PG} {f:List PX} {i:Int} (h:∀ x∈f,x∈g.fly) (hb:Kj g i):Kj { g with fly:=f } i:=by
 obtain ⟨j,h1,h2,h3⟩:=hb
 exact ⟨j,h1,h2,fun x hx=>h3 x (h x hx)⟩
theorem IT.later {V g vr n n'} (h:IT V g vr n) (hn:n<=n'):IT V g vr n':=by
 obtain ⟨c1,c2,c3,c4,c5,c6,c7,c8,c9⟩:=h
 exact ⟨c1,c2,c3,c4,by grind,by grind,c7,c8,c9⟩
theorem IT.drop {V g vr now f} (h:IT V g vr now) (hf:∀ x∈f,x∈g.fly):IT V { g with fly:=f } vr now:=by
 have hs:=fun i=>Kj.less (i:=i) hf
 obtain ⟨c1,c2,c3,c4,c5,c6,c7,c8,c9⟩:=h
 refine ⟨c1,c2,c3,c4,c5,c6,fun x hx=>c7 x (hf x hx),?_,c9⟩
 intro i ho k l c a h1 h2 h3 h4 h5
 exact (c8 i ho k l c a h1 h2 h3 h4 h5).imp id (hs i)
theorem IT.call {V g vr now} {c:PC} (h:IT V g vr now) (h1:c.done=-1) (h2:c.wen=now):IT V { g with calls:=g.calls++[c] } vr now:=by
 obtain ⟨c1,c2,c3,c4,c5,c6,c7,c8,c9⟩:=h
 have hg:∀ (k:Nat) d,(g.calls++[c])[k]? = some d->g.calls[k]? = some d\/(k=g.calls.length/\d=c):=by grind
 have hg2:∀ (k:Nat) d,g.calls[k]? = some d->(g.calls++[c])[k]? = some d:=by grind
 have hst:∀ i,Kj g i->Kj { g with calls:=g.calls++[c] } i:=fun i h=>h
 refine ⟨c1,c2,?_,?_,?_,?_,c7,?_,?_⟩
 ·grind
 ·intro i ho
  obtain ⟨k,d,q1,q2,q3⟩:=c4 i ho
  exact ⟨k,d,q1,hg2 k d q2,q3⟩
 ·intro k d hk hd
  rcases hg k d hk with e | ⟨e,e2⟩
  ·exact c5 k d e hd
  ·subst e2; omega
 ·intro k d hk
  rcases hg k d hk with e | ⟨e,e2⟩
  ·exact c6 k d e
  ·subst e2; omega
 ·intro i ho k l d a q1 q2 q3 q4 q5
  obtain ⟨k',d',r1,r2,_⟩:=c4 i ho
  have:k'=k:=by simp only at q1; omega
  subst this
  have q2':=hg2 k' d' r2
  simp only at q2
  rw [q2'] at q2
  cases q2
  rcases hg l a q3 with e | ⟨e,e2⟩
  ·exact (c8 i ho _ l _ a q1 r2 e q4 q5).imp id (hst i)
  ·subst e2; omega
 ·intro k l a b q1 q2 q3 q4 q5
  rcases hg k a q1 with e | ⟨e,e2⟩
  ·rcases hg l b q2 with f | ⟨f,f2⟩
   ·exact c9 k l a b e f q3 q4 q5
   ·subst f2; omega
  ·subst e2; omega
def Q7 (g:PG) (i:Int) (c:PC) (L:List Int) (a:AP):PM:={ g.mem i with cnt:=(g.mem i).cnt+1,op:=c.op,call:=(g.calls.length:Int),num:=(g.mem i).cnt+1,ti:=a,left:=L }
theorem IT.start {V nv g vr now} {i:Int} {c:PC} {L:List Int} {a:AP} {T:List PX} (h:IT V g vr now) (hia:IA V nv g) (hib:IB V g) (h1:c.done=-1) (h2:c.wen=now) (h3:(g.mem i).serves=true) (h4:(g.mem i).op=0) (h5:c.op=1\/c.op=2) (h6:(g.mem i).cnt<900) (hL:∀ k,k∈L↔k∈V (g.mem i).ep/\k≠i) (hA:a=(c.key,c.val,1000*(g.mem i).ep+((g.mem i).cnt+1)))
  (hT:∀ y∈T,(y.kind=5/\c.op=1/\y.items=[a]\/y.kind=7/\c.op=2)/\y.ep=(g.mem i).ep/\y.num=(g.mem i).cnt+1/\y.frm=i) :
  IT V { (g.set i (Q7 g i c L a) T) with calls:=g.calls++[c] } (fun k=>if k=g.calls.length then 1000*(g.mem i).ep+((g.mem i).cnt+1) else vr k) now:=by
 obtain ⟨c1,c2,c3,c4,c5,c6,c7,c8,c9⟩:=h
 have hg:∀ (k:Nat) d,(g.calls++[c])[k]? = some d->g.calls[k]? = some d/\k<g.calls.length\/(k=g.calls.length/\d=c):=by grind
 have hg2:∀ (k:Nat) d,g.calls[k]? = some d->(g.calls++[c])[k]? = some d/\k<g.calls.length:=by grind
 obtain ⟨s1,s2,s3⟩:=hia.serv i h3
 obtain ⟨l1,l2⟩:=hia.lead i s2
 have hpos:=hia.pos i
 have hcnt:=hia.cnt i
 have hz:vr g.calls.length=0:=c3 _ (Nat.le_refl _)
 generalize hq:({ (g.set i (Q7 g i c L a) T) with calls:=g.calls++[c] }:PG)=g'
 have hmem:∀ j,g'.mem j=if j=i then Q7 g i c L a else g.mem j:=by subst hq; intro j; rfl
 have hfly:g'.fly=g.fly++T:=by subst hq; rfl
 have hcal:g'.calls=g.calls++[c]:=by subst hq; rfl
 have hep:∀ j,(g'.mem j).ep=(g.mem j).ep/\(g'.mem j).leads=(g.mem j).leads/\(g'.mem j).base=(g.mem j).base/\(g.mem j).cnt<=(g'.mem j).cnt:=by
  intro j; rw [hmem]; split
  ·rename_i e; subst e; exact ⟨rfl,rfl,rfl,by simp only [Q7]; omega⟩
  ·exact ⟨rfl,rfl,rfl,Int.le_refl _⟩
 have hi:(g'.mem i).cnt=(g.mem i).cnt+1/\(g'.mem i).op=c.op/\(g'.mem i).call=(g.calls.length:Int)/\(g'.mem i).num=(g.mem i).cnt+1/\(g'.mem i).ti=a/\(g'.mem i).left=L:=by rw [hmem,if_pos rfl]; exact ⟨rfl,rfl,rfl,rfl,rfl,rfl⟩
 have hj:∀ j,j≠i->g'.mem j=g.mem j:=fun j e=>by rw [hmem,if_neg e]
 have rmono:∀ e,Cd V g e->Cd V g' e:=fun e h=>h.mono fun j=>by rw [(hep j).1]; exact Int.le_refl _
 have stuck:∀ e,Cd V g e->(g.mem i).ep<e->Kj g' i:=fun e hr he=>by
  obtain ⟨j,hjv,hjl⟩:=hr (g.mem i).ep hpos he
  have hne:j≠i:=fun e=>by subst e; omega
  refine ⟨j,by rw [hi.2.2.2.2.2]; exact (hL j).2 ⟨hjv,hne⟩,by rw [(hep i).1,(hep j).1]; exact hjl,fun x hx hk hf hxe=>?_⟩
  rw [(hep i).1] at hxe
  rw [hi.2.2.2.1]
  rw [hfly] at hx
  rcases As.1 hx with q | q
  ·have:=c7 x q (by omega) (by omega)
   rw [hxe,l2] at this
   have:=this.2 rfl s2
   omega
  ·have:=hT x q
   omega
 refine ⟨?_,?_,?_,?_,?_,?_,?_,?_,?_⟩
 ·intro k hk
  by_cases e:k=g.calls.length
  ·subst e
   simp only [if_true]
   refine ⟨(g.mem i).ep,(g.mem i).cnt+1,rfl,hpos,by omega,by omega,?_,fun _ _=>?_⟩
   ·rw [(hep _).1,l2]; exact Int.le_refl _
   ·rw [l2,hi.1,(hep i).2.2.1]; exact ⟨s1,Int.le_refl _⟩
  ·simp only [if_neg e] at hk ⊢
   obtain ⟨e,n,d1,d2,d3,d4,d5,d6⟩:=c1 k hk
   refine ⟨e,n,d1,d2,d3,d4,by rw [(hep _).1]; exact d5,fun q1 q2=>?_⟩
   obtain ⟨p1,p2,p3,p4⟩:=hep (Cz V e)
   rw [p1] at q1; rw [p2] at q2
   have:=d6 q1 q2
   exact ⟨by rw [p3]; exact this.1,by omega⟩
 ·have hdist:∀ k,k≠g.calls.length->vr k≠1000*(g.mem i).ep+((g.mem i).cnt+1):=fun k hk e=>by
   obtain ⟨e',n,d1,d2,d3,d4,d5,d6⟩:=c1 k (by omega)
   have:e'=(g.mem i).ep:=by omega
   subst this
   rw [l2] at d6
   have:=d6 rfl s2
   omega
  intro k l hk hkl
  by_cases e:k=g.calls.length
  ·by_cases f:l=g.calls.length
   ·omega
   ·rw [if_pos e,if_neg f] at hkl
    exact absurd hkl.symm (hdist l f)
  ·rw [if_neg e] at hk hkl
   by_cases f:l=g.calls.length
   ·rw [if_pos f] at hkl
    exact absurd hkl (hdist k e)
   ·rw [if_neg f] at hkl
    exact c2 k l hk hkl
 ·intro k hk
  rw [hcal] at hk
  simp only [List.length_append,List.length_cons,List.length_nil] at hk
  rw [if_neg (by omega)]
  exact c3 k (by omega)
 ·intro j ho
  by_cases e:j=i
  ·subst e
   refine ⟨g.calls.length,c,hi.2.2.1,by rw [hcal]; simp,?_,by omega,hi.2.1.symm,?_⟩
   ·rw [if_pos rfl,(hep _).1,hi.2.2.2.1]
   ·rw [hi.2.2.2.2.1,hi.2.2.2.1,if_pos rfl,hA]
    exact ⟨rfl,rfl,rfl,by omega,by omega⟩
  ·rw [hj j e] at ho ⊢
   obtain ⟨k,d,q1,q2,q3⟩:=c4 j ho
   have:=hg2 k d q2
   exact ⟨k,d,q1,by rw [hcal]; exact this.1,by rw [if_neg (by omega)]; exact q3⟩
 ·intro k d hk hd
  rw [hcal] at hk
  rcases hg k d hk with ⟨e,e1⟩ | ⟨e,e2⟩
  ·obtain ⟨d1,d2,d3,d4,d5,d6,d7⟩:=c5 k d e hd
   exact ⟨by rw [if_neg (by omega)]; exact d1,d2,d3,d4,rmono _ d5,d6,d7⟩
  ·subst e2; omega
 ·intro k d hk
  rw [hcal] at hk
  rcases hg k d hk with ⟨e,e1⟩ | ⟨e,e2⟩
  ·exact c6 k d e
  ·subst e2; omega
 ·intro x hx h5 h8
  rw [hfly] at hx
  obtain ⟨p1,p2,p3,p4⟩:=hep (Cz V x.ep)
  rcases As.1 hx with q | q
  ·have:=c7 x q h5 h8
   rw [p1,p2]
   exact ⟨this.1,fun q1 q2=>Int.le_trans (this.2 q1 q2) p4⟩
  ·obtain ⟨_,q2,q3,_⟩:=hT x q
   rw [q2,l2,(hep i).1,q3,hi.1]
   exact ⟨Int.le_refl _,fun _ _=>Int.le_refl _⟩
 ·intro j ho k l d b q1 q2 q3 q4 q5
  rw [hcal] at q2 q3
  rcases hg l b q3 with ⟨e,e1⟩ | ⟨e,e2⟩
  ·by_cases hji:j=i
   ·subst hji
    rw [(hep j).1]
    by_cases hle:b.ep<=(g.mem j).ep
    ·exact .inl hle
    ·exact .inr (stuck b.ep (c5 l b e q4).2.2.2.2.1 (by omega))
   ·rw [hj j hji] at ho q1 ⊢
    obtain ⟨k',d',r1,r2,_⟩:=c4 j ho
    have:k'=k:=by omega
    subst this
    have:=hg2 k' d' r2
    rw [this.1] at q2
    cases q2
    rcases c8 j ho _ l _ b q1 r2 e q4 q5 with r | ⟨w,w1,w2,w3⟩
    ·exact .inl r
    ·right
     refine ⟨w,by rw [hj j hji]; exact w1,by rw [hj j hji,(hep w).1]; exact w2,fun x hx=>?_⟩
     rw [hj j hji]
     rw [hfly] at hx
     rcases As.1 hx with q | q
     ·exact w3 x q
     ·have:=hT x q
      intro hk; omega
  ·subst e2; omega
 ·intro k l b d q1 q2 q3 q4 q5
  rw [hcal] at q1 q2
  rcases hg k b q1 with ⟨e,e1⟩ | ⟨e,e2⟩
  ·rcases hg l d q2 with ⟨f,f1⟩ | ⟨f,f2⟩
   ·rw [if_neg (by omega),if_neg (by omega)]
    exact c9 k l b d e f q3 q4 q5
   ·subst f2; omega
  ·subst e2; omega
def Yh (m:PM):PM:={ m with items:=if m.op=1 then An m.items m.ti else m.items,op:=0,call:=0,num:=0,ti:=(O,O,0),left:=[] }
def wG (m:PM):AP:=if m.op=1 then m.ti else BT m.items m.ti.1
def ST (m:PM) (c:PC) (now:Int):PC:={ c with done:=now,ver:=(wG m).2.2,ep:=m.ep,num:=m.num,got:=if c.op=2 then (wG m).2.1 else c.got }
theorem IT.fin {V nv g vr now} {i:Int} {k:Nat} {c:PC} (h:IT V g vr now) (hia:IA V nv g) (hib:IB V g) (ho:(g.mem i).op≠0) (hl:(g.mem i).left=[]) (hc:(g.mem i).call=(k:Int)) (hk:g.calls[k]? = some c) :
  IT V { (g.set i (Yh (g.mem i)) []) with calls:=g.calls.set k (ST (g.mem i) c now) } vr now:=by
 obtain ⟨c1,c2,c3,c4,c5,c6,c7,c8,c9⟩:=h
 obtain ⟨t1,t2,t3⟩:=hia.task i ho
 obtain ⟨s1,s2,s3⟩:=hia.serv i t1
 obtain ⟨l1,l2⟩:=hia.lead i s2
 have hpos:=hia.pos i
 obtain ⟨k0,d0,r1,r2,r3,r4,r5,r6,r7,r8,r9,r10⟩:=c4 i ho
 have hk0:k0=k:=by omega
 subst hk0
 rw [hk] at r2
 cases r2
 have hkl:k0<g.calls.length:=(Ay.1 hk).1
 have hcal0:∀ (l:Nat) d,(g.calls.set k0 (ST (g.mem i) c now))[l]? = some d->(l=k0/\d=ST (g.mem i) c now)\/(l≠k0/\g.calls[l]? = some d):=by
  intro l d hd
  by_cases e:l=k0
  ·subst e
   rw [List.getElem?_set_self hkl] at hd
   exact .inl ⟨rfl,by cases hd; rfl⟩
  ·rw [List.getElem?_set_ne (Ne.symm e)] at hd
   exact .inr ⟨e,hd⟩
 have hcal1:∀ (l:Nat) d,l≠k0->g.calls[l]? = some d->(g.calls.set k0 (ST (g.mem i) c now))[l]? = some d:=by
  intro l d hne hd
  rw [List.getElem?_set_ne (Ne.symm hne)]
  exact hd
 generalize hq:({ (g.set i (Yh (g.mem i)) []) with calls:=g.calls.set k0 (ST (g.mem i) c now) }:PG)=g'
 have hmem:∀ j,g'.mem j=if j=i then Yh (g.mem i) else g.mem j:=by subst hq; intro j; rfl
 have hfly:g'.fly=g.fly:=by subst hq; exact List.append_nil _
 have hcal:g'.calls=g.calls.set k0 (ST (g.mem i) c now):=by subst hq; rfl
 have hep:∀ j,(g'.mem j).ep=(g.mem j).ep/\(g'.mem j).leads=(g.mem j).leads/\(g'.mem j).base=(g.mem j).base/\(g.mem j).cnt=(g'.mem j).cnt:=by
  intro j; rw [hmem]; split
  ·rename_i e; subst e; exact ⟨rfl,rfl,rfl,rfl⟩
  ·exact ⟨rfl,rfl,rfl,rfl⟩
 have hj:∀ j,j≠i->g'.mem j=g.mem j:=fun j e=>by rw [hmem,if_neg e]
 have hi0:(g'.mem i).op=0:=by rw [hmem,if_pos rfl]; rfl
 have rmono:∀ e,Cd V g e->Cd V g' e:=fun e h=>h.mono fun j=>by rw [(hep j).1]; exact Int.le_refl _
 have hact:∀ j,j≠i->(g.mem j).op≠0->∀ (l:Nat),(g.mem j).call=(l:Int)->l≠k0:=fun j hji hoj l hl e=>by
  subst e
  obtain ⟨u1,u2,u3⟩:=hia.task j hoj
  obtain ⟨v1,v2,v3⟩:=hia.serv j u1
  obtain ⟨w1,w2⟩:=hia.lead j v2
  obtain ⟨k',d',q1,q2,q3,q4,q5,q6,q7,q8,q9,q10⟩:=c4 j hoj
  have:k'=l:=by omega
  subst this
  have:(g.mem j).ep=(g.mem i).ep:=by omega
  rw [this,l2] at w2
  exact hji w2.symm
 refine ⟨?_,c2,?_,?_,?_,?_,?_,?_,?_⟩
 ·intro l hl0
  obtain ⟨e,n,d1,d2,d3,d4,d5,d6⟩:=c1 l hl0
  obtain ⟨p1,p2,p3,p4⟩:=hep (Cz V e)
  exact ⟨e,n,d1,d2,d3,d4,by rw [p1]; exact d5,fun q1 q2=>by rw [p3,<- p4]; exact d6 (by rw [<- p1]; exact q1) (by rw [<- p2]; exact q2)⟩
 ·intro l hl0
  rw [hcal,List.length_set] at hl0
  exact c3 l hl0
 ·intro j hoj
  by_cases e:j=i
  ·subst e; exact absurd hi0 hoj
  ·rw [hj j e] at hoj ⊢
   obtain ⟨k',d',q1,q2,q3⟩:=c4 j hoj
   exact ⟨k',d',q1,by rw [hcal]; exact hcal1 k' d' (hact j e hoj k' q1) q2,q3⟩
 ·intro l d hd hdn
  rw [hcal] at hd
  rcases hcal0 l d hd with ⟨e,e2⟩ | ⟨e,e2⟩
  ·subst e; subst e2
   exact ⟨r3,hpos,r9,r10,rmono _ (hib.mem i s1),Int.le_refl _,c6 l c hk⟩
  ·obtain ⟨d1,d2,d3,d4,d5,d6,d7⟩:=c5 l d e2 hdn
   exact ⟨d1,d2,d3,d4,rmono _ d5,d6,d7⟩
 ·intro l d hd
  rw [hcal] at hd
  rcases hcal0 l d hd with ⟨e,e2⟩ | ⟨e,e2⟩
  ·subst e; subst e2; exact c6 l c hk
  ·exact c6 l d e2
 ·intro x hx h5 h8
  rw [hfly] at hx
  obtain ⟨p1,p2,p3,p4⟩:=hep (Cz V x.ep)
  have:=c7 x hx h5 h8
  rw [p1,p2,<- p4]
  exact this
 ·intro j hoj k1 l d b q1 q2 q3 q4 q5
  by_cases e:j=i
  ·subst e; exact absurd hi0 hoj
  ·rw [hj j e] at hoj q1 ⊢
   rw [hcal] at q2 q3
   have hne:=hact j e hoj k1 q1
   rcases hcal0 k1 d q2 with ⟨f,_⟩ | ⟨f,f2⟩
   ·exact absurd f hne
   ·rcases hcal0 l b q3 with ⟨u,u2⟩ | ⟨u,u2⟩
    ·subst u2
     have:=c6 k1 d f2
     simp only [ST] at q5
     omega
    ·rcases c8 j hoj k1 l d b q1 f2 u2 q4 q5 with r | ⟨w,w1,w2,w3⟩
     ·exact .inl r
     ·exact .inr ⟨w,by rw [hj j e]; exact w1,by rw [hj j e,(hep w).1]; exact w2,by rw [hj j e,hfly]; exact w3⟩
 ·intro k1 l a b q1 q2 q3 q4 q5
  rw [hcal] at q1 q2
  rcases hcal0 k1 a q1 with ⟨e,e2⟩ | ⟨e,e2⟩
  ·subst e2
   have:b.wen<=now:=by
    rcases hcal0 l b q2 with ⟨f,f2⟩ | ⟨f,f2⟩
    ·subst f2; exact c6 k0 c hk
    ·exact c6 l b f2
   simp only [ST] at q5
   omega
  ·rcases hcal0 l b q2 with ⟨f,f2⟩ | ⟨f,f2⟩
   ·subst f; subst f2
    have hlt:=q5
    simp only [ST] at hlt
    have:=c8 i ho l k1 c a hc hk e2 q3 hlt
    rcases this with r | ⟨w,w1,_⟩
    ·obtain ⟨d1,d2,d3,d4,d5,d6,d7⟩:=c5 k1 a e2 q3
     obtain ⟨e',n,x1,x2,x3,x4,x5,x6⟩:=c1 k1 (by omega)
     have hee:e'=a.ep:=by omega
     subst hee
     by_cases heq:a.ep=(g.mem i).ep
     ·rw [heq,l2] at x6
      have x7:=x6 rfl s2
      have hne:vr k1≠vr l:=fun q=>e (c2 k1 l (by omega) q)
      omega
     ·omega
    ·rw [hl] at w1; cases w1
   ·exact c9 k1 l a b e2 f2 q3 q4 q5

structure IZ (V:Int->List Int) (g:PG) (vr:Nat->Int):Prop where
 w1:∀ i,(g.mem i).leads=true->(g.mem i).base=true->∀ k∈V (g.mem i).ep,k≠i->k∉(g.mem i).waits->Xr g k (g.mem i).ep
 w2:∀ x∈g.fly,x.kind=4->Xr g x.frm x.ep
 w3:∀ k e n,vr k≠0->vr k=1000*e+n->1<=n->n<=900->∀ j∈V e,j≠Cz V e->Xr g j e
 z1:∀ k,(g.mem k).base=true->(g.mem k).ep<=(g.mem (Cz V (g.mem k).ep)).ep/\((g.mem (Cz V (g.mem k).ep)).ep=(g.mem k).ep->(g.mem (Cz V (g.mem k).ep)).leads=true->(g.mem (Cz V (g.mem k).ep)).base=true)
 z2:∀ x∈g.fly,x.kind=3\/5<=x.kind->x.ep<=(g.mem (Cz V x.ep)).ep/\((g.mem (Cz V x.ep)).ep=x.ep->(g.mem (Cz V x.ep)).leads=true->(g.mem (Cz V x.ep)).base=true)
theorem IZ.mstep {V nv g i m T vr} (h:IZ V g vr) (ha:IA V nv g) (hs:C0 V nv g i m T):IZ V (g.set i m T) vr:=by
 have hb:=fun k e=>Xr.step (k:=k) (e:=e) hs
 have hm:=rf hs
 have hmem:∀ j,(g.set i m T).mem j=if j=i then m else g.mem j:=fun _=>rfl
 have hfly:(g.set i m T).fly=g.fly++T:=rfl
 have hep:=hs.ep
 have hlead:=ha.lead
 have li:=ha.lead i
 obtain ⟨w1,w2,w3,z1,z2⟩:=h
 have bi:m.base=true->Xr (g.set i m T) i m.ep:=fun hb=>.inr ⟨by simp [PG.set],.inl (by simp [PG.set]; exact hb)⟩
 generalize hg':g.set i m T=g' at *
 refine ⟨?_,?_,fun k e n h1 h2 h3 h4 j h5 h6=>hb _ _ (w3 k e n h1 h2 h3 h4 j h5 h6),?_,?_⟩
 ·have key:m.leads=true->m.base=true->∀ k∈V m.ep,k≠i->k∉m.waits->Xr g' k m.ep:=by
   have w1i:=w1 i
   clear hg' z1 z2 w1 w3 hm hmem hfly bi
   cases hs<;>simp_all [PM.idle]<;>grind
  intro j
  rw [hmem]
  split
  ·rename_i e; subst e; exact key
  ·exact fun h1 h2 k h3 h4 h5=>hb _ _ (w1 j h1 h2 k h3 h4 h5)
 ·have key:∀ y∈T,y.kind=4->Xr g' y.frm y.ep:=by
   clear hg' z1 z2 w1 w3 hm hmem hfly
   cases hs<;>simp_all [PM.idle]<;>grind
  intro x hx hk
  rw [hfly] at hx
  rcases As.1 hx with q | q
  ·exact hb _ _ (w2 x q hk)
  ·exact key x q hk
 ·have hl:=hs.lead
  have key:m.base=true->m.ep<=(g'.mem (Cz V m.ep)).ep/\((g'.mem (Cz V m.ep)).ep=m.ep->(g'.mem (Cz V m.ep)).leads=true->(g'.mem (Cz V m.ep)).base=true):=by
   have z1i:=z1 i
   simp only [hmem] at hm ⊢
   clear hg' w1 w2 w3 hfly bi hb z1 hmem
   cases hs<;>simp_all [PM.idle]<;>grind
  intro k
  rw [hmem k]
  split
  ·exact key
  ·have:=z1 k
   simp only [hmem] at hm ⊢
   grind
 ·have hl:=hs.lead
  have key:∀ y∈T,y.kind=3\/5<=y.kind->y.ep<=(g'.mem (Cz V y.ep)).ep/\((g'.mem (Cz V y.ep)).ep=y.ep->(g'.mem (Cz V y.ep)).leads=true->(g'.mem (Cz V y.ep)).base=true):=by
   simp only [hmem] at hm ⊢
   clear hg' w1 w2 w3 hfly bi hb hmem
   cases hs<;>simp_all [PM.idle]<;>grind
  intro x hx hk
  rw [hfly] at hx
  rcases As.1 hx with q | q
  ·have:=z2 x q hk
   simp only [hmem] at hm ⊢
   grind
  ·exact key x q hk
def vl (s:List AP) (k:List UInt8):Int:=((s.find? fun a=>a.1.toList==k).getD (O,O,0)).2.2
theorem zc (s:List AP) (k:ByteArray):vl s k.toList=(BT s k).2.2:=rfl
theorem vB {s:List AP} (h:Ax s=true) (a:AP) (k:List UInt8):vl s k<=vl (An s a) k:=by
 unfold vl
 cases q:s.find? (fun b=>b.1.toList==k) with
 | none =>
  cases r:(An s a).find? (fun b=>b.1.toList==k) with
  | none=>exact Int.le_refl _
  | some b =>
   have:=(DG.1 (Ig (a:=a) h)).1 b (List.mem_of_find?_eq_some r)
   unfold If at this
   simp only [AD,decide_eq_true_eq] at this
   show (0:Int)<=b.2.2
   omega
 | some b =>
  have hb:=List.mem_of_find?_eq_some q
  have hk:b.1.toList=k:=by simpa using List.find?_some q
  have:=ADm (a:=a) h hb
  subst hk
  exact this
theorem fH {s:List AP} {a:AP} (h:Ax s=true) (h1:1<=a.2.2) (hv:a.2.2<=vl s a.1.toList):An s a=s:=by
 have:=(ABV (DG.1 h).2.1 h1).1 hv
 unfold An
 rw [if_pos this]
theorem wo {s:List AP} {a:AP} (h:Ax s=true) (h1:1<=a.2.2) (he:BT (An s a) a.1=a):An (An s a) a=An s a :=
 fH (Ig h) h1 (by rw [zc,he]; exact Int.le_refl _)
theorem AAu {s:List AP} {a:AP} (h:Ax s=true) (ha:a∈s):1<=a.2.2:=by
 have:=(DG.1 h).1 a ha
 unfold If at this
 simp only [AD,decide_eq_true_eq] at this
 omega
structure IE (V:Int->List Int) (g:PG):Prop where
 ok:∀ i,Ax (g.mem i).items=true
 okx:∀ x∈g.fly,Ax x.items=true
 e1:∀ i,(g.mem i).leads=true->(g.mem i).base=true->(g.mem i).serves=false->∀ x∈g.fly,x.kind=3->x.ep=(g.mem i).ep->x.items=(g.mem i).items
 e2:∀ i,(g.mem i).leads=true->(g.mem i).base=true->∀ j,(g.mem j).base=true->(g.mem j).ep=(g.mem i).ep->(g.mem j).items=(g.mem i).items\/((g.mem i).op=1/\(g.mem j).items=An (g.mem i).items (g.mem i).ti)
 e3:∀ i,(g.mem i).op=1->∀ j,j≠i->(g.mem j).base=true->(g.mem j).ep=(g.mem i).ep->(j∉(g.mem i).left\/∃ x∈g.fly,x.kind=6/\x.frm=j/\x.ep=(g.mem i).ep/\x.num=(g.mem i).num)->(g.mem j).items=An (g.mem i).items (g.mem i).ti
 e4:∀ x∈g.fly,x.kind=5->∀ a,x.items=[a]->(g.mem (Cz V x.ep)).leads=true->(g.mem (Cz V x.ep)).base=true->(g.mem (Cz V x.ep)).ep=x.ep ->
  ((g.mem (Cz V x.ep)).op=1->x.num=(g.mem (Cz V x.ep)).num->a=(g.mem (Cz V x.ep)).ti)/\(¬ ((g.mem (Cz V x.ep)).op=1/\x.num=(g.mem (Cz V x.ep)).num)->a.2.2<=vl (g.mem (Cz V x.ep)).items a.1.toList)
 e5:∀ i,(g.mem i).op=1->BT (An (g.mem i).items (g.mem i).ti) (g.mem i).ti.1=(g.mem i).ti/\1<=(g.mem i).ti.2.2
set_option maxHeartbeats 1000000 in
theorem IE.mstep {V nv g i m T vr} (h:IE V g) (ha:IA V nv g) (hz:IZ V g vr) (hs:C0 V nv g i m T):IE V (g.set i m T):=by
 have hmem:∀ j,(g.set i m T).mem j=if j=i then m else g.mem j:=fun _=>rfl
 have hfly:(g.set i m T).fly=g.fly++T:=rfl
 have hlead:=ha.lead
 have hserv:=ha.serv
 have htask:=ha.task
 obtain ⟨w1,w2,w3,z1,z2⟩:=hz
 obtain ⟨ok,okx,e1,e2,e3,e4,e5⟩:=h
 have hni:=SY
 have fresh:∀ x:PX,((g.mem i).ep<x.ep\/(g.mem i).ep=x.ep/\(g.mem i).base=false/\(g.mem i).fell=false)->∀ f,(g.mem f).leads=true->(g.mem f).base=true->(g.mem f).ep=x.ep->i∈V x.ep->i≠f->(g.mem f).serves=false:=by
  intro x hx f h1 h2 h3 h4 h5
  cases q:(g.mem f).serves with
  | false=>rfl
  | true =>
   have hw:=(hserv f q).2.2
   have:=w1 f h1 h2 i (by rw [h3]; exact h4) h5 (by rw [hw]; simp)
   rw [h3] at this
   unfold Xr at this
   grind
 have p1:=fun a=>Ig (a:=a) (ok i)
 have li:=hlead i
 have si:=hserv i
 have ti:=htask i
 have hok:Ax m.items=true:=by
  clear e1 e2 e3 e4 e5 w1 w2 w3 z1 z2 fresh hmem hfly hlead hserv htask
  cases hs<;>simp_all [PM.idle]
 have hokx:∀ x∈T,Ax x.items=true:=by
  clear e1 e2 e3 e4 e5 w1 w2 w3 z1 z2 fresh hmem hfly hlead hserv htask
  cases hs<;>simp_all [PM.idle]<;>grind
 have k1:m.leads=true->m.base=true->m.serves=false->∀ x∈g.fly++T,x.kind=3->x.ep=m.ep->x.items=m.items:=by
  have e1i:=e1 i
  clear e1 e2 e3 e4 e5 w1 w2 w3 z1 fresh hmem hfly hlead hserv htask okx p1 hok hokx
  cases hs<;>simp_all [PM.idle]<;>grind
 have k1b:∀ f,f≠i->(g.mem f).leads=true->∀ x∈T,x.kind=3->x.ep≠(g.mem f).ep:=by
  intro f hf hl
  have lf:=hlead f hl
  clear e1 e2 e3 e4 e5 w1 w2 w3 z1 z2 fresh hmem hfly hlead hserv htask okx p1 hok hokx k1
  cases hs<;>simp_all [PM.idle]<;>grind
 have k2a:m.leads=true->m.base=true->∀ j,j≠i->(g.mem j).base=true->(g.mem j).ep=m.ep->(g.mem j).items=m.items\/(m.op=1/\(g.mem j).items=An m.items m.ti):=by
  have e2i:=e2 i
  clear e1 e2 e3 e4 e5 w1 w2 w3 z2 fresh hmem hfly hlead hserv htask okx p1 hok hokx k1 k1b
  intro q1 q2 j hj q3 q4
  have z:=z1 j q3
  clear z1
  cases hs<;>(try dsimp only [PM.idle] at *)<;>grind
 have k2b:∀ f,f≠i->(g.mem f).leads=true->(g.mem f).base=true->m.base=true->m.ep=(g.mem f).ep->m.items=(g.mem f).items\/((g.mem f).op=1/\m.items=An (g.mem f).items (g.mem f).ti):=by
  intro f hf h1 h2 h3 h4
  have lf:=hlead f h1
  have e2f:=e2 f h1 h2 i
  have e5f:=e5 f
  have e1f:=e1 f h1 h2
  have fr:=fun (x:PX) hx=>fresh x hx f h1 h2
  have st:∀ a,1<=a.2.2->a.2.2<=vl (g.mem f).items a.1.toList->An (g.mem f).items a=(g.mem f).items:=fun a b c=>fH (ok f) b c
  have st2:∀ a,1<=a.2.2->a.2.2<=vl (g.mem f).items a.1.toList->An (An (g.mem f).items (g.mem f).ti) a=An (g.mem f).items (g.mem f).ti:=fun a b c=>fH (Ig (ok f)) b (Int.le_trans c (vB (ok f) _ _))
  have tw:=wo (a:=(g.mem f).ti) (ok f)
  have ov:∀ x∈g.fly,∀ a,x.items=[a]->1<=a.2.2:=fun x hx a e=>AAu (okx x hx) (by rw [e]; simp)
  clear e1 e2 e3 e5 w1 w2 w3 z1 z2 fresh hmem hfly hlead hserv htask okx p1 hok hokx k1 k1b k2a
  cases hs<;>(try dsimp only [PM.idle] at *)<;>grind
 have k3a:m.op=1->∀ j,j≠i->(g.mem j).base=true->(g.mem j).ep=m.ep->(j∉m.left\/∃ x∈g.fly,x.kind=6/\x.frm=j/\x.ep=m.ep/\x.num=m.num)->(g.mem j).items=An m.items m.ti:=by
  have e3i:=e3 i
  clear e1 e2 e3 e4 e5 w1 w2 w3 z1 z2 fresh hmem hfly hlead hserv htask okx p1 hok hokx k1 k1b k2a k2b
  intro q1 j q2 q3 q4 q5
  have e3j:=fun a b=>e3i a j q2 q3 b
  clear e3i
  cases hs<;>(try dsimp only [PM.idle] at *)<;>grind
 have k3b:∀ f,f≠i->(g.mem f).op=1->m.base=true->m.ep=(g.mem f).ep->(i∉(g.mem f).left\/∃ x∈g.fly++T,x.kind=6/\x.frm=i/\x.ep=(g.mem f).ep/\x.num=(g.mem f).num)->m.items=An (g.mem f).items (g.mem f).ti:=by
  intro f hf ho h3 h4 h5
  have h0:=htask f (by omega)
  obtain ⟨h2,h1,h6⟩:=hserv f h0.1
  have lf:=hlead f h1
  have e2f:=e2 f h1 h2 i
  have e3f:=fun a b c=>e3 f ho i (Ne.symm hf) a b (.inl c)
  have e3g:(g.mem i).base=true->(g.mem i).ep=(g.mem f).ep->∀ x∈g.fly,x.kind=6->x.frm=i->x.ep=(g.mem f).ep->x.num=(g.mem f).num->(g.mem i).items=An (g.mem f).items (g.mem f).ti:=fun a b x hx c1 c2 c3 c4=>e3 f ho i (Ne.symm hf) a b (.inr ⟨x,hx,c1,c2,c3,c4⟩)
  have e5f:=e5 f ho
  have fr:=fun (x:PX) hx=>fresh x hx f h1 h2
  have st2:∀ a,1<=a.2.2->a.2.2<=vl (g.mem f).items a.1.toList->An (An (g.mem f).items (g.mem f).ti) a=An (g.mem f).items (g.mem f).ti:=fun a b c=>fH (Ig (ok f)) b (Int.le_trans c (vB (ok f) _ _))
  have tw:=wo (a:=(g.mem f).ti) (ok f) e5f.2 e5f.1
  have ov:∀ x∈g.fly,∀ a,x.items=[a]->1<=a.2.2:=fun x hx a e=>AAu (okx x hx) (by rw [e]; simp)
  clear e1 e2 e3 e5 w1 w2 w3 z1 z2 fresh hmem hfly hlead hserv htask okx p1 hok hokx k1 k1b k2a k2b k3a
  cases hs<;>(try dsimp only [PM.idle] at *)<;>grind
 have k4:∀ x∈g.fly,x.kind=5->Cz V x.ep=i->m.leads=true->m.base=true->m.ep=x.ep->(g.mem i).leads=true/\(g.mem i).base=true/\(g.mem i).ep=x.ep/\m.op=(g.mem i).op/\m.num=(g.mem i).num/\m.ti=(g.mem i).ti/\m.items=(g.mem i).items:=by
  intro x hx hk hf
  have z:=z2 x hx (.inr (by omega))
  rw [hf] at z
  clear e1 e2 e3 e4 e5 w1 w2 w3 z1 z2 fresh hmem hfly hlead hserv htask okx p1 hok hokx k1 k1b k2a k2b k3a k3b
  cases hs<;>simp_all [PM.idle]<;>grind
 have k5:m.op=1->m.items=(g.mem i).items/\m.ti=(g.mem i).ti/\(g.mem i).op=1:=by
  clear e1 e2 e3 e4 e5 w1 w2 w3 z1 z2 fresh hmem hfly hlead hserv htask okx p1 hok hokx k1 k1b k2a k2b k3a k3b k4
  cases hs<;>simp_all [PM.idle]<;>grind
 have kT:∀ x∈T,x.kind≠5:=by
  clear e1 e2 e3 e4 e5 w1 w2 w3 z1 z2 fresh hmem hfly hlead hserv htask okx p1 hok hokx k1 k1b k2a k2b k3a k3b k4 k5
  cases hs<;>simp_all [PM.idle]<;>grind
 have k6:∀ x∈T,x.kind=6->x.frm=i:=fun x hx hk=>(hs.talk x hx (by omega)).2.1
 clear hs
 generalize g.set i m T=g' at *
 refine ⟨?_,?_,?_,?_,?_,?_,?_⟩
 ·intro j; rw [hmem]; split
  ·exact hok
  ·exact ok j
 ·intro x hx
  rw [hfly] at hx
  rcases As.1 hx with q | q
  ·exact okx x q
  ·exact hokx x q
 ·intro j; rw [hmem,hfly]; split
  ·exact k1
  ·intro h1 h2 h3 x hx hk he
   rcases As.1 hx with q | q
   ·exact e1 j h1 h2 h3 x q hk he
   ·rename_i hne; exact absurd he (k1b j hne h1 x q hk)
 ·intro j h1 h2 l h3 h4
  rw [hmem] at h1 h2 h3 h4 ⊢
  rw [hmem]
  grind
 ·intro j h1 l hl h3 h4 h5
  rw [hfly] at h5
  rw [hmem] at h1 h3 h4 h5 ⊢
  rw [hmem] at h4 ⊢
  by_cases hji:j=i
  ·subst hji
   simp only [if_true] at *
   rw [if_neg hl] at *
   refine k3a h1 l hl h3 h4 (h5.imp id fun ⟨x,hx,q⟩=>⟨x,?_,q⟩)
   rcases As.1 hx with r | r
   ·exact r
   ·exact absurd (k6 x r q.1) (by rw [q.2.1]; exact hl)
  ·rw [if_neg hji] at *
   by_cases hli:l=i
   ·subst hli
    simp only [if_true] at *
    exact k3b j hji h1 h3 h4 h5
   ·rw [if_neg hli] at *
    refine e3 j h1 l hl h3 h4 (h5.imp id fun ⟨x,hx,q⟩=>⟨x,?_,q⟩)
    rcases As.1 hx with r | r
    ·exact r
    ·exact absurd (k6 x r q.1) (by rw [q.2.1]; exact hli)
 ·intro x hx hk a hxa h1 h2 h3
  rw [hfly] at hx
  rcases As.1 hx with q | q
  ·rw [hmem] at h1 h2 h3 ⊢
   have:=e4 x q hk a hxa
   by_cases hf:Cz V x.ep=i
   ·rw [if_pos hf] at *
    have:=k4 x q hk hf h1 h2 h3
    rw [hf] at *
    grind
   ·rw [if_neg hf] at *
    exact this h1 h2 h3
  ·exact absurd hk (kT x q)
 ·intro j h1
  rw [hmem] at h1 ⊢
  have:=e5 i
  grind

def Yi (m:PM):Int:=if m.op=1 then m.ti.2.2 else vl m.items m.ti.1.toList
def f5 (g:PG) (vr:Nat->Int) (y:AP):Prop:=∃ (k:Nat) (c:PC),g.calls[k]? = some c/\c.op=1/\c.key=y.1/\c.val=y.2.1/\vr k=y.2.2/\1<=y.2.2
structure IF (V:Int->List Int) (g:PG) (vr:Nat->Int):Prop where
 f1:∀ (k:Nat) c,g.calls[k]? = some c->0<=c.done->∀ j,(g.mem j).base=true->c.ep<=(g.mem j).ep->c.ver<=vl (g.mem j).items c.key.toList
 f2:∀ (k:Nat) c,g.calls[k]? = some c->0<=c.done->∀ x∈g.fly,x.kind=2\/x.kind=3->c.ep<x.ep->c.ver<=vl x.items c.key.toList
 p1:∀ i,(g.mem i).op≠0->Kj g i\/((∀ j,(g.mem j).base=true->(g.mem i).ep<(g.mem j).ep->Yi (g.mem i)<=vl (g.mem j).items (g.mem i).ti.1.toList)/\(∀ x∈g.fly,x.kind=2\/x.kind=3->(g.mem i).ep<x.ep->Yi (g.mem i)<=vl x.items (g.mem i).ti.1.toList) /\
  (∀ (k:Nat) c,g.calls[k]? = some c->0<=c.done->c.op=2->(g.mem i).ep<c.ep->c.key.toList=(g.mem i).ti.1.toList->Yi (g.mem i)<=c.ver))
 fr:∀ (k l:Nat) c d,g.calls[k]? = some c->g.calls[l]? = some d->0<=c.done->0<=d.done->c.op=2->c.key.toList=d.key.toList->vr l<vr k->d.ver<=c.ver
 vs:∀ (k:Nat) c,g.calls[k]? = some c->0<=c.done->c.ver<=vr k/\(c.op=1->c.ver=vr k)
 pm:∀ i,∀ y∈(g.mem i).items,f5 g vr y
 px:∀ x∈g.fly,∀ y∈x.items,f5 g vr y
 pt:∀ i,(g.mem i).op=1->f5 g vr (g.mem i).ti
 gt:∀ (k:Nat) c,g.calls[k]? = some c->0<=c.done->c.op=2->(c.ver=0/\c.got=O)\/∃ y,f5 g vr y/\y.1.toList=c.key.toList/\c.ver=y.2.2/\c.got=y.2.1
theorem IF.mstep {V nv g i m T vr now} (h:IF V g vr) (ha:IA V nv g) (ht:IT V g vr now) (hz:IZ V g vr) (he:IE V g) (hs:C0 V nv g i m T):IF V (g.set i m T) vr:=by
 have hmem:∀ j,(g.set i m T).mem j=if j=i then m else g.mem j:=fun _=>rfl
 have hfly:(g.set i m T).fly=g.fly++T:=rfl
 have hcal:(g.set i m T).calls=g.calls:=rfl
 obtain ⟨f1,f2,p1,fr,vs,pm,px,pt,gt⟩:=h
 have hstk:=fun j=>Kj.step (j:=j) hs
 have li:=ha.lead i
 have si:=ha.serv i
 have ti:=ha.task i
 have dn:∀ (k:Nat) c,g.calls[k]? = some c->0<=c.done->c.ep<=(g.mem (Cz V c.ep)).ep/\((g.mem (Cz V c.ep)).ep=c.ep->(g.mem (Cz V c.ep)).leads=true->(g.mem (Cz V c.ep)).base=true)/\(∀ j∈V c.ep,j≠Cz V c.ep->Xr g j c.ep):=by
  intro k c hk hd
  obtain ⟨d1,d2,d3,d4,d5,d6,d7⟩:=ht.dn k c hk hd
  obtain ⟨e,n,x1,x2,x3,x4,x5,x6⟩:=ht.st k (by omega)
  have:e=c.ep:=by omega
  subst this
  exact ⟨x5,fun q1 q2=>(x6 q1 q2).1,hz.w3 k c.ep c.num (by omega) d1 d3 d4⟩
 have q1:=fun a k=>vB (he.ok i) a k
 have k1:∀ (k:Nat) c,g.calls[k]? = some c->0<=c.done->m.base=true->c.ep<=m.ep->c.ver<=vl m.items c.key.toList:=by
  intro k c hk hd
  obtain ⟨d1,d2,d3⟩:=dn k c hk hd
  have g1:=f1 k c hk hd i
  have g2:=f2 k c hk hd
  have d3i:=d3 i
  have q1c:=fun a=>q1 a c.key.toList
  unfold Xr at d3i
  clear dn f1 f2 p1 fr vs pm px pt gt hstk q1 d3 ha ht hz he hmem hfly hcal
  cases hs<;>simp_all [PM.idle]<;>grind
 have k2:∀ (k:Nat) c,g.calls[k]? = some c->0<=c.done->∀ x∈T,x.kind=2\/x.kind=3->c.ep<x.ep->c.ver<=vl x.items c.key.toList:=by
  intro k c hk hd
  have g1:=f1 k c hk hd i
  have g2:=f2 k c hk hd
  clear dn f1 f2 p1 fr vs pm px pt gt hstk q1 ha ht hz he hmem hfly hcal k1
  cases hs<;>simp_all [PM.idle]<;>grind
 have special:∀ j,j≠i->(g.mem j).op≠0->(g.mem i).base=true->(g.mem i).ep=(g.mem j).ep->(g.mem i).ep<m.ep->(∀ x∈T,x.kind≠6/\x.kind≠8)->Kj (g.set i m T) j\/Yi (g.mem j)<=vl (g.mem i).items (g.mem j).ti.1.toList:=by
  intro j hj ho hb hep hlt hT
  obtain ⟨t1,t2,t3⟩:=ha.task j ho
  obtain ⟨s1,s2,s3⟩:=ha.serv j t1
  rcases t2 with t2 | t2
  ·by_cases hr:i∉(g.mem j).left\/∃ x∈g.fly,x.kind=6/\x.frm=i/\x.ep=(g.mem j).ep/\x.num=(g.mem j).num
   ·have:=he.e3 j t2 i (Ne.symm hj) hb hep hr
    right
    unfold Yi
    rw [if_pos t2,this,zc,(he.e5 j t2).1]
    exact Int.le_refl _
   ·left
    have hr1:i∈(g.mem j).left:=by
     by_cases q:i∈(g.mem j).left
     ·exact q
     ·exact absurd (.inl q) hr
    refine ⟨i,by rw [hmem,if_neg hj]; exact hr1,by rw [hmem,if_neg hj,hmem,if_pos rfl]; omega,fun x hx hk hf hxe hn=>?_⟩
    rw [hmem,if_neg hj] at hk hxe hn
    rw [hfly] at hx
    rcases As.1 hx with q | q
    ·exact hr (.inr ⟨x,q,by omega,hf,hxe,hn⟩)
    ·have:=hT x q; omega
  ·right
   unfold Yi
   rw [if_neg (by omega)]
   rcases he.e2 j s2 s1 i hb hep with q | q
   ·rw [q]; exact Int.le_refl _
   ·omega
 have kp:∀ j,j≠i->(g.mem j).op≠0->Kj g j\/Kj (g.set i m T) j\/((m.base=true->(g.mem j).ep<m.ep->Yi (g.mem j)<=vl m.items (g.mem j).ti.1.toList)/\(∀ x∈T,x.kind=2\/x.kind=3->(g.mem j).ep<x.ep->Yi (g.mem j)<=vl x.items (g.mem j).ti.1.toList)):=by
  intro j hj ho
  rcases p1 j ho with q | ⟨b1,b2,b3⟩
  ·exact .inl q
  ·have sp:=special j hj ho
   have b1i:=b1 i
   have q1c:=fun a=>q1 a (g.mem j).ti.1.toList
   generalize hA:Kj (g.set i m T) j=A at *
   generalize Yi (g.mem j)=tb at *
   right
   clear dn f1 f2 p1 fr vs pm px pt gt hstk q1 ha ht hz he hmem hfly hcal k1 k2 special hA b1 b3
   cases hs<;>simp_all [PM.idle]<;>grind
 have kt:m.op≠0->(g.mem i).op≠0/\m.op=(g.mem i).op/\m.ti=(g.mem i).ti/\m.items=(g.mem i).items/\m.ep=(g.mem i).ep/\(∀ x∈T,x.kind≠2/\x.kind≠3):=by
  clear dn f1 f2 p1 fr vs pm px pt gt hstk q1 ha ht hz he hmem hfly hcal k1 k2 special kp
  cases hs<;>simp_all [PM.idle]<;>grind
 have kb:m.op≠0->m.base=true:=fun ho=>by
  obtain ⟨t1,t2⟩:=kt ho
  have:=(si (ti t1).1).1
  clear dn f1 f2 p1 fr vs pm px pt gt hstk q1 ha ht hz he hmem hfly hcal k1 k2 special kp
  cases hs<;>simp_all [PM.idle]
 have kv:∀ y∈m.items,f5 g vr y:=by
  have pmi:=pm i
  have ps:=fun (a b:AP) h=>eR (x:=(g.mem i).items) (a:=a) (b:=b) h
  clear dn f1 f2 p1 fr vs pm pt gt hstk q1 ha ht hz he hmem hfly hcal k1 k2 special kp kt kb
  cases hs<;>simp_all [PM.idle]<;>grind
 have kw:∀ x∈T,∀ y∈x.items,f5 g vr y:=by
  have pmi:=pm i
  clear dn f1 f2 p1 fr vs pm pt gt hstk q1 ha ht hz he hmem hfly hcal k1 k2 special kp kt kb kv
  cases hs<;>simp_all [PM.idle]<;>grind
 clear hs
 have hprov:∀ y,f5 g vr y->f5 (g.set i m T) vr y:=fun y h=>h
 refine ⟨?_,?_,?_,fr,vs,?_,?_,?_,fun k c h1 h2 h3=>gt k c h1 h2 h3⟩
 ·intro k c hk hd j
  rw [hmem]
  split
  ·exact k1 k c hk hd
  ·exact f1 k c hk hd j
 ·intro k c hk hd x hx
  rw [hfly] at hx
  rcases As.1 hx with q | q
  ·exact f2 k c hk hd x q
  ·exact k2 k c hk hd x q
 ·intro j ho
  by_cases hj:j=i
  ·subst hj
   have ho2:m.op≠0:=by rw [hmem,if_pos rfl] at ho; exact ho
   obtain ⟨t1,t2,t3,t4,t5,t6⟩:=kt ho2
   have te:Yi m=Yi (g.mem j):=by unfold Yi; rw [t2,t3,t4]
   rcases p1 j t1 with q | ⟨b1,b2,b3⟩
   ·exact .inl (hstk j q ho)
   ·right
    rw [hmem,if_pos rfl,te,t3,t5]
    refine ⟨fun l=>?_,fun x hx hk=>?_,b3⟩
    ·rw [hmem]
     split
     ·rename_i e; intro _ h; omega
     ·exact b1 l
    ·rw [hfly] at hx
     rcases As.1 hx with r | r
     ·exact b2 x r hk
     ·have:=t6 x r; omega
  ·have ho2:(g.mem j).op≠0:=by rw [hmem,if_neg hj] at ho; exact ho
   rcases kp j hj ho2 with q | q | ⟨q1',q2'⟩
   ·exact .inl (hstk j q ho)
   ·exact .inl q
   ·rcases p1 j ho2 with q | ⟨b1,b2,b3⟩
    ·exact .inl (hstk j q ho)
    ·right
     rw [hmem,if_neg hj]
     refine ⟨fun l=>?_,fun x hx hk=>?_,b3⟩
     ·rw [hmem]
      split
      ·exact q1'
      ·exact b1 l
     ·rw [hfly] at hx
      rcases As.1 hx with r | r
      ·exact b2 x r hk
      ·exact q2' x r hk
 ·intro j y hy
  rw [hmem] at hy
  split at hy
  ·exact kv y hy
  ·exact pm j y hy
 ·intro x hx
  rw [hfly] at hx
  rcases As.1 hx with r | r
  ·exact px x r
  ·exact kw x r
 ·intro j ho
  by_cases hj:j=i
  ·subst hj
   rw [hmem,if_pos rfl] at ho ⊢
   obtain ⟨t1,t2,t3,t4,t5,t6⟩:=kt (by omega)
   rw [t3]
   exact pt j (by omega)
  ·rw [hmem,if_neg hj] at ho ⊢
   exact pt j ho
theorem IA.drop {V nv g f} (h:IA V nv g):IA V nv { g with fly:=f }:=⟨h.1,h.2,h.3,h.4,h.5,h.6,h.7⟩
theorem IB.drop {V g f} (h:IB V g) (hf:∀ x∈f,x∈g.fly):IB V { g with fly:=f }:=⟨h.mem,fun x hx=>h.fly x (hf x hx)⟩
theorem IZ.drop {V g vr f} (h:IZ V g vr) (hf:∀ x∈f,x∈g.fly):IZ V { g with fly:=f } vr:=⟨h.w1,fun x hx=>h.w2 x (hf x hx),h.w3,h.z1,fun x hx=>h.z2 x (hf x hx)⟩
theorem IE.drop {V g f} (h:IE V g) (hf:∀ x∈f,x∈g.fly):IE V { g with fly:=f } :=
 ⟨h.ok,fun x hx=>h.okx x (hf x hx),fun i a b c x hx=>h.e1 i a b c x (hf x hx),h.e2,fun i a j b c d e=>h.e3 i a j b c d (e.imp id fun ⟨x,hx,q⟩=>⟨x,hf x hx,q⟩),fun x hx=>h.e4 x (hf x hx),h.e5⟩
theorem IF.drop {V g vr f} (h:IF V g vr) (hf:∀ x∈f,x∈g.fly):IF V { g with fly:=f } vr :=
 ⟨h.f1,fun k c a b x hx=>h.f2 k c a b x (hf x hx),fun i a=>(h.p1 i a).imp (Kj.less hf) fun ⟨x,y,z⟩=>⟨x,fun w hw=>y w (hf w hw),z⟩,h.fr,h.vs,h.pm,fun x hx=>h.px x (hf x hx),h.pt,h.gt⟩
theorem IF.call {V g vr} {c:PC} (h:IF V g vr) (h1:c.done=-1):IF V { g with calls:=g.calls++[c] } vr:=by
 obtain ⟨f1,f2,p1,fr,vs,pm,px,pt,gt⟩:=h
 have hg:∀ (k:Nat) d,(g.calls++[c])[k]? = some d->0<=d.done->g.calls[k]? = some d:=by
  intro k d hd h0
  have:g.calls[k]? = some d\/(k=g.calls.length/\d=c):=by grind
  rcases this with e | ⟨_,e⟩
  ·exact e
  ·subst e; omega
 have hp:∀ y,f5 g vr y->f5 { g with calls:=g.calls++[c] } vr y:=fun y ⟨k,d,q,r⟩=>⟨k,d,by grind,r⟩
 refine ⟨fun k d a b=>f1 k d (hg k d a b) b,fun k d a b=>f2 k d (hg k d a b) b,fun i a=>(p1 i a).imp id fun ⟨x,y,z⟩=>⟨x,y,fun k d q r=>z k d (hg k d q r) r⟩,fun k l d e q r s t=>fr k l d e (hg k d q s) (hg l e r t) s t,fun k d a b=>vs k d (hg k d a b) b,
  fun i y hy=>hp y (pm i y hy),fun x hx y hy=>hp y (px x hx y hy),fun i a=>hp _ (pt i a),fun k d a b e=>(gt k d (hg k d a b) b e).imp id fun ⟨y,q,r⟩=>⟨y,hp y q,r⟩⟩
section
variable {V:Int->List Int} {nv now:Int} {g:PG} {vr:Nat->Int} {i:Int} {c:PC} {L:List Int} {a:AP} {T:List PX}
def Bt (g:PG) (i:Int) (c:PC) (L:List Int) (a:AP) (T:List PX):PG:={ (g.set i (Q7 g i c L a) T) with calls:=g.calls++[c] }
def vrN (g:PG) (i:Int) (vr:Nat->Int):Nat->Int:=fun k=>if k=g.calls.length then 1000*(g.mem i).ep+((g.mem i).cnt+1) else vr k
theorem IA.start (h:IA V nv g) (h3:(g.mem i).serves=true) (h5:c.op=1\/c.op=2):IA V nv (Bt g i c L a T):=by
 obtain ⟨a1,a2,a3,a4,a5,a6,a7⟩:=h
 have b6:=a6 i
 refine ⟨fun j=>?_,fun j=>?_,fun j=>?_,fun j=>?_,fun j=>?_,fun j=>?_,fun j=>?_⟩<;>simp only [Bt,PG.set,Q7]<;>split<;>grind
theorem Xs (j:Int):((Bt g i c L a T).mem j).ep=(g.mem j).ep/\((Bt g i c L a T).mem j).base=(g.mem j).base/\((Bt g i c L a T).mem j).leads=(g.mem j).leads/\((Bt g i c L a T).mem j).fell=(g.mem j).fell/\((Bt g i c L a T).mem j).items=(g.mem j).items/\((Bt g i c L a T).mem j).serves=(g.mem j).serves/\((Bt g i c L a T).mem j).waits=(g.mem j).waits:=by
 simp only [Bt,PG.set,Q7]
 split
 ·rename_i e; subst e; exact ⟨rfl,rfl,rfl,rfl,rfl,rfl,rfl⟩
 ·exact ⟨rfl,rfl,rfl,rfl,rfl,rfl,rfl⟩
theorem IB.start (h:IB V g) (hT:∀ y∈T,y.kind=5\/y.kind=7):IB V (Bt g i c L a T):=by
 have mono:∀ e,Cd V g e->Cd V (Bt g i c L a T) e:=fun e h=>h.mono fun j=>by rw [(Xs j).1]; exact Int.le_refl _
 refine ⟨fun j hb=>?_,fun x hx hk=>?_⟩
 ·obtain ⟨q1,q2,_⟩:=Xs (g:=g) (i:=i) (c:=c) (L:=L) (a:=a) (T:=T) j
  rw [q1]; rw [q2] at hb; exact mono _ (h.mem j hb)
 ·rcases As.1 hx with q | q
  ·exact mono _ (h.fly x q hk)
  ·have:=hT x q; omega
theorem IZ.start (h:IZ V g vr) (hia:IA V nv g) (hcl:∀ k,g.calls.length<=k->vr k=0) (h3:(g.mem i).serves=true) (hc9:(g.mem i).cnt<900) (hT:∀ y∈T,(y.kind=5\/y.kind=7)/\y.ep=(g.mem i).ep):IZ V (Bt g i c L a T) (vrN g i vr):=by
 obtain ⟨s1,s2,s3⟩:=hia.serv i h3
 obtain ⟨l1,l2⟩:=hia.lead i s2
 have hcnt:=hia.cnt i
 have he:=Xs (g:=g) (i:=i) (c:=c) (L:=L) (a:=a) (T:=T)
 have hb:∀ k e,Xr g k e->Xr (Bt g i c L a T) k e:=fun k e h=>by
  obtain ⟨q1,q2,q3,q4,_⟩:=he k
  unfold Xr at *
  rw [q1,q2,q4]; exact h
 have hfly:(Bt g i c L a T).fly=g.fly++T:=rfl
 generalize Bt g i c L a T=g' at *
 obtain ⟨w1,w2,w3,z1,z2⟩:=h
 refine ⟨?_,?_,?_,?_,?_⟩
 ·intro j h1 h2 k h4 h5 h6
  obtain ⟨q1,q2,q3,q4,q5,q6,q7⟩:=he j
  rw [q3] at h1; rw [q2] at h2; rw [q1] at h4 ⊢; rw [q7] at h6
  exact hb _ _ (w1 j h1 h2 k h4 h5 h6)
 ·intro x hx hk
  rw [hfly] at hx
  rcases As.1 hx with q | q
  ·exact hb _ _ (w2 x q hk)
  ·have:=hT x q; omega
 ·intro k e n h1 h2 h4 h5 j h6 h7
  unfold vrN at h1 h2
  split at h1
  ·rename_i hk
   rw [if_pos hk] at h2
   have:e=(g.mem i).ep:=by omega
   subst this
   rw [l2] at h7
   exact hb _ _ (w1 i s2 s1 j h6 h7 (by rw [s3]; simp))
  ·rename_i hk
   rw [if_neg hk] at h2
   exact hb _ _ (w3 k e n h1 h2 h4 h5 j h6 h7)
 ·intro k hk
  obtain ⟨q1,q2,q3,q4,q5,q6,q7⟩:=he k
  rw [q2] at hk; rw [q1]
  obtain ⟨r1,r2,r3,_⟩:=he (Cz V (g.mem k).ep)
  rw [r1,r2,r3]
  exact z1 k hk
 ·intro x hx hk
  obtain ⟨r1,r2,r3,_⟩:=he (Cz V x.ep)
  rw [r1,r2,r3]
  rw [hfly] at hx
  rcases As.1 hx with q | q
  ·exact z2 x q hk
  ·have:=(hT x q).2
   rw [this,l2]
   exact ⟨Int.le_refl _,fun _ _=>s1⟩
theorem IE.start (h:IE V g) (hia:IA V nv g) (hit:IT V g vr now) (h3:(g.mem i).serves=true) (h4:(g.mem i).op=0) (h5:c.op=1\/c.op=2) (hL:∀ k,k∈L↔k∈V (g.mem i).ep/\k≠i) (hA:a=(c.key,c.val,1000*(g.mem i).ep+((g.mem i).cnt+1))) (hp:c.op=1->BT (An (g.mem i).items a) a.1=a) (hone:Ax [a]=true)
  (hT:∀ y∈T,(y.kind=5/\c.op=1/\y.items=[a]\/y.kind=7/\c.op=2/\y.items=[])/\y.ep=(g.mem i).ep/\y.num=(g.mem i).cnt+1/\y.frm=i):IE V (Bt g i c L a T):=by
 obtain ⟨s1,s2,s3⟩:=hia.serv i h3
 obtain ⟨l1,l2⟩:=hia.lead i s2
 have hpos:=hia.pos i
 have hcnt:=hia.cnt i
 have hv1:1<=a.2.2:=by rw [hA]; show 1<=1000*(g.mem i).ep+((g.mem i).cnt+1); omega
 have he:=Xs (g:=g) (i:=i) (c:=c) (L:=L) (a:=a) (T:=T)
 have hi:((Bt g i c L a T).mem i).op=c.op/\((Bt g i c L a T).mem i).num=(g.mem i).cnt+1/\((Bt g i c L a T).mem i).ti=a/\((Bt g i c L a T).mem i).left=L:=by
  simp [Bt,PG.set,Q7]
 have hj:∀ j,j≠i->(Bt g i c L a T).mem j=g.mem j:=fun j e=>by simp only [Bt,PG.set]; rw [if_neg e]
 have hfly:(Bt g i c L a T).fly=g.fly++T:=rfl
 have hfl:=hit.fl
 generalize Bt g i c L a T=g' at *
 obtain ⟨ok,okx,e1,e2,e3,e4,e5⟩:=h
 refine ⟨?_,?_,?_,?_,?_,?_,?_⟩
 ·intro j; rw [(he j).2.2.2.2.1]; exact ok j
 ·intro x hx
  rw [hfly] at hx
  rcases As.1 hx with q | q
  ·exact okx x q
  ·rcases (hT x q).1 with ⟨_,_,r⟩ | ⟨_,_,r⟩
   ·rw [r]; exact hone
   ·rw [r]; rfl
 ·intro j q1 q2 q3 x hx hk hxe
  obtain ⟨r1,r2,r3,r4,r5,r6,r7⟩:=he j
  rw [r3] at q1; rw [r2] at q2; rw [r6] at q3; rw [r1] at hxe; rw [r5]
  rw [hfly] at hx
  rcases As.1 hx with q | q
  ·exact e1 j q1 q2 q3 x q hk hxe
  ·have:=hT x q; omega
 ·intro j q1 q2 l q3 q4
  obtain ⟨r1,r2,r3,r4,r5,r6,r7⟩:=he j
  obtain ⟨t1,t2,t3,t4,t5,t6,t7⟩:=he l
  rw [r3] at q1; rw [r2] at q2; rw [t2] at q3; rw [r1,t1] at q4; rw [r5,t5]
  have:=e2 j q1 q2 l q3 q4
  by_cases e:j=i
  ·subst e
   rcases this with q | q
   ·exact .inl q
   ·omega
  ·rw [hj j e]; exact this
 ·intro j q1 l hl q3 q4 q5
  obtain ⟨r1,r2,r3,r4,r5,r6,r7⟩:=he j
  obtain ⟨t1,t2,t3,t4,t5,t6,t7⟩:=he l
  rw [t2] at q3; rw [r1,t1] at q4; rw [r5,t5]
  rw [r1] at q5
  by_cases e:j=i
  ·subst e
   rw [hi.2.2.2,hi.2.1] at q5
   exfalso
   rcases q5 with q | ⟨x,hx,x1,x2,x3,x4⟩
   ·exact q ((hL l).2 ⟨by rw [<- q4]; exact (hia.view l q3).2,hl⟩)
   ·rw [hfly] at hx
    rcases As.1 hx with q | q
    ·have:=hfl x q (by omega) (by omega)
     rw [x3,l2] at this
     have:=this.2 rfl s2
     omega
    ·have:=hT x q; omega
  ·rw [hj j e] at q1 q5 ⊢
   refine e3 j q1 l hl q3 q4 (q5.imp id fun ⟨x,hx,x1,q⟩=>⟨x,?_,x1,q⟩)
   rw [hfly] at hx
   rcases As.1 hx with r | r
   ·exact r
   ·have:=hT x r; omega
 ·intro x hx hk b hxb q1 q2 q3
  obtain ⟨r1,r2,r3,r4,r5,r6,r7⟩:=he (Cz V x.ep)
  rw [r3] at q1; rw [r2] at q2; rw [r1] at q3; rw [r5]
  rw [hfly] at hx
  rcases As.1 hx with q | q
  ·have h6:=e4 x q hk b hxb q1 q2 q3
   by_cases e:Cz V x.ep=i
   ·rw [e] at h6 q1 q2 q3 ⊢
    have h7:=hfl x q (by omega) (by omega)
    rw [e] at h7
    have h8:=h7.2 q3 q1
    refine ⟨fun _ hn=>?_,fun _=>h6.2 (fun h=>by omega)⟩
    rw [hi.2.1] at hn; omega
   ·rw [hj _ e]; exact h6
  ·obtain ⟨u1,u2,u3,u4⟩:=hT x q
   have hf:Cz V x.ep=i:=by rw [u2]; exact l2
   rcases u1 with ⟨_,u6,u7⟩ | ⟨u5,_⟩
   ·rw [u7] at hxb
    cases hxb
    rw [hf]
    refine ⟨fun _ _=>hi.2.2.1.symm,fun h=>absurd ⟨by rw [hi.1]; exact u6,by rw [hi.2.1]; exact u3⟩ h⟩
   ·omega
 ·intro j q1
  obtain ⟨r1,r2,r3,r4,r5,r6,r7⟩:=he j
  rw [r5]
  by_cases e:j=i
  ·subst e
   rw [hi.2.2.1]
   exact ⟨hp (by rw [<- hi.1]; exact q1),hv1⟩
  ·rw [hj j e] at q1 ⊢; exact e5 j q1
end
section
variable {V:Int->List Int} {nv now:Int} {g:PG} {vr:Nat->Int} {i:Int} {k:Nat} {c:PC}
def OH (g:PG) (i:Int) (k:Nat) (c:PC) (now:Int):PG:={ (g.set i (Yh (g.mem i)) []) with calls:=g.calls.set k (ST (g.mem i) c now) }
theorem mQ (j:Int):(OH g i k c now).mem j=if j=i then Yh (g.mem i) else g.mem j:=rfl
theorem vC (j:Int):((OH g i k c now).mem j).ep=(g.mem j).ep/\((OH g i k c now).mem j).base=(g.mem j).base/\((OH g i k c now).mem j).leads=(g.mem j).leads/\((OH g i k c now).mem j).fell=(g.mem j).fell/\((OH g i k c now).mem j).serves=(g.mem j).serves/\((OH g i k c now).mem j).waits=(g.mem j).waits/\((OH g i k c now).mem j).cnt=(g.mem j).cnt:=by
 rw [mQ]
 split
 ·rename_i e; subst e; exact ⟨rfl,rfl,rfl,rfl,rfl,rfl,rfl⟩
 ·exact ⟨rfl,rfl,rfl,rfl,rfl,rfl,rfl⟩
theorem mR:(OH g i k c now).fly=g.fly:=List.append_nil _
theorem IA.fin (h:IA V nv g):IA V nv (OH g i k c now):=by
 obtain ⟨a1,a2,a3,a4,a5,a6,a7⟩:=h
 have b:=vC (g:=g) (i:=i) (k:=k) (c:=c) (now:=now)
 refine ⟨fun j=>by rw [(b j).1]; exact a1 j,fun j=>?_,fun j=>?_,fun j=>?_,fun j ho=>?_,fun j=>?_,fun j=>?_⟩
 ·obtain ⟨q1,q2,q3,q4,q5,q6,q7⟩:=b j; rw [q1,q3]; exact a2 j
 ·obtain ⟨q1,q2,q3,q4,q5,q6,q7⟩:=b j; rw [q1,q2]; exact a3 j
 ·obtain ⟨q1,q2,q3,q4,q5,q6,q7⟩:=b j; rw [q2,q3,q5,q6]; exact a4 j
 ·rw [mQ] at ho ⊢
  split at ho
  ·exact absurd rfl ho
  ·rename_i e; rw [if_neg e]; exact a5 j ho
 ·rw [(b j).2.2.2.2.2.2]; exact a6 j
 ·obtain ⟨q1,q2,q3,q4,q5,q6,q7⟩:=b j; rw [q4,q2,q3]; exact a7 j
theorem IB.fin (h:IB V g):IB V (OH g i k c now):=by
 have b:=vC (g:=g) (i:=i) (k:=k) (c:=c) (now:=now)
 have mono:∀ e,Cd V g e->Cd V (OH g i k c now) e:=fun e h=>h.mono fun j=>by rw [(b j).1]; exact Int.le_refl _
 refine ⟨fun j hb=>?_,fun x hx hk=>?_⟩
 ·rw [(b j).1]; rw [(b j).2.1] at hb; exact mono _ (h.mem j hb)
 ·rw [mR] at hx; exact mono _ (h.fly x hx hk)
theorem IZ.fin (h:IZ V g vr):IZ V (OH g i k c now) vr:=by
 have b:=vC (g:=g) (i:=i) (k:=k) (c:=c) (now:=now)
 have hb:∀ l e,Xr g l e->Xr (OH g i k c now) l e:=fun l e h=>by
  obtain ⟨q1,q2,q3,q4,_⟩:=b l
  unfold Xr at *
  rw [q1,q2,q4]; exact h
 have hfly:(OH g i k c now).fly=g.fly:=mR
 generalize OH g i k c now=g' at *
 obtain ⟨w1,w2,w3,z1,z2⟩:=h
 refine ⟨?_,fun x hx hk=>hb _ _ (w2 x (by rw [<- hfly]; exact hx) hk),fun k e n h1 h2 h4 h5 j h6 h7=>hb _ _ (w3 k e n h1 h2 h4 h5 j h6 h7),?_,?_⟩
 ·intro j h1 h2 l h4 h5 h6
  obtain ⟨q1,q2,q3,q4,q5,q6,q7⟩:=b j
  rw [q3] at h1; rw [q2] at h2; rw [q1] at h4 ⊢; rw [q6] at h6
  exact hb _ _ (w1 j h1 h2 l h4 h5 h6)
 ·intro l hl
  obtain ⟨q1,q2,q3,q4,q5,q6,q7⟩:=b l
  rw [q2] at hl; rw [q1]
  obtain ⟨r1,r2,r3,_⟩:=b (Cz V (g.mem l).ep)
  rw [r1,r2,r3]
  exact z1 l hl
 ·intro x hx hk
  obtain ⟨r1,r2,r3,_⟩:=b (Cz V x.ep)
  rw [r1,r2,r3]
  rw [hfly] at hx
  exact z2 x hx hk
theorem IE.fin (h:IE V g) (hia:IA V nv g) (ho:(g.mem i).op≠0) (hl:(g.mem i).left=[]):IE V (OH g i k c now):=by
 obtain ⟨t1,t2,t3⟩:=hia.task i ho
 obtain ⟨s1,s2,s3⟩:=hia.serv i t1
 obtain ⟨l1,l2⟩:=hia.lead i s2
 have b:=vC (g:=g) (i:=i) (k:=k) (c:=c) (now:=now)
 have hmem:=mQ (g:=g) (i:=i) (k:=k) (c:=c) (now:=now)
 have hfly:(OH g i k c now).fly=g.fly:=mR
 have hlead:=hia.lead
 obtain ⟨ok,okx,e1,e2,e3,e4,e5⟩:=h
 have hi0:(Yh (g.mem i)).op=0:=rfl
 have hii:(Yh (g.mem i)).items=if (g.mem i).op=1 then An (g.mem i).items (g.mem i).ti else (g.mem i).items:=rfl
 have all:∀ j,j≠i->(g.mem j).base=true->(g.mem j).ep=(g.mem i).ep->(g.mem j).items=(Yh (g.mem i)).items:=by
  intro j hj h1 h2
  rw [hii]
  split
  ·rename_i q
   exact e3 i q j hj h1 h2 (.inl (by rw [hl]; simp))
  ·rename_i q
   rcases e2 i s2 s1 j h1 h2 with r | r
   ·exact r
   ·exact absurd r.1 q
 have up:∀ kk,vl (g.mem i).items kk<=vl (Yh (g.mem i)).items kk:=by
  intro kk; rw [hii]; split
  ·exact vB (ok i) _ _
  ·exact Int.le_refl _
 generalize OH g i k c now=g' at *
 refine ⟨?_,by rw [hfly]; exact okx,?_,?_,?_,?_,?_⟩
 ·intro j; rw [hmem]; split
  ·rw [hii]; split
   ·exact Ig (ok i)
   ·exact ok i
  ·exact ok j
 ·intro j h1 h2 h3 x hx hk he
  obtain ⟨q1,q2,q3,q4,q5,q6,q7⟩:=b j
  rw [q3] at h1; rw [q2] at h2; rw [q5] at h3; rw [q1] at he; rw [hfly] at hx
  rw [hmem]
  split
  ·rename_i e; subst e; rw [t1] at h3; cases h3
  ·exact e1 j h1 h2 h3 x hx hk he
 ·intro j h1 h2 l h3 h4
  obtain ⟨q1,q2,q3,q4,q5,q6,q7⟩:=b j
  obtain ⟨r1,r2,r3,r4,r5,r6,r7⟩:=b l
  rw [q3] at h1; rw [q2] at h2; rw [r2] at h3; rw [r1,q1] at h4
  by_cases e:j=i
  ·subst e
   left
   rw [hmem,hmem,if_pos rfl]
   split
   ·rfl
   ·rename_i e2; exact all l e2 h3 h4
  ·rw [hmem l,hmem j,if_neg e]
   split
   ·rename_i e2
    subst e2
    exact absurd (by have:=(hlead j h1).2; rw [<- h4,l2] at this; exact this.symm) e
   ·exact e2 j h1 h2 l h3 h4
 ·intro j h1 l hl2 h3 h4 h5
  obtain ⟨q1,q2,q3,q4,q5,q6,q7⟩:=b j
  obtain ⟨r1,r2,r3,r4,r5,r6,r7⟩:=b l
  rw [r2] at h3; rw [r1,q1] at h4; rw [q1,hfly] at h5
  by_cases e:j=i
  ·subst e; rw [hmem,if_pos rfl,hi0] at h1; omega
  ·rw [hmem,if_neg e] at h1 h5
   rw [hmem l,hmem j,if_neg e]
   split
   ·rename_i e2
    subst e2
    have hj2:=hia.task j (by omega)
    have hj3:=hia.serv j hj2.1
    exact absurd (by have:=(hlead j hj3.2.1).2; rw [<- h4,l2] at this; exact this.symm) e
   ·exact e3 j h1 l hl2 h3 h4 h5
 ·intro x hx hk a hxa h1 h2 h3
  obtain ⟨q1,q2,q3,q4,q5,q6,q7⟩:=b (Cz V x.ep)
  rw [q3] at h1; rw [q2] at h2; rw [q1] at h3; rw [hfly] at hx
  have h6:=e4 x hx hk a hxa h1 h2 h3
  rw [hmem]
  split
  ·rename_i e
   rw [e] at h6
   refine ⟨fun h=>by rw [hi0] at h; omega,fun _=>?_⟩
   by_cases q:(g.mem i).op=1/\x.num=(g.mem i).num
   ·have ha:=h6.1 q.1 q.2
    subst ha
    rw [hii,if_pos q.1,zc,(e5 i q.1).1]
    exact Int.le_refl _
   ·exact Int.le_trans (h6.2 q) (up _)
  ·exact h6
 ·intro j h1
  rw [hmem] at h1 ⊢
  split
  ·rename_i e; rw [if_pos e,hi0] at h1; omega
  ·rename_i e; rw [if_neg e] at h1; exact e5 j h1
end
section
variable {V:Int->List Int} {nv now:Int} {g:PG} {vr:Nat->Int} {i:Int} {c:PC} {L:List Int} {a:AP} {T:List PX}
theorem zd (hia:IA V nv g) (hfl:∀ x∈g.fly,5<=x.kind->x.kind<=8->x.ep<=(g.mem (Cz V x.ep)).ep/\((g.mem (Cz V x.ep)).ep=x.ep->(g.mem (Cz V x.ep)).leads=true->x.num<=(g.mem (Cz V x.ep)).cnt)) (h3:(g.mem i).serves=true)
  (hL:∀ k,k∈L↔k∈V (g.mem i).ep/\k≠i) (hT:∀ y∈T,y.kind=5\/y.kind=7) {e:Int} (hr:Cd V g e) (he:(g.mem i).ep<e):Kj (Bt g i c L a T) i:=by
 obtain ⟨s1,s2,s3⟩:=hia.serv i h3
 obtain ⟨l1,l2⟩:=hia.lead i s2
 obtain ⟨j,hjv,hjl⟩:=hr (g.mem i).ep (hia.pos i) he
 have hep:=fun j=>(Xs (g:=g) (i:=i) (c:=c) (L:=L) (a:=a) (T:=T) j).1
 have hi:((Bt g i c L a T).mem i).num=(g.mem i).cnt+1/\((Bt g i c L a T).mem i).left=L:=by simp [Bt,PG.set,Q7]
 have hne:j≠i:=fun e=>by subst e; omega
 refine ⟨j,by rw [hi.2]; exact (hL j).2 ⟨hjv,hne⟩,by rw [hep i,hep j]; exact hjl,fun x hx hk hf hxe=>?_⟩
 rw [hep i] at hxe
 rw [hi.1]
 rcases As.1 hx with q | q
 ·have:=hfl x q (by omega) (by omega)
  rw [hxe,l2] at this
  have:=this.2 rfl s2
  omega
 ·have:=hT x q; omega
theorem IF.start (h:IF V g vr) (hia:IA V nv g) (hib:IB V g) (hit:IT V g vr now) (h1:c.done=-1) (h3:(g.mem i).serves=true) (h4:(g.mem i).op=0) (hL:∀ k,k∈L↔k∈V (g.mem i).ep/\k≠i) (hA:a=(c.key,c.val,1000*(g.mem i).ep+((g.mem i).cnt+1)))
  (hT:∀ y∈T,(y.kind=5/\c.op=1/\y.items=[a]\/y.kind=7/\c.op=2/\y.items=[])/\y.ep=(g.mem i).ep/\y.num=(g.mem i).cnt+1/\y.frm=i):IF V (Bt g i c L a T) (vrN g i vr):=by
 have hep:=Xs (g:=g) (i:=i) (c:=c) (L:=L) (a:=a) (T:=T)
 have hT5:∀ y∈T,y.kind=5\/y.kind=7:=fun y hy=>by have:=(hT y hy).1; omega
 have stuck:∀ e,Cd V g e->(g.mem i).ep<e->Kj (Bt g i c L a T) i:=fun e hr he=>zd hia hit.fl h3 hL hT5 hr he
 have hi:((Bt g i c L a T).mem i).op=c.op/\((Bt g i c L a T).mem i).ti=a:=by simp [Bt,PG.set,Q7]
 have hj:∀ j,j≠i->(Bt g i c L a T).mem j=g.mem j:=fun j e=>by simp only [Bt,PG.set]; rw [if_neg e]
 have hfly:(Bt g i c L a T).fly=g.fly++T:=rfl
 have hcal:(Bt g i c L a T).calls=g.calls++[c]:=rfl
 have hg:∀ (k:Nat) d,(Bt g i c L a T).calls[k]? = some d->0<=d.done->g.calls[k]? = some d/\k<g.calls.length:=by
  intro k d hd h0
  rw [hcal] at hd
  have:(g.calls[k]? = some d/\k<g.calls.length)\/(k=g.calls.length/\d=c):=by grind
  rcases this with e | ⟨_,e⟩
  ·exact e
  ·subst e; omega
 have hvr:∀ k,k<g.calls.length->vrN g i vr k=vr k:=fun k hk=>by unfold vrN; rw [if_neg (by omega)]
 have hp:∀ y,f5 g vr y->f5 (Bt g i c L a T) (vrN g i vr) y:=fun y ⟨k,d,q,q1,q2,q3,q4⟩=>by
  have hk:=(Ay.1 q).1
  exact ⟨k,d,by rw [hcal]; grind,q1,q2,q3,by rw [hvr k hk]; exact q4⟩
 have hnew:c.op=1->f5 (Bt g i c L a T) (vrN g i vr) a:=fun ho=>⟨g.calls.length,c,by rw [hcal]; simp,ho,by rw [hA],by rw [hA],by unfold vrN; rw [if_pos rfl,hA],by rw [hA]; have:=hia.pos i; have:=hia.cnt i; show 1<=1000*(g.mem i).ep+((g.mem i).cnt+1); omega⟩
 obtain ⟨f1,f2,p1,fr,vs,pm,px,pt,gt⟩:=h
 have hdn:=hit.dn
 generalize Bt g i c L a T=g' at *
 refine ⟨?_,?_,?_,?_,?_,?_,?_,?_,?_⟩
 ·intro k d hk hd j hb he
  obtain ⟨q1,q2,q3,q4,q5,q6,q7⟩:=hep j
  rw [q2] at hb; rw [q1] at he; rw [q5]
  exact f1 k d (hg k d hk hd).1 hd j hb he
 ·intro k d hk hd x hx hkd he
  rw [hfly] at hx
  rcases As.1 hx with q | q
  ·exact f2 k d (hg k d hk hd).1 hd x q hkd he
  ·have:=hT5 x q; omega
 ·intro j ho
  obtain ⟨q1,q2,q3,q4,q5,q6,q7⟩:=hep j
  by_cases e:j=i
  ·subst e
   by_cases hE:∃ e,Cd V g e/\(g.mem j).ep<e
   ·obtain ⟨e,r1,r2⟩:=hE
    exact .inl (stuck e r1 r2)
   ·right
    rw [q1]
    refine ⟨fun l hb hl=>?_,fun x hx hk hl=>?_,fun k d hk hd _ hl _=>?_⟩
    ·rw [(hep l).2.1] at hb; rw [(hep l).1] at hl
     exact absurd ⟨_,hib.mem l hb,hl⟩ hE
    ·rw [hfly] at hx
     rcases As.1 hx with q | q
     ·exact absurd ⟨_,hib.fly x q hk,hl⟩ hE
     ·have:=hT5 x q; omega
    ·have:=(hdn k d (hg k d hk hd).1 hd).2.2.2.2.1
     exact absurd ⟨_,this,hl⟩ hE
  ·rw [hj j e] at ho ⊢
   rcases p1 j ho with ⟨w,w1,w2,w3⟩ | ⟨b1,b2,b3⟩
   ·left
    refine ⟨w,by rw [hj j e]; exact w1,by rw [hj j e,(hep w).1]; exact w2,fun x hx=>?_⟩
    rw [hj j e]
    rw [hfly] at hx
    rcases As.1 hx with q | q
    ·exact w3 x q
    ·have:=hT5 x q
     intro hk; omega
   ·right
    refine ⟨fun l hb hl=>?_,fun x hx hk hl=>?_,fun k d hk hd h2 hl h5=>b3 k d (hg k d hk hd).1 hd h2 hl h5⟩
    ·obtain ⟨r1,r2,r3,r4,r5,r6,r7⟩:=hep l
     rw [r2] at hb; rw [r1] at hl; rw [r5]
     exact b1 l hb hl
    ·rw [hfly] at hx
     rcases As.1 hx with q | q
     ·exact b2 x q hk hl
     ·have:=hT5 x q; omega
 ·intro k l d e hk hl h0 h1' h2 h5 hlt
  obtain ⟨u1,u2⟩:=hg k d hk h0
  obtain ⟨v1,v2⟩:=hg l e hl h1'
  rw [hvr k u2,hvr l v2] at hlt
  exact fr k l d e u1 v1 h0 h1' h2 h5 hlt
 ·intro k d hk h0
  obtain ⟨u1,u2⟩:=hg k d hk h0
  rw [hvr k u2]
  exact vs k d u1 h0
 ·intro j y hy
  rw [(hep j).2.2.2.2.1] at hy
  exact hp y (pm j y hy)
 ·intro x hx y hy
  rw [hfly] at hx
  rcases As.1 hx with q | q
  ·exact hp y (px x q y hy)
  ·rcases (hT x q).1 with ⟨_,r2,r3⟩ | ⟨_,_,r3⟩
   ·rw [r3] at hy
    simp only [Cj] at hy
    rw [hy]; exact hnew r2
   ·rw [r3] at hy; cases hy
 ·intro j ho
  by_cases e:j=i
  ·subst e
   rw [hi.1] at ho; rw [hi.2]
   exact hnew ho
  ·rw [hj j e] at ho ⊢
   exact hp _ (pt j ho)
 ·intro k d hk h0 h2
  exact (gt k d (hg k d hk h0).1 h0 h2).imp id fun ⟨y,q,r⟩=>⟨y,hp y q,r⟩
end
section
variable {V:Int->List Int} {nv now:Int} {g:PG} {vr:Nat->Int} {i:Int} {k:Nat} {c:PC}
theorem mS (s:List AP) (kk:ByteArray):BT s kk=(O,O,0)\/(BT s kk∈s/\(BT s kk).1.toList=kk.toList):=by
 cases h:J6 s kk with
 | true=>exact .inr (uz h)
 | false=>exact .inl (eV h)
theorem IF.fin (h:IF V g vr) (hia:IA V nv g) (hit:IT V g vr now) (hie:IE V g) (hn:0<=now) (ho:(g.mem i).op≠0) (hl:(g.mem i).left=[]) (hc:(g.mem i).call=(k:Int)) (hk:g.calls[k]? = some c)
  (hown:∀ y∈(g.mem i).items,y.2.2<=1000*(g.mem i).ep+(g.mem i).cnt):IF V (OH g i k c now) vr:=by
 obtain ⟨t1,t2,t3⟩:=hia.task i ho
 obtain ⟨s1,s2,s3⟩:=hia.serv i t1
 obtain ⟨l1,l2⟩:=hia.lead i s2
 obtain ⟨k0,d0,r1,r2,r3,r4,r5,r6,r7,r8,r9,r10⟩:=hit.act i ho
 have hk0:k0=k:=by omega
 subst hk0
 rw [hk] at r2
 cases r2
 have hkl:k0<g.calls.length:=(Ay.1 hk).1
 have b:=vC (g:=g) (i:=i) (k:=k0) (c:=c) (now:=now)
 have hmem:=mQ (g:=g) (i:=i) (k:=k0) (c:=c) (now:=now)
 have hfly:(OH g i k0 c now).fly=g.fly:=mR
 have hcal:(OH g i k0 c now).calls=g.calls.set k0 (ST (g.mem i) c now):=rfl
 have hset:∀ (l:Nat) d,(OH g i k0 c now).calls[l]? = some d->(l=k0/\d=ST (g.mem i) c now)\/(l≠k0/\g.calls[l]? = some d):=by
  intro l d hd
  rw [hcal] at hd
  by_cases e:l=k0
  ·subst e
   rw [List.getElem?_set_self hkl] at hd
   exact .inl ⟨rfl,by cases hd; rfl⟩
  ·rw [List.getElem?_set_ne (Ne.symm e)] at hd
   exact .inr ⟨e,hd⟩
 have hset1:(OH g i k0 c now).calls[k0]? = some (ST (g.mem i) c now):=by rw [hcal]; exact List.getElem?_set_self hkl
 have hset2:∀ (l:Nat),l≠k0->(OH g i k0 c now).calls[l]? = g.calls[l]? := fun l e=>by rw [hcal]; exact List.getElem?_set_ne (Ne.symm e)
 have hns:¬ Kj g i:=fun ⟨w,w1,_⟩=>by rw [hl] at w1; cases w1
 obtain ⟨f1,f2,p1,fr,vs,pm,px,pt,gt⟩:=h
 obtain ⟨b1,b2,b3⟩:=(p1 i ho).resolve_left hns
 have hii:(Yh (g.mem i)).items=if (g.mem i).op=1 then An (g.mem i).items (g.mem i).ti else (g.mem i).items:=rfl
 have hver:(ST (g.mem i) c now).ver=Yi (g.mem i):=by
  unfold ST wG Yi
  dsimp only
  split
  ·rfl
  ·rfl
 have htobe:vl (Yh (g.mem i)).items (g.mem i).ti.1.toList=Yi (g.mem i):=by
  rw [hii]
  unfold Yi
  split
  ·rename_i q
   rw [zc,(hie.e5 i q).1]
  ·rfl
 have all:∀ j,j≠i->(g.mem j).base=true->(g.mem j).ep=(g.mem i).ep->(g.mem j).items=(Yh (g.mem i)).items:=by
  intro j hj h1 h2
  rw [hii]
  split
  ·rename_i q
   exact hie.e3 i q j hj h1 h2 (.inl (by rw [hl]; simp))
  ·rename_i q
   rcases hie.e2 i s2 s1 j h1 h2 with r | r
   ·exact r
   ·exact absurd r.1 q
 have up:∀ kk,vl (g.mem i).items kk<=vl (Yh (g.mem i)).items kk:=by
  intro kk; rw [hii]; split
  ·exact vB (hie.ok i) _ _
  ·exact Int.le_refl _
 have hf:(ST (g.mem i) c now).key=c.key/\(ST (g.mem i) c now).op=c.op/\(ST (g.mem i) c now).val=c.val/\(ST (g.mem i) c now).ep=(g.mem i).ep:=⟨rfl,rfl,rfl,rfl⟩
 have hp:∀ y,f5 g vr y->f5 (OH g i k0 c now) vr y:=fun y ⟨l,d,q,q1,q2,q3,q4⟩=>by
  by_cases e:l=k0
  ·subst e
   rw [hk] at q
   cases q
   exact ⟨l,_,hset1,q1,q2,q3,q4⟩
  ·exact ⟨l,d,by rw [hset2 l e]; exact q,q1,q2,q3,q4⟩
 have hdn:=hit.dn
 have hst:=hit.st
 have hmp:∀ y∈(Yh (g.mem i)).items,f5 g vr y:=by
  intro y hy
  rw [hii] at hy
  split at hy
  ·rename_i q
   rcases eR hy with e | e
   ·rw [e]; exact pt i q
   ·exact pm i y e
  ·exact pm i y hy
 generalize hC:ST (g.mem i) c now=c' at *
 generalize hG:OH g i k0 c now=g' at *
 refine ⟨?_,?_,?_,?_,?_,?_,?_,?_,?_⟩
 ·intro l d hd hd0 j hb he
  rw [(b j).2.1] at hb; rw [(b j).1] at he
  rw [hmem]
  rcases hset l d hd with ⟨e1,e2⟩ | ⟨e1,e2⟩
  ·subst e2
   rw [hver,hf.1,r6]
   rw [hf.2.2.2] at he
   split
   ·rw [htobe]; exact Int.le_refl _
   ·rename_i e
    by_cases heq:(g.mem j).ep=(g.mem i).ep
    ·rw [all j e hb heq,htobe]; exact Int.le_refl _
    ·exact b1 j hb (by omega)
  ·have:=f1 l d e2 hd0 j hb he
   split
   ·rename_i e; subst e; exact Int.le_trans this (up _)
   ·exact this
 ·intro l d hd hd0 x hx hkd he
  rw [hfly] at hx
  rcases hset l d hd with ⟨e1,e2⟩ | ⟨e1,e2⟩
  ·subst e2
   rw [hf.2.2.2] at he
   rw [hver,hf.1,r6]
   exact b2 x hx hkd he
  ·exact f2 l d e2 hd0 x hx hkd he
 ·intro j hoj
  by_cases e:j=i
  ·subst e
   rw [hmem,if_pos rfl] at hoj
   exact absurd rfl hoj
  ·have hjm:g'.mem j=g.mem j:=by rw [hmem,if_neg e]
   rw [hjm] at hoj ⊢
   rcases p1 j hoj with ⟨w,w1,w2,w3⟩ | ⟨a1,a2,a3⟩
   ·left
    exact ⟨w,by rw [hjm]; exact w1,by rw [hjm,(b w).1]; exact w2,by rw [hjm,hfly]; exact w3⟩
   ·right
    refine ⟨fun l hb hlt=>?_,fun x hx=>a2 x (by rw [<- hfly]; exact hx),fun l d hd hd0 h2 hlt h5=>?_⟩
    ·rw [(b l).2.1] at hb; rw [(b l).1] at hlt
     have:=a1 l hb hlt
     rw [hmem]
     split
     ·rename_i e; subst e; exact Int.le_trans this (up _)
     ·exact this
    ·rcases hset l d hd with ⟨e1,e2⟩ | ⟨e1,e2⟩
     ·subst e2
      rw [hf.2.2.2] at hlt
      rw [hf.1,r6] at h5
      have:=a1 i s1 hlt
      rw [hver]
      rw [hf.2.1,r5] at h2
      unfold Yi
      rw [if_neg (show ¬ (g.mem i).op=1 by omega),h5]
      exact this
     ·exact a3 l d e2 hd0 h2 hlt h5
 ·intro l1 l2' d e hd he h0 h1 h2 h5 hlt
  rcases hset l1 d hd with ⟨u1,u2⟩ | ⟨u1,u2⟩
  ·subst u1; subst u2
   rcases hset l2' e he with ⟨v1,v2⟩ | ⟨v1,v2⟩
   ·subst v1; omega
   ·rw [hf.1,r6] at h5
    rw [hf.2.1,r5] at h2
    obtain ⟨d1,d2,d3,d4,d5,d6,d7⟩:=hdn l2' e v2 h1
    have:=f1 l2' e v2 h1 i s1 (by omega)
    rw [hver]
    unfold Yi
    rw [if_neg (show ¬ (g.mem i).op=1 by omega),h5]
    exact this
  ·rcases hset l2' e he with ⟨v1,v2⟩ | ⟨v1,v2⟩
   ·subst v1; subst v2
    rw [hf.1,r6] at h5
    obtain ⟨d1,d2,d3,d4,d5,d6,d7⟩:=hdn l1 d u2 h0
    rw [hver]
    by_cases hlt2:(g.mem i).ep<d.ep
    ·exact b3 l1 d u2 h0 h2 hlt2 h5
    ·exfalso
     obtain ⟨e',n,x1,x2,x3,x4,x5,x6⟩:=hst l1 (by omega)
     have hee:e'=(g.mem i).ep:=by omega
     subst hee
     rw [l2] at x6
     have:=(x6 rfl s2).2
     omega
   ·exact fr l1 l2' d e u2 v2 h0 h1 h2 h5 hlt
 ·intro l d hd hd0
  rcases hset l d hd with ⟨u1,u2⟩ | ⟨u1,u2⟩
  ·subst u1; subst u2
   rw [hver,hf.2.1,r5]
   unfold Yi
   split
   ·rename_i q
    rw [r8]; exact ⟨Int.le_refl _,fun _=>rfl⟩
   ·rename_i q
    refine ⟨?_,fun h=>absurd h q⟩
    rw [zc,r3,t3]
    have hcnt:=hia.cnt i
    have hpos:=hia.pos i
    rcases mS (g.mem i).items (g.mem i).ti.1 with z | z
    ·rw [z]; show (0:Int)<=_; omega
    ·exact hown _ z.1
  ·exact vs l d u2 hd0
 ·intro j y hy
  rw [hmem] at hy
  split at hy
  ·exact hp y (hmp y hy)
  ·exact hp y (pm j y hy)
 ·intro x hx y hy
  rw [hfly] at hx
  exact hp y (px x hx y hy)
 ·intro j hoj
  rw [hmem] at hoj ⊢
  split
  ·rename_i e; rw [if_pos e] at hoj; exact absurd hoj (by decide:¬ (0:Int)=1)
  ·rename_i e; rw [if_neg e] at hoj; exact hp _ (pt j hoj)
 ·intro l d hd hd0 h2
  rcases hset l d hd with ⟨u1,u2⟩ | ⟨u1,u2⟩
  ·subst u1; subst u2
   have hop:(g.mem i).op≠1:=by rw [hf.2.1,r5] at h2; omega
   have hgot:d.got=(BT (g.mem i).items (g.mem i).ti.1).2.1/\d.ver=(BT (g.mem i).items (g.mem i).ti.1).2.2:=by
    rw [<- hC]
    unfold ST wG
    rw [hf.2.1] at h2
    dsimp only
    rw [if_pos h2,if_neg hop]
    exact ⟨rfl,rfl⟩
   rcases mS (g.mem i).items (g.mem i).ti.1 with z | z
   ·left
    rw [hgot.1,hgot.2,z]
    exact ⟨rfl,rfl⟩
   ·right
    exact ⟨_,hp _ (pm i _ z.1),by rw [hf.1,r6]; exact z.2,hgot.2,hgot.1⟩
  ·exact (gt l d u2 hd0 h2).imp id fun ⟨y,q,r⟩=>⟨y,hp y q,r⟩
end

theorem IA.call {V nv g} {c:PC} (h:IA V nv g):IA V nv { g with calls:=g.calls++[c] }:=⟨h.1,h.2,h.3,h.4,h.5,h.6,h.7⟩
theorem IB.call {V g} {c:PC} (h:IB V g):IB V { g with calls:=g.calls++[c] }:=⟨h.mem,h.fly⟩
theorem IZ.call {V g vr} {c:PC} (h:IZ V g vr):IZ V { g with calls:=g.calls++[c] } vr:=⟨h.w1,h.w2,h.w3,h.z1,h.z2⟩
theorem IE.call {V g} {c:PC} (h:IE V g):IE V { g with calls:=g.calls++[c] }:=⟨h.ok,h.okx,h.e1,h.e2,h.e3,h.e4,h.e5⟩
structure vG (V:Int->List Int) (nv:Int) (g:PG) (vr:Nat->Int) (now:Int):Prop where
 a:IA V nv g
 b:IB V g
 t:IT V g vr now
 z:IZ V g vr
 e:IE V g
 f:IF V g vr
theorem vG.mstep {V nv g i m T vr now} (h:vG V nv g vr now) (hv:∀ e,1<=e->e<=nv->Cz V e∈V e) (hs:C0 V nv g i m T):vG V nv (g.set i m T) vr now :=
 ⟨h.a.step hv hs,h.b.step h.a hv hs,h.t.mstep h.a hs,h.z.mstep h.a hs,h.e.mstep h.a h.z hs,h.f.mstep h.a h.t h.z h.e hs⟩
theorem vG.drop {V nv g vr now f} (h:vG V nv g vr now) (hf:∀ x∈f,x∈g.fly):vG V nv { g with fly:=f } vr now :=
 ⟨h.a.drop,h.b.drop hf,h.t.drop hf,h.z.drop hf,h.e.drop hf,h.f.drop hf⟩
theorem vG.later {V nv g vr now n} (h:vG V nv g vr now) (hn:now<=n):vG V nv g vr n:=⟨h.a,h.b,h.t.later hn,h.z,h.e,h.f⟩
theorem vG.call {V nv g vr now} {c:PC} (h:vG V nv g vr now) (h1:c.done=-1) (h2:c.wen=now):vG V nv { g with calls:=g.calls++[c] } vr now :=
 ⟨h.a.call,h.b.call,h.t.call h1 h2,h.z.call,h.e.call,h.f.call h1⟩
theorem vG.start {V nv g vr now i c L a T} (h:vG V nv g vr now) (h1:c.done=-1) (h2:c.wen=now) (h3:(g.mem i).serves=true) (h4:(g.mem i).op=0) (h5:c.op=1\/c.op=2) (h6:(g.mem i).cnt<900) (hL:∀ k,k∈L↔k∈V (g.mem i).ep/\k≠i) (hA:a=(c.key,c.val,1000*(g.mem i).ep+((g.mem i).cnt+1))) (hp:c.op=1->BT (An (g.mem i).items a) a.1=a) (hone:Ax [a]=true)
  (hT:∀ y∈T,(y.kind=5/\c.op=1/\y.items=[a]\/y.kind=7/\c.op=2/\y.items=[])/\y.ep=(g.mem i).ep/\y.num=(g.mem i).cnt+1/\y.frm=i):vG V nv (Bt g i c L a T) (vrN g i vr) now :=
 ⟨h.a.start h3 h5,h.b.start fun y hy=>(by have:=(hT y hy).1; omega),h.t.start h.a h.b h1 h2 h3 h4 h5 h6 hL hA fun y hy=>(by
  obtain ⟨q1,q2,q3,q4⟩:=hT y hy
  exact ⟨q1.imp id fun q=>⟨q.1,q.2.1⟩,q2,q3,q4⟩),h.z.start h.a h.t.out h3 h6 fun y hy=>(by obtain ⟨q1,q2,q3,q4⟩:=hT y hy; exact ⟨by omega,q2⟩),
  h.e.start h.a h.t h3 h4 h5 hL hA hp hone hT,h.f.start h.a h.b h.t h1 h3 h4 hL hA hT⟩
theorem vG.fin {V nv g vr now i} (h:vG V nv g vr now) (hn:0<=now) (ho:(g.mem i).op≠0) (hl:(g.mem i).left=[]) (hown:∀ y∈(g.mem i).items,y.2.2<=1000*(g.mem i).ep+(g.mem i).cnt):∃ (k:Nat) (c:PC),(g.mem i).call=(k:Int)/\g.calls[k]? = some c/\c.done<0/\vG V nv (OH g i k c now) vr now:=by
 obtain ⟨k,c,q1,q2,q3,q4,q5⟩:=h.t.act i ho
 exact ⟨k,c,q1,q2,q4,h.a.fin,h.b.fin,h.t.fin h.a h.b ho hl q1 q2,h.z.fin,h.e.fin h.a ho hl,h.f.fin h.a h.t h.e hn ho hl q1 q2 hown⟩
def pm (m:AE):PM:=⟨m.2.1,m.2.2.1,m.2.2.2.1,m.2.2.2.2.1,m.2.2.2.2.2.1,m.2.2.2.2.2.2.1,m.2.2.2.2.2.2.2.1,m.2.2.2.2.2.2.2.2.1,m.2.2.2.2.2.2.2.2.2.1,m.2.2.2.2.2.2.2.2.2.2.1,m.2.2.2.2.2.2.2.2.2.2.2.1,m.2.2.2.2.2.2.2.2.2.2.2.2.1,m.2.2.2.2.2.2.2.2.2.2.2.2.2⟩
def px (x:Bc):PX:=⟨x.1,x.2.1,x.2.2.1,x.2.2.2.1,x.2.2.2.2.1,x.2.2.2.2.2⟩
def pc (c:F6):PC:=⟨c.1,c.2.1,c.2.2.1,c.2.2.2.1,c.2.2.2.2.1,c.2.2.2.2.2.1,c.2.2.2.2.2.2.1,c.2.2.2.2.2.2.2.1,c.2.2.2.2.2.2.2.2⟩
def oY:PM:=⟨1,false,false,false,false,[],[],0,0,0,0,(O,O,0),[]⟩
def pg (g:AS):PG:=⟨fun i=>if 1<=i/\i<=6 then pm (BB g (i-1).toNat) else oY,g.2.2.1.map px,g.2.2.2.map pc⟩
def vw (views:List (List Int)) (e:Int):List Int:=views.getD (e-1).toNat []
theorem yZ (views:List (List Int)) (e:Int):Cz (vw views) e=SS views e:=rfl
theorem ACf {views:List (List Int)} (hv:SX views):∀ e,1<=e->e<=(views.length:Int)->Cz (vw views) e∈vw views e:=fun e h1 h2=>by
 have:=ut hv h1 h2 rfl
 rw [List.contains_iff_mem] at this
 exact this
theorem Tv {g:AS} {i:Int} (h:1<=i/\i<=6):(pg g).mem i=pm (BB g (i-1).toNat):=if_pos h
theorem PG.same {a b:PG} (h1:∀ i,a.mem i=b.mem i) (h2:a.fly=b.fly) (h3:a.calls=b.calls):a=b:=by
 cases a; cases b
 simp only at h1 h2 h3
 rw [h2,h3,show _=_ from funext h1]
theorem oZ {g:AS} {n:AE} {told:List Bc} {said:List DH} {at_:Int} {i:Int} (h6:g.2.1.length=6) (hi:1<=i/\i<=6) (hn:n.1=i) (j:Int):(pg (BZ g n told said at_)).mem j=if j=i then pm n else (pg g).mem j:=by
 by_cases hj:1<=j/\j<=6
 ·rw [Tv hj,ur h6 (show (j-1).toNat<6 by omega) (show n.1=(((i-1).toNat:Nat):Int)+1 by omega) (show (i-1).toNat<6 by omega)]
  by_cases e:j=i
  ·rw [if_pos (by omega),if_pos e]
  ·rw [if_neg (by omega),if_neg e,Tv hj]
 ·rw [if_neg (by omega)]
  show (if _ then _ else _)=(if _ then _ else _)
  rw [if_neg hj,if_neg hj]
theorem rg {g:AS} {n:AE} {told:List Bc} {at_:Int} {i:Int} (h6:g.2.1.length=6) (hi:1<=i/\i<=6) (hn:n.1=i):pg (BZ g n told [] at_)=(pg g).set i (pm n) (told.map px) :=
 PG.same (oZ h6 hi hn) (by show (g.2.2.1++told).map px=g.2.2.1.map px++told.map px; rw [List.map_append]) rfl
theorem ACg {cs:List F6} {k:Nat} {c:PC} (h:(cs.map pc)[k]? = some c):k<cs.length/\c=pc (cs.getD k EZ):=by
 rw [Cq] at h
 cases q:cs[k]? with
 | none=>rw [q] at h; cases h
 | some d =>
  rw [q] at h
  cases h
  obtain ⟨hk,e⟩:=Ay.1 q
  exact ⟨hk,by rw [AU hk,e]⟩
theorem ADn {at_:Int} {m:AE} {c:F6} {s:DH} (hs:s=(m.2.2.2.2.2.2.2.2.2.2.1,m.2.1,m.2.2.2.2.2.2.2.2.2.2.2.1,wG (pm m))):pc (Tt at_ s c)=ST (pm m) (pc c) at_:=by
 subst hs
 have:(if (c.1==2)=true then (wG (pm m)).2.1 else c.2.2.2.2.2.2.2.2)=if c.1=2 then (wG (pm m)).2.1 else c.2.2.2.2.2.2.2.2:=by
  by_cases h:c.1=2
  ·rw [if_pos h,if_pos (by simpa using h)]
  ·rw [if_neg h,if_neg (by simpa using h)]
 unfold Tt pc ST
 dsimp only
 rw [this]
 rfl
theorem vD (m:AE):(CA m).1=[(m.2.2.2.2.2.2.2.2.2.2.1,m.2.1,m.2.2.2.2.2.2.2.2.2.2.2.1,wG (pm m))]/\pm (CA m).2=Yh (pm m)/\(CA m).2.1=m.1:=by
 unfold CA
 by_cases h:m.2.2.2.2.2.2.2.2.2.1=1
 ·rw [if_pos (by simpa using h)]
  have h1:wG (pm m)=m.2.2.2.2.2.2.2.2.2.2.2.2.1:=if_pos h
  have h2:(Yh (pm m))=pm (PQ m (An m.2.2.2.2.2.2.2.1 m.2.2.2.2.2.2.2.2.2.2.2.2.1)):=by
   unfold Yh
   rw [if_pos (show (pm m).op=1 from h)]
   rfl
  rw [h1,h2]
  exact ⟨rfl,rfl,rfl⟩
 ·rw [if_neg (by simpa using h)]
  have h1:wG (pm m)=BT m.2.2.2.2.2.2.2.1 m.2.2.2.2.2.2.2.2.2.2.2.2.1.1:=if_neg h
  have h2:(Yh (pm m))=pm (PQ m m.2.2.2.2.2.2.2.1):=by
   unfold Yh
   rw [if_neg (show ¬ (pm m).op=1 from h)]
   rfl
  rw [h1,h2]
  exact ⟨rfl,rfl,rfl⟩
theorem AET {g:AS} {m:AE} {at_:Int} {i:Int} {k:Nat} {c:PC} (h6:g.2.1.length=6) (hi:1<=i/\i<=6) (hm:m.1=i) (hp:(pg g).mem i=pm m) (hc:(pm m).call=(k:Int)) (hk:(pg g).calls[k]? = some c) (hd:c.done<0) :
  pg (BZ g (CA m).2 [] (CA m).1 at_)=OH (pg g) i k c at_:=by
 obtain ⟨f1,f2,f3⟩:=vD m
 obtain ⟨k1,k2⟩:=ACg hk
 refine PG.same (fun j=>?_) ?_ ?_
 ·rw [oZ h6 hi (by rw [f3,hm]),mQ,hp,f2]
 ·rw [mR]
  show (g.2.2.1++[]).map px=_
  rw [List.append_nil]; rfl
 ·show (((CA m).1).foldl (H5 at_) g.2.2.2).map pc=(g.2.2.2.map pc).set k (ST ((pg g).mem i) c at_)
  have hc':m.2.2.2.2.2.2.2.2.2.2.1=(k:Int):=hc
  rw [f1,List.foldl_cons,List.foldl_nil,hp,k2,<- ADn rfl,<- List.map_set]
  congr 1
  unfold H5
  dsimp only
  rw [hc',Ai,if_neg]
  rw [k2] at hd
  change (g.2.2.2.getD k EZ).2.2.2.2.1<0 at hd
  rw [Ec,decide_eq_true_eq,decide_eq_true_eq]
  omega
theorem jC {view:List Int} {id:Int} (hv:WOk view) (k:Int):k∈D3 view id↔k∈view/\k≠id:=by
 rw [uv hv]
 unfold CI
 rw [List.mem_filter]
 simp
theorem ADo {α:Type} (l:List α):(((l.length:Int))==0)=l.isEmpty:=by
 cases l with
 | nil=>rfl
 | cons a l=>rw [List.isEmpty_cons,beq_eq_false_iff_ne,List.length_cons]; omega
inductive ze (V:Int->List Int) (nv:Int) (g:PG) (m:AE):AE×List Bc×List DH->Prop
 | none:ze V nv g m (m,[],[])
 | step (n:AE) (T:List Bc) (h:C0 V nv g m.1 (pm n) (T.map px)):ze V nv g m (n,T,[])
 | done (n:AE) (h:C0 V nv g m.1 (pm n) []) (h1:n.1=m.1) (h2:n.2.2.2.2.2.2.2.2.2.1≠0) (h3:n.2.2.2.2.2.2.2.2.2.2.2.2.2=[]) (h4:n.2.2.2.2.2.2.2.1=m.2.2.2.2.2.2.2.1/\n.2.1=m.2.1/\n.2.2.2.2.2.2.2.2.1=m.2.2.2.2.2.2.2.2.1/\n.2.2.2.1=m.2.2.2.1/\n.2.2.2.2.1=m.2.2.2.2.1):ze V nv g m ((CA n).2,[],(CA n).1)
theorem ACh {views:List (List Int)} {m:AE} {x:Bc} {g:PG} (hv:SX views) (hm:Kb m) (h:V1 views m) (hx:V2 views x) (hxo:XOk x) (hlen:m.2.1<=(views.length:Int)) (ht:x.2.2.1=m.1) (he:x.2.2.2.1=m.2.1) (hp:g.mem m.1=pm m) (hin:px x∈g.fly) :
  ze (vw views) (views.length:Int) g m (eO m (views.getD (m.2.1-1).toNat []) x):=by
 have hw:=hv.wok (i:=(m.2.1-1).toNat) (by have:=hm.ep; omega)
 unfold eO
 by_cases k2:x.1=2
 ·rw [if_pos k2]
  split
  ·rename_i hc
   simp only [AD,Do] at hc
   refine .step _ _ ?_
   have:=C0.stat (V:=vw views) (nv:=(views.length:Int)) (g:=g) (i:=m.1) (px x) hin k2 (by rw [hp]; exact he) (by rw [hp]; exact hc.1) (by rw [hp]; exact hc.2) (D3 (views.getD (m.2.1-1).toNat []) m.1) (fun k=>by
     rw [jC hw]
     show _↔k∈views.getD (x.2.2.2.1-1).toNat []/\_
     rw [he])
    (((CI (views.getD (m.2.1-1).toNat []) m.1).map (fun v=>((3:Int),m.1,v,m.2.1,(0:Int),x.2.2.2.2.2))).map px) (fun y hy=>by
     obtain ⟨z,hz,rfl⟩:=List.mem_map.1 hy
     obtain ⟨v,_,rfl⟩:=List.mem_map.1 hz
     exact ⟨rfl,he.symm,rfl,rfl⟩)
   rw [hp] at this
   unfold T1
   rw [ADo]
   exact this
  ·exact .none
 rw [if_neg k2]
 by_cases k3:x.1=3
 ·rw [if_pos k3]
  split
  ·exact .none
  ·rename_i hc
   split
   ·exact .none
   ·rename_i hc2
    split
    ·rename_i hb
     refine .step _ _ ?_
     have:=C0.again (V:=vw views) (nv:=(views.length:Int)) (g:=g) (i:=m.1) (px x) hin k3 (by rw [hp]; exact he.symm) (by rw [hp]; exact hb)
     rw [hp] at this
     exact this
    ·rename_i hb
     have hb':m.2.2.2.1=false:=by simpa using hb
     have hf':m.2.2.1=false:=by
      rw [hb'] at hc2
      simpa using hc2
     have hcc:(views.getD (m.2.1-1).toNat []).contains m.1=true/\(views.getD (m.2.1-1).toNat []).getD 0 0≠m.1:=by
      cases q1:(views.getD (m.2.1-1).toNat []).contains m.1 with
      | false=>rw [q1] at hc; exact absurd rfl hc
      | true =>
       rw [q1] at hc
       exact ⟨rfl,fun e=>hc (by rw [e]; simp)⟩
     refine .step _ _ ?_
     have:=C0.inst (V:=vw views) (nv:=(views.length:Int)) (g:=g) (i:=m.1) (px x) hin k3 (.inr (by rw [hp]; exact ⟨he.symm,hb',hf'⟩))
      (by show _∈views.getD (x.2.2.2.1-1).toNat []; rw [he]; exact List.contains_iff_mem.1 hcc.1) (by rw [yZ]; show SS views x.2.2.2.1≠_; rw [he]; exact hcc.2) (by show x.2.2.2.1<=_; omega)
     rw [hp] at this
     rw [<- he]
     exact this
 rw [if_neg k3]
 by_cases k4:x.1=4
 ·rw [if_pos k4]
  split
  ·rename_i hl
   refine .step _ _ ?_
   have:=C0.told (V:=vw views) (nv:=(views.length:Int)) (g:=g) (i:=m.1) (px x) hin k4 (by rw [hp]; exact he.symm) (by rw [hp]; exact hl)
   rw [hp] at this
   rw [ADo]
   exact this
  ·exact .none
 rw [if_neg k4]
 by_cases k5:x.1=5
 ·rw [if_pos k5]
  split
  ·rename_i hb
   refine .step _ _ ?_
   obtain ⟨s1,s2⟩:=hx.store k5
   have hlen:x.2.2.2.2.2.length=1:=by
    have:=hxo.shape
    rw [if_neg (by omega),if_pos k5] at this
    exact this
   have:=C0.store (V:=vw views) (nv:=(views.length:Int)) (g:=g) (i:=m.1) (px x) hin k5 (by rw [hp]; exact he.symm) (by rw [hp]; exact hb) (by rw [yZ,<- ht]; exact s1) (x.2.2.2.2.2.getD 0 (O,O,(0:Int))) (by
    show x.2.2.2.2.2=_
    match x.2.2.2.2.2,hlen with
    | [a],_=>rfl)
   rw [hp] at this
   exact this
  ·exact .none
 rw [if_neg k5]
 by_cases k7:x.1=7
 ·rw [if_pos k7]
  split
  ·rename_i hb
   refine .step _ _ ?_
   have:=C0.sure (V:=vw views) (nv:=(views.length:Int)) (g:=g) (i:=m.1) (px x) hin k7 (by rw [hp]; exact he.symm) (by rw [hp]; exact hb)
   rw [hp] at this
   exact this
  ·exact .none
 rw [if_neg k7]
 by_cases hc:(x.1=6\/x.1=8)/\m.2.2.2.2.2.2.2.2.2.1=(if x.1=8 then 2 else 1)/\m.2.2.2.2.2.2.2.2.2.2.2.1=x.2.2.2.2.1
 ·rw [if_pos hc]
  have hs:C0 (vw views) (views.length:Int) g m.1 (pm (wh m x.2.1)) []:=by
   have:=C0.less (V:=vw views) (nv:=(views.length:Int)) (g:=g) (i:=m.1) (px x) hin (by
    rw [hp]
    show (m.2.2.2.2.2.2.2.2.2.1=1/\x.1=6)\/(m.2.2.2.2.2.2.2.2.2.1=2/\x.1=8)
    have h2:=hc.2.1
    rcases hc.1 with q | q
    ·rw [if_neg (by omega)] at h2; exact .inl ⟨h2,q⟩
    ·rw [if_pos q] at h2; exact .inr ⟨h2,q⟩) (by rw [hp]; exact he.symm) (by rw [hp]; exact hc.2.2)
   rw [hp] at this
   exact this
  have h0:m.2.2.2.2.2.2.2.2.2.1≠0:=by have:=hc.2.1; split at this<;>omega
  unfold HE
  split
  ·rename_i hl
   rw [ADo,List.isEmpty_iff] at hl
   exact .done _ hs rfl h0 hl ⟨rfl,rfl,rfl,rfl,rfl⟩
  ·exact .step _ _ hs
 ·rw [if_neg hc]
  exact .none
theorem ABZ {views:List (List Int)} {m:AE} {x:Bc} {g:PG} (hv:SX views) (hm:Kb m) (h:V1 views m) (hx:V2 views x) (hxo:XOk x) (hp:g.mem m.1=pm m) (hin:px x∈g.fly) :
  ze (vw views) (views.length:Int) g m (D4 m views x):=by
 unfold D4
 split
 ·rename_i hc
  simp only [AD,decide_eq_true_eq,beq_iff_eq] at hc
  obtain ⟨⟨⟨hmo,h1⟩,h2⟩,h3⟩:=hc
  split
  ·rename_i he
   exact ACh hv hm h hx hxo (by omega) h1 he hp hin
  ·rename_i hne
   split
   ·rename_i hs
    simp only [AD,beq_iff_eq] at hs
    refine .step _ _ ?_
    have:=C0.closes (V:=vw views) (nv:=(views.length:Int)) (g:=g) (i:=m.1) (px x) hin (by rw [hp]; exact hs.1.1.2) (by rw [hp]; exact hs.1.2) h3
    rw [hp] at this
    exact this
   ·split
    ·rename_i hs
     simp only [AD,beq_iff_eq,bne_iff_ne] at hs
     refine .step _ _ ?_
     have:=C0.inst (V:=vw views) (nv:=(views.length:Int)) (g:=g) (i:=m.1) (px x) hin hs.1.1 (.inl (by rw [hp]; show m.2.1<x.2.2.2.1; omega)) (List.contains_iff_mem.1 hs.1.2) hs.2 h3
     rw [hp] at this
     exact this
    ·exact .none
 ·exact .none
end Go.Proofs.YtokiohnjegbnpaaGreat.Core
