/- Texts of the proof, packed: part 6. -/
import Derived.Test.YtokiohnjegbnpaaGreatP4
import Derived.JoinedOf
import Derived.Test.YtokiohnjegbnpaaGreatRows
import Derived.ProofKit
set_option linter.unusedVariables false
set_option linter.unusedSimpArgs false
namespace Go.Proofs.YtokiohnjegbnpaaGreat.Core
open Go
abbrev l_:Type:=Int×ByteArray×ByteArray×Int×Int×Int×Int×Int×ByteArray
theorem H5 x:Eg x=some (decide (0<=x.2.2.2.2.1)):=vU rfl
def eN (a b:l_):Bool:=decide (0<=a.2.2.2.2.1)&&decide (0<=b.2.2.2.2.1)&&(decide (EY a=EY b)||(decide (a.2.2.2.2.1<b.2.2.2.1)&&decide (EY b<=EY a)))
def fm (a:l_) (i:Nat):Nat->List l_->Bool
 | _,[]=>true
 | j,b::r=>(decide (i=j)||!eN a b)&&fm a i (j+1) r
def qw (x:List l_):Nat->List l_->Bool
 | _,[]=>true
 | i,a::r=>fm a i 0 x&&qw x (i+1) r
theorem oF (x) (h:x.length<=maxLen):VM x=some (qw x 0 x):=vM (by
 have hm:x.length<=9223372036854775807:=h
 unfold gC
 exact E3 (n:=x.length) (P:=fun i=>KH x (i:Int)=some (qw x i (x.drop i))) (Wc (by
  unfold Ou
  rw [if_neg (by simp),List.drop_length]
  rfl)) (fun i hi ih=>Wc (by
  unfold Ou
  simp only [show ((i:Int)<(x.length:Int)) from by omega,decide_true,if_true]
  rw [BL hi]
  have:=E3 (n:=x.length) (P:=fun j=>Df x (i:Int) (j:Int)=some (fm x[i] i j (x.drop j)&&qw x (i+1) (x.drop (i+1)))) (Wb (by
   unfold Ot
   rw [if_neg (by simp),List.drop_length,AM (show i<9223372036854775807 by omega),ih]
   rfl)) (fun j hj ihj=>Wb (by
   have w2:∀ b,decide (0<=x[i].2.2.2.2.1)=true->decide (0<=x[j].2.2.2.2.1)=true->Oq x (i:Int) (j:Int) b x[i] x[j]=some (!eN x[i] x[j]&&(fm x[i] i (j+1) (x.drop (j+1))&&qw x (i+1) (x.drop (i+1)))):=fun b g1 g2=>m4 (by
    unfold Wa eN
    simp only [Qp,Y,AM (show j<9223372036854775807 by omega),ihj,g1,g2,Bool.true_and]
    by_cases e1:EY x[i]=EY x[j]
    ·simp [e1]
    ·by_cases e2:x[i].2.2.2.2.1<x[j].2.2.2.1<;>by_cases e3:EY x[j]<=EY x[i]<;>simp [e1,e2,e3])
   unfold Ot
   simp only [show ((i:Int)<(x.length:Int)) from by omega,show ((j:Int)<(x.length:Int)) from by omega,decide_true,if_true,show (0:Int)<=(i:Int) from by omega,show (0:Int)<=(j:Int) from by omega,Aj,AW hi,AW hj,AM (show j<9223372036854775807 by omega),ihj]
   rw [BL hj]
   by_cases g1:x[i].2.2.2.2.1<0
   ·have:eN x[i] x[j]=false:=by unfold eN; simp [show ¬ 0<=x[i].2.2.2.2.1 by omega]
    simp [g1,fm,this]
   ·by_cases g2:x[j].2.2.2.2.1<0
    ·have:eN x[i] x[j]=false:=by unfold eN; simp [show ¬ 0<=x[j].2.2.2.2.1 by omega]
     simp [g1,g2,fm,this]
    ·by_cases e:i=j
     ·subst e
      simp [g1,fm]
     ·have:=w2 ((i:Int)==(j:Int)) (by simpa using g1) (by simpa using g2)
      have ne:((i:Int)==(j:Int))=false:=by simp; omega
      rw [ne] at this
      simp [g1,g2,fm,e,ne,this,Bool.and_assoc])) 0 (by omega)
  exact this)) 0 (by omega))
theorem oG (x) (h:x.length<=maxLen):VL x=some (qw x 0 x):=vL (by
 have hm:x.length<=9223372036854775807:=h
 unfold gA
 exact E3 (n:=x.length) (P:=fun i=>KG x x (x.length:Int) (i:Int)=some (qw x i (x.drop i))) (WX (by
  unfold Oo
  rw [if_neg (by simp),List.drop_length]
  rfl)) (fun i hi ih=>WX (by
  unfold Oo
  simp only [show ((i:Int)<(x.length:Int)) from by omega,decide_true,if_true,show (0:Int)<=(i:Int) from by omega,Aj,AW hi]
  rw [BL hi]
  have:=E3 (n:=x.length) (P:=fun j=>De x (i:Int) x (x.length:Int) (i:Int) x (x.length:Int) (j:Int) x[i]=some (fm x[i] i j (x.drop j)&&qw x (i+1) (x.drop (i+1)))) (WW (by
   unfold On
   rw [if_neg (by simp),List.drop_length,AM (show i<9223372036854775807 by omega),ih]
   rfl)) (fun j hj ihj=>WW (by
   have w2:∀ b,decide (0<=x[i].2.2.2.2.1)=true->decide (0<=x[j].2.2.2.2.1)=true->Om x (i:Int) x (x.length:Int) (i:Int) x (x.length:Int) (j:Int) b x[i] x[j]=some (!eN x[i] x[j]&&(fm x[i] i (j+1) (x.drop (j+1))&&qw x (i+1) (x.drop (i+1)))):=fun b g1 g2=>mz (by
    unfold WV eN
    simp only [Qq,Y,AM (show j<9223372036854775807 by omega),ihj,g1,g2,Bool.true_and]
    by_cases e1:EY x[i]=EY x[j]
    ·simp [e1]
    ·by_cases e2:x[i].2.2.2.2.1<x[j].2.2.2.1<;>by_cases e3:EY x[j]<EY x[i]<;>simp [e1,e2,e3]<;>intro h<;>omega)
   unfold On
   simp only [show ((j:Int)<(x.length:Int)) from by omega,decide_true,if_true,show (0:Int)<=(j:Int) from by omega,Aj,AW hj,AM (show j<9223372036854775807 by omega),ihj,H5,Y]
   rw [BL hj]
   by_cases e:i=j
   ·subst e
    simp [fm]
   ·have ne:((i:Int)==(j:Int))=false:=by simp; omega
    by_cases g1:0<=x[i].2.2.2.2.1
    ·by_cases g2:0<=x[j].2.2.2.2.1
     ·have:=w2 false (by simpa using g1) (by simpa using g2)
      simp [g1,g2,fm,e,ne,this,Bool.and_assoc]
     ·have:eN x[i] x[j]=false:=by unfold eN; simp [g2]
      simp [g1,g2,fm,this,ne]
    ·have:eN x[i] x[j]=false:=by unfold eN; simp [g1]
     simp [g1,fm,this,ne])) 0 (by omega)
  exact this)) 0 (by omega))

theorem iw (x:List Int) (hx:x.length<=1048576):∃ v es,QB x=some (v,es)/\TV v/\es.length<=69/\∀ e∈es,MA e=true:=by
 obtain ⟨d,e0,k0⟩:=n8 x (by unfold maxLen; omega)
 obtain ⟨v,es,d1,e1,k1,hv,hl,he⟩:=lh x d hx k0
 refine ⟨v,es,pU ?_,hv,hl,he⟩
 unfold Zn
 rw [e0,Y,e1,Y]
theorem mA {g:AS} {n:Nat} (hg:Iz g n) (h3:V3 g) {i:Nat} (hi:i<6) (hs:(Az g i).2.2.2.2.2.1=true):(Az g i).2.1<=(g.1.length:Int)/\R6 g.1 (Az g i).2.1=(i:Int)+1:=by
 obtain ⟨m1,m2⟩:=hg.mem i hi
 obtain ⟨l1,l2⟩:=(h3.mem i hi).lead (m1.serves hs).2.1
 exact ⟨l1,by rw [l2,m2]⟩

theorem ACg (a:IC):P5 AI a a=true:=by simp [P5]
theorem bc (x:List IC) (h:x.length<=68719476736):Og x x=some true:=mx (by
 unfold WS
 rw [if_neg (by simp)]
 exact E3 (n:=x.length) (P:=fun i=>HU x x (i:Int)=some true) (RF (by
  unfold Kf
  rw [if_neg (by simp)])) (fun i hi ih=>RF (by
  unfold Kf
  rw [if_pos (by simpa using hi),if_pos (by omega),if_pos (by omega),if_pos (by omega),if_pos (by omega),ACg,if_neg (by simp),AM (by omega)]
  exact ih)) 0 (by omega))
theorem wL (a:IC) (i:Nat):∀ (y:List IC) (j:Nat),(∀ k (h:k<y.length),i≠j+k->eN a y[k]=false)->fm a i j y=true
 | [],_,_=>rfl
 | b::y,j,h=>by
  unfold fm
  rw [wL a i y (j+1) (fun k hk hne=>by have:=h (k+1) (by simp; omega) (by omega); simpa using this),Bool.and_true]
  by_cases e:i=j
  ·simp [e]
  ·have:=h 0 (by simp) (by omega)
   rw [show eN a b=false from this]
   simp
theorem wM (x:List IC):∀ (y:List IC) (i:Nat),(∀ k (h:k<y.length),∀ j (hj:j<x.length),i+k≠j->eN y[k] x[j]=false)->qw x i y=true
 | [],_,_=>rfl
 | a::y,i,h=>by
  unfold qw
  rw [wM x y (i+1) (fun k hk j hj hne=>by have:=h (k+1) (by simp; omega) j hj (by omega); simpa using this),Bool.and_true]
  exact wL a i x 0 fun k hk hne=>by have:=h 0 (by simp) k hk (by omega); simpa using this
theorem ui {g:AS} {n:Nat} {now:Int} {vr:Nat->Int} (hg:Iz g n) (ha:ul (vw g.1) (g.1.length:Int) (pg g) vr now):(∀ k l,vr k≠0->vr k=vr l->k=l)/\(∀ k (hk:k<g.2.2.2.length),0<=(g.2.2.2[k]).2.2.2.2.1->vr k=EY g.2.2.2[k]/\vr k≠0/\EY g.2.2.2[k]=1000*(g.2.2.2[k]).2.2.2.2.2.2.1+(g.2.2.2[k]).2.2.2.2.2.2.2.1/\(g.2.2.2[k]).2.2.2.1<=(g.2.2.2[k]).2.2.2.2.1/\1<=(g.2.2.2[k]).2.2.2.2.2.2.1/\(g.2.2.2[k]).2.2.2.2.2.2.1<=9/\1<=(g.2.2.2[k]).2.2.2.2.2.2.2.1/\(g.2.2.2[k]).2.2.2.2.2.2.2.1<=900) /\
  (∀ k l (hk:k<g.2.2.2.length) (hl:l<g.2.2.2.length),0<=(g.2.2.2[k]).2.2.2.2.1->0<=(g.2.2.2[l]).2.2.2.2.1->(g.2.2.2[k]).2.2.2.2.1<(g.2.2.2[l]).2.2.2.1->vr k<vr l):=by
 have hget:∀ k (hk:k<g.2.2.2.length),(pg g).calls[k]? = some (pc g.2.2.2[k]):=fun k hk=>by
  show (g.2.2.2.map pc)[k]? = _
  rw [Cn,List.getElem?_eq_getElem hk]; rfl
 have hep:∀ i,((pg g).mem i).ep<=9:=fun i=>by
  by_cases hi:1<=i/\i<=6
  ·rw [Ta hi]; exact (hg.mem (i-1).toNat (by omega)).1.ep.2
  ·rw [show (pg g).mem i=oD from if_neg hi]; decide
 refine ⟨ha.t.inj,fun k hk hd=>?_,fun k l hk hl h1 h2 h3=>ha.t.or k l _ _ (hget k hk) (hget l hl) h1 h2 h3⟩
 obtain ⟨d1,d2,d3,d4,d5,d6,d7⟩:=ha.t.dn k _ (hget k hk) hd
 generalize g.2.2.2[k]=c at *
 change vr k=1000*c.2.2.2.2.2.2.1+c.2.2.2.2.2.2.2.1 at d1
 change 1<=c.2.2.2.2.2.2.1 at d2
 change 1<=c.2.2.2.2.2.2.2.1 at d3
 change c.2.2.2.2.2.2.2.1<=900 at d4
 change c.2.2.2.1<=c.2.2.2.2.1 at d7
 obtain ⟨e,n,x1,x2,x3,x4,x5,x6⟩:=ha.t.st k (by omega)
 have:=hep (Cx (vw g.1) e)
 have hee:e=c.2.2.2.2.2.2.1:=by omega
 have hst:EY c=1000*c.2.2.2.2.2.2.1+c.2.2.2.2.2.2.2.1:=by
  unfold EY
  rw [if_pos (by simp only [AD,decide_eq_true_eq]; omega),Ae (show -9223372036854775808<=1000*c.2.2.2.2.2.2.1/\1000*c.2.2.2.2.2.2.1<=9223372036854775807 by omega),Ae (by omega)]
 exact ⟨by rw [hst]; exact d1,by omega,hst,d7,d2,by omega,d3,d4⟩
theorem AAL {g:AS} {n:Nat} {now:Int} (hg:Iz g n) (h:Ei g now):qw g.2.2.2 0 g.2.2.2=true:=by
 obtain ⟨vr,ha⟩:=h
 obtain ⟨inj,dn,od⟩:=ui hg ha
 refine wM _ _ 0 fun k hk j hj hne=>?_
 rw [Nat.zero_add] at hne
 unfold eN
 by_cases h1:0<=(g.2.2.2[k]).2.2.2.2.1
 ·by_cases h2:0<=(g.2.2.2[j]).2.2.2.2.1
  ·obtain ⟨a1,a2,_⟩:=dn k hk h1
   obtain ⟨b1,b2,_⟩:=dn j hj h2
   have hs:¬ EY g.2.2.2[k]=EY g.2.2.2[j]:=fun e=>hne (inj k j a2 (by rw [a1,b1,e]))
   rw [decide_eq_false hs,Bool.false_or]
   by_cases h3:(g.2.2.2[k]).2.2.2.2.1<(g.2.2.2[j]).2.2.2.1
   ·have:=od k j hk hj h1 h2 h3
    rw [decide_eq_false (show ¬ EY g.2.2.2[j]<=EY g.2.2.2[k] by omega),Bool.and_false,Bool.and_false]
   ·rw [decide_eq_false h3,Bool.false_and,Bool.and_false]
  ·rw [decide_eq_false h2,Bool.and_false,Bool.false_and]
 ·rw [decide_eq_false h1,Bool.false_and,Bool.false_and]

def XY (g x:l_):Bool:=(x.1==1)&&(x.2.1.toList==g.2.1.toList)&&(x.2.2.1.toList==g.2.2.2.2.2.2.2.2.toList)&&(decide (x.2.2.2.2.1<0)||(x.2.2.2.2.2.1==g.2.2.2.2.2.1))
theorem mB x g:Sj x g=some (XY g x):=tt (by
 unfold dh XY
 simp only [H5,Y]
 by_cases a:x.1=1<;>by_cases b:x.2.1.toList=g.2.1.toList<;>by_cases c:x.2.2.1.toList=g.2.2.2.2.2.2.2.2.toList<;>by_cases d:0<=x.2.2.2.2.1<;>simp [a,b,c,d]<;>omega)
theorem oH g x:VP g x=some (XY g x):=vV (by
 unfold gF XY
 by_cases a:x.1=1<;>by_cases b:x.2.1.toList=g.2.1.toList<;>by_cases c:x.2.2.1.toList=g.2.2.2.2.2.2.2.2.toList<;>by_cases d:x.2.2.2.2.1<0<;>simp [a,b,c,d])
theorem qx (x:List l_) (g) (h:x.length<=maxLen):X3 x g=some (x.any (XY g)):=xy (by
 have hm:x.length<=9223372036854775807:=h
 have:∃ r,BF x g (x.length:Int) ((0:Nat):Int)=some r/\decide (r>=0)=(x.drop 0).any (XY g) :=
  E3 (n:=x.length) (P:=fun i=>∃ r,BF x g (x.length:Int) (i:Int)=some r/\decide (r>=0)=(x.drop i).any (XY g))
   ⟨-1,CZ (by
    unfold Bg
    rw [if_neg (by simp)]),by simp⟩
   (fun i hi ⟨r,hr,hd⟩=>by
    have e:=mB x[i] g
    cases q:XY g x[i] with
    | true =>
     refine ⟨i,CZ ?_,by rw [BL hi,List.any_cons,q,Bool.true_or]; simp⟩
     unfold Bg
     simp only [show ((i:Int)<(x.length:Int)) from by omega,decide_true,if_true,show (0:Int)<=(i:Int) from by omega,Aj,AW hi,e,q,Y]
    | false =>
     refine ⟨r,CZ ?_,by rw [hd,BL hi,List.any_cons,q,Bool.false_or]⟩
     unfold Bg
     simp only [show ((i:Int)<(x.length:Int)) from by omega,decide_true,if_true,show (0:Int)<=(i:Int) from by omega,Aj,AW hi,e,q,Y,AM (show i<9223372036854775807 by omega),hr]
     simp) 0 (by omega)
 obtain ⟨r,hr,hd⟩:=this
 unfold kK
 have e1:Cr x g=some r:=Jm (by unfold Ey; exact hr)
 have e2:CY x g=some (decide (r>=0)):=Io (by
  unfold EC
  rw [e1]
  rfl)
 rw [e2,hd]
 rfl)
def JB (x:List l_) (g:l_):Bool :=
 if g.1=2 then
  if 0<=g.2.2.2.2.1 then
   if g.2.2.2.2.2.1=0 then g.2.2.2.2.2.2.2.2.toList==(⟨#[]⟩:ByteArray).toList
   else x.any (XY g)&&!decide (g.2.2.2.2.2.1>EY g)
  else true
 else true
theorem qy (x) (h:x.length<=maxLen):Xy x=some (x.all (JB x)):=xo (by
 have hm:x.length<=9223372036854775807:=h
 unfold jx
 have:=E3 (n:=x.length) (P:=fun i=>FH x (i:Int)=some ((x.drop i).all (JB x))) (Z2 (by
  unfold QU
  rw [if_neg (by simp)]
  simp)) (fun i hi ih=>Z2 (by
  unfold QU
  simp only [show ((i:Int)<(x.length:Int)) from by omega,decide_true,if_true,show (0:Int)<=(i:Int) from by omega,Aj,AW hi,AM (show i<9223372036854775807 by omega),ih]
  rw [BL hi,List.all_cons]
  generalize hq:(x.drop (i+1)).all (JB x)=q at *
  by_cases a:x[i].1=2
  ·by_cases b:x[i].2.2.2.2.1<0
   ·have:¬ 0<=x[i].2.2.2.2.1:=by omega
    simp [JB,a,b,this]
   ·have b':0<=x[i].2.2.2.2.1:=by omega
    have J3:∀ f,QR x (i:Int) f x[i]=some ((f&&!decide (x[i].2.2.2.2.2.1>EY x[i]))&&q):=fun f=>pr (by
     unfold Zz
     simp only [Qp,Y,AM (show i<9223372036854775807 by omega),ih]
     cases f<;>by_cases c:x[i].2.2.2.2.2.1>EY x[i]<;>simp [c])
    have L2:∀ f,Gk x (i:Int) f ((0:Nat):Int) x[i]=some (((f||(x.drop 0).any (XY x[i]))&&!decide (x[i].2.2.2.2.2.1>EY x[i]))&&q) :=
     E3 (n:=x.length) (P:=fun j=>∀ f,Gk x (i:Int) f (j:Int) x[i]=some (((f||(x.drop j).any (XY x[i]))&&!decide (x[i].2.2.2.2.2.1>EY x[i]))&&q)) (fun f=>Z1 (by
      unfold QT
      rw [if_neg (by simp),J3]
      simp)) (fun j hj ihj f=>Z1 (by
      unfold QT
      simp only [show ((j:Int)<(x.length:Int)) from by omega,decide_true,if_true,show (0:Int)<=(j:Int) from by omega,Aj,AW hj,AM (show j<9223372036854775807 by omega),ihj,oH,Y]
      rw [BL hj,List.any_cons]
      cases f<;>simp)) 0 (by omega)
    have J1:∀ d,QS x (i:Int) d x[i]=some (JB x x[i]&&q):=fun d=>pu (by
     unfold Z0
     have l2:=L2 false
     simp only [Int.ofNat_zero,Int.natCast_zero] at l2
     simp only [AM (show i<9223372036854775807 by omega),ih,l2]
     by_cases c:x[i].2.2.2.2.2.1=0
     ·cases d:x[i].2.2.2.2.2.2.2.2.toList<;>simp [JB,a,b',c,d]
     ·simp [JB,a,b',c])
    simp [a,b,J1]
  ·simp [JB,a])) 0 (by omega)
 simpa using this)
theorem qz (x) (h:x.length<=maxLen):Xx x=some (x.all (JB x)):=xn (by
 have hm:x.length<=9223372036854775807:=h
 unfold jw
 have:=E3 (n:=x.length) (P:=fun i=>FF x x (x.length:Int) (i:Int)=some ((x.drop i).all (JB x))) (Zx (by
  unfold QQ
  rw [if_neg (by simp)]
  simp)) (fun i hi ih=>Zx (by
  unfold QQ
  simp only [show ((i:Int)<(x.length:Int)) from by omega,decide_true,if_true,show (0:Int)<=(i:Int) from by omega,Aj,AW hi,AM (show i<9223372036854775807 by omega),ih,H5,Y]
  rw [BL hi,List.all_cons]
  generalize hq:(x.drop (i+1)).all (JB x)=q at *
  have J1:∀ d,x[i].1=2->0<=x[i].2.2.2.2.1->QP x x (x.length:Int) (i:Int) d x[i]=some (JB x x[i]&&q):=fun d a b'=>pp (by
   unfold Zw
   simp only [AM (show i<9223372036854775807 by omega),ih,qx x _ h,Qq,Y]
   by_cases c:x[i].2.2.2.2.2.1=0
   ·cases d:x[i].2.2.2.2.2.2.2.2.toList<;>simp [JB,a,b',c,d]
   ·cases e:x.any (XY x[i])<;>by_cases d:x[i].2.2.2.2.2.1>EY x[i]<;>simp [JB,a,b',c,d,e])
  by_cases a:x[i].1=2
  ·by_cases b:0<=x[i].2.2.2.2.1
   ·have:=J1 (!decide (0<=x[i].2.2.2.2.1)) a b
    simp [b] at this
    simp [a,b,this]
   ·simp [JB,a,b]
  ·simp [JB,a])) 0 (by omega)
 simpa using this)

def uj (a b:IC):Bool:=decide (a.1=2)&&decide (0<=a.2.2.2.2.1)&&decide (0<=b.2.2.2.2.1)&&(b.2.1.toList==a.2.1.toList)&&decide (EY b<EY a)&&decide (a.2.2.2.2.2.1<b.2.2.2.2.2.1)
theorem wN {g:AS} {n:Nat} {now:Int} {vr:Nat->Int} (hg:Iz g n) (ha:ul (vw g.1) (g.1.length:Int) (pg g) vr now) :
  (∀ k l (hk:k<g.2.2.2.length) (hl:l<g.2.2.2.length),(g.2.2.2[k]).1=2->0<=(g.2.2.2[k]).2.2.2.2.1->0<=(g.2.2.2[l]).2.2.2.2.1->(g.2.2.2[k]).2.1.toList=(g.2.2.2[l]).2.1.toList->vr l<vr k->(g.2.2.2[l]).2.2.2.2.2.1<=(g.2.2.2[k]).2.2.2.2.2.1) /\
  (∀ k (hk:k<g.2.2.2.length),0<=(g.2.2.2[k]).2.2.2.2.1->(g.2.2.2[k]).2.2.2.2.2.1<=vr k/\((g.2.2.2[k]).1=1->(g.2.2.2[k]).2.2.2.2.2.1=vr k)) /\
  (∀ k (hk:k<g.2.2.2.length),(g.2.2.2[k]).1=2->0<=(g.2.2.2[k]).2.2.2.2.1->((g.2.2.2[k]).2.2.2.2.2.1=0/\(g.2.2.2[k]).2.2.2.2.2.2.2.2=O)\/∃ l,∃ hl:l<g.2.2.2.length,(g.2.2.2[l]).1=1/\(g.2.2.2[l]).2.1.toList=(g.2.2.2[k]).2.1.toList/\(g.2.2.2[l]).2.2.1=(g.2.2.2[k]).2.2.2.2.2.2.2.2/\vr l=(g.2.2.2[k]).2.2.2.2.2.1/\1<=vr l):=by
 have hget:∀ k (hk:k<g.2.2.2.length),(pg g).calls[k]? = some (pc g.2.2.2[k]):=fun k hk=>by
  show (g.2.2.2.map pc)[k]? = _
  rw [Cn,List.getElem?_eq_getElem hk]; rfl
 refine ⟨fun k l hk hl h1 h2 h3 h4 h5=>ha.f.fr k l _ _ (hget k hk) (hget l hl) h2 h3 h1 h4 h5,fun k hk hd=>ha.f.vs k _ (hget k hk) hd,fun k hk h1 hd=>?_⟩
 rcases ha.f.gt k _ (hget k hk) hd h1 with q | ⟨y,⟨l,c,c1,c2,c3,c4,c5,c6⟩,y1,y2,y3⟩
 ·exact .inl q
 ·obtain ⟨hl,e⟩:=ACe c1
  rw [AW hl] at e
  subst e
  refine .inr ⟨l,hl,c2,?_,?_,c5.trans y2.symm,by omega⟩
  ·have h1:(g.2.2.2[l]).2.1=y.1:=c3
   rw [h1]; exact y1
  ·exact c4.trans y3.symm
theorem AAM {g:AS} {n:Nat} {now:Int} (hg:Iz g n) (h:Ei g now):g.2.2.2.all (JB g.2.2.2)=true:=by
 obtain ⟨vr,ha⟩:=h
 obtain ⟨inj,dn,od⟩:=ui hg ha
 obtain ⟨fr,vs,gt⟩:=wN hg ha
 rw [BO]
 intro c hc
 obtain ⟨k,hk,rfl⟩:=EZ hc
 unfold JB
 split
 ·rename_i h1
  split
  ·rename_i hd
   rcases gt k hk h1 hd with ⟨q1,q2⟩ | ⟨l,hl,l1,l2,l3,l4,l5⟩
   ·rw [if_pos q1,q2]
    show (ByteArray.empty.toList==ByteArray.empty.toList)=true
    exact beq_self_eq_true _
   ·rw [if_neg (by omega)]
    obtain ⟨a1,a2,_⟩:=dn k hk hd
    have b1:=(vs k hk hd).1
    rw [AD]
    refine ⟨List.any_eq_true.2 ⟨g.2.2.2[l],BZ hl,?_⟩,?_⟩
    ·unfold XY
     rw [l1,l2,l3]
     simp only [beq_self_eq_true,Bool.true_and,E5,decide_eq_true_eq,beq_iff_eq]
     by_cases hdl:0<=(g.2.2.2[l]).2.2.2.2.1
     ·right
      rw [(vs l hl hdl).2 l1,l4]
     ·left; omega
    ·rw [decide_eq_false (by omega)]; rfl
  ·rfl
 ·rfl
theorem zb {g:AS} {n:Nat} {now:Int} (hg:Iz g n) (h:Ei g now):∀ k l (hk:k<g.2.2.2.length) (hl:l<g.2.2.2.length),uj g.2.2.2[k] g.2.2.2[l]=false:=by
 obtain ⟨vr,ha⟩:=h
 obtain ⟨inj,dn,od⟩:=ui hg ha
 obtain ⟨fr,vs,gt⟩:=wN hg ha
 intro k l hk hl
 cases q:uj g.2.2.2[k] g.2.2.2[l] with
 | false=>rfl
 | true =>
  unfold uj at q
  simp only [AD,decide_eq_true_eq,beq_iff_eq] at q
  obtain ⟨⟨⟨⟨⟨q1,q2⟩,q3⟩,q4⟩,q5⟩,q6⟩:=q
  have:=fr k l hk hl q1 q2 q3 q4.symm (by rw [(dn k hk q2).1,(dn l hl q3).1]; exact q5)
  omega
theorem q_ (x:List IC) (h:x.length<=maxLen) (hf:∀ k l (hk:k<x.length) (hl:l<x.length),uj x[k] x[l]=false):X0 x=some true:=xq (by
 have hm:x.length<=9223372036854775807:=h
 unfold jz
 exact E3 (n:=x.length) (P:=fun i=>LR x (i:Int)=some true) (Z_ (by
  unfold QY
  rw [if_neg (by simp)])) (fun i hi ih=>Z_ (by
  unfold QY
  rw [if_pos (by simpa using hi)]
  exact E3 (n:=x.length) (P:=fun j=>DM x (i:Int) (j:Int)=some true) (Z9 (by
   unfold QX
   rw [if_neg (by simp),AM (show i<9223372036854775807 by omega)]
   exact ih)) (fun j hj ihj=>Z9 (by
   unfold QX
   have hz:∀ k (hk:k<x.length),x.getD k ((0:Int),O,O,(0:Int),(0:Int),(0:Int),(0:Int),(0:Int),O)=x[k]:=fun k hk=>AW hk
   have he:=hf i j hi hj
   simp only [show ((j:Int)<(x.length:Int)) from by omega,show ((i:Int)<(x.length:Int)) from by omega,decide_true,if_true,show (0:Int)<=(i:Int) from by omega,show (0:Int)<=(j:Int) from by omega,Aj,hz i hi,hz j hj,AM (show j<9223372036854775807 by omega),Qp,Y,ihj]
   unfold uj at he
   generalize x[i]=a at *
   generalize x[j]=b at *
   by_cases c1:a.1=2<;>by_cases c2:0<=a.2.2.2.2.1<;>by_cases c3:0<=b.2.2.2.2.1<;>by_cases c4:b.2.1.toList=a.2.1.toList<;>by_cases c5:EY b<EY a<;>by_cases c6:a.2.2.2.2.2.1<b.2.2.2.2.2.1<;>simp [c1,c2,c3,c4,c5,c6] at he ⊢)) 0 (by omega))) 0 (by omega))
theorem rA (x:List IC) (h:x.length<=maxLen) (hf:∀ k l (hk:k<x.length) (hl:l<x.length),uj x[k] x[l]=false):Xz x=some true:=xp (by
 have hm:x.length<=9223372036854775807:=h
 unfold jy
 exact E3 (n:=x.length) (P:=fun i=>Gl x x (x.length:Int) (i:Int)=some true) (Z7 (by
  unfold QW
  rw [if_neg (by simp)])) (fun i hi ih=>Z7 (by
  unfold QW
  have hz:∀ k (hk:k<x.length),x.getD k ((0:Int),O,O,(0:Int),(0:Int),(0:Int),(0:Int),(0:Int),O)=x[k]:=fun k hk=>AW hk
  simp only [show ((i:Int)<(x.length:Int)) from by omega,decide_true,if_true,show (0:Int)<=(i:Int) from by omega,Aj,hz i hi,AM (show i<9223372036854775807 by omega),H5,Y,ih]
  by_cases c1:x[i].1=2
  case neg=>rw [if_neg (by simpa using c1)]
  by_cases c2:0<=x[i].2.2.2.2.1
  case neg=>rw [if_pos (by simpa using c1),if_pos (by simp; omega)]
  rw [if_pos (by simpa using c1),if_neg (by simp; omega)]
  exact E3 (n:=x.length) (P:=fun j=>In x x (x.length:Int) (i:Int) x (x.length:Int) (j:Int) x[i]=some true) (Z6 (by
   unfold QV
   rw [if_neg (by simp),AM (show i<9223372036854775807 by omega)]
   exact ih)) (fun j hj ihj=>Z6 (by
   have he:=hf i j hi hj
   have w2:∀ b,(b=true->x[i].2.2.2.2.2.1<x[j].2.2.2.2.2.1->False)->Cv x b x (x.length:Int) (i:Int) x (x.length:Int) (j:Int) x[i] x[j]=some true:=fun b hb=>py (by
    unfold Z5
    rw [AM (show j<9223372036854775807 by omega),ihj]
    cases b with
    | false=>rfl
    | true=>rw [if_pos rfl,if_neg (by simpa using hb rfl)])
   unfold QV
   simp only [show ((j:Int)<(x.length:Int)) from by omega,decide_true,if_true,show (0:Int)<=(j:Int) from by omega,Aj,hz j hj,H5,Qq,Y]
   unfold uj at he
   have wf:=w2 false (fun h=>by cases h)
   have wt:x[j].2.1.toList=x[i].2.1.toList->0<=x[j].2.2.2.2.1->Cv x (decide (EY x[j]<EY x[i])) x (x.length:Int) (i:Int) x (x.length:Int) (j:Int) x[i] x[j]=some true:=fun c4 c3=>w2 _ (fun h5 h6=>by
    simp [c1,c2,c3,c4,of_decide_eq_true h5,h6] at he)
   generalize x[i]=a at *
   generalize x[j]=b at *
   by_cases d1:b.1=1<;>by_cases d2:b.1=2<;>by_cases c4:b.2.1.toList=a.2.1.toList<;>by_cases c3:0<=b.2.2.2.2.1<;>simp [d1,d2,c3,c4,wf,wt])) 0 (by omega))) 0 (by omega))

theorem ABY {β:Type} {n:Nat} {L:Nat->Option β} {b:Nat->Bool} {e s:β} (h0:L n=some e) (h:∀ i,i<n->∀ w,L (i+1)=some w->L i=some (if b i=true then w else s)) :
  ∀ i,i<=n->L i=some (if (List.range' i (n-i)).all b=true then e else s):=by
 refine E3 (P:=fun i=>L i=some (if (List.range' i (n-i)).all b=true then e else s)) (by simp [h0]) fun i hi ih=>?_
 rw [h i hi _ ih,show n-i=(n-(i+1))+1 from by omega,List.range'_succ,List.all_cons]
 by_cases hb:b i=true
 ·rw [if_pos hb,hb,Bool.true_and]
 ·have hb':b i=false:=by simpa using hb
  rw [if_neg hb,hb',Bool.false_and]
  rfl
theorem HL {β:Type} {n:Nat} {L:Nat->Option β} {b:Nat->Bool} {e s:β} (h0:L n=some e) (h:∀ i,i<n->∀ w,L (i+1)=some w->L i=some (if b i=true then w else s)) :
  L 0=some (if (List.range n).all b=true then e else s):=by
 have:=ABY h0 h 0 (by omega)
 rwa [Nat.sub_zero,<- List.range_eq_range'] at this
theorem rM (b:Bool):(if b=true then true else false)=b:=by cases b<;>rfl
def PR:AP:=(O,O,0)
def oI:AE:=((0:Int),(0:Int),false,false,false,false,[],[],(0:Int),(0:Int),(0:Int),(0:Int),(O,O,(0:Int)),[])
def Ij (a b:List AP):Bool:=(a.length==b.length)&&(List.range a.length).all fun i=>P5 AF (a.getD i PR) (b.getD i PR)
theorem XZ (a b:List AP) (h:a.length<=maxLen):Kc a b=some (Ij a b):=fR (by
 have hm:a.length<=9223372036854775807:=h
 unfold RR Ij
 by_cases e:a.length=b.length
 ·rw [if_neg (by simp [e])]
  have:=HL (n:=a.length) (L:=fun i=>Fp a b (i:Int)) (b:=fun i=>P5 AF (a.getD i PR) (b.getD i PR)) (e:=true) (s:=false) (Nd (by
   unfold IY
   rw [if_neg (by simp)])) (fun i hi w hw=>Nd (by
   unfold IY
   rw [if_pos (by simpa using hi),if_pos (by omega),if_pos (by omega),if_pos (by omega),if_pos (by omega),Aj,AM (show i<9223372036854775807 by omega),hw]
   show _=some (if P5 AF (a.getD i (O,O,(0:Int))) (b.getD i (O,O,(0:Int)))=true then w else false)
   generalize P5 AF (a.getD i (O,O,(0:Int))) (b.getD i (O,O,(0:Int)))=q
   cases q<;>rfl))
  simp only [e,beq_self_eq_true,Bool.true_and]
  rw [show ((0:Int))=((0:Nat):Int) from rfl,this]
  rw [e]
  cases (List.range b.length).all fun i=>P5 AF (a.getD i PR) (b.getD i PR)<;>rfl
 ·rw [if_pos (by simpa using fun q=>e (by omega))]
  simp [e])
theorem Jv (a b:List AP) (h:a.length<=maxLen):DS a b=some (Ij a b):=L7 (by
 have hm:a.length<=9223372036854775807:=h
 unfold GO Ij
 by_cases e:a.length=b.length
 ·rw [if_neg (by simp [e])]
  have:=HL (n:=a.length) (L:=fun i=>By a b (a.length:Int) (i:Int)) (b:=fun i=>P5 AF (a.getD i PR) (b.getD i PR)) (e:=true) (s:=false) (E9 (by
   unfold C5
   rw [if_neg (by simp)])) (fun i hi w hw=>E9 (by
   unfold C5
   rw [if_pos (by simpa using hi),if_pos (by omega),if_pos (by omega),if_pos (by omega),if_pos (by omega),Aj,AM (show i<9223372036854775807 by omega),hw]
   show _=some (if P5 AF (a.getD i (O,O,(0:Int))) (b.getD i (O,O,(0:Int)))=true then w else false)
   generalize P5 AF (a.getD i (O,O,(0:Int))) (b.getD i (O,O,(0:Int)))=q
   cases q<;>rfl))
  simp only [e,beq_self_eq_true,Bool.true_and]
  rw [e] at this
  rw [show ((0:Int))=((0:Nat):Int) from rfl,this]
  cases (List.range b.length).all fun i=>P5 AF (a.getD i PR) (b.getD i PR)<;>rfl
 ·rw [if_pos (by simpa using fun q=>e (by omega))]
  simp [e])
def Ej (g:AS) (e:Int):List Int:=if 1<=e/\e<=(g.1.length:Int) then g.1.getD (e-1).toNat [] else []
theorem OX (e:Int) (g:AS) (h:g.1.length<=maxLen):JH e g=some (Ej g e,g):=kL (by
 have hm:g.1.length<=9223372036854775807:=h
 unfold Uf Ej
 rw [Av,Y]
 by_cases c:1<=e/\e<=(g.1.length:Int)
 ·rw [if_neg (by simp [c.1,c.2]),Ae (by omega),if_pos (by omega),if_pos (by omega),if_pos c]
 ·rw [if_pos (by rw [<- Bool.decide_and,decide_eq_false c]; rfl),if_neg c])
def AL (g:AS) (i:Nat):AE:=g.2.1.getD i oI
def MD (g:AS) (m:AE):Bool:=!((Ej g m.2.1).length==0)&&(Ej g m.2.1).getD 0 0==m.1
def YQ (g:AS):Bool:=(List.range g.2.1.length).all fun i=>!(AL g i).2.2.2.2.2.1||(MD g (AL g i)&&(List.range i).all fun k=>!((AL g k).2.2.2.2.2.1&&(AL g k).2.1==(AL g i).2.1))
theorem eO (g:AS) (h1:g.1.length<=maxLen) (h2:g.2.1.length<=maxLen):Oi g=some (YQ g):=m6 (by
 have hm1:g.1.length<=9223372036854775807:=h1
 have hm2:g.2.1.length<=9223372036854775807:=h2
 unfold We
 have key:=HL (n:=g.2.1.length) (L:=fun i=>FV (i:Int) g) (b:=fun i=>!(AL g i).2.2.2.2.2.1||(MD g (AL g i)&&(List.range i).all fun k=>!((AL g k).2.2.2.2.2.1&&(AL g k).2.1==(AL g i).2.1))) (e:=true) (s:=false) (RM (by
  unfold Kk
  rw [if_neg (by simp)])) (fun i hi w hw=>RM (by
  unfold Kk
  have hgd:(g.2.1.getD (i:Int).toNat ((0:Int),(0:Int),false,false,false,false,([]:List Int),([]:List AP),(0:Int),(0:Int),(0:Int),(0:Int),(O,O,(0:Int)),([]:List Int)))=AL g i:=rfl
  rw [if_pos (by simpa using hi),if_pos (by omega),if_pos (by omega)]
  simp only [hgd,Ay,Y,AM (show i<9223372036854775807 by omega),hw]
  have inner:D6 (i:Int) 0 g (AL g i)=some (if (List.range i).all (fun k=>!((AL g k).2.2.2.2.2.1&&(AL g k).2.1==(AL g i).2.1))=true then w else false):=by
   refine HL (n:=i) (L:=fun k=>D6 (i:Int) (k:Int) g (AL g i)) (RL (by
    unfold Kj
    rw [if_neg (by simp),AM (show i<9223372036854775807 by omega)]
    exact hw)) (fun k hk u hu=>RL (by
    unfold Kj
    have hgk:(g.2.1.getD (k:Int).toNat ((0:Int),(0:Int),false,false,false,false,([]:List Int),([]:List AP),(0:Int),(0:Int),(0:Int),(0:Int),(O,O,(0:Int)),([]:List Int)))=AL g k:=rfl
    rw [if_pos (by simpa using hk),if_pos (by omega),if_pos (by omega)]
    simp only [hgk,show (0:Int)<=(k:Int) from by omega,show (k:Int)<(g.2.1.length:Int) from by omega,if_true,AM (show k<9223372036854775807 by omega),hu]
    cases (AL g k).2.2.2.2.2.1<;>cases ((AL g k).2.1==(AL g i).2.1)<;>simp))
  generalize (List.range i).all (fun k=>!((AL g k).2.2.2.2.2.1&&(AL g k).2.1==(AL g i).2.1))=q at inner ⊢
  cases hs:(AL g i).2.2.2.2.2.1
  ·simp
  ·simp only [Bool.not_true,Bool.false_or,Bool.false_eq_true,if_false]
   unfold MD Ej
   by_cases c:1<=(AL g i).2.1/\(AL g i).2.1<=(g.1.length:Int)
   ·rw [if_neg (by simp [c.1,c.2]),Ae (by omega),if_pos (by omega),if_pos (by omega),if_pos c]
    generalize g.1.getD ((AL g i).2.1-1).toNat []=v
    by_cases c2:v.length=0
    ·rw [if_pos (by simp [c2])]
     simp [c2]
    ·rw [if_neg (by simp only [beq_iff_eq]; omega),if_pos (by omega),if_pos (by omega),if_pos (by omega),if_pos (by omega),Int.toNat_zero]
     have hv:(!v.length==0)=true:=by simp [c2]
     by_cases c3:v.getD 0 0=(AL g i).1
     ·rw [if_neg (by simpa using c3),inner,hv,c3,beq_self_eq_true,Bool.true_and,Bool.true_and]
     ·rw [if_pos (by simpa using c3)]
      have hv2:(v.getD 0 0==(AL g i).1)=false:=by simpa using c3
      rw [hv2]
      simp
   ·rw [if_pos (by rw [<- Bool.decide_and,decide_eq_false c]; rfl),if_neg c]
    simp))
 rw [rM] at key
 exact key)
theorem eP (g:AS) (h1:g.1.length<=maxLen) (h2:g.2.1.length<=maxLen):Oh g=some (YQ g):=m5 (by
 have hm1:g.1.length<=9223372036854775807:=h1
 have hm2:g.2.1.length<=9223372036854775807:=h2
 unfold Wd
 have key:=HL (n:=g.2.1.length) (L:=fun i=>FU g.2.1 (g.2.1.length:Int) (i:Int) g.1 g.2.1 g.2.2.1 g.2.2.2) (b:=fun i=>!(AL g i).2.2.2.2.2.1||(MD g (AL g i)&&(List.range i).all fun k=>!((AL g k).2.2.2.2.2.1&&(AL g k).2.1==(AL g i).2.1))) (e:=true) (s:=false) (RJ (by
  unfold Ki
  rw [if_neg (by simp)])) (fun i hi w hw=>RJ (by
  unfold Ki
  have hgd:(g.2.1.getD (i:Int).toNat ((0:Int),(0:Int),false,false,false,false,([]:List Int),([]:List AP),(0:Int),(0:Int),(0:Int),(0:Int),(O,O,(0:Int)),([]:List Int)))=AL g i:=rfl
  rw [if_pos (by simpa using hi),if_pos (by omega),if_pos (by omega)]
  simp only [hgd,OX _ (g.1,g.2.1,g.2.2.1,g.2.2.2) h1,Y,AM (show i<9223372036854775807 by omega),hw]
  have inner:∀ b,Kg (i:Int) g.2.1 (g.2.1.length:Int) (i:Int) b g (AL g i)=some (if (List.range i).all (fun k=>!((AL g k).2.2.2.2.2.1&&(AL g k).2.1==(AL g i).2.1))=true then w else false):=fun b=>fM (by
   unfold RH
   have hl:((g.2.1.take (i:Int).toNat).drop (0:Int).toNat)=g.2.1.take i:=by simp
   have hl2:(g.2.1.take i).length=i:=by rw [List.length_take]; omega
   rw [if_pos (by omega),if_pos (by omega),if_pos (by omega),hl,hl2]
   refine HL (n:=i) (L:=fun k=>FT g.2.1 (g.2.1.length:Int) (i:Int) (g.2.1.take i) (i:Int) (k:Int) g (AL g i)) (RI (by
    unfold Kh
    rw [if_neg (by simp),AM (show i<9223372036854775807 by omega)]
    exact hw)) (fun k hk u hu=>RI (by
    unfold Kh
    have hgk:((g.2.1.take i).getD (k:Int).toNat ((0:Int),(0:Int),false,false,false,false,([]:List Int),([]:List AP),(0:Int),(0:Int),(0:Int),(0:Int),(O,O,(0:Int)),([]:List Int)))=AL g k:=by
     show (g.2.1.take i).getD k oI=g.2.1.getD k oI
     rw [AW (by omega),AW (by omega),List.getElem_take]
    rw [if_pos (by simpa using hk),if_pos (by omega),if_pos (by omega)]
    simp only [hgk,if_true,AM (show k<9223372036854775807 by omega),hu]
    cases (AL g k).2.2.2.2.2.1<;>cases ((AL g k).2.1==(AL g i).2.1)<;>simp)))
  generalize (List.range i).all (fun k=>!((AL g k).2.2.2.2.2.1&&(AL g k).2.1==(AL g i).2.1))=q at inner ⊢
  have hview:Ej (g.1,g.2.1,g.2.2.1,g.2.2.2) (AL g i).2.1=Ej g (AL g i).2.1:=rfl
  rw [hview]
  cases hs:(AL g i).2.2.2.2.2.1
  ·simp
  ·simp only [Bool.not_true,Bool.false_or,Bool.false_eq_true,if_false]
   unfold MD
   generalize Ej g (AL g i).2.1=v
   by_cases c2:v.length=0
   ·rw [if_pos (by simp [c2])]
    simp [c2]
   ·rw [if_neg (by simp only [beq_iff_eq]; omega),if_pos (by omega),if_pos (by omega),Int.toNat_zero]
    have hv:(!v.length==0)=true:=by simp [c2]
    by_cases c3:v.getD 0 0=(AL g i).1
    ·rw [if_neg (by simpa using c3),show ((g.1,g.2.1,g.2.2.1,g.2.2.2):AS)=g from rfl,inner,hv,c3,beq_self_eq_true,Bool.true_and,Bool.true_and]
    ·rw [if_pos (by simpa using c3)]
     have hv2:(v.getD 0 0==(AL g i).1)=false:=by simpa using c3
     rw [hv2]
     simp))
 rw [rM] at key
 exact key)
theorem uk (x:AP):P5 AF x x=true:=by simp [P5]
theorem bC (a:List AP):Ij a a=true:=by
 unfold Ij
 simp only [beq_self_eq_true,Bool.true_and,BO]
 exact fun i _=>uk _
def La (g:AS) (m x:AE):Bool:=decide (x.1∈Ej g m.2.1)&&x.2.2.2.1&&(x.2.1==m.2.1)&&!Ij x.2.2.2.2.2.2.2.1 m.2.2.2.2.2.2.2.1
def yR (g:AS):Bool:=(List.range g.2.1.length).all fun i=>!(AL g i).2.2.2.2.2.1||!((AL g i).2.2.2.2.2.2.2.2.2.1==0)||(List.range g.2.1.length).all fun k=>!La g (AL g i) (AL g k)
structure Fit (g:AS):Prop where
 n1:g.1.length<=maxLen
 n2:g.2.1.length<=maxLen
 n3:∀ e,(Ej g e).length<=maxLen
 n4:∀ k,k<g.2.1.length->(AL g k).2.2.2.2.2.2.2.1.length<=maxLen
theorem oJ (g:AS) (hx:Fit g):X2 g=some (yR g):=xv (by
 have hm1:g.1.length<=9223372036854775807:=hx.n1
 have hm2:g.2.1.length<=9223372036854775807:=hx.n2
 unfold j7
 have key:=HL (n:=g.2.1.length) (L:=fun i=>FI (i:Int) g) (b:=fun i=>!(AL g i).2.2.2.2.2.1||!((AL g i).2.2.2.2.2.2.2.2.2.1==0)||(List.range g.2.1.length).all fun k=>!La g (AL g i) (AL g k)) (e:=true) (s:=false) (aH (by
  unfold Qd
  rw [if_neg (by simp)])) (fun i hi w hw=>aH (by
  unfold Qd
  have hgd:(g.2.1.getD (i:Int).toNat ((0:Int),(0:Int),false,false,false,false,([]:List Int),([]:List AP),(0:Int),(0:Int),(0:Int),(0:Int),(O,O,(0:Int)),([]:List Int)))=AL g i:=rfl
  rw [if_pos (by simpa using hi),if_pos (by omega),if_pos (by omega)]
  simp only [hgd,Ay,Y,AM (show i<9223372036854775807 by omega),hw]
  generalize hm:AL g i=m
  cases hs:m.2.2.2.2.2.1
  ·simp
  ·by_cases ho:m.2.2.2.2.2.2.2.2.2.1=0
   ·rw [if_pos (by simp),if_pos (by simp [ho])]
    by_cases c:1<=m.2.1/\m.2.1<=(g.1.length:Int)
    ·rw [if_neg (by simp [c.1,c.2])]
     have inner:EB (i:Int) 0 g m=some (if (List.range g.2.1.length).all (fun k=>!La g m (AL g k))=true then w else false):=by
      refine HL (n:=g.2.1.length) (L:=fun k=>EB (i:Int) (k:Int) g m) (aG (by
       unfold Qc
       rw [if_neg (by simp),AM (show i<9223372036854775807 by omega)]
       exact hw)) (fun k hk u hu=>aG (by
       unfold Qc
       have hgk:(g.2.1.getD (k:Int).toNat ((0:Int),(0:Int),false,false,false,false,([]:List Int),([]:List AP),(0:Int),(0:Int),(0:Int),(0:Int),(O,O,(0:Int)),([]:List Int)))=AL g k:=rfl
       have hok:=hx.n4 k hk
       rw [if_pos (by simpa using hk),if_pos (by omega),if_pos (by omega)]
       have hv:g.1.getD (m.2.1-1).toNat []=Ej g m.2.1:=by unfold Ej; rw [if_pos c]
       simp only [hgk,AM (show k<9223372036854775807 by omega),hu,Ae (show -9223372036854775808<=m.2.1-1/\m.2.1-1<=9223372036854775807 by omega),hv,show (0:Int)<=m.2.1-1 from by omega,show m.2.1-1<(g.1.length:Int) from by omega,if_true,
        Cw _ _ (hx.n3 _),XZ _ _ hok,Y]
       unfold La
       rw [show List.contains (Ej g m.2.1) (AL g k).1=decide ((AL g k).1∈Ej g m.2.1) from List.contains_eq_mem _ _]
       generalize decide ((AL g k).1∈Ej g m.2.1)=a
       generalize (AL g k).2.2.2.1=b
       generalize ((AL g k).2.1==m.2.1)=d
       generalize Ij (AL g k).2.2.2.2.2.2.2.1 m.2.2.2.2.2.2.2.1=e
       cases a<;>cases b<;>cases d<;>cases e<;>simp))
     rw [inner]
     simp [ho]
    ·rw [if_pos (by rw [<- Bool.decide_and,decide_eq_false c]; rfl)]
     have:(List.range g.2.1.length).all (fun k=>!La g m (AL g k))=true:=by
      rw [BO]
      intro k _
      unfold La Ej
      rw [if_neg c]
      simp
     rw [this]
     simp
   ·rw [if_pos (by simp),if_neg (by simp [ho])]
    simp [ho]))
 rw [rM] at key
 exact key)
theorem oK (g:AS) (hx:Fit g):X1 g=some (yR g):=xu (by
 have hm1:g.1.length<=9223372036854775807:=hx.n1
 have hm2:g.2.1.length<=9223372036854775807:=hx.n2
 unfold j6
 have key:=HL (n:=g.2.1.length) (L:=fun i=>Gm g.2.1 (g.2.1.length:Int) (i:Int) g.1 g.2.1 g.2.2.1 g.2.2.2) (b:=fun i=>!(AL g i).2.2.2.2.2.1||!((AL g i).2.2.2.2.2.2.2.2.2.1==0)||(List.range g.2.1.length).all fun k=>!La g (AL g i) (AL g k)) (e:=true) (s:=false) (aE (by
  unfold Qb
  rw [if_neg (by simp)])) (fun i hi w hw=>aE (by
  unfold Qb
  have hgd:(g.2.1.getD (i:Int).toNat ((0:Int),(0:Int),false,false,false,false,([]:List Int),([]:List AP),(0:Int),(0:Int),(0:Int),(0:Int),(O,O,(0:Int)),([]:List Int)))=AL g i:=rfl
  rw [if_pos (by simpa using hi),if_pos (by omega),if_pos (by omega)]
  simp only [hgd,AM (show i<9223372036854775807 by omega),hw]
  generalize hm:AL g i=m
  cases hs:m.2.2.2.2.2.1
  ·simp
  ·by_cases ho:m.2.2.2.2.2.2.2.2.2.1=0
   ·rw [if_pos (by simp),if_neg (by simp [ho])]
    have inner:∀ b,QZ (i:Int) g.2.1 (g.2.1.length:Int) (i:Int) b g.1 g.2.1 g.2.2.1 g.2.2.2 m=some (if (List.range g.2.1.length).all (fun k=>!La g m (AL g k))=true then w else false):=fun b=>p_ (by
     unfold aC
     rw [OX _ (g.1,g.2.1,g.2.2.1,g.2.2.2) hx.n1,Y]
     show DN (i:Int) (Ej g m.2.1) g.2.1 (g.2.1.length:Int) (i:Int) g.2.1 (g.2.1.length:Int) 0 g m=_
     refine HL (n:=g.2.1.length) (L:=fun k=>DN (i:Int) (Ej g m.2.1) g.2.1 (g.2.1.length:Int) (i:Int) g.2.1 (g.2.1.length:Int) (k:Int) g m) (aD (by
      unfold Qa
      rw [if_neg (by simp),AM (show i<9223372036854775807 by omega)]
      exact hw)) (fun k hk u hu=>aD (by
      unfold Qa
      have hgk:(g.2.1.getD (k:Int).toNat ((0:Int),(0:Int),false,false,false,false,([]:List Int),([]:List AP),(0:Int),(0:Int),(0:Int),(0:Int),(O,O,(0:Int)),([]:List Int)))=AL g k:=rfl
      have hok:=hx.n4 k hk
      rw [if_pos (by simpa using hk),if_pos (by omega),if_pos (by omega)]
      simp only [hgk,AM (show k<9223372036854775807 by omega),hu,VG _ _ (hx.n3 _),List.contains_eq_mem,Jv _ _ hok,Y]
      by_cases hki:k=i
      ·subst hki
       rw [if_neg (by simp),hm]
       unfold La
       rw [bC]
       simp
      ·rw [if_pos (by simpa using fun q=>hki (by omega))]
       unfold La
       generalize decide ((AL g k).1∈Ej g m.2.1)=a
       generalize (AL g k).2.2.2.1=b
       generalize ((AL g k).2.1==m.2.1)=d
       generalize Ij (AL g k).2.2.2.2.2.2.2.1 m.2.2.2.2.2.2.2.1=e
       cases a<;>cases b<;>cases d<;>cases e<;>simp)))
    rw [inner]
    simp [ho]
   ·rw [if_pos (by simp),if_pos (by simp [ho])]
    simp [ho]))
 rw [rM] at key
 exact key)
theorem Iz.fit {g:AS} {n:Nat} (hg:Iz g n):Fit g:=by
 have hl:=hg.views.len
 have h6:=hg.six
 refine ⟨by unfold maxLen; omega,by unfold maxLen; omega,fun e=>?_,fun k hk=>?_⟩
 ·unfold Ej
  split
  ·have:=(hg.views.get (i:=(e-1).toNat) (by omega)).2
   unfold maxLen; omega
  ·unfold maxLen; simp
 ·have:=KT (hg.mem k (by omega)).1.items
  change (Az g k).2.2.2.2.2.2.2.1.length<=_
  unfold maxLen; omega

theorem yS {g:AS} {n:Nat} (hg:Iz g n) (h3:V3 g):YQ g=true:=by
 have h6:=hg.six
 unfold YQ
 rw [BO]
 intro i hi
 have hi:i<6:=by rw [List.mem_range,h6] at hi; exact hi
 change (!(Az g i).2.2.2.2.2.1||(MD g (Az g i)&&(List.range i).all fun k=>!((Az g k).2.2.2.2.2.1&&(Az g k).2.1==(Az g i).2.1)))=true
 cases hs:(Az g i).2.2.2.2.2.1 with
 | false=>rfl
 | true =>
  obtain ⟨a1,a2⟩:=mA hg h3 hi hs
  obtain ⟨m1,m2⟩:=hg.mem i hi
  have hep:=m1.ep
  have g1:=hg.views.get (i:=((Az g i).2.1-1).toNat) (by omega)
  rw [Bool.not_true,Bool.false_or,AD]
  refine ⟨?_,?_⟩
  ·unfold MD Ej
   rw [if_pos ⟨hep.1,a1⟩]
   have hf:(g.1.getD ((Az g i).2.1-1).toNat []).getD 0 0=(Az g i).1:=by rw [m2]; exact a2
   rw [hf,beq_self_eq_true,Bool.and_true]
   simp only [Dm,beq_eq_false_iff_ne]
   omega
  ·rw [BO]
   intro k hk
   have hk:k<i:=List.mem_range.1 hk
   cases hsk:(Az g k).2.2.2.2.2.1 with
   | false=>rfl
   | true =>
    have b2:=(mA hg h3 (show k<6 by omega) hsk).2
    have:((Az g k).2.1==(Az g i).2.1)=false:=by
     rw [beq_eq_false_iff_ne]
     intro q
     rw [q,a2] at b2
     omega
    rw [this]; rfl
theorem zc {g:AS} {n:Nat} {now:Int} (hg:Iz g n) (h:Ei g now):yR g=true:=by
 obtain ⟨vr,ha⟩:=h
 have h6:=hg.six
 unfold yR
 rw [BO]
 intro i hi
 have hi:i<6:=by rw [List.mem_range,h6] at hi; exact hi
 change (!(Az g i).2.2.2.2.2.1||!((Az g i).2.2.2.2.2.2.2.2.2.1==0)||(List.range g.2.1.length).all fun k=>!La g (Az g i) (Az g k))=true
 have hmi:∀ k:Nat,k<6->(pg g).mem ((k:Int)+1)=pm (Az g k):=fun k hk=>by
  rw [Ta (by omega),show ((k:Int)+1-1).toNat=k by omega]
 cases hs:(Az g i).2.2.2.2.2.1 with
 | false=>rfl
 | true =>
  by_cases ho:(Az g i).2.2.2.2.2.2.2.2.2.1=0
  ·rw [ho,Bool.not_true,Bool.false_or,beq_self_eq_true,Bool.not_true,Bool.false_or,BO]
   intro k hk
   have hk:k<6:=by rw [List.mem_range,h6] at hk; exact hk
   have hser:=ha.a.serv ((i:Int)+1) (by rw [hmi i hi]; exact hs)
   unfold La
   cases hb:(Az g k).2.2.2.1 with
   | false=>simp
   | true =>
    by_cases he:(Az g k).2.1=(Az g i).2.1
    ·have:=ha.e.e2 ((i:Int)+1) hser.2.1 hser.1 ((k:Int)+1) (by rw [hmi k hk]; exact hb) (by rw [hmi k hk,hmi i hi]; exact he)
     rw [hmi k hk,hmi i hi] at this
     rcases this with q | q
     ·have q:(Az g k).2.2.2.2.2.2.2.1=(Az g i).2.2.2.2.2.2.2.1:=q
      rw [q,bC]
      simp
     ·have q1:(Az g i).2.2.2.2.2.2.2.2.2.1=1:=q.1
      omega
    ·have:((Az g k).2.1==(Az g i).2.1)=false:=by rw [beq_eq_false_iff_ne]; exact he
     rw [this]
     simp
  ·have:((Az g i).2.2.2.2.2.2.2.2.2.1==(0:Int))=false:=by rw [beq_eq_false_iff_ne]; exact ho
   rw [this]; rfl
theorem zd {g:AS} {n:Nat} {now:Int} (hg:Iz g n) (hn:n<=100000) (h3:V3 g) (h:Ei g now):Ry g=some true/\Rz g=some true:=by
 have hc:=hg.clen
 have hm:g.2.2.2.length<=maxLen:=by unfold maxLen; omega
 have ht:=AAL hg h
 have hr:=AAM hg h
 have hf:=zb hg h
 have ho:=yS hg h3
 have hal:=zc hg h
 have hfit:=hg.fit
 refine ⟨xr ?_,xt ?_⟩
 ·unfold j4
  rw [oG _ hm,ht,Y,if_pos rfl,qz _ hm,hr,Y,if_pos rfl,rA _ hm hf,Y,if_pos rfl,eP _ hfit.n1 hfit.n2,ho,Y,if_pos rfl,oK _ hfit,hal,Y]
 ·unfold j5
  rw [oF _ hm,ht,Y,if_pos rfl,qy _ hm,hr,Y,if_pos rfl,q_ _ hm hf,Y,if_pos rfl,eO _ hfit.n1 hfit.n2,ho,Y,if_pos rfl,oJ _ hfit,hal,Y]
theorem eQ (x:List Int) (h:x.length<=maxLen):QE x x=some true:=p8 (by
 have hm:x.length<=9223372036854775807:=h
 unfold aA
 rw [if_neg (by simp)]
 exact E3 (n:=x.length) (P:=fun i=>IX x x (i:Int)=some true) (S9 (by
  unfold Lx
  rw [if_neg (by simp)])) (fun i hi ih=>S9 (by
  unfold Lx
  rw [if_pos (by simpa using hi),if_pos (by omega),if_pos (by omega),if_pos (by omega),if_pos (by omega),if_neg (by simp),AM (by omega)]
  exact ih)) 0 (by omega))
theorem ABZ (x) (hx:Kd.ok (.slice (.int .u8)) x):jj x=some true:=xk (by
 unfold jl
 rw [vh,Y]
 by_cases hbig:x.length<=1048576
 case neg=>rw [if_pos (by simp; omega)]
 rw [if_neg (by simp; omega)]
 obtain ⟨v,es,e,hv,hl,he⟩:=iw x hbig
 rw [e,Y]
 dsimp only
 rw [ly hv (by omega) he,Y,ld hv (by omega) he,Y]
 obtain ⟨r1,r2,r3⟩:=rI es 0 (Ai v) [] (SA hv) (by omega) he
 have h3:=V3.run es 0 (Ai v) [] (SA hv) (V3.new hv) (by omega) he
 have hp:=Ei.run es 0 (Ai v) [] (SA hv) (V3.new hv) (Ei.new hv) (by omega) he
 generalize (Js 0 es (Ai v) []).1=g at *
 generalize (Js 0 es (Ai v) []).2=cs at *
 have hc:=r1.clen
 have h6:=r1.six
 simp only [List.length_nil,Nat.zero_add] at r3
 rw [if_pos (by rfl),eQ cs (by unfold maxLen; omega),Y,if_pos (by rfl),bc _ (by omega),Y,if_pos (by rfl),if_neg (by rw [h6]; decide)]
 refine pT ?_
 unfold Zm
 have hR:=vm g _ r1 (by omega) h3 300 (by omega)
 rw [show ((300:Nat):Int)=300 from rfl] at hR
 rw [hR,Y]
 obtain ⟨q1,q2,q3,q4,q5⟩:=za 300 g _ r1 h3 hp
 obtain ⟨s1,s2⟩:=zd r1 (by omega) h3 hp
 obtain ⟨s3,s4⟩:=zd q1 (by omega) q2 q3
 rw [s1,Y,if_pos rfl,s2,Y,if_pos rfl,s3,Y,if_pos rfl,s4,Y])

theorem ACh {P:Program} {c:List Char} {rest:List (List Char)} (h:behindMainWord (wordsSigns P.initOrder.toList)=c::rest) (h1:(c == "gc".toList||c == "spec".toList)=false) (h2:(c == "cut".toList||(c == "finals".toList&&rest.head? == some "cut".toList))=true):P.make=some .cut:=by
 unfold Program.make
 rw [h]
 simp only [h1,h2]
 rfl
theorem ACi {P:Program} {c:List Char} {rest:List (List Char)} (h:behindMainWord (wordsSigns P.initOrder.toList)=c::rest) (h1:((stripLifts liftWords (c::rest)).2.head? == some "cut".toList)=true) (h2:(stripLifts liftWords (c::rest)).1=[])
  (h3:P.laysLater=false) (h4:P.bearsReflect=false) (h5:P.doorFits []=true):P.mayEnter=true:=by
 unfold Program.mayEnter
 rw [h]
 simp only [h1,h2,h3,h4,h5]
 simp
theorem ACj {P:Program} {c:List Char} {rest:List (List Char)} (h:behindMainWord (wordsSigns P.initOrder.toList)=c::rest) (h1:(c == "carried".toList)=false) (h2:(stripLifts liftWords (c::rest)).1=[]):P.liftsFinal=false:=by
 have e:(some c==some "carried".toList)=false:=h1
 unfold Program.liftsFinal Program.headLifts
 rw [h]
 simp only [List.head?_cons,e,h2]
 simp
theorem ME {a b:Bool} (h:a=true) (g:b=true):(a&&b)=true:=by rw [h,g]; rfl
theorem ACk {α:Type} [BEq α] [LawfulBEq α] {a b:α} (h:a=b):(a==b)=true:=by rw [h]; exact beq_self_eq_true b
end Go.Proofs.YtokiohnjegbnpaaGreat.Core

namespace Go.Proofs.YtokiohnjegbnpaaGreat.Core
open Go
set_option maxRecDepth 100000
def ioL:List Nat:=[104,97,114,110,101,115,115,32,98,98,51,100,57,98,49,97,49,56,51,53,54,102,49,99,51,99,54,98,98,50,49,49,55,50,51,56,50,55,50,49,99,101,56,52,49,52,101,99,102,54,52,100,50,98,98,99,49,98,54,51,57,56,97,56,102,48,98,52,52,100,57,57,32,99,117,116,32,97,116,32,108,111,111,112,46,101,120,97,109,112,108,101,47,103,48,48,49,56,48,47,108,97,119,115,46,70,110,79,110,101,83,101,114,118,101,115,32,108,111,111,112,46,101,120,97,109,112,108,101,47,103,48,48,49,56,48,47,108,97,119,115,46,70,110,73,110,84,105,109,101,32,108,111,111,112,46,101,120,97,109,112,108,101,47,103,48,48,49,56,48,47,108,97,119,115,46,70,110,82,101,97,100,115,32,108,111,111,112,46,101,120,97,109,112,108,101,47,103,48,48,49,56,48,47,108,97,119,115,46,70,110,84,111,112,32,108,111,111,112,46,101,120,97,109,112,108,101,47,103,48,48,49,56,48,47,108,97,119,115,46,70,110,87,97,116,99,104,101,115,32,108,111,111,112,46,101,120,97,109,112,108,101,47,103,48,48,49,56,48,47,108,97,119,115,46,70,110,81,117,105,101,116,71,114,111,117,112]
def ioC:List Nat:=[99,117,116]
def ioW:List (List Nat):=[[97,116],[108,111,111,112,46,101,120,97,109,112,108,101,47,103,48,48,49,56,48,47,108,97,119,115,46,70,110,79,110,101,83,101,114,118,101,115],[108,111,111,112,46,101,120,97,109,112,108,101,47,103,48,48,49,56,48,47,108,97,119,115,46,70,110,73,110,84,105,109,101],[108,111,111,112,46,101,120,97,109,112,108,101,47,103,48,48,49,56,48,47,108,97,119,115,46,70,110,82,101,97,100,115],[108,111,111,112,46,101,120,97,109,112,108,101,47,103,48,48,49,56,48,47,108,97,119,115,46,70,110,84,111,112],[108,111,111,112,46,101,120,97,109,112,108,101,47,103,48,48,49,56,48,47,108,97,119,115,46,70,110,87,97,116,99,104,101,115],[108,111,111,112,46,101,120,97,109,112,108,101,47,103,48,48,49,56,48,47,108,97,119,115,46,70,110,81,117,105,101,116,71,114,111,117,112]]
theorem io:Tryz.prog.initOrder.toList=ioL.map Char.ofNat:=(congrArg String.toList (show Tryz.prog.initOrder=String.ofList (ioL.map Char.ofNat) from by kernel_rfl)).trans String.toList_ofList
theorem iow:behindMainWord (wordsSigns Tryz.prog.initOrder.toList)=ioC.map Char.ofNat::ioW.map fun w=>w.map Char.ofNat:=by
 rw [io]
 kernel_rfl
theorem AEr:Tryz.prog.make=some .cut:=ACh iow (by kernel_rfl) (by kernel_rfl)
theorem enters:Tryz.prog.mayEnter=true:=ACi iow (by kernel_rfl) (by kernel_rfl) (by kernel_rfl) (by kernel_rfl) (by kernel_rfl)
theorem ADn:Tryz.prog.liftsFinal=false:=ACj iow (by kernel_rfl) (by kernel_rfl)
theorem ze:laidOutB Tryz.prog=true:=by kernel_rfl
theorem AAN:mapsRowed Tryz.prog=true:=by kernel_rfl
theorem AER:Tryz.prog.stopsHeard=true:=by kernel_rfl
end Go.Proofs.YtokiohnjegbnpaaGreat.Core
