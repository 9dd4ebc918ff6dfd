/- Texts of the proof, packed: part 5. -/
import Derived.Test.YtokiohnjegbnpaaGreatP3
set_option linter.unusedVariables false
set_option linter.unusedSimpArgs false
namespace Go.Proofs.YtokiohnjegbnpaaGreat.Core
open Go
abbrev DR:Type:=Int×Int×Int×AP
def asc (v:List Int):Prop:=(∀ a∈v,1<=a/\a<=6)/\v.Pairwise (· < ·)
theorem uP {v:List Int}:∀ (m i:Nat),i+m=v.length->(GS v i m=true↔∀ a (ha:a<v.length),i<=a->(1<=v[a]/\v[a]<=6)/\(a≠0->v.getD (a-1) 0<v[a]))
 | 0,i,h=>by
  simp only [GS,true_iff]
  intro a ha hi
  omega
 | m+1,i,h=>by
  have hi:i<v.length:=by omega
  rw [GS,AD,AD,uP m (i+1) (by omega),AW hi]
  simp only [E5,AD,decide_eq_true_eq]
  constructor
  ·rintro ⟨⟨h1,h2⟩,h3⟩ a ha hia
   by_cases e:a=i
   ·subst e
    exact ⟨h1,fun h0=>h2.resolve_left h0⟩
   ·exact h3 a ha (by omega)
  ·intro h3
   refine ⟨⟨(h3 i hi (Nat.le_refl _)).1,?_⟩,fun a ha hia=>h3 a ha (by omega)⟩
   by_cases e:i=0
   ·exact .inl e
   ·exact .inr ((h3 i hi (Nat.le_refl _)).2 e)
theorem ADc {v:List Int}:GS v 0 v.length=true↔asc v:=by
 rw [uP _ _ (by omega)]
 constructor
 ·intro h
  refine ⟨fun a ha=>?_,?_⟩
  ·obtain ⟨i,hi,rfl⟩:=EZ ha
   exact (h i hi (Nat.zero_le _)).1
  ·have st:∀ d a (ha:a+d+1<v.length),v.getD a 0<v.getD (a+d+1) 0:=by
    intro d
    induction d with
    | zero =>
     intro a ha
     have:=(h (a+1) (by omega) (Nat.zero_le _)).2 (by omega)
     rw [AW (show a+0+1<v.length from ha)]
     simpa using this
    | succ d ih =>
     intro a ha
     have h1:=ih a (by omega)
     have h2:=(h (a+(d+1)+1) ha (Nat.zero_le _)).2 (by omega)
     rw [AW ha]
     simp only [Nat.add_sub_cancel] at h2
     have h3:v.getD (a+d+1) 0<v[a+(d+1)+1]:=h2
     omega
   rw [List.pairwise_iff_getElem]
   intro i j hi hj hij
   have:=st (j-i-1) i (by omega)
   rw [show i+(j-i-1)+1=j by omega,AW hi,AW hj] at this
   exact this
 ·rintro ⟨h1,h2⟩ a ha _
  refine ⟨h1 _ (BZ ha),fun h0=>?_⟩
  rw [AW (show a-1<v.length by omega)]
  exact (List.pairwise_iff_getElem.1 h2) (a-1) a (by omega) ha (by omega)
theorem AAh {v:List Int} (h:asc v):v.length<=6:=by
 have hs:v.Sublist [1,2,3,4,5,6]:=by
  have key:∀ (l:List Int) (n:Nat),n<=6->(∀ a∈l,(6-n:Int)<a/\a<=6)->l.Pairwise (· < ·)->l.length<=n:=by
   intro l
   induction l with
   | nil=>intro n _ _ _; simp
   | cons a l ih =>
    intro n hn hb hp
    have ha:=hb a (by simp)
    have hp2:=List.pairwise_cons.1 hp
    have:=ih ((6-a).toNat) (by omega) (fun b hb'=>⟨by have:=hp2.1 b hb'; omega,(hb b (by simp [hb'])).2⟩) hp2.2
    simp only [List.length_cons]
    omega
  have hl:=key v 6 (by omega) (fun a ha=>by have:=h.1 a ha; omega) h.2
  exact List.Sublist.trans (List.Sublist.refl v) (by
   have:∀ (l:List Int) (s:List Int),s.Pairwise (· < ·)->l.Pairwise (· < ·)->(∀ a∈l,a∈s)->l.Sublist s:=by
    intro l s
    induction s generalizing l with
    | nil =>
     intro _ _ hm
     cases l with
     | nil=>exact List.Sublist.slnil
     | cons a l=>exact absurd (hm a (by simp)) (by simp)
    | cons b s ih =>
     intro hs hl hm
     cases l with
     | nil=>exact List.nil_sublist _
     | cons a l =>
      have hs2:=List.pairwise_cons.1 hs
      have hl2:=List.pairwise_cons.1 hl
      rcases BN.1 (hm a (by simp)) with e | e
      ·subst e
       refine (ih l hs2.2 hl2.2 fun c hc=>?_).cons_cons _
       rcases BN.1 (hm c (by simp [hc])) with e | e
       ·have:=hl2.1 c hc; omega
       ·exact e
      ·refine (ih (a::l) hs2.2 hl fun c hc=>?_).cons _
       rcases BN.1 (hm c hc) with e2 | e2
       ·have h1:=hs2.1 a e
        rcases BN.1 hc with e3 | e3
        ·omega
        ·have:=hl2.1 c e3; omega
       ·exact e2
   refine this v [1,2,3,4,5,6] (by decide) h.2 fun a ha=>?_
   have:=h.1 a ha
   have h5:a=1\/a=2\/a=3\/a=4\/a=5\/a=6:=by omega
   rcases h5 with h | h | h | h | h | h<;>simp [h])
 simpa using hs.length_le
structure KS (m:AE):Prop where
 id:1<=m.1/\m.1<=6
 ep:1<=m.2.1/\m.2.1<=9
 serves:m.2.2.2.2.2.1=true->m.2.2.2.1=true/\m.2.2.2.2.1=true/\m.2.2.2.2.2.2.1=[]
 fell:m.2.2.1=true->m.2.2.2.1=false/\m.2.2.2.2.1=false
 waits:asc m.2.2.2.2.2.2.1
 left:asc m.2.2.2.2.2.2.2.2.2.2.2.2.2
 items:BA m.2.2.2.2.2.2.2.1=true
 count:0<=m.2.2.2.2.2.2.2.2.1/\m.2.2.2.2.2.2.2.2.1<=900
 task:Kv m.2.2.2.2.2.2.2.2.2=true\/GT m.2.2.2.2.2.2.2.2.2 m.2.2.2.2.2.1=true
theorem AAi {m:AE}:XN m=true↔KS m:=by
 unfold XN
 simp only [AD,E5,Dm,decide_eq_true_eq,ADc,decide_eq_false_iff_not]
 constructor
 ·rintro ⟨⟨⟨⟨⟨⟨⟨⟨h1,h2⟩,h3⟩,h4⟩,h5⟩,h6⟩,h7⟩,h8⟩,h9⟩
  refine ⟨h1,h2,fun h=>?_,fun h=>?_,h5,h6,h7,h8,h9⟩
  ·rcases h3 with h3 | ⟨⟨a,b⟩,c⟩
   ·rw [h] at h3; cases h3
   ·exact ⟨a,b,E4.1 (by omega)⟩
  ·rcases h4 with h4 | h4
   ·rw [h] at h4; cases h4
   ·exact h4
 ·rintro ⟨h1,h2,h3,h4,h5,h6,h7,h8,h9⟩
  refine ⟨⟨⟨⟨⟨⟨⟨⟨h1,h2⟩,?_⟩,?_⟩,h5⟩,h6⟩,h7⟩,h8⟩,h9⟩
  ·cases hs:m.2.2.2.2.2.1 with
   | false=>exact .inl rfl
   | true =>
    obtain ⟨a,b,c⟩:=h3 hs
    exact .inr ⟨⟨a,b⟩,by rw [c]; simp⟩
  ·cases hs:m.2.2.1 with
   | false=>exact .inl rfl
   | true=>exact .inr (h4 hs)
theorem KT {x:List AP} (h:BA x=true):x.length<=12:=(DE.1 h).2.2
theorem KS.lens {m:AE} (h:KS m):m.2.2.2.2.2.2.1.length<=6/\m.2.2.2.2.2.2.2.1.length<=12/\m.2.2.2.2.2.2.2.2.2.2.2.2.2.length<=6:=⟨AAh h.waits,KT h.items,AAh h.left⟩
theorem lX (m:AE) (h1:m.2.2.2.2.2.2.1.length<=68719476736) (h2:m.2.2.2.2.2.2.2.1.length<=68719476736) (h3:m.2.2.2.2.2.2.2.2.2.2.2.2.2.length<=68719476736):Du m=some m:=tr (by
 unfold de
 rw [if_pos (by simpa using h1),if_pos (by simpa using h2),if_pos (by simpa using h3)]
 rfl)
theorem KS.copy {m:AE} (h:KS m):Du m=some m:=by
 obtain ⟨h1,h2,h3⟩:=h.lens
 exact lX m (by omega) (by omega) (by omega)
def D2 (view:List Int) (id:Int):List Int:=[1,2,3,4,5,6].filter fun v=>v != id&&view.contains v
theorem YL (view:List Int) (id:Int):asc (D2 view id):=by
 refine ⟨fun a ha=>?_,List.Pairwise.filter _ (by decide)⟩
 have:=(List.mem_filter.1 ha).1
 simp at this
 omega
theorem Kw (view:List Int) (id:Int) (h:view.length<=maxLen):Ho view id=some (D2 view id):=nc (by
 unfold W5
 have step:∀ (v:Nat) (acc r:List Int),v<=6->1<=v->acc.length<=6->Cf view id ((v+1:Nat):Int) (if ((v:Int) != id&&view.contains (v:Int))=true then acc++[(v:Int)] else acc)=some r->Cf view id (v:Int) acc=some r:=by
  intro v acc r hv hv1 ha hr
  refine Rf ?_
  unfold Kt
  rw [if_pos (by simp; omega),AM (show v<9223372036854775807 by omega),Cw view _ h]
  by_cases h1:((v:Int) != id)=true
  ·rw [if_pos h1,Y]
   by_cases h2:view.contains (v:Int)=true
   ·rw [if_pos h2,if_pos (by simp; omega)]
    rw [if_pos (by rw [h1,h2]; rfl)] at hr
    exact hr
   ·rw [if_neg h2]
    rw [if_neg (fun hc=>h2 (by simp only [AD] at hc; exact hc.2))] at hr
    exact hr
  ·rw [if_neg h1]
   rw [if_neg (fun hc=>h1 (by simp only [AD] at hc; exact hc.1))] at hr
   exact hr
 have fin:∀ acc,Cf view id ((7:Nat):Int) acc=some acc:=fun acc=>Rf (by
  unfold Kt
  rw [if_neg (by decide)])
 have g:∀ (acc:List Int) (v:Int),(if (v != id&&view.contains v)=true then acc++[v] else acc).length<=acc.length+1:=by
  intro acc v; split<;>simp
 refine step 1 [] _ (by omega) (by omega) (by simp) ?_
 refine step 2 _ _ (by omega) (by omega) (by have:=g [] ((1:Nat):Int); simp only [List.length_nil] at this; omega) ?_
 have l2:=g [] ((1:Nat):Int)
 generalize e1:(if (((1:Nat):Int) != id&&view.contains ((1:Nat):Int))=true then ([]:List Int)++[((1:Nat):Int)] else [])=a1 at l2 ⊢
 have l3:=g a1 ((2:Nat):Int)
 generalize e2:(if (((2:Nat):Int) != id&&view.contains ((2:Nat):Int))=true then a1++[((2:Nat):Int)] else a1)=a2 at l3 ⊢
 have l4:=g a2 ((3:Nat):Int)
 simp only [List.length_nil] at l2
 refine step 3 _ _ (by omega) (by omega) (by omega) ?_
 generalize e3:(if (((3:Nat):Int) != id&&view.contains ((3:Nat):Int))=true then a2++[((3:Nat):Int)] else a2)=a3 at l4 ⊢
 have l5:=g a3 ((4:Nat):Int)
 refine step 4 _ _ (by omega) (by omega) (by omega) ?_
 generalize e4:(if (((4:Nat):Int) != id&&view.contains ((4:Nat):Int))=true then a3++[((4:Nat):Int)] else a3)=a4 at l5 ⊢
 have l6:=g a4 ((5:Nat):Int)
 refine step 5 _ _ (by omega) (by omega) (by omega) ?_
 generalize e5:(if (((5:Nat):Int) != id&&view.contains ((5:Nat):Int))=true then a4++[((5:Nat):Int)] else a4)=a5 at l6 ⊢
 refine step 6 _ _ (by omega) (by omega) (by omega) ?_
 rw [fin]
 congr 1
 unfold D2
 have fl:∀ (p:Int->Bool) (v:Int) (l:List Int),(v::l).filter p=(if p v=true then [v] else [])++l.filter p:=by
  intro p v l; rw [List.filter_cons]; split<;>simp
 have ap:∀ (c:Bool) (a:List Int) (v:Int),(if c=true then a++[v] else a)=a++(if c=true then [v] else []):=by
  intro c a v; split<;>simp
 rw [ap,<- e5,ap,<- e4,ap,<- e3,ap,<- e2,ap,<- e1,ap]
 simp only [fl,List.filter_nil,List.append_nil,List.nil_append,Bs]
 rfl)
theorem uQ {v:List Int} (h:asc v) (p:Int->Bool):asc (v.filter p):=⟨fun a ha=>h.1 a (List.mem_filter.1 ha).1,h.2.filter p⟩
theorem P3 (v:List Int) (x:Int) (h:v.length<=68719476736):JJ v x=some (v.filter (· != x)):=lO (by
 unfold U7
 have key:=E3 (n:=v.length) (P:=fun i=>∀ acc:List Int,acc.length<=i->Ez v x (i:Int) acc=some (acc++(v.drop i).filter (· != x))) (fun acc ha=>Py (by
  unfold Jn
  rw [if_neg (by simp)]
  simp)) (fun i hi ih acc ha=>Py (by
  unfold Jn
  simp only [show ((i:Int)<(v.length:Int)) from by omega,decide_true,if_true,show (0:Int)<=(i:Int) from by omega,Aj,AW hi,AM (show i<9223372036854775807 by omega)]
  rw [BL hi,List.filter_cons]
  by_cases hh:(v[i] != x)=true
  ·rw [if_pos hh,if_pos (by simp; omega),ih _ (by simp; omega),if_pos hh,Bs]
   rfl
  ·rw [if_neg hh,ih _ (by omega),if_neg hh])) 0 (by omega) [] (by simp)
 simpa using key)

def CG (view:List Int) (id:Int):List Int:=view.filter (· != id)
def Tg (m:AE) (view:List Int) (its:List AP):AE :=
 (m.1,m.2.1,m.2.2.1,true,m.2.2.2.2.1,(((D2 view m.1).length:Int)==0),D2 view m.1,its,m.2.2.2.2.2.2.2.2)
def XQ (m:AE) (e:Int):AE :=
 (m.1,e,false,false,false,false,([]:List Int),m.2.2.2.2.2.2.2.1,(0:Int),(0:Int),(0:Int),(0:Int),(O,O,(0:Int)),([]:List Int))
def FO (m:AE) (x:Bb) (k:Int):List Bb:=[(k,m.1,x.2.1,x.2.2.2.1,x.2.2.2.2.1,([]:List AP))]
def PB (m:AE) (its:List AP):AE :=
 (m.1,m.2.1,m.2.2.1,m.2.2.2.1,m.2.2.2.2.1,m.2.2.2.2.2.1,m.2.2.2.2.2.2.1,its,m.2.2.2.2.2.2.2.2.1,(0:Int),(0:Int),(0:Int),(O,O,(0:Int)),([]:List Int))
def B9 (m:AE):List DR×AE :=
 if (m.2.2.2.2.2.2.2.2.2.1==1)=true then ([(m.2.2.2.2.2.2.2.2.2.2.1,m.2.1,m.2.2.2.2.2.2.2.2.2.2.2.1,m.2.2.2.2.2.2.2.2.2.2.2.2.1)],PB m (Aq m.2.2.2.2.2.2.2.1 m.2.2.2.2.2.2.2.2.2.2.2.2.1))
 else ([(m.2.2.2.2.2.2.2.2.2.2.1,m.2.1,m.2.2.2.2.2.2.2.2.2.2.2.1,BR m.2.2.2.2.2.2.2.1 m.2.2.2.2.2.2.2.2.2.2.2.2.1.1)],PB m m.2.2.2.2.2.2.2.1)
theorem XR (view:List Int) (its:List AP) (m:AE) (h:view.length<=68719476736) (hi:its.length<=68719476736) :
  PQ view its m=some ((CG view m.1).map (fun v=>(3,m.1,v,m.2.1,0,its)),Tg m view its):=vZ (by
 unfold gI
 rw [if_pos (by simpa using hi),Kw view _ (by unfold maxLen; omega),Y]
 have key:=E3 (n:=view.length) (P:=fun i=>∀ acc:List Bb,acc.length<=i->Hv view its (i:Int) (Tg m view its) acc ([]++its)=some (acc++((view.drop i).filter (· != m.1)).map (fun v=>((3:Int),m.1,v,m.2.1,(0:Int),its)),Tg m view its)) (fun acc ha=>W7 (by
  unfold O1
  rw [if_neg (by simp)]
  simp)) (fun i hi2 ih acc ha=>W7 (by
  unfold O1
  simp only [show ((i:Int)<(view.length:Int)) from by omega,decide_true,if_true,show (0:Int)<=(i:Int) from by omega,Aj,AW hi2,AM (show i<9223372036854775807 by omega)]
  rw [show (Tg m view its).1=m.1 from rfl,show (Tg m view its).2.1=m.2.1 from rfl,BL hi2,List.filter_cons]
  by_cases hh:(view[i] != m.1)=true
  ·rw [if_pos hh,if_pos (by simpa using hi),if_pos (by simp; omega),ih _ (by simp; omega),if_pos hh,List.map_cons,Bs]
   rfl
  ·rw [if_neg hh,ih _ (by omega),if_neg hh])) 0 (by omega) [] (by simp)
 exact key)
theorem VD (m:AE) (e:Int) (h:m.2.2.2.2.2.2.2.1.length<=68719476736):NO m e=some (XQ m e):=uH (by
 unfold dw
 rw [if_pos (by simpa using h)]
 rfl)
theorem Ig (m:AE) (x:Bb) (k:Int):FE m x k=some (FO m x k):=qi rfl
theorem Kx (m:AE) (h:m.2.2.2.2.2.2.2.1.length<=34359738367):Hp m=some (B9 m):=ng (by
 unfold W6 B9
 rw [N1 _ _ h,XJ _ _ (by unfold maxLen; omega)]
 split<;>rfl)
def wH (m:AE) (f:Int):AE :=
 (m.1,m.2.1,m.2.2.1,m.2.2.2.1,m.2.2.2.2.1,m.2.2.2.2.2.1,m.2.2.2.2.2.2.1,m.2.2.2.2.2.2.2.1,m.2.2.2.2.2.2.2.2.1,m.2.2.2.2.2.2.2.2.2.1,m.2.2.2.2.2.2.2.2.2.2.1,m.2.2.2.2.2.2.2.2.2.2.2.1,m.2.2.2.2.2.2.2.2.2.2.2.2.1,m.2.2.2.2.2.2.2.2.2.2.2.2.2.filter (· != f))
def HD (m:AE) (f:Int):AE×List Bb×List DR :=
 if (((m.2.2.2.2.2.2.2.2.2.2.2.2.2.filter (· != f)).length:Int)==0)=true then ((B9 (wH m f)).2,[],(B9 (wH m f)).1) else (wH m f,[],[])
def eF (m:AE) (view:List Int) (x:Bb):AE×List Bb×List DR :=
 if x.1=2 then (if (m.2.2.2.2.1&&!m.2.2.2.1)=true then (Tg m view x.2.2.2.2.2,(CG view m.1).map (fun v=>(3,m.1,v,m.2.1,0,x.2.2.2.2.2)),[]) else (m,[],[]))
 else if x.1=3 then (if (!view.contains m.1||(view.getD 0 0==m.1))=true then (m,[],[]) else if (!m.2.2.2.1&&m.2.2.1)=true then (m,[],[])
  else if m.2.2.2.1=true then (m,FO m x 4,[]) else
   ((m.1,m.2.1,false,true,false,false,([]:List Int),x.2.2.2.2.2,(0:Int),(0:Int),(0:Int),(0:Int),(O,O,(0:Int)),([]:List Int)),FO m x 4,[]))
 else if x.1=4 then (if m.2.2.2.2.1=true then
   ((m.1,m.2.1,m.2.2.1,m.2.2.2.1,m.2.2.2.2.1,m.2.2.2.1&&(((m.2.2.2.2.2.2.1.filter (· != x.2.1)).length:Int)==0),m.2.2.2.2.2.2.1.filter (· != x.2.1),m.2.2.2.2.2.2.2),[],[]) else (m,[],[]))
 else if x.1=5 then (if m.2.2.2.1=true then
   ((m.1,m.2.1,m.2.2.1,m.2.2.2.1,m.2.2.2.2.1,m.2.2.2.2.2.1,m.2.2.2.2.2.2.1,Aq m.2.2.2.2.2.2.2.1 (x.2.2.2.2.2.getD 0 (O,O,(0:Int))),m.2.2.2.2.2.2.2.2),FO m x 6,[]) else (m,[],[]))
 else if x.1=7 then (if m.2.2.2.1=true then (m,FO m x 8,[]) else (m,[],[]))
 else if (x.1=6\/x.1=8)/\m.2.2.2.2.2.2.2.2.2.1=(if x.1=8 then 2 else 1)/\m.2.2.2.2.2.2.2.2.2.2.2.1=x.2.2.2.2.1 then
  (HD m x.2.1)
 else (m,[],[])
theorem n9 (m:AE) (view:List Int) (x:Bb) (hm:KS m) (hv:view.length<=68719476736) (hv0:0<view.length) (hx:x.2.2.2.2.2.length<=68719476736) (h5:x.1=5->0<x.2.2.2.2.2.length) :
  VR m view x=some (eF m view x):=vd (by
 obtain ⟨l1,l2,l3⟩:=hm.lens
 unfold gJ
 rw [hm.copy,Y]
 unfold eF
 by_cases k2:x.1=2
 ·rw [if_pos (by simpa using k2),if_pos k2]
  have J:∀ b y,KN view [] [] b m x y m=some (if b=true then (Tg m view x.2.2.2.2.2,(CG view m.1).map (fun v=>(3,m.1,v,m.2.1,0,x.2.2.2.2.2)),[]) else (m,[],[])):=fun b y=>ni (by
   unfold W8
   cases b
   ·rfl
   ·rw [if_pos rfl,XR view _ m hv hx]
    rfl)
  rw [J,J]
  cases m.2.2.2.2.1<;>cases m.2.2.2.1<;>rfl
 ·rw [if_neg (by simpa using k2),if_neg k2]
  by_cases k3:x.1=3
  ·rw [if_pos (by simpa using k3),if_pos k3,Cw view _ (by unfold maxLen; omega),Y]
   have J2:∀ b y,KO [] [] b m x y m=some (if m.2.2.2.1=true then (m,FO m x 4,[]) else
     ((m.1,m.2.1,false,true,false,false,([]:List Int),x.2.2.2.2.2,(0:Int),(0:Int),(0:Int),(0:Int),(O,O,(0:Int)),([]:List Int)),FO m x 4,[])):=fun b y=>nj (by
    unfold W9
    rw [VD m _ (by omega),Ig,Y,Y]
    have hx':([]:List AP).length+x.2.2.2.2.2.length<=68719476736:=by simpa using hx
    cases m.2.2.2.1
    ·rw [if_pos (show (!false)=true from rfl),if_pos hx']; rfl
    ·rfl)
   have J1:∀ b y,O2 [] [] b m x y m=some (if (!m.2.2.2.1&&m.2.2.1)=true then (m,[],[]) else if m.2.2.2.1=true then (m,FO m x 4,[]) else
     ((m.1,m.2.1,false,true,false,false,([]:List Int),x.2.2.2.2.2,(0:Int),(0:Int),(0:Int),(0:Int),(O,O,(0:Int)),([]:List Int)),FO m x 4,[])):=fun b y=>nl (by
    unfold W_
    rw [J2,J2]
    cases m.2.2.2.1<;>cases m.2.2.1<;>rfl)
   rw [show view.getD (0:Int).toNat 0=view.getD 0 0 from rfl]
   cases view.contains m.1
   ·rfl
   ·rw [if_neg (by simp),if_pos (by omega),if_pos (by omega),J1]
    cases (view.getD 0 0==m.1)<;>rfl
  ·rw [if_neg (by simpa using k3),if_neg k3]
   by_cases k4:x.1=4
   ·rw [if_pos (by simpa using k4),if_pos k4,P3 _ _ (by omega),Y]
    cases m.2.2.2.2.1<;>cases m.2.2.2.1<;>rfl
   ·rw [if_neg (by simpa using k4),if_neg k4]
    by_cases k5:x.1=5
    ·have:=h5 k5
     rw [if_pos (by simpa using k5),if_pos k5,N1 _ _ (by omega),Y,Ig,Y,show x.2.2.2.2.2.getD (0:Int).toNat (O,O,(0:Int))=x.2.2.2.2.2.getD 0 (O,O,(0:Int)) from rfl]
     cases m.2.2.2.1
     ·rfl
     ·rw [if_pos rfl,if_pos rfl,if_pos (by omega),if_pos (by omega)]
    ·rw [if_neg (by simpa using k5),if_neg k5]
     by_cases k7:x.1=7
     ·rw [if_pos (by simpa using k7),if_pos k7,Ig,Y]
      cases m.2.2.2.1<;>rfl
     ·rw [if_neg (by simpa using k7),if_neg k7]
      have J5:∀ b y,O3 [] [] b m x y m=some (HD m x.2.1):=fun b y=>nn (by
       unfold XA
       rw [P3 _ _ (by omega),Y,Kx _ (by simp only; omega),Y]
       unfold HD
       split<;>rfl)
      have J4:∀ op y,KP [] [] op m x y m=some (if m.2.2.2.2.2.2.2.2.2.1=op/\m.2.2.2.2.2.2.2.2.2.2.2.1=x.2.2.2.2.1 then (HD m x.2.1) else (m,[],[])):=fun op y=>no (by
       unfold XB
       rw [J5]
       by_cases h1:m.2.2.2.2.2.2.2.2.2.1=op
       ·rw [if_pos (by simp [h1])]
        by_cases h2:m.2.2.2.2.2.2.2.2.2.2.2.1=x.2.2.2.2.1
        ·rw [if_neg (by simp [h2]),if_pos (show _/\_ from ⟨h1,h2⟩)]
        ·rw [if_pos (by simp [h2]),if_neg (show ¬(_/\_) from fun h=>h2 h.2)]
       ·rw [if_neg (by simp [h1]),if_neg (fun h=>h1 h.1)])
      have J3:∀ b y,KQ [] [] b m x y m=some (if b=true/\m.2.2.2.2.2.2.2.2.2.1=(if x.1=8 then 2 else 1)/\m.2.2.2.2.2.2.2.2.2.2.2.1=x.2.2.2.2.1 then (HD m x.2.1) else (m,[],[])):=fun b y=>np (by
       unfold XC
       rw [J4,J4]
       cases b
       ·rw [if_neg (by simp),if_neg (by simp)]
       ·rw [if_pos rfl]
        by_cases k8:x.1=8
        ·simp only [k8,beq_self_eq_true,if_true,true_and]
        ·rw [if_neg (by simpa using k8)]
         simp only [k8,if_false,true_and])
      rw [J3,J3]
      by_cases k6:x.1=6
      ·simp only [k6,beq_self_eq_true,if_true,true_and,true_or]
      ·rw [if_neg (by simpa using k6)]
       simp only [k6,false_or,beq_iff_eq])
structure TV (views:List (List Int)):Prop where
 ok:GC views views.length views=true
theorem LE {n:Nat}:∀ {l:List (List Int)} {x:List (List Int)},GC x n l=true↔(∀ v∈l,YK v=true)/\1<=n/\n<=9
 | [],x=>by simp [GC]; omega
 | v::l,x=>by
  rw [GC,AD,LE]
  simp [and_assoc]
theorem TV.len {views:List (List Int)} (h:TV views):1<=views.length/\views.length<=9:=(LE.1 h.ok).2
theorem TV.view {views:List (List Int)} (h:TV views) {v:List Int} (hv:v∈views):1<=v.length/\v.length<=4:=by
 have:=(LE.1 h.ok).1 v hv
 unfold YK at this
 simp only [AD,decide_eq_true_eq] at this
 omega
theorem TV.get {views:List (List Int)} (h:TV views) {i:Nat} (hi:i<views.length):1<=(views.getD i []).length/\(views.getD i []).length<=4:=by
 rw [AW hi]
 exact h.view (BZ hi)
theorem HE {views:List (List Int)} (h:TV views):Ex views=some true:=by
 rw [lV views (by have:=h.len; unfold maxLen; omega) (fun a ha=>by have:=h.view ha; unfold maxLen; omega),h.ok]
theorem MB {m:AE} (h:KS m):Gj m=some true:=by
 obtain ⟨h1,h2,h3⟩:=h.lens
 rw [ij m (by unfold maxLen; omega) (by unfold maxLen; omega) (by unfold maxLen; omega),AAi.2 h]
def D3 (m:AE) (views:List (List Int)) (x:Bb):AE×List Bb×List DR :=
 if (XP x&&(x.2.2.1==m.1)&&decide (m.2.1<=x.2.2.2.1)&&decide (x.2.2.2.1<=(views.length:Int)))=true then
  if x.2.2.2.1=m.2.1 then eF m (views.getD (m.2.1-1).toNat []) x
  else if (x.1==1&&(x.2.2.2.1==m.2.1+1)&&m.2.2.2.1&&(views.getD (m.2.1-1).toNat []).contains m.1)=true then (XQ m x.2.2.2.1,[(2,m.1,x.2.1,x.2.2.2.1,0,m.2.2.2.2.2.2.2.1)],[])
  else if (x.1==3&&(views.getD (x.2.2.2.1-1).toNat []).contains m.1&&((views.getD (x.2.2.2.1-1).toNat []).getD 0 0 != m.1))=true then
   ((m.1,x.2.2.2.1,false,true,false,false,([]:List Int),x.2.2.2.2.2,(0:Int),(0:Int),(0:Int),(0:Int),(O,O,(0:Int)),([]:List Int)),FO m x 4,[])
  else (m,[],[])
 else (m,[],[])
theorem ADd {x:Bb} (h:XP x=true):x.2.2.2.2.2.length<=12/\(x.1=5->x.2.2.2.2.2.length=1):=by
 unfold XP at h
 simp only [AD] at h
 refine ⟨KT (x:=x.2.2.2.2.2) h.1.2,fun h5=>?_⟩
 have:=h.2
 rw [if_neg (by omega),if_pos h5] at this
 simp only [beq_iff_eq] at this
 omega
theorem lY (m:AE) (views:List (List Int)) (x:Bb) (hm:KS m) (hv:TV views) (hx:x.2.2.2.2.2.length<=68719476736) :
  Sl m views x=some (D3 m views x):=uB (by
 have hvl:=hv.len
 have hep:=hm.ep
 unfold dq D3
 rw [hm.copy,Y,MB hm,Y,if_pos (by rfl),HE hv,Y,if_pos (by rfl),qo x (by unfold maxLen; omega),Y]
 cases hmo:XP x with
 | false=>rfl
 | true =>
  obtain ⟨xl,x5⟩:=ADd hmo
  rw [if_pos (by rfl)]
  by_cases h1:x.2.2.1=m.1
  ·rw [if_pos (by simp [h1])]
   by_cases h2:x.2.2.2.1<m.2.1
   ·rw [if_neg (by simpa using h2),if_neg (by simp; omega)]
   ·rw [if_pos (by simpa using h2)]
    by_cases h3:x.2.2.2.1>(views.length:Int)
    ·rw [if_neg (by simpa using h3),if_neg (by simp; omega)]
    ·rw [if_pos (by simpa using h3),if_neg (by simp; omega),if_pos (by simp [h1]; omega)]
     have wm:IntKind.i64.wrap (m.2.1-1)=m.2.1-1:=Ae (by omega)
     have wp:IntKind.i64.wrap (m.2.1+1)=m.2.1+1:=Ae (by omega)
     have wx:IntKind.i64.wrap (x.2.2.2.1-1)=x.2.2.2.1-1:=Ae (by omega)
     have g1:=hv.get (i:=(m.2.1-1).toNat) (by omega)
     have g2:=hv.get (i:=(x.2.2.2.1-1).toNat) (by omega)
     have J3:∀ b y,G_ [] [] b m x y m=some (if b=true then ((m.1,x.2.2.2.1,false,true,false,false,([]:List Int),x.2.2.2.2.2,(0:Int),(0:Int),(0:Int),(0:Int),(O,O,(0:Int)),([]:List Int)),FO m x 4,[]) else (m,[],[])):=fun b y=>kz (by
      unfold Uu
      cases b
      ·rfl
      ·rw [if_pos rfl,if_pos (by simpa using hx),Ig]
       rfl)
     have J2:∀ b y,Nq views [] [] b m x y m=some (if (x.1==3&&(views.getD (x.2.2.2.1-1).toNat []).contains m.1&&((views.getD (x.2.2.2.1-1).toNat []).getD 0 0 != m.1))=true then
       ((m.1,x.2.2.2.1,false,true,false,false,([]:List Int),x.2.2.2.2.2,(0:Int),(0:Int),(0:Int),(0:Int),(O,O,(0:Int)),([]:List Int)),FO m x 4,[]) else (m,[],[])):=fun b y=>k_ (by
      unfold Uv
      rw [wx,if_pos (by omega),if_pos (by omega),Cw _ _ (by unfold maxLen; omega),Y,show (views.getD (x.2.2.2.1-1).toNat ([]:List Int)).getD (0:Int).toNat 0=(views.getD (x.2.2.2.1-1).toNat []).getD 0 0 from rfl]
      simp only [J3]
      rw [if_pos (show (0:Int)<=0 by omega),if_pos (show (0:Int)<((views.getD (x.2.2.2.1-1).toNat ([]:List Int)).length:Int) by omega)]
      cases (x.1==3)<;>cases (views.getD (x.2.2.2.1-1).toNat ([]:List Int)).contains m.1<;>rfl)
     have J1:∀ b y,FA views [] [] b m x y m=some (if b=true then (XQ m x.2.2.2.1,[(2,m.1,x.2.1,x.2.2.2.1,0,m.2.2.2.2.2.2.2.1)],[]) else
       if (x.1==3&&(views.getD (x.2.2.2.1-1).toNat []).contains m.1&&((views.getD (x.2.2.2.1-1).toNat []).getD 0 0 != m.1))=true then
       ((m.1,x.2.2.2.1,false,true,false,false,([]:List Int),x.2.2.2.2.2,(0:Int),(0:Int),(0:Int),(0:Int),(O,O,(0:Int)),([]:List Int)),FO m x 4,[]) else (m,[],[])):=fun b y=>lA (by
      unfold Uw
      have hl:([]:List AP).length+m.2.2.2.2.2.2.2.1.length<=68719476736:=by have:=hm.lens; simp; omega
      rw [J2,VD m _ (by have:=hm.lens; omega),Y,if_pos hl]
      cases b<;>rfl)
     refine lB ?_
     unfold Ux
     rw [wm,wp]
     by_cases h4:x.2.2.2.1=m.2.1
     ·rw [if_pos (by simpa using h4),if_pos (by omega),if_pos (by omega),if_pos h4,n9 m _ x hm (by omega) (by omega) hx (fun h=>by have:=x5 h; omega)]
      rfl
     ·rw [if_neg (by simpa using h4),if_neg h4,Cw _ _ (by unfold maxLen; omega),Y]
      simp only [J1]
      rw [if_pos (show (0:Int)<=m.2.1-1 by omega),if_pos (show m.2.1-1<(views.length:Int) by omega)]
      cases (x.1==1)<;>cases (x.2.2.2.1==m.2.1+1)<;>cases m.2.2.2.1<;>cases (views.getD (m.2.1-1).toNat ([]:List Int)).contains m.1<;>rfl
  ·rw [if_neg (by simp [h1]),if_neg (by simp [h1])])

theorem gL {v:List Int}:∀ (m i:Nat),i+m=v.length->(Iy v i m=true↔∀ a (ha:a<v.length),i<=a->(1<=v[a]/\v[a]<=6)/\v[a]∉v.take a)
 | 0,i,h=>by
  simp only [Iy,true_iff]
  intro a ha hi
  omega
 | m+1,i,h=>by
  have hi:i<v.length:=by omega
  rw [Iy,AD,AD,gL m (i+1) (by omega),AW hi]
  simp only [AD,decide_eq_true_eq,Dm,List.contains_eq_mem,decide_eq_false_iff_not]
  constructor
  ·rintro ⟨⟨h1,h2⟩,h3⟩ a ha hia
   by_cases e:a=i
   ·subst e
    exact ⟨h1,h2⟩
   ·exact h3 a ha (by omega)
  ·intro h3
   exact ⟨⟨(h3 i hi (Nat.le_refl _)).1,(h3 i hi (Nat.le_refl _)).2⟩,fun a ha hia=>h3 a ha (by omega)⟩
structure WOk (v:List Int):Prop where
 len:1<=v.length/\v.length<=4
 mem:∀ a∈v,1<=a/\a<=6
 nd:v.Nodup
theorem AAj {v:List Int}:YK v=true↔WOk v:=by
 unfold YK
 simp only [AD,decide_eq_true_eq]
 rw [gL _ _ (by omega)]
 constructor
 ·rintro ⟨h1,h2⟩
  refine ⟨by omega,fun a ha=>?_,?_⟩
  ·obtain ⟨i,hi,rfl⟩:=EZ ha
   exact (h2 i hi (Nat.zero_le _)).1
  ·rw [List.nodup_iff_pairwise_ne,List.pairwise_iff_getElem]
   intro i j hi hj hij e
   have:=(h2 j hj (Nat.zero_le _)).2
   apply this
   rw [<- e]
   exact List.mem_iff_getElem.2 ⟨i,by rw [List.length_take]; omega,by rw [List.getElem_take]⟩
 ·rintro ⟨h1,h2,h3⟩
  refine ⟨by omega,fun a ha _=>⟨h2 _ (BZ ha),fun hm=>?_⟩⟩
  obtain ⟨i,hi,e⟩:=EZ hm
  rw [List.length_take] at hi
  rw [List.getElem_take] at e
  have:=(List.getElem_inj h3).1 e
  omega
theorem TV.wok {views:List (List Int)} (h:TV views) {i:Nat} (hi:i<views.length):WOk (views.getD i []):=by
 rw [AW hi]
 exact AAj.1 ((LE.1 h.ok).1 _ (BZ hi))
structure XOk (x:Bb):Prop where
 kind:1<=x.1/\x.1<=8
 frm:1<=x.2.1/\x.2.1<=6
 to:1<=x.2.2.1/\x.2.2.1<=6
 ep:1<=x.2.2.2.1/\x.2.2.2.1<=9
 num:0<=x.2.2.2.2.1/\x.2.2.2.2.1<=1000000000
 items:BA x.2.2.2.2.2=true
 shape:if x.1=2\/x.1=3 then True else if x.1=5 then x.2.2.2.2.2.length=1 else x.2.2.2.2.2=[]
theorem eo {x:Bb}:XP x=true↔XOk x:=by
 unfold XP
 simp only [AD,decide_eq_true_eq]
 constructor
 ·rintro ⟨⟨⟨⟨⟨⟨h1,h2⟩,h3⟩,h4⟩,h5⟩,h6⟩,h7⟩
  refine ⟨h1,h2,h3,h4,h5,h6,?_⟩
  split at h7
  ·rename_i e; rw [if_pos e]; trivial
  ·rename_i e
   rw [if_neg e]
   split at h7
   ·rename_i e2; rw [if_pos e2]; simp only [beq_iff_eq] at h7; omega
   ·rename_i e2; rw [if_neg e2]; simp only [beq_iff_eq] at h7; exact E4.1 (by omega)
 ·rintro ⟨h1,h2,h3,h4,h5,h6,h7⟩
  refine ⟨⟨⟨⟨⟨⟨h1,h2⟩,h3⟩,h4⟩,h5⟩,h6⟩,?_⟩
  split
  ·rfl
  ·rename_i e
   rw [if_neg e] at h7
   split
   ·rename_i e2; rw [if_pos e2] at h7; simp; omega
   ·rename_i e2; rw [if_neg e2] at h7; simp [h7]
theorem R_:BA []=true:=rfl
def il (m n:AE) (l:List Bb):Prop:=∀ y∈l,XOk y/\y.2.1=m.1/\y.2.2.2.1=n.2.1
theorem lZ {m n:AE} {view:List Int} {k num:Int} {its:List AP} (hm:1<=m.1/\m.1<=6) (he:1<=n.2.1/\n.2.1<=9) (hv:∀ a∈view,1<=a/\a<=6) (hk:1<=k/\k<=8) (hn:0<=num/\num<=1000000000) (hi:BA its=true)
  (hs:if k=2\/k=3 then True else if k=5 then its.length=1 else its=[]):il m n ((CG view m.1).map fun v=>(k,m.1,v,n.2.1,num,its)):=by
 intro y hy
 obtain ⟨v,hv2,rfl⟩:=List.mem_map.1 hy
 exact ⟨⟨hk,hm,hv v (List.mem_filter.1 hv2).1,he,hn,hi,hs⟩,rfl,rfl⟩
theorem TW {m n:AE} {x:Bb} {k:Int} (hm:1<=m.1/\m.1<=6) (hx:XOk x) (he:x.2.2.2.1=n.2.1) (hk:k=4\/k=6\/k=8):il m n (FO m x k):=by
 intro y hy
 simp only [FO,Cl] at hy
 subst hy
 refine ⟨⟨by show 1<=k/\k<=8; omega,hm,hx.frm,hx.ep,hx.num,R_,?_⟩,rfl,he⟩
 show if k=2\/k=3 then True else if k=5 then ([]:List AP).length=1 else ([]:List AP)=[]
 rw [if_neg (by omega),if_neg (by omega)]
theorem eG {m n:AE}:il m n []:=fun y hy=>by cases hy
theorem er:Kv ((0:Int),(0:Int),(0:Int),(O,O,(0:Int)),([]:List Int))=true:=by simp [Kv,P5]
theorem KS.has {m:AE} {view:List Int} {its:List AP} (h:KS m) (hl:m.2.2.2.2.1=true) (hb:m.2.2.2.1=false) (hi:BA its=true):KS (Tg m view its):=by
 have hns:m.2.2.2.2.2.1=false:=by
  cases hs:m.2.2.2.2.2.1 with
  | false=>rfl
  | true=>have:=(h.serves hs).1; rw [hb] at this; cases this
 refine ⟨h.id,h.ep,fun hs=>⟨rfl,hl,?_⟩,fun hf=>?_,YL _ _,h.left,hi,h.count,?_⟩
 ·simp only [Tg,beq_iff_eq] at hs ⊢
  exact E4.1 (by omega)
 ·have:=(h.fell hf).2; rw [hl] at this; cases this
 ·rcases h.task with h1 | h1
  ·exact .inl h1
  ·unfold GT at h1
   rw [hns] at h1
   simp at h1
theorem KS.bare {m:AE} (h:KS m) {e:Int} (he:1<=e/\e<=9):KS (XQ m e) :=
 ⟨h.id,he,fun hs=>(by cases hs),fun hf=>(by cases hf),⟨by simp [XQ],by simp [XQ]⟩,⟨by simp [XQ],by simp [XQ]⟩,h.items,⟨by simp [XQ],by simp [XQ]⟩,.inl er⟩
theorem KS.install {m:AE} (h:KS m) {e:Int} {its:List AP} (he:1<=e/\e<=9) (hi:BA its=true) :
  KS (m.1,e,false,true,false,false,([]:List Int),its,(0:Int),(0:Int),(0:Int),(0:Int),(O,O,(0:Int)),([]:List Int)) :=
 ⟨h.id,he,fun hs=>(by cases hs),fun hf=>(by cases hf),⟨by simp,by simp⟩,⟨by simp,by simp⟩,hi,⟨by simp,by simp⟩,.inl er⟩
theorem KS.clear {m:AE} (h:KS m) {its:List AP} (hi:BA its=true):KS (PB m its) :=
 ⟨h.id,h.ep,h.serves,h.fell,h.waits,⟨by simp [PB],by simp [PB]⟩,hi,h.count,.inl er⟩
theorem KS.finish {m:AE} (h:KS m):KS (B9 m).2:=by
 unfold B9
 split
 ·exact h.clear (Jq h.items)
 ·exact h.clear h.items
theorem ADe {m:AE} (h:KS m) (h0:m.2.2.2.2.2.2.2.2.2.1≠0):GT m.2.2.2.2.2.2.2.2.2 m.2.2.2.2.2.1=true:=by
 rcases h.task with h1 | h1
 ·unfold Kv at h1
  simp only [AD,beq_iff_eq] at h1
  exact absurd h1.1.1.1.1 h0
 ·exact h1
def n_ (l:List DR):Prop:=l.length<=1/\∀ s∈l,0<=s.1/\s.1<=1000
theorem GU:n_ []:=⟨by simp,fun s hs=>by cases hs⟩
theorem oo {m:AE} (h:KS m) (h0:m.2.2.2.2.2.2.2.2.2.1≠0):n_ (B9 m).1:=by
 have h1:=ADe h h0
 unfold GT at h1
 simp only [AD,decide_eq_true_eq] at h1
 unfold B9
 split
 ·exact ⟨by simp,fun s hs=>by simp at hs; subst hs; exact h1.1.2⟩
 ·exact ⟨by simp,fun s hs=>by simp at hs; subst hs; exact h1.1.2⟩
structure yI (m:AE) (r:AE×List Bb×List DR):Prop where
 mok:KS r.1
 id:r.1.1=m.1
 ep:m.2.1<=r.1.2.1
 told:il m r.1 r.2.1
 tlen:r.2.1.length<=4
 said:n_ r.2.2
theorem Ih {m:AE} (h:KS m):yI m (m,[],[]):=⟨h,rfl,Int.le_refl _,eG,by simp,GU⟩
theorem Ii (view:List Int) (id:Int):(CG view id).length<=view.length:=List.length_filter_le _ _
theorem KS.left_filter {m:AE} (h:KS m) (f:Int):KS (wH m f):=by
 refine ⟨h.id,h.ep,h.serves,h.fell,h.waits,uQ h.left _,h.items,h.count,?_⟩
 rcases h.task with h1 | h1
 ·left
  unfold Kv at h1 ⊢
  simp only [AD,beq_iff_eq] at h1 ⊢
  refine ⟨h1.1,?_⟩
  have h2:=List.length_filter_le (· != f) m.2.2.2.2.2.2.2.2.2.2.2.2.2
  have h3:=h1.2
  show (((m.2.2.2.2.2.2.2.2.2.2.2.2.2.filter (· != f)).length:Nat):Int)=0
  omega
 ·exact .inr h1
theorem ADf {m:AE} {view:List Int} {x:Bb} (hm:KS m) (hv:WOk view) (hx:XOk x) (he:x.2.2.2.1=m.2.1):yI m (eF m view x):=by
 unfold eF
 split
 ·split
  ·rename_i h1 h2
   simp only [AD,Dm] at h2
   refine ⟨hm.has h2.1 h2.2 hx.items,rfl,Int.le_refl _,?_,by simp only [List.length_map]; have:=Ii view m.1; have:=hv.len; omega,GU⟩
   exact lZ (n:=Tg m view x.2.2.2.2.2) hm.id hm.ep hv.mem (by omega) (by omega) hx.items (by simp)
  ·exact Ih hm
 ·split
  ·split
   ·exact Ih hm
   ·split
    ·exact Ih hm
    ·split
     ·exact ⟨hm,rfl,Int.le_refl _,TW hm.id hx he (by omega),by simp [FO],GU⟩
     ·exact ⟨hm.install hm.ep hx.items,rfl,Int.le_refl _,TW hm.id hx he (by omega),by simp [FO],GU⟩
  ·split
   ·split
    ·rename_i hl
     refine ⟨⟨hm.id,hm.ep,fun hs=>?_,hm.fell,uQ hm.waits _,hm.left,hm.items,hm.count,?_⟩,rfl,Int.le_refl _,eG,by simp,GU⟩
     ·simp only [AD,beq_iff_eq] at hs
      exact ⟨hs.1,hl,E4.1 (show (List.filter (· != x.2.1) m.2.2.2.2.2.2.1).length=0 by have h:((List.filter (· != x.2.1) m.2.2.2.2.2.2.1).length:Int)=0:=hs.2; omega)⟩
     ·rcases hm.task with h1 | h1
      ·exact .inl h1
      ·right
       have hs:m.2.2.2.2.2.1=true:=by
        unfold GT at h1
        simp only [AD] at h1
        exact h1.1.1.2
       obtain ⟨a,b,c⟩:=hm.serves hs
       rw [hs] at h1
       simp only [c,List.filter_nil,List.length_nil,a,Bool.true_and]
       exact h1
    ·exact Ih hm
   ·split
    ·split
     ·exact ⟨⟨hm.id,hm.ep,hm.serves,hm.fell,hm.waits,hm.left,Jq hm.items,hm.count,hm.task⟩,rfl,Int.le_refl _,TW hm.id hx he (by omega),by simp [FO],GU⟩
     ·exact Ih hm
    ·split
     ·split
      ·exact ⟨hm,rfl,Int.le_refl _,TW hm.id hx he (by omega),by simp [FO],GU⟩
      ·exact Ih hm
     ·by_cases hc:(x.1=6\/x.1=8)/\m.2.2.2.2.2.2.2.2.2.1=(if x.1=8 then 2 else 1)/\m.2.2.2.2.2.2.2.2.2.2.2.1=x.2.2.2.2.1
      ·rw [if_pos hc]
       have hn:=hm.left_filter x.2.1
       unfold HD
       split
       ·refine ⟨hn.finish,?_,?_,eG,by simp,oo hn ?_⟩
        ·unfold B9; split<;>rfl
        ·unfold B9; split<;>exact Int.le_refl _
        ·have:=hc.2.1
         show m.2.2.2.2.2.2.2.2.2.1≠0
         rw [this]
         split<;>omega
       ·exact ⟨hn,rfl,Int.le_refl _,eG,by simp,GU⟩
      ·rw [if_neg hc]
       exact Ih hm
theorem P4 {m:AE} {views:List (List Int)} {x:Bb} (hm:KS m) (hv:TV views):yI m (D3 m views x):=by
 unfold D3
 split
 ·rename_i hc
  simp only [AD,decide_eq_true_eq,beq_iff_eq] at hc
  obtain ⟨⟨⟨h1,h2⟩,h3⟩,h4⟩:=hc
  have hx:=eo.1 h1
  have hvl:=hv.len
  have he:=hm.ep
  split
  ·rename_i e
   exact ADf hm (hv.wok (by omega)) hx e
  ·split
   ·refine ⟨hm.bare hx.ep,rfl,h3,fun y hy=>?_,by simp,GU⟩
    simp only [Cl] at hy
    subst hy
    exact ⟨⟨by simp,hm.id,hx.frm,hx.ep,by simp,hm.items,by simp⟩,rfl,rfl⟩
   ·split
    ·exact ⟨hm.install hx.ep hx.items,rfl,h3,TW hm.id hx rfl (by omega),by simp [FO],GU⟩
    ·exact Ih hm
 ·exact Ih hm

def LF:AE:=((0:Int),(0:Int),false,false,false,false,([]:List Int),([]:List AP),(0:Int),(0:Int),(0:Int),(0:Int),(O,O,(0:Int)),([]:List Int))
def YM (m:AE) (views:List (List Int)) (op call:Int) (key val:ByteArray):Bool :=
 m.2.2.2.2.2.1&&(m.2.2.2.2.2.2.2.2.2.1==0)&&decide (m.2.2.2.2.2.2.2.2.1<900)&&(op==1||op==2)&&(decide (0<=call)&&decide (call<=1000))&&(decide (1<=(key.size:Int))&&decide ((key.size:Int)<=12))&&decide ((val.size:Int)<=20)&&(op==1||yH val)&&decide (m.2.1<=(views.length:Int))&&((views.getD (m.2.1-1).toNat []).getD 0 0==m.1)
def HF (m:AE) (key val:ByteArray):AP:=(key,val,1000*m.2.1+(m.2.2.2.2.2.2.2.2.1+1))
def HN (m:AE) (view:List Int) (op call:Int) (key val:ByteArray):AE :=
 (m.1,m.2.1,m.2.2.1,m.2.2.2.1,m.2.2.2.2.1,m.2.2.2.2.2.1,m.2.2.2.2.2.2.1,m.2.2.2.2.2.2.2.1,m.2.2.2.2.2.2.2.2.1+1,op,call,m.2.2.2.2.2.2.2.2.1+1,HF m key val,D2 view m.1)
def uR (m:AE) (view:List Int) (op:Int) (key val:ByteArray):List Bb :=
 (CG view m.1).map fun v=>(if op=1 then 5 else 7,m.1,v,m.2.1,m.2.2.2.2.2.2.2.2.1+1,if op=1 then [HF m key val] else [])
def TX (m:AE) (view:List Int) (op call:Int) (key val:ByteArray):AE×List Bb×List DR×Bool :=
 if D2 view m.1=[] then ((B9 (HN m view op call key val)).2,[],(B9 (HN m view op call key val)).1,true) else (HN m view op call key val,uR m view op key val,[],true)
def D4 (m:AE) (views:List (List Int)) (op call:Int) (key val:ByteArray):AE×List Bb×List DR×Bool :=
 if YM m views op call key val=true then
  (if op=1/\P5 (.pair .str (.pair .str (.int .i64))) (BR (Aq m.2.2.2.2.2.2.2.1 (HF m key val)) key) (HF m key val)=false then (LF,[],[],false) else TX m (views.getD (m.2.1-1).toNat []) op call key val)
 else (LF,[],[],false)
theorem qq (m:AE) (views:List (List Int)) (op call:Int) (key val:ByteArray) (hm:KS m) (hv:TV views):X4 m views op call key val=some (D4 m views op call key val):=yD (by
 have hvl:=hv.len
 have hep:=hm.ep
 have hl:=hm.lens
 have hcnt:=hm.count
 have wm:IntKind.i64.wrap (m.2.1-1)=m.2.1-1:=Ae (by omega)
 have wc:IntKind.i64.wrap (m.2.2.2.2.2.2.2.2.1+1)=m.2.2.2.2.2.2.2.2.1+1:=Ae (by omega)
 have w1:IntKind.i64.wrap (1000*m.2.1)=1000*m.2.1:=Ae (by omega)
 have w2:IntKind.i64.wrap (1000*m.2.1+(m.2.2.2.2.2.2.2.2.1+1))=1000*m.2.1+(m.2.2.2.2.2.2.2.2.1+1):=Ae (by omega)
 unfold ku
 rw [MB hm,Y,if_neg (by simp),HE hv,Y,if_neg (by simp)]
 have bad:YM m views op call key val=false->D4 m views op call key val=(LF,[],[],false):=fun h=>by unfold D4; rw [h]; rfl
 by_cases c1:m.2.2.2.2.2.1=true
 case neg =>
  rw [if_pos (by simpa using c1),bad (by unfold YM; simp [c1])]
  rfl
 rw [if_neg (by simpa using c1)]
 by_cases c2:m.2.2.2.2.2.2.2.2.2.1=0
 case neg =>
  rw [if_pos (by simpa using c2),bad (by unfold YM; simp [c2])]
  rfl
 rw [if_neg (by simpa using c2)]
 by_cases c3:m.2.2.2.2.2.2.2.2.1<900
 case neg =>
  rw [if_pos (by simp; omega),bad (by unfold YM; simp [c3])]
  rfl
 rw [if_neg (by simp; omega)]
 have view:∀ (hep2:m.2.1<=(views.length:Int)),1<=(views.getD (m.2.1-1).toNat []).length/\(views.getD (m.2.1-1).toNat []).length<=4:=fun h=>hv.get (by omega)
 have L2:∀ (v:List Int) (hv:v.length<=4) (y:AE) (its:List AP),op=1->FJ op [] v 0 m y [] (HN m v op call key val) (HF m key val) its=some (HN m v op call key val,uR m v op key val,[],true):=by
  intro v hv y its ho
  have key':=E3 (n:=v.length) (P:=fun i=>∀ acc:List Bb,acc.length<=i->FJ op [] v (i:Int) m y acc (HN m v op call key val) (HF m key val) its=some (HN m v op call key val,acc++((v.drop i).filter (· != m.1)).map (fun v=>((5:Int),m.1,v,m.2.1,m.2.2.2.2.2.2.2.2.1+1,[HF m key val])),[],true)) (fun acc ha=>aa (by
   unfold Qk
   rw [if_neg (by simp)]
   simp)) (fun i hi ih acc ha=>aa (by
   unfold Qk
   simp only [show ((i:Int)<(v.length:Int)) from by omega,decide_true,if_true,show (0:Int)<=(i:Int) from by omega,Aj,AW hi,AM (show i<9223372036854775807 by omega),ho,beq_self_eq_true]
   rw [ho] at ih
   rw [BL hi,List.filter_cons]
   by_cases hh:v[i]=m.1
   ·rw [if_pos (by simpa using hh),ih _ (by omega),if_neg (by simpa using hh)]
   ·rw [if_neg (by simpa using hh),if_pos (by simp; omega),ih _ (by simp; omega),if_pos (by simpa using hh),List.map_cons,Bs]
    rfl)) 0 (by omega) [] (by simp)
  unfold uR
  rw [if_pos ho,if_pos ho]
  exact key'
 have L4:∀ (v:List Int) (hv:v.length<=4) (y:AE),op≠1->FK op [] v 0 m y [] (HN m v op call key val) (HF m key val)=some (HN m v op call key val,uR m v op key val,[],true):=by
  intro v hv y ho
  have key':=E3 (n:=v.length) (P:=fun i=>∀ acc:List Bb,acc.length<=i->FK op [] v (i:Int) m y acc (HN m v op call key val) (HF m key val)=some (HN m v op call key val,acc++((v.drop i).filter (· != m.1)).map (fun v=>((7:Int),m.1,v,m.2.1,m.2.2.2.2.2.2.2.2.1+1,([]:List AP))),[],true)) (fun acc ha=>ae (by
   unfold Ql
   rw [if_neg (by simp)]
   simp)) (fun i hi ih acc ha=>ae (by
   unfold Ql
   have ho':¬ ((op==1)=true):=by simpa using ho
   simp only [show ((i:Int)<(v.length:Int)) from by omega,decide_true,if_true,show (0:Int)<=(i:Int) from by omega,Aj,AW hi,AM (show i<9223372036854775807 by omega),if_neg ho']
   rw [BL hi,List.filter_cons]
   by_cases hh:v[i]=m.1
   ·rw [if_pos (by simpa using hh),ih _ (by omega),if_neg (by simpa using hh)]
   ·rw [if_neg (by simpa using hh),if_pos (by simp; omega),ih _ (by simp; omega),if_pos (by simpa using hh),List.map_cons,Bs]
    rfl)) 0 (by omega) [] (by simp)
  unfold uR
  rw [if_neg ho,if_neg ho]
  exact key'
 have nil_iff:∀ l:List Int,((l.length:Int)==0)=true↔l=[]:=fun l=>by
  rw [beq_iff_eq]
  exact ⟨fun h=>E4.1 (by omega),fun h=>by rw [h]; rfl⟩
 have J1:∀ (b:Bool) (y:AE) (its:List AP),op=1->m.2.1<=(views.length:Int)->Qi views op call [] b m y [] (m.1,m.2.1,m.2.2.1,m.2.2.2.1,m.2.2.2.2.1,m.2.2.2.2.2.1,m.2.2.2.2.2.2.1,m.2.2.2.2.2.2.2.1,m.2.2.2.2.2.2.2.2.1+1,m.2.2.2.2.2.2.2.2.2) (HF m key val) its=some (TX m (views.getD (m.2.1-1).toNat []) op call key val):=fun b y its ho he=>qQ (by
  have:=view he
  unfold aX TX
  rw [wm,if_pos (by omega),if_pos (by omega),Kw _ _ (by unfold maxLen; omega),Y]
  by_cases hz:D2 (views.getD (m.2.1-1).toNat []) m.1=[]
  ·rw [if_pos ((nil_iff _).2 hz),if_pos hz]
   have:=Kx (HN m (views.getD (m.2.1-1).toNat []) op call key val) (by show m.2.2.2.2.2.2.2.1.length<=_; omega)
   unfold HN at this
   simp only
   rw [this]
   rfl
  ·rw [if_neg (fun h=>hz ((nil_iff _).1 h)),if_neg hz]
   exact L2 _ (by omega) y its ho)
 have J3:∀ (b:Bool) (y:AE),op≠1->m.2.1<=(views.length:Int)->Qj views op call [] b m y [] (m.1,m.2.1,m.2.2.1,m.2.2.2.1,m.2.2.2.2.1,m.2.2.2.2.2.1,m.2.2.2.2.2.2.1,m.2.2.2.2.2.2.2.1,m.2.2.2.2.2.2.2.2.1+1,m.2.2.2.2.2.2.2.2.2) (HF m key val)=some (TX m (views.getD (m.2.1-1).toNat []) op call key val):=fun b y ho he=>qR (by
  have:=view he
  unfold aY TX
  rw [wm,if_pos (by omega),if_pos (by omega),Kw _ _ (by unfold maxLen; omega),Y]
  by_cases hz:D2 (views.getD (m.2.1-1).toNat []) m.1=[]
  ·rw [if_pos ((nil_iff _).2 hz),if_pos hz]
   have:=Kx (HN m (views.getD (m.2.1-1).toNat []) op call key val) (by show m.2.2.2.2.2.2.2.1.length<=_; omega)
   unfold HN at this
   simp only
   rw [this]
   rfl
  ·rw [if_neg (fun h=>hz ((nil_iff _).1 h)),if_neg hz]
   exact L4 _ (by omega) y ho)
 have J0:∀ (b:Bool) (y:AE),YM m views op call key val=true->m.2.1<=(views.length:Int)->DO views op call key val [] b m y []=some (D4 m views op call key val):=fun b y hmay he=>qS (by
  unfold aZ D4
  rw [if_pos hmay,hm.copy,Y,wc,w1,w2]
  by_cases ho:op=1
  ·rw [if_pos (by simpa using ho),N1 _ _ (by omega),Y,XJ _ _ (by have:=zT m.2.2.2.2.2.2.2.1 (key,val,1000*m.2.1+(m.2.2.2.2.2.2.2.2.1+1)); unfold maxLen; omega),Y]
   cases hq:P5 (.pair .str (.pair .str (.int .i64))) (BR (Aq m.2.2.2.2.2.2.2.1 (HF m key val)) key) (HF m key val) with
   | false =>
    have hq':P5 AF (BR (Aq m.2.2.2.2.2.2.2.1 (key,val,1000*m.2.1+(m.2.2.2.2.2.2.2.2.1+1))) key) (key,val,1000*m.2.1+(m.2.2.2.2.2.2.2.2.1+1))=false:=hq
    rw [hq',if_pos (show (true != false)=true from rfl),if_pos (show op=1/\false=false from ⟨ho,rfl⟩)]
    rfl
   | true =>
    have hq':P5 AF (BR (Aq m.2.2.2.2.2.2.2.1 (key,val,1000*m.2.1+(m.2.2.2.2.2.2.2.2.1+1))) key) (key,val,1000*m.2.1+(m.2.2.2.2.2.2.2.2.1+1))=true:=hq
    rw [hq',if_neg (show ¬ (true != true)=true by simp),if_neg (show ¬ (op=1/\true=false) by rintro ⟨_,h⟩; cases h)]
    exact J1 _ y _ ho he
  ·rw [if_neg (by simpa using ho),if_neg (fun h=>ho h.1)]
   exact J3 _ y ho he)
 have tail:op=1\/op=2->((AX call 0 1000).bind fun y3=>(if (!y3)=true then (some (LF,([]:List Bb),([]:List DR),false)) else ((AX (key.size:Int) 1 12).bind fun y4=>(if (!y4)=true then (some (LF,([]:List Bb),([]:List DR),false)) else (if (decide ((val.size:Int)>20))=true then (some (LF,([]:List Bb),([]:List DR),false)) else (if (op==2)=true then (if (!(val.toList==(⟨#[]⟩:ByteArray).toList))=true then (some (LF,([]:List Bb),([]:List DR),false)) else (if (decide (m.2.1>(views.length:Int)))=true then (some (LF,([]:List Bb),([]:List DR),false)) else (if 0<=(IntKind.i64.wrap (m.2.1-1)) then (if (IntKind.i64.wrap (m.2.1-1))<(views.length:Int) then (if 0<=(0:Int) then (if (0:Int)<((views.getD (IntKind.i64.wrap (m.2.1-1)).toNat ([]:List Int)).length:Int) then (if (((views.getD (IntKind.i64.wrap (m.2.1-1)).toNat ([]:List Int)).getD (0:Int).toNat 0) != m.1)=true then (some (LF,([]:List Bb),([]:List DR),false)) else (DO views op call key val ([]:List DR) (((views.getD (IntKind.i64.wrap (m.2.1-1)).toNat ([]:List Int)).getD (0:Int).toNat 0) != m.1) m LF ([]:List Bb))) else none) else none) else none) else none))) else (if (decide (m.2.1>(views.length:Int)))=true then (some (LF,([]:List Bb),([]:List DR),false)) else (if 0<=(IntKind.i64.wrap (m.2.1-1)) then (if (IntKind.i64.wrap (m.2.1-1))<(views.length:Int) then (if 0<=(0:Int) then (if (0:Int)<((views.getD (IntKind.i64.wrap (m.2.1-1)).toNat ([]:List Int)).length:Int) then (if (((views.getD (IntKind.i64.wrap (m.2.1-1)).toNat ([]:List Int)).getD (0:Int).toNat 0) != m.1)=true then (some (LF,([]:List Bb),([]:List DR),false)) else (DO views op call key val ([]:List DR) (((views.getD (IntKind.i64.wrap (m.2.1-1)).toNat ([]:List Int)).getD (0:Int).toNat 0) != m.1) m LF ([]:List Bb))) else none) else none) else none) else none))))))))=some (D4 m views op call key val):=by
  intro hop
  rw [Ay,Y,Ay,Y,wm]
  cases c5:(decide (0<=call)&&decide (call<=1000)) with
  | false=>rw [bad (by unfold YM; rw [c5]; simp)]; rfl
  | true =>
  rw [if_neg (by simp)]
  cases c6:(decide (1<=(key.size:Int))&&decide ((key.size:Int)<=12)) with
  | false=>rw [bad (by unfold YM; rw [c6]; simp)]; rfl
  | true =>
  rw [if_neg (by simp)]
  by_cases c7:(val.size:Int)<=20
  case neg=>rw [if_pos (by simp; omega),bad (by unfold YM; simp [c7])]
  rw [if_neg (by simp; omega)]
  have last:(op==1||yH val)=true->(if (decide (m.2.1>(views.length:Int)))=true then (some (LF,([]:List Bb),([]:List DR),false)) else (if 0<=m.2.1-1 then (if m.2.1-1<(views.length:Int) then (if 0<=(0:Int) then (if (0:Int)<((views.getD (m.2.1-1).toNat ([]:List Int)).length:Int) then (if (((views.getD (m.2.1-1).toNat ([]:List Int)).getD (0:Int).toNat 0) != m.1)=true then (some (LF,([]:List Bb),([]:List DR),false)) else (DO views op call key val ([]:List DR) (((views.getD (m.2.1-1).toNat ([]:List Int)).getD (0:Int).toNat 0) != m.1) m LF ([]:List Bb))) else none) else none) else none) else none))=some (D4 m views op call key val):=by
   intro c8
   by_cases c9:m.2.1<=(views.length:Int)
   case neg=>rw [if_pos (by simp; omega),bad (by unfold YM; simp [c9])]
   have:=view c9
   rw [if_neg (by simp; omega),if_pos (by omega),if_pos (by omega),if_pos (by omega),if_pos (by omega),show (views.getD (m.2.1-1).toNat ([]:List Int)).getD (0:Int).toNat 0=(views.getD (m.2.1-1).toNat []).getD 0 0 from rfl]
   by_cases c10:(views.getD (m.2.1-1).toNat []).getD 0 0=m.1
   case neg=>rw [if_pos (by simpa using c10),bad (by unfold YM; rw [show ((views.getD (m.2.1-1).toNat []).getD 0 0==m.1)=false from by simpa using c10,Bool.and_false])]
   rw [if_neg (by simpa using c10)]
   refine J0 _ _ ?_ c9
   unfold YM
   rw [c1,c5,c6,c8]
   simp only [c2,beq_self_eq_true,c3,c7,c9,c10,decide_true,Bool.and_true,Bool.true_and]
   rcases hop with h | h<;>simp [h]
  by_cases c8:op=2
  ·rw [if_pos (by simpa using c8)]
   cases ce:yH val with
   | false =>
    rw [if_pos (by rw [n7,ce]; rfl),bad (by unfold YM; rw [ce,show (op==1)=false from by simp [c8]]; simp)]
   | true =>
    rw [if_neg (by rw [n7,ce]; simp)]
    exact last (by rw [ce,Bool.or_true])
  ·rw [if_neg (by simpa using c8)]
   exact last (by rw [show (op==1)=true from by simp; omega]; rfl)
 by_cases c4:op=1
 ·rw [if_neg (by simpa using c4)]
  exact tail (.inl c4)
 ·rw [if_pos (by simpa using c4)]
  by_cases c4':op=2
  ·rw [if_neg (by simpa using c4')]
   exact tail (.inr c4')
  ·rw [if_pos (by simpa using c4'),bad (by unfold YM; rw [show (op==1||op==2)=false from by simp [c4,c4']]; simp)]
   rfl)
structure AAk (m:AE) (r:AE×List Bb×List DR×Bool):Prop where
 mok:r.2.2.2=true->KS r.1
 id:r.2.2.2=true->r.1.1=m.1
 ep:r.2.2.2=true->r.1.2.1=m.2.1
 told:r.2.2.2=true->il m r.1 r.2.1
 tlen:r.2.1.length<=4
 said:n_ r.2.2.1
theorem wI {m:AE}:AAk m (LF,[],[],false):=⟨fun h=>(by cases h),fun h=>(by cases h),fun h=>(by cases h),fun h=>(by cases h),by simp,GU⟩
theorem ew {m:AE} {views:List (List Int)} {op call:Int} {key val:ByteArray} (h:YM m views op call key val=true) :
  m.2.2.2.2.2.1=true/\m.2.2.2.2.2.2.2.2.2.1=0/\m.2.2.2.2.2.2.2.2.1<900/\(op=1\/op=2)/\(0<=call/\call<=1000)/\(1<=(key.size:Int)/\(key.size:Int)<=12)/\(val.size:Int)<=20/\(op=1\/yH val=true)/\m.2.1<=(views.length:Int)/\(views.getD (m.2.1-1).toNat []).getD 0 0=m.1:=by
 unfold YM at h
 simp only [AD,E5,decide_eq_true_eq,beq_iff_eq] at h
 obtain ⟨⟨⟨⟨⟨⟨⟨⟨⟨h1,h2⟩,h3⟩,h4⟩,h5⟩,h6⟩,h7⟩,h8⟩,h9⟩,h10⟩:=h
 exact ⟨h1,h2,h3,h4,h5,h6,h7,h8,h9,h10⟩
theorem uS {m:AE} {key val:ByteArray} (h:KS m) (h3:m.2.2.2.2.2.2.2.2.1<900) (h6:1<=(key.size:Int)/\(key.size:Int)<=12) (h7:(val.size:Int)<=20):BA [HF m key val]=true:=by
 refine DE.2 ⟨fun b hb=>?_,?_,by simp⟩
 ·simp only [Cl] at hb
  subst hb
  unfold KR HF
  have:=h.ep
  have:=h.count
  simp only [AD,decide_eq_true_eq]
  omega
 ·exact wG.2 (by simp)
theorem KS.task1 {m:AE} {view:List Int} {op call:Int} {key val:ByteArray} (h:KS m) (h1:m.2.2.2.2.2.1=true) (h3:m.2.2.2.2.2.2.2.2.1<900) (h4:op=1\/op=2) (h5:0<=call/\call<=1000):KS (HN m view op call key val):=by
 have hc:=h.count
 refine ⟨h.id,h.ep,h.serves,h.fell,h.waits,YL _ _,h.items,?_,.inr ?_⟩
 ·show 0<=m.2.2.2.2.2.2.2.2.1+1/\m.2.2.2.2.2.2.2.2.1+1<=900
  omega
 ·unfold GT HN
  rw [h1]
  simp only [AD,E5,decide_eq_true_eq,beq_iff_eq]
  exact ⟨⟨⟨h4,trivial⟩,h5⟩,by omega⟩
theorem e_ {m:AE} {views:List (List Int)} {op call:Int} {key val:ByteArray} (hm:KS m) (hv:TV views):AAk m (D4 m views op call key val):=by
 unfold D4
 split
 ·rename_i hmay
  obtain ⟨h1,h2,h3,h4,h5,h6,h7,h8,h9,h10⟩:=ew hmay
  split
  ·exact wI
  ·unfold TX
   have hep:=hm.ep
   have ht:=hm.task1 (view:=views.getD (m.2.1-1).toNat []) (key:=key) (val:=val) h1 h3 h4 h5
   have h0:(HN m (views.getD (m.2.1-1).toNat []) op call key val).2.2.2.2.2.2.2.2.2.1≠0:=by show op≠0; omega
   have hw:=hv.wok (i:=(m.2.1-1).toNat) (by omega)
   split
   ·exact ⟨fun _=>ht.finish,fun _=>(by unfold B9; split<;>rfl),fun _=>(by unfold B9; split<;>rfl),fun _=>eG,by simp,oo ht h0⟩
   ·refine ⟨fun _=>ht,fun _=>rfl,fun _=>rfl,fun _=>?_,?_,GU⟩
    ·unfold uR
     have hc:=hm.count
     have hi:=uS hm h3 h6 h7
     refine lZ (n:=HN m (views.getD (m.2.1-1).toNat []) op call key val) hm.id hm.ep hw.mem (by split<;>omega) (by omega) ?_ ?_
     ·split
      ·exact hi
      ·exact R_
     ·by_cases ho:op=1
      ·rw [if_pos ho,if_pos ho,if_neg (by omega),if_pos rfl]; rfl
      ·rw [if_neg ho,if_neg ho,if_neg (by omega),if_neg (by omega)]
    ·unfold uR
     simp only [List.length_map]
     have:=Ii (views.getD (m.2.1-1).toNat []) m.1
     have:=hw.len
     omega
 ·exact wI
def Mj (m:AE) (e:Int):AE:=(m.1,e,false,false,true,false,([]:List Int),m.2.2.2.2.2.2.2.1,(0:Int),(0:Int),(0:Int),(0:Int),(O,O,(0:Int)),([]:List Int))
def Ft (m:AE) (views:List (List Int)) (e:Int):AE×List Bb×Bool :=
 if 2<=e/\e<=(views.length:Int)/\m.2.1<e/\(views.getD (e-1).toNat []).getD 0 0=m.1 then
  if (m.2.2.2.1&&(m.2.1==e-1)&&(views.getD (e-2).toNat []).contains m.1)=true then
   (Tg (Mj m e) (views.getD (e-1).toNat []) m.2.2.2.2.2.2.2.1,(CG (views.getD (e-1).toNat []) m.1).map (fun v=>(3,m.1,v,e,0,m.2.2.2.2.2.2.2.1)),true)
  else (Mj m e,(CG (views.getD (e-2).toNat []) m.1).map (fun v=>(1,m.1,v,e,0,[])),true)
 else (LF,[],false)
theorem KS.new1 {m:AE} (h:KS m) {e:Int} (he:1<=e/\e<=9):KS (Mj m e) :=
 ⟨h.id,he,fun hs=>(by cases hs),fun hf=>(by cases hf),⟨by simp [Mj],by simp [Mj]⟩,⟨by simp [Mj],by simp [Mj]⟩,h.items,⟨by simp [Mj],by simp [Mj]⟩,.inl er⟩
theorem qr (m:AE) (views:List (List Int)) (e:Int) (hm:KS m) (hv:TV views):X5 m views e=some (Ft m views e):=yE (by
 have hvl:=hv.len
 have hep:=hm.ep
 have hl:=hm.lens
 unfold ky Ft
 rw [MB hm,Y,if_neg (by simp),HE hv,Y,if_neg (by simp),Ay,Y]
 by_cases h1:2<=e/\e<=(views.length:Int)
 case neg =>
  rw [if_pos (by rw [<- Bool.decide_and,decide_eq_false h1]; rfl),if_neg (fun h=>h1 ⟨h.1,h.2.1⟩)]
  rfl
 have we:IntKind.i64.wrap (e-1)=e-1:=Ae (by omega)
 have we2:IntKind.i64.wrap (e-2)=e-2:=Ae (by omega)
 rw [if_neg (by rw [<- Bool.decide_and,decide_eq_true h1]; simp),we]
 by_cases h2:m.2.1<e
 case neg =>
  rw [if_pos (by simp; omega),if_neg (fun h=>h2 h.2.2.1)]
  rfl
 have g1:=hv.get (i:=(e-1).toNat) (by omega)
 have g2:=hv.get (i:=(e-2).toNat) (by omega)
 rw [if_neg (by simp; omega),if_pos (by omega),if_pos (by omega),if_pos (by omega),if_pos (by omega),show (views.getD (e-1).toNat ([]:List Int)).getD (0:Int).toNat 0=(views.getD (e-1).toNat []).getD 0 0 from rfl]
 by_cases h3:(views.getD (e-1).toNat []).getD 0 0=m.1
 case neg =>
  rw [if_pos (by simpa using h3),if_neg (fun h=>h3 h.2.2.2)]
  rfl
 rw [if_neg (by simpa using h3),if_pos ⟨h1.1,h1.2,h2,h3⟩]
 have L2:∀ y,Gn views e 0 m y [] ([]++m.2.2.2.2.2.2.2.1) (Mj m e)=some (Mj m e,(CG (views.getD (e-2).toNat []) m.1).map (fun v=>(1,m.1,v,e,0,[])),true):=by
  intro y
  have hcopy:=(hm.new1 (e:=e) (by omega)).copy
  have key':=E3 (n:=(views.getD (e-2).toNat []).length) (P:=fun i=>∀ acc:List Bb,acc.length<=i->Gn views e (i:Int) m y acc ([]++m.2.2.2.2.2.2.2.1) (Mj m e)=some (Mj m e,acc++(((views.getD (e-2).toNat []).drop i).filter (· != m.1)).map (fun v=>((1:Int),m.1,v,e,(0:Int),([]:List AP))),true)) (fun acc ha=>ak (by
   unfold Qm
   rw [we2,if_pos (by omega),if_pos (by omega),if_neg (by simp),hcopy]
   simp)) (fun i hi ih acc ha=>ak (by
   unfold Qm
   rw [we2,if_pos (by omega),if_pos (by omega)]
   simp only [show ((i:Int)<((views.getD (e-2).toNat ([]:List Int)).length:Int)) from by omega,decide_true,if_true,show (0:Int)<=(i:Int) from by omega,Aj,AM (show i<9223372036854775807 by omega),show (0:Int)<=e-2 from by omega,show e-2<(views.length:Int) from by omega]
   rw [AW hi,BL hi,List.filter_cons]
   by_cases hh:((views.getD (e-2).toNat ([]:List Int))[i] != m.1)=true
   ·rw [if_pos hh,if_pos (by simp; omega),ih _ (by simp; omega),if_pos hh,List.map_cons,Bs]
    rfl
   ·rw [if_neg hh,ih _ (by omega),if_neg hh])) 0 (by omega) [] (by simp)
  exact key'
 have J1:∀ (b:Bool) y,Iq views e b m y []=some (if b=true then (Tg (Mj m e) (views.getD (e-1).toNat []) m.2.2.2.2.2.2.2.1,(CG (views.getD (e-1).toNat []) m.1).map (fun v=>(3,m.1,v,e,0,m.2.2.2.2.2.2.2.1)),true) else (Mj m e,(CG (views.getD (e-2).toNat []) m.1).map (fun v=>(1,m.1,v,e,0,[])),true)):=fun b y=>qU (by
  unfold ag
  rw [we,if_pos (by simp; omega)]
  cases b
  ·rw [if_neg (by simp)]
   exact L2 y
  ·rw [if_pos rfl,if_pos (by omega),if_pos (by omega)]
   have hh:=XR (views.getD (e-1).toNat []) m.2.2.2.2.2.2.2.1 (Mj m e) (by omega) (by omega)
   have hc:=((hm.new1 (e:=e) (by omega)).has (view:=views.getD (e-1).toNat []) (its:=m.2.2.2.2.2.2.2.1) rfl rfl hm.items).copy
   unfold Mj at hh hc ⊢
   simp only [List.nil_append]
   rw [hh,Y,hc]
   rfl)
 refine qV ?_
 unfold ah
 rw [we,we2,Cw _ _ (by unfold maxLen; omega),Y]
 simp only [J1]
 rw [if_pos (show (0:Int)<=e-2 by omega),if_pos (show e-2<(views.length:Int) by omega)]
 cases m.2.2.2.1<;>cases (m.2.1==e-1)<;>cases (views.getD (e-2).toNat ([]:List Int)).contains m.1<;>rfl)
theorem XS {m:AE} {views:List (List Int)} {e:Int} (hm:KS m) (hv:TV views):(Ft m views e).2.2=true->KS (Ft m views e).1/\(Ft m views e).1.1=m.1/\il m (Ft m views e).1 (Ft m views e).2.1/\(Ft m views e).2.1.length<=4:=by
 intro h
 have hvl:=hv.len
 have hep:=hm.ep
 unfold Ft at h ⊢
 split
 ·rename_i hc
  have he:1<=e/\e<=9:=by omega
  split
  ·have hw:=hv.wok (i:=(e-1).toNat) (by omega)
   refine ⟨(hm.new1 he).has rfl rfl hm.items,rfl,lZ (n:=Tg (Mj m e) (views.getD (e-1).toNat []) m.2.2.2.2.2.2.2.1) hm.id he hw.mem (by omega) (by omega) hm.items (by simp),?_⟩
   simp only [List.length_map]
   have:=Ii (views.getD (e-1).toNat []) m.1
   have:=hw.len
   omega
  ·have hw:=hv.wok (i:=(e-2).toNat) (by omega)
   refine ⟨hm.new1 he,rfl,lZ (n:=Mj m e) hm.id he hw.mem (by omega) (by omega) R_ (by simp),?_⟩
   simp only [List.length_map]
   have:=Ii (views.getD (e-2).toNat []) m.1
   have:=hw.len
   omega
 ·rename_i hc
  rw [if_neg hc] at h
  cases h
def XT (m:AE):AE:=(m.1,m.2.1,true,false,false,false,([]:List Int),([]:List AP),(0:Int),(0:Int),(0:Int),(0:Int),(O,O,(0:Int)),([]:List Int))
theorem vf (m:AE):cv m=some (XT m):=zO rfl
theorem KS.fall1 {m:AE} (h:KS m):KS (XT m) :=
 ⟨h.id,h.ep,fun hs=>(by cases hs),fun hf=>⟨rfl,rfl⟩,⟨by simp [XT],by simp [XT]⟩,⟨by simp [XT],by simp [XT]⟩,R_,⟨by simp [XT],by simp [XT]⟩,.inl er⟩
def E0 (id:Int) (views:List (List Int)):AE :=
 (id,(1:Int),false,(views.getD 0 []).contains id,((views.getD 0 []).getD 0 0==id),((views.getD 0 []).getD 0 0==id),([]:List Int),([]:List AP),(0:Int),(0:Int),(0:Int),(0:Int),(O,O,(0:Int)),([]:List Int))
theorem fi (id:Int) (views:List (List Int)) (hi:1<=id/\id<=6) (hv:TV views):Ok id views=some (E0 id views,true):=nO (by
 have hvl:=hv.len
 have g:=hv.get (i:=0) (by omega)
 unfold Wu
 rw [HE hv,Y,if_pos (by rfl),Ay,Y,if_neg (by rw [<- Bool.decide_and,decide_eq_true hi]; simp)]
 refine fW ?_
 unfold RZ
 rw [show views.getD (0:Int).toNat ([]:List Int)=views.getD 0 [] from rfl,Cw _ _ (by unfold maxLen; omega),Y]
 repeat rw [if_pos (by omega)]
 rfl)
theorem KS.first1 {id:Int} {views:List (List Int)} (hi:1<=id/\id<=6) (hv:TV views):KS (E0 id views):=by
 have hvl:=hv.len
 have g:=hv.get (i:=0) (by omega)
 refine ⟨hi,by simp [E0],fun hs=>⟨?_,hs,rfl⟩,fun hf=>(by cases hf),⟨by simp [E0],by simp [E0]⟩,⟨by simp [E0],by simp [E0]⟩,R_,⟨by simp [E0],by simp [E0]⟩,.inl er⟩
 simp only [E0,beq_iff_eq] at hs ⊢
 rw [<- hs,List.contains_iff_mem,AW (show 0<(views.getD 0 []).length by omega)]
 exact BZ _

abbrev IC:Type:=Int×ByteArray×ByteArray×Int×Int×Int×Int×Int×ByteArray
abbrev AS:Type:=List (List Int)×List AE×List Bb×List IC
abbrev EX:Type:=Int×Int×Int×Int×ByteArray×ByteArray
def FP:IC:=((0:Int),O,O,(0:Int),(0:Int),(0:Int),(0:Int),(0:Int),O)
def DJ:Bb:=((0:Int),(0:Int),(0:Int),(0:Int),(0:Int),([]:List AP))
def Az (g:AS) (i:Nat):AE:=g.2.1.getD i LF
theorem AAI (g:AS) (i:Nat):g.2.1.getD i ((0:Int),(0:Int),false,false,false,false,([]:List Int),([]:List AP),(0:Int),(0:Int),(0:Int),(0:Int),(O,O,(0:Int)),([]:List Int))=Az g i:=rfl
structure Iz (g:AS) (n:Nat):Prop where
 views:TV g.1
 six:g.2.1.length=6
 mem:∀ i,i<6->KS (Az g i)/\(Az g i).1=(i:Int)+1
 fly:∀ x∈g.2.2.1,XOk x
 flen:g.2.2.1.length<=8*n
 clen:g.2.2.2.length<=n
def TY (at_:Int) (s:DR) (c:IC):IC :=
 (c.1,c.2.1,c.2.2.1,c.2.2.2.1,at_,s.2.2.2.2.2,s.2.1,s.2.2.1,if (c.1==2)=true then s.2.2.2.2.1 else c.2.2.2.2.2.2.2.2)
def JY (at_:Int) (cs:List IC) (s:DR):List IC :=
 if (decide (s.1>=(cs.length:Int))||decide ((cs.getD s.1.toNat FP).2.2.2.2.1>=0))=true then cs else cs.set s.1.toNat (TY at_ s (cs.getD s.1.toNat FP))
def BT (g:AS) (n:AE) (told:List Bb) (said:List DR) (at_:Int):AS :=
 (g.1,g.2.1.set (n.1-1).toNat n,g.2.2.1++told,said.foldl (JY at_) g.2.2.2)
theorem ABU (at_:Int) (cs:List IC) (s:DR):(JY at_ cs s).length=cs.length:=by unfold JY; split<;>simp
theorem YN (at_:Int):∀ (said:List DR) (cs:List IC),(said.foldl (JY at_) cs).length=cs.length
 | [],cs=>rfl
 | s::l,cs=>by rw [List.foldl_cons,YN at_ l,ABU]
theorem yJ {α:Type} {l:List α} {i:Nat} {a d:α} (h:i<l.length):(l.set i a).getD i d=a:=by simp [List.getD,h]
theorem HW (n:AE) (told:List Bb) (said:List DR) (at_:Int) (g:AS) (hn:1<=n.1/\n.1<=6) (h6:g.2.1.length=6) (hf:g.2.2.1.length+told.length<=68719476736) (hc:g.2.2.2.length<=68719476736) (hs:n_ said) :
  GA n told said at_ g=some (BT g n told said at_):=nP (by
 have hsl:=hs.1
 unfold Ww
 rw [Ae (show -9223372036854775808<=n.1-1/\n.1-1<=9223372036854775807 by omega)]
 simp only [List.nil_append,List.length_nil,Nat.zero_add]
 rw [if_pos (by omega),if_pos (by omega),if_pos (by omega),if_pos (by omega),if_pos (by omega)]
 have key:=E3 (n:=said.length) (P:=fun i=>∀ (cs:List IC),cs.length<=68719476736->C8 said at_ (i:Int) (g.1,g.2.1.set (n.1-1).toNat n,g.2.2.1++told,cs) n (g.2.1.set (n.1-1).toNat n) (g.2.2.1++told)=some (g.1,g.2.1.set (n.1-1).toNat n,g.2.2.1++told,(said.drop i).foldl (JY at_) cs)) (fun cs hcs=>Rd (by
  unfold Kq
  rw [if_neg (by simp)]
  simp)) (fun i hi ih cs hcs=>Rd (by
  unfold Kq
  have hz:said.getD i ((0:Int),(0:Int),(0:Int),O,O,(0:Int))=said[i]:=AW hi
  have h0:=(hs.2 said[i] (BZ hi)).1
  simp only [show ((i:Int)<(said.length:Int)) from by omega,decide_true,if_true,show (0:Int)<=(i:Int) from by omega,Aj,hz,AM (show i<9223372036854775807 by omega)]
  have hz3:cs.getD said[i].1.toNat ((0:Int),O,O,(0:Int),(0:Int),(0:Int),(0:Int),(0:Int),O)=cs.getD said[i].1.toNat FP:=rfl
  rw [BL hi,List.foldl_cons,hz3]
  by_cases c1:said[i].1>=(cs.length:Int)
  ·rw [if_pos (by simpa using c1),ih cs hcs]
   have:JY at_ cs said[i]=cs:=by unfold JY; rw [if_pos (by simp [c1])]
   rw [this]
  ·rw [if_neg (by simpa using c1),if_pos (by omega),if_pos (by omega)]
   by_cases c2:(cs.getD said[i].1.toNat FP).2.2.2.2.1>=0
   ·rw [if_pos (show decide ((cs.getD said[i].1.toNat FP).2.2.2.2.1>=0)=true from decide_eq_true c2),ih cs hcs]
    have:JY at_ cs said[i]=cs:=by unfold JY; rw [if_pos (by rw [decide_eq_true c2,Bool.or_true])]
    rw [this]
   ·rw [if_neg (show ¬ decide ((cs.getD said[i].1.toNat FP).2.2.2.2.1>=0)=true from fun h=>c2 (of_decide_eq_true h))]
    have hcl:said[i].1.toNat<cs.length:=by omega
    have e:JY at_ cs said[i]=cs.set said[i].1.toNat (TY at_ said[i] (cs.getD said[i].1.toNat FP)):=by unfold JY; rw [if_neg (by rw [decide_eq_false c1,decide_eq_false c2]; simp)]
    rw [e]
    refine fX ?_
    unfold Rc
    have hz2:∀ (l:List IC),l.getD said[i].1.toNat ((0:Int),O,O,(0:Int),(0:Int),(0:Int),(0:Int),(0:Int),O)=l.getD said[i].1.toNat FP:=fun l=>rfl
    simp only [List.nil_append,List.length_nil,Nat.zero_add,hz2,yJ hcl,List.set_set,List.length_set]
    have hk:∀ r,(if cs.length<=68719476736 then r else (none:Option AS))=r:=fun r=>if_pos hcs
    rw [if_pos (show cs.length<=68719476736 from hcs),if_pos (show (0:Int)<=said[i].1 from h0),if_pos (show said[i].1<(cs.length:Int) by omega),AM (show i<9223372036854775807 by omega)]
    unfold TY
    by_cases c3:(cs.getD said[i].1.toNat FP).1=2
    ·rw [if_pos (show ((cs.getD said[i].1.toNat FP).1==2)=true by simpa using c3),if_pos (show ((cs.getD said[i].1.toNat FP).1==2)=true by simpa using c3)]
     exact ih _ (by simpa using hcs)
    ·rw [if_neg (show ¬ ((cs.getD said[i].1.toNat FP).1==2)=true by simpa using c3),if_neg (show ¬ ((cs.getD said[i].1.toNat FP).1==2)=true by simpa using c3)]
     exact ih _ (by simpa using hcs))) 0 (by omega) g.2.2.2 hc
 exact key)
theorem uT {g:AS} {n:AE} {told:List Bb} {said:List DR} {at_:Int} {i j:Nat} (h6:g.2.1.length=6) (hj:j<6) (hn:n.1=(i:Int)+1) (hi:i<6):Az (BT g n told said at_) j=if j=i then n else Az g j:=by
 unfold Az BT
 simp only [hn,show ((i:Int)+1-1).toNat=i from by omega]
 by_cases e:j=i
 ·subst e
  rw [if_pos rfl]
  exact yJ (by omega)
 ·rw [if_neg e]
  simp [List.getD,Bm,Ne.symm e]
theorem Iz.member {g:AS} {k:Nat} (h:Iz g k) {n:AE} {told:List Bb} {said:List DR} {at_:Int} {i:Nat} (hi:i<6) (hn:KS n) (hid:n.1=(i:Int)+1) (ht:∀ y∈told,XOk y) (hl:told.length<=4):Iz (BT g n told said at_) (k+1):=by
 refine ⟨h.views,by simp [BT,h.six],fun j hj=>?_,fun x hx=>?_,?_,?_⟩
 ·rw [uT h.six hj hid hi]
  split
  ·rename_i e
   subst e
   exact ⟨hn,hid⟩
  ·exact h.mem j hj
 ·rcases As.1 hx with h1 | h1
  ·exact h.fly x h1
  ·exact ht x h1
 ·have:=h.flen
  simp only [BT,List.length_append]
  omega
 ·have:=h.clen
  simp only [BT,YN]
  omega
def ID (g:AS) (at_:Int) (e:EX):AS:=(g.1,g.2.1,g.2.2.1,g.2.2.2++[(e.2.2.2.1,e.2.2.2.2.1,e.2.2.2.2.2,at_,-1,0,0,0,O)])
def Ky (g:AS) (at_:Int) (e:EX):Int×AS :=
 if (D4 (Az g (e.2.1-1).toNat) g.1 e.2.2.2.1 (g.2.2.2.length:Int) e.2.2.2.2.1 e.2.2.2.2.2).2.2.2=true then
  (0,BT (ID g at_ e) (D4 (Az g (e.2.1-1).toNat) g.1 e.2.2.2.1 (g.2.2.2.length:Int) e.2.2.2.2.1 e.2.2.2.2.2).1 (D4 (Az g (e.2.1-1).toNat) g.1 e.2.2.2.1 (g.2.2.2.length:Int) e.2.2.2.2.1 e.2.2.2.2.2).2.1 (D4 (Az g (e.2.1-1).toNat) g.1 e.2.2.2.1 (g.2.2.2.length:Int) e.2.2.2.2.1 e.2.2.2.2.2).2.2.1 at_)
 else (1,ID g at_ e)
theorem la {e:EX} (h:MA e=true):1<=e.1/\e.1<=6/\1<=e.2.1/\e.2.1<=6/\0<=e.2.2.1:=by
 unfold MA at h
 simp only [AD,decide_eq_true_eq] at h
 omega
theorem AAl {m n:AE} {l:List Bb} (h:il m n l):∀ y∈l,XOk y:=fun y hy=>(h y hy).1
theorem Iz.began {at_:Int} {e:EX} {g:AS} {k:Nat} (hg:Iz g k) (hn:1<=e.2.1/\e.2.1<=6):Iz (Ky g at_ e).2 (k+1)/\(Ky g at_ e).2.1=g.1:=by
 have hc:=hg.clen
 obtain ⟨m1,m2⟩:=hg.mem (e.2.1-1).toNat (by omega)
 have hb:=e_ (op:=e.2.2.2.1) (call:=(g.2.2.2.length:Int)) (key:=e.2.2.2.2.1) (val:=e.2.2.2.2.2) m1 hg.views
 refine ⟨?_,?_⟩
 ·unfold Ky
  split
  ·rename_i hq
   have hid:=hb.id hq
   have hm:=hg.member (said:=(D4 (Az g (e.2.1-1).toNat) g.1 e.2.2.2.1 (g.2.2.2.length:Int) e.2.2.2.2.1 e.2.2.2.2.2).2.2.1) (at_:=at_) (i:=(e.2.1-1).toNat) (by omega) (hb.mok hq) (by rw [hid,m2]) (AAl (hb.told hq)) hb.tlen
   exact ⟨hm.views,hm.six,hm.mem,hm.fly,hm.flen,by simp only [BT,YN,ID,List.length_append,List.length_cons,List.length_nil]; omega⟩
  ·exact ⟨hg.views,hg.six,hg.mem,hg.fly,by have:=hg.flen; show g.2.2.1.length<=_; omega,by simp only [ID,List.length_append,List.length_cons,List.length_nil]; omega⟩
 ·unfold Ky; split<;>rfl
theorem im (at_:Int) (e:EX) (g:AS) (k:Nat) (hg:Iz g k) (hk:k<=1000) (hn:1<=e.2.1/\e.2.1<=6):QH at_ e g=some (Ky g at_ e)/\Iz (Ky g at_ e).2 (k+1)/\(Ky g at_ e).2.1=g.1:=by
 have hc:=hg.clen
 have hf:=hg.flen
 have h6:=hg.six
 have wn:IntKind.i64.wrap (e.2.1-1)=e.2.1-1:=Ae (by omega)
 have wl:IntKind.i64.wrap (((g.2.2.2.length+1:Nat):Int)-1)=(g.2.2.2.length:Int):=by rw [Ae (by omega)]; omega
 obtain ⟨m1,m2⟩:=hg.mem (e.2.1-1).toNat (by omega)
 have hb:=e_ (op:=e.2.2.2.1) (call:=(g.2.2.2.length:Int)) (key:=e.2.2.2.2.1) (val:=e.2.2.2.2.2) m1 hg.views
 refine ⟨qI ?_,hg.began hn⟩
 ·unfold aO Ky
  simp only [List.nil_append,List.length_nil,Nat.zero_add,List.length_append,List.length_cons]
  rw [if_pos (by omega),if_pos (by omega),wn,if_pos (by omega),if_pos (by omega),wl,
   AAI g (e.2.1-1).toNat,
   qq _ _ _ _ _ _ m1 hg.views,Y]
  cases hq:(D4 (Az g (e.2.1-1).toNat) g.1 e.2.2.2.1 (g.2.2.2.length:Int) e.2.2.2.2.1 e.2.2.2.2.2).2.2.2 with
  | false=>rfl
  | true =>
   have hid:=hb.id hq
   have hmo:=hb.mok hq
   have htl:=hb.tlen
   rw [if_neg (by simp),if_pos rfl]
   have:=HW (D4 (Az g (e.2.1-1).toNat) g.1 e.2.2.2.1 (g.2.2.2.length:Int) e.2.2.2.2.1 e.2.2.2.2.2).1 (D4 (Az g (e.2.1-1).toNat) g.1 e.2.2.2.1 (g.2.2.2.length:Int) e.2.2.2.2.1 e.2.2.2.2.2).2.1 (D4 (Az g (e.2.1-1).toNat) g.1 e.2.2.2.1 (g.2.2.2.length:Int) e.2.2.2.2.1 e.2.2.2.2.2).2.2.1 at_ (ID g at_ e) hmo.id h6 (by show g.2.2.1.length+_<=_; omega) (by simp only [ID,List.length_append,List.length_cons,List.length_nil]; omega) hb.said
   unfold ID at this ⊢
   rw [this]
   rfl

def Jr (g:AS) (at_:Int) (m:AE) (node:Int):Nat->Int->Int×AS
 | 0,_=>(1,g)
 | k+1,e=>if ((g.1.getD (e-1).toNat []).getD 0 0 != node)=true then Jr g at_ m node k (e+1)
  else if (Ft m g.1 e).2.2=true then (0,BT g (Ft m g.1 e).1 (Ft m g.1 e).2.1 [] at_) else (1,g)
def eH (g:AS) (at_ node:Int):Int×AS:=Jr g at_ (Az g (node-1).toNat) node ((g.1.length:Int)-(Az g (node-1).toNat).2.1).toNat ((Az g (node-1).toNat).2.1+1)
theorem Iz.up {g:AS} {k:Nat} (h:Iz g k):Iz g (k+1):=⟨h.views,h.six,h.mem,h.fly,by have:=h.flen; omega,by have:=h.clen; omega⟩
theorem Iz.adopted {at_ node:Int} {g:AS} {k:Nat} (hg:Iz g k) (hn:1<=node/\node<=6):∀ (j:Nat) (e:Int),Iz (Jr g at_ (Az g (node-1).toNat) node j e).2 (k+1)/\(Jr g at_ (Az g (node-1).toNat) node j e).2.1=g.1
 | 0,_=>⟨hg.up,rfl⟩
 | j+1,e=>by
  obtain ⟨m1,m2⟩:=hg.mem (node-1).toNat (by omega)
  unfold Jr
  split
  ·exact Iz.adopted hg hn j (e+1)
  ·split
   ·rename_i hq
    obtain ⟨a1,a2,a3,a4⟩:=XS (e:=e) m1 hg.views hq
    exact ⟨hg.member (i:=(node-1).toNat) (by omega) a1 (by rw [a2,m2]) (AAl a3) a4,rfl⟩
   ·exact ⟨hg.up,rfl⟩
theorem ip (at_ node:Int) (g:AS) (k:Nat) (hg:Iz g k) (hk:k<=1000) (hn:1<=node/\node<=6):QI at_ node g=some (eH g at_ node)/\Iz (eH g at_ node).2 (k+1)/\(eH g at_ node).2.1=g.1:=by
 have hc:=hg.clen
 have hf:=hg.flen
 have h6:=hg.six
 have hvl:=hg.views.len
 have wn:IntKind.i64.wrap (node-1)=node-1:=Ae (by omega)
 obtain ⟨m1,m2⟩:=hg.mem (node-1).toNat (by omega)
 have hep:=m1.ep
 have wm:IntKind.i64.wrap ((Az g (node-1).toNat).2.1+1)=(Az g (node-1).toNat).2.1+1:=Ae (by omega)
 have key:∀ (j:Nat) (e:Int),e=(g.1.length:Int)+1-(j:Int)->2<=e->Id at_ node e g (Az g (node-1).toNat)=some (Jr g at_ (Az g (node-1).toNat) node j e):=by
  intro j
  induction j with
  | zero =>
   intro e he h2
   refine L9 ?_
   unfold Ie
   rw [if_neg (by simp; omega)]
   rfl
  | succ j ih =>
   intro e he h2
   have we:IntKind.i64.wrap (e-1)=e-1:=Ae (by omega)
   have we2:IntKind.i64.wrap (e+1)=e+1:=Ae (by omega)
   have gv:=hg.views.get (i:=(e-1).toNat) (by omega)
   have ha:=XS (e:=e) m1 hg.views
   have i1:=ih (e+1) (by omega) (by omega)
   unfold Jr
   refine L9 ?_
   ·unfold Ie
    rw [if_pos (by simp; omega),we,we2,if_pos (by omega),if_pos (by omega),if_pos (by omega),if_pos (by omega),show (g.1.getD (e-1).toNat ([]:List Int)).getD (0:Int).toNat 0=(g.1.getD (e-1).toNat []).getD 0 0 from rfl]
    by_cases h3:((g.1.getD (e-1).toNat []).getD 0 0 != node)=true
    ·rw [if_pos h3,if_pos h3,i1]
    ·rw [if_neg h3,if_neg h3,qr _ _ _ m1 hg.views,Y]
     cases hq:(Ft (Az g (node-1).toNat) g.1 e).2.2 with
     | false=>rfl
     | true =>
      obtain ⟨a1,a2,a3,a4⟩:=ha hq
      rw [if_neg (by simp),if_pos rfl,HW _ _ _ _ _ a1.id h6 (by omega) (by omega) GU]
      rfl
 have hmain:=key ((g.1.length:Int)-(Az g (node-1).toNat).2.1).toNat ((Az g (node-1).toNat).2.1+1)
 by_cases hle:(Az g (node-1).toNat).2.1<=(g.1.length:Int)
 ·have k1:=hmain (by omega) (by omega)
  refine ⟨aP ?_,hg.adopted hn _ _⟩
  unfold Qh
  rw [wn,if_pos (by omega),if_pos (by omega),AAI g (node-1).toNat,wm]
  exact k1
 ·have e0:((g.1.length:Int)-(Az g (node-1).toNat).2.1).toNat=0:=by omega
  unfold eH
  rw [e0]
  refine ⟨aP ?_,hg.up,rfl⟩
  unfold Qh
  rw [wn,if_pos (by omega),if_pos (by omega),AAI g (node-1).toNat,wm]
  refine L9 ?_
  unfold Ie
  rw [if_neg (fun h=>hle (by have:=of_decide_eq_true h; omega))]
  rfl
def Fd (g:AS) (i:Nat):AS:=(g.1,g.2.1,g.2.2.1.take i++g.2.2.1.drop (i+1),g.2.2.2)
def iq (g:AS) (at_:Int) (e:EX):Int×AS :=
 if g.2.2.1=[] then (1,g)
 else if e.1=4 then (0,(g.1,g.2.1,g.2.2.1++[g.2.2.1.getD (e.2.2.1 % (g.2.2.1.length:Int)).toNat DJ],g.2.2.2))
 else if e.1=3 then (0,Fd g (e.2.2.1 % (g.2.2.1.length:Int)).toNat)
 else (0,BT (Fd g (e.2.2.1 % (g.2.2.1.length:Int)).toNat)
  (D3 (Az g ((g.2.2.1.getD (e.2.2.1 % (g.2.2.1.length:Int)).toNat DJ).2.2.1-1).toNat) g.1 (g.2.2.1.getD (e.2.2.1 % (g.2.2.1.length:Int)).toNat DJ)).1
  (D3 (Az g ((g.2.2.1.getD (e.2.2.1 % (g.2.2.1.length:Int)).toNat DJ).2.2.1-1).toNat) g.1 (g.2.2.1.getD (e.2.2.1 % (g.2.2.1.length:Int)).toNat DJ)).2.1
  (D3 (Az g ((g.2.2.1.getD (e.2.2.1 % (g.2.2.1.length:Int)).toNat DJ).2.2.1-1).toNat) g.1 (g.2.2.1.getD (e.2.2.1 % (g.2.2.1.length:Int)).toNat DJ)).2.2 at_)
theorem Iz.less {g:AS} {k:Nat} (h:Iz g k) (i:Nat):Iz (Fd g i) k:=by
 refine ⟨h.views,h.six,h.mem,fun x hx=>?_,?_,h.clen⟩
 ·rcases As.1 hx with h1 | h1
  ·exact h.fly x (List.mem_of_mem_take h1)
  ·exact h.fly x (List.mem_of_mem_drop h1)
 ·have:=h.flen
  simp only [Fd,List.length_append,List.length_take,List.length_drop]
  omega
theorem Iz.flew {at_:Int} {e:EX} {g:AS} {k:Nat} (hg:Iz g k):Iz (iq g at_ e).2 (k+1)/\(iq g at_ e).2.1=g.1:=by
 have hc:=hg.clen
 have hf:=hg.flen
 unfold iq
 split
 ·exact ⟨hg.up,rfl⟩
 ·rename_i h0
  have hl:0<g.2.2.1.length:=List.length_pos_iff.2 h0
  have hr0:=Int.emod_nonneg e.2.2.1 (show (g.2.2.1.length:Int)≠0 by omega)
  have hr1:=Int.emod_lt_of_pos e.2.2.1 (show 0<(g.2.2.1.length:Int) by omega)
  generalize hq:e.2.2.1 % (g.2.2.1.length:Int)=q at hr0 hr1
  have hx:=hg.fly (g.2.2.1.getD q.toNat DJ) (by rw [AW (show q.toNat<g.2.2.1.length by omega)]; exact BZ _)
  have hto:=hx.to
  obtain ⟨m1,m2⟩:=hg.mem ((g.2.2.1.getD q.toNat DJ).2.2.1-1).toNat (by omega)
  have hh:=P4 (x:=g.2.2.1.getD q.toNat DJ) m1 hg.views
  have hless:=hg.less q.toNat
  split
  ·refine ⟨⟨hg.views,hg.six,hg.mem,fun x hx'=>?_,by simp only [List.length_append,List.length_cons,List.length_nil]; omega,by show g.2.2.2.length<=_; omega⟩,rfl⟩
   rcases As.1 hx' with h1 | h1
   ·exact hg.fly x h1
   ·simp only [Cl] at h1; subst h1; exact hx
  ·split
   ·exact ⟨hless.up,rfl⟩
   ·exact ⟨hless.member (i:=((g.2.2.1.getD q.toNat DJ).2.2.1-1).toNat) (by omega) hh.mok (by rw [hh.id,m2]) (AAl hh.told) hh.tlen,rfl⟩
theorem oA (at_:Int) (e:EX) (g:AS) (k:Nat) (hg:Iz g k) (hk:k<=1000) (hn:0<=e.2.2.1):VQ at_ e g=some (iq g at_ e)/\Iz (iq g at_ e).2 (k+1)/\(iq g at_ e).2.1=g.1:=by
 have hc:=hg.clen
 have hf:=hg.flen
 have h6:=hg.six
 have hvl:=hg.views.len
 refine ⟨vW ?_,hg.flew⟩
 by_cases h0:g.2.2.1=[]
 ·unfold iq
  rw [if_pos h0]
  unfold VS
  rw [h0,if_pos (by rfl)]
 ·have hl:0<g.2.2.1.length:=List.length_pos_iff.2 h0
  have hm:Int.tmod e.2.2.1 (g.2.2.1.length:Int)=e.2.2.1 % (g.2.2.1.length:Int):=Int.tmod_eq_emod_of_nonneg hn
  have hr0:=Int.emod_nonneg e.2.2.1 (show (g.2.2.1.length:Int)≠0 by omega)
  have hr1:=Int.emod_lt_of_pos e.2.2.1 (show 0<(g.2.2.1.length:Int) by omega)
  generalize hq:e.2.2.1 % (g.2.2.1.length:Int)=q at hm hr0 hr1
  have hx:=hg.fly (g.2.2.1.getD q.toNat DJ) (by rw [AW (show q.toNat<g.2.2.1.length by omega)]; exact BZ _)
  have wq:IntKind.i64.wrap (q+1)=q+1:=Ae (by omega)
  have hto:=hx.to
  have wt:IntKind.i64.wrap ((g.2.2.1.getD q.toNat DJ).2.2.1-1)=(g.2.2.1.getD q.toNat DJ).2.2.1-1:=Ae (by omega)
  obtain ⟨m1,m2⟩:=hg.mem ((g.2.2.1.getD q.toNat DJ).2.2.1-1).toNat (by omega)
  have hh:=P4 (x:=g.2.2.1.getD q.toNat DJ) m1 hg.views
  have hless:=hg.less q.toNat
  have hxl:=KT hx.items
  have hz:g.2.2.1.getD q.toNat ((0:Int),(0:Int),(0:Int),(0:Int),(0:Int),([]:List AP))=g.2.2.1.getD q.toNat DJ:=rfl
  have hz2:∀ i,g.2.1.getD i ((0:Int),(0:Int),false,false,false,false,([]:List Int),([]:List AP),(0:Int),(0:Int),(0:Int),(0:Int),(O,O,(0:Int)),([]:List Int))=Az g i:=fun i=>rfl
  have e1:(g.2.2.1.take q.toNat).drop (0:Int).toNat=g.2.2.1.take q.toNat:=rfl
  have e2:(g.2.2.1.take (g.2.2.1.length:Int).toNat).drop (q+1).toNat=g.2.2.1.drop (q.toNat+1):=by
   rw [show (g.2.2.1.length:Int).toNat=g.2.2.1.length from by omega,List.take_length,show (q+1).toNat=q.toNat+1 from by omega]
  unfold iq
  rw [if_neg h0,hq]
  ·unfold VS
   rw [if_neg (by simp; exact h0),if_neg (by omega),hm,hz,wq,wt,hz2,e1,e2,if_pos hr0,if_pos hr1]
   simp only [List.nil_append,List.length_nil,Nat.zero_add]
   by_cases h4:e.1=4
   ·rw [if_pos (by simpa using h4),if_pos h4,if_pos (by omega),if_pos (by simp; omega)]
   ·rw [if_neg (by simpa using h4),if_neg h4,if_pos (by omega),if_pos hr0,if_pos (by omega),if_pos (by omega),if_pos (by omega),if_pos (by omega),if_pos (by simp; omega),if_pos (by simp; omega)]
    by_cases h3:e.1=3
    ·rw [if_pos (by simpa using h3),if_pos h3]
     rfl
    ·rw [if_neg (by simpa using h3),if_neg h3,if_pos (by omega),if_pos (by omega),lY _ _ _ m1 hg.views (by omega),Y]
     have htl:=hh.tlen
     have:=HW (D3 (Az g ((g.2.2.1.getD q.toNat DJ).2.2.1-1).toNat) g.1 (g.2.2.1.getD q.toNat DJ)).1 (D3 (Az g ((g.2.2.1.getD q.toNat DJ).2.2.1-1).toNat) g.1 (g.2.2.1.getD q.toNat DJ)).2.1 (D3 (Az g ((g.2.2.1.getD q.toNat DJ).2.2.1-1).toNat) g.1 (g.2.2.1.getD q.toNat DJ)).2.2 at_ (Fd g q.toNat) hh.mok.id h6 (by have:=hless.flen; omega) (by have:=hless.clen; omega) hh.said
     unfold Fd at this ⊢
     rw [this]
     rfl
def uU (g:AS) (at_:Int) (e:EX):Int×AS :=
 if e.1=1 then Ky g at_ e else if e.1=5 then eH g at_ e.2.1
 else if e.1=6 then (0,BT g (XT (Az g (e.2.1-1).toNat)) [] [] at_) else iq g at_ e
theorem Iz.event {at_:Int} {e:EX} {g:AS} {k:Nat} (hg:Iz g k) (he:MA e=true):Iz (uU g at_ e).2 (k+1)/\(uU g at_ e).2.1=g.1:=by
 have hn:=la he
 unfold uU
 split
 ·exact hg.began (by omega)
 ·split
  ·exact hg.adopted (by omega) _ _
  ·split
   ·obtain ⟨m1,m2⟩:=hg.mem (e.2.1-1).toNat (by omega)
    exact ⟨hg.member (i:=(e.2.1-1).toNat) (by omega) m1.fall1 m2 (fun y hy=>by cases hy) (by simp),rfl⟩
   ·exact hg.flew
theorem bB (at_:Int) (e:EX) (g:AS) (k:Nat) (hg:Iz g k) (hk:k<=1000) (he:MA e=true):R0 at_ e g=some (uU g at_ e)/\Iz (uU g at_ e).2 (k+1)/\(uU g at_ e).2.1=g.1:=by
 have hn:=la he
 have h6:=hg.six
 have hc:=hg.clen
 have hf:=hg.flen
 refine ⟨xw ?_,hg.event he⟩
 unfold uU
 by_cases h1:e.1=1
 ·have a:=(im at_ e g k hg hk (by omega)).1
  rw [if_pos h1]
  unfold Na
  rw [if_pos (by simpa using h1),a]
  rfl
 ·rw [if_neg h1]
  by_cases h5:e.1=5
  ·have a:=(ip at_ e.2.1 g k hg hk (by omega)).1
   rw [if_pos h5]
   unfold Na
   rw [if_neg (by simpa using h1),if_pos (by simpa using h5),a]
   rfl
  ·rw [if_neg h5]
   by_cases h7:e.1=6
   ·obtain ⟨m1,m2⟩:=hg.mem (e.2.1-1).toNat (by omega)
    rw [if_pos h7]
    have wn:IntKind.i64.wrap (e.2.1-1)=e.2.1-1:=Ae (by omega)
    unfold Na
    rw [if_neg (by simpa using h1),if_neg (by simpa using h5),if_pos (by simpa using h7),wn,if_pos (by omega),if_pos (by omega),
     AAI g (e.2.1-1).toNat,
     vf,Y,HW _ _ _ _ _ m1.fall1.id h6 (by simp; omega) (by omega) GU]
    rfl
   ·have a:=(oA at_ e g k hg hk (by omega)).1
    rw [if_neg h7]
    unfold Na
    rw [if_neg (by simpa using h1),if_neg (by simpa using h5),if_neg (by simpa using h7),a]
    rfl

theorem N2 (x:List (List Int)) (h:x.length<=1000) (ho:∀ a∈x,a.length<=1000):HT x=some x:=fV (by
 unfold RX
 have key:=E3 (n:=x.length) (P:=fun i=>Fq x (i:Int) (x.take i)=some x) (Nn (by
  unfold Ic
  rw [if_neg (by simp),List.take_length])) (fun i hi ih=>Nn (by
  unfold Ic
  have:=ho x[i] (BZ hi)
  simp only [show ((i:Int)<(x.length:Int)) from by omega,decide_true,if_true,show (0:Int)<=(i:Int) from by omega,Aj,AW hi,AM (show i<9223372036854775807 by omega),List.nil_append,List.length_nil,Nat.zero_add,List.length_cons,List.length_take]
  rw [if_pos (by omega),if_pos (by omega),List.take_append_getElem]
  exact ih)) 0 (by omega)
 exact key)
theorem bX (x:List Bb) (h:x.length<=100000) (ho:∀ a∈x,a.2.2.2.2.2.length<=1000):Ll x=some x:=iY (by
 unfold TP
 have key:=E3 (n:=x.length) (P:=fun i=>EL x (i:Int) (x.take i)=some x) (OL (by
  unfold I7
  rw [if_neg (by simp),List.take_length])) (fun i hi ih=>OL (by
  unfold I7
  have:=ho x[i] (BZ hi)
  simp only [show ((i:Int)<(x.length:Int)) from by omega,decide_true,if_true,show (0:Int)<=(i:Int) from by omega,Aj,AW hi,AM (show i<9223372036854775807 by omega),List.nil_append,List.length_nil,Nat.zero_add,List.length_cons,List.length_take]
  rw [if_pos (by omega),if_pos (by omega)]
  change EL x _ (x.take i++[x[i]])=_
  rw [List.take_append_getElem]
  exact ih)) 0 (by omega)
 exact key)
theorem lc (g:AS) (k:Nat) (hg:Iz g k) (hk:k<=1000):Sh g=some g:=tZ (by
 have hvl:=hg.views.len
 have hc:=hg.clen
 have hf:=hg.flen
 have h6:=hg.six
 unfold dL
 rw [N2 g.1 (by omega) (fun a ha=>by have:=hg.views.view ha; omega),Y,bX g.2.2.1 (by omega) (fun a ha=>by have:=KT (hg.fly a ha).items; omega),Y,if_pos (by simp; omega)]
 have key:∀ (a b c d e:_),G4 ((0:Nat):Int) g.1 g.2.1 g.2.2.1 g.2.2.2 a b c d e [] g.1 g.2.2.1 ([]++g.2.2.2)=some g:=by
  intro a b c d e
  have key':=E3 (n:=g.2.1.length) (P:=fun i=>G4 (i:Int) g.1 g.2.1 g.2.2.1 g.2.2.2 a b c d e (g.2.1.take i) g.1 g.2.2.1 ([]++g.2.2.2)=some g) (Ud (by
   unfold Nb
   rw [if_neg (by simp),List.take_length]
   rfl)) (fun i hi ih=>Ud (by
   unfold Nb
   have hm:=(hg.mem i (by omega)).1
   unfold Az at hm
   rw [AW hi] at hm
   simp only [show ((i:Int)<(g.2.1.length:Int)) from by omega,decide_true,if_true,show (0:Int)<=(i:Int) from by omega,Aj,AW hi,hm.copy,Y,AM (show i<9223372036854775807 by omega),List.length_take,List.length_cons,List.length_nil]
   rw [if_pos (by omega),List.take_append_getElem]
   exact ih)) 0 (by omega)
  exact key'
 exact key _ _ _ _ _)
def Ai (views:List (List Int)):AS:=(views,[E0 1 views,E0 2 views,E0 3 views,E0 4 views,E0 5 views,E0 6 views],[],[])
theorem SA {views:List (List Int)} (hv:TV views):Iz (Ai views) 0:=by
 refine ⟨hv,rfl,fun i hi=>?_,fun x hx=>(by cases hx),(by simp [Ai]),(by simp [Ai])⟩
 have h5:i=0\/i=1\/i=2\/i=3\/i=4\/i=5:=by omega
 rcases h5 with rfl | rfl | rfl | rfl | rfl | rfl<;>exact ⟨KS.first1 (by omega) hv,rfl⟩
theorem N3 {views:List (List Int)} (hv:TV views):LP views=some (Ai views,true):=qE (by
 have hvl:=hv.len
 unfold aK
 rw [HE hv,Y,if_neg (by simp),N2 views (by omega) (fun a ha=>by have:=hv.view ha; omega),Y]
 have step:∀ (i:Nat) (a:_) (b:_) (c:_) (d:_) (l:List AE) r,1<=i->i<=6->l.length<=6->GN views ((i+1:Nat):Int) a b c d (l++[E0 (i:Int) views]) views=some r->GN views (i:Int) a b c d l views=some r:=by
  intro i a b c d l r h1 h6 hl hr
  refine TI ?_
  unfold L6
  rw [if_pos (by simp; omega),fi _ _ (by omega) hv,Y,if_pos (by simp; omega),AM (show i<9223372036854775807 by omega)]
  exact hr
 refine step 1 _ _ _ _ _ _ (by omega) (by omega) (by simp) ?_
 refine step 2 _ _ _ _ _ _ (by omega) (by omega) (by simp) ?_
 refine step 3 _ _ _ _ _ _ (by omega) (by omega) (by simp) ?_
 refine step 4 _ _ _ _ _ _ (by omega) (by omega) (by simp) ?_
 refine step 5 _ _ _ _ _ _ (by omega) (by omega) (by simp) ?_
 refine step 6 _ _ _ _ _ _ (by omega) (by omega) (by simp) ?_
 refine TI ?_
 unfold L6
 rw [if_neg (by decide)]
 rfl)
def Js:Nat->List EX->AS->List Int->AS×List Int
 | _,[],g,cs=>(g,cs)
 | n,e::es,g,cs=>Js (n+1) es (uU g (n:Int) e).2 (cs++[(uU g (n:Int) e).1])
theorem rI:∀ (es:List EX) (n:Nat) (g:AS) (cs:List Int),Iz g n->n+es.length<=70->(∀ e∈es,MA e=true)->Iz (Js n es g cs).1 (n+es.length)/\(Js n es g cs).1.1=g.1/\(Js n es g cs).2.length=cs.length+es.length
 | [],n,g,cs,hg,_,_=>⟨hg,rfl,rfl⟩
 | e::es,n,g,cs,hg,hn,he=>by
  simp only [List.length_cons] at hn
  obtain ⟨h2,h3⟩:=hg.event (at_:=(n:Int)) (he e (by simp))
  obtain ⟨h4,h5,h6⟩:=rI es (n+1) _ (cs++[(uU g (n:Int) e).1]) h2 (by omega) (fun x hx=>he x (by simp [hx]))
  refine ⟨?_,h5.trans h3,?_⟩
  ·have:n+(e::es).length=n+1+es.length:=by simp only [List.length_cons]; omega
   rw [this]
   exact h4
  ·simp only [Js,h6,List.length_append,List.length_cons,List.length_nil]
   omega
theorem ld {views:List (List Int)} {events:List EX} (hv:TV views) (hl:events.length<=70) (he:∀ e∈events,MA e=true) :
  QD views events=some ((Js 0 events (Ai views) []).1,(Js 0 events (Ai views) []).2,true):=pW (by
 have hg:=SA hv
 obtain ⟨r1,r2,r3⟩:=rI events 0 (Ai views) [] hg (by omega) he
 unfold Zp
 rw [N3 hv,Y]
 have L3:∀ y,GL events ((0:Nat):Int) y (Ai views) []=some ((Js 0 events (Ai views) []).1,(Js 0 events (Ai views) []).2,true):=by
  intro y
  have key:=E3 (n:=events.length) (P:=fun i=>∀ (g:AS) (cs:List Int),Iz g i->cs.length=i->Js i (events.drop i) g cs=Js 0 events (Ai views) []->GL events (i:Int) y g cs=some ((Js 0 events (Ai views) []).1,(Js 0 events (Ai views) []).2,true)) (fun g cs hgi hcs hr=>Sx (by
   unfold Lu
   rw [if_neg (by simp),lc g events.length hgi (by omega),Y]
   rw [List.drop_eq_nil_of_le (Nat.le_refl _)] at hr
   rw [<- hr]
   rfl)) (fun i hi ih g cs hgi hcs hr=>Sx (by
   unfold Lu
   obtain ⟨d1,d2,_⟩:=bB (i:Int) events[i] g i hgi (by omega) (he _ (BZ hi))
   simp only [show ((i:Int)<(events.length:Int)) from by omega,decide_true,if_true,show (0:Int)<=(i:Int) from by omega,Aj,AW hi,d1,Y,AM (show i<9223372036854775807 by omega)]
   rw [if_pos (by simp; omega)]
   refine ih _ _ d2 (by simp; omega) ?_
   rw [BL hi] at hr
   exact hr)) 0 (by omega) (Ai views) [] hg rfl rfl
  exact key
 have L0:∀ y,ES events true ((0:Nat):Int) y (Ai views)=some ((Js 0 events (Ai views) []).1,(Js 0 events (Ai views) []).2,true):=by
  intro y
  have J2:IW events true y (Ai views)=some ((Js 0 events (Ai views) []).1,(Js 0 events (Ai views) []).2,true):=hP (by
   unfold Sw
   rw [if_neg (by simp)]
   exact L3 y)
  refine E3 (n:=events.length) (P:=fun i=>ES events true (i:Int) y (Ai views)=some ((Js 0 events (Ai views) []).1,(Js 0 events (Ai views) []).2,true)) (Sy (by
   unfold Lv
   rw [if_neg (by simp)]
   exact J2)) (fun i hi ih=>Sy (by
   unfold Lv
   rw [if_pos (by simpa using hi),if_pos rfl]
   refine hO ?_
   unfold Sv
   have hz:events.getD i ((0:Int),(0:Int),(0:Int),(0:Int),O,O)=events[i]:=AW hi
   rw [if_pos (by simp; omega),if_pos (by omega),if_pos (by omega),Aj,hz,lT,he _ (BZ hi),Y,AM (show i<9223372036854775807 by omega)]
   exact ih)) 0 (by omega)
 exact L0 _)
theorem ir (d:P1) (h:bA d):∃ v d',QG d=some (v,d')/\bA d'/\TV v:=by
 have inner:∀ (m j:Nat),j+m=3->∀ (i:Int) (d:P1) (vs:List (List Int)) (v:List Int),bA d->0<=i->vs.length<=10->v.length<=j->(j=0\/1<=v.length)->(∀ a∈v,1<=a/\a<=6)->v.Nodup ->
   ∃ v' d',WOk v'/\bA d'/\∀ r,GQ (IntKind.i64.wrap (i+1)) d' (vs++[v'])=some r->GP i (j:Int) d vs v=some r:=by
  intro m
  induction m with
  | zero =>
   intro j hj i d vs v hd hi hvs hv h1 hm hnd
   obtain ⟨y,d1,e1,k1,y0,y1⟩:=Bx 3 d hd
   have y1:=y1 (by omega)
   refine ⟨v,d1,⟨by omega,hm,hnd⟩,k1,fun r hr=>Ib ?_⟩
   unfold GR
   have wy:IntKind.i64.wrap (1+y)=1+y:=Ae (by omega)
   rw [e1,Y,wy,if_neg (by simp; omega),if_pos (by simp; omega)]
   exact hr
  | succ m ih =>
   intro j hj i d vs v hd hi hvs hv h1 hm hnd
   obtain ⟨y,d1,e1,k1,y0,y1⟩:=Bx 3 d hd
   have y1:=y1 (by omega)
   have wy:IntKind.i64.wrap (1+y)=1+y:=Ae (by omega)
   by_cases hlt:(j:Int)<1+y
   ·obtain ⟨z,d2,e2,k2,z0,z1⟩:=Bx 4 d1 k1
    have z1:=z1 (by omega)
    have wz:IntKind.i64.wrap (1+z)=1+z:=Ae (by omega)
    by_cases hc:v.contains (1+z)=true
    ·obtain ⟨v',d',w1,w2,w3⟩:=ih (j+1) (by omega) i d2 vs v k2 hi hvs (by omega) (.inr (by
      cases v with
      | nil=>simp at hc
      | cons a v=>simp)) hm hnd
     refine ⟨v',d',w1,w2,fun r hr=>Ib ?_⟩
     unfold GR
     rw [e1,Y,wy,if_pos (by simpa using hlt),e2,Y,wz,Cw v _ (by unfold maxLen; omega),Y,hc,if_neg (by simp),AM (show j<9223372036854775807 by omega)]
     exact w3 r hr
    ·have hc':v.contains (1+z)=false:=by simpa using hc
     obtain ⟨v',d',w1,w2,w3⟩:=ih (j+1) (by omega) i d2 vs (v++[1+z]) k2 hi hvs (by simp; omega) (.inr (by simp)) (fun a ha=>by
      rcases As.1 ha with h | h
      ·exact hm a h
      ·simp only [Cl] at h; omega) (by
      rw [List.nodup_append]
      refine ⟨hnd,by simp,fun a ha b hb e=>?_⟩
      simp only [Cl] at hb
      subst hb
      subst e
      rw [List.contains_iff_mem.2 ha] at hc'
      cases hc')
     refine ⟨v',d',w1,w2,fun r hr=>Ib ?_⟩
     unfold GR
     rw [e1,Y,wy,if_pos (by simpa using hlt),e2,Y,wz,Cw v _ (by unfold maxLen; omega),Y,hc',if_pos (by rfl),if_pos (by simp; omega),AM (show j<9223372036854775807 by omega)]
     exact w3 r hr
   ·refine ⟨v,d1,⟨by omega,hm,hnd⟩,k1,fun r hr=>Ib ?_⟩
    unfold GR
    rw [e1,Y,wy,if_neg (by simpa using hlt),if_pos (by simp; omega)]
    exact hr
 have outer:∀ (m i:Nat),i+m=5->∀ (d:P1) (vs:List (List Int)),bA d->vs.length=i->(∀ v∈vs,WOk v)->∃ v' d',GQ (i:Int) d vs=some (v',d')/\bA d'/\TV v':=by
  have fin:∀ (vs:List (List Int)),1<=vs.length->vs.length<=5->(∀ v∈vs,WOk v)->TV vs:=fun vs h1 h2 h3=>⟨LE.2 ⟨fun v hv=>AAj.2 (h3 v hv),h1,by omega⟩⟩
  intro m
  induction m with
  | zero =>
   intro i hi d vs hd hl hv
   obtain ⟨y,d1,e1,k1,y0,y1⟩:=Bx 5 d hd
   have y1:=y1 (by omega)
   have wy:IntKind.i64.wrap (1+y)=1+y:=Ae (by omega)
   refine ⟨vs,d1,L8 ?_,k1,fin vs (by omega) (by omega) hv⟩
   unfold Ia
   rw [e1,Y,wy,if_neg (by simp; omega)]
  | succ m ih =>
   intro i hi d vs hd hl hv
   obtain ⟨y,d1,e1,k1,y0,y1⟩:=Bx 5 d hd
   have y1:=y1 (by omega)
   have wy:IntKind.i64.wrap (1+y)=1+y:=Ae (by omega)
   by_cases hlt:(i:Int)<1+y
   ·obtain ⟨v',d2,w1,k2,w3⟩:=inner 3 0 (by omega) (i:Int) d1 vs [] k1 (by omega) (by omega) (by simp) (.inl rfl) (by simp) (by simp)
    obtain ⟨r1,d3,q1,q2,q3⟩:=ih (i+1) (by omega) d2 (vs++[v']) k2 (by simp; omega) (fun v hv'=>by
     rcases As.1 hv' with h | h
     ·exact hv v h
     ·simp only [Cl] at h; subst h; exact w1)
    refine ⟨r1,d3,L8 ?_,q2,q3⟩
    unfold Ia
    rw [e1,Y,wy,if_pos (by simpa using hlt)]
    exact w3 _ (by rw [AM (show i<9223372036854775807 by omega)]; exact q1)
   ·have hi1:1<=i:=by omega
    refine ⟨vs,d1,L8 ?_,k1,fin vs (by omega) (by omega) hv⟩
    unfold Ia
    rw [e1,Y,wy,if_neg (by simpa using hlt)]
 obtain ⟨v,d',e,k,hv⟩:=outer 5 0 (by omega) d [] h rfl (fun v hv=>by cases hv)
 exact ⟨v,d',qH (by unfold aM; exact e),k,hv⟩

theorem lg (d:P1) (g:AS) (k:Nat) (h:bA d) (hg:Iz g k):∃ e d',Si d g=some (e,d',g)/\bA d'/\MA e=true:=by
 have hvl:=hg.views.len
 have h6:=hg.six
 have ev:∀ (kd nd at_:Int),2<=kd/\kd<=6->1<=nd/\nd<=6->0<=at_->MA (kd,nd,at_,0,O,O)=true:=by
  intro kd nd at_ h1 h2 h3
  unfold MA
  simp only [show decide (1<=kd)=true from decide_eq_true (by omega),show decide (kd<=6)=true from decide_eq_true (by omega),show decide (1<=nd)=true from decide_eq_true (by omega),show decide (nd<=6)=true from decide_eq_true (by omega),show decide (0<=at_)=true from decide_eq_true h3,if_neg (show ¬ kd=1 by omega)]
  simp [yH]
 have ev1:∀ (nd at_ op:Int) (key val:ByteArray),1<=nd/\nd<=6->0<=at_->lQ op key val=true->MA (1,nd,at_,op,key,val)=true:=by
  intro nd at_ op key val h2 h3 h4
  unfold MA
  simp only [show decide (1<=nd)=true from decide_eq_true (by omega),show decide (nd<=6)=true from decide_eq_true (by omega),show decide (0<=at_)=true from decide_eq_true h3,if_true,h4]
  rfl
 have L3:∀ (m i:Nat),i+m=6->∀ (d:P1) (nd at_ op:Int) (key val:ByteArray) (a b c:_),bA d->1<=nd/\nd<=6->∃ nd' d',Dz (i:Int) d g a (1,nd,at_,op,key,val) b c=some ((1,nd',at_,op,key,val),d',g)/\bA d'/\1<=nd'/\nd'<=6:=by
  intro m
  induction m with
  | zero =>
   intro i hi d nd at_ op key val a b c hd hn
   refine ⟨nd,d,JM ?_,hd,hn⟩
   unfold G7
   rw [if_neg (by simp; omega)]
  | succ m ih =>
   intro i hi d nd at_ op key val a b c hd hn
   have ws:=AM (show i<9223372036854775807 by omega)
   by_cases hs:(Az g i).2.2.2.2.2.1=true
   ·obtain ⟨o,d1,e1,k1⟩:=JX 4 d hd
    cases o
    ·obtain ⟨nd',d',e2,k2,n2⟩:=ih (i+1) (by omega) d1 ((i+1:Nat):Int) at_ op key val a b c k1 (by omega)
     refine ⟨nd',d',JM ?_,k2,n2⟩
     unfold G7
     rw [if_pos (by simp; omega),if_pos (by omega),if_pos (by omega),Aj,AAI g i,if_pos hs,e1,Y,if_pos (by rfl),ws]
     exact e2
    ·obtain ⟨nd',d',e2,k2,n2⟩:=ih (i+1) (by omega) d1 nd at_ op key val a b c k1 hn
     refine ⟨nd',d',JM ?_,k2,n2⟩
     unfold G7
     rw [if_pos (by simp; omega),if_pos (by omega),if_pos (by omega),Aj,AAI g i,if_pos hs,e1,Y,if_neg (by simp),ws]
     exact e2
   ·obtain ⟨nd',d',e2,k2,n2⟩:=ih (i+1) (by omega) d nd at_ op key val a b c hd hn
    refine ⟨nd',d',JM ?_,k2,n2⟩
    unfold G7
    rw [if_pos (by simp; omega),if_pos (by omega),if_pos (by omega),Aj,AAI g i,if_neg hs,ws]
    exact e2
 have L4:∀ (m i:Nat),i+m=6->∀ (d:P1) (kd nd at_:Int) (a:_),bA d->1<=nd/\nd<=6->∃ nd' d',D0 (i:Int) d g a (kd,nd,at_,0,O,O)=some ((kd,nd',at_,0,O,O),d',g)/\bA d'/\1<=nd'/\nd'<=6:=by
  intro m
  induction m with
  | zero =>
   intro i hi d kd nd at_ a hd hn
   refine ⟨nd,d,G9 ?_,hd,hn⟩
   unfold E_
   rw [if_neg (by simp; omega)]
  | succ m ih =>
   intro i hi d kd nd at_ a hd hn
   have ws:=AM (show i<9223372036854775807 by omega)
   obtain ⟨m1,m2⟩:=hg.mem i (by omega)
   have hep:=m1.ep
   have hz:∀ j,g.2.1.getD j ((0:Int),(0:Int),false,false,false,false,([]:List Int),([]:List AP),(0:Int),(0:Int),(0:Int),(0:Int),(O,O,(0:Int)),([]:List Int))=Az g j:=fun j=>rfl
   obtain ⟨nd0,d0,e0,k0,n0⟩:=ih (i+1) (by omega) d kd nd at_ a hd hn
   by_cases h1:(Az g i).2.1<(g.1.length:Int)
   ·have gv:=hg.views.get (i:=(Az g i).2.1.toNat) (by omega)
    by_cases h2:((g.1.getD (Az g i).2.1.toNat ([]:List Int)).getD (0:Int).toNat 0==(Az g i).1)=true
    ·obtain ⟨o,d1,e1,k1⟩:=JX 3 d hd
     cases o
     ·obtain ⟨nd',d',e2,k2,n2⟩:=ih (i+1) (by omega) d1 kd (Az g i).1 at_ a k1 (by omega)
      refine ⟨nd',d',G9 ?_,k2,n2⟩
      unfold E_
      rw [if_pos (by simp; omega),if_pos (by omega),if_pos (by omega),Aj,hz,if_pos (by simpa using h1),if_pos (by omega),if_pos (by omega),if_pos (by omega),if_pos (by omega),if_pos h2,e1,Y,if_pos (by rfl),ws]
      exact e2
     ·obtain ⟨nd',d',e2,k2,n2⟩:=ih (i+1) (by omega) d1 kd nd at_ a k1 hn
      refine ⟨nd',d',G9 ?_,k2,n2⟩
      unfold E_
      rw [if_pos (by simp; omega),if_pos (by omega),if_pos (by omega),Aj,hz,if_pos (by simpa using h1),if_pos (by omega),if_pos (by omega),if_pos (by omega),if_pos (by omega),if_pos h2,e1,Y,if_neg (by simp),ws]
      exact e2
    ·refine ⟨nd0,d0,G9 ?_,k0,n0⟩
     unfold E_
     rw [if_pos (by simp; omega),if_pos (by omega),if_pos (by omega),Aj,hz,if_pos (by simpa using h1),if_pos (by omega),if_pos (by omega),if_pos (by omega),if_pos (by omega),if_neg h2,ws]
     exact e0
   ·refine ⟨nd0,d0,G9 ?_,k0,n0⟩
    unfold E_
    rw [if_pos (by simp; omega),if_pos (by omega),if_pos (by omega),Aj,hz,if_neg (by simpa using h1),ws]
    exact e0
 have keyOk:∀ key∈([(⟨#[97]⟩:ByteArray),(⟨#[98]⟩:ByteArray),(⟨#[99]⟩:ByteArray)]:List ByteArray),key.size=1:=by
  intro key hk
  simp only [BN,List.mem_nil_iff,or_false] at hk
  rcases hk with rfl | rfl | rfl<;>rfl
 have valOk:∀ v∈([(⟨#[118]⟩:ByteArray),(⟨#[119]⟩:ByteArray),(⟨#[120]⟩:ByteArray),(⟨#[121]⟩:ByteArray)]:List ByteArray),v.size=1:=by
  intro v hk
  simp only [BN,List.mem_nil_iff,or_false] at hk
  rcases hk with rfl | rfl | rfl | rfl<;>rfl
 have J2:∀ (d:P1) (a:_) (kd nd at_:Int),bA d->1<=kd/\kd<=6->1<=nd/\nd<=6->0<=at_->∃ e d',G6 d g a (kd,nd,at_,0,O,O)=some (e,d',g)/\bA d'/\MA e=true:=by
  intro d a kd nd at_ hd hk hn ha
  by_cases h1:kd=1
  ·subst h1
   obtain ⟨op,d1,e1,k1,mem1⟩:=P2 [1,1,2] (by simp) d hd
   obtain ⟨key,d2,e2,k2,mem2⟩:=U_ [(⟨#[97]⟩:ByteArray),(⟨#[98]⟩:ByteArray),(⟨#[99]⟩:ByteArray)] (by simp) d1 k1
   have hkey:=keyOk key mem2
   by_cases ho:op=1
   ·obtain ⟨val,d3,e3,k3,mem3⟩:=U_ [(⟨#[118]⟩:ByteArray),(⟨#[119]⟩:ByteArray),(⟨#[120]⟩:ByteArray),(⟨#[121]⟩:ByteArray)] (by simp) d2 k2
    have hval:=valOk val mem3
    obtain ⟨nd',d',e4,k4,n4⟩:=L3 6 0 (by omega) d3 nd at_ op key val a _ _ k3 hn
    refine ⟨_,d',JN ?_,k4,ev1 nd' at_ op key val n4 ha (by unfold lQ; simp [ho,hkey,hval])⟩
    unfold G8
    rw [if_pos (by simp),e1,Y,e2,Y,if_pos (by simpa using ho),e3,Y]
    exact e4
   ·have ho2:op=2:=by simp at mem1; omega
    obtain ⟨nd',d',e4,k4,n4⟩:=L3 6 0 (by omega) d2 nd at_ op key O a _ _ k2 hn
    refine ⟨_,d',JN ?_,k4,ev1 nd' at_ op key O n4 ha (by unfold lQ; simp [ho2,hkey,yH])⟩
    unfold G8
    rw [if_pos (by simp),e1,Y,e2,Y,if_neg (by simpa using ho)]
    exact e4
  ·by_cases h5:kd=5
   ·obtain ⟨nd',d',e4,k4,n4⟩:=L4 6 0 (by omega) d kd nd at_ a hd hn
    refine ⟨_,d',JN ?_,k4,ev kd nd' at_ (by omega) n4 ha⟩
    unfold G8
    rw [if_neg (by simpa using h1),if_pos (by simpa using h5)]
    exact e4
   ·refine ⟨_,d,JN ?_,hd,ev kd nd at_ (by omega) hn ha⟩
    unfold G8
    rw [if_neg (by simpa using h1),if_neg (by simpa using h5)]
 have J1:∀ (d:P1) (a:_) (kd nd at_:Int),bA d->1<=kd/\kd<=6->1<=nd/\nd<=6->0<=at_->∃ e d',BI d g a (kd,nd,at_,0,O,O)=some (e,d',g)/\bA d'/\MA e=true:=by
  intro d a kd nd at_ hd hk hn ha
  by_cases h2:kd=2
  ·obtain ⟨o,d1,e1,k1⟩:=JX 2 d hd
   cases o
   ·obtain ⟨e,d',e2,k2,v2⟩:=J2 d1 a kd nd at_ k1 hk hn ha
    refine ⟨e,d',Nh ?_,k2,v2⟩
    unfold JK
    rw [if_pos (by simpa using h2),e1,Y,if_neg (by simp)]
    exact e2
   ·obtain ⟨e,d',e2,k2,v2⟩:=J2 d1 a kd nd 0 k1 hk hn (by omega)
    refine ⟨e,d',Nh ?_,k2,v2⟩
    unfold JK
    rw [if_pos (by simpa using h2),e1,Y,if_pos (by rfl)]
    exact e2
  ·obtain ⟨e,d',e2,k2,v2⟩:=J2 d a kd nd at_ hd hk hn ha
   refine ⟨e,d',Nh ?_,k2,v2⟩
   unfold JK
   rw [if_neg (by simpa using h2)]
   exact e2
 have six:∀ (d:P1) (a:_) (kd nd at_:Int),bA d->1<=kd/\kd<=6->1<=nd/\nd<=6->0<=at_->∃ e d',(if (kd==6)=true then ((Dw 4 d).bind fun y5=>(if (!y5.1)=true then (BI y5.2 g a (1,nd,at_,0,O,O)) else (BI y5.2 g a (kd,nd,at_,0,O,O)))) else (BI d g a (kd,nd,at_,0,O,O)))=some (e,d',g)/\bA d'/\MA e=true:=by
  intro d a kd nd at_ hd hk hn ha
  by_cases h2:kd=6
  ·obtain ⟨o,d1,e1,k1⟩:=JX 4 d hd
   cases o
   ·obtain ⟨e,d',e2,k2,v2⟩:=J1 d1 a 1 nd at_ k1 (by omega) hn ha
    refine ⟨e,d',?_,k2,v2⟩
    rw [if_pos (by simpa using h2),e1,Y,if_pos (by rfl)]
    exact e2
   ·obtain ⟨e,d',e2,k2,v2⟩:=J1 d1 a kd nd at_ k1 hk hn ha
    refine ⟨e,d',?_,k2,v2⟩
    rw [if_pos (by simpa using h2),e1,Y,if_neg (by simp)]
    exact e2
  ·obtain ⟨e,d',e2,k2,v2⟩:=J1 d a kd nd at_ hd hk hn ha
   refine ⟨e,d',?_,k2,v2⟩
   rw [if_neg (by simpa using h2)]
   exact e2
 obtain ⟨kd,d1,e1,k1,mem1⟩:=P2 [1,1,1,2,2,2,2,2,2,2,2,3,4,5,6] (by simp) d h
 obtain ⟨nd,d2,e2,k2,n0,n1⟩:=Bx 4 d1 k1
 obtain ⟨at_,d3,e3,k3,a0,a1⟩:=Bx 20 d2 k2
 have n1:=n1 (by omega)
 have wn:IntKind.i64.wrap (1+nd)=1+nd:=Ae (by omega)
 have hkd:1<=kd/\kd<=6:=by
  simp only [BN,List.mem_nil_iff,or_false] at mem1
  omega
 have fin:∃ e d',Ng d3 g ((0:Int),(0:Int),(0:Int),(0:Int),O,O) (kd,1+nd,at_,0,O,O)=some (e,d',g)/\bA d'/\MA e=true:=by
  by_cases hf:((g.2.2.1.length:Int)==0)=true
  ·cases hin:(decide (2<=kd)&&decide (kd<=4)) with
   | true =>
    obtain ⟨e,d',e4,k4,v4⟩:=J1 d3 ((0:Int),(0:Int),(0:Int),(0:Int),O,O) 1 (1+nd) at_ k3 (by omega) (by omega) a0
    refine ⟨e,d',Ni ?_,k4,v4⟩
    unfold JL
    rw [if_pos hf,Ay,Y,if_pos hin,if_neg (show ¬ ((1:Int)==6)=true by decide)]
    exact e4
   | false =>
    obtain ⟨e,d',e4,k4,v4⟩:=six d3 ((0:Int),(0:Int),(0:Int),(0:Int),O,O) kd (1+nd) at_ k3 hkd (by omega) a0
    refine ⟨e,d',Ni ?_,k4,v4⟩
    unfold JL
    rw [if_pos hf,Ay,Y,if_neg (by rw [hin]; simp)]
    exact e4
  ·obtain ⟨e,d',e4,k4,v4⟩:=six d3 ((0:Int),(0:Int),(0:Int),(0:Int),O,O) kd (1+nd) at_ k3 hkd (by omega) a0
   refine ⟨e,d',Ni ?_,k4,v4⟩
   unfold JL
   rw [if_neg hf]
   exact e4
 obtain ⟨e,d',e4,k4,v4⟩:=fin
 refine ⟨e,d',tj ?_,k4,v4⟩
 unfold dU
 rw [e1,Y,e2,Y,e3,Y,wn]
 exact e4

theorem lh (x:List Int) (d:P1) (hx:x.length<=1048576) (h:bA d):∃ v es d',Se x d=some ((v,es),d')/\bA d'/\TV v/\es.length<=69/\∀ e∈es,MA e=true:=by
 obtain ⟨v,d1,e1,k1,hv⟩:=ir d h
 have L:∀ (n:Nat),n<=69->∀ a b,∃ es d',E6 (n:Int) ((0:Nat):Int) d1 a b [] v (Ai v)=some ((v,es),d')/\bA d'/\es.length<=69/\∀ e∈es,MA e=true:=by
  intro n hn a b
  refine E3 (n:=n) (P:=fun i=>∀ (d:P1) (es:List EX) (g:AS),bA d->Iz g i->es.length=i->(∀ e∈es,MA e=true)->∃ es' d',E6 (n:Int) (i:Int) d a b es v g=some ((v,es'),d')/\bA d'/\es'.length<=69/\∀ e∈es',MA e=true) (fun d es g hd hg hl he=>?_) (fun i hi ih d es g hd hg hl he=>?_) 0 (by omega) d1 [] (Ai v) k1 (SA hv) rfl (fun e he=>by cases he)
  ·refine ⟨es,d,Ua ?_,hd,by omega,he⟩
   unfold NX
   rw [if_neg (by simp)]
  ·obtain ⟨e,d2,e2,k2,ke⟩:=lg d g i hd hg
   obtain ⟨q1,q2,q3⟩:=bB (i:Int) e g i hg (by omega) ke
   obtain ⟨es',d3,e3,k3⟩:=ih d2 (es++[e]) (uU g (i:Int) e).2 k2 q2 (by simp; omega) (fun y hy=>by
    rcases As.1 hy with hy | hy
    ·exact he y hy
    ·rw [Cl.1 hy]; exact ke)
   refine ⟨es',d3,Ua ?_,k3⟩
   unfold NX
   rw [if_pos (by simpa using hi),e2,Y]
   dsimp only
   rw [q1,Y,if_pos (by simp; omega),AM (by omega)]
   exact e3
 have wq:IntKind.i64.wrap (Int.tdiv (x.length:Int) 4)=((x.length / 4:Nat):Int):=by
  rw [Int.tdiv_eq_ediv_of_nonneg (by omega),Ae (by omega)]
  omega
 have wn:IntKind.i64.wrap (20+((x.length / 4:Nat):Int))=((20+x.length / 4:Nat):Int):=by rw [Ae (by omega)]; omega
 by_cases hn:20+x.length / 4<=69
 ·obtain ⟨es,d',e,k,k2⟩:=L (20+x.length / 4) hn [] []
  refine ⟨v,es,d',dH ?_,k,hv,k2⟩
  unfold TF
  rw [e1,Y,N3 hv,Y,if_neg (by omega),wq,wn,if_neg (by simp; omega)]
  exact e
 ·obtain ⟨es,d',e,k,k2⟩:=L 69 (by omega) [] []
  refine ⟨v,es,d',dH ?_,k,hv,k2⟩
  unfold TF
  rw [e1,Y,N3 hv,Y,if_neg (by omega),wq,wn,if_pos (by simp; omega)]
  exact e

def R6 (views:List (List Int)) (e:Int):Int:=(views.getD (e-1).toNat []).getD 0 0
def N4 (l:List AP) (b:Int):Prop:=∀ y∈l,y.2.2<=b
theorem N4.mono {l:List AP} {a b:Int} (h:N4 l a) (hab:a<=b):N4 l b:=fun y hy=>Int.le_trans (h y hy) hab
theorem oB {b:Int}:N4 [] b:=fun y hy=>by cases hy
theorem eI {x:List AP} {a b:AP} (h:b∈Aq x a):b=a\/b∈x:=by
 unfold Aq at h
 split at h
 ·exact .inr h
 ·split at h
  ·split at h
   ·exact zR h
   ·exact .inr h
  ·exact .inr h
theorem N4.put {l:List AP} {a:AP} {b:Int} (h:N4 l b) (ha:a.2.2<=b):N4 (Aq l a) b:=fun y hy=>by
 rcases eI hy with e | e
 ·rw [e]; exact ha
 ·exact h y e
structure V1 (views:List (List Int)) (m:AE):Prop where
 lead:m.2.2.2.2.1=true->m.2.1<=(views.length:Int)/\R6 views m.2.1=m.1
 ver:N4 m.2.2.2.2.2.2.2.1 (1000*m.2.1+900)
 own:m.2.2.2.2.1=true->m.2.2.2.1=true->N4 m.2.2.2.2.2.2.2.1 (1000*m.2.1+m.2.2.2.2.2.2.2.2.1)
 task:m.2.2.2.2.2.2.2.2.2.1≠0->m.2.2.2.2.2.2.2.2.2.2.2.2.1.2.2<=1000*m.2.1+m.2.2.2.2.2.2.2.2.1
 view:m.2.2.2.1=true->m.2.1<=(views.length:Int)/\(views.getD (m.2.1-1).toNat []).contains m.1=true
structure V2 (views:List (List Int)) (x:Bb):Prop where
 inst:x.1=3->x.2.2.2.2.1=0
 old:x.1=2\/x.1=3->N4 x.2.2.2.2.2 (1000*x.2.2.2.1)
 store:x.1=5->x.2.2.1≠R6 views x.2.2.2.1/\N4 x.2.2.2.2.2 (1000*x.2.2.2.1+900)
theorem V2.plain {views:List (List Int)} {x:Bb} (h2:x.1≠2) (h3:x.1≠3) (h5:x.1≠5):V2 views x:=⟨fun h=>absurd h h3,fun h=>by omega,fun h=>absurd h h5⟩
theorem V1.finish {views:List (List Int)} {m:AE} (h:V1 views m) (hc:m.2.2.2.2.2.2.2.2.1<=900) (h0:m.2.2.2.2.2.2.2.2.2.1≠0):V1 views (B9 m).2:=by
 have ht:=h.task h0
 unfold B9
 split
 ·exact ⟨h.lead,h.ver.put (by omega),fun h1 h2=>(h.own h1 h2).put ht,fun h0=>absurd rfl h0,h.view⟩
 ·exact ⟨h.lead,h.ver,h.own,fun h0=>absurd rfl h0,h.view⟩
theorem V1.bare {views:List (List Int)} {m:AE} (h:V1 views m) {e:Int} (he:m.2.1<=e):V1 views (XQ m e) :=
 ⟨fun h=>(by cases h),h.ver.mono (by show _<=1000*e+900; omega),fun h=>(by cases h),fun h=>absurd rfl h,fun h=>(by cases h)⟩
theorem V1.inst {views:List (List Int)} {i e:Int} {its:List AP} (h:N4 its (1000*e)) (hv:e<=(views.length:Int)/\(views.getD (e-1).toNat []).contains i=true):V1 views (i,e,false,true,false,false,([]:List Int),its,(0:Int),(0:Int),(0:Int),(0:Int),(O,O,(0:Int)),([]:List Int)) :=
 ⟨fun h=>(by cases h),h.mono (by show _<=1000*e+900; omega),fun h=>(by cases h),fun h=>absurd rfl h,fun _=>hv⟩
theorem uV {views:List (List Int)} {i e:Int} (hv:TV views) (h1:1<=e) (he:e<=(views.length:Int)) (hf:R6 views e=i):(views.getD (e-1).toNat []).contains i=true:=by
 have g:=hv.get (i:=(e-1).toNat) (by omega)
 rw [<- hf,List.contains_iff_mem,R6,AW (show 0<(views.getD (e-1).toNat []).length by omega)]
 exact BZ _
theorem V1.has {views:List (List Int)} {m:AE} {view:List Int} {its:List AP} (hv:TV views) (h1:1<=m.2.1) (hl:m.2.2.2.2.1=true) (h:V1 views m) (hc:0<=m.2.2.2.2.2.2.2.2.1) (hi:N4 its (1000*m.2.1)):V1 views (Tg m view its) :=
 ⟨h.lead,hi.mono (by show _<=1000*m.2.1+900; omega),fun _ _=>hi.mono (by show _<=1000*m.2.1+m.2.2.2.2.2.2.2.2.1; omega),h.task,fun _=>⟨(h.lead hl).1,uV hv h1 (h.lead hl).1 (h.lead hl).2⟩⟩
theorem V2.insts {views:List (List Int)} {i e:Int} {l:List Int} {its:List AP} (h:N4 its (1000*e)):∀ y∈l.map (fun v=>((3:Int),i,v,e,(0:Int),its)),V2 views y:=by
 intro y hy
 obtain ⟨v,_,rfl⟩:=List.mem_map.1 hy
 exact ⟨fun _=>rfl,fun _=>h,fun h5=>absurd h5 (by decide:(3:Int)≠5)⟩
theorem V2.reply {views:List (List Int)} {m:AE} {x:Bb} {k:Int} (hk:k=4\/k=6\/k=8):∀ y∈FO m x k,V2 views y:=by
 intro y hy
 simp only [FO,Cl] at hy
 subst hy
 exact V2.plain (by show k≠2; omega) (by show k≠3; omega) (by show k≠5; omega)
theorem AAm {views:List (List Int)}:∀ y∈([]:List Bb),V2 views y:=fun y hy=>by cases hy
def V4 (views:List (List Int)) (n:AE) (told:List Bb):Prop:=V1 views n/\∀ y∈told,V2 views y
theorem V4.same {views:List (List Int)} {m:AE} (h:V1 views m):V4 views m []:=⟨h,AAm⟩
theorem ACT {views:List (List Int)} {m:AE} (h:V1 views m) (hc:m.2.2.2.2.2.2.2.2.1<=900) (h0:m.2.2.2.2.2.2.2.2.2.1≠0) (f:Int):V4 views (HD m f).1 (HD m f).2.1:=by
 have hl:V1 views (wH m f):=⟨h.lead,h.ver,h.own,h.task,h.view⟩
 unfold HD
 split
 ·exact ⟨hl.finish hc h0,AAm⟩
 ·exact .same hl
theorem AEj {views:List (List Int)} {m:AE} {x:Bb} (hv:TV views) (hlen:m.2.1<=(views.length:Int)) (hm:KS m) (h:V1 views m) (hx:V2 views x) (hxo:XOk x) (ht:x.2.2.1=m.1) (he:x.2.2.2.1=m.2.1):V4 views (eF m (views.getD (m.2.1-1).toNat []) x).1 (eF m (views.getD (m.2.1-1).toNat []) x).2.1:=by
 have hcnt:=hm.count
 unfold eF
 by_cases k2:x.1=2
 ·rw [if_pos k2]
  split
  ·rename_i hc
   simp only [AD] at hc
   have:=hx.old (.inl k2)
   rw [he] at this
   exact ⟨V1.has hv hm.ep.1 hc.1 h hcnt.1 this,V2.insts this⟩
  ·exact .same h
 rw [if_neg k2]
 by_cases k3:x.1=3
 ·rw [if_pos k3]
  split
  ·exact .same h
  ·rename_i hc
   split
   ·exact .same h
   ·split
    ·exact ⟨h,V2.reply (.inl rfl)⟩
    ·have:=hx.old (.inr k3)
     rw [he] at this
     refine ⟨V1.inst this ⟨hlen,?_⟩,V2.reply (.inl rfl)⟩
     cases q:(views.getD (m.2.1-1).toNat []).contains m.1 with
     | true=>rfl
     | false=>rw [q] at hc; exact absurd rfl hc
 rw [if_neg k3]
 by_cases k4:x.1=4
 ·rw [if_pos k4]
  split
  ·exact .same ⟨h.lead,h.ver,h.own,h.task,h.view⟩
  ·exact .same h
 rw [if_neg k4]
 by_cases k5:x.1=5
 ·rw [if_pos k5]
  split
  ·obtain ⟨s1,s2⟩:=hx.store k5
   have hlen:x.2.2.2.2.2.length=1:=by
    have:=hxo.shape
    rw [if_neg (by omega),if_pos k5] at this
    exact this
   have hit:(x.2.2.2.2.2.getD 0 (O,O,(0:Int))).2.2<=1000*m.2.1+900:=by
    rw [AW (show 0<x.2.2.2.2.2.length by omega),<- he]
    exact s2 _ (BZ _)
   refine ⟨⟨h.lead,h.ver.put hit,fun h1 h2=>?_,h.task,h.view⟩,V2.reply (.inr (.inl rfl))⟩
   exact absurd (h.lead h1).2 (by rw [<- he,<- ht]; exact Ne.symm s1)
  ·exact .same h
 rw [if_neg k5]
 by_cases k7:x.1=7
 ·rw [if_pos k7]
  split
  ·exact ⟨h,V2.reply (.inr (.inr rfl))⟩
  ·exact .same h
 rw [if_neg k7]
 by_cases hc:(x.1=6\/x.1=8)/\m.2.2.2.2.2.2.2.2.2.1=(if x.1=8 then 2 else 1)/\m.2.2.2.2.2.2.2.2.2.2.2.1=x.2.2.2.2.1
 ·rw [if_pos hc]
  exact ACT h hcnt.2 (by have:=hc.2.1; split at this<;>omega) _
 ·rw [if_neg hc]
  exact .same h
theorem ACU {views:List (List Int)} {m:AE} {x:Bb} (hv:TV views) (hm:KS m) (h:V1 views m) (hx:V2 views x):V4 views (D3 m views x).1 (D3 m views x).2.1:=by
 unfold D3
 split
 ·rename_i hc
  simp only [AD,decide_eq_true_eq,beq_iff_eq] at hc
  obtain ⟨⟨⟨hmo,h1⟩,h2⟩,h3⟩:=hc
  split
  ·rename_i he
   exact AEj hv (by omega) hm h hx (eo.1 hmo) h1 he
  ·split
   ·rename_i hs
    simp only [AD,beq_iff_eq] at hs
    refine ⟨h.bare h2,fun y hy=>?_⟩
    simp only [Cl] at hy
    subst hy
    refine ⟨fun h3=>absurd h3 (by decide:(2:Int)≠3),fun _=>h.ver.mono ?_,fun h5=>absurd h5 (by decide:(2:Int)≠5)⟩
    show _<=1000*x.2.2.2.1
    omega
   ·split
    ·rename_i hs
     simp only [AD,beq_iff_eq] at hs
     exact ⟨V1.inst (hx.old (.inr hs.1.1)) ⟨h3,hs.1.2⟩,V2.reply (.inl rfl)⟩
    ·exact .same h
 ·exact .same h
theorem ADg {view:List Int} {i v:Int} (h:v∈CG view i):v≠i:=by
 have:=(List.mem_filter.1 h).2
 simpa using this
theorem ADh {views:List (List Int)} {m:AE} {op call:Int} {key val:ByteArray} (hm:KS m) (h:V1 views m) (hb:(D4 m views op call key val).2.2.2=true) :
  V4 views (D4 m views op call key val).1 (D4 m views op call key val).2.1:=by
 have hcnt:=hm.count
 unfold D4 at hb ⊢
 split at hb
 ·rename_i hmay
  rw [if_pos hmay]
  obtain ⟨h1,h2,h3,h4,h5,h6,h7,h8,h9,h10⟩:=ew hmay
  split at hb
  ·cases hb
  ·rename_i hn
   rw [if_neg hn]
   have ht:V1 views (HN m (views.getD (m.2.1-1).toNat []) op call key val):=by
    refine ⟨h.lead,h.ver,fun a b=>(h.own a b).mono ?_,fun _=>?_,h.view⟩
    ·show _<=1000*m.2.1+(m.2.2.2.2.2.2.2.2.1+1); omega
    ·show 1000*m.2.1+(m.2.2.2.2.2.2.2.2.1+1)<=1000*m.2.1+(m.2.2.2.2.2.2.2.2.1+1); omega
   unfold TX
   split
   ·exact ⟨ht.finish (by show m.2.2.2.2.2.2.2.2.1+1<=900; omega) (by show op≠0; omega),AAm⟩
   ·refine ⟨ht,fun y hy=>?_⟩
    obtain ⟨v,hv,rfl⟩:=List.mem_map.1 hy
    have hne:=ADg hv
    by_cases ho:op=1
    ·rw [if_pos ho,if_pos ho]
     refine ⟨fun h3=>absurd h3 (by decide:(5:Int)≠3),fun h=>absurd h (by decide:¬ ((5:Int)=2\/(5:Int)=3)),fun _=>⟨fun e=>hne (e.trans ?_),fun z hz=>?_⟩⟩
     ·exact h10
     ·simp only [Cl] at hz
      subst hz
      show 1000*m.2.1+(m.2.2.2.2.2.2.2.2.1+1)<=1000*m.2.1+900
      omega
    ·rw [if_neg ho,if_neg ho]
     exact V2.plain (by decide:(7:Int)≠2) (by decide:(7:Int)≠3) (by decide:(7:Int)≠5)
 ·cases hb
theorem ADi {views:List (List Int)} {m:AE} {e:Int} (hvo:TV views) (h:V1 views m) (hb:(Ft m views e).2.2=true):V4 views (Ft m views e).1 (Ft m views e).2.1:=by
 unfold Ft at hb ⊢
 split at hb
 ·rename_i hc
  rw [if_pos hc]
  have hv:N4 m.2.2.2.2.2.2.2.1 (1000*e):=h.ver.mono (by omega)
  have hn:V1 views (Mj m e):=⟨fun _=>⟨hc.2.1,hc.2.2.2⟩,hv.mono (by show _<=1000*e+900; omega),fun _ h=>(by cases h),fun h=>absurd rfl h,fun h=>(by cases h)⟩
  split
  ·exact ⟨V1.has hvo (by show 1<=e; omega) rfl hn (by show (0:Int)<=0; omega) hv,V2.insts hv⟩
  ·refine ⟨hn,fun y hy=>?_⟩
   obtain ⟨v,hv,rfl⟩:=List.mem_map.1 hy
   exact V2.plain (by decide:(1:Int)≠2) (by decide:(1:Int)≠3) (by decide:(1:Int)≠5)
 ·cases hb
theorem V1.fall {views:List (List Int)} {m:AE}:V1 views (XT m):=⟨fun h=>(by cases h),oB,fun h=>(by cases h),fun h=>absurd rfl h,fun h=>(by cases h)⟩
theorem V1.first {views:List (List Int)} {i:Int} (hv:TV views):V1 views (E0 i views):=by
 have:=hv.len
 refine ⟨fun h=>⟨by show (1:Int)<=_; omega,?_⟩,oB,fun _ _=>oB,fun h=>absurd rfl h,fun h=>⟨by show (1:Int)<=_; omega,h⟩⟩
 exact beq_iff_eq.1 h
structure V3 (g:AS):Prop where
 mem:∀ i,i<6->V1 g.1 (Az g i)
 fly:∀ x∈g.2.2.1,V2 g.1 x
 calls:∀ c∈g.2.2.2,c.2.2.2.2.1=-1\/0<=c.2.2.2.2.1
theorem AAJ {at_:Int} (ha:0<=at_) (s:DR) {cs:List IC} (h:∀ c∈cs,c.2.2.2.2.1=-1\/0<=c.2.2.2.2.1):∀ c∈JY at_ cs s,c.2.2.2.2.1=-1\/0<=c.2.2.2.2.1:=by
 unfold JY
 split
 ·exact h
 ·intro c hc
  rcases List.mem_or_eq_of_mem_set hc with e | e
  ·exact h c e
  ·rw [e]; exact .inr ha
theorem oq {at_:Int} (ha:0<=at_):∀ (said:List DR) {cs:List IC},(∀ c∈cs,c.2.2.2.2.1=-1\/0<=c.2.2.2.2.1)->∀ c∈said.foldl (JY at_) cs,c.2.2.2.2.1=-1\/0<=c.2.2.2.2.1
 | [],_,h=>h
 | s::l,_,h=>oq ha l (AAJ ha s h)
theorem V3.member {g:AS} (h:V3 g) (h6:g.2.1.length=6) {n:AE} {told:List Bb} {said:List DR} {at_:Int} {i:Nat} (ha:0<=at_) (hi:i<6) (hid:n.1=(i:Int)+1) (hn:V4 g.1 n told):V3 (BT g n told said at_):=by
 refine ⟨fun j hj=>?_,fun x hx=>?_,oq ha said h.calls⟩
 ·rw [uT h6 hj hid hi]
  split
  ·exact hn.1
  ·exact h.mem j hj
 ·rcases As.1 hx with h1 | h1
  ·exact h.fly x h1
  ·exact hn.2 x h1
theorem V3.less {g:AS} (h:V3 g) (i:Nat):V3 (Fd g i):=⟨h.mem,fun x hx=>by
 rcases As.1 hx with h1 | h1
 ·exact h.fly x (List.mem_of_mem_take h1)
 ·exact h.fly x (List.mem_of_mem_drop h1),h.calls⟩
theorem V3.call {g:AS} (h:V3 g) (at_:Int) (e:EX):V3 (ID g at_ e):=⟨h.mem,h.fly,fun c hc=>by
 rcases As.1 hc with h1 | h1
 ·exact h.calls c h1
 ·simp only [Cl] at h1
  rw [h1]; exact .inl rfl⟩
theorem V3.adopt {g:AS} {k:Nat} (h:V3 g) (hg:Iz g k) {at_ node:Int} (ha:0<=at_) (hn:1<=node/\node<=6):∀ (n:Nat) (e:Int),V3 (Jr g at_ (Az g (node-1).toNat) node n e).2
 | 0,_=>h
 | n+1,e=>by
  unfold Jr
  split
  ·exact V3.adopt h hg ha hn n (e+1)
  ·split
   ·rename_i hb
    obtain ⟨m1,m2⟩:=hg.mem (node-1).toNat (by omega)
    have hao:=XS (e:=e) m1 hg.views hb
    exact h.member hg.six (i:=(node-1).toNat) ha (by omega) (by rw [hao.2.1,m2]) (ADi hg.views (h.mem _ (by omega)) hb)
   ·exact h
theorem V3.event {g:AS} {k:Nat} (h:V3 g) (hg:Iz g k) {at_:Int} (ha:0<=at_) {e:EX} (he:MA e=true):V3 (uU g at_ e).2:=by
 have hn:=la he
 unfold uU
 split
 ·unfold Ky
  split
  ·rename_i hb
   obtain ⟨m1,m2⟩:=hg.mem (e.2.1-1).toNat (by omega)
   have hbo:=e_ (op:=e.2.2.2.1) (call:=(g.2.2.2.length:Int)) (key:=e.2.2.2.2.1) (val:=e.2.2.2.2.2) m1 hg.views
   exact (h.call at_ e).member (g:=ID g at_ e) hg.six (i:=(e.2.1-1).toNat) ha (by omega) (by rw [hbo.id hb,m2]) (ADh m1 (h.mem _ (by omega)) hb)
  ·exact h.call at_ e
 ·split
  ·exact h.adopt hg ha (by omega) _ _
  ·split
   ·obtain ⟨m1,m2⟩:=hg.mem (e.2.1-1).toNat (by omega)
    exact h.member hg.six (i:=(e.2.1-1).toNat) ha (by omega) m2 ⟨V1.fall,AAm⟩
   ·unfold iq
    split
    ·exact h
    ·rename_i hne
     have hl:0<g.2.2.1.length:=by
      cases hq:g.2.2.1 with
      | nil=>exact absurd hq hne
      | cons a l=>simp
     have hlt:(e.2.2.1 % (g.2.2.1.length:Int)).toNat<g.2.2.1.length:=by
      have h1:=Int.emod_lt_of_pos e.2.2.1 (show (0:Int)<(g.2.2.1.length:Int) by omega)
      have h2:=Int.emod_nonneg e.2.2.1 (show (g.2.2.1.length:Int)≠0 by omega)
      omega
     have hmem:g.2.2.1.getD (e.2.2.1 % (g.2.2.1.length:Int)).toNat DJ∈g.2.2.1:=by
      rw [AW hlt]
      exact BZ _
     split
     ·refine ⟨h.mem,fun x hx=>?_,h.calls⟩
      rcases As.1 hx with h1 | h1
      ·exact h.fly x h1
      ·simp only [Cl] at h1
       rw [h1]
       exact h.fly _ hmem
     ·split
      ·exact h.less _
      ·have hto:=(hg.fly _ hmem).to
       generalize hx:g.2.2.1.getD (e.2.2.1 % (g.2.2.1.length:Int)).toNat DJ=x at *
       obtain ⟨m1,m2⟩:=hg.mem (x.2.2.1-1).toNat (by omega)
       exact (h.less _).member (g:=Fd g (e.2.2.1 % (g.2.2.1.length:Int)).toNat) hg.six (i:=(x.2.2.1-1).toNat) ha (by omega) (by rw [(P4 (x:=x) m1 hg.views).id,m2]) (ACU hg.views m1 (h.mem _ (by omega)) (h.fly _ hmem))
theorem V3.new {views:List (List Int)} (hv:TV views):V3 (Ai views):=by
 refine ⟨fun i hi=>?_,(fun x hx=>by cases hx),fun x hx=>by cases hx⟩
 have h5:i=0\/i=1\/i=2\/i=3\/i=4\/i=5:=by omega
 rcases h5 with rfl | rfl | rfl | rfl | rfl | rfl<;>exact V1.first hv
theorem V3.run:∀ (es:List EX) (n:Nat) (g:AS) (cs:List Int),Iz g n->V3 g->n+es.length<=70->(∀ e∈es,MA e=true)->V3 (Js n es g cs).1
 | [],n,g,cs,_,h,_,_=>h
 | e::es,n,g,cs,hg,h,hn,he=>by
  simp only [List.length_cons] at hn
  obtain ⟨h2,_⟩:=hg.event (at_:=(n:Int)) (he e (by simp))
  exact V3.run es (n+1) _ _ h2 (h.event hg (by omega) (he e (by simp))) (by omega) (fun x hx=>he x (by simp [hx]))

theorem ln (a b:Int):NR a b=some (decide (a<b)):=uL (by
 have h:∀ a,LQ a=some false:=fun a=>qm (by unfold az; simp)
 unfold d_
 rw [h,Y,if_neg (by simp)])
def yK (l:List Int) (j:Nat):List Int:=(l.set (j+1) (l.getD j 0)).set j (l.getD (j+1) 0)
def bub:Nat->List Int->List Int
 | 0,l=>l
 | j+1,l=>if l.getD (j+1) 0<l.getD j 0 then bub j (yK l j) else l
def srt:Nat->Nat->List Int->List Int
 | 0,_,l=>l
 | k+1,i,l=>srt k (i+1) (bub i l)
theorem lq (l:List Int) (j:Nat):(yK l j).length=l.length:=by simp [yK]
theorem rJ:∀ (j:Nat) (l:List Int),(bub j l).length=l.length
 | 0,l=>rfl
 | j+1,l=>by
  unfold bub
  split
  ·rw [rJ j,lq]
  ·rfl
theorem ABV {l:List Int} {j:Nat} (h:j+1<l.length):(yK l j).Perm l:=by
 obtain ⟨p,a,b,q,rfl,rfl⟩:∃ p a b q,l=p++a::b::q/\p.length=j :=
  ⟨l.take j,l[j],l[j+1],l.drop (j+2),by rw [<- List.drop_eq_getElem_cons h,<- List.drop_eq_getElem_cons (show j<l.length by omega),List.take_append_drop],by rw [List.length_take]; omega⟩
 have e:yK (p++a::b::q) p.length=p++b::a::q:=by
  unfold yK
  have e1:(p++a::b::q).getD p.length 0=a:=by simp [List.getD]
  have e2:(p++a::b::q).getD (p.length+1) 0=b:=by simp [List.getD]
  rw [e1,e2,List.set_append_right _ _ (by omega),List.set_append_right _ _ (by omega)]
  simp
 rw [e]
 exact List.Perm.append_left p (List.Perm.swap a b q)
theorem zU:∀ (j:Nat) (l:List Int),j<l.length->(bub j l).Perm l
 | 0,l,_=>List.Perm.refl l
 | j+1,l,h=>by
  unfold bub
  split
  ·exact (zU j _ (by rw [lq]; omega)).trans (ABV h)
  ·exact List.Perm.refl l
theorem uW:∀ (k i:Nat) (l:List Int),i+k=l.length->(srt k i l).Perm l
 | 0,_,l,_=>List.Perm.refl l
 | k+1,i,l,h=>(uW k (i+1) _ (by rw [rJ]; omega)).trans (zU i l (by omega))
theorem AAn {l:List Int} {j:Nat} (h:j+1<l.length) (a:Nat):(yK l j).getD a 0=if a=j then l.getD (j+1) 0 else if a=j+1 then l.getD j 0 else l.getD a 0:=by
 unfold yK
 simp only [List.getD_eq_getElem?_getD,Bm,List.length_set]
 by_cases h1:a=j
 ·subst h1
  rw [if_pos rfl,if_pos (by omega),if_pos rfl]
  simp
 ·rw [if_neg (fun e=>h1 e.symm),if_neg h1]
  by_cases h2:a=j+1
  ·subst h2
   rw [if_pos rfl,if_pos (by omega),if_pos rfl]
   simp
  ·rw [if_neg (fun e=>h2 e.symm),if_neg h2]
def AEO (i:Nat) (l:List Int):Prop:=∀ a b,a<b->b<=i->l.getD a 0<=l.getD b 0
theorem ACV (i:Nat):∀ (j:Nat) (l:List Int),j<=i->i<l.length->(∀ a b,a<b->b<=i->b≠j->l.getD a 0<=l.getD b 0)->AEO i (bub j l)
 | 0,l,_,_,h=>fun a b h1 h2=>h a b h1 h2 (by omega)
 | j+1,l,hj,hi,h=>by
  unfold bub
  split
  ·rename_i hlt
   refine ACV i j _ (by omega) (by rw [lq]; exact hi) fun a b h1 h2 h3=>?_
   rw [AAn (by omega),AAn (by omega)]
   rw [if_neg h3]
   by_cases hb:b=j+1
   ·subst hb
    rw [if_pos rfl]
    by_cases ha:a=j
    ·rw [if_pos ha]; omega
    ·rw [if_neg ha,if_neg (by omega)]
     exact h a j (by omega) (by omega) (by omega)
   ·rw [if_neg hb]
    by_cases ha:a=j
    ·rw [if_pos ha]; exact h (j+1) b (by omega) h2 hb
    ·rw [if_neg ha]
     by_cases ha2:a=j+1
     ·rw [if_pos ha2]; exact h j b (by omega) h2 hb
     ·rw [if_neg ha2]; exact h a b h1 h2 hb
  ·rename_i hlt
   intro a b h1 h2
   by_cases hb:b=j+1
   ·subst hb
    by_cases ha:a=j
    ·subst ha; omega
    ·have:=h a j (by omega) (by omega) (by omega)
     omega
   ·exact h a b h1 h2 hb
theorem ACW:∀ (k i:Nat) (l:List Int),i+k=l.length->1<=i->AEO (i-1) l->AEO (l.length-1) (srt k i l)
 | 0,i,l,h,hi,hu=>by
  have:i-1=l.length-1:=by omega
  rw [<- this]; exact hu
 | k+1,i,l,h,hi,hu=>by
  have:=ACW k (i+1) (bub i l) (by rw [rJ]; omega) (by omega) (by
   rw [Nat.add_sub_cancel]
   exact ACV i i l (Nat.le_refl _) (by omega) fun a b h1 h2 h3=>hu a b h1 (by omega))
  rw [rJ] at this
  exact this
theorem AAo (n i:Nat) (hn:n<=12) (g:List Int->List Int) (K:∀ l:List Int,l.length=n->BD 0 (n:Int) ((i:Int)+1) l=some (g l)) (hi:i<n) :
  ∀ (j:Nat) (l:List Int),j<n->l.length=n->B7 0 (n:Int) (i:Int) (j:Int) l=some (g (bub j l))
 | 0,l,hj,hl=>Fc (by
  unfold C9
  rw [if_neg (by simp),Ae (by omega)]
  exact K l hl)
 | j+1,l,hj,hl=>Fc (by
  unfold C9
  have e1:IntKind.i64.wrap (((j+1:Nat):Int)-1)=(j:Int):=by rw [Ae (by omega)]; omega
  have e2:((j+1:Nat):Int).toNat=j+1:=by omega
  have e3:((j:Nat):Int).toNat=j:=by omega
  rw [if_pos (by simp<;>omega),if_pos (by omega),if_pos (by omega),e1,if_pos (by omega),if_pos (by omega),ln,Y,e2,e3]
  unfold bub
  by_cases h:l.getD (j+1) 0<l.getD j 0
  ·rw [if_pos (by simpa using h),if_pos h]
   refine Ku ?_
   unfold Fb
   simp only [e1,e2,e3]
   rw [if_pos (by omega),if_pos (by omega),if_pos (by omega),if_pos (by omega),if_pos (by omega),if_pos (by omega),if_pos (by omega),if_pos (by rw [List.length_set]; omega)]
   exact AAo n i hn g K hi j (yK l j) (by omega) (by rw [lq]; exact hl)
  ·rw [if_neg (by simpa using h),if_neg h,Ae (by omega)]
   exact K l hl)
theorem AAp (n:Nat) (hn:n<=12):∀ (k i:Nat) (l:List Int),i+k=n->l.length=n->BD 0 (n:Int) (i:Int) l=some (srt k i l)
 | 0,i,l,h,hl=>C_ (by
  unfold B8
  rw [if_neg (by simp; omega)]
  rfl)
 | k+1,i,l,h,hl=>C_ (by
  unfold B8
  rw [if_pos (by simp; omega)]
  exact AAo n i hn (srt k (i+1)) (fun l hl=>by have:=AAp n hn k (i+1) l (by omega) hl; rw [<- this]; congr 1) (by omega) i l (by omega) hl)
set_option maxRecDepth 100000 in
theorem AEP (n:Nat) (h:n<=12):∃ r,QJ (IntKind.u64.wrap (n:Int))=some r:=by
 have h1:∃ r,HB (n:Int) 0=some r:=by
  have hs:IntKind.u8.wrap (n:Int)=(n:Int):=by
   have:n=0\/n=1\/n=2\/n=3\/n=4\/n=5\/n=6\/n=7\/n=8\/n=9\/n=10\/n=11\/n=12:=by omega
   rcases this with h | h | h | h | h | h | h | h | h | h | h | h | h<;>subst h<;>rfl
  have ht:∃ r,Jp (n:Int) 0=some r:=by
   unfold Jp
   rw [if_neg (by simp; omega),if_pos (by rw [hs]; omega),if_pos (by
    rw [hs]
    exact Int.lt_of_lt_of_le (show (n:Int)<13 by omega) (by decide))]
   exact ⟨_,rfl⟩
  obtain ⟨r,hr⟩:=ht
  exact ⟨r,eA hr⟩
 obtain ⟨r,hr⟩:=h1
 have h2:NS (n:Int)=some r:=lP (by
  unfold U8
  rw [if_neg (by simp; omega)]
  exact eB (by
   unfold Pz
   rw [if_neg (by simp; omega)]
   exact hr))
 have hu:IntKind.u64.wrap (n:Int)=(n:Int):=by
  have:n=0\/n=1\/n=2\/n=3\/n=4\/n=5\/n=6\/n=7\/n=8\/n=9\/n=10\/n=11\/n=12:=by omega
  rcases this with h | h | h | h | h | h | h | h | h | h | h | h | h<;>subst h<;>rfl
 exact ⟨r,qj (by unfold ay; rw [hu,h2]; rfl)⟩
theorem AAq (l:List Int) (h:l.length<=12):∃ r,DF l=some r/\r.Perm l/\r.Pairwise (· <= ·):=by
 obtain ⟨b,hb⟩:=AEP l.length h
 have hins:∃ r,Di 0 (l.length:Int) l=some r/\r.Perm l/\r.Pairwise (· <= ·):=by
  by_cases h0:l.length=0
  ·have:l=[]:=E4.1 h0
   subst this
   refine ⟨[],Ge ?_,List.Perm.refl _,List.Pairwise.nil⟩
   unfold Dj
   refine C_ ?_
   unfold B8
   rw [if_neg (by rw [Ae (by omega)]; simp)]
  ·refine ⟨srt (l.length-1) 1 l,Ge ?_,uW _ _ _ (by omega),?_⟩
   ·unfold Dj
    rw [Ae (by omega)]
    exact AAp l.length h (l.length-1) 1 l (by omega) rfl
   ·have hu:=ACW (l.length-1) 1 l (by omega) (Nat.le_refl _) (fun a b h1 h2=>by omega)
    have hp:=(uW (l.length-1) 1 l (by omega)).length_eq
    rw [List.pairwise_iff_getElem]
    intro i j hi hj hij
    have:=hu i j hij (by omega)
    rwa [AW hi,AW hj] at this
 obtain ⟨r,h1,h2,h3⟩:=hins
 refine ⟨r,bT ?_,h2,h3⟩
 unfold OQ
 have hq:Ci 0 (l.length:Int) b l=some r:=R5 (by
  unfold JT
  refine O9 ?_
  unfold Hy
  rw [if_pos (by rw [Ae (by omega)]; simp; omega),h1]
  rfl)
 rw [hb,Y,hq]
 rfl
theorem AAr:∀ {a b:List Int},a.Pairwise (· < ·)->b.Pairwise (· < ·)->(∀ x,x∈a↔x∈b)->a=b
 | [],[],_,_,_=>rfl
 | [],y::b,_,_,h=>absurd ((h y).2 (by simp)) (by simp)
 | x::a,[],_,_,h=>absurd ((h x).1 (by simp)) (by simp)
 | x::a,y::b,ha,hb,h=>by
  rw [List.pairwise_cons] at ha hb
  have hxy:x=y:=by
   have h1:=(h x).1 (by simp)
   have h2:=(h y).2 (by simp)
   rcases BN.1 h1 with e | h1
   ·exact e
   ·rcases BN.1 h2 with e | h2
    ·exact e.symm
    ·have:=ha.1 y h2
     have:=hb.1 x h1
     omega
  subst hxy
  rw [AAr ha.2 hb.2 fun z=>?_]
  constructor
  ·intro hz
   rcases BN.1 ((h z).1 (by simp [hz])) with e | h
   ·subst e; have:=ha.1 z hz; omega
   ·exact h
  ·intro hz
   rcases BN.1 ((h z).2 (by simp [hz])) with e | h
   ·subst e; have:=hb.1 z hz; omega
   ·exact h
theorem uX {view:List Int} {id x:Int} (hv:WOk view):x∈D2 view id↔x∈CG view id:=by
 unfold D2 CG
 simp only [List.mem_filter,AD,List.contains_eq_mem,decide_eq_true_eq]
 constructor
 ·rintro ⟨_,h1,h2⟩; exact ⟨h2,h1⟩
 ·rintro ⟨h1,h2⟩
  have:=hv.mem x h1
  refine ⟨?_,h2,h1⟩
  have h5:x=1\/x=2\/x=3\/x=4\/x=5\/x=6:=by omega
  rcases h5 with h | h | h | h | h | h<;>simp [h]
theorem oC {view:List Int} (hv:WOk view) (id:Int):DF (CG view id)=some (D2 view id):=by
 have hl:=Ii view id
 have:=hv.len
 obtain ⟨r,h1,h2,h3⟩:=AAq (CG view id) (by omega)
 rw [h1]
 congr 1
 have hnd:r.Nodup:=h2.nodup_iff.2 (hv.nd.filter _)
 refine AAr ?_ (YL view id).2 fun x=>(h2.mem_iff).trans (uX hv).symm
 have:=h3.and (List.nodup_iff_pairwise_ne.1 hnd)
 exact this.imp fun {a b} h=>by have:=h.1; have:=h.2; omega
theorem ot {view:List Int} (hv:WOk view) (id:Int):(D2 view id).length=(CG view id).length:=by
 obtain ⟨r,h1,h2,_⟩:=AAq (CG view id) (by have:=Ii view id; have:=hv.len; omega)
 rw [oC hv] at h1
 cases h1
 exact h2.length_eq

theorem VG (x:List Int) (n:Int) (h:x.length<=maxLen):CO x n=some (x.contains n):=Tc (by
 have hm:x.length<=9223372036854775807:=h
 have key:=E3 (n:=x.length) (P:=fun i=>∃ r,C6 x n (x.length:Int) (i:Int)=some r/\(decide (r>=0)=(x.drop i).contains n)) ⟨-1,CP (by
  unfold Bp
  rw [if_neg (by simp)]),by simp⟩ (fun i hi ⟨r,hr,hc⟩=>by
  by_cases e:n=x[i]
  ·refine ⟨(i:Int),CP ?_,?_⟩
   ·unfold Bp
    simp only [show ((i:Int)<(x.length:Int)) from by omega,decide_true,if_true,show (0:Int)<=(i:Int) from by omega,Aj,AW hi]
    rw [if_pos (by simpa using e)]
   ·rw [BL hi,List.contains_cons,e]
    simp only [beq_self_eq_true,Bool.true_or]
    exact decide_eq_true (by omega)
  ·refine ⟨r,CP ?_,?_⟩
   ·unfold Bp
    simp only [show ((i:Int)<(x.length:Int)) from by omega,decide_true,if_true,show (0:Int)<=(i:Int) from by omega,Aj,AW hi,AM (show i<9223372036854775807 by omega)]
    rw [if_neg (by simpa using e)]
    exact hr
   ·rw [BL hi,hc,List.contains_cons]
    simp [e]) 0 (by omega)
 obtain ⟨r,hr,hc⟩:=key
 unfold KU
 have:Dv x n=some r:=No hr
 rw [this,Y,hc,List.drop_zero])
theorem eJ (m:AE) (h1:m.2.2.2.2.2.2.1.length<=68719476736) (h2:m.2.2.2.2.2.2.2.1.length<=68719476736) (h3:m.2.2.2.2.2.2.2.2.2.2.2.2.2.length<=68719476736):DD m=some m:=kZ (by
 unfold Um
 rw [C4 h1,Y,BK h2,Y,C4 h3,Y])
theorem KS.icopy {m:AE} (h:KS m):DD m=some m:=by
 obtain ⟨h1,h2,h3⟩:=h.lens
 exact eJ m (by omega) (by omega) (by omega)
theorem N5 (x:Bb) (h:x.2.2.2.2.2.length<=68719476736):Hn x=some x:=tp (by
 unfold dZ
 rw [BK h,Y])
theorem PD (view:List Int) (m:AE) (h:view.length<=68719476736):CL view m=some (CG view m.1,m):=dt (by
 unfold Pv
 have key:=E3 (n:=view.length) (P:=fun i=>∀ acc:List Int,acc.length<=i->Dg view (view.length:Int) (i:Int) m acc=some (acc++(view.drop i).filter (· != m.1),m)) (fun acc ha=>MY (by
  unfold Hu
  rw [if_neg (by simp)]
  simp)) (fun i hi ih acc ha=>MY (by
  unfold Hu
  simp only [show ((i:Int)<(view.length:Int)) from by omega,decide_true,if_true,show (0:Int)<=(i:Int) from by omega,Aj,AW hi,AM (show i<9223372036854775807 by omega)]
  rw [BL hi,List.filter_cons]
  by_cases hh:(view[i] != m.1)=true
  ·rw [if_pos hh,if_pos (by simp; omega),ih _ (by simp; omega),if_pos hh,Bs]
   rfl
  ·rw [if_neg hh,ih _ (by omega),if_neg hh])) 0 (by omega) [] (by simp)
 exact key)
def AAs (m:AE) (ids:List Int) (x:Bb):List Bb:=ids.map fun v=>(x.1,m.1,v,m.2.1,x.2.2.2.2)
theorem Ck (ids:List Int) (x:Bb) (m:AE) (h:ids.length<=68719476736) (hx:x.2.2.2.2.2.length<=68719476736):Ap ids x m=some (AAs m ids x,m):=bU (by
 unfold OS
 have key:=E3 (n:=ids.length) (P:=fun i=>∀ acc:List Bb,acc.length<=i->Eh ids (ids.length:Int) (i:Int) m x acc=some (acc++(ids.drop i).map (fun v=>(x.1,m.1,v,m.2.1,x.2.2.2.2)),m)) (fun acc ha=>K7 (by
  unfold HK
  rw [if_neg (by simp)]
  simp)) (fun i hi ih acc ha=>K7 (by
  unfold HK
  simp only [show ((i:Int)<(ids.length:Int)) from by omega,decide_true,if_true,show (0:Int)<=(i:Int) from by omega,Aj,AW hi,AM (show i<9223372036854775807 by omega)]
  rw [N5 x hx,Y,if_pos (by simp; omega),ih _ (by simp; omega),BL hi,List.map_cons,Bs]
  rfl)) 0 (by omega) [] (by simp)
 exact key)
def AEq (m:AE):AE:=(m.1,m.2.1,m.2.2.1,m.2.2.2.1,false,false,([]:List Int),m.2.2.2.2.2.2.2.1,(0:Int),(0:Int),(0:Int),(0:Int),(O,O,(0:Int)),([]:List Int))
theorem Va (m:AE):G2 m=some (AEq m):=lE rfl
theorem TZ (view:List Int) (its:List AP) (m:AE) (hv:WOk view) (hi:its.length<=68719476736) (hs:m.2.2.2.2.2.1=false) :
  Dx view its m=some ((CG view m.1).map (fun v=>(3,m.1,v,m.2.1,0,its)),Tg m view its):=YI (by
 have hvl:=hv.len
 have hrl:=Ii view m.1
 unfold Ns
 rw [PD view m (by omega),Y,BK hi,Y,C4 (by show (CG view m.1).length<=_; omega),Y,oC hv,Y]
 have ho:=ot hv m.1
 unfold Tg
 rw [ho]
 by_cases h0:(CG view m.1).length=0
 ·rw [if_pos (by simpa using h0),Ck _ _ _ (by show (CG view m.1).length<=_; omega) hi,Y,h0]
  rfl
 ·rw [if_neg (by simpa using h0),Ck _ _ _ (by show (CG view m.1).length<=_; omega) hi,Y]
  have:(((CG view m.1).length:Int)==0)=false:=by simpa using h0
  rw [this]
  show some (_,(m.1,m.2.1,m.2.2.1,true,m.2.2.2.2.1,m.2.2.2.2.2.1,_))=_
  rw [hs]
  rfl)
theorem VH (v:List Int) (x:Int) (h:v.length<=68719476736):NP v x=some (v.filter (· != x)):=uI (by
 unfold dx
 rw [C4 h,Y,R4,Y]
 rfl)
theorem eK (m:AE) (h:m.2.2.2.2.2.2.2.1.length<=34359738367):IV m=some (B9 m):=ia (by
 unfold TR B9
 rw [U9 _ _ h,XK _ _ (by unfold maxLen; omega)]
 split
 ·rw [Y]
  refine OR ?_
  unfold JA
  rfl
 ·rw [Y]
  refine OR ?_
  unfold JA
  rfl)
def ACX (m:AE) (views:List (List Int)) (x:Bb):List Bb×AE :=
 if (x.2.2.2.1==m.2.1+1&&m.2.2.2.1&&(views.getD (m.2.1-1).toNat []).contains m.1)=true then ([(2,m.1,x.2.1,x.2.2.2.1,0,m.2.2.2.2.2.2.2.1)],XQ m x.2.2.2.1) else ([],m)
theorem uY (m:AE) (views:List (List Int)) (x:Bb) (hm:KS m) (hv:TV views) (he:m.2.1<=views.length) :
  Lo views x m=some (ACX m views x):=ig (by
 have hvl:=hv.len
 have hep:=hm.ep
 obtain ⟨l1,l2,l3⟩:=hm.lens
 have hf:m.2.2.2.1=true->m.2.2.1=false:=fun h=>by
  cases hh:m.2.2.1 with
  | false=>rfl
  | true=>rw [(hm.fell hh).1] at h; cases h
 unfold TU ACX
 rw [Ae (n:=m.2.1+1) (by omega),Ae (n:=m.2.1-1) (by omega)]
 by_cases c1:x.2.2.2.1=m.2.1+1
 case neg=>rw [if_pos (by simpa using c1),if_neg (by simp [c1])]
 rw [if_neg (by simpa using c1)]
 by_cases c2:m.2.2.2.1=true
 case neg=>rw [if_pos (by simpa using c2),if_neg (by simp [c2])]
 rw [if_neg (by simpa using c2),if_pos (by omega),if_pos (by omega),VG _ _ (by have:=(hv.get (i:=(m.2.1-1).toNat) (by omega)).2; unfold maxLen; omega),Y]
 cases c3:(views.getD (m.2.1-1).toNat []).contains m.1 with
 | false=>rw [if_pos (by rfl),if_neg (by simp)]
 | true =>
  rw [if_neg (by simp),if_pos (by simp [c1,c2])]
  exact bV (by
   unfold OU
   rw [Va,Y,Ck _ _ _ (by simp) (by show m.2.2.2.2.2.2.2.1.length<=_; omega),Y]
   show some (_,(m.1,x.2.2.2.1,m.2.2.1,_))=_
   rw [hf c2]
   rfl))
def ACY (m:AE) (e:Int) (its:List AP):AE:=(m.1,e,false,true,false,false,([]:List Int),its,(0:Int),(0:Int),(0:Int),(0:Int),(O,O,(0:Int)),([]:List Int))
def ACZ (m:AE) (view:List Int) (x:Bb):List Bb×AE :=
 if (!view.contains m.1||(view.getD 0 0==m.1))=true then ([],m)
 else if x.2.2.2.1>m.2.1\/(m.2.2.2.1=false/\m.2.2.1=false) then ([(4,m.1,x.2.1,x.2.2.2.1,0,([]:List AP))],ACY m x.2.2.2.1 x.2.2.2.2.2)
 else if m.2.2.2.1=false then ([],m) else ([(4,m.1,x.2.1,m.2.1,0,([]:List AP))],m)
theorem lr (m:AE) (view:List Int) (x:Bb) (hv:WOk view) (hx:x.2.2.2.2.2.length<=68719476736) :
  I3 view x m=some (ACZ m view x):=bW (by
 have hvl:=hv.len
 unfold OV ACZ
 rw [VG _ _ (by unfold maxLen; omega),Y]
 cases c3:view.contains m.1 with
 | false=>rw [if_pos (by rfl),if_pos (by rfl)]
 | true =>
  rw [if_neg (by simp),if_pos (by omega),if_pos (by omega)]
  by_cases c4:view.getD 0 0=m.1
  ·rw [if_pos (by simpa using c4),if_pos (by rw [c4]; simp)]
  ·rw [if_neg (by simpa using c4),if_neg (by have:(view.getD 0 0==m.1)=false:=(by simpa using c4); rw [this]; simp)]
   have J1:∀ b:Bool,DH b m x=some (if b=true then ([(4,m.1,x.2.1,x.2.2.2.1,0,([]:List AP))],ACY m x.2.2.2.1 x.2.2.2.2.2) else if m.2.2.2.1=false then ([],m) else ([(4,m.1,x.2.1,m.2.1,0,([]:List AP))],m)):=fun b=>VX (by
    unfold K9
    cases b with
    | true =>
     rw [if_pos rfl,if_pos rfl,BK hx,Y,Va,Y,Ck _ _ _ (by simp) (by simp),Y]
     rfl
    | false =>
     simp only [Bool.false_eq_true,if_false]
     cases hb:m.2.2.2.1 with
     | false=>simp
     | true =>
      simp only [Bool.not_true,Bool.false_eq_true,if_false,Bool.true_eq_false]
      rw [Ck _ _ _ (by simp) (by simp),Y]
      rfl)
   refine VY ?_
   unfold K_
   rw [J1,J1,J1]
   by_cases c5:x.2.2.2.1>m.2.1
   ·rw [if_pos (by simpa using c5)]
    simp [c5]
   ·rw [if_neg (by simpa using c5)]
    cases hb:m.2.2.2.1<;>cases hf:m.2.2.1<;>simp [c5])
def yL (m:AE) (x:Bb):List Bb×AE :=
 if (x.2.2.2.1==m.2.1&&m.2.2.2.1)=true then
  (if x.1=7 then ([(8,m.1,x.2.1,m.2.1,x.2.2.2.2.1,([]:List AP))],m)
  else ([(6,m.1,x.2.1,m.2.1,x.2.2.2.2.1,([]:List AP))],(m.1,m.2.1,m.2.2.1,m.2.2.2.1,m.2.2.2.2.1,m.2.2.2.2.2.1,m.2.2.2.2.2.2.1,Aq m.2.2.2.2.2.2.2.1 (x.2.2.2.2.2.getD 0 (O,O,(0:Int))),m.2.2.2.2.2.2.2.2)))
 else ([],m)
theorem qt (m:AE) (x:Bb) (hm:m.2.2.2.2.2.2.2.1.length<=12) (h5:x.1≠7->0<x.2.2.2.2.2.length) :
  Ke x m=some (yL m x):=fc (by
 unfold Rg yL
 by_cases c1:x.2.2.2.1=m.2.1
 case neg=>rw [if_pos (by simpa using c1),if_neg (by simp [c1])]
 rw [if_neg (by simpa using c1)]
 by_cases c2:m.2.2.2.1=true
 case neg=>rw [if_pos (by simpa using c2),if_neg (by simp [c2])]
 rw [if_neg (by simpa using c2),if_pos (by simp [c1,c2])]
 refine YJ ?_
 unfold Ny
 by_cases c7:x.1=7
 ·rw [if_pos (by simpa using c7),if_pos c7,Ck _ _ _ (by simp) (by simp),Y]
  rfl
 ·have:=h5 c7
  rw [if_neg (by simpa using c7),if_neg c7,if_pos (by omega),if_pos (by omega),U9 _ _ (by omega),Y,Ck _ _ _ (by simp) (by simp),Y]
  rfl)
theorem XU (m:AE) (op:Int) (x:Bb) (hm:KS m) :
  G3 op x m=some (if (x.2.2.2.1==m.2.1&&m.2.2.2.2.2.2.2.2.2.1==op&&m.2.2.2.2.2.2.2.2.2.2.2.1==x.2.2.2.2.1)=true then ((HD m x.2.1).2.2,(HD m x.2.1).1) else ([],m)):=dy (by
 obtain ⟨l1,l2,l3⟩:=hm.lens
 unfold Pw
 by_cases c1:x.2.2.2.1=m.2.1
 case neg=>rw [if_pos (by simpa using c1),if_neg (by simp [c1])]
 rw [if_neg (by simpa using c1)]
 by_cases c2:m.2.2.2.2.2.2.2.2.2.1=op
 case neg=>rw [if_pos (by simpa using c2),if_neg (by simp [c2])]
 rw [if_neg (by simpa using c2)]
 by_cases c3:m.2.2.2.2.2.2.2.2.2.2.2.1=x.2.2.2.2.1
 case neg=>rw [if_pos (by simpa using c3),if_neg (by simp [c3])]
 rw [if_neg (by simpa using c3),if_pos (by simp [c1,c2,c3])]
 refine XF ?_
 unfold Mb HD
 rw [VH _ _ (by omega),Y]
 by_cases c4:(m.2.2.2.2.2.2.2.2.2.2.2.2.2.filter (· != x.2.1)).length=0
 ·rw [if_neg (by rw [c4]; decide),if_pos (by rw [c4]; decide),eK _ (by show m.2.2.2.2.2.2.2.1.length<=_; omega)]
  rfl
 ·rw [if_pos (decide_eq_true (by omega)),if_neg (by rw [beq_iff_eq]; omega)]
  rfl)

def vg (x:Bb):Bb:=if x.1=3 then (x.1,x.2.1,x.2.2.1,x.2.2.2.1,0,x.2.2.2.2.2) else x
def eL (m:AE) (views:List (List Int)) (x:Bb):AE×List Bb×List DR:=if XP x=true then D3 m views (vg x) else (m,[],[])
theorem ACa (x:Bb):(vg x).2.2.1=x.2.2.1/\(vg x).2.2.2.1=x.2.2.2.1:=by unfold vg; split<;>exact ⟨rfl,rfl⟩
theorem fA {m:AE} {views:List (List Int)} {x:Bb} (h:¬ (x.2.2.1=m.1/\m.2.1<=x.2.2.2.1/\x.2.2.2.1<=(views.length:Int)/\XP x=true)):eL m views x=(m,[],[]):=by
 unfold eL
 split
 ·rename_i hx
  unfold D3
  rw [if_neg (by
   rw [(ACa x).1,(ACa x).2]
   simp only [AD,beq_iff_eq,decide_eq_true_eq]
   exact fun g=>h ⟨g.1.1.2,g.1.2,g.2,hx⟩)]
 ·rfl
theorem yM {x:Bb} (h:x.1≠3):vg x=x:=if_neg h
theorem ACb {x:Bb} (h:x.1=3->x.2.2.2.2.1=0):vg x=x:=by
 unfold vg
 split
 ·rename_i e
  obtain ⟨a,b,c,d,e,f⟩:=x
  have:=h ‹_›
  dsimp only at this
  rw [this]
 ·rfl
theorem zV {m:AE} {views:List (List Int)} {x:Bb} (hx:XOk x) (h1:x.2.2.1=m.1) (h2:m.2.1<=x.2.2.2.1) (h3:x.2.2.2.1<=(views.length:Int)):D3 m views x =
  (if x.2.2.2.1=m.2.1 then eF m (views.getD (m.2.1-1).toNat []) x
  else if (x.1==1&&(x.2.2.2.1==m.2.1+1)&&m.2.2.2.1&&(views.getD (m.2.1-1).toNat []).contains m.1)=true then (XQ m x.2.2.2.1,[(2,m.1,x.2.1,x.2.2.2.1,0,m.2.2.2.2.2.2.2.1)],[])
  else if (x.1==3&&(views.getD (x.2.2.2.1-1).toNat []).contains m.1&&((views.getD (x.2.2.2.1-1).toNat []).getD 0 0 != m.1))=true then
   ((m.1,x.2.2.2.1,false,true,false,false,([]:List Int),x.2.2.2.2.2,(0:Int),(0:Int),(0:Int),(0:Int),(O,O,(0:Int)),([]:List Int)),FO m x 4,[])
  else (m,[],[])):=by
 unfold D3
 rw [if_pos (by rw [eo.2 hx]; simp [h1,h2,h3])]
theorem lu {a:AE} {b:List Bb} {c:List DR} {r:AE×List Bb×List DR} (h:r=(a,b,c)):(b,c,a)=(r.2.1,r.2.2,r.1):=by rw [h]
theorem uZ (m:AE) (views:List (List Int)) (x:Bb) (hm:KS m) (hv:TV views) (hx:XOk x) (h1:x.2.2.1=m.1) (h2:m.2.1<=x.2.2.2.1) (h3:x.2.2.2.1<=(views.length:Int)) :
  Ln views x m=some ((eL m views x).2.1,(eL m views x).2.2,(eL m views x).1):=iZ (by
 have hvl:=hv.len
 have hep:=hm.ep
 have hxe:=hx.ep
 have hxi:=KT hx.items
 obtain ⟨l1,l2,l3⟩:=hm.lens
 have hin:=zV hx h1 h2 h3
 unfold TQ eL
 rw [if_pos (eo.2 hx)]
 have hV:=hv.wok (i:=(m.2.1-1).toNat) (by omega)
 generalize hVe:views.getD (m.2.1-1).toNat []=V at hV hin
 have hk:=hx.kind
 by_cases k1:x.1=1
 ·rw [if_pos (by simpa using k1),uY m views x hm hv (by omega),Y,yM (by omega)]
  congr 1
  apply lu
  rw [hin]
  unfold ACX
  rw [hVe]
  by_cases e:x.2.2.2.1=m.2.1
  ·rw [if_pos e,if_neg (by rw [e]; simp; omega)]
   unfold eF
   simp [k1]
  ·rw [if_neg e]
   cases hc:(x.2.2.2.1==m.2.1+1&&m.2.2.2.1&&V.contains m.1) with
   | true =>
    rw [if_pos (by rw [k1]; simpa using hc),if_pos rfl]
   | false =>
    rw [if_neg (by rw [k1]; simpa using hc),if_neg (by simp [k1]),if_neg (by simp)]
 rw [if_neg (by simpa using k1)]
 by_cases k2:x.1=2
 ·have J:∀ b:Bool,(b=true->m.2.2.2.1=false)->EM views b m x=some (if b=true then ((CG V m.1).map (fun v=>(3,m.1,v,m.2.1,0,x.2.2.2.2.2)),[],Tg m V x.2.2.2.2.2) else ([],[],m)):=fun b hb=>bQ (by
   unfold ON
   cases b with
   | false=>rw [if_neg (by simp),if_neg (by simp)]
   | true =>
    have hs:m.2.2.2.2.2.1=false:=by
     cases hh:m.2.2.2.2.2.1 with
     | false=>rfl
     | true=>have:=(hm.serves hh).1; rw [hb rfl] at this; cases this
    rw [if_pos rfl,if_pos rfl,Ae (by omega),if_pos (by omega),if_pos (by omega),hVe,TZ V _ m hV (by omega) hs,Y])
  rw [if_pos (by simpa using k2),yM (by omega)]
  by_cases e:x.2.2.2.1=m.2.1
  ·rw [if_pos (by simpa using e)]
   have ho:D3 m views x=(if (m.2.2.2.2.1&&!m.2.2.2.1)=true then (Tg m V x.2.2.2.2.2,(CG V m.1).map (fun v=>(3,m.1,v,m.2.1,0,x.2.2.2.2.2)),[]) else (m,[],[])):=by
    rw [hin,if_pos e]; unfold eF; rw [if_pos k2]
   rw [ho]
   cases hl:m.2.2.2.2.1 with
   | false=>rw [if_neg (by simp),J false (by simp),if_neg (by simp),if_neg (by simp)]
   | true =>
    rw [if_pos (by rfl),J _ (by simp)]
    cases hb:m.2.2.2.1 with
    | true=>rw [if_neg (by simp),if_neg (by simp)]
    | false=>rw [if_pos (by rfl),if_pos (by rfl)]
  ·rw [if_neg (by simpa using e),J false (by simp),if_neg (by simp)]
   congr 1
   apply lu
   rw [hin,if_neg e,if_neg (by simp [k2]),if_neg (by simp [k2])]
 rw [if_neg (by simpa using k2)]
 by_cases k3:x.1=3
 ·have hW:=hv.wok (i:=(x.2.2.2.1-1).toNat) (by omega)
  rw [if_pos (by simpa using k3),Ae (by omega),if_pos (by omega),if_pos (by omega)]
  have hx':XOk (vg x):=by
   unfold vg
   rw [if_pos k3]
   exact ⟨hx.kind,hx.frm,hx.to,hx.ep,(show (0:Int)<=0/\(0:Int)<=1000000000 from by decide),hx.items,hx.shape⟩
  have hf:vg x=(x.1,x.2.1,x.2.2.1,x.2.2.2.1,0,x.2.2.2.2.2):=if_pos k3
  have hin2:=zV (m:=m) (views:=views) hx' (by rw [hf]; exact h1) (by rw [hf]; exact h2) (by rw [hf]; exact h3)
  rw [hVe] at hin2
  generalize hWe:views.getD (x.2.2.2.1-1).toNat []=Wv at hW
  rw [lr m Wv x hW (by omega),Y]
  congr 1
  apply lu
  rw [hin2,hf]
  dsimp only
  rw [hWe]
  unfold ACZ
  by_cases e:x.2.2.2.1=m.2.1
  ·have hVW:Wv=V:=by rw [<- hWe,<- hVe,e]
   rw [if_pos e]
   unfold eF
   rw [if_neg (by rw [k3]; decide),if_pos k3,hVW]
   dsimp only
   cases hc:(!V.contains m.1||(V.getD 0 0==m.1)) with
   | true=>simp only [if_true]
   | false =>
    simp only [Bool.false_eq_true,if_false]
    cases hb:m.2.2.2.1<;>cases hf2:m.2.2.1<;>simp [e,FO,ACY]
  ·rw [if_neg e,if_neg (by rw [k3]; simp)]
   cases hc:(!Wv.contains m.1||(Wv.getD 0 0==m.1)) with
   | true =>
    rw [if_neg (by
     intro h
     simp only [AD,bne_iff_ne,E5,Dm,beq_iff_eq] at h hc
     rcases hc with hc | hc
     ·rw [hc] at h; exact absurd h.1.2 (by simp)
     ·exact h.2 hc),if_pos rfl]
   | false =>
    rw [if_pos (by
     simp only [Bool.or_eq_false_iff,Bool.not_eq_false'] at hc
     rw [k3,hc.1]
     simpa using hc.2),if_neg (by simp),if_pos (Or.inl (by omega))]
    rfl
 rw [if_neg (by simpa using k3),yM k3]
 by_cases k4:x.1=4
 ·rw [if_pos (by simpa using k4)]
  have J:∀ b:Bool,GY b m x=some (if b=true then ([],[],(m.1,m.2.1,m.2.2.1,m.2.2.2.1,m.2.2.2.2.1,m.2.2.2.1&&(((m.2.2.2.2.2.2.1.filter (· != x.2.1)).length:Int)==0),m.2.2.2.2.2.2.1.filter (· != x.2.1),m.2.2.2.2.2.2.2)) else ([],[],m)):=fun b=>bR (by
   unfold OO
   cases b with
   | false=>rw [if_neg (by simp),if_neg (by simp)]
   | true =>
    rw [if_pos rfl,if_pos rfl,VH _ _ (by omega),Y]
    cases hs:m.2.2.2.2.2.1 with
    | true =>
     obtain ⟨q1,q2,q3⟩:=hm.serves hs
     rw [if_neg (by simp),q3,q1]
     rfl
    | false =>
     rw [if_pos rfl]
     cases hq:(((m.2.2.2.2.2.2.1.filter (· != x.2.1)).length:Int)==0) with
     | true=>rw [if_pos rfl,Bool.and_true]
     | false=>rw [if_neg (by simp),Bool.and_false])
  by_cases e:x.2.2.2.1=m.2.1
  ·rw [if_pos (by simpa using e),J]
   have ho:D3 m views x=(if m.2.2.2.2.1=true then
     ((m.1,m.2.1,m.2.2.1,m.2.2.2.1,m.2.2.2.2.1,m.2.2.2.1&&(((m.2.2.2.2.2.2.1.filter (· != x.2.1)).length:Int)==0),m.2.2.2.2.2.2.1.filter (· != x.2.1),m.2.2.2.2.2.2.2),[],[]) else (m,[],[])):=by
    rw [hin,if_pos e]; unfold eF; rw [if_neg k2,if_neg k3,if_pos k4]
   rw [ho]
   cases hl:m.2.2.2.2.1 with
   | false=>rw [if_neg (by simp),if_neg (by simp)]
   | true=>rw [if_pos rfl,if_pos rfl]
  ·rw [if_neg (by simpa using e),J,if_neg (by simp)]
   congr 1
   apply lu
   rw [hin,if_neg e,if_neg (by simp [k4]),if_neg (by simp [k4])]
 rw [if_neg (by simpa using k4)]
 have st:x.1=5\/x.1=7->yL m x=((D3 m views x).2.1,(D3 m views x).1)/\(D3 m views x).2.2=[]:=fun hk=>by
  rw [hin]
  unfold yL
  by_cases e:x.2.2.2.1=m.2.1
  ·rw [if_pos e]
   unfold eF FO
   rw [if_neg k2,if_neg k3,if_neg k4,e]
   cases hb:m.2.2.2.1 with
   | true =>
    rcases hk with hk | hk
    ·rw [if_pos (by simp),if_neg (by omega),if_pos hk,if_pos rfl]
     exact ⟨rfl,rfl⟩
    ·rw [if_pos (by simp),if_pos hk,if_neg (by omega),if_pos hk,if_pos rfl]
     exact ⟨rfl,rfl⟩
   | false =>
    rcases hk with hk | hk
    ·rw [if_neg (by simp),if_pos hk,if_neg (by simp)]
     exact ⟨rfl,rfl⟩
    ·rw [if_neg (by simp),if_neg (by omega),if_pos hk,if_neg (by simp)]
     exact ⟨rfl,rfl⟩
  ·simp [e,k1,k3]
 have sd:∀ op,x.1=6/\op=1\/x.1=8/\op=2->(if (x.2.2.2.1==m.2.1&&m.2.2.2.2.2.2.2.2.2.1==op&&m.2.2.2.2.2.2.2.2.2.2.2.1==x.2.2.2.2.1)=true then ((HD m x.2.1).2.2,(HD m x.2.1).1) else ([],m))=((D3 m views x).2.2,(D3 m views x).1)/\(D3 m views x).2.1=[]:=fun op hk=>by
  have ht:(HD m x.2.1).2.1=[]:=by unfold HD; split<;>rfl
  rw [hin]
  by_cases e:x.2.2.2.1=m.2.1
  ·rw [if_pos e]
   unfold eF
   rw [if_neg k2,if_neg k3,if_neg k4,if_neg (show ¬ x.1=5 by omega),if_neg (show ¬ x.1=7 by omega),e]
   have hop:(if x.1=8 then (2:Int) else 1)=op:=by
    rcases hk with ⟨h,h'⟩ | ⟨h,h'⟩
    ·rw [if_neg (by omega),h']
    ·rw [if_pos h,h']
   rw [hop]
   by_cases c1:m.2.2.2.2.2.2.2.2.2.1=op
   ·by_cases c2:m.2.2.2.2.2.2.2.2.2.2.2.1=x.2.2.2.2.1
    ·rw [if_pos (by simp [c1,c2]),if_pos ⟨by omega,c1,c2⟩]
     exact ⟨rfl,ht⟩
    ·simp [c2]
   ·simp [c1]
  ·simp [e,k1,k3]
 have h7:x.1≠7->x.1=5->0<x.2.2.2.2.2.length:=fun _ h5=>by
  have:=hx.shape
  rw [if_neg (by omega),if_pos h5] at this
  omega
 have J2:∀ b:Bool,(b=true↔x.1=5\/x.1=7)->GZ x.1 b m x=some ((D3 m views x).2.1,(D3 m views x).2.2,(D3 m views x).1):=fun b hb=>bS (by
  unfold OP
  cases b with
  | true =>
   have hk5:=hb.1 rfl
   obtain ⟨q1,q2⟩:=st hk5
   rw [if_pos rfl,qt m x l2 (fun h=>h7 h (by omega)),Y,q1,q2]
  | false =>
   have hn:¬ (x.1=5\/x.1=7):=fun h=>by have:=hb.2 h; cases this
   rw [if_neg (by simp)]
   by_cases k6:x.1=6
   ·obtain ⟨q1,q2⟩:=sd 1 (.inl ⟨k6,rfl⟩)
    rw [if_pos (by simpa using k6),XU m 1 x hm,Y,q1,q2]
   ·obtain ⟨q1,q2⟩:=sd 2 (.inr ⟨by omega,rfl⟩)
    rw [if_neg (by simpa using k6),if_pos (by rw [beq_iff_eq]; omega),XU m 2 x hm,Y,q1,q2])
 by_cases k5:x.1=5
 ·rw [if_pos (by simpa using k5),J2 _ (by simp [k5])]
 ·rw [if_neg (by simpa using k5),J2 _ (by simp [k5])])
theorem MC {m:AE} (h:KS m):Gi m=some true:=by
 obtain ⟨h1,h2,h3⟩:=h.lens
 rw [ik m (by unfold maxLen; omega) (by unfold maxLen; omega) (by unfold maxLen; omega),AAi.2 h]
theorem FD {views:List (List Int)} (h:TV views):Dt views=some true:=by
 have:=h.len
 rw [lW views (by unfold maxLen; omega) (fun a ha=>by have:=(h.view ha).2; unfold maxLen; omega),h.ok]
theorem lw (m:AE) (views:List (List Int)) (x:Bb) (hm:KS m) (hv:TV views) (hx:x.2.2.2.2.2.length<=68719476736) :
  NM m views x=some (eL m views x):=ts (by
 have hxm:x.2.2.2.2.2.length<=maxLen:=by unfold maxLen; omega
 unfold df
 rw [hm.icopy,Y]
 by_cases c1:x.2.2.1=m.1
 case neg=>rw [if_neg (by simpa using c1),fA (fun h=>c1 h.1)]
 rw [if_pos (by simpa using c1)]
 by_cases c2:x.2.2.2.1<m.2.1
 ·rw [if_neg (by simpa using c2),fA (fun h=>by omega)]
 rw [if_pos (by simpa using c2)]
 by_cases c3:x.2.2.2.1>(views.length:Int)
 ·rw [if_neg (by simpa using c3),fA (fun h=>by omega)]
 rw [if_pos (by simpa using c3),MC hm,Y,if_pos (by rfl),FD hv,Y,if_pos (by rfl),qp x hxm,Y]
 cases hmo:XP x with
 | false=>rw [if_pos (by rfl),fA (fun h=>by rw [hmo] at h; cases h.2.2.2)]
 | true =>
  rw [if_neg (by simp)]
  have hx':=eo.1 hmo
  refine kh ?_
  unfold Up
  have hok:KS (eL m views x).1:=by
   unfold eL
   rw [if_pos hmo]
   exact (P4 hm hv).mok
  rw [uZ m views x hm hv hx' c1 (by omega) (by omega),Y,hok.icopy,Y])

theorem vh (x:List Int):gz x=some (decide ((x.length:Int)>1048576)):=AAE rfl
theorem vj (m:AE):UY m=some (XT m):=zM rfl



theorem yN (x:List AP) {k k2:ByteArray} (h:k.toList=k2.toList):BR x k=BR x k2:=by
 unfold BR
 rw [h]
theorem ADj {x:List AP} {a b:AP} (hx:BA x=true) (hb:b∈x):b.2.2<=(BR (Aq x a) b.1).2.2:=by
 have ho:=(DE.1 hx).2.1
 have same:b.2.2<=(BR x b.1).2.2:=by rw [PA ho hb]; exact Int.le_refl _
 unfold Aq
 split
 ·exact same
 ·rename_i hs
  try rw [if_pos hx]
  split
  ·rename_i hl
   have ho':=(DE.1 hl).2.1
   cases hk:(b.1.toList==a.1.toList) with
   | false=>rw [PA ho' (AAH hb hk)]; exact Int.le_refl _
   | true =>
    rw [yN _ (beq_iff_eq.1 hk),PA ho' uO]
    have:¬ (b.2.2>=a.2.2):=fun h=>hs (List.any_eq_true.2 ⟨b,hb,by rw [hk]; simpa using h⟩)
    omega
  ·exact same

def gM (k:ByteArray) (b:AP):Bool:=b.1.toList==k.toList
theorem zW (k:ByteArray):∀ x:List AP,(x.filter (Vb k)).length+(x.filter (Qs k)).length+(x.filter (gM k)).length=x.length
 | []=>rfl
 | b::x=>by
  have ih:=zW k x
  have hi:Qs k b=!(Vb k b||gM k b):=rfl
  cases hl:Vb k b with
  | true =>
   have hs:gM k b=false:=by
    cases q:gM k b with
    | false=>rfl
    | true =>
     have e:b.1.toList=k.toList:=by simpa [gM] using q
     unfold Vb at hl
     rw [e,en] at hl
     cases hl
   simp only [List.filter_cons,hi,hl,hs,Bool.true_or,Bool.not_true,if_true,Bool.false_eq_true,if_false,List.length_cons]
   omega
  | false =>
   cases hs:gM k b with
   | true =>
    simp only [List.filter_cons,hi,hl,hs,Bool.false_or,Bool.not_true,if_true,Bool.false_eq_true,if_false,List.length_cons]
    omega
   | false =>
    simp only [List.filter_cons,hi,hl,hs,Bool.or_false,Bool.not_false,if_true,Bool.false_eq_true,if_false,List.length_cons]
    omega
def Jt (x:List AP) (k:ByteArray):Bool:=x.any (gM k)
theorem ua {x:List AP} {k:ByteArray}:Jt x k=true↔1<=(x.filter (gM k)).length:=by
 unfold Jt
 rw [List.any_eq_true]
 constructor
 ·rintro ⟨b,hb,hs⟩
  exact List.length_pos_of_mem (List.mem_filter.2 ⟨hb,hs⟩)
 ·intro h
  obtain ⟨b,hb⟩:=List.exists_mem_of_length_pos h
  exact ⟨b,(List.mem_filter.1 hb).1,(List.mem_filter.1 hb).2⟩
theorem eM {x:List AP} {k:ByteArray} (h:Jt x k=false):BR x k=(O,O,0):=by
 unfold BR
 have:x.find? (fun a=>a.1.toList==k.toList)=none:=by
  rw [List.find?_eq_none]
  intro b hb hs
  have:Jt x k=true:=List.any_eq_true.2 ⟨b,hb,hs⟩
  rw [h] at this
  cases this
 rw [this]
 rfl
theorem ub {x:List AP} {k:ByteArray} (h:Jt x k=true):BR x k∈x/\(BR x k).1.toList=k.toList:=by
 obtain ⟨b,hb,hs⟩:=List.any_eq_true.1 h
 unfold BR
 cases q:x.find? (fun a=>a.1.toList==k.toList) with
 | none =>
  rw [List.find?_eq_none] at q
  exact absurd hs (q b hb)
 | some c=>exact ⟨List.mem_of_find?_eq_some q,by simpa using List.find?_some q⟩
theorem ACc {x:List AP} {k:ByteArray} (hx:BA x=true):P5 (.pair .str (.pair .str (.int .i64))) (BR x k) (O,O,(0:Int))=!Jt x k:=by
 cases h:Jt x k with
 | false=>rw [eM h]; exact zS _
 | true =>
  obtain ⟨h1,h2⟩:=ub h
  have h3:=(DE.1 hx).1 _ h1
  unfold KR at h3
  simp only [AD,decide_eq_true_eq] at h3
  have h4:((BR x k).2.2==(0:Int))=false:=by
   rw [beq_eq_false_iff_ne]
   omega
  show ((BR x k).1.toList==_&&((BR x k).2.1.toList==_&&((BR x k).2.2==(0:Int))))=false
  rw [h4,Bool.and_false,Bool.and_false]
theorem AAt {x:List AP} {a:AP} (hx:BA x=true) (ha:KR a=true) (hv:N4 x (a.2.2-1)) :
  Aq x a=if x.length=12/\Jt x a.1=false then x else Tf x a:=by
 obtain ⟨h1,h2,h3⟩:=DE.1 hx
 have hs:a_ x a=false:=by
  cases q:a_ x a with
  | false=>rfl
  | true =>
   obtain ⟨b,hb,hc⟩:=List.any_eq_true.1 q
   simp only [AD,decide_eq_true_eq] at hc
   have:=hv b hb
   omega
 have hl:=zW a.1 x
 have hlen:(Tf x a).length=(x.filter (Vb a.1)).length+1+(x.filter (Qs a.1)).length:=by simp [Tf]; omega
 unfold Aq
 rw [hs,if_neg (by simp),if_pos hx]
 have hk:BA (Tf x a)=true↔(Tf x a).length<=12:=by
  rw [DE]
  refine ⟨fun h=>h.2.2,fun h=>⟨fun b hb=>?_,ii a h2,h⟩⟩
  rcases zR hb with e | e
  ·rw [e]; exact ha
  ·exact h1 b e
 cases hh:Jt x a.1 with
 | true =>
  have:=ua.1 hh
  rw [if_pos (hk.2 (by omega)),if_neg (by simp)]
 | false =>
  have h0:(x.filter (gM a.1)).length=0:=by
   rcases Nat.eq_zero_or_pos (x.filter (gM a.1)).length with e | e
   ·exact e
   ·have:=ua.2 e
    rw [hh] at this
    cases this
  by_cases h12:x.length=12
  ·rw [if_neg (fun h=>by have:=hk.1 h; omega),if_pos ⟨h12,rfl⟩]
  ·rw [if_pos (hk.2 (by omega)),if_neg (fun h=>h12 h.1)]
theorem uc {x:List AP} {a:AP} (hx:BA x=true) (ha:KR a=true) (hv:N4 x (a.2.2-1)) :
  P5 (.pair .str (.pair .str (.int .i64))) (BR (Aq x a) a.1) a=!(decide (x.length=12)&&!Jt x a.1):=by
 obtain ⟨h1,h2,h3⟩:=DE.1 hx
 have ha2:=ha
 unfold KR at ha2
 simp only [AD,decide_eq_true_eq] at ha2
 rw [AAt hx ha hv]
 by_cases h:x.length=12/\Jt x a.1=false
 ·rw [if_pos h,eM h.2,h.2,decide_eq_true h.1]
  have h4:((0:Int)==a.2.2)=false:=by
   rw [beq_eq_false_iff_ne]
   omega
  show (_&&(_&&((0:Int)==a.2.2)))=false
  rw [h4,Bool.and_false,Bool.and_false]
 ·rw [if_neg h,PA (ii a h2) uO,zS]
  by_cases h12:x.length=12
  ·cases hh:Jt x a.1 with
   | true=>simp
   | false=>exact absurd ⟨h12,hh⟩ h
  ·simp [h12]
def mbS (m:AE) (views:List (List Int)):Bool:=m.2.2.2.2.2.1&&(m.2.2.2.2.2.2.2.2.2.1==0)&&decide (m.2.2.2.2.2.2.2.2.1<900)&&decide (m.2.1<=(views.length:Int))&&((views.getD (m.2.1-1).toNat []).getD 0 0==m.1)
def akS (op call:Int) (key val:ByteArray):Bool:=(op==1||op==2)&&(decide (0<=call)&&decide (call<=1000))&&(decide (1<=(key.size:Int))&&decide ((key.size:Int)<=12))&&decide ((val.size:Int)<=20)&&(op==1||yH val)
theorem ud (m:AE) (views:List (List Int)) (op call:Int) (key val:ByteArray):YM m views op call key val=(mbS m views&&akS op call key val):=by
 unfold YM mbS akS
 ac_rfl
theorem iu (m:AE) (views:List (List Int)) (hm:KS m) (hv:TV views):IU views m=some (mbS m views,m):=YF (by
 have hvl:=hv.len
 have hep:=hm.ep
 have hcnt:=hm.count
 have wm:IntKind.i64.wrap (m.2.1-1)=m.2.1-1:=Ae (by omega)
 unfold Nr mbS
 cases h1:m.2.2.2.2.2.1 with
 | false=>rfl
 | true =>
  rw [if_pos (by rfl)]
  by_cases h2:m.2.2.2.2.2.2.2.2.2.1=0
  ·rw [if_pos (by rw [h2]; rfl),h2]
   by_cases h3:m.2.2.2.2.2.2.2.2.1=900
   ·rw [if_neg (by rw [h3]; simp),h3]
    rfl
   ·rw [if_pos (by simpa using h3),decide_eq_true (show m.2.2.2.2.2.2.2.2.1<900 by omega)]
    by_cases h4:m.2.1>(views.length:Int)
    ·rw [if_pos (by simpa using h4),decide_eq_false (show ¬ m.2.1<=(views.length:Int) by omega)]
     rfl
    ·rw [if_neg (by simpa using h4),decide_eq_true (show m.2.1<=(views.length:Int) by omega)]
     refine Te ?_
     have g1:=hv.get (i:=(m.2.1-1).toNat) (by omega)
     unfold KW
     rw [FD hv,Y,if_pos (by rfl),wm,if_pos (by omega),if_pos (by omega),if_pos (by omega),if_pos (by omega)]
     rfl
  ·rw [if_neg (by simpa using h2),show (m.2.2.2.2.2.2.2.2.2.1==(0:Int))=false by simpa using h2]
   rfl)
theorem ue (op call:Int) (key val:ByteArray):NL op call key val=some (akS op call key val):=kY (by
 have w:∀ b,LU op val b=some (op==1||yH val):=fun b=>aN (by
  unfold Qg
  rw [n7]
  by_cases h:op=1
  ·rw [if_neg (by simp [h]),h]; rfl
  ·rw [if_pos (by simpa using h),show (op==1)=false by simpa using h]; rfl)
 unfold YC akS
 have ABR:decide ((val.size:Int)>20)=!decide ((val.size:Int)<=20):=by
  by_cases h:(val.size:Int)<=20
  ·rw [decide_eq_true h,decide_eq_false (by omega)]; rfl
  ·rw [decide_eq_false h,decide_eq_true (by omega)]; rfl
 have h12:(op==1||op==2)=(decide (1<=op)&&decide (op<=2)):=by
  by_cases a:op=1
  ·subst a; rfl
  ·by_cases b:op=2
   ·subst b; rfl
   ·rw [show (op==1)=false by simpa using a,show (op==2)=false by simpa using b,<- Bool.decide_and,decide_eq_false (by omega)]; rfl
 rw [Av,Y,Av,Qr,h12]
 cases (decide (1<=op)&&decide (op<=2)) with
 | false=>rfl
 | true =>
  rw [if_pos (by rfl),Y]
  cases (decide (0<=call)&&decide (call<=1000)) with
  | false=>rfl
  | true =>
   rw [if_pos (by rfl),Y]
   cases (decide (1<=(key.size:Int))&&decide ((key.size:Int)<=12)) with
   | false=>rfl
   | true =>
    rw [if_pos (by rfl),ABR,w]
    cases decide ((val.size:Int)<=20)<;>rfl)
theorem qu (m:AE) (views:List (List Int)) (op call:Int) (key val:ByteArray) (hm:KS m) (hv:TV views) (h1:V1 views m):R2 m views op call key val=some (D4 m views op call key val):=yB (by
 have hvl:=hv.len
 have hep:=hm.ep
 have hcnt:=hm.count
 have hl:=hm.lens
 have wm:IntKind.i64.wrap (m.2.1-1)=m.2.1-1:=Ae (by omega)
 have wc:IntKind.i64.wrap (m.2.2.2.2.2.2.2.2.1+1)=m.2.2.2.2.2.2.2.2.1+1:=Ae (by omega)
 have wk:IntKind.i64.wrap (1000*m.2.1)=1000*m.2.1:=Ae (by omega)
 have wv:IntKind.i64.wrap (1000*m.2.1+(m.2.2.2.2.2.2.2.2.1+1))=1000*m.2.1+(m.2.2.2.2.2.2.2.2.1+1):=Ae (by omega)
 unfold km D4
 rw [MC hm,Y,if_pos (by rfl),iu m views hm hv,Y,ue,ud]
 cases hb:mbS m views with
 | false=>rfl
 | true =>
  dsimp only
  rw [if_pos (by rfl),Y]
  cases ha:akS op call key val with
  | false=>rfl
  | true =>
   rw [if_neg (by simp),if_pos (by rfl)]
   have hmay:YM m views op call key val=true:=by rw [ud,hb,ha]; rfl
   obtain ⟨s1,s2,s3,s4,s5,s6,s7,s8,s9,s10⟩:=ew hmay
   obtain ⟨b1,b2,_⟩:=hm.serves s1
   have hw:=hv.wok (i:=(m.2.1-1).toNat) (by omega)
   have hwl:=hw.len
   have hrl:=Ii (views.getD (m.2.1-1).toNat []) m.1
   have ho:=ot hw m.1
   have hone:KR (HF m key val)=true:=(DE.1 (uS hm s3 s6 s7)).1 _ (by simp)
   have href:=uc (a:=HF m key val) hm.items hone ((h1.own b2 b1).mono (by show _<=1000*m.2.1+(m.2.2.2.2.2.2.2.2.1+1)-1; omega))
   have hz:=ACc (k:=key) hm.items
   have J1:∀ b z,Ip views op call b m z (m.1,m.2.1,m.2.2.1,m.2.2.2.1,m.2.2.2.2.1,m.2.2.2.2.2.1,m.2.2.2.2.2.2.1,m.2.2.2.2.2.2.2.1,m.2.2.2.2.2.2.2.2.1+1,m.2.2.2.2.2.2.2.2.2) (key,val,1000*m.2.1+(m.2.2.2.2.2.2.2.2.1+1))=some (TX m (views.getD (m.2.1-1).toNat []) op call key val):=fun b z=>qK (by
    unfold aS
    rw [wm,if_pos (by omega),if_pos (by omega),PD _ _ (by omega),Y,C4 (by show (CG (views.getD (m.2.1-1).toNat []) m.1).length<=_; omega),Y]
    have hsort:=oC hw m.1
    change ((DF (CG (views.getD (m.2.1-1).toNat []) m.1)).bind _)=_
    rw [hsort,Y]
    have J2:∀ a c d e x,(∀ q:Bb,q=x->q.2.2.2.2.2.length<=12)->(AAs (HN m (views.getD (m.2.1-1).toNat []) op call key val) (CG (views.getD (m.2.1-1).toNat []) m.1) x=uR m (views.getD (m.2.1-1).toNat []) op key val) ->
      LV (CG (views.getD (m.2.1-1).toNat []) m.1) a c (HN m (views.getD (m.2.1-1).toNat []) op call key val) d e x=some (TX m (views.getD (m.2.1-1).toNat []) op call key val):=fun a c d e x hx12 htell=>qJ (by
     have hx:=hx12 x rfl
     unfold aR TX
     by_cases h0:(CG (views.getD (m.2.1-1).toNat []) m.1).length=0
     ·rw [if_pos (by simpa using h0),if_pos (E4.1 (by rw [ho,h0])),eK _ (by show m.2.2.2.2.2.2.2.1.length<=_; omega),Y]
     ·rw [if_neg (by simpa using h0),if_neg (fun e=>h0 (by rw [<- ho,e]; rfl)),Ck _ _ _ (by omega) (by omega),Y,htell]
      exact mE)
    by_cases hop:op=1
    ·rw [if_pos (by simpa using hop)]
     refine J2 _ _ _ _ _ (fun q e=>by subst e; simp) ?_
     unfold AAs uR
     simp only [hop,if_true]
     rfl
    ·rw [if_neg (by simpa using hop)]
     refine J2 _ _ _ _ _ (fun q e=>by subst e; simp) ?_
     unfold AAs uR
     simp only [hop,if_false]
     rfl)
   refine qL ?_
   unfold aT
   rw [hm.icopy,Y,wc,wk,wv]
   by_cases hop:op=1
   ·rw [if_pos (by simpa using hop)]
    by_cases h12:m.2.2.2.2.2.2.2.1.length=12
    ·rw [if_pos (by simp only [beq_iff_eq]; omega),XK _ _ (by unfold maxLen; omega),Y]
     change (if (false != P5 (.pair .str (.pair .str (.int .i64))) (BR m.2.2.2.2.2.2.2.1 key) (O,O,(0:Int)))=true then _ else _)=_
     rw [hz]
     rw [h12] at href
     cases hh:Jt m.2.2.2.2.2.2.2.1 key with
     | false =>
      have hh2:Jt m.2.2.2.2.2.2.2.1 (HF m key val).1=false:=hh
      rw [hh2] at href
      rw [if_pos (by rfl),if_pos ⟨hop,href⟩]
      rfl
     | true =>
      have hh2:Jt m.2.2.2.2.2.2.2.1 (HF m key val).1=true:=hh
      rw [hh2] at href
      rw [if_neg (by simp),if_neg (fun h=>by have:=h.2; change P5 (.pair .str (.pair .str (.int .i64))) (BR _ (HF m key val).1) _=false at this; rw [href] at this; cases this)]
      exact J1 _ _
    ·rw [if_neg (by simp; omega),if_neg (fun h=>by
      have:=h.2
      change P5 (.pair .str (.pair .str (.int .i64))) (BR _ (HF m key val).1) _=false at this
      rw [href,decide_eq_false h12] at this
      cases this)]
     exact J1 _ _
   ·rw [if_neg (by simpa using hop),if_neg (fun h=>hop h.1)]
    exact J1 _ _)

def yO (m:AE) (views:List (List Int)) (e:Int):AE×List Bb×Bool :=
 if 2<=e/\e<=(views.length:Int)/\m.2.1<e/\(views.getD (e-1).toNat []).getD 0 0=m.1 then
  if (m.2.2.2.1&&(m.2.1==e-1))=true then
   (Tg (Mj m e) (views.getD (e-1).toNat []) m.2.2.2.2.2.2.2.1,(CG (views.getD (e-1).toNat []) m.1).map (fun v=>(3,m.1,v,e,0,m.2.2.2.2.2.2.2.1)),true)
  else (Mj m e,(CG (views.getD (e-2).toNat []) m.1).map (fun v=>(1,m.1,v,e,0,[])),true)
 else (LF,[],false)
theorem qv (m:AE) (views:List (List Int)) (e:Int) (hm:KS m) (hv:TV views):R3 m views e=some (yO m views e):=yC (by
 have hvl:=hv.len
 have hep:=hm.ep
 have hl:=hm.lens
 unfold ko yO
 rw [MC hm,Y,if_neg (by simp),FD hv,Y,if_neg (by simp),Av,Y]
 by_cases h1:2<=e/\e<=(views.length:Int)
 case neg =>
  rw [if_pos (by rw [<- Bool.decide_and,decide_eq_false h1]; rfl),if_neg (fun h=>h1 ⟨h.1,h.2.1⟩)]
  rfl
 have we:IntKind.i64.wrap (e-1)=e-1:=Ae (by omega)
 have we2:IntKind.i64.wrap (e-2)=e-2:=Ae (by omega)
 rw [if_neg (by rw [<- Bool.decide_and,decide_eq_true h1]; simp),we]
 by_cases h2:m.2.1<e
 case neg =>
  rw [if_pos (by simp; omega),if_neg (fun h=>h2 h.2.2.1)]
  rfl
 have g1:=hv.get (i:=(e-1).toNat) (by omega)
 have hw:=hv.wok (i:=(e-1).toNat) (by omega)
 have hw2:=hv.wok (i:=(e-2).toNat) (by omega)
 have hwl:=hw2.len
 rw [if_neg (by simp; omega),if_pos (by omega),if_pos (by omega),if_pos (by omega),if_pos (by omega)]
 by_cases h3:(views.getD (e-1).toNat []).getD 0 0=m.1
 case neg =>
  rw [if_pos (by simpa using h3),if_neg (fun h=>h3 h.2.2.2)]
  rfl
 rw [if_neg (by simpa using h3),if_pos ⟨h1.1,h1.2,h2,h3⟩]
 refine qN ?_
 unfold aW
 rw [hm.icopy,Y,we]
 have J1:∀ b z,LW views e b m z m=some (if b=true then (Tg (Mj m e) (views.getD (e-1).toNat []) m.2.2.2.2.2.2.2.1,(CG (views.getD (e-1).toNat []) m.1).map (fun v=>(3,m.1,v,e,0,m.2.2.2.2.2.2.2.1)),true)
   else (Mj m e,(CG (views.getD (e-2).toNat []) m.1).map (fun v=>(1,m.1,v,e,0,[])),true)):=fun b z=>qM (by
  unfold aV
  rw [Va,Y,we,we2]
  cases b with
  | true =>
   rw [if_pos rfl,if_pos (by omega),if_pos (by omega)]
   change ((Dx (views.getD (e-1).toNat []) m.2.2.2.2.2.2.2.1 (Mj m e)).bind _)=_
   rw [TZ _ _ (Mj m e) hw (by omega) rfl,Y]
   rfl
  | false =>
   rw [if_neg (by simp),if_pos (by omega),if_pos (by omega)]
   change yX ((CL (views.getD (e-2).toNat []) (Mj m e)).bind _) ((CL (views.getD (e-2).toNat []) (Mj m e)).bind _)=_
   have hrl:=Ii (views.getD (e-2).toNat []) m.1
   rw [PD _ (Mj m e) (by omega),Y,Y,Ck _ _ (Mj m e) (by show (CG (views.getD (e-2).toNat []) m.1).length<=_; omega) (by simp),Y,Y,Y,mE]
   exact mE)
 cases hb:m.2.2.2.1 with
 | true=>rw [if_pos rfl,J1,Bool.true_and]
 | false=>rw [if_neg (by simp),J1,Bool.false_and])
theorem fj (id:Int) (views:List (List Int)) (hi:1<=id/\id<=6) (hv:TV views):Oj id views=some (E0 id views,true):=nL (by
 have hvl:=hv.len
 have g:=hv.get (i:=0) (by omega)
 unfold Wt
 rw [GB,Y,if_pos (by rw [<- Bool.decide_and,decide_eq_true hi]; rfl),FD hv,Y,if_neg (by simp)]
 refine fT ?_
 unfold RV
 rw [show views.getD (0:Int).toNat ([]:List Int)=views.getD 0 [] from rfl,VG _ _ (by unfold maxLen; omega),Y]
 repeat rw [if_pos (by omega)]
 rfl)

theorem Ri (x:List (List Int)) (h:x.length<=1000) (ho:∀ a∈x,a.length<=1000):KE x=some x:=nK (by
 have key:=E3 (n:=x.length) (P:=fun i=>HV x (x.length:Int) (i:Int) (x.take i)=some x) (RS (by
  unfold Kp
  rw [if_neg (by simp),List.take_length])) (fun i hi ih=>RS (by
  unfold Kp
  have hb:=ho x[i] (BZ hi)
  simp only [show ((i:Int)<(x.length:Int)) from by omega,decide_true,if_true,show (0:Int)<=(i:Int) from by omega,Aj,AW hi,AM (show i<9223372036854775807 by omega)]
  rw [C4 (by omega),Y,if_pos (by simp; omega),List.take_append_getElem]
  exact ih)) 0 (by omega)
 unfold Ws
 exact key)
theorem HX (g:AS) (k:Nat) (hg:Iz g k) (hk:k<=10000):C3 g=some g:=m_ (by
 have hvl:=hg.views.len
 have hc:=hg.clen
 have hf:=hg.flen
 have h6:=hg.six
 unfold Wi
 rw [Ri g.1 (by omega) (fun a ha=>by have:=hg.views.view ha; omega),Y,Lr (by omega),Y]
 have key2:∀ a b c d e f h k,FW g.2.2.1 (g.2.2.1.length:Int) ((0:Nat):Int) a b c d e f h k g.2.1 [] g.2.2.2 g.1=some g:=by
  intro a b c d e f h k
  have key':=E3 (n:=g.2.2.1.length) (P:=fun i=>FW g.2.2.1 (g.2.2.1.length:Int) (i:Int) a b c d e f h k g.2.1 (g.2.2.1.take i) g.2.2.2 g.1=some g) (RP (by
   unfold Kl
   rw [if_neg (by simp),List.take_length])) (fun i hi ih=>RP (by
   unfold Kl
   have hm:=KT (hg.fly _ (BZ hi)).items
   have hz:g.2.2.1.getD i ((0:Int),(0:Int),(0:Int),(0:Int),(0:Int),([]:List AP))=g.2.2.1[i]:=AW hi
   simp only [show ((i:Int)<(g.2.2.1.length:Int)) from by omega,decide_true,if_true,show (0:Int)<=(i:Int) from by omega,Aj,hz,AM (show i<9223372036854775807 by omega)]
   rw [N5 _ (by omega),Y,if_pos (by simp; omega),List.take_append_getElem]
   exact ih)) 0 (by omega)
  exact key'
 have key0:∀ a b c d e f h,FX g.2.1 (g.2.1.length:Int) ((0:Nat):Int) a b g.2.2.1 c d e f h [] [] g.2.2.2 g.1=some g:=by
  intro a b c d e f h
  have key':=E3 (n:=g.2.1.length) (P:=fun i=>FX g.2.1 (g.2.1.length:Int) (i:Int) a b g.2.2.1 c d e f h (g.2.1.take i) [] g.2.2.2 g.1=some g) (RQ (by
   unfold Km
   rw [if_neg (by simp),List.take_length]
   refine fQ ?_
   unfold RO
   exact key2 _ _ _ _ _ _ _ _)) (fun i hi ih=>RQ (by
   unfold Km
   have hm:=(hg.mem i (by omega)).1
   unfold Az at hm
   rw [AW hi] at hm
   have hz:g.2.1.getD i ((0:Int),(0:Int),false,false,false,false,([]:List Int),([]:List AP),(0:Int),(0:Int),(0:Int),(0:Int),(O,O,(0:Int)),([]:List Int))=g.2.1[i]:=AW hi
   simp only [show ((i:Int)<(g.2.1.length:Int)) from by omega,decide_true,if_true,show (0:Int)<=(i:Int) from by omega,Aj,hz,hm.icopy,Y,AM (show i<9223372036854775807 by omega)]
   rw [if_pos (by simp; omega),List.take_append_getElem]
   exact ih)) 0 (by omega)
  exact key'
 exact key0 _ _ _ _ _ _ _)
theorem lx {views:List (List Int)} (hv:TV views):QF views=some (Ai views,true):=qD (by
 have hvl:=hv.len
 unfold aJ
 rw [FD hv,Y,if_neg (by simp),Ri views (by omega) (fun a ha=>by have:=hv.view ha; omega),Y]
 have step:∀ (i:Nat) (a:_) (b:_) (c:_) (d:_) (l:List AE) r,1<=i->i<=6->l.length<=6->GM views ((i+1:Nat):Int) a b c d (l++[E0 (i:Int) views]) [] [] views=some r->GM views (i:Int) a b c d l [] [] views=some r:=by
  intro i a b c d l r h1 h6 hl hr
  refine TG ?_
  unfold L5
  rw [if_pos (by simp; omega),fj _ _ (by omega) hv,Y,if_pos (by simp; omega),AM (show i<9223372036854775807 by omega)]
  exact hr
 refine step 1 _ _ _ _ _ _ (by omega) (by omega) (by simp) ?_
 refine step 2 _ _ _ _ _ _ (by omega) (by omega) (by simp) ?_
 refine step 3 _ _ _ _ _ _ (by omega) (by omega) (by simp) ?_
 refine step 4 _ _ _ _ _ _ (by omega) (by omega) (by simp) ?_
 refine step 5 _ _ _ _ _ _ (by omega) (by omega) (by simp) ?_
 refine step 6 _ _ _ _ _ _ (by omega) (by omega) (by simp) ?_
 refine TG ?_
 unfold L5
 rw [if_neg (by decide)]
 rfl)
theorem Fu {k:Nat} (id:Int) (g:AS) (ms:Iz g k) (hi:1<=id/\id<=6):B6 id g=some (id-1,g):=fU (by
 have h6:=ms.six
 have step:∀ j (hj:j<6),I2 (g.2.1.getD j ((0:Int),(0:Int),false,false,false,false,([]:List Int),([]:List AP),(0:Int),(0:Int),(0:Int),(0:Int),(O,O,(0:Int)),([]:List Int))) id=some ((j:Int)+1==id):=fun j hj=>bP (by
  unfold OM
  have:=(ms.mem j hj).2
  unfold Az at this
  change some ((g.2.1.getD j LF).1==id)=_
  rw [this])
 have key:∀ (d j:Nat),j+d=5->(j:Int)+1<=id->BS g.2.1 id (g.2.1.length:Int) (j:Int)=some (id-1):=by
  intro d
  induction d with
  | zero =>
   intro j hj hle
   refine DQ ?_
   unfold B1
   rw [if_pos (by simp; omega),if_pos (by omega),if_pos (by omega),Aj,step j (by omega),Y,if_pos (by simp; omega)]
   congr 1; omega
  | succ d ih =>
   intro j hj hle
   refine DQ ?_
   unfold B1
   rw [if_pos (by simp; omega),if_pos (by omega),if_pos (by omega),Aj,step j (by omega),Y]
   by_cases e:(j:Int)+1=id
   ·rw [if_pos (by simpa using e)]
    congr 1; omega
   ·rw [if_neg (by simpa using e),AM (by omega)]
    exact ih (j+1) (by omega) (by omega)
 unfold RW
 rw [show CT g.2.1 id=some (id-1) from If (by
  unfold D1
  exact key 5 0 rfl (by omega)),Y])
theorem Ju (told:List Bb) (said:List DR) (at_:Int) (g:AS) (hf:g.2.2.1.length+told.length<=68719476736) (hc:g.2.2.2.length<=68719476736) (hs:n_ said) (hd:∀ c∈g.2.2.2,c.2.2.2.2.1=-1\/0<=c.2.2.2.2.1) :
  G1 told said at_ g=some (g.1,g.2.1,g.2.2.1++told,said.foldl (JY at_) g.2.2.2):=ki (by
 have hsl:=hs.1
 unfold Uq
 rw [if_pos hf]
 have fin:∀ (n:Nat) (cs:List IC),n=said.length->Cs at_ said (said.length:Int) (n:Int) g.1 g.2.1 (g.2.2.1++told) cs=some (g.1,g.2.1,g.2.2.1++told,cs):=fun n cs hn=>Pt (by
  unfold Jj
  rw [if_neg (by simp; omega)])
 match said,hs,hsl,fin with
 | [],_,_,fin=>exact fin 0 _ rfl
 | [s],hs,_,fin =>
  have h0:=(hs.2 s (by simp)).1
  refine Pt ?_
  unfold Jj
  have wl:IntKind.i64.wrap ((g.2.2.2.length:Int)-1)=(g.2.2.2.length:Int)-1:=Ae (by omega)
  rw [if_pos (by simp),if_pos (by omega),if_pos (by simp)]
  change ((Ah s.1 0 (IntKind.i64.wrap ((g.2.2.2.length:Int)-1))).bind _)=_
  rw [Av,Y,wl,Ae (show -9223372036854775808<=(0:Int)+1/\(0:Int)+1<=9223372036854775807 by omega)]
  show _=some (g.1,g.2.1,g.2.2.1++told,JY at_ g.2.2.2 s)
  have f1:=fun cs=>fin 1 cs rfl
  by_cases c1:s.1>=(g.2.2.2.length:Int)
  ·rw [if_pos (by rw [<- Bool.decide_and,decide_eq_false (by omega)]; rfl)]
   have:JY at_ g.2.2.2 s=g.2.2.2:=by unfold JY; rw [if_pos (by simp [c1])]
   rw [this]
   exact f1 _
  ·rw [if_neg (by rw [<- Bool.decide_and,decide_eq_true (by omega)]; simp)]
   change (if 0<=s.1 then (if s.1<(g.2.2.2.length:Int) then (if ((g.2.2.2.getD s.1.toNat FP).2.2.2.2.1 != -1)=true then _ else _) else _) else _)=_
   rw [if_pos h0,if_pos (by omega)]
   have hcl:s.1.toNat<g.2.2.2.length:=by omega
   have hdd:=hd (g.2.2.2.getD s.1.toNat FP) (by rw [AW hcl]; exact BZ _)
   by_cases c2:(g.2.2.2.getD s.1.toNat FP).2.2.2.2.1>=0
   ·rw [if_pos (by simp only [bne_iff_ne,ne_eq]; omega)]
    have:JY at_ g.2.2.2 s=g.2.2.2:=by unfold JY; rw [if_pos (by rw [decide_eq_true c2,Bool.or_true])]
    rw [this]
    exact f1 _
   ·rw [if_neg (by simp only [bne_iff_ne,ne_eq]; omega)]
    have e:JY at_ g.2.2.2 s=g.2.2.2.set s.1.toNat (TY at_ s (g.2.2.2.getD s.1.toNat FP)):=by unfold JY; rw [if_neg (by rw [decide_eq_false c1,decide_eq_false c2]; simp)]
    rw [e]
    refine dg ?_
    unfold Ps
    have hz2:∀ (l:List IC),l.getD s.1.toNat ((0:Int),O,O,(0:Int),(0:Int),(0:Int),(0:Int),(0:Int),O)=l.getD s.1.toNat FP:=fun l=>rfl
    have hz3:([s]:List DR).getD (0:Int).toNat ((0:Int),(0:Int),(0:Int),O,O,(0:Int))=s:=rfl
    simp only [hz3,hz2,yJ hcl,List.set_set,List.length_set]
    rw [if_pos h0,if_pos (by omega),Ae (show -9223372036854775808<=(0:Int)+1/\(0:Int)+1<=9223372036854775807 by omega)]
    unfold TY
    by_cases c3:(g.2.2.2.getD s.1.toNat FP).1=2
    ·rw [if_pos (show ((g.2.2.2.getD s.1.toNat FP).1==2)=true by simpa using c3),if_pos (show ((g.2.2.2.getD s.1.toNat FP).1==2)=true by simpa using c3)]
     exact f1 _
    ·rw [if_neg (show ¬ ((g.2.2.2.getD s.1.toNat FP).1==2)=true by simpa using c3),if_neg (show ¬ ((g.2.2.2.getD s.1.toNat FP).1==2)=true by simpa using c3)]
     exact f1 _
 | _::_::_,_,hsl,_=>simp at hsl)

theorem Iz.call {g:AS} {k:Nat} (h:Iz g k) (at_:Int) (e:EX):Iz (ID g at_ e) (k+1) :=
 ⟨h.views,h.six,h.mem,h.fly,by have:=h.flen; show g.2.2.1.length<=_; omega,by have:=h.clen; simp only [ID,List.length_append,List.length_cons,List.length_nil]; omega⟩
theorem bY (at_:Int) (e:EX) (g:AS) (k:Nat) (hg:Iz g k) (hk:k<=1000) (h3:V3 g) (hn:1<=e.2.1/\e.2.1<=6):Lj e at_ g=some ((Ky g at_ e).1==0,(Ky g at_ e).2):=iS (by
 have hc:=hg.clen
 have hf:=hg.flen
 have h6:=hg.six
 have hgc:=hg.call at_ e
 have h3c:=h3.call at_ e
 obtain ⟨m1,m2⟩:=hg.mem (e.2.1-1).toNat (by omega)
 have hb:=e_ (op:=e.2.2.2.1) (call:=(g.2.2.2.length:Int)) (key:=e.2.2.2.2.1) (val:=e.2.2.2.2.2) m1 hg.views
 unfold TM Ky
 rw [if_pos (by simp; omega)]
 change ((B6 e.2.1 (ID g at_ e)).bind _)=_
 rw [Fu e.2.1 _ hgc hn,Y]
 change (if 0<=e.2.1-1 then (if e.2.1-1<(g.2.1.length:Int) then ((R2 (Az g (e.2.1-1).toNat) g.1 e.2.2.2.1 (g.2.2.2.length:Int) e.2.2.2.2.1 e.2.2.2.2.2).bind _) else none) else none)=_
 rw [if_pos (by omega),if_pos (by omega),qu _ _ _ _ _ _ m1 hg.views (h3.mem _ (by omega)),Y]
 cases hq:(D4 (Az g (e.2.1-1).toNat) g.1 e.2.2.2.1 (g.2.2.2.length:Int) e.2.2.2.2.1 e.2.2.2.2.2).2.2.2 with
 | false=>rfl
 | true =>
  have hid:=hb.id hq
  have htl:=hb.tlen
  rw [if_neg (by simp),if_pos rfl]
  change (if 0<=e.2.1-1 then (if e.2.1-1<(g.2.1.length:Int) then _ else none) else none)=_
  rw [if_pos (by omega),if_pos (by omega)]
  dsimp only
  have:=Ju (D4 (Az g (e.2.1-1).toNat) g.1 e.2.2.2.1 (g.2.2.2.length:Int) e.2.2.2.2.1 e.2.2.2.2.2).2.1 (D4 (Az g (e.2.1-1).toNat) g.1 e.2.2.2.1 (g.2.2.2.length:Int) e.2.2.2.2.1 e.2.2.2.2.2).2.2.1 at_
   ((ID g at_ e).1,(ID g at_ e).2.1.set (e.2.1-1).toNat (D4 (Az g (e.2.1-1).toNat) g.1 e.2.2.2.1 (g.2.2.2.length:Int) e.2.2.2.2.1 e.2.2.2.2.2).1,(ID g at_ e).2.2.1,(ID g at_ e).2.2.2) (by show g.2.2.1.length+_<=_; omega) (by simp only [ID,List.length_append,List.length_cons,List.length_nil]; omega) hb.said h3c.calls
  rw [this,Y]
  unfold BT
  rw [hid,m2,show (((e.2.1-1).toNat:Int)+1-1).toNat=(e.2.1-1).toNat by omega]
  rfl)
theorem ABW {m:AE} {views:List (List Int)} {e:Int} (h:V1 views m):yO m views e=Ft m views e:=by
 unfold yO Ft
 split
 ·cases hb:m.2.2.2.1 with
  | false=>rfl
  | true =>
   have hv:=(h.view hb).2
   by_cases he:m.2.1=e-1
   ·rw [show (e-2).toNat=(m.2.1-1).toNat by omega,hv,show (m.2.1==e-1)=true by simpa using he]
    rfl
   ·rw [show (m.2.1==e-1)=false by simpa using he]
    rfl
 ·rfl
theorem bZ (at_:Int) (e:EX) (g:AS) (k:Nat) (hg:Iz g k) (hk:k<=1000) (h3:V3 g) (hn:1<=e.2.1/\e.2.1<=6):Lk e at_ g=some ((eH g at_ e.2.1).1==0,(eH g at_ e.2.1).2):=iT (by
 have hc:=hg.clen
 have hf:=hg.flen
 have h6:=hg.six
 have hvl:=hg.views.len
 obtain ⟨m1,m2⟩:=hg.mem (e.2.1-1).toNat (by omega)
 have hep:=m1.ep
 have h1:=h3.mem (e.2.1-1).toNat (by omega)
 unfold TN eH
 rw [Fu e.2.1 g hg hn,Y]
 change (if 0<=e.2.1-1 then (if e.2.1-1<(g.2.1.length:Int) then EK at_ (e.2.1-1) (IntKind.i64.wrap ((Az g (e.2.1-1).toNat).2.1+1)) g.1 g.2.1 g.2.2.1 g.2.2.2 e else none) else none)=_
 rw [if_pos (by omega),if_pos (by omega),Ae (by omega)]
 have key:∀ (n:Nat) (ep:Int),1<=ep->ep+(n:Int)=(g.1.length:Int)+1->EK at_ (e.2.1-1) ep g.1 g.2.1 g.2.2.1 g.2.2.2 e=some ((Jr g at_ (Az g (e.2.1-1).toNat) e.2.1 n ep).1==0,(Jr g at_ (Az g (e.2.1-1).toNat) e.2.1 n ep).2):=by
  intro n
  induction n with
  | zero =>
   intro ep h1 h2
   refine I6 ?_
   unfold GX
   rw [if_neg (by simp; omega)]
   rfl
  | succ n ih =>
   intro ep hp1 hp2
   refine I6 ?_
   unfold GX Jr
   have we:IntKind.i64.wrap (ep-1)=ep-1:=Ae (by omega)
   have g1:=hg.views.get (i:=(ep-1).toNat) (by omega)
   rw [if_pos (by simp; omega),we,if_pos (by omega),if_pos (by omega),if_pos (by omega),if_pos (by omega)]
   change (if ((g.1.getD (ep-1).toNat []).getD 0 0 != e.2.1)=true then _ else _)=_
   by_cases hq:((g.1.getD (ep-1).toNat []).getD 0 0 != e.2.1)=true
   ·rw [if_pos hq,if_pos hq,Ae (by omega)]
    exact ih (ep+1) (by omega) (by omega)
   ·rw [if_neg hq,if_neg hq,if_pos (by omega),if_pos (by omega)]
    change ((R3 (Az g (e.2.1-1).toNat) g.1 ep).bind _)=_
    rw [qv _ _ _ m1 hg.views,Y,ABW h1]
    cases hb:(Ft (Az g (e.2.1-1).toNat) g.1 ep).2.2 with
    | false=>rfl
    | true =>
     have ha:=XS (e:=ep) m1 hg.views hb
     have hal:=ha.2.2.2
     rw [if_pos rfl,if_pos rfl,if_pos (by omega),if_pos (by omega)]
     dsimp only
     have:=Ju (Ft (Az g (e.2.1-1).toNat) g.1 ep).2.1 [] at_ (g.1,g.2.1.set (e.2.1-1).toNat (Ft (Az g (e.2.1-1).toNat) g.1 ep).1,g.2.2.1,g.2.2.2) (by show g.2.2.1.length+_<=_; omega) (by show g.2.2.2.length<=_; omega) GU h3.calls
     rw [this,Y]
     unfold BT
     rw [ha.2.1,m2,show (((e.2.1-1).toNat:Int)+1-1).toNat=(e.2.1-1).toNat by omega]
     rfl
 by_cases hle:(Az g (e.2.1-1).toNat).2.1<=(g.1.length:Int)
 ·exact key _ _ (by omega) (by omega)
 ·have e0:((g.1.length:Int)-(Az g (e.2.1-1).toNat).2.1).toNat=0:=by omega
  rw [e0]
  refine I6 ?_
  unfold GX
  rw [if_neg (fun h=>hle (by have:=of_decide_eq_true h; omega))]
  rfl)
def Is (g:AS) (i:Nat) (at_:Int):AS:=BT (Fd g i)
 (D3 (Az g ((g.2.2.1.getD i DJ).2.2.1-1).toNat) g.1 (g.2.2.1.getD i DJ)).1 (D3 (Az g ((g.2.2.1.getD i DJ).2.2.1-1).toNat) g.1 (g.2.2.1.getD i DJ)).2.1 (D3 (Az g ((g.2.2.1.getD i DJ).2.2.1-1).toNat) g.1 (g.2.2.1.getD i DJ)).2.2 at_
theorem Mc (at_:Int) (i:Nat) (g:AS) (k:Nat) (hg:Iz g k) (hk:k<=10000) (h3:V3 g) (hi:i<g.2.2.1.length):Ew (i:Int) at_ g=some (Is g i at_):=dS (by
 have hc:=hg.clen
 have hf:=hg.flen
 have h6:=hg.six
 have hmem:g.2.2.1.getD i DJ∈g.2.2.1:=by rw [AW hi]; exact BZ _
 have hx:=hg.fly _ hmem
 have hv2:=h3.fly _ hmem
 unfold Po Is
 rw [if_pos (by omega),if_pos (by omega),AM (by omega)]
 change ((Bn g.2.2.1 (i:Int) ((i+1:Nat):Int)).bind fun y1=>((B6 (g.2.2.1.getD i DJ).2.2.1 (g.1,g.2.1,y1,g.2.2.2)).bind _))=_
 rw [Gd (by omega) (by omega),Y]
 have hto:=hx.to
 generalize hxx:g.2.2.1.getD i DJ=x at *
 obtain ⟨m1,m2⟩:=hg.mem (x.2.2.1-1).toNat (by omega)
 have hho:=P4 (x:=x) m1 hg.views
 have hil:=KT hx.items
 change ((B6 x.2.2.1 (Fd g i)).bind _)=_
 rw [Fu x.2.2.1 (Fd g i) (hg.less i) hto,Y]
 change (if decide (x.2.2.1-1>=0)=true then (if 0<=x.2.2.1-1 then (if x.2.2.1-1<(g.2.1.length:Int) then ((NM (Az g (x.2.2.1-1).toNat) g.1 (g.2.2.1.getD (i:Int).toNat DJ)).bind _) else none) else none) else _)=_
 rw [Aj,hxx,if_pos (by simp; omega),if_pos (by omega),if_pos (by omega),lw _ _ _ m1 hg.views (by omega),Y]
 have hhi:eL (Az g (x.2.2.1-1).toNat) g.1 x=D3 (Az g (x.2.2.1-1).toNat) g.1 x:=by
  unfold eL
  rw [if_pos (eo.2 hx),ACb hv2.inst]
 rw [hhi]
 change (if 0<=x.2.2.1-1 then (if x.2.2.1-1<(g.2.1.length:Int) then _ else none) else none)=_
 rw [if_pos (by omega),if_pos (by omega)]
 dsimp only
 have htl:=hho.tlen
 have:=Ju (D3 (Az g (x.2.2.1-1).toNat) g.1 x).2.1 (D3 (Az g (x.2.2.1-1).toNat) g.1 x).2.2 at_
  ((Fd g i).1,(Fd g i).2.1.set (x.2.2.1-1).toNat (D3 (Az g (x.2.2.1-1).toNat) g.1 x).1,(Fd g i).2.2.1,(Fd g i).2.2.2) (by
   have:(Fd g i).2.2.1.length<=g.2.2.1.length:=by simp only [Fd,List.length_append,List.length_take,List.length_drop]; omega
   show (Fd g i).2.2.1.length+_<=_; omega) (by show g.2.2.2.length<=_; omega) hho.said h3.calls
 rw [this,Y]
 unfold BT
 rw [hho.id,m2,show (((x.2.2.1-1).toNat:Int)+1-1).toNat=(x.2.2.1-1).toNat by omega])
theorem ba (at_:Int) (e:EX) (g:AS) (k:Nat) (hg:Iz g k) (hk:k<=1000) (h3:V3 g) (he:MA e=true):IR e at_ g=some ((uU g at_ e).1==0,(uU g at_ e).2):=iI (by
 have hn:=la he
 have h6:=hg.six
 have hf:=hg.flen
 unfold TH uU
 by_cases h1:e.1=1
 ·rw [if_pos (by simpa using h1),if_pos h1,bY at_ e g k hg hk h3 (by omega)]; rfl
 rw [if_neg (by simpa using h1),if_neg h1]
 by_cases h5:e.1=5
 ·rw [if_pos (by simpa using h5),if_pos h5,bZ at_ e g k hg hk h3 (by omega)]; rfl
 rw [if_neg (by simpa using h5),if_neg h5]
 by_cases h7:e.1=6
 ·obtain ⟨m1,m2⟩:=hg.mem (e.2.1-1).toNat (by omega)
  rw [if_pos (by simpa using h7),if_pos h7,Fu e.2.1 g hg (by omega),Y]
  change (if 0<=e.2.1-1 then (if e.2.1-1<(g.2.1.length:Int) then ((UY (Az g (e.2.1-1).toNat)).bind _) else none) else none)=_
  rw [if_pos (by omega),if_pos (by omega),vj,Y]
  change (if 0<=e.2.1-1 then (if e.2.1-1<(g.2.1.length:Int) then _ else none) else none)=_
  rw [if_pos (by omega),if_pos (by omega)]
  unfold BT
  have:((XT (Az g (e.2.1-1).toNat)).1-1).toNat=(e.2.1-1).toNat:=by
   show ((Az g (e.2.1-1).toNat).1-1).toNat=_
   rw [m2]; omega
  rw [this,List.append_nil]
  rfl
 rw [if_neg (by simpa using h7),if_neg h7]
 have hm:Jh e at_ g=some ((iq g at_ e).1==0,(iq g at_ e).2):=dY (by
  unfold Pp iq
  by_cases h0:g.2.2.1=[]
  ·rw [if_pos (by rw [h0]; rfl),if_pos h0]; rfl
  have hl:0<g.2.2.1.length:=by
   cases hq:g.2.2.1 with
   | nil=>exact absurd hq h0
   | cons a l=>simp
  have hem:Int.tmod e.2.2.1 (g.2.2.1.length:Int)=e.2.2.1 % (g.2.2.1.length:Int):=Int.tmod_eq_emod_of_nonneg (by omega)
  have hlt:(e.2.2.1 % (g.2.2.1.length:Int)).toNat<g.2.2.1.length:=by
   have h1:=Int.emod_lt_of_pos e.2.2.1 (show (0:Int)<(g.2.2.1.length:Int) by omega)
   have h2:=Int.emod_nonneg e.2.2.1 (show (g.2.2.1.length:Int)≠0 by omega)
   omega
  obtain ⟨i,hi⟩:∃ i:Nat,e.2.2.1 % (g.2.2.1.length:Int)=(i:Int):=⟨(e.2.2.1 % (g.2.2.1.length:Int)).toNat,by
   have h2:=Int.emod_nonneg e.2.2.1 (show (g.2.2.1.length:Int)≠0 by omega)
   omega⟩
  rw [if_neg (by simp only [beq_iff_eq]; omega),if_neg (by omega),if_neg h0,hem,hi]
  rw [hi,Aj] at hlt
  simp only [Aj]
  by_cases k2:e.1=2
  ·rw [if_pos (by simpa using k2),if_neg (by omega),if_neg (by omega),Mc at_ i g k hg (by omega) h3 hlt]
   rfl
  rw [if_neg (by simpa using k2)]
  by_cases k3:e.1=3
  ·rw [if_pos (by simpa using k3),if_neg (by omega),if_pos k3,AM (by omega),Gd (by omega) (by omega)]
   rfl
  have k4:e.1=4:=by omega
  have hmem:g.2.2.1.getD i DJ∈g.2.2.1:=by rw [AW hlt]; exact BZ _
  have hil:=KT (hg.fly _ hmem).items
  rw [if_neg (by simpa using k3),if_pos (by simpa using k4),if_pos k4,if_pos (by omega),if_pos (by omega)]
  change ((Hn (g.2.2.1.getD i DJ)).bind _)=_
  rw [N5 _ (by omega),Y,if_pos (by simp; omega)]
  rfl)
 rw [hm]
 rfl)
theorem ly {views:List (List Int)} {events:List EX} (hv:TV views) (hl:events.length<=70) (he:∀ e∈events,MA e=true) :
  QC views events=some ((Js 0 events (Ai views) []).1,(Js 0 events (Ai views) []).2,true):=pV (by
 have hg:=SA hv
 obtain ⟨r1,r2,r3⟩:=rI events 0 (Ai views) [] hg (by omega) he
 unfold Zo
 rw [lx hv,Y,if_pos (by rfl),if_neg (by simp; omega)]
 refine g_ ?_
 unfold Sp
 have codes:∀ (g:AS) (a:Int) (e:EX),MA e=true->(uU g a e).1=0\/(uU g a e).1=1:=by
  intro g a e he
  have hfa:∀ (m:AE) (nd:Int) (n:Nat) (ep:Int),(Jr g a m nd n ep).1=0\/(Jr g a m nd n ep).1=1:=by
   intro m nd n
   induction n with
   | zero=>intro ep; exact .inr rfl
   | succ n ih =>
    intro ep
    unfold Jr
    split
    ·exact ih _
    ·split
     ·exact .inl rfl
     ·exact .inr rfl
  unfold uU
  split
  ·unfold Ky; split
   ·exact .inl rfl
   ·exact .inr rfl
  ·split
   ·exact hfa _ _ _ _
   ·split
    ·exact .inl rfl
    ·unfold iq
     split
     ·exact .inr rfl
     ·split
      ·exact .inl rfl
      ·split
       ·exact .inl rfl
       ·exact .inl rfl
 have L3:∀ a b c d,GJ events (events.length:Int) ((0:Nat):Int) a b c d (Ai views).2.1 (Ai views).2.2.1 (Ai views).2.2.2 (Ai views).1 []=some ((Js 0 events (Ai views) []).1,(Js 0 events (Ai views) []).2,true):=by
  intro a b c d
  have key:=E3 (n:=events.length) (P:=fun i=>∀ (g:AS) (cs:List Int),Iz g i->V3 g->cs.length=i->Js i (events.drop i) g cs=Js 0 events (Ai views) []->GJ events (events.length:Int) (i:Int) a b c d g.2.1 g.2.2.1 g.2.2.2 g.1 cs=some ((Js 0 events (Ai views) []).1,(Js 0 events (Ai views) []).2,true)) (fun g cs hgi h3 hcs hr=>Sq (by
   unfold Ls
   rw [if_neg (by simp)]
   change ((C3 g).bind _)=_
   rw [HX g events.length hgi (by omega),Y]
   rw [List.drop_eq_nil_of_le (Nat.le_refl _)] at hr
   rw [<- hr]
   rfl)) (fun i hi ih g cs hgi h3 hcs hr=>Sq (by
   unfold Ls
   obtain ⟨d2,_⟩:=hgi.event (at_:=(i:Int)) (he _ (BZ hi))
   have hz:events.getD i ((0:Int),(0:Int),(0:Int),(0:Int),O,O)=events[i]:=AW hi
   simp only [show ((i:Int)<(events.length:Int)) from by omega,decide_true,if_true,show (0:Int)<=(i:Int) from by omega,Aj,hz,AM (show i<9223372036854775807 by omega)]
   change ((IR events[i] (i:Int) g).bind _)=_
   rw [ba (i:Int) events[i] g i hgi (by omega) h3 (he _ (BZ hi)),Y]
   have hcode:VO ((uU g (i:Int) events[i]).1==0)=some (uU g (i:Int) events[i]).1:=vR (by
    unfold gD
    rcases codes g (i:Int) events[i] (he _ (BZ hi)) with q | q<;>rw [q]<;>rfl)
   dsimp only
   rw [hcode,Y,if_pos (by simp; omega)]
   refine ih _ _ d2 (h3.event hgi (by omega) (he _ (BZ hi))) (by simp; omega) ?_
   rw [BL hi] at hr
   exact hr)) 0 (by omega) (Ai views) [] hg (V3.new hv) rfl rfl
  exact key
 have L1:∀ a b c d,GK events events (events.length:Int) ((0:Nat):Int) a b c d (Ai views).2.1 (Ai views).2.2.1 (Ai views).2.2.2 (Ai views).1=some ((Js 0 events (Ai views) []).1,(Js 0 events (Ai views) []).2,true):=by
  intro a b c d
  refine E3 (n:=events.length) (P:=fun i=>GK events events (events.length:Int) (i:Int) a b c d (Ai views).2.1 (Ai views).2.2.1 (Ai views).2.2.2 (Ai views).1=some ((Js 0 events (Ai views) []).1,(Js 0 events (Ai views) []).2,true)) (Sr (by
   unfold Lt
   rw [if_neg (by simp)]
   refine g9 ?_
   unfold So
   exact L3 _ _ _ _)) (fun i hi ih=>Sr (by
   unfold Lt
   have hz:events.getD i ((0:Int),(0:Int),(0:Int),(0:Int),O,O)=events[i]:=AW hi
   simp only [show ((i:Int)<(events.length:Int)) from by omega,decide_true,if_true,show (0:Int)<=(i:Int) from by omega,Aj,hz,AM (show i<9223372036854775807 by omega)]
   rw [lR,he _ (BZ hi),Y,if_neg (by simp)]
   exact ih)) 0 (by omega)
 exact L1 _ _ _ _)

structure PM where
 ep:Int
 fell:Bool
 base:Bool
 leads:Bool
 serves:Bool
 waits:List Int
 items:List AP
 cnt:Int
 op:Int
 call:Int
 num:Int
 ti:AP
 left:List Int
structure PX where
 kind:Int
 frm:Int
 to:Int
 ep:Int
 num:Int
 items:List AP
structure PC where
 op:Int
 key:ByteArray
 val:ByteArray
 wen:Int
 done:Int
 ver:Int
 ep:Int
 num:Int
 got:ByteArray
structure PG where
 mem:Int->PM
 fly:List PX
 calls:List PC
def PG.set (g:PG) (i:Int) (m:PM) (T:List PX):PG:={ g with mem:=fun j=>if j=i then m else g.mem j,fly:=g.fly++T }
def Cx (V:Int->List Int) (e:Int):Int:=(V e).getD 0 0
def PM.idle (m:PM) (e:Int) (b l:Bool) (its:List AP):PM:={ ep:=e,fell:=false,base:=b,leads:=l,serves:=false,waits:=[],items:=its,cnt:=0,op:=0,call:=0,num:=0,ti:=(O,O,0),left:=[] }
inductive Cy (V:Int->List Int) (nv:Int) (g:PG) (i:Int):PM->List PX->Prop
 | closes (x:PX) (hx:x∈g.fly) (h1:x.ep=(g.mem i).ep+1) (h2:(g.mem i).base=true) (h3:x.ep<=nv):Cy V nv g i ((g.mem i).idle x.ep false false (g.mem i).items) [⟨2,i,x.frm,x.ep,0,(g.mem i).items⟩]
 | stat (x:PX) (hx:x∈g.fly) (h1:x.kind=2) (h2:x.ep=(g.mem i).ep) (h3:(g.mem i).leads=true) (h4:(g.mem i).base=false) (W:List Int) (hw:∀ k,k∈W↔k∈V x.ep/\k≠i) (T:List PX) (hT:∀ y∈T,y.kind=3/\y.ep=x.ep/\y.items=x.items/\y.frm=i) :
   Cy V nv g i { g.mem i with base:=true,items:=x.items,waits:=W,serves:=W.isEmpty } T
 | inst (x:PX) (hx:x∈g.fly) (h1:x.kind=3) (h2:(g.mem i).ep<x.ep\/(g.mem i).ep=x.ep/\(g.mem i).base=false/\(g.mem i).fell=false) (h3:i∈V x.ep) (h4:Cx V x.ep≠i) (h5:x.ep<=nv) :
   Cy V nv g i ((g.mem i).idle x.ep true false x.items) [⟨4,i,x.frm,x.ep,x.num,[]⟩]
 | again (x:PX) (hx:x∈g.fly) (h1:x.kind=3) (h2:(g.mem i).ep=x.ep) (h3:(g.mem i).base=true):Cy V nv g i (g.mem i) [⟨4,i,x.frm,x.ep,x.num,[]⟩]
 | told (x:PX) (hx:x∈g.fly) (h1:x.kind=4) (h2:(g.mem i).ep=x.ep) (h3:(g.mem i).leads=true) :
   Cy V nv g i { g.mem i with waits:=(g.mem i).waits.filter (· != x.frm),serves:=(g.mem i).base&&((g.mem i).waits.filter (· != x.frm)).isEmpty } []
 | store (x:PX) (hx:x∈g.fly) (h1:x.kind=5) (h2:(g.mem i).ep=x.ep) (h3:(g.mem i).base=true) (h4:i≠Cx V x.ep) (a:AP) (h5:x.items=[a]) :
   Cy V nv g i { g.mem i with items:=Aq (g.mem i).items a } [⟨6,i,x.frm,x.ep,x.num,[]⟩]
 | sure (x:PX) (hx:x∈g.fly) (h1:x.kind=7) (h2:(g.mem i).ep=x.ep) (h3:(g.mem i).base=true):Cy V nv g i (g.mem i) [⟨8,i,x.frm,x.ep,x.num,[]⟩]
 | less (x:PX) (hx:x∈g.fly) (h1:(g.mem i).op=1/\x.kind=6\/(g.mem i).op=2/\x.kind=8) (h2:(g.mem i).ep=x.ep) (h3:(g.mem i).num=x.num):Cy V nv g i { g.mem i with left:=(g.mem i).left.filter (· != x.frm) } []
 | had (e:Int) (h1:e=(g.mem i).ep+1) (h2:(g.mem i).base=true) (h3:Cx V e=i) (h4:e<=nv) (W:List Int) (hw:∀ k,k∈W↔k∈V e/\k≠i) (T:List PX) (hT:∀ y∈T,y.kind=3/\y.ep=e/\y.items=(g.mem i).items/\y.frm=i) :
   Cy V nv g i { (g.mem i).idle e true true (g.mem i).items with waits:=W,serves:=W.isEmpty } T
 | took (e:Int) (h1:(g.mem i).ep<e) (h3:Cx V e=i) (h4:e<=nv) (T:List PX) (hT:∀ y∈T,y.kind=1/\y.ep=e/\y.items=[]):Cy V nv g i ((g.mem i).idle e false true (g.mem i).items) T
 | fall:Cy V nv g i { (g.mem i).idle (g.mem i).ep false false [] with fell:=true } []
def XV (g:PG) (k e:Int):Prop:=e<(g.mem k).ep\/((g.mem k).ep=e/\((g.mem k).base=true\/(g.mem k).fell=true))
theorem Cy.ep {V nv g i m T} (h:Cy V nv g i m T):(g.mem i).ep<=m.ep:=by
 cases h<;>simp_all [PM.idle]<;>grind
theorem XV.step {V nv g i m T k e} (h:Cy V nv g i m T) (hb:XV g k e):XV (g.set i m T) k e:=by
 unfold XV PG.set at *
 cases h<;>simp_all [PM.idle]<;>grind
def Ca (V:Int->List Int) (g:PG) (e:Int):Prop:=∀ d,1<=d->d<e->∃ j∈V d,d<(g.mem j).ep
theorem rK {V nv g i m T} (h:Cy V nv g i m T) (j:Int):(g.mem j).ep<=((g.set i m T).mem j).ep:=by
 have:=h.ep
 simp only [PG.set]
 split
 ·rename_i e; subst e; exact this
 ·exact Int.le_refl _
theorem Ca.mono {V g g' e} (h:Ca V g e) (hm:∀ j,(g.mem j).ep<=(g'.mem j).ep):Ca V g' e:=fun d h1 h2=>by
 obtain ⟨j,hj,h3⟩:=h d h1 h2
 exact ⟨j,hj,by have:=hm j; omega⟩
theorem Ca.next {V g e j} (h:Ca V g e) (hj:j∈V e) (hl:e<(g.mem j).ep):Ca V g (e+1):=fun d h1 h2=>by
 by_cases q:d=e
 ·subst q; exact ⟨j,hj,hl⟩
 ·exact h d h1 (by omega)
structure IA (V:Int->List Int) (nv:Int) (g:PG):Prop where
 pos:∀ i,1<=(g.mem i).ep
 lead:∀ i,(g.mem i).leads=true->(g.mem i).ep<=nv/\Cx V (g.mem i).ep=i
 view:∀ i,(g.mem i).base=true->(g.mem i).ep<=nv/\i∈V (g.mem i).ep
 serv:∀ i,(g.mem i).serves=true->(g.mem i).base=true/\(g.mem i).leads=true/\(g.mem i).waits=[]
 task:∀ i,(g.mem i).op≠0->(g.mem i).serves=true/\((g.mem i).op=1\/(g.mem i).op=2)/\(g.mem i).num=(g.mem i).cnt
 cnt:∀ i,0<=(g.mem i).cnt
 fell:∀ i,(g.mem i).fell=true->(g.mem i).base=false/\(g.mem i).leads=false
theorem IA.step {V nv g i m T} (h:IA V nv g) (hv:∀ e,1<=e->e<=nv->Cx V e∈V e) (hs:Cy V nv g i m T):IA V nv (g.set i m T):=by
 obtain ⟨a1,a2,a3,a4,a5,a6,a7⟩:=h
 have b1:=a1 i; have b2:=a2 i; have b3:=a3 i; have b4:=a4 i; have b5:=a5 i; have b6:=a6 i; have b7:=a7 i
 have key:1<=m.ep/\(m.leads=true->m.ep<=nv/\Cx V m.ep=i)/\(m.base=true->m.ep<=nv/\i∈V m.ep)/\(m.serves=true->m.base=true/\m.leads=true/\m.waits=[])/\(m.op≠0->m.serves=true/\(m.op=1\/m.op=2)/\m.num=m.cnt)/\0<=m.cnt/\(m.fell=true->m.base=false/\m.leads=false):=by
  cases hs<;>simp_all [PM.idle]<;>grind
 refine ⟨fun j=>?_,fun j=>?_,fun j=>?_,fun j=>?_,fun j=>?_,fun j=>?_,fun j=>?_⟩<;>simp only [PG.set]<;>split<;>grind
structure IB (V:Int->List Int) (g:PG):Prop where
 mem:∀ i,(g.mem i).base=true->Ca V g (g.mem i).ep
 fly:∀ x∈g.fly,x.kind=2\/x.kind=3->Ca V g x.ep
theorem IB.step {V nv g i m T} (h:IB V g) (ha:IA V nv g) (hv:∀ e,1<=e->e<=nv->Cx V e∈V e) (hs:Cy V nv g i m T):IB V (g.set i m T):=by
 have hm:=rK hs
 have mono:∀ e,Ca V g e->Ca V (g.set i m T) e:=fun e h=>h.mono hm
 have next:∀ e,Ca V g e->i∈V e->e<m.ep->Ca V (g.set i m T) (e+1):=fun e h h1 h2=>(mono e h).next h1 (by simp [PG.set]; exact h2)
 have b:=h.mem i
 have v:=ha.view i
 have f:=h.fly
 have k1:m.base=true->Ca V (g.set i m T) m.ep:=by
  generalize g.set i m T=g' at *
  cases hs<;>simp_all [PM.idle]<;>grind
 have k2:∀ y∈T,y.kind=2\/y.kind=3->Ca V (g.set i m T) y.ep:=by
  generalize g.set i m T=g' at *
  cases hs<;>simp_all [PM.idle]<;>grind
 refine ⟨fun j=>?_,fun y hy hk=>?_⟩
 ·show ((if j=i then m else g.mem j).base=true->Ca V _ (if j=i then m else g.mem j).ep)
  split
  ·exact k1
  ·exact fun hb=>mono _ (h.mem j hb)
 ·rcases As.1 hy with e | e
  ·exact mono _ (h.fly y e hk)
  ·exact k2 y e hk
def KX (g:PG) (i:Int):Prop:=∃ j∈(g.mem i).left,(g.mem i).ep<(g.mem j).ep/\∀ x∈g.fly,((g.mem i).op=1/\x.kind=6\/(g.mem i).op=2/\x.kind=8)->x.frm=j->x.ep=(g.mem i).ep->x.num≠(g.mem i).num
structure IT (V:Int->List Int) (g:PG) (vr:Nat->Int) (now:Int):Prop where
 st:∀ k,vr k≠0->∃ e n,vr k=1000*e+n/\1<=e/\1<=n/\n<=900/\e<=(g.mem (Cx V e)).ep/\((g.mem (Cx V e)).ep=e->(g.mem (Cx V e)).leads=true->(g.mem (Cx V e)).base=true/\n<=(g.mem (Cx V e)).cnt)
 inj:∀ k l,vr k≠0->vr k=vr l->k=l
 out:∀ k,g.calls.length<=k->vr k=0
 act:∀ i,(g.mem i).op≠0->∃ (k:Nat) (c:PC),(g.mem i).call=(k:Int)/\g.calls[k]? = some c/\vr k=1000*(g.mem i).ep+(g.mem i).num/\c.done<0/\c.op=(g.mem i).op/\c.key=(g.mem i).ti.1/\c.val=(g.mem i).ti.2.1/\(g.mem i).ti.2.2=vr k/\1<=(g.mem i).num/\(g.mem i).num<=900
 dn:∀ (k:Nat) c,g.calls[k]? = some c->0<=c.done->vr k=1000*c.ep+c.num/\1<=c.ep/\1<=c.num/\c.num<=900/\Ca V g c.ep/\c.done<=now/\c.wen<=c.done
 wn:∀ (k:Nat) c,g.calls[k]? = some c->c.wen<=now
 fl:∀ x∈g.fly,5<=x.kind->x.kind<=8->x.ep<=(g.mem (Cx V x.ep)).ep/\((g.mem (Cx V x.ep)).ep=x.ep->(g.mem (Cx V x.ep)).leads=true->x.num<=(g.mem (Cx V x.ep)).cnt)
 tm:∀ i,(g.mem i).op≠0->∀ (k l:Nat) c a,(g.mem i).call=(k:Int)->g.calls[k]? = some c->g.calls[l]? = some a->0<=a.done->a.done<c.wen->a.ep<=(g.mem i).ep\/KX g i
 or:∀ (k l:Nat) a b,g.calls[k]? = some a->g.calls[l]? = some b->0<=a.done->0<=b.done->a.done<b.wen->vr k<vr l
theorem Cy.task {V nv g i m T} (h:Cy V nv g i m T):m.op≠0->m.ep=(g.mem i).ep/\m.op=(g.mem i).op/\m.call=(g.mem i).call/\m.num=(g.mem i).num/\m.ti=(g.mem i).ti/\m.cnt=(g.mem i).cnt:=by
 cases h<;>simp_all [PM.idle]
theorem Cy.lead {V nv g i m T} (h:Cy V nv g i m T):m.ep=(g.mem i).ep->m.leads=true->(g.mem i).leads=true/\m.cnt=(g.mem i).cnt/\((g.mem i).base=true->m.base=true):=by
 cases h<;>simp_all [PM.idle]<;>grind
theorem Cy.new {V nv g i m T} (h:Cy V nv g i m T):m.ep≠(g.mem i).ep->m.cnt=0/\m.op=0:=by
 cases h<;>simp_all [PM.idle]<;>grind
theorem Cy.talk {V nv g i m T} (h:Cy V nv g i m T):∀ y∈T,5<=y.kind->(y.kind=6\/y.kind=8)/\y.frm=i/\y.ep=(g.mem i).ep/\∃ x∈g.fly,5<=x.kind/\x.kind<=8/\x.ep=y.ep/\x.num=y.num:=by
 cases h<;>simp_all [PM.idle]<;>grind
theorem KX.step {V nv g i m T j} (h:Cy V nv g i m T) (hb:KX g j) (ho:((g.set i m T).mem j).op≠0):KX (g.set i m T) j:=by
 obtain ⟨k,hk,h1,h2⟩:=hb
 have hm:=rK h
 have ht:=h.task
 have hta:=h.talk
 have hl:i=j->k∈m.left:=by
  intro e; subst e
  simp only [PG.set,if_true] at ho
  cases h<;>simp_all [PM.idle]<;>grind
 have hep:((g.set i m T).mem j).ep=(g.mem j).ep/\((g.set i m T).mem j).num=(g.mem j).num/\k∈((g.set i m T).mem j).left/\((g.set i m T).mem j).op=(g.mem j).op:=by
  simp only [PG.set] at ho ⊢
  grind
 refine ⟨k,hep.2.2.1,?_,fun x hx hk6 hf he=>?_⟩
 ·rw [hep.1]; have:=hm k; omega
 ·rw [hep.2.1]
  rw [hep.1] at he
  rw [hep.2.2.2] at hk6
  rcases As.1 hx with e | e
  ·exact h2 x e hk6 hf he
  ·have:=hta x e (by omega)
   grind
theorem IT.mstep {V nv g i m T vr now} (h:IT V g vr now) (ha:IA V nv g) (hs:Cy V nv g i m T):IT V (g.set i m T) vr now:=by
 have hm:=rK hs
 have ht:=hs.task
 have hl:=hs.lead
 have hn:=hs.new
 have hta:=hs.talk
 have hstk:=fun j=>KX.step (j:=j) hs
 have mono:∀ e,Ca V g e->Ca V (g.set i m T) e:=fun e h=>h.mono hm
 have hmem:∀ j,(g.set i m T).mem j=if j=i then m else g.mem j:=fun _=>rfl
 have hfly:(g.set i m T).fly=g.fly++T:=rfl
 have hc:(g.set i m T).calls=g.calls:=rfl
 have hep:=hs.ep
 generalize g.set i m T=g' at *
 obtain ⟨c1,c2,c3,c4,c5,c6,c7,c8,c9⟩:=h
 have hlead:=ha.lead
 refine ⟨?_,c2,by rw [hc]; exact c3,?_,?_,by rw [hc]; exact c6,?_,?_,by rw [hc]; exact c9⟩
 ·intro k hk
  obtain ⟨e,n,d⟩:=c1 k hk
  refine ⟨e,n,?_⟩
  simp only [hmem]
  grind
 ·simp only [hmem,hc]
  grind
 ·rw [hc]
  grind
 ·intro x hx h5 h8
  rw [hfly] at hx
  simp only [hmem]
  grind
 ·intro j ho k l c a
  have:=c8 j
  have:=hstk j
  simp only [hmem,hc] at *
  grind
theorem KX.less {g:PG} {f:List PX} {i:Int} (h:∀ x∈f,x∈g.fly) (hb:KX g i):KX { g with fly:=f } i:=by
 obtain ⟨j,h1,h2,h3⟩:=hb
 exact ⟨j,h1,h2,fun x hx=>h3 x (h x hx)⟩
theorem IT.later {V g vr n n'} (h:IT V g vr n) (hn:n<=n'):IT V g vr n':=by
 obtain ⟨c1,c2,c3,c4,c5,c6,c7,c8,c9⟩:=h
 exact ⟨c1,c2,c3,c4,by grind,by grind,c7,c8,c9⟩
theorem IT.drop {V g vr now f} (h:IT V g vr now) (hf:∀ x∈f,x∈g.fly):IT V { g with fly:=f } vr now:=by
 have hs:=fun i=>KX.less (i:=i) hf
 obtain ⟨c1,c2,c3,c4,c5,c6,c7,c8,c9⟩:=h
 refine ⟨c1,c2,c3,c4,c5,c6,fun x hx=>c7 x (hf x hx),?_,c9⟩
 intro i ho k l c a h1 h2 h3 h4 h5
 exact (c8 i ho k l c a h1 h2 h3 h4 h5).imp id (hs i)
theorem IT.call {V g vr now} {c:PC} (h:IT V g vr now) (h1:c.done=-1) (h2:c.wen=now):IT V { g with calls:=g.calls++[c] } vr now:=by
 obtain ⟨c1,c2,c3,c4,c5,c6,c7,c8,c9⟩:=h
 have hg:∀ (k:Nat) d,(g.calls++[c])[k]? = some d->g.calls[k]? = some d\/(k=g.calls.length/\d=c):=by grind
 have hg2:∀ (k:Nat) d,g.calls[k]? = some d->(g.calls++[c])[k]? = some d:=by grind
 have hst:∀ i,KX g i->KX { g with calls:=g.calls++[c] } i:=fun i h=>h
 refine ⟨c1,c2,?_,?_,?_,?_,c7,?_,?_⟩
 ·grind
 ·intro i ho
  obtain ⟨k,d,q1,q2,q3⟩:=c4 i ho
  exact ⟨k,d,q1,hg2 k d q2,q3⟩
 ·intro k d hk hd
  rcases hg k d hk with e | ⟨e,e2⟩
  ·exact c5 k d e hd
  ·subst e2; omega
 ·intro k d hk
  rcases hg k d hk with e | ⟨e,e2⟩
  ·exact c6 k d e
  ·subst e2; omega
 ·intro i ho k l d a q1 q2 q3 q4 q5
  obtain ⟨k',d',r1,r2,_⟩:=c4 i ho
  have:k'=k:=by simp only at q1; omega
  subst this
  have q2':=hg2 k' d' r2
  simp only at q2
  rw [q2'] at q2
  cases q2
  rcases hg l a q3 with e | ⟨e,e2⟩
  ·exact (c8 i ho _ l _ a q1 r2 e q4 q5).imp id (hst i)
  ·subst e2; omega
 ·intro k l a b q1 q2 q3 q4 q5
  rcases hg k a q1 with e | ⟨e,e2⟩
  ·rcases hg l b q2 with f | ⟨f,f2⟩
   ·exact c9 k l a b e f q3 q4 q5
   ·subst f2; omega
  ·subst e2; omega
def Qt (g:PG) (i:Int) (c:PC) (L:List Int) (a:AP):PM:={ g.mem i with cnt:=(g.mem i).cnt+1,op:=c.op,call:=(g.calls.length:Int),num:=(g.mem i).cnt+1,ti:=a,left:=L }
theorem IT.start {V nv g vr now} {i:Int} {c:PC} {L:List Int} {a:AP} {T:List PX} (h:IT V g vr now) (hia:IA V nv g) (hib:IB V g) (h1:c.done=-1) (h2:c.wen=now) (h3:(g.mem i).serves=true) (h4:(g.mem i).op=0) (h5:c.op=1\/c.op=2) (h6:(g.mem i).cnt<900) (hL:∀ k,k∈L↔k∈V (g.mem i).ep/\k≠i) (hA:a=(c.key,c.val,1000*(g.mem i).ep+((g.mem i).cnt+1)))
  (hT:∀ y∈T,(y.kind=5/\c.op=1/\y.items=[a]\/y.kind=7/\c.op=2)/\y.ep=(g.mem i).ep/\y.num=(g.mem i).cnt+1/\y.frm=i) :
  IT V { (g.set i (Qt g i c L a) T) with calls:=g.calls++[c] } (fun k=>if k=g.calls.length then 1000*(g.mem i).ep+((g.mem i).cnt+1) else vr k) now:=by
 obtain ⟨c1,c2,c3,c4,c5,c6,c7,c8,c9⟩:=h
 have hg:∀ (k:Nat) d,(g.calls++[c])[k]? = some d->g.calls[k]? = some d/\k<g.calls.length\/(k=g.calls.length/\d=c):=by grind
 have hg2:∀ (k:Nat) d,g.calls[k]? = some d->(g.calls++[c])[k]? = some d/\k<g.calls.length:=by grind
 obtain ⟨s1,s2,s3⟩:=hia.serv i h3
 obtain ⟨l1,l2⟩:=hia.lead i s2
 have hpos:=hia.pos i
 have hcnt:=hia.cnt i
 have hz:vr g.calls.length=0:=c3 _ (Nat.le_refl _)
 generalize hq:({ (g.set i (Qt g i c L a) T) with calls:=g.calls++[c] }:PG)=g'
 have hmem:∀ j,g'.mem j=if j=i then Qt g i c L a else g.mem j:=by subst hq; intro j; rfl
 have hfly:g'.fly=g.fly++T:=by subst hq; rfl
 have hcal:g'.calls=g.calls++[c]:=by subst hq; rfl
 have hep:∀ j,(g'.mem j).ep=(g.mem j).ep/\(g'.mem j).leads=(g.mem j).leads/\(g'.mem j).base=(g.mem j).base/\(g.mem j).cnt<=(g'.mem j).cnt:=by
  intro j; rw [hmem]; split
  ·rename_i e; subst e; exact ⟨rfl,rfl,rfl,by simp only [Qt]; omega⟩
  ·exact ⟨rfl,rfl,rfl,Int.le_refl _⟩
 have hi:(g'.mem i).cnt=(g.mem i).cnt+1/\(g'.mem i).op=c.op/\(g'.mem i).call=(g.calls.length:Int)/\(g'.mem i).num=(g.mem i).cnt+1/\(g'.mem i).ti=a/\(g'.mem i).left=L:=by rw [hmem,if_pos rfl]; exact ⟨rfl,rfl,rfl,rfl,rfl,rfl⟩
 have hj:∀ j,j≠i->g'.mem j=g.mem j:=fun j e=>by rw [hmem,if_neg e]
 have rmono:∀ e,Ca V g e->Ca V g' e:=fun e h=>h.mono fun j=>by rw [(hep j).1]; exact Int.le_refl _
 have stuck:∀ e,Ca V g e->(g.mem i).ep<e->KX g' i:=fun e hr he=>by
  obtain ⟨j,hjv,hjl⟩:=hr (g.mem i).ep hpos he
  have hne:j≠i:=fun e=>by subst e; omega
  refine ⟨j,by rw [hi.2.2.2.2.2]; exact (hL j).2 ⟨hjv,hne⟩,by rw [(hep i).1,(hep j).1]; exact hjl,fun x hx hk hf hxe=>?_⟩
  rw [(hep i).1] at hxe
  rw [hi.2.2.2.1]
  rw [hfly] at hx
  rcases As.1 hx with q | q
  ·have:=c7 x q (by omega) (by omega)
   rw [hxe,l2] at this
   have:=this.2 rfl s2
   omega
  ·have:=hT x q
   omega
 refine ⟨?_,?_,?_,?_,?_,?_,?_,?_,?_⟩
 ·intro k hk
  by_cases e:k=g.calls.length
  ·subst e
   simp only [if_true]
   refine ⟨(g.mem i).ep,(g.mem i).cnt+1,rfl,hpos,by omega,by omega,?_,fun _ _=>?_⟩
   ·rw [(hep _).1,l2]; exact Int.le_refl _
   ·rw [l2,hi.1,(hep i).2.2.1]; exact ⟨s1,Int.le_refl _⟩
  ·simp only [if_neg e] at hk ⊢
   obtain ⟨e,n,d1,d2,d3,d4,d5,d6⟩:=c1 k hk
   refine ⟨e,n,d1,d2,d3,d4,by rw [(hep _).1]; exact d5,fun q1 q2=>?_⟩
   obtain ⟨p1,p2,p3,p4⟩:=hep (Cx V e)
   rw [p1] at q1; rw [p2] at q2
   have:=d6 q1 q2
   exact ⟨by rw [p3]; exact this.1,by omega⟩
 ·have hdist:∀ k,k≠g.calls.length->vr k≠1000*(g.mem i).ep+((g.mem i).cnt+1):=fun k hk e=>by
   obtain ⟨e',n,d1,d2,d3,d4,d5,d6⟩:=c1 k (by omega)
   have:e'=(g.mem i).ep:=by omega
   subst this
   rw [l2] at d6
   have:=d6 rfl s2
   omega
  intro k l hk hkl
  by_cases e:k=g.calls.length
  ·by_cases f:l=g.calls.length
   ·omega
   ·rw [if_pos e,if_neg f] at hkl
    exact absurd hkl.symm (hdist l f)
  ·rw [if_neg e] at hk hkl
   by_cases f:l=g.calls.length
   ·rw [if_pos f] at hkl
    exact absurd hkl (hdist k e)
   ·rw [if_neg f] at hkl
    exact c2 k l hk hkl
 ·intro k hk
  rw [hcal] at hk
  simp only [List.length_append,List.length_cons,List.length_nil] at hk
  rw [if_neg (by omega)]
  exact c3 k (by omega)
 ·intro j ho
  by_cases e:j=i
  ·subst e
   refine ⟨g.calls.length,c,hi.2.2.1,by rw [hcal]; simp,?_,by omega,hi.2.1.symm,?_⟩
   ·rw [if_pos rfl,(hep _).1,hi.2.2.2.1]
   ·rw [hi.2.2.2.2.1,hi.2.2.2.1,if_pos rfl,hA]
    exact ⟨rfl,rfl,rfl,by omega,by omega⟩
  ·rw [hj j e] at ho ⊢
   obtain ⟨k,d,q1,q2,q3⟩:=c4 j ho
   have:=hg2 k d q2
   exact ⟨k,d,q1,by rw [hcal]; exact this.1,by rw [if_neg (by omega)]; exact q3⟩
 ·intro k d hk hd
  rw [hcal] at hk
  rcases hg k d hk with ⟨e,e1⟩ | ⟨e,e2⟩
  ·obtain ⟨d1,d2,d3,d4,d5,d6,d7⟩:=c5 k d e hd
   exact ⟨by rw [if_neg (by omega)]; exact d1,d2,d3,d4,rmono _ d5,d6,d7⟩
  ·subst e2; omega
 ·intro k d hk
  rw [hcal] at hk
  rcases hg k d hk with ⟨e,e1⟩ | ⟨e,e2⟩
  ·exact c6 k d e
  ·subst e2; omega
 ·intro x hx h5 h8
  rw [hfly] at hx
  obtain ⟨p1,p2,p3,p4⟩:=hep (Cx V x.ep)
  rcases As.1 hx with q | q
  ·have:=c7 x q h5 h8
   rw [p1,p2]
   exact ⟨this.1,fun q1 q2=>Int.le_trans (this.2 q1 q2) p4⟩
  ·obtain ⟨_,q2,q3,_⟩:=hT x q
   rw [q2,l2,(hep i).1,q3,hi.1]
   exact ⟨Int.le_refl _,fun _ _=>Int.le_refl _⟩
 ·intro j ho k l d b q1 q2 q3 q4 q5
  rw [hcal] at q2 q3
  rcases hg l b q3 with ⟨e,e1⟩ | ⟨e,e2⟩
  ·by_cases hji:j=i
   ·subst hji
    rw [(hep j).1]
    by_cases hle:b.ep<=(g.mem j).ep
    ·exact .inl hle
    ·exact .inr (stuck b.ep (c5 l b e q4).2.2.2.2.1 (by omega))
   ·rw [hj j hji] at ho q1 ⊢
    obtain ⟨k',d',r1,r2,_⟩:=c4 j ho
    have:k'=k:=by omega
    subst this
    have:=hg2 k' d' r2
    rw [this.1] at q2
    cases q2
    rcases c8 j ho _ l _ b q1 r2 e q4 q5 with r | ⟨w,w1,w2,w3⟩
    ·exact .inl r
    ·right
     refine ⟨w,by rw [hj j hji]; exact w1,by rw [hj j hji,(hep w).1]; exact w2,fun x hx=>?_⟩
     rw [hj j hji]
     rw [hfly] at hx
     rcases As.1 hx with q | q
     ·exact w3 x q
     ·have:=hT x q
      intro hk; omega
  ·subst e2; omega
 ·intro k l b d q1 q2 q3 q4 q5
  rw [hcal] at q1 q2
  rcases hg k b q1 with ⟨e,e1⟩ | ⟨e,e2⟩
  ·rcases hg l d q2 with ⟨f,f1⟩ | ⟨f,f2⟩
   ·rw [if_neg (by omega),if_neg (by omega)]
    exact c9 k l b d e f q3 q4 q5
   ·subst f2; omega
  ·subst e2; omega
def YO (m:PM):PM:={ m with items:=if m.op=1 then Aq m.items m.ti else m.items,op:=0,call:=0,num:=0,ti:=(O,O,0),left:=[] }
def vk (m:PM):AP:=if m.op=1 then m.ti else BR m.items m.ti.1
def R7 (m:PM) (c:PC) (now:Int):PC:={ c with done:=now,ver:=(vk m).2.2,ep:=m.ep,num:=m.num,got:=if c.op=2 then (vk m).2.1 else c.got }
theorem IT.fin {V nv g vr now} {i:Int} {k:Nat} {c:PC} (h:IT V g vr now) (hia:IA V nv g) (hib:IB V g) (ho:(g.mem i).op≠0) (hl:(g.mem i).left=[]) (hc:(g.mem i).call=(k:Int)) (hk:g.calls[k]? = some c) :
  IT V { (g.set i (YO (g.mem i)) []) with calls:=g.calls.set k (R7 (g.mem i) c now) } vr now:=by
 obtain ⟨c1,c2,c3,c4,c5,c6,c7,c8,c9⟩:=h
 obtain ⟨t1,t2,t3⟩:=hia.task i ho
 obtain ⟨s1,s2,s3⟩:=hia.serv i t1
 obtain ⟨l1,l2⟩:=hia.lead i s2
 have hpos:=hia.pos i
 obtain ⟨k0,d0,r1,r2,r3,r4,r5,r6,r7,r8,r9,r10⟩:=c4 i ho
 have hk0:k0=k:=by omega
 subst hk0
 rw [hk] at r2
 cases r2
 have hkl:k0<g.calls.length:=(Aw.1 hk).1
 have hcal0:∀ (l:Nat) d,(g.calls.set k0 (R7 (g.mem i) c now))[l]? = some d->(l=k0/\d=R7 (g.mem i) c now)\/(l≠k0/\g.calls[l]? = some d):=by
  intro l d hd
  by_cases e:l=k0
  ·subst e
   rw [List.getElem?_set_self hkl] at hd
   exact .inl ⟨rfl,by cases hd; rfl⟩
  ·rw [List.getElem?_set_ne (Ne.symm e)] at hd
   exact .inr ⟨e,hd⟩
 have hcal1:∀ (l:Nat) d,l≠k0->g.calls[l]? = some d->(g.calls.set k0 (R7 (g.mem i) c now))[l]? = some d:=by
  intro l d hne hd
  rw [List.getElem?_set_ne (Ne.symm hne)]
  exact hd
 generalize hq:({ (g.set i (YO (g.mem i)) []) with calls:=g.calls.set k0 (R7 (g.mem i) c now) }:PG)=g'
 have hmem:∀ j,g'.mem j=if j=i then YO (g.mem i) else g.mem j:=by subst hq; intro j; rfl
 have hfly:g'.fly=g.fly:=by subst hq; exact List.append_nil _
 have hcal:g'.calls=g.calls.set k0 (R7 (g.mem i) c now):=by subst hq; rfl
 have hep:∀ j,(g'.mem j).ep=(g.mem j).ep/\(g'.mem j).leads=(g.mem j).leads/\(g'.mem j).base=(g.mem j).base/\(g.mem j).cnt=(g'.mem j).cnt:=by
  intro j; rw [hmem]; split
  ·rename_i e; subst e; exact ⟨rfl,rfl,rfl,rfl⟩
  ·exact ⟨rfl,rfl,rfl,rfl⟩
 have hj:∀ j,j≠i->g'.mem j=g.mem j:=fun j e=>by rw [hmem,if_neg e]
 have hi0:(g'.mem i).op=0:=by rw [hmem,if_pos rfl]; rfl
 have rmono:∀ e,Ca V g e->Ca V g' e:=fun e h=>h.mono fun j=>by rw [(hep j).1]; exact Int.le_refl _
 have hact:∀ j,j≠i->(g.mem j).op≠0->∀ (l:Nat),(g.mem j).call=(l:Int)->l≠k0:=fun j hji hoj l hl e=>by
  subst e
  obtain ⟨u1,u2,u3⟩:=hia.task j hoj
  obtain ⟨v1,v2,v3⟩:=hia.serv j u1
  obtain ⟨w1,w2⟩:=hia.lead j v2
  obtain ⟨k',d',q1,q2,q3,q4,q5,q6,q7,q8,q9,q10⟩:=c4 j hoj
  have:k'=l:=by omega
  subst this
  have:(g.mem j).ep=(g.mem i).ep:=by omega
  rw [this,l2] at w2
  exact hji w2.symm
 refine ⟨?_,c2,?_,?_,?_,?_,?_,?_,?_⟩
 ·intro l hl0
  obtain ⟨e,n,d1,d2,d3,d4,d5,d6⟩:=c1 l hl0
  obtain ⟨p1,p2,p3,p4⟩:=hep (Cx V e)
  exact ⟨e,n,d1,d2,d3,d4,by rw [p1]; exact d5,fun q1 q2=>by rw [p3,<- p4]; exact d6 (by rw [<- p1]; exact q1) (by rw [<- p2]; exact q2)⟩
 ·intro l hl0
  rw [hcal,List.length_set] at hl0
  exact c3 l hl0
 ·intro j hoj
  by_cases e:j=i
  ·subst e; exact absurd hi0 hoj
  ·rw [hj j e] at hoj ⊢
   obtain ⟨k',d',q1,q2,q3⟩:=c4 j hoj
   exact ⟨k',d',q1,by rw [hcal]; exact hcal1 k' d' (hact j e hoj k' q1) q2,q3⟩
 ·intro l d hd hdn
  rw [hcal] at hd
  rcases hcal0 l d hd with ⟨e,e2⟩ | ⟨e,e2⟩
  ·subst e; subst e2
   exact ⟨r3,hpos,r9,r10,rmono _ (hib.mem i s1),Int.le_refl _,c6 l c hk⟩
  ·obtain ⟨d1,d2,d3,d4,d5,d6,d7⟩:=c5 l d e2 hdn
   exact ⟨d1,d2,d3,d4,rmono _ d5,d6,d7⟩
 ·intro l d hd
  rw [hcal] at hd
  rcases hcal0 l d hd with ⟨e,e2⟩ | ⟨e,e2⟩
  ·subst e; subst e2; exact c6 l c hk
  ·exact c6 l d e2
 ·intro x hx h5 h8
  rw [hfly] at hx
  obtain ⟨p1,p2,p3,p4⟩:=hep (Cx V x.ep)
  have:=c7 x hx h5 h8
  rw [p1,p2,<- p4]
  exact this
 ·intro j hoj k1 l d b q1 q2 q3 q4 q5
  by_cases e:j=i
  ·subst e; exact absurd hi0 hoj
  ·rw [hj j e] at hoj q1 ⊢
   rw [hcal] at q2 q3
   have hne:=hact j e hoj k1 q1
   rcases hcal0 k1 d q2 with ⟨f,_⟩ | ⟨f,f2⟩
   ·exact absurd f hne
   ·rcases hcal0 l b q3 with ⟨u,u2⟩ | ⟨u,u2⟩
    ·subst u2
     have:=c6 k1 d f2
     simp only [R7] at q5
     omega
    ·rcases c8 j hoj k1 l d b q1 f2 u2 q4 q5 with r | ⟨w,w1,w2,w3⟩
     ·exact .inl r
     ·exact .inr ⟨w,by rw [hj j e]; exact w1,by rw [hj j e,(hep w).1]; exact w2,by rw [hj j e,hfly]; exact w3⟩
 ·intro k1 l a b q1 q2 q3 q4 q5
  rw [hcal] at q1 q2
  rcases hcal0 k1 a q1 with ⟨e,e2⟩ | ⟨e,e2⟩
  ·subst e2
   have:b.wen<=now:=by
    rcases hcal0 l b q2 with ⟨f,f2⟩ | ⟨f,f2⟩
    ·subst f2; exact c6 k0 c hk
    ·exact c6 l b f2
   simp only [R7] at q5
   omega
  ·rcases hcal0 l b q2 with ⟨f,f2⟩ | ⟨f,f2⟩
   ·subst f; subst f2
    have hlt:=q5
    simp only [R7] at hlt
    have:=c8 i ho l k1 c a hc hk e2 q3 hlt
    rcases this with r | ⟨w,w1,_⟩
    ·obtain ⟨d1,d2,d3,d4,d5,d6,d7⟩:=c5 k1 a e2 q3
     obtain ⟨e',n,x1,x2,x3,x4,x5,x6⟩:=c1 k1 (by omega)
     have hee:e'=a.ep:=by omega
     subst hee
     by_cases heq:a.ep=(g.mem i).ep
     ·rw [heq,l2] at x6
      have x7:=x6 rfl s2
      have hne:vr k1≠vr l:=fun q=>e (c2 k1 l (by omega) q)
      omega
     ·omega
    ·rw [hl] at w1; cases w1
   ·exact c9 k1 l a b e2 f2 q3 q4 q5

structure IZ (V:Int->List Int) (g:PG) (vr:Nat->Int):Prop where
 w1:∀ i,(g.mem i).leads=true->(g.mem i).base=true->∀ k∈V (g.mem i).ep,k≠i->k∉(g.mem i).waits->XV g k (g.mem i).ep
 w2:∀ x∈g.fly,x.kind=4->XV g x.frm x.ep
 w3:∀ k e n,vr k≠0->vr k=1000*e+n->1<=n->n<=900->∀ j∈V e,j≠Cx V e->XV g j e
 z1:∀ k,(g.mem k).base=true->(g.mem k).ep<=(g.mem (Cx V (g.mem k).ep)).ep/\((g.mem (Cx V (g.mem k).ep)).ep=(g.mem k).ep->(g.mem (Cx V (g.mem k).ep)).leads=true->(g.mem (Cx V (g.mem k).ep)).base=true)
 z2:∀ x∈g.fly,x.kind=3\/5<=x.kind->x.ep<=(g.mem (Cx V x.ep)).ep/\((g.mem (Cx V x.ep)).ep=x.ep->(g.mem (Cx V x.ep)).leads=true->(g.mem (Cx V x.ep)).base=true)
theorem IZ.mstep {V nv g i m T vr} (h:IZ V g vr) (ha:IA V nv g) (hs:Cy V nv g i m T):IZ V (g.set i m T) vr:=by
 have hb:=fun k e=>XV.step (k:=k) (e:=e) hs
 have hm:=rK hs
 have hmem:∀ j,(g.set i m T).mem j=if j=i then m else g.mem j:=fun _=>rfl
 have hfly:(g.set i m T).fly=g.fly++T:=rfl
 have hep:=hs.ep
 have hlead:=ha.lead
 have li:=ha.lead i
 obtain ⟨w1,w2,w3,z1,z2⟩:=h
 have bi:m.base=true->XV (g.set i m T) i m.ep:=fun hb=>.inr ⟨by simp [PG.set],.inl (by simp [PG.set]; exact hb)⟩
 generalize hg':g.set i m T=g' at *
 refine ⟨?_,?_,fun k e n h1 h2 h3 h4 j h5 h6=>hb _ _ (w3 k e n h1 h2 h3 h4 j h5 h6),?_,?_⟩
 ·have key:m.leads=true->m.base=true->∀ k∈V m.ep,k≠i->k∉m.waits->XV g' k m.ep:=by
   have w1i:=w1 i
   clear hg' z1 z2 w1 w3 hm hmem hfly bi
   cases hs<;>simp_all [PM.idle]<;>grind
  intro j
  rw [hmem]
  split
  ·rename_i e; subst e; exact key
  ·exact fun h1 h2 k h3 h4 h5=>hb _ _ (w1 j h1 h2 k h3 h4 h5)
 ·have key:∀ y∈T,y.kind=4->XV g' y.frm y.ep:=by
   clear hg' z1 z2 w1 w3 hm hmem hfly
   cases hs<;>simp_all [PM.idle]<;>grind
  intro x hx hk
  rw [hfly] at hx
  rcases As.1 hx with q | q
  ·exact hb _ _ (w2 x q hk)
  ·exact key x q hk
 ·have hl:=hs.lead
  have key:m.base=true->m.ep<=(g'.mem (Cx V m.ep)).ep/\((g'.mem (Cx V m.ep)).ep=m.ep->(g'.mem (Cx V m.ep)).leads=true->(g'.mem (Cx V m.ep)).base=true):=by
   have z1i:=z1 i
   simp only [hmem] at hm ⊢
   clear hg' w1 w2 w3 hfly bi hb z1 hmem
   cases hs<;>simp_all [PM.idle]<;>grind
  intro k
  rw [hmem k]
  split
  ·exact key
  ·have:=z1 k
   simp only [hmem] at hm ⊢
   grind
 ·have hl:=hs.lead
  have key:∀ y∈T,y.kind=3\/5<=y.kind->y.ep<=(g'.mem (Cx V y.ep)).ep/\((g'.mem (Cx V y.ep)).ep=y.ep->(g'.mem (Cx V y.ep)).leads=true->(g'.mem (Cx V y.ep)).base=true):=by
   simp only [hmem] at hm ⊢
   clear hg' w1 w2 w3 hfly bi hb hmem
   cases hs<;>simp_all [PM.idle]<;>grind
  intro x hx hk
  rw [hfly] at hx
  rcases As.1 hx with q | q
  ·have:=z2 x q hk
   simp only [hmem] at hm ⊢
   grind
  ·exact key x q hk
def vl (s:List AP) (k:List UInt8):Int:=((s.find? fun a=>a.1.toList==k).getD (O,O,0)).2.2
theorem zX (s:List AP) (k:ByteArray):vl s k.toList=(BR s k).2.2:=rfl
theorem uf {s:List AP} (h:BA s=true) (a:AP) (k:List UInt8):vl s k<=vl (Aq s a) k:=by
 unfold vl
 cases q:s.find? (fun b=>b.1.toList==k) with
 | none =>
  cases r:(Aq s a).find? (fun b=>b.1.toList==k) with
  | none=>exact Int.le_refl _
  | some b =>
   have:=(DE.1 (Jq (a:=a) h)).1 b (List.mem_of_find?_eq_some r)
   unfold KR at this
   simp only [AD,decide_eq_true_eq] at this
   show (0:Int)<=b.2.2
   omega
 | some b =>
  have hb:=List.mem_of_find?_eq_some q
  have hk:b.1.toList=k:=by simpa using List.find?_some q
  have:=ADj (a:=a) h hb
  subst hk
  exact this
theorem fB {s:List AP} {a:AP} (h:BA s=true) (h1:1<=a.2.2) (hv:a.2.2<=vl s a.1.toList):Aq s a=s:=by
 have:=(ABT (DE.1 h).2.1 h1).1 hv
 unfold Aq
 rw [if_pos this]
theorem wJ {s:List AP} {a:AP} (h:BA s=true) (h1:1<=a.2.2) (he:BR (Aq s a) a.1=a):Aq (Aq s a) a=Aq s a :=
 fB (Jq h) h1 (by rw [zX,he]; exact Int.le_refl _)
theorem AAu {s:List AP} {a:AP} (h:BA s=true) (ha:a∈s):1<=a.2.2:=by
 have:=(DE.1 h).1 a ha
 unfold KR at this
 simp only [AD,decide_eq_true_eq] at this
 omega
structure IE (V:Int->List Int) (g:PG):Prop where
 ok:∀ i,BA (g.mem i).items=true
 okx:∀ x∈g.fly,BA x.items=true
 e1:∀ i,(g.mem i).leads=true->(g.mem i).base=true->(g.mem i).serves=false->∀ x∈g.fly,x.kind=3->x.ep=(g.mem i).ep->x.items=(g.mem i).items
 e2:∀ i,(g.mem i).leads=true->(g.mem i).base=true->∀ j,(g.mem j).base=true->(g.mem j).ep=(g.mem i).ep->(g.mem j).items=(g.mem i).items\/((g.mem i).op=1/\(g.mem j).items=Aq (g.mem i).items (g.mem i).ti)
 e3:∀ i,(g.mem i).op=1->∀ j,j≠i->(g.mem j).base=true->(g.mem j).ep=(g.mem i).ep->(j∉(g.mem i).left\/∃ x∈g.fly,x.kind=6/\x.frm=j/\x.ep=(g.mem i).ep/\x.num=(g.mem i).num)->(g.mem j).items=Aq (g.mem i).items (g.mem i).ti
 e4:∀ x∈g.fly,x.kind=5->∀ a,x.items=[a]->(g.mem (Cx V x.ep)).leads=true->(g.mem (Cx V x.ep)).base=true->(g.mem (Cx V x.ep)).ep=x.ep ->
  ((g.mem (Cx V x.ep)).op=1->x.num=(g.mem (Cx V x.ep)).num->a=(g.mem (Cx V x.ep)).ti)/\(¬ ((g.mem (Cx V x.ep)).op=1/\x.num=(g.mem (Cx V x.ep)).num)->a.2.2<=vl (g.mem (Cx V x.ep)).items a.1.toList)
 e5:∀ i,(g.mem i).op=1->BR (Aq (g.mem i).items (g.mem i).ti) (g.mem i).ti.1=(g.mem i).ti/\1<=(g.mem i).ti.2.2
set_option maxHeartbeats 1000000 in
theorem IE.mstep {V nv g i m T vr} (h:IE V g) (ha:IA V nv g) (hz:IZ V g vr) (hs:Cy V nv g i m T):IE V (g.set i m T):=by
 have hmem:∀ j,(g.set i m T).mem j=if j=i then m else g.mem j:=fun _=>rfl
 have hfly:(g.set i m T).fly=g.fly++T:=rfl
 have hlead:=ha.lead
 have hserv:=ha.serv
 have htask:=ha.task
 obtain ⟨w1,w2,w3,z1,z2⟩:=hz
 obtain ⟨ok,okx,e1,e2,e3,e4,e5⟩:=h
 have hni:=R_
 have fresh:∀ x:PX,((g.mem i).ep<x.ep\/(g.mem i).ep=x.ep/\(g.mem i).base=false/\(g.mem i).fell=false)->∀ f,(g.mem f).leads=true->(g.mem f).base=true->(g.mem f).ep=x.ep->i∈V x.ep->i≠f->(g.mem f).serves=false:=by
  intro x hx f h1 h2 h3 h4 h5
  cases q:(g.mem f).serves with
  | false=>rfl
  | true =>
   have hw:=(hserv f q).2.2
   have:=w1 f h1 h2 i (by rw [h3]; exact h4) h5 (by rw [hw]; simp)
   rw [h3] at this
   unfold XV at this
   grind
 have p1:=fun a=>Jq (a:=a) (ok i)
 have li:=hlead i
 have si:=hserv i
 have ti:=htask i
 have hok:BA m.items=true:=by
  clear e1 e2 e3 e4 e5 w1 w2 w3 z1 z2 fresh hmem hfly hlead hserv htask
  cases hs<;>simp_all [PM.idle]
 have hokx:∀ x∈T,BA x.items=true:=by
  clear e1 e2 e3 e4 e5 w1 w2 w3 z1 z2 fresh hmem hfly hlead hserv htask
  cases hs<;>simp_all [PM.idle]<;>grind
 have k1:m.leads=true->m.base=true->m.serves=false->∀ x∈g.fly++T,x.kind=3->x.ep=m.ep->x.items=m.items:=by
  have e1i:=e1 i
  clear e1 e2 e3 e4 e5 w1 w2 w3 z1 fresh hmem hfly hlead hserv htask okx p1 hok hokx
  cases hs<;>simp_all [PM.idle]<;>grind
 have k1b:∀ f,f≠i->(g.mem f).leads=true->∀ x∈T,x.kind=3->x.ep≠(g.mem f).ep:=by
  intro f hf hl
  have lf:=hlead f hl
  clear e1 e2 e3 e4 e5 w1 w2 w3 z1 z2 fresh hmem hfly hlead hserv htask okx p1 hok hokx k1
  cases hs<;>simp_all [PM.idle]<;>grind
 have k2a:m.leads=true->m.base=true->∀ j,j≠i->(g.mem j).base=true->(g.mem j).ep=m.ep->(g.mem j).items=m.items\/(m.op=1/\(g.mem j).items=Aq m.items m.ti):=by
  have e2i:=e2 i
  clear e1 e2 e3 e4 e5 w1 w2 w3 z2 fresh hmem hfly hlead hserv htask okx p1 hok hokx k1 k1b
  intro q1 q2 j hj q3 q4
  have z:=z1 j q3
  clear z1
  cases hs<;>(try dsimp only [PM.idle] at *)<;>grind
 have k2b:∀ f,f≠i->(g.mem f).leads=true->(g.mem f).base=true->m.base=true->m.ep=(g.mem f).ep->m.items=(g.mem f).items\/((g.mem f).op=1/\m.items=Aq (g.mem f).items (g.mem f).ti):=by
  intro f hf h1 h2 h3 h4
  have lf:=hlead f h1
  have e2f:=e2 f h1 h2 i
  have e5f:=e5 f
  have e1f:=e1 f h1 h2
  have fr:=fun (x:PX) hx=>fresh x hx f h1 h2
  have st:∀ a,1<=a.2.2->a.2.2<=vl (g.mem f).items a.1.toList->Aq (g.mem f).items a=(g.mem f).items:=fun a b c=>fB (ok f) b c
  have st2:∀ a,1<=a.2.2->a.2.2<=vl (g.mem f).items a.1.toList->Aq (Aq (g.mem f).items (g.mem f).ti) a=Aq (g.mem f).items (g.mem f).ti:=fun a b c=>fB (Jq (ok f)) b (Int.le_trans c (uf (ok f) _ _))
  have tw:=wJ (a:=(g.mem f).ti) (ok f)
  have ov:∀ x∈g.fly,∀ a,x.items=[a]->1<=a.2.2:=fun x hx a e=>AAu (okx x hx) (by rw [e]; simp)
  clear e1 e2 e3 e5 w1 w2 w3 z1 z2 fresh hmem hfly hlead hserv htask okx p1 hok hokx k1 k1b k2a
  cases hs<;>(try dsimp only [PM.idle] at *)<;>grind
 have k3a:m.op=1->∀ j,j≠i->(g.mem j).base=true->(g.mem j).ep=m.ep->(j∉m.left\/∃ x∈g.fly,x.kind=6/\x.frm=j/\x.ep=m.ep/\x.num=m.num)->(g.mem j).items=Aq m.items m.ti:=by
  have e3i:=e3 i
  clear e1 e2 e3 e4 e5 w1 w2 w3 z1 z2 fresh hmem hfly hlead hserv htask okx p1 hok hokx k1 k1b k2a k2b
  intro q1 j q2 q3 q4 q5
  have e3j:=fun a b=>e3i a j q2 q3 b
  clear e3i
  cases hs<;>(try dsimp only [PM.idle] at *)<;>grind
 have k3b:∀ f,f≠i->(g.mem f).op=1->m.base=true->m.ep=(g.mem f).ep->(i∉(g.mem f).left\/∃ x∈g.fly++T,x.kind=6/\x.frm=i/\x.ep=(g.mem f).ep/\x.num=(g.mem f).num)->m.items=Aq (g.mem f).items (g.mem f).ti:=by
  intro f hf ho h3 h4 h5
  have h0:=htask f (by omega)
  obtain ⟨h2,h1,h6⟩:=hserv f h0.1
  have lf:=hlead f h1
  have e2f:=e2 f h1 h2 i
  have e3f:=fun a b c=>e3 f ho i (Ne.symm hf) a b (.inl c)
  have e3g:(g.mem i).base=true->(g.mem i).ep=(g.mem f).ep->∀ x∈g.fly,x.kind=6->x.frm=i->x.ep=(g.mem f).ep->x.num=(g.mem f).num->(g.mem i).items=Aq (g.mem f).items (g.mem f).ti:=fun a b x hx c1 c2 c3 c4=>e3 f ho i (Ne.symm hf) a b (.inr ⟨x,hx,c1,c2,c3,c4⟩)
  have e5f:=e5 f ho
  have fr:=fun (x:PX) hx=>fresh x hx f h1 h2
  have st2:∀ a,1<=a.2.2->a.2.2<=vl (g.mem f).items a.1.toList->Aq (Aq (g.mem f).items (g.mem f).ti) a=Aq (g.mem f).items (g.mem f).ti:=fun a b c=>fB (Jq (ok f)) b (Int.le_trans c (uf (ok f) _ _))
  have tw:=wJ (a:=(g.mem f).ti) (ok f) e5f.2 e5f.1
  have ov:∀ x∈g.fly,∀ a,x.items=[a]->1<=a.2.2:=fun x hx a e=>AAu (okx x hx) (by rw [e]; simp)
  clear e1 e2 e3 e5 w1 w2 w3 z1 z2 fresh hmem hfly hlead hserv htask okx p1 hok hokx k1 k1b k2a k2b k3a
  cases hs<;>(try dsimp only [PM.idle] at *)<;>grind
 have k4:∀ x∈g.fly,x.kind=5->Cx V x.ep=i->m.leads=true->m.base=true->m.ep=x.ep->(g.mem i).leads=true/\(g.mem i).base=true/\(g.mem i).ep=x.ep/\m.op=(g.mem i).op/\m.num=(g.mem i).num/\m.ti=(g.mem i).ti/\m.items=(g.mem i).items:=by
  intro x hx hk hf
  have z:=z2 x hx (.inr (by omega))
  rw [hf] at z
  clear e1 e2 e3 e4 e5 w1 w2 w3 z1 z2 fresh hmem hfly hlead hserv htask okx p1 hok hokx k1 k1b k2a k2b k3a k3b
  cases hs<;>simp_all [PM.idle]<;>grind
 have k5:m.op=1->m.items=(g.mem i).items/\m.ti=(g.mem i).ti/\(g.mem i).op=1:=by
  clear e1 e2 e3 e4 e5 w1 w2 w3 z1 z2 fresh hmem hfly hlead hserv htask okx p1 hok hokx k1 k1b k2a k2b k3a k3b k4
  cases hs<;>simp_all [PM.idle]<;>grind
 have kT:∀ x∈T,x.kind≠5:=by
  clear e1 e2 e3 e4 e5 w1 w2 w3 z1 z2 fresh hmem hfly hlead hserv htask okx p1 hok hokx k1 k1b k2a k2b k3a k3b k4 k5
  cases hs<;>simp_all [PM.idle]<;>grind
 have k6:∀ x∈T,x.kind=6->x.frm=i:=fun x hx hk=>(hs.talk x hx (by omega)).2.1
 clear hs
 generalize g.set i m T=g' at *
 refine ⟨?_,?_,?_,?_,?_,?_,?_⟩
 ·intro j; rw [hmem]; split
  ·exact hok
  ·exact ok j
 ·intro x hx
  rw [hfly] at hx
  rcases As.1 hx with q | q
  ·exact okx x q
  ·exact hokx x q
 ·intro j; rw [hmem,hfly]; split
  ·exact k1
  ·intro h1 h2 h3 x hx hk he
   rcases As.1 hx with q | q
   ·exact e1 j h1 h2 h3 x q hk he
   ·rename_i hne; exact absurd he (k1b j hne h1 x q hk)
 ·intro j h1 h2 l h3 h4
  rw [hmem] at h1 h2 h3 h4 ⊢
  rw [hmem]
  grind
 ·intro j h1 l hl h3 h4 h5
  rw [hfly] at h5
  rw [hmem] at h1 h3 h4 h5 ⊢
  rw [hmem] at h4 ⊢
  by_cases hji:j=i
  ·subst hji
   simp only [if_true] at *
   rw [if_neg hl] at *
   refine k3a h1 l hl h3 h4 (h5.imp id fun ⟨x,hx,q⟩=>⟨x,?_,q⟩)
   rcases As.1 hx with r | r
   ·exact r
   ·exact absurd (k6 x r q.1) (by rw [q.2.1]; exact hl)
  ·rw [if_neg hji] at *
   by_cases hli:l=i
   ·subst hli
    simp only [if_true] at *
    exact k3b j hji h1 h3 h4 h5
   ·rw [if_neg hli] at *
    refine e3 j h1 l hl h3 h4 (h5.imp id fun ⟨x,hx,q⟩=>⟨x,?_,q⟩)
    rcases As.1 hx with r | r
    ·exact r
    ·exact absurd (k6 x r q.1) (by rw [q.2.1]; exact hli)
 ·intro x hx hk a hxa h1 h2 h3
  rw [hfly] at hx
  rcases As.1 hx with q | q
  ·rw [hmem] at h1 h2 h3 ⊢
   have:=e4 x q hk a hxa
   by_cases hf:Cx V x.ep=i
   ·rw [if_pos hf] at *
    have:=k4 x q hk hf h1 h2 h3
    rw [hf] at *
    grind
   ·rw [if_neg hf] at *
    exact this h1 h2 h3
  ·exact absurd hk (kT x q)
 ·intro j h1
  rw [hmem] at h1 ⊢
  have:=e5 i
  grind

def YP (m:PM):Int:=if m.op=1 then m.ti.2.2 else vl m.items m.ti.1.toList
def fk (g:PG) (vr:Nat->Int) (y:AP):Prop:=∃ (k:Nat) (c:PC),g.calls[k]? = some c/\c.op=1/\c.key=y.1/\c.val=y.2.1/\vr k=y.2.2/\1<=y.2.2
structure IF (V:Int->List Int) (g:PG) (vr:Nat->Int):Prop where
 f1:∀ (k:Nat) c,g.calls[k]? = some c->0<=c.done->∀ j,(g.mem j).base=true->c.ep<=(g.mem j).ep->c.ver<=vl (g.mem j).items c.key.toList
 f2:∀ (k:Nat) c,g.calls[k]? = some c->0<=c.done->∀ x∈g.fly,x.kind=2\/x.kind=3->c.ep<x.ep->c.ver<=vl x.items c.key.toList
 p1:∀ i,(g.mem i).op≠0->KX g i\/((∀ j,(g.mem j).base=true->(g.mem i).ep<(g.mem j).ep->YP (g.mem i)<=vl (g.mem j).items (g.mem i).ti.1.toList)/\(∀ x∈g.fly,x.kind=2\/x.kind=3->(g.mem i).ep<x.ep->YP (g.mem i)<=vl x.items (g.mem i).ti.1.toList) /\
  (∀ (k:Nat) c,g.calls[k]? = some c->0<=c.done->c.op=2->(g.mem i).ep<c.ep->c.key.toList=(g.mem i).ti.1.toList->YP (g.mem i)<=c.ver))
 fr:∀ (k l:Nat) c d,g.calls[k]? = some c->g.calls[l]? = some d->0<=c.done->0<=d.done->c.op=2->c.key.toList=d.key.toList->vr l<vr k->d.ver<=c.ver
 vs:∀ (k:Nat) c,g.calls[k]? = some c->0<=c.done->c.ver<=vr k/\(c.op=1->c.ver=vr k)
 pm:∀ i,∀ y∈(g.mem i).items,fk g vr y
 px:∀ x∈g.fly,∀ y∈x.items,fk g vr y
 pt:∀ i,(g.mem i).op=1->fk g vr (g.mem i).ti
 gt:∀ (k:Nat) c,g.calls[k]? = some c->0<=c.done->c.op=2->(c.ver=0/\c.got=O)\/∃ y,fk g vr y/\y.1.toList=c.key.toList/\c.ver=y.2.2/\c.got=y.2.1
theorem IF.mstep {V nv g i m T vr now} (h:IF V g vr) (ha:IA V nv g) (ht:IT V g vr now) (hz:IZ V g vr) (he:IE V g) (hs:Cy V nv g i m T):IF V (g.set i m T) vr:=by
 have hmem:∀ j,(g.set i m T).mem j=if j=i then m else g.mem j:=fun _=>rfl
 have hfly:(g.set i m T).fly=g.fly++T:=rfl
 have hcal:(g.set i m T).calls=g.calls:=rfl
 obtain ⟨f1,f2,p1,fr,vs,pm,px,pt,gt⟩:=h
 have hstk:=fun j=>KX.step (j:=j) hs
 have li:=ha.lead i
 have si:=ha.serv i
 have ti:=ha.task i
 have dn:∀ (k:Nat) c,g.calls[k]? = some c->0<=c.done->c.ep<=(g.mem (Cx V c.ep)).ep/\((g.mem (Cx V c.ep)).ep=c.ep->(g.mem (Cx V c.ep)).leads=true->(g.mem (Cx V c.ep)).base=true)/\(∀ j∈V c.ep,j≠Cx V c.ep->XV g j c.ep):=by
  intro k c hk hd
  obtain ⟨d1,d2,d3,d4,d5,d6,d7⟩:=ht.dn k c hk hd
  obtain ⟨e,n,x1,x2,x3,x4,x5,x6⟩:=ht.st k (by omega)
  have:e=c.ep:=by omega
  subst this
  exact ⟨x5,fun q1 q2=>(x6 q1 q2).1,hz.w3 k c.ep c.num (by omega) d1 d3 d4⟩
 have q1:=fun a k=>uf (he.ok i) a k
 have k1:∀ (k:Nat) c,g.calls[k]? = some c->0<=c.done->m.base=true->c.ep<=m.ep->c.ver<=vl m.items c.key.toList:=by
  intro k c hk hd
  obtain ⟨d1,d2,d3⟩:=dn k c hk hd
  have g1:=f1 k c hk hd i
  have g2:=f2 k c hk hd
  have d3i:=d3 i
  have q1c:=fun a=>q1 a c.key.toList
  unfold XV at d3i
  clear dn f1 f2 p1 fr vs pm px pt gt hstk q1 d3 ha ht hz he hmem hfly hcal
  cases hs<;>simp_all [PM.idle]<;>grind
 have k2:∀ (k:Nat) c,g.calls[k]? = some c->0<=c.done->∀ x∈T,x.kind=2\/x.kind=3->c.ep<x.ep->c.ver<=vl x.items c.key.toList:=by
  intro k c hk hd
  have g1:=f1 k c hk hd i
  have g2:=f2 k c hk hd
  clear dn f1 f2 p1 fr vs pm px pt gt hstk q1 ha ht hz he hmem hfly hcal k1
  cases hs<;>simp_all [PM.idle]<;>grind
 have special:∀ j,j≠i->(g.mem j).op≠0->(g.mem i).base=true->(g.mem i).ep=(g.mem j).ep->(g.mem i).ep<m.ep->(∀ x∈T,x.kind≠6/\x.kind≠8)->KX (g.set i m T) j\/YP (g.mem j)<=vl (g.mem i).items (g.mem j).ti.1.toList:=by
  intro j hj ho hb hep hlt hT
  obtain ⟨t1,t2,t3⟩:=ha.task j ho
  obtain ⟨s1,s2,s3⟩:=ha.serv j t1
  rcases t2 with t2 | t2
  ·by_cases hr:i∉(g.mem j).left\/∃ x∈g.fly,x.kind=6/\x.frm=i/\x.ep=(g.mem j).ep/\x.num=(g.mem j).num
   ·have:=he.e3 j t2 i (Ne.symm hj) hb hep hr
    right
    unfold YP
    rw [if_pos t2,this,zX,(he.e5 j t2).1]
    exact Int.le_refl _
   ·left
    have hr1:i∈(g.mem j).left:=by
     by_cases q:i∈(g.mem j).left
     ·exact q
     ·exact absurd (.inl q) hr
    refine ⟨i,by rw [hmem,if_neg hj]; exact hr1,by rw [hmem,if_neg hj,hmem,if_pos rfl]; omega,fun x hx hk hf hxe hn=>?_⟩
    rw [hmem,if_neg hj] at hk hxe hn
    rw [hfly] at hx
    rcases As.1 hx with q | q
    ·exact hr (.inr ⟨x,q,by omega,hf,hxe,hn⟩)
    ·have:=hT x q; omega
  ·right
   unfold YP
   rw [if_neg (by omega)]
   rcases he.e2 j s2 s1 i hb hep with q | q
   ·rw [q]; exact Int.le_refl _
   ·omega
 have kp:∀ j,j≠i->(g.mem j).op≠0->KX g j\/KX (g.set i m T) j\/((m.base=true->(g.mem j).ep<m.ep->YP (g.mem j)<=vl m.items (g.mem j).ti.1.toList)/\(∀ x∈T,x.kind=2\/x.kind=3->(g.mem j).ep<x.ep->YP (g.mem j)<=vl x.items (g.mem j).ti.1.toList)):=by
  intro j hj ho
  rcases p1 j ho with q | ⟨b1,b2,b3⟩
  ·exact .inl q
  ·have sp:=special j hj ho
   have b1i:=b1 i
   have q1c:=fun a=>q1 a (g.mem j).ti.1.toList
   generalize hA:KX (g.set i m T) j=A at *
   generalize YP (g.mem j)=tb at *
   right
   clear dn f1 f2 p1 fr vs pm px pt gt hstk q1 ha ht hz he hmem hfly hcal k1 k2 special hA b1 b3
   cases hs<;>simp_all [PM.idle]<;>grind
 have kt:m.op≠0->(g.mem i).op≠0/\m.op=(g.mem i).op/\m.ti=(g.mem i).ti/\m.items=(g.mem i).items/\m.ep=(g.mem i).ep/\(∀ x∈T,x.kind≠2/\x.kind≠3):=by
  clear dn f1 f2 p1 fr vs pm px pt gt hstk q1 ha ht hz he hmem hfly hcal k1 k2 special kp
  cases hs<;>simp_all [PM.idle]<;>grind
 have kb:m.op≠0->m.base=true:=fun ho=>by
  obtain ⟨t1,t2⟩:=kt ho
  have:=(si (ti t1).1).1
  clear dn f1 f2 p1 fr vs pm px pt gt hstk q1 ha ht hz he hmem hfly hcal k1 k2 special kp
  cases hs<;>simp_all [PM.idle]
 have kv:∀ y∈m.items,fk g vr y:=by
  have pmi:=pm i
  have ps:=fun (a b:AP) h=>eI (x:=(g.mem i).items) (a:=a) (b:=b) h
  clear dn f1 f2 p1 fr vs pm pt gt hstk q1 ha ht hz he hmem hfly hcal k1 k2 special kp kt kb
  cases hs<;>simp_all [PM.idle]<;>grind
 have kw:∀ x∈T,∀ y∈x.items,fk g vr y:=by
  have pmi:=pm i
  clear dn f1 f2 p1 fr vs pm pt gt hstk q1 ha ht hz he hmem hfly hcal k1 k2 special kp kt kb kv
  cases hs<;>simp_all [PM.idle]<;>grind
 clear hs
 have hprov:∀ y,fk g vr y->fk (g.set i m T) vr y:=fun y h=>h
 refine ⟨?_,?_,?_,fr,vs,?_,?_,?_,fun k c h1 h2 h3=>gt k c h1 h2 h3⟩
 ·intro k c hk hd j
  rw [hmem]
  split
  ·exact k1 k c hk hd
  ·exact f1 k c hk hd j
 ·intro k c hk hd x hx
  rw [hfly] at hx
  rcases As.1 hx with q | q
  ·exact f2 k c hk hd x q
  ·exact k2 k c hk hd x q
 ·intro j ho
  by_cases hj:j=i
  ·subst hj
   have ho2:m.op≠0:=by rw [hmem,if_pos rfl] at ho; exact ho
   obtain ⟨t1,t2,t3,t4,t5,t6⟩:=kt ho2
   have te:YP m=YP (g.mem j):=by unfold YP; rw [t2,t3,t4]
   rcases p1 j t1 with q | ⟨b1,b2,b3⟩
   ·exact .inl (hstk j q ho)
   ·right
    rw [hmem,if_pos rfl,te,t3,t5]
    refine ⟨fun l=>?_,fun x hx hk=>?_,b3⟩
    ·rw [hmem]
     split
     ·rename_i e; intro _ h; omega
     ·exact b1 l
    ·rw [hfly] at hx
     rcases As.1 hx with r | r
     ·exact b2 x r hk
     ·have:=t6 x r; omega
  ·have ho2:(g.mem j).op≠0:=by rw [hmem,if_neg hj] at ho; exact ho
   rcases kp j hj ho2 with q | q | ⟨q1',q2'⟩
   ·exact .inl (hstk j q ho)
   ·exact .inl q
   ·rcases p1 j ho2 with q | ⟨b1,b2,b3⟩
    ·exact .inl (hstk j q ho)
    ·right
     rw [hmem,if_neg hj]
     refine ⟨fun l=>?_,fun x hx hk=>?_,b3⟩
     ·rw [hmem]
      split
      ·exact q1'
      ·exact b1 l
     ·rw [hfly] at hx
      rcases As.1 hx with r | r
      ·exact b2 x r hk
      ·exact q2' x r hk
 ·intro j y hy
  rw [hmem] at hy
  split at hy
  ·exact kv y hy
  ·exact pm j y hy
 ·intro x hx
  rw [hfly] at hx
  rcases As.1 hx with r | r
  ·exact px x r
  ·exact kw x r
 ·intro j ho
  by_cases hj:j=i
  ·subst hj
   rw [hmem,if_pos rfl] at ho ⊢
   obtain ⟨t1,t2,t3,t4,t5,t6⟩:=kt (by omega)
   rw [t3]
   exact pt j (by omega)
  ·rw [hmem,if_neg hj] at ho ⊢
   exact pt j ho
theorem IA.drop {V nv g f} (h:IA V nv g):IA V nv { g with fly:=f }:=⟨h.1,h.2,h.3,h.4,h.5,h.6,h.7⟩
theorem IB.drop {V g f} (h:IB V g) (hf:∀ x∈f,x∈g.fly):IB V { g with fly:=f }:=⟨h.mem,fun x hx=>h.fly x (hf x hx)⟩
theorem IZ.drop {V g vr f} (h:IZ V g vr) (hf:∀ x∈f,x∈g.fly):IZ V { g with fly:=f } vr:=⟨h.w1,fun x hx=>h.w2 x (hf x hx),h.w3,h.z1,fun x hx=>h.z2 x (hf x hx)⟩
theorem IE.drop {V g f} (h:IE V g) (hf:∀ x∈f,x∈g.fly):IE V { g with fly:=f } :=
 ⟨h.ok,fun x hx=>h.okx x (hf x hx),fun i a b c x hx=>h.e1 i a b c x (hf x hx),h.e2,fun i a j b c d e=>h.e3 i a j b c d (e.imp id fun ⟨x,hx,q⟩=>⟨x,hf x hx,q⟩),fun x hx=>h.e4 x (hf x hx),h.e5⟩
theorem IF.drop {V g vr f} (h:IF V g vr) (hf:∀ x∈f,x∈g.fly):IF V { g with fly:=f } vr :=
 ⟨h.f1,fun k c a b x hx=>h.f2 k c a b x (hf x hx),fun i a=>(h.p1 i a).imp (KX.less hf) fun ⟨x,y,z⟩=>⟨x,fun w hw=>y w (hf w hw),z⟩,h.fr,h.vs,h.pm,fun x hx=>h.px x (hf x hx),h.pt,h.gt⟩
theorem IF.call {V g vr} {c:PC} (h:IF V g vr) (h1:c.done=-1):IF V { g with calls:=g.calls++[c] } vr:=by
 obtain ⟨f1,f2,p1,fr,vs,pm,px,pt,gt⟩:=h
 have hg:∀ (k:Nat) d,(g.calls++[c])[k]? = some d->0<=d.done->g.calls[k]? = some d:=by
  intro k d hd h0
  have:g.calls[k]? = some d\/(k=g.calls.length/\d=c):=by grind
  rcases this with e | ⟨_,e⟩
  ·exact e
  ·subst e; omega
 have hp:∀ y,fk g vr y->fk { g with calls:=g.calls++[c] } vr y:=fun y ⟨k,d,q,r⟩=>⟨k,d,by grind,r⟩
 refine ⟨fun k d a b=>f1 k d (hg k d a b) b,fun k d a b=>f2 k d (hg k d a b) b,fun i a=>(p1 i a).imp id fun ⟨x,y,z⟩=>⟨x,y,fun k d q r=>z k d (hg k d q r) r⟩,fun k l d e q r s t=>fr k l d e (hg k d q s) (hg l e r t) s t,fun k d a b=>vs k d (hg k d a b) b,
  fun i y hy=>hp y (pm i y hy),fun x hx y hy=>hp y (px x hx y hy),fun i a=>hp _ (pt i a),fun k d a b e=>(gt k d (hg k d a b) b e).imp id fun ⟨y,q,r⟩=>⟨y,hp y q,r⟩⟩
section
variable {V:Int->List Int} {nv now:Int} {g:PG} {vr:Nat->Int} {i:Int} {c:PC} {L:List Int} {a:AP} {T:List PX}
def Bq (g:PG) (i:Int) (c:PC) (L:List Int) (a:AP) (T:List PX):PG:={ (g.set i (Qt g i c L a) T) with calls:=g.calls++[c] }
def vrN (g:PG) (i:Int) (vr:Nat->Int):Nat->Int:=fun k=>if k=g.calls.length then 1000*(g.mem i).ep+((g.mem i).cnt+1) else vr k
theorem IA.start (h:IA V nv g) (h3:(g.mem i).serves=true) (h5:c.op=1\/c.op=2):IA V nv (Bq g i c L a T):=by
 obtain ⟨a1,a2,a3,a4,a5,a6,a7⟩:=h
 have b6:=a6 i
 refine ⟨fun j=>?_,fun j=>?_,fun j=>?_,fun j=>?_,fun j=>?_,fun j=>?_,fun j=>?_⟩<;>simp only [Bq,PG.set,Qt]<;>split<;>grind
theorem XW (j:Int):((Bq g i c L a T).mem j).ep=(g.mem j).ep/\((Bq g i c L a T).mem j).base=(g.mem j).base/\((Bq g i c L a T).mem j).leads=(g.mem j).leads/\((Bq g i c L a T).mem j).fell=(g.mem j).fell/\((Bq g i c L a T).mem j).items=(g.mem j).items/\((Bq g i c L a T).mem j).serves=(g.mem j).serves/\((Bq g i c L a T).mem j).waits=(g.mem j).waits:=by
 simp only [Bq,PG.set,Qt]
 split
 ·rename_i e; subst e; exact ⟨rfl,rfl,rfl,rfl,rfl,rfl,rfl⟩
 ·exact ⟨rfl,rfl,rfl,rfl,rfl,rfl,rfl⟩
theorem IB.start (h:IB V g) (hT:∀ y∈T,y.kind=5\/y.kind=7):IB V (Bq g i c L a T):=by
 have mono:∀ e,Ca V g e->Ca V (Bq g i c L a T) e:=fun e h=>h.mono fun j=>by rw [(XW j).1]; exact Int.le_refl _
 refine ⟨fun j hb=>?_,fun x hx hk=>?_⟩
 ·obtain ⟨q1,q2,_⟩:=XW (g:=g) (i:=i) (c:=c) (L:=L) (a:=a) (T:=T) j
  rw [q1]; rw [q2] at hb; exact mono _ (h.mem j hb)
 ·rcases As.1 hx with q | q
  ·exact mono _ (h.fly x q hk)
  ·have:=hT x q; omega
theorem IZ.start (h:IZ V g vr) (hia:IA V nv g) (hcl:∀ k,g.calls.length<=k->vr k=0) (h3:(g.mem i).serves=true) (hc9:(g.mem i).cnt<900) (hT:∀ y∈T,(y.kind=5\/y.kind=7)/\y.ep=(g.mem i).ep):IZ V (Bq g i c L a T) (vrN g i vr):=by
 obtain ⟨s1,s2,s3⟩:=hia.serv i h3
 obtain ⟨l1,l2⟩:=hia.lead i s2
 have hcnt:=hia.cnt i
 have he:=XW (g:=g) (i:=i) (c:=c) (L:=L) (a:=a) (T:=T)
 have hb:∀ k e,XV g k e->XV (Bq g i c L a T) k e:=fun k e h=>by
  obtain ⟨q1,q2,q3,q4,_⟩:=he k
  unfold XV at *
  rw [q1,q2,q4]; exact h
 have hfly:(Bq g i c L a T).fly=g.fly++T:=rfl
 generalize Bq g i c L a T=g' at *
 obtain ⟨w1,w2,w3,z1,z2⟩:=h
 refine ⟨?_,?_,?_,?_,?_⟩
 ·intro j h1 h2 k h4 h5 h6
  obtain ⟨q1,q2,q3,q4,q5,q6,q7⟩:=he j
  rw [q3] at h1; rw [q2] at h2; rw [q1] at h4 ⊢; rw [q7] at h6
  exact hb _ _ (w1 j h1 h2 k h4 h5 h6)
 ·intro x hx hk
  rw [hfly] at hx
  rcases As.1 hx with q | q
  ·exact hb _ _ (w2 x q hk)
  ·have:=hT x q; omega
 ·intro k e n h1 h2 h4 h5 j h6 h7
  unfold vrN at h1 h2
  split at h1
  ·rename_i hk
   rw [if_pos hk] at h2
   have:e=(g.mem i).ep:=by omega
   subst this
   rw [l2] at h7
   exact hb _ _ (w1 i s2 s1 j h6 h7 (by rw [s3]; simp))
  ·rename_i hk
   rw [if_neg hk] at h2
   exact hb _ _ (w3 k e n h1 h2 h4 h5 j h6 h7)
 ·intro k hk
  obtain ⟨q1,q2,q3,q4,q5,q6,q7⟩:=he k
  rw [q2] at hk; rw [q1]
  obtain ⟨r1,r2,r3,_⟩:=he (Cx V (g.mem k).ep)
  rw [r1,r2,r3]
  exact z1 k hk
 ·intro x hx hk
  obtain ⟨r1,r2,r3,_⟩:=he (Cx V x.ep)
  rw [r1,r2,r3]
  rw [hfly] at hx
  rcases As.1 hx with q | q
  ·exact z2 x q hk
  ·have:=(hT x q).2
   rw [this,l2]
   exact ⟨Int.le_refl _,fun _ _=>s1⟩
theorem IE.start (h:IE V g) (hia:IA V nv g) (hit:IT V g vr now) (h3:(g.mem i).serves=true) (h4:(g.mem i).op=0) (h5:c.op=1\/c.op=2) (hL:∀ k,k∈L↔k∈V (g.mem i).ep/\k≠i) (hA:a=(c.key,c.val,1000*(g.mem i).ep+((g.mem i).cnt+1))) (hp:c.op=1->BR (Aq (g.mem i).items a) a.1=a) (hone:BA [a]=true)
  (hT:∀ y∈T,(y.kind=5/\c.op=1/\y.items=[a]\/y.kind=7/\c.op=2/\y.items=[])/\y.ep=(g.mem i).ep/\y.num=(g.mem i).cnt+1/\y.frm=i):IE V (Bq g i c L a T):=by
 obtain ⟨s1,s2,s3⟩:=hia.serv i h3
 obtain ⟨l1,l2⟩:=hia.lead i s2
 have hpos:=hia.pos i
 have hcnt:=hia.cnt i
 have hv1:1<=a.2.2:=by rw [hA]; show 1<=1000*(g.mem i).ep+((g.mem i).cnt+1); omega
 have he:=XW (g:=g) (i:=i) (c:=c) (L:=L) (a:=a) (T:=T)
 have hi:((Bq g i c L a T).mem i).op=c.op/\((Bq g i c L a T).mem i).num=(g.mem i).cnt+1/\((Bq g i c L a T).mem i).ti=a/\((Bq g i c L a T).mem i).left=L:=by
  simp [Bq,PG.set,Qt]
 have hj:∀ j,j≠i->(Bq g i c L a T).mem j=g.mem j:=fun j e=>by simp only [Bq,PG.set]; rw [if_neg e]
 have hfly:(Bq g i c L a T).fly=g.fly++T:=rfl
 have hfl:=hit.fl
 generalize Bq g i c L a T=g' at *
 obtain ⟨ok,okx,e1,e2,e3,e4,e5⟩:=h
 refine ⟨?_,?_,?_,?_,?_,?_,?_⟩
 ·intro j; rw [(he j).2.2.2.2.1]; exact ok j
 ·intro x hx
  rw [hfly] at hx
  rcases As.1 hx with q | q
  ·exact okx x q
  ·rcases (hT x q).1 with ⟨_,_,r⟩ | ⟨_,_,r⟩
   ·rw [r]; exact hone
   ·rw [r]; rfl
 ·intro j q1 q2 q3 x hx hk hxe
  obtain ⟨r1,r2,r3,r4,r5,r6,r7⟩:=he j
  rw [r3] at q1; rw [r2] at q2; rw [r6] at q3; rw [r1] at hxe; rw [r5]
  rw [hfly] at hx
  rcases As.1 hx with q | q
  ·exact e1 j q1 q2 q3 x q hk hxe
  ·have:=hT x q; omega
 ·intro j q1 q2 l q3 q4
  obtain ⟨r1,r2,r3,r4,r5,r6,r7⟩:=he j
  obtain ⟨t1,t2,t3,t4,t5,t6,t7⟩:=he l
  rw [r3] at q1; rw [r2] at q2; rw [t2] at q3; rw [r1,t1] at q4; rw [r5,t5]
  have:=e2 j q1 q2 l q3 q4
  by_cases e:j=i
  ·subst e
   rcases this with q | q
   ·exact .inl q
   ·omega
  ·rw [hj j e]; exact this
 ·intro j q1 l hl q3 q4 q5
  obtain ⟨r1,r2,r3,r4,r5,r6,r7⟩:=he j
  obtain ⟨t1,t2,t3,t4,t5,t6,t7⟩:=he l
  rw [t2] at q3; rw [r1,t1] at q4; rw [r5,t5]
  rw [r1] at q5
  by_cases e:j=i
  ·subst e
   rw [hi.2.2.2,hi.2.1] at q5
   exfalso
   rcases q5 with q | ⟨x,hx,x1,x2,x3,x4⟩
   ·exact q ((hL l).2 ⟨by rw [<- q4]; exact (hia.view l q3).2,hl⟩)
   ·rw [hfly] at hx
    rcases As.1 hx with q | q
    ·have:=hfl x q (by omega) (by omega)
     rw [x3,l2] at this
     have:=this.2 rfl s2
     omega
    ·have:=hT x q; omega
  ·rw [hj j e] at q1 q5 ⊢
   refine e3 j q1 l hl q3 q4 (q5.imp id fun ⟨x,hx,x1,q⟩=>⟨x,?_,x1,q⟩)
   rw [hfly] at hx
   rcases As.1 hx with r | r
   ·exact r
   ·have:=hT x r; omega
 ·intro x hx hk b hxb q1 q2 q3
  obtain ⟨r1,r2,r3,r4,r5,r6,r7⟩:=he (Cx V x.ep)
  rw [r3] at q1; rw [r2] at q2; rw [r1] at q3; rw [r5]
  rw [hfly] at hx
  rcases As.1 hx with q | q
  ·have h6:=e4 x q hk b hxb q1 q2 q3
   by_cases e:Cx V x.ep=i
   ·rw [e] at h6 q1 q2 q3 ⊢
    have h7:=hfl x q (by omega) (by omega)
    rw [e] at h7
    have h8:=h7.2 q3 q1
    refine ⟨fun _ hn=>?_,fun _=>h6.2 (fun h=>by omega)⟩
    rw [hi.2.1] at hn; omega
   ·rw [hj _ e]; exact h6
  ·obtain ⟨u1,u2,u3,u4⟩:=hT x q
   have hf:Cx V x.ep=i:=by rw [u2]; exact l2
   rcases u1 with ⟨_,u6,u7⟩ | ⟨u5,_⟩
   ·rw [u7] at hxb
    cases hxb
    rw [hf]
    refine ⟨fun _ _=>hi.2.2.1.symm,fun h=>absurd ⟨by rw [hi.1]; exact u6,by rw [hi.2.1]; exact u3⟩ h⟩
   ·omega
 ·intro j q1
  obtain ⟨r1,r2,r3,r4,r5,r6,r7⟩:=he j
  rw [r5]
  by_cases e:j=i
  ·subst e
   rw [hi.2.2.1]
   exact ⟨hp (by rw [<- hi.1]; exact q1),hv1⟩
  ·rw [hj j e] at q1 ⊢; exact e5 j q1
end
section
variable {V:Int->List Int} {nv now:Int} {g:PG} {vr:Nat->Int} {i:Int} {k:Nat} {c:PC}
def N6 (g:PG) (i:Int) (k:Nat) (c:PC) (now:Int):PG:={ (g.set i (YO (g.mem i)) []) with calls:=g.calls.set k (R7 (g.mem i) c now) }
theorem l7 (j:Int):(N6 g i k c now).mem j=if j=i then YO (g.mem i) else g.mem j:=rfl
theorem ug (j:Int):((N6 g i k c now).mem j).ep=(g.mem j).ep/\((N6 g i k c now).mem j).base=(g.mem j).base/\((N6 g i k c now).mem j).leads=(g.mem j).leads/\((N6 g i k c now).mem j).fell=(g.mem j).fell/\((N6 g i k c now).mem j).serves=(g.mem j).serves/\((N6 g i k c now).mem j).waits=(g.mem j).waits/\((N6 g i k c now).mem j).cnt=(g.mem j).cnt:=by
 rw [l7]
 split
 ·rename_i e; subst e; exact ⟨rfl,rfl,rfl,rfl,rfl,rfl,rfl⟩
 ·exact ⟨rfl,rfl,rfl,rfl,rfl,rfl,rfl⟩
theorem l8:(N6 g i k c now).fly=g.fly:=List.append_nil _
theorem IA.fin (h:IA V nv g):IA V nv (N6 g i k c now):=by
 obtain ⟨a1,a2,a3,a4,a5,a6,a7⟩:=h
 have b:=ug (g:=g) (i:=i) (k:=k) (c:=c) (now:=now)
 refine ⟨fun j=>by rw [(b j).1]; exact a1 j,fun j=>?_,fun j=>?_,fun j=>?_,fun j ho=>?_,fun j=>?_,fun j=>?_⟩
 ·obtain ⟨q1,q2,q3,q4,q5,q6,q7⟩:=b j; rw [q1,q3]; exact a2 j
 ·obtain ⟨q1,q2,q3,q4,q5,q6,q7⟩:=b j; rw [q1,q2]; exact a3 j
 ·obtain ⟨q1,q2,q3,q4,q5,q6,q7⟩:=b j; rw [q2,q3,q5,q6]; exact a4 j
 ·rw [l7] at ho ⊢
  split at ho
  ·exact absurd rfl ho
  ·rename_i e; rw [if_neg e]; exact a5 j ho
 ·rw [(b j).2.2.2.2.2.2]; exact a6 j
 ·obtain ⟨q1,q2,q3,q4,q5,q6,q7⟩:=b j; rw [q4,q2,q3]; exact a7 j
theorem IB.fin (h:IB V g):IB V (N6 g i k c now):=by
 have b:=ug (g:=g) (i:=i) (k:=k) (c:=c) (now:=now)
 have mono:∀ e,Ca V g e->Ca V (N6 g i k c now) e:=fun e h=>h.mono fun j=>by rw [(b j).1]; exact Int.le_refl _
 refine ⟨fun j hb=>?_,fun x hx hk=>?_⟩
 ·rw [(b j).1]; rw [(b j).2.1] at hb; exact mono _ (h.mem j hb)
 ·rw [l8] at hx; exact mono _ (h.fly x hx hk)
theorem IZ.fin (h:IZ V g vr):IZ V (N6 g i k c now) vr:=by
 have b:=ug (g:=g) (i:=i) (k:=k) (c:=c) (now:=now)
 have hb:∀ l e,XV g l e->XV (N6 g i k c now) l e:=fun l e h=>by
  obtain ⟨q1,q2,q3,q4,_⟩:=b l
  unfold XV at *
  rw [q1,q2,q4]; exact h
 have hfly:(N6 g i k c now).fly=g.fly:=l8
 generalize N6 g i k c now=g' at *
 obtain ⟨w1,w2,w3,z1,z2⟩:=h
 refine ⟨?_,fun x hx hk=>hb _ _ (w2 x (by rw [<- hfly]; exact hx) hk),fun k e n h1 h2 h4 h5 j h6 h7=>hb _ _ (w3 k e n h1 h2 h4 h5 j h6 h7),?_,?_⟩
 ·intro j h1 h2 l h4 h5 h6
  obtain ⟨q1,q2,q3,q4,q5,q6,q7⟩:=b j
  rw [q3] at h1; rw [q2] at h2; rw [q1] at h4 ⊢; rw [q6] at h6
  exact hb _ _ (w1 j h1 h2 l h4 h5 h6)
 ·intro l hl
  obtain ⟨q1,q2,q3,q4,q5,q6,q7⟩:=b l
  rw [q2] at hl; rw [q1]
  obtain ⟨r1,r2,r3,_⟩:=b (Cx V (g.mem l).ep)
  rw [r1,r2,r3]
  exact z1 l hl
 ·intro x hx hk
  obtain ⟨r1,r2,r3,_⟩:=b (Cx V x.ep)
  rw [r1,r2,r3]
  rw [hfly] at hx
  exact z2 x hx hk
theorem IE.fin (h:IE V g) (hia:IA V nv g) (ho:(g.mem i).op≠0) (hl:(g.mem i).left=[]):IE V (N6 g i k c now):=by
 obtain ⟨t1,t2,t3⟩:=hia.task i ho
 obtain ⟨s1,s2,s3⟩:=hia.serv i t1
 obtain ⟨l1,l2⟩:=hia.lead i s2
 have b:=ug (g:=g) (i:=i) (k:=k) (c:=c) (now:=now)
 have hmem:=l7 (g:=g) (i:=i) (k:=k) (c:=c) (now:=now)
 have hfly:(N6 g i k c now).fly=g.fly:=l8
 have hlead:=hia.lead
 obtain ⟨ok,okx,e1,e2,e3,e4,e5⟩:=h
 have hi0:(YO (g.mem i)).op=0:=rfl
 have hii:(YO (g.mem i)).items=if (g.mem i).op=1 then Aq (g.mem i).items (g.mem i).ti else (g.mem i).items:=rfl
 have all:∀ j,j≠i->(g.mem j).base=true->(g.mem j).ep=(g.mem i).ep->(g.mem j).items=(YO (g.mem i)).items:=by
  intro j hj h1 h2
  rw [hii]
  split
  ·rename_i q
   exact e3 i q j hj h1 h2 (.inl (by rw [hl]; simp))
  ·rename_i q
   rcases e2 i s2 s1 j h1 h2 with r | r
   ·exact r
   ·exact absurd r.1 q
 have up:∀ kk,vl (g.mem i).items kk<=vl (YO (g.mem i)).items kk:=by
  intro kk; rw [hii]; split
  ·exact uf (ok i) _ _
  ·exact Int.le_refl _
 generalize N6 g i k c now=g' at *
 refine ⟨?_,by rw [hfly]; exact okx,?_,?_,?_,?_,?_⟩
 ·intro j; rw [hmem]; split
  ·rw [hii]; split
   ·exact Jq (ok i)
   ·exact ok i
  ·exact ok j
 ·intro j h1 h2 h3 x hx hk he
  obtain ⟨q1,q2,q3,q4,q5,q6,q7⟩:=b j
  rw [q3] at h1; rw [q2] at h2; rw [q5] at h3; rw [q1] at he; rw [hfly] at hx
  rw [hmem]
  split
  ·rename_i e; subst e; rw [t1] at h3; cases h3
  ·exact e1 j h1 h2 h3 x hx hk he
 ·intro j h1 h2 l h3 h4
  obtain ⟨q1,q2,q3,q4,q5,q6,q7⟩:=b j
  obtain ⟨r1,r2,r3,r4,r5,r6,r7⟩:=b l
  rw [q3] at h1; rw [q2] at h2; rw [r2] at h3; rw [r1,q1] at h4
  by_cases e:j=i
  ·subst e
   left
   rw [hmem,hmem,if_pos rfl]
   split
   ·rfl
   ·rename_i e2; exact all l e2 h3 h4
  ·rw [hmem l,hmem j,if_neg e]
   split
   ·rename_i e2
    subst e2
    exact absurd (by have:=(hlead j h1).2; rw [<- h4,l2] at this; exact this.symm) e
   ·exact e2 j h1 h2 l h3 h4
 ·intro j h1 l hl2 h3 h4 h5
  obtain ⟨q1,q2,q3,q4,q5,q6,q7⟩:=b j
  obtain ⟨r1,r2,r3,r4,r5,r6,r7⟩:=b l
  rw [r2] at h3; rw [r1,q1] at h4; rw [q1,hfly] at h5
  by_cases e:j=i
  ·subst e; rw [hmem,if_pos rfl,hi0] at h1; omega
  ·rw [hmem,if_neg e] at h1 h5
   rw [hmem l,hmem j,if_neg e]
   split
   ·rename_i e2
    subst e2
    have hj2:=hia.task j (by omega)
    have hj3:=hia.serv j hj2.1
    exact absurd (by have:=(hlead j hj3.2.1).2; rw [<- h4,l2] at this; exact this.symm) e
   ·exact e3 j h1 l hl2 h3 h4 h5
 ·intro x hx hk a hxa h1 h2 h3
  obtain ⟨q1,q2,q3,q4,q5,q6,q7⟩:=b (Cx V x.ep)
  rw [q3] at h1; rw [q2] at h2; rw [q1] at h3; rw [hfly] at hx
  have h6:=e4 x hx hk a hxa h1 h2 h3
  rw [hmem]
  split
  ·rename_i e
   rw [e] at h6
   refine ⟨fun h=>by rw [hi0] at h; omega,fun _=>?_⟩
   by_cases q:(g.mem i).op=1/\x.num=(g.mem i).num
   ·have ha:=h6.1 q.1 q.2
    subst ha
    rw [hii,if_pos q.1,zX,(e5 i q.1).1]
    exact Int.le_refl _
   ·exact Int.le_trans (h6.2 q) (up _)
  ·exact h6
 ·intro j h1
  rw [hmem] at h1 ⊢
  split
  ·rename_i e; rw [if_pos e,hi0] at h1; omega
  ·rename_i e; rw [if_neg e] at h1; exact e5 j h1
end
section
variable {V:Int->List Int} {nv now:Int} {g:PG} {vr:Nat->Int} {i:Int} {c:PC} {L:List Int} {a:AP} {T:List PX}
theorem zY (hia:IA V nv g) (hfl:∀ x∈g.fly,5<=x.kind->x.kind<=8->x.ep<=(g.mem (Cx V x.ep)).ep/\((g.mem (Cx V x.ep)).ep=x.ep->(g.mem (Cx V x.ep)).leads=true->x.num<=(g.mem (Cx V x.ep)).cnt)) (h3:(g.mem i).serves=true)
  (hL:∀ k,k∈L↔k∈V (g.mem i).ep/\k≠i) (hT:∀ y∈T,y.kind=5\/y.kind=7) {e:Int} (hr:Ca V g e) (he:(g.mem i).ep<e):KX (Bq g i c L a T) i:=by
 obtain ⟨s1,s2,s3⟩:=hia.serv i h3
 obtain ⟨l1,l2⟩:=hia.lead i s2
 obtain ⟨j,hjv,hjl⟩:=hr (g.mem i).ep (hia.pos i) he
 have hep:=fun j=>(XW (g:=g) (i:=i) (c:=c) (L:=L) (a:=a) (T:=T) j).1
 have hi:((Bq g i c L a T).mem i).num=(g.mem i).cnt+1/\((Bq g i c L a T).mem i).left=L:=by simp [Bq,PG.set,Qt]
 have hne:j≠i:=fun e=>by subst e; omega
 refine ⟨j,by rw [hi.2]; exact (hL j).2 ⟨hjv,hne⟩,by rw [hep i,hep j]; exact hjl,fun x hx hk hf hxe=>?_⟩
 rw [hep i] at hxe
 rw [hi.1]
 rcases As.1 hx with q | q
 ·have:=hfl x q (by omega) (by omega)
  rw [hxe,l2] at this
  have:=this.2 rfl s2
  omega
 ·have:=hT x q; omega
theorem IF.start (h:IF V g vr) (hia:IA V nv g) (hib:IB V g) (hit:IT V g vr now) (h1:c.done=-1) (h3:(g.mem i).serves=true) (h4:(g.mem i).op=0) (hL:∀ k,k∈L↔k∈V (g.mem i).ep/\k≠i) (hA:a=(c.key,c.val,1000*(g.mem i).ep+((g.mem i).cnt+1)))
  (hT:∀ y∈T,(y.kind=5/\c.op=1/\y.items=[a]\/y.kind=7/\c.op=2/\y.items=[])/\y.ep=(g.mem i).ep/\y.num=(g.mem i).cnt+1/\y.frm=i):IF V (Bq g i c L a T) (vrN g i vr):=by
 have hep:=XW (g:=g) (i:=i) (c:=c) (L:=L) (a:=a) (T:=T)
 have hT5:∀ y∈T,y.kind=5\/y.kind=7:=fun y hy=>by have:=(hT y hy).1; omega
 have stuck:∀ e,Ca V g e->(g.mem i).ep<e->KX (Bq g i c L a T) i:=fun e hr he=>zY hia hit.fl h3 hL hT5 hr he
 have hi:((Bq g i c L a T).mem i).op=c.op/\((Bq g i c L a T).mem i).ti=a:=by simp [Bq,PG.set,Qt]
 have hj:∀ j,j≠i->(Bq g i c L a T).mem j=g.mem j:=fun j e=>by simp only [Bq,PG.set]; rw [if_neg e]
 have hfly:(Bq g i c L a T).fly=g.fly++T:=rfl
 have hcal:(Bq g i c L a T).calls=g.calls++[c]:=rfl
 have hg:∀ (k:Nat) d,(Bq g i c L a T).calls[k]? = some d->0<=d.done->g.calls[k]? = some d/\k<g.calls.length:=by
  intro k d hd h0
  rw [hcal] at hd
  have:(g.calls[k]? = some d/\k<g.calls.length)\/(k=g.calls.length/\d=c):=by grind
  rcases this with e | ⟨_,e⟩
  ·exact e
  ·subst e; omega
 have hvr:∀ k,k<g.calls.length->vrN g i vr k=vr k:=fun k hk=>by unfold vrN; rw [if_neg (by omega)]
 have hp:∀ y,fk g vr y->fk (Bq g i c L a T) (vrN g i vr) y:=fun y ⟨k,d,q,q1,q2,q3,q4⟩=>by
  have hk:=(Aw.1 q).1
  exact ⟨k,d,by rw [hcal]; grind,q1,q2,q3,by rw [hvr k hk]; exact q4⟩
 have hnew:c.op=1->fk (Bq g i c L a T) (vrN g i vr) a:=fun ho=>⟨g.calls.length,c,by rw [hcal]; simp,ho,by rw [hA],by rw [hA],by unfold vrN; rw [if_pos rfl,hA],by rw [hA]; have:=hia.pos i; have:=hia.cnt i; show 1<=1000*(g.mem i).ep+((g.mem i).cnt+1); omega⟩
 obtain ⟨f1,f2,p1,fr,vs,pm,px,pt,gt⟩:=h
 have hdn:=hit.dn
 generalize Bq g i c L a T=g' at *
 refine ⟨?_,?_,?_,?_,?_,?_,?_,?_,?_⟩
 ·intro k d hk hd j hb he
  obtain ⟨q1,q2,q3,q4,q5,q6,q7⟩:=hep j
  rw [q2] at hb; rw [q1] at he; rw [q5]
  exact f1 k d (hg k d hk hd).1 hd j hb he
 ·intro k d hk hd x hx hkd he
  rw [hfly] at hx
  rcases As.1 hx with q | q
  ·exact f2 k d (hg k d hk hd).1 hd x q hkd he
  ·have:=hT5 x q; omega
 ·intro j ho
  obtain ⟨q1,q2,q3,q4,q5,q6,q7⟩:=hep j
  by_cases e:j=i
  ·subst e
   by_cases hE:∃ e,Ca V g e/\(g.mem j).ep<e
   ·obtain ⟨e,r1,r2⟩:=hE
    exact .inl (stuck e r1 r2)
   ·right
    rw [q1]
    refine ⟨fun l hb hl=>?_,fun x hx hk hl=>?_,fun k d hk hd _ hl _=>?_⟩
    ·rw [(hep l).2.1] at hb; rw [(hep l).1] at hl
     exact absurd ⟨_,hib.mem l hb,hl⟩ hE
    ·rw [hfly] at hx
     rcases As.1 hx with q | q
     ·exact absurd ⟨_,hib.fly x q hk,hl⟩ hE
     ·have:=hT5 x q; omega
    ·have:=(hdn k d (hg k d hk hd).1 hd).2.2.2.2.1
     exact absurd ⟨_,this,hl⟩ hE
  ·rw [hj j e] at ho ⊢
   rcases p1 j ho with ⟨w,w1,w2,w3⟩ | ⟨b1,b2,b3⟩
   ·left
    refine ⟨w,by rw [hj j e]; exact w1,by rw [hj j e,(hep w).1]; exact w2,fun x hx=>?_⟩
    rw [hj j e]
    rw [hfly] at hx
    rcases As.1 hx with q | q
    ·exact w3 x q
    ·have:=hT5 x q
     intro hk; omega
   ·right
    refine ⟨fun l hb hl=>?_,fun x hx hk hl=>?_,fun k d hk hd h2 hl h5=>b3 k d (hg k d hk hd).1 hd h2 hl h5⟩
    ·obtain ⟨r1,r2,r3,r4,r5,r6,r7⟩:=hep l
     rw [r2] at hb; rw [r1] at hl; rw [r5]
     exact b1 l hb hl
    ·rw [hfly] at hx
     rcases As.1 hx with q | q
     ·exact b2 x q hk hl
     ·have:=hT5 x q; omega
 ·intro k l d e hk hl h0 h1' h2 h5 hlt
  obtain ⟨u1,u2⟩:=hg k d hk h0
  obtain ⟨v1,v2⟩:=hg l e hl h1'
  rw [hvr k u2,hvr l v2] at hlt
  exact fr k l d e u1 v1 h0 h1' h2 h5 hlt
 ·intro k d hk h0
  obtain ⟨u1,u2⟩:=hg k d hk h0
  rw [hvr k u2]
  exact vs k d u1 h0
 ·intro j y hy
  rw [(hep j).2.2.2.2.1] at hy
  exact hp y (pm j y hy)
 ·intro x hx y hy
  rw [hfly] at hx
  rcases As.1 hx with q | q
  ·exact hp y (px x q y hy)
  ·rcases (hT x q).1 with ⟨_,r2,r3⟩ | ⟨_,_,r3⟩
   ·rw [r3] at hy
    simp only [Cl] at hy
    rw [hy]; exact hnew r2
   ·rw [r3] at hy; cases hy
 ·intro j ho
  by_cases e:j=i
  ·subst e
   rw [hi.1] at ho; rw [hi.2]
   exact hnew ho
  ·rw [hj j e] at ho ⊢
   exact hp _ (pt j ho)
 ·intro k d hk h0 h2
  exact (gt k d (hg k d hk h0).1 h0 h2).imp id fun ⟨y,q,r⟩=>⟨y,hp y q,r⟩
end
section
variable {V:Int->List Int} {nv now:Int} {g:PG} {vr:Nat->Int} {i:Int} {k:Nat} {c:PC}
theorem l9 (s:List AP) (kk:ByteArray):BR s kk=(O,O,0)\/(BR s kk∈s/\(BR s kk).1.toList=kk.toList):=by
 cases h:Jt s kk with
 | true=>exact .inr (ub h)
 | false=>exact .inl (eM h)
theorem IF.fin (h:IF V g vr) (hia:IA V nv g) (hit:IT V g vr now) (hie:IE V g) (hn:0<=now) (ho:(g.mem i).op≠0) (hl:(g.mem i).left=[]) (hc:(g.mem i).call=(k:Int)) (hk:g.calls[k]? = some c)
  (hown:∀ y∈(g.mem i).items,y.2.2<=1000*(g.mem i).ep+(g.mem i).cnt):IF V (N6 g i k c now) vr:=by
 obtain ⟨t1,t2,t3⟩:=hia.task i ho
 obtain ⟨s1,s2,s3⟩:=hia.serv i t1
 obtain ⟨l1,l2⟩:=hia.lead i s2
 obtain ⟨k0,d0,r1,r2,r3,r4,r5,r6,r7,r8,r9,r10⟩:=hit.act i ho
 have hk0:k0=k:=by omega
 subst hk0
 rw [hk] at r2
 cases r2
 have hkl:k0<g.calls.length:=(Aw.1 hk).1
 have b:=ug (g:=g) (i:=i) (k:=k0) (c:=c) (now:=now)
 have hmem:=l7 (g:=g) (i:=i) (k:=k0) (c:=c) (now:=now)
 have hfly:(N6 g i k0 c now).fly=g.fly:=l8
 have hcal:(N6 g i k0 c now).calls=g.calls.set k0 (R7 (g.mem i) c now):=rfl
 have hset:∀ (l:Nat) d,(N6 g i k0 c now).calls[l]? = some d->(l=k0/\d=R7 (g.mem i) c now)\/(l≠k0/\g.calls[l]? = some d):=by
  intro l d hd
  rw [hcal] at hd
  by_cases e:l=k0
  ·subst e
   rw [List.getElem?_set_self hkl] at hd
   exact .inl ⟨rfl,by cases hd; rfl⟩
  ·rw [List.getElem?_set_ne (Ne.symm e)] at hd
   exact .inr ⟨e,hd⟩
 have hset1:(N6 g i k0 c now).calls[k0]? = some (R7 (g.mem i) c now):=by rw [hcal]; exact List.getElem?_set_self hkl
 have hset2:∀ (l:Nat),l≠k0->(N6 g i k0 c now).calls[l]? = g.calls[l]? := fun l e=>by rw [hcal]; exact List.getElem?_set_ne (Ne.symm e)
 have hns:¬ KX g i:=fun ⟨w,w1,_⟩=>by rw [hl] at w1; cases w1
 obtain ⟨f1,f2,p1,fr,vs,pm,px,pt,gt⟩:=h
 obtain ⟨b1,b2,b3⟩:=(p1 i ho).resolve_left hns
 have hii:(YO (g.mem i)).items=if (g.mem i).op=1 then Aq (g.mem i).items (g.mem i).ti else (g.mem i).items:=rfl
 have hver:(R7 (g.mem i) c now).ver=YP (g.mem i):=by
  unfold R7 vk YP
  dsimp only
  split
  ·rfl
  ·rfl
 have htobe:vl (YO (g.mem i)).items (g.mem i).ti.1.toList=YP (g.mem i):=by
  rw [hii]
  unfold YP
  split
  ·rename_i q
   rw [zX,(hie.e5 i q).1]
  ·rfl
 have all:∀ j,j≠i->(g.mem j).base=true->(g.mem j).ep=(g.mem i).ep->(g.mem j).items=(YO (g.mem i)).items:=by
  intro j hj h1 h2
  rw [hii]
  split
  ·rename_i q
   exact hie.e3 i q j hj h1 h2 (.inl (by rw [hl]; simp))
  ·rename_i q
   rcases hie.e2 i s2 s1 j h1 h2 with r | r
   ·exact r
   ·exact absurd r.1 q
 have up:∀ kk,vl (g.mem i).items kk<=vl (YO (g.mem i)).items kk:=by
  intro kk; rw [hii]; split
  ·exact uf (hie.ok i) _ _
  ·exact Int.le_refl _
 have hf:(R7 (g.mem i) c now).key=c.key/\(R7 (g.mem i) c now).op=c.op/\(R7 (g.mem i) c now).val=c.val/\(R7 (g.mem i) c now).ep=(g.mem i).ep:=⟨rfl,rfl,rfl,rfl⟩
 have hp:∀ y,fk g vr y->fk (N6 g i k0 c now) vr y:=fun y ⟨l,d,q,q1,q2,q3,q4⟩=>by
  by_cases e:l=k0
  ·subst e
   rw [hk] at q
   cases q
   exact ⟨l,_,hset1,q1,q2,q3,q4⟩
  ·exact ⟨l,d,by rw [hset2 l e]; exact q,q1,q2,q3,q4⟩
 have hdn:=hit.dn
 have hst:=hit.st
 have hmp:∀ y∈(YO (g.mem i)).items,fk g vr y:=by
  intro y hy
  rw [hii] at hy
  split at hy
  ·rename_i q
   rcases eI hy with e | e
   ·rw [e]; exact pt i q
   ·exact pm i y e
  ·exact pm i y hy
 generalize hC:R7 (g.mem i) c now=c' at *
 generalize hG:N6 g i k0 c now=g' at *
 refine ⟨?_,?_,?_,?_,?_,?_,?_,?_,?_⟩
 ·intro l d hd hd0 j hb he
  rw [(b j).2.1] at hb; rw [(b j).1] at he
  rw [hmem]
  rcases hset l d hd with ⟨e1,e2⟩ | ⟨e1,e2⟩
  ·subst e2
   rw [hver,hf.1,r6]
   rw [hf.2.2.2] at he
   split
   ·rw [htobe]; exact Int.le_refl _
   ·rename_i e
    by_cases heq:(g.mem j).ep=(g.mem i).ep
    ·rw [all j e hb heq,htobe]; exact Int.le_refl _
    ·exact b1 j hb (by omega)
  ·have:=f1 l d e2 hd0 j hb he
   split
   ·rename_i e; subst e; exact Int.le_trans this (up _)
   ·exact this
 ·intro l d hd hd0 x hx hkd he
  rw [hfly] at hx
  rcases hset l d hd with ⟨e1,e2⟩ | ⟨e1,e2⟩
  ·subst e2
   rw [hf.2.2.2] at he
   rw [hver,hf.1,r6]
   exact b2 x hx hkd he
  ·exact f2 l d e2 hd0 x hx hkd he
 ·intro j hoj
  by_cases e:j=i
  ·subst e
   rw [hmem,if_pos rfl] at hoj
   exact absurd rfl hoj
  ·have hjm:g'.mem j=g.mem j:=by rw [hmem,if_neg e]
   rw [hjm] at hoj ⊢
   rcases p1 j hoj with ⟨w,w1,w2,w3⟩ | ⟨a1,a2,a3⟩
   ·left
    exact ⟨w,by rw [hjm]; exact w1,by rw [hjm,(b w).1]; exact w2,by rw [hjm,hfly]; exact w3⟩
   ·right
    refine ⟨fun l hb hlt=>?_,fun x hx=>a2 x (by rw [<- hfly]; exact hx),fun l d hd hd0 h2 hlt h5=>?_⟩
    ·rw [(b l).2.1] at hb; rw [(b l).1] at hlt
     have:=a1 l hb hlt
     rw [hmem]
     split
     ·rename_i e; subst e; exact Int.le_trans this (up _)
     ·exact this
    ·rcases hset l d hd with ⟨e1,e2⟩ | ⟨e1,e2⟩
     ·subst e2
      rw [hf.2.2.2] at hlt
      rw [hf.1,r6] at h5
      have:=a1 i s1 hlt
      rw [hver]
      rw [hf.2.1,r5] at h2
      unfold YP
      rw [if_neg (show ¬ (g.mem i).op=1 by omega),h5]
      exact this
     ·exact a3 l d e2 hd0 h2 hlt h5
 ·intro l1 l2' d e hd he h0 h1 h2 h5 hlt
  rcases hset l1 d hd with ⟨u1,u2⟩ | ⟨u1,u2⟩
  ·subst u1; subst u2
   rcases hset l2' e he with ⟨v1,v2⟩ | ⟨v1,v2⟩
   ·subst v1; omega
   ·rw [hf.1,r6] at h5
    rw [hf.2.1,r5] at h2
    obtain ⟨d1,d2,d3,d4,d5,d6,d7⟩:=hdn l2' e v2 h1
    have:=f1 l2' e v2 h1 i s1 (by omega)
    rw [hver]
    unfold YP
    rw [if_neg (show ¬ (g.mem i).op=1 by omega),h5]
    exact this
  ·rcases hset l2' e he with ⟨v1,v2⟩ | ⟨v1,v2⟩
   ·subst v1; subst v2
    rw [hf.1,r6] at h5
    obtain ⟨d1,d2,d3,d4,d5,d6,d7⟩:=hdn l1 d u2 h0
    rw [hver]
    by_cases hlt2:(g.mem i).ep<d.ep
    ·exact b3 l1 d u2 h0 h2 hlt2 h5
    ·exfalso
     obtain ⟨e',n,x1,x2,x3,x4,x5,x6⟩:=hst l1 (by omega)
     have hee:e'=(g.mem i).ep:=by omega
     subst hee
     rw [l2] at x6
     have:=(x6 rfl s2).2
     omega
   ·exact fr l1 l2' d e u2 v2 h0 h1 h2 h5 hlt
 ·intro l d hd hd0
  rcases hset l d hd with ⟨u1,u2⟩ | ⟨u1,u2⟩
  ·subst u1; subst u2
   rw [hver,hf.2.1,r5]
   unfold YP
   split
   ·rename_i q
    rw [r8]; exact ⟨Int.le_refl _,fun _=>rfl⟩
   ·rename_i q
    refine ⟨?_,fun h=>absurd h q⟩
    rw [zX,r3,t3]
    have hcnt:=hia.cnt i
    have hpos:=hia.pos i
    rcases l9 (g.mem i).items (g.mem i).ti.1 with z | z
    ·rw [z]; show (0:Int)<=_; omega
    ·exact hown _ z.1
  ·exact vs l d u2 hd0
 ·intro j y hy
  rw [hmem] at hy
  split at hy
  ·exact hp y (hmp y hy)
  ·exact hp y (pm j y hy)
 ·intro x hx y hy
  rw [hfly] at hx
  exact hp y (px x hx y hy)
 ·intro j hoj
  rw [hmem] at hoj ⊢
  split
  ·rename_i e; rw [if_pos e] at hoj; exact absurd hoj (by decide:¬ (0:Int)=1)
  ·rename_i e; rw [if_neg e] at hoj; exact hp _ (pt j hoj)
 ·intro l d hd hd0 h2
  rcases hset l d hd with ⟨u1,u2⟩ | ⟨u1,u2⟩
  ·subst u1; subst u2
   have hop:(g.mem i).op≠1:=by rw [hf.2.1,r5] at h2; omega
   have hgot:d.got=(BR (g.mem i).items (g.mem i).ti.1).2.1/\d.ver=(BR (g.mem i).items (g.mem i).ti.1).2.2:=by
    rw [<- hC]
    unfold R7 vk
    rw [hf.2.1] at h2
    dsimp only
    rw [if_pos h2,if_neg hop]
    exact ⟨rfl,rfl⟩
   rcases l9 (g.mem i).items (g.mem i).ti.1 with z | z
   ·left
    rw [hgot.1,hgot.2,z]
    exact ⟨rfl,rfl⟩
   ·right
    exact ⟨_,hp _ (pm i _ z.1),by rw [hf.1,r6]; exact z.2,hgot.2,hgot.1⟩
  ·exact (gt l d u2 hd0 h2).imp id fun ⟨y,q,r⟩=>⟨y,hp y q,r⟩
end

theorem IA.call {V nv g} {c:PC} (h:IA V nv g):IA V nv { g with calls:=g.calls++[c] }:=⟨h.1,h.2,h.3,h.4,h.5,h.6,h.7⟩
theorem IB.call {V g} {c:PC} (h:IB V g):IB V { g with calls:=g.calls++[c] }:=⟨h.mem,h.fly⟩
theorem IZ.call {V g vr} {c:PC} (h:IZ V g vr):IZ V { g with calls:=g.calls++[c] } vr:=⟨h.w1,h.w2,h.w3,h.z1,h.z2⟩
theorem IE.call {V g} {c:PC} (h:IE V g):IE V { g with calls:=g.calls++[c] }:=⟨h.ok,h.okx,h.e1,h.e2,h.e3,h.e4,h.e5⟩
structure ul (V:Int->List Int) (nv:Int) (g:PG) (vr:Nat->Int) (now:Int):Prop where
 a:IA V nv g
 b:IB V g
 t:IT V g vr now
 z:IZ V g vr
 e:IE V g
 f:IF V g vr
theorem ul.mstep {V nv g i m T vr now} (h:ul V nv g vr now) (hv:∀ e,1<=e->e<=nv->Cx V e∈V e) (hs:Cy V nv g i m T):ul V nv (g.set i m T) vr now :=
 ⟨h.a.step hv hs,h.b.step h.a hv hs,h.t.mstep h.a hs,h.z.mstep h.a hs,h.e.mstep h.a h.z hs,h.f.mstep h.a h.t h.z h.e hs⟩
theorem ul.drop {V nv g vr now f} (h:ul V nv g vr now) (hf:∀ x∈f,x∈g.fly):ul V nv { g with fly:=f } vr now :=
 ⟨h.a.drop,h.b.drop hf,h.t.drop hf,h.z.drop hf,h.e.drop hf,h.f.drop hf⟩
theorem ul.later {V nv g vr now n} (h:ul V nv g vr now) (hn:now<=n):ul V nv g vr n:=⟨h.a,h.b,h.t.later hn,h.z,h.e,h.f⟩
theorem ul.call {V nv g vr now} {c:PC} (h:ul V nv g vr now) (h1:c.done=-1) (h2:c.wen=now):ul V nv { g with calls:=g.calls++[c] } vr now :=
 ⟨h.a.call,h.b.call,h.t.call h1 h2,h.z.call,h.e.call,h.f.call h1⟩
theorem ul.start {V nv g vr now i c L a T} (h:ul V nv g vr now) (h1:c.done=-1) (h2:c.wen=now) (h3:(g.mem i).serves=true) (h4:(g.mem i).op=0) (h5:c.op=1\/c.op=2) (h6:(g.mem i).cnt<900) (hL:∀ k,k∈L↔k∈V (g.mem i).ep/\k≠i) (hA:a=(c.key,c.val,1000*(g.mem i).ep+((g.mem i).cnt+1))) (hp:c.op=1->BR (Aq (g.mem i).items a) a.1=a) (hone:BA [a]=true)
  (hT:∀ y∈T,(y.kind=5/\c.op=1/\y.items=[a]\/y.kind=7/\c.op=2/\y.items=[])/\y.ep=(g.mem i).ep/\y.num=(g.mem i).cnt+1/\y.frm=i):ul V nv (Bq g i c L a T) (vrN g i vr) now :=
 ⟨h.a.start h3 h5,h.b.start fun y hy=>(by have:=(hT y hy).1; omega),h.t.start h.a h.b h1 h2 h3 h4 h5 h6 hL hA fun y hy=>(by
  obtain ⟨q1,q2,q3,q4⟩:=hT y hy
  exact ⟨q1.imp id fun q=>⟨q.1,q.2.1⟩,q2,q3,q4⟩),h.z.start h.a h.t.out h3 h6 fun y hy=>(by obtain ⟨q1,q2,q3,q4⟩:=hT y hy; exact ⟨by omega,q2⟩),
  h.e.start h.a h.t h3 h4 h5 hL hA hp hone hT,h.f.start h.a h.b h.t h1 h3 h4 hL hA hT⟩
theorem ul.fin {V nv g vr now i} (h:ul V nv g vr now) (hn:0<=now) (ho:(g.mem i).op≠0) (hl:(g.mem i).left=[]) (hown:∀ y∈(g.mem i).items,y.2.2<=1000*(g.mem i).ep+(g.mem i).cnt):∃ (k:Nat) (c:PC),(g.mem i).call=(k:Int)/\g.calls[k]? = some c/\c.done<0/\ul V nv (N6 g i k c now) vr now:=by
 obtain ⟨k,c,q1,q2,q3,q4,q5⟩:=h.t.act i ho
 exact ⟨k,c,q1,q2,q4,h.a.fin,h.b.fin,h.t.fin h.a h.b ho hl q1 q2,h.z.fin,h.e.fin h.a ho hl,h.f.fin h.a h.t h.e hn ho hl q1 q2 hown⟩
def pm (m:AE):PM:=⟨m.2.1,m.2.2.1,m.2.2.2.1,m.2.2.2.2.1,m.2.2.2.2.2.1,m.2.2.2.2.2.2.1,m.2.2.2.2.2.2.2.1,m.2.2.2.2.2.2.2.2.1,m.2.2.2.2.2.2.2.2.2.1,m.2.2.2.2.2.2.2.2.2.2.1,m.2.2.2.2.2.2.2.2.2.2.2.1,m.2.2.2.2.2.2.2.2.2.2.2.2.1,m.2.2.2.2.2.2.2.2.2.2.2.2.2⟩
def px (x:Bb):PX:=⟨x.1,x.2.1,x.2.2.1,x.2.2.2.1,x.2.2.2.2.1,x.2.2.2.2.2⟩
def pc (c:IC):PC:=⟨c.1,c.2.1,c.2.2.1,c.2.2.2.1,c.2.2.2.2.1,c.2.2.2.2.2.1,c.2.2.2.2.2.2.1,c.2.2.2.2.2.2.2.1,c.2.2.2.2.2.2.2.2⟩
def oD:PM:=⟨1,false,false,false,false,[],[],0,0,0,0,(O,O,0),[]⟩
def pg (g:AS):PG:=⟨fun i=>if 1<=i/\i<=6 then pm (Az g (i-1).toNat) else oD,g.2.2.1.map px,g.2.2.2.map pc⟩
def vw (views:List (List Int)) (e:Int):List Int:=views.getD (e-1).toNat []
theorem yP (views:List (List Int)) (e:Int):Cx (vw views) e=R6 views e:=rfl
theorem ACd {views:List (List Int)} (hv:TV views):∀ e,1<=e->e<=(views.length:Int)->Cx (vw views) e∈vw views e:=fun e h1 h2=>by
 have:=uV hv h1 h2 rfl
 rw [List.contains_iff_mem] at this
 exact this
theorem Ta {g:AS} {i:Int} (h:1<=i/\i<=6):(pg g).mem i=pm (Az g (i-1).toNat):=if_pos h
theorem PG.same {a b:PG} (h1:∀ i,a.mem i=b.mem i) (h2:a.fly=b.fly) (h3:a.calls=b.calls):a=b:=by
 cases a; cases b
 simp only at h1 h2 h3
 rw [h2,h3,show _=_ from funext h1]
theorem oE {g:AS} {n:AE} {told:List Bb} {said:List DR} {at_:Int} {i:Int} (h6:g.2.1.length=6) (hi:1<=i/\i<=6) (hn:n.1=i) (j:Int):(pg (BT g n told said at_)).mem j=if j=i then pm n else (pg g).mem j:=by
 by_cases hj:1<=j/\j<=6
 ·rw [Ta hj,uT h6 (show (j-1).toNat<6 by omega) (show n.1=(((i-1).toNat:Nat):Int)+1 by omega) (show (i-1).toNat<6 by omega)]
  by_cases e:j=i
  ·rw [if_pos (by omega),if_pos e]
  ·rw [if_neg (by omega),if_neg e,Ta hj]
 ·rw [if_neg (by omega)]
  show (if _ then _ else _)=(if _ then _ else _)
  rw [if_neg hj,if_neg hj]
theorem rL {g:AS} {n:AE} {told:List Bb} {at_:Int} {i:Int} (h6:g.2.1.length=6) (hi:1<=i/\i<=6) (hn:n.1=i):pg (BT g n told [] at_)=(pg g).set i (pm n) (told.map px) :=
 PG.same (oE h6 hi hn) (by show (g.2.2.1++told).map px=g.2.2.1.map px++told.map px; rw [List.map_append]) rfl
theorem ACe {cs:List IC} {k:Nat} {c:PC} (h:(cs.map pc)[k]? = some c):k<cs.length/\c=pc (cs.getD k FP):=by
 rw [Cn] at h
 cases q:cs[k]? with
 | none=>rw [q] at h; cases h
 | some d =>
  rw [q] at h
  cases h
  obtain ⟨hk,e⟩:=Aw.1 q
  exact ⟨hk,by rw [AW hk,e]⟩
theorem ADk {at_:Int} {m:AE} {c:IC} {s:DR} (hs:s=(m.2.2.2.2.2.2.2.2.2.2.1,m.2.1,m.2.2.2.2.2.2.2.2.2.2.2.1,vk (pm m))):pc (TY at_ s c)=R7 (pm m) (pc c) at_:=by
 subst hs
 have:(if (c.1==2)=true then (vk (pm m)).2.1 else c.2.2.2.2.2.2.2.2)=if c.1=2 then (vk (pm m)).2.1 else c.2.2.2.2.2.2.2.2:=by
  by_cases h:c.1=2
  ·rw [if_pos h,if_pos (by simpa using h)]
  ·rw [if_neg h,if_neg (by simpa using h)]
 unfold TY pc R7
 dsimp only
 rw [this]
 rfl
theorem uh (m:AE):(B9 m).1=[(m.2.2.2.2.2.2.2.2.2.2.1,m.2.1,m.2.2.2.2.2.2.2.2.2.2.2.1,vk (pm m))]/\pm (B9 m).2=YO (pm m)/\(B9 m).2.1=m.1:=by
 unfold B9
 by_cases h:m.2.2.2.2.2.2.2.2.2.1=1
 ·rw [if_pos (by simpa using h)]
  have h1:vk (pm m)=m.2.2.2.2.2.2.2.2.2.2.2.2.1:=if_pos h
  have h2:(YO (pm m))=pm (PB m (Aq m.2.2.2.2.2.2.2.1 m.2.2.2.2.2.2.2.2.2.2.2.2.1)):=by
   unfold YO
   rw [if_pos (show (pm m).op=1 from h)]
   rfl
  rw [h1,h2]
  exact ⟨rfl,rfl,rfl⟩
 ·rw [if_neg (by simpa using h)]
  have h1:vk (pm m)=BR m.2.2.2.2.2.2.2.1 m.2.2.2.2.2.2.2.2.2.2.2.2.1.1:=if_neg h
  have h2:(YO (pm m))=pm (PB m m.2.2.2.2.2.2.2.1):=by
   unfold YO
   rw [if_neg (show ¬ (pm m).op=1 from h)]
   rfl
  rw [h1,h2]
  exact ⟨rfl,rfl,rfl⟩
theorem AEQ {g:AS} {m:AE} {at_:Int} {i:Int} {k:Nat} {c:PC} (h6:g.2.1.length=6) (hi:1<=i/\i<=6) (hm:m.1=i) (hp:(pg g).mem i=pm m) (hc:(pm m).call=(k:Int)) (hk:(pg g).calls[k]? = some c) (hd:c.done<0) :
  pg (BT g (B9 m).2 [] (B9 m).1 at_)=N6 (pg g) i k c at_:=by
 obtain ⟨f1,f2,f3⟩:=uh m
 obtain ⟨k1,k2⟩:=ACe hk
 refine PG.same (fun j=>?_) ?_ ?_
 ·rw [oE h6 hi (by rw [f3,hm]),l7,hp,f2]
 ·rw [l8]
  show (g.2.2.1++[]).map px=_
  rw [List.append_nil]; rfl
 ·show (((B9 m).1).foldl (JY at_) g.2.2.2).map pc=(g.2.2.2.map pc).set k (R7 ((pg g).mem i) c at_)
  have hc':m.2.2.2.2.2.2.2.2.2.2.1=(k:Int):=hc
  rw [f1,List.foldl_cons,List.foldl_nil,hp,k2,<- ADk rfl,<- List.map_set]
  congr 1
  unfold JY
  dsimp only
  rw [hc',Aj,if_neg]
  rw [k2] at hd
  change (g.2.2.2.getD k FP).2.2.2.2.1<0 at hd
  rw [E5,decide_eq_true_eq,decide_eq_true_eq]
  omega
theorem iv {view:List Int} {id:Int} (hv:WOk view) (k:Int):k∈D2 view id↔k∈view/\k≠id:=by
 rw [uX hv]
 unfold CG
 rw [List.mem_filter]
 simp
theorem ADl {α:Type} (l:List α):(((l.length:Int))==0)=l.isEmpty:=by
 cases l with
 | nil=>rfl
 | cons a l=>rw [List.isEmpty_cons,beq_eq_false_iff_ne,List.length_cons]; omega
inductive zZ (V:Int->List Int) (nv:Int) (g:PG) (m:AE):AE×List Bb×List DR->Prop
 | none:zZ V nv g m (m,[],[])
 | step (n:AE) (T:List Bb) (h:Cy V nv g m.1 (pm n) (T.map px)):zZ V nv g m (n,T,[])
 | done (n:AE) (h:Cy V nv g m.1 (pm n) []) (h1:n.1=m.1) (h2:n.2.2.2.2.2.2.2.2.2.1≠0) (h3:n.2.2.2.2.2.2.2.2.2.2.2.2.2=[]) (h4:n.2.2.2.2.2.2.2.1=m.2.2.2.2.2.2.2.1/\n.2.1=m.2.1/\n.2.2.2.2.2.2.2.2.1=m.2.2.2.2.2.2.2.2.1/\n.2.2.2.1=m.2.2.2.1/\n.2.2.2.2.1=m.2.2.2.2.1):zZ V nv g m ((B9 n).2,[],(B9 n).1)
theorem ACf {views:List (List Int)} {m:AE} {x:Bb} {g:PG} (hv:TV views) (hm:KS m) (h:V1 views m) (hx:V2 views x) (hxo:XOk x) (hlen:m.2.1<=(views.length:Int)) (ht:x.2.2.1=m.1) (he:x.2.2.2.1=m.2.1) (hp:g.mem m.1=pm m) (hin:px x∈g.fly) :
  zZ (vw views) (views.length:Int) g m (eF m (views.getD (m.2.1-1).toNat []) x):=by
 have hw:=hv.wok (i:=(m.2.1-1).toNat) (by have:=hm.ep; omega)
 unfold eF
 by_cases k2:x.1=2
 ·rw [if_pos k2]
  split
  ·rename_i hc
   simp only [AD,Dm] at hc
   refine .step _ _ ?_
   have:=Cy.stat (V:=vw views) (nv:=(views.length:Int)) (g:=g) (i:=m.1) (px x) hin k2 (by rw [hp]; exact he) (by rw [hp]; exact hc.1) (by rw [hp]; exact hc.2) (D2 (views.getD (m.2.1-1).toNat []) m.1) (fun k=>by
     rw [iv hw]
     show _↔k∈views.getD (x.2.2.2.1-1).toNat []/\_
     rw [he])
    (((CG (views.getD (m.2.1-1).toNat []) m.1).map (fun v=>((3:Int),m.1,v,m.2.1,(0:Int),x.2.2.2.2.2))).map px) (fun y hy=>by
     obtain ⟨z,hz,rfl⟩:=List.mem_map.1 hy
     obtain ⟨v,_,rfl⟩:=List.mem_map.1 hz
     exact ⟨rfl,he.symm,rfl,rfl⟩)
   rw [hp] at this
   unfold Tg
   rw [ADl]
   exact this
  ·exact .none
 rw [if_neg k2]
 by_cases k3:x.1=3
 ·rw [if_pos k3]
  split
  ·exact .none
  ·rename_i hc
   split
   ·exact .none
   ·rename_i hc2
    split
    ·rename_i hb
     refine .step _ _ ?_
     have:=Cy.again (V:=vw views) (nv:=(views.length:Int)) (g:=g) (i:=m.1) (px x) hin k3 (by rw [hp]; exact he.symm) (by rw [hp]; exact hb)
     rw [hp] at this
     exact this
    ·rename_i hb
     have hb':m.2.2.2.1=false:=by simpa using hb
     have hf':m.2.2.1=false:=by
      rw [hb'] at hc2
      simpa using hc2
     have hcc:(views.getD (m.2.1-1).toNat []).contains m.1=true/\(views.getD (m.2.1-1).toNat []).getD 0 0≠m.1:=by
      cases q1:(views.getD (m.2.1-1).toNat []).contains m.1 with
      | false=>rw [q1] at hc; exact absurd rfl hc
      | true =>
       rw [q1] at hc
       exact ⟨rfl,fun e=>hc (by rw [e]; simp)⟩
     refine .step _ _ ?_
     have:=Cy.inst (V:=vw views) (nv:=(views.length:Int)) (g:=g) (i:=m.1) (px x) hin k3 (.inr (by rw [hp]; exact ⟨he.symm,hb',hf'⟩))
      (by show _∈views.getD (x.2.2.2.1-1).toNat []; rw [he]; exact List.contains_iff_mem.1 hcc.1) (by rw [yP]; show R6 views x.2.2.2.1≠_; rw [he]; exact hcc.2) (by show x.2.2.2.1<=_; omega)
     rw [hp] at this
     rw [<- he]
     exact this
 rw [if_neg k3]
 by_cases k4:x.1=4
 ·rw [if_pos k4]
  split
  ·rename_i hl
   refine .step _ _ ?_
   have:=Cy.told (V:=vw views) (nv:=(views.length:Int)) (g:=g) (i:=m.1) (px x) hin k4 (by rw [hp]; exact he.symm) (by rw [hp]; exact hl)
   rw [hp] at this
   rw [ADl]
   exact this
  ·exact .none
 rw [if_neg k4]
 by_cases k5:x.1=5
 ·rw [if_pos k5]
  split
  ·rename_i hb
   refine .step _ _ ?_
   obtain ⟨s1,s2⟩:=hx.store k5
   have hlen:x.2.2.2.2.2.length=1:=by
    have:=hxo.shape
    rw [if_neg (by omega),if_pos k5] at this
    exact this
   have:=Cy.store (V:=vw views) (nv:=(views.length:Int)) (g:=g) (i:=m.1) (px x) hin k5 (by rw [hp]; exact he.symm) (by rw [hp]; exact hb) (by rw [yP,<- ht]; exact s1) (x.2.2.2.2.2.getD 0 (O,O,(0:Int))) (by
    show x.2.2.2.2.2=_
    match x.2.2.2.2.2,hlen with
    | [a],_=>rfl)
   rw [hp] at this
   exact this
  ·exact .none
 rw [if_neg k5]
 by_cases k7:x.1=7
 ·rw [if_pos k7]
  split
  ·rename_i hb
   refine .step _ _ ?_
   have:=Cy.sure (V:=vw views) (nv:=(views.length:Int)) (g:=g) (i:=m.1) (px x) hin k7 (by rw [hp]; exact he.symm) (by rw [hp]; exact hb)
   rw [hp] at this
   exact this
  ·exact .none
 rw [if_neg k7]
 by_cases hc:(x.1=6\/x.1=8)/\m.2.2.2.2.2.2.2.2.2.1=(if x.1=8 then 2 else 1)/\m.2.2.2.2.2.2.2.2.2.2.2.1=x.2.2.2.2.1
 ·rw [if_pos hc]
  have hs:Cy (vw views) (views.length:Int) g m.1 (pm (wH m x.2.1)) []:=by
   have:=Cy.less (V:=vw views) (nv:=(views.length:Int)) (g:=g) (i:=m.1) (px x) hin (by
    rw [hp]
    show (m.2.2.2.2.2.2.2.2.2.1=1/\x.1=6)\/(m.2.2.2.2.2.2.2.2.2.1=2/\x.1=8)
    have h2:=hc.2.1
    rcases hc.1 with q | q
    ·rw [if_neg (by omega)] at h2; exact .inl ⟨h2,q⟩
    ·rw [if_pos q] at h2; exact .inr ⟨h2,q⟩) (by rw [hp]; exact he.symm) (by rw [hp]; exact hc.2.2)
   rw [hp] at this
   exact this
  have h0:m.2.2.2.2.2.2.2.2.2.1≠0:=by have:=hc.2.1; split at this<;>omega
  unfold HD
  split
  ·rename_i hl
   rw [ADl,List.isEmpty_iff] at hl
   exact .done _ hs rfl h0 hl ⟨rfl,rfl,rfl,rfl,rfl⟩
  ·exact .step _ _ hs
 ·rw [if_neg hc]
  exact .none
theorem ABX {views:List (List Int)} {m:AE} {x:Bb} {g:PG} (hv:TV views) (hm:KS m) (h:V1 views m) (hx:V2 views x) (hxo:XOk x) (hp:g.mem m.1=pm m) (hin:px x∈g.fly) :
  zZ (vw views) (views.length:Int) g m (D3 m views x):=by
 unfold D3
 split
 ·rename_i hc
  simp only [AD,decide_eq_true_eq,beq_iff_eq] at hc
  obtain ⟨⟨⟨hmo,h1⟩,h2⟩,h3⟩:=hc
  split
  ·rename_i he
   exact ACf hv hm h hx hxo (by omega) h1 he hp hin
  ·rename_i hne
   split
   ·rename_i hs
    simp only [AD,beq_iff_eq] at hs
    refine .step _ _ ?_
    have:=Cy.closes (V:=vw views) (nv:=(views.length:Int)) (g:=g) (i:=m.1) (px x) hin (by rw [hp]; exact hs.1.1.2) (by rw [hp]; exact hs.1.2) h3
    rw [hp] at this
    exact this
   ·split
    ·rename_i hs
     simp only [AD,beq_iff_eq,bne_iff_ne] at hs
     refine .step _ _ ?_
     have:=Cy.inst (V:=vw views) (nv:=(views.length:Int)) (g:=g) (i:=m.1) (px x) hin hs.1.1 (.inl (by rw [hp]; show m.2.1<x.2.2.2.1; omega)) (List.contains_iff_mem.1 hs.1.2) hs.2 h3
     rw [hp] at this
     exact this
    ·exact .none
 ·exact .none

def Ei (g:AS) (now:Int):Prop:=∃ vr,ul (vw g.1) (g.1.length:Int) (pg g) vr now
theorem Ei.later {g:AS} {n n':Int} (h:Ei g n) (hn:n<=n'):Ei g n':=by
 obtain ⟨vr,h⟩:=h
 exact ⟨vr,h.later hn⟩
theorem wK {g:AS} {i:Nat}:∀ x∈(Fd g i).2.2.1,x∈g.2.2.1:=fun x hx=>by
 rcases As.1 hx with h1 | h1
 ·exact List.mem_of_mem_take h1
 ·exact List.mem_of_mem_drop h1
theorem ADm {g:AS} {l:List Bb}:pg (g.1,g.2.1,l,g.2.2.2)={ pg g with fly:=l.map px }:=rfl
theorem Ei.sub {g:AS} {l:List Bb} {now:Int} (h:Ei g now) (hl:∀ x∈l,x∈g.2.2.1):Ei (g.1,g.2.1,l,g.2.2.2) now:=by
 obtain ⟨vr,h⟩:=h
 refine ⟨vr,?_⟩
 rw [ADm]
 refine h.drop fun x hx=>?_
 obtain ⟨y,hy,rfl⟩:=List.mem_map.1 hx
 exact List.mem_map.2 ⟨y,hl y hy,rfl⟩
theorem Ei.member {g:AS} {n:AE} {told l:List Bb} {at_:Int} {i:Int} (h6:g.2.1.length=6) (hi:1<=i/\i<=6) (hn:n.1=i) (h:Ei (BT g n told [] at_) at_) (hl:∀ x∈l,x∈g.2.2.1):Ei (BT (g.1,g.2.1,l,g.2.2.2) n told [] at_) at_:=by
 have:=Ei.sub (l:=l++told) h (fun x hx=>by
  rcases As.1 hx with q | q
  ·exact List.mem_append_left _ (hl x q)
  ·exact List.mem_append_right _ q)
 exact this
theorem Ei.fin {g:AS} {m:AE} {at_:Int} {i:Int} {vr:Nat->Int} (h6:g.2.1.length=6) (hi:1<=i/\i<=6) (hn:0<=at_) (hm:m.1=i) (hp:(pg g).mem i=pm m) (h:ul (vw g.1) (g.1.length:Int) (pg g) vr at_)
  (ho:m.2.2.2.2.2.2.2.2.2.1≠0) (hl:m.2.2.2.2.2.2.2.2.2.2.2.2.2=[]) (hown:N4 m.2.2.2.2.2.2.2.1 (1000*m.2.1+m.2.2.2.2.2.2.2.2.1)):Ei (BT g (B9 m).2 [] (B9 m).1 at_) at_:=by
 obtain ⟨k,c,q1,q2,q3,q4⟩:=h.fin (i:=i) hn (by rw [hp]; exact ho) (by rw [hp]; exact hl) (by rw [hp]; exact hown)
 refine ⟨vr,?_⟩
 rw [AEQ h6 hi hm hp (by rw [<- hp]; exact q1) q2 q3]
 exact q4
theorem AAK {g:AS} {m:AE} {i:Nat} {at_:Int} (h6:g.2.1.length=6) (hi:i<6) (hm:Az g i=m) (hid:m.1=(i:Int)+1):BT g m [] [] at_=g:=by
 unfold BT
 rw [hid,show ((i:Int)+1-1).toNat=i by omega,List.append_nil,List.foldl_nil]
 have:g.2.1.set i m=g.2.1:=by
  rw [<- hm]
  unfold Az
  rw [AW (show i<g.2.1.length by omega)]
  exact List.set_getElem_self _
 rw [this]
theorem Ei.deliver {g:AS} {k:Nat} {at_:Int} {j:Nat} (hg:Iz g k) (h3:V3 g) (h:Ei g at_) (ha:0<=at_) (hj:j<g.2.2.1.length):Ei (Is g j at_) at_:=by
 have hmem:g.2.2.1.getD j DJ∈g.2.2.1:=by rw [AW hj]; exact BZ _
 have hx:=hg.fly _ hmem
 have hx2:=h3.fly _ hmem
 have hto:=hx.to
 unfold Is
 generalize g.2.2.1.getD j DJ=x at *
 obtain ⟨m1,m2⟩:=hg.mem (x.2.2.1-1).toNat (by omega)
 have hv1:=h3.mem (x.2.2.1-1).toNat (by omega)
 have hid:(Az g (x.2.2.1-1).toNat).1=x.2.2.1:=by rw [m2]; omega
 have hp:(pg g).mem (Az g (x.2.2.1-1).toNat).1=pm (Az g (x.2.2.1-1).toNat):=by rw [hid,Ta hto]
 have hs:=ABX (g:=pg g) hg.views m1 hv1 hx2 hx hp (List.mem_map.2 ⟨x,hmem,rfl⟩)
 have hids:(D3 (Az g (x.2.2.1-1).toNat) g.1 x).1.1=x.2.2.1:=by rw [(P4 (x:=x) m1 hg.views).id,hid]
 have hvw:=ACd hg.views
 have h6:=hg.six
 have hsub:=wK (g:=g) (i:=j)
 obtain ⟨vr,hall⟩:=h
 generalize hr:D3 (Az g (x.2.2.1-1).toNat) g.1 x=r at *
 clear hr
 cases hs with
 | none =>
  refine Ei.member (l:=(Fd g j).2.2.1) h6 hto hid ?_ hsub
  rw [AAK h6 (show (x.2.2.1-1).toNat<6 by omega) rfl m2]
  exact ⟨vr,hall⟩
 | step n T hs =>
  refine Ei.member (l:=(Fd g j).2.2.1) h6 hto hids ⟨vr,?_⟩ hsub
  rw [rL h6 hto hids]
  rw [hid] at hs
  exact hall.mstep hvw hs
 | done n hs h1 h2 h3' h4 =>
  have hn:n.1=x.2.2.1:=by rw [h1,hid]
  have hstep:Ei (BT (Fd g j) n [] [] at_) at_:=Ei.member (l:=(Fd g j).2.2.1) h6 hto hn ⟨vr,by
   rw [rL h6 hto hn]
   rw [hid] at hs
   exact hall.mstep hvw hs⟩ hsub
  obtain ⟨vr2,hall2⟩:=hstep
  have hlead:n.2.2.2.2.1=true/\n.2.2.2.1=true:=by
   have hp2:(pg (BT (Fd g j) n [] [] at_)).mem x.2.2.1=pm n:=by rw [oE (g:=Fd g j) (show (Fd g j).2.1.length=6 from h6) hto hn,if_pos rfl]
   have t:=hall2.a.task x.2.2.1 (by rw [hp2]; exact h2)
   have s:=hall2.a.serv x.2.2.1 t.1
   rw [hp2] at s
   exact ⟨s.2.1,s.1⟩
  have hfin:=Ei.fin (g:=BT (Fd g j) n [] [] at_) (m:=n) (at_:=at_) (i:=x.2.2.1) (vr:=vr2) (by show (List.set _ _ _).length=6; rw [List.length_set]; exact h6) hto ha hn (by rw [oE (g:=Fd g j) (show (Fd g j).2.1.length=6 from h6) hto hn,if_pos rfl]) hall2 h2 h3' (by
   rw [h4.1,h4.2.1,h4.2.2.1]
   exact hv1.own (by rw [<- h4.2.2.2.2]; exact hlead.1) (by rw [<- h4.2.2.2.1]; exact hlead.2))
  have e:BT (BT (Fd g j) n [] [] at_) (B9 n).2 [] (B9 n).1 at_=BT (Fd g j) (B9 n).2 [] (B9 n).1 at_:=by
   unfold BT
   dsimp only
   rw [(uh n).2.2,List.set_set,List.append_nil,List.append_nil,List.foldl_nil]
  rw [<- e]
  exact hfin
theorem Ei.adopt {g:AS} {k:Nat} {at_ node:Int} (hg:Iz g k) (h:Ei g at_) (hn:1<=node/\node<=6):∀ (n:Nat) (e:Int),Ei (Jr g at_ (Az g (node-1).toNat) node n e).2 at_
 | 0,_=>h
 | n+1,e=>by
  unfold Jr
  split
  ·exact Ei.adopt hg h hn n (e+1)
  ·split
   ·rename_i hb
    obtain ⟨m1,m2⟩:=hg.mem (node-1).toNat (by omega)
    have hid:(Az g (node-1).toNat).1=node:=by rw [m2]; omega
    have hids:(Ft (Az g (node-1).toNat) g.1 e).1.1=node:=by rw [(XS (e:=e) m1 hg.views hb).2.1,hid]
    obtain ⟨vr,hall⟩:=h
    refine ⟨vr,?_⟩
    rw [rL hg.six hn hids]
    refine hall.mstep (ACd hg.views) ?_
    have hp:(pg g).mem node=pm (Az g (node-1).toNat):=Ta hn
    generalize Az g (node-1).toNat=m at *
    unfold Ft at hb ⊢
    split at hb
    ·rename_i hc
     rw [if_pos hc]
     have hw:=hg.views.wok (i:=(e-1).toNat) (by omega)
     split
     ·rename_i h2
      simp only [AD,beq_iff_eq] at h2
      have:=Cy.had (V:=vw g.1) (nv:=(g.1.length:Int)) (g:=pg g) (i:=node) e (by rw [hp]; show e=m.2.1+1; omega) (by rw [hp]; exact h2.1.1) (by rw [yP,<- hid]; exact hc.2.2.2) hc.2.1 (D2 (g.1.getD (e-1).toNat []) m.1) (fun k=>by rw [iv hw,hid]; exact Iff.rfl)
       (((CG (g.1.getD (e-1).toNat []) m.1).map (fun v=>((3:Int),m.1,v,e,(0:Int),m.2.2.2.2.2.2.2.1))).map px) (fun y hy=>by
        obtain ⟨z,hz,rfl⟩:=List.mem_map.1 hy
        obtain ⟨v,_,rfl⟩:=List.mem_map.1 hz
        exact ⟨rfl,rfl,by rw [hp]; rfl,hid⟩)
      rw [hp] at this
      unfold Tg
      rw [ADl]
      exact this
     ·have:=Cy.took (V:=vw g.1) (nv:=(g.1.length:Int)) (g:=pg g) (i:=node) e (by rw [hp]; exact hc.2.2.1) (by rw [yP,<- hid]; exact hc.2.2.2) hc.2.1 (((CG (g.1.getD (e-2).toNat []) m.1).map (fun v=>((1:Int),m.1,v,e,(0:Int),([]:List AP)))).map px) (fun y hy=>by
        obtain ⟨z,hz,rfl⟩:=List.mem_map.1 hy
        obtain ⟨v,_,rfl⟩:=List.mem_map.1 hz
        exact ⟨rfl,rfl,rfl⟩)
      rw [hp] at this
      exact this
    ·cases hb
   ·exact h
theorem Ei.fall {g:AS} {k:Nat} {at_ node:Int} (hg:Iz g k) (h:Ei g at_) (hn:1<=node/\node<=6):Ei (BT g (XT (Az g (node-1).toNat)) [] [] at_) at_:=by
 obtain ⟨m1,m2⟩:=hg.mem (node-1).toNat (by omega)
 obtain ⟨vr,hall⟩:=h
 refine ⟨vr,?_⟩
 rw [rL hg.six hn (by show (Az g (node-1).toNat).1=node; rw [m2]; omega)]
 have:=Cy.fall (V:=vw g.1) (nv:=(g.1.length:Int)) (g:=pg g) (i:=node)
 rw [Ta hn] at this
 exact hall.mstep (ACd hg.views) this
theorem Ei.begin {g:AS} {k:Nat} {at_:Int} {e:EX} (hg:Iz g k) (h3:V3 g) (h:Ei g at_) (ha:0<=at_) (hn:1<=e.2.1/\e.2.1<=6):Ei (Ky g at_ e).2 at_:=by
 obtain ⟨vr,hall⟩:=h
 unfold Ky
 split
 ·rename_i hb
  obtain ⟨m1,m2⟩:=hg.mem (e.2.1-1).toNat (by omega)
  have hv1:=h3.mem (e.2.1-1).toNat (by omega)
  have hid:(Az g (e.2.1-1).toNat).1=e.2.1:=by rw [m2]; omega
  have hp:(pg g).mem e.2.1=pm (Az g (e.2.1-1).toNat):=Ta hn
  have h6:(ID g at_ e).2.1.length=6:=hg.six
  generalize Az g (e.2.1-1).toNat=m at *
  unfold D4 at hb ⊢
  split at hb
  case isFalse=>cases hb
  rename_i hmay
  rw [if_pos hmay]
  split at hb
  case isTrue=>cases hb
  rename_i hput
  rw [if_neg hput]
  obtain ⟨s1,s2,s3,s4,s5,s6,s7,s8,s9,s10⟩:=ew hmay
  have hok:=uS (key:=e.2.2.2.2.1) (val:=e.2.2.2.2.2) m1 s3 s6 s7
  have hone:=(DE.1 hok).1 _ (Cl.2 rfl)
  have hser:=m1.serves s1
  have hown:=hv1.own hser.2.1 hser.1
  have hcnt:=m1.count
  have hep:=m1.ep
  have hw:=hg.views.wok (i:=(m.2.1-1).toNat) (by omega)
  have hL:∀ k,k∈D2 (g.1.getD (m.2.1-1).toNat []) m.1↔k∈vw g.1 ((pg g).mem e.2.1).ep/\k≠e.2.1:=fun k=>by
   rw [iv hw,hp,hid]; exact Iff.rfl
  have hpp:e.2.2.2.1=1->BR (Aq ((pg g).mem e.2.1).items (HF m e.2.2.2.2.1 e.2.2.2.2.2)) (HF m e.2.2.2.2.1 e.2.2.2.2.2).1=HF m e.2.2.2.2.1 e.2.2.2.2.2:=fun ho=>by
   rw [hp]
   show BR (Aq m.2.2.2.2.2.2.2.1 _) _=_
   have hvl:N4 m.2.2.2.2.2.2.2.1 ((HF m e.2.2.2.2.1 e.2.2.2.2.2).2.2-1):=hown.mono (by show _<=1000*m.2.1+(m.2.2.2.2.2.2.2.2.1+1)-1; omega)
   have hr:=uc m1.items hone hvl
   have hpn:=AAt m1.items hone hvl
   rw [hpn]
   by_cases hf:m.2.2.2.2.2.2.2.1.length=12/\Jt m.2.2.2.2.2.2.2.1 (HF m e.2.2.2.2.1 e.2.2.2.2.2).1=false
   ·exfalso
    refine hput ⟨ho,?_⟩
    rw [hf.2,decide_eq_true hf.1] at hr
    exact hr
   ·rw [if_neg hf]
    exact PA (ii _ (DE.1 m1.items).2.1) uO
  have hst:∀ (T:List Bb),(∀ y∈T.map px,(y.kind=5/\e.2.2.2.1=1/\y.items=[HF m e.2.2.2.2.1 e.2.2.2.2.2]\/y.kind=7/\e.2.2.2.1=2/\y.items=[])/\y.ep=((pg g).mem e.2.1).ep/\y.num=((pg g).mem e.2.1).cnt+1/\y.frm=e.2.1) ->
    Ei (BT (ID g at_ e) (HN m (g.1.getD (m.2.1-1).toNat []) e.2.2.2.1 (g.2.2.2.length:Int) e.2.2.2.2.1 e.2.2.2.2.2) T [] at_) at_:=fun T hT=>by
   have:=hall.start (i:=e.2.1) (c:=pc (e.2.2.2.1,e.2.2.2.2.1,e.2.2.2.2.2,at_,-1,0,0,0,O)) (L:=D2 (g.1.getD (m.2.1-1).toNat []) m.1) (a:=HF m e.2.2.2.2.1 e.2.2.2.2.2) (T:=T.map px) rfl rfl (by rw [hp]; exact s1) (by rw [hp]; exact s2) s4 (by rw [hp]; exact s3) hL (by rw [hp]; rfl) hpp hok hT
   refine ⟨vrN (pg g) e.2.1 vr,?_⟩
   have e2:pg (BT (ID g at_ e) (HN m (g.1.getD (m.2.1-1).toNat []) e.2.2.2.1 (g.2.2.2.length:Int) e.2.2.2.2.1 e.2.2.2.2.2) T [] at_)=Bq (pg g) e.2.1 (pc (e.2.2.2.1,e.2.2.2.2.1,e.2.2.2.2.2,at_,-1,0,0,0,O)) (D2 (g.1.getD (m.2.1-1).toNat []) m.1) (HF m e.2.2.2.2.1 e.2.2.2.2.2) (T.map px):=by
    refine PG.same (fun j=>?_) ?_ ?_
    ·rw [oE (g:=ID g at_ e) h6 hn (show (HN m _ _ _ _ _).1=e.2.1 from hid)]
     show _=if j=e.2.1 then Qt (pg g) e.2.1 _ _ _ else _
     unfold Qt
     rw [hp]
     have:(pg g).calls.length=g.2.2.2.length:=List.length_map _
     rw [this]
     rfl
    ·show (g.2.2.1++T).map px=g.2.2.1.map px++T.map px
     rw [List.map_append]
    ·show (g.2.2.2++[_]).map pc=g.2.2.2.map pc++[_]
     rw [List.map_append]; rfl
   rw [e2]
   exact this
  unfold TX
  split
  ·rename_i hoth
   obtain ⟨vr2,hall2⟩:=hst [] (fun y hy=>by cases hy)
   have hfin:=Ei.fin (g:=BT (ID g at_ e) (HN m (g.1.getD (m.2.1-1).toNat []) e.2.2.2.1 (g.2.2.2.length:Int) e.2.2.2.2.1 e.2.2.2.2.2) [] [] at_) (m:=HN m (g.1.getD (m.2.1-1).toNat []) e.2.2.2.1 (g.2.2.2.length:Int) e.2.2.2.2.1 e.2.2.2.2.2) (at_:=at_) (i:=e.2.1) (vr:=vr2) (by show (List.set _ _ _).length=6; rw [List.length_set]; exact h6) hn ha hid (by rw [oE (g:=ID g at_ e) h6 hn (show (HN m _ _ _ _ _).1=e.2.1 from hid),if_pos rfl]) hall2 (by show e.2.2.2.1≠0; omega) hoth (hown.mono (by show _<=1000*m.2.1+(m.2.2.2.2.2.2.2.2.1+1); omega))
   have e3:∀ (n t:AE) (s:List DR),n.1=t.1->BT (BT (ID g at_ e) t [] [] at_) n [] s at_=BT (ID g at_ e) n [] s at_:=fun n t s hnt=>by
    unfold BT
    dsimp only
    rw [hnt,List.set_set,List.append_nil,List.append_nil,List.foldl_nil]
   rw [e3 _ _ _ (uh _).2.2] at hfin
   exact hfin
  ·refine hst _ fun y hy=>?_
   obtain ⟨z,hz,rfl⟩:=List.mem_map.1 hy
   unfold uR at hz
   obtain ⟨v,_,rfl⟩:=List.mem_map.1 hz
   rw [hp]
   refine ⟨?_,rfl,rfl,hid⟩
   rcases s4 with q | q
   ·rw [if_pos q,if_pos q]; exact .inl ⟨rfl,q,rfl⟩
   ·rw [if_neg (by omega),if_neg (by omega)]; exact .inr ⟨rfl,q,rfl⟩
 ·refine ⟨vr,?_⟩
  have:=hall.call (c:=pc (e.2.2.2.1,e.2.2.2.2.1,e.2.2.2.2.2,at_,-1,0,0,0,O)) rfl rfl
  have e2:pg (ID g at_ e)={ pg g with calls:=(pg g).calls++[pc (e.2.2.2.1,e.2.2.2.2.1,e.2.2.2.2.2,at_,-1,0,0,0,O)] }:=by
   refine PG.same (fun j=>rfl) rfl ?_
   show (g.2.2.2++[_]).map pc=g.2.2.2.map pc++[_]
   rw [List.map_append]; rfl
  exact e2▸this
theorem Ei.event {g:AS} {k:Nat} (hg:Iz g k) (h3:V3 g) {at_:Int} (h:Ei g at_) (ha:0<=at_) {e:EX} (he:MA e=true):Ei (uU g at_ e).2 at_:=by
 have hn:=la he
 unfold uU
 split
 ·exact h.begin hg h3 ha (by omega)
 ·split
  ·exact Ei.adopt hg h (by omega) _ _
  ·split
   ·exact h.fall hg (by omega)
   ·unfold iq
    split
    ·exact h
    ·rename_i hne
     have hl:0<g.2.2.1.length:=by
      cases hq:g.2.2.1 with
      | nil=>exact absurd hq hne
      | cons a l=>simp
     have hlt:(e.2.2.1 % (g.2.2.1.length:Int)).toNat<g.2.2.1.length:=by
      have h1:=Int.emod_lt_of_pos e.2.2.1 (show (0:Int)<(g.2.2.1.length:Int) by omega)
      have h2:=Int.emod_nonneg e.2.2.1 (show (g.2.2.1.length:Int)≠0 by omega)
      omega
     split
     ·refine Ei.sub h fun x hx=>?_
      rcases As.1 hx with h1 | h1
      ·exact h1
      ·simp only [Cl] at h1
       rw [h1,AW hlt]
       exact BZ _
     ·split
      ·exact Ei.sub (l:=(Fd g _).2.2.1) h wK
      ·exact h.deliver hg h3 ha hlt
theorem Ei.new {views:List (List Int)} (hv:TV views):Ei (Ai views) 0:=by
 unfold Ei
 have hvl:=hv.len
 have hm:∀ i,(1<=i/\i<=6/\(pg (Ai views)).mem i=pm (E0 i views))\/(pg (Ai views)).mem i=oD:=fun i=>by
  by_cases h:1<=i/\i<=6
  ·left
   refine ⟨h.1,h.2,?_⟩
   rw [Ta h]
   have h5:i=1\/i=2\/i=3\/i=4\/i=5\/i=6:=by omega
   rcases h5 with rfl | rfl | rfl | rfl | rfl | rfl<;>rfl
  ·exact .inr (if_neg h)
 have hfirst:=uV hv (e:=1) (by omega) (by omega) rfl
 have key:∀ i,((pg (Ai views)).mem i).ep=1/\((pg (Ai views)).mem i).fell=false/\(((pg (Ai views)).mem i).base=true↔1<=i/\i<=6/\(views.getD 0 []).contains i=true)/\(((pg (Ai views)).mem i).leads=true->R6 views 1=i/\((pg (Ai views)).mem i).base=true)/\((pg (Ai views)).mem i).serves=((pg (Ai views)).mem i).leads/\((pg (Ai views)).mem i).waits=[]/\((pg (Ai views)).mem i).items=[]/\((pg (Ai views)).mem i).cnt=0/\((pg (Ai views)).mem i).op=0:=fun i=>by
  rcases hm i with ⟨h1,h2,h⟩ | h
  ·rw [h]
   refine ⟨rfl,rfl,⟨fun h=>⟨h1,h2,h⟩,fun h=>h.2.2⟩,fun hl=>?_,rfl,rfl,rfl,rfl,rfl⟩
   have:(views.getD 0 []).getD 0 0=i:=by
    have:((views.getD 0 []).getD 0 0==i)=true:=hl
    simpa using this
   refine ⟨this,?_⟩
   have hf:R6 views 1=i:=this
   rw [hf] at hfirst
   exact hfirst
  ·rw [h]
   refine ⟨rfl,rfl,⟨fun h=>(by cases h),fun hh=>?_⟩,fun h=>(by cases h),rfl,rfl,rfl,rfl,rfl⟩
   have:=Ta (g:=Ai views) ⟨hh.1,hh.2.1⟩
   exfalso
   rcases hm i with ⟨q1,q2,q⟩ | q
   ·rw [h] at q
    have:oD.base=(pm (E0 i views)).base:=by rw [q]
    have h2:(pm (E0 i views)).base=true:=hh.2.2
    rw [h2] at this
    cases this
   ·have h5:i=1\/i=2\/i=3\/i=4\/i=5\/i=6:=by omega
    have h7:(pm (E0 i views))=oD:=by
     rw [<- q,Ta ⟨hh.1,hh.2.1⟩]
     rcases h5 with rfl | rfl | rfl | rfl | rfl | rfl<;>rfl
    have:oD.base=(pm (E0 i views)).base:=by rw [h7]
    have h2:(pm (E0 i views)).base=true:=hh.2.2
    rw [h2] at this
    cases this
 have hfly:(pg (Ai views)).fly=[]:=rfl
 have hcal:(pg (Ai views)).calls=[]:=rfl
 have hview:∀ k∈views.getD 0 [],1<=k/\k<=6:=(hv.wok (i:=0) (by omega)).mem
 have hvw1:vw (Ai views).1 1=views.getD 0 []:=rfl
 have hg1:(Ai views).1=views:=rfl
 generalize pg (Ai views)=g at *
 refine ⟨fun _=>0,⟨?_,?_,?_,?_,?_,?_⟩⟩
 ·refine ⟨fun i=>?_,fun i h=>?_,fun i h=>?_,fun i h=>?_,fun i h=>?_,fun i=>?_,fun i h=>?_⟩<;>obtain ⟨k1,k2,k3,k4,k5,k6,k7,k8,k9⟩:=key i
  ·omega
  ·rw [k1,hg1]; exact ⟨by omega,(k4 h).1⟩
  ·rw [k1,hg1]; exact ⟨by omega,List.contains_iff_mem.1 (k3.1 h).2.2⟩
  ·rw [k5] at h; exact ⟨(k4 h).2,h,k6⟩
  ·exact absurd k9 h
  ·omega
  ·rw [k2] at h; cases h
 ·refine ⟨fun i _ d h1 h2=>?_,fun x hx=>by rw [hfly] at hx; cases hx⟩
  rw [(key i).1] at h2; omega
 ·refine ⟨fun k h=>absurd rfl h,fun k l h=>absurd rfl h,fun _ _=>rfl,fun i h=>absurd (key i).2.2.2.2.2.2.2.2 h,?_,?_,?_,fun i h=>absurd (key i).2.2.2.2.2.2.2.2 h,?_⟩
  ·intro k c h; rw [hcal] at h; cases h
  ·intro k c h; rw [hcal] at h; cases h
  ·intro x h; rw [hfly] at h; cases h
  ·intro k l a b h; rw [hcal] at h; cases h
 ·refine ⟨fun i h1 h2 k hk h3 h4=>?_,fun x hx=>by rw [hfly] at hx; (cases hx),fun k e n h=>absurd rfl h,fun k hk=>?_,fun x hx=>by rw [hfly] at hx; (cases hx)⟩
  ·rw [(key i).1] at hk ⊢
   have:=hview k hk
   exact .inr ⟨(key k).1,.inl ((key k).2.2.1.2 ⟨this.1,this.2,List.contains_iff_mem.2 hk⟩)⟩
  ·rw [(key k).1,(key _).1]
   exact ⟨Int.le_refl _,fun _ h=>((key _).2.2.2.1 h).2⟩
 ·refine ⟨fun i=>by rw [(key i).2.2.2.2.2.2.1]; rfl,fun x hx=>by rw [hfly] at hx; (cases hx),fun i _ _ _ x hx=>by rw [hfly] at hx; (cases hx),fun i _ _ j _ _=>.inl (by rw [(key i).2.2.2.2.2.2.1,(key j).2.2.2.2.2.2.1]),fun i h=>?_,fun x hx=>by rw [hfly] at hx; (cases hx),fun i h=>?_⟩
  ·rw [(key i).2.2.2.2.2.2.2.2] at h; exact absurd h (by decide)
  ·rw [(key i).2.2.2.2.2.2.2.2] at h; exact absurd h (by decide)
 ·refine ⟨?_,?_,fun i h=>absurd (key i).2.2.2.2.2.2.2.2 h,?_,?_,?_,?_,?_,?_⟩
  ·intro k c h; rw [hcal] at h; cases h
  ·intro k c h; rw [hcal] at h; cases h
  ·intro k l a b h; rw [hcal] at h; cases h
  ·intro k c h; rw [hcal] at h; cases h
  ·intro i y hy; rw [(key i).2.2.2.2.2.2.1] at hy; cases hy
  ·intro x h; rw [hfly] at h; cases h
  ·intro i h; rw [(key i).2.2.2.2.2.2.2.2] at h; exact absurd h (by decide)
  ·intro k c h; rw [hcal] at h; cases h
theorem Ei.run:∀ (es:List EX) (n:Nat) (g:AS) (cs:List Int),Iz g n->V3 g->Ei g (n:Int)->n+es.length<=70->(∀ e∈es,MA e=true)->Ei (Js n es g cs).1 70
 | [],n,g,cs,_,_,h,hn,_=>h.later (by simp only [List.length_nil] at hn; omega)
 | e::es,n,g,cs,hg,h3,h,hn,he=>by
  simp only [List.length_cons] at hn
  obtain ⟨h2,_⟩:=hg.event (at_:=(n:Int)) (he e (by simp))
  exact Ei.run es (n+1) _ _ h2 (h3.event hg (by omega) (he e (by simp))) ((h.event hg h3 (by omega) (he e (by simp))).later (by omega)) (by omega) (fun x hx=>he x (by simp [hx]))

def gN:Nat->AS->AS
 | 0,g=>g
 | n+1,g=>if 0<g.2.2.1.length then gN n (Is g 0 70) else g
theorem XX (g:AS) (k:Nat) (hg:Iz g k) (hk:k<=10000):Jg g=some (true,g):=dR (by
 have h6:=hg.six
 have hf:=hg.flen
 unfold Pn
 refine E3 (n:=g.2.1.length) (P:=fun i=>E8 g.2.1 (g.2.1.length:Int) (i:Int) g=some (true,g)) (MX ?_) (fun i hi ih=>MX (by
  unfold Hr
  have hm:=(hg.mem i (by omega)).2
  rw [if_pos (by simpa using hi),if_pos (by omega),if_pos (by omega),AM (by omega),Aj]
  change (if ((Az g i).1 != _)=true then _ else _)=_
  rw [hm,if_neg (by simp)]
  exact ih)) 0 (by omega)
 unfold Hr
 rw [if_neg (by simp)]
 refine Wm ?_
 unfold MV
 refine E3 (n:=g.2.2.1.length) (P:=fun i=>E7 g.2.2.1 (g.2.2.1.length:Int) (i:Int) g=some (true,g)) (MW ?_) (fun i hi ih=>MW (by
  unfold Hq
  have hz:g.2.2.1.getD i ((0:Int),(0:Int),(0:Int),(0:Int),(0:Int),([]:List AP))=g.2.2.1[i]:=AW hi
  have hto:=(hg.fly _ (BZ hi)).to
  simp only [show ((i:Int)<(g.2.2.1.length:Int)) from by omega,decide_true,if_true,show (0:Int)<=(i:Int) from by omega,Aj,hz,AM (show i<9223372036854775807 by omega)]
  rw [GB,Y,decide_eq_true hto.1,decide_eq_true hto.2,if_neg (by simp)]
  exact ih)) 0 (by omega)
 unfold Hq
 rw [if_neg (by simp)]
 refine Wl ?_
 unfold MU
 rw [if_pos (by rw [h6]; rfl),FD hg.views,Y])
theorem Iz.deliver {g:AS} {k:Nat} (hg:Iz g k) {j:Nat} (hj:j<g.2.2.1.length) (at_:Int):Iz (Is g j at_) (k+1):=by
 have hmem:g.2.2.1.getD j DJ∈g.2.2.1:=by rw [AW hj]; exact BZ _
 have hto:=(hg.fly _ hmem).to
 unfold Is
 generalize g.2.2.1.getD j DJ=x at *
 obtain ⟨m1,m2⟩:=hg.mem (x.2.2.1-1).toNat (by omega)
 have hh:=P4 (x:=x) m1 hg.views
 exact (hg.less j).member (i:=(x.2.2.1-1).toNat) (by omega) hh.mok (by rw [hh.id,m2]) (AAl hh.told) hh.tlen
theorem V3.deliver {g:AS} {k:Nat} (h:V3 g) (hg:Iz g k) {j:Nat} (hj:j<g.2.2.1.length) {at_:Int} (ha:0<=at_):V3 (Is g j at_):=by
 have hmem:g.2.2.1.getD j DJ∈g.2.2.1:=by rw [AW hj]; exact BZ _
 have hto:=(hg.fly _ hmem).to
 have hx:=h.fly _ hmem
 unfold Is
 generalize g.2.2.1.getD j DJ=x at *
 obtain ⟨m1,m2⟩:=hg.mem (x.2.2.1-1).toNat (by omega)
 exact (h.less j).member (g:=Fd g j) hg.six (i:=(x.2.2.1-1).toNat) ha (by omega) (by rw [(P4 (x:=x) m1 hg.views).id,m2]) (ACU hg.views m1 (h.mem _ (by omega)) hx)
theorem yQ {g:AS} {j:Nat} {at_:Int}:(Is g j at_).1=g.1/\(Is g j at_).2.2.2.length=g.2.2.2.length:=by
 unfold Is BT
 exact ⟨rfl,YN _ _ _⟩
theorem za:∀ (n:Nat) (g:AS) (k:Nat),Iz g k->V3 g->Ei g 70->Iz (gN n g) (k+n)/\V3 (gN n g)/\Ei (gN n g) 70/\(gN n g).1=g.1/\(gN n g).2.2.2.length=g.2.2.2.length
 | 0,g,k,hg,h3,hp=>⟨hg,h3,hp,rfl,rfl⟩
 | n+1,g,k,hg,h3,hp=>by
  unfold gN
  split
  ·rename_i hl
   obtain ⟨q1,q2,q3,q4,q5⟩:=za n _ (k+1) (hg.deliver hl 70) (h3.deliver hg hl (by decide)) (hp.deliver hg h3 (by decide) hl)
   obtain ⟨d1,d2⟩:=yQ (g:=g) (j:=0) (at_:=70)
   exact ⟨by rw [show k+(n+1)=k+1+n by omega]; exact q1,q2,q3,q4.trans d1,q5.trans d2⟩
  ·refine ⟨⟨hg.views,hg.six,hg.mem,hg.fly,?_,?_⟩,h3,hp,rfl,rfl⟩
   ·have:=hg.flen; omega
   ·have:=hg.clen; omega
theorem vm (g:AS) (k:Nat) (hg:Iz g k) (hk:k<=100) (h3:V3 g) (n:Nat) (hn:n<=1000):ct g (n:Int)=some (gN n g):=zK (by
 unfold oh
 rw [HX g k hg (by omega),Y,XX g k hg (by omega),Y,if_neg (by simp),show min (n:Int) 1000=(n:Int) by omega]
 have key:∀ (n:Nat) (h:AS) (j:Nat),n<=1000->j+n<=1100->Iz h j->V3 h->NV (n:Int) g [] [] [] [] h.2.1 h.2.2.1 h.2.2.2 h.1=some (gN n h):=by
  intro n
  induction n with
  | zero =>
   intro h j hn hj hg h3
   refine cw ?_
   unfold S0
   rw [if_neg (by simp)]
   change ((C3 h).bind _)=_
   rw [HX h j hg (by omega),Y]
   rfl
  | succ n ih =>
   intro h j hn hj hg h3
   refine cw ?_
   unfold S0 gN
   rw [if_pos (decide_eq_true (by omega))]
   by_cases hl:0<h.2.2.1.length
   ·rw [if_pos (by simpa using hl),if_pos hl]
    change ((Ew ((0:Nat):Int) 70 h).bind _)=_
    rw [Mc 70 0 h j hg (by omega) h3 hl,Y,Ae (by omega),show ((n+1:Nat):Int)-1=(n:Int) by omega]
    exact ih _ (j+1) (by omega) (by omega) (hg.deliver hl 70) (h3.deliver hg hl (by decide))
   ·rw [if_neg (by simpa using hl),if_neg hl]
    change ((C3 h).bind _)=_
    rw [HX h j hg (by omega),Y]
 exact key n g k hn (by omega) hg h3)
end Go.Proofs.YtokiohnjegbnpaaGreat.Core
