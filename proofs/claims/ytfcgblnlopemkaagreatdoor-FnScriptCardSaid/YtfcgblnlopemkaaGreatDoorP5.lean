/- Texts of the proof, packed: part 6. -/
import Derived.Test.YtfcgblnlopemkaaGreatDoorP4
import Derived.JoinedOf
import Derived.Test.YtfcgblnlopemkaaGreatDoorRows
import Derived.ProofKit
set_option linter.unusedVariables false
set_option linter.unusedSimpArgs false
namespace Go.Proofs.YtfcgblnlopemkaaGreatDoor.Core
open Go
theorem xY (c x:UInt8) (l:List UInt8):cut c (x::l)=if x=c then []::cut c l else QJ [x] (cut c l):=rfl
theorem AC2 {c:UInt8}:∀ (a b:List UInt8),cut c (a++c::b)=cut c a++cut c b
 | [],b=>by rw [List.nil_append,xY,if_pos rfl]; rfl
 | x::a,b=>by
  rw [List.cons_append,xY,xY,AC2 a b]
  by_cases h:x=c
  ·rw [if_pos h,if_pos h]; rfl
  ·rw [if_neg h,if_neg h]
   cases hq:cut c a with
   | nil=>exact absurd hq (gf c a)
   | cons p q=>rfl
theorem zM:∀ (a:List (List UInt8)) {b:List (List UInt8)},b≠[]->aH (a++b)=a++aH b
 | [],_,_=>rfl
 | p::a,b,h=>by
  rw [List.cons_append,lU p (by intro e; exact h (List.append_eq_nil_iff.1 e).2),zM a h]
  rfl
def PB (l:List UInt8):List (List UInt8):=aH (cut 10 l)
theorem ADq (l:List UInt8):LW (Ch l)=(PB l).map Ch:=rfl
theorem Xx (a b:List UInt8):PB (a++10::b)=cut 10 a++PB b:=by
 unfold PB
 rw [AC2,zM _ (gf 10 b)]
theorem ADr (a:List UInt8):PB (a++[10])=cut 10 a:=by
 rw [Xx]
 simp [PB,cut,aH]
theorem xZ {ls:List ByteArray} {x:ByteArray} {i:Nat} {vs:List (List Int)} {es:List Ax} (h:Ix x vs es=some (vs,es)):rQ (x::ls) i vs es=rQ ls (i+1) vs es:=by
 rw [rQ,h]
theorem ADs (vs:List (List Int)) (es:List Ax):Ix (Ch [35,32,115,97,105,100]) vs es=some (vs,es):=by
 have e:Mv (Ch [35,32,115,97,105,100])=([Ch [35],Ch [115,97,105,100]],true):=by rfl
 unfold Ix
 rw [e]
 rfl
theorem ACJ (vs:List (List Int)) (es:List Ax):Ix (Ch [32,32,32]) vs es=some (vs,es):=by
 have e:Mv (Ch [32,32,32])=([],true):=by rfl
 unfold Ix
 rw [e]
 rfl
theorem ADt (vs:List (List Int)) (es:List Ax):Ix (Ch [32,32,35,32,109,111,114,101]) vs es=some (vs,es):=by
 have e:Mv (Ch [32,32,35,32,109,111,114,101])=([Ch [35],Ch [109,111,114,101]],true):=by rfl
 unfold Ix
 rw [e]
 rfl
theorem xb:∀ (ls ys:List ByteArray) (i j:Nat) (vs:List (List Int)) (es:List Ax),(∀ y∈ys,∀ vs es,Ix y vs es=some (vs,es))->(rQ ls i vs es).2.2=0->rQ (ls++ys) j vs es=rQ ls i vs es
 | [],[],i,j,vs,es,_,_=>rfl
 | [],y::ys,i,j,vs,es,hy,h=>by
  rw [List.nil_append,xZ (hy y (by simp) vs es)]
  have:=xb [] ys i (j+1) vs es (fun z hz=>hy z (by simp [hz])) h
  rw [List.nil_append] at this
  exact this
 | x::ls,ys,i,j,vs,es,hy,h=>by
  rw [List.cons_append]
  unfold rQ at h ⊢
  cases hs:Ix x vs es with
  | none=>rw [hs] at h; have h:(i:Int)+1=0:=h; omega
  | some r=>rw [hs] at h; exact xb ls ys (i+1) (j+1) r.1 r.2 hy h
def Mw:List UInt8:=[35,32,115,97,105,100,10,32,32,32,10]
def ABi:List UInt8:=[32,32,35,32,109,111,114,101,10]
theorem ACK (l:List UInt8) (ys:List ByteArray) (m:List UInt8) (hm:(PB m).map Ch=(PB l).map Ch++ys):LW (Ch (Mw++m))=Ch [35,32,115,97,105,100]::Ch [32,32,32]::((PB l).map Ch++ys):=by
 have e:Mw++m=[35,32,115,97,105,100]++10::([32,32,32]++10::m):=rfl
 rw [ADq,e,Xx,Xx,List.map_append,List.map_append,hm]
 rfl
theorem ABj {l m:List UInt8} {ys:List ByteArray} (hy:∀ y∈ys,∀ vs es,Ix y vs es=some (vs,es)) (hm:(PB m).map Ch=(PB l).map Ch++ys) (h:(AZ (Ch l)).2.2=0) :
  (AZ (Ch (Mw++m))).2.2=-1\/AZ (Ch (Mw++m))=AZ (Ch l):=by
 have hl:AZ (Ch l)=rQ ((PB l).map Ch) 0 [] []:=by
  unfold AZ at h ⊢
  split at h
  ·cases h
  ·rename_i hc
   rw [if_neg hc]
   rfl
 by_cases hc:4000<(Ch (Mw++m)).size\/100<(LW (Ch (Mw++m))).length
 ·left
  unfold AZ
  rw [if_pos hc]
 ·right
  rw [hl]
  rw [hl] at h
  unfold AZ
  rw [if_neg hc,ACK l ys m hm,xZ (ADs _ _),xZ (ACJ _ _)]
  exact xb _ ys 0 _ [] [] hy h
theorem AGR (n:Nat) (hn:n<=1000000) (c:Int):∃ b,UF (n:Int) c=some b/\b.size=n:=by
 have key:=Jy (n:=n) (P:=fun i=>∀ l:List Int,l.length=n->∃ b,Je (n:Int) c (i:Int) l=some b/\b.size=n) (fun l hl=>⟨Dp l,XA (by
  unfold OZ
  rw [if_neg (by simp)]),by simp [Dp,ByteArray.size,hl]⟩) (fun i hi ih l hl=>by
  obtain ⟨b,hb,hs⟩:=ih (l.set i c) (by simpa using hl)
  refine ⟨b,XA ?_,hs⟩
  unfold OZ
  rw [if_pos (by simp; omega),if_pos (by omega),if_pos (by omega),AO (by omega),Ab]
  exact hb) 0 (by omega) (List.replicate n 0) (by simp)
 obtain ⟨b,hb,hs⟩:=key
 refine ⟨b,wG ?_,hs⟩
 unfold fX
 rw [if_pos (by omega),if_pos (by omega),Ab]
 exact hb
theorem AFB {n:Int} (h:0<=n/\n<100):∃ b,BB n=some b/\b.size<=101:=by
 obtain ⟨q,rfl⟩:∃ q:Nat,n=(q:Int):=⟨n.toNat,by omega⟩
 refine ⟨_,HK (by omega),?_⟩
 rw [AS]
 unfold Go.Lib.itoa
 rw [if_neg (by omega)]
 have:=ACH (q:Int).toNat
 omega
theorem AGS {e:Ax} (he:IG e=true) (ha:e.2.2.1<20):∃ b,UE e=some b/\b.size<=200:=by
 have hn:=hY he
 obtain ⟨b1,d1,s1⟩:=AFB (n:=e.2.1) (by omega)
 obtain ⟨b2,d2,s2⟩:=AFB (n:=e.2.2.1) (by omega)
 have ask:e.1=1->e.2.2.2.2.1.size<=12/\e.2.2.2.2.2.size<=20:=fun h1=>by
  simp only [IG,AE] at he
  have:=he.2
  rw [if_pos h1] at this
  simp only [Xl,AE,Do,decide_eq_true_eq] at this
  omega
 have z4:(⟨#[112,117,116,32]⟩:ByteArray).size=4:=rfl
 have g4:(⟨#[103,101,116,32]⟩:ByteArray).size=4:=rfl
 have z1:(⟨#[32]⟩:ByteArray).size=1:=rfl
 have words:∀ i:Nat,2<=i->i<=6->(([(⟨#[]⟩:ByteArray),(⟨#[]⟩:ByteArray),(⟨#[100,101,108,105,118,101,114,32]⟩:ByteArray),(⟨#[100,114,111,112,32]⟩:ByteArray),(⟨#[99,111,112,121,32]⟩:ByteArray),(⟨#[97,100,111,112,116,32]⟩:ByteArray),(⟨#[102,97,108,108,32]⟩:ByteArray)]:List ByteArray).getD i U).size<=8:=by
  intro i h2 h6
  have:i=2\/i=3\/i=4\/i=5\/i=6:=by omega
  rcases this with rfl | rfl | rfl | rfl | rfl<;>decide
 have J1:∀ x0,e.1≠1\/x0=false->∃ b,OW x0 e ([(⟨#[]⟩:ByteArray),(⟨#[]⟩:ByteArray),(⟨#[100,101,108,105,118,101,114,32]⟩:ByteArray),(⟨#[100,114,111,112,32]⟩:ByteArray),(⟨#[99,111,112,121,32]⟩:ByteArray),(⟨#[97,100,111,112,116,32]⟩:ByteArray),(⟨#[102,97,108,108,32]⟩:ByteArray)]:List ByteArray)=some b/\b.size<=200:=by
  intro x0 _
  by_cases h1:e.1=1
  ·have hk:=ask h1
   refine ⟨(((⟨#[103,101,116,32]⟩:ByteArray)++b1)++(⟨#[32]⟩:ByteArray))++e.2.2.2.2.1,OY ?_,by simp only [ByteArray.size_append,g4,z1]; omega⟩
   unfold Jd
   rw [if_pos (by simp [h1]),d1,AA,if_pos (by rw [g4]; omega),if_pos (by simp only [ByteArray.size_append,g4,z1]; omega),if_pos (by simp only [ByteArray.size_append,g4,z1]; omega)]
  ·have hw:=words e.1.toNat (by omega) (by omega)
   by_cases h4:e.1<=4
   ·refine ⟨_,OY (r:=(([(⟨#[]⟩:ByteArray),(⟨#[]⟩:ByteArray),(⟨#[100,101,108,105,118,101,114,32]⟩:ByteArray),(⟨#[100,114,111,112,32]⟩:ByteArray),(⟨#[99,111,112,121,32]⟩:ByteArray),(⟨#[97,100,111,112,116,32]⟩:ByteArray),(⟨#[102,97,108,108,32]⟩:ByteArray)]:List ByteArray).getD e.1.toNat U)++b2) ?_,by rw [ByteArray.size_append]; omega⟩
    unfold Jd
    rw [if_neg (by simpa using h1),if_pos (by simpa using h4),if_pos (by omega),if_pos (by simp; omega),d2,AA,if_pos (by omega)]
   ·refine ⟨_,OY (r:=(([(⟨#[]⟩:ByteArray),(⟨#[]⟩:ByteArray),(⟨#[100,101,108,105,118,101,114,32]⟩:ByteArray),(⟨#[100,114,111,112,32]⟩:ByteArray),(⟨#[99,111,112,121,32]⟩:ByteArray),(⟨#[97,100,111,112,116,32]⟩:ByteArray),(⟨#[102,97,108,108,32]⟩:ByteArray)]:List ByteArray).getD e.1.toNat U)++b1) ?_,by rw [ByteArray.size_append]; omega⟩
    unfold Jd
    rw [if_neg (by simpa using h1),if_neg (by simpa using h4),if_pos (by omega),if_pos (by simp; omega),d1,AA,if_pos (by omega)]
 have J0:∀ x0,(x0=true->e.1=1)->∃ b,Jc x0 e ([(⟨#[]⟩:ByteArray),(⟨#[]⟩:ByteArray),(⟨#[100,101,108,105,118,101,114,32]⟩:ByteArray),(⟨#[100,114,111,112,32]⟩:ByteArray),(⟨#[99,111,112,121,32]⟩:ByteArray),(⟨#[97,100,111,112,116,32]⟩:ByteArray),(⟨#[102,97,108,108,32]⟩:ByteArray)]:List ByteArray)=some b/\b.size<=200:=by
  intro x0 hx
  cases x0 with
  | false =>
   obtain ⟨b,hb,hs⟩:=J1 false (.inr rfl)
   refine ⟨b,W_ ?_,hs⟩
   unfold OX
   rw [if_neg (by simp)]
   exact hb
  | true =>
   have hk:=ask (hx rfl)
   refine ⟨(((((⟨#[112,117,116,32]⟩:ByteArray)++b1)++(⟨#[32]⟩:ByteArray))++e.2.2.2.2.1)++(⟨#[32]⟩:ByteArray))++e.2.2.2.2.2,W_ ?_,by simp only [ByteArray.size_append,z4,z1]; omega⟩
   unfold OX
   rw [if_pos rfl,d1,AA,if_pos (by rw [z4]; omega),if_pos (by simp only [ByteArray.size_append,z4,z1]; omega),if_pos (by simp only [ByteArray.size_append,z4,z1]; omega),if_pos (by simp only [ByteArray.size_append,z4,z1]; omega),if_pos (by simp only [ByteArray.size_append,z4,z1]; omega)]
 suffices g:∃ b,Uv e=some b/\b.size<=200 from g.imp fun b g=>⟨wF g.1,g.2⟩
 unfold Uv
 by_cases h1:e.1=1
 ·rw [if_pos (by simp [h1])]
  exact J0 _ fun _=>h1
 ·rw [if_neg (by simpa using h1)]
  exact J0 false fun h=>by cases h

theorem AHm:(⟨#[44]⟩:ByteArray).size=1:=rfl
theorem ye:(⟨#[10]⟩:ByteArray).size=1:=rfl
theorem ACL:(⟨#[118,105,101,119,32]⟩:ByteArray).size=5:=rfl
theorem AC3:(⟨#[35,32,102,105,114,115,116,10]⟩:ByteArray).size=8:=rfl
theorem AFC:(⟨#[102,97,108,108,32,49,10]⟩:ByteArray).size=7:=rfl
theorem AHJ:(⟨#[35]⟩:ByteArray).size=1:=rfl
def Sh (r:Option (ByteArray×Iv)):Prop:=∃ y d',r=some (y,d')/\y.size<=60000
theorem xc (D:List (List Int)×List Ax) (d:Iv):∀ (k i:Nat) (s:ByteArray),i+k=70->s.size<=40000+7*i->Sh (Hc s (i:Int) d D)
 | 0,i,s,hk,hs=>⟨s,d,Sd (by
  unfold LC
  rw [if_neg (by rw [decide_eq_false (by omega)]; simp)]),by omega⟩
 | k+1,i,s,hk,hs=>by
  obtain ⟨y,d',e,h⟩:=xc D d k (i+1) (s++⟨#[102,97,108,108,32,49,10]⟩) (by omega) (by rw [ByteArray.size_append,AFC]; omega)
  refine ⟨y,d',Sd ?_,h⟩
  unfold LC
  rw [if_pos (decide_eq_true (by omega)),if_pos (by rw [AFC]; omega),AO (by omega)]
  exact e
theorem xd (D:List (List Int)×List Ax) (d:Iv):∀ (k i:Nat) (s:ByteArray),i+k=100->s.size<=40000+7*i->Sh (Hd s (i:Int) d D)
 | 0,i,s,hk,hs=>⟨s,d,Se (by
  unfold LD
  rw [if_neg (by rw [decide_eq_false (by omega)]; simp)]),by omega⟩
 | k+1,i,s,hk,hs=>by
  obtain ⟨y,d',e,h⟩:=xd D d k (i+1) (s++⟨#[10]⟩) (by omega) (by rw [ByteArray.size_append,ye]; omega)
  refine ⟨y,d',Se ?_,h⟩
  unfold LD
  rw [if_pos (decide_eq_true (by omega)),if_pos (by rw [ye]; omega),AO (by omega)]
  exact e
theorem AGT (D:List (List Int)×List Ax) (d:Iv) (hd:YG d) (s:ByteArray) (h1:1<=s.size) (hs:s.size<=40000):Sh (LA s d D):=by
 suffices g:Sh (LE s d D) from by
  obtain ⟨y,d',e,h⟩:=g
  exact ⟨y,d',ia e,h⟩
 unfold LE
 obtain ⟨v,d1,e1,k1,v0,v1⟩:=Be 30 d hd
 rw [e1,AA]
 dsimp only
 by_cases c0:v=0
 ·rw [if_pos (by simpa using c0),if_pos (by rw [AC3]; omega)]
  exact ⟨_,_,rfl,by rw [ByteArray.size_append,AC3]; omega⟩
 rw [if_neg (by simpa using c0)]
 by_cases c1:v=1
 ·obtain ⟨p,d2,e2,k2,hp⟩:=HH [(⟨#[]⟩:ByteArray),(⟨#[10]⟩:ByteArray),(⟨#[35]⟩:ByteArray),(⟨#[118,105,101,119,32,48,10]⟩:ByteArray),(⟨#[118,105,101,119,32,49,44,49,10]⟩:ByteArray),(⟨#[118,105,101,119,10]⟩:ByteArray),(⟨#[103,101,116,32,49,32,97,10]⟩:ByteArray),(⟨#[118,105,101,119,32,49]⟩:ByteArray),(⟨#[118,105,101,119,32,48,49,10]⟩:ByteArray)] (by simp) d1 k1
  rw [if_pos (by simpa using c1),e2,AA]
  have hps:∀ q∈([(⟨#[]⟩:ByteArray),(⟨#[10]⟩:ByteArray),(⟨#[35]⟩:ByteArray),(⟨#[118,105,101,119,32,48,10]⟩:ByteArray),(⟨#[118,105,101,119,32,49,44,49,10]⟩:ByteArray),(⟨#[118,105,101,119,10]⟩:ByteArray),(⟨#[103,101,116,32,49,32,97,10]⟩:ByteArray),(⟨#[118,105,101,119,32,49]⟩:ByteArray),(⟨#[118,105,101,119,32,48,49,10]⟩:ByteArray)]:List ByteArray),q.size<=20:=by decide
  exact ⟨_,_,rfl,by have:=hps p hp; show p.size<=60000; omega⟩
 rw [if_neg (by simpa using c1)]
 by_cases c2:v=2
 ·have w:IntKind.i64.wrap ((s.size:Int)-1)=(s.size:Int)-1:=Aa (by omega)
  rw [if_pos (by simpa using c2),w,if_pos (by omega),if_pos (by omega),if_pos (by omega)]
  exact ⟨_,_,rfl,by rw [KT,AS,zC,List.length_drop,List.length_take]; have:=Dg s; omega⟩
 rw [if_neg (by simpa using c2)]
 by_cases c3:v=3
 ·rw [if_pos (by simpa using c3)]
  exact xc D d1 70 0 s (by omega) (by omega)
 rw [if_neg (by simpa using c3)]
 by_cases c4:v=4
 ·rw [if_pos (by simpa using c4)]
  exact xd D d1 100 0 s (by omega) (by omega)
 rw [if_neg (by simpa using c4)]
 by_cases c5:v=5
 ·rw [if_pos (by simpa using c5)]
  by_cases hl:s.size<4000
  ·obtain ⟨n,d2,e2,k2,n0,n1⟩:=Be 2 d1 k1
   have n1:=n1 (by omega)
   have w1:IntKind.i64.wrap (4000-(s.size:Int))=4000-(s.size:Int):=Aa (by omega)
   have w2:IntKind.i64.wrap (4000-(s.size:Int)-1)=4000-(s.size:Int)-1:=Aa (by omega)
   have w3:IntKind.i64.wrap (4000-(s.size:Int)-1+n)=((4000-s.size-1+n.toNat:Nat):Int):=by rw [Aa (by omega)]; omega
   obtain ⟨b,e3,hb⟩:=AGR (4000-s.size-1+n.toNat) (by omega) 32
   rw [if_pos (decide_eq_true (by omega)),if_pos (by rw [AHJ]; omega),e2,AA]
   simp only [w1,w2,w3]
   rw [e3,AA,if_pos (by simp only [ByteArray.size_append,AHJ]; omega)]
   exact ⟨_,_,rfl,by simp only [ByteArray.size_append,AHJ]; omega⟩
  ·rw [if_neg (by rw [decide_eq_false (by omega)]; simp)]
   exact ⟨_,_,rfl,by show s.size<=60000; omega⟩
 ·rw [if_neg (by simpa using c5)]
  exact ⟨_,_,rfl,by show s.size<=60000; omega⟩
theorem lc {v:List (List Int)} {es:List Ax} (hl:es.length<=69) (he:∀ e∈es,IG e=true/\e.2.2.1<20):∀ (k i:Nat) (s:ByteArray) (d:Iv),i+k=es.length->YG d->1<=s.size->s.size<=10000+300*i->Sh (FD s (i:Int) d (v,es))
 | 0,i,s,d,hk,hd,h1,hs=>by
  obtain ⟨y,d',e,h⟩:=AGT (v,es) d hd s h1 (by omega)
  refine ⟨y,d',Sf ?_,h⟩
  unfold Hf
  rw [if_neg (by rw [decide_eq_false (by show ¬ ((i:Int)<(es.length:Int)); omega)]; simp)]
  exact e
 | k+1,i,s,d,hk,hd,h1,hs=>by
  have hi:i<es.length:=by omega
  obtain ⟨q1,q2⟩:=he es[i] (BC hi)
  obtain ⟨b,e0,hb⟩:=AGS q1 q2
  have J5:∀ (s:ByteArray) (d:Iv),YG d->1<=s.size->s.size<=10000+300*i+50->Sh (Ha s (i:Int) d (v,es)):=fun s d hd h1 hs=>by
   suffices g:Sh (LB s (i:Int) d (v,es)) from by
    obtain ⟨y,d',e,h⟩:=g
    exact ⟨y,d',iZ e,h⟩
   unfold LB
   obtain ⟨o,d1,e1,k1⟩:=E6 120 d hd
   rw [if_pos (by omega),if_pos (by show (i:Int)<(es.length:Int); omega),Ab,show (v,es).2=es from rfl,AW hi,e0,AA,e1,AA]
   cases o with
   | true =>
    obtain ⟨p,d2,e2,k2,hp⟩:=HH [(⟨#[112,117,116,32,49,32,97]⟩:ByteArray),(⟨#[112,117,116,32,120,32,97,32,98]⟩:ByteArray),(⟨#[118,105,101,119,32,49]⟩:ByteArray),(⟨#[103,101,116,32,57,32,97]⟩:ByteArray),(⟨#[102,97,108,108]⟩:ByteArray),(⟨#[119,104,97,116]⟩:ByteArray),(⟨#[7]⟩:ByteArray),(⟨#[100,101,108,105,118,101,114,32,49,32,50]⟩:ByteArray),(⟨#[118,105,101,119,32,49,44,44,50]⟩:ByteArray)] (by simp) d1 k1
    have hps:∀ q∈([(⟨#[112,117,116,32,49,32,97]⟩:ByteArray),(⟨#[112,117,116,32,120,32,97,32,98]⟩:ByteArray),(⟨#[118,105,101,119,32,49]⟩:ByteArray),(⟨#[103,101,116,32,57,32,97]⟩:ByteArray),(⟨#[102,97,108,108]⟩:ByteArray),(⟨#[119,104,97,116]⟩:ByteArray),(⟨#[7]⟩:ByteArray),(⟨#[100,101,108,105,118,101,114,32,49,32,50]⟩:ByteArray),(⟨#[118,105,101,119,32,49,44,44,50]⟩:ByteArray)]:List ByteArray),q.size<=20:=by decide
    have hpz:=hps p hp
    obtain ⟨y,d',e3,h⟩:=lc hl he k (i+1) ((s++p)++⟨#[10]⟩) d2 (by omega) k2 (by simp only [ByteArray.size_append,ye]; omega) (by simp only [ByteArray.size_append,ye]; omega)
    rw [if_pos rfl,e2,AA,if_pos (by show s.size+p.size<=_; omega),if_pos (by simp only [ByteArray.size_append,ye]; omega),AO (by omega)]
    exact ⟨y,d',e3,h⟩
   | false =>
    obtain ⟨y,d',e3,h⟩:=lc hl he k (i+1) ((s++b)++⟨#[10]⟩) d1 (by omega) k1 (by simp only [ByteArray.size_append,ye]; omega) (by simp only [ByteArray.size_append,ye]; omega)
    rw [if_neg (by simp),if_pos (by omega),if_pos (by simp only [ByteArray.size_append,ye]; omega),AO (by omega)]
    exact ⟨y,d',e3,h⟩
  suffices g:Sh (Hf s (i:Int) d (v,es)) from by
   obtain ⟨y,d',e,h⟩:=g
   exact ⟨y,d',Sf e,h⟩
  unfold Hf
  obtain ⟨o,d1,e1,k1⟩:=E6 16 d hd
  rw [if_pos (decide_eq_true (by show (i:Int)<(es.length:Int); omega)),e1,AA]
  cases o with
  | true =>
   obtain ⟨p,d2,e2,k2,hp⟩:=HH [(⟨#[10]⟩:ByteArray),(⟨#[32,32,10]⟩:ByteArray),(⟨#[35,32,97,32,119,111,114,100,10]⟩:ByteArray),(⟨#[32,32,35,32,98,10]⟩:ByteArray)] (by simp) d1 k1
   have hps:∀ q∈([(⟨#[10]⟩:ByteArray),(⟨#[32,32,10]⟩:ByteArray),(⟨#[35,32,97,32,119,111,114,100,10]⟩:ByteArray),(⟨#[32,32,35,32,98,10]⟩:ByteArray)]:List ByteArray),q.size<=20:=by decide
   have hpz:=hps p hp
   rw [if_pos rfl,e2,AA,if_pos (by show s.size+p.size<=_; omega)]
   exact J5 (s++p) d2 k2 (by rw [ByteArray.size_append]; omega) (by rw [ByteArray.size_append]; omega)
  | false =>
   rw [if_neg (by simp)]
   exact J5 s d1 k1 h1 (by omega)
theorem xe {v:List (List Int)} {es:List Ax} (hv:VL v) {i:Nat} (hi:i<v.length) (d:Iv) (hn:∀ s:ByteArray,1<=s.size->s.size<=1000*(i+1)->Sh (FE s ((i+1:Nat):Int) d (v,es))) :
  ∀ (k j:Nat) (s:ByteArray),j+k=v[i].length->1<=s.size->s.size<=1000*i+10+102*j->Sh (HZ s (i:Int) (j:Int) d (v,es))
 | 0,j,s,hk,h1,hs=>by
  have hvl:=hv.len
  have h4:=(hv.view (BC hi)).2
  obtain ⟨y,d',e,h⟩:=hn (s++⟨#[10]⟩) (by rw [ByteArray.size_append]; omega) (by rw [ByteArray.size_append,ye]; omega)
  refine ⟨y,d',Sc ?_,h⟩
  unfold He
  rw [if_pos (by omega),if_pos (by show (i:Int)<(v.length:Int); omega),Ab,show (v,es).1=v from rfl,AW hi,if_neg (by rw [decide_eq_false (by omega)]; simp),if_pos (by rw [ye]; omega),AO (by omega)]
  exact e
 | k+1,j,s,hk,h1,hs=>by
  have hvl:=hv.len
  have h4:=(hv.view (BC hi)).2
  have hj:j<v[i].length:=by omega
  have hw:WOk v[i]:=AAT.1 ((I4.1 hv.ok).1 v[i] (BC hi))
  have hid:=hw.mem v[i][j] (BC hj)
  have hdec:=aJ (n:=v[i][j]) (by omega)
  have hdl:(Ch (Go.Lib.itoa v[i][j])).size=1:=by rw [AS,Ir (by omega)]
  have J2:∀ s:ByteArray,1<=s.size->s.size<=1000*i+10+102*j+1->Sh (HY s (i:Int) (j:Int) d (v,es)):=fun s h1 hs=>by
   obtain ⟨y,d',e,h⟩:=xe hv hi d hn k (j+1) (s++Ch (Go.Lib.itoa v[i][j])) (by omega) (by rw [ByteArray.size_append]; omega) (by rw [ByteArray.size_append,hdl]; omega)
   refine ⟨y,d',iY ?_,h⟩
   unfold Sa
   rw [if_pos (by omega),if_pos (by show (i:Int)<(v.length:Int); omega),if_pos (by omega),Ab,Ab,show (v,es).1=v from rfl,AW hi,if_pos (by omega),AW hj,hdec,AA,if_pos (by omega),AO (by omega)]
   exact e
  suffices g:Sh (He s (i:Int) (j:Int) d (v,es)) from by
   obtain ⟨y,d',e,h⟩:=g
   exact ⟨y,d',Sc e,h⟩
  unfold He
  rw [if_pos (by omega),if_pos (by show (i:Int)<(v.length:Int); omega),Ab,show (v,es).1=v from rfl,AW hi,if_pos (decide_eq_true (by omega))]
  by_cases h0:0<j
  ·rw [if_pos (decide_eq_true (by omega)),if_pos (by rw [AHm]; omega)]
   exact J2 _ (by rw [ByteArray.size_append]; omega) (by rw [ByteArray.size_append,AHm]; omega)
  ·rw [if_neg (by rw [decide_eq_false (by omega)]; simp)]
   exact J2 s h1 (by omega)
theorem zN {v:List (List Int)} {es:List Ax} (hv:VL v) (hl:es.length<=69) (he:∀ e∈es,IG e=true/\e.2.2.1<20) (d:Iv) (hd:YG d):∀ (k i:Nat) (s:ByteArray),i+k=v.length->(i=0\/1<=s.size)->s.size<=1000*i->Sh (FE s (i:Int) d (v,es))
 | 0,i,s,hk,h1,hs=>by
  have hvl:=hv.len
  obtain ⟨y,d',e,h⟩:=lc (v:=v) hl he es.length 0 s d (by omega) hd (by omega) (by omega)
  refine ⟨y,d',Sg ?_,h⟩
  unfold LF
  rw [if_neg (by rw [decide_eq_false (by show ¬ ((i:Int)<(v.length:Int)); omega)]; simp)]
  refine ib ?_
  unfold Sb
  exact e
 | k+1,i,s,hk,h1,hs=>by
  have hvl:=hv.len
  have hi:i<v.length:=by omega
  obtain ⟨y,d',e,h⟩:=xe (es:=es) hv hi d (fun s q1 q2=>zN hv hl he d hd k (i+1) s (by omega) (.inr q1) q2) v[i].length 0 (s++⟨#[118,105,101,119,32]⟩) (by omega) (by rw [ByteArray.size_append,ACL]; omega) (by rw [ByteArray.size_append,ACL]; omega)
  refine ⟨y,d',Sg ?_,h⟩
  unfold LF
  rw [if_pos (decide_eq_true (by show (i:Int)<(v.length:Int); omega)),if_pos (by rw [ACL]; omega)]
  exact e
theorem dx (x:List Int) (hx:x.length<=1048576):∃ t,ML x=some t/\t.size<=60000:=by
 obtain ⟨d,e0,k0⟩:=rF x (by unfold maxLen; omega)
 obtain ⟨v,es,d1,e1,k1,hv,hl,he⟩:=oV x d hx k0
 obtain ⟨y,d',e2,h⟩:=zN hv hl he d1 k1 v.length 0 ⟨#[]⟩ (by omega) (.inl rfl) (by decide)
 refine ⟨y,kG ?_,h⟩
 unfold UR
 have e3:Pz x d=some (y,d'):=p8 (by
  unfold ZH
  rw [e1,AA]
  exact e2)
 rw [e0,AA,e3,AA]
theorem zO (a b:List UInt8):QU (Ch a) (Ch (a++b))=some true:=yG (by
 unfold jO
 rw [if_pos (decide_eq_true (by rw [AS,AS,List.length_append]; omega)),if_pos (by omega),if_pos (by omega),if_pos (by rw [AS,AS,List.length_append]; omega),KT,D6,AS,isW]
 congr 1
 rw [decide_eq_true_eq,D6]
 simp [zC])
theorem AAh (x) (hx:Kd.ok (.slice (.int .u8)) x):cJ x=some true:=so (by
 unfold cK
 rw [yY,AA]
 by_cases hb:(x.length:Int)>1048576
 ·rw [if_pos (by simpa using hb)]
 ·rw [if_neg (by simpa using hb)]
  obtain ⟨t,e1,ht⟩:=dx x (by omega)
  rw [e1,AA,KV t (by omega),AA,Xw t (by omega),AA]
  by_cases h0:(AZ t).2.2=0
  ·obtain ⟨hv,hl,he⟩:=iA h0
   obtain ⟨f1,f2,f3,f4,f5,f6⟩:=rS h0
   obtain ⟨r1,_,r3⟩:=oS (AZ t).2.1 0 (Ar (AZ t).1) [] (TV hv) (by omega) he
   have hcs:Et t=Ch (ABg (Fv 0 (AZ t).2.1 (Ar (AZ t).1) []).1 (Fv 0 (AZ t).2.1 (Ar (AZ t).1) []).2):=by unfold Et; rw [if_pos h0]
   rw [if_neg (by simp [h0]),Xt hv hl he,AA]
   dsimp only
   have hlen:(Fv 0 (AZ t).2.1 (Ar (AZ t).1) []).2.length=(AZ t).2.1.length:=by rw [r3]; simp
   generalize hcd:(Fv 0 (AZ t).2.1 (Ar (AZ t).1) []).2=cs at *
   generalize hgr:(Fv 0 (AZ t).2.1 (Ar (AZ t).1) []).1=g at *
   have J3:∀ l m ys,t=Ch l->(∀ y∈ys,∀ vs es,Ix y vs es=some (vs,es))->(PB m).map Ch=(PB l).map Ch++ys->m.length<=70000->F6 t (Et t) (Ch (Mw++m)) g=some true:=fun l m ys htl hy hm hml=>by
    refine kC ?_
    unfold UO
    have hsz:(Ch (Mw++m)).size<=1048576:=by rw [AS,List.length_append]; have:Mw.length=11:=rfl; omega
    rw [KV _ hsz,AA,oq t (by omega),AA,if_pos (by simp)]
    rw [htl] at h0
    rcases ABj hy hm h0 with h | h
    ·rw [if_neg (by simp [h])]
    ·rw [if_pos (by rw [h,h0]; rfl),Xw _ hsz,AA]
     have:Et (Ch (Mw++m))=Et t:=by rw [htl]; unfold Et; rw [h]
     rw [this]
     simp
   have J2:∀ b,MU t (Et t) b g=some true:=fun b=>by
    refine kD ?_
    unfold UP
    have sf:(⟨#[35,32,115,97,105,100,10,32,32,32,10]⟩:ByteArray)=Ch Mw:=rfl
    have sb:(⟨#[32,32,35,32,109,111,114,101,10]⟩:ByteArray)=Ch ABi:=rfl
    have hts:=Dg t
    have hp:=J3 t.data.toList t.data.toList [] (VH t).symm (fun y hy=>by cases hy) (by simp) (by omega)
    have ht2:Ch Mw++t=Ch (Mw++t.data.toList):=HL _ _
    rw [sf,sb,if_pos (by rw [AS]; have:Mw.length=11:=rfl; omega),ht2]
    by_cases hz:0<t.size
    ·have w:IntKind.i64.wrap ((t.size:Int)-1)=((t.size-1:Nat):Int):=by rw [Aa (by omega)]; omega
     have hi:t.size-1<t.data.toList.length:=by omega
     rw [if_pos (decide_eq_true (by omega)),w,if_pos (by omega),if_pos (by omega),Ab,Xu hi,AGW]
     by_cases h10:t.data.toList[t.size-1]=10
     ·rw [if_pos (decide_eq_true h10),if_pos (by rw [AS,AS,List.length_append]; have:Mw.length=11:=rfl; have:ABi.length=9:=rfl; omega),HL,D6,Bf]
      obtain ⟨q,hq⟩:∃ q,t.data.toList=q++[10]:=⟨t.data.toList.take (t.size-1),by
       rw [<- h10,<- List.take_succ_eq_append_getElem hi,List.take_of_length_le (by omega)]⟩
      refine J3 t.data.toList _ [Ch [32,32,35,32,109,111,114,101]] (VH t).symm (fun y hy=>by rw [Bq.1 hy]; exact ADt) ?_ (by rw [List.length_append]; have:ABi.length=9:=rfl; omega)
      rw [hq,ADr,show (q++[10]++ABi:List UInt8)=q++10::ABi by simp,Xx,List.map_append]
      rfl
     ·rw [if_neg (by rw [decide_eq_false h10]; simp)]
      exact hp
    ·rw [if_neg (by rw [decide_eq_false (by omega)]; simp)]
     exact hp
   have J1:MV t (AZ t).2.1 (Et t) cs true (Ch (la cs)) g=some true:=by
    refine kF ?_
    unfold UQ
    have hbg:QU (Ch (la cs)) (Et t)=some true:=by
     rw [hcs]
     unfold ABg AC1
     by_cases hc0:cs.length=0
     ·have e:cs=[]:=DD.1 hc0
      rw [if_pos hc0,e]
      exact zO [] _
     ·rw [if_neg hc0,Bf,Bf]
      exact zO (la cs) _
    rw [if_pos (by simp),hbg,AA,if_pos (by simp),if_neg (by simp [hlen])]
    exact J2 _
   have tail:∀ (k i:Nat) (l:List UInt8),i+k=cs.length->1<=i->l.length<=2*i->(l++(cs.drop i).flatMap fun n=>(32:UInt8)::Go.Lib.itoa n)=la cs->EU t (AZ t).2.1 (Et t) cs true (Ch l) (i:Int) g=some true:=by
    intro k
    induction k with
    | zero =>
     intro i l hk hi1 hll hq
     rw [List.drop_eq_nil_of_le (by omega)] at hq
     refine MW ?_
     unfold Id
     rw [if_neg (by rw [decide_eq_false (by omega)]; simp),show l=la cs by simpa using hq]
     exact J1
    | succ k ih =>
     intro i l hk hi1 hll hq
     have hi:i<cs.length:=by omega
     have hci:=f1 cs[i] (BC hi)
     have hq1:=Ir hci
     rw [Am hi,List.flatMap_cons] at hq
     refine MW ?_
     unfold Id
     rw [if_pos (decide_eq_true (by omega)),if_pos (decide_eq_true (by omega)),show (⟨#[32]⟩:ByteArray)=Ch [32] from rfl,if_pos (by rw [AS,AS]; simp only [List.length_cons,List.length_nil]; omega),if_pos (by omega),if_pos (by omega),Ab,AW hi,aJ hci,AA,<- B9,
      if_pos (by rw [AS,AS,hq1]; simp only [List.length_append,List.length_cons,List.length_nil]; omega),<- B9,AO (by omega)]
     refine ih (i+1) _ (by omega) (by omega) (by simp only [List.length_append,hq1,List.length_cons,List.length_nil]; omega) ?_
     rw [<- hq]
     simp
   have L0:EU t (AZ t).2.1 (Et t) cs true ⟨#[]⟩ 0 g=some true:=by
    refine MW ?_
    unfold Id
    by_cases hc0:cs.length=0
    ·have e:cs=[]:=DD.1 hc0
     rw [if_neg (by rw [decide_eq_false (by omega)]; simp)]
     rw [e] at J1 ⊢
     exact J1
    ·have h00:0<cs.length:=by omega
     have hci:=f1 cs[0] (BC h00)
     have hq1:=Ir hci
     rw [if_pos (decide_eq_true (by omega)),if_neg (by simp),if_pos (by omega),if_pos (by omega),show (0:Int).toNat=0 from rfl,AW h00,aJ hci,AA,show (⟨#[]⟩:ByteArray)=Ch [] from rfl,if_pos (by rw [AS,AS,hq1]; decide),<- B9,List.nil_append,show IntKind.i64.wrap (0+1)=((1:Nat):Int) from rfl]
     refine tail (cs.length-1) 1 _ (by omega) (by omega) (by omega) ?_
     obtain ⟨c,r,hr⟩:=List.exists_cons_of_ne_nil (l:=cs) (by intro e; rw [e] at h00; simp at h00)
     simp only [hr]
     rfl
   exact L0
  ·have hcode:=gt t
   have hlen:=xU (n:=(AZ t).2.2) (by omega)
   have hd:BB (AZ t).2.2=some (Ch (Go.Lib.itoa (AZ t).2.2)):=by
    by_cases hn:(AZ t).2.2=-1
    ·rw [hn]; exact VJ
    ·obtain ⟨q,hq⟩:∃ q:Nat,(AZ t).2.2=(q:Int):=⟨(AZ t).2.2.toNat,by omega⟩
     rw [hq]
     exact HK (by omega)
   have hcs:Et t=Ch (ACI (AZ t).2.2):=by unfold Et; rw [if_neg h0]
   rw [if_pos (by simpa using h0),hd,AA,hcs,show (⟨#[102,97,117,108,116,32]⟩:ByteArray)=Ch [102,97,117,108,116,32] from rfl,show (⟨#[10]⟩:ByteArray)=Ch [10] from rfl,
    if_pos (by rw [AS,AS]; simp only [List.length_cons,List.length_nil]; omega),<- B9,if_pos (by rw [AS,AS]; simp only [List.length_append,List.length_cons,List.length_nil]; omega),<- B9]
   unfold ACI
   simp)

theorem AFD {P:Program} {c:List Char} {rest:List (List Char)} (h:behindMainWord (wordsSigns P.initOrder.toList)=c::rest) (h1:(c == "gc".toList||c == "spec".toList)=false) (h2:(c == "cut".toList||(c == "finals".toList&&rest.head? == some "cut".toList))=true):P.make=some .cut:=by
 unfold Program.make
 rw [h]
 simp only [h1,h2]
 rfl
theorem AFE {P:Program} {c:List Char} {rest:List (List Char)} (h:behindMainWord (wordsSigns P.initOrder.toList)=c::rest) (h1:((stripLifts liftWords (c::rest)).2.head? == some "cut".toList)=true) (h2:(stripLifts liftWords (c::rest)).1=[])
  (h3:P.laysLater=false) (h4:P.bearsReflect=false) (h5:P.doorFits []=true):P.mayEnter=true:=by
 unfold Program.mayEnter
 rw [h]
 simp only [h1,h2,h3,h4,h5]
 simp
theorem AFF {P:Program} {c:List Char} {rest:List (List Char)} (h:behindMainWord (wordsSigns P.initOrder.toList)=c::rest) (h1:(c == "carried".toList)=false) (h2:(stripLifts liftWords (c::rest)).1=[]):P.liftsFinal=false:=by
 have e:(some c==some "carried".toList)=false:=h1
 unfold Program.liftsFinal Program.headLifts
 rw [h]
 simp only [List.head?_cons,e,h2]
 simp
theorem Mx {a b:Bool} (h:a=true) (g:b=true):(a&&b)=true:=by rw [h,g]; rfl
theorem AFG {α:Type} [BEq α] [LawfulBEq α] {a b:α} (h:a=b):(a==b)=true:=by rw [h]; exact beq_self_eq_true b
end Go.Proofs.YtfcgblnlopemkaaGreatDoor.Core

namespace Go.Proofs.YtfcgblnlopemkaaGreatDoor.Core
open Go
set_option maxRecDepth 100000
def ioL:List Nat:=[104,97,114,110,101,115,115,32,101,102,54,97,99,102,53,100,55,98,56,98,98,102,102,98,99,98,51,57,98,55,99,56,55,101,48,97,99,97,97,52,98,98,50,100,97,98,101,97,101,52,53,56,55,49,98,55,97,98,54,52,57,48,101,54,49,49,54,57,56,101,101,52,32,99,117,116,32,97,116,32,108,111,111,112,46,101,120,97,109,112,108,101,47,103,48,48,49,56,48,47,108,97,119,115,46,70,110,69,120,97,99,116,67,111,110,115,111,108,101,32,108,111,111,112,46,101,120,97,109,112,108,101,47,103,48,48,49,56,48,47,108,97,119,115,46,70,110,83,99,114,105,112,116]
def ioC:List Nat:=[99,117,116]
def ioW:List (List Nat):=[[97,116],[108,111,111,112,46,101,120,97,109,112,108,101,47,103,48,48,49,56,48,47,108,97,119,115,46,70,110,69,120,97,99,116,67,111,110,115,111,108,101],[108,111,111,112,46,101,120,97,109,112,108,101,47,103,48,48,49,56,48,47,108,97,119,115,46,70,110,83,99,114,105,112,116]]
theorem io:Tryz.prog.initOrder.toList=ioL.map Char.ofNat:=(congrArg String.toList (show Tryz.prog.initOrder=String.ofList (ioL.map Char.ofNat) from by kernel_rfl)).trans String.toList_ofList
theorem iow:behindMainWord (wordsSigns Tryz.prog.initOrder.toList)=ioC.map Char.ofNat::ioW.map fun w=>w.map Char.ofNat:=by
 rw [io]
 kernel_rfl
theorem AHv:Tryz.prog.make=some .cut:=AFD iow (by kernel_rfl) (by kernel_rfl)
theorem enters:Tryz.prog.mayEnter=true:=AFE iow (by kernel_rfl) (by kernel_rfl) (by kernel_rfl) (by kernel_rfl) (by kernel_rfl)
theorem AGU:Tryz.prog.liftsFinal=false:=AFF iow (by kernel_rfl) (by kernel_rfl)
theorem ABk:laidOutB Tryz.prog=true:=by kernel_rfl
theorem ACM:mapsRowed Tryz.prog=true:=by kernel_rfl
theorem AHK:Tryz.prog.stopsHeard=true:=by kernel_rfl
end Go.Proofs.YtfcgblnlopemkaaGreatDoor.Core
