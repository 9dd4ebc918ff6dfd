/- Texts of the proof, packed: part 4. -/
import Derived.Test.YtffahmnodgnohaaP2
import Derived.JoinedOf
import Derived.Test.YtffahmnodgnohaaRows
import Derived.ProofKit
set_option linter.unusedVariables false
set_option linter.unusedSimpArgs false
namespace Go.Proofs.Ytffahmnodgnohaa.Core
open Go
def Ra (b:Bool):Int:=if b=true then 0 else 1
def JK (kp:Bool):List JI->H8->List Int->H8×List Int
 | [],c,cs=>(c,cs)
 | e::es,c,cs=>JK kp es (Iz kp e c).2 (cs++[Ra (Iz kp e c).1])
def G5:Nat->List N8
 | 0=>[]
 | t+1=>G5 t++[((t:Int)+1,0,AE,[],false,[],false)]
theorem Es:∀ t,(G5 t).length=t
 | 0=>rfl
 | t+1=>by simp [G5,Es t]
def FR (n t:Nat):H8:=(List.replicate n ME,G5 t,[],[])
theorem M3:∀ (t j:Nat),j<t->(G5 t).getD j B6=((j:Int)+1,0,AE,[],false,[],false)
 | 0,j,h=>by omega
 | t+1,j,h=>by
  by_cases e:j<t
  ·have:=M3 t j e
   rw [G5,List.getD,AR (by rw [Es]; exact e)]
   exact this
  ·have:j=t:=by omega
   subst this
   rw [G5,List.getD,Av (by rw [Es]; exact Nat.le_refl _),Es,Nat.sub_self]
   rfl
theorem SV (n t:Nat):I0 n t 0 (FR n t):=⟨by simp [FR],Es t,fun j hj=>by
 rw [show (FR n t).2.1=G5 t from rfl,M3 t j hj]
 exact ⟨rfl,by simp,by simp,by simp⟩,by simp [FR],by simp [FR],fun m hm=>by simp [FR] at hm⟩
theorem Ki (t:Nat) (ht:t<=4) (vs:List GM):∀ (k i:Nat),i+k=t->Ci (t:Int) (i:Int) [] [] [] [] [] vs (G5 i) [] []=some ((vs,G5 t,[],[]),true)
 | 0,i,hk=>FH (by
  have:i=t:=by omega
  subst this
  unfold De
  rw [if_neg (by simp)])
 | k+1,i,hk=>FH (by
  unfold De
  have w:IntKind.i64.wrap ((i:Int)+1)=(i:Int)+1:=B9 (by omega)
  rw [if_pos (decide_eq_true (by omega)),if_pos (by rw [Es]; simp only [List.length_cons,List.length_nil]; omega),w]
  exact Ki t ht vs k (i+1) (by omega))
theorem JL {n t:Nat} (hn:1<=n/\n<=5) (ht:1<=t/\t<=4):Ee (n:Int) (t:Int)=some (FR n t,true):=Kc (by
 unfold Gm
 rw [BM,AA,if_pos (by rw [<- Bool.decide_and,decide_eq_true (by omega)]; rfl),BM,AA,if_neg (by rw [<- Bool.decide_and,decide_eq_true (by omega)]; simp)]
 refine IY ?_
 unfold FF
 rw [if_pos (by omega),if_pos (by omega),Fw]
 exact Ki t ht.2 _ t 0 (by omega))
theorem Jy {t:Nat} {e:JI} (h:M2 t e):FV e (t:Int)=some true:=Lz (by
 unfold H6
 rw [BM,AA,if_pos (by rw [<- Bool.decide_and,decide_eq_true h.kind]; rfl),BM,AA,if_pos (by rw [<- Bool.decide_and,decide_eq_true h.id]; rfl),if_neg (by have:=h.at_; simpa using this)]
 refine Jo ?_
 unfold GG
 have hv:=h.val
 by_cases h1:e.1=1
 ·rw [if_pos h1] at hv
  rw [if_pos (by simpa using h1),BM,AA,<- Bool.decide_and,decide_eq_true hv]
 ·rw [if_neg h1] at hv
  rw [if_neg (by simpa using h1),hv]
  simp)
theorem L4 (b:Bool):G2 b=some (Ra b):=NH (by
 unfold JV Ra
 cases b<;>rfl)
theorem Li {n t:Nat} (hn:n<=5) (ht:t<=4) {es:List JI} (hl:es.length<=1000) (he:∀ e∈es,M2 t e) (c0:H8) :
  ∀ (k i:Nat) (c:H8) (cs:List Int),i+k=es.length->I0 n t i c->cs.length=i ->
   Cj es (es.length:Int) (i:Int) [] [] [] [] [] c.1 c.2.1 c.2.2.1 c.2.2.2 cs=some ((JK true (es.drop i) c cs).1,(JK true (es.drop i) c cs).2,true)
 | 0,i,c,cs,hk,hc,hcs=>FN (by
  unfold Df
  rw [if_neg (by rw [decide_eq_false (by omega)]; simp),List.drop_eq_nil_of_le (by omega)]
  rfl)
 | k+1,i,c,cs,hk,hc,hcs=>FN (by
  have hi:i<es.length:=by omega
  have hei:=he _ (GZ hi)
  have hz:es.getD i ((0:Int),(0:Int),(0:Int),AE)=es[i]:=Fo hi
  unfold Df
  rw [if_pos (decide_eq_true (by omega)),if_pos (by omega),if_pos (by omega),Fw,hz]
  change ((CS es[i] c).bind _)=_
  rw [LL hc hn ht (by omega) hei,AA,L4,AA,if_pos (by simp only [List.length_cons,List.length_nil]; omega),DN (by omega),Fv hi]
  exact Li hn ht hl he c0 k (i+1) _ _ (by omega) (hc.happen true hn ht hei) (by simp [hcs]))
theorem JM {n t:Nat} (hn:1<=n/\n<=5) (ht:1<=t/\t<=4) {es:List JI} (hl:es.length<=80) (he:∀ e∈es,M2 t e) :
  DV (n:Int) (t:Int) es=some ((JK true es (FR n t) []).1,(JK true es (FR n t) []).2,true):=Ke (by
 unfold Gn
 rw [JL hn ht,AA,if_pos (by rfl),if_neg (by rw [decide_eq_false (by omega)]; simp)]
 refine Ic ?_
 unfold FM
 refine QX (n:=es.length) (P:=fun i=>Ck (t:Int) es es (es.length:Int) (i:Int) [] [] [] [] [] (FR n t).1 (FR n t).2.1 (FR n t).2.2.1 (FR n t).2.2.2=some ((JK true es (FR n t) []).1,(JK true es (FR n t) []).2,true)) (FO (by
  unfold Dg
  rw [if_neg (by simp)]
  refine Ib ?_
  unfold FK
  have:=Li hn.2 ht.2 (es:=es) (by omega) he (FR n t) es.length 0 (FR n t) [] (by omega) (SV n t) rfl
  rw [List.drop_zero] at this
  exact this)) (fun i hi ih=>FO (by
  have hei:=he _ (GZ hi)
  have hz:es.getD i ((0:Int),(0:Int),(0:Int),AE)=es[i]:=Fo hi
  unfold Dg
  rw [if_pos (decide_eq_true (by omega)),if_pos (by omega),if_pos (by omega),Fw,hz,Jy hei,AA,if_neg (by simp),DN (by omega)]
  exact ih)) 0 (by omega))
def TB:ByteArray:=⟨#[105,116]⟩
def Eh (n:Nat):List JI:=((1:Int),(1:Int),(0:Int),TB)::List.replicate (5*n) ((2:Int),(1:Int),(0:Int),AE)
theorem Qa (n:Nat):∀ e∈Eh n,M2 1 e:=fun e he=>by
 rcases AO.1 he with rfl | he
 ·exact ⟨by decide,by decide,by decide,by rw [if_pos rfl]; exact ⟨by decide,by decide⟩⟩
 ·rw [(List.mem_replicate.1 he).2]
  exact ⟨by decide,by decide,by decide,by rw [if_neg (by decide)]; rfl⟩
set_option maxRecDepth 100000 in
theorem Qb:∀ n:Nat,1<=n->n<=5->(JK true (Eh n) (FR n 1) []).1.2.2.2=[TB]/\(JK true (Eh n) (FR n 1) []).1.2.1.length=1/\((JK true (Eh n) (FR n 1) []).1.2.1.getD 0 B6).2.2.2.2.2.2=true/\((JK true (Eh n) (FR n 1) []).1.2.1.getD 0 B6).2.1=1
 | 0,h,_=>by omega
 | 1,_,_=>⟨by kernel_rfl,by kernel_rfl,by kernel_rfl,by kernel_rfl⟩
 | 2,_,_=>⟨by kernel_rfl,by kernel_rfl,by kernel_rfl,by kernel_rfl⟩
 | 3,_,_=>⟨by kernel_rfl,by kernel_rfl,by kernel_rfl,by kernel_rfl⟩
 | 4,_,_=>⟨by kernel_rfl,by kernel_rfl,by kernel_rfl,by kernel_rfl⟩
 | 5,_,_=>⟨by kernel_rfl,by kernel_rfl,by kernel_rfl,by kernel_rfl⟩
 | n+6,_,h=>by omega
theorem M4 (x:List ByteArray) (h:x.length<=maxLen):C1 x x=some true:=LG (by
 have hm:x.length<=9223372036854775807:=h
 unfold HN
 rw [if_neg (by simp)]
 exact QX (n:=x.length) (P:=fun i=>Cw x x (i:Int)=some true) (Fg (by
  unfold D0
  rw [if_neg (by simp)])) (fun i hi ih=>Fg (by
  unfold D0
  rw [if_pos (decide_eq_true (by omega)),if_pos (by omega),if_pos (by omega),if_pos (by omega),if_pos (by omega),if_neg (by simp),DN (by omega)]
  exact ih)) 0 (by omega))
theorem M5 (n:Nat) (hn:n<=5):∀ (k i:Nat),i+k=5*n->∀ r,Dy (n:Int) (Eh n)=some r->Cv (n:Int) (i:Int) (((1:Int),(1:Int),(0:Int),TB)::List.replicate i ((2:Int),(1:Int),(0:Int),AE))=some r
 | 0,i,hk,r,hr=>Ff (by
  have:i=5*n:=by omega
  subst this
  unfold Dz
  rw [B9 (by omega),if_neg (by rw [decide_eq_false (by omega)]; simp)]
  exact hr)
 | k+1,i,hk,r,hr=>Ff (by
  unfold Dz
  rw [B9 (n:=5*(n:Int)) (by omega),if_pos (decide_eq_true (by omega)),if_pos (by simp only [List.length_cons,List.length_nil,List.length_replicate]; omega),DN (by omega)]
  have:=M5 n hn k (i+1) (by omega) r hr
  rw [List.replicate_succ'] at this
  exact this)
theorem NJ (x0) (hx0:Kd.ok (.slice (.int .u8)) x0):HL x0=some true:=LF (by
 unfold HM
 rw [NI,AA]
 by_cases hb:(x0.length:Int)>1048576
 ·rw [if_pos (decide_eq_true hb)]
 rw [if_neg (by rw [decide_eq_false hb]; simp)]
 obtain ⟨l,el,hl,hp⟩:=Il x0 hx0.1
 have h0:0<l.length:=by omega
 have hv:0<=l[0]:=hp _ (GZ h0)
 have hg:l.getD (0:Int).toNat (0:Int)=l[0]:=Fo h0
 obtain ⟨n,en,hn⟩:∃ n:Nat,IntKind.i64.wrap ((1:Int)+Int.tmod l[0] (5:Int))=(n:Int)/\1<=n/\n<=5:=by
  have h1:=Int.emod_nonneg l[0] (show (5:Int)≠0 by decide)
  have h2:=Int.emod_lt_of_pos l[0] (show (0:Int)<5 by decide)
  refine ⟨(1+l[0] % 5).toNat,?_,by omega,by omega⟩
  rw [Int.tmod_eq_emod_of_nonneg hv,B9 (by omega)]
  omega
 rw [el,AA,if_pos (by omega),if_pos (by omega),if_neg (by decide),hg,en]
 refine M5 n hn.2 (5*n) 0 (by omega) _ ?_
 refine I7 ?_
 unfold Fe
 have hr:=JM (n:=n) (t:=1) hn (by omega) (es:=Eh n) (by simp only [Eh,List.length_cons,List.length_replicate]; omega) (Qa n)
 obtain ⟨r1,r2,r3,r4⟩:=Qb n hn.1 hn.2
 have hr:DV (n:Int) (1:Int) (Eh n)=some ((JK true (Eh n) (FR n 1) []).1,(JK true (Eh n) (FR n 1) []).2,true):=hr
 have hs:C1 [TB] [TB]=some true:=M4 _ (by simp [maxLen])
 rw [hr,AA,if_pos rfl]
 simp only [r1]
 change ((C1 [TB] [TB]).bind _)=_
 rw [hs,AA,if_pos rfl,if_pos (by omega),if_pos (by rw [r2]; decide)]
 change (if ((JK true (Eh n) (FR n 1) []).1.2.1.getD 0 B6).2.2.2.2.2.2=true then (if (0:Int)<=0 then (if (0:Int)<((JK true (Eh n) (FR n 1) []).1.2.1.length:Int) then some (((JK true (Eh n) (FR n 1) []).1.2.1.getD 0 B6).2.1==(1:Int)) else none) else none) else some false)=_
 rw [if_pos r3,if_pos (by omega),if_pos (by rw [r2]; decide),r4]
 rfl)

theorem Rb {P:Program} {c:List Char} {rest:List (List Char)} (h:behindMainWord (wordsSigns P.initOrder.toList)=c::rest) (h1:(c == "gc".toList||c == "spec".toList)=false) (h2:(c == "cut".toList||(c == "finals".toList&&rest.head? == some "cut".toList))=true):P.make=some .cut:=by
 unfold Program.make
 rw [h]
 simp only [h1,h2]
 rfl
theorem Rc {P:Program} {c:List Char} {rest:List (List Char)} (h:behindMainWord (wordsSigns P.initOrder.toList)=c::rest) (h1:((stripLifts liftWords (c::rest)).2.head? == some "cut".toList)=true) (h2:(stripLifts liftWords (c::rest)).1=[])
  (h3:P.laysLater=false) (h4:P.bearsReflect=false) (h5:P.doorFits []=true):P.mayEnter=true:=by
 unfold Program.mayEnter
 rw [h]
 simp only [h1,h2,h3,h4,h5]
 simp
theorem Rd {P:Program} {c:List Char} {rest:List (List Char)} (h:behindMainWord (wordsSigns P.initOrder.toList)=c::rest) (h1:(c == "carried".toList)=false) (h2:(stripLifts liftWords (c::rest)).1=[]):P.liftsFinal=false:=by
 have e:(some c==some "carried".toList)=false:=h1
 unfold Program.liftsFinal Program.headLifts
 rw [h]
 simp only [List.head?_cons,e,h2]
 simp
theorem EH {a b:Bool} (h:a=true) (g:b=true):(a&&b)=true:=by rw [h,g]; rfl
theorem Re {α:Type} [BEq α] [LawfulBEq α] {a b:α} (h:a=b):(a==b)=true:=by rw [h]; exact beq_self_eq_true b
end Go.Proofs.Ytffahmnodgnohaa.Core

namespace Go.Proofs.Ytffahmnodgnohaa.Core
open Go
set_option maxRecDepth 100000
def Tx:List Nat:=[104,97,114,110,101,115,115,32,57,52,51,54,48,100,51,54,48,102,97,48,51,101,55,56,99,49,99,55,102,52,101,50,52,51,100,50,100,97,57,53,55,57,52,98,57,49,49,99,102,51,55,51,101,101,49,49,101,100,97,49,52,100,97,99,49,98,51,56,98,51,55,99,32,99,117,116,32,97,116,32,108,111,111,112,46,101,120,97,109,112,108,101,47,103,48,48,49,56,48,47,108,97,119,115,46,70,110,69,120,97,99,116,77,115,103,84,101,120,116,32,108,111,111,112,46,101,120,97,109,112,108,101,47,103,48,48,49,56,48,47,108,97,119,115,46,70,110,69,120,97,99,116,82,101,97,100,77,115,103,32,108,111,111,112,46,101,120,97,109,112,108,101,47,103,48,48,49,56,48,47,108,97,119,115,46,70,110,77,115,103,115,32,108,111,111,112,46,101,120,97,109,112,108,101,47,103,48,48,49,56,48,47,108,97,119,115,46,70,110,69,120,97,99,116,77,101,109,98,101,114,78,101,119,32,108,111,111,112,46,101,120,97,109,112,108,101,47,103,48,48,49,56,48,47,108,97,119,115,46,70,110,69,120,97,99,116,67,111,117,110,99,105,108,78,101,119,32,108,111,111,112,46,101,120,97,109,112,108,101,47,103,48,48,49,56,48,47,108,97,119,115,46,70,110,69,120,97,99,116,71,114,111,117,112,78,101,119,32,108,111,111,112,46,101,120,97,109,112,108,101,47,103,48,48,49,56,48,47,108,97,119,115,46,70,110,65,108,111,110,101,49,50,32,108,111,111,112,46,101,120,97,109,112,108,101,47,103,48,48,49,56,48,47,108,97,119,115,46,70,110,67,104,111,115,101,110,32,108,111,111,112,46,101,120,97,109,112,108,101,47,103,48,48,49,56,48,47,108,97,119,115,46,70,110,68,101,99,105,100,101,115]
def T5:List Nat:=[99,117,116]
def T6:List (List Nat):=[[97,116],[108,111,111,112,46,101,120,97,109,112,108,101,47,103,48,48,49,56,48,47,108,97,119,115,46,70,110,69,120,97,99,116,77,115,103,84,101,120,116],[108,111,111,112,46,101,120,97,109,112,108,101,47,103,48,48,49,56,48,47,108,97,119,115,46,70,110,69,120,97,99,116,82,101,97,100,77,115,103],[108,111,111,112,46,101,120,97,109,112,108,101,47,103,48,48,49,56,48,47,108,97,119,115,46,70,110,77,115,103,115],[108,111,111,112,46,101,120,97,109,112,108,101,47,103,48,48,49,56,48,47,108,97,119,115,46,70,110,69,120,97,99,116,77,101,109,98,101,114,78,101,119],[108,111,111,112,46,101,120,97,109,112,108,101,47,103,48,48,49,56,48,47,108,97,119,115,46,70,110,69,120,97,99,116,67,111,117,110,99,105,108,78,101,119],[108,111,111,112,46,101,120,97,109,112,108,101,47,103,48,48,49,56,48,47,108,97,119,115,46,70,110,69,120,97,99,116,71,114,111,117,112,78,101,119],[108,111,111,112,46,101,120,97,109,112,108,101,47,103,48,48,49,56,48,47,108,97,119,115,46,70,110,65,108,111,110,101,49,50],[108,111,111,112,46,101,120,97,109,112,108,101,47,103,48,48,49,56,48,47,108,97,119,115,46,70,110,67,104,111,115,101,110],[108,111,111,112,46,101,120,97,109,112,108,101,47,103,48,48,49,56,48,47,108,97,119,115,46,70,110,68,101,99,105,100,101,115]]
theorem io:Try.prog.initOrder.toList=Tx.map Char.ofNat:=(congrArg String.toList (show Try.prog.initOrder=String.ofList (Tx.map Char.ofNat) from by kernel_rfl)).trans String.toList_ofList
theorem Tt:behindMainWord (wordsSigns Try.prog.initOrder.toList)=T5.map Char.ofNat::T6.map fun w=>w.map Char.ofNat:=by
 rw [io]
 kernel_rfl
theorem Tu:Try.prog.make=some .cut:=Rb Tt (by kernel_rfl) (by kernel_rfl)
theorem TC:Try.prog.mayEnter=true:=Rc Tt (by kernel_rfl) (by kernel_rfl) (by kernel_rfl) (by kernel_rfl) (by kernel_rfl)
theorem SW:Try.prog.liftsFinal=false:=Rd Tt (by kernel_rfl) (by kernel_rfl)
theorem Ow:laidOutB Try.prog=true:=by kernel_rfl
theorem PS:mapsRowed Try.prog=true:=by kernel_rfl
theorem TD:Try.prog.stopsHeard=true:=by kernel_rfl
end Go.Proofs.Ytffahmnodgnohaa.Core
