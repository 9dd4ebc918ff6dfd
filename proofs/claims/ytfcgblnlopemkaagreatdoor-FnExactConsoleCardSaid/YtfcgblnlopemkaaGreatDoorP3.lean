/- Texts of the proof, packed: part 4. -/
import Derived.Test.YtfcgblnlopemkaaGreatDoorP2
import Derived.Shelf.Lays2
import Derived.Lib.JoinLaws
import Derived.Lib.AppendZeros
import Derived.Lib.Overlaps
import Derived.Laws.Externs
import Derived.Laws.IdiomCopy
import Derived.Laws.CopyRow
import Derived.Maps.AppendAt
import Derived.Shelf.Small.Strs
import Derived.Shelf.Spec.SlicesInsert
import Derived.Shelf.SlicesE.DeleteFunc
import Derived.Shelf.Strings.Split
import Derived.Shelf.Strings.OnBuilder
import Derived.Shelf.Strconv.Itoa3
import Derived.Shelf.Strings.Builder1
import Derived.Test.YtfcgblnlopemkaaGreatDoorProg
set_option linter.unusedVariables false
set_option linter.unusedSimpArgs false
namespace Go.Proofs.YtfcgblnlopemkaaGreatDoor.Core
open Go Go.Shelf Go.RowKit Go.Lib
variable {P:Program} {ρ:Ren}
theorem T6 (w:World) (dT sT ty elem:TypeId) (g o dLen dCap:Nat) (a:Addr) (sLen sCap:Nat) (cur:Array Value) (t:TypeId) (cs:List Value) (k:Nat) (i:TypeInfo)
  (hu:P.underlying dT=some (.slice elem)) (hi:P.info? elem=some i) (hg:w.heap[g]? = some (.cells cur t (0,0))) (hk:Nat.min sLen dLen=k) (hn:cs.length=k*i.size)
  (hsrc:∀ j v,cs[j]? = some v->w.cell? (a.add j)=some v) (hfit:o+cs.length<=cur.size) (h1:∀ v∈cs,v.oneCell'=true) :
  (Builtin.copy_ #[dT,sT] ty #[.slice (some ⟨g,o,none⟩) dLen dCap,.slice (some a) sLen sCap]).run P w =
   .ok (goInt k) (w.setRow g (cur.toList.take o++cs++cur.toList.drop (o+cs.length)).toArray):=by
 have hl:=run_loadCells_list (P:=P) w a cs hsrc
 have hst:=run_storeCells_at P g o t cs 0 cur w hg (by simpa using hfit) h1
 simp [Builtin.copy_,run_underlying hu,Builtin.lenOf,Builtin.firstCells,sizeOf,typeInfo,hi,hk,<- hn,hl,hst]
theorem kp (w:World) (t tn ty e:TypeId) (i:TypeInfo) (z:Value) (kn:IntKind) (ht:P.underlying t=some (.slice e)) (htn:P.underlying tn=some (.int kn)) (hi:P.info? e=some i) (hz:i.zero=some z)
  (b:Addr) (sLen sCap:Nat) (olds:List Value) (hlo:olds.length=sLen*i.size) (holds:∀ j v,olds[j]? = some v->w.cell? (b.add j)=some v) (n:Nat) (h0:0<n) (hs:0<i.size)
  (hg:sCap<sLen+n) (h63:((sLen+n:Nat):Int)<=9223372036854775807) (h48:n*i.bytes<=281474976710656) (hfit:Builtin.nextslicecap (sLen+n) sCap*i.bytes<=281474976710656) (k:IntKind) :
  (Builtin.append_ #[t,tn] ty #[.slice (some b) sLen sCap,.int k n]).run P w =
   .ok (.slice (some ⟨w.heap.size,0,none⟩) (sLen+n) (grownCap w (sLen+n) sCap e))
    (w.drew.alloc (.cells (olds.toArray++Builtin.zeroCells z.cells n++Builtin.zeroCells z.cells (grownCap w (sLen+n) sCap e-(sLen+n))) e)):=by
 have hn:¬ (sLen+n<=sCap):=by omega
 have hw:IntKind.i64.wrap (n:Int)=n:=by rw [IntKind.wrap_i64]; omega
 have h63':¬ (9223372036854775807<((sLen:Int)+(n:Int))):=by omega
 have h48':¬ (281474976710656<Builtin.nextslicecap (sLen+n) sCap*i.bytes):=by omega
 have h48i:¬ (281474976710656<(n:Int)*(i.bytes:Int)):=by
  rw [<- Int.natCast_mul]
  omega
 have hneg:¬ ((n:Int)<0):=by omega
 have hn0:n≠0:=by omega
 have hns:¬ (n*i.size=0):=Nat.mul_ne_zero hn0 (by omega)
 have hfo:=run_firstCells_some (P:=P) w.drew i.size sLen b sLen sCap olds hlo (by simpa using holds)
 simp [Builtin.append_,run_underlying ht,run_underlying htn,sizeOf,typeInfo,zeroValue,hi,hz,asInt,asIntOf,hw,hn,hn0,hneg,hns,h63',h48',h48i,Question.forced,hfo,newRow,grownCap]
 try (congr 2; apply Array.ext'; simp [Be])
structure ye (P:Program) (ρ:Ren):Prop where
 mixed:P.follows .mixedOrders=true
 f22:Bears P (ρ.f 22) (Body2.n22 ρ)
 ov:∀ args w,(callFunc (ρ.f 29) args).run P w=((Extern.SlicesOverlaps.overlaps #[(ρ.t 24),(ρ.t 24)] #[(ρ.t 4)] args).run P w).andThen fun v w'=>.ok (.value v) w'
 t3:P.underlying (ρ.t 3)=some (TypeDesc.int IntKind.i64)
 a3:∀ w,(isAgg (ρ.t 3)).run P w=.ok false w
 z3:∀ w,(Go.sizeOf (ρ.t 3)).run P w=.ok 1 w
 v3:∀ w,(zeroValue (ρ.t 3)).run P w=.ok (Value.int IntKind.i64 0) w
 t4:P.underlying (ρ.t 4)=some (TypeDesc.bool)
 a4:∀ w,(isAgg (ρ.t 4)).run P w=.ok false w
 z4:∀ w,(Go.sizeOf (ρ.t 4)).run P w=.ok 1 w
 v4:∀ w,(zeroValue (ρ.t 4)).run P w=.ok (Value.bool false) w
 t24:P.underlying (ρ.t 24)=some (TypeDesc.slice (ρ.t 9))
 a24:∀ w,(isAgg (ρ.t 24)).run P w=.ok false w
 z24:∀ w,(Go.sizeOf (ρ.t 24)).run P w=.ok 1 w
 v24:∀ w,(zeroValue (ρ.t 24)).run P w=.ok (Value.slice none 0 0) w
set_option maxHeartbeats 4000000 in
set_option maxRecDepth 100000 in
theorem wh (L:ye P ρ) (i0:TypeInfo) (z:Value) (size bytes:Nat) (hi:P.info? (ρ.t 9)=some i0) (hz0:i0.zero=some z) (hz1:i0.size=size) (hz2:i0.bytes=bytes) (hzs:z.cells.size=size) (hsz:0<size)
  (z9:∀ w,(Go.sizeOf (ρ.t 9)).run P w=.ok size w) (v:Value) (base:Option Addr) (n cap:Nat) (hv:v=.slice base n cap) (xs:List Value) (w:World) (hown:w.ownsRow 0 (ρ.t 9) size v n xs) (ad:Addr) (m vc:Nat) (news:List Value) (hm:0<m)
  (hl:news.length=m*size) (hn:n+m<=maxLen) (hbig:(n+m)*bytes<=140737488355328) (hnews:∀ j u,news[j]? = some u->w.cell? (ad.add j)=some u) (h1:∀ u∈news,u.oneCell'=true) :
  Calls P (ρ.f 22) #[v,.int .i64 n,.slice (some ad) m vc] w fun e w'=>∃ v',e=.returned v'/\w'.ownsRow 0 (ρ.t 9) size v' (n+m) (xs++news)/\w.grownBy w' v.ownBlock/\(v'.ownBlock=v.ownBlock\/v'.ownBlock=some w.heap.size):=by
 subst hv
 have mixed:=L.mixed; have t3:=L.t3; have a3:=L.a3; have z3:=L.z3; have v3:=L.v3; have t4:=L.t4; have a4:=L.a4; have z4:=L.z4; have v4:=L.v4; have t24:=L.t24; have a24:=L.a24; have z24:=L.z24; have v24:=L.v24
 have u3:=run_underlying L.t3; have u4:=run_underlying L.t4; have u24:=run_underlying L.t24
 have hz1':¬ ((m:Int)=0):=by omega
 have hob:∀ c,(Value.slice base n c).ownBlock=(Value.slice base n cap).ownBlock:=fun c=>by cases base<;>rfl
 have hcap:n<=cap:=by
  rcases hown.2 with ⟨e,e2⟩ | ⟨g,c,cur,e,_,_,h,_⟩
  ·omega
  ·cases e; exact h
 have A:Aside (∀ j u,news[j]? = some u->w.cell? (ad.add j)=some u):=hnews
 clear hnews
 obtain ⟨_,_,FG⟩:=L.f22
 go_enter FG,Body2.n22_ntmps ρ
 go_wp2_with (at_builtin; refine wpList_append_own_at _ rfl _ _ (ρ.t 24) rfl 0 (ρ.t 9) i0 z size bytes t24 hi hz0 hz1 hz2 hzs hsz _ _ _ rfl hown ad m vc news rfl ?qc1 ?qc2 ?qc3 ?qc4 ?qc5 ?qc6 ?_)
 all_goals first
  | exact hl
  | exact A.out
  | exact h1
  | exact hn
  | exact hbig
  | exact Nat.zero_le _
  | (
   intro v' w1 ho hgrow hnil hblk
   go_wp2
   go_ret
   exact ⟨v',rfl,ho,by rw [<- hob]; exact hgrow,by rw [<- hob]; exact hblk⟩)
theorem zx {α:Type} (c V:List α) (I M N:Nat) (hI:I<=N) (hV:V.length=M) (hN:N+M<=c.length) :
  (((c.take (I+M)++(c.take N).drop I++c.drop (I+M+(N-I))).take I++V++(c.take (I+M)++(c.take N).drop I++c.drop (I+M+(N-I))).drop (I+M)).take (N+M))=c.take I++V++(c.take N).drop I:=by
 have l1:(c.take (I+M)).length=I+M:=by rw [List.length_take]; omega
 have l2:((c.take N).drop I).length=N-I:=by rw [List.length_drop,List.length_take]; omega
 have e1:(c.take (I+M)++(c.take N).drop I++c.drop (I+M+(N-I))).take I=c.take I:=by
  rw [Be,List.take_append_of_le_length (by omega),List.take_take,Nat.min_eq_left (by omega)]
 have e2:(c.take (I+M)++(c.take N).drop I++c.drop (I+M+(N-I))).drop (I+M)=(c.take N).drop I++c.drop (I+M+(N-I)):=by
  rw [Be,List.drop_append_of_le_length (by omega),List.drop_of_length_le (by omega),List.nil_append]
 rw [e1,e2,<- Be]
 have l3:(c.take I++V++(c.take N).drop I).length=N+M:=by simp only [List.length_append,l2,hV,List.length_take]; omega
 rw [List.take_append_of_le_length (by omega),<- l3,List.take_length]
theorem Jg (w:World) (g:Nat) (c:Array Value):(w.setRow g c).heap.size=w.heap.size:=by
 unfold World.setRow
 exact Array.size_modify
theorem vW {w:World} {b:Nat} {c:Array Value} {t:TypeId} {fz:Nat×Nat} (h:w.heap[b]? = some (.cells c t fz)):w.shape? b=some (t,c.size):=by simp [World.shape?,h]
theorem tF {w:World} {b o:Nat} {c:Array Value} {t:TypeId} (h:w.heap[b]? = some (.cells c t (0,0))):w.frozen? ⟨b,o,none⟩=false:=by simp [World.frozen?,h]
theorem RP {w:World} {b o:Nat} {c:Array Value} {t:TypeId} {fz:Nat×Nat} (h:w.heap[b]? = some (.cells c t fz)):w.cell? ⟨b,o,none⟩=c[o]? := by simp [World.cell?,h]
set_option maxHeartbeats 8000000 in
set_option maxRecDepth 100000 in
theorem uM (L:ye P ρ) (i0:TypeInfo) (z:Value) (size bytes:Nat) (hi:P.info? (ρ.t 9)=some i0) (hz0:i0.zero=some z) (hz1:i0.size=size) (hz2:i0.bytes=bytes) (hzs:z.cells.size=size) (hsz:0<size)
  (z9:∀ w,(Go.sizeOf (ρ.t 9)).run P w=.ok size w) (g n cap i:Nat) (cur:Array Value) (w:World) (hg:w.heap[g]? = some (.cells cur (ρ.t 9) (0,0))) (hcs:cur.size=cap*size) (hin:i<n) (vb m vc:Nat) (vcur:Array Value) (hgv:w.heap[vb]? = some (.cells vcur (ρ.t 9) (0,0))) (hvb:vb≠g)
  (hm:0<m) (hroom:n+m<=cap) (hcm:cap<=maxLen) (hvl:m*size<=vcur.size) (h1:∀ u∈cur.toList.take (n*size),u.oneCell'=true) (h1v:∀ u∈vcur.toList.take (m*size),u.oneCell'=true) (hkB:cur.size≠0) :
  Calls P (ρ.f 22) #[.slice (some ⟨g,0,none⟩) n cap,.int .i64 i,.slice (some ⟨vb,0,none⟩) m vc] w fun e w'=>e=.returned (.slice (some ⟨g,0,none⟩) (n+m) cap) /\
   ∃ cur',w'.heap[g]? = some (.cells cur' (ρ.t 9) (0,0))/\cur'.size=cap*size/\cur'.toList.take ((n+m)*size)=cur.toList.take (i*size)++vcur.toList.take (m*size)++(cur.toList.take (n*size)).drop (i*size)/\w.grownBy w' (some g):=by
 have mixed:=L.mixed; have t3:=L.t3; have a3:=L.a3; have z3:=L.z3; have v3:=L.v3; have t4:=L.t4; have a4:=L.a4; have z4:=L.z4; have v4:=L.v4; have t24:=L.t24; have a24:=L.a24; have z24:=L.z24; have v24:=L.v24
 have u3:=run_underlying L.t3; have u4:=run_underlying L.t4; have u24:=run_underlying L.t24
 have hcm':cap<=9223372036854775807:=hcm
 have hz1':¬ ((m:Int)=0):=by omega
 have hz2':¬ ((i:Int)=(n:Int)):=by omega
 have hw1:IntKind.i64.wrap ((i:Int)+(m:Int))=(i:Int)+(m:Int):=by rw [IntKind.wrap_i64]; omega
 have hw2:IntKind.i64.wrap ((n:Int)+(m:Int))=(n:Int)+(m:Int):=by rw [IntKind.wrap_i64]; omega
 have hb1:(0:Int)<=(i:Int)+(m:Int):=by omega
 have hin':i<=n:=by omega
 have htn:((i:Int)+(m:Int)).toNat=i+m:=by omega
 have htn2:((n:Int)+(m:Int)).toNat=n+m:=by omega
 have hb2:¬ (cap=i+m):=by omega
 have hb3:(i:Int)<=(n:Int)+(m:Int):=by omega
 have hb4:¬ (cap=i):=by omega
 have hb5:¬ ((n:Int)+(m:Int)>(cap:Int)):=by omega
 have hov:∀ o lb cb,(callFunc (ρ.f 29) #[.slice (some ⟨vb,0,none⟩) m vc,.slice (some ⟨g,o,none⟩) lb cb]).run P w=.ok (.value (.bool false)) w:=fun o lb cb=>by
  rw [L.ov,Lib.run_overlaps_apart w (ρ.t 24) (ρ.t 4) (ρ.t 9) L.t24 size z9 ⟨vb,0,none⟩ ⟨g,o,none⟩ m vc lb cb hvb _ _ _ _ (vW hgv) (vW hg) hkB (tF hgv) (tF hgv)]
  rfl
 have e1:(i+m)*size=i*size+m*size:=Nat.add_mul i m size
 have e2:(n+m)*size=n*size+m*size:=Nat.add_mul n m size
 have e3:(n-i)*size=n*size-i*size:=Nat.sub_mul n i size
 have e4:i*size<=n*size:=CH size hin'
 have e5:n*size+m*size<=cur.size:=by rw [hcs,<- e2]; exact CH size hroom
 have lm:((cur.toList.take (n*size)).drop (i*size)).length=(n-i)*size:=by rw [List.length_drop,List.length_take,Array.length_toList,e3]; omega
 have hcp1:∀ ty dc sc,(Builtin.copy_ #[(ρ.t 24),(ρ.t 24)] ty #[.slice (some ⟨g,(i+m)*size,none⟩) (n+m-(i+m)) dc,.slice (some ⟨g,i*size,none⟩) (n+m-i) sc]).run P w.drew=.ok (goInt ((n-i:Nat):Int)) (w.drew.setRow g (cur.toList.take ((i+m)*size)++(cur.toList.take (n*size)).drop (i*size)++cur.toList.drop ((i+m)*size+((cur.toList.take (n*size)).drop (i*size)).length)).toArray):=fun ty dc sc =>
  T6 w.drew _ _ ty (ρ.t 9) g ((i+m)*size) (n+m-(i+m)) dc ⟨g,i*size,none⟩ (n+m-i) sc cur (ρ.t 9) _ (n-i) i0 L.t24 hi hg (by simp only [Nat.min_def]; split<;>omega) (by rw [lm,hz1])
   (fun j v hj=>by
    rw [Addr.add_none]
    have:w.drew.cell? ⟨g,i*size+j,none⟩=cur[i*size+j]? := RP hg
    rw [this,<- hj,C3,Bz]
    have:i*size+j<n*size:=by
     have:=(Aj.1 hj).1
     omega
    rw [if_pos this,Array.getElem?_toList])
   (by rw [lm,e1,e3]; omega) (fun v hv=>h1 v (List.mem_of_mem_drop hv))
 obtain ⟨cur1,hcur1⟩:∃ c1,c1=(cur.toList.take ((i+m)*size)++(cur.toList.take (n*size)).drop (i*size)++cur.toList.drop ((i+m)*size+((cur.toList.take (n*size)).drop (i*size)).length)).toArray:=⟨_,rfl⟩
 rw [<- hcur1] at hcp1
 have hs1:cur1.size=cap*size:=by
  rw [hcur1,List.size_toArray]
  simp only [List.length_append,List.length_take,List.length_drop,Array.length_toList,e1]
  omega
 have hg1:(w.drew.setRow g cur1).heap[g]? = some (.cells cur1 (ρ.t 9) (0,0)):=setRow_heap w.drew g cur cur1 (ρ.t 9) _ hg
 have hgv1:(w.drew.setRow g cur1).heap[vb]? = some (.cells vcur (ρ.t 9) (0,0)):=by rw [setRow_other w.drew g vb cur1 hvb]; exact hgv
 have lv:(vcur.toList.take (m*size)).length=m*size:=by rw [List.length_take,Array.length_toList]; omega
 have hcp2:∀ (W:World),W.heap=(w.drew.setRow g cur1).heap->∀ ty dc,(Builtin.copy_ #[(ρ.t 24),(ρ.t 24)] ty #[.slice (some ⟨g,i*size,none⟩) (n+m-i) dc,.slice (some ⟨vb,0,none⟩) m vc]).run P W=.ok (goInt m) (W.setRow g (cur1.toList.take (i*size)++vcur.toList.take (m*size)++cur1.toList.drop (i*size+(vcur.toList.take (m*size)).length)).toArray):=fun W hW ty dc =>
  T6 W _ _ ty (ρ.t 9) g (i*size) (n+m-i) dc ⟨vb,0,none⟩ m vc cur1 (ρ.t 9) _ m i0 L.t24 hi (by rw [hW]; exact hg1) (by simp only [Nat.min_def]; split<;>omega) (by rw [lv,hz1])
   (fun j v hj=>by
    rw [Addr.add_none,RP (by rw [hW]; exact hgv1),<- hj,Bz,Nat.zero_add]
    have:j<m*size:=by
     have:=(Aj.1 hj).1
     omega
    rw [if_pos this,Array.getElem?_toList])
   (by rw [lv]; omega) h1v
 clear e1 e2 e3
 obtain ⟨_,_,FG⟩:=L.f22
 go_enter FG,Body2.n22_ntmps ρ
 go_wp2_with (simp only [hov])
 go_region_law_o (refine step_copy_runI rfl _ _ (ρ.t 24) (ρ.t 24) rfl _ _ (by simp [Act.eval,Act.put]) (by simp [Act.eval,Act.put]) (hcp1 _ _ _) ?_)
 go_wp2_with (at_builtin; refine wpList_copy_runI _ rfl _ _ (ρ.t 24) (ρ.t 24) rfl _ _ rfl rfl (hcp2 _ rfl _ _) ?_)
 go_ret
 have e1:(i+m)*size=i*size+m*size:=Nat.add_mul i m size
 have e2:(n+m)*size=n*size+m*size:=Nat.add_mul n m size
 have e3:(n-i)*size=n*size-i*size:=Nat.sub_mul n i size
 have e6:cur.toList.length=cap*size:=by rw [Array.length_toList,hcs]
 have e7:vcur.toList.length=vcur.size:=Array.length_toList
 refine ⟨rfl,_,setRow_heap _ g _ _ _ _ (setRow_heap w.drew g cur _ (ρ.t 9) _ hg),?_,?_,⟨rfl,rfl,rfl,by rw [Jg,Jg]; exact Nat.le_refl _,fun k hk hne=>?_⟩⟩
 ·simp only [List.size_toArray,List.length_append,List.length_take,List.length_drop,e1,e3,e6,e7]
  omega
 ·have:=zx cur.toList (vcur.toList.take (m*size)) (i*size) (m*size) (n*size) e4 lv (by omega)
  simp only [e1,e2,e3]
  simpa only [Be] using this
 ·have hk':k≠g:=fun e=>hne (by rw [e])
  rw [setRow_other _ g k _ hk',setRow_other _ g k _ hk']
  rfl
set_option maxHeartbeats 8000000 in
set_option maxRecDepth 100000 in
theorem vX (L:ye P ρ) (i0:TypeInfo) (z:Value) (size bytes:Nat) (hi:P.info? (ρ.t 9)=some i0) (hz0:i0.zero=some z) (hz1:i0.size=size) (hz2:i0.bytes=bytes) (hzs:z.cells.size=size) (hsz:0<size)
  (z9:∀ w,(Go.sizeOf (ρ.t 9)).run P w=.ok size w) (g n cap i:Nat) (cur:Array Value) (w:World) (hg:w.heap[g]? = some (.cells cur (ρ.t 9) (0,0))) (hcs:cur.size=cap*size) (hin:i<n) (vb m vc:Nat) (vcur:Array Value) (hgv:w.heap[vb]? = some (.cells vcur (ρ.t 9) (0,0))) (hvb:vb≠g)
  (hm:0<m) (hnc:n<=cap) (hroom:cap<n+m) (hcm:n+m<=68719476736) (hby:bytes<=2048) (hvl:m*size<=vcur.size) (h1:∀ u∈cur.toList.take (n*size),u.oneCell'=true) (h1v:∀ u∈vcur.toList.take (m*size),u.oneCell'=true) :
  Calls P (ρ.f 22) #[.slice (some ⟨g,0,none⟩) n cap,.int .i64 i,.slice (some ⟨vb,0,none⟩) m vc] w fun e w'=>∃ cap',e=.returned (.slice (some ⟨w.heap.size,0,none⟩) (n+m) cap')/\n+m<=cap'/\cap'<=maxLen /\
   ∃ cur',w'.heap[w.heap.size]? = some (.cells cur' (ρ.t 9) (0,0))/\cur'.size=cap'*size/\cur'.toList.take ((n+m)*size)=cur.toList.take (i*size)++vcur.toList.take (m*size)++(cur.toList.take (n*size)).drop (i*size)/\w.grownBy w' none:=by
 have mixed:=L.mixed; have t3:=L.t3; have a3:=L.a3; have z3:=L.z3; have v3:=L.v3; have t4:=L.t4; have a4:=L.a4; have z4:=L.z4; have v4:=L.v4; have t24:=L.t24; have a24:=L.a24; have z24:=L.z24; have v24:=L.v24
 have u3:=run_underlying L.t3; have u4:=run_underlying L.t4; have u24:=run_underlying L.t24
 have hcm':n+m<=9223372036854775807:=by omega
 have hz1':¬ ((m:Int)=0):=by omega
 have hz2':¬ ((i:Int)=(n:Int)):=by omega
 have hw1:IntKind.i64.wrap ((i:Int)+(m:Int))=(i:Int)+(m:Int):=by rw [IntKind.wrap_i64]; omega
 have hw2:IntKind.i64.wrap ((n:Int)+(m:Int))=(n:Int)+(m:Int):=by rw [IntKind.wrap_i64]; omega
 have hw3:IntKind.i64.wrap ((n:Int)+(m:Int)-(i:Int))=(n:Int)+(m:Int)-(i:Int):=by rw [IntKind.wrap_i64]; omega
 have hb1:(0:Int)<=(i:Int)+(m:Int):=by omega
 have hin':i<=n:=by omega
 have htn:((i:Int)+(m:Int)).toNat=i+m:=by omega
 have htn2:((n:Int)+(m:Int)).toNat=n+m:=by omega
 have hb4:¬ (cap=i):=by omega
 have hb5:(n:Int)+(m:Int)>(cap:Int):=by omega
 have hb6:¬ (cap=0):=by omega
 have e1:(i+m)*size=i*size+m*size:=Nat.add_mul i m size
 have e2:(n+m)*size=n*size+m*size:=Nat.add_mul n m size
 have e3:(n-i)*size=n*size-i*size:=Nat.sub_mul n i size
 have e4:i*size<=n*size:=CH size hin'
 have e5:n*size<=cur.size:=by rw [hcs]; exact CH size hnc
 have lo:(cur.toList.take (i*size)).length=i*size:=by rw [List.length_take,Array.length_toList]; omega
 have lv:(vcur.toList.take (m*size)).length=m*size:=by rw [List.length_take,Array.length_toList]; omega
 have lm:((cur.toList.take (n*size)).drop (i*size)).length=(n-i)*size:=by rw [List.length_drop,List.length_take,Array.length_toList,e3]; omega
 have hgl:g<w.heap.size:=(Array.getElem?_eq_some_iff.1 hg).1
 have hvl2:vb<w.heap.size:=(Array.getElem?_eq_some_iff.1 hgv).1
 have hbb:(n+m)*bytes<=140737488355328:=Nat.le_trans (Nat.mul_le_mul hcm hby) (by omega)
 obtain ⟨C,new,hap,hC1,hC2,hns,hnt⟩:∃ (C:Nat) (new:Array Value),(∀ ty,(Builtin.append_ #[(ρ.t 24),(ρ.t 3)] ty #[.slice (some ⟨g,0,none⟩) i cap,.int .i64 ((n:Int)+(m:Int)-(i:Int))]).run P w=.ok (.slice (some ⟨w.heap.size,0,none⟩) (n+m) C) (w.drew.alloc (.cells new (ρ.t 9)))) /\
   n+m<=C/\C<=maxLen/\new.size=C*size/\new.toList.take (i*size)=cur.toList.take (i*size):=by
  have hsum:i+(n+m-i)=n+m:=by omega
  have hge:=grownCap_ge w (n+m) cap (ρ.t 9)
  refine ⟨grownCap w (n+m) cap (ρ.t 9),(cur.toList.take (i*size)).toArray++Builtin.zeroCells z.cells (n+m-i)++Builtin.zeroCells z.cells (grownCap w (n+m) cap (ρ.t 9)-(n+m)),fun ty=>?_,hge,grownCap_le_maxLen _ _ _ _ (by unfold maxLen; omega),?_,?_⟩
  ·have:=kp (P:=P) w (ρ.t 24) (ρ.t 3) ty (ρ.t 9) i0 z .i64 L.t24 L.t3 hi hz0 ⟨g,0,none⟩ i cap (cur.toList.take (i*size)) (by rw [lo,hz1]) (fun j v hj=>by
     rw [Addr.add_none,RP hg,<- hj,Bz,Nat.zero_add]
     have:j<i*size:=by
      have:=(Aj.1 hj).1
      omega
     rw [if_pos this,Array.getElem?_toList]) (n+m-i) (by omega) (by omega) (by omega) (by omega) (by rw [hz2]; exact Nat.le_trans (CH bytes (Nat.sub_le _ _)) (by omega)) (by rw [hsum,hz2]; exact growslice_fits hroom hbb) .i64
   rw [hsum,show ((n+m-i:Nat):Int)=(n:Int)+(m:Int)-(i:Int) by omega] at this
   exact this
  ·simp only [Array.size_append,List.size_toArray,size_zeroCells,hzs,lo,<- Nat.add_mul]
   congr 1
   omega
  ·simp only [Array.toList_append,Be]
   exact (congrArg (fun k=>List.take k _) lo.symm).trans (by rw [List.take_left])
 have hW1:(w.drew.alloc (.cells new (ρ.t 9))).heap[w.heap.size]? = some (.cells new (ρ.t 9) (0,0)):=heap_alloc_new w.drew _
 have hW1o:∀ k,k<w.heap.size->(w.drew.alloc (.cells new (ρ.t 9))).heap[k]? = w.heap[k]? := fun k hk=>heap_alloc_old w.drew _ hk
 have e8:i*size+m*size<=new.size:=by rw [hns,<- e1]; exact CH size (by omega)
 have e9:n*size+m*size<=new.size:=by rw [hns,<- e2]; exact CH size (by omega)
 have hcp1:∀ (W:World),W.heap=(w.drew.alloc (.cells new (ρ.t 9))).heap->∀ ty dc,(Builtin.copy_ #[(ρ.t 24),(ρ.t 24)] ty #[.slice (some ⟨w.heap.size,i*size,none⟩) (n+m-i) dc,.slice (some ⟨vb,0,none⟩) m vc]).run P W=.ok (goInt m) (W.setRow w.heap.size (new.toList.take (i*size)++vcur.toList.take (m*size)++new.toList.drop (i*size+(vcur.toList.take (m*size)).length)).toArray):=fun W hW ty dc =>
  T6 W _ _ ty (ρ.t 9) w.heap.size (i*size) (n+m-i) dc ⟨vb,0,none⟩ m vc new (ρ.t 9) _ m i0 L.t24 hi (by rw [hW]; exact hW1) (by simp only [Nat.min_def]; split<;>omega) (by rw [lv,hz1])
   (fun j v hj=>by
    rw [Addr.add_none,RP (by rw [hW,hW1o vb hvl2]; exact hgv),<- hj,Bz,Nat.zero_add]
    have:j<m*size:=by
     have:=(Aj.1 hj).1
     omega
    rw [if_pos this,Array.getElem?_toList])
   (by rw [lv]; omega) h1v
 obtain ⟨cur1,hcur1⟩:∃ c1,c1=(new.toList.take (i*size)++vcur.toList.take (m*size)++new.toList.drop (i*size+(vcur.toList.take (m*size)).length)).toArray:=⟨_,rfl⟩
 rw [<- hcur1] at hcp1
 have hln:new.toList.length=new.size:=Array.length_toList
 have hs1:cur1.size=C*size:=by
  rw [hcur1,List.size_toArray,<- hns]
  simp only [List.length_append,List.length_take,List.length_drop,hln,lv]
  omega
 have hcp2:∀ (W:World),W.heap=((w.drew.alloc (.cells new (ρ.t 9))).setRow w.heap.size cur1).heap->∀ ty dc sc,(Builtin.copy_ #[(ρ.t 24),(ρ.t 24)] ty #[.slice (some ⟨w.heap.size,(i+m)*size,none⟩) (n+m-(i+m)) dc,.slice (some ⟨g,i*size,none⟩) (n-i) sc]).run P W=.ok (goInt ((n-i:Nat):Int)) (W.setRow w.heap.size (cur1.toList.take ((i+m)*size)++(cur.toList.take (n*size)).drop (i*size)++cur1.toList.drop ((i+m)*size+((cur.toList.take (n*size)).drop (i*size)).length)).toArray):=fun W hW ty dc sc =>
  T6 W _ _ ty (ρ.t 9) w.heap.size ((i+m)*size) (n+m-(i+m)) dc ⟨g,i*size,none⟩ (n-i) sc cur1 (ρ.t 9) _ (n-i) i0 L.t24 hi (by rw [hW]; exact setRow_heap _ _ new cur1 _ _ hW1) (by simp only [Nat.min_def]; split<;>omega) (by rw [lm,hz1])
   (fun j v hj=>by
    rw [Addr.add_none,RP (by rw [hW,setRow_other _ _ g _ (by omega),hW1o g hgl]; exact hg),<- hj,C3,Bz]
    have:i*size+j<n*size:=by
     have:=(Aj.1 hj).1
     omega
    rw [if_pos this,Array.getElem?_toList])
   (by rw [lm,hs1,<- hns,e1,e3]; omega) (fun v hv=>h1 v (List.mem_of_mem_drop hv))
 have fin:(cur1.toList.take ((i+m)*size)++(cur.toList.take (n*size)).drop (i*size)++cur1.toList.drop ((i+m)*size+((cur.toList.take (n*size)).drop (i*size)).length)).take ((n+m)*size)=cur.toList.take (i*size)++vcur.toList.take (m*size)++(cur.toList.take (n*size)).drop (i*size):=by
  have l1:(new.toList.take (i*size)).length=i*size:=by rw [List.length_take,hln]; omega
  have t1:cur1.toList.take ((i+m)*size)=cur.toList.take (i*size)++vcur.toList.take (m*size):=by
   rw [hcur1,<- hnt,e1]
   have l2:(new.toList.take (i*size)++vcur.toList.take (m*size)).length=i*size+m*size:=by rw [List.length_append,l1,lv]
   exact (congrArg (fun k=>List.take k _) l2.symm).trans (by rw [List.take_left])
  rw [t1]
  have l3:(cur.toList.take (i*size)++vcur.toList.take (m*size)++(cur.toList.take (n*size)).drop (i*size)).length=(n+m)*size:=by
   simp only [List.length_append,lo,lv,lm,e2,e3]
   omega
  exact (congrArg (fun k=>List.take k _) l3.symm).trans (by rw [List.take_left])
 obtain ⟨cur2,hcur2⟩:∃ c2,c2=(cur1.toList.take ((i+m)*size)++(cur.toList.take (n*size)).drop (i*size)++cur1.toList.drop ((i+m)*size+((cur.toList.take (n*size)).drop (i*size)).length)).toArray:=⟨_,rfl⟩
 rw [<- hcur2] at hcp2
 have hs2:cur2.size=C*size:=by
  rw [hcur2,List.size_toArray,<- hs1]
  simp only [List.length_append,List.length_take,List.length_drop,Array.length_toList,lm,e1,e3]
  omega
 have fin2:cur2.toList.take ((n+m)*size)=cur.toList.take (i*size)++vcur.toList.take (m*size)++(cur.toList.take (n*size)).drop (i*size):=by rw [hcur2]; exact fin
 clear e1 e2 e3 hcur1 hcur2 fin
 obtain ⟨W1,hW1d⟩:∃ W1,W1=w.drew.alloc (.cells new (ρ.t 9)):=⟨_,rfl⟩
 have hWs:W1.heap.size=w.heap.size+1:=by rw [hW1d]; exact Array.size_push _
 have hWos:W1.os=w.os/\W1.tape=w.tape/\W1.output=w.output:=by rw [hW1d]; exact ⟨rfl,rfl,rfl⟩
 rw [<- hW1d] at hW1 hW1o hcp1 hcp2 hap
 clear hW1d
 have hcp3:=hcp2 (W1.setRow w.heap.size cur1).drew rfl
 clear hcp2
 have hb7:¬ (C=i+m):=by omega
 have hb8:¬ (C=i):=by omega
 obtain ⟨_,_,FG⟩:=L.f22
 go_enter FG,Body2.n22_ntmps ρ
 go_wp2_with (at_builtin; refine Lib.wpList_append_run _ rfl _ _ (ρ.t 24) (ρ.t 3) rfl _ _ rfl rfl _ _ (hap _) ?_)
 go_region_law_o (refine step_copy_runI rfl _ _ (ρ.t 24) (ρ.t 24) rfl _ _ (by simp [Act.eval,Act.put]) (by simp [Act.eval,Act.put]) (hcp3 _ _ _) ?_)
 go_wp2
 go_ret
 refine ⟨C,rfl,hC1,hC2,cur2,setRow_heap _ _ cur1 cur2 _ _ (setRow_heap _ _ new cur1 _ _ hW1),hs2,fin2,⟨hWos.1,hWos.2.1,hWos.2.2,?_,fun k hk _=>?_⟩⟩
 ·rw [Jg]
  show w.heap.size<=(W1.setRow w.heap.size cur1).heap.size
  rw [Jg,hWs]
  omega
 ·rw [setRow_other _ _ k _ (by omega)]
  show (W1.setRow w.heap.size cur1).heap[k]? = _
  rw [setRow_other _ _ k _ (by omega),hW1o k hk]
theorem nD {H:HP} {K:Kd} {xs:List K.T} {f:List Value} (h:Dx H K xs f) (i:Nat):Dx H K (xs.take i) (f.take (i*K.sz)):=by
 intro j x hx
 rw [Bz] at hx
 split at hx
 ·rename_i hj
  have:=h j x hx
  have hle:(j+1)*K.sz<=i*K.sz:=CH _ hj
  rw [Nat.succ_mul] at hle
  rw [List.drop_take,List.take_take,Nat.min_eq_left (by omega)]
  exact this
 ·cases hx
theorem nE {H:HP} {K:Kd} {xs:List K.T} {f:List Value} (h:Dx H K xs f) (i:Nat):Dx H K (xs.drop i) (f.drop (i*K.sz)):=by
 intro j x hx
 rw [C3] at hx
 have:=h _ x hx
 rw [List.drop_drop,<- Nat.add_mul]
 exact this
theorem uN {H:HP} {φ:CG} {w w':World} {t:TypeId} {K:Kd} {xs vs ys:List K.T} {n:Int} {v':Value} {flat:List Value}
  (hs:SR H φ (Bd [] [.new t K xs,.int .i64 n,.new t K vs]) w) (hg:w.grownBy w' (DZ (φ 0))) (hb:∀ b,DZ v'=some b->DZ (φ 0)=some b\/w.heap.size<=b)
  (ho:w'.ownsRow 0 t K.sz v' ys.length flat) (hr:Dx H K ys flat):Ov H φ w [.new t K xs,.int .i64 n,.new t K vs] [] [] [.new t K ys] v' w':=by
 have hout:∀ b,DZ (φ 0)=some b->H b=none:=fun b h=>hs.out 0 (.rows t K xs) rfl rfl b h
 have hlt:∀ b o,H b=some o->b<w.heap.size:=fun b o h=>(Array.getElem?_eq_some_iff.1 (hs.hp b o h)).1
 refine ⟨H,fun _=>v',HP.le_refl H,⟨fun b o h=>?_,fun id bx hid=>?_,fun i j bi bj hi hj _ _ hne=>?_,fun i bi hi _ b hv=>?_,fun id cs hid=>?_,hs.tb⟩,⟨hg.os,hg.tape,hg.output,hg.size,fun b hlt hne=>hg.block b hlt (fun e=>hne 0 (by show 0<2; omega) e.symm),fun j hj=>by simp at hj,fun i bi hi _ b hv=>?_,fun j hj=>by simp at hj,fun _ _ _=>rfl⟩,⟨rfl,rfl⟩⟩
 ·rw [hg.block b (hlt b o h) (fun e=>by rw [hout b e.symm] at h; cases h)]
  exact hs.hp b o h
 ·cases id with
  | zero=>cases hid; exact ⟨flat,ho,hr⟩
  | succ k=>cases hid
 ·cases i with
  | succ k=>cases hi
  | zero =>
   cases j with
   | succ k=>cases hj
   | zero=>exact absurd rfl hne
 ·cases hh:H b with
  | none=>rfl
  | some o =>
   rcases hb b hv with h | h
   ·rw [hout b h] at hh; cases hh
   ·have:=hlt b o hh; omega
 ·cases id with
  | zero=>cases hid
  | succ k=>cases hid
 ·rcases hb b hv with h | h
  ·exact .inr ⟨0,(by show 0<2; omega),h⟩
  ·exact .inl h
theorem yf {K:Kd} (L:ye P ρ) (he:r4 P (ρ.t 9) K=true) {xs vs:List K.T} {i:Nat} (hx:xs.length+vs.length<=68719476736) (hv:vs≠[]) (hi:i<=xs.length) :
  QD P (ρ.f 22) [.new (ρ.t 9) K xs,.int .i64 i,.new (ρ.t 9) K vs] [] [.new (ρ.t 9) K (xs.take i++vs++xs.drop i)]:=by
 obtain ⟨i0,z,hi0,hz,h1,h2,h3,h4⟩:=Vh he
 have hm:0<vs.length:=List.length_pos_iff.2 hv
 have hsz:=Kd.sz_pos K
 refine ⟨?_,?_,1,rfl,fun H φ w cargs hs ha=>?_⟩
 ·obtain ⟨nm,hnm,hf⟩:=L.f22
  exact ⟨_,_,hf,hnm,rfl⟩
 ·intro r hr
  simp only [B5] at hr
  subst hr
  rfl
 ·obtain ⟨v0,r0,rfl,hv0,ha⟩:=ha
  obtain ⟨v1,r1,rfl,hv1,ha⟩:=ha
  obtain ⟨v2,r2,rfl,hv2,ha⟩:=ha
  have hr2:r2=[]:=ha
  subst hr2
  have e0:v0=φ 0:=hv0.1
  have e1:v1=.int .i64 i:=hv1
  have e2:v2=φ 1:=hv2.1
  subst e0 e1 e2
  obtain ⟨flat,ho,hr⟩:=hs.box 0 (.rows (ρ.t 9) K xs) rfl
  obtain ⟨flatv,hov,hrv⟩:=hs.box 1 (.rows (ρ.t 9) K vs) rfl
  have hnew:(xs.take i++vs++xs.drop i).length=xs.length+vs.length:=by simp only [List.length_append,List.length_take,List.length_drop]; omega
  have hnil:vs.length≠0:=by omega
  obtain ⟨gv,capv,curv,ev,_,hgv,hcv,hcmv,hsv,htv⟩:=hov.2.resolve_left (fun h=>hnil h.2)
  have hlv:vs.length*K.sz<=curv.size:=by rw [hsv]; exact CH _ hcv
  have hn:xs.length+vs.length<=maxLen:=by unfold maxLen; omega
  have hbb:(xs.length+vs.length)*i0.bytes<=140737488355328:=Nat.le_trans (Nat.mul_le_mul hx h2) (by omega)
  have hcv2:∀ j u,flatv[j]? = some u->w.cell? ((⟨gv,0,none⟩:Addr).add j)=some u:=fun j u hj=>by
   rw [Addr.add_none,RP hgv,Nat.zero_add]
   rw [<- htv,Bz] at hj
   split at hj
   ·rwa [Array.getElem?_toList] at hj
   ·cases hj
  have one:(w.ownsRow 0 (ρ.t 9) K.sz (φ 1) vs.length flatv):=hov
  rw [ev]
  by_cases hin:i=xs.length
  ·subst hin
   obtain ⟨base,n,cap,e0,hnn⟩:∃ base n cap,φ 0=.slice base n cap/\n=xs.length:=by
    rcases ho.2 with ⟨e,h⟩ | ⟨g,cap,cur,e,_⟩
    ·exact ⟨none,0,0,e,h.symm⟩
    ·exact ⟨_,_,_,e,rfl⟩
   subst hnn
   refine Calls.mono (wh L i0 z K.sz i0.bytes hi0 hz h1 rfl h3 hsz (fun w=>by simp [sizeOf,typeInfo,hi0,h1]) (φ 0) base _ cap e0 flat w ho ⟨gv,0,none⟩ vs.length capv flatv hm hov.1 hn hbb hcv2 (De hrv hov.1)) fun out w' h=>?_
   obtain ⟨v',rfl,ho',hg,hbk⟩:=h
   have hbv:∀ {v:Value} {n:Nat} {fl:List Value} {ww:World},ww.ownsRow 0 (ρ.t 9) K.sz v n fl->DZ v=v.ownBlock:=fun h=>by
    rcases h.2 with ⟨e,_⟩ | ⟨g,c,cu,e,_⟩<;>rw [e]<;>rfl
   have hbl:DZ (φ 0)=(φ 0).ownBlock:=by rw [e0]; cases base<;>rfl
   refine uN (flat:=flat++flatv) hs (by rw [hbl]; exact hg) (fun b hb=>?_) (by rw [hnew]; exact ho') ?_
   ·rw [hbv ho'] at hb
    rcases hbk with h | h
    ·exact .inl (by rw [hbl,<- h]; exact hb)
    ·rw [h] at hb
     cases hb
     exact .inr (Nat.le_refl _)
   ·rw [List.take_length,List.drop_length,List.append_nil]
    exact IH hr ho.1 hrv
  ·have hlt:i<xs.length:=by omega
   obtain ⟨g,cap,cur,e0,_,hg,hc,hcm,hsc,ht⟩:=ho.2.resolve_left (fun h=>by omega)
   have hne:gv≠g:=fun e=>hs.sep 0 1 _ _ rfl rfl rfl rfl (by decide) g (by rw [e0]; rfl) (by rw [ev,e]; rfl)
   rw [e0]
   have z9:∀ w,(Go.sizeOf (ρ.t 9)).run P w=.ok K.sz w:=fun w=>by simp [sizeOf,typeInfo,hi0,h1]
   have hcap0:cur.size≠0:=by
    have:=CH K.sz hc
    have h5:0<xs.length*K.sz:=Nat.mul_pos (by omega) hsz
    omega
   have htk:cur.toList.take (i*K.sz)=flat.take (i*K.sz):=by
    rw [<- ht,List.take_take,Nat.min_eq_left (CH _ hi)]
   have hrow:∀ (cur':Array Value),cur'.toList.take ((xs.length+vs.length)*K.sz)=cur.toList.take (i*K.sz)++curv.toList.take (vs.length*K.sz)++(cur.toList.take (xs.length*K.sz)).drop (i*K.sz)->cur'.toList.take ((xs.length+vs.length)*K.sz)=flat.take (i*K.sz)++flatv++flat.drop (i*K.sz):=fun cur' h=>by rw [h,htk,htv,ht]
   have hlf:(flat.take (i*K.sz)++flatv++flat.drop (i*K.sz)).length=(xs.length+vs.length)*K.sz:=by
    have h5:=ho.1
    have h6:=hov.1
    have h7:i*K.sz<=xs.length*K.sz:=CH _ hi
    simp only [List.length_append,List.length_take,List.length_drop,h5,h6,Nat.add_mul]
    omega
   have hrr:Dx H K (xs.take i++vs++xs.drop i) (flat.take (i*K.sz)++flatv++flat.drop (i*K.sz)):=by
    have h5:=ho.1
    have h7:i*K.sz<=xs.length*K.sz:=CH _ hi
    have l1:(flat.take (i*K.sz)).length=(xs.take i).length*K.sz:=by rw [List.length_take,List.length_take,Nat.min_eq_left hi,h5]; omega
    refine IH (IH (nD hr i) l1 hrv) ?_ (nE hr i)
    rw [List.length_append,List.length_append,l1,hov.1,Nat.add_mul]
   by_cases hroom:xs.length+vs.length<=cap
   ·refine Calls.mono (uM L i0 z K.sz i0.bytes hi0 hz h1 rfl h3 hsz z9 g xs.length cap i cur w hg hsc hlt gv vs.length capv curv hgv hne hm hroom hcm hlv (by rw [ht]; exact De hr ho.1) (by rw [htv]; exact De hrv hov.1) hcap0) fun out w' h=>?_
    obtain ⟨rfl,cur',g1,g2,g3,g4⟩:=h
    refine uN hs (by rw [e0]; exact g4) (fun b hb=>.inl (by rw [e0]; exact hb)) (flat:=flat.take (i*K.sz)++flatv++flat.drop (i*K.sz)) ?_ hrr
    rw [hnew]
    exact ⟨hlf,.inr ⟨g,cap,cur',rfl,Nat.zero_le _,g1,hroom,hcm,g2,hrow cur' g3⟩⟩
   ·refine Calls.mono (vX L i0 z K.sz i0.bytes hi0 hz h1 rfl h3 hsz z9 g xs.length cap i cur w hg hsc hlt gv vs.length capv curv hgv hne hm hc (by omega) hx h2 hlv (by rw [ht]; exact De hr ho.1) (by rw [htv]; exact De hrv hov.1)) fun out w' h=>?_
    obtain ⟨cap',rfl,g5,g6,cur',g1,g2,g3,g4⟩:=h
    refine uN hs ⟨g4.os,g4.tape,g4.output,g4.size,fun k hk _=>g4.block k hk (by simp)⟩ (fun b hb=>.inr (by cases hb; exact Nat.le_refl _)) (flat:=flat.take (i*K.sz)++flatv++flat.drop (i*K.sz)) ?_ hrr
    rw [hnew]
    exact ⟨hlf,.inr ⟨w.heap.size,cap',cur',rfl,Nat.zero_le _,g1,g5,g6,g2,hrow cur' g3⟩⟩
def qb (t:TypeId) (K:Kd) (args bs:List AV):Option (List AV) :=
 match args,bs with
 | [.lst K' xs],[]=>if h:K'=K then (if xs.length<=68719476736 then some [.new t K (h▸xs)] else none) else none
 | _,_=>none
theorem qc {t:TypeId} {K:Kd} {xs:List K.T} (h:xs.length<=68719476736):qb t K [.lst K xs] []=some [.new t K xs]:=by simp [qb,h]
theorem qd {K:Kd} (L:SlLaysE0.n41 P ρ) (he:r4 P (ρ.t 23) K=true) {args bs rs:List AV} (h:qb (ρ.t 23) K args bs=some rs):QD P (ρ.f 41) args bs rs:=by
 unfold qb at h
 split at h
 ·split at h
  ·rename_i hk
   subst hk
   split at h
   ·cases h
    exact zw L he (by assumption)
   ·cases h
  ·cases h
 ·cases h
def zy (t:TypeId) (K:Kd) (args bs:List AV):Option (List AV) :=
 match args,bs with
 | [.new t1 K1 xs,.int k i,.new t2 K2 vs],[]=>if h1:K1=K then (if h2:K2=K then (if t1=t/\t2=t/\k=.i64/\0<=i/\i<=xs.length/\vs.length≠0/\xs.length+vs.length<=68719476736 then
   some [.new t K ((h1▸xs).take i.toNat++(h2▸vs)++(h1▸xs).drop i.toNat)] else none) else none) else none
 | _,_=>none
theorem ABQ {t:TypeId} {K:Kd} {xs vs:List K.T} {i:Nat} (h:xs.length+vs.length<=68719476736) (hi:i<=xs.length) (hv:vs.length≠0):zy t K [.new t K xs,.int .i64 i,.new t K vs] []=some [.new t K (xs.take i++vs++xs.drop i)]:=by
 have hi':(i:Int)<=(xs.length:Int):=by omega
 have h0:(0:Int)<=(i:Int):=by omega
 simp only [zy,dif_pos,true_and]
 rw [if_pos ⟨h0,hi',hv,h⟩,Ad]
theorem ABR {K:Kd} (L:ye P ρ) (he:r4 P (ρ.t 9) K=true) {args bs rs:List AV} (h:zy (ρ.t 9) K args bs=some rs):QD P (ρ.f 22) args bs rs:=by
 unfold zy at h
 split at h
 ·split at h
  ·rename_i hk
   subst hk
   split at h
   ·rename_i hk2
    subst hk2
    split at h
    ·rename_i hc
     obtain ⟨rfl,rfl,rfl,h0,hi,hv,hx⟩:=hc
     cases h
     rename_i n _
     obtain ⟨m,rfl⟩:=Int.eq_ofNat_of_zero_le h0
     exact yf L he hx (fun e=>hv (by rw [e]; rfl)) (by omega)
    ·cases h
   ·cases h
  ·cases h
 ·cases h
def ACU (args bs:List AV):Option (List AV) :=
 match args,bs with
 | [.str a,.str b],[]=>some [.int .i64 (Lib.compareBytes a.data.toList b.data.toList)]
 | _,_=>none
theorem ABS (L:Lays.n106 P ρ) {args bs rs:List AV} (h:ACU args bs=some rs):QD P (ρ.f 106) args bs rs:=by
 unfold ACU at h
 split at h
 ·cases h
  rename_i a b
  refine ⟨⟨_,_,L.f106,by rfl,rfl⟩,?_,1,rfl,fun H φ w cargs hs ha=>?_⟩
  ·intro r hr
   simp only [B5] at hr
   subst hr
   rfl
  ·obtain ⟨v0,r0,rfl,hv0,ha⟩:=ha
   obtain ⟨v1,r1,rfl,hv1,ha⟩:=ha
   have hr1:r1=[]:=ha
   subst hr1
   have e0:v0=.string a:=hv0
   have e1:v1=.string b:=hv1
   subst e0 e1
   refine Calls.mono (Any.strings_Compare L a b w) fun out w' h=>?_
   obtain ⟨rfl,rfl⟩:=h
   exact aZ (rs:=[.int .i64 (Lib.compareBytes a.data.toList b.data.toList)]) (Ae.refl hs) rfl
 ·cases h
theorem pB {H:HP} {φ:CG} {w w':World} {t:TypeId} {K:Kd} {xs ys:List K.T} {ags:List AV} {v':Value} {flat:List Value} (hst:Bd [] (.new t K xs::ags)=[.rows t K xs])
  (hs:SR H φ (Bd [] (.new t K xs::ags)) w) (hg:w.grownBy w' (DZ (φ 0))) (hb:∀ b,DZ v'=some b->DZ (φ 0)=some b\/w.heap.size<=b)
  (ho:w'.ownsRow 0 t K.sz v' ys.length flat) (hr:Dx H K ys flat):Ov H φ w (.new t K xs::ags) [] [] [.new t K ys] v' w':=by
 have hbx:(Bd [] (.new t K xs::ags))[0]? = some (.rows t K xs):=by rw [hst]; rfl
 have hout:∀ b,DZ (φ 0)=some b->H b=none:=fun b h=>hs.out 0 (.rows t K xs) hbx rfl b h
 have hlt:∀ b o,H b=some o->b<w.heap.size:=fun b o h=>(Array.getElem?_eq_some_iff.1 (hs.hp b o h)).1
 refine ⟨H,fun _=>v',HP.le_refl H,⟨fun b o h=>?_,fun id bx hid=>?_,fun i j bi bj hi hj _ _ hne=>?_,fun i bi hi _ b hv=>?_,fun id cs hid=>?_,hs.tb⟩,⟨hg.os,hg.tape,hg.output,hg.size,fun b hlt hne=>hg.block b hlt (fun e=>hne 0 (by rw [hst]; show 0<1; omega) e.symm),fun j hj=>by simp at hj,fun i bi hi _ b hv=>?_,fun j hj=>by simp at hj,fun _ _ _=>rfl⟩,⟨rfl,rfl⟩⟩
 ·rw [hg.block b (hlt b o h) (fun e=>by rw [hout b e.symm] at h; cases h)]
  exact hs.hp b o h
 ·cases id with
  | zero=>cases hid; exact ⟨flat,ho,hr⟩
  | succ k=>cases hid
 ·cases i with
  | succ k=>cases hi
  | zero =>
   cases j with
   | succ k=>cases hj
   | zero=>exact absurd rfl hne
 ·cases hh:H b with
  | none=>rfl
  | some o =>
   rcases hb b hv with h | h
   ·rw [hout b h] at hh; cases hh
   ·have:=hlt b o hh; omega
 ·cases id with
  | zero=>cases hid
  | succ k=>cases hid
 ·rcases hb b hv with h | h
  ·exact .inr ⟨0,(by rw [hst]; show 0<1; omega),h⟩
  ·exact .inl h

structure ACV (P:Program) (g:Nat):Prop where
 eg:∀ args w,(callFunc g args).run P w=.ok (.enter g args) w
 says:∀ (n x:Int) (b o:Nat) (W:World),W.cell? ⟨b,o,none⟩=some (.int .i64 n) ->
  Calls P g #[.int .i64 x,.pointer (some ⟨b,o,none⟩)] W fun e w'=>e=.returned (.bool (x==n))/\∃ q,w'=W.drewN q
set_option maxHeartbeats 2000000 in
theorem vY (L:SlLaysH.n10 P ρ) (fv:Value) (w:World) :
  Calls P (ρ.f 10) #[.slice none 0 0,fv] w fun e w'=>e=.returned (.slice none 0 0)/\w'=w:=by
 have mixed:=L.mixed; have t0:=L.t0; have a0:=L.a0; have z0:=L.z0; have v0:=L.v0; have t3:=L.t3; have a3:=L.a3; have z3:=L.z3; have v3:=L.v3; have t4:=L.t4; have a4:=L.a4; have z4:=L.z4; have v4:=L.v4; have t22:=L.t22; have a22:=L.a22; have z22:=L.z22; have v22:=L.v22; have a23:=L.a23; have z23:=L.z23; have t25:=L.t25; have a25:=L.a25; have z25:=L.z25; have v25:=L.v25
 have e6:∀ args w,(callFunc (ρ.f 6) args).run P w=.ok (.enter (ρ.f 6) args) w:=L.f6.enters rfl
 have hIF:=AnyE.slices_IndexFunc_empty (P:=P) (ρ:=ρ) { L with } none 0 fv w
 obtain ⟨_,_,FG⟩:=L.f10
 go_enter FG,SlBodyH.n10_ntmps ρ
 go_wp2_with (go_at_fn (ρ.f 6); refine hIF.mono ?_; rintro e w' ⟨rfl,rfl⟩)
 go_ret
 exact ⟨rfl,rfl⟩
theorem hY {α:Type} [Inhabited α] (enc:α->Value) (w:World) (b off:Nat) (d:Array α):(Sort.putRow enc w b off d).heap.size=w.heap.size:=by
 simp [Sort.putRow,Sort.mapBlock]
theorem hZ {α:Type} [Inhabited α] (enc:α->Value) (w:World) (b off k:Nat) (d:Array α) (h:k≠b):(Sort.putRow enc w b off d).heap[k]? = w.heap[k]? := by
 simp only [Sort.putRow,Sort.mapBlock,Array.getElem?_modify]
 rw [if_neg (fun e=>h e.symm)]
theorem kq {α:Type} [Inhabited α] (enc:α->Value) (w:World) (b off:Nat) (d:Array α) {c:Array Value} {e:TypeId} {fr:Nat×Nat} (h:w.heap[b]? = some (.cells c e fr)) :
  (Sort.putRow enc w b off d).heap[b]? = some (.cells (Sort.putCells enc off d c) e fr):=by
 simp only [Sort.putRow,Sort.mapBlock,Array.getElem?_modify,if_true,h,Option.map_some,Sort.onCells]
theorem wo (L:SlLaysH.n10 P ρ) (hv:∀ w,(zeroValue (ρ.t 23)).run P w=.ok (.int .i64 0) w) {g:Nat} (E:ACV P g) {xs:List Int} {n:Int} :
  QD P (ρ.f 10) [.new (ρ.t 23) (.int .i64) xs,.clo g (.int .i64) n] [] [.new (ρ.t 23) (.int .i64) (xs.filter fun x=>!(x==n))]:=by
 refine ⟨?_,?_,1,rfl,fun H φ w cargs hs ha=>?_⟩
 ·obtain ⟨nm,hnm,hf⟩:=L.f10
  exact ⟨_,_,hf,hnm,rfl⟩
 ·intro r hr
  simp only [B5] at hr
  subst hr
  rfl
 ·obtain ⟨v0,r0,rfl,hv0,ha⟩:=ha
  obtain ⟨v1,r1,rfl,hv1,ha⟩:=ha
  have hr1:r1=[]:=ha
  subst hr1
  have e0:v0=φ 0:=hv0.1
  subst e0
  obtain ⟨b,o,c,el,fz,e1,hb,vs,hvs,hvc⟩:=(show ux H g (GN H (.int .i64) n) v1 from hv1)
  have hvs:vs=[.int .i64 n]:=hvs
  subst hvs e1
  have hcn:c[o]? = some (.int .i64 n):=hvc 0 _ rfl
  have hwb:=hs.hp _ _ hb
  have hbl:b<w.heap.size:=(Array.getElem?_eq_some_iff.1 hwb).1
  have hcell:w.cell? ⟨b,o,none⟩=some (.int .i64 n):=by rw [RP hwb]; exact hcn
  obtain ⟨flat,ho,hr⟩:=hs.box 0 (.rows (ρ.t 23) (.int .i64) xs) rfl
  have hstk:Bd [] [AV.new (ρ.t 23) (.int .i64) xs,.clo g (.int .i64) n]=[.rows (ρ.t 23) (.int .i64) xs]:=rfl
  have hout:∀ bb,DZ (φ 0)=some bb->H bb=none:=fun bb h=>hs.out 0 (.rows (ρ.t 23) (.int .i64) xs) rfl rfl bb h
  obtain ⟨hfl,⟨e0,hx⟩ | ⟨gb,cap,cur,e0,hle,hg,hc,hcm,hsc,ht⟩⟩:=ho
  ·have:xs=[]:=DV.1 (by omega)
   subst this
   rw [e0]
   refine Calls.mono (vY L _ w) fun out w' h=>?_
   obtain ⟨rfl,rfl⟩:=h
   exact pB hstk hs ⟨rfl,rfl,rfl,Nat.le_refl _,fun _ _ _=>rfl⟩ (fun b hb=>by simp [DZ] at hb) (flat:=[]) ⟨by simp,.inl ⟨rfl,rfl⟩⟩ (fun j x h=>by simp at h)
  ·have hne:b≠gb:=fun e=>by
    have:=hout gb (by rw [e0]; rfl)
    rw [<- e] at this
    rw [this] at hb; cases hb
   have hgl:gb<w.heap.size:=(Array.getElem?_eq_some_iff.1 hg).1
   have hflat:∀ j (h:j<xs.length),cur[j]? = some (.int .i64 xs[j]):=fun j hj=>by
    have h1:(flat.drop (j*1)).take 1=[.int .i64 xs[j]]:=hr j xs[j] (List.getElem?_eq_getElem hj)
    have h4:((flat.drop (j*1)).take 1)[0]? = some (.int .i64 xs[j]):=by rw [h1]; rfl
    have h5:flat[j]? = some (.int .i64 xs[j]):=by simpa using h4
    rw [<- ht] at h5
    have h6:j<xs.length*Kd.sz (.int .i64):=by simpa [Kd.sz] using hj
    rw [Bz,if_pos h6,Array.getElem?_toList] at h5
    exact h5
   have hH:Sort.Holds (Value.int .i64) w gb 0 xs.toArray:=fun j hj=>by
    have hj':j<xs.length:=by simpa using hj
    have hx:xs.toArray[j]! = xs[j]:=by simp [hj']
    refine ⟨?_,?_⟩
    ·rw [RP hg,Nat.zero_add,hflat j hj',hx]
    ·simp [World.frozen?,hg]
   have hp:PredAt P g #[.pointer (some ⟨b,o,none⟩)] (Value.int .i64) (fun x=>x==n) w:=fun W x hB=>E.says n x b o W ((hB.cell (p:=⟨b,o,none⟩) hbl).trans hcell)
   have hpo:PredOver P g #[.pointer (some ⟨b,o,none⟩)] (Value.int .i64) (fun x=>x==n) gb 0 xs.toArray.size w:=fun k os dk x _=>E.says n x b o _ (by
    unfold sortWorld
    rw [Sort.cell?_grow _ _ _ (by show b<(Sort.putRow _ _ _ _ _).heap.size; rw [hY]; exact hbl),Sort.cell?_putRow_other _ _ gb 0 _ _ (Or.inl hne)]
    exact hcell)
   have hcm':cap<=9223372036854775807:=hcm
   have hcall:=AnyE.slices_DeleteFunc L (Value.int .i64) (fun _=>rfl) (fun x=>x==n) g #[.pointer (some ⟨b,o,none⟩)] E.eg 0 hv gb 0 cap xs.toArray w hp hpo hH (by simp; omega) (by simpa using hc)
   rw [e0]
   refine Calls.mono (by simpa using hcall) fun out w' h=>?_
   obtain ⟨rfl,q,rfl⟩:=h
   have hfl':(xs.filter fun x=>!(x==n)).length<=xs.length:=List.length_filter_le _ _
   generalize hys:(xs.filter fun x=>!(x==n))=ys at hfl' ⊢
   have hd:(ys++List.replicate (xs.length-ys.length) 0).length=xs.length:=by simp; omega
   generalize hdd:(ys++List.replicate (xs.length-ys.length) (0:Int))=zs at hd ⊢
   refine pB (flat:=ys.map (Value.int .i64)) hstk hs ⟨rfl,rfl,rfl,?_,fun k hk hne2=>?_⟩ (fun b hb=>.inl (by rw [e0]; exact hb)) ?_ ?_
   ·rw [hY]; exact Nat.le_refl _
   ·rw [hZ _ _ _ _ _ _ (fun e=>hne2 (by rw [e0,e]; rfl))]; rfl
   ·refine ⟨by simp [Kd.sz],.inr ⟨gb,cap,_,rfl,Nat.zero_le _,kq _ _ _ _ _ (show (Sort.ahead w q).heap[gb]? = _ from hg),by omega,hcm,by simpa [Sort.putCells] using hsc,?_⟩⟩
    apply List.ext_getElem?
    intro j
    have hcs:cur.size=cap:=by simpa [Kd.sz] using hsc
    rw [Bz]
    by_cases hj:j<ys.length
    ·have h6:j<ys.length*Kd.sz (.int .i64):=by simpa [Kd.sz] using hj
     have hj2:j<cur.size:=by omega
     rw [if_pos h6,Array.getElem?_toList,Sort.putCells,Array.getElem?_mapIdx,Array.getElem?_eq_getElem hj2]
     have h7:zs.toArray[j-0]! = ys[j]:=by
      subst hdd
      simp [BF hj,hj]
     simp only [Option.map_some,CT,List.getElem?_eq_getElem hj]
     rw [if_pos ⟨Nat.zero_le _,by simp; omega⟩,h7]
    ·have h6:¬ j<ys.length*Kd.sz (.int .i64):=by simpa [Kd.sz] using hj
     rw [if_neg h6,CT,Dc (by omega)]; rfl
   ·intro j x hx
    show ((ys.map (Value.int .i64)).drop (j*1)).take 1=[.int .i64 x]
    have hj:=(Aj.1 hx).1
    have hxj:=(Aj.1 hx).2
    rw [Nat.mul_one,List.drop_eq_getElem_cons (by simpa using hj)]
    simp [hxj]
def vZ (t g:Nat) (args bs:List AV):Option (List AV) :=
 match args,bs with
 | [.new t1 (.int k) xs,.clo g1 (.int k1) n],[]=>if t1=t/\g1=g/\k=.i64/\k1=.i64 then
   some [.new t (.int .i64) ((show List Int from xs).filter fun x=>!(x==(show Int from n)))] else none
 | _,_=>none
theorem zz {t g:Nat} {xs:List Int} {n:Int}:vZ t g [.new t (.int .i64) xs,.clo g (.int .i64) n] []=some [.new t (.int .i64) (xs.filter fun x=>!(x==n))]:=by
 simp [vZ]
theorem z_ (L:SlLaysH.n10 P ρ) (hv:∀ w,(zeroValue (ρ.t 23)).run P w=.ok (.int .i64 0) w) {g:Nat} (E:ACV P g) {args bs rs:List AV} (h:vZ (ρ.t 23) g args bs=some rs):QD P (ρ.f 10) args bs rs:=by
 unfold vZ at h
 split at h
 ·split at h
  ·rename_i hc
   obtain ⟨rfl,rfl,rfl,rfl⟩:=hc
   cases h
   exact wo L hv E
  ·cases h
 ·cases h

theorem uO (w:World) (t e ty:TypeId) (z:Value) (ht:P.underlying t=some (.slice e)) (hz:∀ w,(zeroValue e).run P w=.ok z w) (g o n c:Nat) (cur:Array Value) (te:TypeId) (hg:w.heap[g]? = some (.cells cur te (0,0))) (hn:0<n)
  (hfit:o+n*z.cells.size<=cur.size) (h1:∀ v∈(Builtin.zeroCells z.cells n).toList,v.oneCell'=true) :
  (Builtin.clear_ #[t] ty #[.slice (some ⟨g,o,none⟩) n c]).run P w=.ok (.tuple #[]) (w.setRow g (cur.toList.take o++(Builtin.zeroCells z.cells n).toList++cur.toList.drop (o+(Builtin.zeroCells z.cells n).toList.length)).toArray):=by
 have hl:(Builtin.zeroCells z.cells n).toList.length=n*z.cells.size:=by rw [Array.length_toList,size_zeroCells]
 have hst:=run_storeCells_at P g o te (Builtin.zeroCells z.cells n).toList 0 cur w hg (by rw [hl]; simpa using hfit) h1
 cases n with
 | zero=>omega
 | succ n=>simp [Builtin.clear_,run_underlying ht,hz,hst]
theorem kt {ops:Array Oper} {o:Oper} {a:Act} {w:World} {K:Act->World->Prop} {Q:Exit->Act->World->Prop} {E:Prop}
  (hg:o.guard=none) (d x:Operand) (dT sT:TypeId) (hop:o.op=Op.call { callee:=Callee.builtin Builtin.append,args:=#[d,x],argTypes:=#[dT,sT] })
  (v u:Value) (hd:a.eval d=v) (hx:a.eval x=u) {v':Value} {w':World} (hr:(Builtin.append_ #[dT,sT] o.type #[v,u]).run P w=.ok v' w') (hK:K (a.put o.dst v') w') :
  if Region.wanted o (yielded ops a.tmps)=true then Oper.wp P o a w K Q else E:=by
 have hw:Region.wanted o (yielded ops a.tmps)=true:=by simp [Region.wanted,hg]
 rw [if_pos hw]
 unfold Oper.wp
 simp [execOp,hop,resolve,invoke,builtin,hd,hx,hr,Result.andThen]
 exact hK
theorem h_ (w:World) {ops:Array Oper} {rest:List Oper} {o:Oper} {a:Act} {Q:Exit->Act->World->Prop} (hgd:o.guard=none) (s:Operand) (t:TypeId)
  (ho:o.op=.call { callee:=.builtin .clear,args:=#[s],argTypes:=#[t] }) (v:Value) (hs:a.eval s=v) {v':Value} {w':World}
  (hr:(Builtin.clear_ #[t] o.type #[v]).run P w=.ok v' w') (h:wpList P ops Q rest (a.put o.dst v') w'):wpList P ops Q (o::rest) a w :=
 wpList_plain hgd fun K hK=>by
  unfold Oper.wp execOp
  simp only [ho,resolve,invoke,builtin,Sem.run_bind,Sem.run_pure,Result.andThen_ok,List.map_toArray,List.map_cons,List.map_nil,hs,hr]
  exact hK _ _ h
set_option maxHeartbeats 8000000 in
set_option maxRecDepth 100000 in
theorem vd (L:SlLaysE0.n45 P ρ) (i0:TypeInfo) (size:Nat) (hi:P.info? (ρ.t 23)=some i0) (hz1:i0.size=size) (z23:∀ w,(Go.sizeOf (ρ.t 23)).run P w=.ok size w) (base:Option Addr) (n cap i:Nat) (w:World) (hin:i<=n) (hnc:n<=cap) (hcm:cap<=maxLen) :
  Calls P (ρ.f 45) #[.slice base n cap,.int .i64 i,.int .i64 i] w fun e w'=>e=.returned (.slice base n cap)/\w'=w:=by
 have mixed:=L.mixed; have t0:=L.t0; have a0:=L.a0; have z0:=L.z0; have v0:=L.v0; have t3:=L.t3; have a3:=L.a3; have z3:=L.z3; have v3:=L.v3; have t4:=L.t4; have a4:=L.a4; have z4:=L.z4; have v4:=L.v4; have t22:=L.t22; have a22:=L.a22; have z22:=L.z22; have v22:=L.v22
 obtain ⟨_,_,FG⟩:=L.f45
 go_enter FG,SlBodyN.n45_ntmps ρ
 go_wp2
 all_goals (go_ret; exact ⟨rfl,rfl⟩)
set_option maxHeartbeats 8000000 in
set_option maxRecDepth 100000 in
theorem ve (L:SlLaysE0.n45 P ρ) (i0:TypeInfo) (z:Value) (size bytes:Nat) (hi:P.info? (ρ.t 23)=some i0) (hz0:i0.zero=some z) (hz1:i0.size=size) (hzs:z.cells.size=size) (hzo:∀ v∈z.cells.toList,v.oneCell'=true) (hsz:0<size)
  (z23:∀ w,(Go.sizeOf (ρ.t 23)).run P w=.ok size w) (v23:∀ w,(zeroValue (ρ.t 23)).run P w=.ok z w) (g n cap i j:Nat) (cur:Array Value) (w:World) (hg:w.heap[g]? = some (.cells cur (ρ.t 23) (0,0))) (hcs:cur.size=cap*size) (hij:i<j) (hjn:j<=n) (hnc:n<=cap) (hcm:cap<=maxLen)
  (h1:∀ u∈cur.toList.take (n*size),u.oneCell'=true) :
  Calls P (ρ.f 45) #[.slice (some ⟨g,0,none⟩) n cap,.int .i64 i,.int .i64 j] w fun e w'=>e=.returned (.slice (some ⟨g,0,none⟩) (n-(j-i)) cap) /\
   ∃ cur',w'.heap[g]? = some (.cells cur' (ρ.t 23) (0,0))/\cur'.size=cap*size/\cur'.toList.take ((n-(j-i))*size)=cur.toList.take (i*size)++(cur.toList.take (n*size)).drop (j*size)/\w.grownBy w' (some g):=by
 have mixed:=L.mixed; have t0:=L.t0; have a0:=L.a0; have z0:=L.z0; have v0:=L.v0; have t3:=L.t3; have a3:=L.a3; have z3:=L.z3; have v3:=L.v3; have t4:=L.t4; have a4:=L.a4; have z4:=L.z4; have v4:=L.v4; have t22:=L.t22; have a22:=L.a22; have z22:=L.z22; have v22:=L.v22
 have hcm':cap<=9223372036854775807:=hcm
 have hij1:¬ ((i:Int)=(j:Int)):=by omega
 have hb1:(i:Int)<=(j:Int):=by omega
 have hb2:¬ (cap=0):=by omega
 have hb3:(j:Int)<=(n:Int):=by omega
 have hb4:¬ (cap=i):=by omega
 have e4:j*size<=n*size:=CH size hjn
 have e5:n*size<=cur.size:=by rw [hcs]; exact CH size hnc
 have e6:i*size<=j*size:=CH size (by omega)
 have e3:(n-j)*size=n*size-j*size:=Nat.sub_mul n j size
 have e7:(i+(n-j))*size=i*size+(n-j)*size:=Nat.add_mul _ _ size
 have hln:cur.toList.length=cur.size:=Array.length_toList
 have lm:((cur.toList.take (n*size)).drop (j*size)).length=(n-j)*size:=by rw [List.length_drop,List.length_take,hln,e3]; omega
 have hap:∀ (A:Addr) (c:Nat),(A=(⟨g,j*size,none⟩:Addr)\/n=j)->∀ ty,(Builtin.append_ #[(ρ.t 22),(ρ.t 22)] ty #[.slice (some ⟨g,0,none⟩) i cap,.slice (some A) (n-j) c]).run P w.drew=.ok (.slice (some ⟨g,0,none⟩) (i+(n-j)) cap) (w.drew.setRow g (cur.toList.take (i*size)++(cur.toList.take (n*size)).drop (j*size)++cur.toList.drop (i*size+((cur.toList.take (n*size)).drop (j*size)).length)).toArray):=fun A c hA ty=>by
  have:=run_append_room (P:=P) w.drew (ρ.t 22) ty (ρ.t 23) i0 L.t22 hi g i cap cur hg A (n-j) c ((cur.toList.take (n*size)).drop (j*size)) (by rw [lm,hz1]) (fun k u hk=>by
   have hk2:=(Aj.1 hk).1
   rw [lm] at hk2
   rcases hA with rfl | rfl
   ·rw [Addr.add_none]
    have h5:w.drew.cell? ⟨g,j*size+k,none⟩=cur[j*size+k]? := RP hg
    rw [h5,<- hk,C3,Bz,if_pos (by omega),Array.getElem?_toList]
   ·simp at hk2) (fun u hu=>h1 u (List.mem_of_mem_drop hu)) (by omega) (by rw [lm,hz1,e3]; omega)
  rw [hz1] at this
  exact this
 obtain ⟨cur1,hcur1⟩:∃ c1,c1=(cur.toList.take (i*size)++(cur.toList.take (n*size)).drop (j*size)++cur.toList.drop (i*size+((cur.toList.take (n*size)).drop (j*size)).length)).toArray:=⟨_,rfl⟩
 rw [<- hcur1] at hap
 have hs1:cur1.size=cap*size:=by
  rw [hcur1,List.size_toArray,<- hcs]
  simp only [List.length_append,List.length_take,List.length_drop,hln,lm]
  omega
 have ht1:cur1.toList.take ((i+(n-j))*size)=cur.toList.take (i*size)++(cur.toList.take (n*size)).drop (j*size):=by
  have l3:(cur.toList.take (i*size)++(cur.toList.take (n*size)).drop (j*size)).length=(i+(n-j))*size:=by
   simp only [List.length_append,List.length_take,hln,lm,e7]
   omega
  rw [hcur1]
  exact (congrArg (fun k=>List.take k _) l3.symm).trans (by rw [List.take_left])
 have hg1:(w.drew.setRow g cur1).heap[g]? = some (.cells cur1 (ρ.t 23) (0,0)):=setRow_heap w.drew g cur cur1 (ρ.t 23) _ hg
 obtain ⟨d,hd⟩:∃ d,d=n-(i+(n-j)):=⟨_,rfl⟩
 have hdp:0<d:=by omega
 have e8:(i+(n-j))*size+d*size<=cur1.size:=by rw [hs1,<- Nat.add_mul]; exact CH size (by omega)
 have hzc:∀ v∈(Builtin.zeroCells z.cells d).toList,v.oneCell'=true:=by
  intro v hv
  simp only [Builtin.zeroCells,Array.toList_map,List.mem_map] at hv
  obtain ⟨k,_,rfl⟩:=hv
  refine hzo _ ?_
  have hk:k % z.cells.size<z.cells.size:=Nat.mod_lt _ (by omega)
  rw [getElem!_pos z.cells _ hk]
  exact Array.getElem_mem_toList hk
 have hcl:∀ ty c,(Builtin.clear_ #[(ρ.t 22)] ty #[.slice (some ⟨g,(i+(n-j))*size,none⟩) (n-(i+(n-j))) c]).run P (w.drew.setRow g cur1)=.ok (.tuple #[]) ((w.drew.setRow g cur1).setRow g (cur1.toList.take ((i+(n-j))*size)++(Builtin.zeroCells z.cells d).toList++cur1.toList.drop ((i+(n-j))*size+(Builtin.zeroCells z.cells d).toList.length)).toArray):=fun ty c=>by
  rw [<- hd]
  exact uO _ _ (ρ.t 23) ty z L.t22 v23 g _ d c cur1 (ρ.t 23) hg1 hdp (by rw [hzs]; exact e8) hzc
 have lz:(Builtin.zeroCells z.cells d).toList.length=d*size:=by rw [Array.length_toList,size_zeroCells,hzs]
 obtain ⟨cur2,hcur2⟩:∃ c2,c2=(cur1.toList.take ((i+(n-j))*size)++(Builtin.zeroCells z.cells d).toList++cur1.toList.drop ((i+(n-j))*size+(Builtin.zeroCells z.cells d).toList.length)).toArray:=⟨_,rfl⟩
 rw [<- hcur2] at hcl
 have hs2:cur2.size=cap*size:=by
  rw [hcur2,List.size_toArray,<- hs1]
  simp only [List.length_append,List.length_take,List.length_drop,Array.length_toList,lz]
  rw [Array.length_toList] at lz
  omega
 have ht2:cur2.toList.take ((i+(n-j))*size)=cur.toList.take (i*size)++(cur.toList.take (n*size)).drop (j*size):=by
  have l4:(cur1.toList.take ((i+(n-j))*size)).length=(i+(n-j))*size:=by rw [List.length_take,Array.length_toList]; omega
  rw [hcur2,<- ht1,Be]
  exact (congrArg (fun k=>List.take k _) l4.symm).trans (by rw [List.take_left])
 have hkn:n-(j-i)=i+(n-j):=by omega
 rw [hkn]
 have hW1s:((w.drew.setRow g cur1).setRow g cur2).heap[g]? = some (.cells cur2 (ρ.t 23) (0,0)):=setRow_heap _ g cur1 cur2 _ _ hg1
 have hgr:w.grownBy ((w.drew.setRow g cur1).setRow g cur2) (some g):=by
  refine ⟨rfl,rfl,rfl,by rw [Jg,Jg]; exact Nat.le_refl _,fun k hk hne=>?_⟩
  have hk':k≠g:=fun e=>hne (by rw [e])
  rw [setRow_other _ g k _ hk',setRow_other _ g k _ hk']
  rfl
 obtain ⟨W1,hW1⟩:∃ W1,W1=w.drew.setRow g cur1:=⟨_,rfl⟩
 obtain ⟨W2,hW2⟩:∃ W2,W2=W1.setRow g cur2:=⟨_,rfl⟩
 rw [<- hW1,<- hW2] at hcl hW1s hgr
 rw [<- hW1] at hap
 have hb6:¬ (cap=i+(n-j)):=by omega
 have hb7:i+(n-j)<=n:=by omega
 have hb8:i<=cap:=by omega
 clear e3 e4 e5 e6 e7 e8 hcur1 hcur2 lm hW1 hW2 hd hkn hs1 ht1 hg1 lz
 obtain ⟨A,hAe,hAd⟩:∃ A:Addr,(if cap=j then some (⟨g,0,none⟩:Addr) else some ⟨g,j*size,none⟩)=some A/\(A=(⟨g,j*size,none⟩:Addr)\/n=j):=by
  by_cases h:cap=j
  ·exact ⟨⟨g,0,none⟩,by simp [h],.inr (by omega)⟩
  ·exact ⟨⟨g,j*size,none⟩,by simp [h],.inl rfl⟩
 have hap2:=hap A (cap-j) hAd
 clear hap hAd
 obtain ⟨_,_,FG⟩:=L.f45
 go_enter FG,SlBodyN.n45_ntmps ρ
 go_wp2
 go_region_law_o (refine kt rfl _ _ (ρ.t 22) (ρ.t 22) rfl _ _ (by simp [Act.eval,Act.put]) (by simp [Act.eval,Act.put,hAe]) (hap2 _) ?_)
 go_wp2_with (at_builtin; refine h_ _ rfl _ (ρ.t 22) rfl _ rfl (hcl _ _) ?_)
 go_ret
 exact ⟨rfl,cur2,hW1s,hs2,ht2,hgr⟩
theorem yg {K:Kd} (L:SlLaysE0.n45 P ρ) (he:r4 P (ρ.t 23) K=true) {xs:List K.T} {i j:Nat} (hij:i<=j) (hj:j<=xs.length) :
  QD P (ρ.f 45) [.new (ρ.t 23) K xs,.int .i64 i,.int .i64 j] [] [.new (ρ.t 23) K (xs.take i++xs.drop j)]:=by
 obtain ⟨i0,z,hi0,hz,h1,h2,h3,h4⟩:=Vh he
 have hsz:=Kd.sz_pos K
 have z23:∀ w,(Go.sizeOf (ρ.t 23)).run P w=.ok K.sz w:=fun w=>by simp [sizeOf,typeInfo,hi0,h1]
 have v23:∀ w,(zeroValue (ρ.t 23)).run P w=.ok z w:=fun w=>by simp [zeroValue,typeInfo,hi0,hz]
 refine ⟨?_,?_,1,rfl,fun H φ w cargs hs ha=>?_⟩
 ·obtain ⟨nm,hnm,hf⟩:=L.f45
  exact ⟨_,_,hf,hnm,rfl⟩
 ·intro r hr
  simp only [B5] at hr
  subst hr
  rfl
 ·obtain ⟨v0,r0,rfl,hv0,ha⟩:=ha
  obtain ⟨v1,r1,rfl,hv1,ha⟩:=ha
  obtain ⟨v2,r2,rfl,hv2,ha⟩:=ha
  have hr2:r2=[]:=ha
  subst hr2
  have e0:v0=φ 0:=hv0.1
  have e1:v1=.int .i64 i:=hv1
  have e2:v2=.int .i64 j:=hv2
  subst e0 e1 e2
  obtain ⟨flat,ho,hr⟩:=hs.box 0 (.rows (ρ.t 23) K xs) rfl
  have hnew:(xs.take i++xs.drop j).length=xs.length-(j-i):=by simp only [List.length_append,List.length_take,List.length_drop]; omega
  have hstk:Bd [] [AV.new (ρ.t 23) K xs,.int .i64 i,.int .i64 j]=[.rows (ρ.t 23) K xs]:=rfl
  by_cases hlt:i=j
  ·subst hlt
   obtain ⟨base,n,cap,e0,hnn,hcap,hcm⟩:∃ base n cap,φ 0=.slice base n cap/\n=xs.length/\n<=cap/\cap<=maxLen:=by
    rcases ho.2 with ⟨e,h⟩ | ⟨g,cap,cur,e,_,_,hc,hm,_⟩
    ·exact ⟨none,0,0,e,h.symm,Nat.le_refl _,Nat.zero_le _⟩
    ·exact ⟨_,_,_,e,rfl,hc,hm⟩
   subst hnn
   rw [e0]
   refine Calls.mono (vd L i0 K.sz hi0 h1 z23 base _ cap i w hj hcap hcm) fun out w' h=>?_
   obtain ⟨rfl,rfl⟩:=h
   refine pB hstk hs ⟨rfl,rfl,rfl,Nat.le_refl _,fun _ _ _=>rfl⟩ (fun b hb=>.inl (by rw [e0]; exact hb)) (flat:=flat) ?_ ?_
   ·rw [List.take_append_drop,<- e0]; exact ho
   ·rw [List.take_append_drop]; exact hr
  ·obtain ⟨g,cap,cur,e0,_,hg,hc,hcm,hsc,ht⟩:=ho.2.resolve_left (fun h=>by omega)
   rw [e0]
   have hzo:∀ v∈z.cells.toList,v.oneCell'=true:=Zz (h4 H)
   refine Calls.mono (ve L i0 z K.sz i0.bytes hi0 hz h1 h3 hzo hsz z23 v23 g xs.length cap i j cur w hg hsc (by omega) hj hc hcm (by rw [ht]; exact De hr ho.1)) fun out w' h=>?_
   obtain ⟨rfl,cur',g1,g2,g3,g4⟩:=h
   have htk:cur.toList.take (i*K.sz)=flat.take (i*K.sz):=by
    rw [<- ht,List.take_take,Nat.min_eq_left (CH _ (by omega))]
   have l1:(flat.take (i*K.sz)).length=(xs.take i).length*K.sz:=by
    have h5:=ho.1
    have h7:i*K.sz<=xs.length*K.sz:=CH _ (by omega)
    rw [List.length_take,List.length_take,Nat.min_eq_left (show i<=xs.length by omega),h5]; omega
   have l2:(flat.drop (j*K.sz)).length=(xs.drop j).length*K.sz:=by rw [List.length_drop,List.length_drop,ho.1,Nat.sub_mul]
   refine pB hstk hs (by rw [e0]; exact g4) (fun b hb=>.inl (by rw [e0]; exact hb)) (flat:=flat.take (i*K.sz)++flat.drop (j*K.sz)) ?_ (IH (nD hr i) l1 (nE hr j))
   rw [hnew]
   refine ⟨?_,.inr ⟨g,cap,cur',rfl,Nat.zero_le _,g1,by omega,hcm,g2,by rw [g3,htk,ht]⟩⟩
   rw [List.length_append,l1,l2,<- Nat.add_mul,<- hnew,List.length_append]
def AAA (t:TypeId) (K:Kd) (args bs:List AV):Option (List AV) :=
 match args,bs with
 | [.new t1 K1 xs,.int k i,.int k2 j],[]=>if h1:K1=K then (if t1=t/\k=.i64/\k2=.i64/\0<=i/\i<=j/\j<=xs.length then
   some [.new t K ((h1▸xs).take i.toNat++(h1▸xs).drop j.toNat)] else none) else none
 | _,_=>none
theorem ABT {t:TypeId} {K:Kd} {xs:List K.T} {i j:Nat} (hi:i<=j) (hj:j<=xs.length):AAA t K [.new t K xs,.int .i64 i,.int .i64 j] []=some [.new t K (xs.take i++xs.drop j)]:=by
 have h0:(0:Int)<=(i:Int):=by omega
 have h1:(i:Int)<=(j:Int):=by omega
 have h2:(j:Int)<=(xs.length:Int):=by omega
 simp only [AAA,dif_pos,true_and]
 rw [if_pos ⟨h0,h1,h2⟩,Ad,Ad]
theorem ABU {K:Kd} (L:SlLaysE0.n45 P ρ) (he:r4 P (ρ.t 23) K=true) {args bs rs:List AV} (h:AAA (ρ.t 23) K args bs=some rs):QD P (ρ.f 45) args bs rs:=by
 unfold AAA at h
 split at h
 ·split at h
  ·rename_i hk
   subst hk
   split at h
   ·rename_i hc
    obtain ⟨rfl,rfl,rfl,h0,hij,hj⟩:=hc
    cases h
    rename_i i _ j _
    obtain ⟨a,rfl⟩:=Int.eq_ofNat_of_zero_le h0
    obtain ⟨b,rfl⟩:=Int.eq_ofNat_of_zero_le (Int.le_trans h0 hij)
    exact yg L he (by omega) (by omega)
   ·cases h
  ·cases h
 ·cases h

set_option maxHeartbeats 1000000 in
theorem yh (L:Lays.n146 P ρ) (hi9:(P.info? (ρ.t 9)).map (fun i=>(i.zero,i.size,i.bytes))=some (some (.string O),1,16)) (s sep:ByteArray) (w:World) (hs:s.size<4294967281) (h1:sep.size=1) :
  Calls P (ρ.f 146) #[.string s,.string sep] w fun e w' =>
   e=.returned (.slice (some ⟨w.heap.size,0,none⟩) (Lib.countB s sep+1) (Lib.countB s sep+1))/\w'=w.alloc (.cells ((Lib.splitB sep 0 (Lib.countB s sep) s).map Value.string).toArray (ρ.t 9)):=by
 obtain ⟨c,rfl⟩:=Lib.one_byte sep h1
 have hle:=Lib.countB_le ⟨#[c]⟩ (by decide:1<=1) s.size s (Nat.le_refl _)
 have hlen:=Lib.splitB_all ⟨#[c]⟩ (by decide:1<=1) 0 _ s rfl
 have cc:=Any.strings_genSplit_core { L with } hi9 s ⟨#[c]⟩ 0 (-1) (Lib.countB s ⟨#[c]⟩+1) w hs (by decide:1<=1) (Nat.zero_le _)
  (fun x cs _=>(Any.strings_Index_one { L with } x c (w.alloc (.cells cs (ρ.t 9)))).mono fun e w' ⟨he,hw⟩=>⟨by rw [he]; show _=Ending.returned (Value.int .i64 (Lib.index x.data.toList [c])); rw [Lib.index_one],hw⟩)
  ((Any.strings_Count_one { L with } s c w).mono fun e w' ⟨he,hw⟩=>⟨by rw [he]; show _=Ending.returned (Value.int .i64 ((Lib.count s.data.toList [c]:Nat):Int)); rw [Lib.count_one]; rfl,hw⟩)
  (by decide) (by decide) (by rw [if_pos (by decide)]; omega)
 rw [Nat.add_sub_cancel,hlen] at cc
 have e2:Lib.cellsOf (Lib.splitB ⟨#[c]⟩ 0 (Lib.countB s ⟨#[c]⟩) s) (Lib.countB s ⟨#[c]⟩+1)=((Lib.splitB ⟨#[c]⟩ 0 (Lib.countB s ⟨#[c]⟩) s).map Value.string).toArray:=by rw [<- hlen]; exact Lib.cellsOf_full _
 rw [e2] at cc
 have t3:=L.t3; have t9:=L.t9; have t31:=L.t31
 have a3:=L.a3; have a9:=L.a9; have a31:=L.a31
 have z3:=L.z3; have v3:=L.v3; have z9:=L.z9; have v9:=L.v9; have z31:=L.z31; have v31:=L.v31
 have e221:∀ args w,(callFunc (ρ.f 221) args).run P w=.ok (.enter (ρ.f 221) args) w:=enters_of L.f221 (by kernel_rfl) rfl
 go_enter L.f146,Body.n146_ntmps ρ
 go_wp2_with (go_at_fn (ρ.f 221); refine cc.mono ?_; rintro e w' ⟨rfl,hw⟩; rw [hw])
 go_ret
 exact ⟨rfl,rfl⟩
def uP (args bs:List AV):Option (List AV) :=
 match args,bs with
 | [.str s,.str t],[]=>if s.size<4294967281/\t.size=1 then some [.lst .str (Lib.splitB t 0 (Lib.countB s t) s)] else none
 | _,_=>none
theorem yi {s t:ByteArray} (h:s.size<4294967281) (h1:t.size=1):uP [.str s,.str t] []=some [.lst .str (Lib.splitB t 0 (Lib.countB s t) s)]:=if_pos ⟨h,h1⟩
theorem yj (L:Lays.n146 P ρ) (hi9:(P.info? (ρ.t 9)).map (fun i=>(i.zero,i.size,i.bytes))=some (some (.string O),1,16)) {args bs rs:List AV} (h:uP args bs=some rs):QD P (ρ.f 146) args bs rs:=by
 unfold uP at h
 split at h
 ·rename_i s t
  split at h
  ·rename_i hc
   cases h
   refine ⟨⟨_,_,L.f146,by rfl,rfl⟩,?_,1,rfl,fun H φ w cargs hs ha=>?_⟩
   ·intro r hr
    simp only [B5] at hr
    subst hr
    rfl
   ·obtain ⟨v0,r0,rfl,hv0,ha⟩:=ha
    obtain ⟨v1,r1,rfl,hv1,ha⟩:=ha
    have hr1:r1=[]:=ha
    subst hr1
    have e0:v0=.string s:=hv0
    have e1:v1=.string t:=hv1
    subst e0 e1
    refine Calls.mono (yh L hi9 s t w hc.1 hc.2) fun out w' h=>?_
    obtain ⟨rfl,rfl⟩:=h
    obtain ⟨H',hst,hn⟩:=Ae.lit hs (.cells ((Lib.splitB t 0 (Lib.countB s t) s).map Value.string).toArray (ρ.t 9))
    have hlen:=Lib.splitB_all t (by omega) 0 _ s rfl
    refine aZ (rs:=[.lst .str (Lib.splitB t 0 (Lib.countB s t) s)]) hst ?_
    refine ⟨some ⟨w.heap.size,0,none⟩,Lib.countB s t+1,by rw [hlen],by rw [hlen]; exact Nat.le_refl _,.inr ⟨w.heap.size,0,_,_,_,rfl,hn,fun j x hx=>⟨[.string x],rfl,rfl,fun i u hu=>?_⟩⟩⟩
    match i,hu with
    | 0,hu =>
     cases hu
     simp [Kd.sz,hx]
  ·cases h
 ·cases h
def xZ (args bs:List AV):Option (List AV) :=
 match args,bs with
 | [.int .i64 n],[]=>if -9223372036854775808<=n/\n<=9223372036854775807 then some [.str ⟨(Lib.itoa n).toArray⟩] else none
 | _,_=>none
theorem AAB {n:Int} (h:-9223372036854775808<=n) (h1:n<=9223372036854775807):xZ [.int .i64 n] []=some [.str ⟨(Lib.itoa n).toArray⟩]:=if_pos ⟨h,h1⟩
theorem wr {w:World} (k:Nat) (os:Array Obj):w.grownBy (Go.Sort.grow (w.drewN k) os) none:=by
 have hd:w.grownBy (w.drewN k) none:=by
  induction k with
  | zero=>exact ⟨rfl,rfl,rfl,Nat.le_refl _,fun _ _ _=>rfl⟩
  | succ k ih=>exact ⟨ih.os,ih.tape,ih.output,ih.size,ih.block⟩
 refine ⟨hd.os,hd.tape,hd.output,?_,fun b hb hn=>?_⟩
 ·have:=hd.size
  simp only [Go.Sort.grow,Array.size_append]
  omega
 ·rw [<- hd.block b hb hn]
  have:=hd.size
  simp only [Go.Sort.grow]
  rw [Array.getElem?_append_left (by omega)]
theorem AAC (L:LaysM.n171 P ρ) (ht:(ρ.g 17,(Lib.pow10Tab.map fun z=>Value.int .u64 z).toArray)∈ACv) {args bs rs:List AV} (h:xZ args bs=some rs):QD P (ρ.f 171) args bs rs:=by
 unfold xZ at h
 split at h
 ·rename_i n
  split at h
  ·rename_i hc
   cases h
   refine ⟨⟨_,_,L.f171,by rfl,rfl⟩,?_,1,rfl,fun H φ w cargs hs ha=>?_⟩
   ·intro r hr
    simp only [B5] at hr
    subst hr
    rfl
   ·obtain ⟨v0,r0,rfl,hv0,ha⟩:=ha
    have hr0:r0=[]:=ha
    subst hr0
    have e0:v0=.int .i64 n:=hv0
    subst e0
    have tab:Lib.TabIs P w "internal/strconv.uint64pow10" .u64 Lib.pow10Tab:=by
     obtain ⟨el,fz,e⟩:=hs.tb _ ht
     unfold Lib.TabIs World.var?
     rw [L.m17,Z,hs.hp _ _ e]
    refine Calls.mono (Any.strconv_Itoa L n hc.1 hc.2 w tab) fun out w' h=>?_
    obtain ⟨rfl,k,os,rfl⟩:=h
    exact aZ (rs:=[.str ⟨(Lib.itoa n).toArray⟩]) (Ae.grow hs (wr k os)) rfl
  ·cases h
 ·cases h
def xb (args bs:List AV):Option (List AV) :=
 match args,bs with
 | [.lst .str xs,.str t],[]=>if xs≠[]/\xs.length<=140737488355328/\(Lib.join (xs.map (·.data.toList)) t.data.toList).length<=140737488355328 then some [.str ⟨(Lib.join (xs.map (·.data.toList)) t.data.toList).toArray⟩] else none
 | _,_=>none
theorem AAD {xs:List ByteArray} {t:ByteArray} (h:xs≠[]) (h1:xs.length<=140737488355328) (h2:(Lib.join (xs.map (·.data.toList)) t.data.toList).length<=140737488355328):xb [.lst .str xs,.str t] []=some [.str ⟨(Lib.join (xs.map (·.data.toList)) t.data.toList).toArray⟩]:=if_pos ⟨h,h1,h2⟩
theorem AAE (L:Lays.n156 P ρ) (X:Builder.Extra P ρ) {args bs rs:List AV} (h:xb args bs=some rs):QD P (ρ.f 156) args bs rs:=by
 unfold xb at h
 split at h
 ·rename_i xs t
  split at h
  ·rename_i hc
   cases h
   refine ⟨⟨_,_,L.f156,by rfl,rfl⟩,?_,1,rfl,fun H φ w cargs hs ha=>?_⟩
   ·intro r hr
    simp only [B5] at hr
    subst hr
    rfl
   ·obtain ⟨v0,r0,rfl,hv0,ha⟩:=ha
    obtain ⟨v1,r1,rfl,hv1,ha⟩:=ha
    have hr1:r1=[]:=ha
    subst hr1
    have e1:v1=.string t:=hv1
    subst e1
    obtain ⟨a,cap,rfl,hcap,hx⟩:ZR (GN H .str) 1 H xs v0:=hv0
    rcases hx with hx | ⟨b,off,c,el,fz,rfl,hb,hr⟩
    ·exact absurd hx hc.1
    have hwb:=hs.hp b _ hb
    refine Calls.mono (Any.strings_Join L X b off cap xs t w (fun j x hj=>?_) (Array.getElem?_eq_some_iff.1 hwb).1 hc.2.1 hcap hc.2.2) fun out w' h=>?_
    ·obtain ⟨cs,q1,_,q3⟩:=hr j x hj
     have q1:cs=[.string x]:=q1
     subst q1
     have:=q3 0 _ rfl
     simp only [World.cell?,hwb]
     simpa using this
    ·obtain ⟨rfl,hbel⟩:=h
     exact aZ (rs:=[.str ⟨(Lib.join (xs.map (·.data.toList)) t.data.toList).toArray⟩]) (Ae.grow hs ⟨hbel.os,hbel.tape,hbel.output,hbel.size,fun k hk _=>hbel.block k hk⟩) rfl
  ·cases h
 ·cases h

theorem vf {a b c:World} {r:Option Nat} (h:a.grownBy b r) (g:b.grownBy c r):a.grownBy c r :=
 ⟨g.os.trans h.os,g.tape.trans h.tape,g.output.trans h.output,Nat.le_trans h.size g.size,fun k hk hn=>(g.block k (Nat.lt_of_lt_of_le hk h.size) hn).trans (h.block k hk hn)⟩
theorem yk {a b:World} {r:Option Nat} (h:a.grownBy b none):a.grownBy b r:=⟨h.os,h.tape,h.output,h.size,fun k hk _=>h.block k hk (by simp)⟩
def AC8 (w w':World) (b:Nat) (v:Value) (T:TypeId):Prop:=w.grownBy w' (some b)/\w'.heap[b]? = some (.cells #[.pointer (some ⟨b,0,none⟩),v] T (0,0))
theorem AB0 (L:Lays.n240 P ρ) (X:Builder.X72 P ρ) (b:Nat) (p v:Value) (w:World) (hb:w.heap[b]? = some (.cells #[p,v] (ρ.t 72) (0,0))) (hp:p=.pointer none\/p=.pointer (some ⟨b,0,none⟩)) :
  Calls P (ρ.f 240) #[.pointer (some ⟨b,0,none⟩)] w fun e w'=>e=.returned (.tuple #[])/\AC8 w w' b v (ρ.t 72):=by
 rcases hp with rfl | rfl
 ·refine (Any.Builder_copyCheck_fresh L X b w (by simp [World.cell?,hb]) (by simp [World.shape?,hb]) (by simp [World.frozen?,hb])).mono ?_
  rintro e w' ⟨rfl,rfl⟩
  exact ⟨rfl,KK w ⟨b,0,none⟩ _,by simp [World.setCell,Array.getElem?_modify,hb]⟩
 ·refine (Any.Builder_copyCheck_used L X b w (by simp [World.cell?,hb])).mono ?_
  rintro e w' ⟨rfl,rfl⟩
  exact ⟨rfl,⟨rfl,rfl,rfl,Nat.le_refl _,fun _ _ _=>rfl⟩,hb⟩
theorem T7 {w:World} {ops:Array Oper} {rest:List Oper} {o:Oper} {a:Act} {Q:Exit->Act->World->Prop} (hgd:o.guard=none) (s x:Operand) (t u:TypeId)
  (ho:o.op=.call { callee:=.builtin .append,args:=#[s,x],argTypes:=#[t,u] }) (v y:Value) (hs:a.eval s=v) (hx:a.eval x=y) {v':Value} {w':World}
  (hr:(Builtin.append_ #[t,u] o.type #[v,y]).run P w=.ok v' w') (h:wpList P ops Q rest (a.put o.dst v') w'):wpList P ops Q (o::rest) a w:=by
 refine wpList_plain hgd fun K hK=>?_
 unfold Oper.wp execOp
 simp only [ho,resolve,invoke,builtin,Sem.run_bind,Sem.run_pure,Result.andThen_ok,List.map_toArray,List.map_cons,List.map_nil,hs,hx,hr]
 exact hK _ _ h
theorem ACW {H:HP} {w:World} {v:Value} {t:TypeId} {xs:List Int} (ht:pG H) (hp:∀ q o,H q=some o->w.heap[q]? = some o) (hn:∀ q,DZ v=some q->H q=none) (ho:w.ownsRow 0 t 1 v xs.length (xs.map (.int .u8))):SR H (fun _=>v) [.rows t (.int .u8) xs] w:=by
 refine ⟨hp,fun id bx h=>?_,fun i j bi bj hi hj _ _ hij=>?_,fun _ _ _ _ b hb=>hn b hb,fun id cs h=>?_,ht⟩
 ·match id,h with
  | 0,h=>cases h; exact ⟨_,ho,S9⟩
 ·have:=(Aj.1 hi).1
  have:=(Aj.1 hj).1
  simp at *
  omega
 ·match id,h with
  | 0,h=>cases h
theorem ACX {H:HP} {w:World} {v:Value} {t:TypeId} {xs:List Int}:Fr 0 1 H (fun _=>v) w H (fun _=>v) [.rows t (.int .u8) xs] w :=
 ⟨rfl,rfl,rfl,Nat.le_refl _,fun _ _ _=>rfl,fun j hj=>absurd hj (Nat.not_lt_zero j),fun i bi _ _ b hb=>.inr ⟨0,Nat.zero_lt_one,hb⟩,fun j hj=>absurd hj (Nat.not_lt_zero j),fun _ _ _=>rfl⟩
theorem AC9 {t:TypeId} (h:(P.info? t).map (fun i=>(i.zero,i.size,i.bytes))=some (some (.int .u8 0),1,1)):r4 P t (.int .u8)=true:=by
 cases hi:P.info? t with
 | none=>rw [hi] at h; cases h
 | some i =>
  rw [hi] at h
  simp only [Option.map_some,BG,Prod.mk.injEq] at h
  obtain ⟨h1,h2,h3⟩:=h
  unfold r4
  rw [hi]
  simp only [h1,h2,h3,Option.map_some]
  rfl
theorem AAF {H:HP} {w:World} {v:Value} {t te ty:TypeId} {xs:List Int} {c:Int} {g:Nat} (ht:P.underlying t=some (.slice te)) (he:r4 P te (.int .u8)=true) (ho:w.ownsRow 0 te 1 v xs.length (xs.map (.int .u8)))
  (hc:w.cell? ⟨g,0,none⟩=some (.int .u8 c)) (hl:xs.length+1<=68719476736) (hT:pG H) (hp:∀ q o,H q=some o->w.heap[q]? = some o) (hn:∀ q,DZ v=some q->H q=none) :
  ∃ v' w',(Builtin.append_ #[t,t] ty #[v,.slice (some ⟨g,0,none⟩) 1 1]).run P w=.ok v' w'/\w'.ownsRow 0 te 1 v' (xs.length+1) ((xs++[c]).map (.int .u8))/\w.grownBy w' (DZ v)/\∀ q,DZ v'=some q->DZ v=some q\/w.heap.size<=q:=by
 obtain ⟨v',w',h1,h2,h3⟩:=gT (P:=P) (ty:=ty) (K:=.int .u8) (xs:=xs) (ys:=[c]) (id:=0) (bv:=.slice (some ⟨g,0,none⟩) 1 1) (flat2:=[.int .u8 c]) (ACW hT hp hn ho) rfl ht he rfl rfl (S9 (xs:=[c]))
  (.inr (.inr ⟨g,0,rfl,fun j u hj=>by
   match j,hj with
   | 0,hj=>cases hj; exact hc⟩)) (fun e=>by cases e) hl (fun k cs hk=>by
   match k,hk with
   | 0,hk=>cases hk)
 obtain ⟨flat,q1,q2⟩:=h2.sr.box 0 _ rfl
 simp only [if_true] at q1
 have e:=Zw q2 q1.1
 subst e
 refine ⟨v',w',h1,by simpa [Kd.sz] using q1,h3,fun q hq=>?_⟩
 rcases (h2.fr 0 1 _ _ _ (ACX (t:=te) (xs:=xs))).new 0 _ rfl rfl q (by simpa using hq) with h | ⟨_,_,h⟩
 ·exact .inr h
 ·exact .inl h
theorem ABV {w:World} {v:Value} {t u te ty:TypeId} {xs:List Int} {s:ByteArray} (ht:P.underlying t=some (.slice te)) (hu:P.underlying u=some .string)
  (he:(P.info? te).map (fun i=>(i.zero,i.size,i.bytes))=some (some (.int .u8 0),1,1)) (ho:w.ownsRow 0 te 1 v xs.length (xs.map (.int .u8))) (hl:xs.length+s.size<=68719476736) :
  ∃ v' w',(Builtin.append_ #[t,u] ty #[v,.string s]).run P w=.ok v' w'/\w'.ownsRow 0 te 1 v' (xs.length+(Cg s).length) ((xs++Cg s).map (.int .u8))/\w.grownBy w' (DZ v)/\∀ q,DZ v'=some q->DZ v=some q\/w.heap.size<=q:=by
 obtain ⟨i,hi,hz,h1,h2⟩:=info_parts he
 have hs1:(Cg s).length=s.size:=by simp [Cg]
 have hs2:(xs++Cg s).map (Value.int .u8)=xs.map (.int .u8)++strCells s:=by simp [Cg,strCells]
 have hm:xs.length+s.size<=maxLen:=by unfold maxLen; omega
 rw [hs1,hs2]
 obtain ⟨v',w',hr,q1,q2,_⟩:=run_append_own_string (P:=P) w 0 t u ty te i ht hu hi hz h1 h2 v xs.length _ ho s hm (by omega) (Nat.zero_le _)
 have hbl:DZ v=v.ownBlock:=by rcases ho.2 with ⟨rfl,_⟩ | ⟨g,cap,cur,rfl,_⟩<;>rfl
 refine ⟨v',w',hr,q1,by rw [hbl]; exact q2,?_⟩
 rcases ho.2 with ⟨e3,hn⟩ | ⟨g,cap,cur,e3,_,hg,hnc,hcm,hcs,htake⟩
 ·obtain ⟨v2,w2,hr2,o2,_,_⟩:=run_append_own_string (P:=P) w w.heap.size t u ty te i ht hu hi hz h1 h2 v xs.length _ ⟨ho.1,.inl ⟨e3,hn⟩⟩ s hm (by omega) (Nat.le_refl _)
  have e4:=hr.symm.trans hr2
  simp only [Result.ok.injEq] at e4
  obtain ⟨rfl,rfl⟩:=e4
  intro q hq
  right
  rcases o2.2 with ⟨e5,_⟩ | ⟨g',cap',cur',e5,hbase,_⟩
  ·rw [e5] at hq; cases hq
  ·rw [e5] at hq; simp only [DZ,BG] at hq; omega
 ·by_cases hroom:xs.length+s.size<=cap
  ·have hr2:=run_append_room_string (P:=P) w t u ty te i ht hu hi h1 g xs.length cap cur hg s hroom (by omega)
   rw [<- e3] at hr2
   have e4:=hr.symm.trans hr2
   simp only [Result.ok.injEq] at e4
   obtain ⟨rfl,_⟩:=e4
   intro q hq
   left
   rw [e3]
   exact hq
  ·have holds:∀ j u,(xs.map (Value.int .u8))[j]? = some u->w.cell? ((⟨g,0,none⟩:Addr).add j)=some u:=ho.cells (g:=g) (by rw [e3]; rfl)
   have hr2:=run_append_grow_string (P:=P) w t u ty te i (.int .u8 0) ht hu hi hz ⟨g,0,none⟩ xs.length cap _ (by rw [h1]; simp) holds s (by omega) (by omega) (by rw [h2]; exact growslice_fits (by omega) (by omega))
   rw [<- e3] at hr2
   have e4:=hr.symm.trans hr2
   simp only [Result.ok.injEq] at e4
   obtain ⟨rfl,_⟩:=e4
   intro q hq
   right
   simp only [DZ,BG] at hq
   omega
theorem aa {f:Nat} {fn:Func} {c:Code} (h:P.funcs[f]? = some fn) (hb:fn.body=some c) (hn:(fn.name == "runtime.NumGoroutine")=false):kI P f:=⟨fn,c,h,hn,hb⟩
set_option maxHeartbeats 2000000 in
set_option maxRecDepth 100000 in
theorem ABW (L:Lays.n166 P ρ) (X:Builder.Extra P ρ):m7 P (ρ.f 166) 1 (ρ.t 5) (ρ.t 72):=by
 refine ⟨aa L.f166 rfl (by kernel_rfl),fun w b p v xs hbk hp how hne ⟨H,hT,hH1,hH2,hH3⟩=>⟨fun e=>(by cases e),fun _ s hlen=>?_,fun e=>(by cases e)⟩⟩
 have mixed:=L.mixed
 have t72:=L.t72; have a72:=L.a72; have z72:=L.z72; have v72:=L.v72; have u72:=run_underlying L.t72
 have t70:=L.t70; have a70:=L.a70; have z70:=L.z70; have v70:=L.v70; have u70:=run_underlying L.t70
 have t37:=L.t37; have a37:=L.a37; have z37:=L.z37; have v37:=L.v37; have u37:=run_underlying L.t37
 have t3:=L.t3; have a3:=L.a3; have z3:=L.z3; have v3:=L.v3; have u3:=run_underlying L.t3
 have t9:=L.t9; have a9:=L.a9; have z9:=L.z9; have v9:=L.v9; have u9:=run_underlying L.t9
 have t4:=L.t4; have a4:=L.a4; have z4:=L.z4; have v4:=L.v4; have u4:=run_underlying L.t4
 have t164:=L.t164; have a164:=L.a164; have z164:=L.z164; have v164:=L.v164; have u164:=run_underlying L.t164
 have t5:=X.t5; have a5:=X.a5; have z5:=X.z5; have v5:=X.v5; have u5:=run_underlying X.t5
 have e240:∀ args w,(callFunc (ρ.f 240) args).run P w=.ok (.enter (ρ.f 240) args) w:=enters_of L.f240 (by kernel_rfl) rfl
 have hs1:(Cg s).length=s.size:=by simp [Cg]
 go_enter L.f166,Body.n166_ntmps ρ
 go_wp2_with (go_at_fn (ρ.f 240); refine (AB0 { L with } X.toX72 b p v _ hbk hp).mono ?_)
 intro e w1 h0 hcc
 subst h0
 obtain ⟨g1,hb1⟩:=hcc
 have c0:w1.cell? ⟨b,0,none⟩=some (.pointer (some ⟨b,0,none⟩)):=by rw [Lib.cell_of_heap hb1]; rfl
 have c1:w1.cell? ⟨b,1,none⟩=some v:=by rw [Lib.cell_of_heap hb1]; rfl
 have how1:w1.ownsRow 0 (ρ.t 5) 1 v xs.length (xs.map (.int .u8)):=by
  refine how.kept g1 ?_
  rcases how.2 with ⟨rfl,_⟩ | ⟨g,cap,cur,rfl,_⟩
  ·exact .inl rfl
  ·right; intro e; exact hne (by simpa [Value.ownBlock,DZ] using e)
 obtain ⟨v',w2,hr,o2,g2,l2⟩:=ABV (w:=w1) (ty:=ρ.t 37) L.t37 L.t9 X.infoByte how1 (s:=s) (by omega)
 have hlt:b<w1.heap.size:=(Array.getElem?_eq_some_iff.1 hb1).1
 have hb2:w2.heap[b]? = some (.cells #[.pointer (some ⟨b,0,none⟩),v] (ρ.t 72) (0,0)):=by
  rw [g2.block b hlt (fun e=>hne e.symm)]
  exact hb1
 have d0:w2.cell? ⟨b,0,none⟩=some (.pointer (some ⟨b,0,none⟩)):=by rw [Lib.cell_of_heap hb2]; rfl
 have d1:w2.cell? ⟨b,1,none⟩=some v:=by rw [Lib.cell_of_heap hb2]; rfl
 have f1:w2.frozen? ⟨b,1,none⟩=false:=Lib.frozen_of_heap hb2 1
 have ev':∃ ao n' cap,v'=.slice ao n' cap:=by
  rcases o2.2 with ⟨hv,_⟩ | ⟨g,cap,cur,hv,_⟩
  ·exact ⟨_,_,_,hv⟩
  ·exact ⟨_,_,_,hv⟩
 obtain ⟨ao,n',cap,rfl⟩:=ev'
 go_wp2_with (at_builtin; refine T7 rfl _ _ (ρ.t 37) (ρ.t 9) rfl _ _ rfl rfl hr ?_)
 go_wp2
 go_ret2
 exact ⟨_,rfl,w1,w2,_,g1,hb1,g2,o2,l2,KK w2 ⟨b,1,none⟩ _,by simp [World.setCell,Array.getElem?_modify,hb2]⟩
set_option maxHeartbeats 2000000 in
set_option maxRecDepth 100000 in
theorem AC_ (L:Lays.n167 P ρ) (X:Builder.Extra P ρ):m7 P (ρ.f 167) 0 (ρ.t 5) (ρ.t 72):=by
 refine ⟨aa L.f167 rfl (by kernel_rfl),fun w b p v xs hbk hp how hne ⟨H,hT,hH1,hH2,hH3⟩=>⟨fun _ c hlen=>?_,fun e=>(by cases e),fun e=>(by cases e)⟩⟩
 have mixed:=L.mixed
 have t72:=L.t72; have a72:=L.a72; have z72:=L.z72; have v72:=L.v72; have u72:=run_underlying L.t72
 have t70:=L.t70; have a70:=L.a70; have z70:=L.z70; have v70:=L.v70; have u70:=run_underlying L.t70
 have t5:=L.t5; have a5:=L.a5; have z5:=L.z5; have v5:=L.v5; have u5:=run_underlying L.t5
 have t37:=L.t37; have a37:=L.a37; have z37:=L.z37; have v37:=L.v37; have u37:=run_underlying L.t37
 have t9:=L.t9; have a9:=L.a9; have z9:=L.z9; have v9:=L.v9; have u9:=run_underlying L.t9
 have t4:=L.t4; have a4:=L.a4; have z4:=L.z4; have v4:=L.v4; have u4:=run_underlying L.t4
 have t164:=L.t164; have a164:=L.a164; have z164:=L.z164; have v164:=L.v164; have u164:=run_underlying L.t164
 have e240:∀ args w,(callFunc (ρ.f 240) args).run P w=.ok (.enter (ρ.f 240) args) w:=enters_of L.f240 (by kernel_rfl) rfl
 go_enter L.f167,Body.n167_ntmps ρ
 go_wp2_with (go_at_fn (ρ.f 240); refine (AB0 { L with } X.toX72 b p v _ hbk hp).mono ?_)
 intro e w1 h0 hcc
 subst h0
 obtain ⟨g1,hb1⟩:=hcc
 have hlt:b<w1.heap.size:=(Array.getElem?_eq_some_iff.1 hb1).1
 have c0:w1.cell? ⟨b,0,none⟩=some (.pointer (some ⟨b,0,none⟩)):=by rw [Lib.cell_of_heap hb1]; rfl
 have c1:w1.cell? ⟨b,1,none⟩=some v:=by rw [Lib.cell_of_heap hb1]; rfl
 have how1:w1.ownsRow 0 (ρ.t 5) 1 v xs.length (xs.map (.int .u8)):=by
  refine how.kept g1 ?_
  rcases how.2 with ⟨rfl,_⟩ | ⟨g,cap,cur,rfl,_⟩
  ·exact .inl rfl
  ·right; intro e; exact hne (by simpa [Value.ownBlock,DZ] using e)
 have ga:w1.grownBy (w1.alloc (.cells #[.int .u8 c] (ρ.t 5))) none:=World.grownBy_alloc w1 _ none
 have hba:(w1.alloc (.cells #[.int .u8 c] (ρ.t 5))).heap[b]? = some (.cells #[.pointer (some ⟨b,0,none⟩),v] (ρ.t 72) (0,0)):=by rw [ga.block b hlt (by simp)]; exact hb1
 have hH4:∀ q o,H q=some o->(w1.alloc (.cells #[.int .u8 c] (ρ.t 5))).heap[q]? = some o:=fun q o hq=>by
  have h1:=hH1 q o hq
  have hq1:q<w.heap.size:=(Array.getElem?_eq_some_iff.1 h1).1
  rw [ga.block q (Nat.lt_of_lt_of_le hq1 g1.size) (by simp),g1.block q hq1 (fun e=>by cases e; rw [hH3] at hq; cases hq)]
  exact h1
 obtain ⟨v',w2,hr,o2,g2,l2⟩:=AAF (w:=w1.alloc (.cells #[.int .u8 c] (ρ.t 5))) (ty:=ρ.t 37) (c:=c) (g:=w1.heap.size) L.t37 (AC9 X.infoByte) (how1.alloc _) (by rw [Lib.cell_of_heap (heap_alloc_new w1 _)]; rfl) hlen hT hH4 hH2
 have hb2:w2.heap[b]? = some (.cells #[.pointer (some ⟨b,0,none⟩),v] (ρ.t 72) (0,0)):=by
  rw [g2.block b (Nat.lt_of_lt_of_le hlt ga.size) (fun e=>hne e.symm)]
  exact hba
 have d0:w2.cell? ⟨b,0,none⟩=some (.pointer (some ⟨b,0,none⟩)):=by rw [Lib.cell_of_heap hb2]; rfl
 have d1:w2.cell? ⟨b,1,none⟩=some v:=by rw [Lib.cell_of_heap hb2]; rfl
 have f1:w2.frozen? ⟨b,1,none⟩=false:=Lib.frozen_of_heap hb2 1
 have ev':∃ ao n' cap,v'=.slice ao n' cap:=by
  rcases o2.2 with ⟨hv,_⟩ | ⟨g,cap,cur,hv,_⟩
  ·exact ⟨_,_,_,hv⟩
  ·exact ⟨_,_,_,hv⟩
 obtain ⟨ao,n',cap,rfl⟩:=ev'
 go_wp2_with (at_builtin; refine T7 rfl _ _ (ρ.t 37) (ρ.t 37) rfl _ _ rfl rfl hr ?_)
 go_wp2
 go_ret
 exact ⟨_,rfl,_,w2,_,vf g1 (yk ga),hba,g2,o2,l2,KK w2 ⟨b,1,none⟩ _,by simp [World.setCell,Array.getElem?_modify,hb2]⟩
theorem dr:∀ {xs:List Int},mq xs=true->xs.map (Value.int .u8)=Go.Lib.byteCells (Ed xs).data.toList
 | [],_=>rfl
 | x::xs,h=>by
  simp only [mq,List.all_cons,AC,decide_eq_true_eq] at h
  have:=dr (xs:=xs) (by simpa [mq] using h.2)
  have e:((UInt8.ofNat x.toNat).toNat:Int)=x:=by
   have:x.toNat<256:=by omega
   simp [UInt8.toNat_ofNat',Nat.mod_eq_of_lt this]
   omega
  simp only [List.map_cons,this,Ed,Go.Lib.byteCells,List.map_cons,e]
theorem vg {w w':World} {r:Option Nat} (h:Below w.heap.size w w'):w.grownBy w' r:=⟨h.os,h.tape,h.output,h.size,fun k hk _=>h.block k hk⟩
set_option maxHeartbeats 1000000 in
set_option maxRecDepth 100000 in
theorem ABX (L:Lays.n169 P ρ) (X:Builder.Extra P ρ):m7 P (ρ.f 169) 2 (ρ.t 5) (ρ.t 72):=by
 refine ⟨aa L.f169 rfl (by kernel_rfl),fun w b p v xs hbk hp how hne ⟨H,hT,hH1,hH2,hH3⟩=>⟨fun e=>(by cases e),fun e=>(by cases e),fun _ hB=>?_⟩⟩
 have hcs:=dr hB
 have hl:(Ed xs).data.toList.length=xs.length:=by simp [Ed]
 by_cases h0:xs=[]
 ·subst h0
  have hB0:∀ w':World,∀ e,(e=Ending.returned (.string ⟨#[]⟩)/\Below w.heap.size w w')->e=.returned (.string (Ed []))/\w.grownBy w' (DZ v):=fun w' e h=>⟨h.1,vg h.2⟩
  rcases how.2 with ⟨rfl,_⟩ | ⟨g,cap,cur,rfl,_,hg,_⟩
  ·exact (Any.Builder_String_nil L X w.heap.size b p w hbk).mono fun e w' h=>hB0 w' e h
  ·by_cases hc0:cap=0
   ·subst hc0
    exact (Any.Builder_String_noroom L X w.heap.size b g p cur w (Nat.le_refl _) hbk hg).mono fun e w' h=>hB0 w' e h
   ·exact (Any.Builder_String_room L X w.heap.size b g cap p w hc0 hbk).mono fun e w' h=>hB0 w' e h
 ·obtain ⟨l,hl2⟩:∃ l,l=(Ed xs).data.toList:=⟨_,rfl⟩
  have h0:l≠[]:=fun e=>by rw [<- hl2,e] at hl; exact h0 (DV.1 hl.symm)
  have hbs:Ed xs=⟨l.toArray⟩:=by rw [hl2]
  rw [hbs]
  rw [hcs,<- hl,<- hl2] at how
  have hl0:l.length≠0:=by simpa using h0
  obtain ⟨g,cap,cur,rfl,hbg,hg,hnc,hcm,hcs2,htake⟩:∃ g cap cur,v=.slice (some ⟨g,0,none⟩) l.length cap/\0<=g/\w.heap[g]? = some (.cells cur (ρ.t 5) (0,0))/\l.length<=cap/\cap<=maxLen/\cur.size=cap*1/\cur.toList.take (l.length*1)=Lib.byteCells l:=by
   rcases how.2 with ⟨_,hz⟩ | ⟨g,cap,cur,hv,r⟩
   ·exact absurd hz hl0
   ·exact ⟨g,cap,cur,hv,r⟩
  clear hl hcs hbs hl2
  have c1:w.drew.cell? ⟨b,1,none⟩=some (.slice (some ⟨g,0,none⟩) l.length cap):=by
   have:w.drew.heap[b]? = some (.cells #[p,.slice (some ⟨g,0,none⟩) l.length cap] (ρ.t 72) (0,0)):=hbk
   rw [Lib.cell_of_heap this]; rfl
  have hSD:(Builtin.unsafeSliceData_ #[(ρ.t 37)] (ρ.t 127) #[.slice (some ⟨g,0,none⟩) l.length cap]).run P w.drew=.ok (.pointer (some ⟨g,0,none⟩)) w.drew :=
   Lib.run_unsafeSliceData_row _ _ _ _ _ _ (by omega)
  have hUS:(Builtin.unsafeString_ #[(ρ.t 127),(ρ.t 3)] (ρ.t 9) #[.pointer (some ⟨g,0,none⟩),.int .i64 l.length]).run P w.drew=.ok (.string ⟨l.toArray⟩) (w.drew.freeze ⟨g,0,none⟩ l.length):=by
   refine Lib.run_unsafeString_row w.drew (ρ.t 127) (ρ.t 3) (ρ.t 9) (ρ.t 5) L.t127 X.cellsByte g cur.size (by have hg':w.drew.heap[g]? = some (.cells cur (ρ.t 5) (0,0)):=hg; simp [World.shape?,hg']) l h0 (by omega) (by unfold maxLen at hcm; omega) ?_
   intro j x hx
   have:=how.cells (g:=g) rfl j (.int .u8 x.toNat) (by simp [Lib.byteCells,hx])
   exact this
  have hgr:w.grownBy (w.drew.freeze ⟨g,0,none⟩ l.length) (some g):=by
   unfold World.freeze
   split
   ·exact ⟨rfl,rfl,rfl,Nat.le_refl _,fun _ _ _=>rfl⟩
   ·refine ⟨rfl,rfl,rfl,by simp,fun k hk hn=>?_⟩
    simp only [Array.getElem?_modify]
    rw [if_neg (fun e=>hn (by rw [<- e]))]
    rfl
  have mixed:=L.mixed
  have t72:=L.t72; have a72:=L.a72; have z72:=L.z72; have v72:=L.v72; have u72:=run_underlying L.t72
  have t70:=L.t70; have a70:=L.a70; have z70:=L.z70; have v70:=L.v70; have u70:=run_underlying L.t70
  have t37:=L.t37; have a37:=L.a37; have z37:=L.z37; have v37:=L.v37; have u37:=run_underlying L.t37
  have t127:=L.t127; have a127:=L.a127; have z127:=L.z127; have v127:=L.v127; have u127:=run_underlying L.t127
  have t3:=L.t3; have a3:=L.a3; have z3:=L.z3; have v3:=L.v3; have u3:=run_underlying L.t3
  have t9:=L.t9; have a9:=L.a9; have z9:=L.z9; have v9:=L.v9; have u9:=run_underlying L.t9
  have t5:=X.t5; have a5:=X.a5; have z5:=X.z5; have v5:=X.v5; have u5:=run_underlying X.t5
  go_enter L.f169,Body.n169_ntmps ρ
  go_wp2
  go_region_o
  all_goals (go_wp2; go_ret; exact ⟨rfl,hgr⟩)
def ABY (k t T:Nat) (args bs:List AV):Option (List AV) :=
 match args,bs with
 | [.int .i64 a,.int .i64 b,.int .i64 c],[]=>if a=k/\b=t/\c=T then some [] else none
 | _,_=>none
theorem xc {f k t T k' t' T':Nat} (h:m7 P f k t T) (hq:ABY k t T [.int .i64 k',.int .i64 t',.int .i64 T'] []=some []):m7 P f k' t' T':=by
 unfold ABY at hq
 simp only at hq
 split at hq
 ·rename_i e
  obtain ⟨e1,e2,e3⟩:=e
  have e1:k'=k:=by exact_mod_cast e1
  have e2:t'=t:=by exact_mod_cast e2
  have e3:T'=T:=by exact_mod_cast e3
  rw [e1,e2,e3]
  exact h
 ·cases hq
end Go.Proofs.YtfcgblnlopemkaaGreatDoor.Core

namespace Go.Proofs.YtfcgblnlopemkaaGreatDoor.Core
open Go IntKind
set_option maxRecDepth 100000
noncomputable section
def AAG:Go.Shelf.Ren:=⟨fun | 156=>17 | 165=>42 | 166=>16 | 169=>20 | 240=>41 | 241=>82 | 276=>81 | 277=>110 | n=>n,fun | 22=>40 | 28=>37 | 31=>50 | 37=>24 | 45=>101 | 67=>58 | 68=>65 | 69=>22 | 70=>51 | 71=>52 | 72=>53 | 74=>54 | 75=>55 | 76=>56 | 77=>57 | 80=>61 | 83=>31 | 104=>23 | 113=>118 | 114=>108 | 127=>88 | 131=>99 | 164=>121 | 211=>80 | n=>n,fun | 1=>0 | 3=>2 | 4=>3 | 17=>1 | 18=>4 | 19=>5 | n=>n⟩
theorem ABZ:Lays.n156 Tryz.prog AAG:={
 mixed:=by kernel_rfl
 f156:=Tryz.func17.trans (congrArg some (by kernel_rfl))
 f165:=Tryz.func42.trans (congrArg some (by kernel_rfl))
 f166:=Tryz.func16.trans (congrArg some (by kernel_rfl))
 f169:=Tryz.func20.trans (congrArg some (by kernel_rfl))
 f240:=Tryz.func41.trans (congrArg some (by kernel_rfl))
 f241:=Tryz.func82.trans (congrArg some (by kernel_rfl))
 f276:=Tryz.func81.trans (congrArg some (by kernel_rfl))
 f277:=Tryz.func110.trans (congrArg some (by kernel_rfl))
 t0:=Tryz.underlying0
 a0:=Tryz.isAgg0
 z0:=Tryz.sizeOf0
 v0:=Tryz.zeroValue0
 t3:=Tryz.underlying3
 a3:=Tryz.isAgg3
 z3:=Tryz.sizeOf3
 v3:=Tryz.zeroValue3
 t4:=Tryz.underlying4
 a4:=Tryz.isAgg4
 z4:=Tryz.sizeOf4
 v4:=Tryz.zeroValue4
 t9:=Tryz.underlying9
 a9:=Tryz.isAgg9
 z9:=Tryz.sizeOf9
 v9:=Tryz.zeroValue9
 t20:=Tryz.underlying20
 a20:=Tryz.isAgg20
 z20:=Tryz.sizeOf20
 v20:=Tryz.zeroValue20
 t31:=Tryz.underlying50
 a31:=Tryz.isAgg50
 z31:=Tryz.sizeOf50
 v31:=Tryz.zeroValue50
 t37:=Tryz.underlying24
 a37:=Tryz.isAgg24
 z37:=Tryz.sizeOf24
 v37:=Tryz.zeroValue24
 t70:=Tryz.underlying51
 a70:=Tryz.isAgg51
 z70:=Tryz.sizeOf51
 v70:=Tryz.zeroValue51
 t72:=Tryz.underlying53
 a72:=Tryz.isAgg53
 z72:=Tryz.sizeOf53
 v72:=Tryz.zeroValue53
 t75:=Tryz.underlying55
 a75:=Tryz.isAgg55
 z75:=Tryz.sizeOf55
 v75:=Tryz.zeroValue55
 t76:=Tryz.underlying56
 a76:=Tryz.isAgg56
 z76:=Tryz.sizeOf56
 v76:=Tryz.zeroValue56
 t127:=Tryz.underlying88
 a127:=Tryz.isAgg88
 z127:=Tryz.sizeOf88
 v127:=Tryz.zeroValue88
 t164:=Tryz.underlying121
 a164:=Tryz.isAgg121
 z164:=Tryz.sizeOf121
 v164:=Tryz.zeroValue121 }
theorem ACY:Builder.Extra Tryz.prog AAG:={
 sizeBuilder:=by kernel_rfl
 liesBuilder:=by kernel_rfl
 t5:=Tryz.underlying5
 a5:=Tryz.isAgg5
 z5:=Tryz.sizeOf5
 v5:=Tryz.zeroValue5
 infoByte:=by kernel_rfl
 cellsByte:=by kernel_rfl
 sizeByte:=by kernel_rfl
 neB5:=by decide }
def ACZ:Go.Shelf.Ren:=⟨fun | 138=>103 | 143=>104 | 146=>38 | 195=>132 | 197=>133 | 217=>153 | 218=>134 | 219=>135 | 221=>75 | 224=>155 | 225=>154 | 260=>152 | 266=>181 | 267=>156 | 268=>102 | 314=>182 | n=>n,fun | 22=>40 | 28=>37 | 29=>126 | 30=>127 | 31=>50 | 35=>153 | 37=>24 | 45=>101 | 46=>151 | 51=>185 | 61=>84 | 67=>58 | 68=>65 | 69=>22 | 70=>51 | 71=>52 | 72=>53 | 73=>87 | 74=>54 | 75=>55 | 76=>56 | 77=>57 | 80=>61 | 83=>31 | 104=>23 | 105=>167 | 111=>106 | 112=>191 | 113=>118 | 114=>108 | 119=>201 | 127=>88 | 131=>99 | 138=>203 | 139=>204 | 146=>205 | 164=>121 | 165=>122 | 211=>80 | 230=>219 | 239=>223 | 240=>224 | 242=>226 | 244=>229 | 246=>231 | 247=>232 | 248=>233 | 249=>234 | n=>n,fun | 1=>0 | 3=>2 | 4=>3 | 17=>1 | 18=>4 | 19=>5 | n=>n⟩
theorem ABa:Lays.n146 Tryz.prog ACZ:={
 mixed:=by kernel_rfl
 f138:=Tryz.func103.trans (congrArg some (by kernel_rfl))
 f143:=Tryz.func104.trans (congrArg some (by kernel_rfl))
 f146:=Tryz.func38.trans (congrArg some (by kernel_rfl))
 f195:=Tryz.func132.trans (congrArg some (by kernel_rfl))
 f197:=Tryz.func133.trans (congrArg some (by kernel_rfl))
 f217:=Tryz.func153.trans (congrArg some (by kernel_rfl))
 f218:=Tryz.func134.trans (congrArg some (by kernel_rfl))
 f219:=Tryz.func135.trans (congrArg some (by kernel_rfl))
 f221:=Tryz.func75.trans (congrArg some (by kernel_rfl))
 f224:=Tryz.func155.trans (congrArg some (by kernel_rfl))
 f225:=Tryz.func154.trans (congrArg some (by kernel_rfl))
 f260:=Tryz.func152.trans (congrArg some (by kernel_rfl))
 f266:=Tryz.func181.trans (congrArg some (by kernel_rfl))
 f267:=Tryz.func156.trans (congrArg some (by kernel_rfl))
 f268:=Tryz.func102.trans (congrArg some (by kernel_rfl))
 f314:=Tryz.func182.trans (congrArg some (by kernel_rfl))
 t0:=Tryz.underlying0
 a0:=Tryz.isAgg0
 z0:=Tryz.sizeOf0
 v0:=Tryz.zeroValue0
 t3:=Tryz.underlying3
 a3:=Tryz.isAgg3
 z3:=Tryz.sizeOf3
 v3:=Tryz.zeroValue3
 t4:=Tryz.underlying4
 a4:=Tryz.isAgg4
 z4:=Tryz.sizeOf4
 v4:=Tryz.zeroValue4
 t5:=Tryz.underlying5
 a5:=Tryz.isAgg5
 z5:=Tryz.sizeOf5
 v5:=Tryz.zeroValue5
 t9:=Tryz.underlying9
 a9:=Tryz.isAgg9
 z9:=Tryz.sizeOf9
 v9:=Tryz.zeroValue9
 t21:=Tryz.underlying21
 a21:=Tryz.isAgg21
 z21:=Tryz.sizeOf21
 v21:=Tryz.zeroValue21
 t31:=Tryz.underlying50
 a31:=Tryz.isAgg50
 z31:=Tryz.sizeOf50
 v31:=Tryz.zeroValue50
 t46:=Tryz.underlying151
 a46:=Tryz.isAgg151
 z46:=Tryz.sizeOf151
 v46:=Tryz.zeroValue151
 t51:=Tryz.underlying185
 a51:=Tryz.isAgg185
 z51:=Tryz.sizeOf185
 v51:=Tryz.zeroValue185
 t105:=Tryz.underlying167
 a105:=Tryz.isAgg167
 z105:=Tryz.sizeOf167
 v105:=Tryz.zeroValue167
 t119:=Tryz.underlying201
 a119:=Tryz.isAgg201
 z119:=Tryz.sizeOf201
 t138:=Tryz.underlying203
 a138:=Tryz.isAgg203
 z138:=Tryz.sizeOf203
 v138:=Tryz.zeroValue203
 t139:=Tryz.underlying204
 a139:=Tryz.isAgg204
 z139:=Tryz.sizeOf204
 v139:=Tryz.zeroValue204
 t146:=Tryz.underlying205
 a146:=Tryz.isAgg205
 z146:=Tryz.sizeOf205
 v146:=Tryz.zeroValue205
 g1:=by kernel_rfl
 g3:=by kernel_rfl
 g4:=by kernel_rfl }
def ACa:Go.Shelf.Ren:=⟨fun | 129=>158 | 171=>40 | 243=>80 | 246=>109 | 283=>136 | 284=>137 | 285=>138 | 286=>139 | 317=>157 | 318=>159 | 319=>160 | 320=>161 | 337=>183 | 338=>184 | n=>n,fun | 22=>40 | 27=>145 | 28=>37 | 29=>126 | 30=>127 | 31=>50 | 35=>153 | 37=>24 | 45=>101 | 46=>151 | 51=>185 | 53=>171 | 54=>172 | 61=>84 | 67=>58 | 68=>65 | 69=>22 | 70=>51 | 71=>52 | 72=>53 | 73=>87 | 74=>54 | 75=>55 | 76=>56 | 77=>57 | 80=>61 | 81=>227 | 83=>31 | 84=>148 | 103=>166 | 104=>23 | 105=>167 | 111=>106 | 113=>118 | 114=>108 | 119=>201 | 127=>88 | 131=>99 | 137=>202 | 138=>203 | 139=>204 | 146=>205 | 150=>144 | 151=>206 | 164=>121 | 165=>122 | 166=>149 | 171=>170 | 172=>173 | 173=>174 | 174=>175 | 185=>176 | 211=>80 | 212=>184 | 213=>186 | 218=>207 | 221=>210 | 222=>211 | 228=>218 | 229=>146 | 232=>216 | 233=>217 | 238=>222 | 239=>223 | 240=>224 | 241=>225 | 244=>229 | 246=>231 | n=>n,fun | 1=>0 | 3=>2 | 4=>3 | 17=>1 | 18=>4 | 19=>5 | n=>n⟩
theorem ABb:LaysM.n171 Tryz.prog ACa:={
 mixed:=by kernel_rfl
 f129:=Tryz.func158.trans (congrArg some (by kernel_rfl))
 f171:=Tryz.func40.trans (congrArg some (by kernel_rfl))
 f243:=Tryz.func80.trans (congrArg some (by kernel_rfl))
 f246:=Tryz.func109.trans (congrArg some (by kernel_rfl))
 f283:=Tryz.func136.trans (congrArg some (by kernel_rfl))
 f284:=Tryz.func137.trans (congrArg some (by kernel_rfl))
 f285:=Tryz.func138.trans (congrArg some (by kernel_rfl))
 f286:=Tryz.func139.trans (congrArg some (by kernel_rfl))
 f317:=Tryz.func157.trans (congrArg some (by kernel_rfl))
 f318:=Tryz.func159.trans (congrArg some (by kernel_rfl))
 f319:=Tryz.func160.trans (congrArg some (by kernel_rfl))
 f320:=Tryz.func161.trans (congrArg some (by kernel_rfl))
 f337:=Tryz.func183.trans (congrArg some (by kernel_rfl))
 f338:=Tryz.func184.trans (congrArg some (by kernel_rfl))
 t0:=Tryz.underlying0
 a0:=Tryz.isAgg0
 z0:=Tryz.sizeOf0
 v0:=Tryz.zeroValue0
 t2:=Tryz.underlying2
 a2:=Tryz.isAgg2
 z2:=Tryz.sizeOf2
 v2:=Tryz.zeroValue2
 t3:=Tryz.underlying3
 a3:=Tryz.isAgg3
 z3:=Tryz.sizeOf3
 v3:=Tryz.zeroValue3
 t4:=Tryz.underlying4
 a4:=Tryz.isAgg4
 z4:=Tryz.sizeOf4
 v4:=Tryz.zeroValue4
 t5:=Tryz.underlying5
 a5:=Tryz.isAgg5
 z5:=Tryz.sizeOf5
 v5:=Tryz.zeroValue5
 t9:=Tryz.underlying9
 a9:=Tryz.isAgg9
 z9:=Tryz.sizeOf9
 v9:=Tryz.zeroValue9
 t20:=Tryz.underlying20
 a20:=Tryz.isAgg20
 z20:=Tryz.sizeOf20
 v20:=Tryz.zeroValue20
 t37:=Tryz.underlying24
 a37:=Tryz.isAgg24
 z37:=Tryz.sizeOf24
 v37:=Tryz.zeroValue24
 t46:=Tryz.underlying151
 a46:=Tryz.isAgg151
 z46:=Tryz.sizeOf151
 v46:=Tryz.zeroValue151
 t51:=Tryz.underlying185
 a51:=Tryz.isAgg185
 z51:=Tryz.sizeOf185
 v51:=Tryz.zeroValue185
 t53:=Tryz.underlying171
 a53:=Tryz.isAgg171
 z53:=Tryz.sizeOf171
 v53:=Tryz.zeroValue171
 t171:=Tryz.underlying170
 a171:=Tryz.isAgg170
 z171:=Tryz.sizeOf170
 v171:=Tryz.zeroValue170
 t173:=Tryz.underlying174
 a173:=Tryz.isAgg174
 z173:=Tryz.sizeOf174
 v173:=Tryz.zeroValue174
 t212:=Tryz.underlying184
 a212:=Tryz.isAgg184
 z212:=Tryz.sizeOf184
 v212:=Tryz.zeroValue184
 t213:=Tryz.underlying186
 a213:=Tryz.isAgg186
 z213:=Tryz.sizeOf186
 t232:=Tryz.underlying216
 a232:=Tryz.isAgg216
 z232:=Tryz.sizeOf216
 v232:=Tryz.zeroValue216
 t233:=Tryz.underlying217
 a233:=Tryz.isAgg217
 z233:=Tryz.sizeOf217
 v233:=Tryz.zeroValue217
 g17:=by kernel_rfl
 g18:=by kernel_rfl
 g19:=by kernel_rfl
 i0:=by kernel_rfl
 i2:=by kernel_rfl
 i3:=by kernel_rfl
 i4:=by kernel_rfl
 i5:=by kernel_rfl
 i9:=by kernel_rfl
 i20:=by kernel_rfl
 i37:=by kernel_rfl
 i46:=by kernel_rfl
 i51:=by kernel_rfl
 i53:=by kernel_rfl
 i171:=by kernel_rfl
 i173:=by kernel_rfl
 i212:=by kernel_rfl
 i232:=by kernel_rfl
 i233:=by kernel_rfl
 m17:=by kernel_rfl
 m18:=by kernel_rfl
 m19:=by kernel_rfl }
def ACb:Go.Shelf.Ren:=⟨fun | 41=>63 | n=>n,fun | 22=>34 | 23=>42 | n=>n,fun | n=>n⟩
theorem ABc:SlLaysE0.n41 Tryz.prog ACb:={
 mixed:=by kernel_rfl
 f41:=⟨Tryz.f63.name,by decide,Tryz.func63.trans (congrArg some (by kernel_rfl))⟩
 t4:=Tryz.underlying4
 a4:=Tryz.isAgg4
 z4:=Tryz.sizeOf4
 v4:=Tryz.zeroValue4
 t22:=Tryz.underlying34
 a22:=Tryz.isAgg34
 z22:=Tryz.sizeOf34
 v22:=Tryz.zeroValue34 }
theorem ADA:r4 Tryz.prog 42 As=true:=by kernel_rfl
def ACc:Go.Shelf.Ren:=⟨fun | 41=>88 | n=>n,fun | 22=>37 | 23=>3 | n=>n,fun | n=>n⟩
theorem ABd:SlLaysE0.n41 Tryz.prog ACc:={
 mixed:=by kernel_rfl
 f41:=⟨Tryz.f88.name,by decide,Tryz.func88.trans (congrArg some (by kernel_rfl))⟩
 t4:=Tryz.underlying4
 a4:=Tryz.isAgg4
 z4:=Tryz.sizeOf4
 v4:=Tryz.zeroValue4
 t22:=Tryz.underlying37
 a22:=Tryz.isAgg37
 z22:=Tryz.sizeOf37
 v22:=Tryz.zeroValue37 }
theorem ADB:r4 Tryz.prog 3 (.int .i64)=true:=by kernel_rfl
def ACd:Go.Shelf.Ren:=⟨fun | 45=>97 | n=>n,fun | 22=>33 | 23=>112 | n=>n,fun | n=>n⟩
theorem ABe:SlLaysE0.n45 Tryz.prog ACd:={
 mixed:=by kernel_rfl
 f45:=⟨Tryz.f97.name,by decide,Tryz.func97.trans (congrArg some (by kernel_rfl))⟩
 t0:=Tryz.underlying0
 a0:=Tryz.isAgg0
 z0:=Tryz.sizeOf0
 v0:=Tryz.zeroValue0
 t3:=Tryz.underlying3
 a3:=Tryz.isAgg3
 z3:=Tryz.sizeOf3
 v3:=Tryz.zeroValue3
 t4:=Tryz.underlying4
 a4:=Tryz.isAgg4
 z4:=Tryz.sizeOf4
 v4:=Tryz.zeroValue4
 t22:=Tryz.underlying33
 a22:=Tryz.isAgg33
 z22:=Tryz.sizeOf33
 v22:=Tryz.zeroValue33 }
theorem ADC:r4 Tryz.prog 112 AJ=true:=by kernel_rfl
def ACe:Go.Shelf.Ren:=⟨fun | 41=>98 | n=>n,fun | 22=>43 | 23=>45 | n=>n,fun | n=>n⟩
theorem ABf:SlLaysE0.n41 Tryz.prog ACe:={
 mixed:=by kernel_rfl
 f41:=⟨Tryz.f98.name,by decide,Tryz.func98.trans (congrArg some (by kernel_rfl))⟩
 t4:=Tryz.underlying4
 a4:=Tryz.isAgg4
 z4:=Tryz.sizeOf4
 v4:=Tryz.zeroValue4
 t22:=Tryz.underlying43
 a22:=Tryz.isAgg43
 z22:=Tryz.sizeOf43
 v22:=Tryz.zeroValue43 }
theorem ADD:r4 Tryz.prog 45 AH=true:=by kernel_rfl
def ABg:Go.Shelf.Ren:=⟨fun | 106=>174 | 213=>191 | 265=>197 | n=>n,fun | n=>n,fun | n=>n⟩
theorem AAH:Lays.n106 Tryz.prog ABg:={
 mixed:=by kernel_rfl
 f106:=Tryz.func174.trans (congrArg some (by kernel_rfl))
 f213:=Tryz.func191.trans (congrArg some (by kernel_rfl))
 f265:=Tryz.func197.trans (congrArg some (by kernel_rfl))
 t3:=Tryz.underlying3
 a3:=Tryz.isAgg3
 z3:=Tryz.sizeOf3
 v3:=Tryz.zeroValue3
 t9:=Tryz.underlying9
 a9:=Tryz.isAgg9
 z9:=Tryz.sizeOf9
 v9:=Tryz.zeroValue9 }
def ABh:Go.Shelf.Ren:=⟨fun | 22=>175 | 29=>192 | 30=>193 | n=>n,fun | 24=>43 | 9=>45 | n=>n,fun | n=>n⟩
theorem AAI:ye Tryz.prog ABh:={
 mixed:=by kernel_rfl
 f22:=⟨Tryz.f175.name,by decide,Tryz.func175.trans (congrArg some (by kernel_rfl))⟩
 ov:=fun args w=>run_callFunc_extern Tryz.func192 (by kernel_rfl) (by kernel_rfl) (by kernel_rfl) (by kernel_rfl) args w
 t3:=Tryz.underlying3
 a3:=Tryz.isAgg3
 z3:=Tryz.sizeOf3
 v3:=Tryz.zeroValue3
 t4:=Tryz.underlying4
 a4:=Tryz.isAgg4
 z4:=Tryz.sizeOf4
 v4:=Tryz.zeroValue4
 t24:=Tryz.underlying43
 a24:=Tryz.isAgg43
 z24:=Tryz.sizeOf43
 v24:=Tryz.zeroValue43 }
theorem ACf:r4 Tryz.prog 45 AH=true:=by kernel_rfl
def ABi:Go.Shelf.Ren:=⟨fun | 10=>194 | 6=>199 | n=>n,fun | 22=>37 | 23=>3 | 25=>106 | n=>n,fun | n=>n⟩
theorem AAJ:SlLaysH.n10 Tryz.prog ABi:={
 mixed:=by kernel_rfl
 f6:=⟨Tryz.f199.name,by decide,Tryz.func199.trans (congrArg some (by kernel_rfl))⟩
 f10:=⟨Tryz.f194.name,by decide,Tryz.func194.trans (congrArg some (by kernel_rfl))⟩
 t0:=Tryz.underlying0
 a0:=Tryz.isAgg0
 z0:=Tryz.sizeOf0
 v0:=Tryz.zeroValue0
 t3:=Tryz.underlying3
 a3:=Tryz.isAgg3
 z3:=Tryz.sizeOf3
 v3:=Tryz.zeroValue3
 t4:=Tryz.underlying4
 a4:=Tryz.isAgg4
 z4:=Tryz.sizeOf4
 v4:=Tryz.zeroValue4
 t22:=Tryz.underlying37
 a22:=Tryz.isAgg37
 z22:=Tryz.sizeOf37
 v22:=Tryz.zeroValue37
 a23:=Tryz.isAgg3
 z23:=Tryz.sizeOf3
 t25:=Tryz.underlying106
 a25:=Tryz.isAgg106
 z25:=Tryz.sizeOf106
 v25:=Tryz.zeroValue106 }
theorem AAK:ACV Tryz.prog 195:=⟨enters_of Tryz.func195 (by kernel_rfl) rfl,fun n x b o W hc=>by
 go_enter Tryz.func195,Tryz.ntmps195
 go_wp2
 all_goals (go_ret; exact ⟨by simp_all,0,rfl⟩)⟩
def uQ:Go.Shelf.Ren:=⟨fun | 166=>16 | 169=>20 | 240=>41 | 276=>81 | n=>n,fun | 72=>53 | 70=>51 | 37=>24 | 75=>55 | 164=>121 | 127=>88 | 80=>61 | n=>n,fun | n=>n⟩
theorem ADE:Builder.Extra Tryz.prog uQ:={
 sizeBuilder:=by kernel_rfl
 liesBuilder:=by kernel_rfl
 t5:=Tryz.underlying5
 a5:=Tryz.isAgg5
 z5:=Tryz.sizeOf5
 v5:=Tryz.zeroValue5
 infoByte:=by kernel_rfl
 cellsByte:=by kernel_rfl
 sizeByte:=by kernel_rfl
 neB5:=by decide }
theorem ACg:Lays.n166 Tryz.prog uQ:={
 mixed:=by kernel_rfl
 f166:=Tryz.func16.trans (congrArg some (by kernel_rfl))
 f240:=Tryz.func41.trans (congrArg some (by kernel_rfl))
 f276:=Tryz.func81.trans (congrArg some (by kernel_rfl))
 t0:=Tryz.underlying0
 a0:=Tryz.isAgg0
 z0:=Tryz.sizeOf0
 v0:=Tryz.zeroValue0
 t3:=Tryz.underlying3
 a3:=Tryz.isAgg3
 z3:=Tryz.sizeOf3
 v3:=Tryz.zeroValue3
 t4:=Tryz.underlying4
 a4:=Tryz.isAgg4
 z4:=Tryz.sizeOf4
 v4:=Tryz.zeroValue4
 t9:=Tryz.underlying9
 a9:=Tryz.isAgg9
 z9:=Tryz.sizeOf9
 v9:=Tryz.zeroValue9
 t20:=Tryz.underlying20
 a20:=Tryz.isAgg20
 z20:=Tryz.sizeOf20
 v20:=Tryz.zeroValue20
 t37:=Tryz.underlying24
 a37:=Tryz.isAgg24
 z37:=Tryz.sizeOf24
 v37:=Tryz.zeroValue24
 t70:=Tryz.underlying51
 a70:=Tryz.isAgg51
 z70:=Tryz.sizeOf51
 v70:=Tryz.zeroValue51
 t72:=Tryz.underlying53
 a72:=Tryz.isAgg53
 z72:=Tryz.sizeOf53
 v72:=Tryz.zeroValue53
 t75:=Tryz.underlying55
 a75:=Tryz.isAgg55
 z75:=Tryz.sizeOf55
 v75:=Tryz.zeroValue55
 t164:=Tryz.underlying121
 a164:=Tryz.isAgg121
 z164:=Tryz.sizeOf121
 v164:=Tryz.zeroValue121 }
theorem Nj:m7 Tryz.prog 16 1 5 53:=ABW ACg ADE
theorem ACh:Lays.n169 Tryz.prog uQ:={
 mixed:=by kernel_rfl
 f169:=Tryz.func20.trans (congrArg some (by kernel_rfl))
 t0:=Tryz.underlying0
 a0:=Tryz.isAgg0
 z0:=Tryz.sizeOf0
 v0:=Tryz.zeroValue0
 t3:=Tryz.underlying3
 a3:=Tryz.isAgg3
 z3:=Tryz.sizeOf3
 v3:=Tryz.zeroValue3
 t9:=Tryz.underlying9
 a9:=Tryz.isAgg9
 z9:=Tryz.sizeOf9
 v9:=Tryz.zeroValue9
 t37:=Tryz.underlying24
 a37:=Tryz.isAgg24
 z37:=Tryz.sizeOf24
 v37:=Tryz.zeroValue24
 t70:=Tryz.underlying51
 a70:=Tryz.isAgg51
 z70:=Tryz.sizeOf51
 v70:=Tryz.zeroValue51
 t72:=Tryz.underlying53
 a72:=Tryz.isAgg53
 z72:=Tryz.sizeOf53
 v72:=Tryz.zeroValue53
 t127:=Tryz.underlying88
 a127:=Tryz.isAgg88
 z127:=Tryz.sizeOf88
 v127:=Tryz.zeroValue88 }
theorem R7:m7 Tryz.prog 20 2 5 53:=ABX ACh ADE

def AAL:List (Nat×BS):=[(3,Fv),(5,At),(6,Ao),(9,Ar),(10,Df),(11,BM),(13,BT),(14,BJ),(15,MS),(18,Ox),(19,Kf),(23,Cp),(24,CC),(25,CW),(26,ET),(27,Av),(28,HB),(29,Jb),(30,Ds),(31,HC),(32,Ho),(33,Oy),(34,BR),(35,Dt),(36,RL),(37,EU),(39,D9),(49,Bv),(50,EV),(51,RM),(52,CD),(53,DN),(54,Fa),(55,MV),(56,Oz),(57,Jc),(58,Hp),(59,Cj),(60,Gz),(61,Ti),(62,GS),(64,Ie),(65,MW),(66,CX),(67,Fb),(68,Kg),(69,Du),(70,Cs),(71,Tk),(72,O0),(73,Ck),(74,MX),(76,BY),(77,G0),(78,D_),(79,Cl),(86,GT),(87,Bq),(89,D0),(90,RN),(91,EN),(92,Cb),(93,GU),(94,AY),(95,Fw),(96,GV),(99,B7),(100,DG),(101,Br),(105,Cc),(106,FM),(107,O1),(108,BU),(112,GE),(113,Ct),(114,FN),(115,CI),(116,Fx),(117,EA),(118,B4),(119,If),(120,E8),(121,HD),(122,GF),(123,FO),(124,BH),(125,DQ),(126,Jd),(127,FP),(128,E9),(129,Cq),(130,Mg),(131,Kh),(140,Cm),(141,EW),(142,GW),(143,Aa),(144,Ki),(145,EX),(146,E_),(147,CO),(148,FQ),(149,EY),(150,Je),(151,C4),(158,C5),(162,AU),(168,Mh),(172,AL),(173,Jf),(176,EC),(177,Bj),(178,Mi),(179,Dq),(180,DR),(190,Kj)]
def fns (f:Nat):Option BS:=ABP f AAL
theorem ADF:zj Tryz.prog fns:=yZ (.cons ZT <| .cons qC <| .cons qD <| .cons g9 <| .cons qE <| .cons nb <| .cons nc <| .cons g_ <| .cons qF <| .cons sC <| .cons ne <| .cons ng <| .cons qG <| .cons kZ <| .cons qH <| .cons nh <| .cons qI <| .cons ka <| .cons ni <| .cons qJ <| .cons eQ <| .cons sD <| .cons kb <| .cons nj <| .cons uB <| .cons qK <| .cons eR <| .cons eS <| .cons qL <| .cons uC <| .cons qM <| .cons kc <| .cons kf <| .cons qN <| .cons sE <| .cons uD <| .cons eT <| .cons eU <| .cons cq <| .cons vU <| .cons aH <| .cons hJ <| .cons qO <| .cons cr <| .cons kg <| .cons nl <| .cons nn <| .cons kh <| .cons vV <| .cons sF <| .cons eV <| .cons qP <| .cons qQ <| .cons ct <| .cons eW <| .cons qR <| .cons uE <| .cons Xl <| .cons S0 <| .cons uF <| .cons uG <| .cons hO <| .cons uH <| .cons Hq <| .cons ZU <| .cons aN <| .cons uI <| .cons uJ <| .cons qS <| .cons Mb <| .cons sG <| .cons sH <| .cons eX <| .cons no <| .cons Xm <| .cons sI <| .cons aQ <| .cons ZV <| .cons eY <| .cons ZW <| .cons hP <| .cons Xn <| .cons qT <| .cons np <| .cons sJ <| .cons qU <| .cons ki <| .cons kj <| .cons sK <| .cons uK <| .cons sL <| .cons qV <| .cons nq <| .cons eZ <| .cons qW <| .cons aU <| .cons RO <| .cons ns <| .cons qX <| .cons uL <| .cons ed <| .cons sM <| .cons qY <| .cons km <| .cons hU <| .cons hX <| .cons Lw <| .cons qZ <| .cons FA <| .cons ko <| .cons ee <| .cons ZX <| .cons qa <| .cons cv <| .cons aY <| .cons nt .nil)
def prims:GM:=fun f args bs=>if f=17 then xb args bs else if f=38 then uP args bs else if f=40 then xZ args bs else if f=63 then qb 42 As args bs else if f=88 then qb 3 (.int .i64) args bs else if f=97 then AAA 112 AJ args bs else if f=98 then qb 45 AH args bs else if f=174 then ACU args bs else if f=175 then zy 45 AH args bs else if f=194 then vZ 3 195 args bs else if f=Bg+16 then ABY 1 5 53 args bs else if f=Bg+20 then ABY 2 5 53 args bs else none
theorem ABj:I9 Tryz.prog prims:=by
 refine ⟨fun f k t T hf h=>?_,fun f args bs rs hf h=>?_⟩<;>unfold prims at h
 ·rcases FB h with ⟨e,h⟩ | ⟨_,h⟩
  ·exfalso; unfold Bg at e; omega
  rcases FB h with ⟨e,h⟩ | ⟨_,h⟩
  ·exfalso; unfold Bg at e; omega
  rcases FB h with ⟨e,h⟩ | ⟨_,h⟩
  ·exfalso; unfold Bg at e; omega
  rcases FB h with ⟨e,h⟩ | ⟨_,h⟩
  ·exfalso; unfold Bg at e; omega
  rcases FB h with ⟨e,h⟩ | ⟨_,h⟩
  ·exfalso; unfold Bg at e; omega
  rcases FB h with ⟨e,h⟩ | ⟨_,h⟩
  ·exfalso; unfold Bg at e; omega
  rcases FB h with ⟨e,h⟩ | ⟨_,h⟩
  ·exfalso; unfold Bg at e; omega
  rcases FB h with ⟨e,h⟩ | ⟨_,h⟩
  ·exfalso; unfold Bg at e; omega
  rcases FB h with ⟨e,h⟩ | ⟨_,h⟩
  ·exfalso; unfold Bg at e; omega
  rcases FB h with ⟨e,h⟩ | ⟨_,h⟩
  ·exfalso; unfold Bg at e; omega
  rcases FB h with ⟨e,h⟩ | ⟨_,h⟩
  ·obtain rfl:=Nat.add_left_cancel e; exact xc Nj h
  rcases FB h with ⟨e,h⟩ | ⟨_,h⟩
  ·obtain rfl:=Nat.add_left_cancel e; exact xc R7 h
  cases h
 ·rcases FB h with ⟨e,h⟩ | ⟨_,h⟩
  ·subst e; exact AAE ABZ ACY h
  rcases FB h with ⟨e,h⟩ | ⟨_,h⟩
  ·subst e; exact yj ABa (by kernel_rfl) h
  rcases FB h with ⟨e,h⟩ | ⟨_,h⟩
  ·subst e; exact AAC ABb (List.mem_cons_self ..) h
  rcases FB h with ⟨e,h⟩ | ⟨_,h⟩
  ·subst e; exact qd ABc ADA h
  rcases FB h with ⟨e,h⟩ | ⟨_,h⟩
  ·subst e; exact qd ABd ADB h
  rcases FB h with ⟨e,h⟩ | ⟨_,h⟩
  ·subst e; exact ABU ABe ADC h
  rcases FB h with ⟨e,h⟩ | ⟨_,h⟩
  ·subst e; exact qd ABf ADD h
  rcases FB h with ⟨e,h⟩ | ⟨_,h⟩
  ·subst e; exact ABS AAH h
  rcases FB h with ⟨e,h⟩ | ⟨_,h⟩
  ·subst e; exact ABR AAI ACf h
  rcases FB h with ⟨e,h⟩ | ⟨_,h⟩
  ·subst e; exact z_ AAJ Tryz.zeroValue3 AAK h
  rcases FB h with ⟨e,h⟩ | ⟨_,h⟩
  ·exfalso; unfold Bg at e hf; omega
  rcases FB h with ⟨e,h⟩ | ⟨_,h⟩
  ·exfalso; unfold Bg at e hf; omega
  cases h
abbrev cP:GM:=tv fns prims
def cG {ρ:Type} (c:AI) (kn kr:St->Option ρ) (ke:Nat->St->Option ρ):St->Option ρ:=G8 cP Le c kn kr ke
def lG {ρ:Type} (c:AI) (hs:List (Nat×Nat)) (l:List Nat) (n:Nat) (kr:St->Option ρ) (ke:Nat->St->Option ρ):St->Option ρ:=Le fun go s'=>G8 cP Le c (fun s''=>go (s''.cutH hs l n)) kr ke s'
def kJ {ρ:Type} (c:AI) (hs:List (Nat×Nat)) (l:List Nat) (n:Nat) (kn kr:St->Option ρ) (ke:Nat->St->Option ρ):St->Option ρ:=fun s=>cG c kn kr ke (s.cutH hs l n)
def kB {ρ:Type} (hs:List (Nat×Nat)) (l:List Nat) (n:Nat) (kn:St->Option ρ):St->Option ρ:=fun s=>kn (s.cutH hs l n)
def kE {ρ:Type} (b:Nat) (hs:List (Nat×Nat)) (l:List Nat) (n:Nat) (kn:St->Option ρ) (ke:Nat->St->Option ρ):Nat->St->Option ρ:=fun i s=>if i=b then kn (s.cutH hs l n) else ke i s
def kx {ρ:Type}:Nat->St->Option ρ:=fun _ _=>none
def cF (f:Nat) (a:BS) (x b:List AV):Option (RT a.outs):=(cP f x b).bind (CB a.outs)
theorem cT (a:BS) {f:Nat} {x b:List AV} {t:Option (RT a.outs)} {r:RT a.outs} (hf:fns f=some a) (hl:x.length=a.params.length/\b.length=(ER a.params 0).length) (e:zr cP a x b=t) (h:t=some r):cF f a x b=some r:=wZ hf hl (e.trans h)
theorem jS {ρ:Type} {t w:Option ρ} {r:ρ} (e:w=t) (h:t=some r):w=some r:=e.trans h
theorem lS {ρ:Type} {c:AI} {hs:List (Nat×Nat)} {l:List Nat} {n:Nat} {kr:St->Option ρ} {ke:Nat->St->Option ρ} {s:St} {t:Option ρ} {r:ρ} (e:G8 cP Le c (fun s=>lG c hs l n kr ke (s.cutH hs l n)) kr ke s=t) (h:t=some r):lG c hs l n kr ke s=some r:=yX (e.trans h)
def B_strings_Builder_WriteString:Option Unit:=(cP (Bg+16) [.int .i64 ((1:Nat):Int),.int .i64 ((5:Nat):Int),.int .i64 ((53:Nat):Int)] []).bind (CB [])
theorem Dg:B_strings_Builder_WriteString=some ():=by
 unfold B_strings_Builder_WriteString cP
 rw [GD (r:=[]) rfl (by rfl)]
 rfl
def B_strings_Builder_String:Option Unit:=(cP (Bg+20) [.int .i64 ((2:Nat):Int),.int .i64 ((5:Nat):Int),.int .i64 ((53:Nat):Int)] []).bind (CB [])
theorem RQ:B_strings_Builder_String=some ():=by
 unfold B_strings_Builder_String cP
 rw [GD (r:=[]) rfl (by rfl)]
 rfl
def Nw (x0:ByteArray):Option Bool:=cF 3 Fv [.str x0] []
def R8 (x0:ByteArray):Option ByteArray:=cF 5 At [.str x0] []
def R9 (x0:ByteArray):Option ByteArray:=cF 6 Ao [.str x0] []
def Mk (x0:ByteArray):Option (List (List Int)×List AF×Int):=cF 9 Ar [.str x0] []
def C_ (x0:Int):Option ByteArray:=cF 10 Df [.int .i64 x0] []
def QE (x0:List (List Int)) (x1:List AF):Option (AG×List Int×Bool):=cF 11 BM [.lst (.slice (.int .i64)) x0,.lst AM x1] []
def QF (x0:List (List Int)) (x1:List AF):Option (AG×List Int×Bool):=cF 13 BT [.lst (.slice (.int .i64)) x0,.lst AM x1] []
def Ml (x0:ByteArray):Option (List (List Int)×List AF×Int):=cF 14 BJ [.str x0] []
def HJ (x0:Int):Option ByteArray:=cF 15 MS [.int .i64 x0] []
def VN (x0:AR):Option Bool:=cF 18 Ox [.agg (As.enc x0)] []
def QG (x0:AR):Option ByteArray:=cF 19 Kf [.agg (As.enc x0)] []
def Kk (x0:ByteArray):Option (List ByteArray):=cF 23 Cp [.str x0] []
def R_ (x0:ByteArray):Option (List ByteArray×Bool):=cF 24 CC [.str x0] []
def OS (x0:ByteArray):Option (List Int×Bool):=cF 25 CW [.str x0] []
def DA (x0:List (List Int)):Option Bool:=cF 26 ET [.lst (.slice (.int .i64)) x0] []
def QH (x0:List ByteArray):Option (AF×Bool):=cF 27 Av [.lst .str x0] []
def Mm (x0:AF):Option Bool:=cF 28 HB [.agg (AM.enc x0)] []
def OT (x0:Int):Option Int:=cF 29 Jb [.int .i64 x0] []
def QI (x0:List (List Int)):Option (AG×Bool):=cF 30 Ds [.lst (.slice (.int .i64)) x0] []
def Mn (x0:AF):Option Bool:=cF 31 HC [.agg (AM.enc x0)] []
def Hr (x1:AF) (x2:Int) (b0:AG):Option (Bool×AG):=cF 32 Ho [.ptr 0 0,.agg (AM.enc x1),.int .i64 x2] [.agg (Af.enc b0)]
def VO (x0:Bool):Option Int:=cF 33 Oy [.bool x0] []
def Jh (x0:AG):Option AG:=cF 34 BR [.agg (Ah.enc x0)] []
def QJ (x0:List (List Int)):Option (AG×Bool):=cF 35 Dt [.lst (.slice (.int .i64)) x0] []
def Xo (x1:Int) (x2:AF) (b0:AG):Option (Int×AG):=cF 36 RL [.ptr 0 0,.int .i64 x1,.agg (AM.enc x2)] [.agg (Ah.enc b0)]
def SA (x0:AG):Option AG:=cF 37 EU [.agg (Ah.enc x0)] []
def K4 (x1:ByteArray) (b0:DF):Option (Bool×DF):=cF 39 D9 [.ptr 0 0,.str x1] [.agg [.new 37 (.slice (.int .i64)) b0.1,.new 72 AM b0.2]]
def ED (x0:ByteArray):Option (Int×Bool):=cF 49 Bv [.str x0] []
def SB (x0:List Int):Option Bool:=cF 50 EV [.lst (.int .i64) x0] []
def AZ (x0 x1 x2:Int):Option Bool:=cF 51 RM [.int .i64 x0,.int .i64 x1,.int .i64 x2] []
def DB (x0:List (List Int)):Option Bool:=cF 52 CD [.lst (.slice (.int .i64)) x0] []
def Ji (x0:List (List Int)):Option (List (List Int)):=cF 53 DN [.lst (.slice (.int .i64)) x0] []
def OU (x0:Int) (x1:List (List Int)):Option (U×Bool):=cF 54 Fa [.int .i64 x0,.lst (.slice (.int .i64)) x1] []
def Ap (x0 x1 x2:Int):Option Bool:=cF 55 MV [.int .i64 x0,.int .i64 x1,.int .i64 x2] []
def FV (x0:Int):Option Bool:=cF 56 Oz [.int .i64 x0] []
def Mo (x0 x1:Int) (x2 x3:ByteArray):Option Bool:=cF 57 Jc [.int .i64 x0,.int .i64 x1,.str x2,.str x3] []
def K5 (x1:AF) (x2:Int) (b0:AG):Option (Bool×AG):=cF 58 Hp [.ptr 0 0,.agg (AM.enc x1),.int .i64 x2] [.agg (Af.enc b0)]
def K6 (x1:AF) (x2:Int) (b0:AG):Option (Bool×AG):=cF 59 Cj [.ptr 0 0,.agg (AM.enc x1),.int .i64 x2] [.agg (Af.enc b0)]
def B8 (x1:Int) (b0:AG):Option (Int×AG):=cF 60 Gz [.ptr 0 0,.int .i64 x1] [.agg (Af.enc b0)]
def T8 (x0:U):Option U:=cF 61 Ti [.agg (Y.enc x0)] []
def JD (x1:AF) (x2:Int) (b0:AG):Option (Bool×AG):=cF 62 GS [.ptr 0 0,.agg (AM.enc x1),.int .i64 x2] [.agg (Af.enc b0)]
def C6 (x0:U):Option U:=cF 64 Ie [.agg (Y.enc x0)] []
def HK (x0:AB):Option AB:=cF 65 MW [.agg (AJ.enc x0)] []
def G1 (x0:List (List Int)):Option (List (List Int)):=cF 66 CX [.lst (.slice (.int .i64)) x0] []
def OV (x0:Int) (x1:List (List Int)):Option (U×Bool):=cF 67 Fb [.int .i64 x0,.lst (.slice (.int .i64)) x1] []
def QK (x1:Int) (x2:AF) (b0:AG):Option (Int×AG):=cF 68 Kg [.ptr 0 0,.int .i64 x1,.agg (AM.enc x2)] [.agg (Ah.enc b0)]
def QL (x1 x2:Int) (b0:AG):Option (Int×AG):=cF 69 Du [.ptr 0 0,.int .i64 x1,.int .i64 x2] [.agg (Ah.enc b0)]
def Fc (x1:U) (x2:List AB) (x3:List AK) (x4:Int) (b0:AG):Option AG:=cF 70 Cs [.ptr 0 0,.agg (Y.enc x1),.lst AJ x2,.lst Ay x3,.int .i64 x4] [.agg (Ah.enc b0)]
def ae (x0:U):Option U:=cF 71 Tk [.agg (Y.enc x0)] []
def VP (x1:Int) (x2:AF) (b0:AG):Option (Int×AG):=cF 72 O0 [.ptr 0 0,.int .i64 x1,.agg (AM.enc x2)] [.agg (Ah.enc b0)]
def K7 (x0:List AB):Option (List AB):=cF 73 Ck [.lst AJ x0] []
def Dh (x0:U):Option U:=cF 74 MX [.agg (Y.enc x0)] []
def SC (x0:ByteArray):Option (List ByteArray×Bool):=cF 76 BY [.str x0] []
def Jw (x0 x1:ByteArray):Option Bool:=cF 77 G0 [.str x0,.str x1] []
def K8 (x1:List ByteArray) (b0:DF):Option (Bool×DF):=cF 78 D_ [.ptr 0 0,.lst .str x1] [.agg [.new 37 (.slice (.int .i64)) b0.1,.new 72 AM b0.2]]
def SD (x0:List ByteArray):Option (AF×Bool):=cF 79 Cl [.lst .str x0] []
def FC (x0:List Int) (x1:Int):Option Bool:=cF 86 GT [.lst (.int .i64) x0,.int .i64 x1] []
def Di (x0:List Int) (x1:Int):Option Int:=cF 87 Bq [.lst (.int .i64) x0,.int .i64 x1] []
def Cx (x0:List Int) (x1:Int):Option Bool:=cF 89 D0 [.lst (.int .i64) x0,.int .i64 x1] []
def RR (x0:ByteArray):Option Bool:=cF 90 RN [.str x0] []
def RS (x0:U) (x1:List (List Int)) (x2 x3:Int) (x4 x5:ByteArray):Option (U×List AB×List AK×Bool):=cF 91 EN [.agg (Y.enc x0),.lst (.slice (.int .i64)) x1,.int .i64 x2,.int .i64 x3,.str x4,.str x5] []
def GX (x1:List AB) (x2:List AK) (x3:Int) (b0:AG):Option AG:=cF 92 Cb [.ptr 0 0,.lst AJ x1,.lst Ay x2,.int .i64 x3] [.agg (Af.enc b0)]
def RU (x0:U) (x1:List (List Int)) (x2:Int):Option (U×List AB×Bool):=cF 93 GU [.agg (Y.enc x0),.lst (.slice (.int .i64)) x1,.int .i64 x2] []
def CP (x0:List U) (x1:Int):Option Int:=cF 94 AY [.lst Y x0,.clo 95 (.int .i64) x1] []
def IR (x0:U) (x1:Int):Option Bool:=cF 95 Fw [.agg (Y.enc x0),.fptr [.int .i64 x1] 0] []
def JE (x1 x2:Int) (b0:AG):Option AG:=cF 96 GV [.ptr 0 0,.int .i64 x1,.int .i64 x2] [.agg (Af.enc b0)]
def Xp (x0:U) (x1:List (List Int)) (x2 x3:Int) (x4 x5:ByteArray):Option (U×List AB×List AK×Bool):=cF 99 B7 [.agg (Y.enc x0),.lst (.slice (.int .i64)) x1,.int .i64 x2,.int .i64 x3,.str x4,.str x5] []
def Xq (x0:U) (x1:List (List Int)) (x2:Int):Option (U×List AB×Bool):=cF 100 DG [.agg (Y.enc x0),.lst (.slice (.int .i64)) x1,.int .i64 x2] []
def SE (x0:U) (x1:List (List Int)) (x2:AB):Option (U×List AB×List AK):=cF 101 Br [.agg (Y.enc x0),.lst (.slice (.int .i64)) x1,.agg (AJ.enc x2)] []
def Dj (x0 x1:ByteArray):Option Bool:=cF 105 Cc [.str x0,.str x1] []
def VQ (x0:ByteArray):Option (List Int×Bool):=cF 106 FM [.str x0] []
def VR (x0:ByteArray):Option (Int×Int):=cF 107 O1 [.str x0] []
def Hs (x0:ByteArray):Option (Int×Bool):=cF 108 BU [.str x0] []
def GG (x0:U):Option Bool:=cF 112 GE [.agg (Y.enc x0)] []
def Ht (x1:List (List Int)) (b0:U):Option (Bool×U):=cF 113 Ct [.ptr 0 0,.lst (.slice (.int .i64)) x1] [.agg (Y.enc b0)]
def O2 (x0:List AA) (x1:ByteArray):Option AA:=cF 114 FN [.lst AH x0,.str x1] []
def CJ (x1:List Int) (b0:U):Option (List Int×U):=cF 115 CI [.ptr 0 0,.lst (.int .i64) x1] [.agg (Y.enc b0)]
def C8 (b0:List Int):Option (List Int):=cF 116 Fx [.row 0] [.new 3 (.int .i64) b0]
def Hu (b0:U):Option (List AK×U):=cF 117 EA [.ptr 0 0] [.agg (Y.enc b0)]
def An (x1:List Int) (x2:AB) (b0:U):Option (List AB×U):=cF 118 B4 [.ptr 0 0,.lst (.int .i64) x1,.agg (AJ.enc x2)] [.agg (Y.enc b0)]
def GY (b0:U):Option U:=cF 119 If [.ptr 0 0] [.agg (Y.enc b0)]
def Dk (x1:List Int) (x2:List AA) (b0:U):Option (List AB×U):=cF 120 E8 [.ptr 0 0,.lst (.int .i64) x1,.lst AH x2] [.agg (Y.enc b0)]
def Mp (x0:U) (x1:List (List Int)) (x2:AB):Option (U×List AB×List AK):=cF 121 HD [.agg (Y.enc x0),.lst (.slice (.int .i64)) x1,.agg (AJ.enc x2)] []
def GH (x0:U):Option Bool:=cF 122 GF [.agg (Y.enc x0)] []
def O3 (x0:List AA) (x1:ByteArray):Option AA:=cF 123 FO [.lst AH x0,.str x1] []
def JF (x0:List AA) (x1:AA):Option (List AA):=cF 124 BH [.lst AH x0,.agg (AH.enc x1)] []
def HL (x0:List Int) (x1:Int):Option (List Int):=cF 125 DQ [.lst (.int .i64) x0,.int .i64 x1] []
def HM (b0:U):Option (List AK×U):=cF 126 Jd [.ptr 0 0] [.agg (Y.enc b0)]
def O4 (x1:List Int) (x2:List AA) (b0:U):Option (List AB×U):=cF 127 FP [.ptr 0 0,.lst (.int .i64) x1,.lst AH x2] [.agg (Y.enc b0)]
def Xr (x0:AB):Option Bool:=cF 128 E9 [.agg (AJ.enc x0)] []
def VS (x0:U) (x1:List Int) (x2:AB):Option (U×List AB×List AK):=cF 129 Cq [.agg (Y.enc x0),.lst (.int .i64) x1,.agg (AJ.enc x2)] []
def Mq (x0:U) (x1:Int):Option U:=cF 130 Mg [.agg (Y.enc x0),.int .i64 x1] []
def Em (x0:U) (x1:AB) (x2:Int):Option (List AB):=cF 131 Kh [.agg (Y.enc x0),.agg (AJ.enc x1),.int .i64 x2] []
def Hv (x0:List Int) (x1 x2:Int):Option Bool:=cF 140 Cm [.lst (.int .i64) x0,.int .i64 x1,.int .i64 x2] []
def Fj (x0:List AA):Option Bool:=cF 141 EW [.lst AH x0] []
def DS (b0:U):Option (Bool×U):=cF 142 GW [.ptr 0 0] [.agg (Y.enc b0)]
def Cd (x1 x2 x3:Int) (b0:List Int):Option (List Int):=cF 143 Aa [.row 0,.int .i64 x1,.int .i64 x2,.int .i64 x3] [.new 3 (.int .i64) b0]
def QM (x0:Int):Option Int:=cF 144 Ki [.int .u64 x0] []
def Mr (x0:List AA) (x1:AA):Option (List AA):=cF 145 EX [.lst AH x0,.agg (AH.enc x1)] []
def Xs (x0:AB):Option Bool:=cF 146 E_ [.agg (AJ.enc x0)] []
def K9 (x1:List (List Int)) (x2:AB) (b0:U):Option (List AB×List AK×U):=cF 147 CO [.ptr 0 0,.lst (.slice (.int .i64)) x1,.agg (AJ.enc x2)] [.agg (Y.enc b0)]
def Db (x0:List Int):Option Bool:=cF 148 FQ [.lst (.int .i64) x0] []
def Dl (x0:List AA):Option Bool:=cF 149 EY [.lst AH x0] []
def OW (x0:tw):Option Bool:=cF 150 Je [.agg (MC.enc x0)] []
def Ig (x0:List Int) (x1:Int):Option (List Int):=cF 151 C4 [.lst (.int .i64) x0,.int .i64 x1] []
def Ms (x0:Int):Option Int:=cF 158 C5 [.int .u64 x0] []
def DX (x1 x2:Int) (b0:List Int):Option (List Int):=cF 162 AU [.row 0,.int .i64 x1,.int .i64 x2] [.new 3 (.int .i64) b0]
def Mt (x0 x1:Int):Option Bool:=cF 168 Mh [.int .i64 x0,.int .i64 x1] []
def BZ (x0:List AA) (x1:ByteArray) (x2:Unit):Option (Int×Bool):=cF 172 AL [.lst AH x0,.str x1,.fn 173 []] []
def Jj (x0:AA) (x1:ByteArray):Option Int:=cF 173 Jf [.agg (AH.enc x0),.str x1] []
def K_ (x1:List (List Int)) (x2:AB) (b0:U):Option (List AB×U):=cF 176 EC [.ptr 0 0,.lst (.slice (.int .i64)) x1,.agg (AJ.enc x2)] [.agg (Y.enc b0)]
def IS (x1:List Int) (x2:AB) (b0:U):Option (List AB×U):=cF 177 Bj [.ptr 0 0,.lst (.int .i64) x1,.agg (AJ.enc x2)] [.agg (Y.enc b0)]
def Mu (x0:List Int) (x1:Int):Option (List Int):=cF 178 Mi [.lst (.int .i64) x0,.int .i64 x1] []
def Jx (x1:AB) (b0:U):Option (List AB×U):=cF 179 Dq [.ptr 0 0,.agg (AJ.enc x1)] [.agg (Y.enc b0)]
def GZ (x1:Int) (x2:AB) (b0:U):Option (List AK×U):=cF 180 DR [.ptr 0 0,.int .i64 x1,.agg (AJ.enc x2)] [.agg (Y.enc b0)]
def Kl (x0:Int):Option Bool:=cF 190 Kj [.int .i64 x0] []
def SF (q0:List ByteArray) (q1:ByteArray):Option ByteArray:=(cP 17 [.lst .str q0,.str q1] []).bind (CB [.str])
def GI (q0 q1:ByteArray):Option (List ByteArray):=(cP 38 [.str q0,.str q1] []).bind (CB [(.slice .str)])
def SG (q0:Int):Option ByteArray:=(cP 40 [.int .i64 q0] []).bind (CB [.str])
def DK (q0:List AR):Option (List AR):=(cP 63 [.lst As q0] []).bind (CB [(.own 42 As)])
def Bs (q0:List Int):Option (List Int):=(cP 88 [.lst (.int .i64) q0] []).bind (CB [(.own 3 (.int .i64))])
def Bm (q0:List AB) (q1 q2:Int):Option (List AB):=(cP 97 [.new 112 AJ q0,.int .i64 q1,.int .i64 q2] []).bind (CB [(.own 112 AJ)])
def Al (q0:List AA):Option (List AA):=(cP 98 [.lst AH q0] []).bind (CB [(.own 45 AH)])
def QN (q0 q1:Int) (q2:List Int):Option (List Int):=(cP 163 [.row 0,.int .i64 q0,.int .i64 q1] [.new 3 (.int .i64) q2]).bind (CB [(.own 3 (.int .i64))])
def Lx (q0 q1:Int) (q2:List Int):Option (List Int):=(cP 164 [.row 0,.int .i64 q0,.int .i64 q1] [.new 3 (.int .i64) q2]).bind (CB [(.own 3 (.int .i64))])
def Nk (q0 q1:Int) (q2:List Int):Option (Int×Int×List Int):=(cP 165 [.row 0,.int .i64 q0,.int .i64 q1] [.new 3 (.int .i64) q2]).bind (CB [(.int .i64),(.int .i64),(.own 3 (.int .i64))])
def Mv (q0 q1:Int) (q2:List Int):Option (List Int):=(cP 166 [.row 0,.int .i64 q0,.int .i64 q1] [.new 3 (.int .i64) q2]).bind (CB [(.own 3 (.int .i64))])
def IT (q0 q1:Int) (q2:List Int):Option (Bool×List Int):=(cP 167 [.row 0,.int .i64 q0,.int .i64 q1] [.new 3 (.int .i64) q2]).bind (CB [.bool,(.own 3 (.int .i64))])
def LA (q0 q1 q2:Int) (q3:List Int):Option (Int×List Int):=(cP 169 [.row 0,.int .i64 q0,.int .i64 q1,.int .i64 q2] [.new 3 (.int .i64) q3]).bind (CB [(.int .i64),(.own 3 (.int .i64))])
def Pa (q0 q1 q2:Int) (q3:List Int):Option (Int×Bool×List Int):=(cP 170 [.row 0,.int .i64 q0,.int .i64 q1,.int .i64 q2] [.new 3 (.int .i64) q3]).bind (CB [(.int .i64),.bool,(.own 3 (.int .i64))])
def DC (q0:List AA) (q1:Int) (q2:List AA):Option (List AA):=(cP 175 [.new 45 AH q0,.int .i64 q1,.new 45 AH q2] []).bind (CB [(.own 45 AH)])
def Mw (q0 q1:ByteArray):Option Int:=(cP 174 [.str q0,.str q1] []).bind (CB [(.int .i64)])
def FD (q0:List Int) (q1:Int):Option (List Int):=(cP 194 [.new 3 (.int .i64) q0,.clo 195 (.int .i64) q1] []).bind (CB [(.own 3 (.int .i64))])
theorem qe {x0:List ByteArray} {x1:ByteArray} (h:x0≠[]) (h1:x0.length<=140737488355328) (h2:(Go.Lib.join (x0.map (·.data.toList)) x1.data.toList).length<=140737488355328):SF x0 x1=some ⟨(Go.Lib.join (x0.map (·.data.toList)) x1.data.toList).toArray⟩:=by
 unfold SF cP
 rw [GD (r:=[.str ⟨(Go.Lib.join (x0.map (·.data.toList)) x1.data.toList).toArray⟩]) rfl (AAD h h1 h2)]
 rfl
theorem nu {x0 x1:ByteArray} (h:x0.size<4294967281) (h1:x1.size=1):GI x0 x1=some (Go.Lib.splitB x1 0 (Go.Lib.countB x0 x1) x0):=by
 unfold GI cP
 rw [GD (r:=[.lst .str (Go.Lib.splitB x1 0 (Go.Lib.countB x0 x1) x0)]) rfl (yi h h1)]
 rfl
theorem qf {x0:Int} (h:-9223372036854775808<=x0) (h1:x0<=9223372036854775807):SG x0=some ⟨(Go.Lib.itoa x0).toArray⟩:=by
 unfold SG cP
 rw [GD (r:=[.str ⟨(Go.Lib.itoa x0).toArray⟩]) rfl (AAB h h1)]
 rfl
theorem LB {x0:List AR} (h:x0.length<=68719476736):DK x0=some x0:=by
 unfold DK cP
 rw [GD (r:=[.new 42 As x0]) rfl (qc (t:=42) (K:=As) (xs:=x0) h)]
 rfl
theorem Cu {x0:List Int} (h:x0.length<=68719476736):Bs x0=some x0:=by
 unfold Bs cP
 rw [GD (r:=[.new 3 (.int .i64) x0]) rfl (qc (t:=3) (K:=(.int .i64)) (xs:=x0) h)]
 rfl
theorem F_ {x0:List AB} {i j:Nat} (hi:i<=j) (hj:j<=x0.length):Bm x0 (i:Int) (j:Int)=some (x0.take i++x0.drop j):=by
 unfold Bm cP
 rw [GD (r:=[.new 112 AJ (x0.take i++x0.drop j)]) rfl (ABT (t:=112) (K:=AJ) (xs:=x0) hi hj)]
 rfl
theorem BL {x0:List AA} (h:x0.length<=68719476736):Al x0=some x0:=by
 unfold Al cP
 rw [GD (r:=[.new 45 AH x0]) rfl (qc (t:=45) (K:=AH) (xs:=x0) h)]
 rfl
theorem iA {x0 x1:ByteArray}:Mw x0 x1=some (Go.Lib.compareBytes x0.data.toList x1.data.toList):=by
 unfold Mw cP
 rw [GD (r:=[.int .i64 (Go.Lib.compareBytes x0.data.toList x1.data.toList)]) rfl rfl]
 rfl
theorem KQ {x0:List AA} {i:Nat} {x2:List AA} (h:x0.length+x2.length<=68719476736) (hi:i<=x0.length) (hv:x2.length≠0):DC x0 (i:Int) x2=some (x0.take i++x2++x0.drop i):=by
 unfold DC cP
 rw [GD (r:=[.new 45 AH (x0.take i++x2++x0.drop i)]) rfl (ABQ (t:=45) (K:=AH) (xs:=x0) (vs:=x2) (i:=i) h hi hv)]
 rfl
theorem RV {x0:List Int} {x1:Int}:FD x0 x1=some (x0.filter fun x=>!(x==x1)):=by
 unfold FD cP
 rw [GD (fns:=fns) (prims:=prims) (f:=194) (args:=[.new 3 (.int .i64) x0,.clo 195 (.int .i64) x1]) (bs:=[]) (r:=[.new 3 (.int .i64) (x0.filter fun x=>!(x==x1))]) rfl (zz (t:=3) (g:=195) (xs:=x0) (n:=x1))]
 rfl

def Nx (x0:ByteArray):Option Bool:=(if (decide ((x0.size:Int)>1048576))=true then (some true) else ((R8 x0).bind fun y1=>((R9 x0).bind fun y2=>(if (!(y2.toList==y1.toList))=true then (some false) else (some true)))))
theorem ZY:MO Nx Nw:=cT Fv rfl ⟨rfl,rfl⟩ (by kernel_rfl)
def ku:=cG TL (AE At) (AE At) kx
def kv:=kE 4 [] [9] 1 ku kx
def iB:St->Option (RT (BS.outs At)):=lG TK [] [6,9,13] 1 (AE At) kv
def kw:=cG TM (AE At) (AE At) kx
def OX:=kE 2 [] [6,9] 1 kw kx
def T9:St->Option (RT (BS.outs At)):=lG TJ [] [6,9,11] 1 (AE At) OX
def ky:=cG MP (AE At) (AE At) kx
def kz:=kE 0 [] [6,7,9] 1 ky kx
def iC:St->Option (RT (BS.outs At)):=lG Vu [] [6,7,9,10] 1 (AE At) kz
def k_:=kB [] [6,9,11] 1 T9
def WV:=cG TI k_ (AE At) OX
def WW:=kB [] [6,9,11] 1 WV
def WX:=kE 3 [] [6,9,11] 1 WV OX
def Ih (x0:ByteArray) (x1:Int) (x2:Bool) (x3:AG) (x4:AR):Option ByteArray:=cG TG WW (AE At) WX ⟨[(6,.ptr 0 0),(9,.str x0),(11,.int .i64 x1),(12,.ptr 1 0),(88,.bool x2)],[.var (Ah.enc x3),.var (As.enc x4)]⟩
def Ii (x0:ByteArray) (x1:Int) (x2:AG) (x3:AR):Option ByteArray:=cG TH WW (AE At) WX ⟨[(6,.ptr 0 0),(9,.str x0),(11,.int .i64 x1),(12,.ptr 1 0)],[.var (Ah.enc x2),.var (As.enc x3)]⟩
def Ga (x0:ByteArray) (x1:Int) (x2:AG):Option ByteArray:=iB ⟨[(6,.ptr 0 0),(9,.str x0),(13,.int .i64 x1)],[.var (Ah.enc x2)]⟩
def Dm (x0:ByteArray) (x1:Int) (x2:AG):Option ByteArray:=T9 ⟨[(6,.ptr 0 0),(9,.str x0),(11,.int .i64 x1)],[.var (Ah.enc x2)]⟩
def Ij (x0:List Int) (x1:ByteArray) (x2:AG):Option ByteArray:=cG MP (AE At) (AE At) kx ⟨[(6,.ptr 0 0),(7,.lst (.int .i64) x0),(9,.str x1)],[.var (Ah.enc x2)]⟩
def Ee (x0:List Int) (x1:ByteArray) (x2:Int) (x3:AG):Option ByteArray:=iC ⟨[(6,.ptr 0 0),(7,.lst (.int .i64) x0),(9,.str x1),(10,.int .i64 x2)],[.var (Ah.enc x3)]⟩
def Mx (x0:ByteArray) (x1:Int) (x2:Bool) (x3:AG) (x4:AR):Option ByteArray:=(if x2=true then (if x0.size+(⟨#[103,101,116,32]⟩:ByteArray).size<=1099511627776 then (if (x0++(⟨#[103,101,116,32]⟩:ByteArray)).size+x4.2.1.size<=1099511627776 then (if ((x0++(⟨#[103,101,116,32]⟩:ByteArray))++x4.2.1).size+(⟨#[32]⟩:ByteArray).size<=1099511627776 then (if (((x0++(⟨#[103,101,116,32]⟩:ByteArray))++x4.2.1)++(⟨#[32]⟩:ByteArray)).size+x4.2.2.2.2.2.2.2.2.size<=1099511627776 then (if ((((x0++(⟨#[103,101,116,32]⟩:ByteArray))++x4.2.1)++(⟨#[32]⟩:ByteArray))++x4.2.2.2.2.2.2.2.2).size+(⟨#[10]⟩:ByteArray).size<=1099511627776 then (Dm (((((x0++(⟨#[103,101,116,32]⟩:ByteArray))++x4.2.1)++(⟨#[32]⟩:ByteArray))++x4.2.2.2.2.2.2.2.2)++(⟨#[10]⟩:ByteArray)) (i64.wrap (x1+1)) x3) else none) else none) else none) else none) else none) else (Dm x0 (i64.wrap (x1+1)) x3))
def Ik (x0:ByteArray) (x1:Int) (x2:AG) (x3:AR):Option ByteArray:=(if (decide (x3.2.2.2.2.1>=0))=true then (Ih x0 x1 (x3.1==2) x2 x3) else (Ih x0 x1 false x2 x3))
def My (x0:ByteArray) (x1:Int) (x2:AG):Option ByteArray:=(if (decide (x1<(x2.2.1.length:Int)))=true then (if 0<=x1 then (if x1<(x2.2.1.length:Int) then (if (((((((x2.2.1.getD x1.toNat (0,0,false,false,false,false,([]:List Int),([]:List AA),0,0,0,0,(O,O,0),([]:List Int))).2).2).2).2).2).1)=true then (if x0.size+(⟨#[115,101,114,118,101,115,32]⟩:ByteArray).size<=1099511627776 then (if 0<=x1 then (if x1<(x2.2.1.length:Int) then ((C_ ((x2.2.1.getD x1.toNat (0,0,false,false,false,false,([]:List Int),([]:List AA),0,0,0,0,(O,O,0),([]:List Int))).1)).bind fun y6=>(if (x0++(⟨#[115,101,114,118,101,115,32]⟩:ByteArray)).size+y6.size<=1099511627776 then (if ((x0++(⟨#[115,101,114,118,101,115,32]⟩:ByteArray))++y6).size+(⟨#[10]⟩:ByteArray).size<=1099511627776 then (Ga (((x0++(⟨#[115,101,114,118,101,115,32]⟩:ByteArray))++y6)++(⟨#[10]⟩:ByteArray)) (i64.wrap (x1+1)) x2) else none) else none)) else none) else none) else none) else (Ga x0 (i64.wrap (x1+1)) x2)) else none) else none) else (some x0))
def Mz (x0:ByteArray) (x1:Int) (x2:AG):Option ByteArray:=(if (decide (x1<(x2.2.2.2.length:Int)))=true then (if 0<=x1 then (if x1<(x2.2.2.2.length:Int) then (if (decide (((((((x2.2.2.2.getD x1.toNat (0,O,O,0,0,0,0,0,O)).2).2).2).2).1)>=0))=true then (if (((x2.2.2.2.getD x1.toNat (0,O,O,0,0,0,0,0,O)).1)==1)=true then (if x0.size+(⟨#[112,117,116,32]⟩:ByteArray).size<=1099511627776 then (if (x0++(⟨#[112,117,116,32]⟩:ByteArray)).size+(((x2.2.2.2.getD x1.toNat (0,O,O,0,0,0,0,0,O)).2).1).size<=1099511627776 then (if ((x0++(⟨#[112,117,116,32]⟩:ByteArray))++(((x2.2.2.2.getD x1.toNat (0,O,O,0,0,0,0,0,O)).2).1)).size+(⟨#[10]⟩:ByteArray).size<=1099511627776 then (Ii (((x0++(⟨#[112,117,116,32]⟩:ByteArray))++(((x2.2.2.2.getD x1.toNat (0,O,O,0,0,0,0,0,O)).2).1))++(⟨#[10]⟩:ByteArray)) x1 x2 (x2.2.2.2.getD x1.toNat (0,O,O,0,0,0,0,0,O))) else none) else none) else none) else (Ii x0 x1 x2 (x2.2.2.2.getD x1.toNat (0,O,O,0,0,0,0,0,O)))) else (Ii x0 x1 x2 (x2.2.2.2.getD x1.toNat (0,O,O,0,0,0,0,0,O)))) else none) else none) else (Ga x0 0 x2))
def T_ (x0:List Int) (x1:ByteArray) (x2:AG):Option ByteArray:=(if (decide ((x0.length:Int)>0))=true then (if x1.size+(⟨#[10]⟩:ByteArray).size<=1099511627776 then (Dm (x1++(⟨#[10]⟩:ByteArray)) 0 x2) else none) else (Dm x1 0 x2))
def Gb (x0:List Int) (x1:ByteArray) (x2:Int) (x3:AG):Option ByteArray:=(if (decide (x2<(x0.length:Int)))=true then (if (decide (x2>0))=true then (if x1.size+(⟨#[32]⟩:ByteArray).size<=1099511627776 then (if 0<=x2 then (if x2<(x0.length:Int) then ((C_ (x0.getD x2.toNat 0)).bind fun y4=>(if (x1++(⟨#[32]⟩:ByteArray)).size+y4.size<=1099511627776 then (Ee x0 ((x1++(⟨#[32]⟩:ByteArray))++y4) (i64.wrap (x2+1)) x3) else none)) else none) else none) else none) else (if 0<=x2 then (if x2<(x0.length:Int) then ((C_ (x0.getD x2.toNat 0)).bind fun y5=>(if x1.size+y5.size<=1099511627776 then (Ee x0 (x1++y5) (i64.wrap (x2+1)) x3) else none)) else none) else none)) else (Ij x0 x1 x3))
def af (x0:ByteArray):Option ByteArray:=((Mk x0).bind fun y1=>(if (y1.2.2 != 0)=true then ((C_ y1.2.2).bind fun y2=>(if (⟨#[102,97,117,108,116,32]⟩:ByteArray).size+y2.size<=1099511627776 then (if ((⟨#[102,97,117,108,116,32]⟩:ByteArray)++y2).size+(⟨#[10]⟩:ByteArray).size<=1099511627776 then (some (((⟨#[102,97,117,108,116,32]⟩:ByteArray)++y2)++(⟨#[10]⟩:ByteArray))) else none) else none)) else ((QF y1.1 y1.2.1).bind fun y3=>(Ee y3.2.1 (⟨#[]⟩:ByteArray) 0 y3.1))))
theorem UA:rq Mx Ih:=jS (by kernel_rfl)
theorem M0:eP Ik Ii:=jS (by kernel_rfl)
theorem UB:Nm My Ga:=lS (by kernel_rfl)
theorem UC:Nm Mz Dm:=lS (by kernel_rfl)
theorem iD:Nm T_ Ij:=jS (by kernel_rfl)
theorem Il:eP Gb Ee:=lS (by kernel_rfl)
theorem qg:MO af R8:=cT At rfl ⟨rfl,rfl⟩ (by kernel_rfl)
def lA:=cG TP (AE Ao) (AE Ao) kx
def lB:=kE 4 [] [12] 4 lA kx
def iE:St->Option (RT (BS.outs Ao)):=lG TO [] [12,69,70,71] 4 (AE Ao) lB
def lC:=cG MQ (AE Ao) (AE Ao) kx
def lD:=kE 2 [] [6,12] 4 lC kx
def iF:St->Option (RT (BS.outs Ao)):=lG TN [] [6,12,56,57,58] 4 (AE Ao) lD
def lE:=cG MR (AE Ao) (AE Ao) kx
def lF:=kE 0 [(9,1)] [6,9] 2 lE kx
def iG:St->Option (RT (BS.outs Ao)):=lG Vv [(9,1)] [6,9,36,37,38] 2 (AE Ao) lF
def Gc (x0:List U) (x1 x2:Int) (x3:AG) (x4:List ByteArray) (x5:List Int):Option ByteArray:=iE ⟨[(12,.ptr 3 0),(69,.lst Y x0),(70,.int .i64 x1),(71,.int .i64 x2)],[.var (Ah.enc x3),.rows 9 .str x4,.rows 5 (.int .u8) x5,.var [.self 53,.row 2]]⟩
def UD (x0:AG) (x1:List ByteArray) (x2:List Int):Option ByteArray:=cG MQ (AE Ao) (AE Ao) kx ⟨[(6,.ptr 0 0),(12,.ptr 3 0)],[.var (Ah.enc x0),.rows 9 .str x1,.rows 5 (.int .u8) x2,.var [.self 53,.row 2]]⟩
def Gd (x0:List AR) (x1 x2:Int) (x3:AG) (x4:List ByteArray) (x5:List Int):Option ByteArray:=iF ⟨[(6,.ptr 0 0),(12,.ptr 3 0),(56,.lst As x0),(57,.int .i64 x1),(58,.int .i64 x2)],[.var (Ah.enc x3),.rows 9 .str x4,.rows 5 (.int .u8) x5,.var [.self 53,.row 2]]⟩
def Im (x0:AG) (x1:List ByteArray) (x2:List Int):Option ByteArray:=cG TQ (AE Ao) (AE Ao) kx ⟨[(6,.ptr 0 0),(12,.ptr 3 0)],[.var (Ah.enc x0),.rows 9 .str x1,.rows 5 (.int .u8) x2,.var [.self 53,.row 2]]⟩
def UE (x0:AG) (x1:List ByteArray):Option ByteArray:=cG MR (AE Ao) (AE Ao) kx ⟨[(6,.ptr 0 0),(9,.row 1)],[.var (Ah.enc x0),.rows 9 .str x1]⟩
def In (x0:List Int) (x1 x2:Int) (x3:AG) (x4:List ByteArray):Option ByteArray:=iG ⟨[(6,.ptr 0 0),(9,.row 1),(36,.lst (.int .i64) x0),(37,.int .i64 x1),(38,.int .i64 x2)],[.var (Ah.enc x3),.rows 9 .str x4]⟩
def M1 (x0:List U) (x1 x2:Int) (x3:AG) (x4:List ByteArray) (x5:List Int):Option ByteArray:=(if (decide (x2<x1))=true then (if 0<=x2 then (if x2<(x0.length:Int) then (if (((((((x0.getD x2.toNat (0,0,false,false,false,false,([]:List Int),([]:List AA),0,0,0,0,(O,O,0),([]:List Int))).2).2).2).2).2).1)=true then ((HJ ((x0.getD x2.toNat (0,0,false,false,false,false,([]:List Int),([]:List AA),0,0,0,0,(O,O,0),([]:List Int))).1)).bind fun y8=>(if (⟨#[115,101,114,118,101,115,32]⟩:ByteArray).size+y8.size<=1099511627776 then (if ((⟨#[115,101,114,118,101,115,32]⟩:ByteArray)++y8).size+(⟨#[10]⟩:ByteArray).size<=1099511627776 then (B_strings_Builder_WriteString.bind fun _=>(if x5.length+(Cg (((⟨#[115,101,114,118,101,115,32]⟩:ByteArray)++y8)++(⟨#[10]⟩:ByteArray))).length<=68719476736 then (Gc x0 x1 (i64.wrap (x2+1)) x3 x4 (x5++(Cg (((⟨#[115,101,114,118,101,115,32]⟩:ByteArray)++y8)++(⟨#[10]⟩:ByteArray))))) else none)) else none) else none)) else (Gc x0 x1 (i64.wrap (x2+1)) x3 x4 x5)) else none) else none) else (B_strings_Builder_String.bind fun _=>(if mq x5=true then (some (Ed x5)) else none)))
def UF (x0:AG) (x1:List ByteArray) (x2:List Int):Option ByteArray:=(Gc x0.2.1 (x0.2.1.length:Int) 0 x0 x1 x2)
def M2 (x0:List AR) (x1 x2:Int) (x3:AG) (x4:List ByteArray) (x5:List Int):Option ByteArray:=(if (decide (x2<x1))=true then (if 0<=x2 then (if x2<(x0.length:Int) then ((VN (x0.getD x2.toNat (0,O,O,0,0,0,0,0,O))).bind fun y6=>(if y6=true then ((QG (x0.getD x2.toNat (0,O,O,0,0,0,0,0,O))).bind fun y7=>(B_strings_Builder_WriteString.bind fun _=>(if x5.length+(Cg y7).length<=68719476736 then (Gd x0 x1 (i64.wrap (x2+1)) x3 x4 (x5++(Cg y7))) else none))) else (Gd x0 x1 (i64.wrap (x2+1)) x3 x4 x5))) else none) else none) else (UD x3 x4 x5))
def UG (x0:AG) (x1:List ByteArray) (x2:List Int):Option ByteArray:=(Gd x0.2.2.2 (x0.2.2.2.length:Int) 0 x0 x1 x2)
def UH (x0:AG) (x1:List ByteArray):Option ByteArray:=(if (decide ((x1.length:Int)>0))=true then ((SF x1 (⟨#[32]⟩:ByteArray)).bind fun y5=>(if y5.size+(⟨#[10]⟩:ByteArray).size<=1099511627776 then (B_strings_Builder_WriteString.bind fun _=>(if ([]:List Int).length+(Cg (y5++(⟨#[10]⟩:ByteArray))).length<=68719476736 then (Im x0 x1 (([]:List Int)++(Cg (y5++(⟨#[10]⟩:ByteArray))))) else none)) else none)) else (Im x0 x1 ([]:List Int)))
def M3 (x0:List Int) (x1 x2:Int) (x3:AG) (x4:List ByteArray):Option ByteArray:=(if (decide (x2<x1))=true then (if 0<=x2 then (if x2<(x0.length:Int) then ((HJ (x0.getD x2.toNat 0)).bind fun y4=>(if x4.length+([y4]:List ByteArray).length<=68719476736 then (In x0 x1 (i64.wrap (x2+1)) x3 (x4++([y4]:List ByteArray))) else none)) else none) else none) else (UE x3 x4))
def ag (x0:ByteArray):Option ByteArray:=((Ml x0).bind fun y1=>(if (y1.2.2 != 0)=true then ((HJ y1.2.2).bind fun y2=>(if (⟨#[102,97,117,108,116,32]⟩:ByteArray).size+y2.size<=1099511627776 then (if ((⟨#[102,97,117,108,116,32]⟩:ByteArray)++y2).size+(⟨#[10]⟩:ByteArray).size<=1099511627776 then (some (((⟨#[102,97,117,108,116,32]⟩:ByteArray)++y2)++(⟨#[10]⟩:ByteArray))) else none) else none)) else ((QE y1.1 y1.2.1).bind fun y3=>(In y3.2.1 (y3.2.1.length:Int) 0 y3.1 ([]:List ByteArray)))))
theorem UI:wg M1 Gc:=lS (by kernel_rfl)
theorem iH:Nm UF UD:=jS (by kernel_rfl)
theorem UJ:wg M2 Gd:=lS (by kernel_rfl)
theorem iI:Nm UG Im:=jS (by kernel_rfl)
theorem iJ:Rb UH UE:=jS (by kernel_rfl)
theorem UK:rq M3 In:=lS (by kernel_rfl)
theorem qh:MO ag R9:=cT Ao rfl ⟨rfl,rfl⟩ (by kernel_rfl)
def cw:=cG JB (AE Ar) (AE Ar) kx
def Jy:=kE 0 [(7,0),(8,1)] [5,7,8] 2 cw kx
def Pb:St->Option (RT (BS.outs Ar)):=lG PI [(7,0),(8,1)] [5,6,7,8,9] 2 (AE Ar) Jy
def cz:=kB [(7,0),(8,1)] [5,6,7,8,9] 2 Pb
def Qt:=cG PH cz (AE Ar) Jy
def Jz:=kB [(7,0),(8,1)] [5,6,7,8,9] 2 Qt
def G2:=kE 1 [(7,0),(8,1)] [5,6,7,8,9] 2 Qt Jy
def c_:=cG JA Jz (AE Ar) G2
def JG (x0:List AF) (x1:List ByteArray) (x2:Int) (x3:List ByteArray) (x4:Bool) (x5:List (List Int)) (x6:List AF):Option (List (List Int)×List AF×Int):=cG JA Jz (AE Ar) G2 ⟨[(5,.lst AM x0),(6,.lst .str x1),(7,.row 0),(8,.row 1),(9,.int .i64 x2),(10,.lst .str x3),(73,.bool x4)],[.rows 37 (.slice (.int .i64)) x5,.rows 72 AM x6]⟩
def JH (x0:List AF) (x1:List ByteArray) (x2:Int) (x3:List ByteArray) (x4:Bool) (x5:List (List Int)) (x6:List AF):Option (List (List Int)×List AF×Int):=cG Qe c_ (AE Ar) G2 ⟨[(5,.lst AM x0),(6,.lst .str x1),(7,.row 0),(8,.row 1),(9,.int .i64 x2),(10,.lst .str x3),(73,.bool x4)],[.rows 37 (.slice (.int .i64)) x5,.rows 72 AM x6]⟩
def JI (x0:List AF) (x1:List ByteArray) (x2:Int) (x3:List ByteArray) (x4 x5:Bool) (x6:List (List Int)) (x7:List AF):Option (List (List Int)×List AF×Int):=cG PG Jz (AE Ar) G2 ⟨[(5,.lst AM x0),(6,.lst .str x1),(7,.row 0),(8,.row 1),(9,.int .i64 x2),(10,.lst .str x3),(11,.bool x4),(58,.bool x5)],[.rows 37 (.slice (.int .i64)) x6,.rows 72 AM x7]⟩
def Pc (x0:List AF) (x1:List (List Int)) (x2:List AF):Option (List (List Int)×List AF×Int):=cG JB (AE Ar) (AE Ar) kx ⟨[(5,.lst AM x0),(7,.row 0),(8,.row 1)],[.rows 37 (.slice (.int .i64)) x1,.rows 72 AM x2]⟩
def Bt (x0:List AF) (x1:List ByteArray) (x2:Int) (x3:List (List Int)) (x4:List AF):Option (List (List Int)×List AF×Int):=Pb ⟨[(5,.lst AM x0),(6,.lst .str x1),(7,.row 0),(8,.row 1),(9,.int .i64 x2)],[.rows 37 (.slice (.int .i64)) x3,.rows 72 AM x4]⟩
def Pd (x0:ByteArray) (x1:List AF) (x2:Bool):Option (List (List Int)×List AF×Int):=cG PJ (AE Ar) (AE Ar) kx ⟨[(0,.str x0),(5,.lst AM x1),(25,.bool x2)],[]⟩
def Pe (x0:List AF) (x1:List ByteArray) (x2:Int) (x3:List ByteArray) (x4:Bool) (x5:List (List Int)) (x6:List AF):Option (List (List Int)×List AF×Int):=((QH x3).bind fun y6=>(if (!y6.2)=false then ((Mm y6.1).bind fun y7=>(if (!y7)=false then (if ((x5.length:Int)==0)=false then (if ((x6.length:Int)==70)=true then (some (([]:List (List Int)),x0,(i64.wrap (x2+1)))) else (if x6.length+([y6.1]:List AF).length<=68719476736 then (Bt x0 x1 (i64.wrap (x2+1)) x5 (x6++([y6.1]:List AF))) else none)) else (some (([]:List (List Int)),x0,(i64.wrap (x2+1))))) else (some (([]:List (List Int)),x0,(i64.wrap (x2+1)))))) else (some (([]:List (List Int)),x0,(i64.wrap (x2+1))))))
def JJ (x0:List AF) (x1:List ByteArray) (x2:Int) (x3:List ByteArray) (x4:Bool) (x5:List (List Int)) (x6:List AF):Option (List (List Int)×List AF×Int):=(if x4=true then (if 0<=(1:Int) then (if 1<(x3.length:Int) then ((OS (x3.getD (1:Int).toNat O)).bind fun y4=>(if x5.length+([y4.1]:List (List Int)).length<=68719476736 then (if (!y4.2)=false then (if (decide ((x6.length:Int)>0))=false then ((DA (x5++([y4.1]:List (List Int)))).bind fun y5=>(if (!y5)=true then (some (([]:List (List Int)),x0,(i64.wrap (x2+1)))) else (Bt x0 x1 (i64.wrap (x2+1)) (x5++([y4.1]:List (List Int))) x6))) else (some (([]:List (List Int)),x0,(i64.wrap (x2+1))))) else (some (([]:List (List Int)),x0,(i64.wrap (x2+1))))) else none)) else none) else none) else (JG x0 x1 x2 x3 x4 x5 x6))
def JK (x0:List AF) (x1:List ByteArray) (x2:Int) (x3:List ByteArray) (x4 x5:Bool) (x6:List (List Int)) (x7:List AF):Option (List (List Int)×List AF×Int):=(if (!x4)=true then (some (([]:List (List Int)),x0,(i64.wrap (x2+1)))) else (if 0<=(0:Int) then (if 0<(x3.length:Int) then (if ((x3.getD (0:Int).toNat O).toList==(⟨#[118,105,101,119]⟩:ByteArray).toList)=true then (JH x0 x1 x2 x3 ((x3.length:Int)==2) x6 x7) else (JH x0 x1 x2 x3 false x6 x7)) else none) else none))
def Pf (x0:List AF) (x1:List (List Int)) (x2:List AF):Option (List (List Int)×List AF×Int):=(if ((x1.length:Int)==0)=true then (some (([]:List (List Int)),x0,1)) else (some (x1,x2,0)))
def JL (x0:List AF) (x1:List ByteArray) (x2:Int) (x3:List (List Int)) (x4:List AF):Option (List (List Int)×List AF×Int):=(if (decide (x2<(x1.length:Int)))=true then (if 0<=x2 then (if x2<(x1.length:Int) then ((R_ (x1.getD x2.toNat O)).bind fun y3=>(if y3.2=true then (if ((y3.1.length:Int)==0)=false then (if 0<=(0:Int) then (if 0<(y3.1.length:Int) then (if 0<=(0:Int) then (if 0<((y3.1.getD (0:Int).toNat O).size:Int) then (if ((((y3.1.getD (0:Int).toNat O).data.toList.getD (0:Int).toNat 0).toNat:Int)==35)=true then (Bt x0 x1 (i64.wrap (x2+1)) x3 x4) else (JI x0 x1 x2 y3.1 y3.2 ((((y3.1.getD (0:Int).toNat O).data.toList.getD (0:Int).toNat 0).toNat:Int)==35) x3 x4)) else none) else none) else none) else none) else (Bt x0 x1 (i64.wrap (x2+1)) x3 x4)) else (JI x0 x1 x2 y3.1 y3.2 false x3 x4))) else none) else none) else (Pc x0 x3 x4))
def Pg (x0:ByteArray) (x1:List AF) (x2:Bool):Option (List (List Int)×List AF×Int):=((Kk x0).bind fun y2=>(Bt x1 y2 0 ([]:List (List Int)) ([]:List AF)))
def UL (x0:ByteArray):Option (List (List Int)×List AF×Int):=(if (decide ((x0.size:Int)>4000))=false then ((Kk x0).bind fun y1=>(if (decide ((y1.length:Int)>100))=true then (some (([]:List (List Int)),([]:List AF),(-1:Int))) else (Pd x0 ([]:List AF) (decide ((y1.length:Int)>100))))) else (some (([]:List (List Int)),([]:List AF),(-1:Int))))
theorem ah:zu Pe JG:=jS (by kernel_rfl)
theorem Ph:zu JJ JH:=jS (by kernel_rfl)
theorem Pi:xY JK JI:=jS (by kernel_rfl)
theorem ak:Nm Pf Pc:=jS (by kernel_rfl)
theorem Pj:rq JL Bt:=lS (by kernel_rfl)
theorem am:Nm Pg Pd:=jS (by kernel_rfl)
theorem iK:MO UL Mk:=cT Ar rfl ⟨rfl,rfl⟩ (by kernel_rfl)
def lH:=cG TR (AE Df) (AE Df) kx
def WY:=kE 0 [] [3,4] 0 lH kx
def UM:St->Option (RT (BS.outs Df)):=lG Vx [] [0,3,4] 0 (AE Df) WY
def WZ:=kB [] [0,3,4] 0 UM
def lI:=kB [] [0,3,4] 0 WZ
def lJ:=kE 1 [] [0,3,4] 0 WZ WY
def M4 (x0:Int) (x1:Bool) (x2:ByteArray) (x3:Int):Option ByteArray:=cG Vw lI (AE Df) lJ ⟨[(0,.int .i64 x0),(3,.bool x1),(4,.str x2),(5,.int .i64 x3)],[]⟩
def Io (x0:Int) (x1:Bool) (x2:ByteArray):Option ByteArray:=UM ⟨[(0,.int .i64 x0),(3,.bool x1),(4,.str x2)],[]⟩
def M5 (x0:Int) (x1:Bool) (x2:ByteArray) (x3:Int):Option ByteArray:=((OT x3).bind fun y1=>(if (Ed ([y1]:List Int)).size+x2.size<=1099511627776 then (if 10=0 then none else (Io (i64.wrap (Int.tdiv x0 10)) x1 ((Ed ([y1]:List Int))++x2))) else none))
def Ef (x0:Int) (x1:Bool) (x2:ByteArray):Option ByteArray:=(if (x0 != 0)=true then (if 10=0 then none else (if (decide ((Int.tmod x0 10)<0))=true then (M4 x0 x1 x2 (i64.wrap (0-(Int.tmod x0 10)))) else (M4 x0 x1 x2 (Int.tmod x0 10)))) else (if x1=true then (if (⟨#[45]⟩:ByteArray).size+x2.size<=1099511627776 then (some ((⟨#[45]⟩:ByteArray)++x2)) else none) else (some x2)))
def SH (x0:Int):Option ByteArray:=(if (x0==0)=true then (some (⟨#[48]⟩:ByteArray)) else (Io x0 (decide (x0<0)) (⟨#[]⟩:ByteArray)))
theorem UN:eP M5 M4:=jS (by kernel_rfl)
theorem Ge:Nm Ef Io:=lS (by kernel_rfl)
theorem an:MO SH C_:=cT Df rfl ⟨rfl,rfl⟩ (by kernel_rfl)
def iL:=cG Ro (AE BM) (AE BM) kx
def iM:=kE 2 [(11,11)] [4,7,11] 12 iL kx
def en:St->Option (RT (BS.outs BM)):=lG Rn [(11,11)] [4,7,11,39,40,41] 12 (AE BM) iM
def iN:=cG Ky (AE BM) (AE BM) kx
def iO:=kE 0 [] [1,4,7] 11 iN kx
def eo:St->Option (RT (BS.outs BM)):=lG TS [] [1,4,7,28,29,30] 11 (AE BM) iO
def Fk (x0:List AF) (x1 x2:Int) (x3:List U) (x4:List AB) (x5:List AR) (x6:List (List Int)) (x7:List U) (x8:List AB) (x9:List AR) (x10:List (List Int)) (x11:List Int):Option (AG×List Int×Bool):=en ⟨[(4,.ptr 3 0),(7,.ptr 10 0),(11,.row 11),(39,.lst AM x0),(40,.int .i64 x1),(41,.int .i64 x2)],[.rows 49 Y x3,.rows 112 AJ x4,.rows 42 As x5,.var [.lst (.slice (.int .i64)) x6,.row 0,.row 1,.row 2],.dead,.dead,.dead,.rows 49 Y x7,.rows 112 AJ x8,.rows 42 As x9,.var [.lst (.slice (.int .i64)) x10,.row 7,.row 8,.row 9],.rows 3 (.int .i64) x11]⟩
def SI (x0:List AF) (x1:List U) (x2:List AB) (x3:List AR) (x4:List (List Int)) (x5:List U) (x6:List AB) (x7:List AR) (x8:List (List Int)):Option (AG×List Int×Bool):=cG Ky (AE BM) (AE BM) kx ⟨[(1,.lst AM x0),(4,.ptr 3 0),(7,.ptr 10 0)],[.rows 49 Y x1,.rows 112 AJ x2,.rows 42 As x3,.var [.lst (.slice (.int .i64)) x4,.row 0,.row 1,.row 2],.dead,.dead,.dead,.rows 49 Y x5,.rows 112 AJ x6,.rows 42 As x7,.var [.lst (.slice (.int .i64)) x8,.row 7,.row 8,.row 9]]⟩
def Fl (x0 x1:List AF) (x2 x3:Int) (x4:List U) (x5:List AB) (x6:List AR) (x7:List (List Int)) (x8:List U) (x9:List AB) (x10:List AR) (x11:List (List Int)):Option (AG×List Int×Bool):=eo ⟨[(1,.lst AM x0),(4,.ptr 3 0),(7,.ptr 10 0),(28,.lst AM x1),(29,.int .i64 x2),(30,.int .i64 x3)],[.rows 49 Y x4,.rows 112 AJ x5,.rows 42 As x6,.var [.lst (.slice (.int .i64)) x7,.row 0,.row 1,.row 2],.dead,.dead,.dead,.rows 49 Y x8,.rows 112 AJ x9,.rows 42 As x10,.var [.lst (.slice (.int .i64)) x11,.row 7,.row 8,.row 9]]⟩
def SJ (x0:List AF) (x1:Bool) (x2:List U) (x3:List AB) (x4:List AR) (x5:List (List Int)) (x6:List U) (x7:List AB) (x8:List AR) (x9:List (List Int)):Option (AG×List Int×Bool):=cG Rp (AE BM) (AE BM) kx ⟨[(1,.lst AM x0),(4,.ptr 3 0),(7,.ptr 10 0),(26,.bool x1)],[.rows 49 Y x2,.rows 112 AJ x3,.rows 42 As x4,.var [.lst (.slice (.int .i64)) x5,.row 0,.row 1,.row 2],.dead,.dead,.dead,.rows 49 Y x6,.rows 112 AJ x7,.rows 42 As x8,.var [.lst (.slice (.int .i64)) x9,.row 7,.row 8,.row 9]]⟩
def LC (x0:List AF) (x1 x2:Int) (x3:List U) (x4:List AB) (x5:List AR) (x6:List (List Int)) (x7:List U) (x8:List AB) (x9:List AR) (x10:List (List Int)) (x11:List Int):Option (AG×List Int×Bool):=(if (decide (x2<x1))=true then (if 0<=x2 then (if x2<(x0.length:Int) then ((Hr (x0.getD x2.toNat (0,0,0,0,O,O)) x2 (x10,x7,x8,x9)).bind fun y3=>((VO y3.1).bind fun y4=>(if x11.length+([y4]:List Int).length<=68719476736 then (Fk x0 x1 (i64.wrap (x2+1)) x3 x4 x5 x6 y3.2.2.1 y3.2.2.2.1 y3.2.2.2.2 y3.2.1 (x11++([y4]:List Int))) else none))) else none) else none) else ((Jh (x10,x7,x8,x9)).bind fun y5=>(some (y5,x11,true))))
def SK (x0:List AF) (x1:List U) (x2:List AB) (x3:List AR) (x4:List (List Int)) (x5:List U) (x6:List AB) (x7:List AR) (x8:List (List Int)):Option (AG×List Int×Bool):=(Fk x0 (x0.length:Int) 0 x1 x2 x3 x4 x5 x6 x7 x8 ([]:List Int))
def LD (x0 x1:List AF) (x2 x3:Int) (x4:List U) (x5:List AB) (x6:List AR) (x7:List (List Int)) (x8:List U) (x9:List AB) (x10:List AR) (x11:List (List Int)):Option (AG×List Int×Bool):=(if (decide (x3<x2))=true then (if 0<=x3 then (if x3<(x1.length:Int) then ((Mn (x1.getD x3.toNat (0,0,0,0,O,O))).bind fun y2=>(if (!y2)=true then (some (([],([]:List U),([]:List AB),([]:List AR)),[],false)) else (Fl x0 x1 x2 (i64.wrap (x3+1)) x4 x5 x6 x7 x8 x9 x10 x11))) else none) else none) else (SI x0 x4 x5 x6 x7 x8 x9 x10 x11))
def SL (x0:List AF) (x1:Bool) (x2:List U) (x3:List AB) (x4:List AR) (x5:List (List Int)) (x6:List U) (x7:List AB) (x8:List AR) (x9:List (List Int)):Option (AG×List Int×Bool):=(Fl x0 x0 (x0.length:Int) 0 x2 x3 x4 x5 x6 x7 x8 x9)
def Yo (x0:List (List Int)) (x1:List AF):Option (AG×List Int×Bool):=((QI x0).bind fun y1=>(if (!y1.2)=false then (if (decide ((x1.length:Int)>70))=true then (some (([],([]:List U),([]:List AB),([]:List AR)),[],false)) else (SJ x1 (decide ((x1.length:Int)>70)) ([]:List U) ([]:List AB) ([]:List AR) ([]:List (List Int)) y1.1.2.1 y1.1.2.2.1 y1.1.2.2.2 y1.1.1)) else (some (([],([]:List U),([]:List AB),([]:List AR)),[],false))))
theorem SM:ACT LC Fk:=lS (by kernel_rfl)
theorem ew:Le9 SK SI:=jS (by kernel_rfl)
theorem SN:ACT LD Fl:=lS (by kernel_rfl)
theorem e_:yc SL SJ:=jS (by kernel_rfl)
theorem nw:Rb Yo QE:=cT BM rfl ⟨rfl,rfl⟩ (by kernel_rfl)
def iP:=cG Rq (AE BT) (AE BT) kx
def iQ:=kE 2 [(10,2)] [4,7,10] 3 iP kx
def fA:St->Option (RT (BS.outs BT)):=lG TW [(10,2)] [1,4,7,10,11] 3 (AE BT) iQ
def iR:=cG Kz (AE BT) (AE BT) kx
def UO:=kE 0 [] [1,4,7,8] 2 iR kx
def SO:St->Option (RT (BS.outs BT)):=lG TV [] [1,4,7,8,9] 2 (AE BT) UO
def iS:=kB [] [1,4,7,8,9] 2 SO
def SP (x0:List AF) (x1:Bool) (x2:Int) (x3:Bool) (x4 x5:AG):Option (AG×List Int×Bool):=cG TU iS (AE BT) UO ⟨[(1,.lst AM x0),(4,.ptr 0 0),(7,.ptr 1 0),(8,.bool x1),(9,.int .i64 x2),(23,.bool x3)],[.var (Ah.enc x4),.var (Ah.enc x5)]⟩
def Fm (x0:List AF) (x1:Int) (x2 x3:AG) (x4:List Int):Option (AG×List Int×Bool):=fA ⟨[(1,.lst AM x0),(4,.ptr 0 0),(7,.ptr 1 0),(10,.row 2),(11,.int .i64 x1)],[.var (Ah.enc x2),.var (Ah.enc x3),.rows 3 (.int .i64) x4]⟩
def Hw (x0:List AF) (x1:Bool) (x2 x3:AG):Option (AG×List Int×Bool):=cG Kz (AE BT) (AE BT) kx ⟨[(1,.lst AM x0),(4,.ptr 0 0),(7,.ptr 1 0),(8,.bool x1)],[.var (Ah.enc x2),.var (Ah.enc x3)]⟩
def EE (x0:List AF) (x1:Bool) (x2:Int) (x3 x4:AG):Option (AG×List Int×Bool):=SO ⟨[(1,.lst AM x0),(4,.ptr 0 0),(7,.ptr 1 0),(8,.bool x1),(9,.int .i64 x2)],[.var (Ah.enc x3),.var (Ah.enc x4)]⟩
def SQ (x0:List AF) (x1:Bool) (x2:Int) (x3:Bool) (x4 x5:AG):Option (AG×List Int×Bool):=(if (decide ((x0.length:Int)<=70))=true then (if 0<=x2 then (if x2<(x0.length:Int) then ((Mm (x0.getD x2.toNat (0,0,0,0,O,O))).bind fun y2=>(EE x0 y2 (i64.wrap (x2+1)) x4 x5)) else none) else none) else (EE x0 false (i64.wrap (x2+1)) x4 x5))
def LE (x0:List AF) (x1:Int) (x2 x3:AG) (x4:List Int):Option (AG×List Int×Bool):=(if (decide (x1<(x0.length:Int)))=true then (if 0<=x1 then (if x1<(x0.length:Int) then ((Xo x1 (x0.getD x1.toNat (0,0,0,0,O,O)) x3).bind fun y3=>(if x4.length+([y3.1]:List Int).length<=68719476736 then (Fm x0 (i64.wrap (x1+1)) x2 y3.2 (x4++([y3.1]:List Int))) else none)) else none) else none) else ((SA x3).bind fun y4=>(some (y4,x4,true))))
def SS (x0:List AF) (x1:Bool) (x2 x3:AG):Option (AG×List Int×Bool):=(if (!x1)=true then (some ((([]:List (List Int)),([]:List U),([]:List AB),([]:List AR)),([]:List Int),false)) else (Fm x0 0 x2 x3 ([]:List Int)))
def LF (x0:List AF) (x1:Bool) (x2:Int) (x3 x4:AG):Option (AG×List Int×Bool):=(if (decide (x2<(x0.length:Int)))=true then (if x1=true then (SP x0 x1 x2 x1 x3 x4) else (Hw x0 x1 x3 x4)) else (Hw x0 x1 x3 x4))
def Yp (x0:List (List Int)) (x1:List AF):Option (AG×List Int×Bool):=((QJ x0).bind fun y1=>(EE x1 y1.2 0 (([]:List (List Int)),([]:List U),([]:List AB),([]:List AR)) y1.1))
theorem fB:wg SQ SP:=jS (by kernel_rfl)
theorem ST:rq LE Fm:=lS (by kernel_rfl)
theorem fC:eP SS Hw:=jS (by kernel_rfl)
theorem SU:rq LF EE:=lS (by kernel_rfl)
theorem nx:Rb Yp QF:=cT BT rfl ⟨rfl,rfl⟩ (by kernel_rfl)
def dA:=cG JC (AE BJ) (AE BJ) kx
def dB:=kE 0 [] [6] 3 dA kx
def aq:St->Option (RT (BS.outs BJ)):=lG Qf [] [6,31,32,33] 3 (AE BJ) dB
def Pk (x0:List (List Int)) (x1:List AF):Option (List (List Int)×List AF×Int):=cG JC (AE BJ) (AE BJ) kx ⟨[(6,.ptr 2 0)],[.rows 37 (.slice (.int .i64)) x0,.rows 72 AM x1,.var [.row 0,.row 1]]⟩
def Gf (x0:List ByteArray) (x1 x2:Int) (x3:List (List Int)) (x4:List AF):Option (List (List Int)×List AF×Int):=aq ⟨[(6,.ptr 2 0),(31,.lst .str x0),(32,.int .i64 x1),(33,.int .i64 x2)],[.rows 37 (.slice (.int .i64)) x3,.rows 72 AM x4,.var [.row 0,.row 1]]⟩
def Pl (x0:List ByteArray) (x1:Bool):Option (List (List Int)×List AF×Int):=cG PL (AE BJ) (AE BJ) kx ⟨[(5,.lst .str x0),(30,.bool x1)],[]⟩
def Gg (x0:ByteArray) (x1:List ByteArray):Option (List (List Int)×List AF×Int):=cG PM (AE BJ) (AE BJ) kx ⟨[(0,.str x0),(5,.lst .str x1)],[]⟩
def Pm (x0:List (List Int)) (x1:List AF):Option (List (List Int)×List AF×Int):=(if ((x0.length:Int)==0)=true then (some ([],[],1)) else (some (x0,x1,0)))
def JM (x0:List ByteArray) (x1 x2:Int) (x3:List (List Int)) (x4:List AF):Option (List (List Int)×List AF×Int):=(if (decide (x2<x1))=true then (if 0<=x2 then (if x2<(x0.length:Int) then ((K4 (x0.getD x2.toNat O) (x3,x4)).bind fun y2=>(if (!y2.1)=true then (some ([],[],(i64.wrap (x2+1)))) else (Gf x0 x1 (i64.wrap (x2+1)) y2.2.1 y2.2.2))) else none) else none) else (Pk x3 x4))
def Pn (x0:List ByteArray) (x1:Bool):Option (List (List Int)×List AF×Int):=(Gf x0 (x0.length:Int) 0 ([]:List (List Int)) ([]:List AF))
def Po (x0:ByteArray) (x1:List ByteArray):Option (List (List Int)×List AF×Int):=(if (decide ((x0.size:Int)>4000))=false then (if (decide ((x1.length:Int)>100))=true then (some ([],[],(-1:Int))) else (Pl x1 (decide ((x1.length:Int)>100)))) else (some ([],[],(-1:Int))))
def UP (x0:ByteArray):Option (List (List Int)×List AF×Int):=((GI x0 (⟨#[10]⟩:ByteArray)).bind fun y1=>(if 0<=(i64.wrap ((y1.length:Int)-1)) then (if (i64.wrap ((y1.length:Int)-1))<(y1.length:Int) then (if ((y1.getD (i64.wrap ((y1.length:Int)-1)).toNat O).toList==(⟨#[]⟩:ByteArray).toList)=true then (if 0<=(0:Int) then (if 0<=(i64.wrap ((y1.length:Int)-1)) then (if (i64.wrap ((y1.length:Int)-1))<=(y1.length:Int) then (Gg x0 ((y1.take (i64.wrap ((y1.length:Int)-1)).toNat).drop (0:Int).toNat)) else none) else none) else none) else (Gg x0 y1)) else none) else none))
theorem ar:Rb Pm Pk:=jS (by kernel_rfl)
theorem Pp:rq JM Gf:=lS (by kernel_rfl)
theorem au:Rb Pn Pl:=jS (by kernel_rfl)
theorem ax:Rb Po Gg:=jS (by kernel_rfl)
theorem iT:MO UP Ml:=cT BJ rfl ⟨rfl,rfl⟩ (by kernel_rfl)
def ay (x0:Int):Option ByteArray:=((SG x0).bind fun y1=>(some y1))
theorem qi:MO ay HJ:=cT MS rfl ⟨rfl,rfl⟩ (by kernel_rfl)
def sN (x0:AR):Option Bool:=(some (decide (x0.2.2.2.2.1>=0)))
theorem sO:MO sN VN:=cT Ox rfl ⟨rfl,rfl⟩ (by kernel_rfl)
def Yq (x0:AR):Option ByteArray:=(if (x0.1==1)=true then (if (⟨#[112,117,116,32]⟩:ByteArray).size+x0.2.1.size<=1099511627776 then (if ((⟨#[112,117,116,32]⟩:ByteArray)++x0.2.1).size+(⟨#[10]⟩:ByteArray).size<=1099511627776 then (some (((⟨#[112,117,116,32]⟩:ByteArray)++x0.2.1)++(⟨#[10]⟩:ByteArray))) else none) else none) else (if (⟨#[103,101,116,32]⟩:ByteArray).size+x0.2.1.size<=1099511627776 then (if ((⟨#[103,101,116,32]⟩:ByteArray)++x0.2.1).size+(⟨#[32]⟩:ByteArray).size<=1099511627776 then (if (((⟨#[103,101,116,32]⟩:ByteArray)++x0.2.1)++(⟨#[32]⟩:ByteArray)).size+x0.2.2.2.2.2.2.2.2.size<=1099511627776 then (if ((((⟨#[103,101,116,32]⟩:ByteArray)++x0.2.1)++(⟨#[32]⟩:ByteArray))++x0.2.2.2.2.2.2.2.2).size+(⟨#[10]⟩:ByteArray).size<=1099511627776 then (some (((((⟨#[103,101,116,32]⟩:ByteArray)++x0.2.1)++(⟨#[32]⟩:ByteArray))++x0.2.2.2.2.2.2.2.2)++(⟨#[10]⟩:ByteArray))) else none) else none) else none) else none))
theorem ny:MO Yq QG:=cT Kf rfl ⟨rfl,rfl⟩ (by kernel_rfl)
def iU:=cG MT (AE Cp) (AE Cp) kx
def iV:=kE 0 [(3,0)] [0,3,4] 1 iU kx
def fD:St->Option (RT (BS.outs Cp)):=lG TX [(3,0)] [0,3,4,5] 1 (AE Cp) iV
def SV (x0:ByteArray) (x1:Int) (x2:List ByteArray):Option (List ByteArray):=cG MT (AE Cp) (AE Cp) kx ⟨[(0,.str x0),(3,.row 0),(4,.int .i64 x1)],[.rows 9 .str x2]⟩
def Fn (x0:ByteArray) (x1 x2:Int) (x3:List ByteArray):Option (List ByteArray):=fD ⟨[(0,.str x0),(3,.row 0),(4,.int .i64 x1),(5,.int .i64 x2)],[.rows 9 .str x3]⟩
def SW (x0:ByteArray) (x1:Int) (x2:List ByteArray):Option (List ByteArray):=(if (decide (x1<(x0.size:Int)))=true then (if 0<=x1 then (if x1<=(x0.size:Int) then (if (x0.size:Int)<=(x0.size:Int) then (if x2.length+([(x0.extract x1.toNat (x0.size:Int).toNat)]:List ByteArray).length<=68719476736 then (some (x2++([(x0.extract x1.toNat (x0.size:Int).toNat)]:List ByteArray))) else none) else none) else none) else none) else (some x2))
def LG (x0:ByteArray) (x1 x2:Int) (x3:List ByteArray):Option (List ByteArray):=(if (decide (x2<(x0.size:Int)))=true then (if 0<=x2 then (if x2<(x0.size:Int) then (if (((x0.data.toList.getD x2.toNat 0).toNat:Int)==10)=true then (if 0<=x1 then (if x1<=x2 then (if x2<=(x0.size:Int) then (if x3.length+([(x0.extract x1.toNat x2.toNat)]:List ByteArray).length<=68719476736 then (Fn x0 (i64.wrap (x2+1)) (i64.wrap (x2+1)) (x3++([(x0.extract x1.toNat x2.toNat)]:List ByteArray))) else none) else none) else none) else none) else (Fn x0 x1 (i64.wrap (x2+1)) x3)) else none) else none) else (SV x0 x1 x3))
def Yr (x0:ByteArray):Option (List ByteArray):=(Fn x0 0 0 ([]:List ByteArray))
theorem fE:Nm SW SV:=jS (by kernel_rfl)
theorem SX:eP LG Fn:=lS (by kernel_rfl)
theorem nz:MO Yr Kk:=cT Cp rfl ⟨rfl,rfl⟩ (by kernel_rfl)
def lK:=cG MU (AE CC) (AE CC) kx
def OY:=kE 0 [(4,0)] [4] 1 lK kx
def UQ:St->Option (RT (BS.outs CC)):=lG TY [(4,0)] [0,4,5,6] 1 (AE CC) OY
def lL:=kB [(4,0)] [0,4,5,6] 1 UQ
def Wa:=cG V0 lL (AE CC) OY
def Wb:=kB [(4,0)] [0,4,5,6] 1 Wa
def Wc:=kE 1 [(4,0)] [0,4,5,6] 1 Wa OY
def Ip (x0:ByteArray) (x1 x2:Int) (x3:Bool) (x4:List ByteArray):Option (List ByteArray×Bool):=cG Vy Wb (AE CC) Wc ⟨[(0,.str x0),(4,.row 0),(5,.int .i64 x1),(6,.int .i64 x2),(44,.bool x3)],[.rows 9 .str x4]⟩
def Iq (x0:ByteArray) (x1 x2:Int) (x3:Bool) (x4:List ByteArray):Option (List ByteArray×Bool):=cG Vz Wb (AE CC) Wc ⟨[(0,.str x0),(4,.row 0),(5,.int .i64 x1),(6,.int .i64 x2),(33,.bool x3)],[.rows 9 .str x4]⟩
def UR (x0:List ByteArray):Option (List ByteArray×Bool):=cG MU (AE CC) (AE CC) kx ⟨[(4,.row 0)],[.rows 9 .str x0]⟩
def C7 (x0:ByteArray) (x1 x2:Int) (x3:List ByteArray):Option (List ByteArray×Bool):=UQ ⟨[(0,.str x0),(4,.row 0),(5,.int .i64 x1),(6,.int .i64 x2)],[.rows 9 .str x3]⟩
def US (x0:ByteArray) (x1 x2:Int) (x3:Bool) (x4:List ByteArray):Option (List ByteArray×Bool):=(if (decide (x1<x2))=true then (if 0<=x1 then (if x1<=x2 then (if x2<=(x0.size:Int) then (if x4.length+([(x0.extract x1.toNat x2.toNat)]:List ByteArray).length<=68719476736 then (C7 x0 (i64.wrap (x2+1)) (i64.wrap (x2+1)) (x4++([(x0.extract x1.toNat x2.toNat)]:List ByteArray))) else none) else none) else none) else none) else (C7 x0 (i64.wrap (x2+1)) (i64.wrap (x2+1)) x4))
def M6 (x0:ByteArray) (x1 x2:Int) (x3:Bool) (x4:List ByteArray):Option (List ByteArray×Bool):=(if (decide (x2<(x0.size:Int)))=true then (if 0<=x2 then (if x2<(x0.size:Int) then (if (((x0.data.toList.getD x2.toNat 0).toNat:Int) != 32)=true then (C7 x0 x1 (i64.wrap (x2+1)) x4) else (Ip x0 x1 x2 (((x0.data.toList.getD x2.toNat 0).toNat:Int) != 32) x4)) else none) else none) else (Ip x0 x1 x2 false x4))
def UT (x0:List ByteArray):Option (List ByteArray×Bool):=(if (decide ((x0.length:Int)>10))=true then (some (([]:List ByteArray),false)) else (some (x0,true)))
def Ir (x0:ByteArray) (x1 x2:Int) (x3:List ByteArray):Option (List ByteArray×Bool):=(if (decide (x2<=(x0.size:Int)))=true then (if (decide (x2<(x0.size:Int)))=true then (if 0<=x2 then (if x2<(x0.size:Int) then (if (decide (((x0.data.toList.getD x2.toNat 0).toNat:Int)<32))=false then (if 0<=x2 then (if x2<(x0.size:Int) then (if (decide (((x0.data.toList.getD x2.toNat 0).toNat:Int)>126))=true then (some (([]:List ByteArray),false)) else (Iq x0 x1 x2 (decide (((x0.data.toList.getD x2.toNat 0).toNat:Int)>126)) x3)) else none) else none) else (some (([]:List ByteArray),false))) else none) else none) else (Iq x0 x1 x2 false x3)) else (UR x3))
def az (x0:ByteArray):Option (List ByteArray×Bool):=(if (decide ((x0.size:Int)>600))=true then (some (([]:List ByteArray),false)) else (C7 x0 0 0 ([]:List ByteArray)))
theorem iW:rq US Ip:=jS (by kernel_rfl)
theorem UU:rq M6 Iq:=jS (by kernel_rfl)
theorem iX:MO UT UR:=jS (by kernel_rfl)
theorem M7:eP Ir C7:=lS (by kernel_rfl)
theorem qj:MO az R_:=cT CC rfl ⟨rfl,rfl⟩ (by kernel_rfl)
def fF:=cG Qg (AE CW) (AE CW) kx
def LH:=kE 0 [(4,0)] [4] 1 fF kx
def Qu:St->Option (RT (BS.outs CW)):=lG Rt [(4,0)] [0,4,5,6] 1 (AE CW) LH
def fG:=kB [(4,0)] [0,4,5,6] 1 Qu
def SY:=cG Rs fG (AE CW) LH
def fH:=kB [(4,0)] [0,4,5,6] 1 SY
def fI:=kE 1 [(4,0)] [0,4,5,6] 1 SY LH
def G3 (x0:ByteArray) (x1 x2:Int) (x3:Bool) (x4:List Int):Option (List Int×Bool):=cG Rr fH (AE CW) fI ⟨[(0,.str x0),(4,.row 0),(5,.int .i64 x1),(6,.int .i64 x2),(25,.bool x3)],[.rows 3 (.int .i64) x4]⟩
def Dr (x0:ByteArray) (x1 x2:Int) (x3:List Int):Option (List Int×Bool):=Qu ⟨[(0,.str x0),(4,.row 0),(5,.int .i64 x1),(6,.int .i64 x2)],[.rows 3 (.int .i64) x3]⟩
def Qv (x0:ByteArray) (x1 x2:Int) (x3:Bool) (x4:List Int):Option (List Int×Bool):=(if 0<=x1 then (if x1<=x2 then (if x2<=(x0.size:Int) then ((ED (x0.extract x1.toNat x2.toNat)).bind fun y1=>(if (!y1.2)=true then (some (([]:List Int),false)) else (if x4.length+([y1.1]:List Int).length<=68719476736 then (Dr x0 (i64.wrap (x2+1)) (i64.wrap (x2+1)) (x4++([y1.1]:List Int))) else none))) else none) else none) else none)
def G4 (x0:ByteArray) (x1 x2:Int) (x3:List Int):Option (List Int×Bool):=(if (decide (x2<=(x0.size:Int)))=true then (if (decide (x2<(x0.size:Int)))=true then (if 0<=x2 then (if x2<(x0.size:Int) then (if (((x0.data.toList.getD x2.toNat 0).toNat:Int) != 44)=true then (Dr x0 x1 (i64.wrap (x2+1)) x3) else (G3 x0 x1 x2 (((x0.data.toList.getD x2.toNat 0).toNat:Int) != 44) x3)) else none) else none) else (G3 x0 x1 x2 false x3)) else (some (x3,true)))
def Wd (x0:ByteArray):Option (List Int×Bool):=(Dr x0 0 0 ([]:List Int))
theorem dC:rq Qv G3:=jS (by kernel_rfl)
theorem J6:eP G4 Dr:=lS (by kernel_rfl)
theorem lM:MO Wd OS:=cT CW rfl ⟨rfl,rfl⟩ (by kernel_rfl)
def lN:=cG V6 (AE ET) (AE ET) kx
def lO:=kE 0 [] [0] 0 lN kx
def iY:St->Option (RT (BS.outs ET)):=lG V5 [] [0,3] 0 (AE ET) lO
def Is (x0:List (List Int)) (x1:Int):Option Bool:=iY ⟨[(0,.lst (.slice (.int .i64)) x0),(3,.int .i64 x1)],[]⟩
def M8 (x0:List (List Int)) (x1:Int):Option Bool:=(if (decide (x1<(x0.length:Int)))=true then (if 0<=x1 then (if x1<(x0.length:Int) then ((SB (x0.getD x1.toNat ([]:List Int))).bind fun y1=>(if (!y1)=true then (some false) else (Is x0 (i64.wrap (x1+1))))) else none) else none) else ((AZ (x0.length:Int) 1 9).bind fun y2=>(some y2)))
def a_ (x0:List (List Int)):Option Bool:=(Is x0 0)
theorem UV:Rb M8 Is:=lS (by kernel_rfl)
theorem qk:MO a_ DA:=cT ET rfl ⟨rfl,rfl⟩ (by kernel_rfl)

def iZ:=cG Rx (AE Av) (AE Av) kx
def M9:=kE 0 [] [2] 2 iZ kx
def SZ:St->Option (RT (BS.outs Av)):=lG Rw [(8,1)] [0,2,8,9] 2 (AE Av) M9
def ia:=kB [(8,1)] [0,2,8,9] 2 SZ
def UW:=cG Rv ia (AE Av) M9
def ib:=kB [(8,1)] [0,2,8,9] 2 UW
def ic:=kE 1 [(8,1)] [0,2,8,9] 2 UW M9
def ig:=cG Ry (AE Av) (AE Av) kx
def ii:=cG K3 (AE Av) (AE Av) kx
def Sa (x0:List ByteArray) (x1:Int) (x2:Bool) (x3:AF) (x4:List ByteArray):Option (AF×Bool):=cG Ru ib (AE Av) ic ⟨[(0,.lst .str x0),(2,.ptr 0 0),(8,.row 1),(9,.int .i64 x1),(79,.bool x2)],[.var (AM.enc x3),.rows 9 .str x4]⟩
def DL (x0:List ByteArray) (x1:Int) (x2:AF) (x3:List ByteArray):Option (AF×Bool):=SZ ⟨[(0,.lst .str x0),(2,.ptr 0 0),(8,.row 1),(9,.int .i64 x1)],[.var (AM.enc x2),.rows 9 .str x3]⟩
def LI (x0:List ByteArray) (x1:Bool) (x2:AF):Option (AF×Bool):=cG Ta ig (AE Av) kx ⟨[(0,.lst .str x0),(2,.ptr 0 0),(46,.bool x1)],[.var (AM.enc x2)]⟩
def Hx (x0:List ByteArray) (x1:Bool) (x2:AF):Option (AF×Bool):=cG K3 (AE Av) (AE Av) kx ⟨[(0,.lst .str x0),(2,.ptr 0 0),(21,.bool x1)],[.var (AM.enc x2)]⟩
def LJ (x0:List ByteArray) (x1:Bool) (x2:AF):Option (AF×Bool):=cG TZ ii (AE Av) kx ⟨[(0,.lst .str x0),(2,.ptr 0 0),(21,.bool x1)],[.var (AM.enc x2)]⟩
def Sb (x0:List ByteArray) (x1:Int) (x2:Bool) (x3:AF) (x4:List ByteArray):Option (AF×Bool):=(if 0<=(1:Int) then (if 1<(x0.length:Int) then ((ED (x0.getD (1:Int).toNat O)).bind fun y3=>(if (decide ((i64.wrap (2+x1))<=4))=true then (some (((i64.wrap (2+x1)),1,y3.1,0,O,O),y3.2)) else (some (((i64.wrap (2+x1)),y3.1,0,0,O,O),y3.2)))) else none) else none)
def Fo (x0:List ByteArray) (x1:Int) (x2:AF) (x3:List ByteArray):Option (AF×Bool):=(if (decide (x1<(x3.length:Int)))=true then (if 0<=x1 then (if x1<(x3.length:Int) then (if 0<=(0:Int) then (if 0<(x0.length:Int) then (if (!((x3.getD x1.toNat O).toList==(x0.getD (0:Int).toNat O).toList))=true then (DL x0 (i64.wrap (x1+1)) x2 x3) else (if ((x0.length:Int) != 2)=true then (DL x0 (i64.wrap (x1+1)) x2 x3) else (Sa x0 x1 ((x0.length:Int) != 2) x2 x3))) else none) else none) else none) else none) else (some ((0,0,0,0,O,O),false)))
def Hy (x0:List ByteArray) (x1:Bool) (x2:AF):Option (AF×Bool):=(if x1=true then (if 0<=(1:Int) then (if 1<(x0.length:Int) then ((ED (x0.getD (1:Int).toNat O)).bind fun y2=>(if 0<=(2:Int) then (if 2<(x0.length:Int) then (some ((1,y2.1,0,2,(x0.getD (2:Int).toNat O),O),y2.2)) else none) else none)) else none) else none) else (DL x0 0 x2 ([(⟨#[100,101,108,105,118,101,114]⟩:ByteArray),(⟨#[100,114,111,112]⟩:ByteArray),(⟨#[99,111,112,121]⟩:ByteArray),(⟨#[97,100,111,112,116]⟩:ByteArray),(⟨#[102,97,108,108]⟩:ByteArray)]:List ByteArray)))
def LK (x0:List ByteArray) (x1:Bool) (x2:AF):Option (AF×Bool):=(if 0<=(0:Int) then (if 0<(x0.length:Int) then (if ((x0.getD (0:Int).toNat O).toList==(⟨#[103,101,116]⟩:ByteArray).toList)=true then (LI x0 ((x0.length:Int)==3) x2) else (LI x0 false x2)) else none) else none)
def LL (x0:List ByteArray) (x1:Bool) (x2:AF):Option (AF×Bool):=(if x1=true then (if 0<=(1:Int) then (if 1<(x0.length:Int) then ((ED (x0.getD (1:Int).toNat O)).bind fun y1=>(if 0<=(2:Int) then (if 2<(x0.length:Int) then (if 0<=(3:Int) then (if 3<(x0.length:Int) then (some ((1,y1.1,0,1,(x0.getD (2:Int).toNat O),(x0.getD (3:Int).toNat O)),y1.2)) else none) else none) else none) else none)) else none) else none) else (Hx x0 x1 x2))
def Ys (x0:List ByteArray):Option (AF×Bool):=(if 0<=(0:Int) then (if 0<(x0.length:Int) then (if ((x0.getD (0:Int).toNat O).toList==(⟨#[112,117,116]⟩:ByteArray).toList)=true then (LJ x0 ((x0.length:Int)==4) (0,0,0,0,O,O)) else (LJ x0 false (0,0,0,0,O,O))) else none) else none)
theorem fJ:rq Sb Sa:=jS (by kernel_rfl)
theorem Hz:eP Fo DL:=lS (by kernel_rfl)
theorem LN:Nm Hy LI:=jS (by kernel_rfl)
theorem Sc:Nm LK Hx:=jS (by kernel_rfl)
theorem Sd:Nm LL LJ:=jS (by kernel_rfl)
theorem n0:MO Ys QH:=cT Av rfl ⟨rfl,rfl⟩ (by kernel_rfl)
def M_ (x0:Bool) (x1:AF):Option Bool:=cG V7 (AE HB) (AE HB) kx ⟨[(1,.ptr 0 0),(17,.bool x0)],[.var (AM.enc x1)]⟩
def UX (x0:Bool) (x1:AF):Option Bool:=(if (x1.1 != 1)=true then (if (x1.2.2.2.1==0)=true then (if (x1.2.2.2.2.1.toList==(⟨#[]⟩:ByteArray).toList)=true then (some (x1.2.2.2.2.2.toList==(⟨#[]⟩:ByteArray).toList)) else (some false)) else (some false)) else (if (x1.2.2.2.1==1)=false then (if (x1.2.2.2.1==2)=true then ((AZ (x1.2.2.2.2.1.size:Int) 1 12).bind fun y3=>(if y3=true then (if (decide ((x1.2.2.2.2.2.size:Int)<=20))=true then (if (x1.2.2.2.1==1)=false then (some (x1.2.2.2.2.2.toList==(⟨#[]⟩:ByteArray).toList)) else (some true)) else (some false)) else (some false))) else (some false)) else ((AZ (x1.2.2.2.2.1.size:Int) 1 12).bind fun y4=>(if y4=true then (if (decide ((x1.2.2.2.2.2.size:Int)<=20))=true then (if (x1.2.2.2.1==1)=false then (some (x1.2.2.2.2.2.toList==(⟨#[]⟩:ByteArray).toList)) else (some true)) else (some false)) else (some false)))))
def bA (x0:AF):Option Bool:=((AZ x0.1 1 6).bind fun y1=>(if (!y1)=false then ((AZ x0.2.1 1 6).bind fun y2=>(if (!y2)=false then (if (decide (x0.2.2.1<0))=true then (some false) else (M_ (decide (x0.2.2.1<0)) x0)) else (some false))) else (some false)))
theorem ij:Rb UX M_:=jS (by kernel_rfl)
theorem ql:MO bA Mm:=cT HB rfl ⟨rfl,rfl⟩ (by kernel_rfl)
def We (x0:Int):Option Int:=(if (decide (x0<10))=true then (some (IntKind.u8.wrap (i64.wrap (48+x0)))) else (some (IntKind.u8.wrap (i64.wrap ((i64.wrap (97+x0))-10)))))
theorem lP:MO We OT:=cT Jb rfl ⟨rfl,rfl⟩ (by kernel_rfl)
def ik:=cG Tc (AE Ds) (AE Ds) kx
def il:=kE 0 [] [2,4] 8 ik kx
def fK:St->Option (RT (BS.outs Ds)):=lG Tb [] [0,2,4,5] 8 (AE Ds) il
def Fp (x0:List (List Int)) (x1:Int) (x2:List U) (x3:List AB) (x4:List AR) (x5:List (List Int)) (x6:List U) (x7:List AB) (x8:List AR) (x9:List (List Int)):Option (AG×Bool):=fK ⟨[(0,.lst (.slice (.int .i64)) x0),(2,.ptr 3 0),(4,.ptr 7 0),(5,.int .i64 x1)],[.rows 49 Y x2,.rows 112 AJ x3,.rows 42 As x4,.var [.lst (.slice (.int .i64)) x5,.row 0,.row 1,.row 2],.rows 49 Y x6,.rows 112 AJ x7,.rows 42 As x8,.var [.lst (.slice (.int .i64)) x9,.row 4,.row 5,.row 6]]⟩
def LO (x0:List (List Int)) (x1:Int) (x2:List U) (x3:List AB) (x4:List AR) (x5:List (List Int)) (x6:List U) (x7:List AB) (x8:List AR) (x9:List (List Int)):Option (AG×Bool):=(if (decide (x1<=6))=true then ((OU x1 x0).bind fun y3=>(if x6.length+([y3.1]:List U).length<=68719476736 then (Fp x0 (i64.wrap (x1+1)) x2 x3 x4 x5 (x6++([y3.1]:List U)) x7 x8 x9) else none)) else (some ((x9,x6,x7,x8),true)))
def Yt (x0:List (List Int)):Option (AG×Bool):=((DB x0).bind fun y1=>(if (!y1)=true then (some (([],([]:List U),([]:List AB),([]:List AR)),false)) else ((Ji x0).bind fun y2=>(Fp x0 1 ([]:List U) ([]:List AB) ([]:List AR) ([]:List (List Int)) ([]:List U) ([]:List AB) ([]:List AR) y2))))
theorem Se:yc LO Fp:=lS (by kernel_rfl)
theorem n5:MO Yt QI:=cT Ds rfl ⟨rfl,rfl⟩ (by kernel_rfl)
def NA (x0:Bool) (x1:AF):Option Bool:=cG V8 (AE HC) (AE HC) kx ⟨[(1,.ptr 0 0),(17,.bool x0)],[.var (AM.enc x1)]⟩
def UY (x0:Bool) (x1:AF):Option Bool:=(if (x1.1==1)=true then ((Mo x1.2.2.2.1 0 x1.2.2.2.2.1 x1.2.2.2.2.2).bind fun y3=>(some y3)) else (if (x1.2.2.2.1==0)=true then (if (x1.2.2.2.2.1.toList==(⟨#[]⟩:ByteArray).toList)=true then (some (x1.2.2.2.2.2.toList==(⟨#[]⟩:ByteArray).toList)) else (some false)) else (some false)))
def bB (x0:AF):Option Bool:=((Ap x0.1 1 6).bind fun y1=>(if (!y1)=false then ((FV x0.2.1).bind fun y2=>(if (!y2)=false then (if (decide (x0.2.2.1<0))=true then (some false) else (NA (decide (x0.2.2.1<0)) x0)) else (some false))) else (some false)))
theorem im:Rb UY NA:=jS (by kernel_rfl)
theorem qm:MO bB Mn:=cT HC rfl ⟨rfl,rfl⟩ (by kernel_rfl)
def Sf (x1:AF) (x2:Int) (b0:AG):Option (Bool×AG):=(if (x1.1==1)=true then ((K5 x1 x2 b0).bind fun y1=>(some (y1.1,y1.2))) else (if (x1.1==5)=true then ((K6 x1 x2 b0).bind fun y2=>(some (y2.1,y2.2))) else (if (x1.1==6)=true then ((B8 x1.2.1 b0).bind fun y3=>(if 0<=y3.1 then (if y3.1<(y3.2.2.1.length:Int) then ((T8 (y3.2.2.1.getD y3.1.toNat (0,0,false,false,false,false,([]:List Int),([]:List AA),0,0,0,0,(O,O,0),([]:List Int)))).bind fun y4=>(if 0<=y3.1 then (if y3.1<(y3.2.2.1.length:Int) then (let z5:List U:=y3.2.2.1.set y3.1.toNat y4; (some (true,(y3.2.1,z5,y3.2.2.2)))) else none) else none)) else none) else none)) else ((JD x1 x2 b0).bind fun y6=>(some (y6.1,y6.2))))))
theorem fL:Nm Sf Hr:=cT Ho rfl ⟨rfl,rfl⟩ (by kernel_rfl)
def dt (x0:Bool):Option Int:=(if x0=true then (some 0) else (some 1))
theorem sP:MO dt VO:=cT Oy rfl ⟨rfl,rfl⟩ (by kernel_rfl)
def fM:=cG Qi (AE BR) (AE BR) kx
def fN:=kE 2 [] [2,3] 10 fM kx
def dD:St->Option (RT (BS.outs BR)):=lG Qh [] [2,3,31,32,33] 10 (AE BR) fN
def fO:=cG Jv (AE BR) (AE BR) kx
def fP:=kE 0 [] [1,2,3] 10 fO kx
def dE:St->Option (RT (BS.outs BR)):=lG Rz [] [1,2,3,16,17,18] 10 (AE BR) fP
def Eu (x0:List AB) (x1 x2:Int) (x3:List (List Int)) (x4:List U) (x5:List AB) (x6:List AR) (x7:List U) (x8:List AB) (x9:List AR) (x10:List (List Int)) (x11:List U) (x12:List AB) (x13:List AR) (x14:List (List Int)):Option AG:=dD ⟨[(2,.ptr 4 0),(3,.ptr 9 0),(31,.lst AJ x0),(32,.int .i64 x1),(33,.int .i64 x2)],[.var [.lst (.slice (.int .i64)) x3,.lst Y x4,.lst AJ x5,.lst As x6],.rows 49 Y x7,.rows 112 AJ x8,.rows 42 As x9,.var [.lst (.slice (.int .i64)) x10,.row 1,.row 2,.row 3],.dead,.rows 49 Y x11,.rows 112 AJ x12,.rows 42 As x13,.var [.lst (.slice (.int .i64)) x14,.row 6,.row 7,.row 8]]⟩
def Qw (x0:List (List Int)) (x1:List U) (x2:List AB) (x3:List AR) (x4:List U) (x5:List AB) (x6:List AR) (x7:List (List Int)) (x8:List U) (x9:List AB) (x10:List AR) (x11:List (List Int)):Option AG:=cG Jv (AE BR) (AE BR) kx ⟨[(1,.ptr 0 0),(2,.ptr 4 0),(3,.ptr 9 0)],[.var [.lst (.slice (.int .i64)) x0,.lst Y x1,.lst AJ x2,.lst As x3],.rows 49 Y x4,.rows 112 AJ x5,.rows 42 As x6,.var [.lst (.slice (.int .i64)) x7,.row 1,.row 2,.row 3],.dead,.rows 49 Y x8,.rows 112 AJ x9,.rows 42 As x10,.var [.lst (.slice (.int .i64)) x11,.row 6,.row 7,.row 8]]⟩
def Ew (x0:List U) (x1 x2:Int) (x3:List (List Int)) (x4:List U) (x5:List AB) (x6:List AR) (x7:List U) (x8:List AB) (x9:List AR) (x10:List (List Int)) (x11:List U) (x12:List AB) (x13:List AR) (x14:List (List Int)):Option AG:=dE ⟨[(1,.ptr 0 0),(2,.ptr 4 0),(3,.ptr 9 0),(16,.lst Y x0),(17,.int .i64 x1),(18,.int .i64 x2)],[.var [.lst (.slice (.int .i64)) x3,.lst Y x4,.lst AJ x5,.lst As x6],.rows 49 Y x7,.rows 112 AJ x8,.rows 42 As x9,.var [.lst (.slice (.int .i64)) x10,.row 1,.row 2,.row 3],.dead,.rows 49 Y x11,.rows 112 AJ x12,.rows 42 As x13,.var [.lst (.slice (.int .i64)) x14,.row 6,.row 7,.row 8]]⟩
def J7 (x0:List AB) (x1 x2:Int) (x3:List (List Int)) (x4:List U) (x5:List AB) (x6:List AR) (x7:List U) (x8:List AB) (x9:List AR) (x10:List (List Int)) (x11:List U) (x12:List AB) (x13:List AR) (x14:List (List Int)):Option AG:=(if (decide (x2<x1))=true then (if 0<=x2 then (if x2<(x0.length:Int) then ((HK (x0.getD x2.toNat (0,0,0,0,0,([]:List AA)))).bind fun y4=>(if x12.length+([y4]:List AB).length<=68719476736 then (Eu x0 x1 (i64.wrap (x2+1)) x3 x4 x5 x6 x7 x8 x9 x10 x11 (x12++([y4]:List AB)) x13 x14) else none)) else none) else none) else (some (x14,x11,x12,x13)))
def Qx (x0:List (List Int)) (x1:List U) (x2:List AB) (x3:List AR) (x4:List U) (x5:List AB) (x6:List AR) (x7:List (List Int)) (x8:List U) (x9:List AB) (x10:List AR) (x11:List (List Int)):Option AG:=(Eu x2 (x2.length:Int) 0 x0 x1 x2 x3 x4 x5 x6 x7 x8 x9 x10 x11)
def J8 (x0:List U) (x1 x2:Int) (x3:List (List Int)) (x4:List U) (x5:List AB) (x6:List AR) (x7:List U) (x8:List AB) (x9:List AR) (x10:List (List Int)) (x11:List U) (x12:List AB) (x13:List AR) (x14:List (List Int)):Option AG:=(if (decide (x2<x1))=true then (if 0<=x2 then (if x2<(x0.length:Int) then ((C6 (x0.getD x2.toNat (0,0,false,false,false,false,([]:List Int),([]:List AA),0,0,0,0,(O,O,0),([]:List Int)))).bind fun y3=>(if x11.length+([y3]:List U).length<=68719476736 then (Ew x0 x1 (i64.wrap (x2+1)) x3 x4 x5 x6 x7 x8 x9 x10 (x11++([y3]:List U)) x12 x13 x14) else none)) else none) else none) else (Qw x3 x4 x5 x6 x7 x8 x9 x10 x11 x12 x13 x14))
def Wf (x0:AG):Option AG:=((Ji x0.1).bind fun y1=>((DK x0.2.2.2).bind fun y2=>(Ew x0.2.1 (x0.2.1.length:Int) 0 x0.1 x0.2.1 x0.2.2.1 x0.2.2.2 ([]:List U) ([]:List AB) ([]:List AR) ([]:List (List Int)) ([]:List U) ([]:List AB) y2 y1)))
theorem Qy:AC7 J7 Eu:=lS (by kernel_rfl)
theorem dF:ACT Qx Qw:=jS (by kernel_rfl)
theorem Qz:AC7 J8 Ew:=lS (by kernel_rfl)
theorem lQ:MO Wf Jh:=cT BR rfl ⟨rfl,rfl⟩ (by kernel_rfl)
def ip:=cG Te (AE Dt) (AE Dt) kx
def iq:=kE 0 [] [2,4] 4 ip kx
def fQ:St->Option (RT (BS.outs Dt)):=lG Td [] [0,2,4,5] 4 (AE Dt) iq
def Fq (x0:List (List Int)) (x1:Int) (x2:List U) (x3:List (List Int)) (x4:List AB) (x5:List AR) (x6:List U) (x7:List (List Int)):Option (AG×Bool):=fQ ⟨[(0,.lst (.slice (.int .i64)) x0),(2,.ptr 1 0),(4,.ptr 3 0),(5,.int .i64 x1)],[.rows 49 Y x2,.var [.lst (.slice (.int .i64)) x3,.row 0,.lst AJ x4,.lst As x5],.rows 49 Y x6,.var [.lst (.slice (.int .i64)) x7,.row 2,.nil,.nil]]⟩
def LP (x0:List (List Int)) (x1:Int) (x2:List U) (x3:List (List Int)) (x4:List AB) (x5:List AR) (x6:List U) (x7:List (List Int)):Option (AG×Bool):=(if (decide (x1<=6))=true then ((OV x1 x0).bind fun y3=>(if x6.length+([y3.1]:List U).length<=68719476736 then (Fq x0 (i64.wrap (x1+1)) x2 x3 x4 x5 (x6++([y3.1]:List U)) x7) else none)) else (some ((x7,x6,[],[]),true)))
def Yu (x0:List (List Int)):Option (AG×Bool):=((DA x0).bind fun y1=>(if (!y1)=true then (some (([],([]:List U),[],[]),false)) else ((G1 x0).bind fun y2=>(Fq x0 1 ([]:List U) ([]:List (List Int)) ([]:List AB) ([]:List AR) ([]:List U) y2))))
theorem Sg:xY LP Fq:=lS (by kernel_rfl)
theorem n6:MO Yu QJ:=cT Dt rfl ⟨rfl,rfl⟩ (by kernel_rfl)
def NB (x1:Int) (x2:AF) (b0:AG):Option (Int×AG):=(if (x2.1==1)=true then ((QK x1 x2 b0).bind fun y1=>(some (y1.1,y1.2))) else (if (x2.1==5)=true then ((QL x1 x2.2.1 b0).bind fun y2=>(some (y2.1,y2.2))) else (if (x2.1==6)=true then (if 0<=(i64.wrap (x2.2.1-1)) then (if (i64.wrap (x2.2.1-1))<(b0.2.1.length:Int) then ((ae (b0.2.1.getD (i64.wrap (x2.2.1-1)).toNat (0,0,false,false,false,false,([]:List Int),([]:List AA),0,0,0,0,(O,O,0),([]:List Int)))).bind fun y3=>((Fc y3 ([]:List AB) ([]:List AK) x1 b0).bind fun y4=>(some (0,y4)))) else none) else none) else ((VP x1 x2 b0).bind fun y5=>(some (y5.1,y5.2))))))
theorem uR:Nm NB Xo:=cT RL rfl ⟨rfl,rfl⟩ (by kernel_rfl)
def lR:=cG V_ (AE EU) (AE EU) kx
def lT:=kE 0 [] [2,3] 6 lR kx
def ir:St->Option (RT (BS.outs EU)):=lG V9 [] [1,2,3,4] 6 (AE EU) lT
def Gh (x0:Int) (x1:List (List Int)) (x2:List U) (x3:List AB) (x4:List AR) (x5:List U) (x6:List (List Int)) (x7:List AB) (x8 x9:List AR) (x10:List U) (x11:List (List Int)) (x12:List AB) (x13:List AR):Option AG:=ir ⟨[(1,.ptr 0 0),(2,.ptr 2 0),(3,.ptr 5 0),(4,.int .i64 x0)],[.var [.lst (.slice (.int .i64)) x1,.lst Y x2,.lst AJ x3,.lst As x4],.rows 49 Y x5,.var [.lst (.slice (.int .i64)) x6,.row 1,.lst AJ x7,.lst As x8],.frz As x9,.rows 49 Y x10,.var [.lst (.slice (.int .i64)) x11,.row 4,.lst AJ x12,.lst As x13]]⟩
def NC (x0:Int) (x1:List (List Int)) (x2:List U) (x3:List AB) (x4:List AR) (x5:List U) (x6:List (List Int)) (x7:List AB) (x8 x9:List AR) (x10:List U) (x11:List (List Int)) (x12:List AB) (x13:List AR):Option AG:=(if (decide (x0<(x2.length:Int)))=true then (if 0<=x0 then (if x0<(x2.length:Int) then ((Dh (x2.getD x0.toNat (0,0,false,false,false,false,([]:List Int),([]:List AA),0,0,0,0,(O,O,0),([]:List Int)))).bind fun y3=>(if x10.length+([y3]:List U).length<=68719476736 then (Gh (i64.wrap (x0+1)) x1 x2 x3 x4 x5 x6 x7 x8 x9 (x10++([y3]:List U)) x11 x12 x13) else none)) else none) else none) else (some (x11,x10,x12,x13)))
def bC (x0:AG):Option AG:=((G1 x0.1).bind fun y1=>((K7 x0.2.2.1).bind fun y2=>(if ([]:List AR).length+x0.2.2.2.length<=68719476736 then (Gh 0 x0.1 x0.2.1 x0.2.2.1 x0.2.2.2 ([]:List U) ([]:List (List Int)) ([]:List AB) ([]:List AR) (([]:List AR)++x0.2.2.2) ([]:List U) y1 y2 (([]:List AR)++x0.2.2.2)) else none)))
theorem UZ:ADU NC Gh:=lS (by kernel_rfl)
theorem qn:MO bC SA:=cT EU rfl ⟨rfl,rfl⟩ (by kernel_rfl)
def IU (x0:List ByteArray) (x1:Bool) (x2:List (List Int)) (x3:List AF):Option (Bool×DF):=cG PN (AE D9) (AE D9) kx ⟨[(0,.ptr 0 0),(5,.lst .str x0),(24,.bool x1)],[.var [.row 1,.row 2],.rows 37 (.slice (.int .i64)) x2,.rows 72 AM x3]⟩
def D1 (x0:List ByteArray) (x1:Bool) (x2:List (List Int)) (x3:List AF):Option (Bool×DF):=(if 0<=(0:Int) then (if 0<(x0.length:Int) then (if ((x0.getD (0:Int).toNat O).toList==(⟨#[118,105,101,119]⟩:ByteArray).toList)=true then ((K8 x0 (x2,x3)).bind fun y3=>(some (y3.1,y3.2))) else ((SD x0).bind fun y4=>(if x3.length+([y4.1]:List AF).length<=68719476736 then (if y4.2=true then (if (decide ((x2.length:Int)>0))=true then (some ((decide (((x3++([y4.1]:List AF)).length:Int)<=70)),(x2,(x3++([y4.1]:List AF))))) else (some (false,(x2,(x3++([y4.1]:List AF)))))) else (some (false,(x2,(x3++([y4.1]:List AF)))))) else none))) else none) else none)
def LQ (x1:ByteArray) (b0:DF):Option (Bool×DF):=((SC x1).bind fun y1=>(if (!y1.2)=true then (some (false,b0)) else (if ((y1.1.length:Int)==0)=false then (if 0<=(0:Int) then (if 0<(y1.1.length:Int) then ((Jw (y1.1.getD (0:Int).toNat O) (⟨#[35]⟩:ByteArray)).bind fun y2=>(if y2=true then (some (true,b0)) else (IU y1.1 y2 b0.1 b0.2))) else none) else none) else (some (true,b0)))))
theorem IV:eP D1 IU:=jS (by kernel_rfl)
theorem fR:Rb LQ K4:=cT D9 rfl ⟨rfl,rfl⟩ (by kernel_rfl)
def bD:=cG IP (AE Bv) (AE Bv) kx
def bE:=kE 0 [] [0,4] 0 bD kx
def ZZ:St->Option (RT (BS.outs Bv)):=lG PO [] [0,4,5] 0 (AE Bv) bE
def Ny (x0:ByteArray) (x1:Int):Option (Int×Bool):=cG IP (AE Bv) (AE Bv) kx ⟨[(0,.str x0),(4,.int .i64 x1)],[]⟩
def Fy (x0:ByteArray) (x1 x2:Int):Option (Int×Bool):=ZZ ⟨[(0,.str x0),(4,.int .i64 x1),(5,.int .i64 x2)],[]⟩
def Nz (x0:ByteArray) (x1:Int):Option (Int×Bool):=(if (decide (x1>1000000000))=false then ((C_ x1).bind fun y1=>(if (!(y1.toList==x0.toList))=true then (some (0,false)) else (some (x1,true)))) else (some (0,false)))
def IW (x0:ByteArray) (x1 x2:Int):Option (Int×Bool):=(if (decide (x2<(x0.size:Int)))=true then (if 0<=x2 then (if x2<(x0.size:Int) then (if (decide (((x0.data.toList.getD x2.toNat 0).toNat:Int)<48))=false then (if 0<=x2 then (if x2<(x0.size:Int) then (if (decide (((x0.data.toList.getD x2.toNat 0).toNat:Int)>57))=true then (some (0,false)) else (if 0<=x2 then (if x2<(x0.size:Int) then (Fy x0 (i64.wrap ((i64.wrap ((i64.wrap (10*x1))+(i64.wrap ((x0.data.toList.getD x2.toNat 0).toNat:Int))))-48)) (i64.wrap (x2+1))) else none) else none)) else none) else none) else (some (0,false))) else none) else none) else (Ny x0 x1))
def Sh (x0:ByteArray):Option (Int×Bool):=(if (decide ((x0.size:Int)>10))=true then (some (0,false)) else (Fy x0 0 0))
theorem Za:Rb Nz Ny:=jS (by kernel_rfl)
theorem N0:Nm IW Fy:=lS (by kernel_rfl)
theorem fS:MO Sh ED:=cT Bv rfl ⟨rfl,rfl⟩ (by kernel_rfl)
def lU:=cG WB (AE EV) (AE EV) kx
def lV:=kE 0 [] [] 0 lU kx
def iu:St->Option (RT (BS.outs EV)):=lG WA [] [0,3] 0 (AE EV) lV
def It (x0:List Int) (x1:Int):Option Bool:=iu ⟨[(0,.lst (.int .i64) x0),(3,.int .i64 x1)],[]⟩
def ND (x0:List Int) (x1:Int):Option Bool:=(if (decide (x1<(x0.length:Int)))=true then (if 0<=x1 then (if x1<(x0.length:Int) then ((AZ (x0.getD x1.toNat 0) 1 6).bind fun y2=>(if (!y2)=true then (some false) else (if 0<=(0:Int) then (if 0<=x1 then (if x1<=(x0.length:Int) then (if 0<=x1 then (if x1<(x0.length:Int) then ((FC ((x0.take x1.toNat).drop (0:Int).toNat) (x0.getD x1.toNat 0)).bind fun y3=>(if y3=true then (some false) else (It x0 (i64.wrap (x1+1))))) else none) else none) else none) else none) else none))) else none) else none) else (some true))
def bF (x0:List Int):Option Bool:=((AZ (x0.length:Int) 1 4).bind fun y1=>(if (!y1)=true then (some false) else (It x0 0)))
theorem Ua:Rb ND It:=lS (by kernel_rfl)
theorem qo:MO bF SB:=cT EV rfl ⟨rfl,rfl⟩ (by kernel_rfl)
def iv (x0 x1 x2:Int):Option Bool:=(if (decide (x0>=x1))=true then (some (decide (x0<=x2))) else (some false))
theorem uS:Nm iv AZ:=cT RM rfl ⟨rfl,rfl⟩ (by kernel_rfl)
def lW:=cG Th (AE CD) (AE CD) kx
def OZ:=kE 0 [] [0] 0 lW kx
def Ub:St->Option (RT (BS.outs CD)):=lG Tg [] [0,7,8,9] 0 (AE CD) OZ
def lX:=kB [] [0,7,8,9] 0 Ub
def Wg:=cG Tf lX (AE CD) OZ
def Wh:=kB [] [0,7,8,9] 0 Wg
def Oa:=kE 1 [] [0,7,8,9] 0 Wg OZ
def lY:=cG OO Wh (AE CD) Oa
def lZ:=kE 2 [] [0,4,7,8,9] 0 lY Oa
def iw:St->Option (RT (BS.outs CD)):=lG WC [] [0,4,7,8,9,13,14,15] 0 (AE CD) lZ
def NE (x0:List (List Int)) (x1:List Int) (x2:List (List Int)) (x3 x4:Int):Option Bool:=cG OO Wh (AE CD) Oa ⟨[(0,.lst (.slice (.int .i64)) x0),(4,.lst (.int .i64) x1),(7,.lst (.slice (.int .i64)) x2),(8,.int .i64 x3),(9,.int .i64 x4)],[]⟩
def Iu (x0:List (List Int)) (x1:List Int) (x2:List (List Int)) (x3 x4:Int) (x5:List Int) (x6 x7:Int):Option Bool:=iw ⟨[(0,.lst (.slice (.int .i64)) x0),(4,.lst (.int .i64) x1),(7,.lst (.slice (.int .i64)) x2),(8,.int .i64 x3),(9,.int .i64 x4),(13,.lst (.int .i64) x5),(14,.int .i64 x6),(15,.int .i64 x7)],[]⟩
def Iv (x0 x1:List (List Int)) (x2 x3:Int):Option Bool:=Ub ⟨[(0,.lst (.slice (.int .i64)) x0),(7,.lst (.slice (.int .i64)) x1),(8,.int .i64 x2),(9,.int .i64 x3)],[]⟩
def Uc (x0:List (List Int)) (x1:List Int) (x2:List (List Int)) (x3 x4:Int):Option Bool:=((Ap (x1.length:Int) 1 4).bind fun y3=>(if (!y3)=true then (some false) else (Iv x0 x2 x3 (i64.wrap (x4+1)))))
def NF (x0:List (List Int)) (x1:List Int) (x2:List (List Int)) (x3 x4:Int) (x5:List Int) (x6 x7:Int):Option Bool:=(if (decide (x7<x6))=true then (if 0<=x7 then (if x7<(x5.length:Int) then ((FV (x5.getD x7.toNat 0)).bind fun y1=>(if (!y1)=false then ((Di x1 (x5.getD x7.toNat 0)).bind fun y2=>(if (y2 != x7)=true then (some false) else (Iu x0 x1 x2 x3 x4 x5 x6 (i64.wrap (x7+1))))) else (some false))) else none) else none) else (NE x0 x1 x2 x3 x4))
def NG (x0 x1:List (List Int)) (x2 x3:Int):Option Bool:=(if (decide (x3<x2))=true then (if 0<=x3 then (if x3<(x1.length:Int) then (Iu x0 (x1.getD x3.toNat ([]:List Int)) x1 x2 x3 (x1.getD x3.toNat ([]:List Int)) ((x1.getD x3.toNat ([]:List Int)).length:Int) 0) else none) else none) else ((Ap (x0.length:Int) 1 9).bind fun y4=>(some y4)))
def bG (x0:List (List Int)):Option Bool:=(Iv x0 x0 (x0.length:Int) 0)
theorem ix:rq Uc NE:=jS (by kernel_rfl)
theorem Ud:xY NF Iu:=lS (by kernel_rfl)
theorem Ue:eP NG Iv:=lS (by kernel_rfl)
theorem qp:MO bG DB:=cT CD rfl ⟨rfl,rfl⟩ (by kernel_rfl)
def fT:=cG R1 (AE DN) (AE DN) kx
def fU:=kE 0 [(3,0)] [3] 1 fT kx
def dG:St->Option (RT (BS.outs DN)):=lG R0 [(3,0)] [3,6,7,8] 1 (AE DN) fU
def G5 (x0:List (List Int)) (x1 x2:Int) (x3:List (List Int)):Option (List (List Int)):=dG ⟨[(3,.row 0),(6,.lst (.slice (.int .i64)) x0),(7,.int .i64 x1),(8,.int .i64 x2)],[.rows 37 (.slice (.int .i64)) x3]⟩
def J9 (x0:List (List Int)) (x1 x2:Int) (x3:List (List Int)):Option (List (List Int)):=(if (decide (x2<x1))=true then (if 0<=x2 then (if x2<(x0.length:Int) then ((Bs (x0.getD x2.toNat ([]:List Int))).bind fun y1=>(if x3.length+([y1]:List (List Int)).length<=68719476736 then (G5 x0 x1 (i64.wrap (x2+1)) (x3++([y1]:List (List Int)))) else none)) else none) else none) else (some x3))
def Wi (x0:List (List Int)):Option (List (List Int)):=(G5 x0 (x0.length:Int) 0 ([]:List (List Int)))
theorem Q0:eP J9 G5:=lS (by kernel_rfl)
theorem la:MO Wi Ji:=cT DN rfl ⟨rfl,rfl⟩ (by kernel_rfl)
def Q1 (x0:Int) (x1:List (List Int)) (x2:Bool) (x3:U):Option (U×Bool):=cG R2 (AE Fa) (AE Fa) kx ⟨[(0,.int .i64 x0),(1,.lst (.slice (.int .i64)) x1),(4,.ptr 0 0),(14,.bool x2)],[.var (Y.enc x3)]⟩
def Q2 (x0:Int) (x1:List (List Int)) (x2:Bool) (x3:U):Option (U×Bool):=(if 0<=(0:Int) then (if 0<(x1.length:Int) then (if 0<=(0:Int) then (if 0<((x1.getD (0:Int).toNat ([]:List Int)).length:Int) then (if 0<=(0:Int) then (if 0<(x1.length:Int) then ((Cx (x1.getD (0:Int).toNat ([]:List Int)) x0).bind fun y3=>(some ((x0,1,false,y3,(((x1.getD (0:Int).toNat ([]:List Int)).getD (0:Int).toNat 0)==x0),(((x1.getD (0:Int).toNat ([]:List Int)).getD (0:Int).toNat 0)==x0),([]:List Int),([]:List AA),0,0,0,0,(O,O,0),([]:List Int)),true))) else none) else none) else none) else none) else none) else none)
def Wj (x0:Int) (x1:List (List Int)):Option (U×Bool):=((FV x0).bind fun y1=>(if (!y1)=false then ((DB x1).bind fun y2=>(if (!y2)=true then (some ((0,0,false,false,false,false,([]:List Int),([]:List AA),0,0,0,0,(O,O,0),([]:List Int)),false)) else (Q1 x0 x1 (!y2) (0,0,false,false,false,false,([]:List Int),([]:List AA),0,0,0,0,(O,O,0),([]:List Int))))) else (some ((0,0,false,false,false,false,([]:List Int),([]:List AA),0,0,0,0,(O,O,0),([]:List Int)),false))))
theorem dH:eP Q2 Q1:=jS (by kernel_rfl)
theorem lc:Rb Wj OU:=cT Fa rfl ⟨rfl,rfl⟩ (by kernel_rfl)
def bH (x0 x1 x2:Int):Option Bool:=(if (decide (x0>=x1))=true then (some (decide (x0<=x2))) else (some false))
theorem qq:Nm bH Ap:=cT MV rfl ⟨rfl,rfl⟩ (by kernel_rfl)
def du (x0:Int):Option Bool:=((Ap x0 1 6).bind fun y1=>(some y1))
theorem sQ:MO du FV:=cT Oz rfl ⟨rfl,rfl⟩ (by kernel_rfl)
def Km (x0:Int) (x1:ByteArray) (x2:Bool):Option Bool:=cG aG (AE Jc) (AE Jc) kx ⟨[(0,.int .i64 x0),(3,.str x1),(26,.bool x2)],[]⟩
def QO (x0:Int) (x1:ByteArray) (x2:Bool):Option Bool:=(if (x0==1)=false then (some (x1.toList==(⟨#[]⟩:ByteArray).toList)) else (some true))
def Xt (x0 x1:Int) (x2 x3:ByteArray):Option Bool:=((Ap x0 1 2).bind fun y1=>(if (!y1)=false then ((Ap x1 0 1000).bind fun y2=>(if (!y2)=false then ((RR x2).bind fun y3=>(if (!y3)=false then (if (decide ((x3.size:Int)>20))=true then (some false) else (Km x0 x3 (decide ((x3.size:Int)>20)))) else (some false))) else (some false))) else (some false)))
theorem Yv:Nm QO Km:=jS (by kernel_rfl)
theorem iy:eP Xt Mo:=cT Jc rfl ⟨rfl,rfl⟩ (by kernel_rfl)
def Si (x1:AF) (x2:Int) (b0:AG):Option (Bool×AG):=(if b0.2.2.2.length+([(x1.2.2.2.1,x1.2.2.2.2.1,x1.2.2.2.2.2,x2,(-1:Int),0,0,0,O)]:List AR).length<=68719476736 then ((B8 x1.2.1 (b0.1,b0.2.1,b0.2.2.1,(b0.2.2.2++([(x1.2.2.2.1,x1.2.2.2.2.1,x1.2.2.2.2.2,x2,(-1:Int),0,0,0,O)]:List AR)))).bind fun y1=>(if 0<=y1.1 then (if y1.1<(y1.2.2.1.length:Int) then ((RS (y1.2.2.1.getD y1.1.toNat (0,0,false,false,false,false,([]:List Int),([]:List AA),0,0,0,0,(O,O,0),([]:List Int))) y1.2.1 x1.2.2.2.1 (b0.2.2.2.length:Int) x1.2.2.2.2.1 x1.2.2.2.2.2).bind fun y2=>(if (!y2.2.2.2)=true then (some (false,y1.2)) else (if 0<=y1.1 then (if y1.1<(y1.2.2.1.length:Int) then (let z3:List U:=y1.2.2.1.set y1.1.toNat y2.1; ((GX y2.2.1 y2.2.2.1 x2 (y1.2.1,z3,y1.2.2.2)).bind fun y4=>(some (true,y4)))) else none) else none))) else none) else none)) else none)
theorem fV:Nm Si K5:=cT Hp rfl ⟨rfl,rfl⟩ (by kernel_rfl)
def bI:=cG Nn (AE Cj) (AE Cj) kx
def bJ:=kE 0 [] [] 5 bI kx
def Zb:St->Option (RT (BS.outs Cj)):=lG PP [] [0,2,4,7,8] 5 (AE Cj) bJ
def D2 (x0 x1 x2:Int) (x3:List (List Int)) (x4:List U) (x5:List AB) (x6:List AR) (x7:AF):Option (Bool×AG):=Zb ⟨[(0,.ptr 0 0),(2,.int .i64 x0),(4,.ptr 4 0),(7,.int .i64 x1),(8,.int .i64 x2)],[.var [.lst (.slice (.int .i64)) x3,.row 1,.row 2,.row 3],.rows 49 Y x4,.rows 112 AJ x5,.rows 42 As x6,.var (AM.enc x7)]⟩
def Fz (x0 x1 x2:Int) (x3:List (List Int)) (x4:List U) (x5:List AB) (x6:List AR) (x7:AF):Option (Bool×AG):=(if (decide (x2<=(x3.length:Int)))=true then (if 0<=(i64.wrap (x2-1)) then (if (i64.wrap (x2-1))<(x3.length:Int) then (if 0<=(0:Int) then (if 0<((x3.getD (i64.wrap (x2-1)).toNat ([]:List Int)).length:Int) then (if (((x3.getD (i64.wrap (x2-1)).toNat ([]:List Int)).getD (0:Int).toNat 0) != x7.2.1)=true then (D2 x0 x1 (i64.wrap (x2+1)) x3 x4 x5 x6 x7) else (if 0<=x1 then (if x1<(x4.length:Int) then ((RU (x4.getD x1.toNat (0,0,false,false,false,false,([]:List Int),([]:List AA),0,0,0,0,(O,O,0),([]:List Int))) x3 x2).bind fun y2=>(if y2.2.2=true then (if 0<=x1 then (if x1<(x4.length:Int) then (let z3:List U:=x4.set x1.toNat y2.1; ((GX y2.2.1 ([]) x0 (x3,z3,x5,x6)).bind fun y4=>(some (y2.2.2,y4)))) else none) else none) else (some (y2.2.2,(x3,x4,x5,x6))))) else none) else none)) else none) else none) else none) else none) else (some (false,(x3,x4,x5,x6))))
def Sj (x1:AF) (x2:Int) (b0:AG):Option (Bool×AG):=((B8 x1.2.1 b0).bind fun y1=>(if 0<=y1.1 then (if y1.1<(y1.2.2.1.length:Int) then (D2 x2 y1.1 (i64.wrap ((((y1.2.2.1.getD y1.1.toNat (0,0,false,false,false,false,([]:List Int),([]:List AA),0,0,0,0,(O,O,0),([]:List Int))).2).1)+1)) y1.2.1 y1.2.2.1 y1.2.2.2.1 y1.2.2.2.2 x1) else none) else none))
theorem IX:xY Fz D2:=lS (by kernel_rfl)
theorem fW:Nm Sj K6:=cT Cj rfl ⟨rfl,rfl⟩ (by kernel_rfl)
def Q3 (x1:Int) (b0:AG):Option (Int×AG):=((CP b0.2.1 x1).bind fun y1=>(some (y1,b0)))
theorem dI:Rb Q3 B8:=cT Gz rfl ⟨rfl,rfl⟩ (by kernel_rfl)
def vh (x0:U):Option U:=(some (x0.1,x0.2.1,true,false,false,false,([]:List Int),([]:List AA),0,0,0,0,(O,O,0),([]:List Int)))
theorem vj:MO vh T8:=cT Ti rfl ⟨rfl,rfl⟩ (by kernel_rfl)
def Pq (x1:AF) (x2:Int) (b0:AG):Option (Bool×AG):=(if ((b0.2.2.1.length:Int)==0)=true then (some (false,b0)) else (if (b0.2.2.1.length:Int)=0 then none else (if (x1.1==2)=true then ((JE (Int.tmod x1.2.2.1 (b0.2.2.1.length:Int)) x2 b0).bind fun y1=>(some (true,y1))) else (if (x1.1==3)=true then ((Bm b0.2.2.1 (Int.tmod x1.2.2.1 (b0.2.2.1.length:Int)) (i64.wrap ((Int.tmod x1.2.2.1 (b0.2.2.1.length:Int))+1))).bind fun y2=>(some (true,(b0.1,b0.2.1,y2,b0.2.2.2)))) else (if (x1.1==4)=true then (if 0<=(Int.tmod x1.2.2.1 (b0.2.2.1.length:Int)) then (if (Int.tmod x1.2.2.1 (b0.2.2.1.length:Int))<(b0.2.2.1.length:Int) then ((HK (b0.2.2.1.getD ((Int.tmod x1.2.2.1 (b0.2.2.1.length:Int)).toNat) (0,0,0,0,0,([]:List AA)))).bind fun y3=>(if b0.2.2.1.length+([y3]:List AB).length<=68719476736 then (some (true,(b0.1,b0.2.1,(b0.2.2.1++([y3]:List AB)),b0.2.2.2))) else none)) else none) else none) else (some (true,b0)))))))
theorem bK:Nm Pq JD:=cT GS rfl ⟨rfl,rfl⟩ (by kernel_rfl)
def Uf (x0:U):Option U:=((Bs x0.2.2.2.2.2.2.1).bind fun y1=>((Al x0.2.2.2.2.2.2.2.1).bind fun y2=>((Bs x0.2.2.2.2.2.2.2.2.2.2.2.2.2).bind fun y3=>(some (x0.1,x0.2.1,x0.2.2.1,x0.2.2.2.1,x0.2.2.2.2.1,x0.2.2.2.2.2.1,y1,y2,x0.2.2.2.2.2.2.2.2.1,x0.2.2.2.2.2.2.2.2.2.1,x0.2.2.2.2.2.2.2.2.2.2.1,x0.2.2.2.2.2.2.2.2.2.2.2.1,x0.2.2.2.2.2.2.2.2.2.2.2.2.1,y3)))))
theorem iz:MO Uf C6:=cT Ie rfl ⟨rfl,rfl⟩ (by kernel_rfl)
def bL (x0:AB):Option AB:=((Al x0.2.2.2.2.2).bind fun y1=>(some (x0.1,x0.2.1,x0.2.2.1,x0.2.2.2.1,x0.2.2.2.2.1,y1)))
theorem qr:MO bL HK:=cT MW rfl ⟨rfl,rfl⟩ (by kernel_rfl)
def Zc:=cG Np (AE CX) (AE CX) kx
def Zd:=kE 0 [(3,0)] [3] 1 Zc kx
def Xu:St->Option (RT (BS.outs CX)):=lG No [(3,0)] [0,3,4] 1 (AE CX) Zd
def FE (x0:List (List Int)) (x1:Int) (x2:List (List Int)):Option (List (List Int)):=Xu ⟨[(0,.lst (.slice (.int .i64)) x0),(3,.row 0),(4,.int .i64 x1)],[.rows 37 (.slice (.int .i64)) x2]⟩
def H5 (x0:List (List Int)) (x1:Int) (x2:List (List Int)):Option (List (List Int)):=(if (decide (x1<(x0.length:Int)))=true then (if 0<=x1 then (if x1<(x0.length:Int) then (if ([]:List Int).length+(x0.getD x1.toNat ([]:List Int)).length<=68719476736 then (if x2.length+([(([]:List Int)++(x0.getD x1.toNat ([]:List Int)))]:List (List Int)).length<=68719476736 then (FE x0 (i64.wrap (x1+1)) (x2++([(([]:List Int)++(x0.getD x1.toNat ([]:List Int)))]:List (List Int)))) else none) else none) else none) else none) else (some x2))
def Q4 (x0:List (List Int)):Option (List (List Int)):=(FE x0 0 ([]:List (List Int)))
theorem NH:Nm H5 FE:=lS (by kernel_rfl)
theorem dJ:MO Q4 G1:=cT CX rfl ⟨rfl,rfl⟩ (by kernel_rfl)
def Q5 (x0:Int) (x1:List (List Int)) (x2:Bool) (x3:U):Option (U×Bool):=cG R3 (AE Fb) (AE Fb) kx ⟨[(0,.int .i64 x0),(1,.lst (.slice (.int .i64)) x1),(4,.ptr 0 0),(14,.bool x2)],[.var (Y.enc x3)]⟩
def Q6 (x0:Int) (x1:List (List Int)) (x2:Bool) (x3:U):Option (U×Bool):=(if 0<=(0:Int) then (if 0<(x1.length:Int) then ((FC (x1.getD (0:Int).toNat ([]:List Int)) x0).bind fun y3=>(if 0<=(0:Int) then (if 0<(x1.length:Int) then (if 0<=(0:Int) then (if 0<((x1.getD (0:Int).toNat ([]:List Int)).length:Int) then (some ((x0,1,false,y3,(((x1.getD (0:Int).toNat ([]:List Int)).getD (0:Int).toNat 0)==x0),(((x1.getD (0:Int).toNat ([]:List Int)).getD (0:Int).toNat 0)==x0),([]:List Int),([]:List AA),0,0,0,0,(O,O,0),([]:List Int)),true)) else none) else none) else none) else none)) else none) else none)
def Wk (x0:Int) (x1:List (List Int)):Option (U×Bool):=((DA x1).bind fun y1=>(if (!y1)=false then ((AZ x0 1 6).bind fun y2=>(if (!y2)=true then (some ((0,0,false,false,false,false,([]:List Int),([]:List AA),0,0,0,0,(O,O,0),([]:List Int)),false)) else (Q5 x0 x1 (!y2) (0,0,false,false,false,false,([]:List Int),([]:List AA),0,0,0,0,(O,O,0),([]:List Int))))) else (some ((0,0,false,false,false,false,([]:List Int),([]:List AA),0,0,0,0,(O,O,0),([]:List Int)),false))))
theorem dL:eP Q6 Q5:=jS (by kernel_rfl)
theorem ld:Rb Wk OV:=cT Fb rfl ⟨rfl,rfl⟩ (by kernel_rfl)
def Yw (x1:Int) (x2:AF) (b0:AG):Option (Int×AG):=(if ([]:List AR).length+b0.2.2.2.length<=68719476736 then (if (([]:List AR)++b0.2.2.2).length+([(x2.2.2.2.1,x2.2.2.2.2.1,x2.2.2.2.2.2,x1,(-1:Int),0,0,0,O)]:List AR).length<=68719476736 then (if 0<=(i64.wrap (x2.2.1-1)) then (if (i64.wrap (x2.2.1-1))<(b0.2.1.length:Int) then ((Xp (b0.2.1.getD (i64.wrap (x2.2.1-1)).toNat (0,0,false,false,false,false,([]:List Int),([]:List AA),0,0,0,0,(O,O,0),([]:List Int))) b0.1 x2.2.2.2.1 (i64.wrap ((((([]:List AR)++b0.2.2.2)++([(x2.2.2.2.1,x2.2.2.2.2.1,x2.2.2.2.2.2,x1,(-1:Int),0,0,0,O)]:List AR)).length:Int)-1)) x2.2.2.2.2.1 x2.2.2.2.2.2).bind fun y1=>(if (!y1.2.2.2)=true then (some (1,(b0.1,b0.2.1,b0.2.2.1,((([]:List AR)++b0.2.2.2)++([(x2.2.2.2.1,x2.2.2.2.2.1,x2.2.2.2.2.2,x1,(-1:Int),0,0,0,O)]:List AR))))) else ((Fc y1.1 y1.2.1 y1.2.2.1 x1 (b0.1,b0.2.1,b0.2.2.1,((([]:List AR)++b0.2.2.2)++([(x2.2.2.2.1,x2.2.2.2.2.1,x2.2.2.2.2.2,x1,(-1:Int),0,0,0,O)]:List AR)))).bind fun y2=>(some (0,y2))))) else none) else none) else none) else none)
theorem n7:Nm Yw QK:=cT Kg rfl ⟨rfl,rfl⟩ (by kernel_rfl)
def i6:=cG R4 (AE Du) (AE Du) kx
def i7:=kE 0 [] [] 2 i6 kx
def fX:St->Option (RT (BS.outs Du)):=lG Tj [] [0,1,2,7,8] 2 (AE Du) i7
def H6 (x0 x1 x2:Int) (x3:AG) (x4:U):Option (Int×AG):=fX ⟨[(0,.ptr 0 0),(1,.int .i64 x0),(2,.int .i64 x1),(7,.ptr 1 0),(8,.int .i64 x2)],[.var (Ah.enc x3),.var (Y.enc x4)]⟩
def H7 (x0 x1 x2:Int) (x3:AG) (x4:U):Option (Int×AG):=(if (decide (x2<=(x3.1.length:Int)))=true then (if 0<=(i64.wrap (x2-1)) then (if (i64.wrap (x2-1))<(x3.1.length:Int) then (if 0<=(0:Int) then (if 0<((x3.1.getD (i64.wrap (x2-1)).toNat ([]:List Int)).length:Int) then (if (((x3.1.getD (i64.wrap (x2-1)).toNat ([]:List Int)).getD (0:Int).toNat 0) != x1)=true then (H6 x0 x1 (i64.wrap (x2+1)) x3 x4) else ((Xq x4 x3.1 x2).bind fun y1=>(if (!y1.2.2)=true then (some (1,x3)) else ((Fc y1.1 y1.2.1 ([]:List AK) x0 x3).bind fun y2=>(some (0,y2)))))) else none) else none) else none) else none) else (some (1,x3)))
def QP (x1 x2:Int) (b0:AG):Option (Int×AG):=(if 0<=(i64.wrap (x2-1)) then (if (i64.wrap (x2-1))<(b0.2.1.length:Int) then (H6 x1 x2 (i64.wrap ((((b0.2.1.getD (i64.wrap (x2-1)).toNat (0,0,false,false,false,false,([]:List Int),([]:List AA),0,0,0,0,(O,O,0),([]:List Int))).2).1)+1)) b0 (b0.2.1.getD (i64.wrap (x2-1)).toNat (0,0,false,false,false,false,([]:List Int),([]:List AA),0,0,0,0,(O,O,0),([]:List Int)))) else none) else none)
theorem LR:rq H7 H6:=lS (by kernel_rfl)
theorem Yx:Nm QP QL:=cT Du rfl ⟨rfl,rfl⟩ (by kernel_rfl)

def LT:=kE 0 [] [] 4 (AE Cs) kx
def Q7:St->Option (RT (BS.outs Cs)):=lG Ql [] [0,3,4,11] 4 (AE Cs) LT
def fY:=kB [] [0,3,4,11] 4 Q7
def Sk:=cG Qk fY (AE Cs) LT
def fZ:=kB [] [0,3,4,11] 4 Sk
def fa:=kE 1 [] [0,3,4,11] 4 Sk LT
def Q8 (x0:List AK) (x1 x2:Int) (x3:Bool) (x4:AG) (x5:U) (x6:List U) (x7:List AB) (x8:AK):Option AG:=cG Qj fZ (AE Cs) fa ⟨[(0,.ptr 0 0),(3,.lst Ay x0),(4,.int .i64 x1),(11,.int .i64 x2),(12,.ptr 4 0),(71,.bool x3)],[.var (Ah.enc x4),.var (Y.enc x5),.frz Y x6,.frz AJ x7,.var (Ay.enc x8)]⟩
def Cz (x0:List AK) (x1 x2:Int) (x3:AG) (x4:U) (x5:List U) (x6:List AB):Option AG:=Q7 ⟨[(0,.ptr 0 0),(3,.lst Ay x0),(4,.int .i64 x1),(11,.int .i64 x2)],[.var (Ah.enc x3),.var (Y.enc x4),.frz Y x5,.frz AJ x6]⟩
def Q9 (x0:List AK) (x1 x2:Int) (x3:Bool) (x4:AG) (x5:U) (x6:List U) (x7:List AB) (x8:AK):Option AG:=(if ([]:List AR).length+x4.2.2.2.length<=68719476736 then (if 0<=x8.1 then (if x8.1<((([]:List AR)++x4.2.2.2).length:Int) then (let z2:List AR:=(([]:List AR)++x4.2.2.2).set x8.1.toNat (((([]:List AR)++x4.2.2.2).getD x8.1.toNat (0,O,O,0,0,0,0,0,O)).1,(((([]:List AR)++x4.2.2.2).getD x8.1.toNat (0,O,O,0,0,0,0,0,O)).2).1,((((([]:List AR)++x4.2.2.2).getD x8.1.toNat (0,O,O,0,0,0,0,0,O)).2).2).1,(((((([]:List AR)++x4.2.2.2).getD x8.1.toNat (0,O,O,0,0,0,0,0,O)).2).2).2).1,x1,((((((([]:List AR)++x4.2.2.2).getD x8.1.toNat (0,O,O,0,0,0,0,0,O)).2).2).2).2).2); (let z3:List AR:=z2.set x8.1.toNat ((z2.getD x8.1.toNat (0,O,O,0,0,0,0,0,O)).1,((z2.getD x8.1.toNat (0,O,O,0,0,0,0,0,O)).2).1,(((z2.getD x8.1.toNat (0,O,O,0,0,0,0,0,O)).2).2).1,((((z2.getD x8.1.toNat (0,O,O,0,0,0,0,0,O)).2).2).2).1,(((((z2.getD x8.1.toNat (0,O,O,0,0,0,0,0,O)).2).2).2).2).1,x8.2.2.2.2.2,((((((z2.getD x8.1.toNat (0,O,O,0,0,0,0,0,O)).2).2).2).2).2).2); (let z4:List AR:=z3.set x8.1.toNat ((z3.getD x8.1.toNat (0,O,O,0,0,0,0,0,O)).1,((z3.getD x8.1.toNat (0,O,O,0,0,0,0,0,O)).2).1,(((z3.getD x8.1.toNat (0,O,O,0,0,0,0,0,O)).2).2).1,((((z3.getD x8.1.toNat (0,O,O,0,0,0,0,0,O)).2).2).2).1,(((((z3.getD x8.1.toNat (0,O,O,0,0,0,0,0,O)).2).2).2).2).1,((((((z3.getD x8.1.toNat (0,O,O,0,0,0,0,0,O)).2).2).2).2).2).1,x8.2.1,(((((((z3.getD x8.1.toNat (0,O,O,0,0,0,0,0,O)).2).2).2).2).2).2).2); (let z5:List AR:=z4.set x8.1.toNat ((z4.getD x8.1.toNat (0,O,O,0,0,0,0,0,O)).1,((z4.getD x8.1.toNat (0,O,O,0,0,0,0,0,O)).2).1,(((z4.getD x8.1.toNat (0,O,O,0,0,0,0,0,O)).2).2).1,((((z4.getD x8.1.toNat (0,O,O,0,0,0,0,0,O)).2).2).2).1,(((((z4.getD x8.1.toNat (0,O,O,0,0,0,0,0,O)).2).2).2).2).1,((((((z4.getD x8.1.toNat (0,O,O,0,0,0,0,0,O)).2).2).2).2).2).1,(((((((z4.getD x8.1.toNat (0,O,O,0,0,0,0,0,O)).2).2).2).2).2).2).1,x8.2.2.1,((((((((z4.getD x8.1.toNat (0,O,O,0,0,0,0,0,O)).2).2).2).2).2).2).2).2); (if (((z5.getD x8.1.toNat (0,O,O,0,0,0,0,0,O)).1)==2)=true then (let z6:List AR:=z5.set x8.1.toNat ((z5.getD x8.1.toNat (0,O,O,0,0,0,0,0,O)).1,((z5.getD x8.1.toNat (0,O,O,0,0,0,0,0,O)).2).1,(((z5.getD x8.1.toNat (0,O,O,0,0,0,0,0,O)).2).2).1,((((z5.getD x8.1.toNat (0,O,O,0,0,0,0,0,O)).2).2).2).1,(((((z5.getD x8.1.toNat (0,O,O,0,0,0,0,0,O)).2).2).2).2).1,((((((z5.getD x8.1.toNat (0,O,O,0,0,0,0,0,O)).2).2).2).2).2).1,(((((((z5.getD x8.1.toNat (0,O,O,0,0,0,0,0,O)).2).2).2).2).2).2).1,((((((((z5.getD x8.1.toNat (0,O,O,0,0,0,0,0,O)).2).2).2).2).2).2).2).1,x8.2.2.2.2.1); (Cz x0 x1 (i64.wrap (x2+1)) (x4.1,x4.2.1,x4.2.2.1,z6) x5 x6 x7)) else (Cz x0 x1 (i64.wrap (x2+1)) (x4.1,x4.2.1,x4.2.2.1,z5) x5 x6 x7)))))) else none) else none) else none)
def J_ (x0:List AK) (x1 x2:Int) (x3:AG) (x4:U) (x5:List U) (x6:List AB):Option AG:=(if (decide (x2<(x0.length:Int)))=true then (if 0<=x2 then (if x2<(x0.length:Int) then (if (decide (((x0.getD x2.toNat (0,0,0,O,O,0)).1)>=(x3.2.2.2.length:Int)))=true then (Cz x0 x1 (i64.wrap (x2+1)) x3 x4 x5 x6) else (if 0<=((x0.getD x2.toNat (0,0,0,O,O,0)).1) then (if ((x0.getD x2.toNat (0,0,0,O,O,0)).1)<(x3.2.2.2.length:Int) then (if (decide (((((((x3.2.2.2.getD ((x0.getD x2.toNat (0,0,0,O,O,0)).1).toNat (0,O,O,0,0,0,0,0,O)).2).2).2).2).1)>=0))=true then (Cz x0 x1 (i64.wrap (x2+1)) x3 x4 x5 x6) else (Q8 x0 x1 x2 (decide (((((((x3.2.2.2.getD ((x0.getD x2.toNat (0,0,0,O,O,0)).1).toNat (0,O,O,0,0,0,0,0,O)).2).2).2).2).1)>=0)) x3 x4 x5 x6 (x0.getD x2.toNat (0,0,0,O,O,0)))) else none) else none)) else none) else none) else (some x3))
def Wl (x1:U) (x2:List AB) (x3:List AK) (x4:Int) (b0:AG):Option AG:=(if ([]:List U).length+b0.2.1.length<=68719476736 then (if 0<=(i64.wrap (x1.1-1)) then (if (i64.wrap (x1.1-1))<((([]:List U)++b0.2.1).length:Int) then (let z1:List U:=(([]:List U)++b0.2.1).set ((i64.wrap (x1.1-1)).toNat) x1; (if ([]:List AB).length+b0.2.2.1.length<=68719476736 then (if (([]:List AB)++b0.2.2.1).length+x2.length<=68719476736 then (Cz x3 x4 0 (b0.1,z1,((([]:List AB)++b0.2.2.1)++x2),b0.2.2.2) x1 z1 ((([]:List AB)++b0.2.2.1)++x2)) else none) else none)) else none) else none) else none)
theorem dM:Le9 Q9 Q8:=jS (by kernel_rfl)
theorem Q_:zu J_ Cz:=lS (by kernel_rfl)
theorem lf:rq Wl Fc:=cT Cs rfl ⟨rfl,rfl⟩ (by kernel_rfl)
def vk (x0:U):Option U:=(some (x0.1,x0.2.1,true,false,false,false,([]:List Int),([]:List AA),0,0,0,0,(O,O,0),([]:List Int)))
theorem vm:MO vk ae:=cT Tk rfl ⟨rfl,rfl⟩ (by kernel_rfl)
def VT (x1:Int) (x2:AF) (b0:AG):Option (Int×AG):=(if ((b0.2.2.1.length:Int)==0)=true then (some (1,b0)) else (if (b0.2.2.1.length:Int)=0 then none else (if 0<=(Int.tmod x2.2.2.1 (b0.2.2.1.length:Int)) then (if (Int.tmod x2.2.2.1 (b0.2.2.1.length:Int))<(b0.2.2.1.length:Int) then (if (x2.1==4)=true then (if ([]:List AB).length+b0.2.2.1.length<=68719476736 then (if (([]:List AB)++b0.2.2.1).length+([b0.2.2.1.getD (Int.tmod x2.2.2.1 (b0.2.2.1.length:Int)).toNat (0,0,0,0,0,([]:List AA))]:List AB).length<=68719476736 then (some (0,(b0.1,b0.2.1,((([]:List AB)++b0.2.2.1)++([b0.2.2.1.getD (Int.tmod x2.2.2.1 (b0.2.2.1.length:Int)).toNat (0,0,0,0,0,([]:List AA))]:List AB)),b0.2.2.2))) else none) else none) else (if 0<=(0:Int) then (if 0<=(Int.tmod x2.2.2.1 (b0.2.2.1.length:Int)) then (if (Int.tmod x2.2.2.1 (b0.2.2.1.length:Int))<=(b0.2.2.1.length:Int) then (if 0<=(i64.wrap ((Int.tmod x2.2.2.1 (b0.2.2.1.length:Int))+1)) then (if (i64.wrap ((Int.tmod x2.2.2.1 (b0.2.2.1.length:Int))+1))<=(b0.2.2.1.length:Int) then (if (b0.2.2.1.length:Int)<=(b0.2.2.1.length:Int) then (if ([]:List AB).length+((b0.2.2.1.take (Int.tmod x2.2.2.1 (b0.2.2.1.length:Int)).toNat).drop (0:Int).toNat).length<=68719476736 then (if (([]:List AB)++((b0.2.2.1.take (Int.tmod x2.2.2.1 (b0.2.2.1.length:Int)).toNat).drop (0:Int).toNat)).length+((b0.2.2.1.take (b0.2.2.1.length:Int).toNat).drop (i64.wrap ((Int.tmod x2.2.2.1 (b0.2.2.1.length:Int))+1)).toNat).length<=68719476736 then (if (x2.1==3)=true then (some (0,(b0.1,b0.2.1,((([]:List AB)++((b0.2.2.1.take (Int.tmod x2.2.2.1 (b0.2.2.1.length:Int)).toNat).drop (0:Int).toNat))++((b0.2.2.1.take (b0.2.2.1.length:Int).toNat).drop (i64.wrap ((Int.tmod x2.2.2.1 (b0.2.2.1.length:Int))+1)).toNat)),b0.2.2.2))) else (if 0<=(i64.wrap (((((b0.2.2.1.getD (Int.tmod x2.2.2.1 (b0.2.2.1.length:Int)).toNat (0,0,0,0,0,([]:List AA))).2).2).1)-1)) then (if (i64.wrap (((((b0.2.2.1.getD (Int.tmod x2.2.2.1 (b0.2.2.1.length:Int)).toNat (0,0,0,0,0,([]:List AA))).2).2).1)-1))<(b0.2.1.length:Int) then ((SE (b0.2.1.getD (i64.wrap (((((b0.2.2.1.getD (Int.tmod x2.2.2.1 (b0.2.2.1.length:Int)).toNat (0,0,0,0,0,([]:List AA))).2).2).1)-1)).toNat (0,0,false,false,false,false,([]:List Int),([]:List AA),0,0,0,0,(O,O,0),([]:List Int))) b0.1 (b0.2.2.1.getD (Int.tmod x2.2.2.1 (b0.2.2.1.length:Int)).toNat (0,0,0,0,0,([]:List AA)))).bind fun y1=>((Fc y1.1 y1.2.1 y1.2.2 x1 (b0.1,b0.2.1,((([]:List AB)++((b0.2.2.1.take (Int.tmod x2.2.2.1 (b0.2.2.1.length:Int)).toNat).drop (0:Int).toNat))++((b0.2.2.1.take (b0.2.2.1.length:Int).toNat).drop (i64.wrap ((Int.tmod x2.2.2.1 (b0.2.2.1.length:Int))+1)).toNat)),b0.2.2.2)).bind fun y2=>(some (0,y2)))) else none) else none)) else none) else none) else none) else none) else none) else none) else none) else none)) else none) else none)))
theorem sR:Nm VT VP:=cT O0 rfl ⟨rfl,rfl⟩ (by kernel_rfl)
def bM:=cG PR (AE Ck) (AE Ck) kx
def bN:=kE 0 [(3,0)] [3] 1 bM kx
def Ze:St->Option (RT (BS.outs Ck)):=lG PQ [(3,0)] [0,3,4] 1 (AE Ck) bN
def D3 (x0:List AB) (x1:Int) (x2:List AB):Option (List AB):=Ze ⟨[(0,.lst AJ x0),(3,.row 0),(4,.int .i64 x1)],[.rows 112 AJ x2]⟩
def IY (x0:List AB) (x1:Int) (x2:List AB):Option (List AB):=(if (decide (x1<(x0.length:Int)))=true then (if 0<=x1 then (if x1<(x0.length:Int) then (if ([]:List AA).length+((((((x0.getD x1.toNat (0,0,0,0,0,([]:List AA))).2).2).2).2).2).length<=68719476736 then (if x2.length+([((x0.getD x1.toNat (0,0,0,0,0,([]:List AA))).1,((x0.getD x1.toNat (0,0,0,0,0,([]:List AA))).2).1,(((x0.getD x1.toNat (0,0,0,0,0,([]:List AA))).2).2).1,((((x0.getD x1.toNat (0,0,0,0,0,([]:List AA))).2).2).2).1,(((((x0.getD x1.toNat (0,0,0,0,0,([]:List AA))).2).2).2).2).1,(([]:List AA)++((((((x0.getD x1.toNat (0,0,0,0,0,([]:List AA))).2).2).2).2).2)))]:List AB).length<=68719476736 then (D3 x0 (i64.wrap (x1+1)) (x2++([((x0.getD x1.toNat (0,0,0,0,0,([]:List AA))).1,((x0.getD x1.toNat (0,0,0,0,0,([]:List AA))).2).1,(((x0.getD x1.toNat (0,0,0,0,0,([]:List AA))).2).2).1,((((x0.getD x1.toNat (0,0,0,0,0,([]:List AA))).2).2).2).1,(((((x0.getD x1.toNat (0,0,0,0,0,([]:List AA))).2).2).2).2).1,(([]:List AA)++((((((x0.getD x1.toNat (0,0,0,0,0,([]:List AA))).2).2).2).2).2)))]:List AB))) else none) else none) else none) else none) else (some x2))
def Sl (x0:List AB):Option (List AB):=(D3 x0 0 ([]:List AB))
theorem N1:Nm IY D3:=lS (by kernel_rfl)
theorem fb:MO Sl K7:=cT Ck rfl ⟨rfl,rfl⟩ (by kernel_rfl)
def bO (x0:U):Option U:=(if ([]:List Int).length+x0.2.2.2.2.2.2.1.length<=68719476736 then (if ([]:List AA).length+x0.2.2.2.2.2.2.2.1.length<=68719476736 then (if ([]:List Int).length+x0.2.2.2.2.2.2.2.2.2.2.2.2.2.length<=68719476736 then (some (x0.1,x0.2.1,x0.2.2.1,x0.2.2.2.1,x0.2.2.2.2.1,x0.2.2.2.2.2.1,(([]:List Int)++x0.2.2.2.2.2.2.1),(([]:List AA)++x0.2.2.2.2.2.2.2.1),x0.2.2.2.2.2.2.2.2.1,x0.2.2.2.2.2.2.2.2.2.1,x0.2.2.2.2.2.2.2.2.2.2.1,x0.2.2.2.2.2.2.2.2.2.2.2.1,x0.2.2.2.2.2.2.2.2.2.2.2.2.1,(([]:List Int)++x0.2.2.2.2.2.2.2.2.2.2.2.2.2))) else none) else none) else none)
theorem qt:MO bO Dh:=cT MX rfl ⟨rfl,rfl⟩ (by kernel_rfl)
def lg:=cG MY (AE BY) (AE BY) kx
def lh:=kE 2 [(5,0)] [5] 1 lg kx
def i8:St->Option (RT (BS.outs BY)):=lG Tl [(5,0)] [5,28,29,30] 1 (AE BY) lh
def ln:=cG MZ (AE BY) (AE BY) kx
def lq:=kE 0 [] [0] 0 ln kx
def i_:St->Option (RT (BS.outs BY)):=lG WD [] [0,4] 0 (AE BY) lq
def Ug (x0:List ByteArray):Option (List ByteArray×Bool):=cG MY (AE BY) (AE BY) kx ⟨[(5,.row 0)],[.rows 9 .str x0]⟩
def Gi (x0:List ByteArray) (x1 x2:Int) (x3:List ByteArray):Option (List ByteArray×Bool):=i8 ⟨[(5,.row 0),(28,.lst .str x0),(29,.int .i64 x1),(30,.int .i64 x2)],[.rows 9 .str x3]⟩
def Uh (x0:ByteArray):Option (List ByteArray×Bool):=cG MZ (AE BY) (AE BY) kx ⟨[(0,.str x0)],[]⟩
def Iw (x0:ByteArray) (x1:Int):Option (List ByteArray×Bool):=i_ ⟨[(0,.str x0),(4,.int .i64 x1)],[]⟩
def Ui (x0:List ByteArray):Option (List ByteArray×Bool):=(if (decide ((x0.length:Int)>10))=true then (some ([],false)) else (some (x0,true)))
def NI (x0:List ByteArray) (x1 x2:Int) (x3:List ByteArray):Option (List ByteArray×Bool):=(if (decide (x2<x1))=true then (if 0<=x2 then (if x2<(x0.length:Int) then (if (!((x0.getD x2.toNat O).toList==(⟨#[]⟩:ByteArray).toList))=true then (if x3.length+([(x0.getD x2.toNat O)]:List ByteArray).length<=68719476736 then (Gi x0 x1 (i64.wrap (x2+1)) (x3++([(x0.getD x2.toNat O)]:List ByteArray))) else none) else (Gi x0 x1 (i64.wrap (x2+1)) x3)) else none) else none) else (Ug x3))
def Uj (x0:ByteArray):Option (List ByteArray×Bool):=((GI x0 (⟨#[32]⟩:ByteArray)).bind fun y1=>(Gi y1 (y1.length:Int) 0 ([]:List ByteArray)))
def NJ (x0:ByteArray) (x1:Int):Option (List ByteArray×Bool):=(if (decide (x1<(x0.size:Int)))=true then (if 0<=x1 then (if x1<(x0.size:Int) then (if (decide (((x0.data.toList.getD x1.toNat 0).toNat:Int)<32))=false then (if 0<=x1 then (if x1<(x0.size:Int) then (if (decide (((x0.data.toList.getD x1.toNat 0).toNat:Int)>126))=true then (some ([],false)) else (Iw x0 (i64.wrap (x1+1)))) else none) else none) else (some ([],false))) else none) else none) else (Uh x0))
def bP (x0:ByteArray):Option (List ByteArray×Bool):=(if (decide ((x0.size:Int)>600))=true then (some ([],false)) else (Iw x0 0))
theorem jA:MO Ui Ug:=jS (by kernel_rfl)
theorem Uk:eP NI Gi:=lS (by kernel_rfl)
theorem jB:MO Uj Uh:=jS (by kernel_rfl)
theorem Ul:Rb NJ Iw:=lS (by kernel_rfl)
theorem qu:MO bP SC:=cT BY rfl ⟨rfl,rfl⟩ (by kernel_rfl)
def RA (x0 x1:ByteArray):Option Bool:=((Dj x0 x1).bind fun y1=>(some y1))
theorem dN:Rb RA Jw:=cT G0 rfl ⟨rfl,rfl⟩ (by kernel_rfl)
def N2 (x0:List ByteArray) (x1:Bool) (x2:List (List Int)) (x3:List AF):Option (Bool×DF):=cG PS (AE D_) (AE D_) kx ⟨[(0,.ptr 0 0),(1,.lst .str x0),(17,.bool x1)],[.var [.row 1,.row 2],.rows 37 (.slice (.int .i64)) x2,.rows 72 AM x3]⟩
def IZ (x0:List ByteArray) (x1:Bool) (x2:List (List Int)) (x3:List AF):Option (Bool×DF):=(if 0<=(1:Int) then (if 1<(x0.length:Int) then ((VQ (x0.getD (1:Int).toNat O)).bind fun y1=>(if x2.length+([y1.1]:List (List Int)).length<=68719476736 then (if y1.2=true then ((DB (x2++([y1.1]:List (List Int)))).bind fun y2=>(some (y2,((x2++([y1.1]:List (List Int))),x3)))) else (some (false,((x2++([y1.1]:List (List Int))),x3)))) else none)) else none) else none)
def LU (x1:List ByteArray) (b0:DF):Option (Bool×DF):=(if ((x1.length:Int) != 2)=false then (if (decide ((b0.2.length:Int)>0))=true then (some (false,b0)) else (N2 x1 (decide ((b0.2.length:Int)>0)) b0.1 b0.2)) else (some (false,b0)))
theorem N3:eP IZ N2:=jS (by kernel_rfl)
theorem fc:Rb LU K8:=cT D_ rfl ⟨rfl,rfl⟩ (by kernel_rfl)
def Wm:=cG OP (AE Cl) (AE Cl) kx
def lr:=kB [] [2,7,8] 2 Wm
def lu:=kE 0 [] [2,7,8] 2 Wm kx
def Eg (x0:Bool) (x1 x2:AF):Option (AF×Bool):=cG OP (AE Cl) (AE Cl) kx ⟨[(2,.ptr 0 0),(7,.bool x0),(8,.ptr 1 0)],[.var (AM.enc x1),.var (AM.enc x2)]⟩
def Eh (x0:List ByteArray) (x1 x2:Int) (x3:Bool) (x4:Int) (x5:Bool) (x6 x7:AF):Option (AF×Bool):=cG WE lr (AE Cl) lu ⟨[(0,.lst .str x0),(2,.ptr 0 0),(5,.int .i64 x1),(6,.int .i64 x2),(7,.bool x3),(8,.ptr 1 0),(35,.int .i64 x4),(36,.bool x5)],[.var (AM.enc x6),.var (AM.enc x7)]⟩
def Ix (x0:List ByteArray) (x1 x2:Int) (x3:Bool) (x4:AF):Option (AF×Bool):=cG Tm (AE Cl) (AE Cl) kx ⟨[(0,.lst .str x0),(2,.ptr 0 0),(4,.int .i64 x1),(5,.int .i64 x2),(23,.bool x3)],[.var (AM.enc x4)]⟩
def Um (x0:Bool) (x1 x2:AF):Option (AF×Bool):=(if x0=true then ((Mn x2).bind fun y3=>(some (x2,y3))) else (some (x2,false)))
def Iy (x0:List ByteArray) (x1 x2:Int) (x3:Bool) (x4:Int) (x5:Bool) (x6 x7:AF):Option (AF×Bool):=(if x5=true then (Eg x3 x6 (x7.1,1,x2,x7.2.2.2)) else (if (x4==1)=true then (if 0<=(2:Int) then (if 2<(x0.length:Int) then (if (x1==4)=true then (if 0<=(3:Int) then (if 3<(x0.length:Int) then (Eg x3 x6 (x7.1,x7.2.1,x7.2.2.1,1,(x0.getD (2:Int).toNat O),(x0.getD (3:Int).toNat O))) else none) else none) else (Eg x3 x6 (x7.1,x7.2.1,x7.2.2.1,2,(x0.getD (2:Int).toNat O),x7.2.2.2.2.2))) else none) else none) else (Eg x3 x6 x7)))
def Iz (x0:List ByteArray) (x1 x2:Int) (x3:Bool) (x4:AF):Option (AF×Bool):=(if 0<=(1:Int) then (if 1<(x0.length:Int) then ((Hs (x0.getD (1:Int).toNat O)).bind fun y2=>(if (x1==2)=true then (Eh x0 x2 y2.1 y2.2 x1 (x1==2) x4 (x1,y2.1,0,0,O,O)) else (if (x1==3)=true then (Eh x0 x2 y2.1 y2.2 x1 (x1==3) x4 (x1,y2.1,0,0,O,O)) else (Eh x0 x2 y2.1 y2.2 x1 (x1==4) x4 (x1,y2.1,0,0,O,O))))) else none) else none)
def bQ (x0:List ByteArray):Option (AF×Bool):=(if 0<=(0:Int) then (if 0<(x0.length:Int) then ((VR (x0.getD (0:Int).toNat O)).bind fun y1=>(if (y1.1==0)=false then (if ((x0.length:Int) != y1.2)=true then (some ((0,0,0,0,O,O),false)) else (Ix x0 y1.1 y1.2 ((x0.length:Int) != y1.2) (0,0,0,0,O,O))) else (some ((0,0,0,0,O,O),false)))) else none) else none)
theorem jC:Nm Um Eg:=jS (by kernel_rfl)
theorem NK:xY Iy Eh:=jS (by kernel_rfl)
theorem NL:rq Iz Ix:=jS (by kernel_rfl)
theorem qv:MO bQ SD:=cT Cl rfl ⟨rfl,rfl⟩ (by kernel_rfl)
def qw:=cG aJ (AE GT) (AE GT) kx
def qx:=kE 0 [] [] 0 qw kx
def n8:St->Option (RT (BS.outs GT)):=lG aI [] [0,1,5] 0 (AE GT) qx
def Kn (x0:List Int) (x1 x2:Int):Option Bool:=n8 ⟨[(0,.lst (.int .i64) x0),(1,.int .i64 x1),(5,.int .i64 x2)],[]⟩
def QQ (x0:List Int) (x1 x2:Int):Option Bool:=(if (decide (x2<(x0.length:Int)))=true then (if 0<=x2 then (if x2<(x0.length:Int) then (if ((x0.getD x2.toNat 0)==x1)=true then (some true) else (Kn x0 x1 (i64.wrap (x2+1)))) else none) else none) else (some false))
def jD (x0:List Int) (x1:Int):Option Bool:=(Kn x0 x1 0)
theorem Yy:Nm QQ Kn:=lS (by kernel_rfl)
theorem uT:Rb jD FC:=cT GT rfl ⟨rfl,rfl⟩ (by kernel_rfl)
def VU:=cG KO (AE Bq) (AE Bq) kx
def VV:=kE 0 [] [] 0 VU kx
def S3:St->Option (RT (BS.outs Bq)):=lG KN [] [0,1,7,8] 0 (AE Bq) VV
def Cy (x0:List Int) (x1 x2 x3:Int):Option Int:=S3 ⟨[(0,.lst (.int .i64) x0),(1,.int .i64 x1),(7,.int .i64 x2),(8,.int .i64 x3)],[]⟩
def Bn (x0:List Int) (x1 x2 x3:Int):Option Int:=(if (decide (x3<x2))=true then (if 0<=x3 then (if x3<(x0.length:Int) then (if (x1==(x0.getD x3.toNat 0))=true then (some x3) else (Cy x0 x1 x2 (i64.wrap (x3+1)))) else none) else none) else (some (-1:Int)))
def Xv (x0:List Int) (x1:Int):Option Int:=(Cy x0 x1 (x0.length:Int) 0)
theorem CL:eP Bn Cy:=lS (by kernel_rfl)
theorem NM:Rb Xv Di:=cT Bq rfl ⟨rfl,rfl⟩ (by kernel_rfl)
def Jr (x0:List Int) (x1:Int):Option Bool:=((Di x0 x1).bind fun y1=>(some (decide (y1>=0))))
theorem S4:Rb Jr Cx:=cT D0 rfl ⟨rfl,rfl⟩ (by kernel_rfl)
def jE (x0:ByteArray):Option Bool:=((Ap (x0.size:Int) 1 12).bind fun y1=>(some y1))
theorem uU:MO jE RR:=cT RN rfl ⟨rfl,rfl⟩ (by kernel_rfl)
def Ko (x0:List Int) (x1 x2 x3:U) (x4:AA) (x5:List Int) (x6:AB):Option (U×List AB×List AK×Bool):=cG aL (AE EN) (AE EN) kx ⟨[(12,.ptr 1 0),(16,.ptr 2 0),(18,.lst (.int .i64) x0),(20,.ptr 5 0)],[.var (Y.enc x1),.var (Y.enc x2),.var (Y.enc x3),.var (AH.enc x4),.frz (.int .i64) x5,.var (AJ.enc x6)]⟩
def ID (x0:List (List Int)) (x1 x2:Int) (x3:Bool) (x4 x5 x6:U) (x7:AA):Option (U×List AB×List AK×Bool):=cG YB (AE EN) (AE EN) kx ⟨[(1,.lst (.slice (.int .i64)) x0),(2,.int .i64 x1),(3,.int .i64 x2),(6,.ptr 0 0),(12,.ptr 1 0),(16,.ptr 2 0),(17,.ptr 3 0),(69,.bool x3)],[.var (Y.enc x4),.var (Y.enc x5),.var (Y.enc x6),.var (AH.enc x7)]⟩
def Yz (x0:List (List Int)) (x1 x2:Int) (x3 x4:ByteArray) (x5:Bool) (x6 x7:U):Option (U×List AB×List AK×Bool):=cG YC (AE EN) (AE EN) kx ⟨[(1,.lst (.slice (.int .i64)) x0),(2,.int .i64 x1),(3,.int .i64 x2),(4,.str x3),(5,.str x4),(6,.ptr 0 0),(12,.ptr 1 0),(37,.bool x5)],[.var (Y.enc x6),.var (Y.enc x7)]⟩
def Y0 (x0:List Int) (x1 x2 x3:U) (x4:AA) (x5:List Int) (x6:AB):Option (U×List AB×List AK×Bool):=(if ((x0.length:Int)==0)=true then ((Hu x3).bind fun y9=>(some (y9.2,[],y9.1,true))) else (uw ((An x0 x6 x3).bind fun y10=>(some (x3,y10.1,[],true))) ((An x0 x6 x3).bind fun y11=>(some (y11.2,y11.1,[],true)))))
def Y1 (x0:List (List Int)) (x1 x2:Int) (x3:Bool) (x4 x5 x6:U) (x7:AA):Option (U×List AB×List AK×Bool):=(if 0<=(i64.wrap (x4.2.1-1)) then (if (i64.wrap (x4.2.1-1))<(x0.length:Int) then ((CJ (x0.getD (i64.wrap (x4.2.1-1)).toNat ([]:List Int)) x6).bind fun y6=>((Bs y6.1).bind fun y7=>((C8 y7).bind fun y8=>(if (x1==1)=true then (Ko y6.1 x4 x5 (y6.2.1,y6.2.2.1,y6.2.2.2.1,y6.2.2.2.2.1,y6.2.2.2.2.2.1,y6.2.2.2.2.2.2.1,y6.2.2.2.2.2.2.2.1,y6.2.2.2.2.2.2.2.2.1,y6.2.2.2.2.2.2.2.2.2.1,x1,x2,y6.2.2.2.2.2.2.2.2.2.1,x7,y8) x7 y8 (5,0,0,0,y6.2.2.2.2.2.2.2.2.2.1,([x7]:List AA))) else (Ko y6.1 x4 x5 (y6.2.1,y6.2.2.1,y6.2.2.2.1,y6.2.2.2.2.1,y6.2.2.2.2.2.1,y6.2.2.2.2.2.2.1,y6.2.2.2.2.2.2.2.1,y6.2.2.2.2.2.2.2.2.1,y6.2.2.2.2.2.2.2.2.2.1,x1,x2,y6.2.2.2.2.2.2.2.2.2.1,x7,y8) x7 y8 (7,0,0,0,y6.2.2.2.2.2.2.2.2.2.1,([]:List AA))))))) else none) else none)
def Y2 (x0:List (List Int)) (x1 x2:Int) (x3 x4:ByteArray) (x5:Bool) (x6 x7:U):Option (U×List AB×List AK×Bool):=((C6 x6).bind fun y4=>(if (x1==1)=true then (if ((x6.2.2.2.2.2.2.2.1.length:Int)==12)=true then ((O2 x6.2.2.2.2.2.2.2.1 x3).bind fun y5=>(if (false != Zv AH y5 (O,O,0))=true then (some ((0,0,false,false,false,false,([]:List Int),([]:List AA),0,0,0,0,(O,O,0),([]:List Int)),[],[],false)) else (ID x0 x1 x2 (false != Zv AH y5 (O,O,0)) x6 x7 (y4.1,y4.2.1,y4.2.2.1,y4.2.2.2.1,y4.2.2.2.2.1,y4.2.2.2.2.2.1,y4.2.2.2.2.2.2.1,y4.2.2.2.2.2.2.2.1,(i64.wrap (y4.2.2.2.2.2.2.2.2.1+1)),y4.2.2.2.2.2.2.2.2.2) (x3,x4,(i64.wrap ((i64.wrap (1000*x6.2.1))+(i64.wrap (y4.2.2.2.2.2.2.2.2.1+1)))))))) else (ID x0 x1 x2 false x6 x7 (y4.1,y4.2.1,y4.2.2.1,y4.2.2.2.1,y4.2.2.2.2.1,y4.2.2.2.2.2.1,y4.2.2.2.2.2.2.1,y4.2.2.2.2.2.2.2.1,(i64.wrap (y4.2.2.2.2.2.2.2.2.1+1)),y4.2.2.2.2.2.2.2.2.2) (x3,x4,(i64.wrap ((i64.wrap (1000*x6.2.1))+(i64.wrap (y4.2.2.2.2.2.2.2.2.1+1))))))) else (ID x0 x1 x2 false x6 x7 (y4.1,y4.2.1,y4.2.2.1,y4.2.2.2.1,y4.2.2.2.2.1,y4.2.2.2.2.2.1,y4.2.2.2.2.2.2.1,y4.2.2.2.2.2.2.2.1,(i64.wrap (y4.2.2.2.2.2.2.2.2.1+1)),y4.2.2.2.2.2.2.2.2.2) (x3,x4,(i64.wrap ((i64.wrap (1000*x6.2.1))+(i64.wrap (y4.2.2.2.2.2.2.2.2.1+1))))))))
def jF (x0:U) (x1:List (List Int)) (x2 x3:Int) (x4 x5:ByteArray):Option (U×List AB×List AK×Bool):=((GG x0).bind fun y1=>(if (!y1)=false then ((Ht x1 x0).bind fun y2=>(if (!y2.1)=false then ((Mo x2 x3 x4 x5).bind fun y3=>(if (!y3)=true then (some ((0,0,false,false,false,false,([]:List Int),([]:List AA),0,0,0,0,(O,O,0),([]:List Int)),[],[],false)) else (Yz x1 x2 x3 x4 x5 (!y3) y2.2 (0,0,false,false,false,false,([]:List Int),([]:List AA),0,0,0,0,(O,O,0),([]:List Int))))) else (some ((0,0,false,false,false,false,([]:List Int),([]:List AA),0,0,0,0,(O,O,0),([]:List Int)),[],[],false)))) else (some ((0,0,false,false,false,false,([]:List Int),([]:List AA),0,0,0,0,(O,O,0),([]:List Int)),[],[],false))))
theorem n9:zu Y0 Ko:=jS (by kernel_rfl)
theorem n_:xY Y1 ID:=jS (by kernel_rfl)
theorem oA:xY Y2 Yz:=jS (by kernel_rfl)
theorem uV:wg jF RS:=cT EN rfl ⟨rfl,rfl⟩ (by kernel_rfl)
def KA:=kE 0 [] [] 4 (AE Cb) kx
def Pr:St->Option (RT (BS.outs Cb)):=lG Qo [] [0,3,20,21,22] 4 (AE Cb) KA
def dO:=kB [] [0,3,20,21,22] 4 Pr
def RB:=cG Qn dO (AE Cb) KA
def dP:=kB [] [0,3,20,21,22] 4 RB
def dQ:=kE 1 [] [0,3,20,21,22] 4 RB KA
def Ps (x0:Int) (x1:List AK) (x2 x3:Int) (x4:Bool) (x5:List (List Int)) (x6:List U) (x7:List AB) (x8:List AR) (x9:AK):Option AG:=cG Qm dP (AE Cb) dQ ⟨[(0,.ptr 0 0),(3,.int .i64 x0),(9,.ptr 4 0),(20,.lst Ay x1),(21,.int .i64 x2),(22,.int .i64 x3),(47,.bool x4)],[.var [.lst (.slice (.int .i64)) x5,.row 1,.row 2,.row 3],.rows 49 Y x6,.rows 112 AJ x7,.rows 42 As x8,.var (Ay.enc x9)]⟩
def Cn (x0:Int) (x1:List AK) (x2 x3:Int) (x4:List (List Int)) (x5:List U) (x6:List AB) (x7:List AR):Option AG:=Pr ⟨[(0,.ptr 0 0),(3,.int .i64 x0),(20,.lst Ay x1),(21,.int .i64 x2),(22,.int .i64 x3)],[.var [.lst (.slice (.int .i64)) x4,.row 1,.row 2,.row 3],.rows 49 Y x5,.rows 112 AJ x6,.rows 42 As x7]⟩
def Pt (x0:Int) (x1:List AK) (x2 x3:Int) (x4:Bool) (x5:List (List Int)) (x6:List U) (x7:List AB) (x8:List AR) (x9:AK):Option AG:=(if 0<=x9.1 then (if x9.1<(x8.length:Int) then (let z2:List AR:=x8.set x9.1.toNat ((x8.getD x9.1.toNat (0,O,O,0,0,0,0,0,O)).1,((x8.getD x9.1.toNat (0,O,O,0,0,0,0,0,O)).2).1,(((x8.getD x9.1.toNat (0,O,O,0,0,0,0,0,O)).2).2).1,((((x8.getD x9.1.toNat (0,O,O,0,0,0,0,0,O)).2).2).2).1,x0,(((((x8.getD x9.1.toNat (0,O,O,0,0,0,0,0,O)).2).2).2).2).2); (let z3:List AR:=z2.set x9.1.toNat ((z2.getD x9.1.toNat (0,O,O,0,0,0,0,0,O)).1,((z2.getD x9.1.toNat (0,O,O,0,0,0,0,0,O)).2).1,(((z2.getD x9.1.toNat (0,O,O,0,0,0,0,0,O)).2).2).1,((((z2.getD x9.1.toNat (0,O,O,0,0,0,0,0,O)).2).2).2).1,(((((z2.getD x9.1.toNat (0,O,O,0,0,0,0,0,O)).2).2).2).2).1,x9.2.2.2.2.2,((((((z2.getD x9.1.toNat (0,O,O,0,0,0,0,0,O)).2).2).2).2).2).2); (let z4:List AR:=z3.set x9.1.toNat ((z3.getD x9.1.toNat (0,O,O,0,0,0,0,0,O)).1,((z3.getD x9.1.toNat (0,O,O,0,0,0,0,0,O)).2).1,(((z3.getD x9.1.toNat (0,O,O,0,0,0,0,0,O)).2).2).1,((((z3.getD x9.1.toNat (0,O,O,0,0,0,0,0,O)).2).2).2).1,(((((z3.getD x9.1.toNat (0,O,O,0,0,0,0,0,O)).2).2).2).2).1,((((((z3.getD x9.1.toNat (0,O,O,0,0,0,0,0,O)).2).2).2).2).2).1,x9.2.1,(((((((z3.getD x9.1.toNat (0,O,O,0,0,0,0,0,O)).2).2).2).2).2).2).2); (let z5:List AR:=z4.set x9.1.toNat ((z4.getD x9.1.toNat (0,O,O,0,0,0,0,0,O)).1,((z4.getD x9.1.toNat (0,O,O,0,0,0,0,0,O)).2).1,(((z4.getD x9.1.toNat (0,O,O,0,0,0,0,0,O)).2).2).1,((((z4.getD x9.1.toNat (0,O,O,0,0,0,0,0,O)).2).2).2).1,(((((z4.getD x9.1.toNat (0,O,O,0,0,0,0,0,O)).2).2).2).2).1,((((((z4.getD x9.1.toNat (0,O,O,0,0,0,0,0,O)).2).2).2).2).2).1,(((((((z4.getD x9.1.toNat (0,O,O,0,0,0,0,0,O)).2).2).2).2).2).2).1,x9.2.2.1,((((((((z4.getD x9.1.toNat (0,O,O,0,0,0,0,0,O)).2).2).2).2).2).2).2).2); (if (((z5.getD x9.1.toNat (0,O,O,0,0,0,0,0,O)).1)==2)=true then (let z6:List AR:=z5.set x9.1.toNat ((z5.getD x9.1.toNat (0,O,O,0,0,0,0,0,O)).1,((z5.getD x9.1.toNat (0,O,O,0,0,0,0,0,O)).2).1,(((z5.getD x9.1.toNat (0,O,O,0,0,0,0,0,O)).2).2).1,((((z5.getD x9.1.toNat (0,O,O,0,0,0,0,0,O)).2).2).2).1,(((((z5.getD x9.1.toNat (0,O,O,0,0,0,0,0,O)).2).2).2).2).1,((((((z5.getD x9.1.toNat (0,O,O,0,0,0,0,0,O)).2).2).2).2).2).1,(((((((z5.getD x9.1.toNat (0,O,O,0,0,0,0,0,O)).2).2).2).2).2).2).1,((((((((z5.getD x9.1.toNat (0,O,O,0,0,0,0,0,O)).2).2).2).2).2).2).2).1,x9.2.2.2.2.1); (Cn x0 x1 x2 (i64.wrap (x3+1)) x5 x6 x7 z6)) else (Cn x0 x1 x2 (i64.wrap (x3+1)) x5 x6 x7 z5)))))) else none) else none)
def JN (x0:Int) (x1:List AK) (x2 x3:Int) (x4:List (List Int)) (x5:List U) (x6:List AB) (x7:List AR):Option AG:=(if (decide (x3<x2))=true then (if 0<=x3 then (if x3<(x1.length:Int) then ((Ap ((x1.getD x3.toNat (0,0,0,O,O,0)).1) 0 (i64.wrap ((x7.length:Int)-1))).bind fun y1=>(if (!y1)=true then (Cn x0 x1 x2 (i64.wrap (x3+1)) x4 x5 x6 x7) else (if 0<=((x1.getD x3.toNat (0,0,0,O,O,0)).1) then (if ((x1.getD x3.toNat (0,0,0,O,O,0)).1)<(x7.length:Int) then (if (((((((x7.getD (((x1.getD x3.toNat (0,0,0,O,O,0)).1).toNat) (0,O,O,0,0,0,0,0,O)).2).2).2).2).1) != (-1:Int))=true then (Cn x0 x1 x2 (i64.wrap (x3+1)) x4 x5 x6 x7) else (Ps x0 x1 x2 x3 (((((((x7.getD (((x1.getD x3.toNat (0,0,0,O,O,0)).1).toNat) (0,O,O,0,0,0,0,0,O)).2).2).2).2).1) != (-1:Int)) x4 x5 x6 x7 (x1.getD x3.toNat (0,0,0,O,O,0)))) else none) else none))) else none) else none) else (some (x4,x5,x6,x7)))
def Un (x1:List AB) (x2:List AK) (x3:Int) (b0:AG):Option AG:=(if b0.2.2.1.length+x1.length<=68719476736 then (Cn x3 x2 (x2.length:Int) 0 b0.1 b0.2.1 (b0.2.2.1++x1) b0.2.2.2) else none)
theorem bR:yc Pt Ps:=jS (by kernel_rfl)
theorem Pu:xY JN Cn:=lS (by kernel_rfl)
theorem jG:eP Un GX:=cT Cb rfl ⟨rfl,rfl⟩ (by kernel_rfl)
def Kp (x0:List (List Int)) (x1:Int) (x2:Bool) (x3 x4 x5:U):Option (U×List AB×Bool):=cG YH (AE GU) (AE GU) kx ⟨[(1,.lst (.slice (.int .i64)) x0),(2,.int .i64 x1),(6,.ptr 1 0),(9,.ptr 2 0),(10,.bool x2)],[.var (Y.enc x3),.var (Y.enc x4),.var (Y.enc x5)]⟩
def Y3 (x0:List (List Int)) (x1:Int) (x2:Bool) (x3 x4:U):Option (U×List AB×Bool):=cG YI (AE GU) (AE GU) kx ⟨[(1,.lst (.slice (.int .i64)) x0),(2,.int .i64 x1),(3,.ptr 0 0),(6,.ptr 1 0),(44,.bool x2)],[.var (Y.enc x3),.var (Y.enc x4)]⟩
def Y4 (x0:List (List Int)) (x1:Int) (x2:Bool) (x3 x4 x5:U):Option (U×List AB×Bool):=((GY x5).bind fun y5=>(if x2=true then (if 0<=(i64.wrap (x1-1)) then (if (i64.wrap (x1-1))<(x0.length:Int) then ((Dk (x0.getD (i64.wrap (x1-1)).toNat ([]:List Int)) y5.2.2.2.2.2.2.2.1 (y5.1,x1,false,false,true,y5.2.2.2.2.2)).bind fun y6=>(some (y6.2,y6.1,true))) else none) else none) else (if 0<=(i64.wrap (x1-2)) then (if (i64.wrap (x1-2))<(x0.length:Int) then (uw ((CJ (x0.getD (i64.wrap (x1-2)).toNat ([]:List Int)) (y5.1,x1,false,false,true,y5.2.2.2.2.2)).bind fun y7=>((An y7.1 (1,0,0,0,0,([]:List AA)) y7.2).bind fun y8=>(some ((y5.1,x1,false,false,true,y5.2.2.2.2.2),y8.1,true)))) ((CJ (x0.getD (i64.wrap (x1-2)).toNat ([]:List Int)) (y5.1,x1,false,false,true,y5.2.2.2.2.2)).bind fun y9=>(uw ((An y9.1 (1,0,0,0,0,([]:List AA)) y9.2).bind fun y10=>(some (y9.2,y10.1,true))) ((An y9.1 (1,0,0,0,0,([]:List AA)) y9.2).bind fun y11=>(some (y11.2,y11.1,true)))))) else none) else none)))
def Y5 (x0:List (List Int)) (x1:Int) (x2:Bool) (x3 x4:U):Option (U×List AB×Bool):=((C6 x3).bind fun y4=>(if x3.2.2.2.1=true then (Kp x0 x1 (x3.2.1==(i64.wrap (x1-1))) x3 x4 y4) else (Kp x0 x1 false x3 x4 y4)))
def jH (x0:U) (x1:List (List Int)) (x2:Int):Option (U×List AB×Bool):=((GG x0).bind fun y1=>(if (!y1)=true then (some ((0,0,false,false,false,false,([]:List Int),([]:List AA),0,0,0,0,(O,O,0),([]:List Int)),[],false)) else ((DB x1).bind fun y2=>(if (!y2)=true then (some ((0,0,false,false,false,false,([]:List Int),([]:List AA),0,0,0,0,(O,O,0),([]:List Int)),[],false)) else ((Ap x2 2 (x1.length:Int)).bind fun y3=>(if (!y3)=true then (some ((0,0,false,false,false,false,([]:List Int),([]:List AA),0,0,0,0,(O,O,0),([]:List Int)),[],false)) else (if (decide (x2<=x0.2.1))=true then (some ((0,0,false,false,false,false,([]:List Int),([]:List AA),0,0,0,0,(O,O,0),([]:List Int)),[],false)) else (if 0<=(i64.wrap (x2-1)) then (if (i64.wrap (x2-1))<(x1.length:Int) then (if 0<=(0:Int) then (if 0<((x1.getD (i64.wrap (x2-1)).toNat ([]:List Int)).length:Int) then (if (((x1.getD (i64.wrap (x2-1)).toNat ([]:List Int)).getD (0:Int).toNat 0) != x0.1)=true then (some ((0,0,false,false,false,false,([]:List Int),([]:List AA),0,0,0,0,(O,O,0),([]:List Int)),[],false)) else (Y3 x1 x2 (((x1.getD (i64.wrap (x2-1)).toNat ([]:List Int)).getD (0:Int).toNat 0) != x0.1) x0 (0,0,false,false,false,false,([]:List Int),([]:List AA),0,0,0,0,(O,O,0),([]:List Int)))) else none) else none) else none) else none))))))))
theorem oB:wg Y4 Kp:=jS (by kernel_rfl)
theorem oC:rq Y5 Y3:=jS (by kernel_rfl)
theorem uW:Nm jH RU:=cT GU rfl ⟨rfl,rfl⟩ (by kernel_rfl)
def HN:=cG DP (AE AY) (AE AY) kx
def HO:=kE 0 [] [] 0 HN kx
def Gx:St->Option (RT (BS.outs AY)):=lG DO [] [0,1,7,8] 0 (AE AY) HO
def BO (x0:List U) (x1 x2 x3:Int):Option Int:=Gx ⟨[(0,.lst Y x0),(1,.clo 95 (.int .i64) x1),(7,.int .i64 x2),(8,.int .i64 x3)],[]⟩
def B3 (x0:List U) (x1 x2 x3:Int):Option Int:=(if (decide (x3<x2))=true then (if 0<=x3 then (if x3<(x0.length:Int) then ((IR (x0.getD x3.toNat (0,0,false,false,false,false,([]:List Int),([]:List AA),0,0,0,0,(O,O,0),([]:List Int))) x1).bind fun y1=>(if y1=true then (some x3) else (BO x0 x1 x2 (i64.wrap (x3+1))))) else none) else none) else (some (-1:Int)))
def Dn (x0:List U) (x1:Int):Option Int:=(BO x0 x1 (x0.length:Int) 0)
theorem DI:eP B3 BO:=lS (by kernel_rfl)
theorem H8:Rb Dn CP:=cT AY rfl ⟨rfl,rfl⟩ (by kernel_rfl)
def N4 (x0:U) (x1:Int):Option Bool:=(some (x0.1==x1))
theorem Zf:Rb N4 IR:=cT Fw rfl ⟨rfl,rfl⟩ (by kernel_rfl)
def Pv (x1 x2:Int) (b0:AG):Option AG:=(if 0<=x1 then (if x1<(b0.2.2.1.length:Int) then ((Bm b0.2.2.1 x1 (i64.wrap (x1+1))).bind fun y1=>((B8 ((((b0.2.2.1.getD x1.toNat (0,0,0,0,0,([]:List AA))).2).2).1) (b0.1,b0.2.1,y1,b0.2.2.2)).bind fun y2=>(if (decide (y2.1>=0))=true then (if 0<=y2.1 then (if y2.1<(y2.2.2.1.length:Int) then ((Mp (y2.2.2.1.getD y2.1.toNat (0,0,false,false,false,false,([]:List Int),([]:List AA),0,0,0,0,(O,O,0),([]:List Int))) y2.2.1 (b0.2.2.1.getD x1.toNat (0,0,0,0,0,([]:List AA)))).bind fun y3=>(if 0<=y2.1 then (if y2.1<(y2.2.2.1.length:Int) then (let z4:List U:=y2.2.2.1.set y2.1.toNat y3.1; ((GX y3.2.1 y3.2.2 x2 (y2.2.1,z4,y2.2.2.2)).bind fun y5=>(some y5))) else none) else none)) else none) else none) else (some y2.2)))) else none) else none)
theorem bS:Nm Pv JE:=cT GV rfl ⟨rfl,rfl⟩ (by kernel_rfl)

def bT:=cG WH (AE B7) (AE B7) kx
def qy:=kE 0 [(16,2)] [12,16,17,18] 6 bT kx
def oD:St->Option (RT (BS.outs B7)):=lG OQ [(16,2)] [2,6,12,16,17,18,19,20,21] 6 (AE B7) qy
def qz:=kE 0 [(16,2)] [12,16,17,18] 5 bT kx
def oE:St->Option (RT (BS.outs B7)):=lG OQ [(16,2)] [2,6,12,16,17,18,19,20,21] 5 (AE B7) qz
def En (x0:Int) (x1:List AK) (x2:List Int) (x3:Int) (x4 x5:U) (x6:List AB) (x7:U) (x8:AA) (x9:List AA):Option (U×List AB×List AK×Bool):=oD ⟨[(2,.int .i64 x0),(6,.ptr 0 0),(12,.ptr 1 0),(16,.row 2),(17,.lst Ay x1),(18,.ptr 3 0),(19,.ptr 4 0),(20,.lst (.int .i64) x2),(21,.int .i64 x3)],[.var (Y.enc x4),.var (Y.enc x5),.rows 112 AJ x6,.var (Y.enc x7),.var (AH.enc x8),.rows 45 AH x9]⟩
def QR (x0:List (List Int)) (x1 x2:Int) (x3:List AK) (x4:Bool) (x5 x6:U) (x7:List AB) (x8:U) (x9:AA) (x10:List AA):Option (U×List AB×List AK×Bool):=cG OR (AE B7) (AE B7) kx ⟨[(1,.lst (.slice (.int .i64)) x0),(2,.int .i64 x1),(3,.int .i64 x2),(6,.ptr 0 0),(12,.ptr 1 0),(16,.row 2),(17,.lst Ay x3),(18,.ptr 3 0),(19,.ptr 4 0),(130,.bool x4)],[.var (Y.enc x5),.var (Y.enc x6),.rows 112 AJ x7,.var (Y.enc x8),.var (AH.enc x9),.rows 45 AH x10]⟩
def Eo (x0:Int) (x1:List AK) (x2:List Int) (x3:Int) (x4 x5:U) (x6:List AB) (x7:U) (x8:AA):Option (U×List AB×List AK×Bool):=oE ⟨[(2,.int .i64 x0),(6,.ptr 0 0),(12,.ptr 1 0),(16,.row 2),(17,.lst Ay x1),(18,.ptr 3 0),(19,.ptr 4 0),(20,.lst (.int .i64) x2),(21,.int .i64 x3)],[.var (Y.enc x4),.var (Y.enc x5),.rows 112 AJ x6,.var (Y.enc x7),.var (AH.enc x8)]⟩
def QS (x0:List (List Int)) (x1 x2:Int) (x3:List AK) (x4:Bool) (x5 x6:U) (x7:List AB) (x8:U) (x9:AA):Option (U×List AB×List AK×Bool):=cG OR (AE B7) (AE B7) kx ⟨[(1,.lst (.slice (.int .i64)) x0),(2,.int .i64 x1),(3,.int .i64 x2),(6,.ptr 0 0),(12,.ptr 1 0),(16,.row 2),(17,.lst Ay x3),(18,.ptr 3 0),(19,.ptr 4 0),(130,.bool x4)],[.var (Y.enc x5),.var (Y.enc x6),.rows 112 AJ x7,.var (Y.enc x8),.var (AH.enc x9)]⟩
def DH (x0:List (List Int)) (x1 x2:Int) (x3 x4:ByteArray) (x5:List AK) (x6:Bool) (x7 x8:U) (x9:List AB):Option (U×List AB×List AK×Bool):=cG WI (AE B7) (AE B7) kx ⟨[(1,.lst (.slice (.int .i64)) x0),(2,.int .i64 x1),(3,.int .i64 x2),(4,.str x3),(5,.str x4),(6,.ptr 0 0),(12,.ptr 1 0),(16,.row 2),(17,.lst Ay x5),(100,.bool x6)],[.var (Y.enc x7),.var (Y.enc x8),.rows 112 AJ x9]⟩
def QT (x0:Int) (x1:List AK) (x2:List Int) (x3:Int) (x4 x5:U) (x6:List AB) (x7:U) (x8:AA) (x9:List AA):Option (U×List AB×List AK×Bool):=(if (decide (x3<(x2.length:Int)))=true then (if 0<=x3 then (if x3<(x2.length:Int) then (if ((x2.getD x3.toNat 0)==x4.1)=true then (En x0 x1 x2 (i64.wrap (x3+1)) x4 x5 x6 x7 x8 x9) else (if 0<=x3 then (if x3<(x2.length:Int) then (if (x0==1)=true then (if x6.length+([(5,x4.1,(x2.getD x3.toNat 0),x4.2.1,x7.2.2.2.2.2.2.2.2.1,([x8]:List AA))]:List AB).length<=68719476736 then (En x0 x1 x2 (i64.wrap (x3+1)) x4 x5 (x6++([(5,x4.1,(x2.getD x3.toNat 0),x4.2.1,x7.2.2.2.2.2.2.2.2.1,([x8]:List AA))]:List AB)) x7 x8 x9) else none) else (if x6.length+([(7,x4.1,(x2.getD x3.toNat 0),x4.2.1,x7.2.2.2.2.2.2.2.2.1,([]:List AA))]:List AB).length<=68719476736 then (En x0 x1 x2 (i64.wrap (x3+1)) x4 x5 (x6++([(7,x4.1,(x2.getD x3.toNat 0),x4.2.1,x7.2.2.2.2.2.2.2.2.1,([]:List AA))]:List AB)) x7 x8 x9) else none)) else none) else none)) else none) else none) else (some (x7,x6,x1,true)))
def Y6 (x0:List (List Int)) (x1 x2:Int) (x3:List AK) (x4:Bool) (x5 x6:U) (x7:List AB) (x8:U) (x9:AA) (x10:List AA):Option (U×List AB×List AK×Bool):=(if 0<=(i64.wrap (x5.2.1-1)) then (if (i64.wrap (x5.2.1-1))<(x0.length:Int) then ((HL (x0.getD (i64.wrap (x5.2.1-1)).toNat ([]:List Int)) x5.1).bind fun y8=>(if ((y8.length:Int)==0)=true then ((HM (x8.1,x8.2.1,x8.2.2.1,x8.2.2.2.1,x8.2.2.2.2.1,x8.2.2.2.2.2.1,x8.2.2.2.2.2.2.1,x8.2.2.2.2.2.2.2.1,x8.2.2.2.2.2.2.2.2.1,x1,x2,x8.2.2.2.2.2.2.2.2.1,x9,y8)).bind fun y9=>(some (y9.2,x7,y9.1,true))) else (En x1 x3 (x0.getD (i64.wrap (x5.2.1-1)).toNat ([]:List Int)) 0 x5 x6 x7 (x8.1,x8.2.1,x8.2.2.1,x8.2.2.2.1,x8.2.2.2.2.1,x8.2.2.2.2.2.1,x8.2.2.2.2.2.2.1,x8.2.2.2.2.2.2.2.1,x8.2.2.2.2.2.2.2.2.1,x1,x2,x8.2.2.2.2.2.2.2.2.1,x9,y8) x9 x10))) else none) else none)
def QU (x0:Int) (x1:List AK) (x2:List Int) (x3:Int) (x4 x5:U) (x6:List AB) (x7:U) (x8:AA):Option (U×List AB×List AK×Bool):=(if (decide (x3<(x2.length:Int)))=true then (if 0<=x3 then (if x3<(x2.length:Int) then (if ((x2.getD x3.toNat 0)==x4.1)=true then (Eo x0 x1 x2 (i64.wrap (x3+1)) x4 x5 x6 x7 x8) else (if 0<=x3 then (if x3<(x2.length:Int) then (if (x0==1)=true then (if x6.length+([(5,x4.1,(x2.getD x3.toNat 0),x4.2.1,x7.2.2.2.2.2.2.2.2.1,([x8]:List AA))]:List AB).length<=68719476736 then (Eo x0 x1 x2 (i64.wrap (x3+1)) x4 x5 (x6++([(5,x4.1,(x2.getD x3.toNat 0),x4.2.1,x7.2.2.2.2.2.2.2.2.1,([x8]:List AA))]:List AB)) x7 x8) else none) else (if x6.length+([(7,x4.1,(x2.getD x3.toNat 0),x4.2.1,x7.2.2.2.2.2.2.2.2.1,([]:List AA))]:List AB).length<=68719476736 then (Eo x0 x1 x2 (i64.wrap (x3+1)) x4 x5 (x6++([(7,x4.1,(x2.getD x3.toNat 0),x4.2.1,x7.2.2.2.2.2.2.2.2.1,([]:List AA))]:List AB)) x7 x8) else none)) else none) else none)) else none) else none) else (some (x7,x6,x1,true)))
def Y7 (x0:List (List Int)) (x1 x2:Int) (x3:List AK) (x4:Bool) (x5 x6:U) (x7:List AB) (x8:U) (x9:AA):Option (U×List AB×List AK×Bool):=(if 0<=(i64.wrap (x5.2.1-1)) then (if (i64.wrap (x5.2.1-1))<(x0.length:Int) then ((HL (x0.getD (i64.wrap (x5.2.1-1)).toNat ([]:List Int)) x5.1).bind fun y10=>(if ((y10.length:Int)==0)=true then ((HM (x8.1,x8.2.1,x8.2.2.1,x8.2.2.2.1,x8.2.2.2.2.1,x8.2.2.2.2.2.1,x8.2.2.2.2.2.2.1,x8.2.2.2.2.2.2.2.1,x8.2.2.2.2.2.2.2.2.1,x1,x2,x8.2.2.2.2.2.2.2.2.1,x9,y10)).bind fun y11=>(some (y11.2,x7,y11.1,true))) else (Eo x1 x3 (x0.getD (i64.wrap (x5.2.1-1)).toNat ([]:List Int)) 0 x5 x6 x7 (x8.1,x8.2.1,x8.2.2.1,x8.2.2.2.1,x8.2.2.2.2.1,x8.2.2.2.2.2.1,x8.2.2.2.2.2.2.1,x8.2.2.2.2.2.2.2.1,x8.2.2.2.2.2.2.2.2.1,x1,x2,x8.2.2.2.2.2.2.2.2.1,x9,y10) x9))) else none) else none)
def Y8 (x0:List (List Int)) (x1 x2:Int) (x3 x4:ByteArray) (x5:List AK) (x6:Bool) (x7 x8:U) (x9:List AB):Option (U×List AB×List AK×Bool):=((Dh x7).bind fun y5=>(if (x1==1)=true then ((JF x7.2.2.2.2.2.2.2.1 (x3,x4,(i64.wrap ((i64.wrap (1000*x7.2.1))+(i64.wrap (x7.2.2.2.2.2.2.2.2.1+1)))))).bind fun y6=>((O3 y6 x3).bind fun y7=>(if (true != Zv AH y7 (x3,x4,(i64.wrap ((i64.wrap (1000*x7.2.1))+(i64.wrap (x7.2.2.2.2.2.2.2.2.1+1))))))=true then (some ((0,0,false,false,false,false,([]:List Int),([]:List AA),0,0,0,0,(O,O,0),([]:List Int)),x9,x5,false)) else (QR x0 x1 x2 x5 (true != Zv AH y7 (x3,x4,(i64.wrap ((i64.wrap (1000*x7.2.1))+(i64.wrap (x7.2.2.2.2.2.2.2.2.1+1)))))) x7 x8 x9 (y5.1,y5.2.1,y5.2.2.1,y5.2.2.2.1,y5.2.2.2.2.1,y5.2.2.2.2.2.1,y5.2.2.2.2.2.2.1,y5.2.2.2.2.2.2.2.1,(i64.wrap (x7.2.2.2.2.2.2.2.2.1+1)),y5.2.2.2.2.2.2.2.2.2) (x3,x4,(i64.wrap ((i64.wrap (1000*x7.2.1))+(i64.wrap (x7.2.2.2.2.2.2.2.2.1+1))))) y6)))) else (QS x0 x1 x2 x5 false x7 x8 x9 (y5.1,y5.2.1,y5.2.2.1,y5.2.2.2.1,y5.2.2.2.2.1,y5.2.2.2.2.2.1,y5.2.2.2.2.2.2.1,y5.2.2.2.2.2.2.2.1,(i64.wrap (x7.2.2.2.2.2.2.2.2.1+1)),y5.2.2.2.2.2.2.2.2.2) (x3,x4,(i64.wrap ((i64.wrap (1000*x7.2.1))+(i64.wrap (x7.2.2.2.2.2.2.2.2.1+1))))))))
def jI (x0:U) (x1:List (List Int)) (x2 x3:Int) (x4 x5:ByteArray):Option (U×List AB×List AK×Bool):=((GH x0).bind fun y1=>(if (!y1)=true then (some ((0,0,false,false,false,false,([]:List Int),([]:List AA),0,0,0,0,(O,O,0),([]:List Int)),([]:List AB),([]:List AK),false)) else ((DA x1).bind fun y2=>(if (!y2)=true then (some ((0,0,false,false,false,false,([]:List Int),([]:List AA),0,0,0,0,(O,O,0),([]:List Int)),([]:List AB),([]:List AK),false)) else (if (!x0.2.2.2.2.2.1)=true then (some ((0,0,false,false,false,false,([]:List Int),([]:List AA),0,0,0,0,(O,O,0),([]:List Int)),([]:List AB),([]:List AK),false)) else (if (x0.2.2.2.2.2.2.2.2.2.1 != 0)=true then (some ((0,0,false,false,false,false,([]:List Int),([]:List AA),0,0,0,0,(O,O,0),([]:List Int)),([]:List AB),([]:List AK),false)) else (if (decide (x0.2.2.2.2.2.2.2.2.1>=900))=true then (some ((0,0,false,false,false,false,([]:List Int),([]:List AA),0,0,0,0,(O,O,0),([]:List Int)),([]:List AB),([]:List AK),false)) else (if (x2 != 1)=true then (if (x2 != 2)=true then (some ((0,0,false,false,false,false,([]:List Int),([]:List AA),0,0,0,0,(O,O,0),([]:List Int)),([]:List AB),([]:List AK),false)) else ((AZ x3 0 1000).bind fun y3=>(if (!y3)=true then (some ((0,0,false,false,false,false,([]:List Int),([]:List AA),0,0,0,0,(O,O,0),([]:List Int)),([]:List AB),([]:List AK),false)) else ((AZ (x4.size:Int) 1 12).bind fun y4=>(if (!y4)=true then (some ((0,0,false,false,false,false,([]:List Int),([]:List AA),0,0,0,0,(O,O,0),([]:List Int)),([]:List AB),([]:List AK),false)) else (if (decide ((x5.size:Int)>20))=true then (some ((0,0,false,false,false,false,([]:List Int),([]:List AA),0,0,0,0,(O,O,0),([]:List Int)),([]:List AB),([]:List AK),false)) else (if (x2==2)=true then (if (!(x5.toList==(⟨#[]⟩:ByteArray).toList))=true then (some ((0,0,false,false,false,false,([]:List Int),([]:List AA),0,0,0,0,(O,O,0),([]:List Int)),([]:List AB),([]:List AK),false)) else (if (decide (x0.2.1>(x1.length:Int)))=true then (some ((0,0,false,false,false,false,([]:List Int),([]:List AA),0,0,0,0,(O,O,0),([]:List Int)),([]:List AB),([]:List AK),false)) else (if 0<=(i64.wrap (x0.2.1-1)) then (if (i64.wrap (x0.2.1-1))<(x1.length:Int) then (if 0<=(0:Int) then (if 0<((x1.getD (i64.wrap (x0.2.1-1)).toNat ([]:List Int)).length:Int) then (if (((x1.getD (i64.wrap (x0.2.1-1)).toNat ([]:List Int)).getD (0:Int).toNat 0) != x0.1)=true then (some ((0,0,false,false,false,false,([]:List Int),([]:List AA),0,0,0,0,(O,O,0),([]:List Int)),([]:List AB),([]:List AK),false)) else (DH x1 x2 x3 x4 x5 ([]:List AK) (((x1.getD (i64.wrap (x0.2.1-1)).toNat ([]:List Int)).getD (0:Int).toNat 0) != x0.1) x0 (0,0,false,false,false,false,([]:List Int),([]:List AA),0,0,0,0,(O,O,0),([]:List Int)) ([]:List AB))) else none) else none) else none) else none))) else (if (decide (x0.2.1>(x1.length:Int)))=true then (some ((0,0,false,false,false,false,([]:List Int),([]:List AA),0,0,0,0,(O,O,0),([]:List Int)),([]:List AB),([]:List AK),false)) else (if 0<=(i64.wrap (x0.2.1-1)) then (if (i64.wrap (x0.2.1-1))<(x1.length:Int) then (if 0<=(0:Int) then (if 0<((x1.getD (i64.wrap (x0.2.1-1)).toNat ([]:List Int)).length:Int) then (if (((x1.getD (i64.wrap (x0.2.1-1)).toNat ([]:List Int)).getD (0:Int).toNat 0) != x0.1)=true then (some ((0,0,false,false,false,false,([]:List Int),([]:List AA),0,0,0,0,(O,O,0),([]:List Int)),([]:List AB),([]:List AK),false)) else (DH x1 x2 x3 x4 x5 ([]:List AK) (((x1.getD (i64.wrap (x0.2.1-1)).toNat ([]:List Int)).getD (0:Int).toNat 0) != x0.1) x0 (0,0,false,false,false,false,([]:List Int),([]:List AA),0,0,0,0,(O,O,0),([]:List Int)) ([]:List AB))) else none) else none) else none) else none))))))))) else ((AZ x3 0 1000).bind fun y12=>(if (!y12)=true then (some ((0,0,false,false,false,false,([]:List Int),([]:List AA),0,0,0,0,(O,O,0),([]:List Int)),([]:List AB),([]:List AK),false)) else ((AZ (x4.size:Int) 1 12).bind fun y13=>(if (!y13)=true then (some ((0,0,false,false,false,false,([]:List Int),([]:List AA),0,0,0,0,(O,O,0),([]:List Int)),([]:List AB),([]:List AK),false)) else (if (decide ((x5.size:Int)>20))=true then (some ((0,0,false,false,false,false,([]:List Int),([]:List AA),0,0,0,0,(O,O,0),([]:List Int)),([]:List AB),([]:List AK),false)) else (if (x2==2)=true then (if (!(x5.toList==(⟨#[]⟩:ByteArray).toList))=true then (some ((0,0,false,false,false,false,([]:List Int),([]:List AA),0,0,0,0,(O,O,0),([]:List Int)),([]:List AB),([]:List AK),false)) else (if (decide (x0.2.1>(x1.length:Int)))=true then (some ((0,0,false,false,false,false,([]:List Int),([]:List AA),0,0,0,0,(O,O,0),([]:List Int)),([]:List AB),([]:List AK),false)) else (if 0<=(i64.wrap (x0.2.1-1)) then (if (i64.wrap (x0.2.1-1))<(x1.length:Int) then (if 0<=(0:Int) then (if 0<((x1.getD (i64.wrap (x0.2.1-1)).toNat ([]:List Int)).length:Int) then (if (((x1.getD (i64.wrap (x0.2.1-1)).toNat ([]:List Int)).getD (0:Int).toNat 0) != x0.1)=true then (some ((0,0,false,false,false,false,([]:List Int),([]:List AA),0,0,0,0,(O,O,0),([]:List Int)),([]:List AB),([]:List AK),false)) else (DH x1 x2 x3 x4 x5 ([]:List AK) (((x1.getD (i64.wrap (x0.2.1-1)).toNat ([]:List Int)).getD (0:Int).toNat 0) != x0.1) x0 (0,0,false,false,false,false,([]:List Int),([]:List AA),0,0,0,0,(O,O,0),([]:List Int)) ([]:List AB))) else none) else none) else none) else none))) else (if (decide (x0.2.1>(x1.length:Int)))=true then (some ((0,0,false,false,false,false,([]:List Int),([]:List AA),0,0,0,0,(O,O,0),([]:List Int)),([]:List AB),([]:List AK),false)) else (if 0<=(i64.wrap (x0.2.1-1)) then (if (i64.wrap (x0.2.1-1))<(x1.length:Int) then (if 0<=(0:Int) then (if 0<((x1.getD (i64.wrap (x0.2.1-1)).toNat ([]:List Int)).length:Int) then (if (((x1.getD (i64.wrap (x0.2.1-1)).toNat ([]:List Int)).getD (0:Int).toNat 0) != x0.1)=true then (some ((0,0,false,false,false,false,([]:List Int),([]:List AA),0,0,0,0,(O,O,0),([]:List Int)),([]:List AB),([]:List AK),false)) else (DH x1 x2 x3 x4 x5 ([]:List AK) (((x1.getD (i64.wrap (x0.2.1-1)).toNat ([]:List Int)).getD (0:Int).toNat 0) != x0.1) x0 (0,0,false,false,false,false,([]:List Int),([]:List AA),0,0,0,0,(O,O,0),([]:List Int)) ([]:List AB))) else none) else none) else none) else none))))))))))))))))
theorem Y9:yc QT En:=lS (by kernel_rfl)
theorem oF:ADT Y6 QR:=jS (by kernel_rfl)
theorem Y_:Le9 QU Eo:=lS (by kernel_rfl)
theorem oG:yc Y7 QS:=jS (by kernel_rfl)
theorem oH:yc Y8 DH:=jS (by kernel_rfl)
theorem uX:wg jI Xp:=cT B7 rfl ⟨rfl,rfl⟩ (by kernel_rfl)
def q8:=cG YX (AE DG) (AE DG) kx
def q9:=kE 0 [(9,2)] [6,9,11] 5 q8 kx
def oI:St->Option (RT (BS.outs DG)):=lG YW [(9,2)] [1,2,3,6,9,11,13] 5 (AE DG) q9
def GJ (x0:List (List Int)) (x1 x2:Int) (x3 x4:U) (x5:List AB) (x6:List AA) (x7:U):Option (U×List AB×Bool):=oI ⟨[(1,.lst (.slice (.int .i64)) x0),(2,.int .i64 x1),(3,.ptr 0 0),(6,.ptr 1 0),(9,.row 2),(11,.ptr 4 0),(13,.int .i64 x2)],[.var (Y.enc x3),.var (Y.enc x4),.rows 112 AJ x5,.frz AH x6,.var (Y.enc x7)]⟩
def IE (x0:List (List Int)) (x1:Int) (x2:Bool) (x3 x4:U) (x5:List AB):Option (U×List AB×Bool):=cG YY (AE DG) (AE DG) kx ⟨[(1,.lst (.slice (.int .i64)) x0),(2,.int .i64 x1),(3,.ptr 0 0),(6,.ptr 1 0),(9,.row 2),(10,.bool x2)],[.var (Y.enc x3),.var (Y.enc x4),.rows 112 AJ x5]⟩
def ZA (x0:List (List Int)) (x1:Int) (x2:Bool) (x3 x4:U) (x5:List AB):Option (U×List AB×Bool):=cG YZ (AE DG) (AE DG) kx ⟨[(1,.lst (.slice (.int .i64)) x0),(2,.int .i64 x1),(3,.ptr 0 0),(6,.ptr 1 0),(9,.row 2),(48,.bool x2)],[.var (Y.enc x3),.var (Y.enc x4),.rows 112 AJ x5]⟩
def QV (x0:List (List Int)) (x1 x2:Int) (x3 x4:U) (x5:List AB) (x6:List AA) (x7:U):Option (U×List AB×Bool):=(if 0<=(i64.wrap (x1-2)) then (if (i64.wrap (x1-2))<(x0.length:Int) then (if (decide (x2<((x0.getD (i64.wrap (x1-2)).toNat ([]:List Int)).length:Int)))=true then (if 0<=(i64.wrap (x1-2)) then (if (i64.wrap (x1-2))<(x0.length:Int) then (if 0<=x2 then (if x2<((x0.getD (i64.wrap (x1-2)).toNat ([]:List Int)).length:Int) then (if (((x0.getD (i64.wrap (x1-2)).toNat ([]:List Int)).getD x2.toNat 0) != x3.1)=true then (if x5.length+([(1,x3.1,((x0.getD (i64.wrap (x1-2)).toNat ([]:List Int)).getD x2.toNat 0),x1,0,([]:List AA))]:List AB).length<=68719476736 then (GJ x0 x1 (i64.wrap (x2+1)) x3 x4 (x5++([(1,x3.1,((x0.getD (i64.wrap (x1-2)).toNat ([]:List Int)).getD x2.toNat 0),x1,0,([]:List AA))]:List AB)) x6 x7) else none) else (GJ x0 x1 (i64.wrap (x2+1)) x3 x4 x5 x6 x7)) else none) else none) else none) else none) else ((Dh x7).bind fun y7=>(some (y7,x5,true)))) else none) else none)
def ZB (x0:List (List Int)) (x1:Int) (x2:Bool) (x3 x4:U) (x5:List AB):Option (U×List AB×Bool):=(if ([]:List AA).length+x3.2.2.2.2.2.2.2.1.length<=68719476736 then (if x2=true then (if 0<=(i64.wrap (x1-1)) then (if (i64.wrap (x1-1))<(x0.length:Int) then ((O4 (x0.getD (i64.wrap (x1-1)).toNat ([]:List Int)) x3.2.2.2.2.2.2.2.1 (x3.1,x1,false,false,true,false,([]:List Int),(([]:List AA)++x3.2.2.2.2.2.2.2.1),0,0,0,0,(O,O,0),([]:List Int))).bind fun y5=>((Dh y5.2).bind fun y6=>(some (y6,y5.1,true)))) else none) else none) else (GJ x0 x1 0 x3 x4 x5 (([]:List AA)++x3.2.2.2.2.2.2.2.1) (x3.1,x1,false,false,true,false,([]:List Int),(([]:List AA)++x3.2.2.2.2.2.2.2.1),0,0,0,0,(O,O,0),([]:List Int)))) else none)
def ZD (x0:List (List Int)) (x1:Int) (x2:Bool) (x3 x4:U) (x5:List AB):Option (U×List AB×Bool):=(if x3.2.2.2.1=true then (if (x3.2.1==(i64.wrap (x1-1)))=true then (if 0<=(i64.wrap (x1-2)) then (if (i64.wrap (x1-2))<(x0.length:Int) then ((FC (x0.getD (i64.wrap (x1-2)).toNat ([]:List Int)) x3.1).bind fun y4=>(IE x0 x1 y4 x3 x4 x5)) else none) else none) else (IE x0 x1 false x3 x4 x5)) else (IE x0 x1 false x3 x4 x5))
def jJ (x0:U) (x1:List (List Int)) (x2:Int):Option (U×List AB×Bool):=((GH x0).bind fun y1=>(if (!y1)=true then (some ((0,0,false,false,false,false,([]:List Int),([]:List AA),0,0,0,0,(O,O,0),([]:List Int)),([]:List AB),false)) else ((DA x1).bind fun y2=>(if (!y2)=true then (some ((0,0,false,false,false,false,([]:List Int),([]:List AA),0,0,0,0,(O,O,0),([]:List Int)),([]:List AB),false)) else ((AZ x2 2 (x1.length:Int)).bind fun y3=>(if (!y3)=true then (some ((0,0,false,false,false,false,([]:List Int),([]:List AA),0,0,0,0,(O,O,0),([]:List Int)),([]:List AB),false)) else (if (decide (x2<=x0.2.1))=true then (some ((0,0,false,false,false,false,([]:List Int),([]:List AA),0,0,0,0,(O,O,0),([]:List Int)),([]:List AB),false)) else (if 0<=(i64.wrap (x2-1)) then (if (i64.wrap (x2-1))<(x1.length:Int) then (if 0<=(0:Int) then (if 0<((x1.getD (i64.wrap (x2-1)).toNat ([]:List Int)).length:Int) then (if (((x1.getD (i64.wrap (x2-1)).toNat ([]:List Int)).getD (0:Int).toNat 0) != x0.1)=true then (some ((0,0,false,false,false,false,([]:List Int),([]:List AA),0,0,0,0,(O,O,0),([]:List Int)),([]:List AB),false)) else (ZA x1 x2 (((x1.getD (i64.wrap (x2-1)).toNat ([]:List Int)).getD (0:Int).toNat 0) != x0.1) x0 (0,0,false,false,false,false,([]:List Int),([]:List AA),0,0,0,0,(O,O,0),([]:List Int)) ([]:List AB))) else none) else none) else none) else none))))))))
theorem ZE:xY QV GJ:=lS (by kernel_rfl)
theorem oJ:wg ZB IE:=jS (by kernel_rfl)
theorem oK:wg ZD ZA:=jS (by kernel_rfl)
theorem uY:Nm jJ Xq:=cT DG rfl ⟨rfl,rfl⟩ (by kernel_rfl)
def lw:=cG Tr (AE Br) (AE Br) kx
def lx:=cG Ma (AE Br) (AE Br) kx
def Gj (x0:List AB) (x1:List AK) (x2:Bool) (x3:U) (x4:AB) (x5 x6:U):Option (U×List AB×List AK):=cG Tq lw (AE Br) kx ⟨[(3,.ptr 0 0),(5,.ptr 1 0),(6,.ptr 2 0),(9,.ptr 3 0),(10,.lst AJ x0),(11,.lst Ay x1),(146,.bool x2)],[.var (Y.enc x3),.var (AJ.enc x4),.var (Y.enc x5),.var (Y.enc x6)]⟩
def NN (x0:List (List Int)) (x1:List AB) (x2:List AK) (x3:Bool) (x4:U) (x5:AB) (x6 x7:U):Option (U×List AB×List AK):=cG Ma (AE Br) (AE Br) kx ⟨[(1,.lst (.slice (.int .i64)) x0),(3,.ptr 0 0),(5,.ptr 1 0),(6,.ptr 2 0),(9,.ptr 3 0),(10,.lst AJ x1),(11,.lst Ay x2),(105,.bool x3)],[.var (Y.enc x4),.var (AJ.enc x5),.var (Y.enc x6),.var (Y.enc x7)]⟩
def Ei (x0:List (List Int)) (x1:List AB) (x2:List AK) (x3:Bool) (x4:U) (x5:AB) (x6 x7:U):Option (U×List AB×List AK):=cG To lx (AE Br) kx ⟨[(1,.lst (.slice (.int .i64)) x0),(3,.ptr 0 0),(5,.ptr 1 0),(6,.ptr 2 0),(9,.ptr 3 0),(10,.lst AJ x1),(11,.lst Ay x2),(105,.bool x3)],[.var (Y.enc x4),.var (AJ.enc x5),.var (Y.enc x6),.var (Y.enc x7)]⟩
def Uo (x0:List (List Int)) (x1:List AB) (x2:List AK) (x3:Bool) (x4:U) (x5:AB) (x6 x7:U):Option (U×List AB×List AK):=cG Ts (AE Br) (AE Br) kx ⟨[(1,.lst (.slice (.int .i64)) x0),(3,.ptr 0 0),(5,.ptr 1 0),(6,.ptr 2 0),(9,.ptr 3 0),(10,.lst AJ x1),(11,.lst Ay x2),(59,.bool x3)],[.var (Y.enc x4),.var (AJ.enc x5),.var (Y.enc x6),.var (Y.enc x7)]⟩
def Up (x0:List AB) (x1:List AK) (x2:Bool) (x3:U) (x4:AB) (x5 x6:U):Option (U×List AB×List AK):=(if x2=true then (if ([]:List AA).length+x4.2.2.2.2.2.length<=68719476736 then ((Em x3 x4 4).bind fun y9=>(some ((x3.1,x4.2.2.2.1,false,true,false,false,([]:List Int),(([]:List AA)++x4.2.2.2.2.2),0,0,0,0,(O,O,0),([]:List Int)),y9,x1))) else none) else (some (x6,x0,x1)))
def Uq (x0:List (List Int)) (x1:List AB) (x2:List AK) (x3:Bool) (x4:U) (x5:AB) (x6 x7:U):Option (U×List AB×List AK):=(if 0<=(i64.wrap (x5.2.2.2.1-1)) then (if (i64.wrap (x5.2.2.2.1-1))<(x0.length:Int) then (if (x5.1==3)=true then ((FC (x0.getD (i64.wrap (x5.2.2.2.1-1)).toNat ([]:List Int)) x4.1).bind fun y8=>(if y8=true then (if 0<=(0:Int) then (if 0<((x0.getD (i64.wrap (x5.2.2.2.1-1)).toNat ([]:List Int)).length:Int) then (Gj x1 x2 (((x0.getD (i64.wrap (x5.2.2.2.1-1)).toNat ([]:List Int)).getD (0:Int).toNat 0) != x4.1) x4 x5 x6 x7) else none) else none) else (Gj x1 x2 false x4 x5 x6 x7))) else (Gj x1 x2 false x4 x5 x6 x7)) else none) else none)
def Ur (x0:List (List Int)) (x1:List AB) (x2:List AK) (x3:Bool) (x4:U) (x5:AB) (x6 x7:U):Option (U×List AB×List AK):=(if x3=true then ((Mq x4 x5.2.2.2.1).bind fun y7=>(if ([]:List AA).length+x4.2.2.2.2.2.2.2.1.length<=68719476736 then (some (y7,([(2,x4.1,x5.2.1,x5.2.2.2.1,0,(([]:List AA)++x4.2.2.2.2.2.2.2.1))]:List AB),x2)) else none)) else (NN x0 x1 x2 x3 x4 x5 x6 x7))
def Us (x0:List (List Int)) (x1:List AB) (x2:List AK) (x3:Bool) (x4:U) (x5:AB) (x6 x7:U):Option (U×List AB×List AK):=(if (x5.2.2.2.1==x4.2.1)=true then (if 0<=(i64.wrap (x4.2.1-1)) then (if (i64.wrap (x4.2.1-1))<(x0.length:Int) then ((VS x4 (x0.getD (i64.wrap (x4.2.1-1)).toNat ([]:List Int)) x5).bind fun y5=>(some (y5.1,y5.2.1,y5.2.2))) else none) else none) else (if (x5.1==1)=true then (if (x5.2.2.2.1==(i64.wrap (x4.2.1+1)))=true then (if x4.2.2.2.1=true then (if 0<=(i64.wrap (x4.2.1-1)) then (if (i64.wrap (x4.2.1-1))<(x0.length:Int) then ((FC (x0.getD (i64.wrap (x4.2.1-1)).toNat ([]:List Int)) x4.1).bind fun y6=>(Ei x0 x1 x2 y6 x4 x5 x6 x7)) else none) else none) else (Ei x0 x1 x2 false x4 x5 x6 x7)) else (Ei x0 x1 x2 false x4 x5 x6 x7)) else (Ei x0 x1 x2 false x4 x5 x6 x7)))
def bU (x0:U) (x1:List (List Int)) (x2:AB):Option (U×List AB×List AK):=((Dh x0).bind fun y1=>((GH x0).bind fun y2=>(if (!y2)=false then ((DA x1).bind fun y3=>(if (!y3)=false then ((Xr x2).bind fun y4=>(if (!y4)=false then (if (x2.2.2.1 != x0.1)=false then (if (decide (x2.2.2.2.1<x0.2.1))=false then (if (decide (x2.2.2.2.1>(x1.length:Int)))=false then (if (decide (x0.2.1>(x1.length:Int)))=true then (some (y1,([]:List AB),([]:List AK))) else (Uo x1 ([]:List AB) ([]:List AK) (decide (x0.2.1>(x1.length:Int))) x0 x2 (0,0,false,false,false,false,([]:List Int),([]:List AA),0,0,0,0,(O,O,0),([]:List Int)) y1)) else (some (y1,([]:List AB),([]:List AK)))) else (some (y1,([]:List AB),([]:List AK)))) else (some (y1,([]:List AB),([]:List AK)))) else (some (y1,([]:List AB),([]:List AK))))) else (some (y1,([]:List AB),([]:List AK))))) else (some (y1,([]:List AB),([]:List AK))))))
theorem jK:zu Up Gj:=jS (by kernel_rfl)
theorem jL:xY Uq NN:=jS (by kernel_rfl)
theorem jM:xY Ur Ei:=jS (by kernel_rfl)
theorem jN:xY Us Uo:=jS (by kernel_rfl)
theorem q_:Nm bU SE:=cT Br rfl ⟨rfl,rfl⟩ (by kernel_rfl)
def Gk (x0 x1:ByteArray):Option Bool:=(if (decide ((x0.size:Int)>=(x1.size:Int)))=true then (if 0<=(0:Int) then (if 0<=(x1.size:Int) then (if (x1.size:Int)<=(x0.size:Int) then (some ((x0.extract (0:Int).toNat (x1.size:Int).toNat).toList==x1.toList)) else none) else none) else none) else (some false))
theorem NO:Rb Gk Dj:=cT Cc rfl ⟨rfl,rfl⟩ (by kernel_rfl)
def oL:=cG Yb (AE FM) (AE FM) kx
def oM:=kE 0 [(4,0)] [4] 1 oL kx
def ly:St->Option (RT (BS.outs FM)):=lG Ya [(4,0)] [4,10,11,12] 1 (AE FM) oM
def Jk (x0:List ByteArray) (x1 x2:Int) (x3:List Int):Option (List Int×Bool):=ly ⟨[(4,.row 0),(10,.lst .str x0),(11,.int .i64 x1),(12,.int .i64 x2)],[.rows 3 (.int .i64) x3]⟩
def Ob (x0:List ByteArray) (x1 x2:Int) (x3:List Int):Option (List Int×Bool):=(if (decide (x2<x1))=true then (if 0<=x2 then (if x2<(x0.length:Int) then ((Hs (x0.getD x2.toNat O)).bind fun y2=>(if (!y2.2)=true then (some ([],false)) else (if x3.length+([y2.1]:List Int).length<=68719476736 then (Jk x0 x1 (i64.wrap (x2+1)) (x3++([y2.1]:List Int))) else none))) else none) else none) else (some (x3,true)))
def dv (x0:ByteArray):Option (List Int×Bool):=((GI x0 (⟨#[44]⟩:ByteArray)).bind fun y1=>(Jk y1 (y1.length:Int) 0 ([]:List Int)))
theorem Wn:eP Ob Jk:=lS (by kernel_rfl)
theorem sS:MO dv VQ:=cT FM rfl ⟨rfl,rfl⟩ (by kernel_rfl)
def dw (x0:ByteArray):Option (Int×Int):=(if (x0.toList==(⟨#[112,117,116]⟩:ByteArray).toList)=true then (some (1,4)) else (if (x0.toList==(⟨#[103,101,116]⟩:ByteArray).toList)=true then (some (1,3)) else (if (x0.toList==(⟨#[100,101,108,105,118,101,114]⟩:ByteArray).toList)=true then (some (2,2)) else (if (x0.toList==(⟨#[100,114,111,112]⟩:ByteArray).toList)=true then (some (3,2)) else (if (x0.toList==(⟨#[99,111,112,121]⟩:ByteArray).toList)=true then (some (4,2)) else (if (x0.toList==(⟨#[97,100,111,112,116]⟩:ByteArray).toList)=true then (some (5,2)) else (if (x0.toList==(⟨#[102,97,108,108]⟩:ByteArray).toList)=true then (some (6,2)) else (some (0,0)))))))))
theorem sU:MO dw VR:=cT O1 rfl ⟨rfl,rfl⟩ (by kernel_rfl)
def bV:=cG IQ (AE BU) (AE BU) kx
def bW:=kE 0 [] [0,4] 0 bV kx
def Zg:St->Option (RT (BS.outs BU)):=lG PT [] [0,4,5] 0 (AE BU) bW
def N5 (x0:ByteArray) (x1:Int):Option (Int×Bool):=cG IQ (AE BU) (AE BU) kx ⟨[(0,.str x0),(4,.int .i64 x1)],[]⟩
def F0 (x0:ByteArray) (x1 x2:Int):Option (Int×Bool):=Zg ⟨[(0,.str x0),(4,.int .i64 x1),(5,.int .i64 x2)],[]⟩
def N6 (x0:ByteArray) (x1:Bool):Option (Int×Bool):=cG Nq (AE BU) (AE BU) kx ⟨[(0,.str x0),(13,.bool x1)],[]⟩
def N7 (x0:ByteArray) (x1:Int):Option (Int×Bool):=(if (decide (x1>1000000000))=false then ((HJ x1).bind fun y1=>(if (!(y1.toList==x0.toList))=true then (some (0,false)) else (some (x1,true)))) else (some (0,false)))
def Ia (x0:ByteArray) (x1 x2:Int):Option (Int×Bool):=(if (decide (x2<(x0.size:Int)))=true then (if 0<=x2 then (if x2<(x0.size:Int) then (if (decide (((x0.data.toList.getD x2.toNat 0).toNat:Int)<48))=false then (if 0<=x2 then (if x2<(x0.size:Int) then (if (decide (((x0.data.toList.getD x2.toNat 0).toNat:Int)>57))=true then (some (0,false)) else (if 0<=x2 then (if x2<(x0.size:Int) then (F0 x0 (i64.wrap ((i64.wrap (x1*10))+(i64.wrap (IntKind.u8.wrap (((x0.data.toList.getD x2.toNat 0).toNat:Int)-48))))) (i64.wrap (x2+1))) else none) else none)) else none) else none) else (some (0,false))) else none) else none) else (N5 x0 x1))
def N8 (x0:ByteArray) (x1:Bool):Option (Int×Bool):=(F0 x0 0 0)
def Sm (x0:ByteArray):Option (Int×Bool):=(if ((x0.size:Int)==0)=false then (if (decide ((x0.size:Int)>10))=true then (some (0,false)) else (N6 x0 (decide ((x0.size:Int)>10)))) else (some (0,false)))
theorem Zh:Rb N7 N5:=jS (by kernel_rfl)
theorem N9:Nm Ia F0:=lS (by kernel_rfl)
theorem Zi:Rb N8 N6:=jS (by kernel_rfl)
theorem ff:MO Sm Hs:=cT BU rfl ⟨rfl,rfl⟩ (by kernel_rfl)
def LV (x0:Bool) (x1:U):Option Bool:=cG Tt (AE GE) (AE GE) kx ⟨[(1,.ptr 0 0),(30,.bool x0)],[.var (Y.enc x1)]⟩
def Sn (x0:Bool) (x1:U):Option Bool:=(if x1.2.2.2.2.2.1=true then (if (!x1.2.2.2.1)=false then (if (!x1.2.2.2.2.1)=false then (if (decide ((x1.2.2.2.2.2.2.1.length:Int)>0))=false then (if x1.2.2.1=true then (if x1.2.2.2.1=false then (if x1.2.2.2.2.1=true then (some false) else ((DS x1).bind fun y6=>(some y6.1))) else (some false)) else ((DS x1).bind fun y7=>(some y7.1))) else (some false)) else (some false)) else (some false)) else (if x1.2.2.1=true then (if x1.2.2.2.1=false then (if x1.2.2.2.2.1=true then (some false) else ((DS x1).bind fun y8=>(some y8.1))) else (some false)) else ((DS x1).bind fun y9=>(some y9.1))))
def ZF (x0:U):Option Bool:=((FV x0.1).bind fun y1=>(if (!y1)=false then ((Ap x0.2.1 1 9).bind fun y2=>(if (!y2)=false then ((Hv x0.2.2.2.2.2.2.1 1 6).bind fun y3=>(if (!y3)=false then ((Fj x0.2.2.2.2.2.2.2.1).bind fun y4=>(if (!y4)=false then ((Ap x0.2.2.2.2.2.2.2.2.1 0 900).bind fun y5=>(if (!y5)=true then (some false) else (LV (!y5) x0))) else (some false))) else (some false))) else (some false))) else (some false)))
theorem fg:Rb Sn LV:=jS (by kernel_rfl)
theorem oN:MO ZF GG:=cT GE rfl ⟨rfl,rfl⟩ (by kernel_rfl)
def Js (x0:List (List Int)) (x1:Bool) (x2:U):Option (Bool×U):=cG KP (AE Ct) (AE Ct) kx ⟨[(0,.ptr 0 0),(1,.lst (.slice (.int .i64)) x0),(33,.bool x1)],[.var (Y.enc x2)]⟩
def Jt (x0:List (List Int)) (x1:Bool) (x2:U):Option (Bool×U):=((DB x0).bind fun y1=>(if y1=true then (if 0<=(i64.wrap (x2.2.1-1)) then (if (i64.wrap (x2.2.1-1))<(x0.length:Int) then (if 0<=(0:Int) then (if 0<((x0.getD (i64.wrap (x2.2.1-1)).toNat ([]:List Int)).length:Int) then (some ((((x0.getD (i64.wrap (x2.2.1-1)).toNat ([]:List Int)).getD (0:Int).toNat 0)==x2.1),x2)) else none) else none) else none) else none) else (some (false,x2))))
def NP (x1:List (List Int)) (b0:U):Option (Bool×U):=(if (!b0.2.2.2.2.2.1)=false then (if (b0.2.2.2.2.2.2.2.2.2.1 != 0)=false then (if (b0.2.2.2.2.2.2.2.2.1==900)=false then (if (decide (b0.2.1>(x1.length:Int)))=true then (some (false,b0)) else (Js x1 (decide (b0.2.1>(x1.length:Int))) b0)) else (some (false,b0))) else (some (false,b0))) else (some (false,b0)))
theorem S5:Nm Jt Js:=jS (by kernel_rfl)
theorem Xw:Rb NP Ht:=cT Ct rfl ⟨rfl,rfl⟩ (by kernel_rfl)
def oO:=cG Yd (AE FN) (AE FN) kx
def oP:=kE 0 [] [4] 1 oO kx
def l7:St->Option (RT (BS.outs FN)):=lG Yc [] [1,4,7,8,9] 1 (AE FN) oP
def Jl (x0:ByteArray) (x1:List AA) (x2 x3:Int) (x4:AA):Option AA:=l7 ⟨[(1,.str x0),(4,.ptr 0 0),(7,.lst AH x1),(8,.int .i64 x2),(9,.int .i64 x3)],[.var (AH.enc x4)]⟩
def Oc (x0:ByteArray) (x1:List AA) (x2 x3:Int) (x4:AA):Option AA:=(if (decide (x3<x2))=true then (if 0<=x3 then (if x3<(x1.length:Int) then (if (((x1.getD x3.toNat (O,O,0)).1).toList==x0.toList)=true then (some (x1.getD x3.toNat (O,O,0))) else (Jl x0 x1 x2 (i64.wrap (x3+1)) x4)) else none) else none) else (some (O,O,0)))
def dx (x0:List AA) (x1:ByteArray):Option AA:=(Jl x1 x0 (x0.length:Int) 0 (O,O,0))
theorem Wo:rq Oc Jl:=lS (by kernel_rfl)
theorem sV:Rb dx O2:=cT FN rfl ⟨rfl,rfl⟩ (by kernel_rfl)
def Xx:=cG Md (AE CI) (AE CI) kx
def Xy:=kE 0 [(5,1)] [5] 2 Xx kx
def Wp:St->Option (RT (BS.outs CI)):=lG Mc [(5,1)] [0,5,8,9,10] 2 (AE CI) Xy
def DU (x0:List Int) (x1 x2:Int) (x3:U) (x4:List Int):Option (List Int×U):=Wp ⟨[(0,.ptr 0 0),(5,.row 1),(8,.lst (.int .i64) x0),(9,.int .i64 x1),(10,.int .i64 x2)],[.var (Y.enc x3),.rows 3 (.int .i64) x4]⟩
def HQ (x0:List Int) (x1 x2:Int) (x3:U) (x4:List Int):Option (List Int×U):=(if (decide (x2<x1))=true then (if 0<=x2 then (if x2<(x0.length:Int) then (if ((x0.getD x2.toNat 0) != x3.1)=true then (if x4.length+([(x0.getD x2.toNat 0)]:List Int).length<=68719476736 then (DU x0 x1 (i64.wrap (x2+1)) x3 (x4++([(x0.getD x2.toNat 0)]:List Int))) else none) else (DU x0 x1 (i64.wrap (x2+1)) x3 x4)) else none) else none) else (some (x4,x3)))
def Pw (x1:List Int) (b0:U):Option (List Int×U):=(DU x1 (x1.length:Int) 0 b0 ([]:List Int))
theorem Ln:rq HQ DU:=lS (by kernel_rfl)
theorem bX:Rb Pw CJ:=cT CI rfl ⟨rfl,rfl⟩ (by kernel_rfl)
def N_ (b0:List Int):Option (List Int):=((QM (IntKind.u64.wrap (b0.length:Int))).bind fun y1=>((Cd 0 (b0.length:Int) y1 b0).bind fun y2=>(some y2)))
theorem Zj:MO N_ C8:=cT Fx rfl ⟨rfl,rfl⟩ (by kernel_rfl)
def Ib (x0:U) (x1:tw):Option (List AK×U):=cG PU (AE EA) (AE EA) kx ⟨[(0,.ptr 0 0),(3,.ptr 1 0)],[.var (Y.enc x0),.var (MC.enc x1)]⟩
def Ic (x0:U) (x1:tw):Option (List AK×U):=(some (([(x1.2.1,x0.2.1,x1.2.2.1,x1.2.2.2.1)]:List AK),(x0.1,x0.2.1,x0.2.2.1,x0.2.2.2.1,x0.2.2.2.2.1,x0.2.2.2.2.2.1,x0.2.2.2.2.2.2.1,x0.2.2.2.2.2.2.2.1,x0.2.2.2.2.2.2.2.2.1,0,0,0,(O,O,0),([]:List Int))))
def So (b0:U):Option (List AK×U):=(if (b0.2.2.2.2.2.2.2.2.2.1==1)=true then ((Mr b0.2.2.2.2.2.2.2.1 b0.2.2.2.2.2.2.2.2.2.2.2.2.1).bind fun y1=>(Ib (b0.1,b0.2.1,b0.2.2.1,b0.2.2.2.1,b0.2.2.2.2.1,b0.2.2.2.2.2.1,b0.2.2.2.2.2.2.1,y1,b0.2.2.2.2.2.2.2.2) b0.2.2.2.2.2.2.2.2.2)) else ((O2 b0.2.2.2.2.2.2.2.1 b0.2.2.2.2.2.2.2.2.2.2.2.2.1.1).bind fun y2=>(Ib b0 (b0.2.2.2.2.2.2.2.2.2.1,b0.2.2.2.2.2.2.2.2.2.2.1,b0.2.2.2.2.2.2.2.2.2.2.2.1,y2,b0.2.2.2.2.2.2.2.2.2.2.2.2.2))))
theorem OA:Rb Ic Ib:=jS (by kernel_rfl)
theorem fh:MO So Hu:=cT EA rfl ⟨rfl,rfl⟩ (by kernel_rfl)
def Wq:=cG Lg (AE B4) (AE B4) kx
def Wr:=kE 0 [(7,2)] [7] 3 Wq kx
def VX:St->Option (RT (BS.outs B4)):=lG Lf [(7,2)] [0,5,7,11,12,13] 3 (AE B4) Wr
def EO (x0:List Int) (x1 x2:Int) (x3:U) (x4:AB) (x5:List AB):Option (List AB×U):=VX ⟨[(0,.ptr 0 0),(5,.ptr 1 0),(7,.row 2),(11,.lst (.int .i64) x0),(12,.int .i64 x1),(13,.int .i64 x2)],[.var (Y.enc x3),.var (AJ.enc x4),.rows 112 AJ x5]⟩
def Gu (x0:List Int) (x1 x2:Int) (x3:U) (x4:AB) (x5:List AB):Option (List AB×U):=(if (decide (x2<x1))=true then (if 0<=x2 then (if x2<(x0.length:Int) then ((HK x4).bind fun y1=>(if x5.length+([(y1.1,x3.1,(x0.getD x2.toNat 0),x3.2.1,y1.2.2.2.2)]:List AB).length<=68719476736 then (EO x0 x1 (i64.wrap (x2+1)) x3 x4 (x5++([(y1.1,x3.1,(x0.getD x2.toNat 0),x3.2.1,y1.2.2.2.2)]:List AB))) else none)) else none) else none) else (some (x5,x3)))
def OB (x1:List Int) (x2:AB) (b0:U):Option (List AB×U):=(EO x1 (x1.length:Int) 0 b0 x2 ([]:List AB))
theorem KR:wg Gu EO:=lS (by kernel_rfl)
theorem Zk:Nm OB An:=cT B4 rfl ⟨rfl,rfl⟩ (by kernel_rfl)
def jO (b0:U):Option U:=(some (b0.1,b0.2.1,b0.2.2.1,b0.2.2.2.1,false,false,[],b0.2.2.2.2.2.2.2.1,0,0,0,0,(O,O,0),([]:List Int)))
theorem jP:MO jO GY:=cT If rfl ⟨rfl,rfl⟩ (by kernel_rfl)
def NQ (x1:List Int) (x2:List AA) (b0:U):Option (List AB×U):=((CJ x1 b0).bind fun y1=>((Al x2).bind fun y2=>((Bs y1.1).bind fun y3=>((C8 y3).bind fun y4=>(if ((y1.1.length:Int)==0)=true then ((An y1.1 (3,0,0,0,0,x2) (y1.2.1,y1.2.2.1,y1.2.2.2.1,true,y1.2.2.2.2.2.1,true,y4,y2,y1.2.2.2.2.2.2.2.2.2)).bind fun y5=>(some (y5.1,y5.2))) else ((An y1.1 (3,0,0,0,0,x2) (y1.2.1,y1.2.2.1,y1.2.2.2.1,true,y1.2.2.2.2.2.1,y1.2.2.2.2.2.2.1,y4,y2,y1.2.2.2.2.2.2.2.2.2)).bind fun y6=>(some (y6.1,y6.2))))))))
theorem Xz:Nm NQ Dk:=cT E8 rfl ⟨rfl,rfl⟩ (by kernel_rfl)
def Ut (x0:List (List Int)) (x1:Bool) (x2:U) (x3:AB) (x4 x5:U):Option (U×List AB×List AK):=cG WK (AE HD) (AE HD) kx ⟨[(1,.lst (.slice (.int .i64)) x0),(5,.ptr 1 0),(6,.ptr 2 0),(9,.ptr 3 0),(47,.bool x1)],[.var (Y.enc x2),.var (AJ.enc x3),.var (Y.enc x4),.var (Y.enc x5)]⟩
def Uu (x0:List (List Int)) (x1:Bool) (x2:U) (x3:AB) (x4 x5:U):Option (U×List AB×List AK):=((K9 x0 x3 x5).bind fun y5=>((C6 y5.2.2).bind fun y6=>(some (y6,y5.1,y5.2.1))))
def bY (x0:U) (x1:List (List Int)) (x2:AB):Option (U×List AB×List AK):=((C6 x0).bind fun y1=>(if (x2.2.2.1 != x0.1)=false then (if (decide (x2.2.2.2.1<x0.2.1))=false then (if (decide (x2.2.2.2.1>(x1.length:Int)))=false then ((GG x0).bind fun y2=>(if (!y2)=false then ((DB x1).bind fun y3=>(if (!y3)=false then ((Xs x2).bind fun y4=>(if (!y4)=true then (some (y1,[],[])) else (Ut x1 (!y4) x0 x2 (0,0,false,false,false,false,([]:List Int),([]:List AA),0,0,0,0,(O,O,0),([]:List Int)) y1))) else (some (y1,[],[])))) else (some (y1,[],[])))) else (some (y1,[],[]))) else (some (y1,[],[]))) else (some (y1,[],[]))))
theorem jQ:wg Uu Ut:=jS (by kernel_rfl)
theorem rA:Nm bY Mp:=cT HD rfl ⟨rfl,rfl⟩ (by kernel_rfl)
def EF (x0:Bool) (x1:U):Option Bool:=cG Tu (AE GF) (AE GF) kx ⟨[(1,.ptr 0 0),(70,.bool x0)],[.var (Y.enc x1)]⟩
def Sp (x0:Bool) (x1:U):Option Bool:=((OW x1.2.2.2.2.2.2.2.2.2).bind fun y7=>(if y7=false then (if (x1.2.2.2.2.2.2.2.2.2.1==1)=false then (if (x1.2.2.2.2.2.2.2.2.2.1==2)=true then (if x1.2.2.2.2.2.1=true then ((AZ x1.2.2.2.2.2.2.2.2.2.2.1 0 1000).bind fun y8=>(if y8=true then ((AZ x1.2.2.2.2.2.2.2.2.2.2.2.1 1 900).bind fun y9=>(some y9)) else (some false))) else (some false)) else (some false)) else (if x1.2.2.2.2.2.1=true then ((AZ x1.2.2.2.2.2.2.2.2.2.2.1 0 1000).bind fun y10=>(if y10=true then ((AZ x1.2.2.2.2.2.2.2.2.2.2.2.1 1 900).bind fun y11=>(some y11)) else (some false))) else (some false))) else (some true)))
def ZG (x0:U):Option Bool:=((AZ x0.1 1 6).bind fun y1=>(if (!y1)=false then ((AZ x0.2.1 1 9).bind fun y2=>(if (!y2)=false then (if x0.2.2.2.2.2.1=true then (if (!x0.2.2.2.1)=false then (if (!x0.2.2.2.2.1)=false then (if (decide ((x0.2.2.2.2.2.2.1.length:Int)>0))=false then (if x0.2.2.1=true then (if x0.2.2.2.1=false then (if x0.2.2.2.2.1=false then ((Db x0.2.2.2.2.2.2.1).bind fun y3=>(if (!y3)=false then ((Db x0.2.2.2.2.2.2.2.2.2.2.2.2.2).bind fun y4=>(if (!y4)=false then ((Dl x0.2.2.2.2.2.2.2.1).bind fun y5=>(if (!y5)=false then ((AZ x0.2.2.2.2.2.2.2.2.1 0 900).bind fun y6=>(if (!y6)=true then (some false) else (EF (!y6) x0))) else (some false))) else (some false))) else (some false))) else (some false)) else (some false)) else ((Db x0.2.2.2.2.2.2.1).bind fun y12=>(if (!y12)=false then ((Db x0.2.2.2.2.2.2.2.2.2.2.2.2.2).bind fun y13=>(if (!y13)=false then ((Dl x0.2.2.2.2.2.2.2.1).bind fun y14=>(if (!y14)=false then ((AZ x0.2.2.2.2.2.2.2.2.1 0 900).bind fun y15=>(if (!y15)=true then (some false) else (EF (!y15) x0))) else (some false))) else (some false))) else (some false)))) else (some false)) else (some false)) else (some false)) else (if x0.2.2.1=true then (if x0.2.2.2.1=false then (if x0.2.2.2.2.1=false then ((Db x0.2.2.2.2.2.2.1).bind fun y16=>(if (!y16)=false then ((Db x0.2.2.2.2.2.2.2.2.2.2.2.2.2).bind fun y17=>(if (!y17)=false then ((Dl x0.2.2.2.2.2.2.2.1).bind fun y18=>(if (!y18)=false then ((AZ x0.2.2.2.2.2.2.2.2.1 0 900).bind fun y19=>(if (!y19)=true then (some false) else (EF (!y19) x0))) else (some false))) else (some false))) else (some false))) else (some false)) else (some false)) else ((Db x0.2.2.2.2.2.2.1).bind fun y20=>(if (!y20)=false then ((Db x0.2.2.2.2.2.2.2.2.2.2.2.2.2).bind fun y21=>(if (!y21)=false then ((Dl x0.2.2.2.2.2.2.2.1).bind fun y22=>(if (!y22)=false then ((AZ x0.2.2.2.2.2.2.2.2.1 0 900).bind fun y23=>(if (!y23)=true then (some false) else (EF (!y23) x0))) else (some false))) else (some false))) else (some false))))) else (some false))) else (some false)))
theorem fi:Rb Sp EF:=jS (by kernel_rfl)
theorem oQ:MO ZG GH:=cT GF rfl ⟨rfl,rfl⟩ (by kernel_rfl)
def oR:=cG Yf (AE FO) (AE FO) kx
def oS:=kE 0 [] [4] 1 oR kx
def l8:St->Option (RT (BS.outs FO)):=lG Ye [] [0,1,4,5] 1 (AE FO) oS
def Jm (x0:List AA) (x1:ByteArray) (x2:Int) (x3:AA):Option AA:=l8 ⟨[(0,.lst AH x0),(1,.str x1),(4,.ptr 0 0),(5,.int .i64 x2)],[.var (AH.enc x3)]⟩
def Od (x0:List AA) (x1:ByteArray) (x2:Int) (x3:AA):Option AA:=(if (decide (x2<(x0.length:Int)))=true then (if 0<=x2 then (if x2<(x0.length:Int) then (if (((x0.getD x2.toNat (O,O,0)).1).toList==x1.toList)=true then (if 0<=x2 then (if x2<(x0.length:Int) then (some (x0.getD x2.toNat (O,O,0))) else none) else none) else (Jm x0 x1 (i64.wrap (x2+1)) x3)) else none) else none) else (some (O,O,0)))
def dy (x0:List AA) (x1:ByteArray):Option AA:=(Jm x0 x1 0 (O,O,0))
theorem Ws:eP Od Jm:=lS (by kernel_rfl)
theorem sW:Rb dy O3:=cT FO rfl ⟨rfl,rfl⟩ (by kernel_rfl)
end
end Go.Proofs.YtfcgblnlopemkaaGreatDoor.Core
