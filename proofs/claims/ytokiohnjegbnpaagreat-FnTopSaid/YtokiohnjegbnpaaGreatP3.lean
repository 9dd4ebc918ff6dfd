/- Texts of the proof, packed: part 4. -/
import Derived.Test.YtokiohnjegbnpaaGreatP2
import Derived.Test.YtokiohnjegbnpaaGreatProg
import Derived.IntWalk
set_option linter.unusedVariables false
set_option linter.unusedSimpArgs false
namespace Go.Proofs.YtokiohnjegbnpaaGreat.Core
open Go Go.Shelf Go.RowKit Go.Lib
variable {P:Program} {ρ:Ren}
theorem xJ (w:World) (t e ty:TypeId) (z:Value) (ht:P.underlying t=some (.slice e)) (hz:∀ w,(zeroValue e).run P w=.ok z w) (g o n c:Nat) (cur:Array Value) (te:TypeId) (hg:w.heap[g]? = some (.cells cur te (0,0))) (hn:0<n)
  (hfit:o+n*z.cells.size<=cur.size) (h1:∀ v∈(Builtin.zeroCells z.cells n).toList,v.oneCell'=true) :
  (Builtin.clear_ #[t] ty #[.slice (some ⟨g,o,none⟩) n c]).run P w=.ok (.tuple #[]) (w.setRow g (cur.toList.take o++(Builtin.zeroCells z.cells n).toList++cur.toList.drop (o+(Builtin.zeroCells z.cells n).toList.length)).toArray):=by
 have hl:(Builtin.zeroCells z.cells n).toList.length=n*z.cells.size:=by rw [Array.length_toList,size_zeroCells]
 have hst:=run_storeCells_at P g o te (Builtin.zeroCells z.cells n).toList 0 cur w hg (by rw [hl]; simpa using hfit) h1
 cases n with
 | zero=>omega
 | succ n=>simp [Builtin.clear_,run_underlying ht,hz,hst]
theorem mR {ops:Array Oper} {o:Oper} {a:Act} {w:World} {K:Act->World->Prop} {Q:Exit->Act->World->Prop} {E:Prop}
  (hg:o.guard=none) (d x:Operand) (dT sT:TypeId) (hop:o.op=Op.call { callee:=Callee.builtin Builtin.append,args:=#[d,x],argTypes:=#[dT,sT] })
  (v u:Value) (hd:a.eval d=v) (hx:a.eval x=u) {v':Value} {w':World} (hr:(Builtin.append_ #[dT,sT] o.type #[v,u]).run P w=.ok v' w') (hK:K (a.put o.dst v') w') :
  if Region.wanted o (yielded ops a.tmps)=true then Oper.wp P o a w K Q else E:=by
 have hw:Region.wanted o (yielded ops a.tmps)=true:=by simp [Region.wanted,hg]
 rw [if_pos hw]
 unfold Oper.wp
 simp [execOp,hop,resolve,invoke,builtin,hd,hx,hr,Result.andThen]
 exact hK
theorem jI (w:World) {ops:Array Oper} {rest:List Oper} {o:Oper} {a:Act} {Q:Exit->Act->World->Prop} (hgd:o.guard=none) (s:Operand) (t:TypeId)
  (ho:o.op=.call { callee:=.builtin .clear,args:=#[s],argTypes:=#[t] }) (v:Value) (hs:a.eval s=v) {v':Value} {w':World}
  (hr:(Builtin.clear_ #[t] o.type #[v]).run P w=.ok v' w') (h:wpList P ops Q rest (a.put o.dst v') w'):wpList P ops Q (o::rest) a w :=
 wpList_plain hgd fun K hK=>by
  unfold Oper.wp execOp
  simp only [ho,resolve,invoke,builtin,Sem.run_bind,Sem.run_pure,Result.andThen_ok,List.map_toArray,List.map_cons,List.map_nil,hs,hr]
  exact hK _ _ h
set_option maxHeartbeats 8000000 in
set_option maxRecDepth 100000 in
theorem yh (L:SlLaysE0.n45 P ρ) (i0:TypeInfo) (size:Nat) (hi:P.info? (ρ.t 23)=some i0) (hz1:i0.size=size) (z23:∀ w,(Go.sizeOf (ρ.t 23)).run P w=.ok size w) (base:Option Addr) (n cap i:Nat) (w:World) (hin:i<=n) (hnc:n<=cap) (hcm:cap<=maxLen) :
  Calls P (ρ.f 45) #[.slice base n cap,.int .i64 i,.int .i64 i] w fun e w'=>e=.returned (.slice base n cap)/\w'=w:=by
 have mixed:=L.mixed; have t0:=L.t0; have a0:=L.a0; have z0:=L.z0; have v0:=L.v0; have t3:=L.t3; have a3:=L.a3; have z3:=L.z3; have v3:=L.v3; have t4:=L.t4; have a4:=L.a4; have z4:=L.z4; have v4:=L.v4; have t22:=L.t22; have a22:=L.a22; have z22:=L.z22; have v22:=L.v22
 obtain ⟨_,_,FG⟩:=L.f45
 go_enter FG,SlBodyN.n45_ntmps ρ
 go_wp2
 all_goals (go_ret; exact ⟨rfl,rfl⟩)
set_option maxHeartbeats 8000000 in
set_option maxRecDepth 100000 in
theorem yi (L:SlLaysE0.n45 P ρ) (i0:TypeInfo) (z:Value) (size bytes:Nat) (hi:P.info? (ρ.t 23)=some i0) (hz0:i0.zero=some z) (hz1:i0.size=size) (hzs:z.cells.size=size) (hzo:∀ v∈z.cells.toList,v.oneCell'=true) (hsz:0<size)
  (z23:∀ w,(Go.sizeOf (ρ.t 23)).run P w=.ok size w) (v23:∀ w,(zeroValue (ρ.t 23)).run P w=.ok z w) (g n cap i j:Nat) (cur:Array Value) (w:World) (hg:w.heap[g]? = some (.cells cur (ρ.t 23) (0,0))) (hcs:cur.size=cap*size) (hij:i<j) (hjn:j<=n) (hnc:n<=cap) (hcm:cap<=maxLen)
  (h1:∀ u∈cur.toList.take (n*size),u.oneCell'=true) :
  Calls P (ρ.f 45) #[.slice (some ⟨g,0,none⟩) n cap,.int .i64 i,.int .i64 j] w fun e w'=>e=.returned (.slice (some ⟨g,0,none⟩) (n-(j-i)) cap) /\
   ∃ cur',w'.heap[g]? = some (.cells cur' (ρ.t 23) (0,0))/\cur'.size=cap*size/\cur'.toList.take ((n-(j-i))*size)=cur.toList.take (i*size)++(cur.toList.take (n*size)).drop (j*size)/\w.grownBy w' (some g):=by
 have mixed:=L.mixed; have t0:=L.t0; have a0:=L.a0; have z0:=L.z0; have v0:=L.v0; have t3:=L.t3; have a3:=L.a3; have z3:=L.z3; have v3:=L.v3; have t4:=L.t4; have a4:=L.a4; have z4:=L.z4; have v4:=L.v4; have t22:=L.t22; have a22:=L.a22; have z22:=L.z22; have v22:=L.v22
 have hcm':cap<=9223372036854775807:=hcm
 have hij1:¬ ((i:Int)=(j:Int)):=by omega
 have hb1:(i:Int)<=(j:Int):=by omega
 have hb2:¬ (cap=0):=by omega
 have hb3:(j:Int)<=(n:Int):=by omega
 have hb4:¬ (cap=i):=by omega
 have e4:j*size<=n*size:=Nat.mul_le_mul_right size hjn
 have e5:n*size<=cur.size:=by rw [hcs]; exact Nat.mul_le_mul_right size hnc
 have e6:i*size<=j*size:=Nat.mul_le_mul_right size (by omega)
 have e3:(n-j)*size=n*size-j*size:=Nat.sub_mul n j size
 have e7:(i+(n-j))*size=i*size+(n-j)*size:=Nat.add_mul _ _ size
 have hln:cur.toList.length=cur.size:=Array.length_toList
 have lm:((cur.toList.take (n*size)).drop (j*size)).length=(n-j)*size:=by rw [List.length_drop,List.length_take,hln,e3]; omega
 have hap:∀ (A:Addr) (c:Nat),(A=(⟨g,j*size,none⟩:Addr)\/n=j)->∀ ty,(Builtin.append_ #[(ρ.t 22),(ρ.t 22)] ty #[.slice (some ⟨g,0,none⟩) i cap,.slice (some A) (n-j) c]).run P w.drew=.ok (.slice (some ⟨g,0,none⟩) (i+(n-j)) cap) (w.drew.setRow g (cur.toList.take (i*size)++(cur.toList.take (n*size)).drop (j*size)++cur.toList.drop (i*size+((cur.toList.take (n*size)).drop (j*size)).length)).toArray):=fun A c hA ty=>by
  have:=run_append_room (P:=P) w.drew (ρ.t 22) ty (ρ.t 23) i0 L.t22 hi g i cap cur hg A (n-j) c ((cur.toList.take (n*size)).drop (j*size)) (by rw [lm,hz1]) (fun k u hk=>by
   have hk2:=(List.getElem?_eq_some_iff.1 hk).1
   rw [lm] at hk2
   rcases hA with rfl | rfl
   ·rw [Addr.add_none]
    have h5:w.drew.cell? ⟨g,j*size+k,none⟩=cur[j*size+k]? := RZ hg
    rw [h5,<- hk,List.getElem?_drop,List.getElem?_take,if_pos (by omega),Array.getElem?_toList]
   ·simp at hk2) (fun u hu=>h1 u (List.mem_of_mem_drop hu)) (by omega) (by rw [lm,hz1,e3]; omega)
  rw [hz1] at this
  exact this
 obtain ⟨cur1,hcur1⟩:∃ c1,c1=(cur.toList.take (i*size)++(cur.toList.take (n*size)).drop (j*size)++cur.toList.drop (i*size+((cur.toList.take (n*size)).drop (j*size)).length)).toArray:=⟨_,rfl⟩
 rw [<- hcur1] at hap
 have hs1:cur1.size=cap*size:=by
  rw [hcur1,List.size_toArray,<- hcs]
  simp only [List.length_append,List.length_take,List.length_drop,hln,lm]
  omega
 have ht1:cur1.toList.take ((i+(n-j))*size)=cur.toList.take (i*size)++(cur.toList.take (n*size)).drop (j*size):=by
  have l3:(cur.toList.take (i*size)++(cur.toList.take (n*size)).drop (j*size)).length=(i+(n-j))*size:=by
   simp only [List.length_append,List.length_take,hln,lm,e7]
   omega
  rw [hcur1]
  exact (congrArg (fun k=>List.take k _) l3.symm).trans (by rw [List.take_left])
 have hg1:(w.drew.setRow g cur1).heap[g]? = some (.cells cur1 (ρ.t 23) (0,0)):=setRow_heap w.drew g cur cur1 (ρ.t 23) _ hg
 obtain ⟨d,hd⟩:∃ d,d=n-(i+(n-j)):=⟨_,rfl⟩
 have hdp:0<d:=by omega
 have e8:(i+(n-j))*size+d*size<=cur1.size:=by rw [hs1,<- Nat.add_mul]; exact Nat.mul_le_mul_right size (by omega)
 have hzc:∀ v∈(Builtin.zeroCells z.cells d).toList,v.oneCell'=true:=by
  intro v hv
  simp only [Builtin.zeroCells,Array.toList_map,List.mem_map] at hv
  obtain ⟨k,_,rfl⟩:=hv
  refine hzo _ ?_
  have hk:k % z.cells.size<z.cells.size:=Nat.mod_lt _ (by omega)
  rw [getElem!_pos z.cells _ hk]
  exact Array.getElem_mem_toList hk
 have hcl:∀ ty c,(Builtin.clear_ #[(ρ.t 22)] ty #[.slice (some ⟨g,(i+(n-j))*size,none⟩) (n-(i+(n-j))) c]).run P (w.drew.setRow g cur1)=.ok (.tuple #[]) ((w.drew.setRow g cur1).setRow g (cur1.toList.take ((i+(n-j))*size)++(Builtin.zeroCells z.cells d).toList++cur1.toList.drop ((i+(n-j))*size+(Builtin.zeroCells z.cells d).toList.length)).toArray):=fun ty c=>by
  rw [<- hd]
  exact xJ _ _ (ρ.t 23) ty z L.t22 v23 g _ d c cur1 (ρ.t 23) hg1 hdp (by rw [hzs]; exact e8) hzc
 have lz:(Builtin.zeroCells z.cells d).toList.length=d*size:=by rw [Array.length_toList,size_zeroCells,hzs]
 obtain ⟨cur2,hcur2⟩:∃ c2,c2=(cur1.toList.take ((i+(n-j))*size)++(Builtin.zeroCells z.cells d).toList++cur1.toList.drop ((i+(n-j))*size+(Builtin.zeroCells z.cells d).toList.length)).toArray:=⟨_,rfl⟩
 rw [<- hcur2] at hcl
 have hs2:cur2.size=cap*size:=by
  rw [hcur2,List.size_toArray,<- hs1]
  simp only [List.length_append,List.length_take,List.length_drop,Array.length_toList,lz]
  rw [Array.length_toList] at lz
  omega
 have ht2:cur2.toList.take ((i+(n-j))*size)=cur.toList.take (i*size)++(cur.toList.take (n*size)).drop (j*size):=by
  have l4:(cur1.toList.take ((i+(n-j))*size)).length=(i+(n-j))*size:=by rw [List.length_take,Array.length_toList]; omega
  rw [hcur2,<- ht1,List.append_assoc]
  exact (congrArg (fun k=>List.take k _) l4.symm).trans (by rw [List.take_left])
 have hkn:n-(j-i)=i+(n-j):=by omega
 rw [hkn]
 have hW1s:((w.drew.setRow g cur1).setRow g cur2).heap[g]? = some (.cells cur2 (ρ.t 23) (0,0)):=setRow_heap _ g cur1 cur2 _ _ hg1
 have hgr:w.grownBy ((w.drew.setRow g cur1).setRow g cur2) (some g):=by
  refine ⟨rfl,rfl,rfl,by rw [Ji,Ji]; exact Nat.le_refl _,fun k hk hne=>?_⟩
  have hk':k≠g:=fun e=>hne (by rw [e])
  rw [setRow_other _ g k _ hk',setRow_other _ g k _ hk']
  rfl
 obtain ⟨W1,hW1⟩:∃ W1,W1=w.drew.setRow g cur1:=⟨_,rfl⟩
 obtain ⟨W2,hW2⟩:∃ W2,W2=W1.setRow g cur2:=⟨_,rfl⟩
 rw [<- hW1,<- hW2] at hcl hW1s hgr
 rw [<- hW1] at hap
 have hb6:¬ (cap=i+(n-j)):=by omega
 have hb7:i+(n-j)<=n:=by omega
 have hb8:i<=cap:=by omega
 clear e3 e4 e5 e6 e7 e8 hcur1 hcur2 lm hW1 hW2 hd hkn hs1 ht1 hg1 lz
 obtain ⟨A,hAe,hAd⟩:∃ A:Addr,(if cap=j then some (⟨g,0,none⟩:Addr) else some ⟨g,j*size,none⟩)=some A/\(A=(⟨g,j*size,none⟩:Addr)\/n=j):=by
  by_cases h:cap=j
  ·exact ⟨⟨g,0,none⟩,by simp [h],.inr (by omega)⟩
  ·exact ⟨⟨g,j*size,none⟩,by simp [h],.inl rfl⟩
 have hap2:=hap A (cap-j) hAd
 clear hap hAd
 obtain ⟨_,_,FG⟩:=L.f45
 go_enter FG,SlBodyN.n45_ntmps ρ
 go_wp2
 go_region_law_o (refine mR rfl _ _ (ρ.t 22) (ρ.t 22) rfl _ _ (by simp [Act.eval,Act.put]) (by simp [Act.eval,Act.put,hAe]) (hap2 _) ?_)
 go_wp2_with (at_builtin; refine jI _ rfl _ (ρ.t 22) rfl _ rfl (hcl _ _) ?_)
 go_ret
 exact ⟨rfl,cur2,hW1s,hs2,ht2,hgr⟩
theorem AA2 {K:Kd} (L:SlLaysE0.n45 P ρ) (he:xv P (ρ.t 23) K=true) {xs:List K.T} {i j:Nat} (hij:i<=j) (hj:j<=xs.length) :
  XX P (ρ.f 45) [.new (ρ.t 23) K xs,.int .i64 i,.int .i64 j] [] [.new (ρ.t 23) K (xs.take i++xs.drop j)]:=by
 obtain ⟨i0,z,hi0,hz,h1,h2,h3,h4⟩:=VH he
 have hsz:=Kd.sz_pos K
 have z23:∀ w,(Go.sizeOf (ρ.t 23)).run P w=.ok K.sz w:=fun w=>by simp [sizeOf,typeInfo,hi0,h1]
 have v23:∀ w,(zeroValue (ρ.t 23)).run P w=.ok z w:=fun w=>by simp [zeroValue,typeInfo,hi0,hz]
 refine ⟨?_,?_,1,rfl,fun H φ w cargs hs ha=>?_⟩
 ·obtain ⟨nm,hnm,hf⟩:=L.f45
  exact ⟨_,_,hf,hnm,rfl⟩
 ·intro r hr
  simp only [List.mem_singleton] at hr
  subst hr
  rfl
 ·obtain ⟨v0,r0,rfl,hv0,ha⟩:=ha
  obtain ⟨v1,r1,rfl,hv1,ha⟩:=ha
  obtain ⟨v2,r2,rfl,hv2,ha⟩:=ha
  have hr2:r2=[]:=ha
  subst hr2
  have e0:v0=φ 0:=hv0.1
  have e1:v1=.int .i64 i:=hv1
  have e2:v2=.int .i64 j:=hv2
  subst e0 e1 e2
  obtain ⟨flat,ho,hr⟩:=hs.box 0 (.rows (ρ.t 23) K xs) rfl
  have hnew:(xs.take i++xs.drop j).length=xs.length-(j-i):=by simp only [List.length_append,List.length_take,List.length_drop]; omega
  have hstk:BX [] [AV.new (ρ.t 23) K xs,.int .i64 i,.int .i64 j]=[.rows (ρ.t 23) K xs]:=rfl
  by_cases hlt:i=j
  ·subst hlt
   obtain ⟨base,n,cap,e0,hnn,hcap,hcm⟩:∃ base n cap,φ 0=.slice base n cap/\n=xs.length/\n<=cap/\cap<=maxLen:=by
    rcases ho.2 with ⟨e,h⟩ | ⟨g,cap,cur,e,_,_,hc,hm,_⟩
    ·exact ⟨none,0,0,e,h.symm,Nat.le_refl _,Nat.zero_le _⟩
    ·exact ⟨_,_,_,e,rfl,hc,hm⟩
   subst hnn
   rw [e0]
   refine Calls.mono (yh L i0 K.sz hi0 h1 z23 base _ cap i w hj hcap hcm) fun out w' h=>?_
   obtain ⟨rfl,rfl⟩:=h
   refine qi hstk hs ⟨rfl,rfl,rfl,Nat.le_refl _,fun _ _ _=>rfl⟩ (fun b hb=>.inl (by rw [e0]; exact hb)) (flat:=flat) ?_ ?_
   ·rw [List.take_append_drop,<- e0]; exact ho
   ·rw [List.take_append_drop]; exact hr
  ·obtain ⟨g,cap,cur,e0,_,hg,hc,hcm,hsc,ht⟩:=ho.2.resolve_left (fun h=>by omega)
   rw [e0]
   have hzo:∀ v∈z.cells.toList,v.oneCell'=true:=bF (h4 H)
   refine Calls.mono (yi L i0 z K.sz i0.bytes hi0 hz h1 h3 hzo hsz z23 v23 g xs.length cap i j cur w hg hsc (by omega) hj hc hcm (by rw [ht]; exact DS hr ho.1)) fun out w' h=>?_
   obtain ⟨rfl,cur',g1,g2,g3,g4⟩:=h
   have htk:cur.toList.take (i*K.sz)=flat.take (i*K.sz):=by
    rw [<- ht,List.take_take,Nat.min_eq_left (Nat.mul_le_mul_right _ (by omega))]
   have l1:(flat.take (i*K.sz)).length=(xs.take i).length*K.sz:=by
    have h5:=ho.1
    have h7:i*K.sz<=xs.length*K.sz:=Nat.mul_le_mul_right _ (by omega)
    rw [List.length_take,List.length_take,Nat.min_eq_left (show i<=xs.length by omega),h5]; omega
   have l2:(flat.drop (j*K.sz)).length=(xs.drop j).length*K.sz:=by rw [List.length_drop,List.length_drop,ho.1,Nat.sub_mul]
   refine qi hstk hs (by rw [e0]; exact g4) (fun b hb=>.inl (by rw [e0]; exact hb)) (flat:=flat.take (i*K.sz)++flat.drop (j*K.sz)) ?_ (IS (oD hr i) l1 (oE hr j))
   rw [hnew]
   refine ⟨?_,.inr ⟨g,cap,cur',rfl,Nat.zero_le _,g1,by omega,hcm,g2,by rw [g3,htk,ht]⟩⟩
   rw [List.length_append,l1,l2,<- Nat.add_mul,<- hnew,List.length_append]
def ABx (t:TypeId) (K:Kd) (args bs:List AV):Option (List AV) :=
 match args,bs with
 | [.new t1 K1 xs,.int k i,.int k2 j],[]=>if h1:K1=K then (if t1=t/\k=.i64/\k2=.i64/\0<=i/\i<=j/\j<=xs.length then
   some [.new t K ((h1▸xs).take i.toNat++(h1▸xs).drop j.toNat)] else none) else none
 | _,_=>none
theorem AC3 {t:TypeId} {K:Kd} {xs:List K.T} {i j:Nat} (hi:i<=j) (hj:j<=xs.length):ABx t K [.new t K xs,.int .i64 i,.int .i64 j] []=some [.new t K (xs.take i++xs.drop j)]:=by
 have h0:(0:Int)<=(i:Int):=by omega
 have h1:(i:Int)<=(j:Int):=by omega
 have h2:(j:Int)<=(xs.length:Int):=by omega
 simp only [ABx,dif_pos,true_and]
 rw [if_pos ⟨h0,h1,h2⟩,Int.toNat_natCast,Int.toNat_natCast]
theorem AC4 {K:Kd} (L:SlLaysE0.n45 P ρ) (he:xv P (ρ.t 23) K=true) {args bs rs:List AV} (h:ABx (ρ.t 23) K args bs=some rs):XX P (ρ.f 45) args bs rs:=by
 unfold ABx at h
 split at h
 ·split at h
  ·rename_i hk
   subst hk
   split at h
   ·rename_i hc
    obtain ⟨rfl,rfl,rfl,h0,hij,hj⟩:=hc
    cases h
    rename_i i _ j _
    obtain ⟨a,rfl⟩:=Int.eq_ofNat_of_zero_le h0
    obtain ⟨b,rfl⟩:=Int.eq_ofNat_of_zero_le (Int.le_trans h0 hij)
    exact AA2 L he (by omega) (by omega)
   ·cases h
  ·cases h
 ·cases h
end Go.Proofs.YtokiohnjegbnpaaGreat.Core

namespace Go.Proofs.YtokiohnjegbnpaaGreat.Core
open Go IntKind
set_option maxRecDepth 100000
noncomputable section
def ADt:Go.Shelf.Ren:=⟨fun | 41=>74 | n=>n,fun | 22=>30 | 23=>47 | n=>n,fun | n=>n⟩
theorem AC5:SlLaysE0.n41 Tryz.prog ADt:={
 mixed:=by kernel_rfl
 f41:=⟨Tryz.f74.name,by decide,Tryz.func74.trans (congrArg some (by kernel_rfl))⟩
 t4:=Tryz.underlying4
 a4:=Tryz.isAgg4
 z4:=Tryz.sizeOf4
 v4:=Tryz.zeroValue4
 t22:=Tryz.underlying30
 a22:=Tryz.isAgg30
 z22:=Tryz.sizeOf30
 v22:=Tryz.zeroValue30 }
theorem AEG:xv Tryz.prog 47 AG=true:=by kernel_rfl
def ADu:Go.Shelf.Ren:=⟨fun | 45=>88 | n=>n,fun | 22=>29 | 23=>97 | n=>n,fun | n=>n⟩
theorem AC6:SlLaysE0.n45 Tryz.prog ADu:={
 mixed:=by kernel_rfl
 f45:=⟨Tryz.f88.name,by decide,Tryz.func88.trans (congrArg some (by kernel_rfl))⟩
 t0:=Tryz.underlying0
 a0:=Tryz.isAgg0
 z0:=Tryz.sizeOf0
 v0:=Tryz.zeroValue0
 t3:=Tryz.underlying3
 a3:=Tryz.isAgg3
 z3:=Tryz.sizeOf3
 v3:=Tryz.zeroValue3
 t4:=Tryz.underlying4
 a4:=Tryz.isAgg4
 z4:=Tryz.sizeOf4
 v4:=Tryz.zeroValue4
 t22:=Tryz.underlying29
 a22:=Tryz.isAgg29
 z22:=Tryz.sizeOf29
 v22:=Tryz.zeroValue29 }
theorem AEH:xv Tryz.prog 97 AH=true:=by kernel_rfl
def ADv:Go.Shelf.Ren:=⟨fun | 41=>99 | n=>n,fun | 22=>33 | 23=>3 | n=>n,fun | n=>n⟩
theorem AC7:SlLaysE0.n41 Tryz.prog ADv:={
 mixed:=by kernel_rfl
 f41:=⟨Tryz.f99.name,by decide,Tryz.func99.trans (congrArg some (by kernel_rfl))⟩
 t4:=Tryz.underlying4
 a4:=Tryz.isAgg4
 z4:=Tryz.sizeOf4
 v4:=Tryz.zeroValue4
 t22:=Tryz.underlying33
 a22:=Tryz.isAgg33
 z22:=Tryz.sizeOf33
 v22:=Tryz.zeroValue33 }
theorem AEI:xv Tryz.prog 3 (.int .i64)=true:=by kernel_rfl
def AC8:Go.Shelf.Ren:=⟨fun | 41=>104 | n=>n,fun | 22=>36 | 23=>38 | n=>n,fun | n=>n⟩
theorem ABy:SlLaysE0.n41 Tryz.prog AC8:={
 mixed:=by kernel_rfl
 f41:=⟨Tryz.f104.name,by decide,Tryz.func104.trans (congrArg some (by kernel_rfl))⟩
 t4:=Tryz.underlying4
 a4:=Tryz.isAgg4
 z4:=Tryz.sizeOf4
 v4:=Tryz.zeroValue4
 t22:=Tryz.underlying36
 a22:=Tryz.isAgg36
 z22:=Tryz.sizeOf36
 v22:=Tryz.zeroValue36 }
theorem ADw:xv Tryz.prog 38 AD=true:=by kernel_rfl
def AC9:Go.Shelf.Ren:=⟨fun | 10=>144 | 6=>163 | n=>n,fun | 22=>33 | 23=>3 | 25=>69 | n=>n,fun | n=>n⟩
theorem ABz:SlLaysH.n10 Tryz.prog AC9:={
 mixed:=by kernel_rfl
 f6:=⟨Tryz.f163.name,by decide,Tryz.func163.trans (congrArg some (by kernel_rfl))⟩
 f10:=⟨Tryz.f144.name,by decide,Tryz.func144.trans (congrArg some (by kernel_rfl))⟩
 t0:=Tryz.underlying0
 a0:=Tryz.isAgg0
 z0:=Tryz.sizeOf0
 v0:=Tryz.zeroValue0
 t3:=Tryz.underlying3
 a3:=Tryz.isAgg3
 z3:=Tryz.sizeOf3
 v3:=Tryz.zeroValue3
 t4:=Tryz.underlying4
 a4:=Tryz.isAgg4
 z4:=Tryz.sizeOf4
 v4:=Tryz.zeroValue4
 t22:=Tryz.underlying33
 a22:=Tryz.isAgg33
 z22:=Tryz.sizeOf33
 v22:=Tryz.zeroValue33
 a23:=Tryz.isAgg3
 z23:=Tryz.sizeOf3
 t25:=Tryz.underlying69
 a25:=Tryz.isAgg69
 z25:=Tryz.sizeOf69
 v25:=Tryz.zeroValue69 }
theorem AB0:ADs Tryz.prog 145:=⟨enters_of Tryz.func145 (by kernel_rfl) rfl,fun n x b o W hc=>by
 go_enter Tryz.func145,Tryz.ntmps145
 go_wp2
 all_goals (go_ret; exact ⟨by simp_all,0,rfl⟩)⟩
def AC_:Go.Shelf.Ren:=⟨fun | 106=>161 | 213=>170 | 265=>174 | n=>n,fun | n=>n,fun | n=>n⟩
theorem AB1:Lays.n106 Tryz.prog AC_:={
 mixed:=by kernel_rfl
 f106:=Tryz.func161.trans (congrArg some (by kernel_rfl))
 f213:=Tryz.func170.trans (congrArg some (by kernel_rfl))
 f265:=Tryz.func174.trans (congrArg some (by kernel_rfl))
 t3:=Tryz.underlying3
 a3:=Tryz.isAgg3
 z3:=Tryz.sizeOf3
 v3:=Tryz.zeroValue3
 t9:=Tryz.underlying9
 a9:=Tryz.isAgg9
 z9:=Tryz.sizeOf9
 v9:=Tryz.zeroValue9 }
def ADA:Go.Shelf.Ren:=⟨fun | 22=>162 | 29=>171 | 30=>172 | n=>n,fun | 24=>36 | 9=>38 | n=>n,fun | n=>n⟩
theorem AB2:AA0 Tryz.prog ADA:={
 mixed:=by kernel_rfl
 f22:=⟨Tryz.f162.name,by decide,Tryz.func162.trans (congrArg some (by kernel_rfl))⟩
 ov:=fun args w=>run_callFunc_extern Tryz.func171 (by kernel_rfl) (by kernel_rfl) (by kernel_rfl) (by kernel_rfl) args w
 t3:=Tryz.underlying3
 a3:=Tryz.isAgg3
 z3:=Tryz.sizeOf3
 v3:=Tryz.zeroValue3
 t4:=Tryz.underlying4
 a4:=Tryz.isAgg4
 z4:=Tryz.sizeOf4
 v4:=Tryz.zeroValue4
 t24:=Tryz.underlying36
 a24:=Tryz.isAgg36
 z24:=Tryz.sizeOf36
 v24:=Tryz.zeroValue36 }
theorem ADx:xv Tryz.prog 38 AD=true:=by kernel_rfl

def AEJ:List (Nat×A_):=[(6,Jd),(9,XT),(10,Kn),(11,BG),(12,BO),(13,GH),(14,DD),(15,CL),(16,CM),(17,RP),(18,He),(19,EF),(20,CR),(21,Ci),(22,DU),(23,Dn),(24,RQ),(25,RR),(27,Bg),(28,By),(29,C2),(30,DV),(32,EQ),(33,EG),(34,Do),(35,HD),(36,Hp),(37,Oq),(38,BN),(39,Dp),(40,HE),(41,RS),(42,ER),(43,Ot),(44,Mg),(45,CW),(46,ES),(47,GX),(48,Ou),(49,RU),(50,Ai),(51,GY),(52,RV),(53,Ov),(55,Iq),(56,RW),(57,Dw),(58,Ak),(59,GZ),(60,CN),(61,Mi),(62,Ko),(63,Bw),(64,BR),(65,Bz),(66,DE),(67,Fh),(68,Je),(69,Hq),(70,CX),(71,G4),(72,Tt),(73,Ga),(75,Ir),(76,Mj),(77,ET),(78,CO),(79,Fi),(80,Kp),(81,Dq),(82,Cj),(83,Tv),(84,Ow),(85,CY),(86,Mk),(87,RX),(89,HH),(90,CS),(91,BV),(92,Ml),(95,Bi),(96,Is),(97,Mm),(98,Mn),(100,EH),(101,Gb),(102,Aa),(103,F7),(105,EU),(106,Br),(107,C3),(108,Bj),(109,FJ),(110,CB),(111,Ae),(113,Ck),(114,FV),(115,B5),(116,F8),(117,D5),(118,Bp),(119,It),(120,FK),(121,GI),(122,FW),(123,BB),(124,DH),(125,Jf),(126,FX),(127,FM),(128,Cb),(129,Mt),(130,Kq),(131,D6),(132,Ba),(133,Mu),(134,Dk),(135,DI),(137,Ab),(138,Kr),(139,EV),(140,FY),(141,EW),(142,Jg),(143,Ct),(148,AY),(154,Mw),(158,Cu),(159,AL),(160,Jh),(169,Kt)]
def fns (f:Nat):Option A_:=ACz f AEJ
theorem AEP:ABh Tryz.prog fns:=AAy (.cons wY <| .cons zb <| .cons oZ <| .cons ob <| .cons oc <| .cons oe <| .cons mD <| .cons uY <| .cons uZ <| .cons wZ <| .cons yX <| .cons wa <| .cons wg <| .cons wh <| .cons wi <| .cons og <| .cons wo <| .cons wr <| .cons mE <| .cons mF <| .cons wu <| .cons w4 <| .cons rf <| .cons ua <| .cons oh <| .cons rg <| .cons gG <| .cons ub <| .cons mG <| .cons ol <| .cons rh <| .cons w5 <| .cons rk <| .cons uc <| .cons rl <| .cons gH <| .cons rm <| .cons bm <| .cons ud <| .cons w6 <| .cons bn <| .cons bo <| .cons w7 <| .cons ue <| .cons i_ <| .cons w8 <| .cons TC <| .cons LE <| .cons w9 <| .cons eP <| .cons rn <| .cons om <| .cons oo <| .cons ro <| .cons rp <| .cons mH <| .cons mI <| .cons w_ <| .cons gI <| .cons gJ <| .cons eQ <| .cons yY <| .cons bw <| .cons jA <| .cons rq <| .cons ru <| .cons eR <| .cons mJ <| .cons oq <| .cons ot <| .cons mK <| .cons yZ <| .cons uf <| .cons gK <| .cons rz <| .cons xA <| .cons r_ <| .cons jB <| .cons IJ <| .cons sA <| .cons XU <| .cons jC <| .cons sB <| .cons sC <| .cons xB <| .cons xC <| .cons Hr <| .cons aU <| .cons sD <| .cons xD <| .cons xE <| .cons sE <| .cons xF <| .cons gL <| .cons JH <| .cons XV <| .cons ug <| .cons cE <| .cons aV <| .cons gM <| .cons aW <| .cons jD <| .cons XW <| .cons ou <| .cons uh <| .cons sF <| .cons mL <| .cons mM <| .cons ui <| .cons xG <| .cons uj <| .cons sG <| .cons ow <| .cons gN <| .cons aX <| .cons sH <| .cons eS <| .cons cK <| .cons RY <| .cons oz <| .cons sI <| .cons uk <| .cons sJ <| .cons mN <| .cons jE <| .cons MG <| .cons sK <| .cons jF <| .cons FN <| .cons mO <| .cons o4 .nil)
def prims:Gz:=fun f args bs=>if f=74 then sL 47 AG args bs else if f=88 then ABx 97 AH args bs else if f=99 then sL 3 (.int .i64) args bs else if f=104 then sL 38 AD args bs else if f=144 then yg 3 145 args bs else if f=161 then ADr args bs else if f=162 then ABu 38 AD args bs else none
theorem ADB:J_ Tryz.prog prims:=fun f args bs rs h=>by
 unfold prims at h
 split at h
 ·rename_i e; subst e; exact sN AC5 AEG h
 split at h
 ·rename_i e; subst e; exact AC4 AC6 AEH h
 split at h
 ·rename_i e; subst e; exact sN AC7 AEI h
 split at h
 ·rename_i e; subst e; exact sN ABy ADw h
 split at h
 ·rename_i e; subst e; exact ABw ABz Tryz.zeroValue3 AB0 h
 split at h
 ·rename_i e; subst e; exact AC2 AB1 h
 split at h
 ·rename_i e; subst e; exact AC1 AB2 ADx h
 cases h
abbrev cP:Gz:=wJ fns prims
def cG {ρ:Type} (c:AE) (kn kr:St->Option ρ) (ke:Nat->St->Option ρ):St->Option ρ:=HA cP Ln c kn kr ke
def lG {ρ:Type} (c:AE) (hs:List (Nat×Nat)) (l:List Nat) (n:Nat) (kr:St->Option ρ) (ke:Nat->St->Option ρ):St->Option ρ:=Ln fun go s'=>HA cP Ln c (fun s''=>go (s''.cutH hs l n)) kr ke s'
def kJ {ρ:Type} (c:AE) (hs:List (Nat×Nat)) (l:List Nat) (n:Nat) (kn kr:St->Option ρ) (ke:Nat->St->Option ρ):St->Option ρ:=fun s=>cG c kn kr ke (s.cutH hs l n)
def kB {ρ:Type} (hs:List (Nat×Nat)) (l:List Nat) (n:Nat) (kn:St->Option ρ):St->Option ρ:=fun s=>kn (s.cutH hs l n)
def kE {ρ:Type} (b:Nat) (hs:List (Nat×Nat)) (l:List Nat) (n:Nat) (kn:St->Option ρ) (ke:Nat->St->Option ρ):Nat->St->Option ρ:=fun i s=>if i=b then kn (s.cutH hs l n) else ke i s
def kx {ρ:Type}:Nat->St->Option ρ:=fun _ _=>none
def cF (f:Nat) (a:A_) (x b:List AV):Option (RT a.outs):=(cP f x b).bind (Cp a.outs)
theorem cT (a:A_) {f:Nat} {x b:List AV} {t:Option (RT a.outs)} {r:RT a.outs} (hf:fns f=some a) (hl:x.length=a.params.length/\b.length=(EN a.params 0).length) (e:ABp cP a x b=t) (h:t=some r):cF f a x b=some r:=zW hf hl (e.trans h)
theorem jS {ρ:Type} {t w:Option ρ} {r:ρ} (e:w=t) (h:t=some r):w=some r:=e.trans h
theorem lS {ρ:Type} {c:AE} {hs:List (Nat×Nat)} {l:List Nat} {n:Nat} {kr:St->Option ρ} {ke:Nat->St->Option ρ} {s:St} {t:Option ρ} {r:ρ} (e:HA cP Ln c (fun s=>lG c hs l n kr ke (s.cutH hs l n)) kr ke s=t) (h:t=some r):lG c hs l n kr ke s=some r:=AAw (e.trans h)
def jJ (x0:List Int):Option Bool:=cF 6 Jd [.lst (.int .u8) x0] []
def gO (x0:List Int):Option Bool:=cF 9 XT [.lst (.int .u8) x0] []
def Po (x0:List Int):Option (List (List Int)×List AW):=cF 10 Kn [.lst (.int .u8) x0] []
def Pp (x0:List (List Int)) (x1:List AW):Option (AA×List Int×Bool):=cF 11 BG [.lst (.slice (.int .i64)) x0,.lst AZ x1] []
def Pq (x0:List (List Int)) (x1:List AW):Option (AA×List Int×Bool):=cF 12 BO [.lst (.slice (.int .i64)) x0,.lst AZ x1] []
def GJ (x0:O):Option Bool:=cF 13 GH [.agg (U.enc x0)] []
def OI (x0 x1:List AB):Option Bool:=cF 14 DD [.lst AG x0,.lst AG x1] []
def Us (x0:List AB):Option Bool:=cF 15 CL [.lst AG x0] []
def Ut (x0:List AB):Option Bool:=cF 16 CM [.lst AG x0] []
def DW (x0:AB):Option Int:=cF 17 RP [.agg (AG.enc x0)] []
def cL (x0:AA) (x1:Int):Option AA:=cF 18 He [.agg (AM.enc x0),.int .i64 x1] []
def XY (x0:List AB):Option Bool:=cF 19 EF [.lst AG x0] []
def XZ (x0:List AB):Option Bool:=cF 20 CR [.lst AG x0] []
def Xa (x0:List AB):Option Bool:=cF 21 Ci [.lst AG x0] []
def Xb (x0:List AB):Option Bool:=cF 22 DU [.lst AG x0] []
def Pr (x0 x1:List Int):Option Bool:=cF 23 Dn [.lst (.int .i64) x0,.lst (.int .i64) x1] []
def Ra (x0:AA):Option Bool:=cF 24 RQ [.agg (AM.enc x0)] []
def Rb (x0:AA):Option Bool:=cF 25 RR [.agg (AM.enc x0)] []
def OJ (x0:AA):Option Bool:=cF 27 Bg [.agg (AM.enc x0)] []
def OK (x0:AA):Option Bool:=cF 28 By [.agg (AM.enc x0)] []
def Xc (x0:AA):Option Bool:=cF 29 C2 [.agg (AM.enc x0)] []
def Xd (x0:AA):Option Bool:=cF 30 DV [.agg (AM.enc x0)] []
def SF (x1:List Int) (b0:AS):Option (XR×AS):=cF 32 EQ [.ptr 0 0,.lst (.int .u8) x1] [.agg (BI.enc b0)]
def Uu (x0:List Int):Option AS:=cF 33 EG [.lst (.int .u8) x0] []
def Ps (x0:List (List Int)):Option (AA×Bool):=cF 34 Do [.lst (.slice (.int .i64)) x0] []
def SG (x0:AW):Option Bool:=cF 35 HD [.agg (AZ.enc x0)] []
def Hs (x1:AW) (x2:Int) (b0:AA):Option (Bool×AA):=cF 36 Hp [.ptr 0 0,.agg (AZ.enc x1),.int .i64 x2] [.agg (Ad.enc b0)]
def Uv (x0:Bool):Option Int:=cF 37 Oq [.bool x0] []
def Cl (x0:AA):Option AA:=cF 38 BN [.agg (AM.enc x0)] []
def Ku (x0:List (List Int)):Option (AA×Bool):=cF 39 Dp [.lst (.slice (.int .i64)) x0] []
def SH (x0:AW):Option Bool:=cF 40 HE [.agg (AZ.enc x0)] []
def Rc (x1:Int) (x2:AW) (b0:AA):Option (Int×AA):=cF 41 RS [.ptr 0 0,.int .i64 x1,.agg (AZ.enc x2)] [.agg (AM.enc b0)]
def SI (x0:AA):Option AA:=cF 42 ER [.agg (AM.enc x0)] []
def EI (x0:Int):Option Bool:=cF 43 Ot [.int .i64 x0] []
def Af (x0 x1 x2:Int):Option Bool:=cF 44 Mg [.int .i64 x0,.int .i64 x1,.int .i64 x2] []
def Ht (x0:List Int) (x1 x2:Int):Option Bool:=cF 45 CW [.lst (.int .i64) x0,.int .i64 x1,.int .i64 x2] []
def Fq (x0:List Y):Option Bool:=cF 46 ES [.lst AD x0] []
def DJ (b0:O):Option (Bool×O):=cF 47 GX [.ptr 0 0] [.agg (U.enc b0)]
def EJ (x0:AB):Option Bool:=cF 48 Ou [.agg (AG.enc x0)] []
def FO (x0:AB):Option Int:=cF 49 RU [.agg (AG.enc x0)] []
def JI (b0:AA):Option (Bool×AA):=cF 50 Ai [.ptr 0 0] [.agg (AM.enc b0)]
def EX (x1 x2:Int) (b0:AA):Option AA:=cF 51 GY [.ptr 0 0,.int .i64 x1,.int .i64 x2] [.agg (Ad.enc b0)]
def Xe (x0:List AB) (x1:AB):Option Bool:=cF 52 RV [.lst AG x0,.agg (AG.enc x1)] []
def Uw (x0 x1:AB):Option Bool:=cF 53 Ov [.agg (AG.enc x0),.agg (AG.enc x1)] []
def Iu (x1:Int) (b0:AA):Option (List Int×AA):=cF 55 Iq [.ptr 0 0,.int .i64 x1] [.agg (AM.enc b0)]
def AU (x0 x1 x2:Int):Option Bool:=cF 56 RW [.int .i64 x0,.int .i64 x1,.int .i64 x2] []
def B8 (x0:List Int) (x1:Int):Option Bool:=cF 57 Dw [.lst (.int .i64) x0,.int .i64 x1] []
def C_ (x0 x1:List Y):Option Bool:=cF 58 Ak [.lst AD x0,.lst AD x1] []
def DX (x0:List Int) (x1:Int):Option Bool:=cF 59 GZ [.lst (.int .i64) x0,.int .i64 x1] []
def KB (x0 x1:List Y):Option Bool:=cF 60 CN [.lst AD x0,.lst AD x1] []
def Fs (b0:AS):Option (Int×AS):=cF 61 Mi [.ptr 0 0] [.agg (BI.enc b0)]
def Cc (x1:Int) (b0:AS):Option (Int×AS):=cF 62 Ko [.ptr 0 0,.int .i64 x1] [.agg (BI.enc b0)]
def Pt (b0:AS):Option (List (List Int)×AS):=cF 63 Bw [.ptr 0 0] [.agg (BI.enc b0)]
def SJ (b0:AS) (b1:AA):Option (AW×AS×AA):=cF 64 BR [.ptr 0 0,.ptr 1 0] [.agg (BI.enc b0),.agg (AM.enc b1)]
def DY (x0:List (List Int)):Option Bool:=cF 65 Bz [.lst (.slice (.int .i64)) x0] []
def Jj (x0:List (List Int)):Option (List (List Int)):=cF 66 DE [.lst (.slice (.int .i64)) x0] []
def OL (x0:Int) (x1:List (List Int)):Option (O×Bool):=cF 67 Fh [.int .i64 x0,.lst (.slice (.int .i64)) x1] []
def Mx (x0 x1:Int) (x2 x3:ByteArray):Option Bool:=cF 68 Je [.int .i64 x0,.int .i64 x1,.str x2,.str x3] []
def LF (x1:AW) (x2:Int) (b0:AA):Option (Bool×AA):=cF 69 Hq [.ptr 0 0,.agg (AZ.enc x1),.int .i64 x2] [.agg (Ad.enc b0)]
def LG (x1:AW) (x2:Int) (b0:AA):Option (Bool×AA):=cF 70 CX [.ptr 0 0,.agg (AZ.enc x1),.int .i64 x2] [.agg (Ad.enc b0)]
def Bs (x1:Int) (b0:AA):Option (Int×AA):=cF 71 G4 [.ptr 0 0,.int .i64 x1] [.agg (Ad.enc b0)]
def T_ (x0:O):Option O:=cF 72 Tt [.agg (U.enc x0)] []
def JJ (x1:AW) (x2:Int) (b0:AA):Option (Bool×AA):=cF 73 Ga [.ptr 0 0,.agg (AZ.enc x1),.int .i64 x2] [.agg (Ad.enc b0)]
def Cv (x0:O):Option O:=cF 75 Ir [.agg (U.enc x0)] []
def HN (x0:Z):Option Z:=cF 76 Mj [.agg (AH.enc x0)] []
def EY (x0:List (List Int)):Option Bool:=cF 77 ET [.lst (.slice (.int .i64)) x0] []
def G5 (x0:List (List Int)):Option (List (List Int)):=cF 78 CO [.lst (.slice (.int .i64)) x0] []
def OM (x0:Int) (x1:List (List Int)):Option (O×Bool):=cF 79 Fi [.int .i64 x0,.lst (.slice (.int .i64)) x1] []
def Pu (x1:Int) (x2:AW) (b0:AA):Option (Int×AA):=cF 80 Kp [.ptr 0 0,.int .i64 x1,.agg (AZ.enc x2)] [.agg (AM.enc b0)]
def Pv (x1 x2:Int) (b0:AA):Option (Int×AA):=cF 81 Dq [.ptr 0 0,.int .i64 x1,.int .i64 x2] [.agg (AM.enc b0)]
def Fj (x1:O) (x2:List Z) (x3:List AI) (x4:Int) (b0:AA):Option AA:=cF 82 Cj [.ptr 0 0,.agg (U.enc x1),.lst AH x2,.lst Ay x3,.int .i64 x4] [.agg (AM.enc b0)]
def cM (x0:O):Option O:=cF 83 Tv [.agg (U.enc x0)] []
def Ux (x1:Int) (x2:AW) (b0:AA):Option (Int×AA):=cF 84 Ow [.ptr 0 0,.int .i64 x1,.agg (AZ.enc x2)] [.agg (AM.enc b0)]
def LH (x0:List Z):Option (List Z):=cF 85 CY [.lst AH x0] []
def DZ (x0:O):Option O:=cF 86 Mk [.agg (U.enc x0)] []
def Rd (x0:ByteArray):Option Bool:=cF 87 RX [.str x0] []
def My (x0:O) (x1:List (List Int)) (x2:Z):Option (O×List Z×List AI):=cF 89 HH [.agg (U.enc x0),.lst (.slice (.int .i64)) x1,.agg (AH.enc x2)] []
def Gc (x1:List Z) (x2:List AI) (x3:Int) (b0:AA):Option AA:=cF 90 CS [.ptr 0 0,.lst AH x1,.lst Ay x2,.int .i64 x3] [.agg (Ad.enc b0)]
def CI (x0:List AB) (x1:AB):Option Bool:=cF 91 BV [.lst AG x0,.clo 92 AG x1] []
def SK (x0 x1:AB):Option Bool:=cF 92 Ml [.agg (AG.enc x0),.fptr [.int .i64 x1.1,.str x1.2.1,.str x1.2.2.1,.int .i64 x1.2.2.2.1,.int .i64 x1.2.2.2.2.1,.int .i64 x1.2.2.2.2.2.1,.int .i64 x1.2.2.2.2.2.2.1,.int .i64 x1.2.2.2.2.2.2.2.1,.str x1.2.2.2.2.2.2.2.2] 0] []
def Da (x0:List Int) (x1:Int):Option Int:=cF 95 Bi [.lst (.int .i64) x0,.int .i64 x1] []
def Iv (x1:List Int) (b0:AS):Option (Int×AS):=cF 96 Is [.ptr 0 0,.lst (.int .i64) x1] [.agg (BI.enc b0)]
def Db (x1:Int) (b0:AS):Option (Bool×AS):=cF 97 Mm [.ptr 0 0,.int .i64 x1] [.agg (BI.enc b0)]
def Mz (x1:List ByteArray) (b0:AS):Option (ByteArray×AS):=cF 98 Mn [.ptr 0 0,.lst .str x1] [.agg (BI.enc b0)]
def Re (x0:O) (x1:List (List Int)) (x2 x3:Int) (x4 x5:ByteArray):Option (O×List Z×List AI×Bool):=cF 100 EH [.agg (U.enc x0),.lst (.slice (.int .i64)) x1,.int .i64 x2,.int .i64 x3,.str x4,.str x5] []
def Rf (x0:O) (x1:List (List Int)) (x2:Int):Option (O×List Z×Bool):=cF 101 Gb [.agg (U.enc x0),.lst (.slice (.int .i64)) x1,.int .i64 x2] []
def CC (x0:List O) (x1:Int):Option Int:=cF 102 Aa [.lst U x0,.clo 103 (.int .i64) x1] []
def Ic (x0:O) (x1:Int):Option Bool:=cF 103 F7 [.agg (U.enc x0),.fptr [.int .i64 x1] 0] []
def SL (x0:List Int):Option Bool:=cF 105 EU [.lst (.int .i64) x0] []
def Xf (x0:O) (x1:List (List Int)) (x2 x3:Int) (x4 x5:ByteArray):Option (O×List Z×List AI×Bool):=cF 106 Br [.agg (U.enc x0),.lst (.slice (.int .i64)) x1,.int .i64 x2,.int .i64 x3,.str x4,.str x5] []
def Xg (x0:O) (x1:List (List Int)) (x2:Int):Option (O×List Z×Bool):=cF 107 C3 [.agg (U.enc x0),.lst (.slice (.int .i64)) x1,.int .i64 x2] []
def SM (x0:O) (x1:List (List Int)) (x2:Z):Option (O×List Z×List AI):=cF 108 Bj [.agg (U.enc x0),.lst (.slice (.int .i64)) x1,.agg (AH.enc x2)] []
def Xh (x0:Z):Option Bool:=cF 109 FJ [.agg (AH.enc x0)] []
def LI (x1:List (List Int)) (x2:Z) (b0:O):Option (List Z×List AI×O):=cF 110 CB [.ptr 0 0,.lst (.slice (.int .i64)) x1,.agg (AH.enc x2)] [.agg (U.enc b0)]
def CZ (x0:List AB) (x1:AB):Option Int:=cF 111 Ae [.lst AG x0,.clo 92 AG x1] []
def Hu (x1:List (List Int)) (b0:O):Option (Bool×O):=cF 113 Ck [.ptr 0 0,.lst (.slice (.int .i64)) x1] [.agg (U.enc b0)]
def Ox (x0:List Y) (x1:ByteArray):Option Y:=cF 114 FV [.lst AD x0,.str x1] []
def B6 (x1:List Int) (b0:O):Option (List Int×O):=cF 115 B5 [.ptr 0 0,.lst (.int .i64) x1] [.agg (U.enc b0)]
def Cx (b0:List Int):Option (List Int):=cF 116 F8 [.row 0] [.new 3 (.int .i64) b0]
def Hv (b0:O):Option (List AI×O):=cF 117 D5 [.ptr 0 0] [.agg (U.enc b0)]
def Am (x1:List Int) (x2:Z) (b0:O):Option (List Z×O):=cF 118 Bp [.ptr 0 0,.lst (.int .i64) x1,.agg (AH.enc x2)] [.agg (U.enc b0)]
def Gd (b0:O):Option O:=cF 119 It [.ptr 0 0] [.agg (U.enc b0)]
def Dc (x1:List Int) (x2:List Y) (b0:O):Option (List Z×O):=cF 120 FK [.ptr 0 0,.lst (.int .i64) x1,.lst AD x2] [.agg (U.enc b0)]
def GK (x0:O):Option Bool:=cF 121 GI [.agg (U.enc x0)] []
def Oy (x0:List Y) (x1:ByteArray):Option Y:=cF 122 FW [.lst AD x0,.str x1] []
def JK (x0:List Y) (x1:Y):Option (List Y):=cF 123 BB [.lst AD x0,.agg (AD.enc x1)] []
def HO (x0:List Int) (x1:Int):Option (List Int):=cF 124 DH [.lst (.int .i64) x0,.int .i64 x1] []
def HQ (b0:O):Option (List AI×O):=cF 125 Jf [.ptr 0 0] [.agg (U.enc b0)]
def Oz (x1:List Int) (x2:List Y) (b0:O):Option (List Z×O):=cF 126 FX [.ptr 0 0,.lst (.int .i64) x1,.lst AD x2] [.agg (U.enc b0)]
def Xi (x0:Z):Option Bool:=cF 127 FM [.agg (AH.enc x0)] []
def Uy (x0:O) (x1:List Int) (x2:Z):Option (O×List Z×List AI):=cF 128 Cb [.agg (U.enc x0),.lst (.int .i64) x1,.agg (AH.enc x2)] []
def M0 (x0:O) (x1:Int):Option O:=cF 129 Mt [.agg (U.enc x0),.int .i64 x1] []
def Eo (x0:O) (x1:Z) (x2:Int):Option (List Z):=cF 130 Kq [.agg (U.enc x0),.agg (AH.enc x1),.int .i64 x2] []
def LJ (x1:List (List Int)) (x2:Z) (b0:O):Option (List Z×O):=cF 131 D6 [.ptr 0 0,.lst (.slice (.int .i64)) x1,.agg (AH.enc x2)] [.agg (U.enc b0)]
def Id (x1:List Int) (x2:Z) (b0:O):Option (List Z×O):=cF 132 Ba [.ptr 0 0,.lst (.int .i64) x1,.agg (AH.enc x2)] [.agg (U.enc b0)]
def M1 (x0:List Int) (x1:Int):Option (List Int):=cF 133 Mu [.lst (.int .i64) x0,.int .i64 x1] []
def KC (x1:Z) (b0:O):Option (List Z×O):=cF 134 Dk [.ptr 0 0,.agg (AH.enc x1)] [.agg (U.enc b0)]
def Ge (x1:Int) (x2:Z) (b0:O):Option (List AI×O):=cF 135 DI [.ptr 0 0,.int .i64 x1,.agg (AH.enc x2)] [.agg (U.enc b0)]
def CT (x1 x2 x3:Int) (b0:List Int):Option (List Int):=cF 137 Ab [.row 0,.int .i64 x1,.int .i64 x2,.int .i64 x3] [.new 3 (.int .i64) b0]
def Pw (x0:Int):Option Int:=cF 138 Kr [.int .u64 x0] []
def M2 (x0:List Y) (x1:Y):Option (List Y):=cF 139 EV [.lst AD x0,.agg (AD.enc x1)] []
def DQ (x0:List Int):Option Bool:=cF 140 FY [.lst (.int .i64) x0] []
def Dd (x0:List Y):Option Bool:=cF 141 EW [.lst AD x0] []
def ON (x0:wK):Option Bool:=cF 142 Jg [.agg (MX.enc x0)] []
def Iw (x0:List Int) (x1:Int):Option (List Int):=cF 143 Ct [.lst (.int .i64) x0,.int .i64 x1] []
def DO (x1 x2:Int) (b0:List Int):Option (List Int):=cF 148 AY [.row 0,.int .i64 x1,.int .i64 x2] [.new 3 (.int .i64) b0]
def M3 (x0 x1:Int):Option Bool:=cF 154 Mw [.int .i64 x0,.int .i64 x1] []
def M4 (x0:Int):Option Int:=cF 158 Cu [.int .u64 x0] []
def BT (x0:List Y) (x1:ByteArray) (x2:Unit):Option (Int×Bool):=cF 159 AL [.lst AD x0,.str x1,.fn 160 []] []
def Jk (x0:Y) (x1:ByteArray):Option Int:=cF 160 Jh [.agg (AD.enc x0),.str x1] []
def Kv (x0:Int):Option Bool:=cF 169 Kt [.int .i64 x0] []
def DA (q0:List AB):Option (List AB):=(cP 74 [.lst AG q0] []).bind (Cp [(.own 47 AG)])
def Bc (q0:List Z) (q1 q2:Int):Option (List Z):=(cP 88 [.new 97 AH q0,.int .i64 q1,.int .i64 q2] []).bind (Cp [(.own 97 AH)])
def Bk (q0:List Int):Option (List Int):=(cP 99 [.lst (.int .i64) q0] []).bind (Cp [(.own 3 (.int .i64))])
def Al (q0:List Y):Option (List Y):=(cP 104 [.lst AD q0] []).bind (Cp [(.own 38 AD)])
def FP (q0:List Int) (q1:Int):Option (List Int):=(cP 144 [.new 3 (.int .i64) q0,.clo 145 (.int .i64) q1] []).bind (Cp [(.own 3 (.int .i64))])
def Px (q0 q1:Int) (q2:List Int):Option (List Int):=(cP 149 [.row 0,.int .i64 q0,.int .i64 q1] [.new 3 (.int .i64) q2]).bind (Cp [(.own 3 (.int .i64))])
def MH (q0 q1:Int) (q2:List Int):Option (List Int):=(cP 150 [.row 0,.int .i64 q0,.int .i64 q1] [.new 3 (.int .i64) q2]).bind (Cp [(.own 3 (.int .i64))])
def Nk (q0 q1:Int) (q2:List Int):Option (Int×Int×List Int):=(cP 151 [.row 0,.int .i64 q0,.int .i64 q1] [.new 3 (.int .i64) q2]).bind (Cp [(.int .i64),(.int .i64),(.own 3 (.int .i64))])
def M5 (q0 q1:Int) (q2:List Int):Option (List Int):=(cP 152 [.row 0,.int .i64 q0,.int .i64 q1] [.new 3 (.int .i64) q2]).bind (Cp [(.own 3 (.int .i64))])
def Ie (q0 q1:Int) (q2:List Int):Option (Bool×List Int):=(cP 153 [.row 0,.int .i64 q0,.int .i64 q1] [.new 3 (.int .i64) q2]).bind (Cp [.bool,(.own 3 (.int .i64))])
def LK (q0 q1 q2:Int) (q3:List Int):Option (Int×List Int):=(cP 155 [.row 0,.int .i64 q0,.int .i64 q1,.int .i64 q2] [.new 3 (.int .i64) q3]).bind (Cp [(.int .i64),(.own 3 (.int .i64))])
def PL (q0 q1 q2:Int) (q3:List Int):Option (Int×Bool×List Int):=(cP 156 [.row 0,.int .i64 q0,.int .i64 q1,.int .i64 q2] [.new 3 (.int .i64) q3]).bind (Cp [(.int .i64),.bool,(.own 3 (.int .i64))])
def Cy (q0:List Y) (q1:Int) (q2:List Y):Option (List Y):=(cP 162 [.new 38 AD q0,.int .i64 q1,.new 38 AD q2] []).bind (Cp [(.own 38 AD)])
def M6 (q0 q1:ByteArray):Option Int:=(cP 161 [.str q0,.str q1] []).bind (Cp [(.int .i64)])
theorem LL {x0:List AB} (h:x0.length<=68719476736):DA x0=some x0:=by
 unfold DA cP
 rw [OD (r:=[.new 47 AG x0]) rfl (sM (t:=47) (K:=AG) (xs:=x0) h)]
 rfl
theorem GE {x0:List Z} {i j:Nat} (hi:i<=j) (hj:j<=x0.length):Bc x0 (i:Int) (j:Int)=some (x0.take i++x0.drop j):=by
 unfold Bc cP
 rw [OD (r:=[.new 97 AH (x0.take i++x0.drop j)]) rfl (AC3 (t:=97) (K:=AH) (xs:=x0) hi hj)]
 rfl
theorem Cm {x0:List Int} (h:x0.length<=68719476736):Bk x0=some x0:=by
 unfold Bk cP
 rw [OD (r:=[.new 3 (.int .i64) x0]) rfl (sM (t:=3) (K:=(.int .i64)) (xs:=x0) h)]
 rfl
theorem BE {x0:List Y} (h:x0.length<=68719476736):Al x0=some x0:=by
 unfold Al cP
 rw [OD (r:=[.new 38 AD x0]) rfl (sM (t:=38) (K:=AD) (xs:=x0) h)]
 rfl
theorem Rg {x0:List Int} {x1:Int}:FP x0 x1=some (x0.filter fun x=>!(x==x1)):=by
 unfold FP cP
 rw [OD (fns:=fns) (prims:=prims) (f:=144) (args:=[.new 3 (.int .i64) x0,.clo 145 (.int .i64) x1]) (bs:=[]) (r:=[.new 3 (.int .i64) (x0.filter fun x=>!(x==x1))]) rfl (ABv (t:=3) (g:=145) (xs:=x0) (n:=x1))]
 rfl
theorem jK {x0 x1:ByteArray}:M6 x0 x1=some (Go.Lib.compareBytes x0.data.toList x1.data.toList):=by
 unfold M6 cP
 rw [OD (r:=[.int .i64 (Go.Lib.compareBytes x0.data.toList x1.data.toList)]) rfl rfl]
 rfl
theorem Ka {x0:List Y} {i:Nat} {x2:List Y} (h:x0.length+x2.length<=68719476736) (hi:i<=x0.length) (hv:x2.length≠0):Cy x0 (i:Int) x2=some (x0.take i++x2++x0.drop i):=by
 unfold Cy cP
 rw [OD (r:=[.new 38 AD (x0.take i++x2++x0.drop i)]) rfl (AC0 (t:=38) (K:=AD) (xs:=x0) (vs:=x2) (i:=i) h hi hv)]
 rfl

def ZM (x0:Bool) (x1 x2:AA):Option Bool:=cG ba (AF Jd) (AF Jd) kx ⟨[(5,.ptr 0 0),(54,.bool x0)],[.var (AM.enc x1),.var (AM.enc x2)]⟩
def ZN (x0:Bool) (x1 x2:AA):Option Bool:=((cL x1 300).bind fun y7=>((Ra x1).bind fun y8=>(if y8=true then ((Rb x1).bind fun y9=>(if y9=true then ((Ra y7).bind fun y10=>(if y10=true then ((Rb y7).bind fun y11=>(some y11)) else (some false))) else (some false))) else (some false))))
def jL (x0:List Int):Option Bool:=((gO x0).bind fun y1=>(if y1=true then (some true) else ((Po x0).bind fun y2=>((Pp y2.1 y2.2).bind fun y3=>((Pq y2.1 y2.2).bind fun y4=>(if (!y3.2.2)=false then ((Pr y3.2.1 y4.2.1).bind fun y5=>(if (!y5)=false then ((OI y3.1.2.2.2 y4.1.2.2.2).bind fun y6=>(if (!y6)=false then (if ((y3.1.2.1.length:Int) != 6)=true then (some false) else (ZM ((y3.1.2.1.length:Int) != 6) y3.1 y4.1)) else (some false))) else (some false))) else (some false)))))))
theorem o5:RO ZN ZM:=jS (by kernel_rfl)
theorem xK:MJ jL jJ:=cT Jd rfl ⟨rfl,rfl⟩ (by kernel_rfl)
def ze (x0:List Int):Option Bool:=(some (decide ((x0.length:Int)>1048576)))
theorem zf:MJ ze gO:=cT XT rfl ⟨rfl,rfl⟩ (by kernel_rfl)
def ZO (x0:List Int):Option (List (List Int)×List AW):=((Uu x0).bind fun y1=>((SF x0 y1).bind fun y2=>(some (y2.1.1,y2.1.2))))
theorem o6:MJ ZO Po:=cT Kn rfl ⟨rfl,rfl⟩ (by kernel_rfl)
def jM:=cG Ry (AF BG) (AF BG) kx
def jN:=kE 2 [(11,11)] [4,7,11] 12 jM kx
def gP:St->Option (RT (A_.outs BG)):=lG Rx [(11,11)] [4,7,11,39,40,41] 12 (AF BG) jN
def jO:=cG LC (AF BG) (AF BG) kx
def jP:=kE 0 [] [1,4,7] 11 jO kx
def gQ:St->Option (RT (A_.outs BG)):=lG TR [] [1,4,7,28,29,30] 11 (AF BG) jP
def Ft (x0:List AW) (x1 x2:Int) (x3:List O) (x4:List Z) (x5:List AB) (x6:List (List Int)) (x7:List O) (x8:List Z) (x9:List AB) (x10:List (List Int)) (x11:List Int):Option (AA×List Int×Bool):=gP ⟨[(4,.ptr 3 0),(7,.ptr 10 0),(11,.row 11),(39,.lst AZ x0),(40,.int .i64 x1),(41,.int .i64 x2)],[.rows 42 U x3,.rows 97 AH x4,.rows 47 AG x5,.var [.lst (.slice (.int .i64)) x6,.row 0,.row 1,.row 2],.dead,.dead,.dead,.rows 42 U x7,.rows 97 AH x8,.rows 47 AG x9,.var [.lst (.slice (.int .i64)) x10,.row 7,.row 8,.row 9],.rows 3 (.int .i64) x11]⟩
def SN (x0:List AW) (x1:List O) (x2:List Z) (x3:List AB) (x4:List (List Int)) (x5:List O) (x6:List Z) (x7:List AB) (x8:List (List Int)):Option (AA×List Int×Bool):=cG LC (AF BG) (AF BG) kx ⟨[(1,.lst AZ x0),(4,.ptr 3 0),(7,.ptr 10 0)],[.rows 42 U x1,.rows 97 AH x2,.rows 47 AG x3,.var [.lst (.slice (.int .i64)) x4,.row 0,.row 1,.row 2],.dead,.dead,.dead,.rows 42 U x5,.rows 97 AH x6,.rows 47 AG x7,.var [.lst (.slice (.int .i64)) x8,.row 7,.row 8,.row 9]]⟩
def Fu (x0 x1:List AW) (x2 x3:Int) (x4:List O) (x5:List Z) (x6:List AB) (x7:List (List Int)) (x8:List O) (x9:List Z) (x10:List AB) (x11:List (List Int)):Option (AA×List Int×Bool):=gQ ⟨[(1,.lst AZ x0),(4,.ptr 3 0),(7,.ptr 10 0),(28,.lst AZ x1),(29,.int .i64 x2),(30,.int .i64 x3)],[.rows 42 U x4,.rows 97 AH x5,.rows 47 AG x6,.var [.lst (.slice (.int .i64)) x7,.row 0,.row 1,.row 2],.dead,.dead,.dead,.rows 42 U x8,.rows 97 AH x9,.rows 47 AG x10,.var [.lst (.slice (.int .i64)) x11,.row 7,.row 8,.row 9]]⟩
def SO (x0:List AW) (x1:Bool) (x2:List O) (x3:List Z) (x4:List AB) (x5:List (List Int)) (x6:List O) (x7:List Z) (x8:List AB) (x9:List (List Int)):Option (AA×List Int×Bool):=cG Rz (AF BG) (AF BG) kx ⟨[(1,.lst AZ x0),(4,.ptr 3 0),(7,.ptr 10 0),(26,.bool x1)],[.rows 42 U x2,.rows 97 AH x3,.rows 47 AG x4,.var [.lst (.slice (.int .i64)) x5,.row 0,.row 1,.row 2],.dead,.dead,.dead,.rows 42 U x6,.rows 97 AH x7,.rows 47 AG x8,.var [.lst (.slice (.int .i64)) x9,.row 7,.row 8,.row 9]]⟩
def LN (x0:List AW) (x1 x2:Int) (x3:List O) (x4:List Z) (x5:List AB) (x6:List (List Int)) (x7:List O) (x8:List Z) (x9:List AB) (x10:List (List Int)) (x11:List Int):Option (AA×List Int×Bool):=(if (decide (x2<x1))=true then (if 0<=x2 then (if x2<(x0.length:Int) then ((Hs (x0.getD x2.toNat (0,0,0,0,ByteArray.empty,ByteArray.empty)) x2 (x10,x7,x8,x9)).bind fun y3=>((Uv y3.1).bind fun y4=>(if x11.length+([y4]:List Int).length<=68719476736 then (Ft x0 x1 (i64.wrap (x2+1)) x3 x4 x5 x6 y3.2.2.1 y3.2.2.2.1 y3.2.2.2.2 y3.2.1 (x11++([y4]:List Int))) else none))) else none) else none) else ((Cl (x10,x7,x8,x9)).bind fun y5=>(some (y5,x11,true))))
def SP (x0:List AW) (x1:List O) (x2:List Z) (x3:List AB) (x4:List (List Int)) (x5:List O) (x6:List Z) (x7:List AB) (x8:List (List Int)):Option (AA×List Int×Bool):=(Ft x0 (x0.length:Int) 0 x1 x2 x3 x4 x5 x6 x7 x8 ([]:List Int))
def LO (x0 x1:List AW) (x2 x3:Int) (x4:List O) (x5:List Z) (x6:List AB) (x7:List (List Int)) (x8:List O) (x9:List Z) (x10:List AB) (x11:List (List Int)):Option (AA×List Int×Bool):=(if (decide (x3<x2))=true then (if 0<=x3 then (if x3<(x1.length:Int) then ((SG (x1.getD x3.toNat (0,0,0,0,ByteArray.empty,ByteArray.empty))).bind fun y2=>(if (!y2)=true then (some (([],([]:List O),([]:List Z),([]:List AB)),[],false)) else (Fu x0 x1 x2 (i64.wrap (x3+1)) x4 x5 x6 x7 x8 x9 x10 x11))) else none) else none) else (SN x0 x4 x5 x6 x7 x8 x9 x10 x11))
def SQ (x0:List AW) (x1:Bool) (x2:List O) (x3:List Z) (x4:List AB) (x5:List (List Int)) (x6:List O) (x7:List Z) (x8:List AB) (x9:List (List Int)):Option (AA×List Int×Bool):=(Fu x0 x0 (x0.length:Int) 0 x2 x3 x4 x5 x6 x7 x8 x9)
def ZP (x0:List (List Int)) (x1:List AW):Option (AA×List Int×Bool):=((Ps x0).bind fun y1=>(if (!y1.2)=false then (if (decide ((x1.length:Int)>70))=true then (some (([],([]:List O),([]:List Z),([]:List AB)),[],false)) else (SO x1 (decide ((x1.length:Int)>70)) ([]:List O) ([]:List Z) ([]:List AB) ([]:List (List Int)) y1.1.2.1 y1.1.2.2.1 y1.1.2.2.2 y1.1.1)) else (some (([],([]:List O),([]:List Z),([]:List AB)),[],false))))
theorem SS:ADq LN Ft:=lS (by kernel_rfl)
theorem gR:Le9 SP SN:=jS (by kernel_rfl)
theorem ST:ADq LO Fu:=lS (by kernel_rfl)
theorem gS:uX SQ SO:=jS (by kernel_rfl)
theorem o7:Ni ZP Pp:=cT BG rfl ⟨rfl,rfl⟩ (by kernel_rfl)
def jQ:=cG R0 (AF BO) (AF BO) kx
def jR:=kE 2 [(10,2)] [4,7,10] 3 jQ kx
def gT:St->Option (RT (A_.outs BO)):=lG TV [(10,2)] [1,4,7,10,11] 3 (AF BO) jR
def jT:=cG LD (AF BO) (AF BO) kx
def UA:=kE 0 [] [1,4,7,8] 2 jT kx
def SU:St->Option (RT (A_.outs BO)):=lG TU [] [1,4,7,8,9] 2 (AF BO) UA
def jU:=kB [] [1,4,7,8,9] 2 SU
def SV (x0:List AW) (x1:Bool) (x2:Int) (x3:Bool) (x4 x5:AA):Option (AA×List Int×Bool):=cG TS jU (AF BO) UA ⟨[(1,.lst AZ x0),(4,.ptr 0 0),(7,.ptr 1 0),(8,.bool x1),(9,.int .i64 x2),(23,.bool x3)],[.var (AM.enc x4),.var (AM.enc x5)]⟩
def Fv (x0:List AW) (x1:Int) (x2 x3:AA) (x4:List Int):Option (AA×List Int×Bool):=gT ⟨[(1,.lst AZ x0),(4,.ptr 0 0),(7,.ptr 1 0),(10,.row 2),(11,.int .i64 x1)],[.var (AM.enc x2),.var (AM.enc x3),.rows 3 (.int .i64) x4]⟩
def Hw (x0:List AW) (x1:Bool) (x2 x3:AA):Option (AA×List Int×Bool):=cG LD (AF BO) (AF BO) kx ⟨[(1,.lst AZ x0),(4,.ptr 0 0),(7,.ptr 1 0),(8,.bool x1)],[.var (AM.enc x2),.var (AM.enc x3)]⟩
def D8 (x0:List AW) (x1:Bool) (x2:Int) (x3 x4:AA):Option (AA×List Int×Bool):=SU ⟨[(1,.lst AZ x0),(4,.ptr 0 0),(7,.ptr 1 0),(8,.bool x1),(9,.int .i64 x2)],[.var (AM.enc x3),.var (AM.enc x4)]⟩
def SW (x0:List AW) (x1:Bool) (x2:Int) (x3:Bool) (x4 x5:AA):Option (AA×List Int×Bool):=(if (decide ((x0.length:Int)<=70))=true then (if 0<=x2 then (if x2<(x0.length:Int) then ((SH (x0.getD x2.toNat (0,0,0,0,ByteArray.empty,ByteArray.empty))).bind fun y2=>(D8 x0 y2 (i64.wrap (x2+1)) x4 x5)) else none) else none) else (D8 x0 false (i64.wrap (x2+1)) x4 x5))
def LP (x0:List AW) (x1:Int) (x2 x3:AA) (x4:List Int):Option (AA×List Int×Bool):=(if (decide (x1<(x0.length:Int)))=true then (if 0<=x1 then (if x1<(x0.length:Int) then ((Rc x1 (x0.getD x1.toNat (0,0,0,0,ByteArray.empty,ByteArray.empty)) x3).bind fun y3=>(if x4.length+([y3.1]:List Int).length<=68719476736 then (Fv x0 (i64.wrap (x1+1)) x2 y3.2 (x4++([y3.1]:List Int))) else none)) else none) else none) else ((SI x3).bind fun y4=>(some (y4,x4,true))))
def SX (x0:List AW) (x1:Bool) (x2 x3:AA):Option (AA×List Int×Bool):=(if (!x1)=true then (some ((([]:List (List Int)),([]:List O),([]:List Z),([]:List AB)),([]:List Int),false)) else (Fv x0 0 x2 x3 ([]:List Int)))
def LQ (x0:List AW) (x1:Bool) (x2:Int) (x3 x4:AA):Option (AA×List Int×Bool):=(if (decide (x2<(x0.length:Int)))=true then (if x1=true then (SV x0 x1 x2 x1 x3 x4) else (Hw x0 x1 x3 x4)) else (Hw x0 x1 x3 x4))
def ZQ (x0:List (List Int)) (x1:List AW):Option (AA×List Int×Bool):=((Ku x0).bind fun y1=>(D8 x1 y1.2 0 (([]:List (List Int)),([]:List O),([]:List Z),([]:List AB)) y1.1))
theorem gU:zZ SW SV:=jS (by kernel_rfl)
theorem SY:zG LP Fv:=lS (by kernel_rfl)
theorem gV:bZ SX Hw:=jS (by kernel_rfl)
theorem SZ:zG LQ D8:=lS (by kernel_rfl)
theorem o8:Ni ZQ Pq:=cT BO rfl ⟨rfl,rfl⟩ (by kernel_rfl)
def LR (x0:Bool) (x1:O):Option Bool:=cG TW (AF GH) (AF GH) kx ⟨[(1,.ptr 0 0),(30,.bool x0)],[.var (U.enc x1)]⟩
def Sa (x0:Bool) (x1:O):Option Bool:=(if x1.2.2.2.2.2.1=true then (if (!x1.2.2.2.1)=false then (if (!x1.2.2.2.2.1)=false then (if (decide ((x1.2.2.2.2.2.2.1.length:Int)>0))=false then (if x1.2.2.1=true then (if x1.2.2.2.1=false then (if x1.2.2.2.2.1=true then (some false) else ((DJ x1).bind fun y6=>(some y6.1))) else (some false)) else ((DJ x1).bind fun y7=>(some y7.1))) else (some false)) else (some false)) else (some false)) else (if x1.2.2.1=true then (if x1.2.2.2.1=false then (if x1.2.2.2.2.1=true then (some false) else ((DJ x1).bind fun y8=>(some y8.1))) else (some false)) else ((DJ x1).bind fun y9=>(some y9.1))))
def ZR (x0:O):Option Bool:=((EI x0.1).bind fun y1=>(if (!y1)=false then ((Af x0.2.1 1 9).bind fun y2=>(if (!y2)=false then ((Ht x0.2.2.2.2.2.2.1 1 6).bind fun y3=>(if (!y3)=false then ((Fq x0.2.2.2.2.2.2.2.1).bind fun y4=>(if (!y4)=false then ((Af x0.2.2.2.2.2.2.2.2.1 0 900).bind fun y5=>(if (!y5)=true then (some false) else (LR (!y5) x0))) else (some false))) else (some false))) else (some false))) else (some false)))
theorem gW:Ni Sa LR:=jS (by kernel_rfl)
theorem o9:MJ ZR GJ:=cT GH rfl ⟨rfl,rfl⟩ (by kernel_rfl)
def gX:=cG R2 (AF DD) (AF DD) kx
def gY:=kE 0 [] [] 0 gX kx
def eT:St->Option (RT (A_.outs DD)):=lG R1 [] [0,1,5] 0 (AF DD) gY
def G6 (x0 x1:List AB) (x2:Int):Option Bool:=eT ⟨[(0,.lst AG x0),(1,.lst AG x1),(5,.int .i64 x2)],[]⟩
def KD (x0 x1:List AB) (x2:Int):Option Bool:=(if (decide (x2<(x0.length:Int)))=true then (if 0<=x2 then (if x2<(x0.length:Int) then (if 0<=x2 then (if x2<(x1.length:Int) then (if (true != Ph AG (x0.getD x2.toNat (0,ByteArray.empty,ByteArray.empty,0,0,0,0,0,ByteArray.empty)) (x1.getD x2.toNat (0,ByteArray.empty,ByteArray.empty,0,0,0,0,0,ByteArray.empty)))=true then (some false) else (G6 x0 x1 (i64.wrap (x2+1)))) else none) else none) else none) else none) else (some true))
def Vz (x0 x1:List AB):Option Bool:=(if ((x0.length:Int) != (x1.length:Int))=true then (some false) else (G6 x0 x1 0))
theorem Qs:RO KD G6:=lS (by kernel_rfl)
theorem mS:Ni Vz OI:=cT DD rfl ⟨rfl,rfl⟩ (by kernel_rfl)
def o_:=cG VS (AF CL) (AF CL) kx
def Py:=kE 0 [] [] 0 o_ kx
def V0:St->Option (RT (A_.outs CL)):=lG VR [] [0,7,8,9] 0 (AF CL) Py
def pA:=kB [] [0,7,8,9] 0 V0
def ZS:=cG VQ pA (AF CL) Py
def pB:=kB [] [0,7,8,9] 0 ZS
def pC:=kE 1 [] [0,7,8,9] 0 ZS Py
def Pz:=kE 2 [] [0,7,8,9] 1 pB pC
def V5:St->Option (RT (A_.outs CL)):=lG YA [] [0,3,4,7,8,9,14,15,16] 1 (AF CL) Pz
def pD:=kB [] [0,3,4,7,8,9,14,15,16] 1 V5
def ZT:=cG X_ pD (AF CL) Pz
def pE:=kB [] [0,3,4,7,8,9,14,15,16] 1 ZT
def mT:=kE 3 [] [0,3,4,7,8,9,14,15,16] 1 ZT Pz
def OO (x0:List AB) (x1:Int) (x2:List AB) (x3 x4:Int) (x5:List AB) (x6 x7:Int) (x8:Bool) (x9 x10:AB):Option Bool:=cG X9 pE (AF CL) mT ⟨[(0,.lst AG x0),(3,.int .i64 x1),(4,.ptr 0 0),(6,.ptr 1 0),(7,.lst AG x2),(8,.int .i64 x3),(9,.int .i64 x4),(14,.lst AG x5),(15,.int .i64 x6),(16,.int .i64 x7),(33,.bool x8)],[.var (AG.enc x9),.var (AG.enc x10)]⟩
def DK (x0:List AB) (x1:Int) (x2:List AB) (x3 x4:Int) (x5:List AB) (x6 x7:Int) (x8:AB):Option Bool:=V5 ⟨[(0,.lst AG x0),(3,.int .i64 x1),(4,.ptr 0 0),(7,.lst AG x2),(8,.int .i64 x3),(9,.int .i64 x4),(14,.lst AG x5),(15,.int .i64 x6),(16,.int .i64 x7)],[.var (AG.enc x8)]⟩
def Jl (x0 x1:List AB) (x2 x3:Int):Option Bool:=V0 ⟨[(0,.lst AG x0),(7,.lst AG x1),(8,.int .i64 x2),(9,.int .i64 x3)],[]⟩
def V6 (x0:List AB) (x1:Int) (x2:List AB) (x3 x4:Int) (x5:List AB) (x6 x7:Int) (x8:Bool) (x9 x10:AB):Option Bool:=((DW x9).bind fun y3=>((DW x10).bind fun y4=>(if (y3==y4)=true then (some false) else (if (decide (x9.2.2.2.2.1<x10.2.2.2.1))=true then ((DW x9).bind fun y5=>((DW x10).bind fun y6=>(if (decide (y5>y6))=true then (some false) else (DK x0 x1 x2 x3 x4 x5 x6 (i64.wrap (x7+1)) x9)))) else (DK x0 x1 x2 x3 x4 x5 x6 (i64.wrap (x7+1)) x9)))))
def OP (x0:List AB) (x1:Int) (x2:List AB) (x3 x4:Int) (x5:List AB) (x6 x7:Int) (x8:AB):Option Bool:=(if (decide (x7<x6))=true then (if 0<=x7 then (if x7<(x5.length:Int) then (if (x1==x7)=false then ((EJ x8).bind fun y1=>(if (!y1)=false then ((EJ (x5.getD x7.toNat (0,ByteArray.empty,ByteArray.empty,0,0,0,0,0,ByteArray.empty))).bind fun y2=>(if (!y2)=true then (DK x0 x1 x2 x3 x4 x5 x6 (i64.wrap (x7+1)) x8) else (OO x0 x1 x2 x3 x4 x5 x6 x7 (!y2) x8 (x5.getD x7.toNat (0,ByteArray.empty,ByteArray.empty,0,0,0,0,0,ByteArray.empty))))) else (DK x0 x1 x2 x3 x4 x5 x6 (i64.wrap (x7+1)) x8))) else (DK x0 x1 x2 x3 x4 x5 x6 (i64.wrap (x7+1)) x8)) else none) else none) else (Jl x0 x2 x3 (i64.wrap (x4+1))))
def OQ (x0 x1:List AB) (x2 x3:Int):Option Bool:=(if (decide (x3<x2))=true then (if 0<=x3 then (if x3<(x1.length:Int) then (DK x0 x3 x1 x2 x3 x0 (x0.length:Int) 0 (x1.getD x3.toNat (0,ByteArray.empty,ByteArray.empty,0,0,0,0,0,ByteArray.empty))) else none) else none) else (some true))
def fW (x0:List AB):Option Bool:=(Jl x0 x0 (x0.length:Int) 0)
theorem mU:AEE V6 OO:=jS (by kernel_rfl)
theorem V7:Le9 OP DK:=lS (by kernel_rfl)
theorem V8:bZ OQ Jl:=lS (by kernel_rfl)
theorem ul:MJ fW Us:=cT CL rfl ⟨rfl,rfl⟩ (by kernel_rfl)
def pF:=cG VX (AF CM) (AF CM) kx
def P0:=kE 0 [] [] 0 pF kx
def V9:St->Option (RT (A_.outs CM)):=lG VV [] [0,3] 0 (AF CM) P0
def pG:=kB [] [0,3] 0 V9
def ZU:=cG VU pG (AF CM) P0
def pH:=kB [] [0,3] 0 ZU
def pI:=kE 1 [] [0,3] 0 ZU P0
def P1:=kE 2 [] [0,3] 0 pH pI
def V_:St->Option (RT (A_.outs CM)):=lG VT [] [0,3,4] 0 (AF CM) P1
def pJ:=kB [] [0,3,4] 0 V_
def ZV:=cG YD pJ (AF CM) P1
def pK:=kB [] [0,3,4] 0 ZV
def mV:=kE 3 [] [0,3,4] 0 ZV P1
def OR (x0:List AB) (x1 x2:Int) (x3:Bool) (x4 x5:AB):Option Bool:=cG YC pK (AF CM) mV ⟨[(0,.lst AG x0),(3,.int .i64 x1),(4,.int .i64 x2),(5,.ptr 0 0),(6,.ptr 1 0),(39,.bool x3)],[.var (AG.enc x4),.var (AG.enc x5)]⟩
def DL (x0:List AB) (x1 x2:Int):Option Bool:=V_ ⟨[(0,.lst AG x0),(3,.int .i64 x1),(4,.int .i64 x2)],[]⟩
def Jm (x0:List AB) (x1:Int):Option Bool:=V9 ⟨[(0,.lst AG x0),(3,.int .i64 x1)],[]⟩
def WA (x0:List AB) (x1 x2:Int) (x3:Bool) (x4 x5:AB):Option Bool:=((FO x4).bind fun y1=>((FO x5).bind fun y2=>(if (y1==y2)=true then (some false) else (if (decide (x4.2.2.2.2.1<x5.2.2.2.1))=true then ((FO x4).bind fun y3=>((FO x5).bind fun y4=>(if (decide (y3>=y4))=true then (some false) else (DL x0 x1 (i64.wrap (x2+1)))))) else (DL x0 x1 (i64.wrap (x2+1)))))))
def OS (x0:List AB) (x1 x2:Int):Option Bool:=(if (decide (x2<(x0.length:Int)))=true then (if 0<=x1 then (if x1<(x0.length:Int) then (if 0<=x2 then (if x2<(x0.length:Int) then (if (decide (((((((x0.getD x1.toNat (0,ByteArray.empty,ByteArray.empty,0,0,0,0,0,ByteArray.empty)).2).2).2).2).1)<0))=false then (if (decide (((((((x0.getD x2.toNat (0,ByteArray.empty,ByteArray.empty,0,0,0,0,0,ByteArray.empty)).2).2).2).2).1)<0))=false then (if (x1==x2)=true then (DL x0 x1 (i64.wrap (x2+1))) else (OR x0 x1 x2 (x1==x2) (x0.getD x1.toNat (0,ByteArray.empty,ByteArray.empty,0,0,0,0,0,ByteArray.empty)) (x0.getD x2.toNat (0,ByteArray.empty,ByteArray.empty,0,0,0,0,0,ByteArray.empty)))) else (DL x0 x1 (i64.wrap (x2+1)))) else (DL x0 x1 (i64.wrap (x2+1)))) else none) else none) else none) else none) else (Jm x0 (i64.wrap (x1+1))))
def OT (x0:List AB) (x1:Int):Option Bool:=(if (decide (x1<(x0.length:Int)))=true then (DL x0 x1 0) else (some true))
def fX (x0:List AB):Option Bool:=(Jm x0 0)
theorem mW:zZ WA OR:=jS (by kernel_rfl)
theorem WB:RO OS DL:=lS (by kernel_rfl)
theorem WC:Ni OT Jm:=lS (by kernel_rfl)
theorem um:MJ fX Ut:=cT CM rfl ⟨rfl,rfl⟩ (by kernel_rfl)
def jV (x0:AB):Option Int:=((Af x0.2.2.2.2.2.2.1 0 9).bind fun y1=>(if (!y1)=false then ((Af x0.2.2.2.2.2.2.2.1 0 999).bind fun y2=>(if (!y2)=true then (some 0) else (some (i64.wrap ((i64.wrap (1000*x0.2.2.2.2.2.2.1))+x0.2.2.2.2.2.2.2.1))))) else (some 0)))
theorem xL:MJ jV DW:=cT RP rfl ⟨rfl,rfl⟩ (by kernel_rfl)
def uo:=cG fV (AF He) (AF He) kx
def uq:=kE 0 [] [4,5] 12 uo kx
def sO:St->Option (RT (A_.outs He)):=lG fU [] [4,5,6] 12 (AF He) uq
def M7 (x0:Int) (x1:AA) (x2:List O) (x3:List Z) (x4:List AB) (x5:List (List Int)) (x6:List O) (x7:List Z) (x8:List AB) (x9:List (List Int)):Option AA:=sO ⟨[(4,.ptr 4 0),(5,.ptr 11 0),(6,.int .i64 x0)],[.var (AM.enc x1),.rows 42 U x2,.rows 97 AH x3,.rows 47 AG x4,.var [.lst (.slice (.int .i64)) x5,.row 1,.row 2,.row 3],.dead,.dead,.dead,.rows 42 U x6,.rows 97 AH x7,.rows 47 AG x8,.var [.lst (.slice (.int .i64)) x9,.row 8,.row 9,.row 10]]⟩
def Sb (x0:Int) (x1:AA) (x2:List O) (x3:List Z) (x4:List AB) (x5:List (List Int)) (x6:List O) (x7:List Z) (x8:List AB) (x9:List (List Int)):Option AA:=(if (decide (x0>0))=true then (if (decide ((x7.length:Int)>0))=true then ((EX 0 70 (x9,x6,x7,x8)).bind fun y3=>(M7 (i64.wrap (x0-1)) x1 x2 x3 x4 x5 y3.2.1 y3.2.2.1 y3.2.2.2 y3.1)) else ((Cl (x9,x6,x7,x8)).bind fun y4=>(some y4))) else ((Cl (x9,x6,x7,x8)).bind fun y5=>(some y5)))
def oF (x0:AA) (x1:Int):Option AA:=((Cl x0).bind fun y1=>((JI x0).bind fun y2=>(if (!y2.1)=true then (some y1) else (M7 (min x1 1000) y2.2 ([]:List O) ([]:List Z) ([]:List AB) ([]:List (List Int)) y1.2.1 y1.2.2.1 y1.2.2.2 y1.1))))
theorem cN:uX Sb M7:=lS (by kernel_rfl)
theorem yj:Ni oF cL:=cT He rfl ⟨rfl,rfl⟩ (by kernel_rfl)
def sP:=cG YF (AF EF) (AF EF) kx
def Sc:=kE 0 [] [] 0 sP kx
def ZW:St->Option (RT (A_.outs EF)):=lG YE [] [0,5,6,7] 0 (AF EF) Sc
def sQ:=kB [] [0,5,6,7] 0 ZW
def cO:=cG bd sQ (AF EF) Sc
def sR:=kB [] [0,5,6,7] 0 cO
def sS:=kE 1 [] [0,5,6,7] 0 cO Sc
def P2 (x0 x1:List AB) (x2 x3:Int) (x4:Bool) (x5:AB):Option Bool:=cG bc sR (AF EF) sS ⟨[(0,.lst AG x0),(4,.ptr 0 0),(5,.lst AG x1),(6,.int .i64 x2),(7,.int .i64 x3),(18,.bool x4)],[.var (AG.enc x5)]⟩
def Ep (x0 x1:List AB) (x2 x3:Int):Option Bool:=ZW ⟨[(0,.lst AG x0),(5,.lst AG x1),(6,.int .i64 x2),(7,.int .i64 x3)],[]⟩
def ZX (x0 x1:List AB) (x2 x3:Int) (x4:Bool) (x5:AB):Option Bool:=(if (x5.2.2.2.2.2.1==0)=true then (if (!(x5.2.2.2.2.2.2.2.2.toList==(⟨#[]⟩:ByteArray).toList))=true then (some false) else (Ep x0 x1 x2 (i64.wrap (x3+1)))) else ((Xe x0 x5).bind fun y2=>(if (!y2)=true then (some false) else ((DW x5).bind fun y3=>(if (decide (x5.2.2.2.2.2.1>y3))=true then (some false) else (Ep x0 x1 x2 (i64.wrap (x3+1))))))))
def P3 (x0 x1:List AB) (x2 x3:Int):Option Bool:=(if (decide (x3<x2))=true then (if 0<=x3 then (if x3<(x1.length:Int) then (if (((x1.getD x3.toNat (0,ByteArray.empty,ByteArray.empty,0,0,0,0,0,ByteArray.empty)).1) != 2)=false then ((EJ (x1.getD x3.toNat (0,ByteArray.empty,ByteArray.empty,0,0,0,0,0,ByteArray.empty))).bind fun y1=>(if (!y1)=true then (Ep x0 x1 x2 (i64.wrap (x3+1))) else (P2 x0 x1 x2 x3 (!y1) (x1.getD x3.toNat (0,ByteArray.empty,ByteArray.empty,0,0,0,0,0,ByteArray.empty))))) else (Ep x0 x1 x2 (i64.wrap (x3+1)))) else none) else none) else (some true))
def jW (x0:List AB):Option Bool:=(Ep x0 x0 (x0.length:Int) 0)
theorem pL:zZ ZX P2:=jS (by kernel_rfl)
theorem ZY:bZ P3 Ep:=lS (by kernel_rfl)
theorem xM:MJ jW XY:=cT EF rfl ⟨rfl,rfl⟩ (by kernel_rfl)
def sU:=cG YJ (AF CR) (AF CR) kx
def Sd:=kE 0 [] [] 0 sU kx
def ZZ:St->Option (RT (A_.outs CR)):=lG YI [] [0,3] 0 (AF CR) Sd
def sV:=kB [] [0,3] 0 ZZ
def cQ:=cG YH sV (AF CR) Sd
def Se:=kB [] [0,3] 0 cQ
def M8:=kE 1 [] [0,3] 0 cQ Sd
def sW:=cG Pn Se (AF CR) M8
def sX:=kE 2 [] [0,3,4,5] 1 sW M8
def pM:St->Option (RT (A_.outs CR)):=lG be [] [0,3,4,5,6] 1 (AF CR) sX
def P4 (x0:List AB) (x1:Int) (x2:Bool) (x3:AB):Option Bool:=cG Pn Se (AF CR) M8 ⟨[(0,.lst AG x0),(3,.int .i64 x1),(4,.ptr 0 0),(5,.bool x2)],[.var (AG.enc x3)]⟩
def GL (x0:List AB) (x1:Int) (x2:Bool) (x3:Int) (x4:AB):Option Bool:=pM ⟨[(0,.lst AG x0),(3,.int .i64 x1),(4,.ptr 0 0),(5,.bool x2),(6,.int .i64 x3)],[.var (AG.enc x4)]⟩
def P5 (x0:List AB) (x1:Int) (x2:Bool) (x3:AB):Option Bool:=cG YG Se (AF CR) M8 ⟨[(0,.lst AG x0),(3,.int .i64 x1),(4,.ptr 0 0),(24,.bool x2)],[.var (AG.enc x3)]⟩
def Er (x0:List AB) (x1:Int):Option Bool:=ZZ ⟨[(0,.lst AG x0),(3,.int .i64 x1)],[]⟩
def Za (x0:List AB) (x1:Int) (x2:Bool) (x3:AB):Option Bool:=(if (!x2)=true then (some false) else ((FO x3).bind fun y2=>(if (decide (x3.2.2.2.2.2.1>y2))=true then (some false) else (Er x0 (i64.wrap (x1+1))))))
def P6 (x0:List AB) (x1:Int) (x2:Bool) (x3:Int) (x4:AB):Option Bool:=(if (decide (x3<(x0.length:Int)))=true then (if x2=true then (GL x0 x1 true (i64.wrap (x3+1)) x4) else (if 0<=x3 then (if x3<(x0.length:Int) then ((Uw x4 (x0.getD x3.toNat (0,ByteArray.empty,ByteArray.empty,0,0,0,0,0,ByteArray.empty))).bind fun y1=>(GL x0 x1 y1 (i64.wrap (x3+1)) x4)) else none) else none)) else (P4 x0 x1 x2 x4))
def Zb (x0:List AB) (x1:Int) (x2:Bool) (x3:AB):Option Bool:=(if (x3.2.2.2.2.2.1==0)=true then (if (!(x3.2.2.2.2.2.2.2.2.toList==(⟨#[]⟩:ByteArray).toList))=true then (some false) else (Er x0 (i64.wrap (x1+1)))) else (GL x0 x1 false 0 x3))
def P7 (x0:List AB) (x1:Int):Option Bool:=(if (decide (x1<(x0.length:Int)))=true then (if 0<=x1 then (if x1<(x0.length:Int) then (if (((x0.getD x1.toNat (0,ByteArray.empty,ByteArray.empty,0,0,0,0,0,ByteArray.empty)).1) != 2)=false then (if (decide (((((((x0.getD x1.toNat (0,ByteArray.empty,ByteArray.empty,0,0,0,0,0,ByteArray.empty)).2).2).2).2).1)<0))=true then (Er x0 (i64.wrap (x1+1))) else (P5 x0 x1 (decide (((((((x0.getD x1.toNat (0,ByteArray.empty,ByteArray.empty,0,0,0,0,0,ByteArray.empty)).2).2).2).2).1)<0)) (x0.getD x1.toNat (0,ByteArray.empty,ByteArray.empty,0,0,0,0,0,ByteArray.empty)))) else (Er x0 (i64.wrap (x1+1)))) else none) else none) else (some true))
def jX (x0:List AB):Option Bool:=(Er x0 0)
theorem pN:bZ Za P4:=jS (by kernel_rfl)
theorem Zc:zG P6 GL:=lS (by kernel_rfl)
theorem pO:bZ Zb P5:=jS (by kernel_rfl)
theorem Zd:Ni P7 Er:=lS (by kernel_rfl)
theorem xN:MJ jX XZ:=cT CR rfl ⟨rfl,rfl⟩ (by kernel_rfl)
def sY:=cG YS (AF Ci) (AF Ci) kx
def Sf:=kE 0 [] [] 0 sY kx
def Ze:St->Option (RT (A_.outs Ci)):=lG YR [] [0,8,9,10] 0 (AF Ci) Sf
def sZ:=kB [] [0,8,9,10] 0 Ze
def cR:=cG YQ sZ (AF Ci) Sf
def sa:=kB [] [0,8,9,10] 0 cR
def sb:=kE 1 [] [0,8,9,10] 0 cR Sf
def Sg:=kE 2 [] [0,8,9,10] 1 sa sb
def Zf:St->Option (RT (A_.outs Ci)):=lG YP [] [0,4,8,9,10,22,23,24] 1 (AF Ci) Sg
def se:=kB [] [0,4,8,9,10,22,23,24] 1 Zf
def cS:=cG YO se (AF Ci) Sg
def sf:=kB [] [0,4,8,9,10,22,23,24] 1 cS
def pP:=kE 3 [] [0,4,8,9,10,22,23,24] 1 cS Sg
def Cd (x0:List AB) (x1:Bool) (x2:List AB) (x3 x4:Int) (x5:List AB) (x6 x7:Int) (x8 x9:AB):Option Bool:=cG YN sf (AF Ci) pP ⟨[(0,.lst AG x0),(4,.ptr 0 0),(6,.ptr 1 0),(7,.bool x1),(8,.lst AG x2),(9,.int .i64 x3),(10,.int .i64 x4),(22,.lst AG x5),(23,.int .i64 x6),(24,.int .i64 x7)],[.var (AG.enc x8),.var (AG.enc x9)]⟩
def IK (x0 x1:List AB) (x2 x3:Int) (x4:List AB) (x5 x6:Int) (x7:AB):Option Bool:=Zf ⟨[(0,.lst AG x0),(4,.ptr 0 0),(8,.lst AG x1),(9,.int .i64 x2),(10,.int .i64 x3),(22,.lst AG x4),(23,.int .i64 x5),(24,.int .i64 x6)],[.var (AG.enc x7)]⟩
def GM (x0 x1:List AB) (x2 x3:Int):Option Bool:=Ze ⟨[(0,.lst AG x0),(8,.lst AG x1),(9,.int .i64 x2),(10,.int .i64 x3)],[]⟩
def Zg (x0:List AB) (x1:Bool) (x2:List AB) (x3 x4:Int) (x5:List AB) (x6 x7:Int) (x8 x9:AB):Option Bool:=(if x1=true then (if (decide (x8.2.2.2.2.2.1<x9.2.2.2.2.2.1))=true then (some false) else (IK x0 x2 x3 x4 x5 x6 (i64.wrap (x7+1)) x8)) else (IK x0 x2 x3 x4 x5 x6 (i64.wrap (x7+1)) x8))
def P8 (x0 x1:List AB) (x2 x3:Int) (x4:List AB) (x5 x6:Int) (x7:AB):Option Bool:=(if (decide (x6<x5))=true then (if 0<=x6 then (if x6<(x4.length:Int) then (if (((x4.getD x6.toNat (0,ByteArray.empty,ByteArray.empty,0,0,0,0,0,ByteArray.empty)).1)==1)=true then (if ((((x4.getD x6.toNat (0,ByteArray.empty,ByteArray.empty,0,0,0,0,0,ByteArray.empty)).2).1).toList==x7.2.1.toList)=true then ((EJ (x4.getD x6.toNat (0,ByteArray.empty,ByteArray.empty,0,0,0,0,0,ByteArray.empty))).bind fun y2=>(if y2=true then ((DW (x4.getD x6.toNat (0,ByteArray.empty,ByteArray.empty,0,0,0,0,0,ByteArray.empty))).bind fun y3=>((DW x7).bind fun y4=>(Cd x0 (decide (y3<y4)) x1 x2 x3 x4 x5 x6 x7 (x4.getD x6.toNat (0,ByteArray.empty,ByteArray.empty,0,0,0,0,0,ByteArray.empty))))) else (Cd x0 false x1 x2 x3 x4 x5 x6 x7 (x4.getD x6.toNat (0,ByteArray.empty,ByteArray.empty,0,0,0,0,0,ByteArray.empty))))) else (Cd x0 false x1 x2 x3 x4 x5 x6 x7 (x4.getD x6.toNat (0,ByteArray.empty,ByteArray.empty,0,0,0,0,0,ByteArray.empty)))) else (if (((x4.getD x6.toNat (0,ByteArray.empty,ByteArray.empty,0,0,0,0,0,ByteArray.empty)).1)==2)=true then (if ((((x4.getD x6.toNat (0,ByteArray.empty,ByteArray.empty,0,0,0,0,0,ByteArray.empty)).2).1).toList==x7.2.1.toList)=true then ((EJ (x4.getD x6.toNat (0,ByteArray.empty,ByteArray.empty,0,0,0,0,0,ByteArray.empty))).bind fun y5=>(if y5=true then ((DW (x4.getD x6.toNat (0,ByteArray.empty,ByteArray.empty,0,0,0,0,0,ByteArray.empty))).bind fun y6=>((DW x7).bind fun y7=>(Cd x0 (decide (y6<y7)) x1 x2 x3 x4 x5 x6 x7 (x4.getD x6.toNat (0,ByteArray.empty,ByteArray.empty,0,0,0,0,0,ByteArray.empty))))) else (Cd x0 false x1 x2 x3 x4 x5 x6 x7 (x4.getD x6.toNat (0,ByteArray.empty,ByteArray.empty,0,0,0,0,0,ByteArray.empty))))) else (Cd x0 false x1 x2 x3 x4 x5 x6 x7 (x4.getD x6.toNat (0,ByteArray.empty,ByteArray.empty,0,0,0,0,0,ByteArray.empty)))) else (Cd x0 false x1 x2 x3 x4 x5 x6 x7 (x4.getD x6.toNat (0,ByteArray.empty,ByteArray.empty,0,0,0,0,0,ByteArray.empty))))) else none) else none) else (GM x0 x1 x2 (i64.wrap (x3+1))))
def P9 (x0 x1:List AB) (x2 x3:Int):Option Bool:=(if (decide (x3<x2))=true then (if 0<=x3 then (if x3<(x1.length:Int) then (if (((x1.getD x3.toNat (0,ByteArray.empty,ByteArray.empty,0,0,0,0,0,ByteArray.empty)).1) != 2)=false then ((EJ (x1.getD x3.toNat (0,ByteArray.empty,ByteArray.empty,0,0,0,0,0,ByteArray.empty))).bind fun y1=>(if (!y1)=true then (GM x0 x1 x2 (i64.wrap (x3+1))) else (IK x0 x1 x2 x3 x0 (x0.length:Int) 0 (x1.getD x3.toNat (0,ByteArray.empty,ByteArray.empty,0,0,0,0,0,ByteArray.empty))))) else (GM x0 x1 x2 (i64.wrap (x3+1)))) else none) else none) else (some true))
def jY (x0:List AB):Option Bool:=(GM x0 x0 (x0.length:Int) 0)
theorem pQ:uX Zg Cd:=jS (by kernel_rfl)
theorem Zh:za P8 IK:=lS (by kernel_rfl)
theorem Zi:bZ P9 GM:=lS (by kernel_rfl)
theorem xO:MJ jY Xa:=cT Ci rfl ⟨rfl,rfl⟩ (by kernel_rfl)
def sg:=cG YZ (AF DU) (AF DU) kx
def Sh:=kE 0 [] [] 0 sg kx
def Zj:St->Option (RT (A_.outs DU)):=lG YY [] [0,3] 0 (AF DU) Sh
def sh:=kB [] [0,3] 0 Zj
def cU:=cG YX sh (AF DU) Sh
def sj:=kB [] [0,3] 0 cU
def sm:=kE 1 [] [0,3] 0 cU Sh
def sn:=kE 2 [] [0,3] 0 sj sm
def pR:St->Option (RT (A_.outs DU)):=lG YW [] [0,3,4] 0 (AF DU) sn
def C4 (x0:List AB) (x1 x2:Int):Option Bool:=pR ⟨[(0,.lst AG x0),(3,.int .i64 x1),(4,.int .i64 x2)],[]⟩
def Kw (x0:List AB) (x1:Int):Option Bool:=Zj ⟨[(0,.lst AG x0),(3,.int .i64 x1)],[]⟩
def P_ (x0:List AB) (x1 x2:Int):Option Bool:=(if (decide (x2<(x0.length:Int)))=true then (if 0<=x1 then (if x1<(x0.length:Int) then (if 0<=x2 then (if x2<(x0.length:Int) then (if (((x0.getD x1.toNat (0,ByteArray.empty,ByteArray.empty,0,0,0,0,0,ByteArray.empty)).1)==2)=true then (if (decide (((((((x0.getD x1.toNat (0,ByteArray.empty,ByteArray.empty,0,0,0,0,0,ByteArray.empty)).2).2).2).2).1)>=0))=true then (if (decide (((((((x0.getD x2.toNat (0,ByteArray.empty,ByteArray.empty,0,0,0,0,0,ByteArray.empty)).2).2).2).2).1)>=0))=true then (if ((((x0.getD x2.toNat (0,ByteArray.empty,ByteArray.empty,0,0,0,0,0,ByteArray.empty)).2).1).toList==(((x0.getD x1.toNat (0,ByteArray.empty,ByteArray.empty,0,0,0,0,0,ByteArray.empty)).2).1).toList)=true then ((FO (x0.getD x2.toNat (0,ByteArray.empty,ByteArray.empty,0,0,0,0,0,ByteArray.empty))).bind fun y1=>((FO (x0.getD x1.toNat (0,ByteArray.empty,ByteArray.empty,0,0,0,0,0,ByteArray.empty))).bind fun y2=>(if (decide (y1<y2))=true then (if (decide ((((((((x0.getD x2.toNat (0,ByteArray.empty,ByteArray.empty,0,0,0,0,0,ByteArray.empty)).2).2).2).2).2).1)>(((((((x0.getD x1.toNat (0,ByteArray.empty,ByteArray.empty,0,0,0,0,0,ByteArray.empty)).2).2).2).2).2).1)))=true then (some false) else (C4 x0 x1 (i64.wrap (x2+1)))) else (C4 x0 x1 (i64.wrap (x2+1)))))) else (C4 x0 x1 (i64.wrap (x2+1)))) else (C4 x0 x1 (i64.wrap (x2+1)))) else (C4 x0 x1 (i64.wrap (x2+1)))) else (C4 x0 x1 (i64.wrap (x2+1)))) else none) else none) else none) else none) else (Kw x0 (i64.wrap (x1+1))))
def QA (x0:List AB) (x1:Int):Option Bool:=(if (decide (x1<(x0.length:Int)))=true then (C4 x0 x1 0) else (some true))
def jZ (x0:List AB):Option Bool:=(Kw x0 0)
theorem Zk:RO P_ C4:=lS (by kernel_rfl)
theorem Zl:Ni QA Kw:=lS (by kernel_rfl)
theorem xP:MJ jZ Xb:=cT DU rfl ⟨rfl,rfl⟩ (by kernel_rfl)
def ja:=cG TY (AF Dn) (AF Dn) kx
def jb:=kE 0 [] [] 0 ja kx
def gZ:St->Option (RT (A_.outs Dn)):=lG TX [] [0,1,5] 0 (AF Dn) jb
def Hx (x0 x1:List Int) (x2:Int):Option Bool:=gZ ⟨[(0,.lst (.int .i64) x0),(1,.lst (.int .i64) x1),(5,.int .i64 x2)],[]⟩
def LT (x0 x1:List Int) (x2:Int):Option Bool:=(if (decide (x2<(x0.length:Int)))=true then (if 0<=x2 then (if x2<(x0.length:Int) then (if 0<=x2 then (if x2<(x1.length:Int) then (if ((x0.getD x2.toNat 0) != (x1.getD x2.toNat 0))=true then (some false) else (Hx x0 x1 (i64.wrap (x2+1)))) else none) else none) else none) else none) else (some true))
def Zm (x0 x1:List Int):Option Bool:=(if ((x0.length:Int) != (x1.length:Int))=true then (some false) else (Hx x0 x1 0))
theorem Si:RO LT Hx:=lS (by kernel_rfl)
theorem pS:Ni Zm Pr:=cT Dn rfl ⟨rfl,rfl⟩ (by kernel_rfl)
def jc (x0:AA):Option Bool:=((Us x0.2.2.2).bind fun y1=>(if y1=true then ((XY x0.2.2.2).bind fun y2=>(if y2=true then ((Xa x0.2.2.2).bind fun y3=>(if y3=true then ((OJ x0).bind fun y4=>(if y4=true then ((Xc x0).bind fun y5=>(some y5)) else (some false))) else (some false))) else (some false))) else (some false)))
theorem xQ:MJ jc Ra:=cT RQ rfl ⟨rfl,rfl⟩ (by kernel_rfl)
def jd (x0:AA):Option Bool:=((Ut x0.2.2.2).bind fun y1=>(if y1=true then ((XZ x0.2.2.2).bind fun y2=>(if y2=true then ((Xb x0.2.2.2).bind fun y3=>(if y3=true then ((OK x0).bind fun y4=>(if y4=true then ((Xd x0).bind fun y5=>(some y5)) else (some false))) else (some false))) else (some false))) else (some false)))
theorem xR:MJ jd Rb:=cT RR rfl ⟨rfl,rfl⟩ (by kernel_rfl)
def ga:=cG Qa (AF Bg) (AF Bg) kx
def LU:=kE 0 [] [] 1 ga kx
def Qt:St->Option (RT (A_.outs Bg)):=lG QZ [] [1,9,10,11] 1 (AF Bg) LU
def gd:=kB [] [1,9,10,11] 1 Qt
def Sj:=cG QY gd (AF Bg) LU
def Sk:=kB [] [1,9,10,11] 1 Sj
def Sl:=kE 1 [] [1,9,10,11] 1 Sj LU
def ge:=kE 2 [] [1,9,10,11] 2 Sk Sl
def eU:St->Option (RT (A_.outs Bg)):=lG R3 [] [1,4,9,10,11,36,37,38] 2 (AF Bg) ge
def E3 (x0:List O) (x1 x2:Int) (x3:List O) (x4 x5:Int) (x6:AA) (x7:O):Option Bool:=eU ⟨[(1,.ptr 0 0),(4,.ptr 1 0),(9,.lst U x0),(10,.int .i64 x1),(11,.int .i64 x2),(36,.lst U x3),(37,.int .i64 x4),(38,.int .i64 x5)],[.var (AM.enc x6),.var (U.enc x7)]⟩
def KE (x0:Int) (x1:List O) (x2 x3:Int) (x4:Bool) (x5:AA) (x6:O):Option Bool:=cG R4 Sk (AF Bg) Sl ⟨[(1,.ptr 0 0),(3,.int .i64 x0),(4,.ptr 1 0),(9,.lst U x1),(10,.int .i64 x2),(11,.int .i64 x3),(32,.bool x4)],[.var (AM.enc x5),.var (U.enc x6)]⟩
def E4 (x0:List O) (x1 x2:Int) (x3:List (List Int)) (x4:List O) (x5:List Z) (x6:List AB):Option Bool:=Qt ⟨[(1,.ptr 0 0),(9,.lst U x0),(10,.int .i64 x1),(11,.int .i64 x2)],[.var [.lst (.slice (.int .i64)) x3,.lst U x4,.lst AH x5,.lst AG x6]]⟩
def KF (x0:List O) (x1 x2:Int) (x3:List O) (x4 x5:Int) (x6:AA) (x7:O):Option Bool:=(if (decide (x5<x4))=true then (if 0<=x5 then (if x5<(x3.length:Int) then (if (((((((x3.getD x5.toNat (0,0,false,false,false,false,([]:List Int),([]:List Y),0,0,0,0,(ByteArray.empty,ByteArray.empty,0),([]:List Int))).2).2).2).2).2).1)=true then (if ((((x3.getD x5.toNat (0,0,false,false,false,false,([]:List Int),([]:List Y),0,0,0,0,(ByteArray.empty,ByteArray.empty,0),([]:List Int))).2).1)==x7.2.1)=true then (some false) else (E3 x0 x1 x2 x3 x4 (i64.wrap (x5+1)) x6 x7)) else (E3 x0 x1 x2 x3 x4 (i64.wrap (x5+1)) x6 x7)) else none) else none) else (E4 x0 x1 (i64.wrap (x2+1)) x6.1 x6.2.1 x6.2.2.1 x6.2.2.2))
def Qu (x0:Int) (x1:List O) (x2 x3:Int) (x4:Bool) (x5:AA) (x6:O):Option Bool:=(if 0<=(0:Int) then (if 0<=x0 then (if x0<=(x5.2.1.length:Int) then (E3 x1 x2 x3 ((x5.2.1.take x0.toNat).drop (0:Int).toNat) (((x5.2.1.take x0.toNat).drop (0:Int).toNat).length:Int) 0 x5 x6) else none) else none) else none)
def KG (x0:List O) (x1 x2:Int) (x3:List (List Int)) (x4:List O) (x5:List Z) (x6:List AB):Option Bool:=(if (decide (x2<x1))=true then (if 0<=x2 then (if x2<(x0.length:Int) then (if (!(((((((x0.getD x2.toNat (0,0,false,false,false,false,([]:List Int),([]:List Y),0,0,0,0,(ByteArray.empty,ByteArray.empty,0),([]:List Int))).2).2).2).2).2).1))=true then (E4 x0 x1 (i64.wrap (x2+1)) x3 x4 x5 x6) else ((Iu (((x0.getD x2.toNat (0,0,false,false,false,false,([]:List Int),([]:List Y),0,0,0,0,(ByteArray.empty,ByteArray.empty,0),([]:List Int))).2).1) (x3,x4,x5,x6)).bind fun y1=>(if ((y1.1.length:Int)==0)=true then (some false) else (if 0<=(0:Int) then (if 0<(y1.1.length:Int) then (if ((y1.1.getD (0:Int).toNat 0) != ((x0.getD x2.toNat (0,0,false,false,false,false,([]:List Int),([]:List Y),0,0,0,0,(ByteArray.empty,ByteArray.empty,0),([]:List Int))).1))=true then (some false) else (KE x2 x0 x1 x2 ((y1.1.getD (0:Int).toNat 0) != ((x0.getD x2.toNat (0,0,false,false,false,false,([]:List Int),([]:List Y),0,0,0,0,(ByteArray.empty,ByteArray.empty,0),([]:List Int))).1)) y1.2 (x0.getD x2.toNat (0,0,false,false,false,false,([]:List Int),([]:List Y),0,0,0,0,(ByteArray.empty,ByteArray.empty,0),([]:List Int))))) else none) else none)))) else none) else none) else (some true))
def WD (x0:AA):Option Bool:=(E4 x0.2.1 (x0.2.1.length:Int) 0 x0.1 x0.2.1 x0.2.2.1 x0.2.2.2)
theorem Qv:za KF E3:=lS (by kernel_rfl)
theorem eV:Le7 Qu KE:=jS (by kernel_rfl)
theorem Qw:Le7 KG E4:=lS (by kernel_rfl)
theorem mX:MJ WD OJ:=cT Bg rfl ⟨rfl,rfl⟩ (by kernel_rfl)

def gf:=cG Qf (AF By) (AF By) kx
def LV:=kE 0 [] [] 1 gf kx
def Qx:St->Option (RT (A_.outs By)):=lG Qe [] [1,3] 1 (AF By) LV
def gh:=kB [] [1,3] 1 Qx
def Sm:=cG Qd gh (AF By) LV
def gj:=kB [] [1,3] 1 Sm
def gm:=kE 1 [] [1,3] 1 Sm LV
def gp:=kE 2 [] [1,3] 2 gj gm
def eW:St->Option (RT (A_.outs By)):=lG Qc [] [1,3,4,5] 2 (AF By) gp
def Dl (x0 x1:Int) (x2:AA) (x3:O):Option Bool:=eW ⟨[(1,.ptr 0 0),(3,.int .i64 x0),(4,.ptr 1 0),(5,.int .i64 x1)],[.var (AM.enc x2),.var (U.enc x3)]⟩
def E5 (x0:Int) (x1:AA):Option Bool:=Qx ⟨[(1,.ptr 0 0),(3,.int .i64 x0)],[.var (AM.enc x1)]⟩
def KH (x0 x1:Int) (x2:AA) (x3:O):Option Bool:=(if (decide (x1<x0))=true then (if 0<=x1 then (if x1<(x2.2.1.length:Int) then (if (((((((x2.2.1.getD x1.toNat (0,0,false,false,false,false,([]:List Int),([]:List Y),0,0,0,0,(ByteArray.empty,ByteArray.empty,0),([]:List Int))).2).2).2).2).2).1)=true then (if 0<=x1 then (if x1<(x2.2.1.length:Int) then (if ((((x2.2.1.getD x1.toNat (0,0,false,false,false,false,([]:List Int),([]:List Y),0,0,0,0,(ByteArray.empty,ByteArray.empty,0),([]:List Int))).2).1)==x3.2.1)=true then (some false) else (Dl x0 (i64.wrap (x1+1)) x2 x3)) else none) else none) else (Dl x0 (i64.wrap (x1+1)) x2 x3)) else none) else none) else (E5 (i64.wrap (x0+1)) x2))
def KI (x0:Int) (x1:AA):Option Bool:=(if (decide (x0<(x1.2.1.length:Int)))=true then (if 0<=x0 then (if x0<(x1.2.1.length:Int) then (if (!(((((((x1.2.1.getD x0.toNat (0,0,false,false,false,false,([]:List Int),([]:List Y),0,0,0,0,(ByteArray.empty,ByteArray.empty,0),([]:List Int))).2).2).2).2).2).1))=true then (E5 (i64.wrap (x0+1)) x1) else ((AU (((x1.2.1.getD x0.toNat (0,0,false,false,false,false,([]:List Int),([]:List Y),0,0,0,0,(ByteArray.empty,ByteArray.empty,0),([]:List Int))).2).1) 1 (x1.1.length:Int)).bind fun y1=>(if (!y1)=true then (some false) else (if 0<=(i64.wrap ((((x1.2.1.getD x0.toNat (0,0,false,false,false,false,([]:List Int),([]:List Y),0,0,0,0,(ByteArray.empty,ByteArray.empty,0),([]:List Int))).2).1)-1)) then (if (i64.wrap ((((x1.2.1.getD x0.toNat (0,0,false,false,false,false,([]:List Int),([]:List Y),0,0,0,0,(ByteArray.empty,ByteArray.empty,0),([]:List Int))).2).1)-1))<(x1.1.length:Int) then (if (((x1.1.getD (i64.wrap ((((x1.2.1.getD x0.toNat (0,0,false,false,false,false,([]:List Int),([]:List Y),0,0,0,0,(ByteArray.empty,ByteArray.empty,0),([]:List Int))).2).1)-1)).toNat ([]:List Int)).length:Int)==0)=true then (some false) else (if 0<=(i64.wrap ((((x1.2.1.getD x0.toNat (0,0,false,false,false,false,([]:List Int),([]:List Y),0,0,0,0,(ByteArray.empty,ByteArray.empty,0),([]:List Int))).2).1)-1)) then (if (i64.wrap ((((x1.2.1.getD x0.toNat (0,0,false,false,false,false,([]:List Int),([]:List Y),0,0,0,0,(ByteArray.empty,ByteArray.empty,0),([]:List Int))).2).1)-1))<(x1.1.length:Int) then (if 0<=(0:Int) then (if 0<((x1.1.getD (i64.wrap ((((x1.2.1.getD x0.toNat (0,0,false,false,false,false,([]:List Int),([]:List Y),0,0,0,0,(ByteArray.empty,ByteArray.empty,0),([]:List Int))).2).1)-1)).toNat ([]:List Int)).length:Int) then (if (((x1.1.getD (i64.wrap ((((x1.2.1.getD x0.toNat (0,0,false,false,false,false,([]:List Int),([]:List Y),0,0,0,0,(ByteArray.empty,ByteArray.empty,0),([]:List Int))).2).1)-1)).toNat ([]:List Int)).getD (0:Int).toNat 0) != ((x1.2.1.getD x0.toNat (0,0,false,false,false,false,([]:List Int),([]:List Y),0,0,0,0,(ByteArray.empty,ByteArray.empty,0),([]:List Int))).1))=true then (some false) else (Dl x0 0 x1 (x1.2.1.getD x0.toNat (0,0,false,false,false,false,([]:List Int),([]:List Y),0,0,0,0,(ByteArray.empty,ByteArray.empty,0),([]:List Int))))) else none) else none) else none) else none)) else none) else none)))) else none) else none) else (some true))
def WE (x0:AA):Option Bool:=(E5 0 x0)
theorem Qy:bZ KH Dl:=lS (by kernel_rfl)
theorem Qz:Ni KI E5:=lS (by kernel_rfl)
theorem mY:MJ WE OK:=cT By rfl ⟨rfl,rfl⟩ (by kernel_rfl)
def so:=cG Yc (AF C2) (AF C2) kx
def Sn:=kE 0 [] [] 1 so kx
def Zn:St->Option (RT (A_.outs C2)):=lG Yb [] [1,9,10,11] 1 (AF C2) Sn
def sq:=kB [] [1,9,10,11] 1 Zn
def cV:=cG Ya sq (AF C2) Sn
def cW:=kB [] [1,9,10,11] 1 cV
def cX:=kE 1 [] [1,9,10,11] 1 cV Sn
def ss:=kE 2 [] [1,9,10,11] 2 cW cX
def pT:St->Option (RT (A_.outs C2)):=lG bg [] [1,3,4,5,9,10,11,29,30,31] 2 (AF C2) ss
def C5 (x0:Int) (x1:List Int) (x2:List O) (x3 x4:Int) (x5:List O) (x6 x7:Int) (x8:AA) (x9:O):Option Bool:=pT ⟨[(1,.ptr 0 0),(3,.int .i64 x0),(4,.ptr 1 0),(5,.lst (.int .i64) x1),(9,.lst U x2),(10,.int .i64 x3),(11,.int .i64 x4),(29,.lst U x5),(30,.int .i64 x6),(31,.int .i64 x7)],[.var (AM.enc x8),.var (U.enc x9)]⟩
def QB (x0:Int) (x1:List O) (x2 x3:Int) (x4:Bool) (x5:List (List Int)) (x6:List O) (x7:List Z) (x8:List AB) (x9:O):Option Bool:=cG bh cW (AF C2) cX ⟨[(1,.ptr 0 0),(3,.int .i64 x0),(4,.ptr 1 0),(9,.lst U x1),(10,.int .i64 x2),(11,.int .i64 x3),(24,.bool x4)],[.var [.lst (.slice (.int .i64)) x5,.lst U x6,.lst AH x7,.lst AG x8],.var (U.enc x9)]⟩
def GN (x0:List O) (x1 x2:Int) (x3:List (List Int)) (x4:List O) (x5:List Z) (x6:List AB):Option Bool:=Zn ⟨[(1,.ptr 0 0),(9,.lst U x0),(10,.int .i64 x1),(11,.int .i64 x2)],[.var [.lst (.slice (.int .i64)) x3,.lst U x4,.lst AH x5,.lst AG x6]]⟩
def QC (x0:Int) (x1:List Int) (x2:List O) (x3 x4:Int) (x5:List O) (x6 x7:Int) (x8:AA) (x9:O):Option Bool:=(if (decide (x7<x6))=true then (if 0<=x7 then (if x7<(x5.length:Int) then (if (x7 != x0)=true then ((B8 x1 ((x5.getD x7.toNat (0,0,false,false,false,false,([]:List Int),([]:List Y),0,0,0,0,(ByteArray.empty,ByteArray.empty,0),([]:List Int))).1)).bind fun y2=>(if y2=true then (if (((((x5.getD x7.toNat (0,0,false,false,false,false,([]:List Int),([]:List Y),0,0,0,0,(ByteArray.empty,ByteArray.empty,0),([]:List Int))).2).2).2).1)=true then (if ((((x5.getD x7.toNat (0,0,false,false,false,false,([]:List Int),([]:List Y),0,0,0,0,(ByteArray.empty,ByteArray.empty,0),([]:List Int))).2).1)==x9.2.1)=true then ((C_ (((((((((x5.getD x7.toNat (0,0,false,false,false,false,([]:List Int),([]:List Y),0,0,0,0,(ByteArray.empty,ByteArray.empty,0),([]:List Int))).2).2).2).2).2).2).2).1) x9.2.2.2.2.2.2.2.1).bind fun y3=>(if (!y3)=true then (some false) else (C5 x0 x1 x2 x3 x4 x5 x6 (i64.wrap (x7+1)) x8 x9))) else (C5 x0 x1 x2 x3 x4 x5 x6 (i64.wrap (x7+1)) x8 x9)) else (C5 x0 x1 x2 x3 x4 x5 x6 (i64.wrap (x7+1)) x8 x9)) else (C5 x0 x1 x2 x3 x4 x5 x6 (i64.wrap (x7+1)) x8 x9))) else (C5 x0 x1 x2 x3 x4 x5 x6 (i64.wrap (x7+1)) x8 x9)) else none) else none) else (GN x2 x3 (i64.wrap (x4+1)) x8.1 x8.2.1 x8.2.2.1 x8.2.2.2))
def Zo (x0:Int) (x1:List O) (x2 x3:Int) (x4:Bool) (x5:List (List Int)) (x6:List O) (x7:List Z) (x8:List AB) (x9:O):Option Bool:=((Iu x9.2.1 (x5,x6,x7,x8)).bind fun y1=>(C5 x0 y1.1 x1 x2 x3 y1.2.2.1 (y1.2.2.1.length:Int) 0 y1.2 x9))
def QD (x0:List O) (x1 x2:Int) (x3:List (List Int)) (x4:List O) (x5:List Z) (x6:List AB):Option Bool:=(if (decide (x2<x1))=true then (if 0<=x2 then (if x2<(x0.length:Int) then (if (!(((((((x0.getD x2.toNat (0,0,false,false,false,false,([]:List Int),([]:List Y),0,0,0,0,(ByteArray.empty,ByteArray.empty,0),([]:List Int))).2).2).2).2).2).1))=false then (if ((((((((((((x0.getD x2.toNat (0,0,false,false,false,false,([]:List Int),([]:List Y),0,0,0,0,(ByteArray.empty,ByteArray.empty,0),([]:List Int))).2).2).2).2).2).2).2).2).2).1) != 0)=true then (GN x0 x1 (i64.wrap (x2+1)) x3 x4 x5 x6) else (QB x2 x0 x1 x2 ((((((((((((x0.getD x2.toNat (0,0,false,false,false,false,([]:List Int),([]:List Y),0,0,0,0,(ByteArray.empty,ByteArray.empty,0),([]:List Int))).2).2).2).2).2).2).2).2).2).1) != 0) x3 x4 x5 x6 (x0.getD x2.toNat (0,0,false,false,false,false,([]:List Int),([]:List Y),0,0,0,0,(ByteArray.empty,ByteArray.empty,0),([]:List Int))))) else (GN x0 x1 (i64.wrap (x2+1)) x3 x4 x5 x6)) else none) else none) else (some true))
def je (x0:AA):Option Bool:=(GN x0.2.1 (x0.2.1.length:Int) 0 x0.1 x0.2.1 x0.2.2.1 x0.2.2.2)
theorem Zp:uX QC C5:=lS (by kernel_rfl)
theorem pU:uX Zo QB:=jS (by kernel_rfl)
theorem Zq:Le7 QD GN:=lS (by kernel_rfl)
theorem xS:MJ je Xc:=cT C2 rfl ⟨rfl,rfl⟩ (by kernel_rfl)
def su:=cG Yh (AF DV) (AF DV) kx
def So:=kE 0 [] [] 1 su kx
def Zr:St->Option (RT (A_.outs DV)):=lG Yg [] [1,3] 1 (AF DV) So
def sv:=kB [] [1,3] 1 Zr
def cY:=cG Yf sv (AF DV) So
def sw:=kB [] [1,3] 1 cY
def sx:=kE 1 [] [1,3] 1 cY So
def sy:=kE 2 [] [1,3] 2 sw sx
def pV:St->Option (RT (A_.outs DV)):=lG Ye [] [1,3,4,5] 2 (AF DV) sy
def Dr (x0 x1:Int) (x2:AA) (x3:O):Option Bool:=pV ⟨[(1,.ptr 0 0),(3,.int .i64 x0),(4,.ptr 1 0),(5,.int .i64 x1)],[.var (AM.enc x2),.var (U.enc x3)]⟩
def Es (x0:Int) (x1:AA):Option Bool:=Zr ⟨[(1,.ptr 0 0),(3,.int .i64 x0)],[.var (AM.enc x1)]⟩
def QE (x0 x1:Int) (x2:AA) (x3:O):Option Bool:=(if (decide (x1<(x2.2.1.length:Int)))=true then (if 0<=x1 then (if x1<(x2.2.1.length:Int) then (if ((((x2.2.1.getD x1.toNat (0,0,false,false,false,false,([]:List Int),([]:List Y),0,0,0,0,(ByteArray.empty,ByteArray.empty,0),([]:List Int))).2).1)==x3.2.1)=true then (if (((((x2.2.1.getD x1.toNat (0,0,false,false,false,false,([]:List Int),([]:List Y),0,0,0,0,(ByteArray.empty,ByteArray.empty,0),([]:List Int))).2).2).2).1)=true then (if 0<=(i64.wrap (x3.2.1-1)) then (if (i64.wrap (x3.2.1-1))<(x2.1.length:Int) then ((DX (x2.1.getD (i64.wrap (x3.2.1-1)).toNat ([]:List Int)) ((x2.2.1.getD x1.toNat (0,0,false,false,false,false,([]:List Int),([]:List Y),0,0,0,0,(ByteArray.empty,ByteArray.empty,0),([]:List Int))).1)).bind fun y2=>(if y2=true then ((KB (((((((((x2.2.1.getD x1.toNat (0,0,false,false,false,false,([]:List Int),([]:List Y),0,0,0,0,(ByteArray.empty,ByteArray.empty,0),([]:List Int))).2).2).2).2).2).2).2).1) x3.2.2.2.2.2.2.2.1).bind fun y3=>(if (!y3)=true then (some false) else (Dr x0 (i64.wrap (x1+1)) x2 x3))) else (Dr x0 (i64.wrap (x1+1)) x2 x3))) else none) else none) else (Dr x0 (i64.wrap (x1+1)) x2 x3)) else (Dr x0 (i64.wrap (x1+1)) x2 x3)) else none) else none) else (Es (i64.wrap (x0+1)) x2))
def QF (x0:Int) (x1:AA):Option Bool:=(if (decide (x0<(x1.2.1.length:Int)))=true then (if 0<=x0 then (if x0<(x1.2.1.length:Int) then (if (!(((((((x1.2.1.getD x0.toNat (0,0,false,false,false,false,([]:List Int),([]:List Y),0,0,0,0,(ByteArray.empty,ByteArray.empty,0),([]:List Int))).2).2).2).2).2).1))=false then (if ((((((((((((x1.2.1.getD x0.toNat (0,0,false,false,false,false,([]:List Int),([]:List Y),0,0,0,0,(ByteArray.empty,ByteArray.empty,0),([]:List Int))).2).2).2).2).2).2).2).2).2).1) != 0)=false then ((AU (((x1.2.1.getD x0.toNat (0,0,false,false,false,false,([]:List Int),([]:List Y),0,0,0,0,(ByteArray.empty,ByteArray.empty,0),([]:List Int))).2).1) 1 (x1.1.length:Int)).bind fun y1=>(if (!y1)=true then (Es (i64.wrap (x0+1)) x1) else (Dr x0 0 x1 (x1.2.1.getD x0.toNat (0,0,false,false,false,false,([]:List Int),([]:List Y),0,0,0,0,(ByteArray.empty,ByteArray.empty,0),([]:List Int)))))) else (Es (i64.wrap (x0+1)) x1)) else (Es (i64.wrap (x0+1)) x1)) else none) else none) else (some true))
def jf (x0:AA):Option Bool:=(Es 0 x0)
theorem Zs:bZ QE Dr:=lS (by kernel_rfl)
theorem Zt:Ni QF Es:=lS (by kernel_rfl)
theorem xT:MJ jf Xd:=cT DV rfl ⟨rfl,rfl⟩ (by kernel_rfl)
def mZ:=cG VZ (AF EQ) (AF EQ) kx
def ma:=kE 0 [] [4,5] 6 mZ kx
def jg:St->Option (RT (A_.outs EQ)):=lG VY [] [0,4,5,6,8,9] 6 (AF EQ) ma
def Ef (x0 x1:Int) (x2:AS) (x3:List AW) (x4:List (List Int)) (x5:List AW) (x6:List (List Int)) (x7:AA):Option (XR×AS):=jg ⟨[(0,.ptr 0 0),(4,.ptr 2 0),(5,.ptr 4 0),(6,.ptr 5 0),(8,.int .i64 x0),(9,.int .i64 x1)],[.var (BI.enc x2),.rows 55 AZ x3,.var [.lst (.slice (.int .i64)) x4,.row 1],.rows 55 AZ x5,.var [.lst (.slice (.int .i64)) x6,.row 3],.var (AM.enc x7)]⟩
def M9 (x0 x1:Int) (x2:AS) (x3:List AW) (x4:List (List Int)) (x5:List AW) (x6:List (List Int)) (x7:AA):Option (XR×AS):=(if (decide (x1<x0))=true then ((SJ x2 x7).bind fun y3=>((Rc x1 y3.1 y3.2.2).bind fun y4=>(if x5.length+([y3.1]:List AW).length<=68719476736 then (Ef x0 (i64.wrap (x1+1)) y3.2.1 x3 x4 (x5++([y3.1]:List AW)) x6 y4.2) else none))) else (some ((x6,x5),x2)))
def Sp (x1:List Int) (b0:AS):Option (XR×AS):=((Pt b0).bind fun y1=>((Ku y1.1).bind fun y2=>(if 4=0 then none else (if (decide ((i64.wrap (20+(i64.wrap (Int.tdiv (x1.length:Int) 4))))>69))=true then (Ef 69 0 y1.2 ([]:List AW) ([]:List (List Int)) ([]:List AW) y1.1 y2.1) else (Ef (i64.wrap (20+(i64.wrap (Int.tdiv (x1.length:Int) 4)))) 0 y1.2 ([]:List AW) ([]:List (List Int)) ([]:List AW) y1.1 y2.1)))))
theorem UB:za M9 Ef:=lS (by kernel_rfl)
theorem cZ:Ni Sp SF:=cT EQ rfl ⟨rfl,rfl⟩ (by kernel_rfl)
def pW:=cG Yk (AF EG) (AF EG) kx
def Zu:=kE 0 [] [0,3] 0 pW kx
def WF:St->Option (RT (A_.outs EG)):=lG Yj [] [0,3,4] 0 (AF EG) Zu
def pX:=kB [] [0,3,4] 0 WF
def WG (x0:List Int) (x1 x2:Int) (x3:Bool):Option AS:=cG Yi pX (AF EG) Zu ⟨[(0,.lst (.int .u8) x0),(3,.int .i64 x1),(4,.int .i64 x2),(15,.bool x3)],[]⟩
def Jn (x0:List Int) (x1 x2:Int):Option AS:=WF ⟨[(0,.lst (.int .u8) x0),(3,.int .i64 x1),(4,.int .i64 x2)],[]⟩
def WH (x0:List Int) (x1 x2:Int) (x3:Bool):Option AS:=(if 0<=x2 then (if x2<(x0.length:Int) then (Jn x0 (MK .i64 (i64.wrap ((i64.wrap ((i64.wrap (x1*131))+(i64.wrap (x0.getD x2.toNat 0))))+7)) 1073741823) (i64.wrap (x2+1))) else none) else none)
def Jo (x0:List Int) (x1 x2:Int):Option AS:=(if (decide (x2<(x0.length:Int)))=true then (if (decide (x2<4000))=true then (WG x0 x1 x2 (decide (x2<4000))) else (some (x0,0,x1))) else (some (x0,0,x1)))
def ur (x0:List Int):Option AS:=(Jn x0 (i64.wrap (14301+(x0.length:Int))) 0)
theorem mb:bZ WH WG:=jS (by kernel_rfl)
theorem OU:RO Jo Jn:=lS (by kernel_rfl)
theorem ut:MJ ur Uu:=cT EG rfl ⟨rfl,rfl⟩ (by kernel_rfl)
def jh:=cG Ta (AF Do) (AF Do) kx
def ji:=kE 0 [] [2,4] 8 jh kx
def gq:St->Option (RT (A_.outs Do)):=lG TZ [] [0,2,4,5] 8 (AF Do) ji
def Fw (x0:List (List Int)) (x1:Int) (x2:List O) (x3:List Z) (x4:List AB) (x5:List (List Int)) (x6:List O) (x7:List Z) (x8:List AB) (x9:List (List Int)):Option (AA×Bool):=gq ⟨[(0,.lst (.slice (.int .i64)) x0),(2,.ptr 3 0),(4,.ptr 7 0),(5,.int .i64 x1)],[.rows 42 U x2,.rows 97 AH x3,.rows 47 AG x4,.var [.lst (.slice (.int .i64)) x5,.row 0,.row 1,.row 2],.rows 42 U x6,.rows 97 AH x7,.rows 47 AG x8,.var [.lst (.slice (.int .i64)) x9,.row 4,.row 5,.row 6]]⟩
def LW (x0:List (List Int)) (x1:Int) (x2:List O) (x3:List Z) (x4:List AB) (x5:List (List Int)) (x6:List O) (x7:List Z) (x8:List AB) (x9:List (List Int)):Option (AA×Bool):=(if (decide (x1<=6))=true then ((OL x1 x0).bind fun y3=>(if x6.length+([y3.1]:List O).length<=68719476736 then (Fw x0 (i64.wrap (x1+1)) x2 x3 x4 x5 (x6++([y3.1]:List O)) x7 x8 x9) else none)) else (some ((x9,x6,x7,x8),true)))
def Zv (x0:List (List Int)):Option (AA×Bool):=((DY x0).bind fun y1=>(if (!y1)=true then (some (([],([]:List O),([]:List Z),([]:List AB)),false)) else ((Jj x0).bind fun y2=>(Fw x0 1 ([]:List O) ([]:List Z) ([]:List AB) ([]:List (List Int)) ([]:List O) ([]:List Z) ([]:List AB) y2))))
theorem Sq:uX LW Fw:=lS (by kernel_rfl)
theorem pY:MJ Zv Ps:=cT Do rfl ⟨rfl,rfl⟩ (by kernel_rfl)
def M_ (x0:Bool) (x1:AW):Option Bool:=cG Va (AF HD) (AF HD) kx ⟨[(1,.ptr 0 0),(17,.bool x0)],[.var (AZ.enc x1)]⟩
def UC (x0:Bool) (x1:AW):Option Bool:=(if (x1.1==1)=true then ((Mx x1.2.2.2.1 0 x1.2.2.2.2.1 x1.2.2.2.2.2).bind fun y3=>(some y3)) else (if (x1.2.2.2.1==0)=true then (if (x1.2.2.2.2.1.toList==(⟨#[]⟩:ByteArray).toList)=true then (some (x1.2.2.2.2.2.toList==(⟨#[]⟩:ByteArray).toList)) else (some false)) else (some false)))
def ca (x0:AW):Option Bool:=((Af x0.1 1 6).bind fun y1=>(if (!y1)=false then ((EI x0.2.1).bind fun y2=>(if (!y2)=false then (if (decide (x0.2.2.1<0))=true then (some false) else (M_ (decide (x0.2.2.1<0)) x0)) else (some false))) else (some false)))
theorem jj:Ni UC M_:=jS (by kernel_rfl)
theorem s0:MJ ca SG:=cT HD rfl ⟨rfl,rfl⟩ (by kernel_rfl)
def Sr (x1:AW) (x2:Int) (b0:AA):Option (Bool×AA):=(if (x1.1==1)=true then ((LF x1 x2 b0).bind fun y1=>(some (y1.1,y1.2))) else (if (x1.1==5)=true then ((LG x1 x2 b0).bind fun y2=>(some (y2.1,y2.2))) else (if (x1.1==6)=true then ((Bs x1.2.1 b0).bind fun y3=>(if 0<=y3.1 then (if y3.1<(y3.2.2.1.length:Int) then ((T_ (y3.2.2.1.getD y3.1.toNat (0,0,false,false,false,false,([]:List Int),([]:List Y),0,0,0,0,(ByteArray.empty,ByteArray.empty,0),([]:List Int)))).bind fun y4=>(if 0<=y3.1 then (if y3.1<(y3.2.2.1.length:Int) then (let z5:List O:=y3.2.2.1.set y3.1.toNat y4; (some (true,(y3.2.1,z5,y3.2.2.2)))) else none) else none)) else none) else none)) else ((JJ x1 x2 b0).bind fun y6=>(some (y6.1,y6.2))))))
theorem gu:RO Sr Hs:=cT Hp rfl ⟨rfl,rfl⟩ (by kernel_rfl)
def fY (x0:Bool):Option Int:=(if x0=true then (some 0) else (some 1))
theorem uu:MJ fY Uv:=cT Oq rfl ⟨rfl,rfl⟩ (by kernel_rfl)
def gw:=cG Qh (AF BN) (AF BN) kx
def gx:=kE 2 [] [2,3] 10 gw kx
def eX:St->Option (RT (A_.outs BN)):=lG Qg [] [2,3,31,32,33] 10 (AF BN) gx
def gy:=cG KA (AF BN) (AF BN) kx
def gz:=kE 0 [] [1,2,3] 10 gy kx
def eY:St->Option (RT (A_.outs BN)):=lG R5 [] [1,2,3,16,17,18] 10 (AF BN) gz
def E6 (x0:List Z) (x1 x2:Int) (x3:List (List Int)) (x4:List O) (x5:List Z) (x6:List AB) (x7:List O) (x8:List Z) (x9:List AB) (x10:List (List Int)) (x11:List O) (x12:List Z) (x13:List AB) (x14:List (List Int)):Option AA:=eX ⟨[(2,.ptr 4 0),(3,.ptr 9 0),(31,.lst AH x0),(32,.int .i64 x1),(33,.int .i64 x2)],[.var [.lst (.slice (.int .i64)) x3,.lst U x4,.lst AH x5,.lst AG x6],.rows 42 U x7,.rows 97 AH x8,.rows 47 AG x9,.var [.lst (.slice (.int .i64)) x10,.row 1,.row 2,.row 3],.dead,.rows 42 U x11,.rows 97 AH x12,.rows 47 AG x13,.var [.lst (.slice (.int .i64)) x14,.row 6,.row 7,.row 8]]⟩
def Q0 (x0:List (List Int)) (x1:List O) (x2:List Z) (x3:List AB) (x4:List O) (x5:List Z) (x6:List AB) (x7:List (List Int)) (x8:List O) (x9:List Z) (x10:List AB) (x11:List (List Int)):Option AA:=cG KA (AF BN) (AF BN) kx ⟨[(1,.ptr 0 0),(2,.ptr 4 0),(3,.ptr 9 0)],[.var [.lst (.slice (.int .i64)) x0,.lst U x1,.lst AH x2,.lst AG x3],.rows 42 U x4,.rows 97 AH x5,.rows 47 AG x6,.var [.lst (.slice (.int .i64)) x7,.row 1,.row 2,.row 3],.dead,.rows 42 U x8,.rows 97 AH x9,.rows 47 AG x10,.var [.lst (.slice (.int .i64)) x11,.row 6,.row 7,.row 8]]⟩
def E7 (x0:List O) (x1 x2:Int) (x3:List (List Int)) (x4:List O) (x5:List Z) (x6:List AB) (x7:List O) (x8:List Z) (x9:List AB) (x10:List (List Int)) (x11:List O) (x12:List Z) (x13:List AB) (x14:List (List Int)):Option AA:=eY ⟨[(1,.ptr 0 0),(2,.ptr 4 0),(3,.ptr 9 0),(16,.lst U x0),(17,.int .i64 x1),(18,.int .i64 x2)],[.var [.lst (.slice (.int .i64)) x3,.lst U x4,.lst AH x5,.lst AG x6],.rows 42 U x7,.rows 97 AH x8,.rows 47 AG x9,.var [.lst (.slice (.int .i64)) x10,.row 1,.row 2,.row 3],.dead,.rows 42 U x11,.rows 97 AH x12,.rows 47 AG x13,.var [.lst (.slice (.int .i64)) x14,.row 6,.row 7,.row 8]]⟩
def KJ (x0:List Z) (x1 x2:Int) (x3:List (List Int)) (x4:List O) (x5:List Z) (x6:List AB) (x7:List O) (x8:List Z) (x9:List AB) (x10:List (List Int)) (x11:List O) (x12:List Z) (x13:List AB) (x14:List (List Int)):Option AA:=(if (decide (x2<x1))=true then (if 0<=x2 then (if x2<(x0.length:Int) then ((HN (x0.getD x2.toNat (0,0,0,0,0,([]:List Y)))).bind fun y4=>(if x12.length+([y4]:List Z).length<=68719476736 then (E6 x0 x1 (i64.wrap (x2+1)) x3 x4 x5 x6 x7 x8 x9 x10 x11 (x12++([y4]:List Z)) x13 x14) else none)) else none) else none) else (some (x14,x11,x12,x13)))
def Q1 (x0:List (List Int)) (x1:List O) (x2:List Z) (x3:List AB) (x4:List O) (x5:List Z) (x6:List AB) (x7:List (List Int)) (x8:List O) (x9:List Z) (x10:List AB) (x11:List (List Int)):Option AA:=(E6 x2 (x2.length:Int) 0 x0 x1 x2 x3 x4 x5 x6 x7 x8 x9 x10 x11)
def KK (x0:List O) (x1 x2:Int) (x3:List (List Int)) (x4:List O) (x5:List Z) (x6:List AB) (x7:List O) (x8:List Z) (x9:List AB) (x10:List (List Int)) (x11:List O) (x12:List Z) (x13:List AB) (x14:List (List Int)):Option AA:=(if (decide (x2<x1))=true then (if 0<=x2 then (if x2<(x0.length:Int) then ((Cv (x0.getD x2.toNat (0,0,false,false,false,false,([]:List Int),([]:List Y),0,0,0,0,(ByteArray.empty,ByteArray.empty,0),([]:List Int)))).bind fun y3=>(if x11.length+([y3]:List O).length<=68719476736 then (E7 x0 x1 (i64.wrap (x2+1)) x3 x4 x5 x6 x7 x8 x9 x10 (x11++([y3]:List O)) x12 x13 x14) else none)) else none) else none) else (Q0 x3 x4 x5 x6 x7 x8 x9 x10 x11 x12 x13 x14))
def WI (x0:AA):Option AA:=((Jj x0.1).bind fun y1=>((DA x0.2.2.2).bind fun y2=>(E7 x0.2.1 (x0.2.1.length:Int) 0 x0.1 x0.2.1 x0.2.2.1 x0.2.2.2 ([]:List O) ([]:List Z) ([]:List AB) ([]:List (List Int)) ([]:List O) ([]:List Z) y2 y1)))
theorem Q2:AEF KJ E6:=lS (by kernel_rfl)
theorem eZ:ADq Q1 Q0:=jS (by kernel_rfl)
theorem Q3:AEF KK E7:=lS (by kernel_rfl)
theorem mc:MJ WI Cl:=cT BN rfl ⟨rfl,rfl⟩ (by kernel_rfl)
def jk:=cG Tc (AF Dp) (AF Dp) kx
def jl:=kE 0 [] [2,4] 4 jk kx
def g7:St->Option (RT (A_.outs Dp)):=lG Tb [] [0,2,4,5] 4 (AF Dp) jl
def Fx (x0:List (List Int)) (x1:Int) (x2:List O) (x3:List (List Int)) (x4:List Z) (x5:List AB) (x6:List O) (x7:List (List Int)):Option (AA×Bool):=g7 ⟨[(0,.lst (.slice (.int .i64)) x0),(2,.ptr 1 0),(4,.ptr 3 0),(5,.int .i64 x1)],[.rows 42 U x2,.var [.lst (.slice (.int .i64)) x3,.row 0,.lst AH x4,.lst AG x5],.rows 42 U x6,.var [.lst (.slice (.int .i64)) x7,.row 2,.nil,.nil]]⟩
def LX (x0:List (List Int)) (x1:Int) (x2:List O) (x3:List (List Int)) (x4:List Z) (x5:List AB) (x6:List O) (x7:List (List Int)):Option (AA×Bool):=(if (decide (x1<=6))=true then ((OM x1 x0).bind fun y3=>(if x6.length+([y3.1]:List O).length<=68719476736 then (Fx x0 (i64.wrap (x1+1)) x2 x3 x4 x5 (x6++([y3.1]:List O)) x7) else none)) else (some ((x7,x6,[],[]),true)))
def Zw (x0:List (List Int)):Option (AA×Bool):=((EY x0).bind fun y1=>(if (!y1)=true then (some (([],([]:List O),[],[]),false)) else ((G5 x0).bind fun y2=>(Fx x0 1 ([]:List O) ([]:List (List Int)) ([]:List Z) ([]:List AB) ([]:List O) y2))))
theorem Ss:za LX Fx:=lS (by kernel_rfl)
theorem pZ:MJ Zw Ku:=cT Dp rfl ⟨rfl,rfl⟩ (by kernel_rfl)
def NA (x0:Bool) (x1:AW):Option Bool:=cG Vb (AF HE) (AF HE) kx ⟨[(1,.ptr 0 0),(17,.bool x0)],[.var (AZ.enc x1)]⟩
def UD (x0:Bool) (x1:AW):Option Bool:=(if (x1.1 != 1)=true then (if (x1.2.2.2.1==0)=true then (if (x1.2.2.2.2.1.toList==(⟨#[]⟩:ByteArray).toList)=true then (some (x1.2.2.2.2.2.toList==(⟨#[]⟩:ByteArray).toList)) else (some false)) else (some false)) else (if (x1.2.2.2.1==1)=false then (if (x1.2.2.2.1==2)=true then ((AU (x1.2.2.2.2.1.size:Int) 1 12).bind fun y3=>(if y3=true then (if (decide ((x1.2.2.2.2.2.size:Int)<=20))=true then (if (x1.2.2.2.1==1)=false then (some (x1.2.2.2.2.2.toList==(⟨#[]⟩:ByteArray).toList)) else (some true)) else (some false)) else (some false))) else (some false)) else ((AU (x1.2.2.2.2.1.size:Int) 1 12).bind fun y4=>(if y4=true then (if (decide ((x1.2.2.2.2.2.size:Int)<=20))=true then (if (x1.2.2.2.1==1)=false then (some (x1.2.2.2.2.2.toList==(⟨#[]⟩:ByteArray).toList)) else (some true)) else (some false)) else (some false)))))
def cc (x0:AW):Option Bool:=((AU x0.1 1 6).bind fun y1=>(if (!y1)=false then ((AU x0.2.1 1 6).bind fun y2=>(if (!y2)=false then (if (decide (x0.2.2.1<0))=true then (some false) else (NA (decide (x0.2.2.1<0)) x0)) else (some false))) else (some false)))
theorem jm:Ni UD NA:=jS (by kernel_rfl)
theorem s_:MJ cc SH:=cT HE rfl ⟨rfl,rfl⟩ (by kernel_rfl)
def NB (x1:Int) (x2:AW) (b0:AA):Option (Int×AA):=(if (x2.1==1)=true then ((Pu x1 x2 b0).bind fun y1=>(some (y1.1,y1.2))) else (if (x2.1==5)=true then ((Pv x1 x2.2.1 b0).bind fun y2=>(some (y2.1,y2.2))) else (if (x2.1==6)=true then (if 0<=(i64.wrap (x2.2.1-1)) then (if (i64.wrap (x2.2.1-1))<(b0.2.1.length:Int) then ((cM (b0.2.1.getD (i64.wrap (x2.2.1-1)).toNat (0,0,false,false,false,false,([]:List Int),([]:List Y),0,0,0,0,(ByteArray.empty,ByteArray.empty,0),([]:List Int)))).bind fun y3=>((Fj y3 ([]:List Z) ([]:List AI) x1 b0).bind fun y4=>(some (0,y4)))) else none) else none) else ((Ux x1 x2 b0).bind fun y5=>(some (y5.1,y5.2))))))
theorem xU:RO NB Rc:=cT RS rfl ⟨rfl,rfl⟩ (by kernel_rfl)
def md:=cG Vd (AF ER) (AF ER) kx
def me:=kE 0 [] [2,3] 6 md kx
def jn:St->Option (RT (A_.outs ER)):=lG Vc [] [1,2,3,4] 6 (AF ER) me
def Gf (x0:Int) (x1:List (List Int)) (x2:List O) (x3:List Z) (x4:List AB) (x5:List O) (x6:List (List Int)) (x7:List Z) (x8 x9:List AB) (x10:List O) (x11:List (List Int)) (x12:List Z) (x13:List AB):Option AA:=jn ⟨[(1,.ptr 0 0),(2,.ptr 2 0),(3,.ptr 5 0),(4,.int .i64 x0)],[.var [.lst (.slice (.int .i64)) x1,.lst U x2,.lst AH x3,.lst AG x4],.rows 42 U x5,.var [.lst (.slice (.int .i64)) x6,.row 1,.lst AH x7,.lst AG x8],.frz AG x9,.rows 42 U x10,.var [.lst (.slice (.int .i64)) x11,.row 4,.lst AH x12,.lst AG x13]]⟩
def NC (x0:Int) (x1:List (List Int)) (x2:List O) (x3:List Z) (x4:List AB) (x5:List O) (x6:List (List Int)) (x7:List Z) (x8 x9:List AB) (x10:List O) (x11:List (List Int)) (x12:List Z) (x13:List AB):Option AA:=(if (decide (x0<(x2.length:Int)))=true then (if 0<=x0 then (if x0<(x2.length:Int) then ((DZ (x2.getD x0.toNat (0,0,false,false,false,false,([]:List Int),([]:List Y),0,0,0,0,(ByteArray.empty,ByteArray.empty,0),([]:List Int)))).bind fun y3=>(if x10.length+([y3]:List O).length<=68719476736 then (Gf (i64.wrap (x0+1)) x1 x2 x3 x4 x5 x6 x7 x8 x9 (x10++([y3]:List O)) x11 x12 x13) else none)) else none) else none) else (some (x11,x10,x12,x13)))
def cd (x0:AA):Option AA:=((G5 x0.1).bind fun y1=>((LH x0.2.2.1).bind fun y2=>(if ([]:List AB).length+x0.2.2.2.length<=68719476736 then (Gf 0 x0.1 x0.2.1 x0.2.2.1 x0.2.2.2 ([]:List O) ([]:List (List Int)) ([]:List Z) ([]:List AB) (([]:List AB)++x0.2.2.2) ([]:List O) y1 y2 (([]:List AB)++x0.2.2.2)) else none)))
theorem UE:AEO NC Gf:=lS (by kernel_rfl)
theorem tA:MJ cd SI:=cT ER rfl ⟨rfl,rfl⟩ (by kernel_rfl)
def fZ (x0:Int):Option Bool:=((Af x0 1 6).bind fun y1=>(some y1))
theorem uv:MJ fZ EI:=cT Ot rfl ⟨rfl,rfl⟩ (by kernel_rfl)
def cf (x0 x1 x2:Int):Option Bool:=(if (decide (x0>=x1))=true then (some (decide (x0<=x2))) else (some false))
theorem tB:RO cf Af:=cT Mg rfl ⟨rfl,rfl⟩ (by kernel_rfl)
def cg:=cG PA (AF CW) (AF CW) kx
def ci:=kE 0 [] [] 0 cg kx
def aY:St->Option (RT (A_.outs CW)):=lG O_ [] [0,1,2,9,10,11] 0 (AF CW) ci
def Dz (x0:List Int) (x1 x2:Int) (x3:List Int) (x4 x5:Int):Option Bool:=aY ⟨[(0,.lst (.int .i64) x0),(1,.int .i64 x1),(2,.int .i64 x2),(9,.lst (.int .i64) x3),(10,.int .i64 x4),(11,.int .i64 x5)],[]⟩
def If (x0:List Int) (x1 x2:Int) (x3:List Int) (x4 x5:Int):Option Bool:=(if (decide (x5<x4))=true then (if 0<=x5 then (if x5<(x3.length:Int) then ((Af (x3.getD x5.toNat 0) x1 x2).bind fun y1=>(if (!y1)=false then (if (decide (x5>0))=true then (if 0<=(i64.wrap (x5-1)) then (if (i64.wrap (x5-1))<(x0.length:Int) then (if (decide ((x3.getD x5.toNat 0)<=(x0.getD (i64.wrap (x5-1)).toNat 0)))=true then (some false) else (Dz x0 x1 x2 x3 x4 (i64.wrap (x5+1)))) else none) else none) else (Dz x0 x1 x2 x3 x4 (i64.wrap (x5+1)))) else (some false))) else none) else none) else (some true))
def Su (x0:List Int) (x1 x2:Int):Option Bool:=(Dz x0 x1 x2 x0 (x0.length:Int) 0)
theorem Nw:zZ If Dz:=lS (by kernel_rfl)
theorem g8:RO Su Ht:=cT CW rfl ⟨rfl,rfl⟩ (by kernel_rfl)
def mf:=cG Th (AF ES) (AF ES) kx
def mg:=kE 0 [] [0] 0 mf kx
def jo:St->Option (RT (A_.outs ES)):=lG Tg [] [0,5,6,7] 0 (AF ES) mg
def Gg (x0 x1:List Y) (x2 x3:Int):Option Bool:=jo ⟨[(0,.lst AD x0),(5,.lst AD x1),(6,.int .i64 x2),(7,.int .i64 x3)],[]⟩
def ND (x0 x1:List Y) (x2 x3:Int):Option Bool:=(if (decide (x3<x2))=true then (if 0<=x3 then (if x3<(x1.length:Int) then ((Rd ((x1.getD x3.toNat (ByteArray.empty,ByteArray.empty,0)).1)).bind fun y1=>(if (!y1)=true then (some false) else (if (decide (((((x1.getD x3.toNat (ByteArray.empty,ByteArray.empty,0)).2).1).size:Int)>20))=true then (some false) else ((Af (((x1.getD x3.toNat (ByteArray.empty,ByteArray.empty,0)).2).2) 1 1000000000).bind fun y2=>(if (!y2)=true then (some false) else (if (decide (x3>0))=true then (if 0<=(i64.wrap (x3-1)) then (if (i64.wrap (x3-1))<(x0.length:Int) then (if ((Op.bytesLess ((x1.getD x3.toNat (ByteArray.empty,ByteArray.empty,0)).1).toList ((x0.getD (i64.wrap (x3-1)).toNat (ByteArray.empty,ByteArray.empty,0)).1).toList)||(((x1.getD x3.toNat (ByteArray.empty,ByteArray.empty,0)).1).toList==((x0.getD (i64.wrap (x3-1)).toNat (ByteArray.empty,ByteArray.empty,0)).1).toList))=true then (some false) else (Gg x0 x1 x2 (i64.wrap (x3+1)))) else none) else none) else (Gg x0 x1 x2 (i64.wrap (x3+1))))))))) else none) else none) else (some (decide ((x0.length:Int)<=12))))
def cj (x0:List Y):Option Bool:=(Gg x0 x0 (x0.length:Int) 0)
theorem UF:bZ ND Gg:=lS (by kernel_rfl)
theorem tC:MJ cj Fq:=cT ES rfl ⟨rfl,rfl⟩ (by kernel_rfl)
def PN (b0:O):Option (Bool×O):=(if (b0.2.2.2.2.2.2.2.2.2.1==0)=true then (if (b0.2.2.2.2.2.2.2.2.2.2.1==0)=true then (if (b0.2.2.2.2.2.2.2.2.2.2.2.1==0)=true then (if (false != Ph AD b0.2.2.2.2.2.2.2.2.2.2.2.2.1 (ByteArray.empty,ByteArray.empty,0))=true then (some (((b0.2.2.2.2.2.2.2.2.2.2.2.2.2.length:Int)==0),b0)) else (some (false,b0))) else (some (false,b0))) else (some (false,b0))) else ((Af b0.2.2.2.2.2.2.2.2.2.1 1 2).bind fun y1=>(if y1=true then (if b0.2.2.2.2.2.1=true then ((Af b0.2.2.2.2.2.2.2.2.2.2.1 0 1000).bind fun y2=>(if y2=true then ((Af b0.2.2.2.2.2.2.2.2.2.2.2.1 1 900).bind fun y3=>(if y3=true then ((Ht b0.2.2.2.2.2.2.2.2.2.2.2.2.2 1 6).bind fun y4=>(some (y4,b0))) else (some (false,b0)))) else (some (false,b0)))) else (some (false,b0))) else (some (false,b0)))))
theorem cm:MJ PN DJ:=cT GX rfl ⟨rfl,rfl⟩ (by kernel_rfl)
def uw (x0:AB):Option Bool:=(some (decide (x0.2.2.2.2.1>=0)))
theorem ux:MJ uw EJ:=cT Ou rfl ⟨rfl,rfl⟩ (by kernel_rfl)
def jp (x0:AB):Option Int:=((AU x0.2.2.2.2.2.2.1 0 9).bind fun y1=>(if (!y1)=false then ((AU x0.2.2.2.2.2.2.2.1 0 999).bind fun y2=>(if (!y2)=true then (some 0) else (some (i64.wrap ((i64.wrap (1000*x0.2.2.2.2.2.2.1))+x0.2.2.2.2.2.2.2.1))))) else (some 0)))
theorem xV:MJ jp FO:=cT RU rfl ⟨rfl,rfl⟩ (by kernel_rfl)
def Xj:=cG HF (AF Ai) (AF Ai) kx
def Xk:=kE 2 [] [0] 1 Xj kx
def WJ:St->Option (RT (A_.outs Ai)):=lG Lo [] [0,26,27,28] 1 (AF Ai) Xk
def Xl:=cG HG (AF Ai) (AF Ai) kx
def Xm:=kE 0 [] [0] 1 Xl kx
def WK:St->Option (RT (A_.outs Ai)):=lG Mh [] [0,10,11,12] 1 (AF Ai) Xm
def Lx (x0:AA):Option (Bool×AA):=cG HF (AF Ai) (AF Ai) kx ⟨[(0,.ptr 0 0)],[.var (AM.enc x0)]⟩
def Eg (x0:List Z) (x1 x2:Int) (x3:AA):Option (Bool×AA):=WJ ⟨[(0,.ptr 0 0),(26,.lst AH x0),(27,.int .i64 x1),(28,.int .i64 x2)],[.var (AM.enc x3)]⟩
def Ly (x0:AA):Option (Bool×AA):=cG HG (AF Ai) (AF Ai) kx ⟨[(0,.ptr 0 0)],[.var (AM.enc x0)]⟩
def Eh (x0:List O) (x1 x2:Int) (x3:AA):Option (Bool×AA):=WK ⟨[(0,.ptr 0 0),(10,.lst U x0),(11,.int .i64 x1),(12,.int .i64 x2)],[.var (AM.enc x3)]⟩
def Lz (x0:AA):Option (Bool×AA):=(if ((x0.2.1.length:Int)==6)=true then ((DY x0.1).bind fun y2=>(some (y2,x0))) else (some (false,x0)))
def HR (x0:List Z) (x1 x2:Int) (x3:AA):Option (Bool×AA):=(if (decide (x2<x1))=true then (if 0<=x2 then (if x2<(x0.length:Int) then ((EI ((((x0.getD x2.toNat (0,0,0,0,0,([]:List Y))).2).2).1)).bind fun y1=>(if (!y1)=true then (some (false,x3)) else (Eg x0 x1 (i64.wrap (x2+1)) x3))) else none) else none) else (Lx x3))
def L5 (x0:AA):Option (Bool×AA):=(Eg x0.2.2.1 (x0.2.2.1.length:Int) 0 x0)
def HS (x0:List O) (x1 x2:Int) (x3:AA):Option (Bool×AA):=(if (decide (x2<x1))=true then (if 0<=x2 then (if x2<(x0.length:Int) then (if (((x0.getD x2.toNat (0,0,false,false,false,false,([]:List Int),([]:List Y),0,0,0,0,(ByteArray.empty,ByteArray.empty,0),([]:List Int))).1) != (i64.wrap (x2+1)))=true then (some (false,x3)) else (Eh x0 x1 (i64.wrap (x2+1)) x3)) else none) else none) else (Ly x3))
def PO (b0:AA):Option (Bool×AA):=(Eh b0.2.1 (b0.2.1.length:Int) 0 b0)
theorem WL:MJ Lz Lx:=jS (by kernel_rfl)
theorem L6:bZ HR Eg:=lS (by kernel_rfl)
theorem WM:MJ L5 Ly:=jS (by kernel_rfl)
theorem L7:bZ HS Eh:=lS (by kernel_rfl)
theorem cn:MJ PO JI:=cT Ai rfl ⟨rfl,rfl⟩ (by kernel_rfl)
def PP (x1 x2:Int) (b0:AA):Option AA:=(if 0<=x1 then (if x1<(b0.2.2.1.length:Int) then ((Bc b0.2.2.1 x1 (i64.wrap (x1+1))).bind fun y1=>((Bs ((((b0.2.2.1.getD x1.toNat (0,0,0,0,0,([]:List Y))).2).2).1) (b0.1,b0.2.1,y1,b0.2.2.2)).bind fun y2=>(if (decide (y2.1>=0))=true then (if 0<=y2.1 then (if y2.1<(y2.2.2.1.length:Int) then ((My (y2.2.2.1.getD y2.1.toNat (0,0,false,false,false,false,([]:List Int),([]:List Y),0,0,0,0,(ByteArray.empty,ByteArray.empty,0),([]:List Int))) y2.2.1 (b0.2.2.1.getD x1.toNat (0,0,0,0,0,([]:List Y)))).bind fun y3=>(if 0<=y2.1 then (if y2.1<(y2.2.2.1.length:Int) then (let z4:List O:=y2.2.2.1.set y2.1.toNat y3.1; ((Gc y3.2.1 y3.2.2 x2 (y2.2.1,z4,y2.2.2.2)).bind fun y5=>(some y5))) else none) else none)) else none) else none) else (some y2.2)))) else none) else none)
theorem cp:RO PP EX:=cT GY rfl ⟨rfl,rfl⟩ (by kernel_rfl)
def jq (x0:List AB) (x1:AB):Option Bool:=((CI x0 x1).bind fun y1=>(some y1))
theorem xW:Ni jq Xe:=cT RV rfl ⟨rfl,rfl⟩ (by kernel_rfl)
def fa (x0 x1:AB):Option Bool:=(if (x1.1==1)=true then (if (x1.2.1.toList==x0.2.1.toList)=true then (if (x1.2.2.1.toList==x0.2.2.2.2.2.2.2.2.toList)=true then (if (decide (x1.2.2.2.2.1<0))=false then (some (x1.2.2.2.2.2.1==x0.2.2.2.2.2.1)) else (some true)) else (some false)) else (some false)) else (some false))
theorem uy:Ni fa Uw:=cT Ov rfl ⟨rfl,rfl⟩ (by kernel_rfl)
def UG (x1:Int) (b0:AA):Option (List Int×AA):=((Af x1 1 (b0.1.length:Int)).bind fun y1=>(if (!y1)=true then (some ([],b0)) else (if 0<=(i64.wrap (x1-1)) then (if (i64.wrap (x1-1))<(b0.1.length:Int) then (some ((b0.1.getD (i64.wrap (x1-1)).toNat ([]:List Int)),b0)) else none) else none)))
theorem jr:Ni UG Iu:=cT Iq rfl ⟨rfl,rfl⟩ (by kernel_rfl)
def jt (x0 x1 x2:Int):Option Bool:=(if (decide (x0>=x1))=true then (some (decide (x0<=x2))) else (some false))
theorem xX:RO jt AU:=cT RW rfl ⟨rfl,rfl⟩ (by kernel_rfl)
def Jz (x0:List Int) (x1:Int):Option Bool:=((Da x0 x1).bind fun y1=>(some (decide (y1>=0))))
theorem TD:Ni Jz B8:=cT Dw rfl ⟨rfl,rfl⟩ (by kernel_rfl)
def KL:=cG E2 (AF Ak) (AF Ak) kx
def KM:=kE 0 [] [] 0 KL kx
def Jp:St->Option (RT (A_.outs Ak)):=lG E1 [] [0,1,12,13] 0 (AF Ak) KM
def Bm (x0 x1:List Y) (x2 x3:Int):Option Bool:=Jp ⟨[(0,.lst AD x0),(1,.lst AD x1),(12,.int .i64 x2),(13,.int .i64 x3)],[]⟩
def Cn (x0 x1:List Y) (x2 x3:Int):Option Bool:=(if (decide (x3<x2))=true then (if 0<=x3 then (if x3<(x0.length:Int) then (if 0<=x3 then (if x3<(x1.length:Int) then (if (true != Ph AD (x0.getD x3.toNat (ByteArray.empty,ByteArray.empty,0)) (x1.getD x3.toNat (ByteArray.empty,ByteArray.empty,0)))=true then (some false) else (Bm x0 x1 x2 (i64.wrap (x3+1)))) else none) else none) else none) else none) else (some true))
def Fy (x0 x1:List Y):Option Bool:=(if ((x0.length:Int) != (x1.length:Int))=true then (some false) else (Bm x0 x1 (x0.length:Int) 0))
theorem Ei:bZ Cn Bm:=lS (by kernel_rfl)
theorem LY:Ni Fy C_:=cT Ak rfl ⟨rfl,rfl⟩ (by kernel_rfl)
def tD:=cG br (AF GZ) (AF GZ) kx
def tE:=kE 0 [] [] 0 tD kx
def pa:St->Option (RT (A_.outs GZ)):=lG bp [] [0,1,5] 0 (AF GZ) tE
def Kx (x0:List Int) (x1 x2:Int):Option Bool:=pa ⟨[(0,.lst (.int .i64) x0),(1,.int .i64 x1),(5,.int .i64 x2)],[]⟩
def QG (x0:List Int) (x1 x2:Int):Option Bool:=(if (decide (x2<(x0.length:Int)))=true then (if 0<=x2 then (if x2<(x0.length:Int) then (if ((x0.getD x2.toNat 0)==x1)=true then (some true) else (Kx x0 x1 (i64.wrap (x2+1)))) else none) else none) else (some false))
def ju (x0:List Int) (x1:Int):Option Bool:=(Kx x0 x1 0)
theorem Zx:RO QG Kx:=lS (by kernel_rfl)
theorem xY:Ni ju DX:=cT GZ rfl ⟨rfl,rfl⟩ (by kernel_rfl)
def aZ:=cG Nn (AF CN) (AF CN) kx
def aa:=kE 0 [] [] 0 aZ kx
def Xn:St->Option (RT (A_.outs CN)):=lG Nm [] [0,1,5] 0 (AF CN) aa
def FQ (x0 x1:List Y) (x2:Int):Option Bool:=Xn ⟨[(0,.lst AD x0),(1,.lst AD x1),(5,.int .i64 x2)],[]⟩
def Hy (x0 x1:List Y) (x2:Int):Option Bool:=(if (decide (x2<(x0.length:Int)))=true then (if 0<=x2 then (if x2<(x0.length:Int) then (if 0<=x2 then (if x2<(x1.length:Int) then (if (true != Ph AD (x0.getD x2.toNat (ByteArray.empty,ByteArray.empty,0)) (x1.getD x2.toNat (ByteArray.empty,ByteArray.empty,0)))=true then (some false) else (FQ x0 x1 (i64.wrap (x2+1)))) else none) else none) else none) else none) else (some true))
def Q4 (x0 x1:List Y):Option Bool:=(if ((x0.length:Int) != (x1.length:Int))=true then (some false) else (FQ x0 x1 0))
theorem NE:RO Hy FQ:=lS (by kernel_rfl)
theorem ed:Ni Q4 KB:=cT CN rfl ⟨rfl,rfl⟩ (by kernel_rfl)
def Sv (b0:AS):Option (Int×AS):=(if 33<0 then none else (if 45<0 then none else (if (decide (b0.2.1<(b0.1.length:Int)))=true then (if 0<=b0.2.1 then (if b0.2.1<(b0.1.length:Int) then (some ((MK .i64 (i64.wrap ((MK .i64 (iR .i64 (Int.fdiv (i64.wrap ((i64.wrap (b0.2.2*6364136223846793005))+1442695040888963407)) (2^(min (33:Int).toNat (IntKind.bits .i64)))) (Int.fdiv (i64.wrap ((i64.wrap (b0.2.2*6364136223846793005))+1442695040888963407)) (2^(min (45:Int).toNat (IntKind.bits .i64))))) 255)+(i64.wrap (b0.1.getD b0.2.1.toNat 0)))) 255),(b0.1,(i64.wrap (b0.2.1+1)),(i64.wrap ((i64.wrap (b0.2.2*6364136223846793005))+1442695040888963407))))) else none) else none) else (some ((MK .i64 (iR .i64 (Int.fdiv (i64.wrap ((i64.wrap (b0.2.2*6364136223846793005))+1442695040888963407)) (2^(min (33:Int).toNat (IntKind.bits .i64)))) (Int.fdiv (i64.wrap ((i64.wrap (b0.2.2*6364136223846793005))+1442695040888963407)) (2^(min (45:Int).toNat (IntKind.bits .i64))))) 255),(b0.1,b0.2.1,(i64.wrap ((i64.wrap (b0.2.2*6364136223846793005))+1442695040888963407))))))))
theorem tF:MJ Sv Fs:=cT Mi rfl ⟨rfl,rfl⟩ (by kernel_rfl)
def QH (x1:Int) (b0:AS):Option (Int×AS):=(if (decide (x1<=0))=true then (some (0,b0)) else (if (decide (x1<=256))=true then ((Fs b0).bind fun y1=>(if x1=0 then none else (some ((Int.tmod y1.1 x1),y1.2)))) else ((Fs b0).bind fun y2=>((Fs y2.2).bind fun y3=>((Fs y3.2).bind fun y4=>((Fs y4.2).bind fun y5=>(if x1=0 then none else (some ((Int.tmod (i64.wrap ((i64.wrap ((i64.wrap ((i64.wrap (y2.1*16777216))+(i64.wrap (y3.1*65536))))+(i64.wrap (y4.1*256))))+y5.1)) x1),y5.2)))))))))
theorem pb:Ni QH Cc:=cT Ko rfl ⟨rfl,rfl⟩ (by kernel_rfl)

def jv:=cG R8 (AF Bw) (AF Bw) kx
def NF:=kE 0 [(3,1)] [3] 2 jv kx
def Sw:St->Option (RT (A_.outs Bw)):=lG R7 [(3,1)] [0,3,4] 2 (AF Bw) NF
def jw:=kB [(3,1)] [0,3,4] 2 Sw
def UH:=cG R6 jw (AF Bw) NF
def jx:=kB [(3,1)] [0,3,4] 2 UH
def UI:=kE 1 [(3,1)] [0,3,4] 2 UH NF
def jy:=cG Tj jx (AF Bw) UI
def jz:=kE 2 [(3,1),(5,2)] [0,3,4,5] 3 jy UI
def g9:St->Option (RT (A_.outs Bw)):=lG Ti [(3,1),(5,2)] [0,3,4,5,6] 3 (AF Bw) jz
def Fz (x0 x1:Int) (x2:AS) (x3:List (List Int)) (x4:List Int):Option (List (List Int)×AS):=g9 ⟨[(0,.ptr 0 0),(3,.row 1),(4,.int .i64 x0),(5,.row 2),(6,.int .i64 x1)],[.var (BI.enc x2),.rows 33 (.slice (.int .i64)) x3,.rows 3 (.int .i64) x4]⟩
def F0 (x0:Int) (x1:AS) (x2:List (List Int)):Option (List (List Int)×AS):=Sw ⟨[(0,.ptr 0 0),(3,.row 1),(4,.int .i64 x0)],[.var (BI.enc x1),.rows 33 (.slice (.int .i64)) x2]⟩
def F3 (x0 x1:Int) (x2:AS) (x3:List (List Int)) (x4:List Int):Option (List (List Int)×AS):=((Cc 3 x2).bind fun y2=>(if (decide (x1<(i64.wrap (1+y2.1))))=true then ((Cc 4 y2.2).bind fun y3=>((DX x4 (i64.wrap (1+y3.1))).bind fun y4=>(if (!y4)=true then (if x4.length+([(i64.wrap (1+y3.1))]:List Int).length<=68719476736 then (Fz x0 (i64.wrap (x1+1)) y3.2 x3 (x4++([(i64.wrap (1+y3.1))]:List Int))) else none) else (Fz x0 (i64.wrap (x1+1)) y3.2 x3 x4)))) else (if x3.length+([x4]:List (List Int)).length<=68719476736 then (F0 (i64.wrap (x0+1)) y2.2 (x3++([x4]:List (List Int)))) else none)))
def Hz (x0:Int) (x1:AS) (x2:List (List Int)):Option (List (List Int)×AS):=((Cc 5 x1).bind fun y1=>(if (decide (x0<(i64.wrap (1+y1.1))))=true then (Fz x0 0 y1.2 x2 ([]:List Int)) else (some (x2,y1.2))))
def Zy (b0:AS):Option (List (List Int)×AS):=(F0 0 b0 ([]:List (List Int)))
theorem H5:zG F3 Fz:=lS (by kernel_rfl)
theorem LZ:RO Hz F0:=lS (by kernel_rfl)
theorem pd:MJ Zy Pt:=cT Bw rfl ⟨rfl,rfl⟩ (by kernel_rfl)
def WN:=cG Tm (AF BR) (AF BR) kx
def WO:=kB [] [4,5] 4 WN
def WP:=kE 0 [] [4,5] 4 WN kx
def mh:=kE 1 [] [4,5] 6 WO WP
def j1:St->Option (RT (A_.outs BR)):=lG Ve [] [0,1,4,5,6] 6 (AF BR) mh
def mi:=kE 3 [] [4,5] 4 WO WP
def j3:St->Option (RT (A_.outs BR)):=lG Tl [] [0,1,4,5,7] 4 (AF BR) mi
def De (x0:Int) (x1:AS) (x2:AA) (x3 x4:AW) (x5:List Int) (x6:List ByteArray):Option (AW×AS×AA):=j1 ⟨[(0,.ptr 0 0),(1,.ptr 1 0),(4,.ptr 2 0),(5,.ptr 3 0),(6,.int .i64 x0)],[.var (BI.enc x1),.var (AM.enc x2),.var (AZ.enc x3),.var (AZ.enc x4),.frz (.int .i64) x5,.frz .str x6]⟩
def Df (x0:Int) (x1:AS) (x2:AA) (x3 x4:AW):Option (AW×AS×AA):=j3 ⟨[(0,.ptr 0 0),(1,.ptr 1 0),(4,.ptr 2 0),(5,.ptr 3 0),(7,.int .i64 x0)],[.var (BI.enc x1),.var (AM.enc x2),.var (AZ.enc x3),.var (AZ.enc x4)]⟩
def Gh (x0:AS) (x1:AA) (x2 x3:AW):Option (AW×AS×AA):=cG Tn (AF BR) (AF BR) kx ⟨[(0,.ptr 0 0),(1,.ptr 1 0),(4,.ptr 2 0),(5,.ptr 3 0)],[.var (BI.enc x0),.var (AM.enc x1),.var (AZ.enc x2),.var (AZ.enc x3)]⟩
def BC (x0:AS) (x1:AA) (x2 x3:AW):Option (AW×AS×AA):=cG To (AF BR) (AF BR) kx ⟨[(0,.ptr 0 0),(1,.ptr 1 0),(4,.ptr 2 0),(5,.ptr 3 0)],[.var (BI.enc x0),.var (AM.enc x1),.var (AZ.enc x2),.var (AZ.enc x3)]⟩
def NG (x0:AS) (x1:AA) (x2 x3:AW):Option (AW×AS×AA):=cG Tp (AF BR) (AF BR) kx ⟨[(0,.ptr 0 0),(1,.ptr 1 0),(4,.ptr 2 0),(5,.ptr 3 0)],[.var (BI.enc x0),.var (AM.enc x1),.var (AZ.enc x2),.var (AZ.enc x3)]⟩
def Gi (x0:Int) (x1:AS) (x2:AA) (x3 x4:AW) (x5:List Int) (x6:List ByteArray):Option (AW×AS×AA):=(if (decide (x0<(x2.2.1.length:Int)))=true then (if 0<=x0 then (if x0<(x2.2.1.length:Int) then (if (((((((x2.2.1.getD x0.toNat (0,0,false,false,false,false,([]:List Int),([]:List Y),0,0,0,0,(ByteArray.empty,ByteArray.empty,0),([]:List Int))).2).2).2).2).2).1)=true then ((Db 4 x1).bind fun y10=>(if (!y10.1)=true then (De (i64.wrap (x0+1)) y10.2 x2 x3 (x4.1,(i64.wrap (x0+1)),x4.2.2) x5 x6) else (De (i64.wrap (x0+1)) y10.2 x2 x3 x4 x5 x6))) else (De (i64.wrap (x0+1)) x1 x2 x3 x4 x5 x6)) else none) else none) else (some (x4,x1,x2)))
def Ej (x0:Int) (x1:AS) (x2:AA) (x3 x4:AW):Option (AW×AS×AA):=(if (decide (x0<(x2.2.1.length:Int)))=true then (if 0<=x0 then (if x0<(x2.2.1.length:Int) then (if (decide ((((x2.2.1.getD x0.toNat (0,0,false,false,false,false,([]:List Int),([]:List Y),0,0,0,0,(ByteArray.empty,ByteArray.empty,0),([]:List Int))).2).1)<(x2.1.length:Int)))=true then (if 0<=(((x2.2.1.getD x0.toNat (0,0,false,false,false,false,([]:List Int),([]:List Y),0,0,0,0,(ByteArray.empty,ByteArray.empty,0),([]:List Int))).2).1) then (if (((x2.2.1.getD x0.toNat (0,0,false,false,false,false,([]:List Int),([]:List Y),0,0,0,0,(ByteArray.empty,ByteArray.empty,0),([]:List Int))).2).1)<(x2.1.length:Int) then (if 0<=(0:Int) then (if 0<((x2.1.getD (((x2.2.1.getD x0.toNat (0,0,false,false,false,false,([]:List Int),([]:List Y),0,0,0,0,(ByteArray.empty,ByteArray.empty,0),([]:List Int))).2).1).toNat ([]:List Int)).length:Int) then (if (((x2.1.getD (((x2.2.1.getD x0.toNat (0,0,false,false,false,false,([]:List Int),([]:List Y),0,0,0,0,(ByteArray.empty,ByteArray.empty,0),([]:List Int))).2).1).toNat ([]:List Int)).getD (0:Int).toNat 0)==((x2.2.1.getD x0.toNat (0,0,false,false,false,false,([]:List Int),([]:List Y),0,0,0,0,(ByteArray.empty,ByteArray.empty,0),([]:List Int))).1))=true then ((Db 3 x1).bind fun y11=>(if (!y11.1)=true then (Df (i64.wrap (x0+1)) y11.2 x2 x3 (x4.1,(x2.2.1.getD x0.toNat (0,0,false,false,false,false,([]:List Int),([]:List Y),0,0,0,0,(ByteArray.empty,ByteArray.empty,0),([]:List Int))).1,x4.2.2)) else (Df (i64.wrap (x0+1)) y11.2 x2 x3 x4))) else (Df (i64.wrap (x0+1)) x1 x2 x3 x4)) else none) else none) else none) else none) else (Df (i64.wrap (x0+1)) x1 x2 x3 x4)) else none) else none) else (some (x4,x1,x2)))
def Gj (x0:AS) (x1:AA) (x2 x3:AW):Option (AW×AS×AA):=(if (x3.1==1)=true then ((Iv ([1,1,2]:List Int) x0).bind fun y7=>((Mz ([(⟨#[97]⟩:ByteArray),(⟨#[98]⟩:ByteArray),(⟨#[99]⟩:ByteArray)]:List ByteArray) y7.2).bind fun y8=>(if (y7.1==1)=true then ((Mz ([(⟨#[118]⟩:ByteArray),(⟨#[119]⟩:ByteArray),(⟨#[120]⟩:ByteArray),(⟨#[121]⟩:ByteArray)]:List ByteArray) y8.2).bind fun y9=>(De 0 y9.2 x1 x2 (x3.1,x3.2.1,x3.2.2.1,y7.1,y8.1,y9.1) ([1,1,2]:List Int) ([(⟨#[97]⟩:ByteArray),(⟨#[98]⟩:ByteArray),(⟨#[99]⟩:ByteArray)]:List ByteArray))) else (De 0 y8.2 x1 x2 (x3.1,x3.2.1,x3.2.2.1,y7.1,y8.1,x3.2.2.2.2.2) ([1,1,2]:List Int) ([(⟨#[97]⟩:ByteArray),(⟨#[98]⟩:ByteArray),(⟨#[99]⟩:ByteArray)]:List ByteArray))))) else (if (x3.1==5)=true then (Df 0 x0 x1 x2 x3) else (some (x3,x0,x1))))
def Ix (x0:AS) (x1:AA) (x2 x3:AW):Option (AW×AS×AA):=(if (x3.1==2)=true then ((Db 2 x0).bind fun y6=>(if y6.1=true then (Gh y6.2 x1 x2 (x3.1,x3.2.1,0,x3.2.2.2)) else (Gh y6.2 x1 x2 x3))) else (Gh x0 x1 x2 x3))
def Iy (x0:AS) (x1:AA) (x2 x3:AW):Option (AW×AS×AA):=(if ((x1.2.2.1.length:Int)==0)=true then ((AU x3.1 2 4).bind fun y4=>(if y4=true then (if ((1:Int)==6)=true then ((Db 4 x0).bind fun y5=>(if (!y5.1)=true then (BC y5.2 x1 x2 (1,x3.2)) else (BC y5.2 x1 x2 (1,x3.2)))) else (BC x0 x1 x2 (1,x3.2))) else (if (x3.1==6)=true then ((Db 4 x0).bind fun y12=>(if (!y12.1)=true then (BC y12.2 x1 x2 (1,x3.2)) else (BC y12.2 x1 x2 x3))) else (BC x0 x1 x2 x3)))) else (if (x3.1==6)=true then ((Db 4 x0).bind fun y13=>(if (!y13.1)=true then (BC y13.2 x1 x2 (1,x3.2)) else (BC y13.2 x1 x2 x3))) else (BC x0 x1 x2 x3)))
def cq (b0:AS) (b1:AA):Option (AW×AS×AA):=((Iv ([1,1,1,2,2,2,2,2,2,2,2,3,4,5,6]:List Int) b0).bind fun y1=>((Cc 4 y1.2).bind fun y2=>((Cc 20 y2.2).bind fun y3=>(NG y3.2 b1 (0,0,0,0,ByteArray.empty,ByteArray.empty) (y1.1,(i64.wrap (1+y2.1)),y3.1,0,ByteArray.empty,ByteArray.empty)))))
theorem Iz:Le7 Gi De:=lS (by kernel_rfl)
theorem Gk:zG Ej Df:=lS (by kernel_rfl)
theorem I0:bZ Gj Gh:=jS (by kernel_rfl)
theorem NH:bZ Ix BC:=jS (by kernel_rfl)
theorem NI:bZ Iy NG:=jS (by kernel_rfl)
theorem tG:Ni cq SJ:=cT BR rfl ⟨rfl,rfl⟩ (by kernel_rfl)
def mj:=cG Ts (AF Bz) (AF Bz) kx
def OV:=kE 0 [] [0] 0 mj kx
def UJ:St->Option (RT (A_.outs Bz)):=lG Tr [] [0,7,8,9] 0 (AF Bz) OV
def mm:=kB [] [0,7,8,9] 0 UJ
def WQ:=cG Tq mm (AF Bz) OV
def WR:=kB [] [0,7,8,9] 0 WQ
def OW:=kE 1 [] [0,7,8,9] 0 WQ OV
def mn:=cG OF WR (AF Bz) OW
def mo:=kE 2 [] [0,4,7,8,9] 0 mn OW
def j4:St->Option (RT (A_.outs Bz)):=lG Vf [] [0,4,7,8,9,13,14,15] 0 (AF Bz) mo
def NJ (x0:List (List Int)) (x1:List Int) (x2:List (List Int)) (x3 x4:Int):Option Bool:=cG OF WR (AF Bz) OW ⟨[(0,.lst (.slice (.int .i64)) x0),(4,.lst (.int .i64) x1),(7,.lst (.slice (.int .i64)) x2),(8,.int .i64 x3),(9,.int .i64 x4)],[]⟩
def I1 (x0:List (List Int)) (x1:List Int) (x2:List (List Int)) (x3 x4:Int) (x5:List Int) (x6 x7:Int):Option Bool:=j4 ⟨[(0,.lst (.slice (.int .i64)) x0),(4,.lst (.int .i64) x1),(7,.lst (.slice (.int .i64)) x2),(8,.int .i64 x3),(9,.int .i64 x4),(13,.lst (.int .i64) x5),(14,.int .i64 x6),(15,.int .i64 x7)],[]⟩
def I2 (x0 x1:List (List Int)) (x2 x3:Int):Option Bool:=UJ ⟨[(0,.lst (.slice (.int .i64)) x0),(7,.lst (.slice (.int .i64)) x1),(8,.int .i64 x2),(9,.int .i64 x3)],[]⟩
def UK (x0:List (List Int)) (x1:List Int) (x2:List (List Int)) (x3 x4:Int):Option Bool:=((Af (x1.length:Int) 1 4).bind fun y3=>(if (!y3)=true then (some false) else (I2 x0 x2 x3 (i64.wrap (x4+1)))))
def NK (x0:List (List Int)) (x1:List Int) (x2:List (List Int)) (x3 x4:Int) (x5:List Int) (x6 x7:Int):Option Bool:=(if (decide (x7<x6))=true then (if 0<=x7 then (if x7<(x5.length:Int) then ((EI (x5.getD x7.toNat 0)).bind fun y1=>(if (!y1)=false then ((Da x1 (x5.getD x7.toNat 0)).bind fun y2=>(if (y2 != x7)=true then (some false) else (I1 x0 x1 x2 x3 x4 x5 x6 (i64.wrap (x7+1))))) else (some false))) else none) else none) else (NJ x0 x1 x2 x3 x4))
def NL (x0 x1:List (List Int)) (x2 x3:Int):Option Bool:=(if (decide (x3<x2))=true then (if 0<=x3 then (if x3<(x1.length:Int) then (I1 x0 (x1.getD x3.toNat ([]:List Int)) x1 x2 x3 (x1.getD x3.toNat ([]:List Int)) ((x1.getD x3.toNat ([]:List Int)).length:Int) 0) else none) else none) else ((Af (x0.length:Int) 1 9).bind fun y4=>(some y4)))
def cr (x0:List (List Int)):Option Bool:=(I2 x0 x0 (x0.length:Int) 0)
theorem j5:zG UK NJ:=jS (by kernel_rfl)
theorem UL:za NK I1:=lS (by kernel_rfl)
theorem UM:bZ NL I2:=lS (by kernel_rfl)
theorem tH:MJ cr DY:=cT Bz rfl ⟨rfl,rfl⟩ (by kernel_rfl)
def g_:=cG R_ (AF DE) (AF DE) kx
def hJ:=kE 0 [(3,0)] [3] 1 g_ kx
def ee:St->Option (RT (A_.outs DE)):=lG R9 [(3,0)] [3,6,7,8] 1 (AF DE) hJ
def G7 (x0:List (List Int)) (x1 x2:Int) (x3:List (List Int)):Option (List (List Int)):=ee ⟨[(3,.row 0),(6,.lst (.slice (.int .i64)) x0),(7,.int .i64 x1),(8,.int .i64 x2)],[.rows 33 (.slice (.int .i64)) x3]⟩
def KN (x0:List (List Int)) (x1 x2:Int) (x3:List (List Int)):Option (List (List Int)):=(if (decide (x2<x1))=true then (if 0<=x2 then (if x2<(x0.length:Int) then ((Bk (x0.getD x2.toNat ([]:List Int))).bind fun y1=>(if x3.length+([y1]:List (List Int)).length<=68719476736 then (G7 x0 x1 (i64.wrap (x2+1)) (x3++([y1]:List (List Int)))) else none)) else none) else none) else (some x3))
def WS (x0:List (List Int)):Option (List (List Int)):=(G7 x0 (x0.length:Int) 0 ([]:List (List Int)))
theorem Q5:bZ KN G7:=lS (by kernel_rfl)
theorem mq:MJ WS Jj:=cT DE rfl ⟨rfl,rfl⟩ (by kernel_rfl)
def Q6 (x0:Int) (x1:List (List Int)) (x2:Bool) (x3:O):Option (O×Bool):=cG SA (AF Fh) (AF Fh) kx ⟨[(0,.int .i64 x0),(1,.lst (.slice (.int .i64)) x1),(4,.ptr 0 0),(14,.bool x2)],[.var (U.enc x3)]⟩
def Q7 (x0:Int) (x1:List (List Int)) (x2:Bool) (x3:O):Option (O×Bool):=(if 0<=(0:Int) then (if 0<(x1.length:Int) then (if 0<=(0:Int) then (if 0<((x1.getD (0:Int).toNat ([]:List Int)).length:Int) then (if 0<=(0:Int) then (if 0<(x1.length:Int) then ((B8 (x1.getD (0:Int).toNat ([]:List Int)) x0).bind fun y3=>(some ((x0,1,false,y3,(((x1.getD (0:Int).toNat ([]:List Int)).getD (0:Int).toNat 0)==x0),(((x1.getD (0:Int).toNat ([]:List Int)).getD (0:Int).toNat 0)==x0),([]:List Int),([]:List Y),0,0,0,0,(ByteArray.empty,ByteArray.empty,0),([]:List Int)),true))) else none) else none) else none) else none) else none) else none)
def WT (x0:Int) (x1:List (List Int)):Option (O×Bool):=((EI x0).bind fun y1=>(if (!y1)=false then ((DY x1).bind fun y2=>(if (!y2)=true then (some ((0,0,false,false,false,false,([]:List Int),([]:List Y),0,0,0,0,(ByteArray.empty,ByteArray.empty,0),([]:List Int)),false)) else (Q6 x0 x1 (!y2) (0,0,false,false,false,false,([]:List Int),([]:List Y),0,0,0,0,(ByteArray.empty,ByteArray.empty,0),([]:List Int))))) else (some ((0,0,false,false,false,false,([]:List Int),([]:List Y),0,0,0,0,(ByteArray.empty,ByteArray.empty,0),([]:List Int)),false))))
theorem en:bZ Q7 Q6:=jS (by kernel_rfl)
theorem mr:Ni WT OL:=cT Fh rfl ⟨rfl,rfl⟩ (by kernel_rfl)
def Ky (x0:Int) (x1:ByteArray) (x2:Bool):Option Bool:=cG bt (AF Je) (AF Je) kx ⟨[(0,.int .i64 x0),(3,.str x1),(26,.bool x2)],[]⟩
def QI (x0:Int) (x1:ByteArray) (x2:Bool):Option Bool:=(if (x0==1)=false then (some (x1.toList==(⟨#[]⟩:ByteArray).toList)) else (some true))
def Xo (x0 x1:Int) (x2 x3:ByteArray):Option Bool:=((Af x0 1 2).bind fun y1=>(if (!y1)=false then ((Af x1 0 1000).bind fun y2=>(if (!y2)=false then ((Rd x2).bind fun y3=>(if (!y3)=false then (if (decide ((x3.size:Int)>20))=true then (some false) else (Ky x0 x3 (decide ((x3.size:Int)>20)))) else (some false))) else (some false))) else (some false)))
theorem Zz:RO QI Ky:=jS (by kernel_rfl)
theorem j6:bZ Xo Mx:=cT Je rfl ⟨rfl,rfl⟩ (by kernel_rfl)
def Sx (x1:AW) (x2:Int) (b0:AA):Option (Bool×AA):=(if b0.2.2.2.length+([(x1.2.2.2.1,x1.2.2.2.2.1,x1.2.2.2.2.2,x2,(-1:Int),0,0,0,ByteArray.empty)]:List AB).length<=68719476736 then ((Bs x1.2.1 (b0.1,b0.2.1,b0.2.2.1,(b0.2.2.2++([(x1.2.2.2.1,x1.2.2.2.2.1,x1.2.2.2.2.2,x2,(-1:Int),0,0,0,ByteArray.empty)]:List AB)))).bind fun y1=>(if 0<=y1.1 then (if y1.1<(y1.2.2.1.length:Int) then ((Re (y1.2.2.1.getD y1.1.toNat (0,0,false,false,false,false,([]:List Int),([]:List Y),0,0,0,0,(ByteArray.empty,ByteArray.empty,0),([]:List Int))) y1.2.1 x1.2.2.2.1 (b0.2.2.2.length:Int) x1.2.2.2.2.1 x1.2.2.2.2.2).bind fun y2=>(if (!y2.2.2.2)=true then (some (false,y1.2)) else (if 0<=y1.1 then (if y1.1<(y1.2.2.1.length:Int) then (let z3:List O:=y1.2.2.1.set y1.1.toNat y2.1; ((Gc y2.2.1 y2.2.2.1 x2 (y1.2.1,z3,y1.2.2.2)).bind fun y4=>(some (true,y4)))) else none) else none))) else none) else none)) else none)
theorem hO:RO Sx LF:=cT Hq rfl ⟨rfl,rfl⟩ (by kernel_rfl)
def ct:=cG No (AF CX) (AF CX) kx
def cv:=kE 0 [] [] 5 ct kx
def ae:St->Option (RT (A_.outs CX)):=lG PB [] [0,2,4,7,8] 5 (AF CX) cv
def D0 (x0 x1 x2:Int) (x3:List (List Int)) (x4:List O) (x5:List Z) (x6:List AB) (x7:AW):Option (Bool×AA):=ae ⟨[(0,.ptr 0 0),(2,.int .i64 x0),(4,.ptr 4 0),(7,.int .i64 x1),(8,.int .i64 x2)],[.var [.lst (.slice (.int .i64)) x3,.row 1,.row 2,.row 3],.rows 42 U x4,.rows 97 AH x5,.rows 47 AG x6,.var (AZ.enc x7)]⟩
def F9 (x0 x1 x2:Int) (x3:List (List Int)) (x4:List O) (x5:List Z) (x6:List AB) (x7:AW):Option (Bool×AA):=(if (decide (x2<=(x3.length:Int)))=true then (if 0<=(i64.wrap (x2-1)) then (if (i64.wrap (x2-1))<(x3.length:Int) then (if 0<=(0:Int) then (if 0<((x3.getD (i64.wrap (x2-1)).toNat ([]:List Int)).length:Int) then (if (((x3.getD (i64.wrap (x2-1)).toNat ([]:List Int)).getD (0:Int).toNat 0) != x7.2.1)=true then (D0 x0 x1 (i64.wrap (x2+1)) x3 x4 x5 x6 x7) else (if 0<=x1 then (if x1<(x4.length:Int) then ((Rf (x4.getD x1.toNat (0,0,false,false,false,false,([]:List Int),([]:List Y),0,0,0,0,(ByteArray.empty,ByteArray.empty,0),([]:List Int))) x3 x2).bind fun y2=>(if y2.2.2=true then (if 0<=x1 then (if x1<(x4.length:Int) then (let z3:List O:=x4.set x1.toNat y2.1; ((Gc y2.2.1 ([]) x0 (x3,z3,x5,x6)).bind fun y4=>(some (y2.2.2,y4)))) else none) else none) else (some (y2.2.2,(x3,x4,x5,x6))))) else none) else none)) else none) else none) else none) else none) else (some (false,(x3,x4,x5,x6))))
def Sy (x1:AW) (x2:Int) (b0:AA):Option (Bool×AA):=((Bs x1.2.1 b0).bind fun y1=>(if 0<=y1.1 then (if y1.1<(y1.2.2.1.length:Int) then (D0 x2 y1.1 (i64.wrap ((((y1.2.2.1.getD y1.1.toNat (0,0,false,false,false,false,([]:List Int),([]:List Y),0,0,0,0,(ByteArray.empty,ByteArray.empty,0),([]:List Int))).2).1)+1)) y1.2.1 y1.2.2.1 y1.2.2.2.1 y1.2.2.2.2 x1) else none) else none))
theorem Ig:za F9 D0:=lS (by kernel_rfl)
theorem hP:RO Sy LG:=cT CX rfl ⟨rfl,rfl⟩ (by kernel_rfl)
def Q8 (x1:Int) (b0:AA):Option (Int×AA):=((CC b0.2.1 x1).bind fun y1=>(some (y1,b0)))
theorem eo:Ni Q8 Bs:=cT G4 rfl ⟨rfl,rfl⟩ (by kernel_rfl)
def yk (x0:O):Option O:=(some (x0.1,x0.2.1,true,false,false,false,([]:List Int),([]:List Y),0,0,0,0,(ByteArray.empty,ByteArray.empty,0),([]:List Int)))
theorem yl:MJ yk T_:=cT Tt rfl ⟨rfl,rfl⟩ (by kernel_rfl)
def PQ (x1:AW) (x2:Int) (b0:AA):Option (Bool×AA):=(if ((b0.2.2.1.length:Int)==0)=true then (some (false,b0)) else (if (b0.2.2.1.length:Int)=0 then none else (if (x1.1==2)=true then ((EX (Int.tmod x1.2.2.1 (b0.2.2.1.length:Int)) x2 b0).bind fun y1=>(some (true,y1))) else (if (x1.1==3)=true then ((Bc b0.2.2.1 (Int.tmod x1.2.2.1 (b0.2.2.1.length:Int)) (i64.wrap ((Int.tmod x1.2.2.1 (b0.2.2.1.length:Int))+1))).bind fun y2=>(some (true,(b0.1,b0.2.1,y2,b0.2.2.2)))) else (if (x1.1==4)=true then (if 0<=(Int.tmod x1.2.2.1 (b0.2.2.1.length:Int)) then (if (Int.tmod x1.2.2.1 (b0.2.2.1.length:Int))<(b0.2.2.1.length:Int) then ((HN (b0.2.2.1.getD ((Int.tmod x1.2.2.1 (b0.2.2.1.length:Int)).toNat) (0,0,0,0,0,([]:List Y)))).bind fun y3=>(if b0.2.2.1.length+([y3]:List Z).length<=68719476736 then (some (true,(b0.1,b0.2.1,(b0.2.2.1++([y3]:List Z)),b0.2.2.2))) else none)) else none) else none) else (some (true,b0)))))))
theorem cw:RO PQ JJ:=cT Ga rfl ⟨rfl,rfl⟩ (by kernel_rfl)
def UN (x0:O):Option O:=((Bk x0.2.2.2.2.2.2.1).bind fun y1=>((Al x0.2.2.2.2.2.2.2.1).bind fun y2=>((Bk x0.2.2.2.2.2.2.2.2.2.2.2.2.2).bind fun y3=>(some (x0.1,x0.2.1,x0.2.2.1,x0.2.2.2.1,x0.2.2.2.2.1,x0.2.2.2.2.2.1,y1,y2,x0.2.2.2.2.2.2.2.2.1,x0.2.2.2.2.2.2.2.2.2.1,x0.2.2.2.2.2.2.2.2.2.2.1,x0.2.2.2.2.2.2.2.2.2.2.2.1,x0.2.2.2.2.2.2.2.2.2.2.2.2.1,y3)))))
theorem j7:MJ UN Cv:=cT Ir rfl ⟨rfl,rfl⟩ (by kernel_rfl)
def cz (x0:Z):Option Z:=((Al x0.2.2.2.2.2).bind fun y1=>(some (x0.1,x0.2.1,x0.2.2.1,x0.2.2.2.1,x0.2.2.2.2.1,y1)))
theorem tI:MJ cz HN:=cT Mj rfl ⟨rfl,rfl⟩ (by kernel_rfl)
def mt:=cG Vh (AF ET) (AF ET) kx
def mw:=kE 0 [] [0] 0 mt kx
def j8:St->Option (RT (A_.outs ET)):=lG Vg [] [0,3] 0 (AF ET) mw
def I3 (x0:List (List Int)) (x1:Int):Option Bool:=j8 ⟨[(0,.lst (.slice (.int .i64)) x0),(3,.int .i64 x1)],[]⟩
def NM (x0:List (List Int)) (x1:Int):Option Bool:=(if (decide (x1<(x0.length:Int)))=true then (if 0<=x1 then (if x1<(x0.length:Int) then ((SL (x0.getD x1.toNat ([]:List Int))).bind fun y1=>(if (!y1)=true then (some false) else (I3 x0 (i64.wrap (x1+1))))) else none) else none) else ((AU (x0.length:Int) 1 9).bind fun y2=>(some y2)))
def c_ (x0:List (List Int)):Option Bool:=(I3 x0 0)
theorem UO:Ni NM I3:=lS (by kernel_rfl)
theorem tJ:MJ c_ EY:=cT ET rfl ⟨rfl,rfl⟩ (by kernel_rfl)
def af:=cG Nq (AF CO) (AF CO) kx
def ag:=kE 0 [(3,0)] [3] 1 af kx
def Xp:St->Option (RT (A_.outs CO)):=lG Np [(3,0)] [0,3,4] 1 (AF CO) ag
def FR (x0:List (List Int)) (x1:Int) (x2:List (List Int)):Option (List (List Int)):=Xp ⟨[(0,.lst (.slice (.int .i64)) x0),(3,.row 0),(4,.int .i64 x1)],[.rows 33 (.slice (.int .i64)) x2]⟩
def H6 (x0:List (List Int)) (x1:Int) (x2:List (List Int)):Option (List (List Int)):=(if (decide (x1<(x0.length:Int)))=true then (if 0<=x1 then (if x1<(x0.length:Int) then (if ([]:List Int).length+(x0.getD x1.toNat ([]:List Int)).length<=68719476736 then (if x2.length+([(([]:List Int)++(x0.getD x1.toNat ([]:List Int)))]:List (List Int)).length<=68719476736 then (FR x0 (i64.wrap (x1+1)) (x2++([(([]:List Int)++(x0.getD x1.toNat ([]:List Int)))]:List (List Int)))) else none) else none) else none) else none) else (some x2))
def Q9 (x0:List (List Int)):Option (List (List Int)):=(FR x0 0 ([]:List (List Int)))
theorem NN:RO H6 FR:=lS (by kernel_rfl)
theorem er:MJ Q9 G5:=cT CO rfl ⟨rfl,rfl⟩ (by kernel_rfl)
def Q_ (x0:Int) (x1:List (List Int)) (x2:Bool) (x3:O):Option (O×Bool):=cG SB (AF Fi) (AF Fi) kx ⟨[(0,.int .i64 x0),(1,.lst (.slice (.int .i64)) x1),(4,.ptr 0 0),(14,.bool x2)],[.var (U.enc x3)]⟩
def RA (x0:Int) (x1:List (List Int)) (x2:Bool) (x3:O):Option (O×Bool):=(if 0<=(0:Int) then (if 0<(x1.length:Int) then ((DX (x1.getD (0:Int).toNat ([]:List Int)) x0).bind fun y3=>(if 0<=(0:Int) then (if 0<(x1.length:Int) then (if 0<=(0:Int) then (if 0<((x1.getD (0:Int).toNat ([]:List Int)).length:Int) then (some ((x0,1,false,y3,(((x1.getD (0:Int).toNat ([]:List Int)).getD (0:Int).toNat 0)==x0),(((x1.getD (0:Int).toNat ([]:List Int)).getD (0:Int).toNat 0)==x0),([]:List Int),([]:List Y),0,0,0,0,(ByteArray.empty,ByteArray.empty,0),([]:List Int)),true)) else none) else none) else none) else none)) else none) else none)
def WU (x0:Int) (x1:List (List Int)):Option (O×Bool):=((EY x1).bind fun y1=>(if (!y1)=false then ((AU x0 1 6).bind fun y2=>(if (!y2)=true then (some ((0,0,false,false,false,false,([]:List Int),([]:List Y),0,0,0,0,(ByteArray.empty,ByteArray.empty,0),([]:List Int)),false)) else (Q_ x0 x1 (!y2) (0,0,false,false,false,false,([]:List Int),([]:List Y),0,0,0,0,(ByteArray.empty,ByteArray.empty,0),([]:List Int))))) else (some ((0,0,false,false,false,false,([]:List Int),([]:List Y),0,0,0,0,(ByteArray.empty,ByteArray.empty,0),([]:List Int)),false))))
theorem eu:bZ RA Q_:=jS (by kernel_rfl)
theorem mx:Ni WU OM:=cT Fi rfl ⟨rfl,rfl⟩ (by kernel_rfl)
def Z0 (x1:Int) (x2:AW) (b0:AA):Option (Int×AA):=(if ([]:List AB).length+b0.2.2.2.length<=68719476736 then (if (([]:List AB)++b0.2.2.2).length+([(x2.2.2.2.1,x2.2.2.2.2.1,x2.2.2.2.2.2,x1,(-1:Int),0,0,0,ByteArray.empty)]:List AB).length<=68719476736 then (if 0<=(i64.wrap (x2.2.1-1)) then (if (i64.wrap (x2.2.1-1))<(b0.2.1.length:Int) then ((Xf (b0.2.1.getD (i64.wrap (x2.2.1-1)).toNat (0,0,false,false,false,false,([]:List Int),([]:List Y),0,0,0,0,(ByteArray.empty,ByteArray.empty,0),([]:List Int))) b0.1 x2.2.2.2.1 (i64.wrap ((((([]:List AB)++b0.2.2.2)++([(x2.2.2.2.1,x2.2.2.2.2.1,x2.2.2.2.2.2,x1,(-1:Int),0,0,0,ByteArray.empty)]:List AB)).length:Int)-1)) x2.2.2.2.2.1 x2.2.2.2.2.2).bind fun y1=>(if (!y1.2.2.2)=true then (some (1,(b0.1,b0.2.1,b0.2.2.1,((([]:List AB)++b0.2.2.2)++([(x2.2.2.2.1,x2.2.2.2.2.1,x2.2.2.2.2.2,x1,(-1:Int),0,0,0,ByteArray.empty)]:List AB))))) else ((Fj y1.1 y1.2.1 y1.2.2.1 x1 (b0.1,b0.2.1,b0.2.2.1,((([]:List AB)++b0.2.2.2)++([(x2.2.2.2.1,x2.2.2.2.2.1,x2.2.2.2.2.2,x1,(-1:Int),0,0,0,ByteArray.empty)]:List AB)))).bind fun y2=>(some (0,y2))))) else none) else none) else none) else none)
theorem pe:RO Z0 Pu:=cT Kp rfl ⟨rfl,rfl⟩ (by kernel_rfl)
def j9:=cG SC (AF Dq) (AF Dq) kx
def j_:=kE 0 [] [] 2 j9 kx
def hU:St->Option (RT (A_.outs Dq)):=lG Tu [] [0,1,2,7,8] 2 (AF Dq) j_
def H7 (x0 x1 x2:Int) (x3:AA) (x4:O):Option (Int×AA):=hU ⟨[(0,.ptr 0 0),(1,.int .i64 x0),(2,.int .i64 x1),(7,.ptr 1 0),(8,.int .i64 x2)],[.var (AM.enc x3),.var (U.enc x4)]⟩
def H8 (x0 x1 x2:Int) (x3:AA) (x4:O):Option (Int×AA):=(if (decide (x2<=(x3.1.length:Int)))=true then (if 0<=(i64.wrap (x2-1)) then (if (i64.wrap (x2-1))<(x3.1.length:Int) then (if 0<=(0:Int) then (if 0<((x3.1.getD (i64.wrap (x2-1)).toNat ([]:List Int)).length:Int) then (if (((x3.1.getD (i64.wrap (x2-1)).toNat ([]:List Int)).getD (0:Int).toNat 0) != x1)=true then (H7 x0 x1 (i64.wrap (x2+1)) x3 x4) else ((Xg x4 x3.1 x2).bind fun y1=>(if (!y1.2.2)=true then (some (1,x3)) else ((Fj y1.1 y1.2.1 ([]:List AI) x0 x3).bind fun y2=>(some (0,y2)))))) else none) else none) else none) else none) else (some (1,x3)))
def QJ (x1 x2:Int) (b0:AA):Option (Int×AA):=(if 0<=(i64.wrap (x2-1)) then (if (i64.wrap (x2-1))<(b0.2.1.length:Int) then (H7 x1 x2 (i64.wrap ((((b0.2.1.getD (i64.wrap (x2-1)).toNat (0,0,false,false,false,false,([]:List Int),([]:List Y),0,0,0,0,(ByteArray.empty,ByteArray.empty,0),([]:List Int))).2).1)+1)) b0 (b0.2.1.getD (i64.wrap (x2-1)).toNat (0,0,false,false,false,false,([]:List Int),([]:List Y),0,0,0,0,(ByteArray.empty,ByteArray.empty,0),([]:List Int)))) else none) else none)
theorem La:zG H8 H7:=lS (by kernel_rfl)
theorem Z1:RO QJ Pv:=cT Dq rfl ⟨rfl,rfl⟩ (by kernel_rfl)
def Lb:=kE 0 [] [] 4 (AF Cj) kx
def RB:St->Option (RT (A_.outs Cj)):=lG Qk [] [0,3,4,11] 4 (AF Cj) Lb
def hX:=kB [] [0,3,4,11] 4 RB
def Sz:=cG Qj hX (AF Cj) Lb
def hY:=kB [] [0,3,4,11] 4 Sz
def hZ:=kE 1 [] [0,3,4,11] 4 Sz Lb
def RC (x0:List AI) (x1 x2:Int) (x3:Bool) (x4:AA) (x5:O) (x6:List O) (x7:List Z) (x8:AI):Option AA:=cG Qi hY (AF Cj) hZ ⟨[(0,.ptr 0 0),(3,.lst Ay x0),(4,.int .i64 x1),(11,.int .i64 x2),(12,.ptr 4 0),(71,.bool x3)],[.var (AM.enc x4),.var (U.enc x5),.frz U x6,.frz AH x7,.var (Ay.enc x8)]⟩
def Cq (x0:List AI) (x1 x2:Int) (x3:AA) (x4:O) (x5:List O) (x6:List Z):Option AA:=RB ⟨[(0,.ptr 0 0),(3,.lst Ay x0),(4,.int .i64 x1),(11,.int .i64 x2)],[.var (AM.enc x3),.var (U.enc x4),.frz U x5,.frz AH x6]⟩
def RD (x0:List AI) (x1 x2:Int) (x3:Bool) (x4:AA) (x5:O) (x6:List O) (x7:List Z) (x8:AI):Option AA:=(if ([]:List AB).length+x4.2.2.2.length<=68719476736 then (if 0<=x8.1 then (if x8.1<((([]:List AB)++x4.2.2.2).length:Int) then (let z2:List AB:=(([]:List AB)++x4.2.2.2).set x8.1.toNat (((([]:List AB)++x4.2.2.2).getD x8.1.toNat (0,ByteArray.empty,ByteArray.empty,0,0,0,0,0,ByteArray.empty)).1,(((([]:List AB)++x4.2.2.2).getD x8.1.toNat (0,ByteArray.empty,ByteArray.empty,0,0,0,0,0,ByteArray.empty)).2).1,((((([]:List AB)++x4.2.2.2).getD x8.1.toNat (0,ByteArray.empty,ByteArray.empty,0,0,0,0,0,ByteArray.empty)).2).2).1,(((((([]:List AB)++x4.2.2.2).getD x8.1.toNat (0,ByteArray.empty,ByteArray.empty,0,0,0,0,0,ByteArray.empty)).2).2).2).1,x1,((((((([]:List AB)++x4.2.2.2).getD x8.1.toNat (0,ByteArray.empty,ByteArray.empty,0,0,0,0,0,ByteArray.empty)).2).2).2).2).2); (let z3:List AB:=z2.set x8.1.toNat ((z2.getD x8.1.toNat (0,ByteArray.empty,ByteArray.empty,0,0,0,0,0,ByteArray.empty)).1,((z2.getD x8.1.toNat (0,ByteArray.empty,ByteArray.empty,0,0,0,0,0,ByteArray.empty)).2).1,(((z2.getD x8.1.toNat (0,ByteArray.empty,ByteArray.empty,0,0,0,0,0,ByteArray.empty)).2).2).1,((((z2.getD x8.1.toNat (0,ByteArray.empty,ByteArray.empty,0,0,0,0,0,ByteArray.empty)).2).2).2).1,(((((z2.getD x8.1.toNat (0,ByteArray.empty,ByteArray.empty,0,0,0,0,0,ByteArray.empty)).2).2).2).2).1,x8.2.2.2.2.2,((((((z2.getD x8.1.toNat (0,ByteArray.empty,ByteArray.empty,0,0,0,0,0,ByteArray.empty)).2).2).2).2).2).2); (let z4:List AB:=z3.set x8.1.toNat ((z3.getD x8.1.toNat (0,ByteArray.empty,ByteArray.empty,0,0,0,0,0,ByteArray.empty)).1,((z3.getD x8.1.toNat (0,ByteArray.empty,ByteArray.empty,0,0,0,0,0,ByteArray.empty)).2).1,(((z3.getD x8.1.toNat (0,ByteArray.empty,ByteArray.empty,0,0,0,0,0,ByteArray.empty)).2).2).1,((((z3.getD x8.1.toNat (0,ByteArray.empty,ByteArray.empty,0,0,0,0,0,ByteArray.empty)).2).2).2).1,(((((z3.getD x8.1.toNat (0,ByteArray.empty,ByteArray.empty,0,0,0,0,0,ByteArray.empty)).2).2).2).2).1,((((((z3.getD x8.1.toNat (0,ByteArray.empty,ByteArray.empty,0,0,0,0,0,ByteArray.empty)).2).2).2).2).2).1,x8.2.1,(((((((z3.getD x8.1.toNat (0,ByteArray.empty,ByteArray.empty,0,0,0,0,0,ByteArray.empty)).2).2).2).2).2).2).2); (let z5:List AB:=z4.set x8.1.toNat ((z4.getD x8.1.toNat (0,ByteArray.empty,ByteArray.empty,0,0,0,0,0,ByteArray.empty)).1,((z4.getD x8.1.toNat (0,ByteArray.empty,ByteArray.empty,0,0,0,0,0,ByteArray.empty)).2).1,(((z4.getD x8.1.toNat (0,ByteArray.empty,ByteArray.empty,0,0,0,0,0,ByteArray.empty)).2).2).1,((((z4.getD x8.1.toNat (0,ByteArray.empty,ByteArray.empty,0,0,0,0,0,ByteArray.empty)).2).2).2).1,(((((z4.getD x8.1.toNat (0,ByteArray.empty,ByteArray.empty,0,0,0,0,0,ByteArray.empty)).2).2).2).2).1,((((((z4.getD x8.1.toNat (0,ByteArray.empty,ByteArray.empty,0,0,0,0,0,ByteArray.empty)).2).2).2).2).2).1,(((((((z4.getD x8.1.toNat (0,ByteArray.empty,ByteArray.empty,0,0,0,0,0,ByteArray.empty)).2).2).2).2).2).2).1,x8.2.2.1,((((((((z4.getD x8.1.toNat (0,ByteArray.empty,ByteArray.empty,0,0,0,0,0,ByteArray.empty)).2).2).2).2).2).2).2).2); (if (((z5.getD x8.1.toNat (0,ByteArray.empty,ByteArray.empty,0,0,0,0,0,ByteArray.empty)).1)==2)=true then (let z6:List AB:=z5.set x8.1.toNat ((z5.getD x8.1.toNat (0,ByteArray.empty,ByteArray.empty,0,0,0,0,0,ByteArray.empty)).1,((z5.getD x8.1.toNat (0,ByteArray.empty,ByteArray.empty,0,0,0,0,0,ByteArray.empty)).2).1,(((z5.getD x8.1.toNat (0,ByteArray.empty,ByteArray.empty,0,0,0,0,0,ByteArray.empty)).2).2).1,((((z5.getD x8.1.toNat (0,ByteArray.empty,ByteArray.empty,0,0,0,0,0,ByteArray.empty)).2).2).2).1,(((((z5.getD x8.1.toNat (0,ByteArray.empty,ByteArray.empty,0,0,0,0,0,ByteArray.empty)).2).2).2).2).1,((((((z5.getD x8.1.toNat (0,ByteArray.empty,ByteArray.empty,0,0,0,0,0,ByteArray.empty)).2).2).2).2).2).1,(((((((z5.getD x8.1.toNat (0,ByteArray.empty,ByteArray.empty,0,0,0,0,0,ByteArray.empty)).2).2).2).2).2).2).1,((((((((z5.getD x8.1.toNat (0,ByteArray.empty,ByteArray.empty,0,0,0,0,0,ByteArray.empty)).2).2).2).2).2).2).2).1,x8.2.2.2.2.1); (Cq x0 x1 (i64.wrap (x2+1)) (x4.1,x4.2.1,x4.2.2.1,z6) x5 x6 x7)) else (Cq x0 x1 (i64.wrap (x2+1)) (x4.1,x4.2.1,x4.2.2.1,z5) x5 x6 x7)))))) else none) else none) else none)
def KO (x0:List AI) (x1 x2:Int) (x3:AA) (x4:O) (x5:List O) (x6:List Z):Option AA:=(if (decide (x2<(x0.length:Int)))=true then (if 0<=x2 then (if x2<(x0.length:Int) then (if (decide (((x0.getD x2.toNat (0,0,0,ByteArray.empty,ByteArray.empty,0)).1)>=(x3.2.2.2.length:Int)))=true then (Cq x0 x1 (i64.wrap (x2+1)) x3 x4 x5 x6) else (if 0<=((x0.getD x2.toNat (0,0,0,ByteArray.empty,ByteArray.empty,0)).1) then (if ((x0.getD x2.toNat (0,0,0,ByteArray.empty,ByteArray.empty,0)).1)<(x3.2.2.2.length:Int) then (if (decide (((((((x3.2.2.2.getD ((x0.getD x2.toNat (0,0,0,ByteArray.empty,ByteArray.empty,0)).1).toNat (0,ByteArray.empty,ByteArray.empty,0,0,0,0,0,ByteArray.empty)).2).2).2).2).1)>=0))=true then (Cq x0 x1 (i64.wrap (x2+1)) x3 x4 x5 x6) else (RC x0 x1 x2 (decide (((((((x3.2.2.2.getD ((x0.getD x2.toNat (0,0,0,ByteArray.empty,ByteArray.empty,0)).1).toNat (0,ByteArray.empty,ByteArray.empty,0,0,0,0,0,ByteArray.empty)).2).2).2).2).1)>=0)) x3 x4 x5 x6 (x0.getD x2.toNat (0,0,0,ByteArray.empty,ByteArray.empty,0)))) else none) else none)) else none) else none) else (some x3))
def WV (x1:O) (x2:List Z) (x3:List AI) (x4:Int) (b0:AA):Option AA:=(if ([]:List O).length+b0.2.1.length<=68719476736 then (if 0<=(i64.wrap (x1.1-1)) then (if (i64.wrap (x1.1-1))<((([]:List O)++b0.2.1).length:Int) then (let z1:List O:=(([]:List O)++b0.2.1).set ((i64.wrap (x1.1-1)).toNat) x1; (if ([]:List Z).length+b0.2.2.1.length<=68719476736 then (if (([]:List Z)++b0.2.2.1).length+x2.length<=68719476736 then (Cq x3 x4 0 (b0.1,z1,((([]:List Z)++b0.2.2.1)++x2),b0.2.2.2) x1 z1 ((([]:List Z)++b0.2.2.1)++x2)) else none) else none)) else none) else none) else none)
theorem ew:Le9 RD RC:=jS (by kernel_rfl)
theorem RE:Le7 KO Cq:=lS (by kernel_rfl)
theorem my:zG WV Fj:=cT Cj rfl ⟨rfl,rfl⟩ (by kernel_rfl)
def ym (x0:O):Option O:=(some (x0.1,x0.2.1,true,false,false,false,([]:List Int),([]:List Y),0,0,0,0,(ByteArray.empty,ByteArray.empty,0),([]:List Int)))
theorem yn:MJ ym cM:=cT Tv rfl ⟨rfl,rfl⟩ (by kernel_rfl)
def Uz (x1:Int) (x2:AW) (b0:AA):Option (Int×AA):=(if ((b0.2.2.1.length:Int)==0)=true then (some (1,b0)) else (if (b0.2.2.1.length:Int)=0 then none else (if 0<=(Int.tmod x2.2.2.1 (b0.2.2.1.length:Int)) then (if (Int.tmod x2.2.2.1 (b0.2.2.1.length:Int))<(b0.2.2.1.length:Int) then (if (x2.1==4)=true then (if ([]:List Z).length+b0.2.2.1.length<=68719476736 then (if (([]:List Z)++b0.2.2.1).length+([b0.2.2.1.getD (Int.tmod x2.2.2.1 (b0.2.2.1.length:Int)).toNat (0,0,0,0,0,([]:List Y))]:List Z).length<=68719476736 then (some (0,(b0.1,b0.2.1,((([]:List Z)++b0.2.2.1)++([b0.2.2.1.getD (Int.tmod x2.2.2.1 (b0.2.2.1.length:Int)).toNat (0,0,0,0,0,([]:List Y))]:List Z)),b0.2.2.2))) else none) else none) else (if 0<=(0:Int) then (if 0<=(Int.tmod x2.2.2.1 (b0.2.2.1.length:Int)) then (if (Int.tmod x2.2.2.1 (b0.2.2.1.length:Int))<=(b0.2.2.1.length:Int) then (if 0<=(i64.wrap ((Int.tmod x2.2.2.1 (b0.2.2.1.length:Int))+1)) then (if (i64.wrap ((Int.tmod x2.2.2.1 (b0.2.2.1.length:Int))+1))<=(b0.2.2.1.length:Int) then (if (b0.2.2.1.length:Int)<=(b0.2.2.1.length:Int) then (if ([]:List Z).length+((b0.2.2.1.take (Int.tmod x2.2.2.1 (b0.2.2.1.length:Int)).toNat).drop (0:Int).toNat).length<=68719476736 then (if (([]:List Z)++((b0.2.2.1.take (Int.tmod x2.2.2.1 (b0.2.2.1.length:Int)).toNat).drop (0:Int).toNat)).length+((b0.2.2.1.take (b0.2.2.1.length:Int).toNat).drop (i64.wrap ((Int.tmod x2.2.2.1 (b0.2.2.1.length:Int))+1)).toNat).length<=68719476736 then (if (x2.1==3)=true then (some (0,(b0.1,b0.2.1,((([]:List Z)++((b0.2.2.1.take (Int.tmod x2.2.2.1 (b0.2.2.1.length:Int)).toNat).drop (0:Int).toNat))++((b0.2.2.1.take (b0.2.2.1.length:Int).toNat).drop (i64.wrap ((Int.tmod x2.2.2.1 (b0.2.2.1.length:Int))+1)).toNat)),b0.2.2.2))) else (if 0<=(i64.wrap (((((b0.2.2.1.getD (Int.tmod x2.2.2.1 (b0.2.2.1.length:Int)).toNat (0,0,0,0,0,([]:List Y))).2).2).1)-1)) then (if (i64.wrap (((((b0.2.2.1.getD (Int.tmod x2.2.2.1 (b0.2.2.1.length:Int)).toNat (0,0,0,0,0,([]:List Y))).2).2).1)-1))<(b0.2.1.length:Int) then ((SM (b0.2.1.getD (i64.wrap (((((b0.2.2.1.getD (Int.tmod x2.2.2.1 (b0.2.2.1.length:Int)).toNat (0,0,0,0,0,([]:List Y))).2).2).1)-1)).toNat (0,0,false,false,false,false,([]:List Int),([]:List Y),0,0,0,0,(ByteArray.empty,ByteArray.empty,0),([]:List Int))) b0.1 (b0.2.2.1.getD (Int.tmod x2.2.2.1 (b0.2.2.1.length:Int)).toNat (0,0,0,0,0,([]:List Y)))).bind fun y1=>((Fj y1.1 y1.2.1 y1.2.2 x1 (b0.1,b0.2.1,((([]:List Z)++((b0.2.2.1.take (Int.tmod x2.2.2.1 (b0.2.2.1.length:Int)).toNat).drop (0:Int).toNat))++((b0.2.2.1.take (b0.2.2.1.length:Int).toNat).drop (i64.wrap ((Int.tmod x2.2.2.1 (b0.2.2.1.length:Int))+1)).toNat)),b0.2.2.2)).bind fun y2=>(some (0,y2)))) else none) else none)) else none) else none) else none) else none) else none) else none) else none) else none)) else none) else none)))
theorem uz:RO Uz Ux:=cT Ow rfl ⟨rfl,rfl⟩ (by kernel_rfl)
def dA:=cG PE (AF CY) (AF CY) kx
def dB:=kE 0 [(3,0)] [3] 1 dA kx
def ah:St->Option (RT (A_.outs CY)):=lG PD [(3,0)] [0,3,4] 1 (AF CY) dB
def D1 (x0:List Z) (x1:Int) (x2:List Z):Option (List Z):=ah ⟨[(0,.lst AH x0),(3,.row 0),(4,.int .i64 x1)],[.rows 97 AH x2]⟩
def Ih (x0:List Z) (x1:Int) (x2:List Z):Option (List Z):=(if (decide (x1<(x0.length:Int)))=true then (if 0<=x1 then (if x1<(x0.length:Int) then (if ([]:List Y).length+((((((x0.getD x1.toNat (0,0,0,0,0,([]:List Y))).2).2).2).2).2).length<=68719476736 then (if x2.length+([((x0.getD x1.toNat (0,0,0,0,0,([]:List Y))).1,((x0.getD x1.toNat (0,0,0,0,0,([]:List Y))).2).1,(((x0.getD x1.toNat (0,0,0,0,0,([]:List Y))).2).2).1,((((x0.getD x1.toNat (0,0,0,0,0,([]:List Y))).2).2).2).1,(((((x0.getD x1.toNat (0,0,0,0,0,([]:List Y))).2).2).2).2).1,(([]:List Y)++((((((x0.getD x1.toNat (0,0,0,0,0,([]:List Y))).2).2).2).2).2)))]:List Z).length<=68719476736 then (D1 x0 (i64.wrap (x1+1)) (x2++([((x0.getD x1.toNat (0,0,0,0,0,([]:List Y))).1,((x0.getD x1.toNat (0,0,0,0,0,([]:List Y))).2).1,(((x0.getD x1.toNat (0,0,0,0,0,([]:List Y))).2).2).1,((((x0.getD x1.toNat (0,0,0,0,0,([]:List Y))).2).2).2).1,(((((x0.getD x1.toNat (0,0,0,0,0,([]:List Y))).2).2).2).2).1,(([]:List Y)++((((((x0.getD x1.toNat (0,0,0,0,0,([]:List Y))).2).2).2).2).2)))]:List Z))) else none) else none) else none) else none) else (some x2))
def S0 (x0:List Z):Option (List Z):=(D1 x0 0 ([]:List Z))
theorem Nx:RO Ih D1:=lS (by kernel_rfl)
theorem h_:MJ S0 LH:=cT CY rfl ⟨rfl,rfl⟩ (by kernel_rfl)
def dC (x0:O):Option O:=(if ([]:List Int).length+x0.2.2.2.2.2.2.1.length<=68719476736 then (if ([]:List Y).length+x0.2.2.2.2.2.2.2.1.length<=68719476736 then (if ([]:List Int).length+x0.2.2.2.2.2.2.2.2.2.2.2.2.2.length<=68719476736 then (some (x0.1,x0.2.1,x0.2.2.1,x0.2.2.2.1,x0.2.2.2.2.1,x0.2.2.2.2.2.1,(([]:List Int)++x0.2.2.2.2.2.2.1),(([]:List Y)++x0.2.2.2.2.2.2.2.1),x0.2.2.2.2.2.2.2.2.1,x0.2.2.2.2.2.2.2.2.2.1,x0.2.2.2.2.2.2.2.2.2.2.1,x0.2.2.2.2.2.2.2.2.2.2.2.1,x0.2.2.2.2.2.2.2.2.2.2.2.2.1,(([]:List Int)++x0.2.2.2.2.2.2.2.2.2.2.2.2.2))) else none) else none) else none)
theorem tK:MJ dC DZ:=cT Mk rfl ⟨rfl,rfl⟩ (by kernel_rfl)
def kA (x0:ByteArray):Option Bool:=((Af (x0.size:Int) 1 12).bind fun y1=>(some y1))
theorem xZ:MJ kA Rd:=cT RX rfl ⟨rfl,rfl⟩ (by kernel_rfl)
def UP (x0:List (List Int)) (x1:Bool) (x2:O) (x3:Z) (x4 x5:O):Option (O×List Z×List AI):=cG Vi (AF HH) (AF HH) kx ⟨[(1,.lst (.slice (.int .i64)) x0),(5,.ptr 1 0),(6,.ptr 2 0),(9,.ptr 3 0),(47,.bool x1)],[.var (U.enc x2),.var (AH.enc x3),.var (U.enc x4),.var (U.enc x5)]⟩
def UQ (x0:List (List Int)) (x1:Bool) (x2:O) (x3:Z) (x4 x5:O):Option (O×List Z×List AI):=((LI x0 x3 x5).bind fun y5=>((Cv y5.2.2).bind fun y6=>(some (y6,y5.1,y5.2.1))))
def dD (x0:O) (x1:List (List Int)) (x2:Z):Option (O×List Z×List AI):=((Cv x0).bind fun y1=>(if (x2.2.2.1 != x0.1)=false then (if (decide (x2.2.2.2.1<x0.2.1))=false then (if (decide (x2.2.2.2.1>(x1.length:Int)))=false then ((GJ x0).bind fun y2=>(if (!y2)=false then ((DY x1).bind fun y3=>(if (!y3)=false then ((Xh x2).bind fun y4=>(if (!y4)=true then (some (y1,[],[])) else (UP x1 (!y4) x0 x2 (0,0,false,false,false,false,([]:List Int),([]:List Y),0,0,0,0,(ByteArray.empty,ByteArray.empty,0),([]:List Int)) y1))) else (some (y1,[],[])))) else (some (y1,[],[])))) else (some (y1,[],[]))) else (some (y1,[],[]))) else (some (y1,[],[]))))
theorem kC:zZ UQ UP:=jS (by kernel_rfl)
theorem tL:RO dD My:=cT HH rfl ⟨rfl,rfl⟩ (by kernel_rfl)

def KP:=kE 0 [] [] 4 (AF CS) kx
def PR:St->Option (RT (A_.outs CS)):=lG Qn [] [0,3,20,21,22] 4 (AF CS) KP
def e_:=kB [] [0,3,20,21,22] 4 PR
def RF:=cG Qm e_ (AF CS) KP
def fA:=kB [] [0,3,20,21,22] 4 RF
def fB:=kE 1 [] [0,3,20,21,22] 4 RF KP
def PS (x0:Int) (x1:List AI) (x2 x3:Int) (x4:Bool) (x5:List (List Int)) (x6:List O) (x7:List Z) (x8:List AB) (x9:AI):Option AA:=cG Ql fA (AF CS) fB ⟨[(0,.ptr 0 0),(3,.int .i64 x0),(9,.ptr 4 0),(20,.lst Ay x1),(21,.int .i64 x2),(22,.int .i64 x3),(47,.bool x4)],[.var [.lst (.slice (.int .i64)) x5,.row 1,.row 2,.row 3],.rows 42 U x6,.rows 97 AH x7,.rows 47 AG x8,.var (Ay.enc x9)]⟩
def Ca (x0:Int) (x1:List AI) (x2 x3:Int) (x4:List (List Int)) (x5:List O) (x6:List Z) (x7:List AB):Option AA:=PR ⟨[(0,.ptr 0 0),(3,.int .i64 x0),(20,.lst Ay x1),(21,.int .i64 x2),(22,.int .i64 x3)],[.var [.lst (.slice (.int .i64)) x4,.row 1,.row 2,.row 3],.rows 42 U x5,.rows 97 AH x6,.rows 47 AG x7]⟩
def PT (x0:Int) (x1:List AI) (x2 x3:Int) (x4:Bool) (x5:List (List Int)) (x6:List O) (x7:List Z) (x8:List AB) (x9:AI):Option AA:=(if 0<=x9.1 then (if x9.1<(x8.length:Int) then (let z2:List AB:=x8.set x9.1.toNat ((x8.getD x9.1.toNat (0,ByteArray.empty,ByteArray.empty,0,0,0,0,0,ByteArray.empty)).1,((x8.getD x9.1.toNat (0,ByteArray.empty,ByteArray.empty,0,0,0,0,0,ByteArray.empty)).2).1,(((x8.getD x9.1.toNat (0,ByteArray.empty,ByteArray.empty,0,0,0,0,0,ByteArray.empty)).2).2).1,((((x8.getD x9.1.toNat (0,ByteArray.empty,ByteArray.empty,0,0,0,0,0,ByteArray.empty)).2).2).2).1,x0,(((((x8.getD x9.1.toNat (0,ByteArray.empty,ByteArray.empty,0,0,0,0,0,ByteArray.empty)).2).2).2).2).2); (let z3:List AB:=z2.set x9.1.toNat ((z2.getD x9.1.toNat (0,ByteArray.empty,ByteArray.empty,0,0,0,0,0,ByteArray.empty)).1,((z2.getD x9.1.toNat (0,ByteArray.empty,ByteArray.empty,0,0,0,0,0,ByteArray.empty)).2).1,(((z2.getD x9.1.toNat (0,ByteArray.empty,ByteArray.empty,0,0,0,0,0,ByteArray.empty)).2).2).1,((((z2.getD x9.1.toNat (0,ByteArray.empty,ByteArray.empty,0,0,0,0,0,ByteArray.empty)).2).2).2).1,(((((z2.getD x9.1.toNat (0,ByteArray.empty,ByteArray.empty,0,0,0,0,0,ByteArray.empty)).2).2).2).2).1,x9.2.2.2.2.2,((((((z2.getD x9.1.toNat (0,ByteArray.empty,ByteArray.empty,0,0,0,0,0,ByteArray.empty)).2).2).2).2).2).2); (let z4:List AB:=z3.set x9.1.toNat ((z3.getD x9.1.toNat (0,ByteArray.empty,ByteArray.empty,0,0,0,0,0,ByteArray.empty)).1,((z3.getD x9.1.toNat (0,ByteArray.empty,ByteArray.empty,0,0,0,0,0,ByteArray.empty)).2).1,(((z3.getD x9.1.toNat (0,ByteArray.empty,ByteArray.empty,0,0,0,0,0,ByteArray.empty)).2).2).1,((((z3.getD x9.1.toNat (0,ByteArray.empty,ByteArray.empty,0,0,0,0,0,ByteArray.empty)).2).2).2).1,(((((z3.getD x9.1.toNat (0,ByteArray.empty,ByteArray.empty,0,0,0,0,0,ByteArray.empty)).2).2).2).2).1,((((((z3.getD x9.1.toNat (0,ByteArray.empty,ByteArray.empty,0,0,0,0,0,ByteArray.empty)).2).2).2).2).2).1,x9.2.1,(((((((z3.getD x9.1.toNat (0,ByteArray.empty,ByteArray.empty,0,0,0,0,0,ByteArray.empty)).2).2).2).2).2).2).2); (let z5:List AB:=z4.set x9.1.toNat ((z4.getD x9.1.toNat (0,ByteArray.empty,ByteArray.empty,0,0,0,0,0,ByteArray.empty)).1,((z4.getD x9.1.toNat (0,ByteArray.empty,ByteArray.empty,0,0,0,0,0,ByteArray.empty)).2).1,(((z4.getD x9.1.toNat (0,ByteArray.empty,ByteArray.empty,0,0,0,0,0,ByteArray.empty)).2).2).1,((((z4.getD x9.1.toNat (0,ByteArray.empty,ByteArray.empty,0,0,0,0,0,ByteArray.empty)).2).2).2).1,(((((z4.getD x9.1.toNat (0,ByteArray.empty,ByteArray.empty,0,0,0,0,0,ByteArray.empty)).2).2).2).2).1,((((((z4.getD x9.1.toNat (0,ByteArray.empty,ByteArray.empty,0,0,0,0,0,ByteArray.empty)).2).2).2).2).2).1,(((((((z4.getD x9.1.toNat (0,ByteArray.empty,ByteArray.empty,0,0,0,0,0,ByteArray.empty)).2).2).2).2).2).2).1,x9.2.2.1,((((((((z4.getD x9.1.toNat (0,ByteArray.empty,ByteArray.empty,0,0,0,0,0,ByteArray.empty)).2).2).2).2).2).2).2).2); (if (((z5.getD x9.1.toNat (0,ByteArray.empty,ByteArray.empty,0,0,0,0,0,ByteArray.empty)).1)==2)=true then (let z6:List AB:=z5.set x9.1.toNat ((z5.getD x9.1.toNat (0,ByteArray.empty,ByteArray.empty,0,0,0,0,0,ByteArray.empty)).1,((z5.getD x9.1.toNat (0,ByteArray.empty,ByteArray.empty,0,0,0,0,0,ByteArray.empty)).2).1,(((z5.getD x9.1.toNat (0,ByteArray.empty,ByteArray.empty,0,0,0,0,0,ByteArray.empty)).2).2).1,((((z5.getD x9.1.toNat (0,ByteArray.empty,ByteArray.empty,0,0,0,0,0,ByteArray.empty)).2).2).2).1,(((((z5.getD x9.1.toNat (0,ByteArray.empty,ByteArray.empty,0,0,0,0,0,ByteArray.empty)).2).2).2).2).1,((((((z5.getD x9.1.toNat (0,ByteArray.empty,ByteArray.empty,0,0,0,0,0,ByteArray.empty)).2).2).2).2).2).1,(((((((z5.getD x9.1.toNat (0,ByteArray.empty,ByteArray.empty,0,0,0,0,0,ByteArray.empty)).2).2).2).2).2).2).1,((((((((z5.getD x9.1.toNat (0,ByteArray.empty,ByteArray.empty,0,0,0,0,0,ByteArray.empty)).2).2).2).2).2).2).2).1,x9.2.2.2.2.1); (Ca x0 x1 x2 (i64.wrap (x3+1)) x5 x6 x7 z6)) else (Ca x0 x1 x2 (i64.wrap (x3+1)) x5 x6 x7 z5)))))) else none) else none)
def JL (x0:Int) (x1:List AI) (x2 x3:Int) (x4:List (List Int)) (x5:List O) (x6:List Z) (x7:List AB):Option AA:=(if (decide (x3<x2))=true then (if 0<=x3 then (if x3<(x1.length:Int) then ((Af ((x1.getD x3.toNat (0,0,0,ByteArray.empty,ByteArray.empty,0)).1) 0 (i64.wrap ((x7.length:Int)-1))).bind fun y1=>(if (!y1)=true then (Ca x0 x1 x2 (i64.wrap (x3+1)) x4 x5 x6 x7) else (if 0<=((x1.getD x3.toNat (0,0,0,ByteArray.empty,ByteArray.empty,0)).1) then (if ((x1.getD x3.toNat (0,0,0,ByteArray.empty,ByteArray.empty,0)).1)<(x7.length:Int) then (if (((((((x7.getD (((x1.getD x3.toNat (0,0,0,ByteArray.empty,ByteArray.empty,0)).1).toNat) (0,ByteArray.empty,ByteArray.empty,0,0,0,0,0,ByteArray.empty)).2).2).2).2).1) != (-1:Int))=true then (Ca x0 x1 x2 (i64.wrap (x3+1)) x4 x5 x6 x7) else (PS x0 x1 x2 x3 (((((((x7.getD (((x1.getD x3.toNat (0,0,0,ByteArray.empty,ByteArray.empty,0)).1).toNat) (0,ByteArray.empty,ByteArray.empty,0,0,0,0,0,ByteArray.empty)).2).2).2).2).1) != (-1:Int)) x4 x5 x6 x7 (x1.getD x3.toNat (0,0,0,ByteArray.empty,ByteArray.empty,0)))) else none) else none))) else none) else none) else (some (x4,x5,x6,x7)))
def UR (x1:List Z) (x2:List AI) (x3:Int) (b0:AA):Option AA:=(if b0.2.2.1.length+x1.length<=68719476736 then (Ca x3 x2 (x2.length:Int) 0 b0.1 b0.2.1 (b0.2.2.1++x1) b0.2.2.2) else none)
theorem dE:uX PT PS:=jS (by kernel_rfl)
theorem PU:za JL Ca:=lS (by kernel_rfl)
theorem kD:bZ UR Gc:=cT CS rfl ⟨rfl,rfl⟩ (by kernel_rfl)
def Ds (x0:List AB) (x1:AB):Option Bool:=((CZ x0 x1).bind fun y1=>(some (decide (y1>=0))))
theorem IL:Ni Ds CI:=cT BV rfl ⟨rfl,rfl⟩ (by kernel_rfl)
def dF (x0 x1:AB):Option Bool:=(if (x0.1==1)=true then (if (x0.2.1.toList==x1.2.1.toList)=true then (if (x0.2.2.1.toList==x1.2.2.2.2.2.2.2.2.toList)=true then ((EJ x0).bind fun y1=>(if (!y1)=false then (some (x0.2.2.2.2.2.1==x1.2.2.2.2.2.1)) else (some true))) else (some false)) else (some false)) else (some false))
theorem tM:Ni dF SK:=cT Ml rfl ⟨rfl,rfl⟩ (by kernel_rfl)
def U0:=cG KY (AF Bi) (AF Bi) kx
def U1:=kE 0 [] [] 0 U0 kx
def TE:St->Option (RT (A_.outs Bi)):=lG KX [] [0,1,7,8] 0 (AF Bi) U1
def Co (x0:List Int) (x1 x2 x3:Int):Option Int:=TE ⟨[(0,.lst (.int .i64) x0),(1,.int .i64 x1),(7,.int .i64 x2),(8,.int .i64 x3)],[]⟩
def Be (x0:List Int) (x1 x2 x3:Int):Option Int:=(if (decide (x3<x2))=true then (if 0<=x3 then (if x3<(x0.length:Int) then (if (x1==(x0.getD x3.toNat 0))=true then (some x3) else (Co x0 x1 x2 (i64.wrap (x3+1)))) else none) else none) else (some (-1:Int)))
def Xq (x0:List Int) (x1:Int):Option Int:=(Co x0 x1 (x0.length:Int) 0)
theorem B9:bZ Be Co:=lS (by kernel_rfl)
theorem NO:Ni Xq Da:=cT Bi rfl ⟨rfl,rfl⟩ (by kernel_rfl)
def US (x1:List Int) (b0:AS):Option (Int×AS):=((Cc (x1.length:Int) b0).bind fun y1=>(if 0<=y1.1 then (if y1.1<(x1.length:Int) then (some ((x1.getD y1.1.toNat 0),y1.2)) else none) else none))
theorem kF:Ni US Iv:=cT Is rfl ⟨rfl,rfl⟩ (by kernel_rfl)
def dG (x1:Int) (b0:AS):Option (Bool×AS):=((Cc x1 b0).bind fun y1=>(some ((y1.1==0),y1.2)))
theorem tN:Ni dG Db:=cT Mm rfl ⟨rfl,rfl⟩ (by kernel_rfl)
def dH (x1:List ByteArray) (b0:AS):Option (ByteArray×AS):=((Cc (x1.length:Int) b0).bind fun y1=>(if 0<=y1.1 then (if y1.1<(x1.length:Int) then (some ((x1.getD y1.1.toNat ByteArray.empty),y1.2)) else none) else none))
theorem tO:Ni dH Mz:=cT Mn rfl ⟨rfl,rfl⟩ (by kernel_rfl)
def Kz (x0:List Int) (x1 x2 x3:O) (x4:Y) (x5:List Int) (x6:Z):Option (O×List Z×List AI×Bool):=cG b8 (AF EH) (AF EH) kx ⟨[(12,.ptr 1 0),(16,.ptr 2 0),(18,.lst (.int .i64) x0),(20,.ptr 5 0)],[.var (U.enc x1),.var (U.enc x2),.var (U.enc x3),.var (AD.enc x4),.frz (.int .i64) x5,.var (AH.enc x6)]⟩
def IM (x0:List (List Int)) (x1 x2:Int) (x3:Bool) (x4 x5 x6:O) (x7:Y):Option (O×List Z×List AI×Bool):=cG Yl (AF EH) (AF EH) kx ⟨[(1,.lst (.slice (.int .i64)) x0),(2,.int .i64 x1),(3,.int .i64 x2),(6,.ptr 0 0),(12,.ptr 1 0),(16,.ptr 2 0),(17,.ptr 3 0),(69,.bool x3)],[.var (U.enc x4),.var (U.enc x5),.var (U.enc x6),.var (AD.enc x7)]⟩
def Z2 (x0:List (List Int)) (x1 x2:Int) (x3 x4:ByteArray) (x5:Bool) (x6 x7:O):Option (O×List Z×List AI×Bool):=cG Ym (AF EH) (AF EH) kx ⟨[(1,.lst (.slice (.int .i64)) x0),(2,.int .i64 x1),(3,.int .i64 x2),(4,.str x3),(5,.str x4),(6,.ptr 0 0),(12,.ptr 1 0),(37,.bool x5)],[.var (U.enc x6),.var (U.enc x7)]⟩
def Z3 (x0:List Int) (x1 x2 x3:O) (x4:Y) (x5:List Int) (x6:Z):Option (O×List Z×List AI×Bool):=(if ((x0.length:Int)==0)=true then ((Hv x3).bind fun y9=>(some (y9.2,[],y9.1,true))) else (xz ((Am x0 x6 x3).bind fun y10=>(some (x3,y10.1,[],true))) ((Am x0 x6 x3).bind fun y11=>(some (y11.2,y11.1,[],true)))))
def Z4 (x0:List (List Int)) (x1 x2:Int) (x3:Bool) (x4 x5 x6:O) (x7:Y):Option (O×List Z×List AI×Bool):=(if 0<=(i64.wrap (x4.2.1-1)) then (if (i64.wrap (x4.2.1-1))<(x0.length:Int) then ((B6 (x0.getD (i64.wrap (x4.2.1-1)).toNat ([]:List Int)) x6).bind fun y6=>((Bk y6.1).bind fun y7=>((Cx y7).bind fun y8=>(if (x1==1)=true then (Kz y6.1 x4 x5 (y6.2.1,y6.2.2.1,y6.2.2.2.1,y6.2.2.2.2.1,y6.2.2.2.2.2.1,y6.2.2.2.2.2.2.1,y6.2.2.2.2.2.2.2.1,y6.2.2.2.2.2.2.2.2.1,y6.2.2.2.2.2.2.2.2.2.1,x1,x2,y6.2.2.2.2.2.2.2.2.2.1,x7,y8) x7 y8 (5,0,0,0,y6.2.2.2.2.2.2.2.2.2.1,([x7]:List Y))) else (Kz y6.1 x4 x5 (y6.2.1,y6.2.2.1,y6.2.2.2.1,y6.2.2.2.2.1,y6.2.2.2.2.2.1,y6.2.2.2.2.2.2.1,y6.2.2.2.2.2.2.2.1,y6.2.2.2.2.2.2.2.2.1,y6.2.2.2.2.2.2.2.2.2.1,x1,x2,y6.2.2.2.2.2.2.2.2.2.1,x7,y8) x7 y8 (7,0,0,0,y6.2.2.2.2.2.2.2.2.2.1,([]:List Y))))))) else none) else none)
def Z5 (x0:List (List Int)) (x1 x2:Int) (x3 x4:ByteArray) (x5:Bool) (x6 x7:O):Option (O×List Z×List AI×Bool):=((Cv x6).bind fun y4=>(if (x1==1)=true then (if ((x6.2.2.2.2.2.2.2.1.length:Int)==12)=true then ((Ox x6.2.2.2.2.2.2.2.1 x3).bind fun y5=>(if (false != Ph AD y5 (ByteArray.empty,ByteArray.empty,0))=true then (some ((0,0,false,false,false,false,([]:List Int),([]:List Y),0,0,0,0,(ByteArray.empty,ByteArray.empty,0),([]:List Int)),[],[],false)) else (IM x0 x1 x2 (false != Ph AD y5 (ByteArray.empty,ByteArray.empty,0)) x6 x7 (y4.1,y4.2.1,y4.2.2.1,y4.2.2.2.1,y4.2.2.2.2.1,y4.2.2.2.2.2.1,y4.2.2.2.2.2.2.1,y4.2.2.2.2.2.2.2.1,(i64.wrap (y4.2.2.2.2.2.2.2.2.1+1)),y4.2.2.2.2.2.2.2.2.2) (x3,x4,(i64.wrap ((i64.wrap (1000*x6.2.1))+(i64.wrap (y4.2.2.2.2.2.2.2.2.1+1)))))))) else (IM x0 x1 x2 false x6 x7 (y4.1,y4.2.1,y4.2.2.1,y4.2.2.2.1,y4.2.2.2.2.1,y4.2.2.2.2.2.1,y4.2.2.2.2.2.2.1,y4.2.2.2.2.2.2.2.1,(i64.wrap (y4.2.2.2.2.2.2.2.2.1+1)),y4.2.2.2.2.2.2.2.2.2) (x3,x4,(i64.wrap ((i64.wrap (1000*x6.2.1))+(i64.wrap (y4.2.2.2.2.2.2.2.2.1+1))))))) else (IM x0 x1 x2 false x6 x7 (y4.1,y4.2.1,y4.2.2.1,y4.2.2.2.1,y4.2.2.2.2.1,y4.2.2.2.2.2.1,y4.2.2.2.2.2.2.1,y4.2.2.2.2.2.2.2.1,(i64.wrap (y4.2.2.2.2.2.2.2.2.1+1)),y4.2.2.2.2.2.2.2.2.2) (x3,x4,(i64.wrap ((i64.wrap (1000*x6.2.1))+(i64.wrap (y4.2.2.2.2.2.2.2.2.1+1))))))))
def kG (x0:O) (x1:List (List Int)) (x2 x3:Int) (x4 x5:ByteArray):Option (O×List Z×List AI×Bool):=((GJ x0).bind fun y1=>(if (!y1)=false then ((Hu x1 x0).bind fun y2=>(if (!y2.1)=false then ((Mx x2 x3 x4 x5).bind fun y3=>(if (!y3)=true then (some ((0,0,false,false,false,false,([]:List Int),([]:List Y),0,0,0,0,(ByteArray.empty,ByteArray.empty,0),([]:List Int)),[],[],false)) else (Z2 x1 x2 x3 x4 x5 (!y3) y2.2 (0,0,false,false,false,false,([]:List Int),([]:List Y),0,0,0,0,(ByteArray.empty,ByteArray.empty,0),([]:List Int))))) else (some ((0,0,false,false,false,false,([]:List Int),([]:List Y),0,0,0,0,(ByteArray.empty,ByteArray.empty,0),([]:List Int)),[],[],false)))) else (some ((0,0,false,false,false,false,([]:List Int),([]:List Y),0,0,0,0,(ByteArray.empty,ByteArray.empty,0),([]:List Int)),[],[],false))))
theorem pf:Le7 Z3 Kz:=jS (by kernel_rfl)
theorem ph:za Z4 IM:=jS (by kernel_rfl)
theorem pj:za Z5 Z2:=jS (by kernel_rfl)
theorem xb:zZ kG Re:=cT EH rfl ⟨rfl,rfl⟩ (by kernel_rfl)
def K3 (x0:List (List Int)) (x1:Int) (x2:Bool) (x3 x4 x5:O):Option (O×List Z×Bool):=cG Yr (AF Gb) (AF Gb) kx ⟨[(1,.lst (.slice (.int .i64)) x0),(2,.int .i64 x1),(6,.ptr 1 0),(9,.ptr 2 0),(10,.bool x2)],[.var (U.enc x3),.var (U.enc x4),.var (U.enc x5)]⟩
def Z6 (x0:List (List Int)) (x1:Int) (x2:Bool) (x3 x4:O):Option (O×List Z×Bool):=cG Ys (AF Gb) (AF Gb) kx ⟨[(1,.lst (.slice (.int .i64)) x0),(2,.int .i64 x1),(3,.ptr 0 0),(6,.ptr 1 0),(44,.bool x2)],[.var (U.enc x3),.var (U.enc x4)]⟩
def Z7 (x0:List (List Int)) (x1:Int) (x2:Bool) (x3 x4 x5:O):Option (O×List Z×Bool):=((Gd x5).bind fun y5=>(if x2=true then (if 0<=(i64.wrap (x1-1)) then (if (i64.wrap (x1-1))<(x0.length:Int) then ((Dc (x0.getD (i64.wrap (x1-1)).toNat ([]:List Int)) y5.2.2.2.2.2.2.2.1 (y5.1,x1,false,false,true,y5.2.2.2.2.2)).bind fun y6=>(some (y6.2,y6.1,true))) else none) else none) else (if 0<=(i64.wrap (x1-2)) then (if (i64.wrap (x1-2))<(x0.length:Int) then (xz ((B6 (x0.getD (i64.wrap (x1-2)).toNat ([]:List Int)) (y5.1,x1,false,false,true,y5.2.2.2.2.2)).bind fun y7=>((Am y7.1 (1,0,0,0,0,([]:List Y)) y7.2).bind fun y8=>(some ((y5.1,x1,false,false,true,y5.2.2.2.2.2),y8.1,true)))) ((B6 (x0.getD (i64.wrap (x1-2)).toNat ([]:List Int)) (y5.1,x1,false,false,true,y5.2.2.2.2.2)).bind fun y9=>(xz ((Am y9.1 (1,0,0,0,0,([]:List Y)) y9.2).bind fun y10=>(some (y9.2,y10.1,true))) ((Am y9.1 (1,0,0,0,0,([]:List Y)) y9.2).bind fun y11=>(some (y11.2,y11.1,true)))))) else none) else none)))
def Z8 (x0:List (List Int)) (x1:Int) (x2:Bool) (x3 x4:O):Option (O×List Z×Bool):=((Cv x3).bind fun y4=>(if x3.2.2.2.1=true then (K3 x0 x1 (x3.2.1==(i64.wrap (x1-1))) x3 x4 y4) else (K3 x0 x1 false x3 x4 y4)))
def kH (x0:O) (x1:List (List Int)) (x2:Int):Option (O×List Z×Bool):=((GJ x0).bind fun y1=>(if (!y1)=true then (some ((0,0,false,false,false,false,([]:List Int),([]:List Y),0,0,0,0,(ByteArray.empty,ByteArray.empty,0),([]:List Int)),[],false)) else ((DY x1).bind fun y2=>(if (!y2)=true then (some ((0,0,false,false,false,false,([]:List Int),([]:List Y),0,0,0,0,(ByteArray.empty,ByteArray.empty,0),([]:List Int)),[],false)) else ((Af x2 2 (x1.length:Int)).bind fun y3=>(if (!y3)=true then (some ((0,0,false,false,false,false,([]:List Int),([]:List Y),0,0,0,0,(ByteArray.empty,ByteArray.empty,0),([]:List Int)),[],false)) else (if (decide (x2<=x0.2.1))=true then (some ((0,0,false,false,false,false,([]:List Int),([]:List Y),0,0,0,0,(ByteArray.empty,ByteArray.empty,0),([]:List Int)),[],false)) else (if 0<=(i64.wrap (x2-1)) then (if (i64.wrap (x2-1))<(x1.length:Int) then (if 0<=(0:Int) then (if 0<((x1.getD (i64.wrap (x2-1)).toNat ([]:List Int)).length:Int) then (if (((x1.getD (i64.wrap (x2-1)).toNat ([]:List Int)).getD (0:Int).toNat 0) != x0.1)=true then (some ((0,0,false,false,false,false,([]:List Int),([]:List Y),0,0,0,0,(ByteArray.empty,ByteArray.empty,0),([]:List Int)),[],false)) else (Z6 x1 x2 (((x1.getD (i64.wrap (x2-1)).toNat ([]:List Int)).getD (0:Int).toNat 0) != x0.1) x0 (0,0,false,false,false,false,([]:List Int),([]:List Y),0,0,0,0,(ByteArray.empty,ByteArray.empty,0),([]:List Int)))) else none) else none) else none) else none))))))))
theorem pl:zZ Z7 K3:=jS (by kernel_rfl)
theorem pn:zG Z8 Z6:=jS (by kernel_rfl)
theorem xc:RO kH Rf:=cT Gb rfl ⟨rfl,rfl⟩ (by kernel_rfl)
def HT:=cG DG (AF Aa) (AF Aa) kx
def HU:=kE 0 [] [] 0 HT kx
def G2:St->Option (RT (A_.outs Aa)):=lG DF [] [0,1,7,8] 0 (AF Aa) HU
def BK (x0:List O) (x1 x2 x3:Int):Option Int:=G2 ⟨[(0,.lst U x0),(1,.clo 103 (.int .i64) x1),(7,.int .i64 x2),(8,.int .i64 x3)],[]⟩
def Bo (x0:List O) (x1 x2 x3:Int):Option Int:=(if (decide (x3<x2))=true then (if 0<=x3 then (if x3<(x0.length:Int) then ((Ic (x0.getD x3.toNat (0,0,false,false,false,false,([]:List Int),([]:List Y),0,0,0,0,(ByteArray.empty,ByteArray.empty,0),([]:List Int))) x1).bind fun y1=>(if y1=true then (some x3) else (BK x0 x1 x2 (i64.wrap (x3+1))))) else none) else none) else (some (-1:Int)))
def Dg (x0:List O) (x1:Int):Option Int:=(BK x0 x1 (x0.length:Int) 0)
theorem C8:bZ Bo BK:=lS (by kernel_rfl)
theorem H9:Ni Dg CC:=cT Aa rfl ⟨rfl,rfl⟩ (by kernel_rfl)
def Ny (x0:O) (x1:Int):Option Bool:=(some (x0.1==x1))
theorem ak:Ni Ny Ic:=cT F7 rfl ⟨rfl,rfl⟩ (by kernel_rfl)
def mz:=cG Vk (AF EU) (AF EU) kx
def m3:=kE 0 [] [] 0 mz kx
def kI:St->Option (RT (A_.outs EU)):=lG Vj [] [0,3] 0 (AF EU) m3
def I4 (x0:List Int) (x1:Int):Option Bool:=kI ⟨[(0,.lst (.int .i64) x0),(3,.int .i64 x1)],[]⟩
def NP (x0:List Int) (x1:Int):Option Bool:=(if (decide (x1<(x0.length:Int)))=true then (if 0<=x1 then (if x1<(x0.length:Int) then ((AU (x0.getD x1.toNat 0) 1 6).bind fun y2=>(if (!y2)=true then (some false) else (if 0<=(0:Int) then (if 0<=x1 then (if x1<=(x0.length:Int) then (if 0<=x1 then (if x1<(x0.length:Int) then ((DX ((x0.take x1.toNat).drop (0:Int).toNat) (x0.getD x1.toNat 0)).bind fun y3=>(if y3=true then (some false) else (I4 x0 (i64.wrap (x1+1))))) else none) else none) else none) else none) else none))) else none) else none) else (some true))
def dI (x0:List Int):Option Bool:=((AU (x0.length:Int) 1 4).bind fun y1=>(if (!y1)=true then (some false) else (I4 x0 0)))
theorem UT:Ni NP I4:=lS (by kernel_rfl)
theorem tP:MJ dI SL:=cT EU rfl ⟨rfl,rfl⟩ (by kernel_rfl)
def dJ:=cG Vm (AF Br) (AF Br) kx
def tQ:=kE 0 [(16,2)] [12,16,17,18] 6 dJ kx
def po:St->Option (RT (A_.outs Br)):=lG OG [(16,2)] [2,6,12,16,17,18,19,20,21] 6 (AF Br) tQ
def tR:=kE 0 [(16,2)] [12,16,17,18] 5 dJ kx
def pp:St->Option (RT (A_.outs Br)):=lG OG [(16,2)] [2,6,12,16,17,18,19,20,21] 5 (AF Br) tR
def Et (x0:Int) (x1:List AI) (x2:List Int) (x3:Int) (x4 x5:O) (x6:List Z) (x7:O) (x8:Y) (x9:List Y):Option (O×List Z×List AI×Bool):=po ⟨[(2,.int .i64 x0),(6,.ptr 0 0),(12,.ptr 1 0),(16,.row 2),(17,.lst Ay x1),(18,.ptr 3 0),(19,.ptr 4 0),(20,.lst (.int .i64) x2),(21,.int .i64 x3)],[.var (U.enc x4),.var (U.enc x5),.rows 97 AH x6,.var (U.enc x7),.var (AD.enc x8),.rows 38 AD x9]⟩
def QK (x0:List (List Int)) (x1 x2:Int) (x3:List AI) (x4:Bool) (x5 x6:O) (x7:List Z) (x8:O) (x9:Y) (x10:List Y):Option (O×List Z×List AI×Bool):=cG OH (AF Br) (AF Br) kx ⟨[(1,.lst (.slice (.int .i64)) x0),(2,.int .i64 x1),(3,.int .i64 x2),(6,.ptr 0 0),(12,.ptr 1 0),(16,.row 2),(17,.lst Ay x3),(18,.ptr 3 0),(19,.ptr 4 0),(130,.bool x4)],[.var (U.enc x5),.var (U.enc x6),.rows 97 AH x7,.var (U.enc x8),.var (AD.enc x9),.rows 38 AD x10]⟩
def Eu (x0:Int) (x1:List AI) (x2:List Int) (x3:Int) (x4 x5:O) (x6:List Z) (x7:O) (x8:Y):Option (O×List Z×List AI×Bool):=pp ⟨[(2,.int .i64 x0),(6,.ptr 0 0),(12,.ptr 1 0),(16,.row 2),(17,.lst Ay x1),(18,.ptr 3 0),(19,.ptr 4 0),(20,.lst (.int .i64) x2),(21,.int .i64 x3)],[.var (U.enc x4),.var (U.enc x5),.rows 97 AH x6,.var (U.enc x7),.var (AD.enc x8)]⟩
def QL (x0:List (List Int)) (x1 x2:Int) (x3:List AI) (x4:Bool) (x5 x6:O) (x7:List Z) (x8:O) (x9:Y):Option (O×List Z×List AI×Bool):=cG OH (AF Br) (AF Br) kx ⟨[(1,.lst (.slice (.int .i64)) x0),(2,.int .i64 x1),(3,.int .i64 x2),(6,.ptr 0 0),(12,.ptr 1 0),(16,.row 2),(17,.lst Ay x3),(18,.ptr 3 0),(19,.ptr 4 0),(130,.bool x4)],[.var (U.enc x5),.var (U.enc x6),.rows 97 AH x7,.var (U.enc x8),.var (AD.enc x9)]⟩
def C6 (x0:List (List Int)) (x1 x2:Int) (x3 x4:ByteArray) (x5:List AI) (x6:Bool) (x7 x8:O) (x9:List Z):Option (O×List Z×List AI×Bool):=cG Vn (AF Br) (AF Br) kx ⟨[(1,.lst (.slice (.int .i64)) x0),(2,.int .i64 x1),(3,.int .i64 x2),(4,.str x3),(5,.str x4),(6,.ptr 0 0),(12,.ptr 1 0),(16,.row 2),(17,.lst Ay x5),(100,.bool x6)],[.var (U.enc x7),.var (U.enc x8),.rows 97 AH x9]⟩
def QM (x0:Int) (x1:List AI) (x2:List Int) (x3:Int) (x4 x5:O) (x6:List Z) (x7:O) (x8:Y) (x9:List Y):Option (O×List Z×List AI×Bool):=(if (decide (x3<(x2.length:Int)))=true then (if 0<=x3 then (if x3<(x2.length:Int) then (if ((x2.getD x3.toNat 0)==x4.1)=true then (Et x0 x1 x2 (i64.wrap (x3+1)) x4 x5 x6 x7 x8 x9) else (if 0<=x3 then (if x3<(x2.length:Int) then (if (x0==1)=true then (if x6.length+([(5,x4.1,(x2.getD x3.toNat 0),x4.2.1,x7.2.2.2.2.2.2.2.2.1,([x8]:List Y))]:List Z).length<=68719476736 then (Et x0 x1 x2 (i64.wrap (x3+1)) x4 x5 (x6++([(5,x4.1,(x2.getD x3.toNat 0),x4.2.1,x7.2.2.2.2.2.2.2.2.1,([x8]:List Y))]:List Z)) x7 x8 x9) else none) else (if x6.length+([(7,x4.1,(x2.getD x3.toNat 0),x4.2.1,x7.2.2.2.2.2.2.2.2.1,([]:List Y))]:List Z).length<=68719476736 then (Et x0 x1 x2 (i64.wrap (x3+1)) x4 x5 (x6++([(7,x4.1,(x2.getD x3.toNat 0),x4.2.1,x7.2.2.2.2.2.2.2.2.1,([]:List Y))]:List Z)) x7 x8 x9) else none)) else none) else none)) else none) else none) else (some (x7,x6,x1,true)))
def Z9 (x0:List (List Int)) (x1 x2:Int) (x3:List AI) (x4:Bool) (x5 x6:O) (x7:List Z) (x8:O) (x9:Y) (x10:List Y):Option (O×List Z×List AI×Bool):=(if 0<=(i64.wrap (x5.2.1-1)) then (if (i64.wrap (x5.2.1-1))<(x0.length:Int) then ((HO (x0.getD (i64.wrap (x5.2.1-1)).toNat ([]:List Int)) x5.1).bind fun y8=>(if ((y8.length:Int)==0)=true then ((HQ (x8.1,x8.2.1,x8.2.2.1,x8.2.2.2.1,x8.2.2.2.2.1,x8.2.2.2.2.2.1,x8.2.2.2.2.2.2.1,x8.2.2.2.2.2.2.2.1,x8.2.2.2.2.2.2.2.2.1,x1,x2,x8.2.2.2.2.2.2.2.2.1,x9,y8)).bind fun y9=>(some (y9.2,x7,y9.1,true))) else (Et x1 x3 (x0.getD (i64.wrap (x5.2.1-1)).toNat ([]:List Int)) 0 x5 x6 x7 (x8.1,x8.2.1,x8.2.2.1,x8.2.2.2.1,x8.2.2.2.2.1,x8.2.2.2.2.2.1,x8.2.2.2.2.2.2.1,x8.2.2.2.2.2.2.2.1,x8.2.2.2.2.2.2.2.2.1,x1,x2,x8.2.2.2.2.2.2.2.2.1,x9,y8) x9 x10))) else none) else none)
def QN (x0:Int) (x1:List AI) (x2:List Int) (x3:Int) (x4 x5:O) (x6:List Z) (x7:O) (x8:Y):Option (O×List Z×List AI×Bool):=(if (decide (x3<(x2.length:Int)))=true then (if 0<=x3 then (if x3<(x2.length:Int) then (if ((x2.getD x3.toNat 0)==x4.1)=true then (Eu x0 x1 x2 (i64.wrap (x3+1)) x4 x5 x6 x7 x8) else (if 0<=x3 then (if x3<(x2.length:Int) then (if (x0==1)=true then (if x6.length+([(5,x4.1,(x2.getD x3.toNat 0),x4.2.1,x7.2.2.2.2.2.2.2.2.1,([x8]:List Y))]:List Z).length<=68719476736 then (Eu x0 x1 x2 (i64.wrap (x3+1)) x4 x5 (x6++([(5,x4.1,(x2.getD x3.toNat 0),x4.2.1,x7.2.2.2.2.2.2.2.2.1,([x8]:List Y))]:List Z)) x7 x8) else none) else (if x6.length+([(7,x4.1,(x2.getD x3.toNat 0),x4.2.1,x7.2.2.2.2.2.2.2.2.1,([]:List Y))]:List Z).length<=68719476736 then (Eu x0 x1 x2 (i64.wrap (x3+1)) x4 x5 (x6++([(7,x4.1,(x2.getD x3.toNat 0),x4.2.1,x7.2.2.2.2.2.2.2.2.1,([]:List Y))]:List Z)) x7 x8) else none)) else none) else none)) else none) else none) else (some (x7,x6,x1,true)))
def Z_ (x0:List (List Int)) (x1 x2:Int) (x3:List AI) (x4:Bool) (x5 x6:O) (x7:List Z) (x8:O) (x9:Y):Option (O×List Z×List AI×Bool):=(if 0<=(i64.wrap (x5.2.1-1)) then (if (i64.wrap (x5.2.1-1))<(x0.length:Int) then ((HO (x0.getD (i64.wrap (x5.2.1-1)).toNat ([]:List Int)) x5.1).bind fun y10=>(if ((y10.length:Int)==0)=true then ((HQ (x8.1,x8.2.1,x8.2.2.1,x8.2.2.2.1,x8.2.2.2.2.1,x8.2.2.2.2.2.1,x8.2.2.2.2.2.2.1,x8.2.2.2.2.2.2.2.1,x8.2.2.2.2.2.2.2.2.1,x1,x2,x8.2.2.2.2.2.2.2.2.1,x9,y10)).bind fun y11=>(some (y11.2,x7,y11.1,true))) else (Eu x1 x3 (x0.getD (i64.wrap (x5.2.1-1)).toNat ([]:List Int)) 0 x5 x6 x7 (x8.1,x8.2.1,x8.2.2.1,x8.2.2.2.1,x8.2.2.2.2.1,x8.2.2.2.2.2.1,x8.2.2.2.2.2.2.1,x8.2.2.2.2.2.2.2.1,x8.2.2.2.2.2.2.2.2.1,x1,x2,x8.2.2.2.2.2.2.2.2.1,x9,y10) x9))) else none) else none)
def aA (x0:List (List Int)) (x1 x2:Int) (x3 x4:ByteArray) (x5:List AI) (x6:Bool) (x7 x8:O) (x9:List Z):Option (O×List Z×List AI×Bool):=((DZ x7).bind fun y5=>(if (x1==1)=true then ((JK x7.2.2.2.2.2.2.2.1 (x3,x4,(i64.wrap ((i64.wrap (1000*x7.2.1))+(i64.wrap (x7.2.2.2.2.2.2.2.2.1+1)))))).bind fun y6=>((Oy y6 x3).bind fun y7=>(if (true != Ph AD y7 (x3,x4,(i64.wrap ((i64.wrap (1000*x7.2.1))+(i64.wrap (x7.2.2.2.2.2.2.2.2.1+1))))))=true then (some ((0,0,false,false,false,false,([]:List Int),([]:List Y),0,0,0,0,(ByteArray.empty,ByteArray.empty,0),([]:List Int)),x9,x5,false)) else (QK x0 x1 x2 x5 (true != Ph AD y7 (x3,x4,(i64.wrap ((i64.wrap (1000*x7.2.1))+(i64.wrap (x7.2.2.2.2.2.2.2.2.1+1)))))) x7 x8 x9 (y5.1,y5.2.1,y5.2.2.1,y5.2.2.2.1,y5.2.2.2.2.1,y5.2.2.2.2.2.1,y5.2.2.2.2.2.2.1,y5.2.2.2.2.2.2.2.1,(i64.wrap (x7.2.2.2.2.2.2.2.2.1+1)),y5.2.2.2.2.2.2.2.2.2) (x3,x4,(i64.wrap ((i64.wrap (1000*x7.2.1))+(i64.wrap (x7.2.2.2.2.2.2.2.2.1+1))))) y6)))) else (QL x0 x1 x2 x5 false x7 x8 x9 (y5.1,y5.2.1,y5.2.2.1,y5.2.2.2.1,y5.2.2.2.2.1,y5.2.2.2.2.2.1,y5.2.2.2.2.2.2.1,y5.2.2.2.2.2.2.2.1,(i64.wrap (x7.2.2.2.2.2.2.2.2.1+1)),y5.2.2.2.2.2.2.2.2.2) (x3,x4,(i64.wrap ((i64.wrap (1000*x7.2.1))+(i64.wrap (x7.2.2.2.2.2.2.2.2.1+1))))))))
def kK (x0:O) (x1:List (List Int)) (x2 x3:Int) (x4 x5:ByteArray):Option (O×List Z×List AI×Bool):=((GK x0).bind fun y1=>(if (!y1)=true then (some ((0,0,false,false,false,false,([]:List Int),([]:List Y),0,0,0,0,(ByteArray.empty,ByteArray.empty,0),([]:List Int)),([]:List Z),([]:List AI),false)) else ((EY x1).bind fun y2=>(if (!y2)=true then (some ((0,0,false,false,false,false,([]:List Int),([]:List Y),0,0,0,0,(ByteArray.empty,ByteArray.empty,0),([]:List Int)),([]:List Z),([]:List AI),false)) else (if (!x0.2.2.2.2.2.1)=true then (some ((0,0,false,false,false,false,([]:List Int),([]:List Y),0,0,0,0,(ByteArray.empty,ByteArray.empty,0),([]:List Int)),([]:List Z),([]:List AI),false)) else (if (x0.2.2.2.2.2.2.2.2.2.1 != 0)=true then (some ((0,0,false,false,false,false,([]:List Int),([]:List Y),0,0,0,0,(ByteArray.empty,ByteArray.empty,0),([]:List Int)),([]:List Z),([]:List AI),false)) else (if (decide (x0.2.2.2.2.2.2.2.2.1>=900))=true then (some ((0,0,false,false,false,false,([]:List Int),([]:List Y),0,0,0,0,(ByteArray.empty,ByteArray.empty,0),([]:List Int)),([]:List Z),([]:List AI),false)) else (if (x2 != 1)=true then (if (x2 != 2)=true then (some ((0,0,false,false,false,false,([]:List Int),([]:List Y),0,0,0,0,(ByteArray.empty,ByteArray.empty,0),([]:List Int)),([]:List Z),([]:List AI),false)) else ((AU x3 0 1000).bind fun y3=>(if (!y3)=true then (some ((0,0,false,false,false,false,([]:List Int),([]:List Y),0,0,0,0,(ByteArray.empty,ByteArray.empty,0),([]:List Int)),([]:List Z),([]:List AI),false)) else ((AU (x4.size:Int) 1 12).bind fun y4=>(if (!y4)=true then (some ((0,0,false,false,false,false,([]:List Int),([]:List Y),0,0,0,0,(ByteArray.empty,ByteArray.empty,0),([]:List Int)),([]:List Z),([]:List AI),false)) else (if (decide ((x5.size:Int)>20))=true then (some ((0,0,false,false,false,false,([]:List Int),([]:List Y),0,0,0,0,(ByteArray.empty,ByteArray.empty,0),([]:List Int)),([]:List Z),([]:List AI),false)) else (if (x2==2)=true then (if (!(x5.toList==(⟨#[]⟩:ByteArray).toList))=true then (some ((0,0,false,false,false,false,([]:List Int),([]:List Y),0,0,0,0,(ByteArray.empty,ByteArray.empty,0),([]:List Int)),([]:List Z),([]:List AI),false)) else (if (decide (x0.2.1>(x1.length:Int)))=true then (some ((0,0,false,false,false,false,([]:List Int),([]:List Y),0,0,0,0,(ByteArray.empty,ByteArray.empty,0),([]:List Int)),([]:List Z),([]:List AI),false)) else (if 0<=(i64.wrap (x0.2.1-1)) then (if (i64.wrap (x0.2.1-1))<(x1.length:Int) then (if 0<=(0:Int) then (if 0<((x1.getD (i64.wrap (x0.2.1-1)).toNat ([]:List Int)).length:Int) then (if (((x1.getD (i64.wrap (x0.2.1-1)).toNat ([]:List Int)).getD (0:Int).toNat 0) != x0.1)=true then (some ((0,0,false,false,false,false,([]:List Int),([]:List Y),0,0,0,0,(ByteArray.empty,ByteArray.empty,0),([]:List Int)),([]:List Z),([]:List AI),false)) else (C6 x1 x2 x3 x4 x5 ([]:List AI) (((x1.getD (i64.wrap (x0.2.1-1)).toNat ([]:List Int)).getD (0:Int).toNat 0) != x0.1) x0 (0,0,false,false,false,false,([]:List Int),([]:List Y),0,0,0,0,(ByteArray.empty,ByteArray.empty,0),([]:List Int)) ([]:List Z))) else none) else none) else none) else none))) else (if (decide (x0.2.1>(x1.length:Int)))=true then (some ((0,0,false,false,false,false,([]:List Int),([]:List Y),0,0,0,0,(ByteArray.empty,ByteArray.empty,0),([]:List Int)),([]:List Z),([]:List AI),false)) else (if 0<=(i64.wrap (x0.2.1-1)) then (if (i64.wrap (x0.2.1-1))<(x1.length:Int) then (if 0<=(0:Int) then (if 0<((x1.getD (i64.wrap (x0.2.1-1)).toNat ([]:List Int)).length:Int) then (if (((x1.getD (i64.wrap (x0.2.1-1)).toNat ([]:List Int)).getD (0:Int).toNat 0) != x0.1)=true then (some ((0,0,false,false,false,false,([]:List Int),([]:List Y),0,0,0,0,(ByteArray.empty,ByteArray.empty,0),([]:List Int)),([]:List Z),([]:List AI),false)) else (C6 x1 x2 x3 x4 x5 ([]:List AI) (((x1.getD (i64.wrap (x0.2.1-1)).toNat ([]:List Int)).getD (0:Int).toNat 0) != x0.1) x0 (0,0,false,false,false,false,([]:List Int),([]:List Y),0,0,0,0,(ByteArray.empty,ByteArray.empty,0),([]:List Int)) ([]:List Z))) else none) else none) else none) else none))))))))) else ((AU x3 0 1000).bind fun y12=>(if (!y12)=true then (some ((0,0,false,false,false,false,([]:List Int),([]:List Y),0,0,0,0,(ByteArray.empty,ByteArray.empty,0),([]:List Int)),([]:List Z),([]:List AI),false)) else ((AU (x4.size:Int) 1 12).bind fun y13=>(if (!y13)=true then (some ((0,0,false,false,false,false,([]:List Int),([]:List Y),0,0,0,0,(ByteArray.empty,ByteArray.empty,0),([]:List Int)),([]:List Z),([]:List AI),false)) else (if (decide ((x5.size:Int)>20))=true then (some ((0,0,false,false,false,false,([]:List Int),([]:List Y),0,0,0,0,(ByteArray.empty,ByteArray.empty,0),([]:List Int)),([]:List Z),([]:List AI),false)) else (if (x2==2)=true then (if (!(x5.toList==(⟨#[]⟩:ByteArray).toList))=true then (some ((0,0,false,false,false,false,([]:List Int),([]:List Y),0,0,0,0,(ByteArray.empty,ByteArray.empty,0),([]:List Int)),([]:List Z),([]:List AI),false)) else (if (decide (x0.2.1>(x1.length:Int)))=true then (some ((0,0,false,false,false,false,([]:List Int),([]:List Y),0,0,0,0,(ByteArray.empty,ByteArray.empty,0),([]:List Int)),([]:List Z),([]:List AI),false)) else (if 0<=(i64.wrap (x0.2.1-1)) then (if (i64.wrap (x0.2.1-1))<(x1.length:Int) then (if 0<=(0:Int) then (if 0<((x1.getD (i64.wrap (x0.2.1-1)).toNat ([]:List Int)).length:Int) then (if (((x1.getD (i64.wrap (x0.2.1-1)).toNat ([]:List Int)).getD (0:Int).toNat 0) != x0.1)=true then (some ((0,0,false,false,false,false,([]:List Int),([]:List Y),0,0,0,0,(ByteArray.empty,ByteArray.empty,0),([]:List Int)),([]:List Z),([]:List AI),false)) else (C6 x1 x2 x3 x4 x5 ([]:List AI) (((x1.getD (i64.wrap (x0.2.1-1)).toNat ([]:List Int)).getD (0:Int).toNat 0) != x0.1) x0 (0,0,false,false,false,false,([]:List Int),([]:List Y),0,0,0,0,(ByteArray.empty,ByteArray.empty,0),([]:List Int)) ([]:List Z))) else none) else none) else none) else none))) else (if (decide (x0.2.1>(x1.length:Int)))=true then (some ((0,0,false,false,false,false,([]:List Int),([]:List Y),0,0,0,0,(ByteArray.empty,ByteArray.empty,0),([]:List Int)),([]:List Z),([]:List AI),false)) else (if 0<=(i64.wrap (x0.2.1-1)) then (if (i64.wrap (x0.2.1-1))<(x1.length:Int) then (if 0<=(0:Int) then (if 0<((x1.getD (i64.wrap (x0.2.1-1)).toNat ([]:List Int)).length:Int) then (if (((x1.getD (i64.wrap (x0.2.1-1)).toNat ([]:List Int)).getD (0:Int).toNat 0) != x0.1)=true then (some ((0,0,false,false,false,false,([]:List Int),([]:List Y),0,0,0,0,(ByteArray.empty,ByteArray.empty,0),([]:List Int)),([]:List Z),([]:List AI),false)) else (C6 x1 x2 x3 x4 x5 ([]:List AI) (((x1.getD (i64.wrap (x0.2.1-1)).toNat ([]:List Int)).getD (0:Int).toNat 0) != x0.1) x0 (0,0,false,false,false,false,([]:List Int),([]:List Y),0,0,0,0,(ByteArray.empty,ByteArray.empty,0),([]:List Int)) ([]:List Z))) else none) else none) else none) else none))))))))))))))))
theorem aB:uX QM Et:=lS (by kernel_rfl)
theorem pq:AEE Z9 QK:=jS (by kernel_rfl)
theorem aC:Le9 QN Eu:=lS (by kernel_rfl)
theorem pr:uX Z_ QL:=jS (by kernel_rfl)
theorem pu:uX aA C6:=jS (by kernel_rfl)
theorem xd:zZ kK Xf:=cT Br rfl ⟨rfl,rfl⟩ (by kernel_rfl)
def tS:=cG Y7 (AF C3) (AF C3) kx
def tT:=kE 0 [(9,2)] [6,9,11] 5 tS kx
def pw:St->Option (RT (A_.outs C3)):=lG Y6 [(9,2)] [1,2,3,6,9,11,13] 5 (AF C3) tT
def GO (x0:List (List Int)) (x1 x2:Int) (x3 x4:O) (x5:List Z) (x6:List Y) (x7:O):Option (O×List Z×Bool):=pw ⟨[(1,.lst (.slice (.int .i64)) x0),(2,.int .i64 x1),(3,.ptr 0 0),(6,.ptr 1 0),(9,.row 2),(11,.ptr 4 0),(13,.int .i64 x2)],[.var (U.enc x3),.var (U.enc x4),.rows 97 AH x5,.frz AD x6,.var (U.enc x7)]⟩
def IN (x0:List (List Int)) (x1:Int) (x2:Bool) (x3 x4:O) (x5:List Z):Option (O×List Z×Bool):=cG Y8 (AF C3) (AF C3) kx ⟨[(1,.lst (.slice (.int .i64)) x0),(2,.int .i64 x1),(3,.ptr 0 0),(6,.ptr 1 0),(9,.row 2),(10,.bool x2)],[.var (U.enc x3),.var (U.enc x4),.rows 97 AH x5]⟩
def aD (x0:List (List Int)) (x1:Int) (x2:Bool) (x3 x4:O) (x5:List Z):Option (O×List Z×Bool):=cG Y9 (AF C3) (AF C3) kx ⟨[(1,.lst (.slice (.int .i64)) x0),(2,.int .i64 x1),(3,.ptr 0 0),(6,.ptr 1 0),(9,.row 2),(48,.bool x2)],[.var (U.enc x3),.var (U.enc x4),.rows 97 AH x5]⟩
def QO (x0:List (List Int)) (x1 x2:Int) (x3 x4:O) (x5:List Z) (x6:List Y) (x7:O):Option (O×List Z×Bool):=(if 0<=(i64.wrap (x1-2)) then (if (i64.wrap (x1-2))<(x0.length:Int) then (if (decide (x2<((x0.getD (i64.wrap (x1-2)).toNat ([]:List Int)).length:Int)))=true then (if 0<=(i64.wrap (x1-2)) then (if (i64.wrap (x1-2))<(x0.length:Int) then (if 0<=x2 then (if x2<((x0.getD (i64.wrap (x1-2)).toNat ([]:List Int)).length:Int) then (if (((x0.getD (i64.wrap (x1-2)).toNat ([]:List Int)).getD x2.toNat 0) != x3.1)=true then (if x5.length+([(1,x3.1,((x0.getD (i64.wrap (x1-2)).toNat ([]:List Int)).getD x2.toNat 0),x1,0,([]:List Y))]:List Z).length<=68719476736 then (GO x0 x1 (i64.wrap (x2+1)) x3 x4 (x5++([(1,x3.1,((x0.getD (i64.wrap (x1-2)).toNat ([]:List Int)).getD x2.toNat 0),x1,0,([]:List Y))]:List Z)) x6 x7) else none) else (GO x0 x1 (i64.wrap (x2+1)) x3 x4 x5 x6 x7)) else none) else none) else none) else none) else ((DZ x7).bind fun y7=>(some (y7,x5,true)))) else none) else none)
def aE (x0:List (List Int)) (x1:Int) (x2:Bool) (x3 x4:O) (x5:List Z):Option (O×List Z×Bool):=(if ([]:List Y).length+x3.2.2.2.2.2.2.2.1.length<=68719476736 then (if x2=true then (if 0<=(i64.wrap (x1-1)) then (if (i64.wrap (x1-1))<(x0.length:Int) then ((Oz (x0.getD (i64.wrap (x1-1)).toNat ([]:List Int)) x3.2.2.2.2.2.2.2.1 (x3.1,x1,false,false,true,false,([]:List Int),(([]:List Y)++x3.2.2.2.2.2.2.2.1),0,0,0,0,(ByteArray.empty,ByteArray.empty,0),([]:List Int))).bind fun y5=>((DZ y5.2).bind fun y6=>(some (y6,y5.1,true)))) else none) else none) else (GO x0 x1 0 x3 x4 x5 (([]:List Y)++x3.2.2.2.2.2.2.2.1) (x3.1,x1,false,false,true,false,([]:List Int),(([]:List Y)++x3.2.2.2.2.2.2.2.1),0,0,0,0,(ByteArray.empty,ByteArray.empty,0),([]:List Int)))) else none)
def aF (x0:List (List Int)) (x1:Int) (x2:Bool) (x3 x4:O) (x5:List Z):Option (O×List Z×Bool):=(if x3.2.2.2.1=true then (if (x3.2.1==(i64.wrap (x1-1)))=true then (if 0<=(i64.wrap (x1-2)) then (if (i64.wrap (x1-2))<(x0.length:Int) then ((DX (x0.getD (i64.wrap (x1-2)).toNat ([]:List Int)) x3.1).bind fun y4=>(IN x0 x1 y4 x3 x4 x5)) else none) else none) else (IN x0 x1 false x3 x4 x5)) else (IN x0 x1 false x3 x4 x5))
def kL (x0:O) (x1:List (List Int)) (x2:Int):Option (O×List Z×Bool):=((GK x0).bind fun y1=>(if (!y1)=true then (some ((0,0,false,false,false,false,([]:List Int),([]:List Y),0,0,0,0,(ByteArray.empty,ByteArray.empty,0),([]:List Int)),([]:List Z),false)) else ((EY x1).bind fun y2=>(if (!y2)=true then (some ((0,0,false,false,false,false,([]:List Int),([]:List Y),0,0,0,0,(ByteArray.empty,ByteArray.empty,0),([]:List Int)),([]:List Z),false)) else ((AU x2 2 (x1.length:Int)).bind fun y3=>(if (!y3)=true then (some ((0,0,false,false,false,false,([]:List Int),([]:List Y),0,0,0,0,(ByteArray.empty,ByteArray.empty,0),([]:List Int)),([]:List Z),false)) else (if (decide (x2<=x0.2.1))=true then (some ((0,0,false,false,false,false,([]:List Int),([]:List Y),0,0,0,0,(ByteArray.empty,ByteArray.empty,0),([]:List Int)),([]:List Z),false)) else (if 0<=(i64.wrap (x2-1)) then (if (i64.wrap (x2-1))<(x1.length:Int) then (if 0<=(0:Int) then (if 0<((x1.getD (i64.wrap (x2-1)).toNat ([]:List Int)).length:Int) then (if (((x1.getD (i64.wrap (x2-1)).toNat ([]:List Int)).getD (0:Int).toNat 0) != x0.1)=true then (some ((0,0,false,false,false,false,([]:List Int),([]:List Y),0,0,0,0,(ByteArray.empty,ByteArray.empty,0),([]:List Int)),([]:List Z),false)) else (aD x1 x2 (((x1.getD (i64.wrap (x2-1)).toNat ([]:List Int)).getD (0:Int).toNat 0) != x0.1) x0 (0,0,false,false,false,false,([]:List Int),([]:List Y),0,0,0,0,(ByteArray.empty,ByteArray.empty,0),([]:List Int)) ([]:List Z))) else none) else none) else none) else none))))))))
theorem aG:za QO GO:=lS (by kernel_rfl)
theorem py:zZ aE IN:=jS (by kernel_rfl)
theorem pz:zZ aF aD:=jS (by kernel_rfl)
theorem xe:RO kL Xg:=cT C3 rfl ⟨rfl,rfl⟩ (by kernel_rfl)

def m4:=cG T0 (AF Bj) (AF Bj) kx
def m5:=cG Mo (AF Bj) (AF Bj) kx
def Gl (x0:List Z) (x1:List AI) (x2:Bool) (x3:O) (x4:Z) (x5 x6:O):Option (O×List Z×List AI):=cG Tz m4 (AF Bj) kx ⟨[(3,.ptr 0 0),(5,.ptr 1 0),(6,.ptr 2 0),(9,.ptr 3 0),(10,.lst AH x0),(11,.lst Ay x1),(146,.bool x2)],[.var (U.enc x3),.var (AH.enc x4),.var (U.enc x5),.var (U.enc x6)]⟩
def NQ (x0:List (List Int)) (x1:List Z) (x2:List AI) (x3:Bool) (x4:O) (x5:Z) (x6 x7:O):Option (O×List Z×List AI):=cG Mo (AF Bj) (AF Bj) kx ⟨[(1,.lst (.slice (.int .i64)) x0),(3,.ptr 0 0),(5,.ptr 1 0),(6,.ptr 2 0),(9,.ptr 3 0),(10,.lst AH x1),(11,.lst Ay x2),(105,.bool x3)],[.var (U.enc x4),.var (AH.enc x5),.var (U.enc x6),.var (U.enc x7)]⟩
def Ek (x0:List (List Int)) (x1:List Z) (x2:List AI) (x3:Bool) (x4:O) (x5:Z) (x6 x7:O):Option (O×List Z×List AI):=cG Tx m5 (AF Bj) kx ⟨[(1,.lst (.slice (.int .i64)) x0),(3,.ptr 0 0),(5,.ptr 1 0),(6,.ptr 2 0),(9,.ptr 3 0),(10,.lst AH x1),(11,.lst Ay x2),(105,.bool x3)],[.var (U.enc x4),.var (AH.enc x5),.var (U.enc x6),.var (U.enc x7)]⟩
def UU (x0:List (List Int)) (x1:List Z) (x2:List AI) (x3:Bool) (x4:O) (x5:Z) (x6 x7:O):Option (O×List Z×List AI):=cG T1 (AF Bj) (AF Bj) kx ⟨[(1,.lst (.slice (.int .i64)) x0),(3,.ptr 0 0),(5,.ptr 1 0),(6,.ptr 2 0),(9,.ptr 3 0),(10,.lst AH x1),(11,.lst Ay x2),(59,.bool x3)],[.var (U.enc x4),.var (AH.enc x5),.var (U.enc x6),.var (U.enc x7)]⟩
def UV (x0:List Z) (x1:List AI) (x2:Bool) (x3:O) (x4:Z) (x5 x6:O):Option (O×List Z×List AI):=(if x2=true then (if ([]:List Y).length+x4.2.2.2.2.2.length<=68719476736 then ((Eo x3 x4 4).bind fun y9=>(some ((x3.1,x4.2.2.2.1,false,true,false,false,([]:List Int),(([]:List Y)++x4.2.2.2.2.2),0,0,0,0,(ByteArray.empty,ByteArray.empty,0),([]:List Int)),y9,x1))) else none) else (some (x6,x0,x1)))
def UW (x0:List (List Int)) (x1:List Z) (x2:List AI) (x3:Bool) (x4:O) (x5:Z) (x6 x7:O):Option (O×List Z×List AI):=(if 0<=(i64.wrap (x5.2.2.2.1-1)) then (if (i64.wrap (x5.2.2.2.1-1))<(x0.length:Int) then (if (x5.1==3)=true then ((DX (x0.getD (i64.wrap (x5.2.2.2.1-1)).toNat ([]:List Int)) x4.1).bind fun y8=>(if y8=true then (if 0<=(0:Int) then (if 0<((x0.getD (i64.wrap (x5.2.2.2.1-1)).toNat ([]:List Int)).length:Int) then (Gl x1 x2 (((x0.getD (i64.wrap (x5.2.2.2.1-1)).toNat ([]:List Int)).getD (0:Int).toNat 0) != x4.1) x4 x5 x6 x7) else none) else none) else (Gl x1 x2 false x4 x5 x6 x7))) else (Gl x1 x2 false x4 x5 x6 x7)) else none) else none)
def UX (x0:List (List Int)) (x1:List Z) (x2:List AI) (x3:Bool) (x4:O) (x5:Z) (x6 x7:O):Option (O×List Z×List AI):=(if x3=true then ((M0 x4 x5.2.2.2.1).bind fun y7=>(if ([]:List Y).length+x4.2.2.2.2.2.2.2.1.length<=68719476736 then (some (y7,([(2,x4.1,x5.2.1,x5.2.2.2.1,0,(([]:List Y)++x4.2.2.2.2.2.2.2.1))]:List Z),x2)) else none)) else (NQ x0 x1 x2 x3 x4 x5 x6 x7))
def UY (x0:List (List Int)) (x1:List Z) (x2:List AI) (x3:Bool) (x4:O) (x5:Z) (x6 x7:O):Option (O×List Z×List AI):=(if (x5.2.2.2.1==x4.2.1)=true then (if 0<=(i64.wrap (x4.2.1-1)) then (if (i64.wrap (x4.2.1-1))<(x0.length:Int) then ((Uy x4 (x0.getD (i64.wrap (x4.2.1-1)).toNat ([]:List Int)) x5).bind fun y5=>(some (y5.1,y5.2.1,y5.2.2))) else none) else none) else (if (x5.1==1)=true then (if (x5.2.2.2.1==(i64.wrap (x4.2.1+1)))=true then (if x4.2.2.2.1=true then (if 0<=(i64.wrap (x4.2.1-1)) then (if (i64.wrap (x4.2.1-1))<(x0.length:Int) then ((DX (x0.getD (i64.wrap (x4.2.1-1)).toNat ([]:List Int)) x4.1).bind fun y6=>(Ek x0 x1 x2 y6 x4 x5 x6 x7)) else none) else none) else (Ek x0 x1 x2 false x4 x5 x6 x7)) else (Ek x0 x1 x2 false x4 x5 x6 x7)) else (Ek x0 x1 x2 false x4 x5 x6 x7)))
def dL (x0:O) (x1:List (List Int)) (x2:Z):Option (O×List Z×List AI):=((DZ x0).bind fun y1=>((GK x0).bind fun y2=>(if (!y2)=false then ((EY x1).bind fun y3=>(if (!y3)=false then ((Xi x2).bind fun y4=>(if (!y4)=false then (if (x2.2.2.1 != x0.1)=false then (if (decide (x2.2.2.2.1<x0.2.1))=false then (if (decide (x2.2.2.2.1>(x1.length:Int)))=false then (if (decide (x0.2.1>(x1.length:Int)))=true then (some (y1,([]:List Z),([]:List AI))) else (UU x1 ([]:List Z) ([]:List AI) (decide (x0.2.1>(x1.length:Int))) x0 x2 (0,0,false,false,false,false,([]:List Int),([]:List Y),0,0,0,0,(ByteArray.empty,ByteArray.empty,0),([]:List Int)) y1)) else (some (y1,([]:List Z),([]:List AI)))) else (some (y1,([]:List Z),([]:List AI)))) else (some (y1,([]:List Z),([]:List AI)))) else (some (y1,([]:List Z),([]:List AI))))) else (some (y1,([]:List Z),([]:List AI))))) else (some (y1,([]:List Z),([]:List AI))))))
theorem kM:Le7 UV Gl:=jS (by kernel_rfl)
theorem kN:za UW NQ:=jS (by kernel_rfl)
theorem kO:za UX Ek:=jS (by kernel_rfl)
theorem kP:za UY UU:=jS (by kernel_rfl)
theorem tU:RO dL SM:=cT Bj rfl ⟨rfl,rfl⟩ (by kernel_rfl)
def dM:=cG cC (AF FJ) (AF FJ) kx
def tV:=kB [] [1] 1 dM
def tW:=kE 0 [] [1] 1 dM kx
def K4 (x0:Int) (x1:Bool) (x2:Z):Option Bool:=cG cB tV (AF FJ) tW ⟨[(1,.ptr 0 0),(38,.int .i64 x0),(39,.bool x1)],[.var (AH.enc x2)]⟩
def QP (x0:Bool) (x1:Z):Option Bool:=cG cD (AF FJ) (AF FJ) kx ⟨[(1,.ptr 0 0),(36,.bool x0)],[.var (AH.enc x1)]⟩
def aH (x0:Int) (x1:Bool) (x2:Z):Option Bool:=(if x1=true then (some true) else (if (x0==5)=true then (some ((x2.2.2.2.2.2.length:Int)==1)) else (some ((x2.2.2.2.2.2.length:Int)==0))))
def aI (x0:Bool) (x1:Z):Option Bool:=(if (x1.1==2)=true then (K4 x1.1 (x1.1==2) x1) else (K4 x1.1 (x1.1==3) x1))
def kQ (x0:Z):Option Bool:=((Af x0.1 1 8).bind fun y1=>(if (!y1)=false then ((EI x0.2.1).bind fun y2=>(if (!y2)=false then ((EI x0.2.2.1).bind fun y3=>(if (!y3)=false then ((Af x0.2.2.2.1 1 9).bind fun y4=>(if (!y4)=false then ((Af x0.2.2.2.2.1 0 1000000000).bind fun y5=>(if (!y5)=false then ((Fq x0.2.2.2.2.2).bind fun y6=>(if (!y6)=true then (some false) else (QP (!y6) x0))) else (some false))) else (some false))) else (some false))) else (some false))) else (some false)))
theorem p8:RO aH K4:=jS (by kernel_rfl)
theorem p9:Ni aI QP:=jS (by kernel_rfl)
theorem xf:MJ kQ Xh:=cT FJ rfl ⟨rfl,rfl⟩ (by kernel_rfl)
def PV:=cG Ns (AF CB) (AF CB) kx
def JM:=kB [] [] 2 PV
def JN:=kE 0 [] [] 2 PV kx
def D2 (x0:List (List Int)) (x1:Bool) (x2:O) (x3:Z):Option (List Z×List AI×O):=cG PH JM (AF CB) JN ⟨[(0,.ptr 0 0),(1,.lst (.slice (.int .i64)) x0),(5,.ptr 1 0),(37,.bool x1)],[.var (U.enc x2),.var (AH.enc x3)]⟩
def F_ (x0:Bool) (x1:O) (x2:Z):Option (List Z×List AI×O):=cG PI JM (AF CB) JN ⟨[(0,.ptr 0 0),(5,.ptr 1 0),(75,.bool x0)],[.var (U.enc x1),.var (AH.enc x2)]⟩
def GA (x0:Int) (x1:Bool) (x2:O) (x3:Z):Option (List Z×List AI×O):=cG Nr JM (AF CB) JN ⟨[(0,.ptr 0 0),(5,.ptr 1 0),(9,.int .i64 x0),(107,.bool x1)],[.var (U.enc x2),.var (AH.enc x3)]⟩
def Nz (x0:List (List Int)) (x1:Bool) (x2:O) (x3:Z):Option (List Z×List AI×O):=(if x1=true then (if 0<=(i64.wrap (x2.2.1-1)) then (if (i64.wrap (x2.2.1-1))<(x0.length:Int) then ((Dc (x0.getD (i64.wrap (x2.2.1-1)).toNat ([]:List Int)) x3.2.2.2.2.2 x2).bind fun y2=>(some (y2.1,[],y2.2))) else none) else none) else (some ([],[],x2)))
def N0 (x0:Bool) (x1:O) (x2:Z):Option (List Z×List AI×O):=(if x0=true then ((M1 x1.2.2.2.2.2.2.1 x2.2.1).bind fun y4=>(if x1.2.2.2.2.2.1=false then (if ((y4.length:Int)==0)=true then (some ([],[],(x1.1,x1.2.1,x1.2.2.1,x1.2.2.2.1,x1.2.2.2.2.1,x1.2.2.2.1,y4,x1.2.2.2.2.2.2.2))) else (some ([],[],(x1.1,x1.2.1,x1.2.2.1,x1.2.2.2.1,x1.2.2.2.2.1,false,y4,x1.2.2.2.2.2.2.2)))) else (some ([],[],(x1.1,x1.2.1,x1.2.2.1,x1.2.2.2.1,x1.2.2.2.2.1,true,y4,x1.2.2.2.2.2.2.2))))) else (some ([],[],x1)))
def N1 (x0:Int) (x1:Bool) (x2:O) (x3:Z):Option (List Z×List AI×O):=(if x1=true then ((KC x3 x2).bind fun y5=>(some (y5.1,[],y5.2))) else (if (x0==6)=true then ((Ge 1 x3 x2).bind fun y6=>(some ([],y6.1,y6.2))) else (if (x0==8)=true then ((Ge 2 x3 x2).bind fun y7=>(some ([],y7.1,y7.2))) else (some ([],[],x2)))))
def S3 (x1:List (List Int)) (x2:Z) (b0:O):Option (List Z×List AI×O):=(if (x2.1==1)=true then ((LJ x1 x2 b0).bind fun y1=>(some (y1.1,[],y1.2))) else (if (x2.1==2)=true then (if (x2.2.2.2.1==b0.2.1)=true then (if b0.2.2.2.2.1=true then (D2 x1 (!b0.2.2.2.1) b0 x2) else (D2 x1 false b0 x2)) else (D2 x1 false b0 x2)) else (if (x2.1==3)=true then (if 0<=(i64.wrap (x2.2.2.2.1-1)) then (if (i64.wrap (x2.2.2.2.1-1))<(x1.length:Int) then ((Id (x1.getD (i64.wrap (x2.2.2.2.1-1)).toNat ([]:List Int)) x2 b0).bind fun y3=>(some (y3.1,[],y3.2))) else none) else none) else (if (x2.1==4)=true then (if (x2.2.2.2.1==b0.2.1)=true then (F_ b0.2.2.2.2.1 b0 x2) else (F_ false b0 x2)) else (if (x2.1==5)=true then (GA x2.1 (x2.1==5) b0 x2) else (GA x2.1 (x2.1==7) b0 x2))))))
theorem am:bZ Nz D2:=jS (by kernel_rfl)
theorem an:RO N0 F_:=jS (by kernel_rfl)
theorem aq:bZ N1 GA:=jS (by kernel_rfl)
theorem iA:RO S3 LI:=cT CB rfl ⟨rfl,rfl⟩ (by kernel_rfl)
def Ii:=cG Dy (AF Ae) (AF Ae) kx
def Ij:=kE 0 [] [] 0 Ii kx
def IP:St->Option (RT (A_.outs Ae)):=lG Dx [] [0,1,7,8] 0 (AF Ae) Ij
def BA (x0:List AB) (x1:AB) (x2 x3:Int):Option Int:=IP ⟨[(0,.lst AG x0),(1,.clo 92 AG x1),(7,.int .i64 x2),(8,.int .i64 x3)],[]⟩
def BW (x0:List AB) (x1:AB) (x2 x3:Int):Option Int:=(if (decide (x3<x2))=true then (if 0<=x3 then (if x3<(x0.length:Int) then ((SK (x0.getD x3.toNat (0,ByteArray.empty,ByteArray.empty,0,0,0,0,0,ByteArray.empty)) x1).bind fun y1=>(if y1=true then (some x3) else (BA x0 x1 x2 (i64.wrap (x3+1))))) else none) else none) else (some (-1:Int)))
def EZ (x0:List AB) (x1:AB):Option Int:=(BA x0 x1 (x0.length:Int) 0)
theorem CJ:bZ BW BA:=lS (by kernel_rfl)
theorem JO:Ni EZ CZ:=cT Ae rfl ⟨rfl,rfl⟩ (by kernel_rfl)
def J6 (x0:List (List Int)) (x1:Bool) (x2:O):Option (Bool×O):=cG KZ (AF Ck) (AF Ck) kx ⟨[(0,.ptr 0 0),(1,.lst (.slice (.int .i64)) x0),(33,.bool x1)],[.var (U.enc x2)]⟩
def J7 (x0:List (List Int)) (x1:Bool) (x2:O):Option (Bool×O):=((DY x0).bind fun y1=>(if y1=true then (if 0<=(i64.wrap (x2.2.1-1)) then (if (i64.wrap (x2.2.1-1))<(x0.length:Int) then (if 0<=(0:Int) then (if 0<((x0.getD (i64.wrap (x2.2.1-1)).toNat ([]:List Int)).length:Int) then (some ((((x0.getD (i64.wrap (x2.2.1-1)).toNat ([]:List Int)).getD (0:Int).toNat 0)==x2.1),x2)) else none) else none) else none) else none) else (some (false,x2))))
def NR (x1:List (List Int)) (b0:O):Option (Bool×O):=(if (!b0.2.2.2.2.2.1)=false then (if (b0.2.2.2.2.2.2.2.2.2.1 != 0)=false then (if (b0.2.2.2.2.2.2.2.2.1==900)=false then (if (decide (b0.2.1>(x1.length:Int)))=true then (some (false,b0)) else (J6 x1 (decide (b0.2.1>(x1.length:Int))) b0)) else (some (false,b0))) else (some (false,b0))) else (some (false,b0)))
theorem TF:RO J7 J6:=jS (by kernel_rfl)
theorem Xr:Ni NR Hu:=cT Ck rfl ⟨rfl,rfl⟩ (by kernel_rfl)
def p_:=cG ZA (AF FV) (AF FV) kx
def qA:=kE 0 [] [4] 1 p_ kx
def m6:St->Option (RT (A_.outs FV)):=lG Y_ [] [1,4,7,8,9] 1 (AF FV) qA
def Jq (x0:ByteArray) (x1:List Y) (x2 x3:Int) (x4:Y):Option Y:=m6 ⟨[(1,.str x0),(4,.ptr 0 0),(7,.lst AD x1),(8,.int .i64 x2),(9,.int .i64 x3)],[.var (AD.enc x4)]⟩
def OX (x0:ByteArray) (x1:List Y) (x2 x3:Int) (x4:Y):Option Y:=(if (decide (x3<x2))=true then (if 0<=x3 then (if x3<(x1.length:Int) then (if (((x1.getD x3.toNat (ByteArray.empty,ByteArray.empty,0)).1).toList==x0.toList)=true then (some (x1.getD x3.toNat (ByteArray.empty,ByteArray.empty,0))) else (Jq x0 x1 x2 (i64.wrap (x3+1)) x4)) else none) else none) else (some (ByteArray.empty,ByteArray.empty,0)))
def fb (x0:List Y) (x1:ByteArray):Option Y:=(Jq x1 x0 (x0.length:Int) 0 (ByteArray.empty,ByteArray.empty,0))
theorem WW:zG OX Jq:=lS (by kernel_rfl)
theorem u9:Ni fb Ox:=cT FV rfl ⟨rfl,rfl⟩ (by kernel_rfl)
def Xs:=cG Mq (AF B5) (AF B5) kx
def Xt:=kE 0 [(5,1)] [5] 2 Xs kx
def WX:St->Option (RT (A_.outs B5)):=lG Mp [(5,1)] [0,5,8,9,10] 2 (AF B5) Xt
def DM (x0:List Int) (x1 x2:Int) (x3:O) (x4:List Int):Option (List Int×O):=WX ⟨[(0,.ptr 0 0),(5,.row 1),(8,.lst (.int .i64) x0),(9,.int .i64 x1),(10,.int .i64 x2)],[.var (U.enc x3),.rows 3 (.int .i64) x4]⟩
def HV (x0:List Int) (x1 x2:Int) (x3:O) (x4:List Int):Option (List Int×O):=(if (decide (x2<x1))=true then (if 0<=x2 then (if x2<(x0.length:Int) then (if ((x0.getD x2.toNat 0) != x3.1)=true then (if x4.length+([(x0.getD x2.toNat 0)]:List Int).length<=68719476736 then (DM x0 x1 (i64.wrap (x2+1)) x3 (x4++([(x0.getD x2.toNat 0)]:List Int))) else none) else (DM x0 x1 (i64.wrap (x2+1)) x3 x4)) else none) else none) else (some (x4,x3)))
def PW (x1:List Int) (b0:O):Option (List Int×O):=(DM x1 (x1.length:Int) 0 b0 ([]:List Int))
theorem L8:zG HV DM:=lS (by kernel_rfl)
theorem dN:Ni PW B6:=cT B5 rfl ⟨rfl,rfl⟩ (by kernel_rfl)
def N2 (b0:List Int):Option (List Int):=((Pw (IntKind.u64.wrap (b0.length:Int))).bind fun y1=>((CT 0 (b0.length:Int) y1 b0).bind fun y2=>(some y2)))
theorem ar:MJ N2 Cx:=cT F8 rfl ⟨rfl,rfl⟩ (by kernel_rfl)
def Ik (x0:O) (x1:wK):Option (List AI×O):=cG PJ (AF D5) (AF D5) kx ⟨[(0,.ptr 0 0),(3,.ptr 1 0)],[.var (U.enc x0),.var (MX.enc x1)]⟩
def Il (x0:O) (x1:wK):Option (List AI×O):=(some (([(x1.2.1,x0.2.1,x1.2.2.1,x1.2.2.2.1)]:List AI),(x0.1,x0.2.1,x0.2.2.1,x0.2.2.2.1,x0.2.2.2.2.1,x0.2.2.2.2.2.1,x0.2.2.2.2.2.2.1,x0.2.2.2.2.2.2.2.1,x0.2.2.2.2.2.2.2.2.1,0,0,0,(ByteArray.empty,ByteArray.empty,0),([]:List Int))))
def S4 (b0:O):Option (List AI×O):=(if (b0.2.2.2.2.2.2.2.2.2.1==1)=true then ((M2 b0.2.2.2.2.2.2.2.1 b0.2.2.2.2.2.2.2.2.2.2.2.2.1).bind fun y1=>(Ik (b0.1,b0.2.1,b0.2.2.1,b0.2.2.2.1,b0.2.2.2.2.1,b0.2.2.2.2.2.1,b0.2.2.2.2.2.2.1,y1,b0.2.2.2.2.2.2.2.2) b0.2.2.2.2.2.2.2.2.2)) else ((Ox b0.2.2.2.2.2.2.2.1 b0.2.2.2.2.2.2.2.2.2.2.2.2.1.1).bind fun y2=>(Ik b0 (b0.2.2.2.2.2.2.2.2.2.1,b0.2.2.2.2.2.2.2.2.2.2.1,b0.2.2.2.2.2.2.2.2.2.2.2.1,y2,b0.2.2.2.2.2.2.2.2.2.2.2.2.2))))
theorem N3:Ni Il Ik:=jS (by kernel_rfl)
theorem iB:MJ S4 Hv:=cT D5 rfl ⟨rfl,rfl⟩ (by kernel_rfl)
def WY:=cG Lr (AF Bp) (AF Bp) kx
def WZ:=kE 0 [(7,2)] [7] 3 WY kx
def U2:St->Option (RT (A_.outs Bp)):=lG Lq [(7,2)] [0,5,7,11,12,13] 3 (AF Bp) WZ
def EK (x0:List Int) (x1 x2:Int) (x3:O) (x4:Z) (x5:List Z):Option (List Z×O):=U2 ⟨[(0,.ptr 0 0),(5,.ptr 1 0),(7,.row 2),(11,.lst (.int .i64) x0),(12,.int .i64 x1),(13,.int .i64 x2)],[.var (U.enc x3),.var (AH.enc x4),.rows 97 AH x5]⟩
def Gx (x0:List Int) (x1 x2:Int) (x3:O) (x4:Z) (x5:List Z):Option (List Z×O):=(if (decide (x2<x1))=true then (if 0<=x2 then (if x2<(x0.length:Int) then ((HN x4).bind fun y1=>(if x5.length+([(y1.1,x3.1,(x0.getD x2.toNat 0),x3.2.1,y1.2.2.2.2)]:List Z).length<=68719476736 then (EK x0 x1 (i64.wrap (x2+1)) x3 x4 (x5++([(y1.1,x3.1,(x0.getD x2.toNat 0),x3.2.1,y1.2.2.2.2)]:List Z))) else none)) else none) else none) else (some (x5,x3)))
def N4 (x1:List Int) (x2:Z) (b0:O):Option (List Z×O):=(EK x1 (x1.length:Int) 0 b0 x2 ([]:List Z))
theorem Kb:zZ Gx EK:=lS (by kernel_rfl)
theorem au:RO N4 Am:=cT Bp rfl ⟨rfl,rfl⟩ (by kernel_rfl)
def kR (b0:O):Option O:=(some (b0.1,b0.2.1,b0.2.2.1,b0.2.2.2.1,false,false,[],b0.2.2.2.2.2.2.2.1,0,0,0,0,(ByteArray.empty,ByteArray.empty,0),([]:List Int)))
theorem kS:MJ kR Gd:=cT It rfl ⟨rfl,rfl⟩ (by kernel_rfl)
def NS (x1:List Int) (x2:List Y) (b0:O):Option (List Z×O):=((B6 x1 b0).bind fun y1=>((Al x2).bind fun y2=>((Bk y1.1).bind fun y3=>((Cx y3).bind fun y4=>(if ((y1.1.length:Int)==0)=true then ((Am y1.1 (3,0,0,0,0,x2) (y1.2.1,y1.2.2.1,y1.2.2.2.1,true,y1.2.2.2.2.2.1,true,y4,y2,y1.2.2.2.2.2.2.2.2.2)).bind fun y5=>(some (y5.1,y5.2))) else ((Am y1.1 (3,0,0,0,0,x2) (y1.2.1,y1.2.2.1,y1.2.2.2.1,true,y1.2.2.2.2.2.1,y1.2.2.2.2.2.2.1,y4,y2,y1.2.2.2.2.2.2.2.2.2)).bind fun y6=>(some (y6.1,y6.2))))))))
theorem Xu:RO NS Dc:=cT FK rfl ⟨rfl,rfl⟩ (by kernel_rfl)
def D9 (x0:Bool) (x1:O):Option Bool:=cG T2 (AF GI) (AF GI) kx ⟨[(1,.ptr 0 0),(70,.bool x0)],[.var (U.enc x1)]⟩
def S5 (x0:Bool) (x1:O):Option Bool:=((ON x1.2.2.2.2.2.2.2.2.2).bind fun y7=>(if y7=false then (if (x1.2.2.2.2.2.2.2.2.2.1==1)=false then (if (x1.2.2.2.2.2.2.2.2.2.1==2)=true then (if x1.2.2.2.2.2.1=true then ((AU x1.2.2.2.2.2.2.2.2.2.2.1 0 1000).bind fun y8=>(if y8=true then ((AU x1.2.2.2.2.2.2.2.2.2.2.2.1 1 900).bind fun y9=>(some y9)) else (some false))) else (some false)) else (some false)) else (if x1.2.2.2.2.2.1=true then ((AU x1.2.2.2.2.2.2.2.2.2.2.1 0 1000).bind fun y10=>(if y10=true then ((AU x1.2.2.2.2.2.2.2.2.2.2.2.1 1 900).bind fun y11=>(some y11)) else (some false))) else (some false))) else (some true)))
def aJ (x0:O):Option Bool:=((AU x0.1 1 6).bind fun y1=>(if (!y1)=false then ((AU x0.2.1 1 9).bind fun y2=>(if (!y2)=false then (if x0.2.2.2.2.2.1=true then (if (!x0.2.2.2.1)=false then (if (!x0.2.2.2.2.1)=false then (if (decide ((x0.2.2.2.2.2.2.1.length:Int)>0))=false then (if x0.2.2.1=true then (if x0.2.2.2.1=false then (if x0.2.2.2.2.1=false then ((DQ x0.2.2.2.2.2.2.1).bind fun y3=>(if (!y3)=false then ((DQ x0.2.2.2.2.2.2.2.2.2.2.2.2.2).bind fun y4=>(if (!y4)=false then ((Dd x0.2.2.2.2.2.2.2.1).bind fun y5=>(if (!y5)=false then ((AU x0.2.2.2.2.2.2.2.2.1 0 900).bind fun y6=>(if (!y6)=true then (some false) else (D9 (!y6) x0))) else (some false))) else (some false))) else (some false))) else (some false)) else (some false)) else ((DQ x0.2.2.2.2.2.2.1).bind fun y12=>(if (!y12)=false then ((DQ x0.2.2.2.2.2.2.2.2.2.2.2.2.2).bind fun y13=>(if (!y13)=false then ((Dd x0.2.2.2.2.2.2.2.1).bind fun y14=>(if (!y14)=false then ((AU x0.2.2.2.2.2.2.2.2.1 0 900).bind fun y15=>(if (!y15)=true then (some false) else (D9 (!y15) x0))) else (some false))) else (some false))) else (some false)))) else (some false)) else (some false)) else (some false)) else (if x0.2.2.1=true then (if x0.2.2.2.1=false then (if x0.2.2.2.2.1=false then ((DQ x0.2.2.2.2.2.2.1).bind fun y16=>(if (!y16)=false then ((DQ x0.2.2.2.2.2.2.2.2.2.2.2.2.2).bind fun y17=>(if (!y17)=false then ((Dd x0.2.2.2.2.2.2.2.1).bind fun y18=>(if (!y18)=false then ((AU x0.2.2.2.2.2.2.2.2.1 0 900).bind fun y19=>(if (!y19)=true then (some false) else (D9 (!y19) x0))) else (some false))) else (some false))) else (some false))) else (some false)) else (some false)) else ((DQ x0.2.2.2.2.2.2.1).bind fun y20=>(if (!y20)=false then ((DQ x0.2.2.2.2.2.2.2.2.2.2.2.2.2).bind fun y21=>(if (!y21)=false then ((Dd x0.2.2.2.2.2.2.2.1).bind fun y22=>(if (!y22)=false then ((AU x0.2.2.2.2.2.2.2.2.1 0 900).bind fun y23=>(if (!y23)=true then (some false) else (D9 (!y23) x0))) else (some false))) else (some false))) else (some false))))) else (some false))) else (some false)))
theorem iC:Ni S5 D9:=jS (by kernel_rfl)
theorem qB:MJ aJ GK:=cT GI rfl ⟨rfl,rfl⟩ (by kernel_rfl)
def qC:=cG ZD (AF FW) (AF FW) kx
def qD:=kE 0 [] [4] 1 qC kx
def m7:St->Option (RT (A_.outs FW)):=lG ZB [] [0,1,4,5] 1 (AF FW) qD
def Jr (x0:List Y) (x1:ByteArray) (x2:Int) (x3:Y):Option Y:=m7 ⟨[(0,.lst AD x0),(1,.str x1),(4,.ptr 0 0),(5,.int .i64 x2)],[.var (AD.enc x3)]⟩
def OY (x0:List Y) (x1:ByteArray) (x2:Int) (x3:Y):Option Y:=(if (decide (x2<(x0.length:Int)))=true then (if 0<=x2 then (if x2<(x0.length:Int) then (if (((x0.getD x2.toNat (ByteArray.empty,ByteArray.empty,0)).1).toList==x1.toList)=true then (if 0<=x2 then (if x2<(x0.length:Int) then (some (x0.getD x2.toNat (ByteArray.empty,ByteArray.empty,0))) else none) else none) else (Jr x0 x1 (i64.wrap (x2+1)) x3)) else none) else none) else (some (ByteArray.empty,ByteArray.empty,0)))
def fc (x0:List Y) (x1:ByteArray):Option Y:=(Jr x0 x1 0 (ByteArray.empty,ByteArray.empty,0))
theorem Wa:bZ OY Jr:=lS (by kernel_rfl)
theorem u_:Ni fc Oy:=cT FW rfl ⟨rfl,rfl⟩ (by kernel_rfl)
def m8:=cG Mr (AF BB) (AF BB) kx
def m9:=kE 2 [(5,1),(6,2)] [0,5,6] 3 m8 kx
def kU:St->Option (RT (A_.outs BB)):=lG T3 [(5,1),(6,2)] [0,3,5,6,8] 3 (AF BB) m9
def m_:=cG Ms (AF BB) (AF BB) kx
def OZ:=kE 0 [(5,1),(6,2)] [0,3,5,6] 3 m_ kx
def UZ:St->Option (RT (A_.outs BB)):=lG Vr [(5,1),(6,2)] [0,3,5,6,7] 3 (AF BB) OZ
def nA:=kB [(5,1),(6,2)] [0,3,5,6,7] 3 UZ
def Wb:=cG Vq nA (AF BB) OZ
def nB:=kB [(5,1),(6,2)] [0,3,5,6,7] 3 Wb
def nC:=kE 1 [(5,1),(6,2)] [0,3,5,6,7] 3 Wb OZ
def I5 (x0:List Y) (x1:Int) (x2:Y) (x3 x4:List Y):Option (List Y):=cG Vp nB (AF BB) nC ⟨[(0,.lst AD x0),(3,.ptr 0 0),(5,.row 1),(6,.row 2),(7,.int .i64 x1)],[.var (AD.enc x2),.rows 38 AD x3,.rows 38 AD x4]⟩
def NT (x0:List Y) (x1:Y) (x2 x3:List Y):Option (List Y):=cG Mr (AF BB) (AF BB) kx ⟨[(0,.lst AD x0),(5,.row 1),(6,.row 2)],[.var (AD.enc x1),.rows 38 AD x2,.rows 38 AD x3]⟩
def El (x0:List Y) (x1:Int) (x2:Y) (x3 x4:List Y):Option (List Y):=kU ⟨[(0,.lst AD x0),(3,.ptr 0 0),(5,.row 1),(6,.row 2),(8,.int .i64 x1)],[.var (AD.enc x2),.rows 38 AD x3,.rows 38 AD x4]⟩
def NU (x0:List Y) (x1:Y) (x2 x3:List Y):Option (List Y):=cG Ms (AF BB) (AF BB) kx ⟨[(0,.lst AD x0),(3,.ptr 0 0),(5,.row 1),(6,.row 2)],[.var (AD.enc x1),.rows 38 AD x2,.rows 38 AD x3]⟩
def Em (x0:List Y) (x1:Int) (x2:Y) (x3 x4:List Y):Option (List Y):=UZ ⟨[(0,.lst AD x0),(3,.ptr 0 0),(5,.row 1),(6,.row 2),(7,.int .i64 x1)],[.var (AD.enc x2),.rows 38 AD x3,.rows 38 AD x4]⟩
def Ua (x0:List Y) (x1:Int) (x2:Y) (x3 x4:List Y):Option (List Y):=(if 0<=x1 then (if x1<(x0.length:Int) then (if (((x0.getD x1.toNat (ByteArray.empty,ByteArray.empty,0)).1).toList==x2.1.toList)=true then (if 0<=x1 then (if x1<(x0.length:Int) then (if (decide ((((x0.getD x1.toNat (ByteArray.empty,ByteArray.empty,0)).2).2)>=x2.2.2))=true then (some x3) else (Em x0 (i64.wrap (x1+1)) x2 x3 x4)) else none) else none) else (Em x0 (i64.wrap (x1+1)) x2 x3 x4)) else none) else none)
def Ub (x0:List Y) (x1:Y) (x2 x3:List Y):Option (List Y):=((Dd x0).bind fun y1=>(if (!y1)=false then ((Dd x3).bind fun y2=>(if (!y2)=true then (some x2) else (some x3))) else (some x2)))
def NV (x0:List Y) (x1:Int) (x2:Y) (x3 x4:List Y):Option (List Y):=(if (decide (x1<(x0.length:Int)))=true then (if 0<=x1 then (if x1<(x0.length:Int) then (if (!((Op.bytesLess ((x0.getD x1.toNat (ByteArray.empty,ByteArray.empty,0)).1).toList x2.1.toList)||(((x0.getD x1.toNat (ByteArray.empty,ByteArray.empty,0)).1).toList==x2.1.toList)))=true then (if 0<=x1 then (if x1<(x0.length:Int) then (if x4.length+([x0.getD x1.toNat (ByteArray.empty,ByteArray.empty,0)]:List Y).length<=68719476736 then (El x0 (i64.wrap (x1+1)) x2 x3 (x4++([x0.getD x1.toNat (ByteArray.empty,ByteArray.empty,0)]:List Y))) else none) else none) else none) else (El x0 (i64.wrap (x1+1)) x2 x3 x4)) else none) else none) else (NT x0 x2 x3 x4))
def Uc (x0:List Y) (x1:Y) (x2 x3:List Y):Option (List Y):=(if x3.length+([x1]:List Y).length<=68719476736 then (El x0 0 x1 x2 (x3++([x1]:List Y))) else none)
def NW (x0:List Y) (x1:Int) (x2:Y) (x3 x4:List Y):Option (List Y):=(if (decide (x1<(x0.length:Int)))=true then (if 0<=x1 then (if x1<(x0.length:Int) then (if (Op.bytesLess ((x0.getD x1.toNat (ByteArray.empty,ByteArray.empty,0)).1).toList x2.1.toList)=true then (if 0<=x1 then (if x1<(x0.length:Int) then (if x4.length+([x0.getD x1.toNat (ByteArray.empty,ByteArray.empty,0)]:List Y).length<=68719476736 then (I5 x0 x1 x2 x3 (x4++([x0.getD x1.toNat (ByteArray.empty,ByteArray.empty,0)]:List Y))) else none) else none) else none) else (I5 x0 x1 x2 x3 x4)) else none) else none) else (NU x0 x2 x3 x4))
def dO (x0:List Y) (x1:Y):Option (List Y):=(if ([]:List Y).length+x0.length<=68719476736 then (Em x0 0 x1 (([]:List Y)++x0) ([]:List Y)) else none)
theorem kV:zG Ua I5:=jS (by kernel_rfl)
theorem kW:bZ Ub NT:=jS (by kernel_rfl)
theorem Ud:zG NV El:=lS (by kernel_rfl)
theorem kX:bZ Uc NU:=jS (by kernel_rfl)
theorem Ue:zG NW Em:=lS (by kernel_rfl)
theorem tX:Ni dO JK:=cT BB rfl ⟨rfl,rfl⟩ (by kernel_rfl)
def iD:=cG SE (AF DH) (AF DH) kx
def iE:=kE 0 [(5,0)] [5] 1 iD kx
def fC:St->Option (RT (A_.outs DH)):=lG SD [(5,0)] [0,1,5,6] 1 (AF DH) iE
def CP (x0:List Int) (x1 x2:Int) (x3:List Int):Option (List Int):=fC ⟨[(0,.lst (.int .i64) x0),(1,.int .i64 x1),(5,.row 0),(6,.int .i64 x2)],[.rows 3 (.int .i64) x3]⟩
def KQ (x0:List Int) (x1 x2:Int) (x3:List Int):Option (List Int):=(if (decide (x2<=6))=true then (if (x2 != x1)=true then ((DX x0 x2).bind fun y1=>(if y1=true then (if x3.length+([x2]:List Int).length<=68719476736 then (CP x0 x1 (i64.wrap (x2+1)) (x3++([x2]:List Int))) else none) else (CP x0 x1 (i64.wrap (x2+1)) x3))) else (CP x0 x1 (i64.wrap (x2+1)) x3)) else (some x3))
def Wc (x0:List Int) (x1:Int):Option (List Int):=(CP x0 x1 1 ([]:List Int))
theorem RG:bZ KQ CP:=lS (by kernel_rfl)
theorem nD:Ni Wc HO:=cT DH rfl ⟨rfl,rfl⟩ (by kernel_rfl)
def Wd (b0:O):Option (List AI×O):=(if (b0.2.2.2.2.2.2.2.2.2.1==1)=true then ((JK b0.2.2.2.2.2.2.2.1 b0.2.2.2.2.2.2.2.2.2.2.2.2.1).bind fun y1=>(some (([(b0.2.2.2.2.2.2.2.2.2.2.1,b0.2.1,b0.2.2.2.2.2.2.2.2.2.2.2.1,b0.2.2.2.2.2.2.2.2.2.2.2.2.1)]:List AI),(b0.1,b0.2.1,b0.2.2.1,b0.2.2.2.1,b0.2.2.2.2.1,b0.2.2.2.2.2.1,b0.2.2.2.2.2.2.1,y1,b0.2.2.2.2.2.2.2.2.1,0,0,0,(ByteArray.empty,ByteArray.empty,0),([]:List Int))))) else ((Oy b0.2.2.2.2.2.2.2.1 b0.2.2.2.2.2.2.2.2.2.2.2.2.1.1).bind fun y2=>(some (([(b0.2.2.2.2.2.2.2.2.2.2.1,b0.2.1,b0.2.2.2.2.2.2.2.2.2.2.2.1,y2)]:List AI),(b0.1,b0.2.1,b0.2.2.1,b0.2.2.2.1,b0.2.2.2.2.1,b0.2.2.2.2.2.1,b0.2.2.2.2.2.2.1,b0.2.2.2.2.2.2.2.1,b0.2.2.2.2.2.2.2.2.1,0,0,0,(ByteArray.empty,ByteArray.empty,0),([]:List Int))))))
theorem nE:MJ Wd HQ:=cT Jf rfl ⟨rfl,rfl⟩ (by kernel_rfl)
def qE:=cG ZF (AF FX) (AF FX) kx
def qF:=kE 0 [(7,1)] [7] 3 qE kx
def nF:St->Option (RT (A_.outs FX)):=lG ZE [(7,1)] [0,1,2,7,8] 3 (AF FX) qF
def HW (x0:List Int) (x1:List Y) (x2:Int) (x3:O) (x4:List Z) (x5:List Y):Option (List Z×O):=nF ⟨[(0,.ptr 0 0),(1,.lst (.int .i64) x0),(2,.lst AD x1),(7,.row 1),(8,.int .i64 x2)],[.var (U.enc x3),.rows 97 AH x4,.frz AD x5]⟩
def Oa (x0:List Int) (x1:List Y) (x2:Int) (x3:O) (x4:List Z) (x5:List Y):Option (List Z×O):=(if (decide (x2<(x0.length:Int)))=true then (if 0<=x2 then (if x2<(x0.length:Int) then (if ((x0.getD x2.toNat 0) != x3.1)=true then (if 0<=x2 then (if x2<(x0.length:Int) then (if ([]:List Y).length+x1.length<=68719476736 then (if x4.length+([(3,x3.1,(x0.getD x2.toNat 0),x3.2.1,0,(([]:List Y)++x1))]:List Z).length<=68719476736 then (HW x0 x1 (i64.wrap (x2+1)) x3 (x4++([(3,x3.1,(x0.getD x2.toNat 0),x3.2.1,0,(([]:List Y)++x1))]:List Z)) x5) else none) else none) else none) else none) else (HW x0 x1 (i64.wrap (x2+1)) x3 x4 x5)) else none) else none) else (some (x4,x3)))
def ff (x1:List Int) (x2:List Y) (b0:O):Option (List Z×O):=(if ([]:List Y).length+x2.length<=68719476736 then ((HO x1 b0.1).bind fun y1=>(HW x1 x2 0 (b0.1,b0.2.1,b0.2.2.1,true,b0.2.2.2.2.1,((y1.length:Int)==0),y1,(([]:List Y)++x2),b0.2.2.2.2.2.2.2.2) ([]:List Z) (([]:List Y)++x2))) else none)
theorem We:zZ Oa HW:=lS (by kernel_rfl)
theorem vA:RO ff Oz:=cT FX rfl ⟨rfl,rfl⟩ (by kernel_rfl)
def dP:=cG cI (AF FM) (AF FM) kx
def tY:=kB [] [1] 1 dP
def tZ:=kE 0 [] [1] 1 dP kx
def K5 (x0:Int) (x1:Bool) (x2:Z):Option Bool:=cG cH tY (AF FM) tZ ⟨[(1,.ptr 0 0),(38,.int .i64 x0),(39,.bool x1)],[.var (AH.enc x2)]⟩
def QQ (x0:Bool) (x1:Z):Option Bool:=cG cJ (AF FM) (AF FM) kx ⟨[(1,.ptr 0 0),(36,.bool x0)],[.var (AH.enc x1)]⟩
def aK (x0:Int) (x1:Bool) (x2:Z):Option Bool:=(if x1=true then (some true) else (if (x0==5)=true then (some ((x2.2.2.2.2.2.length:Int)==1)) else (some ((x2.2.2.2.2.2.length:Int)==0))))
def aL (x0:Bool) (x1:Z):Option Bool:=(if (x1.1==2)=true then (K5 x1.1 (x1.1==2) x1) else (K5 x1.1 (x1.1==3) x1))
def kY (x0:Z):Option Bool:=((AU x0.1 1 8).bind fun y1=>(if (!y1)=false then ((AU x0.2.1 1 6).bind fun y2=>(if (!y2)=false then ((AU x0.2.2.1 1 6).bind fun y3=>(if (!y3)=false then ((AU x0.2.2.2.1 1 9).bind fun y4=>(if (!y4)=false then ((AU x0.2.2.2.2.1 0 1000000000).bind fun y5=>(if (!y5)=false then ((Dd x0.2.2.2.2.2).bind fun y6=>(if (!y6)=true then (some false) else (QQ (!y6) x0))) else (some false))) else (some false))) else (some false))) else (some false))) else (some false)))
theorem qG:RO aK K5:=jS (by kernel_rfl)
theorem qH:Ni aL QQ:=jS (by kernel_rfl)
theorem xg:MJ kY Xi:=cT FM rfl ⟨rfl,rfl⟩ (by kernel_rfl)
def aM:=cG Vv (AF Cb) (AF Cb) kx
def GP:=kB [] [6,9,10,11] 4 aM
def GQ:=kE 0 [] [6,9,10,11] 4 aM kx
def Js (x0:List Int) (x1:List Z) (x2:List AI) (x3:Bool) (x4:O) (x5:Z) (x6 x7:O):Option (O×List Z×List AI):=cG ZG GP (AF Cb) GQ ⟨[(1,.lst (.int .i64) x0),(5,.ptr 1 0),(6,.ptr 2 0),(9,.ptr 3 0),(10,.lst AH x1),(11,.lst Ay x2),(28,.bool x3)],[.var (U.enc x4),.var (AH.enc x5),.var (U.enc x6),.var (U.enc x7)]⟩
def Jt (x0:List Z) (x1:List AI) (x2:Bool) (x3:O) (x4:Z) (x5 x6:O):Option (O×List Z×List AI):=cG ZH GP (AF Cb) GQ ⟨[(3,.ptr 0 0),(5,.ptr 1 0),(6,.ptr 2 0),(9,.ptr 3 0),(10,.lst AH x0),(11,.lst Ay x1),(60,.bool x2)],[.var (U.enc x3),.var (AH.enc x4),.var (U.enc x5),.var (U.enc x6)]⟩
def Ob (x0:List Z) (x1:List AI) (x2:Bool) (x3:O) (x4:Z) (x5 x6:O):Option (O×List Z×List AI):=cG ZI GP (AF Cb) GQ ⟨[(3,.ptr 0 0),(5,.ptr 1 0),(6,.ptr 2 0),(9,.ptr 3 0),(10,.lst AH x0),(11,.lst Ay x1),(50,.bool x2)],[.var (U.enc x3),.var (AH.enc x4),.var (U.enc x5),.var (U.enc x6)]⟩
def Oc (x0:List Z) (x1:List AI) (x2:Bool) (x3:O) (x4:Z) (x5 x6:O):Option (O×List Z×List AI):=cG Vs GP (AF Cb) GQ ⟨[(5,.ptr 1 0),(6,.ptr 2 0),(9,.ptr 3 0),(10,.lst AH x0),(11,.lst Ay x1),(145,.bool x2)],[.var (U.enc x3),.var (AH.enc x4),.var (U.enc x5),.var (U.enc x6)]⟩
def Ju (x0:List Z) (x1:List AI) (x2:Int) (x3:O) (x4:Z) (x5 x6:O):Option (O×List Z×List AI):=cG Vt GP (AF Cb) GQ ⟨[(5,.ptr 1 0),(6,.ptr 2 0),(9,.ptr 3 0),(10,.lst AH x0),(11,.lst Ay x1),(13,.int .i64 x2)],[.var (U.enc x3),.var (AH.enc x4),.var (U.enc x5),.var (U.enc x6)]⟩
def Jv (x0:List Z) (x1:List AI) (x2:Bool) (x3:O) (x4:Z) (x5 x6:O):Option (O×List Z×List AI):=cG Vu GP (AF Cb) GQ ⟨[(5,.ptr 1 0),(6,.ptr 2 0),(9,.ptr 3 0),(10,.lst AH x0),(11,.lst Ay x1),(127,.bool x2)],[.var (U.enc x3),.var (AH.enc x4),.var (U.enc x5),.var (U.enc x6)]⟩
def Wf (x0:List Int) (x1:List Z) (x2:List AI) (x3:Bool) (x4:O) (x5:Z) (x6 x7:O):Option (O×List Z×List AI):=(if x3=true then ((Oz x0 x5.2.2.2.2.2 x7).bind fun y2=>(some (y2.2,y2.1,x2))) else (some (x7,x1,x2)))
def Wg (x0:List Z) (x1:List AI) (x2:Bool) (x3:O) (x4:Z) (x5 x6:O):Option (O×List Z×List AI):=(if (!x6.2.2.2.1)=true then ((M0 x3 x3.2.1).bind fun y4=>(if ([]:List Y).length+x4.2.2.2.2.2.length<=68719476736 then ((Eo x3 x4 4).bind fun y5=>(some ((y4.1,y4.2.1,y4.2.2.1,true,y4.2.2.2.2.1,y4.2.2.2.2.2.1,y4.2.2.2.2.2.2.1,(([]:List Y)++x4.2.2.2.2.2),y4.2.2.2.2.2.2.2.2),y5,x1))) else none)) else ((Eo x3 x4 4).bind fun y6=>(some (x6,y6,x1))))
def Wh (x0:List Z) (x1:List AI) (x2:Bool) (x3:O) (x4:Z) (x5 x6:O):Option (O×List Z×List AI):=(if (!x6.2.2.2.1)=true then (if x6.2.2.1=true then (some (x6,x0,x1)) else (Jt x0 x1 x6.2.2.1 x3 x4 x5 x6)) else (Jt x0 x1 false x3 x4 x5 x6))
def Wi (x0:List Z) (x1:List AI) (x2:Bool) (x3:O) (x4:Z) (x5 x6:O):Option (O×List Z×List AI):=((Iw x6.2.2.2.2.2.2.2.2.2.2.2.2.2 x4.2.1).bind fun y11=>(if ((y11.length:Int)==0)=true then ((HQ (x6.1,x6.2.1,x6.2.2.1,x6.2.2.2.1,x6.2.2.2.2.1,x6.2.2.2.2.2.1,x6.2.2.2.2.2.2.1,x6.2.2.2.2.2.2.2.1,x6.2.2.2.2.2.2.2.2.1,x6.2.2.2.2.2.2.2.2.2.1,x6.2.2.2.2.2.2.2.2.2.2.1,x6.2.2.2.2.2.2.2.2.2.2.2.1,x6.2.2.2.2.2.2.2.2.2.2.2.2.1,y11)).bind fun y12=>(some (y12.2,x0,y12.1))) else (some ((x6.1,x6.2.1,x6.2.2.1,x6.2.2.2.1,x6.2.2.2.2.1,x6.2.2.2.2.2.1,x6.2.2.2.2.2.2.1,x6.2.2.2.2.2.2.2.1,x6.2.2.2.2.2.2.2.2.1,x6.2.2.2.2.2.2.2.2.2.1,x6.2.2.2.2.2.2.2.2.2.2.1,x6.2.2.2.2.2.2.2.2.2.2.2.1,x6.2.2.2.2.2.2.2.2.2.2.2.2.1,y11),x0,x1))))
def Wj (x0:List Z) (x1:List AI) (x2:Int) (x3:O) (x4:Z) (x5 x6:O):Option (O×List Z×List AI):=(if (x6.2.2.2.2.2.2.2.2.2.1 != x2)=false then (if (x6.2.2.2.2.2.2.2.2.2.2.2.1 != x4.2.2.2.2.1)=true then (some (x6,x0,x1)) else (Oc x0 x1 (x6.2.2.2.2.2.2.2.2.2.2.2.1 != x4.2.2.2.2.1) x3 x4 x5 x6)) else (some (x6,x0,x1)))
def Wk (x0:List Z) (x1:List AI) (x2:Bool) (x3:O) (x4:Z) (x5 x6:O):Option (O×List Z×List AI):=(if x2=true then (if (x4.1==8)=true then (Ju x0 x1 2 x3 x4 x5 x6) else (Ju x0 x1 1 x3 x4 x5 x6)) else (some (x6,x0,x1)))
def fg (x0:O) (x1:List Int) (x2:Z):Option (O×List Z×List AI):=((DZ x0).bind fun y1=>(if (x2.1==2)=true then (if y1.2.2.2.2.1=true then (Js x1 ([]:List Z) ([]:List AI) (!y1.2.2.2.1) x0 x2 (0,0,false,false,false,false,([]:List Int),([]:List Y),0,0,0,0,(ByteArray.empty,ByteArray.empty,0),([]:List Int)) y1) else (Js x1 ([]:List Z) ([]:List AI) false x0 x2 (0,0,false,false,false,false,([]:List Int),([]:List Y),0,0,0,0,(ByteArray.empty,ByteArray.empty,0),([]:List Int)) y1)) else (if (x2.1==3)=true then ((DX x1 x0.1).bind fun y3=>(if (!y3)=true then (some (y1,([]:List Z),([]:List AI))) else (if 0<=(0:Int) then (if 0<(x1.length:Int) then (if ((x1.getD (0:Int).toNat 0)==x0.1)=true then (some (y1,([]:List Z),([]:List AI))) else (Ob ([]:List Z) ([]:List AI) ((x1.getD (0:Int).toNat 0)==x0.1) x0 x2 (0,0,false,false,false,false,([]:List Int),([]:List Y),0,0,0,0,(ByteArray.empty,ByteArray.empty,0),([]:List Int)) y1)) else none) else none))) else (if (x2.1==4)=true then (if y1.2.2.2.2.1=true then ((Iw y1.2.2.2.2.2.2.1 x2.2.1).bind fun y7=>(if y1.2.2.2.1=true then (some ((y1.1,y1.2.1,y1.2.2.1,y1.2.2.2.1,y1.2.2.2.2.1,((y7.length:Int)==0),y7,y1.2.2.2.2.2.2.2),([]:List Z),([]:List AI))) else (some ((y1.1,y1.2.1,y1.2.2.1,y1.2.2.2.1,y1.2.2.2.2.1,false,y7,y1.2.2.2.2.2.2.2),([]:List Z),([]:List AI))))) else (some (y1,([]:List Z),([]:List AI)))) else (if (x2.1==5)=true then (if y1.2.2.2.1=true then (if 0<=(0:Int) then (if 0<(x2.2.2.2.2.2.length:Int) then ((JK y1.2.2.2.2.2.2.2.1 (x2.2.2.2.2.2.getD (0:Int).toNat (ByteArray.empty,ByteArray.empty,0))).bind fun y8=>((Eo x0 x2 6).bind fun y9=>(some ((y1.1,y1.2.1,y1.2.2.1,y1.2.2.2.1,y1.2.2.2.2.1,y1.2.2.2.2.2.1,y1.2.2.2.2.2.2.1,y8,y1.2.2.2.2.2.2.2.2),y9,([]:List AI))))) else none) else none) else (some (y1,([]:List Z),([]:List AI)))) else (if (x2.1==7)=true then (if y1.2.2.2.1=true then ((Eo x0 x2 8).bind fun y10=>(some (y1,y10,([]:List AI)))) else (some (y1,([]:List Z),([]:List AI)))) else (if (x2.1==6)=true then (Jv ([]:List Z) ([]:List AI) (x2.1==6) x0 x2 (0,0,false,false,false,false,([]:List Int),([]:List Y),0,0,0,0,(ByteArray.empty,ByteArray.empty,0),([]:List Int)) y1) else (Jv ([]:List Z) ([]:List AI) (x2.1==8) x0 x2 (0,0,false,false,false,false,([]:List Int),([]:List Y),0,0,0,0,(ByteArray.empty,ByteArray.empty,0),([]:List Int)) y1))))))))
theorem nG:za Wf Js:=jS (by kernel_rfl)
theorem nH:Le7 Wg Jt:=jS (by kernel_rfl)
theorem nI:Le7 Wh Ob:=jS (by kernel_rfl)
theorem nJ:Le7 Wi Oc:=jS (by kernel_rfl)
theorem nK:Le7 Wj Ju:=jS (by kernel_rfl)
theorem nL:Le7 Wk Jv:=jS (by kernel_rfl)
theorem vB:RO fg Uy:=cT Cb rfl ⟨rfl,rfl⟩ (by kernel_rfl)
def dQ (x0:O) (x1:Int):Option O:=(if ([]:List Y).length+x0.2.2.2.2.2.2.2.1.length<=68719476736 then (some (x0.1,x1,false,false,false,false,([]:List Int),(([]:List Y)++x0.2.2.2.2.2.2.2.1),0,0,0,0,(ByteArray.empty,ByteArray.empty,0),([]:List Int))) else none)
theorem ta:Ni dQ M0:=cT Mt rfl ⟨rfl,rfl⟩ (by kernel_rfl)
def qI (x0:O) (x1:Z) (x2:Int):Option (List Z):=(some ([(x2,x0.1,x1.2.1,x1.2.2.2.1,x1.2.2.2.2.1,([]:List Y))]:List Z))
theorem qJ:RO qI Eo:=cT Kq rfl ⟨rfl,rfl⟩ (by kernel_rfl)
def N5 (x0:Bool) (x1:O) (x2:Z):Option (List Z×O):=cG Nu (AF D6) (AF D6) kx ⟨[(0,.ptr 0 0),(5,.ptr 1 0),(37,.bool x0)],[.var (U.enc x1),.var (AH.enc x2)]⟩
def N6 (x0:Bool) (x1:O) (x2:Z):Option (List Z×O):=((Gd (x1.1,x2.2.2.2.1,x1.2.2.1,false,x1.2.2.2.2)).bind fun y2=>((Am ([x2.2.1]:List Int) (2,0,0,0,0,y2.2.2.2.2.2.2.2.1) y2).bind fun y3=>(some (y3.1,y3.2))))
def S6 (x1:List (List Int)) (x2:Z) (b0:O):Option (List Z×O):=(if (x2.2.2.2.1 != (i64.wrap (b0.2.1+1)))=true then (some ([],b0)) else (if (!b0.2.2.2.1)=true then (some ([],b0)) else (if 0<=(i64.wrap (b0.2.1-1)) then (if (i64.wrap (b0.2.1-1))<(x1.length:Int) then ((B8 (x1.getD (i64.wrap (b0.2.1-1)).toNat ([]:List Int)) b0.1).bind fun y1=>(if (!y1)=true then (some ([],b0)) else (N5 (!y1) b0 x2))) else none) else none)))
theorem ax:RO N6 N5:=jS (by kernel_rfl)
theorem iF:RO S6 LJ:=cT D6 rfl ⟨rfl,rfl⟩ (by kernel_rfl)
def L9:=cG Lu (AF Ba) (AF Ba) kx
def Wl:=kB [] [0,5] 2 L9
def Wm:=kE 0 [] [0,5] 2 L9 kx
def Cz (x0:Bool) (x1:O) (x2:Z):Option (List Z×O):=cG Lt Wl (AF Ba) Wm ⟨[(0,.ptr 0 0),(5,.ptr 1 0),(24,.bool x0)],[.var (U.enc x1),.var (AH.enc x2)]⟩
def Kc (x0:Bool) (x1:O) (x2:Z):Option (List Z×O):=cG Lv (AF Ba) (AF Ba) kx ⟨[(0,.ptr 0 0),(5,.ptr 1 0),(23,.bool x0)],[.var (U.enc x1),.var (AH.enc x2)]⟩
def Ke (x0:Bool) (x1:O) (x2:Z):Option (List Z×O):=(if x0=true then ((Al x2.2.2.2.2.2).bind fun y2=>((Gd (x1.1,x2.2.2.2.1,false,true,x1.2.2.2.2.1,x1.2.2.2.2.2.1,x1.2.2.2.2.2.2.1,y2,x1.2.2.2.2.2.2.2.2)).bind fun y3=>((Am ([x2.2.1]:List Int) (4,0,0,0,0,([]:List Y)) y3).bind fun y4=>(some (y4.1,y4.2))))) else (if (!x1.2.2.2.1)=true then (some ([],x1)) else ((Am ([x2.2.1]:List Int) (4,0,0,0,0,([]:List Y)) x1).bind fun y5=>(some (y5.1,y5.2)))))
def Kf (x0:Bool) (x1:O) (x2:Z):Option (List Z×O):=(if (decide (x2.2.2.2.1>x1.2.1))=true then (Cz true x1 x2) else (if (!x1.2.2.2.1)=true then (Cz (!x1.2.2.1) x1 x2) else (Cz false x1 x2)))
def N7 (x1:List Int) (x2:Z) (b0:O):Option (List Z×O):=((B8 x1 b0.1).bind fun y1=>(if (!y1)=true then (some ([],b0)) else (if 0<=(0:Int) then (if 0<(x1.length:Int) then (if ((x1.getD (0:Int).toNat 0)==b0.1)=true then (some ([],b0)) else (Kc ((x1.getD (0:Int).toNat 0)==b0.1) b0 x2)) else none) else none)))
theorem U3:RO Ke Cz:=jS (by kernel_rfl)
theorem U4:RO Kf Kc:=jS (by kernel_rfl)
theorem ay:RO N7 Id:=cT Ba rfl ⟨rfl,rfl⟩ (by kernel_rfl)
def dR (x0:List Int) (x1:Int):Option (List Int):=((Bk x0).bind fun y1=>((FP y1 x1).bind fun y2=>(some y2)))
theorem tc:Ni dR M1:=cT Mu rfl ⟨rfl,rfl⟩ (by kernel_rfl)
def NX (x0:Bool) (x1:O) (x2:Z):Option (List Z×O):=cG Nv (AF Dk) (AF Dk) kx ⟨[(0,.ptr 0 0),(3,.ptr 1 0),(18,.bool x0)],[.var (U.enc x1),.var (AH.enc x2)]⟩
def NY (x0:Bool) (x1:O) (x2:Z):Option (List Z×O):=(if (x2.1==7)=true then ((Am ([x2.2.1]:List Int) (8,0,0,0,x2.2.2.2.2.1,([]:List Y)) x1).bind fun y1=>(some (y1.1,y1.2))) else (if 0<=(0:Int) then (if 0<(x2.2.2.2.2.2.length:Int) then ((M2 x1.2.2.2.2.2.2.2.1 (x2.2.2.2.2.2.getD (0:Int).toNat (ByteArray.empty,ByteArray.empty,0))).bind fun y2=>((Am ([x2.2.1]:List Int) (6,0,0,0,x2.2.2.2.2.1,([]:List Y)) (x1.1,x1.2.1,x1.2.2.1,x1.2.2.2.1,x1.2.2.2.2.1,x1.2.2.2.2.2.1,x1.2.2.2.2.2.2.1,y2,x1.2.2.2.2.2.2.2.2)).bind fun y3=>(some (y3.1,y3.2)))) else none) else none))
def RH (x1:Z) (b0:O):Option (List Z×O):=(if (x1.2.2.2.1 != b0.2.1)=true then (some ([],b0)) else (if (!b0.2.2.2.1)=true then (some ([],b0)) else (NX (!b0.2.2.2.1) b0 x1)))
theorem Xv:RO NY NX:=jS (by kernel_rfl)
theorem fD:Ni RH KC:=cT Dk rfl ⟨rfl,rfl⟩ (by kernel_rfl)

def L_ (x0:Bool) (x1:O) (x2:Z):Option (List AI×O):=cG Lw (AF DI) (AF DI) kx ⟨[(0,.ptr 0 0),(5,.ptr 1 0),(32,.bool x0)],[.var (U.enc x1),.var (AH.enc x2)]⟩
def MA (x0:Bool) (x1:O) (x2:Z):Option (List AI×O):=((M1 x1.2.2.2.2.2.2.2.2.2.2.2.2.2 x2.2.1).bind fun y1=>(if (decide ((y1.length:Int)>0))=true then (some ([],(x1.1,x1.2.1,x1.2.2.1,x1.2.2.2.1,x1.2.2.2.2.1,x1.2.2.2.2.2.1,x1.2.2.2.2.2.2.1,x1.2.2.2.2.2.2.2.1,x1.2.2.2.2.2.2.2.2.1,x1.2.2.2.2.2.2.2.2.2.1,x1.2.2.2.2.2.2.2.2.2.2.1,x1.2.2.2.2.2.2.2.2.2.2.2.1,x1.2.2.2.2.2.2.2.2.2.2.2.2.1,y1))) else ((Hv (x1.1,x1.2.1,x1.2.2.1,x1.2.2.2.1,x1.2.2.2.2.1,x1.2.2.2.2.2.1,x1.2.2.2.2.2.2.1,x1.2.2.2.2.2.2.2.1,x1.2.2.2.2.2.2.2.2.1,x1.2.2.2.2.2.2.2.2.2.1,x1.2.2.2.2.2.2.2.2.2.2.1,x1.2.2.2.2.2.2.2.2.2.2.2.1,x1.2.2.2.2.2.2.2.2.2.2.2.2.1,y1)).bind fun y2=>(some (y2.1,y2.2)))))
def PY (x1:Int) (x2:Z) (b0:O):Option (List AI×O):=(if (x2.2.2.2.1 != b0.2.1)=true then (some ([],b0)) else (if (b0.2.2.2.2.2.2.2.2.2.1 != x1)=true then (some ([],b0)) else (if (b0.2.2.2.2.2.2.2.2.2.2.2.1 != x2.2.2.2.2.1)=true then (some ([],b0)) else (L_ (b0.2.2.2.2.2.2.2.2.2.2.2.1 != x2.2.2.2.2.1) b0 x2))))
theorem Wn:RO MA L_:=jS (by kernel_rfl)
theorem dS:RO PY Ge:=cT DI rfl ⟨rfl,rfl⟩ (by kernel_rfl)
def Hf:=kE 0 [] [] 1 (AF Ab) kx
def HX:St->Option (RT (A_.outs Ab)):=lG HM [(0,0)] [0,1,2,3,8,9] 1 (AF Ab) Hf
def Hg:=kB [(0,0)] [0,1,2,3,8,9] 1 HX
def B7:=kB [(0,0)] [0,1,2,3,8,9] 1 Hg
def Bb:=kE 1 [(0,0)] [0,1,2,3,8,9] 1 Hg Hf
def PZ:=cG D7 B7 (AF Ab) Bb
def HY (x0 x1 x2:Int) (x3 x4:Bool) (x5 x6:Int) (x7:Bool) (x8:List Int):Option (List Int):=cG D7 B7 (AF Ab) Bb ⟨[(0,.row 0),(1,.int .i64 x0),(2,.int .i64 x1),(3,.int .i64 x2),(8,.bool x3),(9,.bool x4),(10,.int .i64 x5),(11,.int .i64 x6),(87,.bool x7)],[.mrow 3 (.int .i64) x8]⟩
def D_ (x0 x1 x2:Int) (x3 x4:Bool) (x5 x6:Int) (x7:Bool) (x8:List Int):Option (List Int):=cG HI PZ (AF Ab) Bb ⟨[(0,.row 0),(1,.int .i64 x0),(2,.int .i64 x1),(3,.int .i64 x2),(8,.bool x3),(9,.bool x4),(10,.int .i64 x5),(11,.int .i64 x6),(87,.bool x7)],[.mrow 3 (.int .i64) x8]⟩
def B0 (x0 x1 x2:Int) (x3 x4:Bool) (x5 x6:Int) (x7:List Int):Option (List Int):=cG HJ B7 (AF Ab) Bb ⟨[(0,.row 0),(1,.int .i64 x0),(2,.int .i64 x1),(3,.int .i64 x2),(8,.bool x3),(9,.bool x4),(10,.int .i64 x5),(11,.int .i64 x6)],[.mrow 3 (.int .i64) x7]⟩
def EA (x0 x1 x2:Int) (x3 x4:Bool) (x5 x6 x7:Int) (x8:List Int):Option (List Int):=cG HK B7 (AF Ab) Bb ⟨[(0,.row 0),(1,.int .i64 x0),(2,.int .i64 x1),(3,.int .i64 x2),(8,.bool x3),(9,.bool x4),(10,.int .i64 x5),(11,.int .i64 x6),(12,.int .i64 x7)],[.mrow 3 (.int .i64) x8]⟩
def EB (x0 x1 x2:Int) (x3 x4:Bool) (x5:Int) (x6:List Int):Option (List Int):=cG HL B7 (AF Ab) Bb ⟨[(0,.row 0),(1,.int .i64 x0),(2,.int .i64 x1),(3,.int .i64 x2),(8,.bool x3),(9,.bool x4),(10,.int .i64 x5)],[.mrow 3 (.int .i64) x6]⟩
def B1 (x0 x1 x2:Int) (x3 x4:Bool) (x5:List Int):Option (List Int):=HX ⟨[(0,.row 0),(1,.int .i64 x0),(2,.int .i64 x1),(3,.int .i64 x2),(8,.bool x3),(9,.bool x4)],[.mrow 3 (.int .i64) x5]⟩
def Od (x0 x1 x2:Int) (x3 x4:Bool) (x5 x6:Int) (x7:Bool) (x8:List Int):Option (List Int):=((PL x0 x1 x6 x8).bind fun y9=>(if 8=0 then none else (if (decide ((i64.wrap (y9.1-x0))<(i64.wrap (x1-y9.1))))=true then ((CT x0 y9.1 x2 y9.2.2).bind fun y10=>(B1 (i64.wrap (y9.1+1)) x1 x2 (decide ((i64.wrap (y9.1-x0))>=(i64.wrap (Int.tdiv x5 8)))) y9.2.1 y10)) else ((CT (i64.wrap (y9.1+1)) x1 x2 y9.2.2).bind fun y11=>(B1 x0 y9.1 x2 (decide ((i64.wrap (x1-y9.1))>=(i64.wrap (Int.tdiv x5 8)))) y9.2.1 y11)))))
def Oe (x0 x1 x2:Int) (x3 x4:Bool) (x5 x6:Int) (x7:Bool) (x8:List Int):Option (List Int):=(if x7=true then ((LK x0 x1 x6 x8).bind fun y8=>(B1 y8.1 x1 x2 x3 x4 y8.2)) else (HY x0 x1 x2 x3 x4 x5 x6 x7 x8))
def Of (x0 x1 x2:Int) (x3 x4:Bool) (x5 x6:Int) (x7:List Int):Option (List Int):=(if (decide (x0>0))=true then (if 0<=(i64.wrap (x0-1)) then (if (i64.wrap (x0-1))<(x7.length:Int) then (if 0<=x6 then (if x6<(x7.length:Int) then ((M3 (x7.getD ((i64.wrap (x0-1)).toNat) 0) (x7.getD x6.toNat 0)).bind fun y7=>(D_ x0 x1 x2 x3 x4 x5 x6 (!y7) x7)) else none) else none) else none) else none) else (D_ x0 x1 x2 x3 x4 x5 x6 false x7))
def Og (x0 x1 x2:Int) (x3 x4:Bool) (x5 x6 x7:Int) (x8:List Int):Option (List Int):=(if x3=true then (if x4=true then (if (x7==1)=true then ((Ie x0 x1 x8).bind fun y6=>(if y6.1=true then (some y6.2) else (B0 x0 x1 x2 x3 x4 x5 x6 y6.2))) else (B0 x0 x1 x2 x3 x4 x5 x6 x8)) else (B0 x0 x1 x2 x3 x4 x5 x6 x8)) else (B0 x0 x1 x2 x3 x4 x5 x6 x8))
def Oh (x0 x1 x2:Int) (x3 x4:Bool) (x5:Int) (x6:List Int):Option (List Int):=((Nk x0 x1 x6).bind fun y4=>(if (y4.2.1==2)=true then ((M5 x0 x1 y4.2.2).bind fun y5=>(EA x0 x1 x2 x3 x4 x5 (i64.wrap ((i64.wrap (x1-1))-(i64.wrap (y4.1-x0)))) 1 y5)) else (EA x0 x1 x2 x3 x4 x5 y4.1 y4.2.1 y4.2.2)))
def HZ (x0 x1 x2:Int) (x3 x4:Bool) (x5:List Int):Option (List Int):=(if (decide ((i64.wrap (x1-x0))<=12))=true then ((DO x0 x1 x5).bind fun y1=>(some y1)) else (if (x2==0)=true then ((Px x0 x1 x5).bind fun y2=>(some y2)) else (if (!x3)=true then ((MH x0 x1 x5).bind fun y3=>(EB x0 x1 (i64.wrap (x2-1)) x3 x4 (i64.wrap (x1-x0)) y3)) else (EB x0 x1 x2 x3 x4 (i64.wrap (x1-x0)) x5))))
def I6 (x1 x2 x3:Int) (b0:List Int):Option (List Int):=(B1 x1 x2 x3 true true b0)
theorem nM:Le9 Od HY:=jS (by kernel_rfl)
theorem nN:Le9 Oe D_:=jS (by kernel_rfl)
theorem nO:za Of B0:=jS (by kernel_rfl)
theorem nP:Le9 Og EA:=jS (by kernel_rfl)
theorem nQ:Le7 Oh EB:=jS (by kernel_rfl)
theorem Oi:zZ HZ B1:=lS (by kernel_rfl)
theorem Rh:bZ I6 CT:=cT Ab rfl ⟨rfl,rfl⟩ (by kernel_rfl)
def aN (x0:Int):Option Int:=((M4 x0).bind fun y1=>(some y1))
theorem qK:MJ aN Pw:=cT Kr rfl ⟨rfl,rfl⟩ (by kernel_rfl)
def I7 (x0:List Y) (x1:Y) (x2:List Y):Option (List Y):=cG Vx (AF EV) (AF EV) kx ⟨[(0,.lst AD x0),(5,.row 1)],[.var (AD.enc x1),.rows 38 AD x2]⟩
def I8 (x0:List Y) (x1:Int) (x2 x3:Bool) (x4:Y) (x5:List Y):Option (List Y):=cG Vy (AF EV) (AF EV) kx ⟨[(0,.lst AD x0),(3,.ptr 0 0),(5,.row 1),(6,.int .i64 x1),(7,.bool x2),(32,.bool x3)],[.var (AD.enc x4),.rows 38 AD x5]⟩
def Uf (x0:List Y) (x1:Y) (x2:List Y):Option (List Y):=((Fq x2).bind fun y5=>(if (!y5)=true then ((Al x0).bind fun y6=>(some y6)) else (some x2)))
def Ug (x0:List Y) (x1:Int) (x2 x3:Bool) (x4:Y) (x5:List Y):Option (List Y):=(if x2=true then (if 0<=x1 then (if x1<(x5.length:Int) then (let z4:List Y:=x5.set x1.toNat x4; (I7 x0 x4 z4)) else none) else none) else ((Cy x5 x1 ([x4]:List Y)).bind fun y7=>(I7 x0 x4 y7)))
def dU (x0:List Y) (x1:Y):Option (List Y):=((Al x0).bind fun y1=>((BT x0 x1.1 ()).bind fun y2=>((Fq x0).bind fun y3=>(if (!y3)=true then (some y1) else (if y2.2=true then (if 0<=y2.1 then (if y2.1<(x0.length:Int) then (if (decide ((((x0.getD y2.1.toNat (ByteArray.empty,ByteArray.empty,0)).2).2)>=x1.2.2))=true then (some y1) else (I8 x0 y2.1 y2.2 (decide ((((x0.getD y2.1.toNat (ByteArray.empty,ByteArray.empty,0)).2).2)>=x1.2.2)) x1 y1)) else none) else none) else (I8 x0 y2.1 y2.2 false x1 y1))))))
theorem kZ:RO Uf I7:=jS (by kernel_rfl)
theorem ka:zZ Ug I8:=jS (by kernel_rfl)
theorem td:Ni dU M2:=cT EV rfl ⟨rfl,rfl⟩ (by kernel_rfl)
def qL:=cG ZL (AF FY) (AF FY) kx
def qM:=kE 0 [] [] 0 qL kx
def nR:St->Option (RT (A_.outs FY)):=lG ZK [] [0,3] 0 (AF FY) qM
def Ha (x0:List Int) (x1:Int):Option Bool:=nR ⟨[(0,.lst (.int .i64) x0),(3,.int .i64 x1)],[]⟩
def Oj (x0:List Int) (x1:Int):Option Bool:=(if (decide (x1<(x0.length:Int)))=true then (if 0<=x1 then (if x1<(x0.length:Int) then ((AU (x0.getD x1.toNat 0) 1 6).bind fun y1=>(if (!y1)=true then (some false) else (if (decide (x1>0))=true then (if 0<=(i64.wrap (x1-1)) then (if (i64.wrap (x1-1))<(x0.length:Int) then (if 0<=x1 then (if x1<(x0.length:Int) then (if (decide ((x0.getD (i64.wrap (x1-1)).toNat 0)>=(x0.getD x1.toNat 0)))=true then (some false) else (Ha x0 (i64.wrap (x1+1)))) else none) else none) else none) else none) else (Ha x0 (i64.wrap (x1+1)))))) else none) else none) else (some true))
def fh (x0:List Int):Option Bool:=(Ha x0 0)
theorem Wo:Ni Oj Ha:=lS (by kernel_rfl)
theorem vC:MJ fh DQ:=cT FY rfl ⟨rfl,rfl⟩ (by kernel_rfl)
def nS:=cG T8 (AF EW) (AF EW) kx
def nT:=kE 0 [] [0] 0 nS kx
def kc:St->Option (RT (A_.outs EW)):=lG T7 [] [0,3] 0 (AF EW) nT
def Gm (x0:List Y) (x1:Int):Option Bool:=kc ⟨[(0,.lst AD x0),(3,.int .i64 x1)],[]⟩
def NZ (x0:List Y) (x1:Int):Option Bool:=(if (decide (x1<(x0.length:Int)))=true then (if 0<=x1 then (if x1<(x0.length:Int) then ((AU (((x0.getD x1.toNat (ByteArray.empty,ByteArray.empty,0)).1).size:Int) 1 12).bind fun y1=>(if (!y1)=true then (some false) else (if (decide (((((x0.getD x1.toNat (ByteArray.empty,ByteArray.empty,0)).2).1).size:Int)>20))=true then (some false) else ((AU (((x0.getD x1.toNat (ByteArray.empty,ByteArray.empty,0)).2).2) 1 1000000000).bind fun y2=>(if (!y2)=true then (some false) else (if (decide (x1>0))=true then (if 0<=(i64.wrap (x1-1)) then (if (i64.wrap (x1-1))<(x0.length:Int) then (if (!(Op.bytesLess ((x0.getD (i64.wrap (x1-1)).toNat (ByteArray.empty,ByteArray.empty,0)).1).toList ((x0.getD x1.toNat (ByteArray.empty,ByteArray.empty,0)).1).toList))=true then (some false) else (Gm x0 (i64.wrap (x1+1)))) else none) else none) else (Gm x0 (i64.wrap (x1+1))))))))) else none) else none) else (some (decide ((x0.length:Int)<=12))))
def dV (x0:List Y):Option Bool:=(Gm x0 0)
theorem Uh:Ni NZ Gm:=lS (by kernel_rfl)
theorem tf:MJ dV Dd:=cT EW rfl ⟨rfl,rfl⟩ (by kernel_rfl)
def Wp (x0:wK):Option Bool:=(if (x0.1==0)=true then (if (x0.2.1==0)=true then (if (x0.2.2.1==0)=true then (if (false != Ph AD x0.2.2.2.1 (ByteArray.empty,ByteArray.empty,0))=true then (some ((x0.2.2.2.2.length:Int)==0)) else (some false)) else (some false)) else (some false)) else (some false))
theorem nU:MJ Wp ON:=cT Jg rfl ⟨rfl,rfl⟩ (by kernel_rfl)
def fE:=cG Qp (AF Ct) (AF Ct) kx
def fF:=kE 0 [(5,0)] [5] 1 fE kx
def dW:St->Option (RT (A_.outs Ct)):=lG Qo [(5,0)] [0,1,5,6] 1 (AF Ct) fF
def Ea (x0:List Int) (x1 x2:Int) (x3:List Int):Option (List Int):=dW ⟨[(0,.lst (.int .i64) x0),(1,.int .i64 x1),(5,.row 0),(6,.int .i64 x2)],[.rows 3 (.int .i64) x3]⟩
def JP (x0:List Int) (x1 x2:Int) (x3:List Int):Option (List Int):=(if (decide (x2<(x0.length:Int)))=true then (if 0<=x2 then (if x2<(x0.length:Int) then (if ((x0.getD x2.toNat 0) != x1)=true then (if 0<=x2 then (if x2<(x0.length:Int) then (if x3.length+([(x0.getD x2.toNat 0)]:List Int).length<=68719476736 then (Ea x0 x1 (i64.wrap (x2+1)) (x3++([(x0.getD x2.toNat 0)]:List Int))) else none) else none) else none) else (Ea x0 x1 (i64.wrap (x2+1)) x3)) else none) else none) else (some x3))
def Ui (x0:List Int) (x1:Int):Option (List Int):=(Ea x0 x1 0 ([]:List Int))
theorem Pa:bZ JP Ea:=lS (by kernel_rfl)
theorem kf:Ni Ui Iw:=cT Ct rfl ⟨rfl,rfl⟩ (by kernel_rfl)
def C0:=kE 0 [] [] 1 (AF AY) kx
def E8:St->Option (RT (A_.outs AY)):=lG Fc [(0,0)] [0,1,2,6] 1 (AF AY) C0
def Kg:=kB [(0,0)] [0,1,2,6] 1 E8
def Fd:=cG Fb Kg (AF AY) C0
def Kh:=kB [(0,0)] [0,1,2,6] 1 Fd
def Ki:=kE 1 [(0,0)] [0,1,2,6] 1 Fd C0
def Fe:=kE 2 [(0,0)] [0,1,2,6] 1 Kh Ki
def E9:St->Option (RT (A_.outs AY)):=lG Fa [(0,0)] [0,1,2,6,7] 1 (AF AY) Fe
def Kj:=kB [(0,0)] [0,1,2,6,7] 1 E9
def E_ (x0 x1 x2 x3:Int) (x4:Bool) (x5:List Int):Option (List Int):=cG FZ Kj (AF AY) Fe ⟨[(0,.row 0),(1,.int .i64 x0),(2,.int .i64 x1),(6,.int .i64 x2),(7,.int .i64 x3),(30,.bool x4)],[.mrow 3 (.int .i64) x5]⟩
def Bt (x0 x1 x2 x3:Int) (x4:List Int):Option (List Int):=E9 ⟨[(0,.row 0),(1,.int .i64 x0),(2,.int .i64 x1),(6,.int .i64 x2),(7,.int .i64 x3)],[.mrow 3 (.int .i64) x4]⟩
def Az (x0 x1 x2:Int) (x3:List Int):Option (List Int):=E8 ⟨[(0,.row 0),(1,.int .i64 x0),(2,.int .i64 x1),(6,.int .i64 x2)],[.mrow 3 (.int .i64) x3]⟩
def FA (x0 x1 x2 x3:Int) (x4:Bool) (x5:List Int):Option (List Int):=(if 0<=(i64.wrap (x3-1)) then (if (i64.wrap (x3-1))<(x5.length:Int) then (if 0<=x3 then (if x3<(x5.length:Int) then (if 0<=x3 then (if x3<(x5.length:Int) then (let z2:List Int:=x5.set x3.toNat (x5.getD ((i64.wrap (x3-1)).toNat) 0); (if 0<=(i64.wrap (x3-1)) then (if (i64.wrap (x3-1))<(z2.length:Int) then (let z3:List Int:=z2.set ((i64.wrap (x3-1)).toNat) (x5.getD x3.toNat 0); (Bt x0 x1 x2 (i64.wrap (x3-1)) z3)) else none) else none)) else none) else none) else none) else none) else none) else none)
def Cr (x0 x1 x2 x3:Int) (x4:List Int):Option (List Int):=(if (decide (x3>x0))=true then (if 0<=x3 then (if x3<(x4.length:Int) then (if 0<=(i64.wrap (x3-1)) then (if (i64.wrap (x3-1))<(x4.length:Int) then ((M3 (x4.getD x3.toNat 0) (x4.getD ((i64.wrap (x3-1)).toNat) 0)).bind fun y1=>(if y1=true then (E_ x0 x1 x2 x3 y1 x4) else (Az x0 x1 (i64.wrap (x2+1)) x4))) else none) else none) else none) else none) else (Az x0 x1 (i64.wrap (x2+1)) x4))
def Bu (x0 x1 x2:Int) (x3:List Int):Option (List Int):=(if (decide (x2<x1))=true then (Bt x0 x1 x2 x2 x3) else (some x3))
def DP (x1 x2:Int) (b0:List Int):Option (List Int):=(Az x1 x2 (i64.wrap (x1+1)) b0)
theorem KR:zZ FA E_:=jS (by kernel_rfl)
theorem FB:zG Cr Bt:=lS (by kernel_rfl)
theorem Cs:bZ Bu Az:=lS (by kernel_rfl)
theorem GF:RO DP DO:=cT AY rfl ⟨rfl,rfl⟩ (by kernel_rfl)
def dX (x0 x1:Int):Option Bool:=((Kv x0).bind fun y1=>(if y1=true then ((Kv x1).bind fun y2=>(if (!y2)=false then (some (decide (x0<x1))) else (some true))) else (some (decide (x0<x1)))))
theorem th:Ni dX M3:=cT Mw rfl ⟨rfl,rfl⟩ (by kernel_rfl)
def Gn (x0 x1:Int):Option Int:=cG Qq (AF Cu) (AF Cu) kx ⟨[(0,.int .u64 x0),(2,.int .i64 x1)],[]⟩
def JQ (x0 x1:Int):Option Int:=cG Qr (AF Cu) (AF Cu) kx ⟨[(0,.int .u64 x0),(2,.int .i64 x1)],[]⟩
def JR (x0 x1:Int):Option Int:=(if (decide (x0>=256))=true then (if 8<0 then none else (if 0<=(IntKind.u8.wrap (Int.fdiv x0 (2^(min (8:Int).toNat (IntKind.bits .u64))))) then (if (IntKind.u8.wrap (Int.fdiv x0 (2^(min (8:Int).toNat (IntKind.bits .u64)))))<((⟨#[0,1,2,2,3,3,3,3,4,4,4,4,4,4,4,4,5,5,5,5,5,5,5,5,5,5,5,5,5,5,5,5,6,6,6,6,6,6,6,6,6,6,6,6,6,6,6,6,6,6,6,6,6,6,6,6,6,6,6,6,6,6,6,6,7,7,7,7,7,7,7,7,7,7,7,7,7,7,7,7,7,7,7,7,7,7,7,7,7,7,7,7,7,7,7,7,7,7,7,7,7,7,7,7,7,7,7,7,7,7,7,7,7,7,7,7,7,7,7,7,7,7,7,7,7,7,7,7,8,8,8,8,8,8,8,8,8,8,8,8,8,8,8,8,8,8,8,8,8,8,8,8,8,8,8,8,8,8,8,8,8,8,8,8,8,8,8,8,8,8,8,8,8,8,8,8,8,8,8,8,8,8,8,8,8,8,8,8,8,8,8,8,8,8,8,8,8,8,8,8,8,8,8,8,8,8,8,8,8,8,8,8,8,8,8,8,8,8,8,8,8,8,8,8,8,8,8,8,8,8,8,8,8,8,8,8,8,8,8,8,8,8,8,8,8,8,8,8,8,8,8,8,8,8,8,8]⟩:ByteArray).size:Int) then (some (i64.wrap ((i64.wrap (x1+8))+(i64.wrap (((⟨#[0,1,2,2,3,3,3,3,4,4,4,4,4,4,4,4,5,5,5,5,5,5,5,5,5,5,5,5,5,5,5,5,6,6,6,6,6,6,6,6,6,6,6,6,6,6,6,6,6,6,6,6,6,6,6,6,6,6,6,6,6,6,6,6,7,7,7,7,7,7,7,7,7,7,7,7,7,7,7,7,7,7,7,7,7,7,7,7,7,7,7,7,7,7,7,7,7,7,7,7,7,7,7,7,7,7,7,7,7,7,7,7,7,7,7,7,7,7,7,7,7,7,7,7,7,7,7,7,8,8,8,8,8,8,8,8,8,8,8,8,8,8,8,8,8,8,8,8,8,8,8,8,8,8,8,8,8,8,8,8,8,8,8,8,8,8,8,8,8,8,8,8,8,8,8,8,8,8,8,8,8,8,8,8,8,8,8,8,8,8,8,8,8,8,8,8,8,8,8,8,8,8,8,8,8,8,8,8,8,8,8,8,8,8,8,8,8,8,8,8,8,8,8,8,8,8,8,8,8,8,8,8,8,8,8,8,8,8,8,8,8,8,8,8,8,8,8,8,8,8,8,8,8,8,8,8]⟩:ByteArray).data.toList.getD (IntKind.u8.wrap (Int.fdiv x0 (2^(min (8:Int).toNat (IntKind.bits .u64))))).toNat 0).toNat:Int))))) else none) else none)) else (if 0<=(IntKind.u8.wrap x0) then (if (IntKind.u8.wrap x0)<((⟨#[0,1,2,2,3,3,3,3,4,4,4,4,4,4,4,4,5,5,5,5,5,5,5,5,5,5,5,5,5,5,5,5,6,6,6,6,6,6,6,6,6,6,6,6,6,6,6,6,6,6,6,6,6,6,6,6,6,6,6,6,6,6,6,6,7,7,7,7,7,7,7,7,7,7,7,7,7,7,7,7,7,7,7,7,7,7,7,7,7,7,7,7,7,7,7,7,7,7,7,7,7,7,7,7,7,7,7,7,7,7,7,7,7,7,7,7,7,7,7,7,7,7,7,7,7,7,7,7,8,8,8,8,8,8,8,8,8,8,8,8,8,8,8,8,8,8,8,8,8,8,8,8,8,8,8,8,8,8,8,8,8,8,8,8,8,8,8,8,8,8,8,8,8,8,8,8,8,8,8,8,8,8,8,8,8,8,8,8,8,8,8,8,8,8,8,8,8,8,8,8,8,8,8,8,8,8,8,8,8,8,8,8,8,8,8,8,8,8,8,8,8,8,8,8,8,8,8,8,8,8,8,8,8,8,8,8,8,8,8,8,8,8,8,8,8,8,8,8,8,8,8,8,8,8,8,8]⟩:ByteArray).size:Int) then (some (i64.wrap (x1+(i64.wrap (((⟨#[0,1,2,2,3,3,3,3,4,4,4,4,4,4,4,4,5,5,5,5,5,5,5,5,5,5,5,5,5,5,5,5,6,6,6,6,6,6,6,6,6,6,6,6,6,6,6,6,6,6,6,6,6,6,6,6,6,6,6,6,6,6,6,6,7,7,7,7,7,7,7,7,7,7,7,7,7,7,7,7,7,7,7,7,7,7,7,7,7,7,7,7,7,7,7,7,7,7,7,7,7,7,7,7,7,7,7,7,7,7,7,7,7,7,7,7,7,7,7,7,7,7,7,7,7,7,7,7,8,8,8,8,8,8,8,8,8,8,8,8,8,8,8,8,8,8,8,8,8,8,8,8,8,8,8,8,8,8,8,8,8,8,8,8,8,8,8,8,8,8,8,8,8,8,8,8,8,8,8,8,8,8,8,8,8,8,8,8,8,8,8,8,8,8,8,8,8,8,8,8,8,8,8,8,8,8,8,8,8,8,8,8,8,8,8,8,8,8,8,8,8,8,8,8,8,8,8,8,8,8,8,8,8,8,8,8,8,8,8,8,8,8,8,8,8,8,8,8,8,8,8,8,8,8,8,8]⟩:ByteArray).data.toList.getD (IntKind.u8.wrap x0).toNat 0).toNat:Int))))) else none) else none))
def Pb (x0 x1:Int):Option Int:=(if (decide (x0>=65536))=true then (if 16<0 then none else (Gn (Int.fdiv x0 (2^(min (16:Int).toNat (IntKind.bits .u64)))) (i64.wrap (x1+16)))) else (Gn x0 x1))
def Uj (x0:Int):Option Int:=(if (decide (x0>=4294967296))=true then (if 32<0 then none else (JQ (Int.fdiv x0 (2^(min (32:Int).toNat (IntKind.bits .u64)))) 32)) else (JQ x0 0))
theorem dY:Ni JR Gn:=jS (by kernel_rfl)
theorem dZ:Ni Pb JQ:=jS (by kernel_rfl)
theorem kg:MJ Uj M4:=cT Cu rfl ⟨rfl,rfl⟩ (by kernel_rfl)
def Ew:=cG BP (AF AL) (AF AL) kx
def Ex:=kE 0 [] [0,1,2,8,9] 0 Ew kx
def Ec:St->Option (RT (A_.outs AL)):=lG CH [] [0,1,2,8,9,10] 0 (AF AL) Ex
def CD (x0:List Y) (x1:ByteArray) (x2 x3:Int):Option (Int×Bool):=cG BP (AF AL) (AF AL) kx ⟨[(0,.lst AD x0),(1,.str x1),(2,.fn 160 []),(8,.int .i64 x2),(9,.int .i64 x3)],[]⟩
def AP (x0:List Y) (x1:ByteArray) (x2 x3 x4:Int):Option (Int×Bool):=Ec ⟨[(0,.lst AD x0),(1,.str x1),(2,.fn 160 []),(8,.int .i64 x2),(9,.int .i64 x3),(10,.int .i64 x4)],[]⟩
def CE (x0:List Y) (x1:ByteArray) (x2 x3:Int):Option (Int×Bool):=(if (decide (x3<x2))=true then (if 0<=x3 then (if x3<(x0.length:Int) then ((Jk (x0.getD x3.toNat (ByteArray.empty,ByteArray.empty,0)) x1).bind fun y2=>(some (x3,(y2==0)))) else none) else none) else (some (x3,false)))
def BM (x0:List Y) (x1:ByteArray) (x2 x3 x4:Int):Option (Int×Bool):=(if (decide (x3<x4))=true then (if 1<0 then none else (if 0<=(i64.wrap (Int.fdiv (IntKind.u64.wrap (i64.wrap (x3+x4))) (2^(min (1:Int).toNat (IntKind.bits .u64))))) then (if (i64.wrap (Int.fdiv (IntKind.u64.wrap (i64.wrap (x3+x4))) (2^(min (1:Int).toNat (IntKind.bits .u64)))))<(x0.length:Int) then ((Jk (x0.getD (i64.wrap (Int.fdiv (IntKind.u64.wrap (i64.wrap (x3+x4))) (2^(min (1:Int).toNat (IntKind.bits .u64))))).toNat (ByteArray.empty,ByteArray.empty,0)) x1).bind fun y1=>(if (decide (y1<0))=true then (AP x0 x1 x2 (i64.wrap ((i64.wrap (Int.fdiv (IntKind.u64.wrap (i64.wrap (x3+x4))) (2^(min (1:Int).toNat (IntKind.bits .u64)))))+1)) x4) else (AP x0 x1 x2 x3 (i64.wrap (Int.fdiv (IntKind.u64.wrap (i64.wrap (x3+x4))) (2^(min (1:Int).toNat (IntKind.bits .u64)))))))) else none) else none)) else (CD x0 x1 x2 x3))
def CU (x0:List Y) (x1:ByteArray) (x2:Unit):Option (Int×Bool):=(AP x0 x1 (x0.length:Int) 0 (x0.length:Int))
theorem Ed:bZ CE CD:=jS (by kernel_rfl)
theorem CF:zG BM AP:=lS (by kernel_rfl)
theorem FS:RO CU BT:=cT AL rfl ⟨rfl,rfl⟩ (by kernel_rfl)
def Wq (x0:Y) (x1:ByteArray):Option Int:=((M6 x0.1 x1).bind fun y1=>(some y1))
theorem nV:Ni Wq Jk:=cT Jh rfl ⟨rfl,rfl⟩ (by kernel_rfl)
def aO (x0:Int):Option Bool:=(some (x0 != x0))
theorem qN:MJ aO Kv:=cT Kt rfl ⟨rfl,rfl⟩ (by kernel_rfl)
end
end Go.Proofs.YtokiohnjegbnpaaGreat.Core


namespace Go.Proofs.YtokiohnjegbnpaaGreat.Core
open Go
theorem Ac {n:Int} (h:-9223372036854775808<=n/\n<=9223372036854775807):IntKind.i64.wrap n=n:=IntWalk.i64_in n h
theorem AK {i:Nat} (h:i<9223372036854775807):IntKind.i64.wrap ((i:Int)+1)=((i+1:Nat):Int):=by
 rw [Ac (by omega)]
 omega
theorem Ee {P:Nat->Prop} {n:Nat} (h0:P n) (h:∀ i,i<n->P (i+1)->P i):∀ i,i<=n->P i:=by
 intro i hi
 induction hk:n-i generalizing i with
 | zero =>
  have:i=n:=by omega
  subst this
  exact h0
 | succ k ih=>exact h i (by omega) (ih (i+1) (by omega) (by omega))
theorem AT {α:Type} {xs:List α} {i:Nat} {d:α} (h:i<xs.length):xs.getD i d=xs[i]:=by
 simp [List.getD,h]

theorem At (a b c:Int):AU a b c=some (decide (b<=a)&&decide (a<=c)):=xX (by
 unfold jt
 by_cases h:b<=a<;>simp [h])
theorem Ar (a b c:Int):Af a b c=some (decide (b<=a)&&decide (a<=c)):=tB (by
 unfold cf
 by_cases h:b<=a<;>simp [h])
def ED (x:Int×ByteArray×ByteArray×Int×Int×Int×Int×Int×ByteArray):Int :=
 if (decide ((0:Int)<=x.2.2.2.2.2.2.1)&&decide (x.2.2.2.2.2.2.1<=9))&&(decide ((0:Int)<=x.2.2.2.2.2.2.2.1)&&decide (x.2.2.2.2.2.2.2.1<=999)) then IntKind.i64.wrap (IntKind.i64.wrap (1000*x.2.2.2.2.2.2.1)+x.2.2.2.2.2.2.2.1) else 0
theorem QR x:FO x=some (ED x):=xV (by
 unfold jp ED
 simp only [At,X]
 generalize (decide ((0:Int)<=x.2.2.2.2.2.2.1)&&decide (x.2.2.2.2.2.2.1<=9))=a
 generalize (decide ((0:Int)<=x.2.2.2.2.2.2.2.1)&&decide (x.2.2.2.2.2.2.2.1<=999))=b
 cases a<;>cases b<;>simp)
theorem QS x:DW x=some (ED x):=xL (by
 unfold jV ED
 simp only [Ar,X]
 generalize (decide ((0:Int)<=x.2.2.2.2.2.2.1)&&decide (x.2.2.2.2.2.2.1<=9))=a
 generalize (decide ((0:Int)<=x.2.2.2.2.2.2.2.1)&&decide (x.2.2.2.2.2.2.2.1<=999))=b
 cases a<;>cases b<;>simp)

def BJ (x:List (ByteArray×ByteArray×Int)) (k:ByteArray):ByteArray×ByteArray×Int :=
 (x.find? fun a=>a.1.toList==k.toList).getD (ByteArray.empty,ByteArray.empty,0)
theorem BF {α:Type} {x:List α} {i:Nat} (h:i<x.length):x.drop i=x[i]::x.drop (i+1):=List.drop_eq_getElem_cons h
theorem Wr (x k) (h:x.length<=maxLen):Oy x k=some (BJ x k):=u_ (by
 have hm:x.length<=9223372036854775807:=h
 unfold fc
 exact Ee (n:=x.length) (P:=fun i=>∀ z,Jr x k (i:Int) z=some (BJ (x.drop i) k)) (fun z=>Wa (by
  unfold OY
  rw [if_neg (by simp),List.drop_length]
  rfl)) (fun i hi ih z=>Wa (by
  unfold OY
  simp only [show ((i:Int)<(x.length:Int)) from by omega,decide_true,if_true,show (0:Int)<=(i:Int) from by omega,Int.toNat_natCast,AT hi,AK (show i<9223372036854775807 by omega)]
  rw [BF hi]
  by_cases hk:(x[i].1.toList==k.toList)=true
  ·rw [if_pos hk]
   unfold BJ
   rw [List.find?_cons,hk]
   rfl
  ·rw [if_neg hk,ih]
   unfold BJ
   rw [List.find?_cons,Bool.eq_false_iff.2 hk])) 0 (by omega) _)
theorem Ws (x k) (h:x.length<=maxLen):Ox x k=some (BJ x k):=u9 (by
 have hm:x.length<=9223372036854775807:=h
 unfold fb
 exact Ee (n:=x.length) (P:=fun i=>∀ z,Jq k x (x.length:Int) (i:Int) z=some (BJ (x.drop i) k)) (fun z=>WW (by
  unfold OX
  rw [if_neg (by simp),List.drop_length]
  rfl)) (fun i hi ih z=>WW (by
  unfold OX
  simp only [show ((i:Int)<(x.length:Int)) from by omega,decide_true,if_true,show (0:Int)<=(i:Int) from by omega,Int.toNat_natCast,AT hi,AK (show i<9223372036854775807 by omega)]
  rw [BF hi]
  by_cases hk:(x[i].1.toList==k.toList)=true
  ·rw [if_pos hk]
   unfold BJ
   rw [List.find?_cons,hk]
   rfl
  ·rw [if_neg hk,ih]
   unfold BJ
   rw [List.find?_cons,Bool.eq_false_iff.2 hk])) 0 (by omega) _)

theorem QT k:Rd k=some (decide (1<=(k.size:Int))&&decide ((k.size:Int)<=12)):=xZ (by simp [kA,Ar])
theorem Fk n:EI n=some (decide (1<=n)&&decide (n<=6)):=uv (by simp [fZ,Ar])
def xh (v:ByteArray):Bool:=v.toList==(⟨#[]⟩:ByteArray).toList
theorem nW (v:ByteArray):(v.toList==(⟨#[]⟩:ByteArray).toList)=xh v:=rfl
def kh (op:Int) (k v:ByteArray):Bool :=
 (decide (op=1)||decide (op=2))&&(decide (1<=(k.size:Int))&&decide ((k.size:Int)<=12))&&decide ((v.size:Int)<=20)&&(decide (op=1)||xh v)
def Lc (x:Int×Int×Int×Int×ByteArray×ByteArray):Bool :=
 decide (1<=x.1)&&decide (x.1<=6)&&(decide (1<=x.2.1)&&decide (x.2.1<=6))&&decide (0<=x.2.2.1) &&
  (if x.1=1 then kh x.2.2.2.1 x.2.2.2.2.1 x.2.2.2.2.2 else decide (x.2.2.2.1=0)&&xh x.2.2.2.2.1&&xh x.2.2.2.2.2)
theorem qO a k v:Mx a 0 k v=some (kh a k v):=j6 (by
 have w:∀ b,Ky a v b=some (decide (a=1)||xh v):=fun b=>Zz (by
  unfold QI
  rw [nW]
  by_cases h:a=1<;>simp [h])
 unfold Xo kh
 have AA3:decide ((v.size:Int)>20)=!decide ((v.size:Int)<=20):=by
  by_cases h:(v.size:Int)<=20<;>simp [h]
  omega
 simp only [AA3,Ar,QT,X,w]
 by_cases h1:a=1
 ·by_cases h2:1<=(k.size:Int)<;>by_cases h3:(k.size:Int)<=12<;>by_cases h4:(v.size:Int)<=20<;>simp [h1,h2,h3,h4]
 ·by_cases h1b:a=2
  ·by_cases h2:1<=(k.size:Int)<;>by_cases h3:(k.size:Int)<=12<;>by_cases h4:(v.size:Int)<=20<;>simp [h1b,h2,h3,h4]
  ·have:¬ (1<=a/\a<=2):=by omega
   by_cases h5:1<=a
   ·have:¬ a<=2:=by omega
    simp [h1,h1b,this]
   ·simp [h1,h1b,h5])
theorem ki x:SG x=some (Lc x):=s0 (by
 have w:∀ b,M_ b x=some (if x.1=1 then kh x.2.2.2.1 x.2.2.2.2.1 x.2.2.2.2.2 else decide (x.2.2.2.1=0)&&xh x.2.2.2.2.1&&xh x.2.2.2.2.2):=fun b=>jj (by
  unfold UC
  simp only [nW]
  by_cases h:x.1=1
  ·simp [h,qO]
  ·by_cases h2:x.2.2.2.1=0<;>rcases Bool.eq_false_or_eq_true (xh x.2.2.2.2.1) with h3 | h3<;>simp [h,h2,h3])
 unfold ca Lc
 simp only [Ar,Fk,X,w]
 by_cases h1:1<=x.1<;>by_cases h2:x.1<=6<;>by_cases h3:1<=x.2.1<;>by_cases h4:x.2.1<=6<;>by_cases h5:0<=x.2.2.1<;>simp [h1,h2,h3,h4,h5]<;>omega)
theorem kj x:SH x=some (Lc x):=s_ (by
 have w:∀ b,NA b x=some (if x.1=1 then kh x.2.2.2.1 x.2.2.2.2.1 x.2.2.2.2.2 else decide (x.2.2.2.1=0)&&xh x.2.2.2.2.1&&xh x.2.2.2.2.2):=fun b=>jm (by
  unfold UD kh
  simp only [nW]
  by_cases h:x.1=1
  ·simp only [At,X]
   by_cases g1:x.2.2.2.1=1
   ·by_cases h2:1<=(x.2.2.2.2.1.size:Int)<;>by_cases h3:(x.2.2.2.2.1.size:Int)<=12<;>by_cases h4:(x.2.2.2.2.2.size:Int)<=20<;>simp [h,g1,h2,h3,h4]
   ·by_cases g2:x.2.2.2.1=2
    ·by_cases h2:1<=(x.2.2.2.2.1.size:Int)<;>by_cases h3:(x.2.2.2.2.1.size:Int)<=12<;>by_cases h4:(x.2.2.2.2.2.size:Int)<=20<;>simp [h,g2,h2,h3,h4]
    ·simp [h,g1,g2]
  ·by_cases h2:x.2.2.2.1=0<;>rcases Bool.eq_false_or_eq_true (xh x.2.2.2.2.1) with h3 | h3<;>simp [h,h2,h3])
 unfold cc Lc
 simp only [At,X,w]
 by_cases h1:1<=x.1<;>by_cases h2:x.1<=6<;>by_cases h3:1<=x.2.1<;>by_cases h4:x.2.1<=6<;>by_cases h5:0<=x.2.2.1<;>simp [h1,h2,h3,h4,h5]<;>omega)

def Jw (a:ByteArray×ByteArray×Int):Bool:=(decide (1<=(a.1.size:Int))&&decide ((a.1.size:Int)<=12))&&decide ((a.2.1.size:Int)<=20)&&(decide (1<=a.2.2)&&decide (a.2.2<=1000000000))
def B_ (x:List (ByteArray×ByteArray×Int)) (i:Nat):Nat->Bool
 | 0=>decide ((x.length:Int)<=12)
 | k+1=>Jw (x.getD i (ByteArray.empty,ByteArray.empty,0))&&(decide (i=0)||Op.bytesLess (x.getD (i-1) (ByteArray.empty,ByteArray.empty,0)).1.toList (x.getD i (ByteArray.empty,ByteArray.empty,0)).1.toList)&&B_ x (i+1) k
theorem AA3 (n:Int):decide (n>20)=!decide (n<=20):=by
 by_cases h:n<=20<;>simp [h]
 omega
theorem eD {i:Nat} (h:i<9223372036854775807) (h0:0<i):IntKind.i64.wrap ((i:Int)-1)=((i-1:Nat):Int):=by
 rw [Ac (by omega)]
 omega
theorem I9 (x) (h:x.length<=maxLen):Dd x=some (B_ x 0 x.length):=tf (by
 have hm:x.length<=9223372036854775807:=h
 unfold dV
 have:=Ee (n:=x.length) (P:=fun i=>Gm x (i:Int)=some (B_ x i (x.length-i))) (Uh (by
  unfold NZ
  rw [if_neg (by simp),Nat.sub_self]
  rfl)) (fun i hi ih=>Uh (by
  unfold NZ
  have e:x.length-i=(x.length-(i+1))+1:=by omega
  simp only [show ((i:Int)<(x.length:Int)) from by omega,decide_true,if_true,show (0:Int)<=(i:Int) from by omega,Int.toNat_natCast,AK (show i<9223372036854775807 by omega),ih,At,X,AA3]
  rw [e,B_,Jw]
  generalize (decide (1<=((x.getD i (ByteArray.empty,ByteArray.empty,0)).1.size:Int))&&decide (((x.getD i (ByteArray.empty,ByteArray.empty,0)).1.size:Int)<=12))=a
  generalize decide (((x.getD i (ByteArray.empty,ByteArray.empty,0)).2.1.size:Int)<=20)=b
  generalize (decide (1<=(x.getD i (ByteArray.empty,ByteArray.empty,0)).2.2)&&decide ((x.getD i (ByteArray.empty,ByteArray.empty,0)).2.2<=1000000000))=c
  cases a
  ·simp
  cases b
  ·simp
  cases c
  ·simp
  by_cases h0:0<i
  ·rw [eD (by omega) h0]
   simp only [Int.toNat_natCast,show ((0:Int)<=((i-1:Nat):Int)) from by omega,show (((i-1:Nat):Int)<(x.length:Int)) from by omega,if_true]
   rcases Bool.eq_false_or_eq_true (Op.bytesLess (x.getD (i-1) (ByteArray.empty,ByteArray.empty,0)).1.toList (x.getD i (ByteArray.empty,ByteArray.empty,0)).1.toList) with hb | hb<;>simp only [hb]<;>simp [h0,show i≠0 by omega]
  ·have:i=0:=by omega
   subst this
   simp)) 0 (by omega)
 simpa using this)
theorem Na (x) (h:x.length<=maxLen) (hl:∀ a b:List UInt8,(Op.bytesLess a b||a==b)=!Op.bytesLess b a):Fq x=some (B_ x 0 x.length):=tC (by
 have hm:x.length<=9223372036854775807:=h
 unfold cj
 have:=Ee (n:=x.length) (P:=fun i=>Gg x x (x.length:Int) (i:Int)=some (B_ x i (x.length-i))) (UF (by
  unfold ND
  rw [if_neg (by simp),Nat.sub_self]
  rfl)) (fun i hi ih=>UF (by
  unfold ND
  have e:x.length-i=(x.length-(i+1))+1:=by omega
  simp only [show ((i:Int)<(x.length:Int)) from by omega,decide_true,if_true,show (0:Int)<=(i:Int) from by omega,Int.toNat_natCast,AK (show i<9223372036854775807 by omega),ih,Ar,QT,X,AA3,hl]
  rw [e,B_,Jw]
  generalize (decide (1<=((x.getD i (ByteArray.empty,ByteArray.empty,0)).1.size:Int))&&decide (((x.getD i (ByteArray.empty,ByteArray.empty,0)).1.size:Int)<=12))=a
  generalize decide (((x.getD i (ByteArray.empty,ByteArray.empty,0)).2.1.size:Int)<=20)=b
  generalize (decide (1<=(x.getD i (ByteArray.empty,ByteArray.empty,0)).2.2)&&decide ((x.getD i (ByteArray.empty,ByteArray.empty,0)).2.2<=1000000000))=c
  cases a
  ·simp
  cases b
  ·simp
  cases c
  ·simp
  by_cases h0:0<i
  ·rw [eD (by omega) h0]
   simp only [Int.toNat_natCast,show ((0:Int)<=((i-1:Nat):Int)) from by omega,show (((i-1:Nat):Int)<(x.length:Int)) from by omega,if_true]
   rcases Bool.eq_false_or_eq_true (Op.bytesLess (x.getD (i-1) (ByteArray.empty,ByteArray.empty,0)).1.toList (x.getD i (ByteArray.empty,ByteArray.empty,0)).1.toList) with hb | hb<;>simp only [hb]<;>simp [h0,show i≠0 by omega]
  ·have:i=0:=by omega
   subst this
   simp)) 0 (by omega)
 simpa using this)
theorem Pc:∀ a b:List UInt8,(Op.bytesLess a b||a==b)=!Op.bytesLess b a
 | [],[]=>rfl
 | [],_::_=>rfl
 | _::_,[]=>rfl
 | a::l,b::m=>by
  have ih:=Pc l m
  simp only [Op.bytesLess]
  by_cases h1:a<b
  ·have h2:¬ b<a:=by exact UInt8.not_lt.2 (UInt8.le_of_lt h1)
   have h3:¬ b=a:=fun h=>by subst h; exact absurd h1 (UInt8.lt_irrefl _)
   simp [h1,h2,h3]
  ·by_cases h2:b<a
   ·have h3:¬ a=b:=fun h=>by subst h; exact absurd h2 (UInt8.lt_irrefl _)
    simp [h1,h2,h3]
   ·have h3:a=b:=UInt8.le_antisymm (UInt8.not_lt.1 h2) (UInt8.not_lt.1 h1)
    subst h3
    simpa [h1] using ih

abbrev AN:Type:=ByteArray×ByteArray×Int
abbrev tj:AN:=(ByteArray.empty,ByteArray.empty,(0:Int))
theorem eE:∀ a:List UInt8,Op.bytesLess a a=false
 | []=>rfl
 | a::l=>by simp [Op.bytesLess,eE l,UInt8.lt_irrefl]
theorem da:∀ {a b c:List UInt8},Op.bytesLess a b=true->Op.bytesLess b c=true->Op.bytesLess a c=true
 | _,[],_,h,_=>by cases ‹List UInt8› <;> simp [Op.bytesLess] at h
 | _,_::_,[],_,h=>by simp [Op.bytesLess] at h
 | [],_::_,_::_,_,_=>rfl
 | a::x,b::y,c::z,h,g=>by
  simp only [Op.bytesLess,Bool.or_eq_true,decide_eq_true_eq,Bool.and_eq_true,beq_iff_eq] at h g ⊢
  rcases h with h | ⟨rfl,h⟩
  ·rcases g with g | ⟨rfl,g⟩
   ·exact .inl (UInt8.lt_trans h g)
   ·exact .inl h
  ·rcases g with g | ⟨rfl,g⟩
   ·exact .inl g
   ·exact .inr ⟨rfl,da h g⟩
theorem tl:∀ a b:List UInt8,decide (Lib.compareBytes a b<0)=Op.bytesLess a b/\(Lib.compareBytes a b==0)=(a==b)
 | [],[]=>⟨rfl,rfl⟩
 | [],_::_=>⟨rfl,rfl⟩
 | _::_,[]=>⟨rfl,rfl⟩
 | a::l,b::m=>by
  have ih:=tl l m
  simp only [Lib.compareBytes,Op.bytesLess]
  by_cases h1:a<b
  ·have h3:¬ a=b:=fun h=>by subst h; exact absurd h1 (UInt8.lt_irrefl _)
   simp [h1,h3]
  ·by_cases h2:b<a
   ·have h3:¬ a=b:=fun h=>by subst h; exact absurd h2 (UInt8.lt_irrefl _)
    simp [h1,h2,h3]
   ·have h3:a=b:=UInt8.le_antisymm (UInt8.not_lt.1 h2) (UInt8.not_lt.1 h1)
    subst h3
    simpa [h1] using ih
theorem RI (a:AN) (k:ByteArray):Jk a k=some (Lib.compareBytes a.1.toList k.toList):=nV (by
 unfold Wq
 rw [jK,ByteArray.toList_eq,ByteArray.toList_eq]
 rfl)
def Wt (x:List AN) (i:Nat) (k:ByteArray):Bool:=match x[i]? with
 | some b=>b.1.toList==k.toList
 | none=>false
def U7 (k:ByteArray) (b:AN):Bool:=Op.bytesLess b.1.toList k.toList
def K6 (x:List AN):Prop:=∀ a b (ha:a<x.length) (hb:b<x.length),a<b->Op.bytesLess x[a].1.toList x[b].1.toList=true
def oG (x:List AN) (k:ByteArray) (i j:Nat):Prop:=∀ a (ha:a<x.length),(a<i->U7 k x[a]=true)/\(j<=a->U7 k x[a]=false)
theorem ADy {i j:Nat} (h:i+j<=137438953472):IntKind.i64.wrap (Int.fdiv (IntKind.u64.wrap (IntKind.i64.wrap ((i:Int)+(j:Int)))) (2^(min (1:Int).toNat (IntKind.bits .u64))))=(((i+j) / 2:Nat):Int):=by
 have e1:IntKind.i64.wrap ((i:Int)+(j:Int))=((i+j:Nat):Int):=by rw [Ac (by omega)]; omega
 have e2:IntKind.u64.wrap ((i+j:Nat):Int)=((i+j:Nat):Int):=by
  simp only [IntKind.wrap,IntKind.bits,IntKind.signed]
  simp
  omega
 have e3:(2:Int)^(min (1:Int).toNat (IntKind.bits .u64))=2:=by decide
 rw [e1,e2,e3,Int.fdiv_eq_ediv_of_nonneg _ (by omega)]
 rw [Ac (by omega)]
 omega
theorem yo (x:List AN) (k:ByteArray) (hx:x.length<=68719476736):∀ (m i j:Nat),j-i<=m->i<=j->j<=x.length ->
  ∃ r:Nat,i<=r/\r<=j/\AP x k (x.length:Int) (i:Int) (j:Int)=some ((r:Int),Wt x r k)/\(K6 x->oG x k i j->oG x k r r):=by
 intro m
 induction m with
 | zero =>
  intro i j hm hij hj
  have:i=j:=by omega
  subst this
  refine ⟨i,Nat.le_refl _,Nat.le_refl _,CF ?_,fun _ h=>h⟩
  unfold BM
  rw [if_neg (by simp)]
  refine Ed ?_
  unfold CE Wt
  by_cases h:i<x.length
  ·simp only [show ((i:Int)<(x.length:Int)) from by omega,decide_true,if_true,show (0:Int)<=(i:Int) from by omega,Int.toNat_natCast,AT h,RI,X,(tl _ _).2,List.getElem?_eq_getElem h]
  ·rw [if_neg (by simp; omega),List.getElem?_eq_none (by omega)]
 | succ m ih =>
  intro i j hm hij hj
  by_cases hlt:i<j
  ·have hmid:i<=(i+j) / 2/\(i+j) / 2<j:=by omega
   generalize hh:(i+j) / 2=h at hmid
   have hb:h<x.length:=by omega
   have step:∀ r,(if U7 k x[h]=true then AP x k (x.length:Int) ((h+1:Nat):Int) (j:Int) else AP x k (x.length:Int) (i:Int) (h:Int))=some r->AP x k (x.length:Int) (i:Int) (j:Int)=some r:=fun r hr=>CF (by
    unfold BM
    simp only [show ((i:Int)<(j:Int)) from by omega,decide_true,if_true,ADy (show i+j<=137438953472 by omega),hh,show ¬ ((1:Int)<0) from by decide,if_false,show ((0:Int)<=(h:Int)) from by omega,show ((h:Int)<(x.length:Int)) from by omega,Int.toNat_natCast,AT hb,RI,X,(tl _ _).1,AK (show h<9223372036854775807 by omega)]
    exact hr)
   cases hl:U7 k x[h] with
   | true =>
    obtain ⟨r,h1,h2,h3,h4⟩:=ih (h+1) j (by omega) (by omega) hj
    refine ⟨r,by omega,h2,step _ (by rw [hl]; exact h3),fun ho hc=>h4 ho fun a ha=>⟨fun hlt=>?_,(hc a ha).2⟩⟩
    by_cases e:a=h
    ·subst e; exact hl
    ·exact da (ho a h ha hb (by omega)) hl
   | false =>
    obtain ⟨r,h1,h2,h3,h4⟩:=ih i h (by omega) hmid.1 (by omega)
    refine ⟨r,h1,by omega,step _ (by rw [hl]; exact h3),fun ho hc=>h4 ho fun a ha=>⟨(hc a ha).1,fun hle=>?_⟩⟩
    by_cases e:a=h
    ·subst e; exact hl
    ·cases q:U7 k x[a] with
     | false=>rfl
     | true =>
      have:=da (ho h a hb ha (by omega)) q
      rw [show Op.bytesLess x[h].1.toList k.toList=false from hl] at this
      cases this
  ·have:i=j:=by omega
   subst this
   exact ih i i (by omega) (Nat.le_refl _) hj
theorem AA4 (x:List AN) (k:ByteArray) (hx:x.length<=68719476736):∃ r:Nat,r<=x.length/\BT x k ()=some ((r:Int),Wt x r k)/\(K6 x->oG x k r r):=by
 obtain ⟨r,_,h2,h3,h4⟩:=yo x k hx x.length 0 x.length (by omega) (by omega) (Nat.le_refl _)
 refine ⟨r,h2,FS (by unfold CU; exact h3),fun ho=>h4 ho fun a ha=>⟨fun h=>by omega,fun h=>by omega⟩⟩
theorem db {x:List AN}:∀ (m i:Nat),B_ x i m=true->∀ a,i<=a->a<i+m->a≠0->Op.bytesLess (x.getD (a-1) tj).1.toList (x.getD a tj).1.toList=true
 | 0,i,_,a,h1,h2,_=>by omega
 | m+1,i,h,a,h1,h2,h0=>by
  simp only [B_,Bool.and_eq_true,Bool.or_eq_true,decide_eq_true_eq] at h
  obtain ⟨⟨_,h3⟩,h4⟩:=h
  by_cases e:a=i
  ·subst e
   exact h3.resolve_left h0
  ·exact db m (i+1) h4 a (by omega) (by omega) h0
theorem dd {x:List AN} (h:B_ x 0 x.length=true):K6 x:=by
 have st:=db _ _ h
 have:∀ d a (ha:a+d+1<x.length),Op.bytesLess (x.getD a tj).1.toList (x.getD (a+d+1) tj).1.toList=true:=by
  intro d
  induction d with
  | zero=>intro a ha; exact st (a+1) (by omega) (by omega) (by omega)
  | succ d ih =>
   intro a ha
   exact da (ih a (by omega)) (st (a+(d+1)+1) (by omega) (by omega) (by omega))
 intro a b ha hb hab
 have:=this (b-a-1) a (by omega)
 rw [show a+(b-a-1)+1=b by omega,AT ha,AT hb] at this
 exact this
theorem yp {x:List AN} {k:ByteArray} {r:Nat} (hr:r<=x.length) (h:oG x k r r):x.take r=x.filter (U7 k)/\x.drop r=x.filter (fun b=>!U7 k b):=by
 have e1:(x.take r).filter (U7 k)=x.take r:=List.filter_eq_self.2 fun b hb=>by
  obtain ⟨a,ha,rfl⟩:=List.getElem_of_mem hb
  rw [List.length_take] at ha
  rw [List.getElem_take]
  exact (h a (by omega)).1 (by omega)
 have e2:(x.drop r).filter (U7 k)=[]:=List.filter_eq_nil_iff.2 fun b hb=>by
  obtain ⟨a,ha,rfl⟩:=List.getElem_of_mem hb
  rw [List.length_drop] at ha
  rw [List.getElem_drop]
  have:=(h (r+a) (by omega)).2 (by omega)
  simp [this]
 have e3:(x.take r).filter (fun b=>!U7 k b)=[]:=List.filter_eq_nil_iff.2 fun b hb=>by
  obtain ⟨a,ha,rfl⟩:=List.getElem_of_mem hb
  rw [List.length_take] at ha
  rw [List.getElem_take]
  have:=(h a (by omega)).1 (by omega)
  simp [this]
 have e4:(x.drop r).filter (fun b=>!U7 k b)=x.drop r:=List.filter_eq_self.2 fun b hb=>by
  obtain ⟨a,ha,rfl⟩:=List.getElem_of_mem hb
  rw [List.length_drop] at ha
  rw [List.getElem_drop]
  have:=(h (r+a) (by omega)).2 (by omega)
  simp [this]
 have f1:x.filter (U7 k)=(x.take r).filter (U7 k)++(x.drop r).filter (U7 k):=by rw [<- List.filter_append,List.take_append_drop]
 have f2:x.filter (fun b=>!U7 k b)=(x.take r).filter (fun b=>!U7 k b)++(x.drop r).filter (fun b=>!U7 k b):=by rw [<- List.filter_append,List.take_append_drop]
 rw [f1,f2,e1,e2,e3,e4]
 simp
theorem zg {x:List AN} {k:ByteArray} {r:Nat} (ho:K6 x) (h:oG x k r r) (j:Nat) (hj:j<x.length) (e:x[j].1.toList=k.toList):j=r:=by
 rcases Nat.lt_trichotomy j r with g | g | g
 ·have:=(h j hj).1 g
  simp only [U7,e,eE] at this
  cases this
 ·exact g
 ·have h1:=ho r j (by omega) hj g
  have h2:=(h r (by omega)).2 (Nat.le_refl _)
  rw [e] at h1
  rw [show U7 k x[r]=true from h1] at h2
  cases h2
def aP (x:List AN) (a:AN):Bool:=x.any fun b=>(b.1.toList==a.1.toList)&&decide (b.2.2>=a.2.2)
def QU (k:ByteArray) (b:AN):Bool:=!(Op.bytesLess b.1.toList k.toList||(b.1.toList==k.toList))
def TG (x:List AN) (a:AN):List AN:=x.filter (U7 a.1)++[a]++x.filter (QU a.1)
def Aw (x:List AN):Bool:=B_ x 0 x.length
def An (x:List AN) (a:AN):List AN:=if aP x a=true then x else if Aw x=true then (if Aw (TG x a)=true then TG x a else x) else x
theorem zh {x:List AN} {k:ByteArray} {r:Nat} (hr:r<=x.length) (h:oG x k r r):x.filter (QU k)=(x.drop r).filter fun b=>!(b.1.toList==k.toList):=by
 rw [(yp hr h).2,List.filter_filter]
 congr 1
 funext b
 simp only [QU,U7,Bool.not_or]
 exact Bool.and_comm _ _
theorem Nb (x:List AN) (a:AN) (hx:x.length<=34359738367):JK x a=some (An x a):=tX (by
 have J4:∀ same out:List AN,out.length<=maxLen->NT x a same out=some (if Aw x=true then (if Aw out=true then out else same) else same):=fun same out ho=>kW (by
  unfold Ub Aw
  rw [I9 x (by unfold maxLen; omega),I9 out ho]
  cases B_ x 0 x.length<;>cases B_ out 0 out.length<;>simp)
 have L3:∀ same out:List AN,out.length<=x.length+1->El x ((0:Nat):Int) a same out=some (if Aw x=true then (if Aw (out++(x.drop 0).filter (QU a.1))=true then out++(x.drop 0).filter (QU a.1) else same) else same):=by
  intro same out ho
  refine Ee (n:=x.length) (P:=fun i=>∀ out:List AN,out.length<=x.length+1+i->El x (i:Int) a same out=some (if Aw x=true then (if Aw (out++(x.drop i).filter (QU a.1))=true then out++(x.drop i).filter (QU a.1) else same) else same)) (fun out ho=>Ud ?_) (fun i hi ih out ho=>Ud ?_) 0 (by omega) out ho
  ·unfold NV
   rw [if_neg (by simp),J4 same out (by unfold maxLen; omega)]
   simp
  ·unfold NV
   simp only [show ((i:Int)<(x.length:Int)) from by omega,decide_true,if_true,show (0:Int)<=(i:Int) from by omega,Int.toNat_natCast,AT hi,AK (show i<9223372036854775807 by omega)]
   rw [BF hi,List.filter_cons]
   change (if QU a.1 x[i]=true then _ else _)=_
   by_cases hh:QU a.1 x[i]=true
   ·rw [if_pos hh,if_pos (by simp; omega),ih _ (by simp; omega),if_pos hh,List.append_assoc]
    rfl
   ·rw [if_neg hh,ih _ (by omega),if_neg hh]
 have J2:∀ same out:List AN,out.length<=x.length->NU x a same out=some (if Aw x=true then (if Aw (out++[a]++x.filter (QU a.1))=true then out++[a]++x.filter (QU a.1) else same) else same):=fun same out ho=>kX (by
  unfold Uc
  rw [if_pos (by simp; omega)]
  have:=L3 same (out++[a]) (by simp; omega)
  simpa using this)
 have L0:∀ same:List AN,Em x ((0:Nat):Int) a same []=some (if aP (x.drop 0) a=true then same else if Aw x=true then (if Aw (([]++(x.drop 0).filter (U7 a.1))++[a]++x.filter (QU a.1))=true then ([]++(x.drop 0).filter (U7 a.1))++[a]++x.filter (QU a.1) else same) else same):=by
  intro same
  refine Ee (n:=x.length) (P:=fun i=>∀ out:List AN,out.length<=i->Em x (i:Int) a same out=some (if aP (x.drop i) a=true then same else if Aw x=true then (if Aw ((out++(x.drop i).filter (U7 a.1))++[a]++x.filter (QU a.1))=true then (out++(x.drop i).filter (U7 a.1))++[a]++x.filter (QU a.1) else same) else same)) (fun out ho=>Ue ?_) (fun i hi ih out ho=>Ue ?_) 0 (by omega) [] (by simp)
  ·unfold NW
   rw [if_neg (by simp),J2 same out ho]
   simp [aP]
  ·unfold NW
   simp only [show ((i:Int)<(x.length:Int)) from by omega,decide_true,if_true,show (0:Int)<=(i:Int) from by omega,Int.toNat_natCast,AT hi]
   have J1:∀ out:List AN,out.length<=i+1->I5 x (i:Int) a same out=some (if aP (x.drop i) a=true then same else if Aw x=true then (if Aw ((out++(x.drop (i+1)).filter (U7 a.1))++[a]++x.filter (QU a.1))=true then (out++(x.drop (i+1)).filter (U7 a.1))++[a]++x.filter (QU a.1) else same) else same):=fun out ho=>kV (by
    unfold Ua
    simp only [show ((i:Int)<(x.length:Int)) from by omega,decide_true,if_true,show (0:Int)<=(i:Int) from by omega,Int.toNat_natCast,AT hi,AK (show i<9223372036854775807 by omega),ih out ho]
    rw [BF hi]
    rw [show aP (x[i]::x.drop (i+1)) a=(((x[i].1.toList==a.1.toList)&&decide (x[i].2.2>=a.2.2))||aP (x.drop (i+1)) a) from List.any_cons]
    generalize (x[i].1.toList==a.1.toList)=p
    generalize decide (x[i].2.2>=a.2.2)=q
    cases p<;>cases q<;>simp)
   rw [BF hi,List.filter_cons]
   change (if U7 a.1 x[i]=true then _ else _)=_
   rw [BF hi] at J1
   by_cases hh:U7 a.1 x[i]=true
   ·rw [if_pos hh,if_pos (by simp; omega),J1 _ (by simp; omega),if_pos hh]
    simp only [List.append_assoc,List.cons_append,List.nil_append]
   ·rw [if_neg hh,J1 _ (by omega),if_neg hh]
 unfold dO
 rw [if_pos (by simp; omega)]
 have:=L0 ([]++x)
 simpa [An,TG] using this)
theorem AB3 {x:List AN} {a:AN} {r:Nat} (hr:r<=x.length) (ho:K6 x) (h:oG x a.1 r r):aP x a=(Wt x r a.1&&decide ((x.getD r tj).2.2>=a.2.2)):=by
 unfold aP Wt
 by_cases hl:r<x.length
 ·rw [List.getElem?_eq_getElem hl,AT hl]
  rw [Bool.eq_iff_iff,List.any_eq_true]
  simp only [Bool.and_eq_true,beq_iff_eq,decide_eq_true_eq]
  refine ⟨fun ⟨b,hb,e,hv⟩=>?_,fun ⟨e,hv⟩=>⟨_,List.getElem_mem hl,e,hv⟩⟩
  obtain ⟨j,hj,rfl⟩:=List.getElem_of_mem hb
  have:=zg ho h j hj e
  subst this
  exact ⟨e,hv⟩
 ·rw [List.getElem?_eq_none (by omega),Bool.false_and,List.any_eq_false]
  intro b hb
  obtain ⟨j,hj,rfl⟩:=List.getElem_of_mem hb
  intro hc
  simp only [Bool.and_eq_true,beq_iff_eq] at hc
  have:=zg ho h j hj hc.1
  omega
theorem ADC {x:List AN} {a:AN} {r:Nat} (hr:r<=x.length) (ho:K6 x) (h:oG x a.1 r r):TG x a=if Wt x r a.1=true then x.set r a else x.take r++[a]++x.drop r:=by
 unfold TG
 rw [zh hr h,<- (yp hr h).1]
 have hk:∀ (j:Nat) (hj:j<x.length),j≠r->(x[j].1.toList==a.1.toList)=false:=fun j hj hne=>by
  cases q:(x[j].1.toList==a.1.toList) with
  | false=>rfl
  | true=>exact absurd (zg ho h j hj (by simpa using q)) hne
 have tail:(x.drop (r+1)).filter (fun b=>!(b.1.toList==a.1.toList))=x.drop (r+1):=List.filter_eq_self.2 fun b hb=>by
  obtain ⟨j,hj,rfl⟩:=List.getElem_of_mem hb
  rw [List.length_drop] at hj
  rw [List.getElem_drop,hk (r+1+j) (by omega) (by omega)]
  rfl
 by_cases hl:r<x.length
 ·rw [BF hl,List.filter_cons,tail]
  unfold Wt
  rw [List.getElem?_eq_getElem hl]
  cases q:(x[r].1.toList==a.1.toList) with
  | true=>simp [q,List.set_eq_take_append_cons_drop,hl]
  | false=>simp [q]
 ·have:x.drop r=[]:=List.drop_eq_nil_of_le (by omega)
  rw [this]
  unfold Wt
  rw [List.getElem?_eq_none (by omega)]
  simp
theorem Uk (x:List AN) (a:AN) (hx:x.length<=34359738367):M2 x a=some (An x a):=td (by
 obtain ⟨r,hr,hs,hc⟩:=AA4 x a.1 (by omega)
 have ok:∀ y:List AN,y.length<=68719476736->Fq y=some (Aw y):=fun y hy=>Na y (by unfold maxLen; omega) Pc
 have J1:∀ y:List AN,y.length<=68719476736->I7 x a y=some (if Aw y=true then y else x):=fun y hy=>kZ (by
  unfold Uf
  rw [ok y hy,BE (by omega)]
  cases Aw y<;>simp)
 have hl:Wt x r a.1=true->r<x.length:=fun h=>by
  by_cases hl:r<x.length
  ·exact hl
  ·unfold Wt at h
   rw [List.getElem?_eq_none (by omega)] at h
   cases h
 have J0:∀ b,Aw x=true->I8 x (r:Int) (Wt x r a.1) b a x=some (if Aw (TG x a)=true then TG x a else x):=fun b hok=>ka (by
  unfold Ug
  rw [ADC hr (dd hok) (hc (dd hok))]
  cases hh:Wt x r a.1 with
  | true =>
   have:=hl hh
   simp only [if_true,show (0:Int)<=(r:Int) from by omega,show ((r:Int)<(x.length:Int)) from by omega,Int.toNat_natCast]
   rw [J1 _ (by simp; omega)]
  | false =>
   rw [if_neg (by simp),Ka (by simp; omega) hr (by simp),X,J1 _ (by simp; omega)]
   simp)
 unfold dU
 rw [BE (by omega),X,hs,X,ok x (by omega),X]
 cases hok:Aw x with
 | false=>simp [An,hok]
 | true =>
  have hst:=AB3 hr (dd hok) (hc (dd hok))
  have j0:=J0
  unfold An
  rw [hst,hok]
  cases hh:Wt x r a.1 with
  | false =>
   have:=J0 false hok
   rw [hh] at this
   simp [this]
  | true =>
   have hlr:=hl hh
   have:=J0 false hok
   rw [hh] at this
   simp only [if_true,show (0:Int)<=(r:Int) from by omega,show ((r:Int)<(x.length:Int)) from by omega,Int.toNat_natCast,Bool.true_and]
   cases q:decide ((x.getD r tj).2.2>=a.2.2) with
   | true=>simp
   | false=>simp [this])

abbrev Pd:Type:=List Int×Int×Int
def aQ (d:Pd):Prop:=0<=d.2.1/\d.1.length<=maxLen
theorem oH (a:Int):0<=MK .i64 a 255/\MK .i64 a 255<=255:=by
 unfold MK
 have h:(BitVec.ofInt (IntKind.bits .i64) a &&& BitVec.ofInt (IntKind.bits .i64) 255).toNat<=255:=by
  rw [BitVec.toNat_and]
  refine Nat.le_trans Nat.and_le_right ?_
  decide
 rw [Ac (by omega)]
 omega
theorem Gp (d:Pd) (h:aQ d):∃ b d',Fs d=some (b,d')/\aQ d'/\0<=b/\b<=255:=by
 have hm:d.1.length<=9223372036854775807:=h.2
 have hp:=h.1
 suffices g:∃ b d',Sv d=some (b,d')/\aQ d'/\0<=b/\b<=255 from g.imp fun b g=>g.imp fun d' g=>⟨tF g.1,g.2⟩
 unfold Sv
 rw [if_neg (by omega),if_neg (by omega)]
 by_cases h1:d.2.1<(d.1.length:Int)
 ·rw [if_pos (by simpa using h1),if_pos hp,if_pos h1]
  refine ⟨_,_,rfl,⟨?_,h.2⟩,oH _⟩
  show 0<=IntKind.i64.wrap (d.2.1+1)
  rw [Ac (by omega)]
  omega
 ·rw [if_neg (by simpa using h1)]
  exact ⟨_,_,rfl,h,oH _⟩
theorem Bl (n:Int) (d:Pd) (h:aQ d):∃ v d',Cc n d=some (v,d')/\aQ d'/\0<=v/\(0<n->v<n):=by
 suffices g:∃ b d',QH n d=some (b,d')/\aQ d'/\0<=b/\(0<n->b<n) from g.imp fun b g=>g.imp fun d' g=>⟨pb g.1,g.2⟩
 unfold QH
 by_cases h1:n<=0
 ·exact ⟨0,d,by rw [if_pos (by simpa using h1)],h,by omega,by omega⟩
 ·rw [if_neg (by simpa using h1)]
  by_cases h2:n<=256
  ·obtain ⟨b,d1,e1,k1,b0,b1⟩:=Gp d h
   refine ⟨_,_,by rw [if_pos (by simpa using h2),e1,X,if_neg (by omega)],k1,Int.tmod_nonneg _ b0,fun _=>Int.tmod_lt_of_pos _ (by omega)⟩
  ·obtain ⟨b1,d1,e1,k1,b10,b11⟩:=Gp d h
   obtain ⟨b2,d2,e2,k2,b20,b21⟩:=Gp d1 k1
   obtain ⟨b3,d3,e3,k3,b30,b31⟩:=Gp d2 k2
   obtain ⟨b4,d4,e4,k4,b40,b41⟩:=Gp d3 k3
   refine ⟨_,_,by rw [if_neg (by simpa using h2),e1,X,e2,X,e3,X,e4,X,if_neg (by omega)],k4,Int.tmod_nonneg _ ?_,fun _=>Int.tmod_lt_of_pos _ (by omega)⟩
   rw [Ac (n:=b1*16777216) (by omega),Ac (n:=b2*65536) (by omega),Ac (n:=b3*256) (by omega),Ac (n:=b1*16777216+b2*65536) (by omega),Ac (n:=b1*16777216+b2*65536+b3*256) (by omega),Ac (by omega)]
   omega
theorem I_ (n:Int) (d:Pd) (h:aQ d):∃ v d',Db n d=some (v,d')/\aQ d':=by
 obtain ⟨v,d',e,k,_⟩:=Bl n d h
 exact ⟨_,_,tN (by unfold dG; rw [e,X]),k⟩
theorem Pe (x:List Int) (hx:0<x.length) (d:Pd) (h:aQ d):∃ v d',Iv x d=some (v,d')/\aQ d'/\v∈x:=by
 obtain ⟨v,d',e,k,v0,v1⟩:=Bl (x.length:Int) d h
 have v1:=v1 (by omega)
 have hv:v.toNat<x.length:=by omega
 exact ⟨_,_,kF (by unfold US; rw [e,X,if_pos v0,if_pos v1]),k,by rw [AT hv]; exact List.getElem_mem hv⟩
theorem nX (x:List Int) (h:x.length<=maxLen):∃ d,Uu x=some d/\aQ d:=by
 have hm:x.length<=9223372036854775807:=h
 have key:=Ee (n:=x.length) (P:=fun i=>∀ a,∃ d,Jn x a (i:Int)=some d/\aQ d) (fun a=>⟨(x,0,a),OU (by
  unfold Jo
  rw [if_neg (by simp)]),⟨Int.le_refl _,h⟩⟩) (fun i hi ih a=>by
  by_cases h4:(i:Int)<4000
  ·obtain ⟨d,e,k⟩:=ih (MK .i64 (IntKind.i64.wrap ((IntKind.i64.wrap ((IntKind.i64.wrap (a*(131:Int)))+(IntKind.i64.wrap (x.getD (i:Int).toNat (0:Int)))))+(7:Int))) (1073741823:Int))
   refine ⟨d,OU ?_,k⟩
   unfold Jo
   rw [if_pos (by simpa using hi),if_pos (by simpa using h4)]
   refine mb ?_
   unfold WH
   rw [if_pos (by omega),if_pos (by omega),AK (show i<9223372036854775807 by omega)]
   exact e
  ·refine ⟨(x,0,a),OU ?_,⟨Int.le_refl _,h⟩⟩
   unfold Jo
   rw [if_pos (by simpa using hi),if_neg (by simpa using h4)]) 0 (by omega)
 obtain ⟨d,e,k⟩:=key (IntKind.i64.wrap ((14301:Int)+(x.length:Int)))
 exact ⟨d,ut e,k⟩

theorem U5 {x:List AN}:∀ (m i:Nat),i+m=x.length->(B_ x i m=true↔(∀ a (ha:a<x.length),i<=a->Jw x[a]=true/\(a≠0->Op.bytesLess (x.getD (a-1) tj).1.toList x[a].1.toList=true))/\x.length<=12)
 | 0,i,h=>by
  simp only [B_,decide_eq_true_eq]
  refine ⟨fun h2=>⟨fun a ha hi=>by omega,by omega⟩,fun h2=>by have:=h2.2; omega⟩
 | m+1,i,h=>by
  have hi:i<x.length:=by omega
  rw [B_,Bool.and_eq_true,Bool.and_eq_true,U5 m (i+1) (by omega),AT hi]
  simp only [Bool.or_eq_true,decide_eq_true_eq]
  constructor
  ·rintro ⟨⟨h1,h2⟩,h3,h4⟩
   refine ⟨fun a ha hia=>?_,h4⟩
   by_cases e:a=i
   ·subst e
    exact ⟨h1,fun h0=>h2.resolve_left h0⟩
   ·exact h3 a ha (by omega)
  ·rintro ⟨h3,h4⟩
   refine ⟨⟨(h3 i hi (Nat.le_refl _)).1,?_⟩,fun a ha hia=>h3 a ha (by omega),h4⟩
   by_cases e:i=0
   ·exact .inl e
   ·exact .inr ((h3 i hi (Nat.le_refl _)).2 e)
theorem Cw {x:List AN}:Aw x=true↔(∀ b∈x,Jw b=true)/\K6 x/\x.length<=12:=by
 constructor
 ·intro h
  have h1:=(U5 x.length 0 (by omega)).1 h
  refine ⟨fun b hb=>?_,dd h,h1.2⟩
  obtain ⟨a,ha,rfl⟩:=List.getElem_of_mem hb
  exact (h1.1 a ha (Nat.zero_le _)).1
 ·rintro ⟨h1,h2,h3⟩
  refine (U5 x.length 0 (by omega)).2 ⟨fun a ha _=>⟨h1 _ (List.getElem_mem ha),fun h0=>?_⟩,h3⟩
  rw [AT (show a-1<x.length by omega)]
  exact h2 (a-1) a (by omega) ha (by omega)
theorem vf {x:List AN}:K6 x↔x.Pairwise fun b c=>Op.bytesLess b.1.toList c.1.toList=true:=by
 rw [List.pairwise_iff_getElem]
 rfl
theorem iG {x:List AN} (a:AN) (h:K6 x):K6 (TG x a):=by
 rw [vf] at h ⊢
 have lo:∀ b∈x.filter (U7 a.1),Op.bytesLess b.1.toList a.1.toList=true:=fun b hb=>(List.mem_filter.1 hb).2
 have hg:∀ b∈x.filter (QU a.1),Op.bytesLess a.1.toList b.1.toList=true:=fun b hb=>by
  have:=(List.mem_filter.1 hb).2
  rw [QU,Pc] at this
  simpa using this
 unfold TG
 rw [List.pairwise_append,List.pairwise_append]
 refine ⟨⟨h.filter _,List.pairwise_singleton _ _,fun b hb c hc=>?_⟩,h.filter _,fun b hb c hc=>?_⟩
 ·rw [List.mem_singleton] at hc
  subst hc
  exact lo b hb
 ·rcases List.mem_append.1 hb with hb | hb
  ·exact da (lo b hb) (hg c hc)
  ·rw [List.mem_singleton] at hb
   subst hb
   exact hg c hc
theorem AB4 (x:List AN) (a:AN):(TG x a).length<=x.length+1:=by
 have h1:(x.filter (QU a.1)).length<=(x.filter fun b=>!U7 a.1 b).length:=by
  rw [<- List.countP_eq_length_filter,<- List.countP_eq_length_filter]
  refine List.countP_mono_left fun b _ hb=>?_
  simp only [QU,U7,Bool.not_eq_true',Bool.or_eq_false_iff] at hb ⊢
  exact hb.1
 have h2:(x.filter (U7 a.1)).length+(x.filter fun b=>!U7 a.1 b).length=x.length:=by
  rw [<- List.countP_eq_length_filter,<- List.countP_eq_length_filter]
  have:=List.length_eq_countP_add_countP (U7 a.1) (l:=x)
  rw [this]
  congr 2
  funext b
  cases U7 a.1 b<;>rfl
 simp only [TG,List.length_append,List.length_cons,List.length_nil]
 omega
theorem tp {x:List AN} {a:AN}:a∈TG x a:=by simp [TG]
theorem yq {x:List AN} {a b:AN} (h:b∈TG x a):b=a\/b∈x:=by
 simp only [TG,List.mem_append,List.mem_filter,List.mem_singleton] at h
 rcases h with (h | h) | h
 ·exact .inr h.1
 ·exact .inl h
 ·exact .inr h.1
theorem zi {x:List AN} {a b:AN} (h:b∈x) (hk:(b.1.toList==a.1.toList)=false):b∈TG x a:=by
 simp only [TG,List.mem_append,List.mem_filter,List.mem_singleton]
 cases q:U7 a.1 b with
 | true=>exact .inl (.inl ⟨h,rfl⟩)
 | false =>
  refine .inr ⟨h,?_⟩
  unfold QU
  rw [show Op.bytesLess b.1.toList a.1.toList=false from q,hk]
  rfl
theorem Ok {x:List AN} (ho:K6 x) {b:AN} (hb:b∈x):BJ x b.1=b:=by
 obtain ⟨j,hj,rfl⟩:=List.getElem_of_mem hb
 have:x.find? (fun a=>a.1.toList==x[j].1.toList)=some x[j]:=by
  rw [List.find?_eq_some_iff_getElem]
  refine ⟨by simp,j,hj,rfl,fun i hi=>?_⟩
  have:=ho i j (by omega) hj hi
  cases q:(x[i].1.toList==x[j].1.toList) with
  | false=>rfl
  | true =>
   rw [beq_iff_eq] at q
   rw [q,eE] at this
   cases this
 unfold BJ
 rw [this]
 rfl
theorem AA5 {x:List AN} (ho:K6 x) {a:AN} (h1:1<=a.2.2):(BJ x a.1).2.2>=a.2.2↔aP x a=true:=by
 constructor
 ·intro h
  unfold BJ at h
  cases q:x.find? (fun b=>b.1.toList==a.1.toList) with
  | none=>rw [q] at h; simp at h; omega
  | some b =>
   rw [q] at h
   exact List.any_eq_true.2 ⟨b,List.mem_of_find?_eq_some q,by simpa [List.find?_some q] using h⟩
 ·intro h
  obtain ⟨b,hb,hc⟩:=List.any_eq_true.1 h
  simp only [Bool.and_eq_true,beq_iff_eq,decide_eq_true_eq] at hc
  have e:BJ x a.1=BJ x b.1:=by unfold BJ; rw [hc.1]
  rw [e,Ok ho hb]
  exact hc.2
theorem yu (a:AN):Ph (.pair .str (.pair .str (.int .i64))) a a=true:=by simp [Ph]
theorem Ul (x:List ByteArray) (hx:0<x.length) (d:Pd) (h:aQ d):∃ v d',Mz x d=some (v,d')/\aQ d'/\v∈x:=by
 obtain ⟨v,d',e,k,v0,v1⟩:=Bl (x.length:Int) d h
 have v1:=v1 (by omega)
 have hv:v.toNat<x.length:=by omega
 exact ⟨_,_,tO (by unfold dH; rw [e,X,if_pos v0,if_pos v1]),k,by rw [AT hv]; exact List.getElem_mem hv⟩
theorem JS {x:List AN} {a:AN} (h:Aw x=true):Aw (An x a)=true:=by
 unfold An
 rw [if_pos h]
 split
 ·exact h
 ·split
  ·assumption
  ·exact h
theorem yv (x:List AN) (a:AN):(An x a).length<=x.length+1:=by
 have:=AB4 x a
 unfold An
 (repeat' split)<;>omega



theorem Ce (x:List Int) (n:Int) (h:x.length<=maxLen):DX x n=some (x.contains n):=xY (by
 have hm:x.length<=9223372036854775807:=h
 unfold ju
 have:=Ee (n:=x.length) (P:=fun i=>Kx x n (i:Int)=some ((x.drop i).contains n)) (Zx (by
  unfold QG
  rw [if_neg (by simp),List.drop_length]
  rfl)) (fun i hi ih=>Zx (by
  unfold QG
  simp only [show ((i:Int)<(x.length:Int)) from by omega,decide_true,if_true,show (0:Int)<=(i:Int) from by omega,Int.toNat_natCast,AT hi,AK (show i<9223372036854775807 by omega)]
  rw [BF hi,List.contains_cons,ih]
  by_cases e:x[i]=n
  ·subst e
   simp
  ·simp [e,Ne.symm e])) 0 (by omega)
 simpa using this)
theorem ADz (x:List Int) (i:Nat) (hi:i<x.length) (h:x.length<=maxLen):∃ r,Da x x[i]=some r/\((r=(i:Int))↔x[i]∉x.take i):=by
 have hm:x.length<=9223372036854775807:=h
 have key:=Ee (n:=i) (P:=fun k=>∃ r,Co x x[i] (x.length:Int) (k:Int)=some r/\(k:Int)<=r/\((r=(i:Int))↔∀ m (hm:m<i),k<=m->x[m]≠x[i])) ⟨i,B9 (by
  unfold Be
  simp only [show ((i:Int)<(x.length:Int)) from by omega,decide_true,if_true,show (0:Int)<=(i:Int) from by omega,Int.toNat_natCast,AT hi]
  simp),by omega,⟨fun _ m hm hk=>by omega,fun _=>rfl⟩⟩ (fun k hk ⟨r,hr,hkr,hiff⟩=>by
  have hk2:k<x.length:=by omega
  by_cases e:x[i]=x[k]
  ·refine ⟨k,B9 ?_,by omega,⟨fun he=>by omega,fun hall=>absurd e.symm (hall k hk (by omega))⟩⟩
   unfold Be
   simp only [show ((k:Int)<(x.length:Int)) from by omega,decide_true,if_true,show (0:Int)<=(k:Int) from by omega,Int.toNat_natCast,AT hk2]
   rw [if_pos (by simpa using e)]
  ·refine ⟨r,B9 ?_,by omega,hiff.trans ⟨fun hall m hm hkm=>?_,fun hall m hm hkm=>hall m hm (by omega)⟩⟩
   ·unfold Be
    simp only [show ((k:Int)<(x.length:Int)) from by omega,decide_true,if_true,show (0:Int)<=(k:Int) from by omega,Int.toNat_natCast,AT hk2,AK (show k<9223372036854775807 by omega)]
    rw [if_neg (by simpa using e)]
    exact hr
   ·rcases Nat.lt_or_ge k m with h1 | h1
    ·exact hall m hm h1
    ·have:m=k:=by omega
     subst this
     exact fun h=>e h.symm) 0 (by omega)
 obtain ⟨r,hr,_,hiff⟩:=key
 refine ⟨r,NO hr,hiff.trans ⟨fun hall hmem=>?_,fun hn m hm _ he=>hn ?_⟩⟩
 ·obtain ⟨m,hm,he⟩:=List.mem_take_iff_getElem.1 hmem
  exact hall m (by omega) (by omega) he
 ·exact List.mem_take_iff_getElem.2 ⟨m,by omega,he⟩
def IX (v:List Int) (i:Nat):Nat->Bool
 | 0=>true
 | k+1=>(decide (1<=v.getD i 0)&&decide (v.getD i 0<=6))&&!(v.take i).contains (v.getD i 0)&&IX v (i+1) k
def Xw (v:List Int):Bool:=(decide (1<=(v.length:Int))&&decide ((v.length:Int)<=4))&&IX v 0 v.length
def Fl (x:List (List Int)) (n:Nat):List (List Int)->Bool
 | []=>decide (1<=(n:Int))&&decide ((n:Int)<=9)
 | v::r=>Xw v&&Fl x n r
theorem km (v:List Int) (h:v.length<=maxLen):SL v=some (Xw v):=tP (by
 have hm:v.length<=9223372036854775807:=h
 unfold dI Xw
 simp only [At,X]
 have:=Ee (n:=v.length) (P:=fun i=>I4 v (i:Int)=some (IX v i (v.length-i))) (UT (by
  unfold NP
  rw [if_neg (by simp),Nat.sub_self]
  rfl)) (fun i hi ih=>UT (by
  unfold NP
  have e:v.length-i=(v.length-(i+1))+1:=by omega
  rw [e,IX]
  simp only [show ((i:Int)<(v.length:Int)) from by omega,show ((i:Int)<=(v.length:Int)) from by omega,decide_true,if_true,show (0:Int)<=(i:Int) from by omega,Int.toNat_natCast,At,X,AK (show i<9223372036854775807 by omega),ih,Int.toNat_zero,List.drop_zero,Int.le_refl,
   Ce (v.take i) _ (by rw [List.length_take]; omega)]
  generalize (decide (1<=v.getD i 0)&&decide (v.getD i 0<=6))=a
  generalize (v.take i).contains (v.getD i 0)=b
  cases a<;>cases b<;>simp)) 0 (by omega)
 simp only [Int.ofNat_zero,Nat.sub_zero] at this
 generalize (decide (1<=(v.length:Int))&&decide ((v.length:Int)<=4))=a
 cases a
 ·simp
 ·simpa using this)
theorem ko (x:List (List Int)) (h:x.length<=maxLen) (ho:∀ a∈x,a.length<=maxLen):EY x=some (Fl x x.length x):=tJ (by
 have hm:x.length<=9223372036854775807:=h
 unfold c_
 exact Ee (n:=x.length) (P:=fun i=>I3 x (i:Int)=some (Fl x x.length (x.drop i))) (UO (by
  unfold NM
  rw [if_neg (by simp),List.drop_length,At]
  rfl)) (fun i hi ih=>UO (by
  unfold NM
  simp only [show ((i:Int)<(x.length:Int)) from by omega,decide_true,if_true,show (0:Int)<=(i:Int) from by omega,Int.toNat_natCast,AT hi,km x[i] (ho _ (List.getElem_mem _)),X,AK (show i<9223372036854775807 by omega),ih]
  rw [BF hi,Fl]
  generalize Xw x[i]=a
  cases a<;>simp)) 0 (by omega))
theorem kq (x:List (List Int)) (h:x.length<=maxLen) (ho:∀ a∈x,a.length<=maxLen):DY x=some (Fl x x.length x):=tH (by
 have hm:x.length<=9223372036854775807:=h
 unfold cr
 exact Ee (n:=x.length) (P:=fun i=>I2 x x (x.length:Int) (i:Int)=some (Fl x x.length (x.drop i))) (UM (by
  unfold NL
  rw [if_neg (by simp),List.drop_length,Ar]
  rfl)) (fun i hi ih=>UM (by
  unfold NL
  simp only [show ((i:Int)<(x.length:Int)) from by omega,decide_true,if_true,show (0:Int)<=(i:Int) from by omega,Int.toNat_natCast,AT hi]
  rw [BF hi,Fl]
  have hv:=ho x[i] (List.getElem_mem _)
  generalize x[i]=v at hv
  have hvm:v.length<=9223372036854775807:=hv
  have wj:NJ x v x (x.length:Int) (i:Int)=some ((decide (1<=(v.length:Int))&&decide ((v.length:Int)<=4))&&Fl x x.length (x.drop (i+1))):=j5 (by
   unfold UK
   rw [Ar,X,AK (show i<9223372036854775807 by omega),ih]
   generalize (decide (1<=(v.length:Int))&&decide ((v.length:Int)<=4))=a
   cases a<;>simp)
  have:=Ee (n:=v.length) (P:=fun j=>I1 x v x (x.length:Int) (i:Int) v (v.length:Int) (j:Int)=some (IX v j (v.length-j)&&((decide (1<=(v.length:Int))&&decide ((v.length:Int)<=4))&&Fl x x.length (x.drop (i+1))))) (UL (by
   unfold NK
   rw [if_neg (by simp),Nat.sub_self,wj]
   rfl)) (fun j hj ihj=>UL (by
   unfold NK
   have e:v.length-j=(v.length-(j+1))+1:=by omega
   obtain ⟨r,hr,hiff⟩:=ADz v j hj hv
   rw [e,IX]
   simp only [show ((j:Int)<(v.length:Int)) from by omega,decide_true,if_true,show (0:Int)<=(j:Int) from by omega,Int.toNat_natCast,Fk,X,AK (show j<9223372036854775807 by omega),ihj,AT hj,hr]
   have hb:(r != (j:Int))=(v.take j).contains v[j]:=by
    by_cases e2:r=(j:Int)
    ·have:=hiff.1 e2
     simp [e2,this]
    ·have:v[j]∈v.take j:=Classical.byContradiction fun hn=>e2 (hiff.2 hn)
     simp [e2,this]
   rw [hb]
   generalize (decide (1<=v[j])&&decide (v[j]<=6))=a
   generalize (v.take j).contains v[j]=b
   cases a<;>cases b<;>simp)) 0 (by omega)
  simp only [Int.ofNat_zero,Nat.sub_zero] at this
  unfold Xw
  refine Eq.trans this ?_
  congr 1
  generalize IX v 0 v.length=a
  generalize (decide (1<=(v.length:Int))&&decide ((v.length:Int)<=4))=b
  cases a<;>cases b<;>simp)) 0 (by omega))
end Go.Proofs.YtokiohnjegbnpaaGreat.Core
