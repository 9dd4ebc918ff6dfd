/- Texts of the proof, packed: part 4. -/
import Derived.Test.YtokiohnjegbnpaaGreatP2
import Derived.Test.YtokiohnjegbnpaaGreatProg
import Derived.IntWalk
set_option linter.unusedVariables false
set_option linter.unusedSimpArgs false
namespace Go.Proofs.YtokiohnjegbnpaaGreat.Core
open Go Go.Shelf Go.RowKit Go.Lib
variable {P:Program} {ρ:Ren}
theorem yA (w:World) (t e ty:TypeId) (z:Value) (ht:P.underlying t=some (.slice e)) (hz:∀ w,(zeroValue e).run P w=.ok z w) (g o n c:Nat) (cur:Array Value) (te:TypeId) (hg:w.heap[g]? = some (.cells cur te (0,0))) (hn:0<n)
  (hfit:o+n*z.cells.size<=cur.size) (h1:∀ v∈(Builtin.zeroCells z.cells n).toList,v.oneCell'=true) :
  (Builtin.clear_ #[t] ty #[.slice (some ⟨g,o,none⟩) n c]).run P w=.ok (.tuple #[]) (w.setRow g (cur.toList.take o++(Builtin.zeroCells z.cells n).toList++cur.toList.drop (o+(Builtin.zeroCells z.cells n).toList.length)).toArray):=by
 have hl:(Builtin.zeroCells z.cells n).toList.length=n*z.cells.size:=by rw [Array.length_toList,size_zeroCells]
 have hst:=run_storeCells_at P g o te (Builtin.zeroCells z.cells n).toList 0 cur w hg (by rw [hl]; simpa using hfit) h1
 cases n with
 | zero=>omega
 | succ n=>simp [Builtin.clear_,run_underlying ht,hz,hst]
theorem nJ {ops:Array Oper} {o:Oper} {a:Act} {w:World} {K:Act->World->Prop} {Q:Exit->Act->World->Prop} {E:Prop}
  (hg:o.guard=none) (d x:Operand) (dT sT:TypeId) (hop:o.op=Op.call { callee:=Callee.builtin Builtin.append,args:=#[d,x],argTypes:=#[dT,sT] })
  (v u:Value) (hd:a.eval d=v) (hx:a.eval x=u) {v':Value} {w':World} (hr:(Builtin.append_ #[dT,sT] o.type #[v,u]).run P w=.ok v' w') (hK:K (a.put o.dst v') w') :
  if Region.wanted o (yielded ops a.tmps)=true then Oper.wp P o a w K Q else E:=by
 have hw:Region.wanted o (yielded ops a.tmps)=true:=by simp [Region.wanted,hg]
 rw [if_pos hw]
 unfold Oper.wp
 simp [execOp,hop,resolve,invoke,builtin,hd,hx,hr,Result.andThen]
 exact hK
theorem j6 (w:World) {ops:Array Oper} {rest:List Oper} {o:Oper} {a:Act} {Q:Exit->Act->World->Prop} (hgd:o.guard=none) (s:Operand) (t:TypeId)
  (ho:o.op=.call { callee:=.builtin .clear,args:=#[s],argTypes:=#[t] }) (v:Value) (hs:a.eval s=v) {v':Value} {w':World}
  (hr:(Builtin.clear_ #[t] o.type #[v]).run P w=.ok v' w') (h:wpList P ops Q rest (a.put o.dst v') w'):wpList P ops Q (o::rest) a w :=
 wpList_plain hgd fun K hK=>by
  unfold Oper.wp execOp
  simp only [ho,resolve,invoke,builtin,Sem.run_bind,Sem.run_pure,Result.andThen_ok,List.map_toArray,List.map_cons,List.map_nil,hs,hr]
  exact hK _ _ h
set_option maxHeartbeats 8000000 in
set_option maxRecDepth 100000 in
theorem zP (L:SlLaysE0.n45 P ρ) (i0:TypeInfo) (size:Nat) (hi:P.info? (ρ.t 23)=some i0) (hz1:i0.size=size) (z23:∀ w,(Go.sizeOf (ρ.t 23)).run P w=.ok size w) (base:Option Addr) (n cap i:Nat) (w:World) (hin:i<=n) (hnc:n<=cap) (hcm:cap<=maxLen) :
  Calls P (ρ.f 45) #[.slice base n cap,.int .i64 i,.int .i64 i] w fun e w'=>e=.returned (.slice base n cap)/\w'=w:=by
 have mixed:=L.mixed; have t0:=L.t0; have a0:=L.a0; have z0:=L.z0; have v0:=L.v0; have t3:=L.t3; have a3:=L.a3; have z3:=L.z3; have v3:=L.v3; have t4:=L.t4; have a4:=L.a4; have z4:=L.z4; have v4:=L.v4; have t22:=L.t22; have a22:=L.a22; have z22:=L.z22; have v22:=L.v22
 obtain ⟨_,_,FG⟩:=L.f45
 go_enter FG,SlBodyN.n45_ntmps ρ
 go_wp2
 all_goals (go_ret; exact ⟨rfl,rfl⟩)
set_option maxHeartbeats 8000000 in
set_option maxRecDepth 100000 in
theorem zQ (L:SlLaysE0.n45 P ρ) (i0:TypeInfo) (z:Value) (size bytes:Nat) (hi:P.info? (ρ.t 23)=some i0) (hz0:i0.zero=some z) (hz1:i0.size=size) (hzs:z.cells.size=size) (hzo:∀ v∈z.cells.toList,v.oneCell'=true) (hsz:0<size)
  (z23:∀ w,(Go.sizeOf (ρ.t 23)).run P w=.ok size w) (v23:∀ w,(zeroValue (ρ.t 23)).run P w=.ok z w) (g n cap i j:Nat) (cur:Array Value) (w:World) (hg:w.heap[g]? = some (.cells cur (ρ.t 23) (0,0))) (hcs:cur.size=cap*size) (hij:i<j) (hjn:j<=n) (hnc:n<=cap) (hcm:cap<=maxLen)
  (h1:∀ u∈cur.toList.take (n*size),u.oneCell'=true) :
  Calls P (ρ.f 45) #[.slice (some ⟨g,0,none⟩) n cap,.int .i64 i,.int .i64 j] w fun e w'=>e=.returned (.slice (some ⟨g,0,none⟩) (n-(j-i)) cap) /\
   ∃ cur',w'.heap[g]? = some (.cells cur' (ρ.t 23) (0,0))/\cur'.size=cap*size/\cur'.toList.take ((n-(j-i))*size)=cur.toList.take (i*size)++(cur.toList.take (n*size)).drop (j*size)/\w.grownBy w' (some g):=by
 have mixed:=L.mixed; have t0:=L.t0; have a0:=L.a0; have z0:=L.z0; have v0:=L.v0; have t3:=L.t3; have a3:=L.a3; have z3:=L.z3; have v3:=L.v3; have t4:=L.t4; have a4:=L.a4; have z4:=L.z4; have v4:=L.v4; have t22:=L.t22; have a22:=L.a22; have z22:=L.z22; have v22:=L.v22
 have hcm':cap<=9223372036854775807:=hcm
 have hij1:¬ ((i:Int)=(j:Int)):=by omega
 have hb1:(i:Int)<=(j:Int):=by omega
 have hb2:¬ (cap=0):=by omega
 have hb3:(j:Int)<=(n:Int):=by omega
 have hb4:¬ (cap=i):=by omega
 have e4:j*size<=n*size:=CJ size hjn
 have e5:n*size<=cur.size:=by rw [hcs]; exact CJ size hnc
 have e6:i*size<=j*size:=CJ size (by omega)
 have e3:(n-j)*size=n*size-j*size:=Nat.sub_mul n j size
 have e7:(i+(n-j))*size=i*size+(n-j)*size:=Nat.add_mul _ _ size
 have hln:cur.toList.length=cur.size:=Array.length_toList
 have lm:((cur.toList.take (n*size)).drop (j*size)).length=(n-j)*size:=by rw [List.length_drop,List.length_take,hln,e3]; omega
 have hap:∀ (A:Addr) (c:Nat),(A=(⟨g,j*size,none⟩:Addr)\/n=j)->∀ ty,(Builtin.append_ #[(ρ.t 22),(ρ.t 22)] ty #[.slice (some ⟨g,0,none⟩) i cap,.slice (some A) (n-j) c]).run P w.drew=.ok (.slice (some ⟨g,0,none⟩) (i+(n-j)) cap) (w.drew.setRow g (cur.toList.take (i*size)++(cur.toList.take (n*size)).drop (j*size)++cur.toList.drop (i*size+((cur.toList.take (n*size)).drop (j*size)).length)).toArray):=fun A c hA ty=>by
  have:=run_append_room (P:=P) w.drew (ρ.t 22) ty (ρ.t 23) i0 L.t22 hi g i cap cur hg A (n-j) c ((cur.toList.take (n*size)).drop (j*size)) (by rw [lm,hz1]) (fun k u hk=>by
   have hk2:=(Ay.1 hk).1
   rw [lm] at hk2
   rcases hA with rfl | rfl
   ·rw [Addr.add_none]
    have h5:w.drew.cell? ⟨g,j*size+k,none⟩=cur[j*size+k]? := SG hg
    rw [h5,<- hk,DB,B3,if_pos (by omega),Array.getElem?_toList]
   ·simp at hk2) (fun u hu=>h1 u (List.mem_of_mem_drop hu)) (by omega) (by rw [lm,hz1,e3]; omega)
  rw [hz1] at this
  exact this
 obtain ⟨cur1,hcur1⟩:∃ c1,c1=(cur.toList.take (i*size)++(cur.toList.take (n*size)).drop (j*size)++cur.toList.drop (i*size+((cur.toList.take (n*size)).drop (j*size)).length)).toArray:=⟨_,rfl⟩
 rw [<- hcur1] at hap
 have hs1:cur1.size=cap*size:=by
  rw [hcur1,List.size_toArray,<- hcs]
  simp only [List.length_append,List.length_take,List.length_drop,hln,lm]
  omega
 have ht1:cur1.toList.take ((i+(n-j))*size)=cur.toList.take (i*size)++(cur.toList.take (n*size)).drop (j*size):=by
  have l3:(cur.toList.take (i*size)++(cur.toList.take (n*size)).drop (j*size)).length=(i+(n-j))*size:=by
   simp only [List.length_append,List.length_take,hln,lm,e7]
   omega
  rw [hcur1]
  exact (congrArg (fun k=>List.take k _) l3.symm).trans (by rw [List.take_left])
 have hg1:(w.drew.setRow g cur1).heap[g]? = some (.cells cur1 (ρ.t 23) (0,0)):=setRow_heap w.drew g cur cur1 (ρ.t 23) _ hg
 obtain ⟨d,hd⟩:∃ d,d=n-(i+(n-j)):=⟨_,rfl⟩
 have hdp:0<d:=by omega
 have e8:(i+(n-j))*size+d*size<=cur1.size:=by rw [hs1,<- Nat.add_mul]; exact CJ size (by omega)
 have hzc:∀ v∈(Builtin.zeroCells z.cells d).toList,v.oneCell'=true:=by
  intro v hv
  simp only [Builtin.zeroCells,Array.toList_map,List.mem_map] at hv
  obtain ⟨k,_,rfl⟩:=hv
  refine hzo _ ?_
  have hk:k % z.cells.size<z.cells.size:=Nat.mod_lt _ (by omega)
  rw [getElem!_pos z.cells _ hk]
  exact Array.getElem_mem_toList hk
 have hcl:∀ ty c,(Builtin.clear_ #[(ρ.t 22)] ty #[.slice (some ⟨g,(i+(n-j))*size,none⟩) (n-(i+(n-j))) c]).run P (w.drew.setRow g cur1)=.ok (.tuple #[]) ((w.drew.setRow g cur1).setRow g (cur1.toList.take ((i+(n-j))*size)++(Builtin.zeroCells z.cells d).toList++cur1.toList.drop ((i+(n-j))*size+(Builtin.zeroCells z.cells d).toList.length)).toArray):=fun ty c=>by
  rw [<- hd]
  exact yA _ _ (ρ.t 23) ty z L.t22 v23 g _ d c cur1 (ρ.t 23) hg1 hdp (by rw [hzs]; exact e8) hzc
 have lz:(Builtin.zeroCells z.cells d).toList.length=d*size:=by rw [Array.length_toList,size_zeroCells,hzs]
 obtain ⟨cur2,hcur2⟩:∃ c2,c2=(cur1.toList.take ((i+(n-j))*size)++(Builtin.zeroCells z.cells d).toList++cur1.toList.drop ((i+(n-j))*size+(Builtin.zeroCells z.cells d).toList.length)).toArray:=⟨_,rfl⟩
 rw [<- hcur2] at hcl
 have hs2:cur2.size=cap*size:=by
  rw [hcur2,List.size_toArray,<- hs1]
  simp only [List.length_append,List.length_take,List.length_drop,Array.length_toList,lz]
  rw [Array.length_toList] at lz
  omega
 have ht2:cur2.toList.take ((i+(n-j))*size)=cur.toList.take (i*size)++(cur.toList.take (n*size)).drop (j*size):=by
  have l4:(cur1.toList.take ((i+(n-j))*size)).length=(i+(n-j))*size:=by rw [List.length_take,Array.length_toList]; omega
  rw [hcur2,<- ht1,Bv]
  exact (congrArg (fun k=>List.take k _) l4.symm).trans (by rw [List.take_left])
 have hkn:n-(j-i)=i+(n-j):=by omega
 rw [hkn]
 have hW1s:((w.drew.setRow g cur1).setRow g cur2).heap[g]? = some (.cells cur2 (ρ.t 23) (0,0)):=setRow_heap _ g cur1 cur2 _ _ hg1
 have hgr:w.grownBy ((w.drew.setRow g cur1).setRow g cur2) (some g):=by
  refine ⟨rfl,rfl,rfl,by rw [KL,KL]; exact Nat.le_refl _,fun k hk hne=>?_⟩
  have hk':k≠g:=fun e=>hne (by rw [e])
  rw [setRow_other _ g k _ hk',setRow_other _ g k _ hk']
  rfl
 obtain ⟨W1,hW1⟩:∃ W1,W1=w.drew.setRow g cur1:=⟨_,rfl⟩
 obtain ⟨W2,hW2⟩:∃ W2,W2=W1.setRow g cur2:=⟨_,rfl⟩
 rw [<- hW1,<- hW2] at hcl hW1s hgr
 rw [<- hW1] at hap
 have hb6:¬ (cap=i+(n-j)):=by omega
 have hb7:i+(n-j)<=n:=by omega
 have hb8:i<=cap:=by omega
 clear e3 e4 e5 e6 e7 e8 hcur1 hcur2 lm hW1 hW2 hd hkn hs1 ht1 hg1 lz
 obtain ⟨A,hAe,hAd⟩:∃ A:Addr,(if cap=j then some (⟨g,0,none⟩:Addr) else some ⟨g,j*size,none⟩)=some A/\(A=(⟨g,j*size,none⟩:Addr)\/n=j):=by
  by_cases h:cap=j
  ·exact ⟨⟨g,0,none⟩,by simp [h],.inr (by omega)⟩
  ·exact ⟨⟨g,j*size,none⟩,by simp [h],.inl rfl⟩
 have hap2:=hap A (cap-j) hAd
 clear hap hAd
 obtain ⟨_,_,FG⟩:=L.f45
 go_enter FG,SlBodyN.n45_ntmps ρ
 go_wp2
 go_region_law_o (refine nJ rfl _ _ (ρ.t 22) (ρ.t 22) rfl _ _ (by simp [Act.eval,Act.put]) (by simp [Act.eval,Act.put,hAe]) (hap2 _) ?_)
 go_wp2_with (at_builtin; refine j6 _ rfl _ (ρ.t 22) rfl _ rfl (hcl _ _) ?_)
 go_ret
 exact ⟨rfl,cur2,hW1s,hs2,ht2,hgr⟩
theorem ABS {K:Kd} (L:SlLaysE0.n45 P ρ) (he:yd P (ρ.t 23) K=true) {xs:List K.T} {i j:Nat} (hij:i<=j) (hj:j<=xs.length) :
  YL P (ρ.f 45) [.new (ρ.t 23) K xs,.int .i64 i,.int .i64 j] [] [.new (ρ.t 23) K (xs.take i++xs.drop j)]:=by
 obtain ⟨i0,z,hi0,hz,h1,h2,h3,h4⟩:=V6 he
 have hsz:=Kd.sz_pos K
 have z23:∀ w,(Go.sizeOf (ρ.t 23)).run P w=.ok K.sz w:=fun w=>by simp [sizeOf,typeInfo,hi0,h1]
 have v23:∀ w,(zeroValue (ρ.t 23)).run P w=.ok z w:=fun w=>by simp [zeroValue,typeInfo,hi0,hz]
 refine ⟨?_,?_,1,rfl,fun H φ w cargs hs ha=>?_⟩
 ·obtain ⟨nm,hnm,hf⟩:=L.f45
  exact ⟨_,_,hf,hnm,rfl⟩
 ·intro r hr
  simp only [Cj] at hr
  subst hr
  rfl
 ·obtain ⟨v0,r0,rfl,hv0,ha⟩:=ha
  obtain ⟨v1,r1,rfl,hv1,ha⟩:=ha
  obtain ⟨v2,r2,rfl,hv2,ha⟩:=ha
  have hr2:r2=[]:=ha
  subst hr2
  have e0:v0=φ 0:=hv0.1
  have e1:v1=.int .i64 i:=hv1
  have e2:v2=.int .i64 j:=hv2
  subst e0 e1 e2
  obtain ⟨flat,ho,hr⟩:=hs.box 0 (.rows (ρ.t 23) K xs) rfl
  have hnew:(xs.take i++xs.drop j).length=xs.length-(j-i):=by simp only [List.length_append,List.length_take,List.length_drop]; omega
  have hstk:Bk [] [AV.new (ρ.t 23) K xs,.int .i64 i,.int .i64 j]=[.rows (ρ.t 23) K xs]:=rfl
  by_cases hlt:i=j
  ·subst hlt
   obtain ⟨base,n,cap,e0,hnn,hcap,hcm⟩:∃ base n cap,φ 0=.slice base n cap/\n=xs.length/\n<=cap/\cap<=maxLen:=by
    rcases ho.2 with ⟨e,h⟩ | ⟨g,cap,cur,e,_,_,hc,hm,_⟩
    ·exact ⟨none,0,0,e,h.symm,Nat.le_refl _,Nat.zero_le _⟩
    ·exact ⟨_,_,_,e,rfl,hc,hm⟩
   subst hnn
   rw [e0]
   refine Calls.mono (zP L i0 K.sz hi0 h1 z23 base _ cap i w hj hcap hcm) fun out w' h=>?_
   obtain ⟨rfl,rfl⟩:=h
   refine rc hstk hs ⟨rfl,rfl,rfl,Nat.le_refl _,fun _ _ _=>rfl⟩ (fun b hb=>.inl (by rw [e0]; exact hb)) (flat:=flat) ?_ ?_
   ·rw [List.take_append_drop,<- e0]; exact ho
   ·rw [List.take_append_drop]; exact hr
  ·obtain ⟨g,cap,cur,e0,_,hg,hc,hcm,hsc,ht⟩:=ho.2.resolve_left (fun h=>by omega)
   rw [e0]
   have hzo:∀ v∈z.cells.toList,v.oneCell'=true:=b9 (h4 H)
   refine Calls.mono (zQ L i0 z K.sz i0.bytes hi0 hz h1 h3 hzo hsz z23 v23 g xs.length cap i j cur w hg hsc (by omega) hj hc hcm (by rw [ht]; exact Dq hr ho.1)) fun out w' h=>?_
   obtain ⟨rfl,cur',g1,g2,g3,g4⟩:=h
   have htk:cur.toList.take (i*K.sz)=flat.take (i*K.sz):=by
    rw [<- ht,List.take_take,Nat.min_eq_left (CJ _ (by omega))]
   have l1:(flat.take (i*K.sz)).length=(xs.take i).length*K.sz:=by
    have h5:=ho.1
    have h7:i*K.sz<=xs.length*K.sz:=CJ _ (by omega)
    rw [List.length_take,List.length_take,Nat.min_eq_left (show i<=xs.length by omega),h5]; omega
   have l2:(flat.drop (j*K.sz)).length=(xs.drop j).length*K.sz:=by rw [List.length_drop,List.length_drop,ho.1,Nat.sub_mul]
   refine rc hstk hs (by rw [e0]; exact g4) (fun b hb=>.inl (by rw [e0]; exact hb)) (flat:=flat.take (i*K.sz)++flat.drop (j*K.sz)) ?_ (Iz (o9 hr i) l1 (o_ hr j))
   rw [hnew]
   refine ⟨?_,.inr ⟨g,cap,cur',rfl,Nat.zero_le _,g1,by omega,hcm,g2,by rw [g3,htk,ht]⟩⟩
   rw [List.length_append,l1,l2,<- Nat.add_mul,<- hnew,List.length_append]
def ACN (t:TypeId) (K:Kd) (args bs:List AV):Option (List AV) :=
 match args,bs with
 | [.new t1 K1 xs,.int k i,.int k2 j],[]=>if h1:K1=K then (if t1=t/\k=.i64/\k2=.i64/\0<=i/\i<=j/\j<=xs.length then
   some [.new t K ((h1▸xs).take i.toNat++(h1▸xs).drop j.toNat)] else none) else none
 | _,_=>none
theorem ADU {t:TypeId} {K:Kd} {xs:List K.T} {i j:Nat} (hi:i<=j) (hj:j<=xs.length):ACN t K [.new t K xs,.int .i64 i,.int .i64 j] []=some [.new t K (xs.take i++xs.drop j)]:=by
 have h0:(0:Int)<=(i:Int):=by omega
 have h1:(i:Int)<=(j:Int):=by omega
 have h2:(j:Int)<=(xs.length:Int):=by omega
 simp only [ACN,dif_pos,true_and]
 rw [if_pos ⟨h0,h1,h2⟩,Ai,Ai]
theorem ADV {K:Kd} (L:SlLaysE0.n45 P ρ) (he:yd P (ρ.t 23) K=true) {args bs rs:List AV} (h:ACN (ρ.t 23) K args bs=some rs):YL P (ρ.f 45) args bs rs:=by
 unfold ACN at h
 split at h
 ·split at h
  ·rename_i hk
   subst hk
   split at h
   ·rename_i hc
    obtain ⟨rfl,rfl,rfl,h0,hij,hj⟩:=hc
    cases h
    rename_i i _ j _
    obtain ⟨a,rfl⟩:=Int.eq_ofNat_of_zero_le h0
    obtain ⟨b,rfl⟩:=Int.eq_ofNat_of_zero_le (Int.le_trans h0 hij)
    exact ABS L he (by omega) (by omega)
   ·cases h
  ·cases h
 ·cases h
end Go.Proofs.YtokiohnjegbnpaaGreat.Core

namespace Go.Proofs.YtokiohnjegbnpaaGreat.Core
open Go IntKind
set_option maxRecDepth 100000
noncomputable section
def AEK:Go.Shelf.Ren:=⟨fun | 41=>74 | n=>n,fun | 22=>30 | 23=>47 | n=>n,fun | n=>n⟩
theorem ADW:SlLaysE0.n41 Tryz.prog AEK:={
 mixed:=by kernel_rfl
 f41:=⟨Tryz.f74.name,by decide,Tryz.func74.trans (congrArg some (by kernel_rfl))⟩
 t4:=Tryz.underlying4
 a4:=Tryz.isAgg4
 z4:=Tryz.sizeOf4
 v4:=Tryz.zeroValue4
 t22:=Tryz.underlying30
 a22:=Tryz.isAgg30
 z22:=Tryz.sizeOf30
 v22:=Tryz.zeroValue30 }
theorem AEi:yd Tryz.prog 47 AJ=true:=by kernel_rfl
def AEL:Go.Shelf.Ren:=⟨fun | 45=>88 | n=>n,fun | 22=>29 | 23=>97 | n=>n,fun | n=>n⟩
theorem ADX:SlLaysE0.n45 Tryz.prog AEL:={
 mixed:=by kernel_rfl
 f45:=⟨Tryz.f88.name,by decide,Tryz.func88.trans (congrArg some (by kernel_rfl))⟩
 t0:=Tryz.underlying0
 a0:=Tryz.isAgg0
 z0:=Tryz.sizeOf0
 v0:=Tryz.zeroValue0
 t3:=Tryz.underlying3
 a3:=Tryz.isAgg3
 z3:=Tryz.sizeOf3
 v3:=Tryz.zeroValue3
 t4:=Tryz.underlying4
 a4:=Tryz.isAgg4
 z4:=Tryz.sizeOf4
 v4:=Tryz.zeroValue4
 t22:=Tryz.underlying29
 a22:=Tryz.isAgg29
 z22:=Tryz.sizeOf29
 v22:=Tryz.zeroValue29 }
theorem AEj:yd Tryz.prog 97 AH=true:=by kernel_rfl
def AEM:Go.Shelf.Ren:=⟨fun | 41=>99 | n=>n,fun | 22=>33 | 23=>3 | n=>n,fun | n=>n⟩
theorem ADY:SlLaysE0.n41 Tryz.prog AEM:={
 mixed:=by kernel_rfl
 f41:=⟨Tryz.f99.name,by decide,Tryz.func99.trans (congrArg some (by kernel_rfl))⟩
 t4:=Tryz.underlying4
 a4:=Tryz.isAgg4
 z4:=Tryz.sizeOf4
 v4:=Tryz.zeroValue4
 t22:=Tryz.underlying33
 a22:=Tryz.isAgg33
 z22:=Tryz.sizeOf33
 v22:=Tryz.zeroValue33 }
theorem AEk:yd Tryz.prog 3 (.int .i64)=true:=by kernel_rfl
def ADZ:Go.Shelf.Ren:=⟨fun | 41=>104 | n=>n,fun | 22=>36 | 23=>38 | n=>n,fun | n=>n⟩
theorem ACO:SlLaysE0.n41 Tryz.prog ADZ:={
 mixed:=by kernel_rfl
 f41:=⟨Tryz.f104.name,by decide,Tryz.func104.trans (congrArg some (by kernel_rfl))⟩
 t4:=Tryz.underlying4
 a4:=Tryz.isAgg4
 z4:=Tryz.sizeOf4
 v4:=Tryz.zeroValue4
 t22:=Tryz.underlying36
 a22:=Tryz.isAgg36
 z22:=Tryz.sizeOf36
 v22:=Tryz.zeroValue36 }
theorem AEN:yd Tryz.prog 38 AF=true:=by kernel_rfl
def ADa:Go.Shelf.Ren:=⟨fun | 10=>144 | 6=>163 | n=>n,fun | 22=>33 | 23=>3 | 25=>69 | n=>n,fun | n=>n⟩
theorem ACP:SlLaysH.n10 Tryz.prog ADa:={
 mixed:=by kernel_rfl
 f6:=⟨Tryz.f163.name,by decide,Tryz.func163.trans (congrArg some (by kernel_rfl))⟩
 f10:=⟨Tryz.f144.name,by decide,Tryz.func144.trans (congrArg some (by kernel_rfl))⟩
 t0:=Tryz.underlying0
 a0:=Tryz.isAgg0
 z0:=Tryz.sizeOf0
 v0:=Tryz.zeroValue0
 t3:=Tryz.underlying3
 a3:=Tryz.isAgg3
 z3:=Tryz.sizeOf3
 v3:=Tryz.zeroValue3
 t4:=Tryz.underlying4
 a4:=Tryz.isAgg4
 z4:=Tryz.sizeOf4
 v4:=Tryz.zeroValue4
 t22:=Tryz.underlying33
 a22:=Tryz.isAgg33
 z22:=Tryz.sizeOf33
 v22:=Tryz.zeroValue33
 a23:=Tryz.isAgg3
 z23:=Tryz.sizeOf3
 t25:=Tryz.underlying69
 a25:=Tryz.isAgg69
 z25:=Tryz.sizeOf69
 v25:=Tryz.zeroValue69 }
theorem ACQ:AEJ Tryz.prog 145:=⟨enters_of Tryz.func145 (by kernel_rfl) rfl,fun n x b o W hc=>by
 go_enter Tryz.func145,Tryz.ntmps145
 go_wp2
 all_goals (go_ret; exact ⟨by simp_all,0,rfl⟩)⟩
def ADb:Go.Shelf.Ren:=⟨fun | 106=>161 | 213=>170 | 265=>174 | n=>n,fun | n=>n,fun | n=>n⟩
theorem ACR:Lays.n106 Tryz.prog ADb:={
 mixed:=by kernel_rfl
 f106:=Tryz.func161.trans (congrArg some (by kernel_rfl))
 f213:=Tryz.func170.trans (congrArg some (by kernel_rfl))
 f265:=Tryz.func174.trans (congrArg some (by kernel_rfl))
 t3:=Tryz.underlying3
 a3:=Tryz.isAgg3
 z3:=Tryz.sizeOf3
 v3:=Tryz.zeroValue3
 t9:=Tryz.underlying9
 a9:=Tryz.isAgg9
 z9:=Tryz.sizeOf9
 v9:=Tryz.zeroValue9 }
def ADc:Go.Shelf.Ren:=⟨fun | 22=>162 | 29=>171 | 30=>172 | n=>n,fun | 24=>36 | 9=>38 | n=>n,fun | n=>n⟩
theorem ACS:ABQ Tryz.prog ADc:={
 mixed:=by kernel_rfl
 f22:=⟨Tryz.f162.name,by decide,Tryz.func162.trans (congrArg some (by kernel_rfl))⟩
 ov:=fun args w=>run_callFunc_extern Tryz.func171 (by kernel_rfl) (by kernel_rfl) (by kernel_rfl) (by kernel_rfl) args w
 t3:=Tryz.underlying3
 a3:=Tryz.isAgg3
 z3:=Tryz.sizeOf3
 v3:=Tryz.zeroValue3
 t4:=Tryz.underlying4
 a4:=Tryz.isAgg4
 z4:=Tryz.sizeOf4
 v4:=Tryz.zeroValue4
 t24:=Tryz.underlying36
 a24:=Tryz.isAgg36
 z24:=Tryz.sizeOf36
 v24:=Tryz.zeroValue36 }
theorem AEO:yd Tryz.prog 38 AF=true:=by kernel_rfl

def AEl:List (Nat×BG):=[(7,F9),(9,YH),(10,LT),(11,BO),(12,Ba),(13,Gh),(15,Ce),(16,Cf),(17,R8),(19,Ee),(20,Ck),(21,C2),(22,Dr),(24,R9),(25,R_),(26,KG),(27,Bu),(28,CE),(29,DN),(30,Ds),(32,En),(33,Ef),(34,D9),(35,Hd),(36,IL),(37,Pa),(38,BY),(39,D_),(40,He),(41,SA),(42,Eo),(43,Pb),(44,ND),(45,Cr),(46,Ep),(47,Gw),(48,Pc),(49,SB),(51,Gx),(52,SC),(53,Pd),(54,LU),(55,JH),(56,SD),(57,EI),(58,Ao),(59,Gy),(60,Cg),(61,NE),(62,LV),(63,CC),(64,Bd),(65,CF),(66,DZ),(67,F_),(68,KH),(69,IM),(70,Cs),(71,HV),(72,UZ),(73,Gz),(75,JI),(76,NF),(77,Er),(78,Ch),(79,GA),(80,LW),(81,EA),(82,C3),(83,Ub),(84,Pe),(85,Ct),(86,NG),(87,SE),(89,Hf),(90,Cl),(91,Bi),(92,NH),(93,Hg),(94,LX),(95,By),(96,JJ),(97,NI),(98,NJ),(100,Eg),(101,G0),(102,Ac),(103,GW),(105,Es),(106,B7),(107,DO),(108,Bz),(109,Fh),(110,CU),(111,Ag),(112,EB),(113,C4),(114,Ft),(115,CM),(116,GX),(117,ER),(118,B5),(119,JK),(120,Fi),(121,Gi),(122,Fu),(123,BJ),(124,Dc),(125,KI),(126,Fv),(127,Fj),(128,Cw),(129,NP),(130,LY),(131,ES),(132,Bn),(133,NQ),(134,D7),(135,Dd),(136,NS),(137,Ae),(138,LZ),(139,Et),(140,Fw),(141,Eu),(142,KJ),(143,DC),(146,Pf),(147,Pg),(148,Aa),(154,NT),(158,DD),(159,AO),(160,KK),(169,La)]
def fns (f:Nat):Option BG:=ADQ f AEl
theorem AEt:AB8 Tryz.prog fns:=ABO (.cons m5 <| .cons z_ <| .cons pX <| .cons pY <| .cons pZ <| .cons pa <| .cons vR <| .cons vS <| .cons xb <| .cons xc <| .cons xd <| .cons xe <| .cons xf <| .cons xg <| .cons xh <| .cons m6 <| .cons m7 <| .cons m8 <| .cons xi <| .cons xj <| .cons sm <| .cons vT <| .cons pb <| .cons sn <| .cons hO <| .cons vU <| .cons m9 <| .cons pd <| .cons so <| .cons xk <| .cons sq <| .cons vV <| .cons ss <| .cons hP <| .cons su <| .cons cf <| .cons vW <| .cons xm <| .cons cg <| .cons xn <| .cons vX <| .cons pe <| .cons jv <| .cons xo <| .cons Tw <| .cons L5 <| .cons xp <| .cons fM <| .cons sv <| .cons pf <| .cons ph <| .cons sw <| .cons sx <| .cons m_ <| .cons nA <| .cons xq <| .cons hU <| .cons hX <| .cons fN <| .cons zI <| .cons cn <| .cons jw <| .cons sy <| .cons s0 <| .cons fO <| .cons nB <| .cons pj <| .cons pl <| .cons nC <| .cons zJ <| .cons vY <| .cons hY <| .cons s_ <| .cons xr <| .cons tA <| .cons jx <| .cons Io <| .cons tB <| .cons tC <| .cons pn <| .cons YI <| .cons jy <| .cons tD <| .cons tE <| .cons xt <| .cons xu <| .cons IN <| .cons bS <| .cons tF <| .cons xv <| .cons xw <| .cons tG <| .cons xx <| .cons hZ <| .cons Jo <| .cons po <| .cons YJ <| .cons vZ <| .cons dA <| .cons bT <| .cons h_ <| .cons bU <| .cons jz <| .cons YK <| .cons pp <| .cons vd <| .cons tH <| .cons nD <| .cons nE <| .cons ve <| .cons xy <| .cons vf <| .cons tI <| .cons pq <| .cons iA <| .cons bV <| .cons tJ <| .cons fP <| .cons dE <| .cons tK <| .cons SF <| .cons pr <| .cons tL <| .cons vg <| .cons tM <| .cons nF <| .cons j1 <| .cons vh <| .cons vj <| .cons Mq <| .cons tN <| .cons j3 <| .cons Fk <| .cons nG <| .cons pu .nil)
def prims:HQ:=fun f args bs=>if f=74 then tO 47 AJ args bs else if f=88 then ACN 97 AH args bs else if f=99 then tO 3 (.int .i64) args bs else if f=104 then tO 38 AF args bs else if f=144 then zO 3 145 args bs else if f=161 then AEI args bs else if f=162 then ACK 38 AF args bs else none
theorem ADd:Km Tryz.prog prims:=fun f args bs rs h=>by
 unfold prims at h
 split at h
 ·rename_i e; subst e; exact tQ ADW AEi h
 split at h
 ·rename_i e; subst e; exact ADV ADX AEj h
 split at h
 ·rename_i e; subst e; exact tQ ADY AEk h
 split at h
 ·rename_i e; subst e; exact tQ ACO AEN h
 split at h
 ·rename_i e; subst e; exact ACM ACP Tryz.zeroValue3 ACQ h
 split at h
 ·rename_i e; subst e; exact ADT ACR h
 split at h
 ·rename_i e; subst e; exact ADS ACS AEO h
 cases h
abbrev cP:HQ:=xQ fns prims
def cG {ρ:Type} (c:AG) (kn kr:St->Option ρ) (ke:Nat->St->Option ρ):St->Option ρ:=Ha cP MZ c kn kr ke
def lG {ρ:Type} (c:AG) (hs:List (Nat×Nat)) (l:List Nat) (n:Nat) (kr:St->Option ρ) (ke:Nat->St->Option ρ):St->Option ρ:=MZ fun go s'=>Ha cP MZ c (fun s''=>go (s''.cutH hs l n)) kr ke s'
def kJ {ρ:Type} (c:AG) (hs:List (Nat×Nat)) (l:List Nat) (n:Nat) (kn kr:St->Option ρ) (ke:Nat->St->Option ρ):St->Option ρ:=fun s=>cG c kn kr ke (s.cutH hs l n)
def kB {ρ:Type} (hs:List (Nat×Nat)) (l:List Nat) (n:Nat) (kn:St->Option ρ):St->Option ρ:=fun s=>kn (s.cutH hs l n)
def kE {ρ:Type} (b:Nat) (hs:List (Nat×Nat)) (l:List Nat) (n:Nat) (kn:St->Option ρ) (ke:Nat->St->Option ρ):Nat->St->Option ρ:=fun i s=>if i=b then kn (s.cutH hs l n) else ke i s
def kx {ρ:Type}:Nat->St->Option ρ:=fun _ _=>none
def cF (f:Nat) (a:BG) (x b:List AV):Option (RT a.outs):=(cP f x b).bind (C8 a.outs)
theorem cT (a:BG) {f:Nat} {x b:List AV} {t:Option (RT a.outs)} {r:RT a.outs} (hf:fns f=some a) (hl:x.length=a.params.length/\b.length=(Ek a.params 0).length) (e:ACF cP a x b=t) (h:t=some r):cF f a x b=some r:=zx hf hl (e.trans h)
theorem jS {ρ:Type} {t w:Option ρ} {r:ρ} (e:w=t) (h:t=some r):w=some r:=e.trans h
theorem lS {ρ:Type} {c:AG} {hs:List (Nat×Nat)} {l:List Nat} {n:Nat} {kr:St->Option ρ} {ke:Nat->St->Option ρ} {s:St} {t:Option ρ} {r:ρ} (e:Ha cP MZ c (fun s=>lG c hs l n kr ke (s.cutH hs l n)) kr ke s=t) (h:t=some r):lG c hs l n kr ke s=some r:=ABM (e.trans h)
def Wo (x0:List Int):Option Bool:=cF 7 F9 [.lst (.int .u8) x0] []
def iB (x0:List Int):Option Bool:=cF 9 YH [.lst (.int .u8) x0] []
def QS (x0:List Int):Option (List (List Int)×List AY):=cF 10 LT [.lst (.int .u8) x0] []
def QT (x0:List (List Int)) (x1:List AY):Option (AB×List Int×Bool):=cF 11 BO [.lst (.slice (.int .i64)) x0,.lst Ab x1] []
def QU (x0:List (List Int)) (x1:List AY):Option (AB×List Int×Bool):=cF 12 Ba [.lst (.slice (.int .i64)) x0,.lst Ab x1] []
def Gj (x0:U):Option Bool:=cF 13 Gh [.agg (X.enc x0)] []
def Ph (x0:List AC):Option Bool:=cF 15 Ce [.lst AJ x0] []
def Pi (x0:List AC):Option Bool:=cF 16 Cf [.lst AJ x0] []
def Dt (x0:AC):Option Int:=cF 17 R8 [.agg (AJ.enc x0)] []
def SH (x0:List AC):Option Bool:=cF 19 Ee [.lst AJ x0] []
def SI (x0:List AC):Option Bool:=cF 20 Ck [.lst AJ x0] []
def NU (x0:List AC):Option Bool:=cF 21 C2 [.lst AJ x0] []
def NV (x0:List AC):Option Bool:=cF 22 Dr [.lst AJ x0] []
def NW (x0:AB):Option Bool:=cF 24 R9 [.agg (AX.enc x0)] []
def SJ (x0:AB):Option Bool:=cF 25 R_ [.agg (AX.enc x0)] []
def Ow (x0:List Int):Option AB:=cF 26 KG [.lst (.int .u8) x0] []
def Hm (x0:AB):Option Bool:=cF 27 Bu [.agg (AX.enc x0)] []
def KM (x0:AB):Option Bool:=cF 28 CE [.agg (AX.enc x0)] []
def NX (x0:AB):Option Bool:=cF 29 DN [.agg (AX.enc x0)] []
def SK (x0:AB):Option Bool:=cF 30 Ds [.agg (AX.enc x0)] []
def NY (x1:List Int) (b0:AL):Option (YE×AL):=cF 32 En [.ptr 0 0,.lst (.int .u8) x1] [.agg (Ad.enc b0)]
def Pj (x0:List Int):Option AL:=cF 33 Ef [.lst (.int .u8) x0] []
def QV (x0:List (List Int)):Option (AB×Bool):=cF 34 D9 [.lst (.slice (.int .i64)) x0] []
def S0 (x0:AY):Option Bool:=cF 35 Hd [.agg (Ab.enc x0)] []
def IP (x1:AY) (x2:Int) (b0:AB):Option (Bool×AB):=cF 36 IL [.ptr 0 0,.agg (Ab.enc x1),.int .i64 x2] [.agg (Al.enc b0)]
def Vi (x0:Bool):Option Int:=cF 37 Pa [.bool x0] []
def KN (x0:AB):Option AB:=cF 38 BY [.agg (AX.enc x0)] []
def Lb (x0:List (List Int)):Option (AB×Bool):=cF 39 D_ [.lst (.slice (.int .i64)) x0] []
def S3 (x0:AY):Option Bool:=cF 40 He [.agg (Ab.enc x0)] []
def SL (x1:Int) (x2:AY) (b0:AB):Option (Int×AB):=cF 41 SA [.ptr 0 0,.int .i64 x1,.agg (Ab.enc x2)] [.agg (AX.enc b0)]
def S4 (x0:AB):Option AB:=cF 42 Eo [.agg (AX.enc x0)] []
def F3 (x0:Int):Option Bool:=cF 43 Pb [.int .i64 x0] []
def Aj (x0 x1 x2:Int):Option Bool:=cF 44 ND [.int .i64 x0,.int .i64 x1,.int .i64 x2] []
def IQ (x0:List Int) (x1 x2:Int):Option Bool:=cF 45 Cr [.lst (.int .i64) x0,.int .i64 x1,.int .i64 x2] []
def GH (x0:List Z):Option Bool:=cF 46 Ep [.lst AF x0] []
def De (b0:U):Option (Bool×U):=cF 47 Gw [.ptr 0 0] [.agg (X.enc b0)]
def Eh (x0:AC):Option Bool:=cF 48 Pc [.agg (AJ.enc x0)] []
def Fl (x0:AC):Option Int:=cF 49 SB [.agg (AJ.enc x0)] []
def Jp (x1 x2:Int) (b0:AB):Option AB:=cF 51 Gx [.ptr 0 0,.int .i64 x1,.int .i64 x2] [.agg (Al.enc b0)]
def YM (x0:List AC) (x1:AC):Option Bool:=cF 52 SC [.lst AJ x0,.agg (AJ.enc x1)] []
def Vj (x0 x1:AC):Option Bool:=cF 53 Pd [.agg (AJ.enc x0),.agg (AJ.enc x1)] []
def QW (x1:List Int) (b0:AL):Option (AB×AL):=cF 54 LU [.ptr 0 0,.lst (.int .u8) x1] [.agg (Ad.enc b0)]
def JL (x1:Int) (b0:AB):Option (List Int×AB):=cF 55 JH [.ptr 0 0,.int .i64 x1] [.agg (AX.enc b0)]
def AW (x0 x1 x2:Int):Option Bool:=cF 56 SD [.int .i64 x0,.int .i64 x1,.int .i64 x2] []
def CQ (x0:List Int) (x1:Int):Option Bool:=cF 57 EI [.lst (.int .i64) x0,.int .i64 x1] []
def DV (x0 x1:List Z):Option Bool:=cF 58 Ao [.lst AF x0,.lst AF x1] []
def Du (x0:List Int) (x1:Int):Option Bool:=cF 59 Gy [.lst (.int .i64) x0,.int .i64 x1] []
def Ko (x0 x1:List Z):Option Bool:=cF 60 Cg [.lst AF x0,.lst AF x1] []
def GI (b0:AL):Option (Int×AL):=cF 61 NE [.ptr 0 0] [.agg (Ad.enc b0)]
def BP (x1:Int) (b0:AL):Option (Int×AL):=cF 62 LV [.ptr 0 0,.int .i64 x1] [.agg (Ad.enc b0)]
def QX (b0:AL):Option (List (List Int)×AL):=cF 63 CC [.ptr 0 0] [.agg (Ad.enc b0)]
def S5 (b0:AL) (b1:AB):Option (AY×AL×AB):=cF 64 Bd [.ptr 0 0,.ptr 1 0] [.agg (Ad.enc b0),.agg (AX.enc b1)]
def Ew (x0:List (List Int)):Option Bool:=cF 65 CF [.lst (.slice (.int .i64)) x0] []
def KO (x0:List (List Int)):Option (List (List Int)):=cF 66 DZ [.lst (.slice (.int .i64)) x0] []
def Ox (x0:Int) (x1:List (List Int)):Option (U×Bool):=cF 67 F_ [.int .i64 x0,.lst (.slice (.int .i64)) x1] []
def NZ (x0 x1:Int) (x2 x3:ByteArray):Option Bool:=cF 68 KH [.int .i64 x0,.int .i64 x1,.str x2,.str x3] []
def L6 (x1:AY) (x2:Int) (b0:AB):Option (Bool×AB):=cF 69 IM [.ptr 0 0,.agg (Ab.enc x1),.int .i64 x2] [.agg (Al.enc b0)]
def L7 (x1:AY) (x2:Int) (b0:AB):Option (Bool×AB):=cF 70 Cs [.ptr 0 0,.agg (Ab.enc x1),.int .i64 x2] [.agg (Al.enc b0)]
def B8 (x1:Int) (b0:AB):Option (Int×AB):=cF 71 HV [.ptr 0 0,.int .i64 x1] [.agg (Al.enc b0)]
def Ut (x0:U):Option U:=cF 72 UZ [.agg (X.enc x0)] []
def Jq (x1:AY) (x2:Int) (b0:AB):Option (Bool×AB):=cF 73 Gz [.ptr 0 0,.agg (Ab.enc x1),.int .i64 x2] [.agg (Al.enc b0)]
def DE (x0:U):Option U:=cF 75 JI [.agg (X.enc x0)] []
def Hn (x0:AA):Option AA:=cF 76 NF [.agg (AH.enc x0)] []
def Ex (x0:List (List Int)):Option Bool:=cF 77 Er [.lst (.slice (.int .i64)) x0] []
def HW (x0:List (List Int)):Option (List (List Int)):=cF 78 Ch [.lst (.slice (.int .i64)) x0] []
def Oy (x0:Int) (x1:List (List Int)):Option (U×Bool):=cF 79 GA [.int .i64 x0,.lst (.slice (.int .i64)) x1] []
def QY (x1:Int) (x2:AY) (b0:AB):Option (Int×AB):=cF 80 LW [.ptr 0 0,.int .i64 x1,.agg (Ab.enc x2)] [.agg (AX.enc b0)]
def QZ (x1 x2:Int) (b0:AB):Option (Int×AB):=cF 81 EA [.ptr 0 0,.int .i64 x1,.int .i64 x2] [.agg (AX.enc b0)]
def GB (x1:U) (x2:List AA) (x3:List AK) (x4:Int) (b0:AB):Option AB:=cF 82 C3 [.ptr 0 0,.agg (X.enc x1),.lst AH x2,.lst BE x3,.int .i64 x4] [.agg (AX.enc b0)]
def dF (x0:U):Option U:=cF 83 Ub [.agg (X.enc x0)] []
def Vk (x1:Int) (x2:AY) (b0:AB):Option (Int×AB):=cF 84 Pe [.ptr 0 0,.int .i64 x1,.agg (Ab.enc x2)] [.agg (AX.enc b0)]
def L8 (x0:List AA):Option (List AA):=cF 85 Ct [.lst AH x0] []
def Dv (x0:U):Option U:=cF 86 NG [.agg (X.enc x0)] []
def SM (x0:ByteArray):Option Bool:=cF 87 SE [.str x0] []
def Na (x0:U) (x1:List (List Int)) (x2:AA):Option (U×List AA×List AK):=cF 89 Hf [.agg (X.enc x0),.lst (.slice (.int .i64)) x1,.agg (AH.enc x2)] []
def G1 (x1:List AA) (x2:List AK) (x3:Int) (b0:AB):Option AB:=cF 90 Cl [.ptr 0 0,.lst AH x1,.lst BE x2,.int .i64 x3] [.agg (Al.enc b0)]
def Ca (x0:List AC) (x1:AC):Option Bool:=cF 91 Bi [.lst AJ x0,.clo 92 AJ x1] []
def S6 (x0 x1:AC):Option Bool:=cF 92 NH [.agg (AJ.enc x0),.fptr [.int .i64 x1.1,.str x1.2.1,.str x1.2.2.1,.int .i64 x1.2.2.2.1,.int .i64 x1.2.2.2.2.1,.int .i64 x1.2.2.2.2.2.1,.int .i64 x1.2.2.2.2.2.2.1,.int .i64 x1.2.2.2.2.2.2.2.1,.str x1.2.2.2.2.2.2.2.2] 0] []
def S7 (x1:AB) (b0:AL):Option (AB×AL):=cF 93 Hg [.ptr 0 0,.agg (BR.enc x1)] [.agg (Ad.enc b0)]
def Qa (x1:List Int) (b0:AL):Option (AB×AL):=cF 94 LX [.ptr 0 0,.lst (.int .u8) x1] [.agg (Ad.enc b0)]
def Dw (x0:List Int) (x1:Int):Option Int:=cF 95 By [.lst (.int .i64) x0,.int .i64 x1] []
def DF (x1:List Int) (b0:AL):Option (Int×AL):=cF 96 JJ [.ptr 0 0,.lst (.int .i64) x1] [.agg (Ad.enc b0)]
def Dx (x1:Int) (b0:AL):Option (Bool×AL):=cF 97 NI [.ptr 0 0,.int .i64 x1] [.agg (Ad.enc b0)]
def GJ (x1:List ByteArray) (b0:AL):Option (ByteArray×AL):=cF 98 NJ [.ptr 0 0,.lst .str x1] [.agg (Ad.enc b0)]
def SN (x0:U) (x1:List (List Int)) (x2 x3:Int) (x4 x5:ByteArray):Option (U×List AA×List AK×Bool):=cF 100 Eg [.agg (X.enc x0),.lst (.slice (.int .i64)) x1,.int .i64 x2,.int .i64 x3,.str x4,.str x5] []
def SO (x0:U) (x1:List (List Int)) (x2:Int):Option (U×List AA×Bool):=cF 101 G0 [.agg (X.enc x0),.lst (.slice (.int .i64)) x1,.int .i64 x2] []
def CV (x0:List U) (x1:Int):Option Int:=cF 102 Ac [.lst X x0,.clo 103 (.int .i64) x1] []
def I7 (x0:U) (x1:Int):Option Bool:=cF 103 GW [.agg (X.enc x0),.fptr [.int .i64 x1] 0] []
def S8 (x0:List Int):Option Bool:=cF 105 Es [.lst (.int .i64) x0] []
def YN (x0:U) (x1:List (List Int)) (x2 x3:Int) (x4 x5:ByteArray):Option (U×List AA×List AK×Bool):=cF 106 B7 [.agg (X.enc x0),.lst (.slice (.int .i64)) x1,.int .i64 x2,.int .i64 x3,.str x4,.str x5] []
def YO (x0:U) (x1:List (List Int)) (x2:Int):Option (U×List AA×Bool):=cF 107 DO [.agg (X.enc x0),.lst (.slice (.int .i64)) x1,.int .i64 x2] []
def S9 (x0:U) (x1:List (List Int)) (x2:AA):Option (U×List AA×List AK):=cF 108 Bz [.agg (X.enc x0),.lst (.slice (.int .i64)) x1,.agg (AH.enc x2)] []
def YP (x0:AA):Option Bool:=cF 109 Fh [.agg (AH.enc x0)] []
def L9 (x1:List (List Int)) (x2:AA) (b0:U):Option (List AA×List AK×U):=cF 110 CU [.ptr 0 0,.lst (.slice (.int .i64)) x1,.agg (AH.enc x2)] [.agg (X.enc b0)]
def Cu (x0:List AC) (x1:AC):Option Int:=cF 111 Ag [.lst AJ x0,.clo 92 AJ x1] []
def Qb (b0:AL):Option (List Z×AL):=cF 112 EB [.ptr 0 0] [.agg (Ad.enc b0)]
def IR (x1:List (List Int)) (b0:U):Option (Bool×U):=cF 113 C4 [.ptr 0 0,.lst (.slice (.int .i64)) x1] [.agg (X.enc b0)]
def Pk (x0:List Z) (x1:ByteArray):Option Z:=cF 114 Ft [.lst AF x0,.str x1] []
def CN (x1:List Int) (b0:U):Option (List Int×U):=cF 115 CM [.ptr 0 0,.lst (.int .i64) x1] [.agg (X.enc b0)]
def DI (b0:List Int):Option (List Int):=cF 116 GX [.row 0] [.new 3 (.int .i64) b0]
def IS (b0:U):Option (List AK×U):=cF 117 ER [.ptr 0 0] [.agg (X.enc b0)]
def Ar (x1:List Int) (x2:AA) (b0:U):Option (List AA×U):=cF 118 B5 [.ptr 0 0,.lst (.int .i64) x1,.agg (AH.enc x2)] [.agg (X.enc b0)]
def G2 (b0:U):Option U:=cF 119 JK [.ptr 0 0] [.agg (X.enc b0)]
def Dy (x1:List Int) (x2:List Z) (b0:U):Option (List AA×U):=cF 120 Fi [.ptr 0 0,.lst (.int .i64) x1,.lst AF x2] [.agg (X.enc b0)]
def Gk (x0:U):Option Bool:=cF 121 Gi [.agg (X.enc x0)] []
def Pl (x0:List Z) (x1:ByteArray):Option Z:=cF 122 Fu [.lst AF x0,.str x1] []
def Ho (x0:List Z) (x1:Z):Option (List Z):=cF 123 BJ [.lst AF x0,.agg (AF.enc x1)] []
def Hp (x0:List Int) (x1:Int):Option (List Int):=cF 124 Dc [.lst (.int .i64) x0,.int .i64 x1] []
def Hq (b0:U):Option (List AK×U):=cF 125 KI [.ptr 0 0] [.agg (X.enc b0)]
def Pm (x1:List Int) (x2:List Z) (b0:U):Option (List AA×U):=cF 126 Fv [.ptr 0 0,.lst (.int .i64) x1,.lst AF x2] [.agg (X.enc b0)]
def YQ (x0:AA):Option Bool:=cF 127 Fj [.agg (AH.enc x0)] []
def Vl (x0:U) (x1:List Int) (x2:AA):Option (U×List AA×List AK):=cF 128 Cw [.agg (X.enc x0),.lst (.int .i64) x1,.agg (AH.enc x2)] []
def Nb (x0:U) (x1:Int):Option U:=cF 129 NP [.agg (X.enc x0),.int .i64 x1] []
def FC (x0:U) (x1:AA) (x2:Int):Option (List AA):=cF 130 LY [.agg (X.enc x0),.agg (AH.enc x1),.int .i64 x2] []
def L_ (x1:List (List Int)) (x2:AA) (b0:U):Option (List AA×U):=cF 131 ES [.ptr 0 0,.lst (.slice (.int .i64)) x1,.agg (AH.enc x2)] [.agg (X.enc b0)]
def I8 (x1:List Int) (x2:AA) (b0:U):Option (List AA×U):=cF 132 Bn [.ptr 0 0,.lst (.int .i64) x1,.agg (AH.enc x2)] [.agg (X.enc b0)]
def Nc (x0:List Int) (x1:Int):Option (List Int):=cF 133 NQ [.lst (.int .i64) x0,.int .i64 x1] []
def Kp (x1:AA) (b0:U):Option (List AA×U):=cF 134 D7 [.ptr 0 0,.agg (AH.enc x1)] [.agg (X.enc b0)]
def G3 (x1:Int) (x2:AA) (b0:U):Option (List AK×U):=cF 135 Dd [.ptr 0 0,.int .i64 x1,.agg (AH.enc x2)] [.agg (X.enc b0)]
def S_ (b0:AL):Option (Z×AL):=cF 136 NS [.ptr 0 0] [.agg (Ad.enc b0)]
def Cm (x1 x2 x3:Int) (b0:List Int):Option (List Int):=cF 137 Ae [.row 0,.int .i64 x1,.int .i64 x2,.int .i64 x3] [.new 3 (.int .i64) b0]
def Qc (x0:Int):Option Int:=cF 138 LZ [.int .u64 x0] []
def Nd (x0:List Z) (x1:Z):Option (List Z):=cF 139 Et [.lst AF x0,.agg (AF.enc x1)] []
def Dn (x0:List Int):Option Bool:=cF 140 Fw [.lst (.int .i64) x0] []
def Dz (x0:List Z):Option Bool:=cF 141 Eu [.lst AF x0] []
def Oz (x0:xR):Option Bool:=cF 142 KJ [.agg (M4.enc x0)] []
def JM (x0:List Int) (x1:Int):Option (List Int):=cF 143 DC [.lst (.int .i64) x0,.int .i64 x1] []
def Vm (b0:AL):Option (ByteArray×AL):=cF 146 Pf [.ptr 0 0] [.agg (Ad.enc b0)]
def Vn (b0:AL):Option (ByteArray×AL):=cF 147 Pg [.ptr 0 0] [.agg (Ad.enc b0)]
def Dl (x1 x2:Int) (b0:List Int):Option (List Int):=cF 148 Aa [.row 0,.int .i64 x1,.int .i64 x2] [.new 3 (.int .i64) b0]
def Nf (x0 x1:Int):Option Bool:=cF 154 NT [.int .i64 x0,.int .i64 x1] []
def Ng (x0:Int):Option Int:=cF 158 DD [.int .u64 x0] []
def Bf (x0:List Z) (x1:ByteArray) (x2:Unit):Option (Int×Bool):=cF 159 AO [.lst AF x0,.str x1,.fn 160 []] []
def KP (x0:Z) (x1:ByteArray):Option Int:=cF 160 KK [.agg (AF.enc x0),.str x1] []
def Lc (x0:Int):Option Bool:=cF 169 La [.int .i64 x0] []
def DW (q0:List AC):Option (List AC):=(cP 74 [.lst AJ q0] []).bind (C8 [(.own 47 AJ)])
def Bq (q0:List AA) (q1 q2:Int):Option (List AA):=(cP 88 [.new 97 AH q0,.int .i64 q1,.int .i64 q2] []).bind (C8 [(.own 97 AH)])
def B0 (q0:List Int):Option (List Int):=(cP 99 [.lst (.int .i64) q0] []).bind (C8 [(.own 3 (.int .i64))])
def Ap (q0:List Z):Option (List Z):=(cP 104 [.lst AF q0] []).bind (C8 [(.own 38 AF)])
def Fm (q0:List Int) (q1:Int):Option (List Int):=(cP 144 [.new 3 (.int .i64) q0,.clo 145 (.int .i64) q1] []).bind (C8 [(.own 3 (.int .i64))])
def Qd (q0 q1:Int) (q2:List Int):Option (List Int):=(cP 149 [.row 0,.int .i64 q0,.int .i64 q1] [.new 3 (.int .i64) q2]).bind (C8 [(.own 3 (.int .i64))])
def Mr (q0 q1:Int) (q2:List Int):Option (List Int):=(cP 150 [.row 0,.int .i64 q0,.int .i64 q1] [.new 3 (.int .i64) q2]).bind (C8 [(.own 3 (.int .i64))])
def OL (q0 q1:Int) (q2:List Int):Option (Int×Int×List Int):=(cP 151 [.row 0,.int .i64 q0,.int .i64 q1] [.new 3 (.int .i64) q2]).bind (C8 [(.int .i64),(.int .i64),(.own 3 (.int .i64))])
def Nh (q0 q1:Int) (q2:List Int):Option (List Int):=(cP 152 [.row 0,.int .i64 q0,.int .i64 q1] [.new 3 (.int .i64) q2]).bind (C8 [(.own 3 (.int .i64))])
def I9 (q0 q1:Int) (q2:List Int):Option (Bool×List Int):=(cP 153 [.row 0,.int .i64 q0,.int .i64 q1] [.new 3 (.int .i64) q2]).bind (C8 [.bool,(.own 3 (.int .i64))])
def MA (q0 q1 q2:Int) (q3:List Int):Option (Int×List Int):=(cP 155 [.row 0,.int .i64 q0,.int .i64 q1,.int .i64 q2] [.new 3 (.int .i64) q3]).bind (C8 [(.int .i64),(.own 3 (.int .i64))])
def P5 (q0 q1 q2:Int) (q3:List Int):Option (Int×Bool×List Int):=(cP 156 [.row 0,.int .i64 q0,.int .i64 q1,.int .i64 q2] [.new 3 (.int .i64) q3]).bind (C8 [(.int .i64),.bool,(.own 3 (.int .i64))])
def DJ (q0:List Z) (q1:Int) (q2:List Z):Option (List Z):=(cP 162 [.new 38 AF q0,.int .i64 q1,.new 38 AF q2] []).bind (C8 [(.own 38 AF)])
def Ni (q0 q1:ByteArray):Option Int:=(cP 161 [.str q0,.str q1] []).bind (C8 [(.int .i64)])
theorem MB {x0:List AC} (h:x0.length<=68719476736):DW x0=some x0:=by
 unfold DW cP
 rw [Oo (r:=[.new 47 AJ x0]) rfl (tP (t:=47) (K:=AJ) (xs:=x0) h)]
 rfl
theorem Ge {x0:List AA} {i j:Nat} (hi:i<=j) (hj:j<=x0.length):Bq x0 (i:Int) (j:Int)=some (x0.take i++x0.drop j):=by
 unfold Bq cP
 rw [Oo (r:=[.new 97 AH (x0.take i++x0.drop j)]) rfl (ADU (t:=97) (K:=AH) (xs:=x0) hi hj)]
 rfl
theorem C5 {x0:List Int} (h:x0.length<=68719476736):B0 x0=some x0:=by
 unfold B0 cP
 rw [Oo (r:=[.new 3 (.int .i64) x0]) rfl (tP (t:=3) (K:=(.int .i64)) (xs:=x0) h)]
 rfl
theorem BN {x0:List Z} (h:x0.length<=68719476736):Ap x0=some x0:=by
 unfold Ap cP
 rw [Oo (r:=[.new 38 AF x0]) rfl (tP (t:=38) (K:=AF) (xs:=x0) h)]
 rfl
theorem SP {x0:List Int} {x1:Int}:Fm x0 x1=some (x0.filter fun x=>!(x==x1)):=by
 unfold Fm cP
 rw [Oo (fns:=fns) (prims:=prims) (f:=144) (args:=[.new 3 (.int .i64) x0,.clo 145 (.int .i64) x1]) (bs:=[]) (r:=[.new 3 (.int .i64) (x0.filter fun x=>!(x==x1))]) rfl (ACL (t:=3) (g:=145) (xs:=x0) (n:=x1))]
 rfl
theorem j7 {x0 x1:ByteArray}:Ni x0 x1=some (Go.Lib.compareBytes x0.data.toList x1.data.toList):=by
 unfold Ni cP
 rw [Oo (r:=[.int .i64 (Go.Lib.compareBytes x0.data.toList x1.data.toList)]) rfl rfl]
 rfl
theorem LE {x0:List Z} {i:Nat} {x2:List Z} (h:x0.length+x2.length<=68719476736) (hi:i<=x0.length) (hv:x2.length≠0):DJ x0 (i:Int) x2=some (x0.take i++x2++x0.drop i):=by
 unfold DJ cP
 rw [Oo (r:=[.new 38 AF (x0.take i++x2++x0.drop i)]) rfl (ADR (t:=38) (K:=AF) (xs:=x0) (vs:=x2) (i:=i) h hi hv)]
 rfl

def Ra (x0:List Int) (x1:Bool) (x2:AB):Option Bool:=cG RE (AI F9) (AI F9) kx ⟨[(0,.lst (.int .u8) x0),(58,.bool x1)],[.var (AX.enc x2)]⟩
def Rb (x0:List Int) (x1:Bool) (x2:AB):Option Bool:=((QS x0).bind fun y15=>((QT y15.1 y15.2).bind fun y16=>(if y16.2.2=true then ((Hm y16.1).bind fun y17=>(if y17=true then ((NX y16.1).bind fun y18=>(if y18=true then ((NW y16.1).bind fun y19=>(some y19)) else (some false))) else (some false))) else (some false))))
def Wp (x0:List Int):Option Bool:=((iB x0).bind fun y1=>(if y1=true then (some true) else ((Ow x0).bind fun y2=>((NW y2).bind fun y3=>((SJ y2).bind fun y4=>(if (true != OI .bool y3 y4)=true then (some false) else ((Hm y2).bind fun y5=>((KM y2).bind fun y6=>(if (true != OI .bool y5 y6)=true then (some false) else ((NX y2).bind fun y7=>((SK y2).bind fun y8=>(if (true != OI .bool y7 y8)=true then (some false) else ((Ph y2.2.2.2).bind fun y9=>((Pi y2.2.2.2).bind fun y10=>(if (true != OI .bool y9 y10)=true then (some false) else ((SH y2.2.2.2).bind fun y11=>((SI y2.2.2.2).bind fun y12=>(if (true != OI .bool y11 y12)=true then (some false) else ((NU y2.2.2.2).bind fun y13=>((NV y2.2.2.2).bind fun y14=>(if (true != OI .bool y13 y14)=true then (some false) else (Ra x0 (true != OI .bool y13 y14) y2))))))))))))))))))))))
theorem fQ:SW Rb Ra:=jS (by kernel_rfl)
theorem nK:Ma Wp Wo:=cT F9 rfl ⟨rfl,rfl⟩ (by kernel_rfl)
def AAC (x0:List Int):Option Bool:=(some (decide ((x0.length:Int)>1048576)))
theorem AAD:Ma AAC iB:=cT YH rfl ⟨rfl,rfl⟩ (by kernel_rfl)
def Z4 (x0:List Int):Option (List (List Int)×List AY):=((Pj x0).bind fun y1=>((NY x0 y1).bind fun y2=>(some (y2.1.1,y2.1.2))))
theorem pw:Ma Z4 QS:=cT LT rfl ⟨rfl,rfl⟩ (by kernel_rfl)
def j8:=cG Sj (AI BO) (AI BO) kx
def j9:=kE 2 [(11,11)] [4,7,11] 12 j8 kx
def iC:St->Option (RT (BG.outs BO)):=lG Si [(11,11)] [4,7,11,39,40,41] 12 (AI BO) j9
def j_:=cG Ly (AI BO) (AI BO) kx
def kA:=kE 0 [] [1,4,7] 11 j_ kx
def iD:St->Option (RT (BG.outs BO)):=lG UA [] [1,4,7,28,29,30] 11 (AI BO) kA
def GK (x0:List AY) (x1 x2:Int) (x3:List U) (x4:List AA) (x5:List AC) (x6:List (List Int)) (x7:List U) (x8:List AA) (x9:List AC) (x10:List (List Int)) (x11:List Int):Option (AB×List Int×Bool):=iC ⟨[(4,.ptr 3 0),(7,.ptr 10 0),(11,.row 11),(39,.lst Ab x0),(40,.int .i64 x1),(41,.int .i64 x2)],[.rows 42 X x3,.rows 97 AH x4,.rows 47 AJ x5,.var [.lst (.slice (.int .i64)) x6,.row 0,.row 1,.row 2],.dead,.dead,.dead,.rows 42 X x7,.rows 97 AH x8,.rows 47 AJ x9,.var [.lst (.slice (.int .i64)) x10,.row 7,.row 8,.row 9],.rows 3 (.int .i64) x11]⟩
def TA (x0:List AY) (x1:List U) (x2:List AA) (x3:List AC) (x4:List (List Int)) (x5:List U) (x6:List AA) (x7:List AC) (x8:List (List Int)):Option (AB×List Int×Bool):=cG Ly (AI BO) (AI BO) kx ⟨[(1,.lst Ab x0),(4,.ptr 3 0),(7,.ptr 10 0)],[.rows 42 X x1,.rows 97 AH x2,.rows 47 AJ x3,.var [.lst (.slice (.int .i64)) x4,.row 0,.row 1,.row 2],.dead,.dead,.dead,.rows 42 X x5,.rows 97 AH x6,.rows 47 AJ x7,.var [.lst (.slice (.int .i64)) x8,.row 7,.row 8,.row 9]]⟩
def GL (x0 x1:List AY) (x2 x3:Int) (x4:List U) (x5:List AA) (x6:List AC) (x7:List (List Int)) (x8:List U) (x9:List AA) (x10:List AC) (x11:List (List Int)):Option (AB×List Int×Bool):=iD ⟨[(1,.lst Ab x0),(4,.ptr 3 0),(7,.ptr 10 0),(28,.lst Ab x1),(29,.int .i64 x2),(30,.int .i64 x3)],[.rows 42 X x4,.rows 97 AH x5,.rows 47 AJ x6,.var [.lst (.slice (.int .i64)) x7,.row 0,.row 1,.row 2],.dead,.dead,.dead,.rows 42 X x8,.rows 97 AH x9,.rows 47 AJ x10,.var [.lst (.slice (.int .i64)) x11,.row 7,.row 8,.row 9]]⟩
def TB (x0:List AY) (x1:Bool) (x2:List U) (x3:List AA) (x4:List AC) (x5:List (List Int)) (x6:List U) (x7:List AA) (x8:List AC) (x9:List (List Int)):Option (AB×List Int×Bool):=cG Sk (AI BO) (AI BO) kx ⟨[(1,.lst Ab x0),(4,.ptr 3 0),(7,.ptr 10 0),(26,.bool x1)],[.rows 42 X x2,.rows 97 AH x3,.rows 47 AJ x4,.var [.lst (.slice (.int .i64)) x5,.row 0,.row 1,.row 2],.dead,.dead,.dead,.rows 42 X x6,.rows 97 AH x7,.rows 47 AJ x8,.var [.lst (.slice (.int .i64)) x9,.row 7,.row 8,.row 9]]⟩
def MC (x0:List AY) (x1 x2:Int) (x3:List U) (x4:List AA) (x5:List AC) (x6:List (List Int)) (x7:List U) (x8:List AA) (x9:List AC) (x10:List (List Int)) (x11:List Int):Option (AB×List Int×Bool):=(if (decide (x2<x1))=true then (if 0<=x2 then (if x2<(x0.length:Int) then ((IP (x0.getD x2.toNat (0,0,0,0,O,O)) x2 (x10,x7,x8,x9)).bind fun y3=>((Vi y3.1).bind fun y4=>(if x11.length+([y4]:List Int).length<=68719476736 then (GK x0 x1 (i64.wrap (x2+1)) x3 x4 x5 x6 y3.2.2.1 y3.2.2.2.1 y3.2.2.2.2 y3.2.1 (x11++([y4]:List Int))) else none))) else none) else none) else ((KN (x10,x7,x8,x9)).bind fun y5=>(some (y5,x11,true))))
def TC (x0:List AY) (x1:List U) (x2:List AA) (x3:List AC) (x4:List (List Int)) (x5:List U) (x6:List AA) (x7:List AC) (x8:List (List Int)):Option (AB×List Int×Bool):=(GK x0 (x0.length:Int) 0 x1 x2 x3 x4 x5 x6 x7 x8 ([]:List Int))
def MD (x0 x1:List AY) (x2 x3:Int) (x4:List U) (x5:List AA) (x6:List AC) (x7:List (List Int)) (x8:List U) (x9:List AA) (x10:List AC) (x11:List (List Int)):Option (AB×List Int×Bool):=(if (decide (x3<x2))=true then (if 0<=x3 then (if x3<(x1.length:Int) then ((S0 (x1.getD x3.toNat (0,0,0,0,O,O))).bind fun y2=>(if (!y2)=true then (some (([],([]:List U),([]:List AA),([]:List AC)),[],false)) else (GL x0 x1 x2 (i64.wrap (x3+1)) x4 x5 x6 x7 x8 x9 x10 x11))) else none) else none) else (TA x0 x4 x5 x6 x7 x8 x9 x10 x11))
def TD (x0:List AY) (x1:Bool) (x2:List U) (x3:List AA) (x4:List AC) (x5:List (List Int)) (x6:List U) (x7:List AA) (x8:List AC) (x9:List (List Int)):Option (AB×List Int×Bool):=(GL x0 x0 (x0.length:Int) 0 x2 x3 x4 x5 x6 x7 x8 x9)
def Z5 (x0:List (List Int)) (x1:List AY):Option (AB×List Int×Bool):=((QV x0).bind fun y1=>(if (!y1.2)=false then (if (decide ((x1.length:Int)>70))=true then (some (([],([]:List U),([]:List AA),([]:List AC)),[],false)) else (TB x1 (decide ((x1.length:Int)>70)) ([]:List U) ([]:List AA) ([]:List AC) ([]:List (List Int)) y1.1.2.1 y1.1.2.2.1 y1.1.2.2.2 y1.1.1)) else (some (([],([]:List U),([]:List AA),([]:List AC)),[],false))))
theorem TE:AEH MC GK:=lS (by kernel_rfl)
theorem iE:Le9 TC TA:=jS (by kernel_rfl)
theorem TF:AEH MD GL:=lS (by kernel_rfl)
theorem iF:vQ TD TB:=jS (by kernel_rfl)
theorem py:OJ Z5 QT:=cT BO rfl ⟨rfl,rfl⟩ (by kernel_rfl)
def kC:=cG Sl (AI Ba) (AI Ba) kx
def kD:=kE 2 [(10,4)] [4,7,10] 5 kC kx
def iG:St->Option (RT (BG.outs Ba)):=lG UD [(10,4)] [1,4,7,10,11] 5 (AI Ba) kD
def kF:=cG Lz (AI Ba) (AI Ba) kx
def Uu:=kE 0 [] [1,4,7,8] 4 kF kx
def TG:St->Option (RT (BG.outs Ba)):=lG UC [] [1,4,7,8,9] 4 (AI Ba) Uu
def kG:=kB [] [1,4,7,8,9] 4 TG
def TH (x0:List AY) (x1:Bool) (x2:Int) (x3:Bool) (x4:List U) (x5:List AC) (x6:List (List Int)) (x7:List AA) (x8:AB):Option (AB×List Int×Bool):=cG UB kG (AI Ba) Uu ⟨[(1,.lst Ab x0),(4,.ptr 2 0),(7,.ptr 3 0),(8,.bool x1),(9,.int .i64 x2),(23,.bool x3)],[.rows 42 X x4,.rows 47 AJ x5,.var [.lst (.slice (.int .i64)) x6,.row 0,.lst AH x7,.row 1],.var (AX.enc x8)]⟩
def GM (x0:List AY) (x1:Int) (x2:List U) (x3:List AC) (x4:List (List Int)) (x5:List AA) (x6:AB) (x7:List Int):Option (AB×List Int×Bool):=iG ⟨[(1,.lst Ab x0),(4,.ptr 2 0),(7,.ptr 3 0),(10,.row 4),(11,.int .i64 x1)],[.rows 42 X x2,.rows 47 AJ x3,.var [.lst (.slice (.int .i64)) x4,.row 0,.lst AH x5,.row 1],.var (AX.enc x6),.rows 3 (.int .i64) x7]⟩
def IU (x0:List AY) (x1:Bool) (x2:List U) (x3:List AC) (x4:List (List Int)) (x5:List AA) (x6:AB):Option (AB×List Int×Bool):=cG Lz (AI Ba) (AI Ba) kx ⟨[(1,.lst Ab x0),(4,.ptr 2 0),(7,.ptr 3 0),(8,.bool x1)],[.rows 42 X x2,.rows 47 AJ x3,.var [.lst (.slice (.int .i64)) x4,.row 0,.lst AH x5,.row 1],.var (AX.enc x6)]⟩
def EU (x0:List AY) (x1:Bool) (x2:Int) (x3:List U) (x4:List AC) (x5:List (List Int)) (x6:List AA) (x7:AB):Option (AB×List Int×Bool):=TG ⟨[(1,.lst Ab x0),(4,.ptr 2 0),(7,.ptr 3 0),(8,.bool x1),(9,.int .i64 x2)],[.rows 42 X x3,.rows 47 AJ x4,.var [.lst (.slice (.int .i64)) x5,.row 0,.lst AH x6,.row 1],.var (AX.enc x7)]⟩
def TI (x0:List AY) (x1:Bool) (x2:Int) (x3:Bool) (x4:List U) (x5:List AC) (x6:List (List Int)) (x7:List AA) (x8:AB):Option (AB×List Int×Bool):=(if (decide ((x0.length:Int)<=70))=true then (if 0<=x2 then (if x2<(x0.length:Int) then ((S3 (x0.getD x2.toNat (0,0,0,0,O,O))).bind fun y2=>(EU x0 y2 (i64.wrap (x2+1)) x4 x5 x6 x7 x8)) else none) else none) else (EU x0 false (i64.wrap (x2+1)) x4 x5 x6 x7 x8))
def ME (x0:List AY) (x1:Int) (x2:List U) (x3:List AC) (x4:List (List Int)) (x5:List AA) (x6:AB) (x7:List Int):Option (AB×List Int×Bool):=(if (decide (x1<(x0.length:Int)))=true then (if 0<=x1 then (if x1<(x0.length:Int) then ((SL x1 (x0.getD x1.toNat (0,0,0,0,O,O)) x6).bind fun y3=>(if x7.length+([y3.1]:List Int).length<=68719476736 then (GM x0 (i64.wrap (x1+1)) x2 x3 x4 x5 y3.2 (x7++([y3.1]:List Int))) else none)) else none) else none) else ((S4 x6).bind fun y4=>(some (y4,x7,true))))
def TJ (x0:List AY) (x1:Bool) (x2:List U) (x3:List AC) (x4:List (List Int)) (x5:List AA) (x6:AB):Option (AB×List Int×Bool):=(if (!x1)=true then (some (([],([]:List U),[],([]:List AC)),([]:List Int),false)) else (GM x0 0 x2 x3 x4 x5 x6 ([]:List Int)))
def MF (x0:List AY) (x1:Bool) (x2:Int) (x3:List U) (x4:List AC) (x5:List (List Int)) (x6:List AA) (x7:AB):Option (AB×List Int×Bool):=(if (decide (x2<(x0.length:Int)))=true then (if x1=true then (TH x0 x1 x2 x1 x3 x4 x5 x6 x7) else (IU x0 x1 x3 x4 x5 x6 x7)) else (IU x0 x1 x3 x4 x5 x6 x7))
def Z6 (x0:List (List Int)) (x1:List AY):Option (AB×List Int×Bool):=((Lb x0).bind fun y1=>(EU x1 y1.2 0 ([]:List U) ([]:List AC) ([]:List (List Int)) ([]:List AA) y1.1))
theorem iH:Le9 TI TH:=jS (by kernel_rfl)
theorem TK:zH ME GM:=lS (by kernel_rfl)
theorem iI:Le7 TJ IU:=jS (by kernel_rfl)
theorem TL:zH MF EU:=lS (by kernel_rfl)
theorem pz:OJ Z6 QU:=cT Ba rfl ⟨rfl,rfl⟩ (by kernel_rfl)
def MG (x0:Bool) (x1:U):Option Bool:=cG UE (AI Gh) (AI Gh) kx ⟨[(1,.ptr 0 0),(30,.bool x0)],[.var (X.enc x1)]⟩
def TM (x0:Bool) (x1:U):Option Bool:=(if x1.2.2.2.2.2.1=true then (if (!x1.2.2.2.1)=false then (if (!x1.2.2.2.2.1)=false then (if (decide ((x1.2.2.2.2.2.2.1.length:Int)>0))=false then (if x1.2.2.1=true then (if x1.2.2.2.1=false then (if x1.2.2.2.2.1=true then (some false) else ((De x1).bind fun y6=>(some y6.1))) else (some false)) else ((De x1).bind fun y7=>(some y7.1))) else (some false)) else (some false)) else (some false)) else (if x1.2.2.1=true then (if x1.2.2.2.1=false then (if x1.2.2.2.2.1=true then (some false) else ((De x1).bind fun y8=>(some y8.1))) else (some false)) else ((De x1).bind fun y9=>(some y9.1))))
def Z7 (x0:U):Option Bool:=((F3 x0.1).bind fun y1=>(if (!y1)=false then ((Aj x0.2.1 1 9).bind fun y2=>(if (!y2)=false then ((IQ x0.2.2.2.2.2.2.1 1 6).bind fun y3=>(if (!y3)=false then ((GH x0.2.2.2.2.2.2.2.1).bind fun y4=>(if (!y4)=false then ((Aj x0.2.2.2.2.2.2.2.2.1 0 900).bind fun y5=>(if (!y5)=true then (some false) else (MG (!y5) x0))) else (some false))) else (some false))) else (some false))) else (some false)))
theorem iJ:OJ TM MG:=jS (by kernel_rfl)
theorem p8:Ma Z7 Gj:=cT Gh rfl ⟨rfl,rfl⟩ (by kernel_rfl)
def p9:=cG WI (AI Ce) (AI Ce) kx
def Qe:=kE 0 [] [] 0 p9 kx
def Wq:St->Option (RT (BG.outs Ce)):=lG WH [] [0,7,8,9] 0 (AI Ce) Qe
def p_:=kB [] [0,7,8,9] 0 Wq
def Z8:=cG WG p_ (AI Ce) Qe
def qA:=kB [] [0,7,8,9] 0 Z8
def qB:=kE 1 [] [0,7,8,9] 0 Z8 Qe
def Qf:=kE 2 [] [0,7,8,9] 1 qA qB
def Wr:St->Option (RT (BG.outs Ce)):=lG Ys [] [0,3,4,7,8,9,14,15,16] 1 (AI Ce) Qf
def qC:=kB [] [0,3,4,7,8,9,14,15,16] 1 Wr
def Z9:=cG Yr qC (AI Ce) Qf
def qD:=kB [] [0,3,4,7,8,9,14,15,16] 1 Z9
def nL:=kE 3 [] [0,3,4,7,8,9,14,15,16] 1 Z9 Qf
def O0 (x0:List AC) (x1:Int) (x2:List AC) (x3 x4:Int) (x5:List AC) (x6 x7:Int) (x8:Bool) (x9 x10:AC):Option Bool:=cG Yq qD (AI Ce) nL ⟨[(0,.lst AJ x0),(3,.int .i64 x1),(4,.ptr 0 0),(6,.ptr 1 0),(7,.lst AJ x2),(8,.int .i64 x3),(9,.int .i64 x4),(14,.lst AJ x5),(15,.int .i64 x6),(16,.int .i64 x7),(33,.bool x8)],[.var (AJ.enc x9),.var (AJ.enc x10)]⟩
def Df (x0:List AC) (x1:Int) (x2:List AC) (x3 x4:Int) (x5:List AC) (x6 x7:Int) (x8:AC):Option Bool:=Wr ⟨[(0,.lst AJ x0),(3,.int .i64 x1),(4,.ptr 0 0),(7,.lst AJ x2),(8,.int .i64 x3),(9,.int .i64 x4),(14,.lst AJ x5),(15,.int .i64 x6),(16,.int .i64 x7)],[.var (AJ.enc x8)]⟩
def KQ (x0 x1:List AC) (x2 x3:Int):Option Bool:=Wq ⟨[(0,.lst AJ x0),(7,.lst AJ x1),(8,.int .i64 x2),(9,.int .i64 x3)],[]⟩
def Ws (x0:List AC) (x1:Int) (x2:List AC) (x3 x4:Int) (x5:List AC) (x6 x7:Int) (x8:Bool) (x9 x10:AC):Option Bool:=((Dt x9).bind fun y3=>((Dt x10).bind fun y4=>(if (y3==y4)=true then (some false) else (if (decide (x9.2.2.2.2.1<x10.2.2.2.1))=true then ((Dt x9).bind fun y5=>((Dt x10).bind fun y6=>(if (decide (y5>y6))=true then (some false) else (Df x0 x1 x2 x3 x4 x5 x6 (i64.wrap (x7+1)) x9)))) else (Df x0 x1 x2 x3 x4 x5 x6 (i64.wrap (x7+1)) x9)))))
def O1 (x0:List AC) (x1:Int) (x2:List AC) (x3 x4:Int) (x5:List AC) (x6 x7:Int) (x8:AC):Option Bool:=(if (decide (x7<x6))=true then (if 0<=x7 then (if x7<(x5.length:Int) then (if (x1==x7)=false then ((Eh x8).bind fun y1=>(if (!y1)=false then ((Eh (x5.getD x7.toNat (0,O,O,0,0,0,0,0,O))).bind fun y2=>(if (!y2)=true then (Df x0 x1 x2 x3 x4 x5 x6 (i64.wrap (x7+1)) x8) else (O0 x0 x1 x2 x3 x4 x5 x6 x7 (!y2) x8 (x5.getD x7.toNat (0,O,O,0,0,0,0,0,O))))) else (Df x0 x1 x2 x3 x4 x5 x6 (i64.wrap (x7+1)) x8))) else (Df x0 x1 x2 x3 x4 x5 x6 (i64.wrap (x7+1)) x8)) else none) else none) else (KQ x0 x2 x3 (i64.wrap (x4+1))))
def O2 (x0 x1:List AC) (x2 x3:Int):Option Bool:=(if (decide (x3<x2))=true then (if 0<=x3 then (if x3<(x1.length:Int) then (Df x0 x3 x1 x2 x3 x0 (x0.length:Int) 0 (x1.getD x3.toNat (0,O,O,0,0,0,0,0,O))) else none) else none) else (some true))
def gO (x0:List AC):Option Bool:=(KQ x0 x0 (x0.length:Int) 0)
theorem nM:AEg Ws O0:=jS (by kernel_rfl)
theorem Wt:Le9 O1 Df:=lS (by kernel_rfl)
theorem Wu:gN O2 KQ:=lS (by kernel_rfl)
theorem vk:Ma gO Ph:=cT Ce rfl ⟨rfl,rfl⟩ (by kernel_rfl)
def qE:=cG WM (AI Cf) (AI Cf) kx
def Qg:=kE 0 [] [] 0 qE kx
def Ww:St->Option (RT (BG.outs Cf)):=lG WL [] [0,3] 0 (AI Cf) Qg
def qF:=kB [] [0,3] 0 Ww
def Z_:=cG WK qF (AI Cf) Qg
def qG:=kB [] [0,3] 0 Z_
def qH:=kE 1 [] [0,3] 0 Z_ Qg
def Qh:=kE 2 [] [0,3] 0 qG qH
def Wx:St->Option (RT (BG.outs Cf)):=lG WJ [] [0,3,4] 0 (AI Cf) Qh
def qI:=kB [] [0,3,4] 0 Wx
def aA:=cG Yv qI (AI Cf) Qh
def qJ:=kB [] [0,3,4] 0 aA
def nN:=kE 3 [] [0,3,4] 0 aA Qh
def O3 (x0:List AC) (x1 x2:Int) (x3:Bool) (x4 x5:AC):Option Bool:=cG Yu qJ (AI Cf) nN ⟨[(0,.lst AJ x0),(3,.int .i64 x1),(4,.int .i64 x2),(5,.ptr 0 0),(6,.ptr 1 0),(39,.bool x3)],[.var (AJ.enc x4),.var (AJ.enc x5)]⟩
def Dg (x0:List AC) (x1 x2:Int):Option Bool:=Wx ⟨[(0,.lst AJ x0),(3,.int .i64 x1),(4,.int .i64 x2)],[]⟩
def KR (x0:List AC) (x1:Int):Option Bool:=Ww ⟨[(0,.lst AJ x0),(3,.int .i64 x1)],[]⟩
def Wy (x0:List AC) (x1 x2:Int) (x3:Bool) (x4 x5:AC):Option Bool:=((Fl x4).bind fun y1=>((Fl x5).bind fun y2=>(if (y1==y2)=true then (some false) else (if (decide (x4.2.2.2.2.1<x5.2.2.2.1))=true then ((Fl x4).bind fun y3=>((Fl x5).bind fun y4=>(if (decide (y3>=y4))=true then (some false) else (Dg x0 x1 (i64.wrap (x2+1)))))) else (Dg x0 x1 (i64.wrap (x2+1)))))))
def O4 (x0:List AC) (x1 x2:Int):Option Bool:=(if (decide (x2<(x0.length:Int)))=true then (if 0<=x1 then (if x1<(x0.length:Int) then (if 0<=x2 then (if x2<(x0.length:Int) then (if (decide (((((((x0.getD x1.toNat (0,O,O,0,0,0,0,0,O)).2).2).2).2).1)<0))=false then (if (decide (((((((x0.getD x2.toNat (0,O,O,0,0,0,0,0,O)).2).2).2).2).1)<0))=false then (if (x1==x2)=true then (Dg x0 x1 (i64.wrap (x2+1))) else (O3 x0 x1 x2 (x1==x2) (x0.getD x1.toNat (0,O,O,0,0,0,0,0,O)) (x0.getD x2.toNat (0,O,O,0,0,0,0,0,O)))) else (Dg x0 x1 (i64.wrap (x2+1)))) else (Dg x0 x1 (i64.wrap (x2+1)))) else none) else none) else none) else none) else (KR x0 (i64.wrap (x1+1))))
def O5 (x0:List AC) (x1:Int):Option Bool:=(if (decide (x1<(x0.length:Int)))=true then (Dg x0 x1 0) else (some true))
def gP (x0:List AC):Option Bool:=(KR x0 0)
theorem nO:Le6 Wy O3:=jS (by kernel_rfl)
theorem Wz:SW O4 Dg:=lS (by kernel_rfl)
theorem W0:OJ O5 KR:=lS (by kernel_rfl)
theorem vm:Ma gP Pi:=cT Cf rfl ⟨rfl,rfl⟩ (by kernel_rfl)
def kH (x0:AC):Option Int:=((Aj x0.2.2.2.2.2.2.1 0 9).bind fun y1=>(if (!y1)=false then ((Aj x0.2.2.2.2.2.2.2.1 0 999).bind fun y2=>(if (!y2)=true then (some 0) else (some (i64.wrap ((i64.wrap (1000*x0.2.2.2.2.2.2.1))+x0.2.2.2.2.2.2.2.1))))) else (some 0)))
theorem yB:Ma kH Dt:=cT R8 rfl ⟨rfl,rfl⟩ (by kernel_rfl)
def tR:=cG Yx (AI Ee) (AI Ee) kx
def TN:=kE 0 [] [] 0 tR kx
def aB:St->Option (RT (BG.outs Ee)):=lG Yw [] [0,5,6,7] 0 (AI Ee) TN
def tS:=kB [] [0,5,6,7] 0 aB
def dG:=cG cX tS (AI Ee) TN
def tT:=kB [] [0,5,6,7] 0 dG
def tU:=kE 1 [] [0,5,6,7] 0 dG TN
def Qi (x0 x1:List AC) (x2 x3:Int) (x4:Bool) (x5:AC):Option Bool:=cG cW tT (AI Ee) tU ⟨[(0,.lst AJ x0),(4,.ptr 0 0),(5,.lst AJ x1),(6,.int .i64 x2),(7,.int .i64 x3),(18,.bool x4)],[.var (AJ.enc x5)]⟩
def FD (x0 x1:List AC) (x2 x3:Int):Option Bool:=aB ⟨[(0,.lst AJ x0),(5,.lst AJ x1),(6,.int .i64 x2),(7,.int .i64 x3)],[]⟩
def aC (x0 x1:List AC) (x2 x3:Int) (x4:Bool) (x5:AC):Option Bool:=(if (x5.2.2.2.2.2.1==0)=true then (if (!(x5.2.2.2.2.2.2.2.2.toList==(⟨#[]⟩:ByteArray).toList))=true then (some false) else (FD x0 x1 x2 (i64.wrap (x3+1)))) else ((YM x0 x5).bind fun y2=>(if (!y2)=true then (some false) else ((Dt x5).bind fun y3=>(if (decide (x5.2.2.2.2.2.1>y3))=true then (some false) else (FD x0 x1 x2 (i64.wrap (x3+1))))))))
def Qj (x0 x1:List AC) (x2 x3:Int):Option Bool:=(if (decide (x3<x2))=true then (if 0<=x3 then (if x3<(x1.length:Int) then (if (((x1.getD x3.toNat (0,O,O,0,0,0,0,0,O)).1) != 2)=false then ((Eh (x1.getD x3.toNat (0,O,O,0,0,0,0,0,O))).bind fun y1=>(if (!y1)=true then (FD x0 x1 x2 (i64.wrap (x3+1))) else (Qi x0 x1 x2 x3 (!y1) (x1.getD x3.toNat (0,O,O,0,0,0,0,0,O))))) else (FD x0 x1 x2 (i64.wrap (x3+1)))) else none) else none) else (some true))
def kI (x0:List AC):Option Bool:=(FD x0 x0 (x0.length:Int) 0)
theorem qK:Le6 aC Qi:=jS (by kernel_rfl)
theorem aD:gN Qj FD:=lS (by kernel_rfl)
theorem yC:Ma kI SH:=cT Ee rfl ⟨rfl,rfl⟩ (by kernel_rfl)
def tV:=cG Y1 (AI Ck) (AI Ck) kx
def TO:=kE 0 [] [] 0 tV kx
def aE:St->Option (RT (BG.outs Ck)):=lG Y0 [] [0,3] 0 (AI Ck) TO
def tW:=kB [] [0,3] 0 aE
def dH:=cG Yz tW (AI Ck) TO
def TP:=kB [] [0,3] 0 dH
def Nj:=kE 1 [] [0,3] 0 dH TO
def tX:=cG QR TP (AI Ck) Nj
def tY:=kE 2 [] [0,3,4,5] 1 tX Nj
def qL:St->Option (RT (BG.outs Ck)):=lG cY [] [0,3,4,5,6] 1 (AI Ck) tY
def Qk (x0:List AC) (x1:Int) (x2:Bool) (x3:AC):Option Bool:=cG QR TP (AI Ck) Nj ⟨[(0,.lst AJ x0),(3,.int .i64 x1),(4,.ptr 0 0),(5,.bool x2)],[.var (AJ.enc x3)]⟩
def Gl (x0:List AC) (x1:Int) (x2:Bool) (x3:Int) (x4:AC):Option Bool:=qL ⟨[(0,.lst AJ x0),(3,.int .i64 x1),(4,.ptr 0 0),(5,.bool x2),(6,.int .i64 x3)],[.var (AJ.enc x4)]⟩
def Ql (x0:List AC) (x1:Int) (x2:Bool) (x3:AC):Option Bool:=cG Yy TP (AI Ck) Nj ⟨[(0,.lst AJ x0),(3,.int .i64 x1),(4,.ptr 0 0),(24,.bool x2)],[.var (AJ.enc x3)]⟩
def FE (x0:List AC) (x1:Int):Option Bool:=aE ⟨[(0,.lst AJ x0),(3,.int .i64 x1)],[]⟩
def aF (x0:List AC) (x1:Int) (x2:Bool) (x3:AC):Option Bool:=(if (!x2)=true then (some false) else ((Fl x3).bind fun y2=>(if (decide (x3.2.2.2.2.2.1>y2))=true then (some false) else (FE x0 (i64.wrap (x1+1))))))
def Qm (x0:List AC) (x1:Int) (x2:Bool) (x3:Int) (x4:AC):Option Bool:=(if (decide (x3<(x0.length:Int)))=true then (if x2=true then (Gl x0 x1 true (i64.wrap (x3+1)) x4) else (if 0<=x3 then (if x3<(x0.length:Int) then ((Vj x4 (x0.getD x3.toNat (0,O,O,0,0,0,0,0,O))).bind fun y1=>(Gl x0 x1 y1 (i64.wrap (x3+1)) x4)) else none) else none)) else (Qk x0 x1 x2 x4))
def aG (x0:List AC) (x1:Int) (x2:Bool) (x3:AC):Option Bool:=(if (x3.2.2.2.2.2.1==0)=true then (if (!(x3.2.2.2.2.2.2.2.2.toList==(⟨#[]⟩:ByteArray).toList))=true then (some false) else (FE x0 (i64.wrap (x1+1)))) else (Gl x0 x1 false 0 x3))
def Qn (x0:List AC) (x1:Int):Option Bool:=(if (decide (x1<(x0.length:Int)))=true then (if 0<=x1 then (if x1<(x0.length:Int) then (if (((x0.getD x1.toNat (0,O,O,0,0,0,0,0,O)).1) != 2)=false then (if (decide (((((((x0.getD x1.toNat (0,O,O,0,0,0,0,0,O)).2).2).2).2).1)<0))=true then (FE x0 (i64.wrap (x1+1))) else (Ql x0 x1 (decide (((((((x0.getD x1.toNat (0,O,O,0,0,0,0,0,O)).2).2).2).2).1)<0)) (x0.getD x1.toNat (0,O,O,0,0,0,0,0,O)))) else (FE x0 (i64.wrap (x1+1)))) else none) else none) else (some true))
def kK (x0:List AC):Option Bool:=(FE x0 0)
theorem qM:gN aF Qk:=jS (by kernel_rfl)
theorem aH:Le5 Qm Gl:=lS (by kernel_rfl)
theorem qN:gN aG Ql:=jS (by kernel_rfl)
theorem aI:OJ Qn FE:=lS (by kernel_rfl)
theorem yD:Ma kK SI:=cT Ck rfl ⟨rfl,rfl⟩ (by kernel_rfl)
def tZ:=cG Y_ (AI C2) (AI C2) kx
def TQ:=kE 0 [] [] 0 tZ kx
def aJ:St->Option (RT (BG.outs C2)):=lG Y9 [] [0,8,9,10] 0 (AI C2) TQ
def ta:=kB [] [0,8,9,10] 0 aJ
def dI:=cG Y8 ta (AI C2) TQ
def tc:=kB [] [0,8,9,10] 0 dI
def td:=kE 1 [] [0,8,9,10] 0 dI TQ
def TR:=kE 2 [] [0,8,9,10] 1 tc td
def aK:St->Option (RT (BG.outs C2)):=lG Y7 [] [0,4,8,9,10,22,23,24] 1 (AI C2) TR
def tf:=kB [] [0,4,8,9,10,22,23,24] 1 aK
def dJ:=cG Y6 tf (AI C2) TR
def th:=kB [] [0,4,8,9,10,22,23,24] 1 dJ
def qO:=kE 3 [] [0,4,8,9,10,22,23,24] 1 dJ TR
def Cb (x0:List AC) (x1:Bool) (x2:List AC) (x3 x4:Int) (x5:List AC) (x6 x7:Int) (x8 x9:AC):Option Bool:=cG Y5 th (AI C2) qO ⟨[(0,.lst AJ x0),(4,.ptr 0 0),(6,.ptr 1 0),(7,.bool x1),(8,.lst AJ x2),(9,.int .i64 x3),(10,.int .i64 x4),(22,.lst AJ x5),(23,.int .i64 x6),(24,.int .i64 x7)],[.var (AJ.enc x8),.var (AJ.enc x9)]⟩
def Gm (x0 x1:List AC) (x2 x3:Int) (x4:List AC) (x5 x6:Int) (x7:AC):Option Bool:=aK ⟨[(0,.lst AJ x0),(4,.ptr 0 0),(8,.lst AJ x1),(9,.int .i64 x2),(10,.int .i64 x3),(22,.lst AJ x4),(23,.int .i64 x5),(24,.int .i64 x6)],[.var (AJ.enc x7)]⟩
def FF (x0 x1:List AC) (x2 x3:Int):Option Bool:=aJ ⟨[(0,.lst AJ x0),(8,.lst AJ x1),(9,.int .i64 x2),(10,.int .i64 x3)],[]⟩
def Qo (x0:List AC) (x1:Bool) (x2:List AC) (x3 x4:Int) (x5:List AC) (x6 x7:Int) (x8 x9:AC):Option Bool:=(if x1=true then (if (decide (x8.2.2.2.2.2.1<x9.2.2.2.2.2.1))=true then (some false) else (Gm x0 x2 x3 x4 x5 x6 (i64.wrap (x7+1)) x8)) else (Gm x0 x2 x3 x4 x5 x6 (i64.wrap (x7+1)) x8))
def Ip (x0 x1:List AC) (x2 x3:Int) (x4:List AC) (x5 x6:Int) (x7:AC):Option Bool:=(if (decide (x6<x5))=true then (if 0<=x6 then (if x6<(x4.length:Int) then (if (((x4.getD x6.toNat (0,O,O,0,0,0,0,0,O)).1)==1)=true then (if ((((x4.getD x6.toNat (0,O,O,0,0,0,0,0,O)).2).1).toList==x7.2.1.toList)=true then ((Eh (x4.getD x6.toNat (0,O,O,0,0,0,0,0,O))).bind fun y2=>(if y2=true then ((Dt (x4.getD x6.toNat (0,O,O,0,0,0,0,0,O))).bind fun y3=>((Dt x7).bind fun y4=>(Cb x0 (decide (y3<y4)) x1 x2 x3 x4 x5 x6 x7 (x4.getD x6.toNat (0,O,O,0,0,0,0,0,O))))) else (Cb x0 false x1 x2 x3 x4 x5 x6 x7 (x4.getD x6.toNat (0,O,O,0,0,0,0,0,O))))) else (Cb x0 false x1 x2 x3 x4 x5 x6 x7 (x4.getD x6.toNat (0,O,O,0,0,0,0,0,O)))) else (if (((x4.getD x6.toNat (0,O,O,0,0,0,0,0,O)).1)==2)=true then (if ((((x4.getD x6.toNat (0,O,O,0,0,0,0,0,O)).2).1).toList==x7.2.1.toList)=true then ((Eh (x4.getD x6.toNat (0,O,O,0,0,0,0,0,O))).bind fun y5=>(if y5=true then ((Dt (x4.getD x6.toNat (0,O,O,0,0,0,0,0,O))).bind fun y6=>((Dt x7).bind fun y7=>(Cb x0 (decide (y6<y7)) x1 x2 x3 x4 x5 x6 x7 (x4.getD x6.toNat (0,O,O,0,0,0,0,0,O))))) else (Cb x0 false x1 x2 x3 x4 x5 x6 x7 (x4.getD x6.toNat (0,O,O,0,0,0,0,0,O))))) else (Cb x0 false x1 x2 x3 x4 x5 x6 x7 (x4.getD x6.toNat (0,O,O,0,0,0,0,0,O)))) else (Cb x0 false x1 x2 x3 x4 x5 x6 x7 (x4.getD x6.toNat (0,O,O,0,0,0,0,0,O))))) else none) else none) else (FF x0 x1 x2 (i64.wrap (x3+1))))
def Iq (x0 x1:List AC) (x2 x3:Int):Option Bool:=(if (decide (x3<x2))=true then (if 0<=x3 then (if x3<(x1.length:Int) then (if (((x1.getD x3.toNat (0,O,O,0,0,0,0,0,O)).1) != 2)=false then ((Eh (x1.getD x3.toNat (0,O,O,0,0,0,0,0,O))).bind fun y1=>(if (!y1)=true then (FF x0 x1 x2 (i64.wrap (x3+1))) else (Gm x0 x1 x2 x3 x0 (x0.length:Int) 0 (x1.getD x3.toNat (0,O,O,0,0,0,0,0,O))))) else (FF x0 x1 x2 (i64.wrap (x3+1)))) else none) else none) else (some true))
def YR (x0:List AC):Option Bool:=(FF x0 x0 (x0.length:Int) 0)
theorem aL:vQ Qo Cb:=jS (by kernel_rfl)
theorem Ld:zH Ip Gm:=lS (by kernel_rfl)
theorem Le:gN Iq FF:=lS (by kernel_rfl)
theorem kL:Ma YR NU:=cT C2 rfl ⟨rfl,rfl⟩ (by kernel_rfl)
def tj:=cG ZH (AI Dr) (AI Dr) kx
def TS:=kE 0 [] [] 0 tj kx
def aM:St->Option (RT (BG.outs Dr)):=lG ZG [] [0,3] 0 (AI Dr) TS
def tl:=kB [] [0,3] 0 aM
def dL:=cG ZF tl (AI Dr) TS
def tp:=kB [] [0,3] 0 dL
def tq:=kE 1 [] [0,3] 0 dL TS
def tr:=kE 2 [] [0,3] 0 tp tq
def qP:St->Option (RT (BG.outs Dr)):=lG ZE [] [0,3,4] 0 (AI Dr) tr
def Cx (x0:List AC) (x1 x2:Int):Option Bool:=qP ⟨[(0,.lst AJ x0),(3,.int .i64 x1),(4,.int .i64 x2)],[]⟩
def Ir (x0:List AC) (x1:Int):Option Bool:=aM ⟨[(0,.lst AJ x0),(3,.int .i64 x1)],[]⟩
def Is (x0:List AC) (x1 x2:Int):Option Bool:=(if (decide (x2<(x0.length:Int)))=true then (if 0<=x1 then (if x1<(x0.length:Int) then (if 0<=x2 then (if x2<(x0.length:Int) then (if (((x0.getD x1.toNat (0,O,O,0,0,0,0,0,O)).1)==2)=true then (if (decide (((((((x0.getD x1.toNat (0,O,O,0,0,0,0,0,O)).2).2).2).2).1)>=0))=true then (if (decide (((((((x0.getD x2.toNat (0,O,O,0,0,0,0,0,O)).2).2).2).2).1)>=0))=true then (if ((((x0.getD x2.toNat (0,O,O,0,0,0,0,0,O)).2).1).toList==(((x0.getD x1.toNat (0,O,O,0,0,0,0,0,O)).2).1).toList)=true then ((Fl (x0.getD x2.toNat (0,O,O,0,0,0,0,0,O))).bind fun y1=>((Fl (x0.getD x1.toNat (0,O,O,0,0,0,0,0,O))).bind fun y2=>(if (decide (y1<y2))=true then (if (decide ((((((((x0.getD x2.toNat (0,O,O,0,0,0,0,0,O)).2).2).2).2).2).1)>(((((((x0.getD x1.toNat (0,O,O,0,0,0,0,0,O)).2).2).2).2).2).1)))=true then (some false) else (Cx x0 x1 (i64.wrap (x2+1)))) else (Cx x0 x1 (i64.wrap (x2+1)))))) else (Cx x0 x1 (i64.wrap (x2+1)))) else (Cx x0 x1 (i64.wrap (x2+1)))) else (Cx x0 x1 (i64.wrap (x2+1)))) else (Cx x0 x1 (i64.wrap (x2+1)))) else none) else none) else none) else none) else (Ir x0 (i64.wrap (x1+1))))
def It (x0:List AC) (x1:Int):Option Bool:=(if (decide (x1<(x0.length:Int)))=true then (Cx x0 x1 0) else (some true))
def YS (x0:List AC):Option Bool:=(Ir x0 0)
theorem Lf:SW Is Cx:=lS (by kernel_rfl)
theorem Lg:OJ It Ir:=lS (by kernel_rfl)
theorem kM:Ma YS NV:=cT Dr rfl ⟨rfl,rfl⟩ (by kernel_rfl)
def YT (x0:AB):Option Bool:=((Ph x0.2.2.2).bind fun y1=>(if y1=true then ((SH x0.2.2.2).bind fun y2=>(if y2=true then ((NU x0.2.2.2).bind fun y3=>(if y3=true then ((Hm x0).bind fun y4=>(if y4=true then ((NX x0).bind fun y5=>(some y5)) else (some false))) else (some false))) else (some false))) else (some false)))
theorem kN:Ma YT NW:=cT R9 rfl ⟨rfl,rfl⟩ (by kernel_rfl)
def YU (x0:AB):Option Bool:=((Pi x0.2.2.2).bind fun y1=>(if y1=true then ((SI x0.2.2.2).bind fun y2=>(if y2=true then ((NV x0.2.2.2).bind fun y3=>(if y3=true then ((KM x0).bind fun y4=>(if y4=true then ((SK x0).bind fun y5=>(some y5)) else (some false))) else (some false))) else (some false))) else (some false)))
theorem kO:Ma YU SJ:=cT R_ rfl ⟨rfl,rfl⟩ (by kernel_rfl)
def W3 (x0:List Int):Option AB:=((Pj x0).bind fun y1=>((QW x0 y1).bind fun y2=>(some y2.1)))
theorem nP:Ma W3 Ow:=cT KG rfl ⟨rfl,rfl⟩ (by kernel_rfl)
def iK:=cG RH (AI Bu) (AI Bu) kx
def MH:=kE 0 [] [] 1 iK kx
def Rc:St->Option (RT (BG.outs Bu)):=lG RG [] [1,9,10,11] 1 (AI Bu) MH
def iL:=kB [] [1,9,10,11] 1 Rc
def TU:=cG RF iL (AI Bu) MH
def TV:=kB [] [1,9,10,11] 1 TU
def TW:=kE 1 [] [1,9,10,11] 1 TU MH
def iM:=kE 2 [] [1,9,10,11] 2 TV TW
def fR:St->Option (RT (BG.outs Bu)):=lG Sm [] [1,4,9,10,11,36,37,38] 2 (AI Bu) iM
def FR (x0:List U) (x1 x2:Int) (x3:List U) (x4 x5:Int) (x6:AB) (x7:U):Option Bool:=fR ⟨[(1,.ptr 0 0),(4,.ptr 1 0),(9,.lst X x0),(10,.int .i64 x1),(11,.int .i64 x2),(36,.lst X x3),(37,.int .i64 x4),(38,.int .i64 x5)],[.var (AX.enc x6),.var (X.enc x7)]⟩
def Kq (x0:Int) (x1:List U) (x2 x3:Int) (x4:Bool) (x5:AB) (x6:U):Option Bool:=cG Sn TV (AI Bu) TW ⟨[(1,.ptr 0 0),(3,.int .i64 x0),(4,.ptr 1 0),(9,.lst X x1),(10,.int .i64 x2),(11,.int .i64 x3),(32,.bool x4)],[.var (AX.enc x5),.var (X.enc x6)]⟩
def FS (x0:List U) (x1 x2:Int) (x3:List (List Int)) (x4:List U) (x5:List AA) (x6:List AC):Option Bool:=Rc ⟨[(1,.ptr 0 0),(9,.lst X x0),(10,.int .i64 x1),(11,.int .i64 x2)],[.var [.lst (.slice (.int .i64)) x3,.lst X x4,.lst AH x5,.lst AJ x6]]⟩
def Kr (x0:List U) (x1 x2:Int) (x3:List U) (x4 x5:Int) (x6:AB) (x7:U):Option Bool:=(if (decide (x5<x4))=true then (if 0<=x5 then (if x5<(x3.length:Int) then (if (((((((x3.getD x5.toNat (0,0,false,false,false,false,([]:List Int),([]:List Z),0,0,0,0,(O,O,0),([]:List Int))).2).2).2).2).2).1)=true then (if ((((x3.getD x5.toNat (0,0,false,false,false,false,([]:List Int),([]:List Z),0,0,0,0,(O,O,0),([]:List Int))).2).1)==x7.2.1)=true then (some false) else (FR x0 x1 x2 x3 x4 (i64.wrap (x5+1)) x6 x7)) else (FR x0 x1 x2 x3 x4 (i64.wrap (x5+1)) x6 x7)) else none) else none) else (FS x0 x1 (i64.wrap (x2+1)) x6.1 x6.2.1 x6.2.2.1 x6.2.2.2))
def Rd (x0:Int) (x1:List U) (x2 x3:Int) (x4:Bool) (x5:AB) (x6:U):Option Bool:=(if 0<=(0:Int) then (if 0<=x0 then (if x0<=(x5.2.1.length:Int) then (FR x1 x2 x3 ((x5.2.1.take x0.toNat).drop (0:Int).toNat) (((x5.2.1.take x0.toNat).drop (0:Int).toNat).length:Int) 0 x5 x6) else none) else none) else none)
def Kt (x0:List U) (x1 x2:Int) (x3:List (List Int)) (x4:List U) (x5:List AA) (x6:List AC):Option Bool:=(if (decide (x2<x1))=true then (if 0<=x2 then (if x2<(x0.length:Int) then (if (!(((((((x0.getD x2.toNat (0,0,false,false,false,false,([]:List Int),([]:List Z),0,0,0,0,(O,O,0),([]:List Int))).2).2).2).2).2).1))=true then (FS x0 x1 (i64.wrap (x2+1)) x3 x4 x5 x6) else ((JL (((x0.getD x2.toNat (0,0,false,false,false,false,([]:List Int),([]:List Z),0,0,0,0,(O,O,0),([]:List Int))).2).1) (x3,x4,x5,x6)).bind fun y1=>(if ((y1.1.length:Int)==0)=true then (some false) else (if 0<=(0:Int) then (if 0<(y1.1.length:Int) then (if ((y1.1.getD (0:Int).toNat 0) != ((x0.getD x2.toNat (0,0,false,false,false,false,([]:List Int),([]:List Z),0,0,0,0,(O,O,0),([]:List Int))).1))=true then (some false) else (Kq x2 x0 x1 x2 ((y1.1.getD (0:Int).toNat 0) != ((x0.getD x2.toNat (0,0,false,false,false,false,([]:List Int),([]:List Z),0,0,0,0,(O,O,0),([]:List Int))).1)) y1.2 (x0.getD x2.toNat (0,0,false,false,false,false,([]:List Int),([]:List Z),0,0,0,0,(O,O,0),([]:List Int))))) else none) else none)))) else none) else none) else (some true))
def W4 (x0:AB):Option Bool:=(FS x0.2.1 (x0.2.1.length:Int) 0 x0.1 x0.2.1 x0.2.2.1 x0.2.2.2)
theorem Re:zH Kr FR:=lS (by kernel_rfl)
theorem fS:Le7 Rd Kq:=jS (by kernel_rfl)
theorem Rf:Le7 Kt FS:=lS (by kernel_rfl)
theorem nQ:Ma W4 Hm:=cT Bu rfl ⟨rfl,rfl⟩ (by kernel_rfl)
def iN:=cG RM (AI CE) (AI CE) kx
def MI:=kE 0 [] [] 1 iN kx
def Rg:St->Option (RT (BG.outs CE)):=lG RL [] [1,3] 1 (AI CE) MI
def iO:=kB [] [1,3] 1 Rg
def TX:=cG RK iO (AI CE) MI
def iP:=kB [] [1,3] 1 TX
def iQ:=kE 1 [] [1,3] 1 TX MI
def iR:=kE 2 [] [1,3] 2 iP iQ
def fT:St->Option (RT (BG.outs CE)):=lG RJ [] [1,3,4,5] 2 (AI CE) iR
def D8 (x0 x1:Int) (x2:AB) (x3:U):Option Bool:=fT ⟨[(1,.ptr 0 0),(3,.int .i64 x0),(4,.ptr 1 0),(5,.int .i64 x1)],[.var (AX.enc x2),.var (X.enc x3)]⟩
def FT (x0:Int) (x1:AB):Option Bool:=Rg ⟨[(1,.ptr 0 0),(3,.int .i64 x0)],[.var (AX.enc x1)]⟩
def Ku (x0 x1:Int) (x2:AB) (x3:U):Option Bool:=(if (decide (x1<x0))=true then (if 0<=x1 then (if x1<(x2.2.1.length:Int) then (if (((((((x2.2.1.getD x1.toNat (0,0,false,false,false,false,([]:List Int),([]:List Z),0,0,0,0,(O,O,0),([]:List Int))).2).2).2).2).2).1)=true then (if 0<=x1 then (if x1<(x2.2.1.length:Int) then (if ((((x2.2.1.getD x1.toNat (0,0,false,false,false,false,([]:List Int),([]:List Z),0,0,0,0,(O,O,0),([]:List Int))).2).1)==x3.2.1)=true then (some false) else (D8 x0 (i64.wrap (x1+1)) x2 x3)) else none) else none) else (D8 x0 (i64.wrap (x1+1)) x2 x3)) else none) else none) else (FT (i64.wrap (x0+1)) x2))
def Kv (x0:Int) (x1:AB):Option Bool:=(if (decide (x0<(x1.2.1.length:Int)))=true then (if 0<=x0 then (if x0<(x1.2.1.length:Int) then (if (!(((((((x1.2.1.getD x0.toNat (0,0,false,false,false,false,([]:List Int),([]:List Z),0,0,0,0,(O,O,0),([]:List Int))).2).2).2).2).2).1))=true then (FT (i64.wrap (x0+1)) x1) else ((AW (((x1.2.1.getD x0.toNat (0,0,false,false,false,false,([]:List Int),([]:List Z),0,0,0,0,(O,O,0),([]:List Int))).2).1) 1 (x1.1.length:Int)).bind fun y1=>(if (!y1)=true then (some false) else (if 0<=(i64.wrap ((((x1.2.1.getD x0.toNat (0,0,false,false,false,false,([]:List Int),([]:List Z),0,0,0,0,(O,O,0),([]:List Int))).2).1)-1)) then (if (i64.wrap ((((x1.2.1.getD x0.toNat (0,0,false,false,false,false,([]:List Int),([]:List Z),0,0,0,0,(O,O,0),([]:List Int))).2).1)-1))<(x1.1.length:Int) then (if (((x1.1.getD (i64.wrap ((((x1.2.1.getD x0.toNat (0,0,false,false,false,false,([]:List Int),([]:List Z),0,0,0,0,(O,O,0),([]:List Int))).2).1)-1)).toNat ([]:List Int)).length:Int)==0)=true then (some false) else (if 0<=(i64.wrap ((((x1.2.1.getD x0.toNat (0,0,false,false,false,false,([]:List Int),([]:List Z),0,0,0,0,(O,O,0),([]:List Int))).2).1)-1)) then (if (i64.wrap ((((x1.2.1.getD x0.toNat (0,0,false,false,false,false,([]:List Int),([]:List Z),0,0,0,0,(O,O,0),([]:List Int))).2).1)-1))<(x1.1.length:Int) then (if 0<=(0:Int) then (if 0<((x1.1.getD (i64.wrap ((((x1.2.1.getD x0.toNat (0,0,false,false,false,false,([]:List Int),([]:List Z),0,0,0,0,(O,O,0),([]:List Int))).2).1)-1)).toNat ([]:List Int)).length:Int) then (if (((x1.1.getD (i64.wrap ((((x1.2.1.getD x0.toNat (0,0,false,false,false,false,([]:List Int),([]:List Z),0,0,0,0,(O,O,0),([]:List Int))).2).1)-1)).toNat ([]:List Int)).getD (0:Int).toNat 0) != ((x1.2.1.getD x0.toNat (0,0,false,false,false,false,([]:List Int),([]:List Z),0,0,0,0,(O,O,0),([]:List Int))).1))=true then (some false) else (D8 x0 0 x1 (x1.2.1.getD x0.toNat (0,0,false,false,false,false,([]:List Int),([]:List Z),0,0,0,0,(O,O,0),([]:List Int))))) else none) else none) else none) else none)) else none) else none)))) else none) else none) else (some true))
def W5 (x0:AB):Option Bool:=(FT 0 x0)
theorem Rh:gN Ku D8:=lS (by kernel_rfl)
theorem Ri:OJ Kv FT:=lS (by kernel_rfl)
theorem nR:Ma W5 KM:=cT CE rfl ⟨rfl,rfl⟩ (by kernel_rfl)

def ts:=cG ZK (AI DN) (AI DN) kx
def TY:=kE 0 [] [] 1 ts kx
def aN:St->Option (RT (BG.outs DN)):=lG ZJ [] [1,9,10,11] 1 (AI DN) TY
def tt:=kB [] [1,9,10,11] 1 aN
def dM:=cG ZI tt (AI DN) TY
def dN:=kB [] [1,9,10,11] 1 dM
def dO:=kE 1 [] [1,9,10,11] 1 dM TY
def tu:=kE 2 [] [1,9,10,11] 2 dN dO
def qQ:St->Option (RT (BG.outs DN)):=lG ca [] [1,3,4,5,9,10,11,29,30,31] 2 (AI DN) tu
def DP (x0:Int) (x1:List Int) (x2:List U) (x3 x4:Int) (x5:List U) (x6 x7:Int) (x8:AB) (x9:U):Option Bool:=qQ ⟨[(1,.ptr 0 0),(3,.int .i64 x0),(4,.ptr 1 0),(5,.lst (.int .i64) x1),(9,.lst X x2),(10,.int .i64 x3),(11,.int .i64 x4),(29,.lst X x5),(30,.int .i64 x6),(31,.int .i64 x7)],[.var (AX.enc x8),.var (X.enc x9)]⟩
def Qp (x0:Int) (x1:List U) (x2 x3:Int) (x4:Bool) (x5:List (List Int)) (x6:List U) (x7:List AA) (x8:List AC) (x9:U):Option Bool:=cG cc dN (AI DN) dO ⟨[(1,.ptr 0 0),(3,.int .i64 x0),(4,.ptr 1 0),(9,.lst X x1),(10,.int .i64 x2),(11,.int .i64 x3),(24,.bool x4)],[.var [.lst (.slice (.int .i64)) x5,.lst X x6,.lst AH x7,.lst AJ x8],.var (X.enc x9)]⟩
def Gn (x0:List U) (x1 x2:Int) (x3:List (List Int)) (x4:List U) (x5:List AA) (x6:List AC):Option Bool:=aN ⟨[(1,.ptr 0 0),(9,.lst X x0),(10,.int .i64 x1),(11,.int .i64 x2)],[.var [.lst (.slice (.int .i64)) x3,.lst X x4,.lst AH x5,.lst AJ x6]]⟩
def Qq (x0:Int) (x1:List Int) (x2:List U) (x3 x4:Int) (x5:List U) (x6 x7:Int) (x8:AB) (x9:U):Option Bool:=(if (decide (x7<x6))=true then (if 0<=x7 then (if x7<(x5.length:Int) then (if (x7 != x0)=true then ((CQ x1 ((x5.getD x7.toNat (0,0,false,false,false,false,([]:List Int),([]:List Z),0,0,0,0,(O,O,0),([]:List Int))).1)).bind fun y2=>(if y2=true then (if (((((x5.getD x7.toNat (0,0,false,false,false,false,([]:List Int),([]:List Z),0,0,0,0,(O,O,0),([]:List Int))).2).2).2).1)=true then (if ((((x5.getD x7.toNat (0,0,false,false,false,false,([]:List Int),([]:List Z),0,0,0,0,(O,O,0),([]:List Int))).2).1)==x9.2.1)=true then ((DV (((((((((x5.getD x7.toNat (0,0,false,false,false,false,([]:List Int),([]:List Z),0,0,0,0,(O,O,0),([]:List Int))).2).2).2).2).2).2).2).1) x9.2.2.2.2.2.2.2.1).bind fun y3=>(if (!y3)=true then (some false) else (DP x0 x1 x2 x3 x4 x5 x6 (i64.wrap (x7+1)) x8 x9))) else (DP x0 x1 x2 x3 x4 x5 x6 (i64.wrap (x7+1)) x8 x9)) else (DP x0 x1 x2 x3 x4 x5 x6 (i64.wrap (x7+1)) x8 x9)) else (DP x0 x1 x2 x3 x4 x5 x6 (i64.wrap (x7+1)) x8 x9))) else (DP x0 x1 x2 x3 x4 x5 x6 (i64.wrap (x7+1)) x8 x9)) else none) else none) else (Gn x2 x3 (i64.wrap (x4+1)) x8.1 x8.2.1 x8.2.2.1 x8.2.2.2))
def aO (x0:Int) (x1:List U) (x2 x3:Int) (x4:Bool) (x5:List (List Int)) (x6:List U) (x7:List AA) (x8:List AC) (x9:U):Option Bool:=((JL x9.2.1 (x5,x6,x7,x8)).bind fun y1=>(DP x0 y1.1 x1 x2 x3 y1.2.2.1 (y1.2.2.1.length:Int) 0 y1.2 x9))
def Qr (x0:List U) (x1 x2:Int) (x3:List (List Int)) (x4:List U) (x5:List AA) (x6:List AC):Option Bool:=(if (decide (x2<x1))=true then (if 0<=x2 then (if x2<(x0.length:Int) then (if (!(((((((x0.getD x2.toNat (0,0,false,false,false,false,([]:List Int),([]:List Z),0,0,0,0,(O,O,0),([]:List Int))).2).2).2).2).2).1))=false then (if ((((((((((((x0.getD x2.toNat (0,0,false,false,false,false,([]:List Int),([]:List Z),0,0,0,0,(O,O,0),([]:List Int))).2).2).2).2).2).2).2).2).2).1) != 0)=true then (Gn x0 x1 (i64.wrap (x2+1)) x3 x4 x5 x6) else (Qp x2 x0 x1 x2 ((((((((((((x0.getD x2.toNat (0,0,false,false,false,false,([]:List Int),([]:List Z),0,0,0,0,(O,O,0),([]:List Int))).2).2).2).2).2).2).2).2).2).1) != 0) x3 x4 x5 x6 (x0.getD x2.toNat (0,0,false,false,false,false,([]:List Int),([]:List Z),0,0,0,0,(O,O,0),([]:List Int))))) else (Gn x0 x1 (i64.wrap (x2+1)) x3 x4 x5 x6)) else none) else none) else (some true))
def kP (x0:AB):Option Bool:=(Gn x0.2.1 (x0.2.1.length:Int) 0 x0.1 x0.2.1 x0.2.2.1 x0.2.2.2)
theorem aP:vQ Qq DP:=lS (by kernel_rfl)
theorem qR:vQ aO Qp:=jS (by kernel_rfl)
theorem aQ:Le7 Qr Gn:=lS (by kernel_rfl)
theorem yE:Ma kP NX:=cT DN rfl ⟨rfl,rfl⟩ (by kernel_rfl)
def tv:=cG ZP (AI Ds) (AI Ds) kx
def TZ:=kE 0 [] [] 1 tv kx
def aR:St->Option (RT (BG.outs Ds)):=lG ZO [] [1,3] 1 (AI Ds) TZ
def tx:=kB [] [1,3] 1 aR
def dP:=cG ZN tx (AI Ds) TZ
def tz:=kB [] [1,3] 1 dP
def t8:=kE 1 [] [1,3] 1 dP TZ
def t_:=kE 2 [] [1,3] 2 tz t8
def qS:St->Option (RT (BG.outs Ds)):=lG ZM [] [1,3,4,5] 2 (AI Ds) t_
def EC (x0 x1:Int) (x2:AB) (x3:U):Option Bool:=qS ⟨[(1,.ptr 0 0),(3,.int .i64 x0),(4,.ptr 1 0),(5,.int .i64 x1)],[.var (AX.enc x2),.var (X.enc x3)]⟩
def FH (x0:Int) (x1:AB):Option Bool:=aR ⟨[(1,.ptr 0 0),(3,.int .i64 x0)],[.var (AX.enc x1)]⟩
def Qs (x0 x1:Int) (x2:AB) (x3:U):Option Bool:=(if (decide (x1<(x2.2.1.length:Int)))=true then (if 0<=x1 then (if x1<(x2.2.1.length:Int) then (if ((((x2.2.1.getD x1.toNat (0,0,false,false,false,false,([]:List Int),([]:List Z),0,0,0,0,(O,O,0),([]:List Int))).2).1)==x3.2.1)=true then (if (((((x2.2.1.getD x1.toNat (0,0,false,false,false,false,([]:List Int),([]:List Z),0,0,0,0,(O,O,0),([]:List Int))).2).2).2).1)=true then (if 0<=(i64.wrap (x3.2.1-1)) then (if (i64.wrap (x3.2.1-1))<(x2.1.length:Int) then ((Du (x2.1.getD (i64.wrap (x3.2.1-1)).toNat ([]:List Int)) ((x2.2.1.getD x1.toNat (0,0,false,false,false,false,([]:List Int),([]:List Z),0,0,0,0,(O,O,0),([]:List Int))).1)).bind fun y2=>(if y2=true then ((Ko (((((((((x2.2.1.getD x1.toNat (0,0,false,false,false,false,([]:List Int),([]:List Z),0,0,0,0,(O,O,0),([]:List Int))).2).2).2).2).2).2).2).1) x3.2.2.2.2.2.2.2.1).bind fun y3=>(if (!y3)=true then (some false) else (EC x0 (i64.wrap (x1+1)) x2 x3))) else (EC x0 (i64.wrap (x1+1)) x2 x3))) else none) else none) else (EC x0 (i64.wrap (x1+1)) x2 x3)) else (EC x0 (i64.wrap (x1+1)) x2 x3)) else none) else none) else (FH (i64.wrap (x0+1)) x2))
def Qt (x0:Int) (x1:AB):Option Bool:=(if (decide (x0<(x1.2.1.length:Int)))=true then (if 0<=x0 then (if x0<(x1.2.1.length:Int) then (if (!(((((((x1.2.1.getD x0.toNat (0,0,false,false,false,false,([]:List Int),([]:List Z),0,0,0,0,(O,O,0),([]:List Int))).2).2).2).2).2).1))=false then (if ((((((((((((x1.2.1.getD x0.toNat (0,0,false,false,false,false,([]:List Int),([]:List Z),0,0,0,0,(O,O,0),([]:List Int))).2).2).2).2).2).2).2).2).2).1) != 0)=false then ((AW (((x1.2.1.getD x0.toNat (0,0,false,false,false,false,([]:List Int),([]:List Z),0,0,0,0,(O,O,0),([]:List Int))).2).1) 1 (x1.1.length:Int)).bind fun y1=>(if (!y1)=true then (FH (i64.wrap (x0+1)) x1) else (EC x0 0 x1 (x1.2.1.getD x0.toNat (0,0,false,false,false,false,([]:List Int),([]:List Z),0,0,0,0,(O,O,0),([]:List Int)))))) else (FH (i64.wrap (x0+1)) x1)) else (FH (i64.wrap (x0+1)) x1)) else none) else none) else (some true))
def kQ (x0:AB):Option Bool:=(FH 0 x0)
theorem aS:gN Qs EC:=lS (by kernel_rfl)
theorem aT:OJ Qt FH:=lS (by kernel_rfl)
theorem yF:Ma kQ SK:=cT Ds rfl ⟨rfl,rfl⟩ (by kernel_rfl)
def nS:=cG WO (AI En) (AI En) kx
def nT:=kE 0 [] [4,5] 6 nS kx
def kR:St->Option (RT (BG.outs En)):=lG WN [] [0,4,5,6,8,9] 6 (AI En) nT
def E7 (x0 x1:Int) (x2:AL) (x3:List AY) (x4:List (List Int)) (x5:List AY) (x6:List (List Int)) (x7:AB):Option (YE×AL):=kR ⟨[(0,.ptr 0 0),(4,.ptr 2 0),(5,.ptr 4 0),(6,.ptr 5 0),(8,.int .i64 x0),(9,.int .i64 x1)],[.var (Ad.enc x2),.rows 55 Ab x3,.var [.lst (.slice (.int .i64)) x4,.row 1],.rows 55 Ab x5,.var [.lst (.slice (.int .i64)) x6,.row 3],.var (AX.enc x7)]⟩
def Nk (x0 x1:Int) (x2:AL) (x3:List AY) (x4:List (List Int)) (x5:List AY) (x6:List (List Int)) (x7:AB):Option (YE×AL):=(if (decide (x1<x0))=true then ((S5 x2 x7).bind fun y3=>((SL x1 y3.1 y3.2.2).bind fun y4=>(if x5.length+([y3.1]:List AY).length<=68719476736 then (E7 x0 (i64.wrap (x1+1)) y3.2.1 x3 x4 (x5++([y3.1]:List AY)) x6 y4.2) else none))) else (some ((x6,x5),x2)))
def Ta (x1:List Int) (b0:AL):Option (YE×AL):=((QX b0).bind fun y1=>((Lb y1.1).bind fun y2=>(if 4=0 then none else (if (decide ((i64.wrap (20+(i64.wrap (Int.tdiv (x1.length:Int) 4))))>69))=true then (E7 69 0 y1.2 ([]:List AY) ([]:List (List Int)) ([]:List AY) y1.1 y2.1) else (E7 (i64.wrap (20+(i64.wrap (Int.tdiv (x1.length:Int) 4)))) 0 y1.2 ([]:List AY) ([]:List (List Int)) ([]:List AY) y1.1 y2.1)))))
theorem Uv:zH Nk E7:=lS (by kernel_rfl)
theorem dQ:OJ Ta NY:=cT En rfl ⟨rfl,rfl⟩ (by kernel_rfl)
def qT:=cG ZS (AI Ef) (AI Ef) kx
def aU:=kE 0 [] [0,3] 0 qT kx
def W6:St->Option (RT (BG.outs Ef)):=lG ZR [] [0,3,4] 0 (AI Ef) aU
def qU:=kB [] [0,3,4] 0 W6
def W7 (x0:List Int) (x1 x2:Int) (x3:Bool):Option AL:=cG ZQ qU (AI Ef) aU ⟨[(0,.lst (.int .u8) x0),(3,.int .i64 x1),(4,.int .i64 x2),(15,.bool x3)],[]⟩
def KS (x0:List Int) (x1 x2:Int):Option AL:=W6 ⟨[(0,.lst (.int .u8) x0),(3,.int .i64 x1),(4,.int .i64 x2)],[]⟩
def W8 (x0:List Int) (x1 x2:Int) (x3:Bool):Option AL:=(if 0<=x2 then (if x2<(x0.length:Int) then (KS x0 (Mt .i64 (i64.wrap ((i64.wrap ((i64.wrap (x1*131))+(i64.wrap (x0.getD x2.toNat 0))))+7)) 1073741823) (i64.wrap (x2+1))) else none) else none)
def KT (x0:List Int) (x1 x2:Int):Option AL:=(if (decide (x2<(x0.length:Int)))=true then (if (decide (x2<4000))=true then (W7 x0 x1 x2 (decide (x2<4000))) else (some (x0,0,x1))) else (some (x0,0,x1)))
def vn (x0:List Int):Option AL:=(KS x0 (i64.wrap (14301+(x0.length:Int))) 0)
theorem nU:gN W8 W7:=jS (by kernel_rfl)
theorem O6:SW KT KS:=lS (by kernel_rfl)
theorem vo:Ma vn Pj:=cT Ef rfl ⟨rfl,rfl⟩ (by kernel_rfl)
def kS:=cG UG (AI D9) (AI D9) kx
def kU:=kE 0 [] [2,4] 8 kS kx
def iS:St->Option (RT (BG.outs D9)):=lG UF [] [0,2,4,5] 8 (AI D9) kU
def GN (x0:List (List Int)) (x1:Int) (x2:List U) (x3:List AA) (x4:List AC) (x5:List (List Int)) (x6:List U) (x7:List AA) (x8:List AC) (x9:List (List Int)):Option (AB×Bool):=iS ⟨[(0,.lst (.slice (.int .i64)) x0),(2,.ptr 3 0),(4,.ptr 7 0),(5,.int .i64 x1)],[.rows 42 X x2,.rows 97 AH x3,.rows 47 AJ x4,.var [.lst (.slice (.int .i64)) x5,.row 0,.row 1,.row 2],.rows 42 X x6,.rows 97 AH x7,.rows 47 AJ x8,.var [.lst (.slice (.int .i64)) x9,.row 4,.row 5,.row 6]]⟩
def MJ (x0:List (List Int)) (x1:Int) (x2:List U) (x3:List AA) (x4:List AC) (x5:List (List Int)) (x6:List U) (x7:List AA) (x8:List AC) (x9:List (List Int)):Option (AB×Bool):=(if (decide (x1<=6))=true then ((Ox x1 x0).bind fun y3=>(if x6.length+([y3.1]:List U).length<=68719476736 then (GN x0 (i64.wrap (x1+1)) x2 x3 x4 x5 (x6++([y3.1]:List U)) x7 x8 x9) else none)) else (some ((x9,x6,x7,x8),true)))
def aV (x0:List (List Int)):Option (AB×Bool):=((Ew x0).bind fun y1=>(if (!y1)=true then (some (([],([]:List U),([]:List AA),([]:List AC)),false)) else ((KO x0).bind fun y2=>(GN x0 1 ([]:List U) ([]:List AA) ([]:List AC) ([]:List (List Int)) ([]:List U) ([]:List AA) ([]:List AC) y2))))
theorem Tb:vQ MJ GN:=lS (by kernel_rfl)
theorem qV:Ma aV QV:=cT D9 rfl ⟨rfl,rfl⟩ (by kernel_rfl)
def Nl (x0:Bool) (x1:AY):Option Bool:=cG WP (AI Hd) (AI Hd) kx ⟨[(1,.ptr 0 0),(17,.bool x0)],[.var (Ab.enc x1)]⟩
def Uw (x0:Bool) (x1:AY):Option Bool:=(if (x1.1==1)=true then ((NZ x1.2.2.2.1 0 x1.2.2.2.2.1 x1.2.2.2.2.2).bind fun y3=>(some y3)) else (if (x1.2.2.2.1==0)=true then (if (x1.2.2.2.2.1.toList==(⟨#[]⟩:ByteArray).toList)=true then (some (x1.2.2.2.2.2.toList==(⟨#[]⟩:ByteArray).toList)) else (some false)) else (some false)))
def dR (x0:AY):Option Bool:=((Aj x0.1 1 6).bind fun y1=>(if (!y1)=false then ((F3 x0.2.1).bind fun y2=>(if (!y2)=false then (if (decide (x0.2.2.1<0))=true then (some false) else (Nl (decide (x0.2.2.1<0)) x0)) else (some false))) else (some false)))
theorem kV:OJ Uw Nl:=jS (by kernel_rfl)
theorem uA:Ma dR S0:=cT Hd rfl ⟨rfl,rfl⟩ (by kernel_rfl)
def Tc (x1:AY) (x2:Int) (b0:AB):Option (Bool×AB):=(if (x1.1==1)=true then ((L6 x1 x2 b0).bind fun y1=>(some (y1.1,y1.2))) else (if (x1.1==5)=true then ((L7 x1 x2 b0).bind fun y2=>(some (y2.1,y2.2))) else (if (x1.1==6)=true then ((B8 x1.2.1 b0).bind fun y3=>(if 0<=y3.1 then (if y3.1<(y3.2.2.1.length:Int) then ((Ut (y3.2.2.1.getD y3.1.toNat (0,0,false,false,false,false,([]:List Int),([]:List Z),0,0,0,0,(O,O,0),([]:List Int)))).bind fun y4=>(if 0<=y3.1 then (if y3.1<(y3.2.2.1.length:Int) then (let z5:List U:=y3.2.2.1.set y3.1.toNat y4; (some (true,(y3.2.1,z5,y3.2.2.2)))) else none) else none)) else none) else none)) else ((Jq x1 x2 b0).bind fun y6=>(some (y6.1,y6.2))))))
theorem iT:SW Tc IP:=cT IL rfl ⟨rfl,rfl⟩ (by kernel_rfl)
def gQ (x0:Bool):Option Int:=(if x0=true then (some 0) else (some 1))
theorem vp:Ma gQ Vi:=cT Pa rfl ⟨rfl,rfl⟩ (by kernel_rfl)
def iU:=cG RO (AI BY) (AI BY) kx
def iV:=kE 2 [] [2,3] 10 iU kx
def fU:St->Option (RT (BG.outs BY)):=lG RN [] [2,3,31,32,33] 10 (AI BY) iV
def iW:=cG Kn (AI BY) (AI BY) kx
def iX:=kE 0 [] [1,2,3] 10 iW kx
def fV:St->Option (RT (BG.outs BY)):=lG So [] [1,2,3,16,17,18] 10 (AI BY) iX
def FU (x0:List AA) (x1 x2:Int) (x3:List (List Int)) (x4:List U) (x5:List AA) (x6:List AC) (x7:List U) (x8:List AA) (x9:List AC) (x10:List (List Int)) (x11:List U) (x12:List AA) (x13:List AC) (x14:List (List Int)):Option AB:=fU ⟨[(2,.ptr 4 0),(3,.ptr 9 0),(31,.lst AH x0),(32,.int .i64 x1),(33,.int .i64 x2)],[.var [.lst (.slice (.int .i64)) x3,.lst X x4,.lst AH x5,.lst AJ x6],.rows 42 X x7,.rows 97 AH x8,.rows 47 AJ x9,.var [.lst (.slice (.int .i64)) x10,.row 1,.row 2,.row 3],.dead,.rows 42 X x11,.rows 97 AH x12,.rows 47 AJ x13,.var [.lst (.slice (.int .i64)) x14,.row 6,.row 7,.row 8]]⟩
def Rj (x0:List (List Int)) (x1:List U) (x2:List AA) (x3:List AC) (x4:List U) (x5:List AA) (x6:List AC) (x7:List (List Int)) (x8:List U) (x9:List AA) (x10:List AC) (x11:List (List Int)):Option AB:=cG Kn (AI BY) (AI BY) kx ⟨[(1,.ptr 0 0),(2,.ptr 4 0),(3,.ptr 9 0)],[.var [.lst (.slice (.int .i64)) x0,.lst X x1,.lst AH x2,.lst AJ x3],.rows 42 X x4,.rows 97 AH x5,.rows 47 AJ x6,.var [.lst (.slice (.int .i64)) x7,.row 1,.row 2,.row 3],.dead,.rows 42 X x8,.rows 97 AH x9,.rows 47 AJ x10,.var [.lst (.slice (.int .i64)) x11,.row 6,.row 7,.row 8]]⟩
def FV (x0:List U) (x1 x2:Int) (x3:List (List Int)) (x4:List U) (x5:List AA) (x6:List AC) (x7:List U) (x8:List AA) (x9:List AC) (x10:List (List Int)) (x11:List U) (x12:List AA) (x13:List AC) (x14:List (List Int)):Option AB:=fV ⟨[(1,.ptr 0 0),(2,.ptr 4 0),(3,.ptr 9 0),(16,.lst X x0),(17,.int .i64 x1),(18,.int .i64 x2)],[.var [.lst (.slice (.int .i64)) x3,.lst X x4,.lst AH x5,.lst AJ x6],.rows 42 X x7,.rows 97 AH x8,.rows 47 AJ x9,.var [.lst (.slice (.int .i64)) x10,.row 1,.row 2,.row 3],.dead,.rows 42 X x11,.rows 97 AH x12,.rows 47 AJ x13,.var [.lst (.slice (.int .i64)) x14,.row 6,.row 7,.row 8]]⟩
def Kw (x0:List AA) (x1 x2:Int) (x3:List (List Int)) (x4:List U) (x5:List AA) (x6:List AC) (x7:List U) (x8:List AA) (x9:List AC) (x10:List (List Int)) (x11:List U) (x12:List AA) (x13:List AC) (x14:List (List Int)):Option AB:=(if (decide (x2<x1))=true then (if 0<=x2 then (if x2<(x0.length:Int) then ((Hn (x0.getD x2.toNat (0,0,0,0,0,([]:List Z)))).bind fun y4=>(if x12.length+([y4]:List AA).length<=68719476736 then (FU x0 x1 (i64.wrap (x2+1)) x3 x4 x5 x6 x7 x8 x9 x10 x11 (x12++([y4]:List AA)) x13 x14) else none)) else none) else none) else (some (x14,x11,x12,x13)))
def Rk (x0:List (List Int)) (x1:List U) (x2:List AA) (x3:List AC) (x4:List U) (x5:List AA) (x6:List AC) (x7:List (List Int)) (x8:List U) (x9:List AA) (x10:List AC) (x11:List (List Int)):Option AB:=(FU x2 (x2.length:Int) 0 x0 x1 x2 x3 x4 x5 x6 x7 x8 x9 x10 x11)
def Kx (x0:List U) (x1 x2:Int) (x3:List (List Int)) (x4:List U) (x5:List AA) (x6:List AC) (x7:List U) (x8:List AA) (x9:List AC) (x10:List (List Int)) (x11:List U) (x12:List AA) (x13:List AC) (x14:List (List Int)):Option AB:=(if (decide (x2<x1))=true then (if 0<=x2 then (if x2<(x0.length:Int) then ((DE (x0.getD x2.toNat (0,0,false,false,false,false,([]:List Int),([]:List Z),0,0,0,0,(O,O,0),([]:List Int)))).bind fun y3=>(if x11.length+([y3]:List U).length<=68719476736 then (FV x0 x1 (i64.wrap (x2+1)) x3 x4 x5 x6 x7 x8 x9 x10 (x11++([y3]:List U)) x12 x13 x14) else none)) else none) else none) else (Rj x3 x4 x5 x6 x7 x8 x9 x10 x11 x12 x13 x14))
def W9 (x0:AB):Option AB:=((KO x0.1).bind fun y1=>((DW x0.2.2.2).bind fun y2=>(FV x0.2.1 (x0.2.1.length:Int) 0 x0.1 x0.2.1 x0.2.2.1 x0.2.2.2 ([]:List U) ([]:List AA) ([]:List AC) ([]:List (List Int)) ([]:List U) ([]:List AA) y2 y1)))
theorem Rl:AEh Kw FU:=lS (by kernel_rfl)
theorem fW:AEH Rk Rj:=jS (by kernel_rfl)
theorem Rm:AEh Kx FV:=lS (by kernel_rfl)
theorem nV:Ma W9 KN:=cT BY rfl ⟨rfl,rfl⟩ (by kernel_rfl)
def kW:=cG UI (AI D_) (AI D_) kx
def kX:=kE 0 [] [2,4] 4 kW kx
def iY:St->Option (RT (BG.outs D_)):=lG UH [] [0,2,4,5] 4 (AI D_) kX
def GO (x0:List (List Int)) (x1:Int) (x2:List U) (x3:List (List Int)) (x4:List AA) (x5:List AC) (x6:List U) (x7:List (List Int)):Option (AB×Bool):=iY ⟨[(0,.lst (.slice (.int .i64)) x0),(2,.ptr 1 0),(4,.ptr 3 0),(5,.int .i64 x1)],[.rows 42 X x2,.var [.lst (.slice (.int .i64)) x3,.row 0,.lst AH x4,.lst AJ x5],.rows 42 X x6,.var [.lst (.slice (.int .i64)) x7,.row 2,.nil,.nil]]⟩
def MK (x0:List (List Int)) (x1:Int) (x2:List U) (x3:List (List Int)) (x4:List AA) (x5:List AC) (x6:List U) (x7:List (List Int)):Option (AB×Bool):=(if (decide (x1<=6))=true then ((Oy x1 x0).bind fun y3=>(if x6.length+([y3.1]:List U).length<=68719476736 then (GO x0 (i64.wrap (x1+1)) x2 x3 x4 x5 (x6++([y3.1]:List U)) x7) else none)) else (some ((x7,x6,[],[]),true)))
def aW (x0:List (List Int)):Option (AB×Bool):=((Ex x0).bind fun y1=>(if (!y1)=true then (some (([],([]:List U),[],[]),false)) else ((HW x0).bind fun y2=>(GO x0 1 ([]:List U) ([]:List (List Int)) ([]:List AA) ([]:List AC) ([]:List U) y2))))
theorem Td:zH MK GO:=lS (by kernel_rfl)
theorem qW:Ma aW Lb:=cT D_ rfl ⟨rfl,rfl⟩ (by kernel_rfl)
def Nm (x0:Bool) (x1:AY):Option Bool:=cG WQ (AI He) (AI He) kx ⟨[(1,.ptr 0 0),(17,.bool x0)],[.var (Ab.enc x1)]⟩
def Ux (x0:Bool) (x1:AY):Option Bool:=(if (x1.1 != 1)=true then (if (x1.2.2.2.1==0)=true then (if (x1.2.2.2.2.1.toList==(⟨#[]⟩:ByteArray).toList)=true then (some (x1.2.2.2.2.2.toList==(⟨#[]⟩:ByteArray).toList)) else (some false)) else (some false)) else (if (x1.2.2.2.1==1)=false then (if (x1.2.2.2.1==2)=true then ((AW (x1.2.2.2.2.1.size:Int) 1 12).bind fun y3=>(if y3=true then (if (decide ((x1.2.2.2.2.2.size:Int)<=20))=true then (if (x1.2.2.2.1==1)=false then (some (x1.2.2.2.2.2.toList==(⟨#[]⟩:ByteArray).toList)) else (some true)) else (some false)) else (some false))) else (some false)) else ((AW (x1.2.2.2.2.1.size:Int) 1 12).bind fun y4=>(if y4=true then (if (decide ((x1.2.2.2.2.2.size:Int)<=20))=true then (if (x1.2.2.2.1==1)=false then (some (x1.2.2.2.2.2.toList==(⟨#[]⟩:ByteArray).toList)) else (some true)) else (some false)) else (some false)))))
def dS (x0:AY):Option Bool:=((AW x0.1 1 6).bind fun y1=>(if (!y1)=false then ((AW x0.2.1 1 6).bind fun y2=>(if (!y2)=false then (if (decide (x0.2.2.1<0))=true then (some false) else (Nm (decide (x0.2.2.1<0)) x0)) else (some false))) else (some false)))
theorem kY:OJ Ux Nm:=jS (by kernel_rfl)
theorem uB:Ma dS S3:=cT He rfl ⟨rfl,rfl⟩ (by kernel_rfl)
def Nn (x1:Int) (x2:AY) (b0:AB):Option (Int×AB):=(if (x2.1==1)=true then ((QY x1 x2 b0).bind fun y1=>(some (y1.1,y1.2))) else (if (x2.1==5)=true then ((QZ x1 x2.2.1 b0).bind fun y2=>(some (y2.1,y2.2))) else (if (x2.1==6)=true then (if 0<=(i64.wrap (x2.2.1-1)) then (if (i64.wrap (x2.2.1-1))<(b0.2.1.length:Int) then ((dF (b0.2.1.getD (i64.wrap (x2.2.1-1)).toNat (0,0,false,false,false,false,([]:List Int),([]:List Z),0,0,0,0,(O,O,0),([]:List Int)))).bind fun y3=>((GB y3 ([]:List AA) ([]:List AK) x1 b0).bind fun y4=>(some (0,y4)))) else none) else none) else ((Vk x1 x2 b0).bind fun y5=>(some (y5.1,y5.2))))))
theorem yG:SW Nn SL:=cT SA rfl ⟨rfl,rfl⟩ (by kernel_rfl)
def nW:=cG WS (AI Eo) (AI Eo) kx
def nX:=kE 0 [] [2,3] 8 nW kx
def kZ:St->Option (RT (BG.outs Eo)):=lG WR [] [1,2,3,4] 8 (AI Eo) nX
def G4 (x0:Int) (x1:List (List Int)) (x2:List U) (x3:List AA) (x4:List AC) (x5:List U) (x6:List AC) (x7:List (List Int)) (x8:List AA) (x9:List U) (x10:List AC) (x11:List (List Int)) (x12:List AA):Option AB:=kZ ⟨[(1,.ptr 0 0),(2,.ptr 3 0),(3,.ptr 7 0),(4,.int .i64 x0)],[.var [.lst (.slice (.int .i64)) x1,.lst X x2,.lst AH x3,.lst AJ x4],.rows 42 X x5,.rows 47 AJ x6,.var [.lst (.slice (.int .i64)) x7,.row 1,.lst AH x8,.row 2],.dead,.rows 42 X x9,.rows 47 AJ x10,.var [.lst (.slice (.int .i64)) x11,.row 5,.lst AH x12,.row 6]]⟩
def No (x0:Int) (x1:List (List Int)) (x2:List U) (x3:List AA) (x4:List AC) (x5:List U) (x6:List AC) (x7:List (List Int)) (x8:List AA) (x9:List U) (x10:List AC) (x11:List (List Int)) (x12:List AA):Option AB:=(if (decide (x0<(x2.length:Int)))=true then (if 0<=x0 then (if x0<(x2.length:Int) then ((Dv (x2.getD x0.toNat (0,0,false,false,false,false,([]:List Int),([]:List Z),0,0,0,0,(O,O,0),([]:List Int)))).bind fun y3=>(if x9.length+([y3]:List U).length<=68719476736 then (G4 (i64.wrap (x0+1)) x1 x2 x3 x4 x5 x6 x7 x8 (x9++([y3]:List U)) x10 x11 x12) else none)) else none) else none) else (some (x11,x9,x12,x10)))
def dU (x0:AB):Option AB:=((HW x0.1).bind fun y1=>((L8 x0.2.2.1).bind fun y2=>(if ([]:List AC).length+x0.2.2.2.length<=68719476736 then (G4 0 x0.1 x0.2.1 x0.2.2.1 x0.2.2.2 ([]:List U) ([]:List AC) ([]:List (List Int)) ([]:List AA) ([]:List U) (([]:List AC)++x0.2.2.2) y1 y2) else none)))
theorem Uy:AEs No G4:=lS (by kernel_rfl)
theorem uC:Ma dU S4:=cT Eo rfl ⟨rfl,rfl⟩ (by kernel_rfl)
def gR (x0:Int):Option Bool:=((Aj x0 1 6).bind fun y1=>(some y1))
theorem vq:Ma gR F3:=cT Pb rfl ⟨rfl,rfl⟩ (by kernel_rfl)
def dV (x0 x1 x2:Int):Option Bool:=(if (decide (x0>=x1))=true then (some (decide (x0<=x2))) else (some false))
theorem uD:SW dV Aj:=cT ND rfl ⟨rfl,rfl⟩ (by kernel_rfl)
def dW:=cG Px (AI Cr) (AI Cr) kx
def dX:=kE 0 [] [] 0 dW kx
def bW:St->Option (RT (BG.outs Cr)):=lG Pw [] [0,1,2,9,10,11] 0 (AI Cr) dX
def EL (x0:List Int) (x1 x2:Int) (x3:List Int) (x4 x5:Int):Option Bool:=bW ⟨[(0,.lst (.int .i64) x0),(1,.int .i64 x1),(2,.int .i64 x2),(9,.lst (.int .i64) x3),(10,.int .i64 x4),(11,.int .i64 x5)],[]⟩
def I_ (x0:List Int) (x1 x2:Int) (x3:List Int) (x4 x5:Int):Option Bool:=(if (decide (x5<x4))=true then (if 0<=x5 then (if x5<(x3.length:Int) then ((Aj (x3.getD x5.toNat 0) x1 x2).bind fun y1=>(if (!y1)=false then (if (decide (x5>0))=true then (if 0<=(i64.wrap (x5-1)) then (if (i64.wrap (x5-1))<(x0.length:Int) then (if (decide ((x3.getD x5.toNat 0)<=(x0.getD (i64.wrap (x5-1)).toNat 0)))=true then (some false) else (EL x0 x1 x2 x3 x4 (i64.wrap (x5+1)))) else none) else none) else (EL x0 x1 x2 x3 x4 (i64.wrap (x5+1)))) else (some false))) else none) else none) else (some true))
def Te (x0:List Int) (x1 x2:Int):Option Bool:=(EL x0 x1 x2 x0 (x0.length:Int) 0)
theorem OX:Le6 I_ EL:=lS (by kernel_rfl)
theorem iZ:SW Te IQ:=cT Cr rfl ⟨rfl,rfl⟩ (by kernel_rfl)
def nY:=cG UN (AI Ep) (AI Ep) kx
def nZ:=kE 0 [] [0] 0 nY kx
def ka:St->Option (RT (BG.outs Ep)):=lG UM [] [0,5,6,7] 0 (AI Ep) nZ
def G5 (x0 x1:List Z) (x2 x3:Int):Option Bool:=ka ⟨[(0,.lst AF x0),(5,.lst AF x1),(6,.int .i64 x2),(7,.int .i64 x3)],[]⟩
def Np (x0 x1:List Z) (x2 x3:Int):Option Bool:=(if (decide (x3<x2))=true then (if 0<=x3 then (if x3<(x1.length:Int) then ((SM ((x1.getD x3.toNat (O,O,0)).1)).bind fun y1=>(if (!y1)=true then (some false) else (if (decide (((((x1.getD x3.toNat (O,O,0)).2).1).size:Int)>20))=true then (some false) else ((Aj (((x1.getD x3.toNat (O,O,0)).2).2) 1 1000000000).bind fun y2=>(if (!y2)=true then (some false) else (if (decide (x3>0))=true then (if 0<=(i64.wrap (x3-1)) then (if (i64.wrap (x3-1))<(x0.length:Int) then (if ((Op.bytesLess ((x1.getD x3.toNat (O,O,0)).1).toList ((x0.getD (i64.wrap (x3-1)).toNat (O,O,0)).1).toList)||(((x1.getD x3.toNat (O,O,0)).1).toList==((x0.getD (i64.wrap (x3-1)).toNat (O,O,0)).1).toList))=true then (some false) else (G5 x0 x1 x2 (i64.wrap (x3+1)))) else none) else none) else (G5 x0 x1 x2 (i64.wrap (x3+1))))))))) else none) else none) else (some (decide ((x0.length:Int)<=12))))
def dY (x0:List Z):Option Bool:=(G5 x0 x0 (x0.length:Int) 0)
theorem Uz:gN Np G5:=lS (by kernel_rfl)
theorem uE:Ma dY GH:=cT Ep rfl ⟨rfl,rfl⟩ (by kernel_rfl)
def P6 (b0:U):Option (Bool×U):=(if (b0.2.2.2.2.2.2.2.2.2.1==0)=true then (if (b0.2.2.2.2.2.2.2.2.2.2.1==0)=true then (if (b0.2.2.2.2.2.2.2.2.2.2.2.1==0)=true then (if (false != OI AF b0.2.2.2.2.2.2.2.2.2.2.2.2.1 (O,O,0))=true then (some (((b0.2.2.2.2.2.2.2.2.2.2.2.2.2.length:Int)==0),b0)) else (some (false,b0))) else (some (false,b0))) else (some (false,b0))) else ((Aj b0.2.2.2.2.2.2.2.2.2.1 1 2).bind fun y1=>(if y1=true then (if b0.2.2.2.2.2.1=true then ((Aj b0.2.2.2.2.2.2.2.2.2.2.1 0 1000).bind fun y2=>(if y2=true then ((Aj b0.2.2.2.2.2.2.2.2.2.2.2.1 1 900).bind fun y3=>(if y3=true then ((IQ b0.2.2.2.2.2.2.2.2.2.2.2.2.2 1 6).bind fun y4=>(some (y4,b0))) else (some (false,b0)))) else (some (false,b0)))) else (some (false,b0))) else (some (false,b0)))))
theorem dZ:Ma P6 De:=cT Gw rfl ⟨rfl,rfl⟩ (by kernel_rfl)
def vt (x0:AC):Option Bool:=(some (decide (x0.2.2.2.2.1>=0)))
theorem vu:Ma vt Eh:=cT Pc rfl ⟨rfl,rfl⟩ (by kernel_rfl)
def kc (x0:AC):Option Int:=((AW x0.2.2.2.2.2.2.1 0 9).bind fun y1=>(if (!y1)=false then ((AW x0.2.2.2.2.2.2.2.1 0 999).bind fun y2=>(if (!y2)=true then (some 0) else (some (i64.wrap ((i64.wrap (1000*x0.2.2.2.2.2.2.1))+x0.2.2.2.2.2.2.2.1))))) else (some 0)))
theorem yH:Ma kc Fl:=cT SB rfl ⟨rfl,rfl⟩ (by kernel_rfl)
def P7 (x1 x2:Int) (b0:AB):Option AB:=(if 0<=x1 then (if x1<(b0.2.2.1.length:Int) then ((Bq b0.2.2.1 x1 (i64.wrap (x1+1))).bind fun y1=>((B8 ((((b0.2.2.1.getD x1.toNat (0,0,0,0,0,([]:List Z))).2).2).1) (b0.1,b0.2.1,y1,b0.2.2.2)).bind fun y2=>(if (decide (y2.1>=0))=true then (if 0<=y2.1 then (if y2.1<(y2.2.2.1.length:Int) then ((Na (y2.2.2.1.getD y2.1.toNat (0,0,false,false,false,false,([]:List Int),([]:List Z),0,0,0,0,(O,O,0),([]:List Int))) y2.2.1 (b0.2.2.1.getD x1.toNat (0,0,0,0,0,([]:List Z)))).bind fun y3=>(if 0<=y2.1 then (if y2.1<(y2.2.2.1.length:Int) then (let z4:List U:=y2.2.2.1.set y2.1.toNat y3.1; ((G1 y3.2.1 y3.2.2 x2 (y2.2.1,z4,y2.2.2.2)).bind fun y5=>(some y5))) else none) else none)) else none) else none) else (some y2.2)))) else none) else none)
theorem da:SW P7 Jp:=cT Gx rfl ⟨rfl,rfl⟩ (by kernel_rfl)
def kf (x0:List AC) (x1:AC):Option Bool:=((Ca x0 x1).bind fun y1=>(some y1))
theorem yI:OJ kf YM:=cT SC rfl ⟨rfl,rfl⟩ (by kernel_rfl)
def gS (x0 x1:AC):Option Bool:=(if (x1.1==1)=true then (if (x1.2.1.toList==x0.2.1.toList)=true then (if (x1.2.2.1.toList==x0.2.2.2.2.2.2.2.2.toList)=true then (if (decide (x1.2.2.2.2.1<0))=false then (some (x1.2.2.2.2.2.1==x0.2.2.2.2.2.1)) else (some true)) else (some false)) else (some false)) else (some false))
theorem vv:OJ gS Vj:=cT Pd rfl ⟨rfl,rfl⟩ (by kernel_rfl)
def aX (x1:List Int) (b0:AL):Option (AB×AL):=((Qa x1 b0).bind fun y1=>((S7 y1.1 y1.2).bind fun y2=>(some (y2.1,y2.2))))
theorem qX:OJ aX QW:=cT LU rfl ⟨rfl,rfl⟩ (by kernel_rfl)
def U0 (x1:Int) (b0:AB):Option (List Int×AB):=((Aj x1 1 (b0.1.length:Int)).bind fun y1=>(if (!y1)=true then (some ([],b0)) else (if 0<=(i64.wrap (x1-1)) then (if (i64.wrap (x1-1))<(b0.1.length:Int) then (some ((b0.1.getD (i64.wrap (x1-1)).toNat ([]:List Int)),b0)) else none) else none)))
theorem kg:OJ U0 JL:=cT JH rfl ⟨rfl,rfl⟩ (by kernel_rfl)
def kh (x0 x1 x2:Int):Option Bool:=(if (decide (x0>=x1))=true then (some (decide (x0<=x2))) else (some false))
theorem yJ:SW kh AW:=cT SD rfl ⟨rfl,rfl⟩ (by kernel_rfl)
def Kf (x0:List Int) (x1:Int):Option Bool:=((Dw x0 x1).bind fun y1=>(some (decide (y1>=0))))
theorem Tx:OJ Kf CQ:=cT EI rfl ⟨rfl,rfl⟩ (by kernel_rfl)
def Ky:=cG FQ (AI Ao) (AI Ao) kx
def Kz:=kE 0 [] [] 0 Ky kx
def KU:St->Option (RT (BG.outs Ao)):=lG FP [] [0,1,12,13] 0 (AI Ao) Kz
def B1 (x0 x1:List Z) (x2 x3:Int):Option Bool:=KU ⟨[(0,.lst AF x0),(1,.lst AF x1),(12,.int .i64 x2),(13,.int .i64 x3)],[]⟩
def C6 (x0 x1:List Z) (x2 x3:Int):Option Bool:=(if (decide (x3<x2))=true then (if 0<=x3 then (if x3<(x0.length:Int) then (if 0<=x3 then (if x3<(x1.length:Int) then (if (true != OI AF (x0.getD x3.toNat (O,O,0)) (x1.getD x3.toNat (O,O,0)))=true then (some false) else (B1 x0 x1 x2 (i64.wrap (x3+1)))) else none) else none) else none) else none) else (some true))
def GP (x0 x1:List Z):Option Bool:=(if ((x0.length:Int) != (x1.length:Int))=true then (some false) else (B1 x0 x1 (x0.length:Int) 0))
theorem E8:gN C6 B1:=lS (by kernel_rfl)
theorem ML:OJ GP DV:=cT Ao rfl ⟨rfl,rfl⟩ (by kernel_rfl)
def uF:=cG cj (AI Gy) (AI Gy) kx
def uG:=kE 0 [] [] 0 uF kx
def qY:St->Option (RT (BG.outs Gy)):=lG ci [] [0,1,5] 0 (AI Gy) uG
def Lh (x0:List Int) (x1 x2:Int):Option Bool:=qY ⟨[(0,.lst (.int .i64) x0),(1,.int .i64 x1),(5,.int .i64 x2)],[]⟩
def Qu (x0:List Int) (x1 x2:Int):Option Bool:=(if (decide (x2<(x0.length:Int)))=true then (if 0<=x2 then (if x2<(x0.length:Int) then (if ((x0.getD x2.toNat 0)==x1)=true then (some true) else (Lh x0 x1 (i64.wrap (x2+1)))) else none) else none) else (some false))
def ki (x0:List Int) (x1:Int):Option Bool:=(Lh x0 x1 0)
theorem aY:SW Qu Lh:=lS (by kernel_rfl)
theorem yK:OJ ki Du:=cT Gy rfl ⟨rfl,rfl⟩ (by kernel_rfl)
def bX:=cG OO (AI Cg) (AI Cg) kx
def bY:=kE 0 [] [] 0 bX kx
def YV:St->Option (RT (BG.outs Cg)):=lG ON [] [0,1,5] 0 (AI Cg) bY
def Fn (x0 x1:List Z) (x2:Int):Option Bool:=YV ⟨[(0,.lst AF x0),(1,.lst AF x1),(5,.int .i64 x2)],[]⟩
def IV (x0 x1:List Z) (x2:Int):Option Bool:=(if (decide (x2<(x0.length:Int)))=true then (if 0<=x2 then (if x2<(x0.length:Int) then (if 0<=x2 then (if x2<(x1.length:Int) then (if (true != OI AF (x0.getD x2.toNat (O,O,0)) (x1.getD x2.toNat (O,O,0)))=true then (some false) else (Fn x0 x1 (i64.wrap (x2+1)))) else none) else none) else none) else none) else (some true))
def Rn (x0 x1:List Z):Option Bool:=(if ((x0.length:Int) != (x1.length:Int))=true then (some false) else (Fn x0 x1 0))
theorem Nq:SW IV Fn:=lS (by kernel_rfl)
theorem fX:OJ Rn Ko:=cT Cg rfl ⟨rfl,rfl⟩ (by kernel_rfl)
def Tf (b0:AL):Option (Int×AL):=(if 33<0 then none else (if 45<0 then none else (if (decide (b0.2.1<(b0.1.length:Int)))=true then (if 0<=b0.2.1 then (if b0.2.1<(b0.1.length:Int) then (some ((Mt .i64 (i64.wrap ((Mt .i64 (jH .i64 (Int.fdiv (i64.wrap ((i64.wrap (b0.2.2*6364136223846793005))+1442695040888963407)) (2^(min (33:Int).toNat (IntKind.bits .i64)))) (Int.fdiv (i64.wrap ((i64.wrap (b0.2.2*6364136223846793005))+1442695040888963407)) (2^(min (45:Int).toNat (IntKind.bits .i64))))) 255)+(i64.wrap (b0.1.getD b0.2.1.toNat 0)))) 255),(b0.1,(i64.wrap (b0.2.1+1)),(i64.wrap ((i64.wrap (b0.2.2*6364136223846793005))+1442695040888963407))))) else none) else none) else (some ((Mt .i64 (jH .i64 (Int.fdiv (i64.wrap ((i64.wrap (b0.2.2*6364136223846793005))+1442695040888963407)) (2^(min (33:Int).toNat (IntKind.bits .i64)))) (Int.fdiv (i64.wrap ((i64.wrap (b0.2.2*6364136223846793005))+1442695040888963407)) (2^(min (45:Int).toNat (IntKind.bits .i64))))) 255),(b0.1,b0.2.1,(i64.wrap ((i64.wrap (b0.2.2*6364136223846793005))+1442695040888963407))))))))
theorem uH:Ma Tf GI:=cT NE rfl ⟨rfl,rfl⟩ (by kernel_rfl)
def Qv (x1:Int) (b0:AL):Option (Int×AL):=(if (decide (x1<=0))=true then (some (0,b0)) else (if (decide (x1<=256))=true then ((GI b0).bind fun y1=>(if x1=0 then none else (some ((Int.tmod y1.1 x1),y1.2)))) else ((GI b0).bind fun y2=>((GI y2.2).bind fun y3=>((GI y3.2).bind fun y4=>((GI y4.2).bind fun y5=>(if x1=0 then none else (some ((Int.tmod (i64.wrap ((i64.wrap ((i64.wrap ((i64.wrap (y2.1*16777216))+(i64.wrap (y3.1*65536))))+(i64.wrap (y4.1*256))))+y5.1)) x1),y5.2)))))))))
theorem qZ:OJ Qv BP:=cT LV rfl ⟨rfl,rfl⟩ (by kernel_rfl)
def kj:=cG Sr (AI CC) (AI CC) kx
def Nr:=kE 0 [(3,1)] [3] 2 kj kx
def Tg:St->Option (RT (BG.outs CC)):=lG Sq [(3,1)] [0,3,4] 2 (AI CC) Nr
def km:=kB [(3,1)] [0,3,4] 2 Tg
def U1:=cG Sp km (AI CC) Nr
def ko:=kB [(3,1)] [0,3,4] 2 U1
def U2:=kE 1 [(3,1)] [0,3,4] 2 U1 Nr
def kq:=cG UP ko (AI CC) U2
def ku:=kE 2 [(3,1),(5,2)] [0,3,4,5] 3 kq U2
def ia:St->Option (RT (BG.outs CC)):=lG UO [(3,1),(5,2)] [0,3,4,5,6] 3 (AI CC) ku
def GQ (x0 x1:Int) (x2:AL) (x3:List (List Int)) (x4:List Int):Option (List (List Int)×AL):=ia ⟨[(0,.ptr 0 0),(3,.row 1),(4,.int .i64 x0),(5,.row 2),(6,.int .i64 x1)],[.var (Ad.enc x2),.rows 33 (.slice (.int .i64)) x3,.rows 3 (.int .i64) x4]⟩
def GR (x0:Int) (x1:AL) (x2:List (List Int)):Option (List (List Int)×AL):=Tg ⟨[(0,.ptr 0 0),(3,.row 1),(4,.int .i64 x0)],[.var (Ad.enc x1),.rows 33 (.slice (.int .i64)) x2]⟩
def GS (x0 x1:Int) (x2:AL) (x3:List (List Int)) (x4:List Int):Option (List (List Int)×AL):=((BP 3 x2).bind fun y2=>(if (decide (x1<(i64.wrap (1+y2.1))))=true then ((BP 4 y2.2).bind fun y3=>((Du x4 (i64.wrap (1+y3.1))).bind fun y4=>(if (!y4)=true then (if x4.length+([(i64.wrap (1+y3.1))]:List Int).length<=68719476736 then (GQ x0 (i64.wrap (x1+1)) y3.2 x3 (x4++([(i64.wrap (1+y3.1))]:List Int))) else none) else (GQ x0 (i64.wrap (x1+1)) y3.2 x3 x4)))) else (if x3.length+([x4]:List (List Int)).length<=68719476736 then (GR (i64.wrap (x0+1)) y2.2 (x3++([x4]:List (List Int)))) else none)))
def IW (x0:Int) (x1:AL) (x2:List (List Int)):Option (List (List Int)×AL):=((BP 5 x1).bind fun y1=>(if (decide (x0<(i64.wrap (1+y1.1))))=true then (GQ x0 0 y1.2 x2 ([]:List Int)) else (some (x2,y1.2))))
def aZ (b0:AL):Option (List (List Int)×AL):=(GR 0 b0 ([]:List (List Int)))
theorem IX:Le5 GS GQ:=lS (by kernel_rfl)
theorem MM:SW IW GR:=lS (by kernel_rfl)
theorem qa:Ma aZ QX:=cT CC rfl ⟨rfl,rfl⟩ (by kernel_rfl)

def W_:=cG US (AI Bd) (AI Bd) kx
def XA:=kB [] [4,5] 4 W_
def XB:=kE 0 [] [4,5] 4 W_ kx
def na:=kE 1 [] [4,5] 6 XA XB
def ky:St->Option (RT (BG.outs Bd)):=lG WT [] [0,1,4,5,6] 6 (AI Bd) na
def nb:=kE 3 [] [4,5] 4 XA XB
def kz:St->Option (RT (BG.outs Bd)):=lG UR [] [0,1,4,5,7] 4 (AI Bd) nb
def D0 (x0:Int) (x1:AL) (x2:AB) (x3 x4:AY) (x5:List Int) (x6:List ByteArray):Option (AY×AL×AB):=ky ⟨[(0,.ptr 0 0),(1,.ptr 1 0),(4,.ptr 2 0),(5,.ptr 3 0),(6,.int .i64 x0)],[.var (Ad.enc x1),.var (AX.enc x2),.var (Ab.enc x3),.var (Ab.enc x4),.frz (.int .i64) x5,.frz .str x6]⟩
def D1 (x0:Int) (x1:AL) (x2:AB) (x3 x4:AY):Option (AY×AL×AB):=kz ⟨[(0,.ptr 0 0),(1,.ptr 1 0),(4,.ptr 2 0),(5,.ptr 3 0),(7,.int .i64 x0)],[.var (Ad.enc x1),.var (AX.enc x2),.var (Ab.enc x3),.var (Ab.enc x4)]⟩
def G6 (x0:AL) (x1:AB) (x2 x3:AY):Option (AY×AL×AB):=cG UT (AI Bd) (AI Bd) kx ⟨[(0,.ptr 0 0),(1,.ptr 1 0),(4,.ptr 2 0),(5,.ptr 3 0)],[.var (Ad.enc x0),.var (AX.enc x1),.var (Ab.enc x2),.var (Ab.enc x3)]⟩
def BL (x0:AL) (x1:AB) (x2 x3:AY):Option (AY×AL×AB):=cG UU (AI Bd) (AI Bd) kx ⟨[(0,.ptr 0 0),(1,.ptr 1 0),(4,.ptr 2 0),(5,.ptr 3 0)],[.var (Ad.enc x0),.var (AX.enc x1),.var (Ab.enc x2),.var (Ab.enc x3)]⟩
def Ns (x0:AL) (x1:AB) (x2 x3:AY):Option (AY×AL×AB):=cG UV (AI Bd) (AI Bd) kx ⟨[(0,.ptr 0 0),(1,.ptr 1 0),(4,.ptr 2 0),(5,.ptr 3 0)],[.var (Ad.enc x0),.var (AX.enc x1),.var (Ab.enc x2),.var (Ab.enc x3)]⟩
def G7 (x0:Int) (x1:AL) (x2:AB) (x3 x4:AY) (x5:List Int) (x6:List ByteArray):Option (AY×AL×AB):=(if (decide (x0<(x2.2.1.length:Int)))=true then (if 0<=x0 then (if x0<(x2.2.1.length:Int) then (if (((((((x2.2.1.getD x0.toNat (0,0,false,false,false,false,([]:List Int),([]:List Z),0,0,0,0,(O,O,0),([]:List Int))).2).2).2).2).2).1)=true then ((Dx 4 x1).bind fun y10=>(if (!y10.1)=true then (D0 (i64.wrap (x0+1)) y10.2 x2 x3 (x4.1,(i64.wrap (x0+1)),x4.2.2) x5 x6) else (D0 (i64.wrap (x0+1)) y10.2 x2 x3 x4 x5 x6))) else (D0 (i64.wrap (x0+1)) x1 x2 x3 x4 x5 x6)) else none) else none) else (some (x4,x1,x2)))
def E9 (x0:Int) (x1:AL) (x2:AB) (x3 x4:AY):Option (AY×AL×AB):=(if (decide (x0<(x2.2.1.length:Int)))=true then (if 0<=x0 then (if x0<(x2.2.1.length:Int) then (if (decide ((((x2.2.1.getD x0.toNat (0,0,false,false,false,false,([]:List Int),([]:List Z),0,0,0,0,(O,O,0),([]:List Int))).2).1)<(x2.1.length:Int)))=true then (if 0<=(((x2.2.1.getD x0.toNat (0,0,false,false,false,false,([]:List Int),([]:List Z),0,0,0,0,(O,O,0),([]:List Int))).2).1) then (if (((x2.2.1.getD x0.toNat (0,0,false,false,false,false,([]:List Int),([]:List Z),0,0,0,0,(O,O,0),([]:List Int))).2).1)<(x2.1.length:Int) then (if 0<=(0:Int) then (if 0<((x2.1.getD (((x2.2.1.getD x0.toNat (0,0,false,false,false,false,([]:List Int),([]:List Z),0,0,0,0,(O,O,0),([]:List Int))).2).1).toNat ([]:List Int)).length:Int) then (if (((x2.1.getD (((x2.2.1.getD x0.toNat (0,0,false,false,false,false,([]:List Int),([]:List Z),0,0,0,0,(O,O,0),([]:List Int))).2).1).toNat ([]:List Int)).getD (0:Int).toNat 0)==((x2.2.1.getD x0.toNat (0,0,false,false,false,false,([]:List Int),([]:List Z),0,0,0,0,(O,O,0),([]:List Int))).1))=true then ((Dx 3 x1).bind fun y11=>(if (!y11.1)=true then (D1 (i64.wrap (x0+1)) y11.2 x2 x3 (x4.1,(x2.2.1.getD x0.toNat (0,0,false,false,false,false,([]:List Int),([]:List Z),0,0,0,0,(O,O,0),([]:List Int))).1,x4.2.2)) else (D1 (i64.wrap (x0+1)) y11.2 x2 x3 x4))) else (D1 (i64.wrap (x0+1)) x1 x2 x3 x4)) else none) else none) else none) else none) else (D1 (i64.wrap (x0+1)) x1 x2 x3 x4)) else none) else none) else (some (x4,x1,x2)))
def G8 (x0:AL) (x1:AB) (x2 x3:AY):Option (AY×AL×AB):=(if (x3.1==1)=true then ((DF ([1,1,2]:List Int) x0).bind fun y7=>((GJ ([(⟨#[97]⟩:ByteArray),(⟨#[98]⟩:ByteArray),(⟨#[99]⟩:ByteArray)]:List ByteArray) y7.2).bind fun y8=>(if (y7.1==1)=true then ((GJ ([(⟨#[118]⟩:ByteArray),(⟨#[119]⟩:ByteArray),(⟨#[120]⟩:ByteArray),(⟨#[121]⟩:ByteArray)]:List ByteArray) y8.2).bind fun y9=>(D0 0 y9.2 x1 x2 (x3.1,x3.2.1,x3.2.2.1,y7.1,y8.1,y9.1) ([1,1,2]:List Int) ([(⟨#[97]⟩:ByteArray),(⟨#[98]⟩:ByteArray),(⟨#[99]⟩:ByteArray)]:List ByteArray))) else (D0 0 y8.2 x1 x2 (x3.1,x3.2.1,x3.2.2.1,y7.1,y8.1,x3.2.2.2.2.2) ([1,1,2]:List Int) ([(⟨#[97]⟩:ByteArray),(⟨#[98]⟩:ByteArray),(⟨#[99]⟩:ByteArray)]:List ByteArray))))) else (if (x3.1==5)=true then (D1 0 x0 x1 x2 x3) else (some (x3,x0,x1))))
def JN (x0:AL) (x1:AB) (x2 x3:AY):Option (AY×AL×AB):=(if (x3.1==2)=true then ((Dx 2 x0).bind fun y6=>(if y6.1=true then (G6 y6.2 x1 x2 (x3.1,x3.2.1,0,x3.2.2.2)) else (G6 y6.2 x1 x2 x3))) else (G6 x0 x1 x2 x3))
def JO (x0:AL) (x1:AB) (x2 x3:AY):Option (AY×AL×AB):=(if ((x1.2.2.1.length:Int)==0)=true then ((AW x3.1 2 4).bind fun y4=>(if y4=true then (if ((1:Int)==6)=true then ((Dx 4 x0).bind fun y5=>(if (!y5.1)=true then (BL y5.2 x1 x2 (1,x3.2)) else (BL y5.2 x1 x2 (1,x3.2)))) else (BL x0 x1 x2 (1,x3.2))) else (if (x3.1==6)=true then ((Dx 4 x0).bind fun y12=>(if (!y12.1)=true then (BL y12.2 x1 x2 (1,x3.2)) else (BL y12.2 x1 x2 x3))) else (BL x0 x1 x2 x3)))) else (if (x3.1==6)=true then ((Dx 4 x0).bind fun y13=>(if (!y13.1)=true then (BL y13.2 x1 x2 (1,x3.2)) else (BL y13.2 x1 x2 x3))) else (BL x0 x1 x2 x3)))
def db (b0:AL) (b1:AB):Option (AY×AL×AB):=((DF ([1,1,1,2,2,2,2,2,2,2,2,3,4,5,6]:List Int) b0).bind fun y1=>((BP 4 y1.2).bind fun y2=>((BP 20 y2.2).bind fun y3=>(Ns y3.2 b1 (0,0,0,0,O,O) (y1.1,(i64.wrap (1+y2.1)),y3.1,0,O,O)))))
theorem JP:Le7 G7 D0:=lS (by kernel_rfl)
theorem G9:Le5 E9 D1:=lS (by kernel_rfl)
theorem JQ:gN G8 G6:=jS (by kernel_rfl)
theorem Nt:gN JN BL:=jS (by kernel_rfl)
theorem Nu:gN JO Ns:=jS (by kernel_rfl)
theorem uI:OJ db S5:=cT Bd rfl ⟨rfl,rfl⟩ (by kernel_rfl)
def nc:=cG UY (AI CF) (AI CF) kx
def O7:=kE 0 [] [0] 0 nc kx
def U3:St->Option (RT (BG.outs CF)):=lG UX [] [0,7,8,9] 0 (AI CF) O7
def ng:=kB [] [0,7,8,9] 0 U3
def XC:=cG UW ng (AI CF) O7
def XD:=kB [] [0,7,8,9] 0 XC
def O8:=kE 1 [] [0,7,8,9] 0 XC O7
def nh:=cG Ot XD (AI CF) O8
def ni:=kE 2 [] [0,4,7,8,9] 0 nh O8
def k_:St->Option (RT (BG.outs CF)):=lG WU [] [0,4,7,8,9,13,14,15] 0 (AI CF) ni
def Nv (x0:List (List Int)) (x1:List Int) (x2:List (List Int)) (x3 x4:Int):Option Bool:=cG Ot XD (AI CF) O8 ⟨[(0,.lst (.slice (.int .i64)) x0),(4,.lst (.int .i64) x1),(7,.lst (.slice (.int .i64)) x2),(8,.int .i64 x3),(9,.int .i64 x4)],[]⟩
def JR (x0:List (List Int)) (x1:List Int) (x2:List (List Int)) (x3 x4:Int) (x5:List Int) (x6 x7:Int):Option Bool:=k_ ⟨[(0,.lst (.slice (.int .i64)) x0),(4,.lst (.int .i64) x1),(7,.lst (.slice (.int .i64)) x2),(8,.int .i64 x3),(9,.int .i64 x4),(13,.lst (.int .i64) x5),(14,.int .i64 x6),(15,.int .i64 x7)],[]⟩
def JS (x0 x1:List (List Int)) (x2 x3:Int):Option Bool:=U3 ⟨[(0,.lst (.slice (.int .i64)) x0),(7,.lst (.slice (.int .i64)) x1),(8,.int .i64 x2),(9,.int .i64 x3)],[]⟩
def U4 (x0:List (List Int)) (x1:List Int) (x2:List (List Int)) (x3 x4:Int):Option Bool:=((Aj (x1.length:Int) 1 4).bind fun y3=>(if (!y3)=true then (some false) else (JS x0 x2 x3 (i64.wrap (x4+1)))))
def Nw (x0:List (List Int)) (x1:List Int) (x2:List (List Int)) (x3 x4:Int) (x5:List Int) (x6 x7:Int):Option Bool:=(if (decide (x7<x6))=true then (if 0<=x7 then (if x7<(x5.length:Int) then ((F3 (x5.getD x7.toNat 0)).bind fun y1=>(if (!y1)=false then ((Dw x1 (x5.getD x7.toNat 0)).bind fun y2=>(if (y2 != x7)=true then (some false) else (JR x0 x1 x2 x3 x4 x5 x6 (i64.wrap (x7+1))))) else (some false))) else none) else none) else (Nv x0 x1 x2 x3 x4))
def Nx (x0 x1:List (List Int)) (x2 x3:Int):Option Bool:=(if (decide (x3<x2))=true then (if 0<=x3 then (if x3<(x1.length:Int) then (JR x0 (x1.getD x3.toNat ([]:List Int)) x1 x2 x3 (x1.getD x3.toNat ([]:List Int)) ((x1.getD x3.toNat ([]:List Int)).length:Int) 0) else none) else none) else ((Aj (x0.length:Int) 1 9).bind fun y4=>(some y4)))
def dd (x0:List (List Int)):Option Bool:=(JS x0 x0 (x0.length:Int) 0)
theorem lA:Le5 U4 Nv:=jS (by kernel_rfl)
theorem U5:zH Nw JR:=lS (by kernel_rfl)
theorem U6:gN Nx JS:=lS (by kernel_rfl)
theorem uJ:Ma dd Ew:=cT CF rfl ⟨rfl,rfl⟩ (by kernel_rfl)
def ib:=cG Su (AI DZ) (AI DZ) kx
def ic:=kE 0 [(3,0)] [3] 1 ib kx
def fY:St->Option (RT (BG.outs DZ)):=lG Ss [(3,0)] [3,6,7,8] 1 (AI DZ) ic
def HX (x0:List (List Int)) (x1 x2:Int) (x3:List (List Int)):Option (List (List Int)):=fY ⟨[(3,.row 0),(6,.lst (.slice (.int .i64)) x0),(7,.int .i64 x1),(8,.int .i64 x2)],[.rows 33 (.slice (.int .i64)) x3]⟩
def K3 (x0:List (List Int)) (x1 x2:Int) (x3:List (List Int)):Option (List (List Int)):=(if (decide (x2<x1))=true then (if 0<=x2 then (if x2<(x0.length:Int) then ((B0 (x0.getD x2.toNat ([]:List Int))).bind fun y1=>(if x3.length+([y1]:List (List Int)).length<=68719476736 then (HX x0 x1 (i64.wrap (x2+1)) (x3++([y1]:List (List Int)))) else none)) else none) else none) else (some x3))
def XE (x0:List (List Int)):Option (List (List Int)):=(HX x0 (x0.length:Int) 0 ([]:List (List Int)))
theorem Ro:gN K3 HX:=lS (by kernel_rfl)
theorem nj:Ma XE KO:=cT DZ rfl ⟨rfl,rfl⟩ (by kernel_rfl)
def Rp (x0:Int) (x1:List (List Int)) (x2:Bool) (x3:U):Option (U×Bool):=cG Sv (AI F_) (AI F_) kx ⟨[(0,.int .i64 x0),(1,.lst (.slice (.int .i64)) x1),(4,.ptr 0 0),(14,.bool x2)],[.var (X.enc x3)]⟩
def Rq (x0:Int) (x1:List (List Int)) (x2:Bool) (x3:U):Option (U×Bool):=(if 0<=(0:Int) then (if 0<(x1.length:Int) then (if 0<=(0:Int) then (if 0<((x1.getD (0:Int).toNat ([]:List Int)).length:Int) then (if 0<=(0:Int) then (if 0<(x1.length:Int) then ((CQ (x1.getD (0:Int).toNat ([]:List Int)) x0).bind fun y3=>(some ((x0,1,false,y3,(((x1.getD (0:Int).toNat ([]:List Int)).getD (0:Int).toNat 0)==x0),(((x1.getD (0:Int).toNat ([]:List Int)).getD (0:Int).toNat 0)==x0),([]:List Int),([]:List Z),0,0,0,0,(O,O,0),([]:List Int)),true))) else none) else none) else none) else none) else none) else none)
def XF (x0:Int) (x1:List (List Int)):Option (U×Bool):=((F3 x0).bind fun y1=>(if (!y1)=false then ((Ew x1).bind fun y2=>(if (!y2)=true then (some ((0,0,false,false,false,false,([]:List Int),([]:List Z),0,0,0,0,(O,O,0),([]:List Int)),false)) else (Rp x0 x1 (!y2) (0,0,false,false,false,false,([]:List Int),([]:List Z),0,0,0,0,(O,O,0),([]:List Int))))) else (some ((0,0,false,false,false,false,([]:List Int),([]:List Z),0,0,0,0,(O,O,0),([]:List Int)),false))))
theorem fZ:gN Rq Rp:=jS (by kernel_rfl)
theorem nl:OJ XF Ox:=cT F_ rfl ⟨rfl,rfl⟩ (by kernel_rfl)
def Li (x0:Int) (x1:ByteArray) (x2:Bool):Option Bool:=cG cm (AI KH) (AI KH) kx ⟨[(0,.int .i64 x0),(3,.str x1),(26,.bool x2)],[]⟩
def Qw (x0:Int) (x1:ByteArray) (x2:Bool):Option Bool:=(if (x0==1)=false then (some (x1.toList==(⟨#[]⟩:ByteArray).toList)) else (some true))
def YW (x0 x1:Int) (x2 x3:ByteArray):Option Bool:=((Aj x0 1 2).bind fun y1=>(if (!y1)=false then ((Aj x1 0 1000).bind fun y2=>(if (!y2)=false then ((SM x2).bind fun y3=>(if (!y3)=false then (if (decide ((x3.size:Int)>20))=true then (some false) else (Li x0 x3 (decide ((x3.size:Int)>20)))) else (some false))) else (some false))) else (some false)))
theorem aa:SW Qw Li:=jS (by kernel_rfl)
theorem lB:gN YW NZ:=cT KH rfl ⟨rfl,rfl⟩ (by kernel_rfl)
def Th (x1:AY) (x2:Int) (b0:AB):Option (Bool×AB):=(if b0.2.2.2.length+([(x1.2.2.2.1,x1.2.2.2.2.1,x1.2.2.2.2.2,x2,(-1:Int),0,0,0,O)]:List AC).length<=68719476736 then ((B8 x1.2.1 (b0.1,b0.2.1,b0.2.2.1,(b0.2.2.2++([(x1.2.2.2.1,x1.2.2.2.2.1,x1.2.2.2.2.2,x2,(-1:Int),0,0,0,O)]:List AC)))).bind fun y1=>(if 0<=y1.1 then (if y1.1<(y1.2.2.1.length:Int) then ((SN (y1.2.2.1.getD y1.1.toNat (0,0,false,false,false,false,([]:List Int),([]:List Z),0,0,0,0,(O,O,0),([]:List Int))) y1.2.1 x1.2.2.2.1 (b0.2.2.2.length:Int) x1.2.2.2.2.1 x1.2.2.2.2.2).bind fun y2=>(if (!y2.2.2.2)=true then (some (false,y1.2)) else (if 0<=y1.1 then (if y1.1<(y1.2.2.1.length:Int) then (let z3:List U:=y1.2.2.1.set y1.1.toNat y2.1; ((G1 y2.2.1 y2.2.2.1 x2 (y1.2.1,z3,y1.2.2.2)).bind fun y4=>(some (true,y4)))) else none) else none))) else none) else none)) else none)
theorem ie:SW Th L6:=cT IM rfl ⟨rfl,rfl⟩ (by kernel_rfl)
def de:=cG OP (AI Cs) (AI Cs) kx
def df:=kE 0 [] [] 5 de kx
def bZ:St->Option (RT (BG.outs Cs)):=lG Py [] [0,2,4,7,8] 5 (AI Cs) df
def EM (x0 x1 x2:Int) (x3:List (List Int)) (x4:List U) (x5:List AA) (x6:List AC) (x7:AY):Option (Bool×AB):=bZ ⟨[(0,.ptr 0 0),(2,.int .i64 x0),(4,.ptr 4 0),(7,.int .i64 x1),(8,.int .i64 x2)],[.var [.lst (.slice (.int .i64)) x3,.row 1,.row 2,.row 3],.rows 42 X x4,.rows 97 AH x5,.rows 47 AJ x6,.var (Ab.enc x7)]⟩
def GY (x0 x1 x2:Int) (x3:List (List Int)) (x4:List U) (x5:List AA) (x6:List AC) (x7:AY):Option (Bool×AB):=(if (decide (x2<=(x3.length:Int)))=true then (if 0<=(i64.wrap (x2-1)) then (if (i64.wrap (x2-1))<(x3.length:Int) then (if 0<=(0:Int) then (if 0<((x3.getD (i64.wrap (x2-1)).toNat ([]:List Int)).length:Int) then (if (((x3.getD (i64.wrap (x2-1)).toNat ([]:List Int)).getD (0:Int).toNat 0) != x7.2.1)=true then (EM x0 x1 (i64.wrap (x2+1)) x3 x4 x5 x6 x7) else (if 0<=x1 then (if x1<(x4.length:Int) then ((SO (x4.getD x1.toNat (0,0,false,false,false,false,([]:List Int),([]:List Z),0,0,0,0,(O,O,0),([]:List Int))) x3 x2).bind fun y2=>(if y2.2.2=true then (if 0<=x1 then (if x1<(x4.length:Int) then (let z3:List U:=x4.set x1.toNat y2.1; ((G1 y2.2.1 ([]) x0 (x3,z3,x5,x6)).bind fun y4=>(some (y2.2.2,y4)))) else none) else none) else (some (y2.2.2,(x3,x4,x5,x6))))) else none) else none)) else none) else none) else none) else none) else (some (false,(x3,x4,x5,x6))))
def Ti (x1:AY) (x2:Int) (b0:AB):Option (Bool×AB):=((B8 x1.2.1 b0).bind fun y1=>(if 0<=y1.1 then (if y1.1<(y1.2.2.1.length:Int) then (EM x2 y1.1 (i64.wrap ((((y1.2.2.1.getD y1.1.toNat (0,0,false,false,false,false,([]:List Int),([]:List Z),0,0,0,0,(O,O,0),([]:List Int))).2).1)+1)) y1.2.1 y1.2.2.1 y1.2.2.2.1 y1.2.2.2.2 x1) else none) else none))
theorem JA:zH GY EM:=lS (by kernel_rfl)
theorem ig:SW Ti L7:=cT Cs rfl ⟨rfl,rfl⟩ (by kernel_rfl)
def Rr (x1:Int) (b0:AB):Option (Int×AB):=((CV b0.2.1 x1).bind fun y1=>(some (y1,b0)))
theorem fa:OJ Rr B8:=cT HV rfl ⟨rfl,rfl⟩ (by kernel_rfl)
def zR (x0:U):Option U:=(some (x0.1,x0.2.1,true,false,false,false,([]:List Int),([]:List Z),0,0,0,0,(O,O,0),([]:List Int)))
theorem zS:Ma zR Ut:=cT UZ rfl ⟨rfl,rfl⟩ (by kernel_rfl)
def P8 (x1:AY) (x2:Int) (b0:AB):Option (Bool×AB):=(if ((b0.2.2.1.length:Int)==0)=true then (some (false,b0)) else (if (b0.2.2.1.length:Int)=0 then none else (if (x1.1==2)=true then ((Jp (Int.tmod x1.2.2.1 (b0.2.2.1.length:Int)) x2 b0).bind fun y1=>(some (true,y1))) else (if (x1.1==3)=true then ((Bq b0.2.2.1 (Int.tmod x1.2.2.1 (b0.2.2.1.length:Int)) (i64.wrap ((Int.tmod x1.2.2.1 (b0.2.2.1.length:Int))+1))).bind fun y2=>(some (true,(b0.1,b0.2.1,y2,b0.2.2.2)))) else (if (x1.1==4)=true then (if 0<=(Int.tmod x1.2.2.1 (b0.2.2.1.length:Int)) then (if (Int.tmod x1.2.2.1 (b0.2.2.1.length:Int))<(b0.2.2.1.length:Int) then ((Hn (b0.2.2.1.getD ((Int.tmod x1.2.2.1 (b0.2.2.1.length:Int)).toNat) (0,0,0,0,0,([]:List Z)))).bind fun y3=>(if b0.2.2.1.length+([y3]:List AA).length<=68719476736 then (some (true,(b0.1,b0.2.1,(b0.2.2.1++([y3]:List AA)),b0.2.2.2))) else none)) else none) else none) else (some (true,b0)))))))
theorem dg:SW P8 Jq:=cT Gz rfl ⟨rfl,rfl⟩ (by kernel_rfl)
def U7 (x0:U):Option U:=((B0 x0.2.2.2.2.2.2.1).bind fun y1=>((Ap x0.2.2.2.2.2.2.2.1).bind fun y2=>((B0 x0.2.2.2.2.2.2.2.2.2.2.2.2.2).bind fun y3=>(some (x0.1,x0.2.1,x0.2.2.1,x0.2.2.2.1,x0.2.2.2.2.1,x0.2.2.2.2.2.1,y1,y2,x0.2.2.2.2.2.2.2.2.1,x0.2.2.2.2.2.2.2.2.2.1,x0.2.2.2.2.2.2.2.2.2.2.1,x0.2.2.2.2.2.2.2.2.2.2.2.1,x0.2.2.2.2.2.2.2.2.2.2.2.2.1,y3)))))
theorem lC:Ma U7 DE:=cT JI rfl ⟨rfl,rfl⟩ (by kernel_rfl)
def dh (x0:AA):Option AA:=((Ap x0.2.2.2.2.2).bind fun y1=>(some (x0.1,x0.2.1,x0.2.2.1,x0.2.2.2.1,x0.2.2.2.2.1,y1)))
theorem uK:Ma dh Hn:=cT NF rfl ⟨rfl,rfl⟩ (by kernel_rfl)
def nn:=cG WW (AI Er) (AI Er) kx
def no:=kE 0 [] [0] 0 nn kx
def lD:St->Option (RT (BG.outs Er)):=lG WV [] [0,3] 0 (AI Er) no
def JT (x0:List (List Int)) (x1:Int):Option Bool:=lD ⟨[(0,.lst (.slice (.int .i64)) x0),(3,.int .i64 x1)],[]⟩
def Ny (x0:List (List Int)) (x1:Int):Option Bool:=(if (decide (x1<(x0.length:Int)))=true then (if 0<=x1 then (if x1<(x0.length:Int) then ((S8 (x0.getD x1.toNat ([]:List Int))).bind fun y1=>(if (!y1)=true then (some false) else (JT x0 (i64.wrap (x1+1))))) else none) else none) else ((AW (x0.length:Int) 1 9).bind fun y2=>(some y2)))
def di (x0:List (List Int)):Option Bool:=(JT x0 0)
theorem U8:OJ Ny JT:=lS (by kernel_rfl)
theorem uL:Ma di Ex:=cT Er rfl ⟨rfl,rfl⟩ (by kernel_rfl)
def ba:=cG OR (AI Ch) (AI Ch) kx
def bc:=kE 0 [(3,0)] [3] 1 ba kx
def YX:St->Option (RT (BG.outs Ch)):=lG OQ [(3,0)] [0,3,4] 1 (AI Ch) bc
def Fo (x0:List (List Int)) (x1:Int) (x2:List (List Int)):Option (List (List Int)):=YX ⟨[(0,.lst (.slice (.int .i64)) x0),(3,.row 0),(4,.int .i64 x1)],[.rows 33 (.slice (.int .i64)) x2]⟩
def IY (x0:List (List Int)) (x1:Int) (x2:List (List Int)):Option (List (List Int)):=(if (decide (x1<(x0.length:Int)))=true then (if 0<=x1 then (if x1<(x0.length:Int) then (if ([]:List Int).length+(x0.getD x1.toNat ([]:List Int)).length<=68719476736 then (if x2.length+([(([]:List Int)++(x0.getD x1.toNat ([]:List Int)))]:List (List Int)).length<=68719476736 then (Fo x0 (i64.wrap (x1+1)) (x2++([(([]:List Int)++(x0.getD x1.toNat ([]:List Int)))]:List (List Int)))) else none) else none) else none) else none) else (some x2))
def Rs (x0:List (List Int)):Option (List (List Int)):=(Fo x0 0 ([]:List (List Int)))
theorem Nz:SW IY Fo:=lS (by kernel_rfl)
theorem fb:Ma Rs HW:=cT Ch rfl ⟨rfl,rfl⟩ (by kernel_rfl)
def Rt (x0:Int) (x1:List (List Int)) (x2:Bool) (x3:U):Option (U×Bool):=cG Sw (AI GA) (AI GA) kx ⟨[(0,.int .i64 x0),(1,.lst (.slice (.int .i64)) x1),(4,.ptr 0 0),(14,.bool x2)],[.var (X.enc x3)]⟩
def Ru (x0:Int) (x1:List (List Int)) (x2:Bool) (x3:U):Option (U×Bool):=(if 0<=(0:Int) then (if 0<(x1.length:Int) then ((Du (x1.getD (0:Int).toNat ([]:List Int)) x0).bind fun y3=>(if 0<=(0:Int) then (if 0<(x1.length:Int) then (if 0<=(0:Int) then (if 0<((x1.getD (0:Int).toNat ([]:List Int)).length:Int) then (some ((x0,1,false,y3,(((x1.getD (0:Int).toNat ([]:List Int)).getD (0:Int).toNat 0)==x0),(((x1.getD (0:Int).toNat ([]:List Int)).getD (0:Int).toNat 0)==x0),([]:List Int),([]:List Z),0,0,0,0,(O,O,0),([]:List Int)),true)) else none) else none) else none) else none)) else none) else none)
def XG (x0:Int) (x1:List (List Int)):Option (U×Bool):=((Ex x1).bind fun y1=>(if (!y1)=false then ((AW x0 1 6).bind fun y2=>(if (!y2)=true then (some ((0,0,false,false,false,false,([]:List Int),([]:List Z),0,0,0,0,(O,O,0),([]:List Int)),false)) else (Rt x0 x1 (!y2) (0,0,false,false,false,false,([]:List Int),([]:List Z),0,0,0,0,(O,O,0),([]:List Int))))) else (some ((0,0,false,false,false,false,([]:List Int),([]:List Z),0,0,0,0,(O,O,0),([]:List Int)),false))))
theorem fc:gN Ru Rt:=jS (by kernel_rfl)
theorem np:OJ XG Oy:=cT GA rfl ⟨rfl,rfl⟩ (by kernel_rfl)
def ae (x1:Int) (x2:AY) (b0:AB):Option (Int×AB):=(if ([]:List AC).length+b0.2.2.2.length<=68719476736 then (if (([]:List AC)++b0.2.2.2).length+([(x2.2.2.2.1,x2.2.2.2.2.1,x2.2.2.2.2.2,x1,(-1:Int),0,0,0,O)]:List AC).length<=68719476736 then (if 0<=(i64.wrap (x2.2.1-1)) then (if (i64.wrap (x2.2.1-1))<(b0.2.1.length:Int) then ((YN (b0.2.1.getD (i64.wrap (x2.2.1-1)).toNat (0,0,false,false,false,false,([]:List Int),([]:List Z),0,0,0,0,(O,O,0),([]:List Int))) b0.1 x2.2.2.2.1 (i64.wrap ((((([]:List AC)++b0.2.2.2)++([(x2.2.2.2.1,x2.2.2.2.2.1,x2.2.2.2.2.2,x1,(-1:Int),0,0,0,O)]:List AC)).length:Int)-1)) x2.2.2.2.2.1 x2.2.2.2.2.2).bind fun y1=>(if (!y1.2.2.2)=true then (some (1,(b0.1,b0.2.1,b0.2.2.1,((([]:List AC)++b0.2.2.2)++([(x2.2.2.2.1,x2.2.2.2.2.1,x2.2.2.2.2.2,x1,(-1:Int),0,0,0,O)]:List AC))))) else ((GB y1.1 y1.2.1 y1.2.2.1 x1 (b0.1,b0.2.1,b0.2.2.1,((([]:List AC)++b0.2.2.2)++([(x2.2.2.2.1,x2.2.2.2.2.1,x2.2.2.2.2.2,x1,(-1:Int),0,0,0,O)]:List AC)))).bind fun y2=>(some (0,y2))))) else none) else none) else none) else none)
theorem qb:SW ae QY:=cT LW rfl ⟨rfl,rfl⟩ (by kernel_rfl)
def lE:=cG Sx (AI EA) (AI EA) kx
def lF:=kE 0 [] [] 2 lE kx
def ii:St->Option (RT (BG.outs EA)):=lG Ua [] [0,1,2,7,8] 2 (AI EA) lF
def Ia (x0 x1 x2:Int) (x3:AB) (x4:U):Option (Int×AB):=ii ⟨[(0,.ptr 0 0),(1,.int .i64 x0),(2,.int .i64 x1),(7,.ptr 1 0),(8,.int .i64 x2)],[.var (AX.enc x3),.var (X.enc x4)]⟩
def Ib (x0 x1 x2:Int) (x3:AB) (x4:U):Option (Int×AB):=(if (decide (x2<=(x3.1.length:Int)))=true then (if 0<=(i64.wrap (x2-1)) then (if (i64.wrap (x2-1))<(x3.1.length:Int) then (if 0<=(0:Int) then (if 0<((x3.1.getD (i64.wrap (x2-1)).toNat ([]:List Int)).length:Int) then (if (((x3.1.getD (i64.wrap (x2-1)).toNat ([]:List Int)).getD (0:Int).toNat 0) != x1)=true then (Ia x0 x1 (i64.wrap (x2+1)) x3 x4) else ((YO x4 x3.1 x2).bind fun y1=>(if (!y1.2.2)=true then (some (1,x3)) else ((GB y1.1 y1.2.1 ([]:List AK) x0 x3).bind fun y2=>(some (0,y2)))))) else none) else none) else none) else none) else (some (1,x3)))
def Qx (x1 x2:Int) (b0:AB):Option (Int×AB):=(if 0<=(i64.wrap (x2-1)) then (if (i64.wrap (x2-1))<(b0.2.1.length:Int) then (Ia x1 x2 (i64.wrap ((((b0.2.1.getD (i64.wrap (x2-1)).toNat (0,0,false,false,false,false,([]:List Int),([]:List Z),0,0,0,0,(O,O,0),([]:List Int))).2).1)+1)) b0 (b0.2.1.getD (i64.wrap (x2-1)).toNat (0,0,false,false,false,false,([]:List Int),([]:List Z),0,0,0,0,(O,O,0),([]:List Int)))) else none) else none)
theorem MN:Le5 Ib Ia:=lS (by kernel_rfl)
theorem af:SW Qx QZ:=cT EA rfl ⟨rfl,rfl⟩ (by kernel_rfl)
def MO:=kE 0 [] [] 4 (AI C3) kx
def Rv:St->Option (RT (BG.outs C3)):=lG RR [] [0,3,4,11] 4 (AI C3) MO
def ij:=kB [] [0,3,4,11] 4 Rv
def Tj:=cG RQ ij (AI C3) MO
def ik:=kB [] [0,3,4,11] 4 Tj
def il:=kE 1 [] [0,3,4,11] 4 Tj MO
def Rw (x0:List AK) (x1 x2:Int) (x3:Bool) (x4:AB) (x5:U) (x6:List U) (x7:List AA) (x8:AK):Option AB:=cG RP ik (AI C3) il ⟨[(0,.ptr 0 0),(3,.lst BE x0),(4,.int .i64 x1),(11,.int .i64 x2),(12,.ptr 4 0),(71,.bool x3)],[.var (AX.enc x4),.var (X.enc x5),.frz X x6,.frz AH x7,.var (BE.enc x8)]⟩
def C9 (x0:List AK) (x1 x2:Int) (x3:AB) (x4:U) (x5:List U) (x6:List AA):Option AB:=Rv ⟨[(0,.ptr 0 0),(3,.lst BE x0),(4,.int .i64 x1),(11,.int .i64 x2)],[.var (AX.enc x3),.var (X.enc x4),.frz X x5,.frz AH x6]⟩
def Rx (x0:List AK) (x1 x2:Int) (x3:Bool) (x4:AB) (x5:U) (x6:List U) (x7:List AA) (x8:AK):Option AB:=(if ([]:List AC).length+x4.2.2.2.length<=68719476736 then (if 0<=x8.1 then (if x8.1<((([]:List AC)++x4.2.2.2).length:Int) then (let z2:List AC:=(([]:List AC)++x4.2.2.2).set x8.1.toNat (((([]:List AC)++x4.2.2.2).getD x8.1.toNat (0,O,O,0,0,0,0,0,O)).1,(((([]:List AC)++x4.2.2.2).getD x8.1.toNat (0,O,O,0,0,0,0,0,O)).2).1,((((([]:List AC)++x4.2.2.2).getD x8.1.toNat (0,O,O,0,0,0,0,0,O)).2).2).1,(((((([]:List AC)++x4.2.2.2).getD x8.1.toNat (0,O,O,0,0,0,0,0,O)).2).2).2).1,x1,((((((([]:List AC)++x4.2.2.2).getD x8.1.toNat (0,O,O,0,0,0,0,0,O)).2).2).2).2).2); (let z3:List AC:=z2.set x8.1.toNat ((z2.getD x8.1.toNat (0,O,O,0,0,0,0,0,O)).1,((z2.getD x8.1.toNat (0,O,O,0,0,0,0,0,O)).2).1,(((z2.getD x8.1.toNat (0,O,O,0,0,0,0,0,O)).2).2).1,((((z2.getD x8.1.toNat (0,O,O,0,0,0,0,0,O)).2).2).2).1,(((((z2.getD x8.1.toNat (0,O,O,0,0,0,0,0,O)).2).2).2).2).1,x8.2.2.2.2.2,((((((z2.getD x8.1.toNat (0,O,O,0,0,0,0,0,O)).2).2).2).2).2).2); (let z4:List AC:=z3.set x8.1.toNat ((z3.getD x8.1.toNat (0,O,O,0,0,0,0,0,O)).1,((z3.getD x8.1.toNat (0,O,O,0,0,0,0,0,O)).2).1,(((z3.getD x8.1.toNat (0,O,O,0,0,0,0,0,O)).2).2).1,((((z3.getD x8.1.toNat (0,O,O,0,0,0,0,0,O)).2).2).2).1,(((((z3.getD x8.1.toNat (0,O,O,0,0,0,0,0,O)).2).2).2).2).1,((((((z3.getD x8.1.toNat (0,O,O,0,0,0,0,0,O)).2).2).2).2).2).1,x8.2.1,(((((((z3.getD x8.1.toNat (0,O,O,0,0,0,0,0,O)).2).2).2).2).2).2).2); (let z5:List AC:=z4.set x8.1.toNat ((z4.getD x8.1.toNat (0,O,O,0,0,0,0,0,O)).1,((z4.getD x8.1.toNat (0,O,O,0,0,0,0,0,O)).2).1,(((z4.getD x8.1.toNat (0,O,O,0,0,0,0,0,O)).2).2).1,((((z4.getD x8.1.toNat (0,O,O,0,0,0,0,0,O)).2).2).2).1,(((((z4.getD x8.1.toNat (0,O,O,0,0,0,0,0,O)).2).2).2).2).1,((((((z4.getD x8.1.toNat (0,O,O,0,0,0,0,0,O)).2).2).2).2).2).1,(((((((z4.getD x8.1.toNat (0,O,O,0,0,0,0,0,O)).2).2).2).2).2).2).1,x8.2.2.1,((((((((z4.getD x8.1.toNat (0,O,O,0,0,0,0,0,O)).2).2).2).2).2).2).2).2); (if (((z5.getD x8.1.toNat (0,O,O,0,0,0,0,0,O)).1)==2)=true then (let z6:List AC:=z5.set x8.1.toNat ((z5.getD x8.1.toNat (0,O,O,0,0,0,0,0,O)).1,((z5.getD x8.1.toNat (0,O,O,0,0,0,0,0,O)).2).1,(((z5.getD x8.1.toNat (0,O,O,0,0,0,0,0,O)).2).2).1,((((z5.getD x8.1.toNat (0,O,O,0,0,0,0,0,O)).2).2).2).1,(((((z5.getD x8.1.toNat (0,O,O,0,0,0,0,0,O)).2).2).2).2).1,((((((z5.getD x8.1.toNat (0,O,O,0,0,0,0,0,O)).2).2).2).2).2).1,(((((((z5.getD x8.1.toNat (0,O,O,0,0,0,0,0,O)).2).2).2).2).2).2).1,((((((((z5.getD x8.1.toNat (0,O,O,0,0,0,0,0,O)).2).2).2).2).2).2).2).1,x8.2.2.2.2.1); (C9 x0 x1 (i64.wrap (x2+1)) (x4.1,x4.2.1,x4.2.2.1,z6) x5 x6 x7)) else (C9 x0 x1 (i64.wrap (x2+1)) (x4.1,x4.2.1,x4.2.2.1,z5) x5 x6 x7)))))) else none) else none) else none)
def K4 (x0:List AK) (x1 x2:Int) (x3:AB) (x4:U) (x5:List U) (x6:List AA):Option AB:=(if (decide (x2<(x0.length:Int)))=true then (if 0<=x2 then (if x2<(x0.length:Int) then (if (decide (((x0.getD x2.toNat (0,0,0,O,O,0)).1)>=(x3.2.2.2.length:Int)))=true then (C9 x0 x1 (i64.wrap (x2+1)) x3 x4 x5 x6) else (if 0<=((x0.getD x2.toNat (0,0,0,O,O,0)).1) then (if ((x0.getD x2.toNat (0,0,0,O,O,0)).1)<(x3.2.2.2.length:Int) then (if (decide (((((((x3.2.2.2.getD ((x0.getD x2.toNat (0,0,0,O,O,0)).1).toNat (0,O,O,0,0,0,0,0,O)).2).2).2).2).1)>=0))=true then (C9 x0 x1 (i64.wrap (x2+1)) x3 x4 x5 x6) else (Rw x0 x1 x2 (decide (((((((x3.2.2.2.getD ((x0.getD x2.toNat (0,0,0,O,O,0)).1).toNat (0,O,O,0,0,0,0,0,O)).2).2).2).2).1)>=0)) x3 x4 x5 x6 (x0.getD x2.toNat (0,0,0,O,O,0)))) else none) else none)) else none) else none) else (some x3))
def XH (x1:U) (x2:List AA) (x3:List AK) (x4:Int) (b0:AB):Option AB:=(if ([]:List U).length+b0.2.1.length<=68719476736 then (if 0<=(i64.wrap (x1.1-1)) then (if (i64.wrap (x1.1-1))<((([]:List U)++b0.2.1).length:Int) then (let z1:List U:=(([]:List U)++b0.2.1).set ((i64.wrap (x1.1-1)).toNat) x1; (if ([]:List AA).length+b0.2.2.1.length<=68719476736 then (if (([]:List AA)++b0.2.2.1).length+x2.length<=68719476736 then (C9 x3 x4 0 (b0.1,z1,((([]:List AA)++b0.2.2.1)++x2),b0.2.2.2) x1 z1 ((([]:List AA)++b0.2.2.1)++x2)) else none) else none)) else none) else none) else none)
theorem ff:Le9 Rx Rw:=jS (by kernel_rfl)
theorem Ry:Le7 K4 C9:=lS (by kernel_rfl)
theorem nq:Le5 XH GB:=cT C3 rfl ⟨rfl,rfl⟩ (by kernel_rfl)
def zT (x0:U):Option U:=(some (x0.1,x0.2.1,true,false,false,false,([]:List Int),([]:List Z),0,0,0,0,(O,O,0),([]:List Int)))
theorem zU:Ma zT dF:=cT Ub rfl ⟨rfl,rfl⟩ (by kernel_rfl)
def Vo (x1:Int) (x2:AY) (b0:AB):Option (Int×AB):=(if ((b0.2.2.1.length:Int)==0)=true then (some (1,b0)) else (if (b0.2.2.1.length:Int)=0 then none else (if 0<=(Int.tmod x2.2.2.1 (b0.2.2.1.length:Int)) then (if (Int.tmod x2.2.2.1 (b0.2.2.1.length:Int))<(b0.2.2.1.length:Int) then (if (x2.1==4)=true then (if ([]:List AA).length+b0.2.2.1.length<=68719476736 then (if (([]:List AA)++b0.2.2.1).length+([b0.2.2.1.getD (Int.tmod x2.2.2.1 (b0.2.2.1.length:Int)).toNat (0,0,0,0,0,([]:List Z))]:List AA).length<=68719476736 then (some (0,(b0.1,b0.2.1,((([]:List AA)++b0.2.2.1)++([b0.2.2.1.getD (Int.tmod x2.2.2.1 (b0.2.2.1.length:Int)).toNat (0,0,0,0,0,([]:List Z))]:List AA)),b0.2.2.2))) else none) else none) else (if 0<=(0:Int) then (if 0<=(Int.tmod x2.2.2.1 (b0.2.2.1.length:Int)) then (if (Int.tmod x2.2.2.1 (b0.2.2.1.length:Int))<=(b0.2.2.1.length:Int) then (if 0<=(i64.wrap ((Int.tmod x2.2.2.1 (b0.2.2.1.length:Int))+1)) then (if (i64.wrap ((Int.tmod x2.2.2.1 (b0.2.2.1.length:Int))+1))<=(b0.2.2.1.length:Int) then (if (b0.2.2.1.length:Int)<=(b0.2.2.1.length:Int) then (if ([]:List AA).length+((b0.2.2.1.take (Int.tmod x2.2.2.1 (b0.2.2.1.length:Int)).toNat).drop (0:Int).toNat).length<=68719476736 then (if (([]:List AA)++((b0.2.2.1.take (Int.tmod x2.2.2.1 (b0.2.2.1.length:Int)).toNat).drop (0:Int).toNat)).length+((b0.2.2.1.take (b0.2.2.1.length:Int).toNat).drop (i64.wrap ((Int.tmod x2.2.2.1 (b0.2.2.1.length:Int))+1)).toNat).length<=68719476736 then (if (x2.1==3)=true then (some (0,(b0.1,b0.2.1,((([]:List AA)++((b0.2.2.1.take (Int.tmod x2.2.2.1 (b0.2.2.1.length:Int)).toNat).drop (0:Int).toNat))++((b0.2.2.1.take (b0.2.2.1.length:Int).toNat).drop (i64.wrap ((Int.tmod x2.2.2.1 (b0.2.2.1.length:Int))+1)).toNat)),b0.2.2.2))) else (if 0<=(i64.wrap (((((b0.2.2.1.getD (Int.tmod x2.2.2.1 (b0.2.2.1.length:Int)).toNat (0,0,0,0,0,([]:List Z))).2).2).1)-1)) then (if (i64.wrap (((((b0.2.2.1.getD (Int.tmod x2.2.2.1 (b0.2.2.1.length:Int)).toNat (0,0,0,0,0,([]:List Z))).2).2).1)-1))<(b0.2.1.length:Int) then ((S9 (b0.2.1.getD (i64.wrap (((((b0.2.2.1.getD (Int.tmod x2.2.2.1 (b0.2.2.1.length:Int)).toNat (0,0,0,0,0,([]:List Z))).2).2).1)-1)).toNat (0,0,false,false,false,false,([]:List Int),([]:List Z),0,0,0,0,(O,O,0),([]:List Int))) b0.1 (b0.2.2.1.getD (Int.tmod x2.2.2.1 (b0.2.2.1.length:Int)).toNat (0,0,0,0,0,([]:List Z)))).bind fun y1=>((GB y1.1 y1.2.1 y1.2.2 x1 (b0.1,b0.2.1,((([]:List AA)++((b0.2.2.1.take (Int.tmod x2.2.2.1 (b0.2.2.1.length:Int)).toNat).drop (0:Int).toNat))++((b0.2.2.1.take (b0.2.2.1.length:Int).toNat).drop (i64.wrap ((Int.tmod x2.2.2.1 (b0.2.2.1.length:Int))+1)).toNat)),b0.2.2.2)).bind fun y2=>(some (0,y2)))) else none) else none)) else none) else none) else none) else none) else none) else none) else none) else none)) else none) else none)))
theorem vz:SW Vo Vk:=cT Pe rfl ⟨rfl,rfl⟩ (by kernel_rfl)
def dj:=cG P0 (AI Ct) (AI Ct) kx
def dl:=kE 0 [(3,0)] [3] 1 dj kx
def bd:St->Option (RT (BG.outs Ct)):=lG Pz [(3,0)] [0,3,4] 1 (AI Ct) dl
def EN (x0:List AA) (x1:Int) (x2:List AA):Option (List AA):=bd ⟨[(0,.lst AH x0),(3,.row 0),(4,.int .i64 x1)],[.rows 97 AH x2]⟩
def JB (x0:List AA) (x1:Int) (x2:List AA):Option (List AA):=(if (decide (x1<(x0.length:Int)))=true then (if 0<=x1 then (if x1<(x0.length:Int) then (if ([]:List Z).length+((((((x0.getD x1.toNat (0,0,0,0,0,([]:List Z))).2).2).2).2).2).length<=68719476736 then (if x2.length+([((x0.getD x1.toNat (0,0,0,0,0,([]:List Z))).1,((x0.getD x1.toNat (0,0,0,0,0,([]:List Z))).2).1,(((x0.getD x1.toNat (0,0,0,0,0,([]:List Z))).2).2).1,((((x0.getD x1.toNat (0,0,0,0,0,([]:List Z))).2).2).2).1,(((((x0.getD x1.toNat (0,0,0,0,0,([]:List Z))).2).2).2).2).1,(([]:List Z)++((((((x0.getD x1.toNat (0,0,0,0,0,([]:List Z))).2).2).2).2).2)))]:List AA).length<=68719476736 then (EN x0 (i64.wrap (x1+1)) (x2++([((x0.getD x1.toNat (0,0,0,0,0,([]:List Z))).1,((x0.getD x1.toNat (0,0,0,0,0,([]:List Z))).2).1,(((x0.getD x1.toNat (0,0,0,0,0,([]:List Z))).2).2).1,((((x0.getD x1.toNat (0,0,0,0,0,([]:List Z))).2).2).2).1,(((((x0.getD x1.toNat (0,0,0,0,0,([]:List Z))).2).2).2).2).1,(([]:List Z)++((((((x0.getD x1.toNat (0,0,0,0,0,([]:List Z))).2).2).2).2).2)))]:List AA))) else none) else none) else none) else none) else (some x2))
def Tk (x0:List AA):Option (List AA):=(EN x0 0 ([]:List AA))
theorem OY:SW JB EN:=lS (by kernel_rfl)
theorem im:Ma Tk L8:=cT Ct rfl ⟨rfl,rfl⟩ (by kernel_rfl)
def dp (x0:U):Option U:=(if ([]:List Int).length+x0.2.2.2.2.2.2.1.length<=68719476736 then (if ([]:List Z).length+x0.2.2.2.2.2.2.2.1.length<=68719476736 then (if ([]:List Int).length+x0.2.2.2.2.2.2.2.2.2.2.2.2.2.length<=68719476736 then (some (x0.1,x0.2.1,x0.2.2.1,x0.2.2.2.1,x0.2.2.2.2.1,x0.2.2.2.2.2.1,(([]:List Int)++x0.2.2.2.2.2.2.1),(([]:List Z)++x0.2.2.2.2.2.2.2.1),x0.2.2.2.2.2.2.2.2.1,x0.2.2.2.2.2.2.2.2.2.1,x0.2.2.2.2.2.2.2.2.2.2.1,x0.2.2.2.2.2.2.2.2.2.2.2.1,x0.2.2.2.2.2.2.2.2.2.2.2.2.1,(([]:List Int)++x0.2.2.2.2.2.2.2.2.2.2.2.2.2))) else none) else none) else none)
theorem uM:Ma dp Dv:=cT NG rfl ⟨rfl,rfl⟩ (by kernel_rfl)
def lH (x0:ByteArray):Option Bool:=((Aj (x0.size:Int) 1 12).bind fun y1=>(some y1))
theorem yL:Ma lH SM:=cT SE rfl ⟨rfl,rfl⟩ (by kernel_rfl)
def U9 (x0:List (List Int)) (x1:Bool) (x2:U) (x3:AA) (x4 x5:U):Option (U×List AA×List AK):=cG WX (AI Hf) (AI Hf) kx ⟨[(1,.lst (.slice (.int .i64)) x0),(5,.ptr 1 0),(6,.ptr 2 0),(9,.ptr 3 0),(47,.bool x1)],[.var (X.enc x2),.var (AH.enc x3),.var (X.enc x4),.var (X.enc x5)]⟩
def U_ (x0:List (List Int)) (x1:Bool) (x2:U) (x3:AA) (x4 x5:U):Option (U×List AA×List AK):=((L9 x0 x3 x5).bind fun y5=>((DE y5.2.2).bind fun y6=>(some (y6,y5.1,y5.2.1))))
def dq (x0:U) (x1:List (List Int)) (x2:AA):Option (U×List AA×List AK):=((DE x0).bind fun y1=>(if (x2.2.2.1 != x0.1)=false then (if (decide (x2.2.2.2.1<x0.2.1))=false then (if (decide (x2.2.2.2.1>(x1.length:Int)))=false then ((Gj x0).bind fun y2=>(if (!y2)=false then ((Ew x1).bind fun y3=>(if (!y3)=false then ((YP x2).bind fun y4=>(if (!y4)=true then (some (y1,[],[])) else (U9 x1 (!y4) x0 x2 (0,0,false,false,false,false,([]:List Int),([]:List Z),0,0,0,0,(O,O,0),([]:List Int)) y1))) else (some (y1,[],[])))) else (some (y1,[],[])))) else (some (y1,[],[]))) else (some (y1,[],[]))) else (some (y1,[],[]))))
theorem lI:Le6 U_ U9:=jS (by kernel_rfl)
theorem uN:SW dq Na:=cT Hf rfl ⟨rfl,rfl⟩ (by kernel_rfl)

def K5:=kE 0 [] [] 4 (AI Cl) kx
def P9:St->Option (RT (BG.outs Cl)):=lG RV [] [0,3,20,21,22] 4 (AI Cl) K5
def fg:=kB [] [0,3,20,21,22] 4 P9
def Rz:=cG RU fg (AI Cl) K5
def fh:=kB [] [0,3,20,21,22] 4 Rz
def fi:=kE 1 [] [0,3,20,21,22] 4 Rz K5
def P_ (x0:Int) (x1:List AK) (x2 x3:Int) (x4:Bool) (x5:List (List Int)) (x6:List U) (x7:List AA) (x8:List AC) (x9:AK):Option AB:=cG RS fh (AI Cl) fi ⟨[(0,.ptr 0 0),(3,.int .i64 x0),(9,.ptr 4 0),(20,.lst BE x1),(21,.int .i64 x2),(22,.int .i64 x3),(47,.bool x4)],[.var [.lst (.slice (.int .i64)) x5,.row 1,.row 2,.row 3],.rows 42 X x6,.rows 97 AH x7,.rows 47 AJ x8,.var (BE.enc x9)]⟩
def Cv (x0:Int) (x1:List AK) (x2 x3:Int) (x4:List (List Int)) (x5:List U) (x6:List AA) (x7:List AC):Option AB:=P9 ⟨[(0,.ptr 0 0),(3,.int .i64 x0),(20,.lst BE x1),(21,.int .i64 x2),(22,.int .i64 x3)],[.var [.lst (.slice (.int .i64)) x4,.row 1,.row 2,.row 3],.rows 42 X x5,.rows 97 AH x6,.rows 47 AJ x7]⟩
def QA (x0:Int) (x1:List AK) (x2 x3:Int) (x4:Bool) (x5:List (List Int)) (x6:List U) (x7:List AA) (x8:List AC) (x9:AK):Option AB:=(if 0<=x9.1 then (if x9.1<(x8.length:Int) then (let z2:List AC:=x8.set x9.1.toNat ((x8.getD x9.1.toNat (0,O,O,0,0,0,0,0,O)).1,((x8.getD x9.1.toNat (0,O,O,0,0,0,0,0,O)).2).1,(((x8.getD x9.1.toNat (0,O,O,0,0,0,0,0,O)).2).2).1,((((x8.getD x9.1.toNat (0,O,O,0,0,0,0,0,O)).2).2).2).1,x0,(((((x8.getD x9.1.toNat (0,O,O,0,0,0,0,0,O)).2).2).2).2).2); (let z3:List AC:=z2.set x9.1.toNat ((z2.getD x9.1.toNat (0,O,O,0,0,0,0,0,O)).1,((z2.getD x9.1.toNat (0,O,O,0,0,0,0,0,O)).2).1,(((z2.getD x9.1.toNat (0,O,O,0,0,0,0,0,O)).2).2).1,((((z2.getD x9.1.toNat (0,O,O,0,0,0,0,0,O)).2).2).2).1,(((((z2.getD x9.1.toNat (0,O,O,0,0,0,0,0,O)).2).2).2).2).1,x9.2.2.2.2.2,((((((z2.getD x9.1.toNat (0,O,O,0,0,0,0,0,O)).2).2).2).2).2).2); (let z4:List AC:=z3.set x9.1.toNat ((z3.getD x9.1.toNat (0,O,O,0,0,0,0,0,O)).1,((z3.getD x9.1.toNat (0,O,O,0,0,0,0,0,O)).2).1,(((z3.getD x9.1.toNat (0,O,O,0,0,0,0,0,O)).2).2).1,((((z3.getD x9.1.toNat (0,O,O,0,0,0,0,0,O)).2).2).2).1,(((((z3.getD x9.1.toNat (0,O,O,0,0,0,0,0,O)).2).2).2).2).1,((((((z3.getD x9.1.toNat (0,O,O,0,0,0,0,0,O)).2).2).2).2).2).1,x9.2.1,(((((((z3.getD x9.1.toNat (0,O,O,0,0,0,0,0,O)).2).2).2).2).2).2).2); (let z5:List AC:=z4.set x9.1.toNat ((z4.getD x9.1.toNat (0,O,O,0,0,0,0,0,O)).1,((z4.getD x9.1.toNat (0,O,O,0,0,0,0,0,O)).2).1,(((z4.getD x9.1.toNat (0,O,O,0,0,0,0,0,O)).2).2).1,((((z4.getD x9.1.toNat (0,O,O,0,0,0,0,0,O)).2).2).2).1,(((((z4.getD x9.1.toNat (0,O,O,0,0,0,0,0,O)).2).2).2).2).1,((((((z4.getD x9.1.toNat (0,O,O,0,0,0,0,0,O)).2).2).2).2).2).1,(((((((z4.getD x9.1.toNat (0,O,O,0,0,0,0,0,O)).2).2).2).2).2).2).1,x9.2.2.1,((((((((z4.getD x9.1.toNat (0,O,O,0,0,0,0,0,O)).2).2).2).2).2).2).2).2); (if (((z5.getD x9.1.toNat (0,O,O,0,0,0,0,0,O)).1)==2)=true then (let z6:List AC:=z5.set x9.1.toNat ((z5.getD x9.1.toNat (0,O,O,0,0,0,0,0,O)).1,((z5.getD x9.1.toNat (0,O,O,0,0,0,0,0,O)).2).1,(((z5.getD x9.1.toNat (0,O,O,0,0,0,0,0,O)).2).2).1,((((z5.getD x9.1.toNat (0,O,O,0,0,0,0,0,O)).2).2).2).1,(((((z5.getD x9.1.toNat (0,O,O,0,0,0,0,0,O)).2).2).2).2).1,((((((z5.getD x9.1.toNat (0,O,O,0,0,0,0,0,O)).2).2).2).2).2).1,(((((((z5.getD x9.1.toNat (0,O,O,0,0,0,0,0,O)).2).2).2).2).2).2).1,((((((((z5.getD x9.1.toNat (0,O,O,0,0,0,0,0,O)).2).2).2).2).2).2).2).1,x9.2.2.2.2.1); (Cv x0 x1 x2 (i64.wrap (x3+1)) x5 x6 x7 z6)) else (Cv x0 x1 x2 (i64.wrap (x3+1)) x5 x6 x7 z5)))))) else none) else none)
def Jr (x0:Int) (x1:List AK) (x2 x3:Int) (x4:List (List Int)) (x5:List U) (x6:List AA) (x7:List AC):Option AB:=(if (decide (x3<x2))=true then (if 0<=x3 then (if x3<(x1.length:Int) then ((Aj ((x1.getD x3.toNat (0,0,0,O,O,0)).1) 0 (i64.wrap ((x7.length:Int)-1))).bind fun y1=>(if (!y1)=true then (Cv x0 x1 x2 (i64.wrap (x3+1)) x4 x5 x6 x7) else (if 0<=((x1.getD x3.toNat (0,0,0,O,O,0)).1) then (if ((x1.getD x3.toNat (0,0,0,O,O,0)).1)<(x7.length:Int) then (if (((((((x7.getD (((x1.getD x3.toNat (0,0,0,O,O,0)).1).toNat) (0,O,O,0,0,0,0,0,O)).2).2).2).2).1) != (-1:Int))=true then (Cv x0 x1 x2 (i64.wrap (x3+1)) x4 x5 x6 x7) else (P_ x0 x1 x2 x3 (((((((x7.getD (((x1.getD x3.toNat (0,0,0,O,O,0)).1).toNat) (0,O,O,0,0,0,0,0,O)).2).2).2).2).1) != (-1:Int)) x4 x5 x6 x7 (x1.getD x3.toNat (0,0,0,O,O,0)))) else none) else none))) else none) else none) else (some (x4,x5,x6,x7)))
def VD (x1:List AA) (x2:List AK) (x3:Int) (b0:AB):Option AB:=(if b0.2.2.1.length+x1.length<=68719476736 then (Cv x3 x2 (x2.length:Int) 0 b0.1 b0.2.1 (b0.2.2.1++x1) b0.2.2.2) else none)
theorem dr:vQ QA P_:=jS (by kernel_rfl)
theorem QB:zH Jr Cv:=lS (by kernel_rfl)
theorem lJ:gN VD G1:=cT Cl rfl ⟨rfl,rfl⟩ (by kernel_rfl)
def ED (x0:List AC) (x1:AC):Option Bool:=((Cu x0 x1).bind fun y1=>(some (decide (y1>=0))))
theorem Iu:OJ ED Ca:=cT Bi rfl ⟨rfl,rfl⟩ (by kernel_rfl)
def dt (x0 x1:AC):Option Bool:=(if (x0.1==1)=true then (if (x0.2.1.toList==x1.2.1.toList)=true then (if (x0.2.2.1.toList==x1.2.2.2.2.2.2.2.2.toList)=true then ((Eh x0).bind fun y1=>(if (!y1)=false then (some (x0.2.2.2.2.2.1==x1.2.2.2.2.2.1)) else (some true))) else (some false)) else (some false)) else (some false))
theorem uO:OJ dt S6:=cT NH rfl ⟨rfl,rfl⟩ (by kernel_rfl)
def JU (x0:Int) (x1:AL) (x2:List U) (x3:List AC) (x4:List (List Int)) (x5:List AA) (x6:List U) (x7:List AC) (x8:List (List Int)) (x9:List AA):Option (AB×AL):=cG Uc (AI Hg) (AI Hg) kx ⟨[(0,.ptr 0 0),(3,.ptr 3 0),(4,.ptr 6 0),(5,.int .i64 x0)],[.var (Ad.enc x1),.rows 42 X x2,.rows 47 AJ x3,.var [.lst (.slice (.int .i64)) x4,.row 1,.lst AH x5,.row 2],.rows 42 X x6,.rows 47 AJ x7,.var [.lst (.slice (.int .i64)) x8,.row 4,.lst AH x9,.row 5]]⟩
def N0 (x0:Int) (x1:AL) (x2:List U) (x3:List AC) (x4:List (List Int)) (x5:List AA) (x6:List U) (x7:List AC) (x8:List (List Int)) (x9:List AA):Option (AB×AL):=((BP 20 x1).bind fun y2=>(if (y2.1==0)=true then (if (decide ((x3.length:Int)>0))=true then ((GJ ([(⟨#[]⟩:ByteArray),(⟨#[118]⟩:ByteArray),(⟨#[122,122]⟩:ByteArray)]:List ByteArray) y2.2).bind fun y3=>(if 0<=x0 then (if x0<(x3.length:Int) then (let z4:List AC:=x3.set x0.toNat ((x3.getD x0.toNat (0,O,O,0,0,0,0,0,O)).1,((x3.getD x0.toNat (0,O,O,0,0,0,0,0,O)).2).1,(((x3.getD x0.toNat (0,O,O,0,0,0,0,0,O)).2).2).1,((((x3.getD x0.toNat (0,O,O,0,0,0,0,0,O)).2).2).2).1,(((((x3.getD x0.toNat (0,O,O,0,0,0,0,0,O)).2).2).2).2).1,((((((x3.getD x0.toNat (0,O,O,0,0,0,0,0,O)).2).2).2).2).2).1,(((((((x3.getD x0.toNat (0,O,O,0,0,0,0,0,O)).2).2).2).2).2).2).1,((((((((x3.getD x0.toNat (0,O,O,0,0,0,0,0,O)).2).2).2).2).2).2).2).1,y3.1); (some ((x4,x2,x5,z4),y3.2))) else none) else none)) else (some ((x4,x2,x5,x3),y2.2))) else (if (y2.1==1)=true then (if (decide ((x3.length:Int)>0))=true then ((DF ([0,1001,1002,9999]:List Int) y2.2).bind fun y5=>(if 0<=x0 then (if x0<(x3.length:Int) then (let z6:List AC:=x3.set x0.toNat ((x3.getD x0.toNat (0,O,O,0,0,0,0,0,O)).1,((x3.getD x0.toNat (0,O,O,0,0,0,0,0,O)).2).1,(((x3.getD x0.toNat (0,O,O,0,0,0,0,0,O)).2).2).1,((((x3.getD x0.toNat (0,O,O,0,0,0,0,0,O)).2).2).2).1,(((((x3.getD x0.toNat (0,O,O,0,0,0,0,0,O)).2).2).2).2).1,y5.1,((((((x3.getD x0.toNat (0,O,O,0,0,0,0,0,O)).2).2).2).2).2).2); (some ((x4,x2,x5,z6),y5.2))) else none) else none)) else (some ((x4,x2,x5,x3),y2.2))) else (if (y2.1==2)=true then (if (decide ((x3.length:Int)>0))=true then ((DF ([0,1,2,1000,(-1:Int)]:List Int) y2.2).bind fun y7=>(if 0<=x0 then (if x0<(x3.length:Int) then (let z8:List AC:=x3.set x0.toNat ((x3.getD x0.toNat (0,O,O,0,0,0,0,0,O)).1,((x3.getD x0.toNat (0,O,O,0,0,0,0,0,O)).2).1,(((x3.getD x0.toNat (0,O,O,0,0,0,0,0,O)).2).2).1,((((x3.getD x0.toNat (0,O,O,0,0,0,0,0,O)).2).2).2).1,(((((x3.getD x0.toNat (0,O,O,0,0,0,0,0,O)).2).2).2).2).1,((((((x3.getD x0.toNat (0,O,O,0,0,0,0,0,O)).2).2).2).2).2).1,(((((((x3.getD x0.toNat (0,O,O,0,0,0,0,0,O)).2).2).2).2).2).2).1,y7.1,((((((((x3.getD x0.toNat (0,O,O,0,0,0,0,0,O)).2).2).2).2).2).2).2).2); (some ((x4,x2,x5,z8),y7.2))) else none) else none)) else (some ((x4,x2,x5,x3),y2.2))) else (if (y2.1==3)=true then (if (decide ((x3.length:Int)>0))=true then ((DF ([(-1:Int),0,50]:List Int) y2.2).bind fun y9=>(if 0<=x0 then (if x0<(x3.length:Int) then (let z10:List AC:=x3.set x0.toNat ((x3.getD x0.toNat (0,O,O,0,0,0,0,0,O)).1,((x3.getD x0.toNat (0,O,O,0,0,0,0,0,O)).2).1,(((x3.getD x0.toNat (0,O,O,0,0,0,0,0,O)).2).2).1,((((x3.getD x0.toNat (0,O,O,0,0,0,0,0,O)).2).2).2).1,y9.1,(((((x3.getD x0.toNat (0,O,O,0,0,0,0,0,O)).2).2).2).2).2); (some ((x4,x2,x5,z10),y9.2))) else none) else none)) else (some ((x4,x2,x5,x3),y2.2))) else (if (y2.1==4)=true then ((BP (x2.length:Int) y2.2).bind fun y11=>(if 0<=y11.1 then (if y11.1<(x2.length:Int) then (let z12:List U:=x2.set y11.1.toNat ((x2.getD y11.1.toNat (0,0,false,false,false,false,([]:List Int),([]:List Z),0,0,0,0,(O,O,0),([]:List Int))).1,((x2.getD y11.1.toNat (0,0,false,false,false,false,([]:List Int),([]:List Z),0,0,0,0,(O,O,0),([]:List Int))).2).1,(((x2.getD y11.1.toNat (0,0,false,false,false,false,([]:List Int),([]:List Z),0,0,0,0,(O,O,0),([]:List Int))).2).2).1,((((x2.getD y11.1.toNat (0,0,false,false,false,false,([]:List Int),([]:List Z),0,0,0,0,(O,O,0),([]:List Int))).2).2).2).1,(((((x2.getD y11.1.toNat (0,0,false,false,false,false,([]:List Int),([]:List Z),0,0,0,0,(O,O,0),([]:List Int))).2).2).2).2).1,true,((((((x2.getD y11.1.toNat (0,0,false,false,false,false,([]:List Int),([]:List Z),0,0,0,0,(O,O,0),([]:List Int))).2).2).2).2).2).2); (some ((x4,z12,x5,x3),y11.2))) else none) else none)) else (if (y2.1==5)=true then ((BP 3 y2.2).bind fun y13=>((Qb y13.2).bind fun y14=>(if 0<=y13.1 then (if y13.1<(x2.length:Int) then (let z15:List U:=x2.set y13.1.toNat ((x2.getD y13.1.toNat (0,0,false,false,false,false,([]:List Int),([]:List Z),0,0,0,0,(O,O,0),([]:List Int))).1,((x2.getD y13.1.toNat (0,0,false,false,false,false,([]:List Int),([]:List Z),0,0,0,0,(O,O,0),([]:List Int))).2).1,(((x2.getD y13.1.toNat (0,0,false,false,false,false,([]:List Int),([]:List Z),0,0,0,0,(O,O,0),([]:List Int))).2).2).1,((((x2.getD y13.1.toNat (0,0,false,false,false,false,([]:List Int),([]:List Z),0,0,0,0,(O,O,0),([]:List Int))).2).2).2).1,(((((x2.getD y13.1.toNat (0,0,false,false,false,false,([]:List Int),([]:List Z),0,0,0,0,(O,O,0),([]:List Int))).2).2).2).2).1,((((((x2.getD y13.1.toNat (0,0,false,false,false,false,([]:List Int),([]:List Z),0,0,0,0,(O,O,0),([]:List Int))).2).2).2).2).2).1,(((((((x2.getD y13.1.toNat (0,0,false,false,false,false,([]:List Int),([]:List Z),0,0,0,0,(O,O,0),([]:List Int))).2).2).2).2).2).2).1,y14.1,((((((((x2.getD y13.1.toNat (0,0,false,false,false,false,([]:List Int),([]:List Z),0,0,0,0,(O,O,0),([]:List Int))).2).2).2).2).2).2).2).2); (some ((x4,z15,x5,x3),y14.2))) else none) else none))) else (if (y2.1==6)=true then ((DF ([0,1,2,20]:List Int) y2.2).bind fun y16=>(if 0<=(0:Int) then (if 0<(x2.length:Int) then (let z17:List U:=x2.set ((0:Int).toNat) ((x2.getD ((0:Int).toNat) (0,0,false,false,false,false,([]:List Int),([]:List Z),0,0,0,0,(O,O,0),([]:List Int))).1,y16.1,((x2.getD ((0:Int).toNat) (0,0,false,false,false,false,([]:List Int),([]:List Z),0,0,0,0,(O,O,0),([]:List Int))).2).2); (some ((x4,z17,x5,x3),y16.2))) else none) else none)) else (some ((x4,x2,x5,x3),y2.2))))))))))
def Tl (x1:AB) (b0:AL):Option (AB×AL):=(if (decide ((x1.2.2.2.length:Int)>0))=true then ((BP (x1.2.2.2.length:Int) b0).bind fun y1=>(JU y1.1 y1.2 x1.2.1 x1.2.2.2 x1.1 x1.2.2.1 ([]:List U) ([]:List AC) ([]:List (List Int)) ([]:List AA))) else (JU 0 b0 x1.2.1 x1.2.2.2 x1.1 x1.2.2.1 ([]:List U) ([]:List AC) ([]:List (List Int)) ([]:List AA)))
theorem lK:vQ N0 JU:=jS (by kernel_rfl)
theorem du:OJ Tl S7:=cT Hg rfl ⟨rfl,rfl⟩ (by kernel_rfl)
def ag (x1:List Int) (b0:AL):Option (AB×AL):=((NY x1 b0).bind fun y1=>((QU y1.1.1 y1.1.2).bind fun y2=>(some (y2.1,y1.2))))
theorem qc:OJ ag Qa:=cT LX rfl ⟨rfl,rfl⟩ (by kernel_rfl)
def Vp:=cG LC (AI By) (AI By) kx
def Vq:=kE 0 [] [] 0 Vp kx
def Ty:St->Option (RT (BG.outs By)):=lG LB [] [0,1,7,8] 0 (AI By) Vq
def C7 (x0:List Int) (x1 x2 x3:Int):Option Int:=Ty ⟨[(0,.lst (.int .i64) x0),(1,.int .i64 x1),(7,.int .i64 x2),(8,.int .i64 x3)],[]⟩
def Bs (x0:List Int) (x1 x2 x3:Int):Option Int:=(if (decide (x3<x2))=true then (if 0<=x3 then (if x3<(x0.length:Int) then (if (x1==(x0.getD x3.toNat 0))=true then (some x3) else (C7 x0 x1 x2 (i64.wrap (x3+1)))) else none) else none) else (some (-1:Int)))
def YY (x0:List Int) (x1:Int):Option Int:=(C7 x0 x1 (x0.length:Int) 0)
theorem CR:gN Bs C7:=lS (by kernel_rfl)
theorem N1:OJ YY Dw:=cT By rfl ⟨rfl,rfl⟩ (by kernel_rfl)
def VG (x1:List Int) (b0:AL):Option (Int×AL):=((BP (x1.length:Int) b0).bind fun y1=>(if 0<=y1.1 then (if y1.1<(x1.length:Int) then (some ((x1.getD y1.1.toNat 0),y1.2)) else none) else none))
theorem lL:OJ VG DF:=cT JJ rfl ⟨rfl,rfl⟩ (by kernel_rfl)
def dv (x1:Int) (b0:AL):Option (Bool×AL):=((BP x1 b0).bind fun y1=>(some ((y1.1==0),y1.2)))
theorem uP:OJ dv Dx:=cT NI rfl ⟨rfl,rfl⟩ (by kernel_rfl)
def dw (x1:List ByteArray) (b0:AL):Option (ByteArray×AL):=((BP (x1.length:Int) b0).bind fun y1=>(if 0<=y1.1 then (if y1.1<(x1.length:Int) then (some ((x1.getD y1.1.toNat O),y1.2)) else none) else none))
theorem uQ:OJ dw GJ:=cT NJ rfl ⟨rfl,rfl⟩ (by kernel_rfl)
def Lj (x0:List Int) (x1 x2 x3:U) (x4:Z) (x5:List Int) (x6:AA):Option (U×List AA×List AK×Bool):=cG cq (AI Eg) (AI Eg) kx ⟨[(12,.ptr 1 0),(16,.ptr 2 0),(18,.lst (.int .i64) x0),(20,.ptr 5 0)],[.var (X.enc x1),.var (X.enc x2),.var (X.enc x3),.var (AF.enc x4),.frz (.int .i64) x5,.var (AH.enc x6)]⟩
def Iv (x0:List (List Int)) (x1 x2:Int) (x3:Bool) (x4 x5 x6:U) (x7:Z):Option (U×List AA×List AK×Bool):=cG ZT (AI Eg) (AI Eg) kx ⟨[(1,.lst (.slice (.int .i64)) x0),(2,.int .i64 x1),(3,.int .i64 x2),(6,.ptr 0 0),(12,.ptr 1 0),(16,.ptr 2 0),(17,.ptr 3 0),(69,.bool x3)],[.var (X.enc x4),.var (X.enc x5),.var (X.enc x6),.var (AF.enc x7)]⟩
def ah (x0:List (List Int)) (x1 x2:Int) (x3 x4:ByteArray) (x5:Bool) (x6 x7:U):Option (U×List AA×List AK×Bool):=cG ZU (AI Eg) (AI Eg) kx ⟨[(1,.lst (.slice (.int .i64)) x0),(2,.int .i64 x1),(3,.int .i64 x2),(4,.str x3),(5,.str x4),(6,.ptr 0 0),(12,.ptr 1 0),(37,.bool x5)],[.var (X.enc x6),.var (X.enc x7)]⟩
def ak (x0:List Int) (x1 x2 x3:U) (x4:Z) (x5:List Int) (x6:AA):Option (U×List AA×List AK×Bool):=(if ((x0.length:Int)==0)=true then ((IS x3).bind fun y9=>(some (y9.2,[],y9.1,true))) else (yh ((Ar x0 x6 x3).bind fun y10=>(some (x3,y10.1,[],true))) ((Ar x0 x6 x3).bind fun y11=>(some (y11.2,y11.1,[],true)))))
def am (x0:List (List Int)) (x1 x2:Int) (x3:Bool) (x4 x5 x6:U) (x7:Z):Option (U×List AA×List AK×Bool):=(if 0<=(i64.wrap (x4.2.1-1)) then (if (i64.wrap (x4.2.1-1))<(x0.length:Int) then ((CN (x0.getD (i64.wrap (x4.2.1-1)).toNat ([]:List Int)) x6).bind fun y6=>((B0 y6.1).bind fun y7=>((DI y7).bind fun y8=>(if (x1==1)=true then (Lj y6.1 x4 x5 (y6.2.1,y6.2.2.1,y6.2.2.2.1,y6.2.2.2.2.1,y6.2.2.2.2.2.1,y6.2.2.2.2.2.2.1,y6.2.2.2.2.2.2.2.1,y6.2.2.2.2.2.2.2.2.1,y6.2.2.2.2.2.2.2.2.2.1,x1,x2,y6.2.2.2.2.2.2.2.2.2.1,x7,y8) x7 y8 (5,0,0,0,y6.2.2.2.2.2.2.2.2.2.1,([x7]:List Z))) else (Lj y6.1 x4 x5 (y6.2.1,y6.2.2.1,y6.2.2.2.1,y6.2.2.2.2.1,y6.2.2.2.2.2.1,y6.2.2.2.2.2.2.1,y6.2.2.2.2.2.2.2.1,y6.2.2.2.2.2.2.2.2.1,y6.2.2.2.2.2.2.2.2.2.1,x1,x2,y6.2.2.2.2.2.2.2.2.2.1,x7,y8) x7 y8 (7,0,0,0,y6.2.2.2.2.2.2.2.2.2.1,([]:List Z))))))) else none) else none)
def an (x0:List (List Int)) (x1 x2:Int) (x3 x4:ByteArray) (x5:Bool) (x6 x7:U):Option (U×List AA×List AK×Bool):=((DE x6).bind fun y4=>(if (x1==1)=true then (if ((x6.2.2.2.2.2.2.2.1.length:Int)==12)=true then ((Pk x6.2.2.2.2.2.2.2.1 x3).bind fun y5=>(if (false != OI AF y5 (O,O,0))=true then (some ((0,0,false,false,false,false,([]:List Int),([]:List Z),0,0,0,0,(O,O,0),([]:List Int)),[],[],false)) else (Iv x0 x1 x2 (false != OI AF y5 (O,O,0)) x6 x7 (y4.1,y4.2.1,y4.2.2.1,y4.2.2.2.1,y4.2.2.2.2.1,y4.2.2.2.2.2.1,y4.2.2.2.2.2.2.1,y4.2.2.2.2.2.2.2.1,(i64.wrap (y4.2.2.2.2.2.2.2.2.1+1)),y4.2.2.2.2.2.2.2.2.2) (x3,x4,(i64.wrap ((i64.wrap (1000*x6.2.1))+(i64.wrap (y4.2.2.2.2.2.2.2.2.1+1)))))))) else (Iv x0 x1 x2 false x6 x7 (y4.1,y4.2.1,y4.2.2.1,y4.2.2.2.1,y4.2.2.2.2.1,y4.2.2.2.2.2.1,y4.2.2.2.2.2.2.1,y4.2.2.2.2.2.2.2.1,(i64.wrap (y4.2.2.2.2.2.2.2.2.1+1)),y4.2.2.2.2.2.2.2.2.2) (x3,x4,(i64.wrap ((i64.wrap (1000*x6.2.1))+(i64.wrap (y4.2.2.2.2.2.2.2.2.1+1))))))) else (Iv x0 x1 x2 false x6 x7 (y4.1,y4.2.1,y4.2.2.1,y4.2.2.2.1,y4.2.2.2.2.1,y4.2.2.2.2.2.1,y4.2.2.2.2.2.2.1,y4.2.2.2.2.2.2.2.1,(i64.wrap (y4.2.2.2.2.2.2.2.2.1+1)),y4.2.2.2.2.2.2.2.2.2) (x3,x4,(i64.wrap ((i64.wrap (1000*x6.2.1))+(i64.wrap (y4.2.2.2.2.2.2.2.2.1+1))))))))
def lM (x0:U) (x1:List (List Int)) (x2 x3:Int) (x4 x5:ByteArray):Option (U×List AA×List AK×Bool):=((Gj x0).bind fun y1=>(if (!y1)=false then ((IR x1 x0).bind fun y2=>(if (!y2.1)=false then ((NZ x2 x3 x4 x5).bind fun y3=>(if (!y3)=true then (some ((0,0,false,false,false,false,([]:List Int),([]:List Z),0,0,0,0,(O,O,0),([]:List Int)),[],[],false)) else (ah x1 x2 x3 x4 x5 (!y3) y2.2 (0,0,false,false,false,false,([]:List Int),([]:List Z),0,0,0,0,(O,O,0),([]:List Int))))) else (some ((0,0,false,false,false,false,([]:List Int),([]:List Z),0,0,0,0,(O,O,0),([]:List Int)),[],[],false)))) else (some ((0,0,false,false,false,false,([]:List Int),([]:List Z),0,0,0,0,(O,O,0),([]:List Int)),[],[],false))))
theorem qd:Le7 ak Lj:=jS (by kernel_rfl)
theorem qe:zH am Iv:=jS (by kernel_rfl)
theorem qf:zH an ah:=jS (by kernel_rfl)
theorem yM:Le6 lM SN:=cT Eg rfl ⟨rfl,rfl⟩ (by kernel_rfl)
def Lk (x0:List (List Int)) (x1:Int) (x2:Bool) (x3 x4 x5:U):Option (U×List AA×Bool):=cG ZZ (AI G0) (AI G0) kx ⟨[(1,.lst (.slice (.int .i64)) x0),(2,.int .i64 x1),(6,.ptr 1 0),(9,.ptr 2 0),(10,.bool x2)],[.var (X.enc x3),.var (X.enc x4),.var (X.enc x5)]⟩
def aq (x0:List (List Int)) (x1:Int) (x2:Bool) (x3 x4:U):Option (U×List AA×Bool):=cG Za (AI G0) (AI G0) kx ⟨[(1,.lst (.slice (.int .i64)) x0),(2,.int .i64 x1),(3,.ptr 0 0),(6,.ptr 1 0),(44,.bool x2)],[.var (X.enc x3),.var (X.enc x4)]⟩
def ar (x0:List (List Int)) (x1:Int) (x2:Bool) (x3 x4 x5:U):Option (U×List AA×Bool):=((G2 x5).bind fun y5=>(if x2=true then (if 0<=(i64.wrap (x1-1)) then (if (i64.wrap (x1-1))<(x0.length:Int) then ((Dy (x0.getD (i64.wrap (x1-1)).toNat ([]:List Int)) y5.2.2.2.2.2.2.2.1 (y5.1,x1,false,false,true,y5.2.2.2.2.2)).bind fun y6=>(some (y6.2,y6.1,true))) else none) else none) else (if 0<=(i64.wrap (x1-2)) then (if (i64.wrap (x1-2))<(x0.length:Int) then (yh ((CN (x0.getD (i64.wrap (x1-2)).toNat ([]:List Int)) (y5.1,x1,false,false,true,y5.2.2.2.2.2)).bind fun y7=>((Ar y7.1 (1,0,0,0,0,([]:List Z)) y7.2).bind fun y8=>(some ((y5.1,x1,false,false,true,y5.2.2.2.2.2),y8.1,true)))) ((CN (x0.getD (i64.wrap (x1-2)).toNat ([]:List Int)) (y5.1,x1,false,false,true,y5.2.2.2.2.2)).bind fun y9=>(yh ((Ar y9.1 (1,0,0,0,0,([]:List Z)) y9.2).bind fun y10=>(some (y9.2,y10.1,true))) ((Ar y9.1 (1,0,0,0,0,([]:List Z)) y9.2).bind fun y11=>(some (y11.2,y11.1,true)))))) else none) else none)))
def au (x0:List (List Int)) (x1:Int) (x2:Bool) (x3 x4:U):Option (U×List AA×Bool):=((DE x3).bind fun y4=>(if x3.2.2.2.1=true then (Lk x0 x1 (x3.2.1==(i64.wrap (x1-1))) x3 x4 y4) else (Lk x0 x1 false x3 x4 y4)))
def lN (x0:U) (x1:List (List Int)) (x2:Int):Option (U×List AA×Bool):=((Gj x0).bind fun y1=>(if (!y1)=true then (some ((0,0,false,false,false,false,([]:List Int),([]:List Z),0,0,0,0,(O,O,0),([]:List Int)),[],false)) else ((Ew x1).bind fun y2=>(if (!y2)=true then (some ((0,0,false,false,false,false,([]:List Int),([]:List Z),0,0,0,0,(O,O,0),([]:List Int)),[],false)) else ((Aj x2 2 (x1.length:Int)).bind fun y3=>(if (!y3)=true then (some ((0,0,false,false,false,false,([]:List Int),([]:List Z),0,0,0,0,(O,O,0),([]:List Int)),[],false)) else (if (decide (x2<=x0.2.1))=true then (some ((0,0,false,false,false,false,([]:List Int),([]:List Z),0,0,0,0,(O,O,0),([]:List Int)),[],false)) else (if 0<=(i64.wrap (x2-1)) then (if (i64.wrap (x2-1))<(x1.length:Int) then (if 0<=(0:Int) then (if 0<((x1.getD (i64.wrap (x2-1)).toNat ([]:List Int)).length:Int) then (if (((x1.getD (i64.wrap (x2-1)).toNat ([]:List Int)).getD (0:Int).toNat 0) != x0.1)=true then (some ((0,0,false,false,false,false,([]:List Int),([]:List Z),0,0,0,0,(O,O,0),([]:List Int)),[],false)) else (aq x1 x2 (((x1.getD (i64.wrap (x2-1)).toNat ([]:List Int)).getD (0:Int).toNat 0) != x0.1) x0 (0,0,false,false,false,false,([]:List Int),([]:List Z),0,0,0,0,(O,O,0),([]:List Int)))) else none) else none) else none) else none))))))))
theorem qg:Le6 ar Lk:=jS (by kernel_rfl)
theorem qh:Le5 au aq:=jS (by kernel_rfl)
theorem yN:SW lN SO:=cT G0 rfl ⟨rfl,rfl⟩ (by kernel_rfl)
def Hr:=cG Db (AI Ac) (AI Ac) kx
def Hs:=kE 0 [] [] 0 Hr kx
def HT:St->Option (RT (BG.outs Ac)):=lG Da [] [0,1,7,8] 0 (AI Ac) Hs
def BV (x0:List U) (x1 x2 x3:Int):Option Int:=HT ⟨[(0,.lst X x0),(1,.clo 103 (.int .i64) x1),(7,.int .i64 x2),(8,.int .i64 x3)],[]⟩
def B4 (x0:List U) (x1 x2 x3:Int):Option Int:=(if (decide (x3<x2))=true then (if 0<=x3 then (if x3<(x0.length:Int) then ((I7 (x0.getD x3.toNat (0,0,false,false,false,false,([]:List Int),([]:List Z),0,0,0,0,(O,O,0),([]:List Int))) x1).bind fun y1=>(if y1=true then (some x3) else (BV x0 x1 x2 (i64.wrap (x3+1))))) else none) else none) else (some (-1:Int)))
def D2 (x0:List U) (x1:Int):Option Int:=(BV x0 x1 (x0.length:Int) 0)
theorem DS:gN B4 BV:=lS (by kernel_rfl)
theorem Ic:OJ D2 CV:=cT Ac rfl ⟨rfl,rfl⟩ (by kernel_rfl)
def OZ (x0:U) (x1:Int):Option Bool:=(some (x0.1==x1))
theorem be:OJ OZ I7:=cT GW rfl ⟨rfl,rfl⟩ (by kernel_rfl)
def ns:=cG WZ (AI Es) (AI Es) kx
def nt:=kE 0 [] [] 0 ns kx
def lO:St->Option (RT (BG.outs Es)):=lG WY [] [0,3] 0 (AI Es) nt
def JV (x0:List Int) (x1:Int):Option Bool:=lO ⟨[(0,.lst (.int .i64) x0),(3,.int .i64 x1)],[]⟩
def N2 (x0:List Int) (x1:Int):Option Bool:=(if (decide (x1<(x0.length:Int)))=true then (if 0<=x1 then (if x1<(x0.length:Int) then ((AW (x0.getD x1.toNat 0) 1 6).bind fun y2=>(if (!y2)=true then (some false) else (if 0<=(0:Int) then (if 0<=x1 then (if x1<=(x0.length:Int) then (if 0<=x1 then (if x1<(x0.length:Int) then ((Du ((x0.take x1.toNat).drop (0:Int).toNat) (x0.getD x1.toNat 0)).bind fun y3=>(if y3=true then (some false) else (JV x0 (i64.wrap (x1+1))))) else none) else none) else none) else none) else none))) else none) else none) else (some true))
def dx (x0:List Int):Option Bool:=((AW (x0.length:Int) 1 4).bind fun y1=>(if (!y1)=true then (some false) else (JV x0 0)))
theorem VH:OJ N2 JV:=lS (by kernel_rfl)
theorem uR:Ma dx S8:=cT Es rfl ⟨rfl,rfl⟩ (by kernel_rfl)

def dy:=cG Wb (AI B7) (AI B7) kx
def uS:=kE 0 [(16,2)] [12,16,17,18] 6 dy kx
def qi:St->Option (RT (BG.outs B7)):=lG Ou [(16,2)] [2,6,12,16,17,18,19,20,21] 6 (AI B7) uS
def uT:=kE 0 [(16,2)] [12,16,17,18] 5 dy kx
def qj:St->Option (RT (BG.outs B7)):=lG Ou [(16,2)] [2,6,12,16,17,18,19,20,21] 5 (AI B7) uT
def FI (x0:Int) (x1:List AK) (x2:List Int) (x3:Int) (x4 x5:U) (x6:List AA) (x7:U) (x8:Z) (x9:List Z):Option (U×List AA×List AK×Bool):=qi ⟨[(2,.int .i64 x0),(6,.ptr 0 0),(12,.ptr 1 0),(16,.row 2),(17,.lst BE x1),(18,.ptr 3 0),(19,.ptr 4 0),(20,.lst (.int .i64) x2),(21,.int .i64 x3)],[.var (X.enc x4),.var (X.enc x5),.rows 97 AH x6,.var (X.enc x7),.var (AF.enc x8),.rows 38 AF x9]⟩
def Qy (x0:List (List Int)) (x1 x2:Int) (x3:List AK) (x4:Bool) (x5 x6:U) (x7:List AA) (x8:U) (x9:Z) (x10:List Z):Option (U×List AA×List AK×Bool):=cG Ov (AI B7) (AI B7) kx ⟨[(1,.lst (.slice (.int .i64)) x0),(2,.int .i64 x1),(3,.int .i64 x2),(6,.ptr 0 0),(12,.ptr 1 0),(16,.row 2),(17,.lst BE x3),(18,.ptr 3 0),(19,.ptr 4 0),(130,.bool x4)],[.var (X.enc x5),.var (X.enc x6),.rows 97 AH x7,.var (X.enc x8),.var (AF.enc x9),.rows 38 AF x10]⟩
def FJ (x0:Int) (x1:List AK) (x2:List Int) (x3:Int) (x4 x5:U) (x6:List AA) (x7:U) (x8:Z):Option (U×List AA×List AK×Bool):=qj ⟨[(2,.int .i64 x0),(6,.ptr 0 0),(12,.ptr 1 0),(16,.row 2),(17,.lst BE x1),(18,.ptr 3 0),(19,.ptr 4 0),(20,.lst (.int .i64) x2),(21,.int .i64 x3)],[.var (X.enc x4),.var (X.enc x5),.rows 97 AH x6,.var (X.enc x7),.var (AF.enc x8)]⟩
def Qz (x0:List (List Int)) (x1 x2:Int) (x3:List AK) (x4:Bool) (x5 x6:U) (x7:List AA) (x8:U) (x9:Z):Option (U×List AA×List AK×Bool):=cG Ov (AI B7) (AI B7) kx ⟨[(1,.lst (.slice (.int .i64)) x0),(2,.int .i64 x1),(3,.int .i64 x2),(6,.ptr 0 0),(12,.ptr 1 0),(16,.row 2),(17,.lst BE x3),(18,.ptr 3 0),(19,.ptr 4 0),(130,.bool x4)],[.var (X.enc x5),.var (X.enc x6),.rows 97 AH x7,.var (X.enc x8),.var (AF.enc x9)]⟩
def DQ (x0:List (List Int)) (x1 x2:Int) (x3 x4:ByteArray) (x5:List AK) (x6:Bool) (x7 x8:U) (x9:List AA):Option (U×List AA×List AK×Bool):=cG Wc (AI B7) (AI B7) kx ⟨[(1,.lst (.slice (.int .i64)) x0),(2,.int .i64 x1),(3,.int .i64 x2),(4,.str x3),(5,.str x4),(6,.ptr 0 0),(12,.ptr 1 0),(16,.row 2),(17,.lst BE x5),(100,.bool x6)],[.var (X.enc x7),.var (X.enc x8),.rows 97 AH x9]⟩
def Q0 (x0:Int) (x1:List AK) (x2:List Int) (x3:Int) (x4 x5:U) (x6:List AA) (x7:U) (x8:Z) (x9:List Z):Option (U×List AA×List AK×Bool):=(if (decide (x3<(x2.length:Int)))=true then (if 0<=x3 then (if x3<(x2.length:Int) then (if ((x2.getD x3.toNat 0)==x4.1)=true then (FI x0 x1 x2 (i64.wrap (x3+1)) x4 x5 x6 x7 x8 x9) else (if 0<=x3 then (if x3<(x2.length:Int) then (if (x0==1)=true then (if x6.length+([(5,x4.1,(x2.getD x3.toNat 0),x4.2.1,x7.2.2.2.2.2.2.2.2.1,([x8]:List Z))]:List AA).length<=68719476736 then (FI x0 x1 x2 (i64.wrap (x3+1)) x4 x5 (x6++([(5,x4.1,(x2.getD x3.toNat 0),x4.2.1,x7.2.2.2.2.2.2.2.2.1,([x8]:List Z))]:List AA)) x7 x8 x9) else none) else (if x6.length+([(7,x4.1,(x2.getD x3.toNat 0),x4.2.1,x7.2.2.2.2.2.2.2.2.1,([]:List Z))]:List AA).length<=68719476736 then (FI x0 x1 x2 (i64.wrap (x3+1)) x4 x5 (x6++([(7,x4.1,(x2.getD x3.toNat 0),x4.2.1,x7.2.2.2.2.2.2.2.2.1,([]:List Z))]:List AA)) x7 x8 x9) else none)) else none) else none)) else none) else none) else (some (x7,x6,x1,true)))
def ax (x0:List (List Int)) (x1 x2:Int) (x3:List AK) (x4:Bool) (x5 x6:U) (x7:List AA) (x8:U) (x9:Z) (x10:List Z):Option (U×List AA×List AK×Bool):=(if 0<=(i64.wrap (x5.2.1-1)) then (if (i64.wrap (x5.2.1-1))<(x0.length:Int) then ((Hp (x0.getD (i64.wrap (x5.2.1-1)).toNat ([]:List Int)) x5.1).bind fun y8=>(if ((y8.length:Int)==0)=true then ((Hq (x8.1,x8.2.1,x8.2.2.1,x8.2.2.2.1,x8.2.2.2.2.1,x8.2.2.2.2.2.1,x8.2.2.2.2.2.2.1,x8.2.2.2.2.2.2.2.1,x8.2.2.2.2.2.2.2.2.1,x1,x2,x8.2.2.2.2.2.2.2.2.1,x9,y8)).bind fun y9=>(some (y9.2,x7,y9.1,true))) else (FI x1 x3 (x0.getD (i64.wrap (x5.2.1-1)).toNat ([]:List Int)) 0 x5 x6 x7 (x8.1,x8.2.1,x8.2.2.1,x8.2.2.2.1,x8.2.2.2.2.1,x8.2.2.2.2.2.1,x8.2.2.2.2.2.2.1,x8.2.2.2.2.2.2.2.1,x8.2.2.2.2.2.2.2.2.1,x1,x2,x8.2.2.2.2.2.2.2.2.1,x9,y8) x9 x10))) else none) else none)
def Q1 (x0:Int) (x1:List AK) (x2:List Int) (x3:Int) (x4 x5:U) (x6:List AA) (x7:U) (x8:Z):Option (U×List AA×List AK×Bool):=(if (decide (x3<(x2.length:Int)))=true then (if 0<=x3 then (if x3<(x2.length:Int) then (if ((x2.getD x3.toNat 0)==x4.1)=true then (FJ x0 x1 x2 (i64.wrap (x3+1)) x4 x5 x6 x7 x8) else (if 0<=x3 then (if x3<(x2.length:Int) then (if (x0==1)=true then (if x6.length+([(5,x4.1,(x2.getD x3.toNat 0),x4.2.1,x7.2.2.2.2.2.2.2.2.1,([x8]:List Z))]:List AA).length<=68719476736 then (FJ x0 x1 x2 (i64.wrap (x3+1)) x4 x5 (x6++([(5,x4.1,(x2.getD x3.toNat 0),x4.2.1,x7.2.2.2.2.2.2.2.2.1,([x8]:List Z))]:List AA)) x7 x8) else none) else (if x6.length+([(7,x4.1,(x2.getD x3.toNat 0),x4.2.1,x7.2.2.2.2.2.2.2.2.1,([]:List Z))]:List AA).length<=68719476736 then (FJ x0 x1 x2 (i64.wrap (x3+1)) x4 x5 (x6++([(7,x4.1,(x2.getD x3.toNat 0),x4.2.1,x7.2.2.2.2.2.2.2.2.1,([]:List Z))]:List AA)) x7 x8) else none)) else none) else none)) else none) else none) else (some (x7,x6,x1,true)))
def ay (x0:List (List Int)) (x1 x2:Int) (x3:List AK) (x4:Bool) (x5 x6:U) (x7:List AA) (x8:U) (x9:Z):Option (U×List AA×List AK×Bool):=(if 0<=(i64.wrap (x5.2.1-1)) then (if (i64.wrap (x5.2.1-1))<(x0.length:Int) then ((Hp (x0.getD (i64.wrap (x5.2.1-1)).toNat ([]:List Int)) x5.1).bind fun y10=>(if ((y10.length:Int)==0)=true then ((Hq (x8.1,x8.2.1,x8.2.2.1,x8.2.2.2.1,x8.2.2.2.2.1,x8.2.2.2.2.2.1,x8.2.2.2.2.2.2.1,x8.2.2.2.2.2.2.2.1,x8.2.2.2.2.2.2.2.2.1,x1,x2,x8.2.2.2.2.2.2.2.2.1,x9,y10)).bind fun y11=>(some (y11.2,x7,y11.1,true))) else (FJ x1 x3 (x0.getD (i64.wrap (x5.2.1-1)).toNat ([]:List Int)) 0 x5 x6 x7 (x8.1,x8.2.1,x8.2.2.1,x8.2.2.2.1,x8.2.2.2.2.1,x8.2.2.2.2.2.1,x8.2.2.2.2.2.2.1,x8.2.2.2.2.2.2.2.1,x8.2.2.2.2.2.2.2.2.1,x1,x2,x8.2.2.2.2.2.2.2.2.1,x9,y10) x9))) else none) else none)
def az (x0:List (List Int)) (x1 x2:Int) (x3 x4:ByteArray) (x5:List AK) (x6:Bool) (x7 x8:U) (x9:List AA):Option (U×List AA×List AK×Bool):=((Dv x7).bind fun y5=>(if (x1==1)=true then ((Ho x7.2.2.2.2.2.2.2.1 (x3,x4,(i64.wrap ((i64.wrap (1000*x7.2.1))+(i64.wrap (x7.2.2.2.2.2.2.2.2.1+1)))))).bind fun y6=>((Pl y6 x3).bind fun y7=>(if (true != OI AF y7 (x3,x4,(i64.wrap ((i64.wrap (1000*x7.2.1))+(i64.wrap (x7.2.2.2.2.2.2.2.2.1+1))))))=true then (some ((0,0,false,false,false,false,([]:List Int),([]:List Z),0,0,0,0,(O,O,0),([]:List Int)),x9,x5,false)) else (Qy x0 x1 x2 x5 (true != OI AF y7 (x3,x4,(i64.wrap ((i64.wrap (1000*x7.2.1))+(i64.wrap (x7.2.2.2.2.2.2.2.2.1+1)))))) x7 x8 x9 (y5.1,y5.2.1,y5.2.2.1,y5.2.2.2.1,y5.2.2.2.2.1,y5.2.2.2.2.2.1,y5.2.2.2.2.2.2.1,y5.2.2.2.2.2.2.2.1,(i64.wrap (x7.2.2.2.2.2.2.2.2.1+1)),y5.2.2.2.2.2.2.2.2.2) (x3,x4,(i64.wrap ((i64.wrap (1000*x7.2.1))+(i64.wrap (x7.2.2.2.2.2.2.2.2.1+1))))) y6)))) else (Qz x0 x1 x2 x5 false x7 x8 x9 (y5.1,y5.2.1,y5.2.2.1,y5.2.2.2.1,y5.2.2.2.2.1,y5.2.2.2.2.2.1,y5.2.2.2.2.2.2.1,y5.2.2.2.2.2.2.2.1,(i64.wrap (x7.2.2.2.2.2.2.2.2.1+1)),y5.2.2.2.2.2.2.2.2.2) (x3,x4,(i64.wrap ((i64.wrap (1000*x7.2.1))+(i64.wrap (x7.2.2.2.2.2.2.2.2.1+1))))))))
def lP (x0:U) (x1:List (List Int)) (x2 x3:Int) (x4 x5:ByteArray):Option (U×List AA×List AK×Bool):=((Gk x0).bind fun y1=>(if (!y1)=true then (some ((0,0,false,false,false,false,([]:List Int),([]:List Z),0,0,0,0,(O,O,0),([]:List Int)),([]:List AA),([]:List AK),false)) else ((Ex x1).bind fun y2=>(if (!y2)=true then (some ((0,0,false,false,false,false,([]:List Int),([]:List Z),0,0,0,0,(O,O,0),([]:List Int)),([]:List AA),([]:List AK),false)) else (if (!x0.2.2.2.2.2.1)=true then (some ((0,0,false,false,false,false,([]:List Int),([]:List Z),0,0,0,0,(O,O,0),([]:List Int)),([]:List AA),([]:List AK),false)) else (if (x0.2.2.2.2.2.2.2.2.2.1 != 0)=true then (some ((0,0,false,false,false,false,([]:List Int),([]:List Z),0,0,0,0,(O,O,0),([]:List Int)),([]:List AA),([]:List AK),false)) else (if (decide (x0.2.2.2.2.2.2.2.2.1>=900))=true then (some ((0,0,false,false,false,false,([]:List Int),([]:List Z),0,0,0,0,(O,O,0),([]:List Int)),([]:List AA),([]:List AK),false)) else (if (x2 != 1)=true then (if (x2 != 2)=true then (some ((0,0,false,false,false,false,([]:List Int),([]:List Z),0,0,0,0,(O,O,0),([]:List Int)),([]:List AA),([]:List AK),false)) else ((AW x3 0 1000).bind fun y3=>(if (!y3)=true then (some ((0,0,false,false,false,false,([]:List Int),([]:List Z),0,0,0,0,(O,O,0),([]:List Int)),([]:List AA),([]:List AK),false)) else ((AW (x4.size:Int) 1 12).bind fun y4=>(if (!y4)=true then (some ((0,0,false,false,false,false,([]:List Int),([]:List Z),0,0,0,0,(O,O,0),([]:List Int)),([]:List AA),([]:List AK),false)) else (if (decide ((x5.size:Int)>20))=true then (some ((0,0,false,false,false,false,([]:List Int),([]:List Z),0,0,0,0,(O,O,0),([]:List Int)),([]:List AA),([]:List AK),false)) else (if (x2==2)=true then (if (!(x5.toList==(⟨#[]⟩:ByteArray).toList))=true then (some ((0,0,false,false,false,false,([]:List Int),([]:List Z),0,0,0,0,(O,O,0),([]:List Int)),([]:List AA),([]:List AK),false)) else (if (decide (x0.2.1>(x1.length:Int)))=true then (some ((0,0,false,false,false,false,([]:List Int),([]:List Z),0,0,0,0,(O,O,0),([]:List Int)),([]:List AA),([]:List AK),false)) else (if 0<=(i64.wrap (x0.2.1-1)) then (if (i64.wrap (x0.2.1-1))<(x1.length:Int) then (if 0<=(0:Int) then (if 0<((x1.getD (i64.wrap (x0.2.1-1)).toNat ([]:List Int)).length:Int) then (if (((x1.getD (i64.wrap (x0.2.1-1)).toNat ([]:List Int)).getD (0:Int).toNat 0) != x0.1)=true then (some ((0,0,false,false,false,false,([]:List Int),([]:List Z),0,0,0,0,(O,O,0),([]:List Int)),([]:List AA),([]:List AK),false)) else (DQ x1 x2 x3 x4 x5 ([]:List AK) (((x1.getD (i64.wrap (x0.2.1-1)).toNat ([]:List Int)).getD (0:Int).toNat 0) != x0.1) x0 (0,0,false,false,false,false,([]:List Int),([]:List Z),0,0,0,0,(O,O,0),([]:List Int)) ([]:List AA))) else none) else none) else none) else none))) else (if (decide (x0.2.1>(x1.length:Int)))=true then (some ((0,0,false,false,false,false,([]:List Int),([]:List Z),0,0,0,0,(O,O,0),([]:List Int)),([]:List AA),([]:List AK),false)) else (if 0<=(i64.wrap (x0.2.1-1)) then (if (i64.wrap (x0.2.1-1))<(x1.length:Int) then (if 0<=(0:Int) then (if 0<((x1.getD (i64.wrap (x0.2.1-1)).toNat ([]:List Int)).length:Int) then (if (((x1.getD (i64.wrap (x0.2.1-1)).toNat ([]:List Int)).getD (0:Int).toNat 0) != x0.1)=true then (some ((0,0,false,false,false,false,([]:List Int),([]:List Z),0,0,0,0,(O,O,0),([]:List Int)),([]:List AA),([]:List AK),false)) else (DQ x1 x2 x3 x4 x5 ([]:List AK) (((x1.getD (i64.wrap (x0.2.1-1)).toNat ([]:List Int)).getD (0:Int).toNat 0) != x0.1) x0 (0,0,false,false,false,false,([]:List Int),([]:List Z),0,0,0,0,(O,O,0),([]:List Int)) ([]:List AA))) else none) else none) else none) else none))))))))) else ((AW x3 0 1000).bind fun y12=>(if (!y12)=true then (some ((0,0,false,false,false,false,([]:List Int),([]:List Z),0,0,0,0,(O,O,0),([]:List Int)),([]:List AA),([]:List AK),false)) else ((AW (x4.size:Int) 1 12).bind fun y13=>(if (!y13)=true then (some ((0,0,false,false,false,false,([]:List Int),([]:List Z),0,0,0,0,(O,O,0),([]:List Int)),([]:List AA),([]:List AK),false)) else (if (decide ((x5.size:Int)>20))=true then (some ((0,0,false,false,false,false,([]:List Int),([]:List Z),0,0,0,0,(O,O,0),([]:List Int)),([]:List AA),([]:List AK),false)) else (if (x2==2)=true then (if (!(x5.toList==(⟨#[]⟩:ByteArray).toList))=true then (some ((0,0,false,false,false,false,([]:List Int),([]:List Z),0,0,0,0,(O,O,0),([]:List Int)),([]:List AA),([]:List AK),false)) else (if (decide (x0.2.1>(x1.length:Int)))=true then (some ((0,0,false,false,false,false,([]:List Int),([]:List Z),0,0,0,0,(O,O,0),([]:List Int)),([]:List AA),([]:List AK),false)) else (if 0<=(i64.wrap (x0.2.1-1)) then (if (i64.wrap (x0.2.1-1))<(x1.length:Int) then (if 0<=(0:Int) then (if 0<((x1.getD (i64.wrap (x0.2.1-1)).toNat ([]:List Int)).length:Int) then (if (((x1.getD (i64.wrap (x0.2.1-1)).toNat ([]:List Int)).getD (0:Int).toNat 0) != x0.1)=true then (some ((0,0,false,false,false,false,([]:List Int),([]:List Z),0,0,0,0,(O,O,0),([]:List Int)),([]:List AA),([]:List AK),false)) else (DQ x1 x2 x3 x4 x5 ([]:List AK) (((x1.getD (i64.wrap (x0.2.1-1)).toNat ([]:List Int)).getD (0:Int).toNat 0) != x0.1) x0 (0,0,false,false,false,false,([]:List Int),([]:List Z),0,0,0,0,(O,O,0),([]:List Int)) ([]:List AA))) else none) else none) else none) else none))) else (if (decide (x0.2.1>(x1.length:Int)))=true then (some ((0,0,false,false,false,false,([]:List Int),([]:List Z),0,0,0,0,(O,O,0),([]:List Int)),([]:List AA),([]:List AK),false)) else (if 0<=(i64.wrap (x0.2.1-1)) then (if (i64.wrap (x0.2.1-1))<(x1.length:Int) then (if 0<=(0:Int) then (if 0<((x1.getD (i64.wrap (x0.2.1-1)).toNat ([]:List Int)).length:Int) then (if (((x1.getD (i64.wrap (x0.2.1-1)).toNat ([]:List Int)).getD (0:Int).toNat 0) != x0.1)=true then (some ((0,0,false,false,false,false,([]:List Int),([]:List Z),0,0,0,0,(O,O,0),([]:List Int)),([]:List AA),([]:List AK),false)) else (DQ x1 x2 x3 x4 x5 ([]:List AK) (((x1.getD (i64.wrap (x0.2.1-1)).toNat ([]:List Int)).getD (0:Int).toNat 0) != x0.1) x0 (0,0,false,false,false,false,([]:List Int),([]:List Z),0,0,0,0,(O,O,0),([]:List Int)) ([]:List AA))) else none) else none) else none) else none))))))))))))))))
theorem a_:vQ Q0 FI:=lS (by kernel_rfl)
theorem qk:AEg ax Qy:=jS (by kernel_rfl)
theorem bA:Le9 Q1 FJ:=lS (by kernel_rfl)
theorem ql:vQ ay Qz:=jS (by kernel_rfl)
theorem qm:vQ az DQ:=jS (by kernel_rfl)
theorem yO:Le6 lP YN:=cT B7 rfl ⟨rfl,rfl⟩ (by kernel_rfl)
def uU:=cG Zp (AI DO) (AI DO) kx
def uV:=kE 0 [(9,2)] [6,9,11] 5 uU kx
def qn:St->Option (RT (BG.outs DO)):=lG Zo [(9,2)] [1,2,3,6,9,11,13] 5 (AI DO) uV
def Gp (x0:List (List Int)) (x1 x2:Int) (x3 x4:U) (x5:List AA) (x6:List Z) (x7:U):Option (U×List AA×Bool):=qn ⟨[(1,.lst (.slice (.int .i64)) x0),(2,.int .i64 x1),(3,.ptr 0 0),(6,.ptr 1 0),(9,.row 2),(11,.ptr 4 0),(13,.int .i64 x2)],[.var (X.enc x3),.var (X.enc x4),.rows 97 AH x5,.frz AF x6,.var (X.enc x7)]⟩
def Iw (x0:List (List Int)) (x1:Int) (x2:Bool) (x3 x4:U) (x5:List AA):Option (U×List AA×Bool):=cG Zq (AI DO) (AI DO) kx ⟨[(1,.lst (.slice (.int .i64)) x0),(2,.int .i64 x1),(3,.ptr 0 0),(6,.ptr 1 0),(9,.row 2),(10,.bool x2)],[.var (X.enc x3),.var (X.enc x4),.rows 97 AH x5]⟩
def bB (x0:List (List Int)) (x1:Int) (x2:Bool) (x3 x4:U) (x5:List AA):Option (U×List AA×Bool):=cG Zr (AI DO) (AI DO) kx ⟨[(1,.lst (.slice (.int .i64)) x0),(2,.int .i64 x1),(3,.ptr 0 0),(6,.ptr 1 0),(9,.row 2),(48,.bool x2)],[.var (X.enc x3),.var (X.enc x4),.rows 97 AH x5]⟩
def Q2 (x0:List (List Int)) (x1 x2:Int) (x3 x4:U) (x5:List AA) (x6:List Z) (x7:U):Option (U×List AA×Bool):=(if 0<=(i64.wrap (x1-2)) then (if (i64.wrap (x1-2))<(x0.length:Int) then (if (decide (x2<((x0.getD (i64.wrap (x1-2)).toNat ([]:List Int)).length:Int)))=true then (if 0<=(i64.wrap (x1-2)) then (if (i64.wrap (x1-2))<(x0.length:Int) then (if 0<=x2 then (if x2<((x0.getD (i64.wrap (x1-2)).toNat ([]:List Int)).length:Int) then (if (((x0.getD (i64.wrap (x1-2)).toNat ([]:List Int)).getD x2.toNat 0) != x3.1)=true then (if x5.length+([(1,x3.1,((x0.getD (i64.wrap (x1-2)).toNat ([]:List Int)).getD x2.toNat 0),x1,0,([]:List Z))]:List AA).length<=68719476736 then (Gp x0 x1 (i64.wrap (x2+1)) x3 x4 (x5++([(1,x3.1,((x0.getD (i64.wrap (x1-2)).toNat ([]:List Int)).getD x2.toNat 0),x1,0,([]:List Z))]:List AA)) x6 x7) else none) else (Gp x0 x1 (i64.wrap (x2+1)) x3 x4 x5 x6 x7)) else none) else none) else none) else none) else ((Dv x7).bind fun y7=>(some (y7,x5,true)))) else none) else none)
def bC (x0:List (List Int)) (x1:Int) (x2:Bool) (x3 x4:U) (x5:List AA):Option (U×List AA×Bool):=(if ([]:List Z).length+x3.2.2.2.2.2.2.2.1.length<=68719476736 then (if x2=true then (if 0<=(i64.wrap (x1-1)) then (if (i64.wrap (x1-1))<(x0.length:Int) then ((Pm (x0.getD (i64.wrap (x1-1)).toNat ([]:List Int)) x3.2.2.2.2.2.2.2.1 (x3.1,x1,false,false,true,false,([]:List Int),(([]:List Z)++x3.2.2.2.2.2.2.2.1),0,0,0,0,(O,O,0),([]:List Int))).bind fun y5=>((Dv y5.2).bind fun y6=>(some (y6,y5.1,true)))) else none) else none) else (Gp x0 x1 0 x3 x4 x5 (([]:List Z)++x3.2.2.2.2.2.2.2.1) (x3.1,x1,false,false,true,false,([]:List Int),(([]:List Z)++x3.2.2.2.2.2.2.2.1),0,0,0,0,(O,O,0),([]:List Int)))) else none)
def bD (x0:List (List Int)) (x1:Int) (x2:Bool) (x3 x4:U) (x5:List AA):Option (U×List AA×Bool):=(if x3.2.2.2.1=true then (if (x3.2.1==(i64.wrap (x1-1)))=true then (if 0<=(i64.wrap (x1-2)) then (if (i64.wrap (x1-2))<(x0.length:Int) then ((Du (x0.getD (i64.wrap (x1-2)).toNat ([]:List Int)) x3.1).bind fun y4=>(Iw x0 x1 y4 x3 x4 x5)) else none) else none) else (Iw x0 x1 false x3 x4 x5)) else (Iw x0 x1 false x3 x4 x5))
def lQ (x0:U) (x1:List (List Int)) (x2:Int):Option (U×List AA×Bool):=((Gk x0).bind fun y1=>(if (!y1)=true then (some ((0,0,false,false,false,false,([]:List Int),([]:List Z),0,0,0,0,(O,O,0),([]:List Int)),([]:List AA),false)) else ((Ex x1).bind fun y2=>(if (!y2)=true then (some ((0,0,false,false,false,false,([]:List Int),([]:List Z),0,0,0,0,(O,O,0),([]:List Int)),([]:List AA),false)) else ((AW x2 2 (x1.length:Int)).bind fun y3=>(if (!y3)=true then (some ((0,0,false,false,false,false,([]:List Int),([]:List Z),0,0,0,0,(O,O,0),([]:List Int)),([]:List AA),false)) else (if (decide (x2<=x0.2.1))=true then (some ((0,0,false,false,false,false,([]:List Int),([]:List Z),0,0,0,0,(O,O,0),([]:List Int)),([]:List AA),false)) else (if 0<=(i64.wrap (x2-1)) then (if (i64.wrap (x2-1))<(x1.length:Int) then (if 0<=(0:Int) then (if 0<((x1.getD (i64.wrap (x2-1)).toNat ([]:List Int)).length:Int) then (if (((x1.getD (i64.wrap (x2-1)).toNat ([]:List Int)).getD (0:Int).toNat 0) != x0.1)=true then (some ((0,0,false,false,false,false,([]:List Int),([]:List Z),0,0,0,0,(O,O,0),([]:List Int)),([]:List AA),false)) else (bB x1 x2 (((x1.getD (i64.wrap (x2-1)).toNat ([]:List Int)).getD (0:Int).toNat 0) != x0.1) x0 (0,0,false,false,false,false,([]:List Int),([]:List Z),0,0,0,0,(O,O,0),([]:List Int)) ([]:List AA))) else none) else none) else none) else none))))))))
theorem bE:zH Q2 Gp:=lS (by kernel_rfl)
theorem qo:Le6 bC Iw:=jS (by kernel_rfl)
theorem qp:Le6 bD bB:=jS (by kernel_rfl)
theorem yP:SW lQ YO:=cT DO rfl ⟨rfl,rfl⟩ (by kernel_rfl)
def nu:=cG Uh (AI Bz) (AI Bz) kx
def nw:=cG NK (AI Bz) (AI Bz) kx
def G_ (x0:List AA) (x1:List AK) (x2:Bool) (x3:U) (x4:AA) (x5 x6:U):Option (U×List AA×List AK):=cG Ug nu (AI Bz) kx ⟨[(3,.ptr 0 0),(5,.ptr 1 0),(6,.ptr 2 0),(9,.ptr 3 0),(10,.lst AH x0),(11,.lst BE x1),(146,.bool x2)],[.var (X.enc x3),.var (AH.enc x4),.var (X.enc x5),.var (X.enc x6)]⟩
def N3 (x0:List (List Int)) (x1:List AA) (x2:List AK) (x3:Bool) (x4:U) (x5:AA) (x6 x7:U):Option (U×List AA×List AK):=cG NK (AI Bz) (AI Bz) kx ⟨[(1,.lst (.slice (.int .i64)) x0),(3,.ptr 0 0),(5,.ptr 1 0),(6,.ptr 2 0),(9,.ptr 3 0),(10,.lst AH x1),(11,.lst BE x2),(105,.bool x3)],[.var (X.enc x4),.var (AH.enc x5),.var (X.enc x6),.var (X.enc x7)]⟩
def E_ (x0:List (List Int)) (x1:List AA) (x2:List AK) (x3:Bool) (x4:U) (x5:AA) (x6 x7:U):Option (U×List AA×List AK):=cG Ue nw (AI Bz) kx ⟨[(1,.lst (.slice (.int .i64)) x0),(3,.ptr 0 0),(5,.ptr 1 0),(6,.ptr 2 0),(9,.ptr 3 0),(10,.lst AH x1),(11,.lst BE x2),(105,.bool x3)],[.var (X.enc x4),.var (AH.enc x5),.var (X.enc x6),.var (X.enc x7)]⟩
def VI (x0:List (List Int)) (x1:List AA) (x2:List AK) (x3:Bool) (x4:U) (x5:AA) (x6 x7:U):Option (U×List AA×List AK):=cG Ui (AI Bz) (AI Bz) kx ⟨[(1,.lst (.slice (.int .i64)) x0),(3,.ptr 0 0),(5,.ptr 1 0),(6,.ptr 2 0),(9,.ptr 3 0),(10,.lst AH x1),(11,.lst BE x2),(59,.bool x3)],[.var (X.enc x4),.var (AH.enc x5),.var (X.enc x6),.var (X.enc x7)]⟩
def VJ (x0:List AA) (x1:List AK) (x2:Bool) (x3:U) (x4:AA) (x5 x6:U):Option (U×List AA×List AK):=(if x2=true then (if ([]:List Z).length+x4.2.2.2.2.2.length<=68719476736 then ((FC x3 x4 4).bind fun y9=>(some ((x3.1,x4.2.2.2.1,false,true,false,false,([]:List Int),(([]:List Z)++x4.2.2.2.2.2),0,0,0,0,(O,O,0),([]:List Int)),y9,x1))) else none) else (some (x6,x0,x1)))
def VK (x0:List (List Int)) (x1:List AA) (x2:List AK) (x3:Bool) (x4:U) (x5:AA) (x6 x7:U):Option (U×List AA×List AK):=(if 0<=(i64.wrap (x5.2.2.2.1-1)) then (if (i64.wrap (x5.2.2.2.1-1))<(x0.length:Int) then (if (x5.1==3)=true then ((Du (x0.getD (i64.wrap (x5.2.2.2.1-1)).toNat ([]:List Int)) x4.1).bind fun y8=>(if y8=true then (if 0<=(0:Int) then (if 0<((x0.getD (i64.wrap (x5.2.2.2.1-1)).toNat ([]:List Int)).length:Int) then (G_ x1 x2 (((x0.getD (i64.wrap (x5.2.2.2.1-1)).toNat ([]:List Int)).getD (0:Int).toNat 0) != x4.1) x4 x5 x6 x7) else none) else none) else (G_ x1 x2 false x4 x5 x6 x7))) else (G_ x1 x2 false x4 x5 x6 x7)) else none) else none)
def VL (x0:List (List Int)) (x1:List AA) (x2:List AK) (x3:Bool) (x4:U) (x5:AA) (x6 x7:U):Option (U×List AA×List AK):=(if x3=true then ((Nb x4 x5.2.2.2.1).bind fun y7=>(if ([]:List Z).length+x4.2.2.2.2.2.2.2.1.length<=68719476736 then (some (y7,([(2,x4.1,x5.2.1,x5.2.2.2.1,0,(([]:List Z)++x4.2.2.2.2.2.2.2.1))]:List AA),x2)) else none)) else (N3 x0 x1 x2 x3 x4 x5 x6 x7))
def VM (x0:List (List Int)) (x1:List AA) (x2:List AK) (x3:Bool) (x4:U) (x5:AA) (x6 x7:U):Option (U×List AA×List AK):=(if (x5.2.2.2.1==x4.2.1)=true then (if 0<=(i64.wrap (x4.2.1-1)) then (if (i64.wrap (x4.2.1-1))<(x0.length:Int) then ((Vl x4 (x0.getD (i64.wrap (x4.2.1-1)).toNat ([]:List Int)) x5).bind fun y5=>(some (y5.1,y5.2.1,y5.2.2))) else none) else none) else (if (x5.1==1)=true then (if (x5.2.2.2.1==(i64.wrap (x4.2.1+1)))=true then (if x4.2.2.2.1=true then (if 0<=(i64.wrap (x4.2.1-1)) then (if (i64.wrap (x4.2.1-1))<(x0.length:Int) then ((Du (x0.getD (i64.wrap (x4.2.1-1)).toNat ([]:List Int)) x4.1).bind fun y6=>(E_ x0 x1 x2 y6 x4 x5 x6 x7)) else none) else none) else (E_ x0 x1 x2 false x4 x5 x6 x7)) else (E_ x0 x1 x2 false x4 x5 x6 x7)) else (E_ x0 x1 x2 false x4 x5 x6 x7)))
def dz (x0:U) (x1:List (List Int)) (x2:AA):Option (U×List AA×List AK):=((Dv x0).bind fun y1=>((Gk x0).bind fun y2=>(if (!y2)=false then ((Ex x1).bind fun y3=>(if (!y3)=false then ((YQ x2).bind fun y4=>(if (!y4)=false then (if (x2.2.2.1 != x0.1)=false then (if (decide (x2.2.2.2.1<x0.2.1))=false then (if (decide (x2.2.2.2.1>(x1.length:Int)))=false then (if (decide (x0.2.1>(x1.length:Int)))=true then (some (y1,([]:List AA),([]:List AK))) else (VI x1 ([]:List AA) ([]:List AK) (decide (x0.2.1>(x1.length:Int))) x0 x2 (0,0,false,false,false,false,([]:List Int),([]:List Z),0,0,0,0,(O,O,0),([]:List Int)) y1)) else (some (y1,([]:List AA),([]:List AK)))) else (some (y1,([]:List AA),([]:List AK)))) else (some (y1,([]:List AA),([]:List AK)))) else (some (y1,([]:List AA),([]:List AK))))) else (some (y1,([]:List AA),([]:List AK))))) else (some (y1,([]:List AA),([]:List AK))))))
theorem lR:Le7 VJ G_:=jS (by kernel_rfl)
theorem lT:zH VK N3:=jS (by kernel_rfl)
theorem lU:zH VL E_:=jS (by kernel_rfl)
theorem lV:zH VM VI:=jS (by kernel_rfl)
theorem uW:SW dz S9:=cT Bz rfl ⟨rfl,rfl⟩ (by kernel_rfl)
def d8:=cG cz (AI Fh) (AI Fh) kx
def uX:=kB [] [1] 1 d8
def uY:=kE 0 [] [1] 1 d8 kx
def Ll (x0:Int) (x1:Bool) (x2:AA):Option Bool:=cG cw uX (AI Fh) uY ⟨[(1,.ptr 0 0),(38,.int .i64 x0),(39,.bool x1)],[.var (AH.enc x2)]⟩
def Q3 (x0:Bool) (x1:AA):Option Bool:=cG c_ (AI Fh) (AI Fh) kx ⟨[(1,.ptr 0 0),(36,.bool x0)],[.var (AH.enc x1)]⟩
def bF (x0:Int) (x1:Bool) (x2:AA):Option Bool:=(if x1=true then (some true) else (if (x0==5)=true then (some ((x2.2.2.2.2.2.length:Int)==1)) else (some ((x2.2.2.2.2.2.length:Int)==0))))
def bG (x0:Bool) (x1:AA):Option Bool:=(if (x1.1==2)=true then (Ll x1.1 (x1.1==2) x1) else (Ll x1.1 (x1.1==3) x1))
def lW (x0:AA):Option Bool:=((Aj x0.1 1 8).bind fun y1=>(if (!y1)=false then ((F3 x0.2.1).bind fun y2=>(if (!y2)=false then ((F3 x0.2.2.1).bind fun y3=>(if (!y3)=false then ((Aj x0.2.2.2.1 1 9).bind fun y4=>(if (!y4)=false then ((Aj x0.2.2.2.2.1 0 1000000000).bind fun y5=>(if (!y5)=false then ((GH x0.2.2.2.2.2).bind fun y6=>(if (!y6)=true then (some false) else (Q3 (!y6) x0))) else (some false))) else (some false))) else (some false))) else (some false))) else (some false)))
theorem qq:SW bF Ll:=jS (by kernel_rfl)
theorem qr:OJ bG Q3:=jS (by kernel_rfl)
theorem yQ:Ma lW YP:=cT Fh rfl ⟨rfl,rfl⟩ (by kernel_rfl)
def QC:=cG OT (AI CU) (AI CU) kx
def Js:=kB [] [] 2 QC
def Jt:=kE 0 [] [] 2 QC kx
def EO (x0:List (List Int)) (x1:Bool) (x2:U) (x3:AA):Option (List AA×List AK×U):=cG P2 Js (AI CU) Jt ⟨[(0,.ptr 0 0),(1,.lst (.slice (.int .i64)) x0),(5,.ptr 1 0),(37,.bool x1)],[.var (X.enc x2),.var (AH.enc x3)]⟩
def GZ (x0:Bool) (x1:U) (x2:AA):Option (List AA×List AK×U):=cG P3 Js (AI CU) Jt ⟨[(0,.ptr 0 0),(5,.ptr 1 0),(75,.bool x0)],[.var (X.enc x1),.var (AH.enc x2)]⟩
def Ga (x0:Int) (x1:Bool) (x2:U) (x3:AA):Option (List AA×List AK×U):=cG OS Js (AI CU) Jt ⟨[(0,.ptr 0 0),(5,.ptr 1 0),(9,.int .i64 x0),(107,.bool x1)],[.var (X.enc x2),.var (AH.enc x3)]⟩
def Oa (x0:List (List Int)) (x1:Bool) (x2:U) (x3:AA):Option (List AA×List AK×U):=(if x1=true then (if 0<=(i64.wrap (x2.2.1-1)) then (if (i64.wrap (x2.2.1-1))<(x0.length:Int) then ((Dy (x0.getD (i64.wrap (x2.2.1-1)).toNat ([]:List Int)) x3.2.2.2.2.2 x2).bind fun y2=>(some (y2.1,[],y2.2))) else none) else none) else (some ([],[],x2)))
def Ob (x0:Bool) (x1:U) (x2:AA):Option (List AA×List AK×U):=(if x0=true then ((Nc x1.2.2.2.2.2.2.1 x2.2.1).bind fun y4=>(if x1.2.2.2.2.2.1=false then (if ((y4.length:Int)==0)=true then (some ([],[],(x1.1,x1.2.1,x1.2.2.1,x1.2.2.2.1,x1.2.2.2.2.1,x1.2.2.2.1,y4,x1.2.2.2.2.2.2.2))) else (some ([],[],(x1.1,x1.2.1,x1.2.2.1,x1.2.2.2.1,x1.2.2.2.2.1,false,y4,x1.2.2.2.2.2.2.2)))) else (some ([],[],(x1.1,x1.2.1,x1.2.2.1,x1.2.2.2.1,x1.2.2.2.2.1,true,y4,x1.2.2.2.2.2.2.2))))) else (some ([],[],x1)))
def Oc (x0:Int) (x1:Bool) (x2:U) (x3:AA):Option (List AA×List AK×U):=(if x1=true then ((Kp x3 x2).bind fun y5=>(some (y5.1,[],y5.2))) else (if (x0==6)=true then ((G3 1 x3 x2).bind fun y6=>(some ([],y6.1,y6.2))) else (if (x0==8)=true then ((G3 2 x3 x2).bind fun y7=>(some ([],y7.1,y7.2))) else (some ([],[],x2)))))
def Tm (x1:List (List Int)) (x2:AA) (b0:U):Option (List AA×List AK×U):=(if (x2.1==1)=true then ((L_ x1 x2 b0).bind fun y1=>(some (y1.1,[],y1.2))) else (if (x2.1==2)=true then (if (x2.2.2.2.1==b0.2.1)=true then (if b0.2.2.2.2.1=true then (EO x1 (!b0.2.2.2.1) b0 x2) else (EO x1 false b0 x2)) else (EO x1 false b0 x2)) else (if (x2.1==3)=true then (if 0<=(i64.wrap (x2.2.2.2.1-1)) then (if (i64.wrap (x2.2.2.2.1-1))<(x1.length:Int) then ((I8 (x1.getD (i64.wrap (x2.2.2.2.1-1)).toNat ([]:List Int)) x2 b0).bind fun y3=>(some (y3.1,[],y3.2))) else none) else none) else (if (x2.1==4)=true then (if (x2.2.2.2.1==b0.2.1)=true then (GZ b0.2.2.2.2.1 b0 x2) else (GZ false b0 x2)) else (if (x2.1==5)=true then (Ga x2.1 (x2.1==5) b0 x2) else (Ga x2.1 (x2.1==7) b0 x2))))))
theorem bf:gN Oa EO:=jS (by kernel_rfl)
theorem bg:SW Ob GZ:=jS (by kernel_rfl)
theorem bh:gN Oc Ga:=jS (by kernel_rfl)
theorem ip:SW Tm L9:=cT CU rfl ⟨rfl,rfl⟩ (by kernel_rfl)
def JC:=cG EK (AI Ag) (AI Ag) kx
def JD:=kE 0 [] [] 0 JC kx
def Ix:St->Option (RT (BG.outs Ag)):=lG EJ [] [0,1,7,8] 0 (AI Ag) JD
def BH (x0:List AC) (x1:AC) (x2 x3:Int):Option Int:=Ix ⟨[(0,.lst AJ x0),(1,.clo 92 AJ x1),(7,.int .i64 x2),(8,.int .i64 x3)],[]⟩
def Bj (x0:List AC) (x1:AC) (x2 x3:Int):Option Int:=(if (decide (x3<x2))=true then (if 0<=x3 then (if x3<(x0.length:Int) then ((S6 (x0.getD x3.toNat (0,O,O,0,0,0,0,0,O)) x1).bind fun y1=>(if y1=true then (some x3) else (BH x0 x1 x2 (i64.wrap (x3+1))))) else none) else none) else (some (-1:Int)))
def Ey (x0:List AC) (x1:AC):Option Int:=(BH x0 x1 (x0.length:Int) 0)
theorem Cc:gN Bj BH:=lS (by kernel_rfl)
theorem Ju:OJ Ey Cu:=cT Ag rfl ⟨rfl,rfl⟩ (by kernel_rfl)
def lX:=cG Uk (AI EB) (AI EB) kx
def lY:=kE 0 [(3,1)] [3] 2 lX kx
def iq:St->Option (RT (BG.outs EB)):=lG Uj [(3,1)] [0,3,4] 2 (AI EB) lY
def Id (x0:Int) (x1:AL) (x2:List Z):Option (List Z×AL):=iq ⟨[(0,.ptr 0 0),(3,.row 1),(4,.int .i64 x0)],[.var (Ad.enc x1),.rows 38 AF x2]⟩
def Ie (x0:Int) (x1:AL) (x2:List Z):Option (List Z×AL):=((BP 6 x1).bind fun y1=>(if (decide (x0<y1.1))=true then ((S_ y1.2).bind fun y2=>((Ho x2 y2.1).bind fun y3=>(Id (i64.wrap (x0+1)) y2.2 y3))) else (some (x2,y1.2))))
def bH (b0:AL):Option (List Z×AL):=(Id 0 b0 ([]:List Z))
theorem MP:SW Ie Id:=lS (by kernel_rfl)
theorem qt:Ma bH Qb:=cT EB rfl ⟨rfl,rfl⟩ (by kernel_rfl)
def Kg (x0:List (List Int)) (x1:Bool) (x2:U):Option (Bool×U):=cG LD (AI C4) (AI C4) kx ⟨[(0,.ptr 0 0),(1,.lst (.slice (.int .i64)) x0),(33,.bool x1)],[.var (X.enc x2)]⟩
def Kh (x0:List (List Int)) (x1:Bool) (x2:U):Option (Bool×U):=((Ew x0).bind fun y1=>(if y1=true then (if 0<=(i64.wrap (x2.2.1-1)) then (if (i64.wrap (x2.2.1-1))<(x0.length:Int) then (if 0<=(0:Int) then (if 0<((x0.getD (i64.wrap (x2.2.1-1)).toNat ([]:List Int)).length:Int) then (some ((((x0.getD (i64.wrap (x2.2.1-1)).toNat ([]:List Int)).getD (0:Int).toNat 0)==x2.1),x2)) else none) else none) else none) else none) else (some (false,x2))))
def N4 (x1:List (List Int)) (b0:U):Option (Bool×U):=(if (!b0.2.2.2.2.2.1)=false then (if (b0.2.2.2.2.2.2.2.2.2.1 != 0)=false then (if (b0.2.2.2.2.2.2.2.2.1==900)=false then (if (decide (b0.2.1>(x1.length:Int)))=true then (some (false,b0)) else (Kg x1 (decide (b0.2.1>(x1.length:Int))) b0)) else (some (false,b0))) else (some (false,b0))) else (some (false,b0)))
theorem Tz:SW Kh Kg:=jS (by kernel_rfl)
theorem YZ:OJ N4 IR:=cT C4 rfl ⟨rfl,rfl⟩ (by kernel_rfl)
def qu:=cG Zt (AI Ft) (AI Ft) kx
def qv:=kE 0 [] [4] 1 qu kx
def nx:St->Option (RT (BG.outs Ft)):=lG Zs [] [1,4,7,8,9] 1 (AI Ft) qv
def KV (x0:ByteArray) (x1:List Z) (x2 x3:Int) (x4:Z):Option Z:=nx ⟨[(1,.str x0),(4,.ptr 0 0),(7,.lst AF x1),(8,.int .i64 x2),(9,.int .i64 x3)],[.var (AF.enc x4)]⟩
def O9 (x0:ByteArray) (x1:List Z) (x2 x3:Int) (x4:Z):Option Z:=(if (decide (x3<x2))=true then (if 0<=x3 then (if x3<(x1.length:Int) then (if (((x1.getD x3.toNat (O,O,0)).1).toList==x0.toList)=true then (some (x1.getD x3.toNat (O,O,0))) else (KV x0 x1 x2 (i64.wrap (x3+1)) x4)) else none) else none) else (some (O,O,0)))
def gT (x0:List Z) (x1:ByteArray):Option Z:=(KV x1 x0 (x0.length:Int) 0 (O,O,0))
theorem XI:Le5 O9 KV:=lS (by kernel_rfl)
theorem v5:OJ gT Pk:=cT Ft rfl ⟨rfl,rfl⟩ (by kernel_rfl)
def Ya:=cG NM (AI CM) (AI CM) kx
def Yb:=kE 0 [(5,1)] [5] 2 Ya kx
def XJ:St->Option (RT (BG.outs CM)):=lG NL [(5,1)] [0,5,8,9,10] 2 (AI CM) Yb
def Dh (x0:List Int) (x1 x2:Int) (x3:U) (x4:List Int):Option (List Int×U):=XJ ⟨[(0,.ptr 0 0),(5,.row 1),(8,.lst (.int .i64) x0),(9,.int .i64 x1),(10,.int .i64 x2)],[.var (X.enc x3),.rows 3 (.int .i64) x4]⟩
def Ht (x0:List Int) (x1 x2:Int) (x3:U) (x4:List Int):Option (List Int×U):=(if (decide (x2<x1))=true then (if 0<=x2 then (if x2<(x0.length:Int) then (if ((x0.getD x2.toNat 0) != x3.1)=true then (if x4.length+([(x0.getD x2.toNat 0)]:List Int).length<=68719476736 then (Dh x0 x1 (i64.wrap (x2+1)) x3 (x4++([(x0.getD x2.toNat 0)]:List Int))) else none) else (Dh x0 x1 (i64.wrap (x2+1)) x3 x4)) else none) else none) else (some (x4,x3)))
def QD (x1:List Int) (b0:U):Option (List Int×U):=(Dh x1 (x1.length:Int) 0 b0 ([]:List Int))
theorem Mi:Le5 Ht Dh:=lS (by kernel_rfl)
theorem d9:OJ QD CN:=cT CM rfl ⟨rfl,rfl⟩ (by kernel_rfl)
def Od (b0:List Int):Option (List Int):=((Qc (IntKind.u64.wrap (b0.length:Int))).bind fun y1=>((Cm 0 (b0.length:Int) y1 b0).bind fun y2=>(some y2)))
theorem bl:Ma Od DI:=cT GX rfl ⟨rfl,rfl⟩ (by kernel_rfl)
def JE (x0:U) (x1:xR):Option (List AK×U):=cG P4 (AI ER) (AI ER) kx ⟨[(0,.ptr 0 0),(3,.ptr 1 0)],[.var (X.enc x0),.var (M4.enc x1)]⟩
def JF (x0:U) (x1:xR):Option (List AK×U):=(some (([(x1.2.1,x0.2.1,x1.2.2.1,x1.2.2.2.1)]:List AK),(x0.1,x0.2.1,x0.2.2.1,x0.2.2.2.1,x0.2.2.2.2.1,x0.2.2.2.2.2.1,x0.2.2.2.2.2.2.1,x0.2.2.2.2.2.2.2.1,x0.2.2.2.2.2.2.2.2.1,0,0,0,(O,O,0),([]:List Int))))
def Tn (b0:U):Option (List AK×U):=(if (b0.2.2.2.2.2.2.2.2.2.1==1)=true then ((Nd b0.2.2.2.2.2.2.2.1 b0.2.2.2.2.2.2.2.2.2.2.2.2.1).bind fun y1=>(JE (b0.1,b0.2.1,b0.2.2.1,b0.2.2.2.1,b0.2.2.2.2.1,b0.2.2.2.2.2.1,b0.2.2.2.2.2.2.1,y1,b0.2.2.2.2.2.2.2.2) b0.2.2.2.2.2.2.2.2.2)) else ((Pk b0.2.2.2.2.2.2.2.1 b0.2.2.2.2.2.2.2.2.2.2.2.2.1.1).bind fun y2=>(JE b0 (b0.2.2.2.2.2.2.2.2.2.1,b0.2.2.2.2.2.2.2.2.2.2.1,b0.2.2.2.2.2.2.2.2.2.2.2.1,y2,b0.2.2.2.2.2.2.2.2.2.2.2.2.2))))
theorem Oe:OJ JF JE:=jS (by kernel_rfl)
theorem ir:Ma Tn IS:=cT ER rfl ⟨rfl,rfl⟩ (by kernel_rfl)
def XK:=cG Mc (AI B5) (AI B5) kx
def XL:=kE 0 [(7,2)] [7] 3 XK kx
def Vr:St->Option (RT (BG.outs B5)):=lG Mb [(7,2)] [0,5,7,11,12,13] 3 (AI B5) XL
def Ei (x0:List Int) (x1 x2:Int) (x3:U) (x4:AA) (x5:List AA):Option (List AA×U):=Vr ⟨[(0,.ptr 0 0),(5,.ptr 1 0),(7,.row 2),(11,.lst (.int .i64) x0),(12,.int .i64 x1),(13,.int .i64 x2)],[.var (X.enc x3),.var (AH.enc x4),.rows 97 AH x5]⟩
def HM (x0:List Int) (x1 x2:Int) (x3:U) (x4:AA) (x5:List AA):Option (List AA×U):=(if (decide (x2<x1))=true then (if 0<=x2 then (if x2<(x0.length:Int) then ((Hn x4).bind fun y1=>(if x5.length+([(y1.1,x3.1,(x0.getD x2.toNat 0),x3.2.1,y1.2.2.2.2)]:List AA).length<=68719476736 then (Ei x0 x1 (i64.wrap (x2+1)) x3 x4 (x5++([(y1.1,x3.1,(x0.getD x2.toNat 0),x3.2.1,y1.2.2.2.2)]:List AA))) else none)) else none) else none) else (some (x5,x3)))
def Of (x1:List Int) (x2:AA) (b0:U):Option (List AA×U):=(Ei x1 (x1.length:Int) 0 b0 x2 ([]:List AA))
theorem LF:Le6 HM Ei:=lS (by kernel_rfl)
theorem bm:SW Of Ar:=cT B5 rfl ⟨rfl,rfl⟩ (by kernel_rfl)
def lZ (b0:U):Option U:=(some (b0.1,b0.2.1,b0.2.2.1,b0.2.2.2.1,false,false,[],b0.2.2.2.2.2.2.2.1,0,0,0,0,(O,O,0),([]:List Int)))
theorem la:Ma lZ G2:=cT JK rfl ⟨rfl,rfl⟩ (by kernel_rfl)
def N5 (x1:List Int) (x2:List Z) (b0:U):Option (List AA×U):=((CN x1 b0).bind fun y1=>((Ap x2).bind fun y2=>((B0 y1.1).bind fun y3=>((DI y3).bind fun y4=>(if ((y1.1.length:Int)==0)=true then ((Ar y1.1 (3,0,0,0,0,x2) (y1.2.1,y1.2.2.1,y1.2.2.2.1,true,y1.2.2.2.2.2.1,true,y4,y2,y1.2.2.2.2.2.2.2.2.2)).bind fun y5=>(some (y5.1,y5.2))) else ((Ar y1.1 (3,0,0,0,0,x2) (y1.2.1,y1.2.2.1,y1.2.2.2.1,true,y1.2.2.2.2.2.1,y1.2.2.2.2.2.2.1,y4,y2,y1.2.2.2.2.2.2.2.2.2)).bind fun y6=>(some (y6.1,y6.2))))))))
theorem Yc:SW N5 Dy:=cT Fi rfl ⟨rfl,rfl⟩ (by kernel_rfl)
def EV (x0:Bool) (x1:U):Option Bool:=cG Ul (AI Gi) (AI Gi) kx ⟨[(1,.ptr 0 0),(70,.bool x0)],[.var (X.enc x1)]⟩
def To (x0:Bool) (x1:U):Option Bool:=((Oz x1.2.2.2.2.2.2.2.2.2).bind fun y7=>(if y7=false then (if (x1.2.2.2.2.2.2.2.2.2.1==1)=false then (if (x1.2.2.2.2.2.2.2.2.2.1==2)=true then (if x1.2.2.2.2.2.1=true then ((AW x1.2.2.2.2.2.2.2.2.2.2.1 0 1000).bind fun y8=>(if y8=true then ((AW x1.2.2.2.2.2.2.2.2.2.2.2.1 1 900).bind fun y9=>(some y9)) else (some false))) else (some false)) else (some false)) else (if x1.2.2.2.2.2.1=true then ((AW x1.2.2.2.2.2.2.2.2.2.2.1 0 1000).bind fun y10=>(if y10=true then ((AW x1.2.2.2.2.2.2.2.2.2.2.2.1 1 900).bind fun y11=>(some y11)) else (some false))) else (some false))) else (some true)))
def bI (x0:U):Option Bool:=((AW x0.1 1 6).bind fun y1=>(if (!y1)=false then ((AW x0.2.1 1 9).bind fun y2=>(if (!y2)=false then (if x0.2.2.2.2.2.1=true then (if (!x0.2.2.2.1)=false then (if (!x0.2.2.2.2.1)=false then (if (decide ((x0.2.2.2.2.2.2.1.length:Int)>0))=false then (if x0.2.2.1=true then (if x0.2.2.2.1=false then (if x0.2.2.2.2.1=false then ((Dn x0.2.2.2.2.2.2.1).bind fun y3=>(if (!y3)=false then ((Dn x0.2.2.2.2.2.2.2.2.2.2.2.2.2).bind fun y4=>(if (!y4)=false then ((Dz x0.2.2.2.2.2.2.2.1).bind fun y5=>(if (!y5)=false then ((AW x0.2.2.2.2.2.2.2.2.1 0 900).bind fun y6=>(if (!y6)=true then (some false) else (EV (!y6) x0))) else (some false))) else (some false))) else (some false))) else (some false)) else (some false)) else ((Dn x0.2.2.2.2.2.2.1).bind fun y12=>(if (!y12)=false then ((Dn x0.2.2.2.2.2.2.2.2.2.2.2.2.2).bind fun y13=>(if (!y13)=false then ((Dz x0.2.2.2.2.2.2.2.1).bind fun y14=>(if (!y14)=false then ((AW x0.2.2.2.2.2.2.2.2.1 0 900).bind fun y15=>(if (!y15)=true then (some false) else (EV (!y15) x0))) else (some false))) else (some false))) else (some false)))) else (some false)) else (some false)) else (some false)) else (if x0.2.2.1=true then (if x0.2.2.2.1=false then (if x0.2.2.2.2.1=false then ((Dn x0.2.2.2.2.2.2.1).bind fun y16=>(if (!y16)=false then ((Dn x0.2.2.2.2.2.2.2.2.2.2.2.2.2).bind fun y17=>(if (!y17)=false then ((Dz x0.2.2.2.2.2.2.2.1).bind fun y18=>(if (!y18)=false then ((AW x0.2.2.2.2.2.2.2.2.1 0 900).bind fun y19=>(if (!y19)=true then (some false) else (EV (!y19) x0))) else (some false))) else (some false))) else (some false))) else (some false)) else (some false)) else ((Dn x0.2.2.2.2.2.2.1).bind fun y20=>(if (!y20)=false then ((Dn x0.2.2.2.2.2.2.2.2.2.2.2.2.2).bind fun y21=>(if (!y21)=false then ((Dz x0.2.2.2.2.2.2.2.1).bind fun y22=>(if (!y22)=false then ((AW x0.2.2.2.2.2.2.2.2.1 0 900).bind fun y23=>(if (!y23)=true then (some false) else (EV (!y23) x0))) else (some false))) else (some false))) else (some false))))) else (some false))) else (some false)))
theorem iu:OJ To EV:=jS (by kernel_rfl)
theorem qw:Ma bI Gk:=cT Gi rfl ⟨rfl,rfl⟩ (by kernel_rfl)
def qx:=cG Zv (AI Fu) (AI Fu) kx
def qy:=kE 0 [] [4] 1 qx kx
def ny:St->Option (RT (BG.outs Fu)):=lG Zu [] [0,1,4,5] 1 (AI Fu) qy
def KW (x0:List Z) (x1:ByteArray) (x2:Int) (x3:Z):Option Z:=ny ⟨[(0,.lst AF x0),(1,.str x1),(4,.ptr 0 0),(5,.int .i64 x2)],[.var (AF.enc x3)]⟩
def O_ (x0:List Z) (x1:ByteArray) (x2:Int) (x3:Z):Option Z:=(if (decide (x2<(x0.length:Int)))=true then (if 0<=x2 then (if x2<(x0.length:Int) then (if (((x0.getD x2.toNat (O,O,0)).1).toList==x1.toList)=true then (if 0<=x2 then (if x2<(x0.length:Int) then (some (x0.getD x2.toNat (O,O,0))) else none) else none) else (KW x0 x1 (i64.wrap (x2+1)) x3)) else none) else none) else (some (O,O,0)))
def gU (x0:List Z) (x1:ByteArray):Option Z:=(KW x0 x1 0 (O,O,0))
theorem XM:gN O_ KW:=lS (by kernel_rfl)
theorem v6:OJ gU Pl:=cT Fu rfl ⟨rfl,rfl⟩ (by kernel_rfl)

def nz:=cG NN (AI BJ) (AI BJ) kx
def n5:=kE 2 [(5,1),(6,2)] [0,5,6] 3 nz kx
def lc:St->Option (RT (BG.outs BJ)):=lG Um [(5,1),(6,2)] [0,3,5,6,8] 3 (AI BJ) n5
def n6:=cG NO (AI BJ) (AI BJ) kx
def PA:=kE 0 [(5,1),(6,2)] [0,3,5,6] 3 n6 kx
def VN:St->Option (RT (BG.outs BJ)):=lG Wg [(5,1),(6,2)] [0,3,5,6,7] 3 (AI BJ) PA
def n7:=kB [(5,1),(6,2)] [0,3,5,6,7] 3 VN
def XN:=cG Wf n7 (AI BJ) PA
def n8:=kB [(5,1),(6,2)] [0,3,5,6,7] 3 XN
def n9:=kE 1 [(5,1),(6,2)] [0,3,5,6,7] 3 XN PA
def JW (x0:List Z) (x1:Int) (x2:Z) (x3 x4:List Z):Option (List Z):=cG We n8 (AI BJ) n9 ⟨[(0,.lst AF x0),(3,.ptr 0 0),(5,.row 1),(6,.row 2),(7,.int .i64 x1)],[.var (AF.enc x2),.rows 38 AF x3,.rows 38 AF x4]⟩
def N6 (x0:List Z) (x1:Z) (x2 x3:List Z):Option (List Z):=cG NN (AI BJ) (AI BJ) kx ⟨[(0,.lst AF x0),(5,.row 1),(6,.row 2)],[.var (AF.enc x1),.rows 38 AF x2,.rows 38 AF x3]⟩
def FA (x0:List Z) (x1:Int) (x2:Z) (x3 x4:List Z):Option (List Z):=lc ⟨[(0,.lst AF x0),(3,.ptr 0 0),(5,.row 1),(6,.row 2),(8,.int .i64 x1)],[.var (AF.enc x2),.rows 38 AF x3,.rows 38 AF x4]⟩
def N7 (x0:List Z) (x1:Z) (x2 x3:List Z):Option (List Z):=cG NO (AI BJ) (AI BJ) kx ⟨[(0,.lst AF x0),(3,.ptr 0 0),(5,.row 1),(6,.row 2)],[.var (AF.enc x1),.rows 38 AF x2,.rows 38 AF x3]⟩
def FB (x0:List Z) (x1:Int) (x2:Z) (x3 x4:List Z):Option (List Z):=VN ⟨[(0,.lst AF x0),(3,.ptr 0 0),(5,.row 1),(6,.row 2),(7,.int .i64 x1)],[.var (AF.enc x2),.rows 38 AF x3,.rows 38 AF x4]⟩
def VO (x0:List Z) (x1:Int) (x2:Z) (x3 x4:List Z):Option (List Z):=(if 0<=x1 then (if x1<(x0.length:Int) then (if (((x0.getD x1.toNat (O,O,0)).1).toList==x2.1.toList)=true then (if 0<=x1 then (if x1<(x0.length:Int) then (if (decide ((((x0.getD x1.toNat (O,O,0)).2).2)>=x2.2.2))=true then (some x3) else (FB x0 (i64.wrap (x1+1)) x2 x3 x4)) else none) else none) else (FB x0 (i64.wrap (x1+1)) x2 x3 x4)) else none) else none)
def VP (x0:List Z) (x1:Z) (x2 x3:List Z):Option (List Z):=((Dz x0).bind fun y1=>(if (!y1)=false then ((Dz x3).bind fun y2=>(if (!y2)=true then (some x2) else (some x3))) else (some x2)))
def N8 (x0:List Z) (x1:Int) (x2:Z) (x3 x4:List Z):Option (List Z):=(if (decide (x1<(x0.length:Int)))=true then (if 0<=x1 then (if x1<(x0.length:Int) then (if (!((Op.bytesLess ((x0.getD x1.toNat (O,O,0)).1).toList x2.1.toList)||(((x0.getD x1.toNat (O,O,0)).1).toList==x2.1.toList)))=true then (if 0<=x1 then (if x1<(x0.length:Int) then (if x4.length+([x0.getD x1.toNat (O,O,0)]:List Z).length<=68719476736 then (FA x0 (i64.wrap (x1+1)) x2 x3 (x4++([x0.getD x1.toNat (O,O,0)]:List Z))) else none) else none) else none) else (FA x0 (i64.wrap (x1+1)) x2 x3 x4)) else none) else none) else (N6 x0 x2 x3 x4))
def VQ (x0:List Z) (x1:Z) (x2 x3:List Z):Option (List Z):=(if x3.length+([x1]:List Z).length<=68719476736 then (FA x0 0 x1 x2 (x3++([x1]:List Z))) else none)
def N9 (x0:List Z) (x1:Int) (x2:Z) (x3 x4:List Z):Option (List Z):=(if (decide (x1<(x0.length:Int)))=true then (if 0<=x1 then (if x1<(x0.length:Int) then (if (Op.bytesLess ((x0.getD x1.toNat (O,O,0)).1).toList x2.1.toList)=true then (if 0<=x1 then (if x1<(x0.length:Int) then (if x4.length+([x0.getD x1.toNat (O,O,0)]:List Z).length<=68719476736 then (JW x0 x1 x2 x3 (x4++([x0.getD x1.toNat (O,O,0)]:List Z))) else none) else none) else none) else (JW x0 x1 x2 x3 x4)) else none) else none) else (N7 x0 x2 x3 x4))
def d_ (x0:List Z) (x1:Z):Option (List Z):=(if ([]:List Z).length+x0.length<=68719476736 then (FB x0 0 x1 (([]:List Z)++x0) ([]:List Z)) else none)
theorem ld:Le5 VO JW:=jS (by kernel_rfl)
theorem lg:gN VP N6:=jS (by kernel_rfl)
theorem VR:Le5 N8 FA:=lS (by kernel_rfl)
theorem lh:gN VQ N7:=jS (by kernel_rfl)
theorem VS:Le5 N9 FB:=lS (by kernel_rfl)
theorem uZ:OJ d_ Ho:=cT BJ rfl ⟨rfl,rfl⟩ (by kernel_rfl)
def iv:=cG Sz (AI Dc) (AI Dc) kx
def iw:=kE 0 [(5,0)] [5] 1 iv kx
def fj:St->Option (RT (BG.outs Dc)):=lG Sy [(5,0)] [0,1,5,6] 1 (AI Dc) iw
def Ci (x0:List Int) (x1 x2:Int) (x3:List Int):Option (List Int):=fj ⟨[(0,.lst (.int .i64) x0),(1,.int .i64 x1),(5,.row 0),(6,.int .i64 x2)],[.rows 3 (.int .i64) x3]⟩
def K6 (x0:List Int) (x1 x2:Int) (x3:List Int):Option (List Int):=(if (decide (x2<=6))=true then (if (x2 != x1)=true then ((Du x0 x2).bind fun y1=>(if y1=true then (if x3.length+([x2]:List Int).length<=68719476736 then (Ci x0 x1 (i64.wrap (x2+1)) (x3++([x2]:List Int))) else none) else (Ci x0 x1 (i64.wrap (x2+1)) x3))) else (Ci x0 x1 (i64.wrap (x2+1)) x3)) else (some x3))
def XO (x0:List Int) (x1:Int):Option (List Int):=(Ci x0 x1 1 ([]:List Int))
theorem R0:gN K6 Ci:=lS (by kernel_rfl)
theorem n_:OJ XO Hp:=cT Dc rfl ⟨rfl,rfl⟩ (by kernel_rfl)
def XP (b0:U):Option (List AK×U):=(if (b0.2.2.2.2.2.2.2.2.2.1==1)=true then ((Ho b0.2.2.2.2.2.2.2.1 b0.2.2.2.2.2.2.2.2.2.2.2.2.1).bind fun y1=>(some (([(b0.2.2.2.2.2.2.2.2.2.2.1,b0.2.1,b0.2.2.2.2.2.2.2.2.2.2.2.1,b0.2.2.2.2.2.2.2.2.2.2.2.2.1)]:List AK),(b0.1,b0.2.1,b0.2.2.1,b0.2.2.2.1,b0.2.2.2.2.1,b0.2.2.2.2.2.1,b0.2.2.2.2.2.2.1,y1,b0.2.2.2.2.2.2.2.2.1,0,0,0,(O,O,0),([]:List Int))))) else ((Pl b0.2.2.2.2.2.2.2.1 b0.2.2.2.2.2.2.2.2.2.2.2.2.1.1).bind fun y2=>(some (([(b0.2.2.2.2.2.2.2.2.2.2.1,b0.2.1,b0.2.2.2.2.2.2.2.2.2.2.2.1,y2)]:List AK),(b0.1,b0.2.1,b0.2.2.1,b0.2.2.2.1,b0.2.2.2.2.1,b0.2.2.2.2.2.1,b0.2.2.2.2.2.2.1,b0.2.2.2.2.2.2.2.1,b0.2.2.2.2.2.2.2.2.1,0,0,0,(O,O,0),([]:List Int))))))
theorem oA:Ma XP Hq:=cT KI rfl ⟨rfl,rfl⟩ (by kernel_rfl)
def qz:=cG Zx (AI Fv) (AI Fv) kx
def q_:=kE 0 [(7,1)] [7] 3 qz kx
def oB:St->Option (RT (BG.outs Fv)):=lG Zw [(7,1)] [0,1,2,7,8] 3 (AI Fv) q_
def Hu (x0:List Int) (x1:List Z) (x2:Int) (x3:U) (x4:List AA) (x5:List Z):Option (List AA×U):=oB ⟨[(0,.ptr 0 0),(1,.lst (.int .i64) x0),(2,.lst AF x1),(7,.row 1),(8,.int .i64 x2)],[.var (X.enc x3),.rows 97 AH x4,.frz AF x5]⟩
def PB (x0:List Int) (x1:List Z) (x2:Int) (x3:U) (x4:List AA) (x5:List Z):Option (List AA×U):=(if (decide (x2<(x0.length:Int)))=true then (if 0<=x2 then (if x2<(x0.length:Int) then (if ((x0.getD x2.toNat 0) != x3.1)=true then (if 0<=x2 then (if x2<(x0.length:Int) then (if ([]:List Z).length+x1.length<=68719476736 then (if x4.length+([(3,x3.1,(x0.getD x2.toNat 0),x3.2.1,0,(([]:List Z)++x1))]:List AA).length<=68719476736 then (Hu x0 x1 (i64.wrap (x2+1)) x3 (x4++([(3,x3.1,(x0.getD x2.toNat 0),x3.2.1,0,(([]:List Z)++x1))]:List AA)) x5) else none) else none) else none) else none) else (Hu x0 x1 (i64.wrap (x2+1)) x3 x4 x5)) else none) else none) else (some (x4,x3)))
def gV (x1:List Int) (x2:List Z) (b0:U):Option (List AA×U):=(if ([]:List Z).length+x2.length<=68719476736 then ((Hp x1 b0.1).bind fun y1=>(Hu x1 x2 0 (b0.1,b0.2.1,b0.2.2.1,true,b0.2.2.2.2.1,((y1.length:Int)==0),y1,(([]:List Z)++x2),b0.2.2.2.2.2.2.2.2) ([]:List AA) (([]:List Z)++x2))) else none)
theorem XQ:Le6 PB Hu:=lS (by kernel_rfl)
theorem v7:SW gV Pm:=cT Fv rfl ⟨rfl,rfl⟩ (by kernel_rfl)
def eA:=cG dC (AI Fj) (AI Fj) kx
def ua:=kB [] [1] 1 eA
def ub:=kE 0 [] [1] 1 eA kx
def Ln (x0:Int) (x1:Bool) (x2:AA):Option Bool:=cG dB ua (AI Fj) ub ⟨[(1,.ptr 0 0),(38,.int .i64 x0),(39,.bool x1)],[.var (AH.enc x2)]⟩
def Q4 (x0:Bool) (x1:AA):Option Bool:=cG dD (AI Fj) (AI Fj) kx ⟨[(1,.ptr 0 0),(36,.bool x0)],[.var (AH.enc x1)]⟩
def bJ (x0:Int) (x1:Bool) (x2:AA):Option Bool:=(if x1=true then (some true) else (if (x0==5)=true then (some ((x2.2.2.2.2.2.length:Int)==1)) else (some ((x2.2.2.2.2.2.length:Int)==0))))
def bK (x0:Bool) (x1:AA):Option Bool:=(if (x1.1==2)=true then (Ln x1.1 (x1.1==2) x1) else (Ln x1.1 (x1.1==3) x1))
def ln (x0:AA):Option Bool:=((AW x0.1 1 8).bind fun y1=>(if (!y1)=false then ((AW x0.2.1 1 6).bind fun y2=>(if (!y2)=false then ((AW x0.2.2.1 1 6).bind fun y3=>(if (!y3)=false then ((AW x0.2.2.2.1 1 9).bind fun y4=>(if (!y4)=false then ((AW x0.2.2.2.2.1 0 1000000000).bind fun y5=>(if (!y5)=false then ((Dz x0.2.2.2.2.2).bind fun y6=>(if (!y6)=true then (some false) else (Q4 (!y6) x0))) else (some false))) else (some false))) else (some false))) else (some false))) else (some false)))
theorem rA:SW bJ Ln:=jS (by kernel_rfl)
theorem rB:OJ bK Q4:=jS (by kernel_rfl)
theorem yR:Ma ln YQ:=cT Fj rfl ⟨rfl,rfl⟩ (by kernel_rfl)
def bL:=cG Wk (AI Cw) (AI Cw) kx
def Gq:=kB [] [6,9,10,11] 4 bL
def Gr:=kE 0 [] [6,9,10,11] 4 bL kx
def KX (x0:List Int) (x1:List AA) (x2:List AK) (x3:Bool) (x4:U) (x5:AA) (x6 x7:U):Option (U×List AA×List AK):=cG Zy Gq (AI Cw) Gr ⟨[(1,.lst (.int .i64) x0),(5,.ptr 1 0),(6,.ptr 2 0),(9,.ptr 3 0),(10,.lst AH x1),(11,.lst BE x2),(28,.bool x3)],[.var (X.enc x4),.var (AH.enc x5),.var (X.enc x6),.var (X.enc x7)]⟩
def KY (x0:List AA) (x1:List AK) (x2:Bool) (x3:U) (x4:AA) (x5 x6:U):Option (U×List AA×List AK):=cG Zz Gq (AI Cw) Gr ⟨[(3,.ptr 0 0),(5,.ptr 1 0),(6,.ptr 2 0),(9,.ptr 3 0),(10,.lst AH x0),(11,.lst BE x1),(60,.bool x2)],[.var (X.enc x3),.var (AH.enc x4),.var (X.enc x5),.var (X.enc x6)]⟩
def PD (x0:List AA) (x1:List AK) (x2:Bool) (x3:U) (x4:AA) (x5 x6:U):Option (U×List AA×List AK):=cG Z0 Gq (AI Cw) Gr ⟨[(3,.ptr 0 0),(5,.ptr 1 0),(6,.ptr 2 0),(9,.ptr 3 0),(10,.lst AH x0),(11,.lst BE x1),(50,.bool x2)],[.var (X.enc x3),.var (AH.enc x4),.var (X.enc x5),.var (X.enc x6)]⟩
def PE (x0:List AA) (x1:List AK) (x2:Bool) (x3:U) (x4:AA) (x5 x6:U):Option (U×List AA×List AK):=cG Wh Gq (AI Cw) Gr ⟨[(5,.ptr 1 0),(6,.ptr 2 0),(9,.ptr 3 0),(10,.lst AH x0),(11,.lst BE x1),(145,.bool x2)],[.var (X.enc x3),.var (AH.enc x4),.var (X.enc x5),.var (X.enc x6)]⟩
def KZ (x0:List AA) (x1:List AK) (x2:Int) (x3:U) (x4:AA) (x5 x6:U):Option (U×List AA×List AK):=cG Wi Gq (AI Cw) Gr ⟨[(5,.ptr 1 0),(6,.ptr 2 0),(9,.ptr 3 0),(10,.lst AH x0),(11,.lst BE x1),(13,.int .i64 x2)],[.var (X.enc x3),.var (AH.enc x4),.var (X.enc x5),.var (X.enc x6)]⟩
def Ka (x0:List AA) (x1:List AK) (x2:Bool) (x3:U) (x4:AA) (x5 x6:U):Option (U×List AA×List AK):=cG Wj Gq (AI Cw) Gr ⟨[(5,.ptr 1 0),(6,.ptr 2 0),(9,.ptr 3 0),(10,.lst AH x0),(11,.lst BE x1),(127,.bool x2)],[.var (X.enc x3),.var (AH.enc x4),.var (X.enc x5),.var (X.enc x6)]⟩
def XR (x0:List Int) (x1:List AA) (x2:List AK) (x3:Bool) (x4:U) (x5:AA) (x6 x7:U):Option (U×List AA×List AK):=(if x3=true then ((Pm x0 x5.2.2.2.2.2 x7).bind fun y2=>(some (y2.2,y2.1,x2))) else (some (x7,x1,x2)))
def XS (x0:List AA) (x1:List AK) (x2:Bool) (x3:U) (x4:AA) (x5 x6:U):Option (U×List AA×List AK):=(if (!x6.2.2.2.1)=true then ((Nb x3 x3.2.1).bind fun y4=>(if ([]:List Z).length+x4.2.2.2.2.2.length<=68719476736 then ((FC x3 x4 4).bind fun y5=>(some ((y4.1,y4.2.1,y4.2.2.1,true,y4.2.2.2.2.1,y4.2.2.2.2.2.1,y4.2.2.2.2.2.2.1,(([]:List Z)++x4.2.2.2.2.2),y4.2.2.2.2.2.2.2.2),y5,x1))) else none)) else ((FC x3 x4 4).bind fun y6=>(some (x6,y6,x1))))
def XT (x0:List AA) (x1:List AK) (x2:Bool) (x3:U) (x4:AA) (x5 x6:U):Option (U×List AA×List AK):=(if (!x6.2.2.2.1)=true then (if x6.2.2.1=true then (some (x6,x0,x1)) else (KY x0 x1 x6.2.2.1 x3 x4 x5 x6)) else (KY x0 x1 false x3 x4 x5 x6))
def XU (x0:List AA) (x1:List AK) (x2:Bool) (x3:U) (x4:AA) (x5 x6:U):Option (U×List AA×List AK):=((JM x6.2.2.2.2.2.2.2.2.2.2.2.2.2 x4.2.1).bind fun y11=>(if ((y11.length:Int)==0)=true then ((Hq (x6.1,x6.2.1,x6.2.2.1,x6.2.2.2.1,x6.2.2.2.2.1,x6.2.2.2.2.2.1,x6.2.2.2.2.2.2.1,x6.2.2.2.2.2.2.2.1,x6.2.2.2.2.2.2.2.2.1,x6.2.2.2.2.2.2.2.2.2.1,x6.2.2.2.2.2.2.2.2.2.2.1,x6.2.2.2.2.2.2.2.2.2.2.2.1,x6.2.2.2.2.2.2.2.2.2.2.2.2.1,y11)).bind fun y12=>(some (y12.2,x0,y12.1))) else (some ((x6.1,x6.2.1,x6.2.2.1,x6.2.2.2.1,x6.2.2.2.2.1,x6.2.2.2.2.2.1,x6.2.2.2.2.2.2.1,x6.2.2.2.2.2.2.2.1,x6.2.2.2.2.2.2.2.2.1,x6.2.2.2.2.2.2.2.2.2.1,x6.2.2.2.2.2.2.2.2.2.2.1,x6.2.2.2.2.2.2.2.2.2.2.2.1,x6.2.2.2.2.2.2.2.2.2.2.2.2.1,y11),x0,x1))))
def XV (x0:List AA) (x1:List AK) (x2:Int) (x3:U) (x4:AA) (x5 x6:U):Option (U×List AA×List AK):=(if (x6.2.2.2.2.2.2.2.2.2.1 != x2)=false then (if (x6.2.2.2.2.2.2.2.2.2.2.2.1 != x4.2.2.2.2.1)=true then (some (x6,x0,x1)) else (PE x0 x1 (x6.2.2.2.2.2.2.2.2.2.2.2.1 != x4.2.2.2.2.1) x3 x4 x5 x6)) else (some (x6,x0,x1)))
def XW (x0:List AA) (x1:List AK) (x2:Bool) (x3:U) (x4:AA) (x5 x6:U):Option (U×List AA×List AK):=(if x2=true then (if (x4.1==8)=true then (KZ x0 x1 2 x3 x4 x5 x6) else (KZ x0 x1 1 x3 x4 x5 x6)) else (some (x6,x0,x1)))
def gW (x0:U) (x1:List Int) (x2:AA):Option (U×List AA×List AK):=((Dv x0).bind fun y1=>(if (x2.1==2)=true then (if y1.2.2.2.2.1=true then (KX x1 ([]:List AA) ([]:List AK) (!y1.2.2.2.1) x0 x2 (0,0,false,false,false,false,([]:List Int),([]:List Z),0,0,0,0,(O,O,0),([]:List Int)) y1) else (KX x1 ([]:List AA) ([]:List AK) false x0 x2 (0,0,false,false,false,false,([]:List Int),([]:List Z),0,0,0,0,(O,O,0),([]:List Int)) y1)) else (if (x2.1==3)=true then ((Du x1 x0.1).bind fun y3=>(if (!y3)=true then (some (y1,([]:List AA),([]:List AK))) else (if 0<=(0:Int) then (if 0<(x1.length:Int) then (if ((x1.getD (0:Int).toNat 0)==x0.1)=true then (some (y1,([]:List AA),([]:List AK))) else (PD ([]:List AA) ([]:List AK) ((x1.getD (0:Int).toNat 0)==x0.1) x0 x2 (0,0,false,false,false,false,([]:List Int),([]:List Z),0,0,0,0,(O,O,0),([]:List Int)) y1)) else none) else none))) else (if (x2.1==4)=true then (if y1.2.2.2.2.1=true then ((JM y1.2.2.2.2.2.2.1 x2.2.1).bind fun y7=>(if y1.2.2.2.1=true then (some ((y1.1,y1.2.1,y1.2.2.1,y1.2.2.2.1,y1.2.2.2.2.1,((y7.length:Int)==0),y7,y1.2.2.2.2.2.2.2),([]:List AA),([]:List AK))) else (some ((y1.1,y1.2.1,y1.2.2.1,y1.2.2.2.1,y1.2.2.2.2.1,false,y7,y1.2.2.2.2.2.2.2),([]:List AA),([]:List AK))))) else (some (y1,([]:List AA),([]:List AK)))) else (if (x2.1==5)=true then (if y1.2.2.2.1=true then (if 0<=(0:Int) then (if 0<(x2.2.2.2.2.2.length:Int) then ((Ho y1.2.2.2.2.2.2.2.1 (x2.2.2.2.2.2.getD (0:Int).toNat (O,O,0))).bind fun y8=>((FC x0 x2 6).bind fun y9=>(some ((y1.1,y1.2.1,y1.2.2.1,y1.2.2.2.1,y1.2.2.2.2.1,y1.2.2.2.2.2.1,y1.2.2.2.2.2.2.1,y8,y1.2.2.2.2.2.2.2.2),y9,([]:List AK))))) else none) else none) else (some (y1,([]:List AA),([]:List AK)))) else (if (x2.1==7)=true then (if y1.2.2.2.1=true then ((FC x0 x2 8).bind fun y10=>(some (y1,y10,([]:List AK)))) else (some (y1,([]:List AA),([]:List AK)))) else (if (x2.1==6)=true then (Ka ([]:List AA) ([]:List AK) (x2.1==6) x0 x2 (0,0,false,false,false,false,([]:List Int),([]:List Z),0,0,0,0,(O,O,0),([]:List Int)) y1) else (Ka ([]:List AA) ([]:List AK) (x2.1==8) x0 x2 (0,0,false,false,false,false,([]:List Int),([]:List Z),0,0,0,0,(O,O,0),([]:List Int)) y1))))))))
theorem oC:zH XR KX:=jS (by kernel_rfl)
theorem oD:Le7 XS KY:=jS (by kernel_rfl)
theorem oE:Le7 XT PD:=jS (by kernel_rfl)
theorem oF:Le7 XU PE:=jS (by kernel_rfl)
theorem oG:Le7 XV KZ:=jS (by kernel_rfl)
theorem oH:Le7 XW Ka:=jS (by kernel_rfl)
theorem v8:SW gW Vl:=cT Cw rfl ⟨rfl,rfl⟩ (by kernel_rfl)
def eB (x0:U) (x1:Int):Option U:=(if ([]:List Z).length+x0.2.2.2.2.2.2.2.1.length<=68719476736 then (some (x0.1,x1,false,false,false,false,([]:List Int),(([]:List Z)++x0.2.2.2.2.2.2.2.1),0,0,0,0,(O,O,0),([]:List Int))) else none)
theorem uc:OJ eB Nb:=cT NP rfl ⟨rfl,rfl⟩ (by kernel_rfl)
def rC (x0:U) (x1:AA) (x2:Int):Option (List AA):=(some ([(x2,x0.1,x1.2.1,x1.2.2.2.1,x1.2.2.2.2.1,([]:List Z))]:List AA))
theorem rD:SW rC FC:=cT LY rfl ⟨rfl,rfl⟩ (by kernel_rfl)
def Og (x0:Bool) (x1:U) (x2:AA):Option (List AA×U):=cG OV (AI ES) (AI ES) kx ⟨[(0,.ptr 0 0),(5,.ptr 1 0),(37,.bool x0)],[.var (X.enc x1),.var (AH.enc x2)]⟩
def Oh (x0:Bool) (x1:U) (x2:AA):Option (List AA×U):=((G2 (x1.1,x2.2.2.2.1,x1.2.2.1,false,x1.2.2.2.2)).bind fun y2=>((Ar ([x2.2.1]:List Int) (2,0,0,0,0,y2.2.2.2.2.2.2.2.1) y2).bind fun y3=>(some (y3.1,y3.2))))
def Tp (x1:List (List Int)) (x2:AA) (b0:U):Option (List AA×U):=(if (x2.2.2.2.1 != (i64.wrap (b0.2.1+1)))=true then (some ([],b0)) else (if (!b0.2.2.2.1)=true then (some ([],b0)) else (if 0<=(i64.wrap (b0.2.1-1)) then (if (i64.wrap (b0.2.1-1))<(x1.length:Int) then ((CQ (x1.getD (i64.wrap (b0.2.1-1)).toNat ([]:List Int)) b0.1).bind fun y1=>(if (!y1)=true then (some ([],b0)) else (Og (!y1) b0 x2))) else none) else none)))
theorem bn:SW Oh Og:=jS (by kernel_rfl)
theorem ix:SW Tp L_:=cT ES rfl ⟨rfl,rfl⟩ (by kernel_rfl)
def Mj:=cG Mf (AI Bn) (AI Bn) kx
def XX:=kB [] [0,5] 2 Mj
def XY:=kE 0 [] [0,5] 2 Mj kx
def DK (x0:Bool) (x1:U) (x2:AA):Option (List AA×U):=cG Me XX (AI Bn) XY ⟨[(0,.ptr 0 0),(5,.ptr 1 0),(24,.bool x0)],[.var (X.enc x1),.var (AH.enc x2)]⟩
def LG (x0:Bool) (x1:U) (x2:AA):Option (List AA×U):=cG Mg (AI Bn) (AI Bn) kx ⟨[(0,.ptr 0 0),(5,.ptr 1 0),(23,.bool x0)],[.var (X.enc x1),.var (AH.enc x2)]⟩
def LH (x0:Bool) (x1:U) (x2:AA):Option (List AA×U):=(if x0=true then ((Ap x2.2.2.2.2.2).bind fun y2=>((G2 (x1.1,x2.2.2.2.1,false,true,x1.2.2.2.2.1,x1.2.2.2.2.2.1,x1.2.2.2.2.2.2.1,y2,x1.2.2.2.2.2.2.2.2)).bind fun y3=>((Ar ([x2.2.1]:List Int) (4,0,0,0,0,([]:List Z)) y3).bind fun y4=>(some (y4.1,y4.2))))) else (if (!x1.2.2.2.1)=true then (some ([],x1)) else ((Ar ([x2.2.1]:List Int) (4,0,0,0,0,([]:List Z)) x1).bind fun y5=>(some (y5.1,y5.2)))))
def LI (x0:Bool) (x1:U) (x2:AA):Option (List AA×U):=(if (decide (x2.2.2.2.1>x1.2.1))=true then (DK true x1 x2) else (if (!x1.2.2.2.1)=true then (DK (!x1.2.2.1) x1 x2) else (DK false x1 x2)))
def Oi (x1:List Int) (x2:AA) (b0:U):Option (List AA×U):=((CQ x1 b0.1).bind fun y1=>(if (!y1)=true then (some ([],b0)) else (if 0<=(0:Int) then (if 0<(x1.length:Int) then (if ((x1.getD (0:Int).toNat 0)==b0.1)=true then (some ([],b0)) else (LG ((x1.getD (0:Int).toNat 0)==b0.1) b0 x2)) else none) else none)))
theorem Vs:SW LH DK:=jS (by kernel_rfl)
theorem Vt:SW LI LG:=jS (by kernel_rfl)
theorem bo:SW Oi I8:=cT Bn rfl ⟨rfl,rfl⟩ (by kernel_rfl)
def eC (x0:List Int) (x1:Int):Option (List Int):=((B0 x0).bind fun y1=>((Fm y1 x1).bind fun y2=>(some y2)))
theorem ud:OJ eC Nc:=cT NQ rfl ⟨rfl,rfl⟩ (by kernel_rfl)
def N_ (x0:Bool) (x1:U) (x2:AA):Option (List AA×U):=cG OW (AI D7) (AI D7) kx ⟨[(0,.ptr 0 0),(3,.ptr 1 0),(18,.bool x0)],[.var (X.enc x1),.var (AH.enc x2)]⟩
def OA (x0:Bool) (x1:U) (x2:AA):Option (List AA×U):=(if (x2.1==7)=true then ((Ar ([x2.2.1]:List Int) (8,0,0,0,x2.2.2.2.2.1,([]:List Z)) x1).bind fun y1=>(some (y1.1,y1.2))) else (if 0<=(0:Int) then (if 0<(x2.2.2.2.2.2.length:Int) then ((Nd x1.2.2.2.2.2.2.2.1 (x2.2.2.2.2.2.getD (0:Int).toNat (O,O,0))).bind fun y2=>((Ar ([x2.2.1]:List Int) (6,0,0,0,x2.2.2.2.2.1,([]:List Z)) (x1.1,x1.2.1,x1.2.2.1,x1.2.2.2.1,x1.2.2.2.2.1,x1.2.2.2.2.2.1,x1.2.2.2.2.2.2.1,y2,x1.2.2.2.2.2.2.2.2)).bind fun y3=>(some (y3.1,y3.2)))) else none) else none))
def R1 (x1:AA) (b0:U):Option (List AA×U):=(if (x1.2.2.2.1 != b0.2.1)=true then (some ([],b0)) else (if (!b0.2.2.2.1)=true then (some ([],b0)) else (N_ (!b0.2.2.2.1) b0 x1)))
theorem Yd:SW OA N_:=jS (by kernel_rfl)
theorem fk:OJ R1 Kp:=cT D7 rfl ⟨rfl,rfl⟩ (by kernel_rfl)
def Mk (x0:Bool) (x1:U) (x2:AA):Option (List AK×U):=cG Mh (AI Dd) (AI Dd) kx ⟨[(0,.ptr 0 0),(5,.ptr 1 0),(32,.bool x0)],[.var (X.enc x1),.var (AH.enc x2)]⟩
def Ml (x0:Bool) (x1:U) (x2:AA):Option (List AK×U):=((Nc x1.2.2.2.2.2.2.2.2.2.2.2.2.2 x2.2.1).bind fun y1=>(if (decide ((y1.length:Int)>0))=true then (some ([],(x1.1,x1.2.1,x1.2.2.1,x1.2.2.2.1,x1.2.2.2.2.1,x1.2.2.2.2.2.1,x1.2.2.2.2.2.2.1,x1.2.2.2.2.2.2.2.1,x1.2.2.2.2.2.2.2.2.1,x1.2.2.2.2.2.2.2.2.2.1,x1.2.2.2.2.2.2.2.2.2.2.1,x1.2.2.2.2.2.2.2.2.2.2.2.1,x1.2.2.2.2.2.2.2.2.2.2.2.2.1,y1))) else ((IS (x1.1,x1.2.1,x1.2.2.1,x1.2.2.2.1,x1.2.2.2.2.1,x1.2.2.2.2.2.1,x1.2.2.2.2.2.2.1,x1.2.2.2.2.2.2.2.1,x1.2.2.2.2.2.2.2.2.1,x1.2.2.2.2.2.2.2.2.2.1,x1.2.2.2.2.2.2.2.2.2.2.1,x1.2.2.2.2.2.2.2.2.2.2.2.1,x1.2.2.2.2.2.2.2.2.2.2.2.2.1,y1)).bind fun y2=>(some (y2.1,y2.2)))))
def QE (x1:Int) (x2:AA) (b0:U):Option (List AK×U):=(if (x2.2.2.2.1 != b0.2.1)=true then (some ([],b0)) else (if (b0.2.2.2.2.2.2.2.2.2.1 != x1)=true then (some ([],b0)) else (if (b0.2.2.2.2.2.2.2.2.2.2.2.1 != x2.2.2.2.2.1)=true then (some ([],b0)) else (Mk (b0.2.2.2.2.2.2.2.2.2.2.2.1 != x2.2.2.2.2.1) b0 x2))))
theorem XZ:SW Ml Mk:=jS (by kernel_rfl)
theorem eD:SW QE G3:=cT Dd rfl ⟨rfl,rfl⟩ (by kernel_rfl)
def eE (b0:AL):Option (Z×AL):=((Vm b0).bind fun y1=>((Vn y1.2).bind fun y2=>((BP 30 y2.2).bind fun y3=>(some ((y1.1,y2.1,(i64.wrap (1001+y3.1))),y3.2)))))
theorem ue:Ma eE S_:=cT NS rfl ⟨rfl,rfl⟩ (by kernel_rfl)
def H9:=kE 0 [] [] 1 (AI Ae) kx
def Hv:St->Option (RT (BG.outs Ae)):=lG Hl [(0,0)] [0,1,2,3,8,9] 1 (AI Ae) H9
def H_:=kB [(0,0)] [0,1,2,3,8,9] 1 Hv
def CO:=kB [(0,0)] [0,1,2,3,8,9] 1 H_
def Bo:=kE 1 [(0,0)] [0,1,2,3,8,9] 1 H_ H9
def QF:=cG ET CO (AI Ae) Bo
def Hw (x0 x1 x2:Int) (x3 x4:Bool) (x5 x6:Int) (x7:Bool) (x8:List Int):Option (List Int):=cG ET CO (AI Ae) Bo ⟨[(0,.row 0),(1,.int .i64 x0),(2,.int .i64 x1),(3,.int .i64 x2),(8,.bool x3),(9,.bool x4),(10,.int .i64 x5),(11,.int .i64 x6),(87,.bool x7)],[.mrow 3 (.int .i64) x8]⟩
def EW (x0 x1 x2:Int) (x3 x4:Bool) (x5 x6:Int) (x7:Bool) (x8:List Int):Option (List Int):=cG Hh QF (AI Ae) Bo ⟨[(0,.row 0),(1,.int .i64 x0),(2,.int .i64 x1),(3,.int .i64 x2),(8,.bool x3),(9,.bool x4),(10,.int .i64 x5),(11,.int .i64 x6),(87,.bool x7)],[.mrow 3 (.int .i64) x8]⟩
def CG (x0 x1 x2:Int) (x3 x4:Bool) (x5 x6:Int) (x7:List Int):Option (List Int):=cG Hi CO (AI Ae) Bo ⟨[(0,.row 0),(1,.int .i64 x0),(2,.int .i64 x1),(3,.int .i64 x2),(8,.bool x3),(9,.bool x4),(10,.int .i64 x5),(11,.int .i64 x6)],[.mrow 3 (.int .i64) x7]⟩
def EX (x0 x1 x2:Int) (x3 x4:Bool) (x5 x6 x7:Int) (x8:List Int):Option (List Int):=cG Hj CO (AI Ae) Bo ⟨[(0,.row 0),(1,.int .i64 x0),(2,.int .i64 x1),(3,.int .i64 x2),(8,.bool x3),(9,.bool x4),(10,.int .i64 x5),(11,.int .i64 x6),(12,.int .i64 x7)],[.mrow 3 (.int .i64) x8]⟩
def EY (x0 x1 x2:Int) (x3 x4:Bool) (x5:Int) (x6:List Int):Option (List Int):=cG Hk CO (AI Ae) Bo ⟨[(0,.row 0),(1,.int .i64 x0),(2,.int .i64 x1),(3,.int .i64 x2),(8,.bool x3),(9,.bool x4),(10,.int .i64 x5)],[.mrow 3 (.int .i64) x6]⟩
def CH (x0 x1 x2:Int) (x3 x4:Bool) (x5:List Int):Option (List Int):=Hv ⟨[(0,.row 0),(1,.int .i64 x0),(2,.int .i64 x1),(3,.int .i64 x2),(8,.bool x3),(9,.bool x4)],[.mrow 3 (.int .i64) x5]⟩
def PF (x0 x1 x2:Int) (x3 x4:Bool) (x5 x6:Int) (x7:Bool) (x8:List Int):Option (List Int):=((P5 x0 x1 x6 x8).bind fun y9=>(if 8=0 then none else (if (decide ((i64.wrap (y9.1-x0))<(i64.wrap (x1-y9.1))))=true then ((Cm x0 y9.1 x2 y9.2.2).bind fun y10=>(CH (i64.wrap (y9.1+1)) x1 x2 (decide ((i64.wrap (y9.1-x0))>=(i64.wrap (Int.tdiv x5 8)))) y9.2.1 y10)) else ((Cm (i64.wrap (y9.1+1)) x1 x2 y9.2.2).bind fun y11=>(CH x0 y9.1 x2 (decide ((i64.wrap (x1-y9.1))>=(i64.wrap (Int.tdiv x5 8)))) y9.2.1 y11)))))
def PH (x0 x1 x2:Int) (x3 x4:Bool) (x5 x6:Int) (x7:Bool) (x8:List Int):Option (List Int):=(if x7=true then ((MA x0 x1 x6 x8).bind fun y8=>(CH y8.1 x1 x2 x3 x4 y8.2)) else (Hw x0 x1 x2 x3 x4 x5 x6 x7 x8))
def PI (x0 x1 x2:Int) (x3 x4:Bool) (x5 x6:Int) (x7:List Int):Option (List Int):=(if (decide (x0>0))=true then (if 0<=(i64.wrap (x0-1)) then (if (i64.wrap (x0-1))<(x7.length:Int) then (if 0<=x6 then (if x6<(x7.length:Int) then ((Nf (x7.getD ((i64.wrap (x0-1)).toNat) 0) (x7.getD x6.toNat 0)).bind fun y7=>(EW x0 x1 x2 x3 x4 x5 x6 (!y7) x7)) else none) else none) else none) else none) else (EW x0 x1 x2 x3 x4 x5 x6 false x7))
def PJ (x0 x1 x2:Int) (x3 x4:Bool) (x5 x6 x7:Int) (x8:List Int):Option (List Int):=(if x3=true then (if x4=true then (if (x7==1)=true then ((I9 x0 x1 x8).bind fun y6=>(if y6.1=true then (some y6.2) else (CG x0 x1 x2 x3 x4 x5 x6 y6.2))) else (CG x0 x1 x2 x3 x4 x5 x6 x8)) else (CG x0 x1 x2 x3 x4 x5 x6 x8)) else (CG x0 x1 x2 x3 x4 x5 x6 x8))
def PL (x0 x1 x2:Int) (x3 x4:Bool) (x5:Int) (x6:List Int):Option (List Int):=((OL x0 x1 x6).bind fun y4=>(if (y4.2.1==2)=true then ((Nh x0 x1 y4.2.2).bind fun y5=>(EX x0 x1 x2 x3 x4 x5 (i64.wrap ((i64.wrap (x1-1))-(i64.wrap (y4.1-x0)))) 1 y5)) else (EX x0 x1 x2 x3 x4 x5 y4.1 y4.2.1 y4.2.2)))
def Hx (x0 x1 x2:Int) (x3 x4:Bool) (x5:List Int):Option (List Int):=(if (decide ((i64.wrap (x1-x0))<=12))=true then ((Dl x0 x1 x5).bind fun y1=>(some y1)) else (if (x2==0)=true then ((Qd x0 x1 x5).bind fun y2=>(some y2)) else (if (!x3)=true then ((Mr x0 x1 x5).bind fun y3=>(EY x0 x1 (i64.wrap (x2-1)) x3 x4 (i64.wrap (x1-x0)) y3)) else (EY x0 x1 x2 x3 x4 (i64.wrap (x1-x0)) x5))))
def JX (x1 x2 x3:Int) (b0:List Int):Option (List Int):=(CH x1 x2 x3 true true b0)
theorem oI:Le9 PF Hw:=jS (by kernel_rfl)
theorem oJ:Le9 PH EW:=jS (by kernel_rfl)
theorem oK:zH PI CG:=jS (by kernel_rfl)
theorem oL:Le9 PJ EX:=jS (by kernel_rfl)
theorem oM:Le7 PL EY:=jS (by kernel_rfl)
theorem PN:Le6 Hx CH:=lS (by kernel_rfl)
theorem SQ:gN JX Cm:=cT Ae rfl ⟨rfl,rfl⟩ (by kernel_rfl)
def bM (x0:Int):Option Int:=((Ng x0).bind fun y1=>(some y1))
theorem rE:Ma bM Qc:=cT LZ rfl ⟨rfl,rfl⟩ (by kernel_rfl)
def JY (x0:List Z) (x1:Z) (x2:List Z):Option (List Z):=cG Wm (AI Et) (AI Et) kx ⟨[(0,.lst AF x0),(5,.row 1)],[.var (AF.enc x1),.rows 38 AF x2]⟩
def JZ (x0:List Z) (x1:Int) (x2 x3:Bool) (x4:Z) (x5:List Z):Option (List Z):=cG Wn (AI Et) (AI Et) kx ⟨[(0,.lst AF x0),(3,.ptr 0 0),(5,.row 1),(6,.int .i64 x1),(7,.bool x2),(32,.bool x3)],[.var (AF.enc x4),.rows 38 AF x5]⟩
def VT (x0:List Z) (x1:Z) (x2:List Z):Option (List Z):=((GH x2).bind fun y5=>(if (!y5)=true then ((Ap x0).bind fun y6=>(some y6)) else (some x2)))
def VU (x0:List Z) (x1:Int) (x2 x3:Bool) (x4:Z) (x5:List Z):Option (List Z):=(if x2=true then (if 0<=x1 then (if x1<(x5.length:Int) then (let z4:List Z:=x5.set x1.toNat x4; (JY x0 x4 z4)) else none) else none) else ((DJ x5 x1 ([x4]:List Z)).bind fun y7=>(JY x0 x4 y7)))
def eF (x0:List Z) (x1:Z):Option (List Z):=((Ap x0).bind fun y1=>((Bf x0 x1.1 ()).bind fun y2=>((GH x0).bind fun y3=>(if (!y3)=true then (some y1) else (if y2.2=true then (if 0<=y2.1 then (if y2.1<(x0.length:Int) then (if (decide ((((x0.getD y2.1.toNat (O,O,0)).2).2)>=x1.2.2))=true then (some y1) else (JZ x0 y2.1 y2.2 (decide ((((x0.getD y2.1.toNat (O,O,0)).2).2)>=x1.2.2)) x1 y1)) else none) else none) else (JZ x0 y2.1 y2.2 false x1 y1))))))
theorem lq:SW VT JY:=jS (by kernel_rfl)
theorem lr:Le6 VU JZ:=jS (by kernel_rfl)
theorem uf:OJ eF Nd:=cT Et rfl ⟨rfl,rfl⟩ (by kernel_rfl)
def rF:=cG Z3 (AI Fw) (AI Fw) kx
def rG:=kE 0 [] [] 0 rF kx
def oN:St->Option (RT (BG.outs Fw)):=lG Z2 [] [0,3] 0 (AI Fw) rG
def Hy (x0:List Int) (x1:Int):Option Bool:=oN ⟨[(0,.lst (.int .i64) x0),(3,.int .i64 x1)],[]⟩
def PO (x0:List Int) (x1:Int):Option Bool:=(if (decide (x1<(x0.length:Int)))=true then (if 0<=x1 then (if x1<(x0.length:Int) then ((AW (x0.getD x1.toNat 0) 1 6).bind fun y1=>(if (!y1)=true then (some false) else (if (decide (x1>0))=true then (if 0<=(i64.wrap (x1-1)) then (if (i64.wrap (x1-1))<(x0.length:Int) then (if 0<=x1 then (if x1<(x0.length:Int) then (if (decide ((x0.getD (i64.wrap (x1-1)).toNat 0)>=(x0.getD x1.toNat 0)))=true then (some false) else (Hy x0 (i64.wrap (x1+1)))) else none) else none) else none) else none) else (Hy x0 (i64.wrap (x1+1)))))) else none) else none) else (some true))
def gX (x0:List Int):Option Bool:=(Hy x0 0)
theorem Xa:OJ PO Hy:=lS (by kernel_rfl)
theorem v_:Ma gX Dn:=cT Fw rfl ⟨rfl,rfl⟩ (by kernel_rfl)
def oO:=cG Ur (AI Eu) (AI Eu) kx
def oP:=kE 0 [] [0] 0 oO kx
def lu:St->Option (RT (BG.outs Eu)):=lG Uq [] [0,3] 0 (AI Eu) oP
def HA (x0:List Z) (x1:Int):Option Bool:=lu ⟨[(0,.lst AF x0),(3,.int .i64 x1)],[]⟩
def OB (x0:List Z) (x1:Int):Option Bool:=(if (decide (x1<(x0.length:Int)))=true then (if 0<=x1 then (if x1<(x0.length:Int) then ((AW (((x0.getD x1.toNat (O,O,0)).1).size:Int) 1 12).bind fun y1=>(if (!y1)=true then (some false) else (if (decide (((((x0.getD x1.toNat (O,O,0)).2).1).size:Int)>20))=true then (some false) else ((AW (((x0.getD x1.toNat (O,O,0)).2).2) 1 1000000000).bind fun y2=>(if (!y2)=true then (some false) else (if (decide (x1>0))=true then (if 0<=(i64.wrap (x1-1)) then (if (i64.wrap (x1-1))<(x0.length:Int) then (if (!(Op.bytesLess ((x0.getD (i64.wrap (x1-1)).toNat (O,O,0)).1).toList ((x0.getD x1.toNat (O,O,0)).1).toList))=true then (some false) else (HA x0 (i64.wrap (x1+1)))) else none) else none) else (HA x0 (i64.wrap (x1+1))))))))) else none) else none) else (some (decide ((x0.length:Int)<=12))))
def eG (x0:List Z):Option Bool:=(HA x0 0)
theorem VV:OJ OB HA:=lS (by kernel_rfl)
theorem ug:Ma eG Dz:=cT Eu rfl ⟨rfl,rfl⟩ (by kernel_rfl)
def Xb (x0:xR):Option Bool:=(if (x0.1==0)=true then (if (x0.2.1==0)=true then (if (x0.2.2.1==0)=true then (if (false != OI AF x0.2.2.2.1 (O,O,0))=true then (some ((x0.2.2.2.2.length:Int)==0)) else (some false)) else (some false)) else (some false)) else (some false))
theorem oQ:Ma Xb Oz:=cT KJ rfl ⟨rfl,rfl⟩ (by kernel_rfl)
def fm:=cG RX (AI DC) (AI DC) kx
def fo:=kE 0 [(5,0)] [5] 1 fm kx
def eH:St->Option (RT (BG.outs DC)):=lG RW [(5,0)] [0,1,5,6] 1 (AI DC) fo
def Ez (x0:List Int) (x1 x2:Int) (x3:List Int):Option (List Int):=eH ⟨[(0,.lst (.int .i64) x0),(1,.int .i64 x1),(5,.row 0),(6,.int .i64 x2)],[.rows 3 (.int .i64) x3]⟩
def Jv (x0:List Int) (x1 x2:Int) (x3:List Int):Option (List Int):=(if (decide (x2<(x0.length:Int)))=true then (if 0<=x2 then (if x2<(x0.length:Int) then (if ((x0.getD x2.toNat 0) != x1)=true then (if 0<=x2 then (if x2<(x0.length:Int) then (if x3.length+([(x0.getD x2.toNat 0)]:List Int).length<=68719476736 then (Ez x0 x1 (i64.wrap (x2+1)) (x3++([(x0.getD x2.toNat 0)]:List Int))) else none) else none) else none) else (Ez x0 x1 (i64.wrap (x2+1)) x3)) else none) else none) else (some x3))
def VX (x0:List Int) (x1:Int):Option (List Int):=(Ez x0 x1 0 ([]:List Int))
theorem QG:gN Jv Ez:=lS (by kernel_rfl)
theorem lw:OJ VX JM:=cT DC rfl ⟨rfl,rfl⟩ (by kernel_rfl)
def gY (b0:AL):Option (ByteArray×AL):=((GJ ([(⟨#[97]⟩:ByteArray),(⟨#[98]⟩:ByteArray),(⟨#[99]⟩:ByteArray),(⟨#[100]⟩:ByteArray),(⟨#[101]⟩:ByteArray),(⟨#[102]⟩:ByteArray),(⟨#[103]⟩:ByteArray),(⟨#[104]⟩:ByteArray),(⟨#[107,49]⟩:ByteArray),(⟨#[107,50]⟩:ByteArray),(⟨#[107,51]⟩:ByteArray),(⟨#[107,101,121]⟩:ByteArray)]:List ByteArray) b0).bind fun y1=>(some (y1.1,y1.2)))
theorem wA:Ma gY Vm:=cT Pf rfl ⟨rfl,rfl⟩ (by kernel_rfl)
def gZ (b0:AL):Option (ByteArray×AL):=((GJ ([(⟨#[]⟩:ByteArray),(⟨#[118]⟩:ByteArray),(⟨#[119]⟩:ByteArray),(⟨#[120,120]⟩:ByteArray),(⟨#[121,121,121]⟩:ByteArray)]:List ByteArray) b0).bind fun y1=>(some (y1.1,y1.2)))
theorem wB:Ma gZ Vn:=cT Pg rfl ⟨rfl,rfl⟩ (by kernel_rfl)
def DL:=kE 0 [] [] 1 (AI Aa) kx
def FW:St->Option (RT (BG.outs Aa)):=lG F0 [(0,0)] [0,1,2,6] 1 (AI Aa) DL
def LJ:=kB [(0,0)] [0,1,2,6] 1 FW
def F4:=cG Fz LJ (AI Aa) DL
def LK:=kB [(0,0)] [0,1,2,6] 1 F4
def LL:=kE 1 [(0,0)] [0,1,2,6] 1 F4 DL
def F5:=kE 2 [(0,0)] [0,1,2,6] 1 LK LL
def FX:St->Option (RT (BG.outs Aa)):=lG Fy [(0,0)] [0,1,2,6,7] 1 (AI Aa) F5
def LN:=kB [(0,0)] [0,1,2,6,7] 1 FX
def FY (x0 x1 x2 x3:Int) (x4:Bool) (x5:List Int):Option (List Int):=cG Fx LN (AI Aa) F5 ⟨[(0,.row 0),(1,.int .i64 x0),(2,.int .i64 x1),(6,.int .i64 x2),(7,.int .i64 x3),(30,.bool x4)],[.mrow 3 (.int .i64) x5]⟩
def B9 (x0 x1 x2 x3:Int) (x4:List Int):Option (List Int):=FX ⟨[(0,.row 0),(1,.int .i64 x0),(2,.int .i64 x1),(6,.int .i64 x2),(7,.int .i64 x3)],[.mrow 3 (.int .i64) x4]⟩
def BF (x0 x1 x2:Int) (x3:List Int):Option (List Int):=FW ⟨[(0,.row 0),(1,.int .i64 x0),(2,.int .i64 x1),(6,.int .i64 x2)],[.mrow 3 (.int .i64) x3]⟩
def FZ (x0 x1 x2 x3:Int) (x4:Bool) (x5:List Int):Option (List Int):=(if 0<=(i64.wrap (x3-1)) then (if (i64.wrap (x3-1))<(x5.length:Int) then (if 0<=x3 then (if x3<(x5.length:Int) then (if 0<=x3 then (if x3<(x5.length:Int) then (let z2:List Int:=x5.set x3.toNat (x5.getD ((i64.wrap (x3-1)).toNat) 0); (if 0<=(i64.wrap (x3-1)) then (if (i64.wrap (x3-1))<(z2.length:Int) then (let z3:List Int:=z2.set ((i64.wrap (x3-1)).toNat) (x5.getD x3.toNat 0); (B9 x0 x1 x2 (i64.wrap (x3-1)) z3)) else none) else none)) else none) else none) else none) else none) else none) else none)
def C_ (x0 x1 x2 x3:Int) (x4:List Int):Option (List Int):=(if (decide (x3>x0))=true then (if 0<=x3 then (if x3<(x4.length:Int) then (if 0<=(i64.wrap (x3-1)) then (if (i64.wrap (x3-1))<(x4.length:Int) then ((Nf (x4.getD x3.toNat 0) (x4.getD ((i64.wrap (x3-1)).toNat) 0)).bind fun y1=>(if y1=true then (FY x0 x1 x2 x3 y1 x4) else (BF x0 x1 (i64.wrap (x2+1)) x4))) else none) else none) else none) else none) else (BF x0 x1 (i64.wrap (x2+1)) x4))
def B_ (x0 x1 x2:Int) (x3:List Int):Option (List Int):=(if (decide (x2<x1))=true then (B9 x0 x1 x2 x2 x3) else (some x3))
def Dm (x1 x2:Int) (b0:List Int):Option (List Int):=(BF x1 x2 (i64.wrap (x1+1)) b0)
theorem K7:Le6 FZ FY:=jS (by kernel_rfl)
theorem Fa:Le5 C_ B9:=lS (by kernel_rfl)
theorem DA:gN B_ BF:=lS (by kernel_rfl)
theorem Gf:SW Dm Dl:=cT Aa rfl ⟨rfl,rfl⟩ (by kernel_rfl)
def eI (x0 x1:Int):Option Bool:=((Lc x0).bind fun y1=>(if y1=true then ((Lc x1).bind fun y2=>(if (!y2)=false then (some (decide (x0<x1))) else (some true))) else (some (decide (x0<x1)))))
theorem uh:OJ eI Nf:=cT NT rfl ⟨rfl,rfl⟩ (by kernel_rfl)
def HB (x0 x1:Int):Option Int:=cG RY (AI DD) (AI DD) kx ⟨[(0,.int .u64 x0),(2,.int .i64 x1)],[]⟩
def Jw (x0 x1:Int):Option Int:=cG RZ (AI DD) (AI DD) kx ⟨[(0,.int .u64 x0),(2,.int .i64 x1)],[]⟩
def Jx (x0 x1:Int):Option Int:=(if (decide (x0>=256))=true then (if 8<0 then none else (if 0<=(IntKind.u8.wrap (Int.fdiv x0 (2^(min (8:Int).toNat (IntKind.bits .u64))))) then (if (IntKind.u8.wrap (Int.fdiv x0 (2^(min (8:Int).toNat (IntKind.bits .u64)))))<((⟨#[0,1,2,2,3,3,3,3,4,4,4,4,4,4,4,4,5,5,5,5,5,5,5,5,5,5,5,5,5,5,5,5,6,6,6,6,6,6,6,6,6,6,6,6,6,6,6,6,6,6,6,6,6,6,6,6,6,6,6,6,6,6,6,6,7,7,7,7,7,7,7,7,7,7,7,7,7,7,7,7,7,7,7,7,7,7,7,7,7,7,7,7,7,7,7,7,7,7,7,7,7,7,7,7,7,7,7,7,7,7,7,7,7,7,7,7,7,7,7,7,7,7,7,7,7,7,7,7,8,8,8,8,8,8,8,8,8,8,8,8,8,8,8,8,8,8,8,8,8,8,8,8,8,8,8,8,8,8,8,8,8,8,8,8,8,8,8,8,8,8,8,8,8,8,8,8,8,8,8,8,8,8,8,8,8,8,8,8,8,8,8,8,8,8,8,8,8,8,8,8,8,8,8,8,8,8,8,8,8,8,8,8,8,8,8,8,8,8,8,8,8,8,8,8,8,8,8,8,8,8,8,8,8,8,8,8,8,8,8,8,8,8,8,8,8,8,8,8,8,8,8,8,8,8,8,8]⟩:ByteArray).size:Int) then (some (i64.wrap ((i64.wrap (x1+8))+(i64.wrap (((⟨#[0,1,2,2,3,3,3,3,4,4,4,4,4,4,4,4,5,5,5,5,5,5,5,5,5,5,5,5,5,5,5,5,6,6,6,6,6,6,6,6,6,6,6,6,6,6,6,6,6,6,6,6,6,6,6,6,6,6,6,6,6,6,6,6,7,7,7,7,7,7,7,7,7,7,7,7,7,7,7,7,7,7,7,7,7,7,7,7,7,7,7,7,7,7,7,7,7,7,7,7,7,7,7,7,7,7,7,7,7,7,7,7,7,7,7,7,7,7,7,7,7,7,7,7,7,7,7,7,8,8,8,8,8,8,8,8,8,8,8,8,8,8,8,8,8,8,8,8,8,8,8,8,8,8,8,8,8,8,8,8,8,8,8,8,8,8,8,8,8,8,8,8,8,8,8,8,8,8,8,8,8,8,8,8,8,8,8,8,8,8,8,8,8,8,8,8,8,8,8,8,8,8,8,8,8,8,8,8,8,8,8,8,8,8,8,8,8,8,8,8,8,8,8,8,8,8,8,8,8,8,8,8,8,8,8,8,8,8,8,8,8,8,8,8,8,8,8,8,8,8,8,8,8,8,8,8]⟩:ByteArray).data.toList.getD (IntKind.u8.wrap (Int.fdiv x0 (2^(min (8:Int).toNat (IntKind.bits .u64))))).toNat 0).toNat:Int))))) else none) else none)) else (if 0<=(IntKind.u8.wrap x0) then (if (IntKind.u8.wrap x0)<((⟨#[0,1,2,2,3,3,3,3,4,4,4,4,4,4,4,4,5,5,5,5,5,5,5,5,5,5,5,5,5,5,5,5,6,6,6,6,6,6,6,6,6,6,6,6,6,6,6,6,6,6,6,6,6,6,6,6,6,6,6,6,6,6,6,6,7,7,7,7,7,7,7,7,7,7,7,7,7,7,7,7,7,7,7,7,7,7,7,7,7,7,7,7,7,7,7,7,7,7,7,7,7,7,7,7,7,7,7,7,7,7,7,7,7,7,7,7,7,7,7,7,7,7,7,7,7,7,7,7,8,8,8,8,8,8,8,8,8,8,8,8,8,8,8,8,8,8,8,8,8,8,8,8,8,8,8,8,8,8,8,8,8,8,8,8,8,8,8,8,8,8,8,8,8,8,8,8,8,8,8,8,8,8,8,8,8,8,8,8,8,8,8,8,8,8,8,8,8,8,8,8,8,8,8,8,8,8,8,8,8,8,8,8,8,8,8,8,8,8,8,8,8,8,8,8,8,8,8,8,8,8,8,8,8,8,8,8,8,8,8,8,8,8,8,8,8,8,8,8,8,8,8,8,8,8,8,8]⟩:ByteArray).size:Int) then (some (i64.wrap (x1+(i64.wrap (((⟨#[0,1,2,2,3,3,3,3,4,4,4,4,4,4,4,4,5,5,5,5,5,5,5,5,5,5,5,5,5,5,5,5,6,6,6,6,6,6,6,6,6,6,6,6,6,6,6,6,6,6,6,6,6,6,6,6,6,6,6,6,6,6,6,6,7,7,7,7,7,7,7,7,7,7,7,7,7,7,7,7,7,7,7,7,7,7,7,7,7,7,7,7,7,7,7,7,7,7,7,7,7,7,7,7,7,7,7,7,7,7,7,7,7,7,7,7,7,7,7,7,7,7,7,7,7,7,7,7,8,8,8,8,8,8,8,8,8,8,8,8,8,8,8,8,8,8,8,8,8,8,8,8,8,8,8,8,8,8,8,8,8,8,8,8,8,8,8,8,8,8,8,8,8,8,8,8,8,8,8,8,8,8,8,8,8,8,8,8,8,8,8,8,8,8,8,8,8,8,8,8,8,8,8,8,8,8,8,8,8,8,8,8,8,8,8,8,8,8,8,8,8,8,8,8,8,8,8,8,8,8,8,8,8,8,8,8,8,8,8,8,8,8,8,8,8,8,8,8,8,8,8,8,8,8,8,8]⟩:ByteArray).data.toList.getD (IntKind.u8.wrap x0).toNat 0).toNat:Int))))) else none) else none))
def QH (x0 x1:Int):Option Int:=(if (decide (x0>=65536))=true then (if 16<0 then none else (HB (Int.fdiv x0 (2^(min (16:Int).toNat (IntKind.bits .u64)))) (i64.wrap (x1+16)))) else (HB x0 x1))
def VY (x0:Int):Option Int:=(if (decide (x0>=4294967296))=true then (if 32<0 then none else (Jw (Int.fdiv x0 (2^(min (32:Int).toNat (IntKind.bits .u64)))) 32)) else (Jw x0 0))
theorem eJ:OJ Jx HB:=jS (by kernel_rfl)
theorem eK:OJ QH Jw:=jS (by kernel_rfl)
theorem lx:Ma VY Ng:=cT DD rfl ⟨rfl,rfl⟩ (by kernel_rfl)

def FK:=cG Bb (AI AO) (AI AO) kx
def FM:=kE 0 [] [0,1,2,8,9] 0 FK kx
def E2:St->Option (RT (BG.outs AO)):=lG CZ [] [0,1,2,8,9,10] 0 (AI AO) FM
def CW (x0:List Z) (x1:ByteArray) (x2 x3:Int):Option (Int×Bool):=cG Bb (AI AO) (AI AO) kx ⟨[(0,.lst AF x0),(1,.str x1),(2,.fn 160 []),(8,.int .i64 x2),(9,.int .i64 x3)],[]⟩
def AR (x0:List Z) (x1:ByteArray) (x2 x3 x4:Int):Option (Int×Bool):=E2 ⟨[(0,.lst AF x0),(1,.str x1),(2,.fn 160 []),(8,.int .i64 x2),(9,.int .i64 x3),(10,.int .i64 x4)],[]⟩
def CX (x0:List Z) (x1:ByteArray) (x2 x3:Int):Option (Int×Bool):=(if (decide (x3<x2))=true then (if 0<=x3 then (if x3<(x0.length:Int) then ((KP (x0.getD x3.toNat (O,O,0)) x1).bind fun y2=>(some (x3,(y2==0)))) else none) else none) else (some (x3,false)))
def BW (x0:List Z) (x1:ByteArray) (x2 x3 x4:Int):Option (Int×Bool):=(if (decide (x3<x4))=true then (if 1<0 then none else (if 0<=(i64.wrap (Int.fdiv (IntKind.u64.wrap (i64.wrap (x3+x4))) (2^(min (1:Int).toNat (IntKind.bits .u64))))) then (if (i64.wrap (Int.fdiv (IntKind.u64.wrap (i64.wrap (x3+x4))) (2^(min (1:Int).toNat (IntKind.bits .u64)))))<(x0.length:Int) then ((KP (x0.getD (i64.wrap (Int.fdiv (IntKind.u64.wrap (i64.wrap (x3+x4))) (2^(min (1:Int).toNat (IntKind.bits .u64))))).toNat (O,O,0)) x1).bind fun y1=>(if (decide (y1<0))=true then (AR x0 x1 x2 (i64.wrap ((i64.wrap (Int.fdiv (IntKind.u64.wrap (i64.wrap (x3+x4))) (2^(min (1:Int).toNat (IntKind.bits .u64)))))+1)) x4) else (AR x0 x1 x2 x3 (i64.wrap (Int.fdiv (IntKind.u64.wrap (i64.wrap (x3+x4))) (2^(min (1:Int).toNat (IntKind.bits .u64)))))))) else none) else none)) else (CW x0 x1 x2 x3))
def Cn (x0:List Z) (x1:ByteArray) (x2:Unit):Option (Int×Bool):=(AR x0 x1 (x0.length:Int) 0 (x0.length:Int))
theorem E3:gN CX CW:=jS (by kernel_rfl)
theorem CY:Le5 BW AR:=lS (by kernel_rfl)
theorem Fp:SW Cn Bf:=cT AO rfl ⟨rfl,rfl⟩ (by kernel_rfl)
def Xc (x0:Z) (x1:ByteArray):Option Int:=((Ni x0.1 x1).bind fun y1=>(some y1))
theorem oR:OJ Xc KP:=cT KK rfl ⟨rfl,rfl⟩ (by kernel_rfl)
def bN (x0:Int):Option Bool:=(some (x0 != x0))
theorem rH:Ma bN Lc:=cT La rfl ⟨rfl,rfl⟩ (by kernel_rfl)
end
end Go.Proofs.YtokiohnjegbnpaaGreat.Core


namespace Go.Proofs.YtokiohnjegbnpaaGreat.Core
open Go
theorem Af {n:Int} (h:-9223372036854775808<=n/\n<=9223372036854775807):IntKind.i64.wrap n=n:=IntWalk.i64_in n h
theorem AM {i:Nat} (h:i<9223372036854775807):IntKind.i64.wrap ((i:Int)+1)=((i+1:Nat):Int):=by
 rw [Af (by omega)]
 omega
theorem E0 {P:Nat->Prop} {n:Nat} (h0:P n) (h:∀ i,i<n->P (i+1)->P i):∀ i,i<=n->P i:=by
 intro i hi
 induction hk:n-i generalizing i with
 | zero =>
  have:i=n:=by omega
  subst this
  exact h0
 | succ k ih=>exact h i (by omega) (ih (i+1) (by omega) (by omega))
theorem AU {α:Type} {xs:List α} {i:Nat} {d:α} (h:i<xs.length):xs.getD i d=xs[i]:=by
 simp [List.getD,h]

theorem A_ (a b c:Int):AW a b c=some (decide (b<=a)&&decide (a<=c)):=yJ (by
 unfold kh
 by_cases h:b<=a<;>simp [h])
theorem Aw (a b c:Int):Aj a b c=some (decide (b<=a)&&decide (a<=c)):=uD (by
 unfold dV
 by_cases h:b<=a<;>simp [h])
def DU (x:Int×ByteArray×ByteArray×Int×Int×Int×Int×Int×ByteArray):Int :=
 if (decide ((0:Int)<=x.2.2.2.2.2.2.1)&&decide (x.2.2.2.2.2.2.1<=9))&&(decide ((0:Int)<=x.2.2.2.2.2.2.2.1)&&decide (x.2.2.2.2.2.2.2.1<=999)) then IntKind.i64.wrap (IntKind.i64.wrap (1000*x.2.2.2.2.2.2.1)+x.2.2.2.2.2.2.2.1) else 0
theorem Lo x:Fl x=some (DU x):=yH (by
 unfold kc DU
 simp only [A_,Y]
 generalize (decide ((0:Int)<=x.2.2.2.2.2.2.1)&&decide (x.2.2.2.2.2.2.1<=9))=a
 generalize (decide ((0:Int)<=x.2.2.2.2.2.2.2.1)&&decide (x.2.2.2.2.2.2.2.1<=999))=b
 cases a<;>cases b<;>simp)
theorem Lq x:Dt x=some (DU x):=yB (by
 unfold kH DU
 simp only [Aw,Y]
 generalize (decide ((0:Int)<=x.2.2.2.2.2.2.1)&&decide (x.2.2.2.2.2.2.1<=9))=a
 generalize (decide ((0:Int)<=x.2.2.2.2.2.2.2.1)&&decide (x.2.2.2.2.2.2.2.1<=999))=b
 cases a<;>cases b<;>simp)

def BT (x:List (ByteArray×ByteArray×Int)) (k:ByteArray):ByteArray×ByteArray×Int :=
 (x.find? fun a=>a.1.toList==k.toList).getD (O,O,0)
theorem BC {α:Type} {x:List α} {i:Nat} (h:i<x.length):x.drop i=x[i]::x.drop (i+1):=List.drop_eq_getElem_cons h
theorem Xd (x k) (h:x.length<=maxLen):Pl x k=some (BT x k):=v6 (by
 have hm:x.length<=9223372036854775807:=h
 unfold gU
 exact E0 (n:=x.length) (P:=fun i=>∀ z,KW x k (i:Int) z=some (BT (x.drop i) k)) (fun z=>XM (by
  unfold O_
  rw [if_neg (by simp),List.drop_length]
  rfl)) (fun i hi ih z=>XM (by
  unfold O_
  simp only [show ((i:Int)<(x.length:Int)) from by omega,decide_true,if_true,show (0:Int)<=(i:Int) from by omega,Ai,AU hi,AM (show i<9223372036854775807 by omega)]
  rw [BC hi]
  by_cases hk:(x[i].1.toList==k.toList)=true
  ·rw [if_pos hk]
   unfold BT
   rw [List.find?_cons,hk]
   rfl
  ·rw [if_neg hk,ih]
   unfold BT
   rw [List.find?_cons,Bool.eq_false_iff.2 hk])) 0 (by omega) _)
theorem Xe (x k) (h:x.length<=maxLen):Pk x k=some (BT x k):=v5 (by
 have hm:x.length<=9223372036854775807:=h
 unfold gT
 exact E0 (n:=x.length) (P:=fun i=>∀ z,KV k x (x.length:Int) (i:Int) z=some (BT (x.drop i) k)) (fun z=>XI (by
  unfold O9
  rw [if_neg (by simp),List.drop_length]
  rfl)) (fun i hi ih z=>XI (by
  unfold O9
  simp only [show ((i:Int)<(x.length:Int)) from by omega,decide_true,if_true,show (0:Int)<=(i:Int) from by omega,Ai,AU hi,AM (show i<9223372036854775807 by omega)]
  rw [BC hi]
  by_cases hk:(x[i].1.toList==k.toList)=true
  ·rw [if_pos hk]
   unfold BT
   rw [List.find?_cons,hk]
   rfl
  ·rw [if_neg hk,ih]
   unfold BT
   rw [List.find?_cons,Bool.eq_false_iff.2 hk])) 0 (by omega) _)

theorem Q5 k:SM k=some (decide (1<=(k.size:Int))&&decide ((k.size:Int)<=12)):=yL (by simp [lH,Aw])
theorem Hz n:F3 n=some (decide (1<=n)&&decide (n<=6)):=vq (by simp [gR,Aw])
def yS (v:ByteArray):Bool:=v.toList==(⟨#[]⟩:ByteArray).toList
theorem oS (v:ByteArray):(v.toList==(⟨#[]⟩:ByteArray).toList)=yS v:=rfl
def ga (op:Int) (k v:ByteArray):Bool :=
 (decide (op=1)||decide (op=2))&&(decide (1<=(k.size:Int))&&decide ((k.size:Int)<=12))&&decide ((v.size:Int)<=20)&&(decide (op=1)||yS v)
def Jy (x:Int×Int×Int×Int×ByteArray×ByteArray):Bool :=
 decide (1<=x.1)&&decide (x.1<=6)&&(decide (1<=x.2.1)&&decide (x.2.1<=6))&&decide (0<=x.2.2.1) &&
  (if x.1=1 then ga x.2.2.2.1 x.2.2.2.2.1 x.2.2.2.2.2 else decide (x.2.2.2.1=0)&&yS x.2.2.2.2.1&&yS x.2.2.2.2.2)
theorem rI a k v:NZ a 0 k v=some (ga a k v):=lB (by
 have w:∀ b,Li a v b=some (decide (a=1)||yS v):=fun b=>aa (by
  unfold Qw
  rw [oS]
  by_cases h:a=1<;>simp [h])
 unfold YW ga
 have ABT:decide ((v.size:Int)>20)=!decide ((v.size:Int)<=20):=by
  by_cases h:(v.size:Int)<=20<;>simp [h]
  omega
 simp only [ABT,Aw,Q5,Y,w]
 by_cases h1:a=1
 ·by_cases h2:1<=(k.size:Int)<;>by_cases h3:(k.size:Int)<=12<;>by_cases h4:(v.size:Int)<=20<;>simp [h1,h2,h3,h4]
 ·by_cases h1b:a=2
  ·by_cases h2:1<=(k.size:Int)<;>by_cases h3:(k.size:Int)<=12<;>by_cases h4:(v.size:Int)<=20<;>simp [h1b,h2,h3,h4]
  ·have:¬ (1<=a/\a<=2):=by omega
   by_cases h5:1<=a
   ·have:¬ a<=2:=by omega
    simp [h1,h1b,this]
   ·simp [h1,h1b,h5])
theorem ly x:S0 x=some (Jy x):=uA (by
 have w:∀ b,Nl b x=some (if x.1=1 then ga x.2.2.2.1 x.2.2.2.2.1 x.2.2.2.2.2 else decide (x.2.2.2.1=0)&&yS x.2.2.2.2.1&&yS x.2.2.2.2.2):=fun b=>kV (by
  unfold Uw
  simp only [oS]
  by_cases h:x.1=1
  ·simp [h,rI]
  ·by_cases h2:x.2.2.2.1=0<;>rcases Bool.eq_false_or_eq_true (yS x.2.2.2.2.1) with h3 | h3<;>simp [h,h2,h3])
 unfold dR Jy
 simp only [Aw,Hz,Y,w]
 by_cases h1:1<=x.1<;>by_cases h2:x.1<=6<;>by_cases h3:1<=x.2.1<;>by_cases h4:x.2.1<=6<;>by_cases h5:0<=x.2.2.1<;>simp [h1,h2,h3,h4,h5]<;>omega)
theorem l7 x:S3 x=some (Jy x):=uB (by
 have w:∀ b,Nm b x=some (if x.1=1 then ga x.2.2.2.1 x.2.2.2.2.1 x.2.2.2.2.2 else decide (x.2.2.2.1=0)&&yS x.2.2.2.2.1&&yS x.2.2.2.2.2):=fun b=>kY (by
  unfold Ux ga
  simp only [oS]
  by_cases h:x.1=1
  ·simp only [A_,Y]
   by_cases g1:x.2.2.2.1=1
   ·by_cases h2:1<=(x.2.2.2.2.1.size:Int)<;>by_cases h3:(x.2.2.2.2.1.size:Int)<=12<;>by_cases h4:(x.2.2.2.2.2.size:Int)<=20<;>simp [h,g1,h2,h3,h4]
   ·by_cases g2:x.2.2.2.1=2
    ·by_cases h2:1<=(x.2.2.2.2.1.size:Int)<;>by_cases h3:(x.2.2.2.2.1.size:Int)<=12<;>by_cases h4:(x.2.2.2.2.2.size:Int)<=20<;>simp [h,g2,h2,h3,h4]
    ·simp [h,g1,g2]
  ·by_cases h2:x.2.2.2.1=0<;>rcases Bool.eq_false_or_eq_true (yS x.2.2.2.2.1) with h3 | h3<;>simp [h,h2,h3])
 unfold dS Jy
 simp only [A_,Y,w]
 by_cases h1:1<=x.1<;>by_cases h2:x.1<=6<;>by_cases h3:1<=x.2.1<;>by_cases h4:x.2.1<=6<;>by_cases h5:0<=x.2.2.1<;>simp [h1,h2,h3,h4,h5]<;>omega)

def If (a:ByteArray×ByteArray×Int):Bool:=(decide (1<=(a.1.size:Int))&&decide ((a.1.size:Int)<=12))&&decide ((a.2.1.size:Int)<=20)&&(decide (1<=a.2.2)&&decide (a.2.2<=1000000000))
def CS (x:List (ByteArray×ByteArray×Int)) (i:Nat):Nat->Bool
 | 0=>decide ((x.length:Int)<=12)
 | k+1=>If (x.getD i (O,O,0))&&(decide (i=0)||Op.bytesLess (x.getD (i-1) (O,O,0)).1.toList (x.getD i (O,O,0)).1.toList)&&CS x (i+1) k
theorem ABT (n:Int):decide (n>20)=!decide (n<=20):=by
 by_cases h:n<=20<;>simp [h]
 omega
theorem fA {i:Nat} (h:i<9223372036854775807) (h0:0<i):IntKind.i64.wrap ((i:Int)-1)=((i-1:Nat):Int):=by
 rw [Af (by omega)]
 omega
theorem Ja (x) (h:x.length<=maxLen):Dz x=some (CS x 0 x.length):=ug (by
 have hm:x.length<=9223372036854775807:=h
 unfold eG
 have:=E0 (n:=x.length) (P:=fun i=>HA x (i:Int)=some (CS x i (x.length-i))) (VV (by
  unfold OB
  rw [if_neg (by simp),Nat.sub_self]
  rfl)) (fun i hi ih=>VV (by
  unfold OB
  have e:x.length-i=(x.length-(i+1))+1:=by omega
  simp only [show ((i:Int)<(x.length:Int)) from by omega,decide_true,if_true,show (0:Int)<=(i:Int) from by omega,Ai,AM (show i<9223372036854775807 by omega),ih,A_,Y,ABT]
  rw [e,CS,If]
  generalize (decide (1<=((x.getD i (O,O,0)).1.size:Int))&&decide (((x.getD i (O,O,0)).1.size:Int)<=12))=a
  generalize decide (((x.getD i (O,O,0)).2.1.size:Int)<=20)=b
  generalize (decide (1<=(x.getD i (O,O,0)).2.2)&&decide ((x.getD i (O,O,0)).2.2<=1000000000))=c
  cases a
  ·simp
  cases b
  ·simp
  cases c
  ·simp
  by_cases h0:0<i
  ·rw [fA (by omega) h0]
   simp only [Ai,show ((0:Int)<=((i-1:Nat):Int)) from by omega,show (((i-1:Nat):Int)<(x.length:Int)) from by omega,if_true]
   rcases Bool.eq_false_or_eq_true (Op.bytesLess (x.getD (i-1) (O,O,0)).1.toList (x.getD i (O,O,0)).1.toList) with hb | hb<;>simp only [hb]<;>simp [h0,show i≠0 by omega]
  ·have:i=0:=by omega
   subst this
   simp)) 0 (by omega)
 simpa using this)
theorem OC (x) (h:x.length<=maxLen) (hl:∀ a b:List UInt8,(Op.bytesLess a b||a==b)=!Op.bytesLess b a):GH x=some (CS x 0 x.length):=uE (by
 have hm:x.length<=9223372036854775807:=h
 unfold dY
 have:=E0 (n:=x.length) (P:=fun i=>G5 x x (x.length:Int) (i:Int)=some (CS x i (x.length-i))) (Uz (by
  unfold Np
  rw [if_neg (by simp),Nat.sub_self]
  rfl)) (fun i hi ih=>Uz (by
  unfold Np
  have e:x.length-i=(x.length-(i+1))+1:=by omega
  simp only [show ((i:Int)<(x.length:Int)) from by omega,decide_true,if_true,show (0:Int)<=(i:Int) from by omega,Ai,AM (show i<9223372036854775807 by omega),ih,Aw,Q5,Y,ABT,hl]
  rw [e,CS,If]
  generalize (decide (1<=((x.getD i (O,O,0)).1.size:Int))&&decide (((x.getD i (O,O,0)).1.size:Int)<=12))=a
  generalize decide (((x.getD i (O,O,0)).2.1.size:Int)<=20)=b
  generalize (decide (1<=(x.getD i (O,O,0)).2.2)&&decide ((x.getD i (O,O,0)).2.2<=1000000000))=c
  cases a
  ·simp
  cases b
  ·simp
  cases c
  ·simp
  by_cases h0:0<i
  ·rw [fA (by omega) h0]
   simp only [Ai,show ((0:Int)<=((i-1:Nat):Int)) from by omega,show (((i-1:Nat):Int)<(x.length:Int)) from by omega,if_true]
   rcases Bool.eq_false_or_eq_true (Op.bytesLess (x.getD (i-1) (O,O,0)).1.toList (x.getD i (O,O,0)).1.toList) with hb | hb<;>simp only [hb]<;>simp [h0,show i≠0 by omega]
  ·have:i=0:=by omega
   subst this
   simp)) 0 (by omega)
 simpa using this)
theorem QI:∀ a b:List UInt8,(Op.bytesLess a b||a==b)=!Op.bytesLess b a
 | [],[]=>rfl
 | [],_::_=>rfl
 | _::_,[]=>rfl
 | a::l,b::m=>by
  have ih:=QI l m
  simp only [Op.bytesLess]
  by_cases h1:a<b
  ·have h2:¬ b<a:=by exact UInt8.not_lt.2 (UInt8.le_of_lt h1)
   have h3:¬ b=a:=fun h=>by subst h; exact absurd h1 (UInt8.lt_irrefl _)
   simp [h1,h2,h3]
  ·by_cases h2:b<a
   ·have h3:¬ a=b:=fun h=>by subst h; exact absurd h2 (UInt8.lt_irrefl _)
    simp [h1,h2,h3]
   ·have h3:a=b:=UInt8.le_antisymm (UInt8.not_lt.1 h2) (UInt8.not_lt.1 h1)
    subst h3
    simpa [h1] using ih

abbrev AP:Type:=ByteArray×ByteArray×Int
abbrev ui:AP:=(O,O,(0:Int))
theorem fB:∀ a:List UInt8,Op.bytesLess a a=false
 | []=>rfl
 | a::l=>by simp [Op.bytesLess,fB l,UInt8.lt_irrefl]
theorem eL:∀ {a b c:List UInt8},Op.bytesLess a b=true->Op.bytesLess b c=true->Op.bytesLess a c=true
 | _,[],_,h,_=>by cases ‹List UInt8› <;> simp [Op.bytesLess] at h
 | _,_::_,[],_,h=>by simp [Op.bytesLess] at h
 | [],_::_,_::_,_,_=>rfl
 | a::x,b::y,c::z,h,g=>by
  simp only [Op.bytesLess,Ec,decide_eq_true_eq,AD,beq_iff_eq] at h g ⊢
  rcases h with h | ⟨rfl,h⟩
  ·rcases g with g | ⟨rfl,g⟩
   ·exact .inl (UInt8.lt_trans h g)
   ·exact .inl h
  ·rcases g with g | ⟨rfl,g⟩
   ·exact .inl g
   ·exact .inr ⟨rfl,eL h g⟩
theorem uj:∀ a b:List UInt8,decide (Lib.compareBytes a b<0)=Op.bytesLess a b/\(Lib.compareBytes a b==0)=(a==b)
 | [],[]=>⟨rfl,rfl⟩
 | [],_::_=>⟨rfl,rfl⟩
 | _::_,[]=>⟨rfl,rfl⟩
 | a::l,b::m=>by
  have ih:=uj l m
  simp only [Lib.compareBytes,Op.bytesLess]
  by_cases h1:a<b
  ·have h3:¬ a=b:=fun h=>by subst h; exact absurd h1 (UInt8.lt_irrefl _)
   simp [h1,h3]
  ·by_cases h2:b<a
   ·have h3:¬ a=b:=fun h=>by subst h; exact absurd h2 (UInt8.lt_irrefl _)
    simp [h1,h2,h3]
   ·have h3:a=b:=UInt8.le_antisymm (UInt8.not_lt.1 h2) (UInt8.not_lt.1 h1)
    subst h3
    simpa [h1] using ih
theorem R2 (a:AP) (k:ByteArray):KP a k=some (Lib.compareBytes a.1.toList k.toList):=oR (by
 unfold Xc
 rw [j7,ByteArray.toList_eq,ByteArray.toList_eq]
 rfl)
def Xf (x:List AP) (i:Nat) (k:ByteArray):Bool:=match x[i]? with
 | some b=>b.1.toList==k.toList
 | none=>false
def Vw (k:ByteArray) (b:AP):Bool:=Op.bytesLess b.1.toList k.toList
def Lr (x:List AP):Prop:=∀ a b (ha:a<x.length) (hb:b<x.length),a<b->Op.bytesLess x[a].1.toList x[b].1.toList=true
def pA (x:List AP) (k:ByteArray) (i j:Nat):Prop:=∀ a (ha:a<x.length),(a<i->Vw k x[a]=true)/\(j<=a->Vw k x[a]=false)
theorem AEP {i j:Nat} (h:i+j<=137438953472):IntKind.i64.wrap (Int.fdiv (IntKind.u64.wrap (IntKind.i64.wrap ((i:Int)+(j:Int)))) (2^(min (1:Int).toNat (IntKind.bits .u64))))=(((i+j) / 2:Nat):Int):=by
 have e1:IntKind.i64.wrap ((i:Int)+(j:Int))=((i+j:Nat):Int):=by rw [Af (by omega)]; omega
 have e2:IntKind.u64.wrap ((i+j:Nat):Int)=((i+j:Nat):Int):=by
  simp only [IntKind.wrap,IntKind.bits,IntKind.signed]
  simp
  omega
 have e3:(2:Int)^(min (1:Int).toNat (IntKind.bits .u64))=2:=by decide
 rw [e1,e2,e3,Int.fdiv_eq_ediv_of_nonneg _ (by omega)]
 rw [Af (by omega)]
 omega
theorem zV (x:List AP) (k:ByteArray) (hx:x.length<=68719476736):∀ (m i j:Nat),j-i<=m->i<=j->j<=x.length ->
  ∃ r:Nat,i<=r/\r<=j/\AR x k (x.length:Int) (i:Int) (j:Int)=some ((r:Int),Xf x r k)/\(Lr x->pA x k i j->pA x k r r):=by
 intro m
 induction m with
 | zero =>
  intro i j hm hij hj
  have:i=j:=by omega
  subst this
  refine ⟨i,Nat.le_refl _,Nat.le_refl _,CY ?_,fun _ h=>h⟩
  unfold BW
  rw [if_neg (by simp)]
  refine E3 ?_
  unfold CX Xf
  by_cases h:i<x.length
  ·simp only [show ((i:Int)<(x.length:Int)) from by omega,decide_true,if_true,show (0:Int)<=(i:Int) from by omega,Ai,AU h,R2,Y,(uj _ _).2,List.getElem?_eq_getElem h]
  ·rw [if_neg (by simp; omega),Dj (by omega)]
 | succ m ih =>
  intro i j hm hij hj
  by_cases hlt:i<j
  ·have hmid:i<=(i+j) / 2/\(i+j) / 2<j:=by omega
   generalize hh:(i+j) / 2=h at hmid
   have hb:h<x.length:=by omega
   have step:∀ r,(if Vw k x[h]=true then AR x k (x.length:Int) ((h+1:Nat):Int) (j:Int) else AR x k (x.length:Int) (i:Int) (h:Int))=some r->AR x k (x.length:Int) (i:Int) (j:Int)=some r:=fun r hr=>CY (by
    unfold BW
    simp only [show ((i:Int)<(j:Int)) from by omega,decide_true,if_true,AEP (show i+j<=137438953472 by omega),hh,show ¬ ((1:Int)<0) from by decide,if_false,show ((0:Int)<=(h:Int)) from by omega,show ((h:Int)<(x.length:Int)) from by omega,Ai,AU hb,R2,Y,(uj _ _).1,AM (show h<9223372036854775807 by omega)]
    exact hr)
   cases hl:Vw k x[h] with
   | true =>
    obtain ⟨r,h1,h2,h3,h4⟩:=ih (h+1) j (by omega) (by omega) hj
    refine ⟨r,by omega,h2,step _ (by rw [hl]; exact h3),fun ho hc=>h4 ho fun a ha=>⟨fun hlt=>?_,(hc a ha).2⟩⟩
    by_cases e:a=h
    ·subst e; exact hl
    ·exact eL (ho a h ha hb (by omega)) hl
   | false =>
    obtain ⟨r,h1,h2,h3,h4⟩:=ih i h (by omega) hmid.1 (by omega)
    refine ⟨r,h1,by omega,step _ (by rw [hl]; exact h3),fun ho hc=>h4 ho fun a ha=>⟨(hc a ha).1,fun hle=>?_⟩⟩
    by_cases e:a=h
    ·subst e; exact hl
    ·cases q:Vw k x[a] with
     | false=>rfl
     | true =>
      have:=eL (ho h a hb ha (by omega)) q
      rw [show Op.bytesLess x[h].1.toList k.toList=false from hl] at this
      cases this
  ·have:i=j:=by omega
   subst this
   exact ih i i (by omega) (Nat.le_refl _) hj
theorem ABU (x:List AP) (k:ByteArray) (hx:x.length<=68719476736):∃ r:Nat,r<=x.length/\Bf x k ()=some ((r:Int),Xf x r k)/\(Lr x->pA x k r r):=by
 obtain ⟨r,_,h2,h3,h4⟩:=zV x k hx x.length 0 x.length (by omega) (by omega) (Nat.le_refl _)
 refine ⟨r,h2,Fp (by unfold Cn; exact h3),fun ho=>h4 ho fun a ha=>⟨fun h=>by omega,fun h=>by omega⟩⟩
theorem eM {x:List AP}:∀ (m i:Nat),CS x i m=true->∀ a,i<=a->a<i+m->a≠0->Op.bytesLess (x.getD (a-1) ui).1.toList (x.getD a ui).1.toList=true
 | 0,i,_,a,h1,h2,_=>by omega
 | m+1,i,h,a,h1,h2,h0=>by
  simp only [CS,AD,Ec,decide_eq_true_eq] at h
  obtain ⟨⟨_,h3⟩,h4⟩:=h
  by_cases e:a=i
  ·subst e
   exact h3.resolve_left h0
  ·exact eM m (i+1) h4 a (by omega) (by omega) h0
theorem eN {x:List AP} (h:CS x 0 x.length=true):Lr x:=by
 have st:=eM _ _ h
 have:∀ d a (ha:a+d+1<x.length),Op.bytesLess (x.getD a ui).1.toList (x.getD (a+d+1) ui).1.toList=true:=by
  intro d
  induction d with
  | zero=>intro a ha; exact st (a+1) (by omega) (by omega) (by omega)
  | succ d ih =>
   intro a ha
   exact eL (ih a (by omega)) (st (a+(d+1)+1) (by omega) (by omega) (by omega))
 intro a b ha hb hab
 have:=this (b-a-1) a (by omega)
 rw [show a+(b-a-1)+1=b by omega,AU ha,AU hb] at this
 exact this
theorem zW {x:List AP} {k:ByteArray} {r:Nat} (hr:r<=x.length) (h:pA x k r r):x.take r=x.filter (Vw k)/\x.drop r=x.filter (fun b=>!Vw k b):=by
 have e1:(x.take r).filter (Vw k)=x.take r:=List.filter_eq_self.2 fun b hb=>by
  obtain ⟨a,ha,rfl⟩:=Eb hb
  rw [List.length_take] at ha
  rw [List.getElem_take]
  exact (h a (by omega)).1 (by omega)
 have e2:(x.drop r).filter (Vw k)=[]:=List.filter_eq_nil_iff.2 fun b hb=>by
  obtain ⟨a,ha,rfl⟩:=Eb hb
  rw [List.length_drop] at ha
  rw [List.getElem_drop]
  have:=(h (r+a) (by omega)).2 (by omega)
  simp [this]
 have e3:(x.take r).filter (fun b=>!Vw k b)=[]:=List.filter_eq_nil_iff.2 fun b hb=>by
  obtain ⟨a,ha,rfl⟩:=Eb hb
  rw [List.length_take] at ha
  rw [List.getElem_take]
  have:=(h a (by omega)).1 (by omega)
  simp [this]
 have e4:(x.drop r).filter (fun b=>!Vw k b)=x.drop r:=List.filter_eq_self.2 fun b hb=>by
  obtain ⟨a,ha,rfl⟩:=Eb hb
  rw [List.length_drop] at ha
  rw [List.getElem_drop]
  have:=(h (r+a) (by omega)).2 (by omega)
  simp [this]
 have f1:x.filter (Vw k)=(x.take r).filter (Vw k)++(x.drop r).filter (Vw k):=by rw [<- List.filter_append,List.take_append_drop]
 have f2:x.filter (fun b=>!Vw k b)=(x.take r).filter (fun b=>!Vw k b)++(x.drop r).filter (fun b=>!Vw k b):=by rw [<- List.filter_append,List.take_append_drop]
 rw [f1,f2,e1,e2,e3,e4]
 simp
theorem AAE {x:List AP} {k:ByteArray} {r:Nat} (ho:Lr x) (h:pA x k r r) (j:Nat) (hj:j<x.length) (e:x[j].1.toList=k.toList):j=r:=by
 rcases Nat.lt_trichotomy j r with g | g | g
 ·have:=(h j hj).1 g
  simp only [Vw,e,fB] at this
  cases this
 ·exact g
 ·have h1:=ho r j (by omega) hj g
  have h2:=(h r (by omega)).2 (Nat.le_refl _)
  rw [e] at h1
  rw [show Vw k x[r]=true from h1] at h2
  cases h2
def bO (x:List AP) (a:AP):Bool:=x.any fun b=>(b.1.toList==a.1.toList)&&decide (b.2.2>=a.2.2)
def Q6 (k:ByteArray) (b:AP):Bool:=!(Op.bytesLess b.1.toList k.toList||(b.1.toList==k.toList))
def T0 (x:List AP) (a:AP):List AP:=x.filter (Vw a.1)++[a]++x.filter (Q6 a.1)
def Ax (x:List AP):Bool:=CS x 0 x.length
def An (x:List AP) (a:AP):List AP:=if bO x a=true then x else if Ax x=true then (if Ax (T0 x a)=true then T0 x a else x) else x
theorem AAF {x:List AP} {k:ByteArray} {r:Nat} (hr:r<=x.length) (h:pA x k r r):x.filter (Q6 k)=(x.drop r).filter fun b=>!(b.1.toList==k.toList):=by
 rw [(zW hr h).2,List.filter_filter]
 congr 1
 funext b
 simp only [Q6,Vw,Bool.not_or]
 exact Bool.and_comm _ _
theorem Jb (x:List AP) (a:AP) (hx:x.length<=34359738367):Ho x a=some (An x a):=uZ (by
 have J4:∀ same out:List AP,out.length<=maxLen->N6 x a same out=some (if Ax x=true then (if Ax out=true then out else same) else same):=fun same out ho=>lg (by
  unfold VP Ax
  rw [Ja x (by unfold maxLen; omega),Ja out ho]
  cases CS x 0 x.length<;>cases CS out 0 out.length<;>simp)
 have L3:∀ same out:List AP,out.length<=x.length+1->FA x ((0:Nat):Int) a same out=some (if Ax x=true then (if Ax (out++(x.drop 0).filter (Q6 a.1))=true then out++(x.drop 0).filter (Q6 a.1) else same) else same):=by
  intro same out ho
  refine E0 (n:=x.length) (P:=fun i=>∀ out:List AP,out.length<=x.length+1+i->FA x (i:Int) a same out=some (if Ax x=true then (if Ax (out++(x.drop i).filter (Q6 a.1))=true then out++(x.drop i).filter (Q6 a.1) else same) else same)) (fun out ho=>VR ?_) (fun i hi ih out ho=>VR ?_) 0 (by omega) out ho
  ·unfold N8
   rw [if_neg (by simp),J4 same out (by unfold maxLen; omega)]
   simp
  ·unfold N8
   simp only [show ((i:Int)<(x.length:Int)) from by omega,decide_true,if_true,show (0:Int)<=(i:Int) from by omega,Ai,AU hi,AM (show i<9223372036854775807 by omega)]
   rw [BC hi,List.filter_cons]
   change (if Q6 a.1 x[i]=true then _ else _)=_
   by_cases hh:Q6 a.1 x[i]=true
   ·rw [if_pos hh,if_pos (by simp; omega),ih _ (by simp; omega),if_pos hh,Bv]
    rfl
   ·rw [if_neg hh,ih _ (by omega),if_neg hh]
 have J2:∀ same out:List AP,out.length<=x.length->N7 x a same out=some (if Ax x=true then (if Ax (out++[a]++x.filter (Q6 a.1))=true then out++[a]++x.filter (Q6 a.1) else same) else same):=fun same out ho=>lh (by
  unfold VQ
  rw [if_pos (by simp; omega)]
  have:=L3 same (out++[a]) (by simp; omega)
  simpa using this)
 have L0:∀ same:List AP,FB x ((0:Nat):Int) a same []=some (if bO (x.drop 0) a=true then same else if Ax x=true then (if Ax (([]++(x.drop 0).filter (Vw a.1))++[a]++x.filter (Q6 a.1))=true then ([]++(x.drop 0).filter (Vw a.1))++[a]++x.filter (Q6 a.1) else same) else same):=by
  intro same
  refine E0 (n:=x.length) (P:=fun i=>∀ out:List AP,out.length<=i->FB x (i:Int) a same out=some (if bO (x.drop i) a=true then same else if Ax x=true then (if Ax ((out++(x.drop i).filter (Vw a.1))++[a]++x.filter (Q6 a.1))=true then (out++(x.drop i).filter (Vw a.1))++[a]++x.filter (Q6 a.1) else same) else same)) (fun out ho=>VS ?_) (fun i hi ih out ho=>VS ?_) 0 (by omega) [] (by simp)
  ·unfold N9
   rw [if_neg (by simp),J2 same out ho]
   simp [bO]
  ·unfold N9
   simp only [show ((i:Int)<(x.length:Int)) from by omega,decide_true,if_true,show (0:Int)<=(i:Int) from by omega,Ai,AU hi]
   have J1:∀ out:List AP,out.length<=i+1->JW x (i:Int) a same out=some (if bO (x.drop i) a=true then same else if Ax x=true then (if Ax ((out++(x.drop (i+1)).filter (Vw a.1))++[a]++x.filter (Q6 a.1))=true then (out++(x.drop (i+1)).filter (Vw a.1))++[a]++x.filter (Q6 a.1) else same) else same):=fun out ho=>ld (by
    unfold VO
    simp only [show ((i:Int)<(x.length:Int)) from by omega,decide_true,if_true,show (0:Int)<=(i:Int) from by omega,Ai,AU hi,AM (show i<9223372036854775807 by omega),ih out ho]
    rw [BC hi]
    rw [show bO (x[i]::x.drop (i+1)) a=(((x[i].1.toList==a.1.toList)&&decide (x[i].2.2>=a.2.2))||bO (x.drop (i+1)) a) from List.any_cons]
    generalize (x[i].1.toList==a.1.toList)=p
    generalize decide (x[i].2.2>=a.2.2)=q
    cases p<;>cases q<;>simp)
   rw [BC hi,List.filter_cons]
   change (if Vw a.1 x[i]=true then _ else _)=_
   rw [BC hi] at J1
   by_cases hh:Vw a.1 x[i]=true
   ·rw [if_pos hh,if_pos (by simp; omega),J1 _ (by simp; omega),if_pos hh]
    simp only [Bv,List.cons_append,List.nil_append]
   ·rw [if_neg hh,J1 _ (by omega),if_neg hh]
 unfold d_
 rw [if_pos (by simp; omega)]
 have:=L0 ([]++x)
 simpa [An,T0] using this)
theorem ACT {x:List AP} {a:AP} {r:Nat} (hr:r<=x.length) (ho:Lr x) (h:pA x a.1 r r):bO x a=(Xf x r a.1&&decide ((x.getD r ui).2.2>=a.2.2)):=by
 unfold bO Xf
 by_cases hl:r<x.length
 ·rw [List.getElem?_eq_getElem hl,AU hl]
  rw [Bool.eq_iff_iff,List.any_eq_true]
  simp only [AD,beq_iff_eq,decide_eq_true_eq]
  refine ⟨fun ⟨b,hb,e,hv⟩=>?_,fun ⟨e,hv⟩=>⟨_,BU hl,e,hv⟩⟩
  obtain ⟨j,hj,rfl⟩:=Eb hb
  have:=AAE ho h j hj e
  subst this
  exact ⟨e,hv⟩
 ·rw [Dj (by omega),Bool.false_and,List.any_eq_false]
  intro b hb
  obtain ⟨j,hj,rfl⟩:=Eb hb
  intro hc
  simp only [AD,beq_iff_eq] at hc
  have:=AAE ho h j hj hc.1
  omega
theorem ADe {x:List AP} {a:AP} {r:Nat} (hr:r<=x.length) (ho:Lr x) (h:pA x a.1 r r):T0 x a=if Xf x r a.1=true then x.set r a else x.take r++[a]++x.drop r:=by
 unfold T0
 rw [AAF hr h,<- (zW hr h).1]
 have hk:∀ (j:Nat) (hj:j<x.length),j≠r->(x[j].1.toList==a.1.toList)=false:=fun j hj hne=>by
  cases q:(x[j].1.toList==a.1.toList) with
  | false=>rfl
  | true=>exact absurd (AAE ho h j hj (by simpa using q)) hne
 have tail:(x.drop (r+1)).filter (fun b=>!(b.1.toList==a.1.toList))=x.drop (r+1):=List.filter_eq_self.2 fun b hb=>by
  obtain ⟨j,hj,rfl⟩:=Eb hb
  rw [List.length_drop] at hj
  rw [List.getElem_drop,hk (r+1+j) (by omega) (by omega)]
  rfl
 by_cases hl:r<x.length
 ·rw [BC hl,List.filter_cons,tail]
  unfold Xf
  rw [List.getElem?_eq_getElem hl]
  cases q:(x[r].1.toList==a.1.toList) with
  | true=>simp [q,List.set_eq_take_append_cons_drop,hl]
  | false=>simp [q]
 ·have:x.drop r=[]:=List.drop_eq_nil_of_le (by omega)
  rw [this]
  unfold Xf
  rw [Dj (by omega)]
  simp
theorem VZ (x:List AP) (a:AP) (hx:x.length<=34359738367):Nd x a=some (An x a):=uf (by
 obtain ⟨r,hr,hs,hc⟩:=ABU x a.1 (by omega)
 have ok:∀ y:List AP,y.length<=68719476736->GH y=some (Ax y):=fun y hy=>OC y (by unfold maxLen; omega) QI
 have J1:∀ y:List AP,y.length<=68719476736->JY x a y=some (if Ax y=true then y else x):=fun y hy=>lq (by
  unfold VT
  rw [ok y hy,BN (by omega)]
  cases Ax y<;>simp)
 have hl:Xf x r a.1=true->r<x.length:=fun h=>by
  by_cases hl:r<x.length
  ·exact hl
  ·unfold Xf at h
   rw [Dj (by omega)] at h
   cases h
 have J0:∀ b,Ax x=true->JZ x (r:Int) (Xf x r a.1) b a x=some (if Ax (T0 x a)=true then T0 x a else x):=fun b hok=>lr (by
  unfold VU
  rw [ADe hr (eN hok) (hc (eN hok))]
  cases hh:Xf x r a.1 with
  | true =>
   have:=hl hh
   simp only [if_true,show (0:Int)<=(r:Int) from by omega,show ((r:Int)<(x.length:Int)) from by omega,Ai]
   rw [J1 _ (by simp; omega)]
  | false =>
   rw [if_neg (by simp),LE (by simp; omega) hr (by simp),Y,J1 _ (by simp; omega)]
   simp)
 unfold eF
 rw [BN (by omega),Y,hs,Y,ok x (by omega),Y]
 cases hok:Ax x with
 | false=>simp [An,hok]
 | true =>
  have hst:=ACT hr (eN hok) (hc (eN hok))
  have j0:=J0
  unfold An
  rw [hst,hok]
  cases hh:Xf x r a.1 with
  | false =>
   have:=J0 false hok
   rw [hh] at this
   simp [this]
  | true =>
   have hlr:=hl hh
   have:=J0 false hok
   rw [hh] at this
   simp only [if_true,show (0:Int)<=(r:Int) from by omega,show ((r:Int)<(x.length:Int)) from by omega,Ai,Bool.true_and]
   cases q:decide ((x.getD r ui).2.2>=a.2.2) with
   | true=>simp
   | false=>simp [this])

abbrev Ki:Type:=List Int×Int×Int
def Tq (d:Ki):Prop:=0<=d.2.1/\d.1.length<=maxLen
theorem pB (a:Int):0<=Mt .i64 a 255/\Mt .i64 a 255<=255:=by
 unfold Mt
 have h:(BitVec.ofInt (IntKind.bits .i64) a &&& BitVec.ofInt (IntKind.bits .i64) 255).toNat<=255:=by
  rw [BitVec.toNat_and]
  refine Nat.le_trans Nat.and_le_right ?_
  decide
 rw [Af (by omega)]
 omega
theorem HC (d:Ki) (h:Tq d):∃ b d',GI d=some (b,d')/\Tq d'/\0<=b/\b<=255:=by
 have hm:d.1.length<=9223372036854775807:=h.2
 have hp:=h.1
 suffices g:∃ b d',Tf d=some (b,d')/\Tq d'/\0<=b/\b<=255 from g.imp fun b g=>g.imp fun d' g=>⟨uH g.1,g.2⟩
 unfold Tf
 rw [if_neg (by omega),if_neg (by omega)]
 by_cases h1:d.2.1<(d.1.length:Int)
 ·rw [if_pos (by simpa using h1),if_pos hp,if_pos h1]
  refine ⟨_,_,rfl,⟨?_,h.2⟩,pB _⟩
  show 0<=IntKind.i64.wrap (d.2.1+1)
  rw [Af (by omega)]
  omega
 ·rw [if_neg (by simpa using h1)]
  exact ⟨_,_,rfl,h,pB _⟩
theorem Aq (n:Int) (d:Ki) (h:Tq d):∃ v d',BP n d=some (v,d')/\Tq d'/\0<=v/\(0<n->v<n):=by
 suffices g:∃ b d',Qv n d=some (b,d')/\Tq d'/\0<=b/\(0<n->b<n) from g.imp fun b g=>g.imp fun d' g=>⟨qZ g.1,g.2⟩
 unfold Qv
 by_cases h1:n<=0
 ·exact ⟨0,d,by rw [if_pos (by simpa using h1)],h,by omega,by omega⟩
 ·rw [if_neg (by simpa using h1)]
  by_cases h2:n<=256
  ·obtain ⟨b,d1,e1,k1,b0,b1⟩:=HC d h
   refine ⟨_,_,by rw [if_pos (by simpa using h2),e1,Y,if_neg (by omega)],k1,Int.tmod_nonneg _ b0,fun _=>Int.tmod_lt_of_pos _ (by omega)⟩
  ·obtain ⟨b1,d1,e1,k1,b10,b11⟩:=HC d h
   obtain ⟨b2,d2,e2,k2,b20,b21⟩:=HC d1 k1
   obtain ⟨b3,d3,e3,k3,b30,b31⟩:=HC d2 k2
   obtain ⟨b4,d4,e4,k4,b40,b41⟩:=HC d3 k3
   refine ⟨_,_,by rw [if_neg (by simpa using h2),e1,Y,e2,Y,e3,Y,e4,Y,if_neg (by omega)],k4,Int.tmod_nonneg _ ?_,fun _=>Int.tmod_lt_of_pos _ (by omega)⟩
   rw [Af (n:=b1*16777216) (by omega),Af (n:=b2*65536) (by omega),Af (n:=b3*256) (by omega),Af (n:=b1*16777216+b2*65536) (by omega),Af (n:=b1*16777216+b2*65536+b3*256) (by omega),Af (by omega)]
   omega
theorem Jc (n:Int) (d:Ki) (h:Tq d):∃ v d',Dx n d=some (v,d')/\Tq d':=by
 obtain ⟨v,d',e,k,_⟩:=Aq n d h
 exact ⟨_,_,uP (by unfold dv; rw [e,Y]),k⟩
theorem Di (x:List Int) (hx:0<x.length) (d:Ki) (h:Tq d):∃ v d',DF x d=some (v,d')/\Tq d'/\v∈x:=by
 obtain ⟨v,d',e,k,v0,v1⟩:=Aq (x.length:Int) d h
 have v1:=v1 (by omega)
 have hv:v.toNat<x.length:=by omega
 exact ⟨_,_,lL (by unfold VG; rw [e,Y,if_pos v0,if_pos v1]),k,by rw [AU hv]; exact BU hv⟩
theorem Xg (x:List Int) (h:x.length<=maxLen):∃ d,Pj x=some d/\Tq d:=by
 have hm:x.length<=9223372036854775807:=h
 have key:=E0 (n:=x.length) (P:=fun i=>∀ a,∃ d,KS x a (i:Int)=some d/\Tq d) (fun a=>⟨(x,0,a),O6 (by
  unfold KT
  rw [if_neg (by simp)]),⟨Int.le_refl _,h⟩⟩) (fun i hi ih a=>by
  by_cases h4:(i:Int)<4000
  ·obtain ⟨d,e,k⟩:=ih (Mt .i64 (IntKind.i64.wrap ((IntKind.i64.wrap ((IntKind.i64.wrap (a*(131:Int)))+(IntKind.i64.wrap (x.getD (i:Int).toNat (0:Int)))))+(7:Int))) (1073741823:Int))
   refine ⟨d,O6 ?_,k⟩
   unfold KT
   rw [if_pos (by simpa using hi),if_pos (by simpa using h4)]
   refine nU ?_
   unfold W8
   rw [if_pos (by omega),if_pos (by omega),AM (show i<9223372036854775807 by omega)]
   exact e
  ·refine ⟨(x,0,a),O6 ?_,⟨Int.le_refl _,h⟩⟩
   unfold KT
   rw [if_pos (by simpa using hi),if_neg (by simpa using h4)]) 0 (by omega)
 obtain ⟨d,e,k⟩:=key (IntKind.i64.wrap ((14301:Int)+(x.length:Int)))
 exact ⟨d,vo e,k⟩

theorem Vu {x:List AP}:∀ (m i:Nat),i+m=x.length->(CS x i m=true↔(∀ a (ha:a<x.length),i<=a->If x[a]=true/\(a≠0->Op.bytesLess (x.getD (a-1) ui).1.toList x[a].1.toList=true))/\x.length<=12)
 | 0,i,h=>by
  simp only [CS,decide_eq_true_eq]
  refine ⟨fun h2=>⟨fun a ha hi=>by omega,by omega⟩,fun h2=>by have:=h2.2; omega⟩
 | m+1,i,h=>by
  have hi:i<x.length:=by omega
  rw [CS,AD,AD,Vu m (i+1) (by omega),AU hi]
  simp only [Ec,decide_eq_true_eq]
  constructor
  ·rintro ⟨⟨h1,h2⟩,h3,h4⟩
   refine ⟨fun a ha hia=>?_,h4⟩
   by_cases e:a=i
   ·subst e
    exact ⟨h1,fun h0=>h2.resolve_left h0⟩
   ·exact h3 a ha (by omega)
  ·rintro ⟨h3,h4⟩
   refine ⟨⟨(h3 i hi (Nat.le_refl _)).1,?_⟩,fun a ha hia=>h3 a ha (by omega),h4⟩
   by_cases e:i=0
   ·exact .inl e
   ·exact .inr ((h3 i hi (Nat.le_refl _)).2 e)
theorem DG {x:List AP}:Ax x=true↔(∀ b∈x,If b=true)/\Lr x/\x.length<=12:=by
 constructor
 ·intro h
  have h1:=(Vu x.length 0 (by omega)).1 h
  refine ⟨fun b hb=>?_,eN h,h1.2⟩
  obtain ⟨a,ha,rfl⟩:=Eb hb
  exact (h1.1 a ha (Nat.zero_le _)).1
 ·rintro ⟨h1,h2,h3⟩
  refine (Vu x.length 0 (by omega)).2 ⟨fun a ha _=>⟨h1 _ (BU ha),fun h0=>?_⟩,h3⟩
  rw [AU (show a-1<x.length by omega)]
  exact h2 (a-1) a (by omega) ha (by omega)
theorem wg {x:List AP}:Lr x↔x.Pairwise fun b c=>Op.bytesLess b.1.toList c.1.toList=true:=by
 rw [List.pairwise_iff_getElem]
 rfl
theorem iy {x:List AP} (a:AP) (h:Lr x):Lr (T0 x a):=by
 rw [wg] at h ⊢
 have lo:∀ b∈x.filter (Vw a.1),Op.bytesLess b.1.toList a.1.toList=true:=fun b hb=>(List.mem_filter.1 hb).2
 have hg:∀ b∈x.filter (Q6 a.1),Op.bytesLess a.1.toList b.1.toList=true:=fun b hb=>by
  have:=(List.mem_filter.1 hb).2
  rw [Q6,QI] at this
  simpa using this
 unfold T0
 rw [List.pairwise_append,List.pairwise_append]
 refine ⟨⟨h.filter _,List.pairwise_singleton _ _,fun b hb c hc=>?_⟩,h.filter _,fun b hb c hc=>?_⟩
 ·rw [Cj] at hc
  subst hc
  exact lo b hb
 ·rcases As.1 hb with hb | hb
  ·exact eL (lo b hb) (hg c hc)
  ·rw [Cj] at hb
   subst hb
   exact hg c hc
theorem ACU (x:List AP) (a:AP):(T0 x a).length<=x.length+1:=by
 have h1:(x.filter (Q6 a.1)).length<=(x.filter fun b=>!Vw a.1 b).length:=by
  rw [<- List.countP_eq_length_filter,<- List.countP_eq_length_filter]
  refine List.countP_mono_left fun b _ hb=>?_
  simp only [Q6,Vw,Do,Bool.or_eq_false_iff] at hb ⊢
  exact hb.1
 have h2:(x.filter (Vw a.1)).length+(x.filter fun b=>!Vw a.1 b).length=x.length:=by
  rw [<- List.countP_eq_length_filter,<- List.countP_eq_length_filter]
  have:=List.length_eq_countP_add_countP (Vw a.1) (l:=x)
  rw [this]
  congr 2
  funext b
  cases Vw a.1 b<;>rfl
 simp only [T0,List.length_append,List.length_cons,List.length_nil]
 omega
theorem uk {x:List AP} {a:AP}:a∈T0 x a:=by simp [T0]
theorem zX {x:List AP} {a b:AP} (h:b∈T0 x a):b=a\/b∈x:=by
 simp only [T0,As,List.mem_filter,Cj] at h
 rcases h with (h | h) | h
 ·exact .inr h.1
 ·exact .inl h
 ·exact .inr h.1
theorem AAG {x:List AP} {a b:AP} (h:b∈x) (hk:(b.1.toList==a.1.toList)=false):b∈T0 x a:=by
 simp only [T0,As,List.mem_filter,Cj]
 cases q:Vw a.1 b with
 | true=>exact .inl (.inl ⟨h,rfl⟩)
 | false =>
  refine .inr ⟨h,?_⟩
  unfold Q6
  rw [show Op.bytesLess b.1.toList a.1.toList=false from q,hk]
  rfl
theorem PP {x:List AP} (ho:Lr x) {b:AP} (hb:b∈x):BT x b.1=b:=by
 obtain ⟨j,hj,rfl⟩:=Eb hb
 have:x.find? (fun a=>a.1.toList==x[j].1.toList)=some x[j]:=by
  rw [List.find?_eq_some_iff_getElem]
  refine ⟨by simp,j,hj,rfl,fun i hi=>?_⟩
  have:=ho i j (by omega) hj hi
  cases q:(x[i].1.toList==x[j].1.toList) with
  | false=>rfl
  | true =>
   rw [beq_iff_eq] at q
   rw [q,fB] at this
   cases this
 unfold BT
 rw [this]
 rfl
theorem ABV {x:List AP} (ho:Lr x) {a:AP} (h1:1<=a.2.2):(BT x a.1).2.2>=a.2.2↔bO x a=true:=by
 constructor
 ·intro h
  unfold BT at h
  cases q:x.find? (fun b=>b.1.toList==a.1.toList) with
  | none=>rw [q] at h; simp at h; omega
  | some b =>
   rw [q] at h
   exact List.any_eq_true.2 ⟨b,List.mem_of_find?_eq_some q,by simpa [List.find?_some q] using h⟩
 ·intro h
  obtain ⟨b,hb,hc⟩:=List.any_eq_true.1 h
  simp only [AD,beq_iff_eq,decide_eq_true_eq] at hc
  have e:BT x a.1=BT x b.1:=by unfold BT; rw [hc.1]
  rw [e,PP ho hb]
  exact hc.2
theorem zY (a:AP):OI (.pair .str (.pair .str (.int .i64))) a a=true:=by simp [OI]
theorem HD (x:List ByteArray) (hx:0<x.length) (d:Ki) (h:Tq d):∃ v d',GJ x d=some (v,d')/\Tq d'/\v∈x:=by
 obtain ⟨v,d',e,k,v0,v1⟩:=Aq (x.length:Int) d h
 have v1:=v1 (by omega)
 have hv:v.toNat<x.length:=by omega
 exact ⟨_,_,uQ (by unfold dw; rw [e,Y,if_pos v0,if_pos v1]),k,by rw [AU hv]; exact BU hv⟩
theorem l8 (d:Ki) (h:Tq d):∃ a d',S_ d=some (a,d')/\Tq d'/\If a=true:=by
 obtain ⟨k,d1,e1,k1,m1⟩:=HD [(⟨#[97]⟩:ByteArray),(⟨#[98]⟩:ByteArray),(⟨#[99]⟩:ByteArray),(⟨#[100]⟩:ByteArray),(⟨#[101]⟩:ByteArray),(⟨#[102]⟩:ByteArray),(⟨#[103]⟩:ByteArray),(⟨#[104]⟩:ByteArray),(⟨#[107,49]⟩:ByteArray),(⟨#[107,50]⟩:ByteArray),(⟨#[107,51]⟩:ByteArray),(⟨#[107,101,121]⟩:ByteArray)] (by simp) d h
 obtain ⟨v,d2,e2,k2,m2⟩:=HD [(⟨#[]⟩:ByteArray),(⟨#[118]⟩:ByteArray),(⟨#[119]⟩:ByteArray),(⟨#[120,120]⟩:ByteArray),(⟨#[121,121,121]⟩:ByteArray)] (by simp) d1 k1
 obtain ⟨n,d3,e3,k3,n0,n1⟩:=Aq 30 d2 k2
 have n1:=n1 (by omega)
 have f1:Vm d=some (k,d1):=wA (by unfold gY; rw [e1]; rfl)
 have f2:Vn d1=some (v,d2):=wB (by unfold gZ; rw [e2]; rfl)
 refine ⟨(k,v,1001+n),d3,ue (by unfold eE; rw [f1,Y,f2,Y,e3,Y,Af (n:=1001+n) (by omega)]),k3,?_⟩
 have hk:∀ k∈[(⟨#[97]⟩:ByteArray),(⟨#[98]⟩:ByteArray),(⟨#[99]⟩:ByteArray),(⟨#[100]⟩:ByteArray),(⟨#[101]⟩:ByteArray),(⟨#[102]⟩:ByteArray),(⟨#[103]⟩:ByteArray),(⟨#[104]⟩:ByteArray),(⟨#[107,49]⟩:ByteArray),(⟨#[107,50]⟩:ByteArray),(⟨#[107,51]⟩:ByteArray),(⟨#[107,101,121]⟩:ByteArray)],1<=k.size/\k.size<=12:=by decide
 have hv:∀ k∈[(⟨#[]⟩:ByteArray),(⟨#[118]⟩:ByteArray),(⟨#[119]⟩:ByteArray),(⟨#[120,120]⟩:ByteArray),(⟨#[121,121,121]⟩:ByteArray)],k.size<=20:=by decide
 have a1:=hk k m1
 have a2:=hv v m2
 simp only [If,AD,decide_eq_true_eq]
 omega
theorem Ig {x:List AP} {a:AP} (h:Ax x=true):Ax (An x a)=true:=by
 unfold An
 rw [if_pos h]
 split
 ·exact h
 ·split
  ·assumption
  ·exact h
theorem pC (x:List AP) (a:AP):(An x a).length<=x.length+1:=by
 have:=ACU x a
 unfold An
 (repeat' split)<;>omega
theorem iz (d:Ki) (h:Tq d):∃ x d',Qb d=some (x,d')/\Tq d'/\Ax x=true/\x.length<=5:=by
 have key:=E0 (n:=5) (P:=fun i=>∀ (d:Ki) (x:List AP),Tq d->Ax x=true->x.length<=i->∃ y d',Id (i:Int) d x=some (y,d')/\Tq d'/\Ax y=true/\y.length<=5)
  (fun d x hd hx hl=>by
   obtain ⟨v,d1,e1,k1,v0,v1⟩:=Aq 6 d hd
   have v1:=v1 (by omega)
   refine ⟨x,d1,MP ?_,k1,hx,hl⟩
   unfold Ie
   rw [e1,Y,if_neg (by simp; omega)])
  (fun i hi ih d x hd hx hl=>by
   obtain ⟨v,d1,e1,k1,v0,v1⟩:=Aq 6 d hd
   by_cases hv:(i:Int)<v
   ·obtain ⟨a,d2,e2,k2,o2⟩:=l8 d1 k1
    obtain ⟨y,d3,e3,k3⟩:=ih d2 (An x a) k2 (Ig hx) (by have:=pC x a; omega)
    refine ⟨y,d3,MP ?_,k3⟩
    unfold Ie
    rw [e1,Y,if_pos (by simpa using hv),e2,Y,Jb x a (by omega),Y,AM (by omega)]
    exact e3
   ·refine ⟨x,d1,MP ?_,k1,hx,by omega⟩
    unfold Ie
    rw [e1,Y,if_neg (by simpa using hv)]) 0 (by omega) d [] h (by decide) (by simp)
 obtain ⟨y,d',e,k⟩:=key
 exact ⟨y,d',qt (by unfold bH; exact e),k⟩



theorem Cy (x:List Int) (n:Int) (h:x.length<=maxLen):Du x n=some (x.contains n):=yK (by
 have hm:x.length<=9223372036854775807:=h
 unfold ki
 have:=E0 (n:=x.length) (P:=fun i=>Lh x n (i:Int)=some ((x.drop i).contains n)) (aY (by
  unfold Qu
  rw [if_neg (by simp),List.drop_length]
  rfl)) (fun i hi ih=>aY (by
  unfold Qu
  simp only [show ((i:Int)<(x.length:Int)) from by omega,decide_true,if_true,show (0:Int)<=(i:Int) from by omega,Ai,AU hi,AM (show i<9223372036854775807 by omega)]
  rw [BC hi,List.contains_cons,ih]
  by_cases e:x[i]=n
  ·subst e
   simp
  ·simp [e,Ne.symm e])) 0 (by omega)
 simpa using this)
theorem AEQ (x:List Int) (i:Nat) (hi:i<x.length) (h:x.length<=maxLen):∃ r,Dw x x[i]=some r/\((r=(i:Int))↔x[i]∉x.take i):=by
 have hm:x.length<=9223372036854775807:=h
 have key:=E0 (n:=i) (P:=fun k=>∃ r,C7 x x[i] (x.length:Int) (k:Int)=some r/\(k:Int)<=r/\((r=(i:Int))↔∀ m (hm:m<i),k<=m->x[m]≠x[i])) ⟨i,CR (by
  unfold Bs
  simp only [show ((i:Int)<(x.length:Int)) from by omega,decide_true,if_true,show (0:Int)<=(i:Int) from by omega,Ai,AU hi]
  simp),by omega,⟨fun _ m hm hk=>by omega,fun _=>rfl⟩⟩ (fun k hk ⟨r,hr,hkr,hiff⟩=>by
  have hk2:k<x.length:=by omega
  by_cases e:x[i]=x[k]
  ·refine ⟨k,CR ?_,by omega,⟨fun he=>by omega,fun hall=>absurd e.symm (hall k hk (by omega))⟩⟩
   unfold Bs
   simp only [show ((k:Int)<(x.length:Int)) from by omega,decide_true,if_true,show (0:Int)<=(k:Int) from by omega,Ai,AU hk2]
   rw [if_pos (by simpa using e)]
  ·refine ⟨r,CR ?_,by omega,hiff.trans ⟨fun hall m hm hkm=>?_,fun hall m hm hkm=>hall m hm (by omega)⟩⟩
   ·unfold Bs
    simp only [show ((k:Int)<(x.length:Int)) from by omega,decide_true,if_true,show (0:Int)<=(k:Int) from by omega,Ai,AU hk2,AM (show k<9223372036854775807 by omega)]
    rw [if_neg (by simpa using e)]
    exact hr
   ·rcases Bw k m with h1 | h1
    ·exact hall m hm h1
    ·have:m=k:=by omega
     subst this
     exact fun h=>e h.symm) 0 (by omega)
 obtain ⟨r,hr,_,hiff⟩:=key
 refine ⟨r,N1 hr,hiff.trans ⟨fun hall hmem=>?_,fun hn m hm _ he=>hn ?_⟩⟩
 ·obtain ⟨m,hm,he⟩:=List.mem_take_iff_getElem.1 hmem
  exact hall m (by omega) (by omega) he
 ·exact List.mem_take_iff_getElem.2 ⟨m,by omega,he⟩
def I4 (v:List Int) (i:Nat):Nat->Bool
 | 0=>true
 | k+1=>(decide (1<=v.getD i 0)&&decide (v.getD i 0<=6))&&!(v.take i).contains (v.getD i 0)&&I4 v (i+1) k
def Ye (v:List Int):Bool:=(decide (1<=(v.length:Int))&&decide ((v.length:Int)<=4))&&I4 v 0 v.length
def GC (x:List (List Int)) (n:Nat):List (List Int)->Bool
 | []=>decide (1<=(n:Int))&&decide ((n:Int)<=9)
 | v::r=>Ye v&&GC x n r
theorem l9 (v:List Int) (h:v.length<=maxLen):S8 v=some (Ye v):=uR (by
 have hm:v.length<=9223372036854775807:=h
 unfold dx Ye
 simp only [A_,Y]
 have:=E0 (n:=v.length) (P:=fun i=>JV v (i:Int)=some (I4 v i (v.length-i))) (VH (by
  unfold N2
  rw [if_neg (by simp),Nat.sub_self]
  rfl)) (fun i hi ih=>VH (by
  unfold N2
  have e:v.length-i=(v.length-(i+1))+1:=by omega
  rw [e,I4]
  simp only [show ((i:Int)<(v.length:Int)) from by omega,show ((i:Int)<=(v.length:Int)) from by omega,decide_true,if_true,show (0:Int)<=(i:Int) from by omega,Ai,A_,Y,AM (show i<9223372036854775807 by omega),ih,Int.toNat_zero,List.drop_zero,Int.le_refl,
   Cy (v.take i) _ (by rw [List.length_take]; omega)]
  generalize (decide (1<=v.getD i 0)&&decide (v.getD i 0<=6))=a
  generalize (v.take i).contains (v.getD i 0)=b
  cases a<;>cases b<;>simp)) 0 (by omega)
 simp only [Int.ofNat_zero,Nat.sub_zero] at this
 generalize (decide (1<=(v.length:Int))&&decide ((v.length:Int)<=4))=a
 cases a
 ·simp
 ·simpa using this)
theorem l_ (x:List (List Int)) (h:x.length<=maxLen) (ho:∀ a∈x,a.length<=maxLen):Ex x=some (GC x x.length x):=uL (by
 have hm:x.length<=9223372036854775807:=h
 unfold di
 exact E0 (n:=x.length) (P:=fun i=>JT x (i:Int)=some (GC x x.length (x.drop i))) (U8 (by
  unfold Ny
  rw [if_neg (by simp),List.drop_length,A_]
  rfl)) (fun i hi ih=>U8 (by
  unfold Ny
  simp only [show ((i:Int)<(x.length:Int)) from by omega,decide_true,if_true,show (0:Int)<=(i:Int) from by omega,Ai,AU hi,l9 x[i] (ho _ (BU _)),Y,AM (show i<9223372036854775807 by omega),ih]
  rw [BC hi,GC]
  generalize Ye x[i]=a
  cases a<;>simp)) 0 (by omega))
theorem mA (x:List (List Int)) (h:x.length<=maxLen) (ho:∀ a∈x,a.length<=maxLen):Ew x=some (GC x x.length x):=uJ (by
 have hm:x.length<=9223372036854775807:=h
 unfold dd
 exact E0 (n:=x.length) (P:=fun i=>JS x x (x.length:Int) (i:Int)=some (GC x x.length (x.drop i))) (U6 (by
  unfold Nx
  rw [if_neg (by simp),List.drop_length,Aw]
  rfl)) (fun i hi ih=>U6 (by
  unfold Nx
  simp only [show ((i:Int)<(x.length:Int)) from by omega,decide_true,if_true,show (0:Int)<=(i:Int) from by omega,Ai,AU hi]
  rw [BC hi,GC]
  have hv:=ho x[i] (BU _)
  generalize x[i]=v at hv
  have hvm:v.length<=9223372036854775807:=hv
  have wj:Nv x v x (x.length:Int) (i:Int)=some ((decide (1<=(v.length:Int))&&decide ((v.length:Int)<=4))&&GC x x.length (x.drop (i+1))):=lA (by
   unfold U4
   rw [Aw,Y,AM (show i<9223372036854775807 by omega),ih]
   generalize (decide (1<=(v.length:Int))&&decide ((v.length:Int)<=4))=a
   cases a<;>simp)
  have:=E0 (n:=v.length) (P:=fun j=>JR x v x (x.length:Int) (i:Int) v (v.length:Int) (j:Int)=some (I4 v j (v.length-j)&&((decide (1<=(v.length:Int))&&decide ((v.length:Int)<=4))&&GC x x.length (x.drop (i+1))))) (U5 (by
   unfold Nw
   rw [if_neg (by simp),Nat.sub_self,wj]
   rfl)) (fun j hj ihj=>U5 (by
   unfold Nw
   have e:v.length-j=(v.length-(j+1))+1:=by omega
   obtain ⟨r,hr,hiff⟩:=AEQ v j hj hv
   rw [e,I4]
   simp only [show ((j:Int)<(v.length:Int)) from by omega,decide_true,if_true,show (0:Int)<=(j:Int) from by omega,Ai,Hz,Y,AM (show j<9223372036854775807 by omega),ihj,AU hj,hr]
   have hb:(r != (j:Int))=(v.take j).contains v[j]:=by
    by_cases e2:r=(j:Int)
    ·have:=hiff.1 e2
     simp [e2,this]
    ·have:v[j]∈v.take j:=Classical.byContradiction fun hn=>e2 (hiff.2 hn)
     simp [e2,this]
   rw [hb]
   generalize (decide (1<=v[j])&&decide (v[j]<=6))=a
   generalize (v.take j).contains v[j]=b
   cases a<;>cases b<;>simp)) 0 (by omega)
  simp only [Int.ofNat_zero,Nat.sub_zero] at this
  unfold Ye
  refine Eq.trans this ?_
  congr 1
  generalize I4 v 0 v.length=a
  generalize (decide (1<=(v.length:Int))&&decide ((v.length:Int)<=4))=b
  cases a<;>cases b<;>simp)) 0 (by omega))
end Go.Proofs.YtokiohnjegbnpaaGreat.Core
