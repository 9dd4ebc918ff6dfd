/- Texts of the proof, packed: part 4. -/
import Derived.Test.YtokiohnjegbnpaaGreatP2
import Derived.Test.YtokiohnjegbnpaaGreatProg
import Derived.IntWalk
set_option linter.unusedVariables false
set_option linter.unusedSimpArgs false
namespace Go.Proofs.YtokiohnjegbnpaaGreat.Core
open Go Go.Shelf Go.RowKit Go.Lib
variable {P:Program} {ρ:Ren}
theorem xj (w:World) (t e ty:TypeId) (z:Value) (ht:P.underlying t=some (.slice e)) (hz:∀ w,(zeroValue e).run P w=.ok z w) (g o n c:Nat) (cur:Array Value) (te:TypeId) (hg:w.heap[g]? = some (.cells cur te (0,0))) (hn:0<n)
  (hfit:o+n*z.cells.size<=cur.size) (h1:∀ v∈(Builtin.zeroCells z.cells n).toList,v.oneCell'=true) :
  (Builtin.clear_ #[t] ty #[.slice (some ⟨g,o,none⟩) n c]).run P w=.ok (.tuple #[]) (w.setRow g (cur.toList.take o++(Builtin.zeroCells z.cells n).toList++cur.toList.drop (o+(Builtin.zeroCells z.cells n).toList.length)).toArray):=by
 have hl:(Builtin.zeroCells z.cells n).toList.length=n*z.cells.size:=by rw [Array.length_toList,size_zeroCells]
 have hst:=run_storeCells_at P g o te (Builtin.zeroCells z.cells n).toList 0 cur w hg (by rw [hl]; simpa using hfit) h1
 cases n with
 | zero=>omega
 | succ n=>simp [Builtin.clear_,run_underlying ht,hz,hst]
theorem mw {ops:Array Oper} {o:Oper} {a:Act} {w:World} {K:Act->World->Prop} {Q:Exit->Act->World->Prop} {E:Prop}
  (hg:o.guard=none) (d x:Operand) (dT sT:TypeId) (hop:o.op=Op.call { callee:=Callee.builtin Builtin.append,args:=#[d,x],argTypes:=#[dT,sT] })
  (v u:Value) (hd:a.eval d=v) (hx:a.eval x=u) {v':Value} {w':World} (hr:(Builtin.append_ #[dT,sT] o.type #[v,u]).run P w=.ok v' w') (hK:K (a.put o.dst v') w') :
  if Region.wanted o (yielded ops a.tmps)=true then Oper.wp P o a w K Q else E:=by
 have hw:Region.wanted o (yielded ops a.tmps)=true:=by simp [Region.wanted,hg]
 rw [if_pos hw]
 unfold Oper.wp
 simp [execOp,hop,resolve,invoke,builtin,hd,hx,hr,Result.andThen]
 exact hK
theorem ji (w:World) {ops:Array Oper} {rest:List Oper} {o:Oper} {a:Act} {Q:Exit->Act->World->Prop} (hgd:o.guard=none) (s:Operand) (t:TypeId)
  (ho:o.op=.call { callee:=.builtin .clear,args:=#[s],argTypes:=#[t] }) (v:Value) (hs:a.eval s=v) {v':Value} {w':World}
  (hr:(Builtin.clear_ #[t] o.type #[v]).run P w=.ok v' w') (h:wpList P ops Q rest (a.put o.dst v') w'):wpList P ops Q (o::rest) a w :=
 wpList_plain hgd fun K hK=>by
  unfold Oper.wp execOp
  simp only [ho,resolve,invoke,builtin,Sem.run_bind,Sem.run_pure,Result.andThen_ok,List.map_toArray,List.map_cons,List.map_nil,hs,hr]
  exact hK _ _ h
set_option maxHeartbeats 8000000 in
set_option maxRecDepth 100000 in
theorem zI (L:SlLaysE0.n45 P ρ) (i0:TypeInfo) (size:Nat) (hi:P.info? (ρ.t 23)=some i0) (hz1:i0.size=size) (z23:∀ w,(Go.sizeOf (ρ.t 23)).run P w=.ok size w) (base:Option Addr) (n cap i:Nat) (w:World) (hin:i<=n) (hnc:n<=cap) (hcm:cap<=maxLen) :
  Calls P (ρ.f 45) #[.slice base n cap,.int .i64 i,.int .i64 i] w fun e w'=>e=.returned (.slice base n cap)/\w'=w:=by
 have mixed:=L.mixed; have t0:=L.t0; have a0:=L.a0; have z0:=L.z0; have v0:=L.v0; have t3:=L.t3; have a3:=L.a3; have z3:=L.z3; have v3:=L.v3; have t4:=L.t4; have a4:=L.a4; have z4:=L.z4; have v4:=L.v4; have t22:=L.t22; have a22:=L.a22; have z22:=L.z22; have v22:=L.v22
 obtain ⟨_,_,FG⟩:=L.f45
 go_enter FG,SlBodyN.n45_ntmps ρ
 go_wp2
 all_goals (go_ret; exact ⟨rfl,rfl⟩)
set_option maxHeartbeats 8000000 in
set_option maxRecDepth 100000 in
theorem zJ (L:SlLaysE0.n45 P ρ) (i0:TypeInfo) (z:Value) (size bytes:Nat) (hi:P.info? (ρ.t 23)=some i0) (hz0:i0.zero=some z) (hz1:i0.size=size) (hzs:z.cells.size=size) (hzo:∀ v∈z.cells.toList,v.oneCell'=true) (hsz:0<size)
  (z23:∀ w,(Go.sizeOf (ρ.t 23)).run P w=.ok size w) (v23:∀ w,(zeroValue (ρ.t 23)).run P w=.ok z w) (g n cap i j:Nat) (cur:Array Value) (w:World) (hg:w.heap[g]? = some (.cells cur (ρ.t 23) (0,0))) (hcs:cur.size=cap*size) (hij:i<j) (hjn:j<=n) (hnc:n<=cap) (hcm:cap<=maxLen)
  (h1:∀ u∈cur.toList.take (n*size),u.oneCell'=true) :
  Calls P (ρ.f 45) #[.slice (some ⟨g,0,none⟩) n cap,.int .i64 i,.int .i64 j] w fun e w'=>e=.returned (.slice (some ⟨g,0,none⟩) (n-(j-i)) cap) /\
   ∃ cur',w'.heap[g]? = some (.cells cur' (ρ.t 23) (0,0))/\cur'.size=cap*size/\cur'.toList.take ((n-(j-i))*size)=cur.toList.take (i*size)++(cur.toList.take (n*size)).drop (j*size)/\w.grownBy w' (some g):=by
 have mixed:=L.mixed; have t0:=L.t0; have a0:=L.a0; have z0:=L.z0; have v0:=L.v0; have t3:=L.t3; have a3:=L.a3; have z3:=L.z3; have v3:=L.v3; have t4:=L.t4; have a4:=L.a4; have z4:=L.z4; have v4:=L.v4; have t22:=L.t22; have a22:=L.a22; have z22:=L.z22; have v22:=L.v22
 have hcm':cap<=9223372036854775807:=hcm
 have hij1:¬ ((i:Int)=(j:Int)):=by omega
 have hb1:(i:Int)<=(j:Int):=by omega
 have hb2:¬ (cap=0):=by omega
 have hb3:(j:Int)<=(n:Int):=by omega
 have hb4:¬ (cap=i):=by omega
 have e4:j*size<=n*size:=CH size hjn
 have e5:n*size<=cur.size:=by rw [hcs]; exact CH size hnc
 have e6:i*size<=j*size:=CH size (by omega)
 have e3:(n-j)*size=n*size-j*size:=Nat.sub_mul n j size
 have e7:(i+(n-j))*size=i*size+(n-j)*size:=Nat.add_mul _ _ size
 have hln:cur.toList.length=cur.size:=Array.length_toList
 have lm:((cur.toList.take (n*size)).drop (j*size)).length=(n-j)*size:=by rw [List.length_drop,List.length_take,hln,e3]; omega
 have hap:∀ (A:Addr) (c:Nat),(A=(⟨g,j*size,none⟩:Addr)\/n=j)->∀ ty,(Builtin.append_ #[(ρ.t 22),(ρ.t 22)] ty #[.slice (some ⟨g,0,none⟩) i cap,.slice (some A) (n-j) c]).run P w.drew=.ok (.slice (some ⟨g,0,none⟩) (i+(n-j)) cap) (w.drew.setRow g (cur.toList.take (i*size)++(cur.toList.take (n*size)).drop (j*size)++cur.toList.drop (i*size+((cur.toList.take (n*size)).drop (j*size)).length)).toArray):=fun A c hA ty=>by
  have:=run_append_room (P:=P) w.drew (ρ.t 22) ty (ρ.t 23) i0 L.t22 hi g i cap cur hg A (n-j) c ((cur.toList.take (n*size)).drop (j*size)) (by rw [lm,hz1]) (fun k u hk=>by
   have hk2:=(Aw.1 hk).1
   rw [lm] at hk2
   rcases hA with rfl | rfl
   ·rw [Addr.add_none]
    have h5:w.drew.cell? ⟨g,j*size+k,none⟩=cur[j*size+k]? := Rx hg
    rw [h5,<- hk,DA,B0,if_pos (by omega),Array.getElem?_toList]
   ·simp at hk2) (fun u hu=>h1 u (List.mem_of_mem_drop hu)) (by omega) (by rw [lm,hz1,e3]; omega)
  rw [hz1] at this
  exact this
 obtain ⟨cur1,hcur1⟩:∃ c1,c1=(cur.toList.take (i*size)++(cur.toList.take (n*size)).drop (j*size)++cur.toList.drop (i*size+((cur.toList.take (n*size)).drop (j*size)).length)).toArray:=⟨_,rfl⟩
 rw [<- hcur1] at hap
 have hs1:cur1.size=cap*size:=by
  rw [hcur1,List.size_toArray,<- hcs]
  simp only [List.length_append,List.length_take,List.length_drop,hln,lm]
  omega
 have ht1:cur1.toList.take ((i+(n-j))*size)=cur.toList.take (i*size)++(cur.toList.take (n*size)).drop (j*size):=by
  have l3:(cur.toList.take (i*size)++(cur.toList.take (n*size)).drop (j*size)).length=(i+(n-j))*size:=by
   simp only [List.length_append,List.length_take,hln,lm,e7]
   omega
  rw [hcur1]
  exact (congrArg (fun k=>List.take k _) l3.symm).trans (by rw [List.take_left])
 have hg1:(w.drew.setRow g cur1).heap[g]? = some (.cells cur1 (ρ.t 23) (0,0)):=setRow_heap w.drew g cur cur1 (ρ.t 23) _ hg
 obtain ⟨d,hd⟩:∃ d,d=n-(i+(n-j)):=⟨_,rfl⟩
 have hdp:0<d:=by omega
 have e8:(i+(n-j))*size+d*size<=cur1.size:=by rw [hs1,<- Nat.add_mul]; exact CH size (by omega)
 have hzc:∀ v∈(Builtin.zeroCells z.cells d).toList,v.oneCell'=true:=by
  intro v hv
  simp only [Builtin.zeroCells,Array.toList_map,List.mem_map] at hv
  obtain ⟨k,_,rfl⟩:=hv
  refine hzo _ ?_
  have hk:k % z.cells.size<z.cells.size:=Nat.mod_lt _ (by omega)
  rw [getElem!_pos z.cells _ hk]
  exact Array.getElem_mem_toList hk
 have hcl:∀ ty c,(Builtin.clear_ #[(ρ.t 22)] ty #[.slice (some ⟨g,(i+(n-j))*size,none⟩) (n-(i+(n-j))) c]).run P (w.drew.setRow g cur1)=.ok (.tuple #[]) ((w.drew.setRow g cur1).setRow g (cur1.toList.take ((i+(n-j))*size)++(Builtin.zeroCells z.cells d).toList++cur1.toList.drop ((i+(n-j))*size+(Builtin.zeroCells z.cells d).toList.length)).toArray):=fun ty c=>by
  rw [<- hd]
  exact xj _ _ (ρ.t 23) ty z L.t22 v23 g _ d c cur1 (ρ.t 23) hg1 hdp (by rw [hzs]; exact e8) hzc
 have lz:(Builtin.zeroCells z.cells d).toList.length=d*size:=by rw [Array.length_toList,size_zeroCells,hzs]
 obtain ⟨cur2,hcur2⟩:∃ c2,c2=(cur1.toList.take ((i+(n-j))*size)++(Builtin.zeroCells z.cells d).toList++cur1.toList.drop ((i+(n-j))*size+(Builtin.zeroCells z.cells d).toList.length)).toArray:=⟨_,rfl⟩
 rw [<- hcur2] at hcl
 have hs2:cur2.size=cap*size:=by
  rw [hcur2,List.size_toArray,<- hs1]
  simp only [List.length_append,List.length_take,List.length_drop,Array.length_toList,lz]
  rw [Array.length_toList] at lz
  omega
 have ht2:cur2.toList.take ((i+(n-j))*size)=cur.toList.take (i*size)++(cur.toList.take (n*size)).drop (j*size):=by
  have l4:(cur1.toList.take ((i+(n-j))*size)).length=(i+(n-j))*size:=by rw [List.length_take,Array.length_toList]; omega
  rw [hcur2,<- ht1,Bs]
  exact (congrArg (fun k=>List.take k _) l4.symm).trans (by rw [List.take_left])
 have hkn:n-(j-i)=i+(n-j):=by omega
 rw [hkn]
 have hW1s:((w.drew.setRow g cur1).setRow g cur2).heap[g]? = some (.cells cur2 (ρ.t 23) (0,0)):=setRow_heap _ g cur1 cur2 _ _ hg1
 have hgr:w.grownBy ((w.drew.setRow g cur1).setRow g cur2) (some g):=by
  refine ⟨rfl,rfl,rfl,by rw [KD,KD]; exact Nat.le_refl _,fun k hk hne=>?_⟩
  have hk':k≠g:=fun e=>hne (by rw [e])
  rw [setRow_other _ g k _ hk',setRow_other _ g k _ hk']
  rfl
 obtain ⟨W1,hW1⟩:∃ W1,W1=w.drew.setRow g cur1:=⟨_,rfl⟩
 obtain ⟨W2,hW2⟩:∃ W2,W2=W1.setRow g cur2:=⟨_,rfl⟩
 rw [<- hW1,<- hW2] at hcl hW1s hgr
 rw [<- hW1] at hap
 have hb6:¬ (cap=i+(n-j)):=by omega
 have hb7:i+(n-j)<=n:=by omega
 have hb8:i<=cap:=by omega
 clear e3 e4 e5 e6 e7 e8 hcur1 hcur2 lm hW1 hW2 hd hkn hs1 ht1 hg1 lz
 obtain ⟨A,hAe,hAd⟩:∃ A:Addr,(if cap=j then some (⟨g,0,none⟩:Addr) else some ⟨g,j*size,none⟩)=some A/\(A=(⟨g,j*size,none⟩:Addr)\/n=j):=by
  by_cases h:cap=j
  ·exact ⟨⟨g,0,none⟩,by simp [h],.inr (by omega)⟩
  ·exact ⟨⟨g,j*size,none⟩,by simp [h],.inl rfl⟩
 have hap2:=hap A (cap-j) hAd
 clear hap hAd
 obtain ⟨_,_,FG⟩:=L.f45
 go_enter FG,SlBodyN.n45_ntmps ρ
 go_wp2
 go_region_law_o (refine mw rfl _ _ (ρ.t 22) (ρ.t 22) rfl _ _ (by simp [Act.eval,Act.put]) (by simp [Act.eval,Act.put,hAe]) (hap2 _) ?_)
 go_wp2_with (at_builtin; refine ji _ rfl _ (ρ.t 22) rfl _ rfl (hcl _ _) ?_)
 go_ret
 exact ⟨rfl,cur2,hW1s,hs2,ht2,hgr⟩
theorem ABQ {K:Kd} (L:SlLaysE0.n45 P ρ) (he:yT P (ρ.t 23) K=true) {xs:List K.T} {i j:Nat} (hij:i<=j) (hj:j<=xs.length) :
  Xw P (ρ.f 45) [.new (ρ.t 23) K xs,.int .i64 i,.int .i64 j] [] [.new (ρ.t 23) K (xs.take i++xs.drop j)]:=by
 obtain ⟨i0,z,hi0,hz,h1,h2,h3,h4⟩:=Vh he
 have hsz:=Kd.sz_pos K
 have z23:∀ w,(Go.sizeOf (ρ.t 23)).run P w=.ok K.sz w:=fun w=>by simp [sizeOf,typeInfo,hi0,h1]
 have v23:∀ w,(zeroValue (ρ.t 23)).run P w=.ok z w:=fun w=>by simp [zeroValue,typeInfo,hi0,hz]
 refine ⟨?_,?_,1,rfl,fun H φ w cargs hs ha=>?_⟩
 ·obtain ⟨nm,hnm,hf⟩:=L.f45
  exact ⟨_,_,hf,hnm,rfl⟩
 ·intro r hr
  simp only [Cl] at hr
  subst hr
  rfl
 ·obtain ⟨v0,r0,rfl,hv0,ha⟩:=ha
  obtain ⟨v1,r1,rfl,hv1,ha⟩:=ha
  obtain ⟨v2,r2,rfl,hv2,ha⟩:=ha
  have hr2:r2=[]:=ha
  subst hr2
  have e0:v0=φ 0:=hv0.1
  have e1:v1=.int .i64 i:=hv1
  have e2:v2=.int .i64 j:=hv2
  subst e0 e1 e2
  obtain ⟨flat,ho,hr⟩:=hs.box 0 (.rows (ρ.t 23) K xs) rfl
  have hnew:(xs.take i++xs.drop j).length=xs.length-(j-i):=by simp only [List.length_append,List.length_take,List.length_drop]; omega
  have hstk:Bh [] [AV.new (ρ.t 23) K xs,.int .i64 i,.int .i64 j]=[.rows (ρ.t 23) K xs]:=rfl
  by_cases hlt:i=j
  ·subst hlt
   obtain ⟨base,n,cap,e0,hnn,hcap,hcm⟩:∃ base n cap,φ 0=.slice base n cap/\n=xs.length/\n<=cap/\cap<=maxLen:=by
    rcases ho.2 with ⟨e,h⟩ | ⟨g,cap,cur,e,_,_,hc,hm,_⟩
    ·exact ⟨none,0,0,e,h.symm,Nat.le_refl _,Nat.zero_le _⟩
    ·exact ⟨_,_,_,e,rfl,hc,hm⟩
   subst hnn
   rw [e0]
   refine Calls.mono (zI L i0 K.sz hi0 h1 z23 base _ cap i w hj hcap hcm) fun out w' h=>?_
   obtain ⟨rfl,rfl⟩:=h
   refine rH hstk hs ⟨rfl,rfl,rfl,Nat.le_refl _,fun _ _ _=>rfl⟩ (fun b hb=>.inl (by rw [e0]; exact hb)) (flat:=flat) ?_ ?_
   ·rw [List.take_append_drop,<- e0]; exact ho
   ·rw [List.take_append_drop]; exact hr
  ·obtain ⟨g,cap,cur,e0,_,hg,hc,hcm,hsc,ht⟩:=ho.2.resolve_left (fun h=>by omega)
   rw [e0]
   have hzo:∀ v∈z.cells.toList,v.oneCell'=true:=bf (h4 H)
   refine Calls.mono (zJ L i0 z K.sz i0.bytes hi0 hz h1 h3 hzo hsz z23 v23 g xs.length cap i j cur w hg hsc (by omega) hj hc hcm (by rw [ht]; exact Do hr ho.1)) fun out w' h=>?_
   obtain ⟨rfl,cur',g1,g2,g3,g4⟩:=h
   have htk:cur.toList.take (i*K.sz)=flat.take (i*K.sz):=by
    rw [<- ht,List.take_take,Nat.min_eq_left (CH _ (by omega))]
   have l1:(flat.take (i*K.sz)).length=(xs.take i).length*K.sz:=by
    have h5:=ho.1
    have h7:i*K.sz<=xs.length*K.sz:=CH _ (by omega)
    rw [List.length_take,List.length_take,Nat.min_eq_left (show i<=xs.length by omega),h5]; omega
   have l2:(flat.drop (j*K.sz)).length=(xs.drop j).length*K.sz:=by rw [List.length_drop,List.length_drop,ho.1,Nat.sub_mul]
   refine rH hstk hs (by rw [e0]; exact g4) (fun b hb=>.inl (by rw [e0]; exact hb)) (flat:=flat.take (i*K.sz)++flat.drop (j*K.sz)) ?_ (Iu (oe hr i) l1 (og hr j))
   rw [hnew]
   refine ⟨?_,.inr ⟨g,cap,cur',rfl,Nat.zero_le _,g1,by omega,hcm,g2,by rw [g3,htk,ht]⟩⟩
   rw [List.length_append,l1,l2,<- Nat.add_mul,<- hnew,List.length_append]
def ACL (t:TypeId) (K:Kd) (args bs:List AV):Option (List AV) :=
 match args,bs with
 | [.new t1 K1 xs,.int k i,.int k2 j],[]=>if h1:K1=K then (if t1=t/\k=.i64/\k2=.i64/\0<=i/\i<=j/\j<=xs.length then
   some [.new t K ((h1▸xs).take i.toNat++(h1▸xs).drop j.toNat)] else none) else none
 | _,_=>none
theorem ADR {t:TypeId} {K:Kd} {xs:List K.T} {i j:Nat} (hi:i<=j) (hj:j<=xs.length):ACL t K [.new t K xs,.int .i64 i,.int .i64 j] []=some [.new t K (xs.take i++xs.drop j)]:=by
 have h0:(0:Int)<=(i:Int):=by omega
 have h1:(i:Int)<=(j:Int):=by omega
 have h2:(j:Int)<=(xs.length:Int):=by omega
 simp only [ACL,dif_pos,true_and]
 rw [if_pos ⟨h0,h1,h2⟩,Aj,Aj]
theorem ADS {K:Kd} (L:SlLaysE0.n45 P ρ) (he:yT P (ρ.t 23) K=true) {args bs rs:List AV} (h:ACL (ρ.t 23) K args bs=some rs):Xw P (ρ.f 45) args bs rs:=by
 unfold ACL at h
 split at h
 ·split at h
  ·rename_i hk
   subst hk
   split at h
   ·rename_i hc
    obtain ⟨rfl,rfl,rfl,h0,hij,hj⟩:=hc
    cases h
    rename_i i _ j _
    obtain ⟨a,rfl⟩:=Int.eq_ofNat_of_zero_le h0
    obtain ⟨b,rfl⟩:=Int.eq_ofNat_of_zero_le (Int.le_trans h0 hij)
    exact ABQ L he (by omega) (by omega)
   ·cases h
  ·cases h
 ·cases h
end Go.Proofs.YtokiohnjegbnpaaGreat.Core

namespace Go.Proofs.YtokiohnjegbnpaaGreat.Core
open Go IntKind
set_option maxRecDepth 100000
noncomputable section
def AEH:Go.Shelf.Ren:=⟨fun | 41=>74 | n=>n,fun | 22=>30 | 23=>47 | n=>n,fun | n=>n⟩
theorem ADT:SlLaysE0.n41 Tryz.prog AEH:={
 mixed:=by kernel_rfl
 f41:=⟨Tryz.f74.name,by decide,Tryz.func74.trans (congrArg some (by kernel_rfl))⟩
 t4:=Tryz.underlying4
 a4:=Tryz.isAgg4
 z4:=Tryz.sizeOf4
 v4:=Tryz.zeroValue4
 t22:=Tryz.underlying30
 a22:=Tryz.isAgg30
 z22:=Tryz.sizeOf30
 v22:=Tryz.zeroValue30 }
theorem AEf:yT Tryz.prog 47 AI=true:=by kernel_rfl
def AEI:Go.Shelf.Ren:=⟨fun | 45=>88 | n=>n,fun | 22=>29 | 23=>97 | n=>n,fun | n=>n⟩
theorem ADU:SlLaysE0.n45 Tryz.prog AEI:={
 mixed:=by kernel_rfl
 f45:=⟨Tryz.f88.name,by decide,Tryz.func88.trans (congrArg some (by kernel_rfl))⟩
 t0:=Tryz.underlying0
 a0:=Tryz.isAgg0
 z0:=Tryz.sizeOf0
 v0:=Tryz.zeroValue0
 t3:=Tryz.underlying3
 a3:=Tryz.isAgg3
 z3:=Tryz.sizeOf3
 v3:=Tryz.zeroValue3
 t4:=Tryz.underlying4
 a4:=Tryz.isAgg4
 z4:=Tryz.sizeOf4
 v4:=Tryz.zeroValue4
 t22:=Tryz.underlying29
 a22:=Tryz.isAgg29
 z22:=Tryz.sizeOf29
 v22:=Tryz.zeroValue29 }
theorem AEg:yT Tryz.prog 97 AJ=true:=by kernel_rfl
def AEJ:Go.Shelf.Ren:=⟨fun | 41=>99 | n=>n,fun | 22=>33 | 23=>3 | n=>n,fun | n=>n⟩
theorem ADV:SlLaysE0.n41 Tryz.prog AEJ:={
 mixed:=by kernel_rfl
 f41:=⟨Tryz.f99.name,by decide,Tryz.func99.trans (congrArg some (by kernel_rfl))⟩
 t4:=Tryz.underlying4
 a4:=Tryz.isAgg4
 z4:=Tryz.sizeOf4
 v4:=Tryz.zeroValue4
 t22:=Tryz.underlying33
 a22:=Tryz.isAgg33
 z22:=Tryz.sizeOf33
 v22:=Tryz.zeroValue33 }
theorem AEh:yT Tryz.prog 3 (.int .i64)=true:=by kernel_rfl
def ADW:Go.Shelf.Ren:=⟨fun | 41=>104 | n=>n,fun | 22=>36 | 23=>38 | n=>n,fun | n=>n⟩
theorem ACM:SlLaysE0.n41 Tryz.prog ADW:={
 mixed:=by kernel_rfl
 f41:=⟨Tryz.f104.name,by decide,Tryz.func104.trans (congrArg some (by kernel_rfl))⟩
 t4:=Tryz.underlying4
 a4:=Tryz.isAgg4
 z4:=Tryz.sizeOf4
 v4:=Tryz.zeroValue4
 t22:=Tryz.underlying36
 a22:=Tryz.isAgg36
 z22:=Tryz.sizeOf36
 v22:=Tryz.zeroValue36 }
theorem AEK:yT Tryz.prog 38 AF=true:=by kernel_rfl
def ADX:Go.Shelf.Ren:=⟨fun | 10=>144 | 6=>163 | n=>n,fun | 22=>33 | 23=>3 | 25=>69 | n=>n,fun | n=>n⟩
theorem ACN:SlLaysH.n10 Tryz.prog ADX:={
 mixed:=by kernel_rfl
 f6:=⟨Tryz.f163.name,by decide,Tryz.func163.trans (congrArg some (by kernel_rfl))⟩
 f10:=⟨Tryz.f144.name,by decide,Tryz.func144.trans (congrArg some (by kernel_rfl))⟩
 t0:=Tryz.underlying0
 a0:=Tryz.isAgg0
 z0:=Tryz.sizeOf0
 v0:=Tryz.zeroValue0
 t3:=Tryz.underlying3
 a3:=Tryz.isAgg3
 z3:=Tryz.sizeOf3
 v3:=Tryz.zeroValue3
 t4:=Tryz.underlying4
 a4:=Tryz.isAgg4
 z4:=Tryz.sizeOf4
 v4:=Tryz.zeroValue4
 t22:=Tryz.underlying33
 a22:=Tryz.isAgg33
 z22:=Tryz.sizeOf33
 v22:=Tryz.zeroValue33
 a23:=Tryz.isAgg3
 z23:=Tryz.sizeOf3
 t25:=Tryz.underlying69
 a25:=Tryz.isAgg69
 z25:=Tryz.sizeOf69
 v25:=Tryz.zeroValue69 }
theorem ACO:AEG Tryz.prog 145:=⟨enters_of Tryz.func145 (by kernel_rfl) rfl,fun n x b o W hc=>by
 go_enter Tryz.func145,Tryz.ntmps145
 go_wp2
 all_goals (go_ret; exact ⟨by simp_all,0,rfl⟩)⟩
def ADY:Go.Shelf.Ren:=⟨fun | 106=>161 | 213=>170 | 265=>174 | n=>n,fun | n=>n,fun | n=>n⟩
theorem ACP:Lays.n106 Tryz.prog ADY:={
 mixed:=by kernel_rfl
 f106:=Tryz.func161.trans (congrArg some (by kernel_rfl))
 f213:=Tryz.func170.trans (congrArg some (by kernel_rfl))
 f265:=Tryz.func174.trans (congrArg some (by kernel_rfl))
 t3:=Tryz.underlying3
 a3:=Tryz.isAgg3
 z3:=Tryz.sizeOf3
 v3:=Tryz.zeroValue3
 t9:=Tryz.underlying9
 a9:=Tryz.isAgg9
 z9:=Tryz.sizeOf9
 v9:=Tryz.zeroValue9 }
def ADZ:Go.Shelf.Ren:=⟨fun | 22=>162 | 29=>171 | 30=>172 | n=>n,fun | 24=>36 | 9=>38 | n=>n,fun | n=>n⟩
theorem ACQ:ABO Tryz.prog ADZ:={
 mixed:=by kernel_rfl
 f22:=⟨Tryz.f162.name,by decide,Tryz.func162.trans (congrArg some (by kernel_rfl))⟩
 ov:=fun args w=>run_callFunc_extern Tryz.func171 (by kernel_rfl) (by kernel_rfl) (by kernel_rfl) (by kernel_rfl) args w
 t3:=Tryz.underlying3
 a3:=Tryz.isAgg3
 z3:=Tryz.sizeOf3
 v3:=Tryz.zeroValue3
 t4:=Tryz.underlying4
 a4:=Tryz.isAgg4
 z4:=Tryz.sizeOf4
 v4:=Tryz.zeroValue4
 t24:=Tryz.underlying36
 a24:=Tryz.isAgg36
 z24:=Tryz.sizeOf36
 v24:=Tryz.zeroValue36 }
theorem AEL:yT Tryz.prog 38 AF=true:=by kernel_rfl

def AEi:List (Nat×BE):=[(6,J9),(9,Xs),(10,LI),(11,BM),(12,BX),(13,Gg),(14,DX),(15,Cb),(16,Cc),(17,Ro),(18,H8),(19,Ec),(20,Cg),(21,C0),(22,Dp),(23,D8),(24,Rp),(25,Rq),(27,Br),(28,CC),(29,DK),(30,Dq),(32,En),(33,Ed),(34,D9),(35,Hd),(36,IN),(37,PH),(38,BW),(39,D_),(40,He),(41,Rr),(42,Eo),(43,PI),(44,M5),(45,Co),(46,Ep),(47,Gw),(48,PJ),(49,Rs),(50,Al),(51,Gx),(52,Rt),(53,PL),(55,JD),(56,Ru),(57,EG),(58,An),(59,Gy),(60,Cd),(61,M7),(62,LJ),(63,CA),(64,Ba),(65,CD),(66,DY),(67,F9),(68,J_),(69,IP),(70,Cp),(71,HS),(72,UH),(73,Gz),(75,JE),(76,M8),(77,Er),(78,Ce),(79,F_),(80,LK),(81,EA),(82,C1),(83,UJ),(84,PN),(85,Cq),(86,M9),(87,Rv),(89,Hh),(90,Ch),(91,Bf),(92,M_),(95,Bu),(96,JF),(97,NA),(98,NB),(100,Ee),(101,G0),(102,Ac),(103,GV),(105,Es),(106,B5),(107,DL),(108,Bv),(109,Fj),(110,CS),(111,Ag),(113,C2),(114,Fv),(115,CK),(116,GW),(117,EP),(118,B2),(119,JG),(120,Fk),(121,Gh),(122,Fw),(123,BH),(124,Db),(125,KA),(126,Fx),(127,Fl),(128,Ct),(129,NH),(130,LL),(131,EQ),(132,Bk),(133,NI),(134,D5),(135,Dc),(137,Ad),(138,LN),(139,Et),(140,Fy),(141,Eu),(142,KB),(143,DB),(148,Aa),(154,NK),(158,DC),(159,AN),(160,KC),(169,LO)]
def fns (f:Nat):Option BE:=ADN f AEi
theorem AEp:AB6 Tryz.prog fns:=ABM (.cons xJ <| .cons AAA <| .cons pE <| .cons pF <| .cons pG <| .cons pH <| .cons mc <| .cons u9 <| .cons u_ <| .cons xK <| .cons zA <| .cons xL <| .cons xM <| .cons xN <| .cons xO <| .cons pI <| .cons xP <| .cons xQ <| .cons md <| .cons me <| .cons xR <| .cons xS <| .cons sM <| .cons vA <| .cons pJ <| .cons sN <| .cons gj <| .cons vB <| .cons mf <| .cons pK <| .cons sO <| .cons xT <| .cons sP <| .cons vC <| .cons sQ <| .cons gm <| .cons sR <| .cons cR <| .cons vD <| .cons xU <| .cons cS <| .cons cU <| .cons xV <| .cons vE <| .cons jZ <| .cons xW <| .cons Tb <| .cons Li <| .cons xX <| .cons fG <| .cons sS <| .cons pL <| .cons pM <| .cons sU <| .cons sV <| .cons mg <| .cons mh <| .cons xY <| .cons gp <| .cons gq <| .cons fH <| .cons zB <| .cons cY <| .cons ja <| .cons sW <| .cons sX <| .cons fI <| .cons mi <| .cons pN <| .cons pO <| .cons mj <| .cons zC <| .cons vF <| .cons gu <| .cons sY <| .cons xZ <| .cons sZ <| .cons jb <| .cons Im <| .cons sa <| .cons Xt <| .cons jc <| .cons sb <| .cons se <| .cons xb <| .cons xc <| .cons IQ <| .cons bE <| .cons sf <| .cons xd <| .cons xe <| .cons sg <| .cons xf <| .cons gw <| .cons Jf <| .cons Xu <| .cons vG <| .cons cm <| .cons bF <| .cons gx <| .cons bG <| .cons jd <| .cons Xv <| .cons pP <| .cons vH <| .cons sh <| .cons mm <| .cons mn <| .cons vI <| .cons xg <| .cons vJ <| .cons sj <| .cons pQ <| .cons gy <| .cons bH <| .cons sm <| .cons fJ <| .cons cr <| .cons Rw <| .cons pR <| .cons sn <| .cons vK <| .cons so <| .cons mo <| .cons je <| .cons Mh <| .cons sq <| .cons jf <| .cons Fm <| .cons mq <| .cons pS .nil)
def prims:HM:=fun f args bs=>if f=74 then ss 47 AI args bs else if f=88 then ACL 97 AJ args bs else if f=99 then ss 3 (.int .i64) args bs else if f=104 then ss 38 AF args bs else if f=144 then zH 3 145 args bs else if f=161 then AEF args bs else if f=162 then ACI 38 AF args bs else none
theorem ADa:Ka Tryz.prog prims:=fun f args bs rs h=>by
 unfold prims at h
 split at h
 ·rename_i e; subst e; exact sv ADT AEf h
 split at h
 ·rename_i e; subst e; exact ADS ADU AEg h
 split at h
 ·rename_i e; subst e; exact sv ADV AEh h
 split at h
 ·rename_i e; subst e; exact sv ACM AEK h
 split at h
 ·rename_i e; subst e; exact ACK ACN Tryz.zeroValue3 ACO h
 split at h
 ·rename_i e; subst e; exact ADQ ACP h
 split at h
 ·rename_i e; subst e; exact ADP ACQ AEL h
 cases h
abbrev cP:HM:=w5 fns prims
def cG {ρ:Type} (c:AG) (kn kr:St->Option ρ) (ke:Nat->St->Option ρ):St->Option ρ:=HZ cP MJ c kn kr ke
def lG {ρ:Type} (c:AG) (hs:List (Nat×Nat)) (l:List Nat) (n:Nat) (kr:St->Option ρ) (ke:Nat->St->Option ρ):St->Option ρ:=MJ fun go s'=>HZ cP MJ c (fun s''=>go (s''.cutH hs l n)) kr ke s'
def kJ {ρ:Type} (c:AG) (hs:List (Nat×Nat)) (l:List Nat) (n:Nat) (kn kr:St->Option ρ) (ke:Nat->St->Option ρ):St->Option ρ:=fun s=>cG c kn kr ke (s.cutH hs l n)
def kB {ρ:Type} (hs:List (Nat×Nat)) (l:List Nat) (n:Nat) (kn:St->Option ρ):St->Option ρ:=fun s=>kn (s.cutH hs l n)
def kE {ρ:Type} (b:Nat) (hs:List (Nat×Nat)) (l:List Nat) (n:Nat) (kn:St->Option ρ) (ke:Nat->St->Option ρ):Nat->St->Option ρ:=fun i s=>if i=b then kn (s.cutH hs l n) else ke i s
def kx {ρ:Type}:Nat->St->Option ρ:=fun _ _=>none
def cF (f:Nat) (a:BE) (x b:List AV):Option (RT a.outs):=(cP f x b).bind (C7 a.outs)
theorem cT (a:BE) {f:Nat} {x b:List AV} {t:Option (RT a.outs)} {r:RT a.outs} (hf:fns f=some a) (hl:x.length=a.params.length/\b.length=(Ek a.params 0).length) (e:ACD cP a x b=t) (h:t=some r):cF f a x b=some r:=zw hf hl (e.trans h)
theorem jS {ρ:Type} {t w:Option ρ} {r:ρ} (e:w=t) (h:t=some r):w=some r:=e.trans h
theorem lS {ρ:Type} {c:AG} {hs:List (Nat×Nat)} {l:List Nat} {n:Nat} {kr:St->Option ρ} {ke:Nat->St->Option ρ} {s:St} {t:Option ρ} {r:ρ} (e:HZ cP MJ c (fun s=>lG c hs l n kr ke (s.cutH hs l n)) kr ke s=t) (h:t=some r):lG c hs l n kr ke s=some r:=ABK (e.trans h)
def jj (x0:List Int):Option Bool:=cF 6 J9 [.lst (.int .u8) x0] []
def gz (x0:List Int):Option Bool:=cF 9 Xs [.lst (.int .u8) x0] []
def QB (x0:List Int):Option (List (List Int)×List AY):=cF 10 LI [.lst (.int .u8) x0] []
def QC (x0:List (List Int)) (x1:List AY):Option (AB×List Int×Bool):=cF 11 BM [.lst (.slice (.int .i64)) x0,.lst Ab x1] []
def QD (x0:List (List Int)) (x1:List AY):Option (AB×List Int×Bool):=cF 12 BX [.lst (.slice (.int .i64)) x0,.lst Ab x1] []
def Gi (x0:U):Option Bool:=cF 13 Gg [.agg (X.enc x0)] []
def Og (x0 x1:List AC):Option Bool:=cF 14 DX [.lst AI x0,.lst AI x1] []
def VL (x0:List AC):Option Bool:=cF 15 Cb [.lst AI x0] []
def VM (x0:List AC):Option Bool:=cF 16 Cc [.lst AI x0] []
def Dr (x0:AC):Option Int:=cF 17 Ro [.agg (AI.enc x0)] []
def ct (x0:AB) (x1:Int):Option AB:=cF 18 H8 [.agg (AO.enc x0),.int .i64 x1] []
def Xx (x0:List AC):Option Bool:=cF 19 Ec [.lst AI x0] []
def Xy (x0:List AC):Option Bool:=cF 20 Cg [.lst AI x0] []
def Xz (x0:List AC):Option Bool:=cF 21 C0 [.lst AI x0] []
def X0 (x0:List AC):Option Bool:=cF 22 Dp [.lst AI x0] []
def QE (x0 x1:List Int):Option Bool:=cF 23 D8 [.lst (.int .i64) x0,.lst (.int .i64) x1] []
def Ry (x0:AB):Option Bool:=cF 24 Rp [.agg (AO.enc x0)] []
def Rz (x0:AB):Option Bool:=cF 25 Rq [.agg (AO.enc x0)] []
def Oh (x0:AB):Option Bool:=cF 27 Br [.agg (AO.enc x0)] []
def Oi (x0:AB):Option Bool:=cF 28 CC [.agg (AO.enc x0)] []
def X1 (x0:AB):Option Bool:=cF 29 DK [.agg (AO.enc x0)] []
def X2 (x0:AB):Option Bool:=cF 30 Dq [.agg (AO.enc x0)] []
def Se (x1:List Int) (b0:AU):Option (Xq×AU):=cF 32 En [.ptr 0 0,.lst (.int .u8) x1] [.agg (BQ.enc b0)]
def VN (x0:List Int):Option AU:=cF 33 Ed [.lst (.int .u8) x0] []
def QF (x0:List (List Int)):Option (AB×Bool):=cF 34 D9 [.lst (.slice (.int .i64)) x0] []
def Sf (x0:AY):Option Bool:=cF 35 Hd [.agg (Ab.enc x0)] []
def IR (x1:AY) (x2:Int) (b0:AB):Option (Bool×AB):=cF 36 IN [.ptr 0 0,.agg (Ab.enc x1),.int .i64 x2] [.agg (Af.enc b0)]
def VO (x0:Bool):Option Int:=cF 37 PH [.bool x0] []
def C3 (x0:AB):Option AB:=cF 38 BW [.agg (AO.enc x0)] []
def LP (x0:List (List Int)):Option (AB×Bool):=cF 39 D_ [.lst (.slice (.int .i64)) x0] []
def Sg (x0:AY):Option Bool:=cF 40 He [.agg (Ab.enc x0)] []
def R0 (x1:Int) (x2:AY) (b0:AB):Option (Int×AB):=cF 41 Rr [.ptr 0 0,.int .i64 x1,.agg (Ab.enc x2)] [.agg (AO.enc b0)]
def Sh (x0:AB):Option AB:=cF 42 Eo [.agg (AO.enc x0)] []
def Ef (x0:Int):Option Bool:=cF 43 PI [.int .i64 x0] []
def Ah (x0 x1 x2:Int):Option Bool:=cF 44 M5 [.int .i64 x0,.int .i64 x1,.int .i64 x2] []
def IS (x0:List Int) (x1 x2:Int):Option Bool:=cF 45 Co [.lst (.int .i64) x0,.int .i64 x1,.int .i64 x2] []
def GH (x0:List Z):Option Bool:=cF 46 Ep [.lst AF x0] []
def Dd (b0:U):Option (Bool×U):=cF 47 Gw [.ptr 0 0] [.agg (X.enc b0)]
def Eg (x0:AC):Option Bool:=cF 48 PJ [.agg (AI.enc x0)] []
def Fn (x0:AC):Option Int:=cF 49 Rs [.agg (AI.enc x0)] []
def Jg (b0:AB):Option (Bool×AB):=cF 50 Al [.ptr 0 0] [.agg (AO.enc b0)]
def Ew (x1 x2:Int) (b0:AB):Option AB:=cF 51 Gx [.ptr 0 0,.int .i64 x1,.int .i64 x2] [.agg (Af.enc b0)]
def X3 (x0:List AC) (x1:AC):Option Bool:=cF 52 Rt [.lst AI x0,.agg (AI.enc x1)] []
def VP (x0 x1:AC):Option Bool:=cF 53 PL [.agg (AI.enc x0),.agg (AI.enc x1)] []
def JH (x1:Int) (b0:AB):Option (List Int×AB):=cF 55 JD [.ptr 0 0,.int .i64 x1] [.agg (AO.enc b0)]
def AX (x0 x1 x2:Int):Option Bool:=cF 56 Ru [.int .i64 x0,.int .i64 x1,.int .i64 x2] []
def CO (x0:List Int) (x1:Int):Option Bool:=cF 57 EG [.lst (.int .i64) x0,.int .i64 x1] []
def DS (x0 x1:List Z):Option Bool:=cF 58 An [.lst AF x0,.lst AF x1] []
def Ds (x0:List Int) (x1:Int):Option Bool:=cF 59 Gy [.lst (.int .i64) x0,.int .i64 x1] []
def Kc (x0 x1:List Z):Option Bool:=cF 60 Cd [.lst AF x0,.lst AF x1] []
def GI (b0:AU):Option (Int×AU):=cF 61 M7 [.ptr 0 0] [.agg (BQ.enc b0)]
def Cu (x1:Int) (b0:AU):Option (Int×AU):=cF 62 LJ [.ptr 0 0,.int .i64 x1] [.agg (BQ.enc b0)]
def QG (b0:AU):Option (List (List Int)×AU):=cF 63 CA [.ptr 0 0] [.agg (BQ.enc b0)]
def Si (b0:AU) (b1:AB):Option (AY×AU×AB):=cF 64 Ba [.ptr 0 0,.ptr 1 0] [.agg (BQ.enc b0),.agg (AO.enc b1)]
def Dt (x0:List (List Int)):Option Bool:=cF 65 CD [.lst (.slice (.int .i64)) x0] []
def KE (x0:List (List Int)):Option (List (List Int)):=cF 66 DY [.lst (.slice (.int .i64)) x0] []
def Oj (x0:Int) (x1:List (List Int)):Option (U×Bool):=cF 67 F9 [.int .i64 x0,.lst (.slice (.int .i64)) x1] []
def NL (x0 x1:Int) (x2 x3:ByteArray):Option Bool:=cF 68 J_ [.int .i64 x0,.int .i64 x1,.str x2,.str x3] []
def Lj (x1:AY) (x2:Int) (b0:AB):Option (Bool×AB):=cF 69 IP [.ptr 0 0,.agg (Ab.enc x1),.int .i64 x2] [.agg (Af.enc b0)]
def Lk (x1:AY) (x2:Int) (b0:AB):Option (Bool×AB):=cF 70 Cp [.ptr 0 0,.agg (Ab.enc x1),.int .i64 x2] [.agg (Af.enc b0)]
def B6 (x1:Int) (b0:AB):Option (Int×AB):=cF 71 HS [.ptr 0 0,.int .i64 x1] [.agg (Af.enc b0)]
def UY (x0:U):Option U:=cF 72 UH [.agg (X.enc x0)] []
def Jh (x1:AY) (x2:Int) (b0:AB):Option (Bool×AB):=cF 73 Gz [.ptr 0 0,.agg (Ab.enc x1),.int .i64 x2] [.agg (Af.enc b0)]
def DD (x0:U):Option U:=cF 75 JE [.agg (X.enc x0)] []
def Hn (x0:AA):Option AA:=cF 76 M8 [.agg (AJ.enc x0)] []
def Ex (x0:List (List Int)):Option Bool:=cF 77 Er [.lst (.slice (.int .i64)) x0] []
def HT (x0:List (List Int)):Option (List (List Int)):=cF 78 Ce [.lst (.slice (.int .i64)) x0] []
def Ok (x0:Int) (x1:List (List Int)):Option (U×Bool):=cF 79 F_ [.int .i64 x0,.lst (.slice (.int .i64)) x1] []
def QH (x1:Int) (x2:AY) (b0:AB):Option (Int×AB):=cF 80 LK [.ptr 0 0,.int .i64 x1,.agg (Ab.enc x2)] [.agg (AO.enc b0)]
def QI (x1 x2:Int) (b0:AB):Option (Int×AB):=cF 81 EA [.ptr 0 0,.int .i64 x1,.int .i64 x2] [.agg (AO.enc b0)]
def GA (x1:U) (x2:List AA) (x3:List AK) (x4:Int) (b0:AB):Option AB:=cF 82 C1 [.ptr 0 0,.agg (X.enc x1),.lst AJ x2,.lst BC x3,.int .i64 x4] [.agg (AO.enc b0)]
def cv (x0:U):Option U:=cF 83 UJ [.agg (X.enc x0)] []
def VQ (x1:Int) (x2:AY) (b0:AB):Option (Int×AB):=cF 84 PN [.ptr 0 0,.int .i64 x1,.agg (Ab.enc x2)] [.agg (AO.enc b0)]
def Ll (x0:List AA):Option (List AA):=cF 85 Cq [.lst AJ x0] []
def Du (x0:U):Option U:=cF 86 M9 [.agg (X.enc x0)] []
def R1 (x0:ByteArray):Option Bool:=cF 87 Rv [.str x0] []
def NM (x0:U) (x1:List (List Int)) (x2:AA):Option (U×List AA×List AK):=cF 89 Hh [.agg (X.enc x0),.lst (.slice (.int .i64)) x1,.agg (AJ.enc x2)] []
def G1 (x1:List AA) (x2:List AK) (x3:Int) (b0:AB):Option AB:=cF 90 Ch [.ptr 0 0,.lst AJ x1,.lst BC x2,.int .i64 x3] [.agg (Af.enc b0)]
def CY (x0:List AC) (x1:AC):Option Bool:=cF 91 Bf [.lst AI x0,.clo 92 AI x1] []
def Sj (x0 x1:AC):Option Bool:=cF 92 M_ [.agg (AI.enc x0),.fptr [.int .i64 x1.1,.str x1.2.1,.str x1.2.2.1,.int .i64 x1.2.2.2.1,.int .i64 x1.2.2.2.2.1,.int .i64 x1.2.2.2.2.2.1,.int .i64 x1.2.2.2.2.2.2.1,.int .i64 x1.2.2.2.2.2.2.2.1,.str x1.2.2.2.2.2.2.2.2] 0] []
def Dv (x0:List Int) (x1:Int):Option Int:=cF 95 Bu [.lst (.int .i64) x0,.int .i64 x1] []
def JI (x1:List Int) (b0:AU):Option (Int×AU):=cF 96 JF [.ptr 0 0,.lst (.int .i64) x1] [.agg (BQ.enc b0)]
def Dw (x1:Int) (b0:AU):Option (Bool×AU):=cF 97 NA [.ptr 0 0,.int .i64 x1] [.agg (BQ.enc b0)]
def NN (x1:List ByteArray) (b0:AU):Option (ByteArray×AU):=cF 98 NB [.ptr 0 0,.lst .str x1] [.agg (BQ.enc b0)]
def R2 (x0:U) (x1:List (List Int)) (x2 x3:Int) (x4 x5:ByteArray):Option (U×List AA×List AK×Bool):=cF 100 Ee [.agg (X.enc x0),.lst (.slice (.int .i64)) x1,.int .i64 x2,.int .i64 x3,.str x4,.str x5] []
def R3 (x0:U) (x1:List (List Int)) (x2:Int):Option (U×List AA×Bool):=cF 101 G0 [.agg (X.enc x0),.lst (.slice (.int .i64)) x1,.int .i64 x2] []
def CT (x0:List U) (x1:Int):Option Int:=cF 102 Ac [.lst X x0,.clo 103 (.int .i64) x1] []
def I2 (x0:U) (x1:Int):Option Bool:=cF 103 GV [.agg (X.enc x0),.fptr [.int .i64 x1] 0] []
def Sk (x0:List Int):Option Bool:=cF 105 Es [.lst (.int .i64) x0] []
def X4 (x0:U) (x1:List (List Int)) (x2 x3:Int) (x4 x5:ByteArray):Option (U×List AA×List AK×Bool):=cF 106 B5 [.agg (X.enc x0),.lst (.slice (.int .i64)) x1,.int .i64 x2,.int .i64 x3,.str x4,.str x5] []
def X5 (x0:U) (x1:List (List Int)) (x2:Int):Option (U×List AA×Bool):=cF 107 DL [.agg (X.enc x0),.lst (.slice (.int .i64)) x1,.int .i64 x2] []
def Sl (x0:U) (x1:List (List Int)) (x2:AA):Option (U×List AA×List AK):=cF 108 Bv [.agg (X.enc x0),.lst (.slice (.int .i64)) x1,.agg (AJ.enc x2)] []
def X6 (x0:AA):Option Bool:=cF 109 Fj [.agg (AJ.enc x0)] []
def Ln (x1:List (List Int)) (x2:AA) (b0:U):Option (List AA×List AK×U):=cF 110 CS [.ptr 0 0,.lst (.slice (.int .i64)) x1,.agg (AJ.enc x2)] [.agg (X.enc b0)]
def Cr (x0:List AC) (x1:AC):Option Int:=cF 111 Ag [.lst AI x0,.clo 92 AI x1] []
def IU (x1:List (List Int)) (b0:U):Option (Bool×U):=cF 113 C2 [.ptr 0 0,.lst (.slice (.int .i64)) x1] [.agg (X.enc b0)]
def PO (x0:List Z) (x1:ByteArray):Option Z:=cF 114 Fv [.lst AF x0,.str x1] []
def CL (x1:List Int) (b0:U):Option (List Int×U):=cF 115 CK [.ptr 0 0,.lst (.int .i64) x1] [.agg (X.enc b0)]
def DF (b0:List Int):Option (List Int):=cF 116 GW [.row 0] [.new 3 (.int .i64) b0]
def IV (b0:U):Option (List AK×U):=cF 117 EP [.ptr 0 0] [.agg (X.enc b0)]
def Ap (x1:List Int) (x2:AA) (b0:U):Option (List AA×U):=cF 118 B2 [.ptr 0 0,.lst (.int .i64) x1,.agg (AJ.enc x2)] [.agg (X.enc b0)]
def G2 (b0:U):Option U:=cF 119 JG [.ptr 0 0] [.agg (X.enc b0)]
def Dx (x1:List Int) (x2:List Z) (b0:U):Option (List AA×U):=cF 120 Fk [.ptr 0 0,.lst (.int .i64) x1,.lst AF x2] [.agg (X.enc b0)]
def Gj (x0:U):Option Bool:=cF 121 Gh [.agg (X.enc x0)] []
def PP (x0:List Z) (x1:ByteArray):Option Z:=cF 122 Fw [.lst AF x0,.str x1] []
def Ji (x0:List Z) (x1:Z):Option (List Z):=cF 123 BH [.lst AF x0,.agg (AF.enc x1)] []
def Ho (x0:List Int) (x1:Int):Option (List Int):=cF 124 Db [.lst (.int .i64) x0,.int .i64 x1] []
def Hp (b0:U):Option (List AK×U):=cF 125 KA [.ptr 0 0] [.agg (X.enc b0)]
def PQ (x1:List Int) (x2:List Z) (b0:U):Option (List AA×U):=cF 126 Fx [.ptr 0 0,.lst (.int .i64) x1,.lst AF x2] [.agg (X.enc b0)]
def X7 (x0:AA):Option Bool:=cF 127 Fl [.agg (AJ.enc x0)] []
def VR (x0:U) (x1:List Int) (x2:AA):Option (U×List AA×List AK):=cF 128 Ct [.agg (X.enc x0),.lst (.int .i64) x1,.agg (AJ.enc x2)] []
def NO (x0:U) (x1:Int):Option U:=cF 129 NH [.agg (X.enc x0),.int .i64 x1] []
def FE (x0:U) (x1:AA) (x2:Int):Option (List AA):=cF 130 LL [.agg (X.enc x0),.agg (AJ.enc x1),.int .i64 x2] []
def Lo (x1:List (List Int)) (x2:AA) (b0:U):Option (List AA×U):=cF 131 EQ [.ptr 0 0,.lst (.slice (.int .i64)) x1,.agg (AJ.enc x2)] [.agg (X.enc b0)]
def I3 (x1:List Int) (x2:AA) (b0:U):Option (List AA×U):=cF 132 Bk [.ptr 0 0,.lst (.int .i64) x1,.agg (AJ.enc x2)] [.agg (X.enc b0)]
def NP (x0:List Int) (x1:Int):Option (List Int):=cF 133 NI [.lst (.int .i64) x0,.int .i64 x1] []
def Ke (x1:AA) (b0:U):Option (List AA×U):=cF 134 D5 [.ptr 0 0,.agg (AJ.enc x1)] [.agg (X.enc b0)]
def G3 (x1:Int) (x2:AA) (b0:U):Option (List AK×U):=cF 135 Dc [.ptr 0 0,.int .i64 x1,.agg (AJ.enc x2)] [.agg (X.enc b0)]
def Ci (x1 x2 x3:Int) (b0:List Int):Option (List Int):=cF 137 Ad [.row 0,.int .i64 x1,.int .i64 x2,.int .i64 x3] [.new 3 (.int .i64) b0]
def QJ (x0:Int):Option Int:=cF 138 LN [.int .u64 x0] []
def NQ (x0:List Z) (x1:Z):Option (List Z):=cF 139 Et [.lst AF x0,.agg (AF.enc x1)] []
def Dk (x0:List Int):Option Bool:=cF 140 Fy [.lst (.int .i64) x0] []
def Dy (x0:List Z):Option Bool:=cF 141 Eu [.lst AF x0] []
def Ol (x0:w6):Option Bool:=cF 142 KB [.agg (Mw.enc x0)] []
def JJ (x0:List Int) (x1:Int):Option (List Int):=cF 143 DB [.lst (.int .i64) x0,.int .i64 x1] []
def Di (x1 x2:Int) (b0:List Int):Option (List Int):=cF 148 Aa [.row 0,.int .i64 x1,.int .i64 x2] [.new 3 (.int .i64) b0]
def NR (x0 x1:Int):Option Bool:=cF 154 NK [.int .i64 x0,.int .i64 x1] []
def NS (x0:Int):Option Int:=cF 158 DC [.int .u64 x0] []
def Bd (x0:List Z) (x1:ByteArray) (x2:Unit):Option (Int×Bool):=cF 159 AN [.lst AF x0,.str x1,.fn 160 []] []
def KF (x0:Z) (x1:ByteArray):Option Int:=cF 160 KC [.agg (AF.enc x0),.str x1] []
def LQ (x0:Int):Option Bool:=cF 169 LO [.int .i64 x0] []
def DU (q0:List AC):Option (List AC):=(cP 74 [.lst AI q0] []).bind (C7 [(.own 47 AI)])
def Bn (q0:List AA) (q1 q2:Int):Option (List AA):=(cP 88 [.new 97 AJ q0,.int .i64 q1,.int .i64 q2] []).bind (C7 [(.own 97 AJ)])
def Bw (q0:List Int):Option (List Int):=(cP 99 [.lst (.int .i64) q0] []).bind (C7 [(.own 3 (.int .i64))])
def Ao (q0:List Z):Option (List Z):=(cP 104 [.lst AF q0] []).bind (C7 [(.own 38 AF)])
def Fo (q0:List Int) (q1:Int):Option (List Int):=(cP 144 [.new 3 (.int .i64) q0,.clo 145 (.int .i64) q1] []).bind (C7 [(.own 3 (.int .i64))])
def QK (q0 q1:Int) (q2:List Int):Option (List Int):=(cP 149 [.row 0,.int .i64 q0,.int .i64 q1] [.new 3 (.int .i64) q2]).bind (C7 [(.own 3 (.int .i64))])
def Mi (q0 q1:Int) (q2:List Int):Option (List Int):=(cP 150 [.row 0,.int .i64 q0,.int .i64 q1] [.new 3 (.int .i64) q2]).bind (C7 [(.own 3 (.int .i64))])
def N9 (q0 q1:Int) (q2:List Int):Option (Int×Int×List Int):=(cP 151 [.row 0,.int .i64 q0,.int .i64 q1] [.new 3 (.int .i64) q2]).bind (C7 [(.int .i64),(.int .i64),(.own 3 (.int .i64))])
def NT (q0 q1:Int) (q2:List Int):Option (List Int):=(cP 152 [.row 0,.int .i64 q0,.int .i64 q1] [.new 3 (.int .i64) q2]).bind (C7 [(.own 3 (.int .i64))])
def I4 (q0 q1:Int) (q2:List Int):Option (Bool×List Int):=(cP 153 [.row 0,.int .i64 q0,.int .i64 q1] [.new 3 (.int .i64) q2]).bind (C7 [.bool,(.own 3 (.int .i64))])
def Lq (q0 q1 q2:Int) (q3:List Int):Option (Int×List Int):=(cP 155 [.row 0,.int .i64 q0,.int .i64 q1,.int .i64 q2] [.new 3 (.int .i64) q3]).bind (C7 [(.int .i64),(.own 3 (.int .i64))])
def Pl (q0 q1 q2:Int) (q3:List Int):Option (Int×Bool×List Int):=(cP 156 [.row 0,.int .i64 q0,.int .i64 q1,.int .i64 q2] [.new 3 (.int .i64) q3]).bind (C7 [(.int .i64),.bool,(.own 3 (.int .i64))])
def DG (q0:List Z) (q1:Int) (q2:List Z):Option (List Z):=(cP 162 [.new 38 AF q0,.int .i64 q1,.new 38 AF q2] []).bind (C7 [(.own 38 AF)])
def NU (q0 q1:ByteArray):Option Int:=(cP 161 [.str q0,.str q1] []).bind (C7 [(.int .i64)])
theorem Lr {x0:List AC} (h:x0.length<=68719476736):DU x0=some x0:=by
 unfold DU cP
 rw [Ob (r:=[.new 47 AI x0]) rfl (su (t:=47) (K:=AI) (xs:=x0) h)]
 rfl
theorem Gd {x0:List AA} {i j:Nat} (hi:i<=j) (hj:j<=x0.length):Bn x0 (i:Int) (j:Int)=some (x0.take i++x0.drop j):=by
 unfold Bn cP
 rw [Ob (r:=[.new 97 AJ (x0.take i++x0.drop j)]) rfl (ADR (t:=97) (K:=AJ) (xs:=x0) hi hj)]
 rfl
theorem C4 {x0:List Int} (h:x0.length<=68719476736):Bw x0=some x0:=by
 unfold Bw cP
 rw [Ob (r:=[.new 3 (.int .i64) x0]) rfl (su (t:=3) (K:=(.int .i64)) (xs:=x0) h)]
 rfl
theorem BK {x0:List Z} (h:x0.length<=68719476736):Ao x0=some x0:=by
 unfold Ao cP
 rw [Ob (r:=[.new 38 AF x0]) rfl (su (t:=38) (K:=AF) (xs:=x0) h)]
 rfl
theorem R4 {x0:List Int} {x1:Int}:Fo x0 x1=some (x0.filter fun x=>!(x==x1)):=by
 unfold Fo cP
 rw [Ob (fns:=fns) (prims:=prims) (f:=144) (args:=[.new 3 (.int .i64) x0,.clo 145 (.int .i64) x1]) (bs:=[]) (r:=[.new 3 (.int .i64) (x0.filter fun x=>!(x==x1))]) rfl (ACJ (t:=3) (g:=145) (xs:=x0) (n:=x1))]
 rfl
theorem jk {x0 x1:ByteArray}:NU x0 x1=some (Go.Lib.compareBytes x0.data.toList x1.data.toList):=by
 unfold NU cP
 rw [Ob (r:=[.int .i64 (Go.Lib.compareBytes x0.data.toList x1.data.toList)]) rfl rfl]
 rfl
theorem K6 {x0:List Z} {i:Nat} {x2:List Z} (h:x0.length+x2.length<=68719476736) (hi:i<=x0.length) (hv:x2.length≠0):DG x0 (i:Int) x2=some (x0.take i++x2++x0.drop i):=by
 unfold DG cP
 rw [Ob (r:=[.new 38 AF (x0.take i++x2++x0.drop i)]) rfl (ADO (t:=38) (K:=AF) (xs:=x0) (vs:=x2) (i:=i) h hi hv)]
 rfl

def Zl (x0:Bool) (x1 x2:AB):Option Bool:=cG cI (AH J9) (AH J9) kx ⟨[(5,.ptr 0 0),(54,.bool x0)],[.var (AO.enc x1),.var (AO.enc x2)]⟩
def Zm (x0:Bool) (x1 x2:AB):Option Bool:=((ct x1 300).bind fun y7=>((Ry x1).bind fun y8=>(if y8=true then ((Rz x1).bind fun y9=>(if y9=true then ((Ry y7).bind fun y10=>(if y10=true then ((Rz y7).bind fun y11=>(some y11)) else (some false))) else (some false))) else (some false))))
def jl (x0:List Int):Option Bool:=((gz x0).bind fun y1=>(if y1=true then (some true) else ((QB x0).bind fun y2=>((QC y2.1 y2.2).bind fun y3=>((QD y2.1 y2.2).bind fun y4=>(if (!y3.2.2)=false then ((QE y3.2.1 y4.2.1).bind fun y5=>(if (!y5)=false then ((Og y3.1.2.2.2 y4.1.2.2.2).bind fun y6=>(if (!y6)=false then (if ((y3.1.2.1.length:Int) != 6)=true then (some false) else (Zl ((y3.1.2.1.length:Int) != 6) y3.1 y4.1)) else (some false))) else (some false))) else (some false)))))))
theorem pT:Rn Zm Zl:=jS (by kernel_rfl)
theorem xk:Mk jl jj:=cT J9 rfl ⟨rfl,rfl⟩ (by kernel_rfl)
def AAD (x0:List Int):Option Bool:=(some (decide ((x0.length:Int)>1048576)))
theorem AAE:Mk AAD gz:=cT Xs rfl ⟨rfl,rfl⟩ (by kernel_rfl)
def Zn (x0:List Int):Option (List (List Int)×List AY):=((VN x0).bind fun y1=>((Se x0 y1).bind fun y2=>(some (y2.1.1,y2.1.2))))
theorem pU:Mk Zn QB:=cT LI rfl ⟨rfl,rfl⟩ (by kernel_rfl)
def jm:=cG SL (AH BM) (AH BM) kx
def jn:=kE 2 [(11,11)] [4,7,11] 12 jm kx
def g7:St->Option (RT (BE.outs BM)):=lG SK [(11,11)] [4,7,11,39,40,41] 12 (AH BM) jn
def jo:=cG Lg (AH BM) (AH BM) kx
def jp:=kE 0 [] [1,4,7] 11 jo kx
def g8:St->Option (RT (BE.outs BM)):=lG Tr [] [1,4,7,28,29,30] 11 (AH BM) jp
def GJ (x0:List AY) (x1 x2:Int) (x3:List U) (x4:List AA) (x5:List AC) (x6:List (List Int)) (x7:List U) (x8:List AA) (x9:List AC) (x10:List (List Int)) (x11:List Int):Option (AB×List Int×Bool):=g7 ⟨[(4,.ptr 3 0),(7,.ptr 10 0),(11,.row 11),(39,.lst Ab x0),(40,.int .i64 x1),(41,.int .i64 x2)],[.rows 42 X x3,.rows 97 AJ x4,.rows 47 AI x5,.var [.lst (.slice (.int .i64)) x6,.row 0,.row 1,.row 2],.dead,.dead,.dead,.rows 42 X x7,.rows 97 AJ x8,.rows 47 AI x9,.var [.lst (.slice (.int .i64)) x10,.row 7,.row 8,.row 9],.rows 3 (.int .i64) x11]⟩
def Sm (x0:List AY) (x1:List U) (x2:List AA) (x3:List AC) (x4:List (List Int)) (x5:List U) (x6:List AA) (x7:List AC) (x8:List (List Int)):Option (AB×List Int×Bool):=cG Lg (AH BM) (AH BM) kx ⟨[(1,.lst Ab x0),(4,.ptr 3 0),(7,.ptr 10 0)],[.rows 42 X x1,.rows 97 AJ x2,.rows 47 AI x3,.var [.lst (.slice (.int .i64)) x4,.row 0,.row 1,.row 2],.dead,.dead,.dead,.rows 42 X x5,.rows 97 AJ x6,.rows 47 AI x7,.var [.lst (.slice (.int .i64)) x8,.row 7,.row 8,.row 9]]⟩
def GK (x0 x1:List AY) (x2 x3:Int) (x4:List U) (x5:List AA) (x6:List AC) (x7:List (List Int)) (x8:List U) (x9:List AA) (x10:List AC) (x11:List (List Int)):Option (AB×List Int×Bool):=g8 ⟨[(1,.lst Ab x0),(4,.ptr 3 0),(7,.ptr 10 0),(28,.lst Ab x1),(29,.int .i64 x2),(30,.int .i64 x3)],[.rows 42 X x4,.rows 97 AJ x5,.rows 47 AI x6,.var [.lst (.slice (.int .i64)) x7,.row 0,.row 1,.row 2],.dead,.dead,.dead,.rows 42 X x8,.rows 97 AJ x9,.rows 47 AI x10,.var [.lst (.slice (.int .i64)) x11,.row 7,.row 8,.row 9]]⟩
def Sn (x0:List AY) (x1:Bool) (x2:List U) (x3:List AA) (x4:List AC) (x5:List (List Int)) (x6:List U) (x7:List AA) (x8:List AC) (x9:List (List Int)):Option (AB×List Int×Bool):=cG SM (AH BM) (AH BM) kx ⟨[(1,.lst Ab x0),(4,.ptr 3 0),(7,.ptr 10 0),(26,.bool x1)],[.rows 42 X x2,.rows 97 AJ x3,.rows 47 AI x4,.var [.lst (.slice (.int .i64)) x5,.row 0,.row 1,.row 2],.dead,.dead,.dead,.rows 42 X x6,.rows 97 AJ x7,.rows 47 AI x8,.var [.lst (.slice (.int .i64)) x9,.row 7,.row 8,.row 9]]⟩
def Ls (x0:List AY) (x1 x2:Int) (x3:List U) (x4:List AA) (x5:List AC) (x6:List (List Int)) (x7:List U) (x8:List AA) (x9:List AC) (x10:List (List Int)) (x11:List Int):Option (AB×List Int×Bool):=(if (decide (x2<x1))=true then (if 0<=x2 then (if x2<(x0.length:Int) then ((IR (x0.getD x2.toNat (0,0,0,0,O,O)) x2 (x10,x7,x8,x9)).bind fun y3=>((VO y3.1).bind fun y4=>(if x11.length+([y4]:List Int).length<=68719476736 then (GJ x0 x1 (i64.wrap (x2+1)) x3 x4 x5 x6 y3.2.2.1 y3.2.2.2.1 y3.2.2.2.2 y3.2.1 (x11++([y4]:List Int))) else none))) else none) else none) else ((C3 (x10,x7,x8,x9)).bind fun y5=>(some (y5,x11,true))))
def So (x0:List AY) (x1:List U) (x2:List AA) (x3:List AC) (x4:List (List Int)) (x5:List U) (x6:List AA) (x7:List AC) (x8:List (List Int)):Option (AB×List Int×Bool):=(GJ x0 (x0.length:Int) 0 x1 x2 x3 x4 x5 x6 x7 x8 ([]:List Int))
def Lt (x0 x1:List AY) (x2 x3:Int) (x4:List U) (x5:List AA) (x6:List AC) (x7:List (List Int)) (x8:List U) (x9:List AA) (x10:List AC) (x11:List (List Int)):Option (AB×List Int×Bool):=(if (decide (x3<x2))=true then (if 0<=x3 then (if x3<(x1.length:Int) then ((Sf (x1.getD x3.toNat (0,0,0,0,O,O))).bind fun y2=>(if (!y2)=true then (some (([],([]:List U),([]:List AA),([]:List AC)),[],false)) else (GK x0 x1 x2 (i64.wrap (x3+1)) x4 x5 x6 x7 x8 x9 x10 x11))) else none) else none) else (Sm x0 x4 x5 x6 x7 x8 x9 x10 x11))
def Sp (x0:List AY) (x1:Bool) (x2:List U) (x3:List AA) (x4:List AC) (x5:List (List Int)) (x6:List U) (x7:List AA) (x8:List AC) (x9:List (List Int)):Option (AB×List Int×Bool):=(GK x0 x0 (x0.length:Int) 0 x2 x3 x4 x5 x6 x7 x8 x9)
def Zo (x0:List (List Int)) (x1:List AY):Option (AB×List Int×Bool):=((QF x0).bind fun y1=>(if (!y1.2)=false then (if (decide ((x1.length:Int)>70))=true then (some (([],([]:List U),([]:List AA),([]:List AC)),[],false)) else (Sn x1 (decide ((x1.length:Int)>70)) ([]:List U) ([]:List AA) ([]:List AC) ([]:List (List Int)) y1.1.2.1 y1.1.2.2.1 y1.1.2.2.2 y1.1.1)) else (some (([],([]:List U),([]:List AA),([]:List AC)),[],false))))
theorem Sq:AEE Ls GJ:=lS (by kernel_rfl)
theorem g9:Le9 So Sm:=jS (by kernel_rfl)
theorem Sr:AEE Lt GK:=lS (by kernel_rfl)
theorem g_:uz Sp Sn:=jS (by kernel_rfl)
theorem pV:N7 Zo QC:=cT BM rfl ⟨rfl,rfl⟩ (by kernel_rfl)
def jq:=cG SN (AH BX) (AH BX) kx
def jr:=kE 2 [(10,2)] [4,7,10] 3 jq kx
def hJ:St->Option (RT (BE.outs BX)):=lG Tu [(10,2)] [1,4,7,10,11] 3 (AH BX) jr
def jt:=cG Lh (AH BX) (AH BX) kx
def UZ:=kE 0 [] [1,4,7,8] 2 jt kx
def Ss:St->Option (RT (BE.outs BX)):=lG Tt [] [1,4,7,8,9] 2 (AH BX) UZ
def ju:=kB [] [1,4,7,8,9] 2 Ss
def Su (x0:List AY) (x1:Bool) (x2:Int) (x3:Bool) (x4 x5:AB):Option (AB×List Int×Bool):=cG Ts ju (AH BX) UZ ⟨[(1,.lst Ab x0),(4,.ptr 0 0),(7,.ptr 1 0),(8,.bool x1),(9,.int .i64 x2),(23,.bool x3)],[.var (AO.enc x4),.var (AO.enc x5)]⟩
def GL (x0:List AY) (x1:Int) (x2 x3:AB) (x4:List Int):Option (AB×List Int×Bool):=hJ ⟨[(1,.lst Ab x0),(4,.ptr 0 0),(7,.ptr 1 0),(10,.row 2),(11,.int .i64 x1)],[.var (AO.enc x2),.var (AO.enc x3),.rows 3 (.int .i64) x4]⟩
def IW (x0:List AY) (x1:Bool) (x2 x3:AB):Option (AB×List Int×Bool):=cG Lh (AH BX) (AH BX) kx ⟨[(1,.lst Ab x0),(4,.ptr 0 0),(7,.ptr 1 0),(8,.bool x1)],[.var (AO.enc x2),.var (AO.enc x3)]⟩
def ES (x0:List AY) (x1:Bool) (x2:Int) (x3 x4:AB):Option (AB×List Int×Bool):=Ss ⟨[(1,.lst Ab x0),(4,.ptr 0 0),(7,.ptr 1 0),(8,.bool x1),(9,.int .i64 x2)],[.var (AO.enc x3),.var (AO.enc x4)]⟩
def Sv (x0:List AY) (x1:Bool) (x2:Int) (x3:Bool) (x4 x5:AB):Option (AB×List Int×Bool):=(if (decide ((x0.length:Int)<=70))=true then (if 0<=x2 then (if x2<(x0.length:Int) then ((Sg (x0.getD x2.toNat (0,0,0,0,O,O))).bind fun y2=>(ES x0 y2 (i64.wrap (x2+1)) x4 x5)) else none) else none) else (ES x0 false (i64.wrap (x2+1)) x4 x5))
def Lu (x0:List AY) (x1:Int) (x2 x3:AB) (x4:List Int):Option (AB×List Int×Bool):=(if (decide (x1<(x0.length:Int)))=true then (if 0<=x1 then (if x1<(x0.length:Int) then ((R0 x1 (x0.getD x1.toNat (0,0,0,0,O,O)) x3).bind fun y3=>(if x4.length+([y3.1]:List Int).length<=68719476736 then (GL x0 (i64.wrap (x1+1)) x2 y3.2 (x4++([y3.1]:List Int))) else none)) else none) else none) else ((Sh x3).bind fun y4=>(some (y4,x4,true))))
def Sw (x0:List AY) (x1:Bool) (x2 x3:AB):Option (AB×List Int×Bool):=(if (!x1)=true then (some ((([]:List (List Int)),([]:List U),([]:List AA),([]:List AC)),([]:List Int),false)) else (GL x0 0 x2 x3 ([]:List Int)))
def Lv (x0:List AY) (x1:Bool) (x2:Int) (x3 x4:AB):Option (AB×List Int×Bool):=(if (decide (x2<(x0.length:Int)))=true then (if x1=true then (Su x0 x1 x2 x1 x3 x4) else (IW x0 x1 x3 x4)) else (IW x0 x1 x3 x4))
def Zp (x0:List (List Int)) (x1:List AY):Option (AB×List Int×Bool):=((LP x0).bind fun y1=>(ES x1 y1.2 0 (([]:List (List Int)),([]:List U),([]:List AA),([]:List AC)) y1.1))
theorem hO:zz Sv Su:=jS (by kernel_rfl)
theorem Sx:zf Lu GL:=lS (by kernel_rfl)
theorem hP:cH Sw IW:=jS (by kernel_rfl)
theorem Sy:zf Lv ES:=lS (by kernel_rfl)
theorem pW:N7 Zp QD:=cT BX rfl ⟨rfl,rfl⟩ (by kernel_rfl)
def Lw (x0:Bool) (x1:U):Option Bool:=cG Tv (AH Gg) (AH Gg) kx ⟨[(1,.ptr 0 0),(30,.bool x0)],[.var (X.enc x1)]⟩
def Sz (x0:Bool) (x1:U):Option Bool:=(if x1.2.2.2.2.2.1=true then (if (!x1.2.2.2.1)=false then (if (!x1.2.2.2.2.1)=false then (if (decide ((x1.2.2.2.2.2.2.1.length:Int)>0))=false then (if x1.2.2.1=true then (if x1.2.2.2.1=false then (if x1.2.2.2.2.1=true then (some false) else ((Dd x1).bind fun y6=>(some y6.1))) else (some false)) else ((Dd x1).bind fun y7=>(some y7.1))) else (some false)) else (some false)) else (some false)) else (if x1.2.2.1=true then (if x1.2.2.2.1=false then (if x1.2.2.2.2.1=true then (some false) else ((Dd x1).bind fun y8=>(some y8.1))) else (some false)) else ((Dd x1).bind fun y9=>(some y9.1))))
def Zq (x0:U):Option Bool:=((Ef x0.1).bind fun y1=>(if (!y1)=false then ((Ah x0.2.1 1 9).bind fun y2=>(if (!y2)=false then ((IS x0.2.2.2.2.2.2.1 1 6).bind fun y3=>(if (!y3)=false then ((GH x0.2.2.2.2.2.2.2.1).bind fun y4=>(if (!y4)=false then ((Ah x0.2.2.2.2.2.2.2.2.1 0 900).bind fun y5=>(if (!y5)=true then (some false) else (Lw (!y5) x0))) else (some false))) else (some false))) else (some false))) else (some false)))
theorem hU:N7 Sz Lw:=jS (by kernel_rfl)
theorem pX:Mk Zq Gi:=cT Gg rfl ⟨rfl,rfl⟩ (by kernel_rfl)
def hX:=cG SP (AH DX) (AH DX) kx
def hY:=kE 0 [] [] 0 hX kx
def fK:St->Option (RT (BE.outs DX)):=lG SO [] [0,1,5] 0 (AH DX) hY
def HU (x0 x1:List AC) (x2:Int):Option Bool:=fK ⟨[(0,.lst AI x0),(1,.lst AI x1),(5,.int .i64 x2)],[]⟩
def Kf (x0 x1:List AC) (x2:Int):Option Bool:=(if (decide (x2<(x0.length:Int)))=true then (if 0<=x2 then (if x2<(x0.length:Int) then (if 0<=x2 then (if x2<(x1.length:Int) then (if (true != P5 AI (x0.getD x2.toNat (0,O,O,0,0,0,0,0,O)) (x1.getD x2.toNat (0,O,O,0,0,0,0,0,O)))=true then (some false) else (HU x0 x1 (i64.wrap (x2+1)))) else none) else none) else none) else none) else (some true))
def WS (x0 x1:List AC):Option Bool:=(if ((x0.length:Int) != (x1.length:Int))=true then (some false) else (HU x0 x1 0))
theorem RF:Rn Kf HU:=lS (by kernel_rfl)
theorem mx:N7 WS Og:=cT DX rfl ⟨rfl,rfl⟩ (by kernel_rfl)
def pY:=cG Vt (AH Cb) (AH Cb) kx
def QL:=kE 0 [] [] 0 pY kx
def WT:St->Option (RT (BE.outs Cb)):=lG Vs [] [0,7,8,9] 0 (AH Cb) QL
def pZ:=kB [] [0,7,8,9] 0 WT
def Zr:=cG Vr pZ (AH Cb) QL
def pa:=kB [] [0,7,8,9] 0 Zr
def pb:=kE 1 [] [0,7,8,9] 0 Zr QL
def QM:=kE 2 [] [0,7,8,9] 1 pa pb
def WU:St->Option (RT (BE.outs Cb)):=lG YZ [] [0,3,4,7,8,9,14,15,16] 1 (AH Cb) QM
def pd:=kB [] [0,3,4,7,8,9,14,15,16] 1 WU
def Zs:=cG YY pd (AH Cb) QM
def pe:=kB [] [0,3,4,7,8,9,14,15,16] 1 Zs
def my:=kE 3 [] [0,3,4,7,8,9,14,15,16] 1 Zs QM
def Om (x0:List AC) (x1:Int) (x2:List AC) (x3 x4:Int) (x5:List AC) (x6 x7:Int) (x8:Bool) (x9 x10:AC):Option Bool:=cG YX pe (AH Cb) my ⟨[(0,.lst AI x0),(3,.int .i64 x1),(4,.ptr 0 0),(6,.ptr 1 0),(7,.lst AI x2),(8,.int .i64 x3),(9,.int .i64 x4),(14,.lst AI x5),(15,.int .i64 x6),(16,.int .i64 x7),(33,.bool x8)],[.var (AI.enc x9),.var (AI.enc x10)]⟩
def De (x0:List AC) (x1:Int) (x2:List AC) (x3 x4:Int) (x5:List AC) (x6 x7:Int) (x8:AC):Option Bool:=WU ⟨[(0,.lst AI x0),(3,.int .i64 x1),(4,.ptr 0 0),(7,.lst AI x2),(8,.int .i64 x3),(9,.int .i64 x4),(14,.lst AI x5),(15,.int .i64 x6),(16,.int .i64 x7)],[.var (AI.enc x8)]⟩
def KG (x0 x1:List AC) (x2 x3:Int):Option Bool:=WT ⟨[(0,.lst AI x0),(7,.lst AI x1),(8,.int .i64 x2),(9,.int .i64 x3)],[]⟩
def WV (x0:List AC) (x1:Int) (x2:List AC) (x3 x4:Int) (x5:List AC) (x6 x7:Int) (x8:Bool) (x9 x10:AC):Option Bool:=((Dr x9).bind fun y3=>((Dr x10).bind fun y4=>(if (y3==y4)=true then (some false) else (if (decide (x9.2.2.2.2.1<x10.2.2.2.1))=true then ((Dr x9).bind fun y5=>((Dr x10).bind fun y6=>(if (decide (y5>y6))=true then (some false) else (De x0 x1 x2 x3 x4 x5 x6 (i64.wrap (x7+1)) x9)))) else (De x0 x1 x2 x3 x4 x5 x6 (i64.wrap (x7+1)) x9)))))
def On (x0:List AC) (x1:Int) (x2:List AC) (x3 x4:Int) (x5:List AC) (x6 x7:Int) (x8:AC):Option Bool:=(if (decide (x7<x6))=true then (if 0<=x7 then (if x7<(x5.length:Int) then (if (x1==x7)=false then ((Eg x8).bind fun y1=>(if (!y1)=false then ((Eg (x5.getD x7.toNat (0,O,O,0,0,0,0,0,O))).bind fun y2=>(if (!y2)=true then (De x0 x1 x2 x3 x4 x5 x6 (i64.wrap (x7+1)) x8) else (Om x0 x1 x2 x3 x4 x5 x6 x7 (!y2) x8 (x5.getD x7.toNat (0,O,O,0,0,0,0,0,O))))) else (De x0 x1 x2 x3 x4 x5 x6 (i64.wrap (x7+1)) x8))) else (De x0 x1 x2 x3 x4 x5 x6 (i64.wrap (x7+1)) x8)) else none) else none) else (KG x0 x2 x3 (i64.wrap (x4+1))))
def Oo (x0 x1:List AC) (x2 x3:Int):Option Bool:=(if (decide (x3<x2))=true then (if 0<=x3 then (if x3<(x1.length:Int) then (De x0 x3 x1 x2 x3 x0 (x0.length:Int) 0 (x1.getD x3.toNat (0,O,O,0,0,0,0,0,O))) else none) else none) else (some true))
def gA (x0:List AC):Option Bool:=(KG x0 x0 (x0.length:Int) 0)
theorem mz:AEd WV Om:=jS (by kernel_rfl)
theorem WW:Le9 On De:=lS (by kernel_rfl)
theorem WX:cH Oo KG:=lS (by kernel_rfl)
theorem vL:Mk gA VL:=cT Cb rfl ⟨rfl,rfl⟩ (by kernel_rfl)
def pf:=cG Vx (AH Cc) (AH Cc) kx
def QN:=kE 0 [] [] 0 pf kx
def WY:St->Option (RT (BE.outs Cc)):=lG Vw [] [0,3] 0 (AH Cc) QN
def ph:=kB [] [0,3] 0 WY
def Zt:=cG Vv ph (AH Cc) QN
def pj:=kB [] [0,3] 0 Zt
def pl:=kE 1 [] [0,3] 0 Zt QN
def QO:=kE 2 [] [0,3] 0 pj pl
def WZ:St->Option (RT (BE.outs Cc)):=lG Vu [] [0,3,4] 0 (AH Cc) QO
def pn:=kB [] [0,3,4] 0 WZ
def Zu:=cG Yc pn (AH Cc) QO
def po:=kB [] [0,3,4] 0 Zu
def m3:=kE 3 [] [0,3,4] 0 Zu QO
def Oq (x0:List AC) (x1 x2:Int) (x3:Bool) (x4 x5:AC):Option Bool:=cG Yb po (AH Cc) m3 ⟨[(0,.lst AI x0),(3,.int .i64 x1),(4,.int .i64 x2),(5,.ptr 0 0),(6,.ptr 1 0),(39,.bool x3)],[.var (AI.enc x4),.var (AI.enc x5)]⟩
def Df (x0:List AC) (x1 x2:Int):Option Bool:=WZ ⟨[(0,.lst AI x0),(3,.int .i64 x1),(4,.int .i64 x2)],[]⟩
def KH (x0:List AC) (x1:Int):Option Bool:=WY ⟨[(0,.lst AI x0),(3,.int .i64 x1)],[]⟩
def Wa (x0:List AC) (x1 x2:Int) (x3:Bool) (x4 x5:AC):Option Bool:=((Fn x4).bind fun y1=>((Fn x5).bind fun y2=>(if (y1==y2)=true then (some false) else (if (decide (x4.2.2.2.2.1<x5.2.2.2.1))=true then ((Fn x4).bind fun y3=>((Fn x5).bind fun y4=>(if (decide (y3>=y4))=true then (some false) else (Df x0 x1 (i64.wrap (x2+1)))))) else (Df x0 x1 (i64.wrap (x2+1)))))))
def Ot (x0:List AC) (x1 x2:Int):Option Bool:=(if (decide (x2<(x0.length:Int)))=true then (if 0<=x1 then (if x1<(x0.length:Int) then (if 0<=x2 then (if x2<(x0.length:Int) then (if (decide (((((((x0.getD x1.toNat (0,O,O,0,0,0,0,0,O)).2).2).2).2).1)<0))=false then (if (decide (((((((x0.getD x2.toNat (0,O,O,0,0,0,0,0,O)).2).2).2).2).1)<0))=false then (if (x1==x2)=true then (Df x0 x1 (i64.wrap (x2+1))) else (Oq x0 x1 x2 (x1==x2) (x0.getD x1.toNat (0,O,O,0,0,0,0,0,O)) (x0.getD x2.toNat (0,O,O,0,0,0,0,0,O)))) else (Df x0 x1 (i64.wrap (x2+1)))) else (Df x0 x1 (i64.wrap (x2+1)))) else none) else none) else none) else none) else (KH x0 (i64.wrap (x1+1))))
def Ou (x0:List AC) (x1:Int):Option Bool:=(if (decide (x1<(x0.length:Int)))=true then (Df x0 x1 0) else (some true))
def gC (x0:List AC):Option Bool:=(KH x0 0)
theorem m4:zz Wa Oq:=jS (by kernel_rfl)
theorem Wb:Rn Ot Df:=lS (by kernel_rfl)
theorem Wc:N7 Ou KH:=lS (by kernel_rfl)
theorem vM:Mk gC VM:=cT Cc rfl ⟨rfl,rfl⟩ (by kernel_rfl)
def jv (x0:AC):Option Int:=((Ah x0.2.2.2.2.2.2.1 0 9).bind fun y1=>(if (!y1)=false then ((Ah x0.2.2.2.2.2.2.2.1 0 999).bind fun y2=>(if (!y2)=true then (some 0) else (some (i64.wrap ((i64.wrap (1000*x0.2.2.2.2.2.2.1))+x0.2.2.2.2.2.2.2.1))))) else (some 0)))
theorem xm:Mk jv Dr:=cT Ro rfl ⟨rfl,rfl⟩ (by kernel_rfl)
def vN:=cG f_ (AH H8) (AH H8) kx
def vO:=kE 0 [] [4,5] 12 vN kx
def sw:St->Option (RT (BE.outs H8)):=lG f9 [] [4,5,6] 12 (AH H8) vO
def NV (x0:Int) (x1:AB) (x2:List U) (x3:List AA) (x4:List AC) (x5:List (List Int)) (x6:List U) (x7:List AA) (x8:List AC) (x9:List (List Int)):Option AB:=sw ⟨[(4,.ptr 4 0),(5,.ptr 11 0),(6,.int .i64 x0)],[.var (AO.enc x1),.rows 42 X x2,.rows 97 AJ x3,.rows 47 AI x4,.var [.lst (.slice (.int .i64)) x5,.row 1,.row 2,.row 3],.dead,.dead,.dead,.rows 42 X x6,.rows 97 AJ x7,.rows 47 AI x8,.var [.lst (.slice (.int .i64)) x9,.row 8,.row 9,.row 10]]⟩
def S0 (x0:Int) (x1:AB) (x2:List U) (x3:List AA) (x4:List AC) (x5:List (List Int)) (x6:List U) (x7:List AA) (x8:List AC) (x9:List (List Int)):Option AB:=(if (decide (x0>0))=true then (if (decide ((x7.length:Int)>0))=true then ((Ew 0 70 (x9,x6,x7,x8)).bind fun y3=>(NV (i64.wrap (x0-1)) x1 x2 x3 x4 x5 y3.2.1 y3.2.2.1 y3.2.2.2 y3.1)) else ((C3 (x9,x6,x7,x8)).bind fun y4=>(some y4))) else ((C3 (x9,x6,x7,x8)).bind fun y5=>(some y5)))
def oh (x0:AB) (x1:Int):Option AB:=((C3 x0).bind fun y1=>((Jg x0).bind fun y2=>(if (!y2.1)=true then (some y1) else (NV (min x1 1000) y2.2 ([]:List U) ([]:List AA) ([]:List AC) ([]:List (List Int)) y1.2.1 y1.2.2.1 y1.2.2.2 y1.1))))
theorem cw:uz S0 NV:=lS (by kernel_rfl)
theorem zK:N7 oh ct:=cT H8 rfl ⟨rfl,rfl⟩ (by kernel_rfl)
def sx:=cG Ye (AH Ec) (AH Ec) kx
def S3:=kE 0 [] [] 0 sx kx
def Zv:St->Option (RT (BE.outs Ec)):=lG Yd [] [0,5,6,7] 0 (AH Ec) S3
def sy:=kB [] [0,5,6,7] 0 Zv
def cz:=cG cK sy (AH Ec) S3
def s0:=kB [] [0,5,6,7] 0 cz
def s_:=kE 1 [] [0,5,6,7] 0 cz S3
def QP (x0 x1:List AC) (x2 x3:Int) (x4:Bool) (x5:AC):Option Bool:=cG cJ s0 (AH Ec) s_ ⟨[(0,.lst AI x0),(4,.ptr 0 0),(5,.lst AI x1),(6,.int .i64 x2),(7,.int .i64 x3),(18,.bool x4)],[.var (AI.enc x5)]⟩
def FF (x0 x1:List AC) (x2 x3:Int):Option Bool:=Zv ⟨[(0,.lst AI x0),(5,.lst AI x1),(6,.int .i64 x2),(7,.int .i64 x3)],[]⟩
def Zw (x0 x1:List AC) (x2 x3:Int) (x4:Bool) (x5:AC):Option Bool:=(if (x5.2.2.2.2.2.1==0)=true then (if (!(x5.2.2.2.2.2.2.2.2.toList==(⟨#[]⟩:ByteArray).toList))=true then (some false) else (FF x0 x1 x2 (i64.wrap (x3+1)))) else ((X3 x0 x5).bind fun y2=>(if (!y2)=true then (some false) else ((Dr x5).bind fun y3=>(if (decide (x5.2.2.2.2.2.1>y3))=true then (some false) else (FF x0 x1 x2 (i64.wrap (x3+1))))))))
def QQ (x0 x1:List AC) (x2 x3:Int):Option Bool:=(if (decide (x3<x2))=true then (if 0<=x3 then (if x3<(x1.length:Int) then (if (((x1.getD x3.toNat (0,O,O,0,0,0,0,0,O)).1) != 2)=false then ((Eg (x1.getD x3.toNat (0,O,O,0,0,0,0,0,O))).bind fun y1=>(if (!y1)=true then (FF x0 x1 x2 (i64.wrap (x3+1))) else (QP x0 x1 x2 x3 (!y1) (x1.getD x3.toNat (0,O,O,0,0,0,0,0,O))))) else (FF x0 x1 x2 (i64.wrap (x3+1)))) else none) else none) else (some true))
def jw (x0:List AC):Option Bool:=(FF x0 x0 (x0.length:Int) 0)
theorem pp:zz Zw QP:=jS (by kernel_rfl)
theorem Zx:cH QQ FF:=lS (by kernel_rfl)
theorem xn:Mk jw Xx:=cT Ec rfl ⟨rfl,rfl⟩ (by kernel_rfl)
def tA:=cG Yi (AH Cg) (AH Cg) kx
def S4:=kE 0 [] [] 0 tA kx
def Zy:St->Option (RT (BE.outs Cg)):=lG Yh [] [0,3] 0 (AH Cg) S4
def tB:=kB [] [0,3] 0 Zy
def c_:=cG Yg tB (AH Cg) S4
def S5:=kB [] [0,3] 0 c_
def NW:=kE 1 [] [0,3] 0 c_ S4
def tC:=cG QA S5 (AH Cg) NW
def tD:=kE 2 [] [0,3,4,5] 1 tC NW
def pq:St->Option (RT (BE.outs Cg)):=lG cL [] [0,3,4,5,6] 1 (AH Cg) tD
def QR (x0:List AC) (x1:Int) (x2:Bool) (x3:AC):Option Bool:=cG QA S5 (AH Cg) NW ⟨[(0,.lst AI x0),(3,.int .i64 x1),(4,.ptr 0 0),(5,.bool x2)],[.var (AI.enc x3)]⟩
def Gk (x0:List AC) (x1:Int) (x2:Bool) (x3:Int) (x4:AC):Option Bool:=pq ⟨[(0,.lst AI x0),(3,.int .i64 x1),(4,.ptr 0 0),(5,.bool x2),(6,.int .i64 x3)],[.var (AI.enc x4)]⟩
def QS (x0:List AC) (x1:Int) (x2:Bool) (x3:AC):Option Bool:=cG Yf S5 (AH Cg) NW ⟨[(0,.lst AI x0),(3,.int .i64 x1),(4,.ptr 0 0),(24,.bool x2)],[.var (AI.enc x3)]⟩
def FH (x0:List AC) (x1:Int):Option Bool:=Zy ⟨[(0,.lst AI x0),(3,.int .i64 x1)],[]⟩
def Zz (x0:List AC) (x1:Int) (x2:Bool) (x3:AC):Option Bool:=(if (!x2)=true then (some false) else ((Fn x3).bind fun y2=>(if (decide (x3.2.2.2.2.2.1>y2))=true then (some false) else (FH x0 (i64.wrap (x1+1))))))
def QT (x0:List AC) (x1:Int) (x2:Bool) (x3:Int) (x4:AC):Option Bool:=(if (decide (x3<(x0.length:Int)))=true then (if x2=true then (Gk x0 x1 true (i64.wrap (x3+1)) x4) else (if 0<=x3 then (if x3<(x0.length:Int) then ((VP x4 (x0.getD x3.toNat (0,O,O,0,0,0,0,0,O))).bind fun y1=>(Gk x0 x1 y1 (i64.wrap (x3+1)) x4)) else none) else none)) else (QR x0 x1 x2 x4))
def Z0 (x0:List AC) (x1:Int) (x2:Bool) (x3:AC):Option Bool:=(if (x3.2.2.2.2.2.1==0)=true then (if (!(x3.2.2.2.2.2.2.2.2.toList==(⟨#[]⟩:ByteArray).toList))=true then (some false) else (FH x0 (i64.wrap (x1+1)))) else (Gk x0 x1 false 0 x3))
def QU (x0:List AC) (x1:Int):Option Bool:=(if (decide (x1<(x0.length:Int)))=true then (if 0<=x1 then (if x1<(x0.length:Int) then (if (((x0.getD x1.toNat (0,O,O,0,0,0,0,0,O)).1) != 2)=false then (if (decide (((((((x0.getD x1.toNat (0,O,O,0,0,0,0,0,O)).2).2).2).2).1)<0))=true then (FH x0 (i64.wrap (x1+1))) else (QS x0 x1 (decide (((((((x0.getD x1.toNat (0,O,O,0,0,0,0,0,O)).2).2).2).2).1)<0)) (x0.getD x1.toNat (0,O,O,0,0,0,0,0,O)))) else (FH x0 (i64.wrap (x1+1)))) else none) else none) else (some true))
def jx (x0:List AC):Option Bool:=(FH x0 0)
theorem pr:cH Zz QR:=jS (by kernel_rfl)
theorem Z1:zf QT Gk:=lS (by kernel_rfl)
theorem pu:cH Z0 QS:=jS (by kernel_rfl)
theorem Z2:N7 QU FH:=lS (by kernel_rfl)
theorem xo:Mk jx Xy:=cT Cg rfl ⟨rfl,rfl⟩ (by kernel_rfl)
def tE:=cG Yr (AH C0) (AH C0) kx
def S6:=kE 0 [] [] 0 tE kx
def Z3:St->Option (RT (BE.outs C0)):=lG Yq [] [0,8,9,10] 0 (AH C0) S6
def tF:=kB [] [0,8,9,10] 0 Z3
def dA:=cG Yp tF (AH C0) S6
def tG:=kB [] [0,8,9,10] 0 dA
def tH:=kE 1 [] [0,8,9,10] 0 dA S6
def S7:=kE 2 [] [0,8,9,10] 1 tG tH
def Z4:St->Option (RT (BE.outs C0)):=lG Yo [] [0,4,8,9,10,22,23,24] 1 (AH C0) S7
def tI:=kB [] [0,4,8,9,10,22,23,24] 1 Z4
def dB:=cG Yn tI (AH C0) S7
def tJ:=kB [] [0,4,8,9,10,22,23,24] 1 dB
def pw:=kE 3 [] [0,4,8,9,10,22,23,24] 1 dB S7
def Cv (x0:List AC) (x1:Bool) (x2:List AC) (x3 x4:Int) (x5:List AC) (x6 x7:Int) (x8 x9:AC):Option Bool:=cG Ym tJ (AH C0) pw ⟨[(0,.lst AI x0),(4,.ptr 0 0),(6,.ptr 1 0),(7,.bool x1),(8,.lst AI x2),(9,.int .i64 x3),(10,.int .i64 x4),(22,.lst AI x5),(23,.int .i64 x6),(24,.int .i64 x7)],[.var (AI.enc x8),.var (AI.enc x9)]⟩
def In (x0 x1:List AC) (x2 x3:Int) (x4:List AC) (x5 x6:Int) (x7:AC):Option Bool:=Z4 ⟨[(0,.lst AI x0),(4,.ptr 0 0),(8,.lst AI x1),(9,.int .i64 x2),(10,.int .i64 x3),(22,.lst AI x4),(23,.int .i64 x5),(24,.int .i64 x6)],[.var (AI.enc x7)]⟩
def Gl (x0 x1:List AC) (x2 x3:Int):Option Bool:=Z3 ⟨[(0,.lst AI x0),(8,.lst AI x1),(9,.int .i64 x2),(10,.int .i64 x3)],[]⟩
def Z5 (x0:List AC) (x1:Bool) (x2:List AC) (x3 x4:Int) (x5:List AC) (x6 x7:Int) (x8 x9:AC):Option Bool:=(if x1=true then (if (decide (x8.2.2.2.2.2.1<x9.2.2.2.2.2.1))=true then (some false) else (In x0 x2 x3 x4 x5 x6 (i64.wrap (x7+1)) x8)) else (In x0 x2 x3 x4 x5 x6 (i64.wrap (x7+1)) x8))
def QV (x0 x1:List AC) (x2 x3:Int) (x4:List AC) (x5 x6:Int) (x7:AC):Option Bool:=(if (decide (x6<x5))=true then (if 0<=x6 then (if x6<(x4.length:Int) then (if (((x4.getD x6.toNat (0,O,O,0,0,0,0,0,O)).1)==1)=true then (if ((((x4.getD x6.toNat (0,O,O,0,0,0,0,0,O)).2).1).toList==x7.2.1.toList)=true then ((Eg (x4.getD x6.toNat (0,O,O,0,0,0,0,0,O))).bind fun y2=>(if y2=true then ((Dr (x4.getD x6.toNat (0,O,O,0,0,0,0,0,O))).bind fun y3=>((Dr x7).bind fun y4=>(Cv x0 (decide (y3<y4)) x1 x2 x3 x4 x5 x6 x7 (x4.getD x6.toNat (0,O,O,0,0,0,0,0,O))))) else (Cv x0 false x1 x2 x3 x4 x5 x6 x7 (x4.getD x6.toNat (0,O,O,0,0,0,0,0,O))))) else (Cv x0 false x1 x2 x3 x4 x5 x6 x7 (x4.getD x6.toNat (0,O,O,0,0,0,0,0,O)))) else (if (((x4.getD x6.toNat (0,O,O,0,0,0,0,0,O)).1)==2)=true then (if ((((x4.getD x6.toNat (0,O,O,0,0,0,0,0,O)).2).1).toList==x7.2.1.toList)=true then ((Eg (x4.getD x6.toNat (0,O,O,0,0,0,0,0,O))).bind fun y5=>(if y5=true then ((Dr (x4.getD x6.toNat (0,O,O,0,0,0,0,0,O))).bind fun y6=>((Dr x7).bind fun y7=>(Cv x0 (decide (y6<y7)) x1 x2 x3 x4 x5 x6 x7 (x4.getD x6.toNat (0,O,O,0,0,0,0,0,O))))) else (Cv x0 false x1 x2 x3 x4 x5 x6 x7 (x4.getD x6.toNat (0,O,O,0,0,0,0,0,O))))) else (Cv x0 false x1 x2 x3 x4 x5 x6 x7 (x4.getD x6.toNat (0,O,O,0,0,0,0,0,O)))) else (Cv x0 false x1 x2 x3 x4 x5 x6 x7 (x4.getD x6.toNat (0,O,O,0,0,0,0,0,O))))) else none) else none) else (Gl x0 x1 x2 (i64.wrap (x3+1))))
def QW (x0 x1:List AC) (x2 x3:Int):Option Bool:=(if (decide (x3<x2))=true then (if 0<=x3 then (if x3<(x1.length:Int) then (if (((x1.getD x3.toNat (0,O,O,0,0,0,0,0,O)).1) != 2)=false then ((Eg (x1.getD x3.toNat (0,O,O,0,0,0,0,0,O))).bind fun y1=>(if (!y1)=true then (Gl x0 x1 x2 (i64.wrap (x3+1))) else (In x0 x1 x2 x3 x0 (x0.length:Int) 0 (x1.getD x3.toNat (0,O,O,0,0,0,0,0,O))))) else (Gl x0 x1 x2 (i64.wrap (x3+1)))) else none) else none) else (some true))
def jy (x0:List AC):Option Bool:=(Gl x0 x0 (x0.length:Int) 0)
theorem py:uz Z5 Cv:=jS (by kernel_rfl)
theorem Z6:z_ QV In:=lS (by kernel_rfl)
theorem Z7:cH QW Gl:=lS (by kernel_rfl)
theorem xp:Mk jy Xz:=cT C0 rfl ⟨rfl,rfl⟩ (by kernel_rfl)
def tK:=cG Yy (AH Dp) (AH Dp) kx
def S8:=kE 0 [] [] 0 tK kx
def Z8:St->Option (RT (BE.outs Dp)):=lG Yx [] [0,3] 0 (AH Dp) S8
def tL:=kB [] [0,3] 0 Z8
def dC:=cG Yw tL (AH Dp) S8
def tM:=kB [] [0,3] 0 dC
def tN:=kE 1 [] [0,3] 0 dC S8
def tO:=kE 2 [] [0,3] 0 tM tN
def pz:St->Option (RT (BE.outs Dp)):=lG Yv [] [0,3,4] 0 (AH Dp) tO
def DM (x0:List AC) (x1 x2:Int):Option Bool:=pz ⟨[(0,.lst AI x0),(3,.int .i64 x1),(4,.int .i64 x2)],[]⟩
def LR (x0:List AC) (x1:Int):Option Bool:=Z8 ⟨[(0,.lst AI x0),(3,.int .i64 x1)],[]⟩
def QX (x0:List AC) (x1 x2:Int):Option Bool:=(if (decide (x2<(x0.length:Int)))=true then (if 0<=x1 then (if x1<(x0.length:Int) then (if 0<=x2 then (if x2<(x0.length:Int) then (if (((x0.getD x1.toNat (0,O,O,0,0,0,0,0,O)).1)==2)=true then (if (decide (((((((x0.getD x1.toNat (0,O,O,0,0,0,0,0,O)).2).2).2).2).1)>=0))=true then (if (decide (((((((x0.getD x2.toNat (0,O,O,0,0,0,0,0,O)).2).2).2).2).1)>=0))=true then (if ((((x0.getD x2.toNat (0,O,O,0,0,0,0,0,O)).2).1).toList==(((x0.getD x1.toNat (0,O,O,0,0,0,0,0,O)).2).1).toList)=true then ((Fn (x0.getD x2.toNat (0,O,O,0,0,0,0,0,O))).bind fun y1=>((Fn (x0.getD x1.toNat (0,O,O,0,0,0,0,0,O))).bind fun y2=>(if (decide (y1<y2))=true then (if (decide ((((((((x0.getD x2.toNat (0,O,O,0,0,0,0,0,O)).2).2).2).2).2).1)>(((((((x0.getD x1.toNat (0,O,O,0,0,0,0,0,O)).2).2).2).2).2).1)))=true then (some false) else (DM x0 x1 (i64.wrap (x2+1)))) else (DM x0 x1 (i64.wrap (x2+1)))))) else (DM x0 x1 (i64.wrap (x2+1)))) else (DM x0 x1 (i64.wrap (x2+1)))) else (DM x0 x1 (i64.wrap (x2+1)))) else (DM x0 x1 (i64.wrap (x2+1)))) else none) else none) else none) else none) else (LR x0 (i64.wrap (x1+1))))
def QY (x0:List AC) (x1:Int):Option Bool:=(if (decide (x1<(x0.length:Int)))=true then (DM x0 x1 0) else (some true))
def jz (x0:List AC):Option Bool:=(LR x0 0)
theorem Z9:Rn QX DM:=lS (by kernel_rfl)
theorem Z_:N7 QY LR:=lS (by kernel_rfl)
theorem xq:Mk jz X0:=cT Dp rfl ⟨rfl,rfl⟩ (by kernel_rfl)
def j1:=cG Tx (AH D8) (AH D8) kx
def j3:=kE 0 [] [] 0 j1 kx
def hZ:St->Option (RT (BE.outs D8)):=lG Tw [] [0,1,5] 0 (AH D8) j3
def IX (x0 x1:List Int) (x2:Int):Option Bool:=hZ ⟨[(0,.lst (.int .i64) x0),(1,.lst (.int .i64) x1),(5,.int .i64 x2)],[]⟩
def Lx (x0 x1:List Int) (x2:Int):Option Bool:=(if (decide (x2<(x0.length:Int)))=true then (if 0<=x2 then (if x2<(x0.length:Int) then (if 0<=x2 then (if x2<(x1.length:Int) then (if ((x0.getD x2.toNat 0) != (x1.getD x2.toNat 0))=true then (some false) else (IX x0 x1 (i64.wrap (x2+1)))) else none) else none) else none) else none) else (some true))
def aA (x0 x1:List Int):Option Bool:=(if ((x0.length:Int) != (x1.length:Int))=true then (some false) else (IX x0 x1 0))
theorem S9:Rn Lx IX:=lS (by kernel_rfl)
theorem p8:N7 aA QE:=cT D8 rfl ⟨rfl,rfl⟩ (by kernel_rfl)
def j4 (x0:AB):Option Bool:=((VL x0.2.2.2).bind fun y1=>(if y1=true then ((Xx x0.2.2.2).bind fun y2=>(if y2=true then ((Xz x0.2.2.2).bind fun y3=>(if y3=true then ((Oh x0).bind fun y4=>(if y4=true then ((X1 x0).bind fun y5=>(some y5)) else (some false))) else (some false))) else (some false))) else (some false)))
theorem xr:Mk j4 Ry:=cT Rp rfl ⟨rfl,rfl⟩ (by kernel_rfl)
def j5 (x0:AB):Option Bool:=((VM x0.2.2.2).bind fun y1=>(if y1=true then ((Xy x0.2.2.2).bind fun y2=>(if y2=true then ((X0 x0.2.2.2).bind fun y3=>(if y3=true then ((Oi x0).bind fun y4=>(if y4=true then ((X2 x0).bind fun y5=>(some y5)) else (some false))) else (some false))) else (some false))) else (some false)))
theorem xt:Mk j5 Rz:=cT Rq rfl ⟨rfl,rfl⟩ (by kernel_rfl)
def h_:=cG Qy (AH Br) (AH Br) kx
def Ly:=kE 0 [] [] 1 h_ kx
def RG:St->Option (RT (BE.outs Br)):=lG Qx [] [1,9,10,11] 1 (AH Br) Ly
def iA:=kB [] [1,9,10,11] 1 RG
def S_:=cG Qw iA (AH Br) Ly
def TA:=kB [] [1,9,10,11] 1 S_
def TB:=kE 1 [] [1,9,10,11] 1 S_ Ly
def iB:=kE 2 [] [1,9,10,11] 2 TA TB
def fL:St->Option (RT (BE.outs Br)):=lG SQ [] [1,4,9,10,11,36,37,38] 2 (AH Br) iB
def FT (x0:List U) (x1 x2:Int) (x3:List U) (x4 x5:Int) (x6:AB) (x7:U):Option Bool:=fL ⟨[(1,.ptr 0 0),(4,.ptr 1 0),(9,.lst X x0),(10,.int .i64 x1),(11,.int .i64 x2),(36,.lst X x3),(37,.int .i64 x4),(38,.int .i64 x5)],[.var (AO.enc x6),.var (X.enc x7)]⟩
def Kg (x0:Int) (x1:List U) (x2 x3:Int) (x4:Bool) (x5:AB) (x6:U):Option Bool:=cG SS TA (AH Br) TB ⟨[(1,.ptr 0 0),(3,.int .i64 x0),(4,.ptr 1 0),(9,.lst X x1),(10,.int .i64 x2),(11,.int .i64 x3),(32,.bool x4)],[.var (AO.enc x5),.var (X.enc x6)]⟩
def FU (x0:List U) (x1 x2:Int) (x3:List (List Int)) (x4:List U) (x5:List AA) (x6:List AC):Option Bool:=RG ⟨[(1,.ptr 0 0),(9,.lst X x0),(10,.int .i64 x1),(11,.int .i64 x2)],[.var [.lst (.slice (.int .i64)) x3,.lst X x4,.lst AJ x5,.lst AI x6]]⟩
def Kh (x0:List U) (x1 x2:Int) (x3:List U) (x4 x5:Int) (x6:AB) (x7:U):Option Bool:=(if (decide (x5<x4))=true then (if 0<=x5 then (if x5<(x3.length:Int) then (if (((((((x3.getD x5.toNat (0,0,false,false,false,false,([]:List Int),([]:List Z),0,0,0,0,(O,O,0),([]:List Int))).2).2).2).2).2).1)=true then (if ((((x3.getD x5.toNat (0,0,false,false,false,false,([]:List Int),([]:List Z),0,0,0,0,(O,O,0),([]:List Int))).2).1)==x7.2.1)=true then (some false) else (FT x0 x1 x2 x3 x4 (i64.wrap (x5+1)) x6 x7)) else (FT x0 x1 x2 x3 x4 (i64.wrap (x5+1)) x6 x7)) else none) else none) else (FU x0 x1 (i64.wrap (x2+1)) x6.1 x6.2.1 x6.2.2.1 x6.2.2.2))
def RH (x0:Int) (x1:List U) (x2 x3:Int) (x4:Bool) (x5:AB) (x6:U):Option Bool:=(if 0<=(0:Int) then (if 0<=x0 then (if x0<=(x5.2.1.length:Int) then (FT x1 x2 x3 ((x5.2.1.take x0.toNat).drop (0:Int).toNat) (((x5.2.1.take x0.toNat).drop (0:Int).toNat).length:Int) 0 x5 x6) else none) else none) else none)
def Ki (x0:List U) (x1 x2:Int) (x3:List (List Int)) (x4:List U) (x5:List AA) (x6:List AC):Option Bool:=(if (decide (x2<x1))=true then (if 0<=x2 then (if x2<(x0.length:Int) then (if (!(((((((x0.getD x2.toNat (0,0,false,false,false,false,([]:List Int),([]:List Z),0,0,0,0,(O,O,0),([]:List Int))).2).2).2).2).2).1))=true then (FU x0 x1 (i64.wrap (x2+1)) x3 x4 x5 x6) else ((JH (((x0.getD x2.toNat (0,0,false,false,false,false,([]:List Int),([]:List Z),0,0,0,0,(O,O,0),([]:List Int))).2).1) (x3,x4,x5,x6)).bind fun y1=>(if ((y1.1.length:Int)==0)=true then (some false) else (if 0<=(0:Int) then (if 0<(y1.1.length:Int) then (if ((y1.1.getD (0:Int).toNat 0) != ((x0.getD x2.toNat (0,0,false,false,false,false,([]:List Int),([]:List Z),0,0,0,0,(O,O,0),([]:List Int))).1))=true then (some false) else (Kg x2 x0 x1 x2 ((y1.1.getD (0:Int).toNat 0) != ((x0.getD x2.toNat (0,0,false,false,false,false,([]:List Int),([]:List Z),0,0,0,0,(O,O,0),([]:List Int))).1)) y1.2 (x0.getD x2.toNat (0,0,false,false,false,false,([]:List Int),([]:List Z),0,0,0,0,(O,O,0),([]:List Int))))) else none) else none)))) else none) else none) else (some true))
def Wd (x0:AB):Option Bool:=(FU x0.2.1 (x0.2.1.length:Int) 0 x0.1 x0.2.1 x0.2.2.1 x0.2.2.2)
theorem RI:z_ Kh FT:=lS (by kernel_rfl)
theorem fM:Le7 RH Kg:=jS (by kernel_rfl)
theorem RJ:Le7 Ki FU:=lS (by kernel_rfl)
theorem m5:Mk Wd Oh:=cT Br rfl ⟨rfl,rfl⟩ (by kernel_rfl)

def iC:=cG Q3 (AH CC) (AH CC) kx
def Lz:=kE 0 [] [] 1 iC kx
def RK:St->Option (RT (BE.outs CC)):=lG Q2 [] [1,3] 1 (AH CC) Lz
def iD:=kB [] [1,3] 1 RK
def TC:=cG Q1 iD (AH CC) Lz
def iE:=kB [] [1,3] 1 TC
def iF:=kE 1 [] [1,3] 1 TC Lz
def iG:=kE 2 [] [1,3] 2 iE iF
def fN:St->Option (RT (BE.outs CC)):=lG Q0 [] [1,3,4,5] 2 (AH CC) iG
def D6 (x0 x1:Int) (x2:AB) (x3:U):Option Bool:=fN ⟨[(1,.ptr 0 0),(3,.int .i64 x0),(4,.ptr 1 0),(5,.int .i64 x1)],[.var (AO.enc x2),.var (X.enc x3)]⟩
def FV (x0:Int) (x1:AB):Option Bool:=RK ⟨[(1,.ptr 0 0),(3,.int .i64 x0)],[.var (AO.enc x1)]⟩
def Kj (x0 x1:Int) (x2:AB) (x3:U):Option Bool:=(if (decide (x1<x0))=true then (if 0<=x1 then (if x1<(x2.2.1.length:Int) then (if (((((((x2.2.1.getD x1.toNat (0,0,false,false,false,false,([]:List Int),([]:List Z),0,0,0,0,(O,O,0),([]:List Int))).2).2).2).2).2).1)=true then (if 0<=x1 then (if x1<(x2.2.1.length:Int) then (if ((((x2.2.1.getD x1.toNat (0,0,false,false,false,false,([]:List Int),([]:List Z),0,0,0,0,(O,O,0),([]:List Int))).2).1)==x3.2.1)=true then (some false) else (D6 x0 (i64.wrap (x1+1)) x2 x3)) else none) else none) else (D6 x0 (i64.wrap (x1+1)) x2 x3)) else none) else none) else (FV (i64.wrap (x0+1)) x2))
def Kk (x0:Int) (x1:AB):Option Bool:=(if (decide (x0<(x1.2.1.length:Int)))=true then (if 0<=x0 then (if x0<(x1.2.1.length:Int) then (if (!(((((((x1.2.1.getD x0.toNat (0,0,false,false,false,false,([]:List Int),([]:List Z),0,0,0,0,(O,O,0),([]:List Int))).2).2).2).2).2).1))=true then (FV (i64.wrap (x0+1)) x1) else ((AX (((x1.2.1.getD x0.toNat (0,0,false,false,false,false,([]:List Int),([]:List Z),0,0,0,0,(O,O,0),([]:List Int))).2).1) 1 (x1.1.length:Int)).bind fun y1=>(if (!y1)=true then (some false) else (if 0<=(i64.wrap ((((x1.2.1.getD x0.toNat (0,0,false,false,false,false,([]:List Int),([]:List Z),0,0,0,0,(O,O,0),([]:List Int))).2).1)-1)) then (if (i64.wrap ((((x1.2.1.getD x0.toNat (0,0,false,false,false,false,([]:List Int),([]:List Z),0,0,0,0,(O,O,0),([]:List Int))).2).1)-1))<(x1.1.length:Int) then (if (((x1.1.getD (i64.wrap ((((x1.2.1.getD x0.toNat (0,0,false,false,false,false,([]:List Int),([]:List Z),0,0,0,0,(O,O,0),([]:List Int))).2).1)-1)).toNat ([]:List Int)).length:Int)==0)=true then (some false) else (if 0<=(i64.wrap ((((x1.2.1.getD x0.toNat (0,0,false,false,false,false,([]:List Int),([]:List Z),0,0,0,0,(O,O,0),([]:List Int))).2).1)-1)) then (if (i64.wrap ((((x1.2.1.getD x0.toNat (0,0,false,false,false,false,([]:List Int),([]:List Z),0,0,0,0,(O,O,0),([]:List Int))).2).1)-1))<(x1.1.length:Int) then (if 0<=(0:Int) then (if 0<((x1.1.getD (i64.wrap ((((x1.2.1.getD x0.toNat (0,0,false,false,false,false,([]:List Int),([]:List Z),0,0,0,0,(O,O,0),([]:List Int))).2).1)-1)).toNat ([]:List Int)).length:Int) then (if (((x1.1.getD (i64.wrap ((((x1.2.1.getD x0.toNat (0,0,false,false,false,false,([]:List Int),([]:List Z),0,0,0,0,(O,O,0),([]:List Int))).2).1)-1)).toNat ([]:List Int)).getD (0:Int).toNat 0) != ((x1.2.1.getD x0.toNat (0,0,false,false,false,false,([]:List Int),([]:List Z),0,0,0,0,(O,O,0),([]:List Int))).1))=true then (some false) else (D6 x0 0 x1 (x1.2.1.getD x0.toNat (0,0,false,false,false,false,([]:List Int),([]:List Z),0,0,0,0,(O,O,0),([]:List Int))))) else none) else none) else none) else none)) else none) else none)))) else none) else none) else (some true))
def We (x0:AB):Option Bool:=(FV 0 x0)
theorem RL:cH Kj D6:=lS (by kernel_rfl)
theorem RM:N7 Kk FV:=lS (by kernel_rfl)
theorem m6:Mk We Oi:=cT CC rfl ⟨rfl,rfl⟩ (by kernel_rfl)
def tP:=cG Y1 (AH DK) (AH DK) kx
def TD:=kE 0 [] [] 1 tP kx
def aB:St->Option (RT (BE.outs DK)):=lG Y0 [] [1,9,10,11] 1 (AH DK) TD
def tQ:=kB [] [1,9,10,11] 1 aB
def dD:=cG Yz tQ (AH DK) TD
def dE:=kB [] [1,9,10,11] 1 dD
def dF:=kE 1 [] [1,9,10,11] 1 dD TD
def tR:=kE 2 [] [1,9,10,11] 2 dE dF
def p9:St->Option (RT (BE.outs DK)):=lG cN [] [1,3,4,5,9,10,11,29,30,31] 2 (AH DK) tR
def DN (x0:Int) (x1:List Int) (x2:List U) (x3 x4:Int) (x5:List U) (x6 x7:Int) (x8:AB) (x9:U):Option Bool:=p9 ⟨[(1,.ptr 0 0),(3,.int .i64 x0),(4,.ptr 1 0),(5,.lst (.int .i64) x1),(9,.lst X x2),(10,.int .i64 x3),(11,.int .i64 x4),(29,.lst X x5),(30,.int .i64 x6),(31,.int .i64 x7)],[.var (AO.enc x8),.var (X.enc x9)]⟩
def QZ (x0:Int) (x1:List U) (x2 x3:Int) (x4:Bool) (x5:List (List Int)) (x6:List U) (x7:List AA) (x8:List AC) (x9:U):Option Bool:=cG cO dE (AH DK) dF ⟨[(1,.ptr 0 0),(3,.int .i64 x0),(4,.ptr 1 0),(9,.lst X x1),(10,.int .i64 x2),(11,.int .i64 x3),(24,.bool x4)],[.var [.lst (.slice (.int .i64)) x5,.lst X x6,.lst AJ x7,.lst AI x8],.var (X.enc x9)]⟩
def Gm (x0:List U) (x1 x2:Int) (x3:List (List Int)) (x4:List U) (x5:List AA) (x6:List AC):Option Bool:=aB ⟨[(1,.ptr 0 0),(9,.lst X x0),(10,.int .i64 x1),(11,.int .i64 x2)],[.var [.lst (.slice (.int .i64)) x3,.lst X x4,.lst AJ x5,.lst AI x6]]⟩
def Qa (x0:Int) (x1:List Int) (x2:List U) (x3 x4:Int) (x5:List U) (x6 x7:Int) (x8:AB) (x9:U):Option Bool:=(if (decide (x7<x6))=true then (if 0<=x7 then (if x7<(x5.length:Int) then (if (x7 != x0)=true then ((CO x1 ((x5.getD x7.toNat (0,0,false,false,false,false,([]:List Int),([]:List Z),0,0,0,0,(O,O,0),([]:List Int))).1)).bind fun y2=>(if y2=true then (if (((((x5.getD x7.toNat (0,0,false,false,false,false,([]:List Int),([]:List Z),0,0,0,0,(O,O,0),([]:List Int))).2).2).2).1)=true then (if ((((x5.getD x7.toNat (0,0,false,false,false,false,([]:List Int),([]:List Z),0,0,0,0,(O,O,0),([]:List Int))).2).1)==x9.2.1)=true then ((DS (((((((((x5.getD x7.toNat (0,0,false,false,false,false,([]:List Int),([]:List Z),0,0,0,0,(O,O,0),([]:List Int))).2).2).2).2).2).2).2).1) x9.2.2.2.2.2.2.2.1).bind fun y3=>(if (!y3)=true then (some false) else (DN x0 x1 x2 x3 x4 x5 x6 (i64.wrap (x7+1)) x8 x9))) else (DN x0 x1 x2 x3 x4 x5 x6 (i64.wrap (x7+1)) x8 x9)) else (DN x0 x1 x2 x3 x4 x5 x6 (i64.wrap (x7+1)) x8 x9)) else (DN x0 x1 x2 x3 x4 x5 x6 (i64.wrap (x7+1)) x8 x9))) else (DN x0 x1 x2 x3 x4 x5 x6 (i64.wrap (x7+1)) x8 x9)) else none) else none) else (Gm x2 x3 (i64.wrap (x4+1)) x8.1 x8.2.1 x8.2.2.1 x8.2.2.2))
def aC (x0:Int) (x1:List U) (x2 x3:Int) (x4:Bool) (x5:List (List Int)) (x6:List U) (x7:List AA) (x8:List AC) (x9:U):Option Bool:=((JH x9.2.1 (x5,x6,x7,x8)).bind fun y1=>(DN x0 y1.1 x1 x2 x3 y1.2.2.1 (y1.2.2.1.length:Int) 0 y1.2 x9))
def Qb (x0:List U) (x1 x2:Int) (x3:List (List Int)) (x4:List U) (x5:List AA) (x6:List AC):Option Bool:=(if (decide (x2<x1))=true then (if 0<=x2 then (if x2<(x0.length:Int) then (if (!(((((((x0.getD x2.toNat (0,0,false,false,false,false,([]:List Int),([]:List Z),0,0,0,0,(O,O,0),([]:List Int))).2).2).2).2).2).1))=false then (if ((((((((((((x0.getD x2.toNat (0,0,false,false,false,false,([]:List Int),([]:List Z),0,0,0,0,(O,O,0),([]:List Int))).2).2).2).2).2).2).2).2).2).1) != 0)=true then (Gm x0 x1 (i64.wrap (x2+1)) x3 x4 x5 x6) else (QZ x2 x0 x1 x2 ((((((((((((x0.getD x2.toNat (0,0,false,false,false,false,([]:List Int),([]:List Z),0,0,0,0,(O,O,0),([]:List Int))).2).2).2).2).2).2).2).2).2).1) != 0) x3 x4 x5 x6 (x0.getD x2.toNat (0,0,false,false,false,false,([]:List Int),([]:List Z),0,0,0,0,(O,O,0),([]:List Int))))) else (Gm x0 x1 (i64.wrap (x2+1)) x3 x4 x5 x6)) else none) else none) else (some true))
def j6 (x0:AB):Option Bool:=(Gm x0.2.1 (x0.2.1.length:Int) 0 x0.1 x0.2.1 x0.2.2.1 x0.2.2.2)
theorem aD:uz Qa DN:=lS (by kernel_rfl)
theorem p_:uz aC QZ:=jS (by kernel_rfl)
theorem aE:Le7 Qb Gm:=lS (by kernel_rfl)
theorem xu:Mk j6 X1:=cT DK rfl ⟨rfl,rfl⟩ (by kernel_rfl)
def tS:=cG Y6 (AH Dq) (AH Dq) kx
def TE:=kE 0 [] [] 1 tS kx
def aF:St->Option (RT (BE.outs Dq)):=lG Y5 [] [1,3] 1 (AH Dq) TE
def tT:=kB [] [1,3] 1 aF
def dG:=cG Y4 tT (AH Dq) TE
def tU:=kB [] [1,3] 1 dG
def tV:=kE 1 [] [1,3] 1 dG TE
def tW:=kE 2 [] [1,3] 2 tU tV
def qA:St->Option (RT (BE.outs Dq)):=lG Y3 [] [1,3,4,5] 2 (AH Dq) tW
def EB (x0 x1:Int) (x2:AB) (x3:U):Option Bool:=qA ⟨[(1,.ptr 0 0),(3,.int .i64 x0),(4,.ptr 1 0),(5,.int .i64 x1)],[.var (AO.enc x2),.var (X.enc x3)]⟩
def FI (x0:Int) (x1:AB):Option Bool:=aF ⟨[(1,.ptr 0 0),(3,.int .i64 x0)],[.var (AO.enc x1)]⟩
def Qc (x0 x1:Int) (x2:AB) (x3:U):Option Bool:=(if (decide (x1<(x2.2.1.length:Int)))=true then (if 0<=x1 then (if x1<(x2.2.1.length:Int) then (if ((((x2.2.1.getD x1.toNat (0,0,false,false,false,false,([]:List Int),([]:List Z),0,0,0,0,(O,O,0),([]:List Int))).2).1)==x3.2.1)=true then (if (((((x2.2.1.getD x1.toNat (0,0,false,false,false,false,([]:List Int),([]:List Z),0,0,0,0,(O,O,0),([]:List Int))).2).2).2).1)=true then (if 0<=(i64.wrap (x3.2.1-1)) then (if (i64.wrap (x3.2.1-1))<(x2.1.length:Int) then ((Ds (x2.1.getD (i64.wrap (x3.2.1-1)).toNat ([]:List Int)) ((x2.2.1.getD x1.toNat (0,0,false,false,false,false,([]:List Int),([]:List Z),0,0,0,0,(O,O,0),([]:List Int))).1)).bind fun y2=>(if y2=true then ((Kc (((((((((x2.2.1.getD x1.toNat (0,0,false,false,false,false,([]:List Int),([]:List Z),0,0,0,0,(O,O,0),([]:List Int))).2).2).2).2).2).2).2).1) x3.2.2.2.2.2.2.2.1).bind fun y3=>(if (!y3)=true then (some false) else (EB x0 (i64.wrap (x1+1)) x2 x3))) else (EB x0 (i64.wrap (x1+1)) x2 x3))) else none) else none) else (EB x0 (i64.wrap (x1+1)) x2 x3)) else (EB x0 (i64.wrap (x1+1)) x2 x3)) else none) else none) else (FI (i64.wrap (x0+1)) x2))
def Qd (x0:Int) (x1:AB):Option Bool:=(if (decide (x0<(x1.2.1.length:Int)))=true then (if 0<=x0 then (if x0<(x1.2.1.length:Int) then (if (!(((((((x1.2.1.getD x0.toNat (0,0,false,false,false,false,([]:List Int),([]:List Z),0,0,0,0,(O,O,0),([]:List Int))).2).2).2).2).2).1))=false then (if ((((((((((((x1.2.1.getD x0.toNat (0,0,false,false,false,false,([]:List Int),([]:List Z),0,0,0,0,(O,O,0),([]:List Int))).2).2).2).2).2).2).2).2).2).1) != 0)=false then ((AX (((x1.2.1.getD x0.toNat (0,0,false,false,false,false,([]:List Int),([]:List Z),0,0,0,0,(O,O,0),([]:List Int))).2).1) 1 (x1.1.length:Int)).bind fun y1=>(if (!y1)=true then (FI (i64.wrap (x0+1)) x1) else (EB x0 0 x1 (x1.2.1.getD x0.toNat (0,0,false,false,false,false,([]:List Int),([]:List Z),0,0,0,0,(O,O,0),([]:List Int)))))) else (FI (i64.wrap (x0+1)) x1)) else (FI (i64.wrap (x0+1)) x1)) else none) else none) else (some true))
def j7 (x0:AB):Option Bool:=(FI 0 x0)
theorem aG:cH Qc EB:=lS (by kernel_rfl)
theorem aH:N7 Qd FI:=lS (by kernel_rfl)
theorem xv:Mk j7 X2:=cT Dq rfl ⟨rfl,rfl⟩ (by kernel_rfl)
def m7:=cG Vz (AH En) (AH En) kx
def m8:=kE 0 [] [4,5] 6 m7 kx
def j8:St->Option (RT (BE.outs En)):=lG Vy [] [0,4,5,6,8,9] 6 (AH En) m8
def E6 (x0 x1:Int) (x2:AU) (x3:List AY) (x4:List (List Int)) (x5:List AY) (x6:List (List Int)) (x7:AB):Option (Xq×AU):=j8 ⟨[(0,.ptr 0 0),(4,.ptr 2 0),(5,.ptr 4 0),(6,.ptr 5 0),(8,.int .i64 x0),(9,.int .i64 x1)],[.var (BQ.enc x2),.rows 55 Ab x3,.var [.lst (.slice (.int .i64)) x4,.row 1],.rows 55 Ab x5,.var [.lst (.slice (.int .i64)) x6,.row 3],.var (AO.enc x7)]⟩
def NX (x0 x1:Int) (x2:AU) (x3:List AY) (x4:List (List Int)) (x5:List AY) (x6:List (List Int)) (x7:AB):Option (Xq×AU):=(if (decide (x1<x0))=true then ((Si x2 x7).bind fun y3=>((R0 x1 y3.1 y3.2.2).bind fun y4=>(if x5.length+([y3.1]:List AY).length<=68719476736 then (E6 x0 (i64.wrap (x1+1)) y3.2.1 x3 x4 (x5++([y3.1]:List AY)) x6 y4.2) else none))) else (some ((x6,x5),x2)))
def TF (x1:List Int) (b0:AU):Option (Xq×AU):=((QG b0).bind fun y1=>((LP y1.1).bind fun y2=>(if 4=0 then none else (if (decide ((i64.wrap (20+(i64.wrap (Int.tdiv (x1.length:Int) 4))))>69))=true then (E6 69 0 y1.2 ([]:List AY) ([]:List (List Int)) ([]:List AY) y1.1 y2.1) else (E6 (i64.wrap (20+(i64.wrap (Int.tdiv (x1.length:Int) 4)))) 0 y1.2 ([]:List AY) ([]:List (List Int)) ([]:List AY) y1.1 y2.1)))))
theorem Ua:z_ NX E6:=lS (by kernel_rfl)
theorem dH:N7 TF Se:=cT En rfl ⟨rfl,rfl⟩ (by kernel_rfl)
def qB:=cG Y9 (AH Ed) (AH Ed) kx
def aI:=kE 0 [] [0,3] 0 qB kx
def Wf:St->Option (RT (BE.outs Ed)):=lG Y8 [] [0,3,4] 0 (AH Ed) aI
def qC:=kB [] [0,3,4] 0 Wf
def Wg (x0:List Int) (x1 x2:Int) (x3:Bool):Option AU:=cG Y7 qC (AH Ed) aI ⟨[(0,.lst (.int .u8) x0),(3,.int .i64 x1),(4,.int .i64 x2),(15,.bool x3)],[]⟩
def KI (x0:List Int) (x1 x2:Int):Option AU:=Wf ⟨[(0,.lst (.int .u8) x0),(3,.int .i64 x1),(4,.int .i64 x2)],[]⟩
def Wh (x0:List Int) (x1 x2:Int) (x3:Bool):Option AU:=(if 0<=x2 then (if x2<(x0.length:Int) then (KI x0 (Ml .i64 (i64.wrap ((i64.wrap ((i64.wrap (x1*131))+(i64.wrap (x0.getD x2.toNat 0))))+7)) 1073741823) (i64.wrap (x2+1))) else none) else none)
def KJ (x0:List Int) (x1 x2:Int):Option AU:=(if (decide (x2<(x0.length:Int)))=true then (if (decide (x2<4000))=true then (Wg x0 x1 x2 (decide (x2<4000))) else (some (x0,0,x1))) else (some (x0,0,x1)))
def vP (x0:List Int):Option AU:=(KI x0 (i64.wrap (14301+(x0.length:Int))) 0)
theorem m9:cH Wh Wg:=jS (by kernel_rfl)
theorem Ov:Rn KJ KI:=lS (by kernel_rfl)
theorem vQ:Mk vP VN:=cT Ed rfl ⟨rfl,rfl⟩ (by kernel_rfl)
def j9:=cG Tz (AH D9) (AH D9) kx
def j_:=kE 0 [] [2,4] 8 j9 kx
def iH:St->Option (RT (BE.outs D9)):=lG Ty [] [0,2,4,5] 8 (AH D9) j_
def GM (x0:List (List Int)) (x1:Int) (x2:List U) (x3:List AA) (x4:List AC) (x5:List (List Int)) (x6:List U) (x7:List AA) (x8:List AC) (x9:List (List Int)):Option (AB×Bool):=iH ⟨[(0,.lst (.slice (.int .i64)) x0),(2,.ptr 3 0),(4,.ptr 7 0),(5,.int .i64 x1)],[.rows 42 X x2,.rows 97 AJ x3,.rows 47 AI x4,.var [.lst (.slice (.int .i64)) x5,.row 0,.row 1,.row 2],.rows 42 X x6,.rows 97 AJ x7,.rows 47 AI x8,.var [.lst (.slice (.int .i64)) x9,.row 4,.row 5,.row 6]]⟩
def L5 (x0:List (List Int)) (x1:Int) (x2:List U) (x3:List AA) (x4:List AC) (x5:List (List Int)) (x6:List U) (x7:List AA) (x8:List AC) (x9:List (List Int)):Option (AB×Bool):=(if (decide (x1<=6))=true then ((Oj x1 x0).bind fun y3=>(if x6.length+([y3.1]:List U).length<=68719476736 then (GM x0 (i64.wrap (x1+1)) x2 x3 x4 x5 (x6++([y3.1]:List U)) x7 x8 x9) else none)) else (some ((x9,x6,x7,x8),true)))
def aJ (x0:List (List Int)):Option (AB×Bool):=((Dt x0).bind fun y1=>(if (!y1)=true then (some (([],([]:List U),([]:List AA),([]:List AC)),false)) else ((KE x0).bind fun y2=>(GM x0 1 ([]:List U) ([]:List AA) ([]:List AC) ([]:List (List Int)) ([]:List U) ([]:List AA) ([]:List AC) y2))))
theorem TG:uz L5 GM:=lS (by kernel_rfl)
theorem qD:Mk aJ QF:=cT D9 rfl ⟨rfl,rfl⟩ (by kernel_rfl)
def NY (x0:Bool) (x1:AY):Option Bool:=cG V0 (AH Hd) (AH Hd) kx ⟨[(1,.ptr 0 0),(17,.bool x0)],[.var (Ab.enc x1)]⟩
def Ub (x0:Bool) (x1:AY):Option Bool:=(if (x1.1==1)=true then ((NL x1.2.2.2.1 0 x1.2.2.2.2.1 x1.2.2.2.2.2).bind fun y3=>(some y3)) else (if (x1.2.2.2.1==0)=true then (if (x1.2.2.2.2.1.toList==(⟨#[]⟩:ByteArray).toList)=true then (some (x1.2.2.2.2.2.toList==(⟨#[]⟩:ByteArray).toList)) else (some false)) else (some false)))
def dI (x0:AY):Option Bool:=((Ah x0.1 1 6).bind fun y1=>(if (!y1)=false then ((Ef x0.2.1).bind fun y2=>(if (!y2)=false then (if (decide (x0.2.2.1<0))=true then (some false) else (NY (decide (x0.2.2.1<0)) x0)) else (some false))) else (some false)))
theorem kA:N7 Ub NY:=jS (by kernel_rfl)
theorem tX:Mk dI Sf:=cT Hd rfl ⟨rfl,rfl⟩ (by kernel_rfl)
def TH (x1:AY) (x2:Int) (b0:AB):Option (Bool×AB):=(if (x1.1==1)=true then ((Lj x1 x2 b0).bind fun y1=>(some (y1.1,y1.2))) else (if (x1.1==5)=true then ((Lk x1 x2 b0).bind fun y2=>(some (y2.1,y2.2))) else (if (x1.1==6)=true then ((B6 x1.2.1 b0).bind fun y3=>(if 0<=y3.1 then (if y3.1<(y3.2.2.1.length:Int) then ((UY (y3.2.2.1.getD y3.1.toNat (0,0,false,false,false,false,([]:List Int),([]:List Z),0,0,0,0,(O,O,0),([]:List Int)))).bind fun y4=>(if 0<=y3.1 then (if y3.1<(y3.2.2.1.length:Int) then (let z5:List U:=y3.2.2.1.set y3.1.toNat y4; (some (true,(y3.2.1,z5,y3.2.2.2)))) else none) else none)) else none) else none)) else ((Jh x1 x2 b0).bind fun y6=>(some (y6.1,y6.2))))))
theorem iI:Rn TH IR:=cT IN rfl ⟨rfl,rfl⟩ (by kernel_rfl)
def gD (x0:Bool):Option Int:=(if x0=true then (some 0) else (some 1))
theorem vR:Mk gD VO:=cT PH rfl ⟨rfl,rfl⟩ (by kernel_rfl)
def iJ:=cG Q5 (AH BW) (AH BW) kx
def iK:=kE 2 [] [2,3] 10 iJ kx
def fO:St->Option (RT (BE.outs BW)):=lG Q4 [] [2,3,31,32,33] 10 (AH BW) iK
def iL:=cG Kb (AH BW) (AH BW) kx
def iM:=kE 0 [] [1,2,3] 10 iL kx
def fP:St->Option (RT (BE.outs BW)):=lG ST [] [1,2,3,16,17,18] 10 (AH BW) iM
def FW (x0:List AA) (x1 x2:Int) (x3:List (List Int)) (x4:List U) (x5:List AA) (x6:List AC) (x7:List U) (x8:List AA) (x9:List AC) (x10:List (List Int)) (x11:List U) (x12:List AA) (x13:List AC) (x14:List (List Int)):Option AB:=fO ⟨[(2,.ptr 4 0),(3,.ptr 9 0),(31,.lst AJ x0),(32,.int .i64 x1),(33,.int .i64 x2)],[.var [.lst (.slice (.int .i64)) x3,.lst X x4,.lst AJ x5,.lst AI x6],.rows 42 X x7,.rows 97 AJ x8,.rows 47 AI x9,.var [.lst (.slice (.int .i64)) x10,.row 1,.row 2,.row 3],.dead,.rows 42 X x11,.rows 97 AJ x12,.rows 47 AI x13,.var [.lst (.slice (.int .i64)) x14,.row 6,.row 7,.row 8]]⟩
def RN (x0:List (List Int)) (x1:List U) (x2:List AA) (x3:List AC) (x4:List U) (x5:List AA) (x6:List AC) (x7:List (List Int)) (x8:List U) (x9:List AA) (x10:List AC) (x11:List (List Int)):Option AB:=cG Kb (AH BW) (AH BW) kx ⟨[(1,.ptr 0 0),(2,.ptr 4 0),(3,.ptr 9 0)],[.var [.lst (.slice (.int .i64)) x0,.lst X x1,.lst AJ x2,.lst AI x3],.rows 42 X x4,.rows 97 AJ x5,.rows 47 AI x6,.var [.lst (.slice (.int .i64)) x7,.row 1,.row 2,.row 3],.dead,.rows 42 X x8,.rows 97 AJ x9,.rows 47 AI x10,.var [.lst (.slice (.int .i64)) x11,.row 6,.row 7,.row 8]]⟩
def FX (x0:List U) (x1 x2:Int) (x3:List (List Int)) (x4:List U) (x5:List AA) (x6:List AC) (x7:List U) (x8:List AA) (x9:List AC) (x10:List (List Int)) (x11:List U) (x12:List AA) (x13:List AC) (x14:List (List Int)):Option AB:=fP ⟨[(1,.ptr 0 0),(2,.ptr 4 0),(3,.ptr 9 0),(16,.lst X x0),(17,.int .i64 x1),(18,.int .i64 x2)],[.var [.lst (.slice (.int .i64)) x3,.lst X x4,.lst AJ x5,.lst AI x6],.rows 42 X x7,.rows 97 AJ x8,.rows 47 AI x9,.var [.lst (.slice (.int .i64)) x10,.row 1,.row 2,.row 3],.dead,.rows 42 X x11,.rows 97 AJ x12,.rows 47 AI x13,.var [.lst (.slice (.int .i64)) x14,.row 6,.row 7,.row 8]]⟩
def Kl (x0:List AA) (x1 x2:Int) (x3:List (List Int)) (x4:List U) (x5:List AA) (x6:List AC) (x7:List U) (x8:List AA) (x9:List AC) (x10:List (List Int)) (x11:List U) (x12:List AA) (x13:List AC) (x14:List (List Int)):Option AB:=(if (decide (x2<x1))=true then (if 0<=x2 then (if x2<(x0.length:Int) then ((Hn (x0.getD x2.toNat (0,0,0,0,0,([]:List Z)))).bind fun y4=>(if x12.length+([y4]:List AA).length<=68719476736 then (FW x0 x1 (i64.wrap (x2+1)) x3 x4 x5 x6 x7 x8 x9 x10 x11 (x12++([y4]:List AA)) x13 x14) else none)) else none) else none) else (some (x14,x11,x12,x13)))
def RO (x0:List (List Int)) (x1:List U) (x2:List AA) (x3:List AC) (x4:List U) (x5:List AA) (x6:List AC) (x7:List (List Int)) (x8:List U) (x9:List AA) (x10:List AC) (x11:List (List Int)):Option AB:=(FW x2 (x2.length:Int) 0 x0 x1 x2 x3 x4 x5 x6 x7 x8 x9 x10 x11)
def Km (x0:List U) (x1 x2:Int) (x3:List (List Int)) (x4:List U) (x5:List AA) (x6:List AC) (x7:List U) (x8:List AA) (x9:List AC) (x10:List (List Int)) (x11:List U) (x12:List AA) (x13:List AC) (x14:List (List Int)):Option AB:=(if (decide (x2<x1))=true then (if 0<=x2 then (if x2<(x0.length:Int) then ((DD (x0.getD x2.toNat (0,0,false,false,false,false,([]:List Int),([]:List Z),0,0,0,0,(O,O,0),([]:List Int)))).bind fun y3=>(if x11.length+([y3]:List U).length<=68719476736 then (FX x0 x1 (i64.wrap (x2+1)) x3 x4 x5 x6 x7 x8 x9 x10 (x11++([y3]:List U)) x12 x13 x14) else none)) else none) else none) else (RN x3 x4 x5 x6 x7 x8 x9 x10 x11 x12 x13 x14))
def Wi (x0:AB):Option AB:=((KE x0.1).bind fun y1=>((DU x0.2.2.2).bind fun y2=>(FX x0.2.1 (x0.2.1.length:Int) 0 x0.1 x0.2.1 x0.2.2.1 x0.2.2.2 ([]:List U) ([]:List AA) ([]:List AC) ([]:List (List Int)) ([]:List U) ([]:List AA) y2 y1)))
theorem RP:AEe Kl FW:=lS (by kernel_rfl)
theorem fQ:AEE RO RN:=jS (by kernel_rfl)
theorem RQ:AEe Km FX:=lS (by kernel_rfl)
theorem m_:Mk Wi C3:=cT BW rfl ⟨rfl,rfl⟩ (by kernel_rfl)
def kC:=cG T1 (AH D_) (AH D_) kx
def kD:=kE 0 [] [2,4] 4 kC kx
def iN:St->Option (RT (BE.outs D_)):=lG T0 [] [0,2,4,5] 4 (AH D_) kD
def GN (x0:List (List Int)) (x1:Int) (x2:List U) (x3:List (List Int)) (x4:List AA) (x5:List AC) (x6:List U) (x7:List (List Int)):Option (AB×Bool):=iN ⟨[(0,.lst (.slice (.int .i64)) x0),(2,.ptr 1 0),(4,.ptr 3 0),(5,.int .i64 x1)],[.rows 42 X x2,.var [.lst (.slice (.int .i64)) x3,.row 0,.lst AJ x4,.lst AI x5],.rows 42 X x6,.var [.lst (.slice (.int .i64)) x7,.row 2,.nil,.nil]]⟩
def L6 (x0:List (List Int)) (x1:Int) (x2:List U) (x3:List (List Int)) (x4:List AA) (x5:List AC) (x6:List U) (x7:List (List Int)):Option (AB×Bool):=(if (decide (x1<=6))=true then ((Ok x1 x0).bind fun y3=>(if x6.length+([y3.1]:List U).length<=68719476736 then (GN x0 (i64.wrap (x1+1)) x2 x3 x4 x5 (x6++([y3.1]:List U)) x7) else none)) else (some ((x7,x6,[],[]),true)))
def aK (x0:List (List Int)):Option (AB×Bool):=((Ex x0).bind fun y1=>(if (!y1)=true then (some (([],([]:List U),[],[]),false)) else ((HT x0).bind fun y2=>(GN x0 1 ([]:List U) ([]:List (List Int)) ([]:List AA) ([]:List AC) ([]:List U) y2))))
theorem TI:z_ L6 GN:=lS (by kernel_rfl)
theorem qE:Mk aK LP:=cT D_ rfl ⟨rfl,rfl⟩ (by kernel_rfl)
def NZ (x0:Bool) (x1:AY):Option Bool:=cG V5 (AH He) (AH He) kx ⟨[(1,.ptr 0 0),(17,.bool x0)],[.var (Ab.enc x1)]⟩
def Uc (x0:Bool) (x1:AY):Option Bool:=(if (x1.1 != 1)=true then (if (x1.2.2.2.1==0)=true then (if (x1.2.2.2.2.1.toList==(⟨#[]⟩:ByteArray).toList)=true then (some (x1.2.2.2.2.2.toList==(⟨#[]⟩:ByteArray).toList)) else (some false)) else (some false)) else (if (x1.2.2.2.1==1)=false then (if (x1.2.2.2.1==2)=true then ((AX (x1.2.2.2.2.1.size:Int) 1 12).bind fun y3=>(if y3=true then (if (decide ((x1.2.2.2.2.2.size:Int)<=20))=true then (if (x1.2.2.2.1==1)=false then (some (x1.2.2.2.2.2.toList==(⟨#[]⟩:ByteArray).toList)) else (some true)) else (some false)) else (some false))) else (some false)) else ((AX (x1.2.2.2.2.1.size:Int) 1 12).bind fun y4=>(if y4=true then (if (decide ((x1.2.2.2.2.2.size:Int)<=20))=true then (if (x1.2.2.2.1==1)=false then (some (x1.2.2.2.2.2.toList==(⟨#[]⟩:ByteArray).toList)) else (some true)) else (some false)) else (some false)))))
def dJ (x0:AY):Option Bool:=((AX x0.1 1 6).bind fun y1=>(if (!y1)=false then ((AX x0.2.1 1 6).bind fun y2=>(if (!y2)=false then (if (decide (x0.2.2.1<0))=true then (some false) else (NZ (decide (x0.2.2.1<0)) x0)) else (some false))) else (some false)))
theorem kF:N7 Uc NZ:=jS (by kernel_rfl)
theorem tY:Mk dJ Sg:=cT He rfl ⟨rfl,rfl⟩ (by kernel_rfl)
def Na (x1:Int) (x2:AY) (b0:AB):Option (Int×AB):=(if (x2.1==1)=true then ((QH x1 x2 b0).bind fun y1=>(some (y1.1,y1.2))) else (if (x2.1==5)=true then ((QI x1 x2.2.1 b0).bind fun y2=>(some (y2.1,y2.2))) else (if (x2.1==6)=true then (if 0<=(i64.wrap (x2.2.1-1)) then (if (i64.wrap (x2.2.1-1))<(b0.2.1.length:Int) then ((cv (b0.2.1.getD (i64.wrap (x2.2.1-1)).toNat (0,0,false,false,false,false,([]:List Int),([]:List Z),0,0,0,0,(O,O,0),([]:List Int)))).bind fun y3=>((GA y3 ([]:List AA) ([]:List AK) x1 b0).bind fun y4=>(some (0,y4)))) else none) else none) else ((VQ x1 x2 b0).bind fun y5=>(some (y5.1,y5.2))))))
theorem xw:Rn Na R0:=cT Rr rfl ⟨rfl,rfl⟩ (by kernel_rfl)
def nA:=cG V7 (AH Eo) (AH Eo) kx
def nB:=kE 0 [] [2,3] 6 nA kx
def kG:St->Option (RT (BE.outs Eo)):=lG V6 [] [1,2,3,4] 6 (AH Eo) nB
def G4 (x0:Int) (x1:List (List Int)) (x2:List U) (x3:List AA) (x4:List AC) (x5:List U) (x6:List (List Int)) (x7:List AA) (x8 x9:List AC) (x10:List U) (x11:List (List Int)) (x12:List AA) (x13:List AC):Option AB:=kG ⟨[(1,.ptr 0 0),(2,.ptr 2 0),(3,.ptr 5 0),(4,.int .i64 x0)],[.var [.lst (.slice (.int .i64)) x1,.lst X x2,.lst AJ x3,.lst AI x4],.rows 42 X x5,.var [.lst (.slice (.int .i64)) x6,.row 1,.lst AJ x7,.lst AI x8],.frz AI x9,.rows 42 X x10,.var [.lst (.slice (.int .i64)) x11,.row 4,.lst AJ x12,.lst AI x13]]⟩
def Nb (x0:Int) (x1:List (List Int)) (x2:List U) (x3:List AA) (x4:List AC) (x5:List U) (x6:List (List Int)) (x7:List AA) (x8 x9:List AC) (x10:List U) (x11:List (List Int)) (x12:List AA) (x13:List AC):Option AB:=(if (decide (x0<(x2.length:Int)))=true then (if 0<=x0 then (if x0<(x2.length:Int) then ((Du (x2.getD x0.toNat (0,0,false,false,false,false,([]:List Int),([]:List Z),0,0,0,0,(O,O,0),([]:List Int)))).bind fun y3=>(if x10.length+([y3]:List U).length<=68719476736 then (G4 (i64.wrap (x0+1)) x1 x2 x3 x4 x5 x6 x7 x8 x9 (x10++([y3]:List U)) x11 x12 x13) else none)) else none) else none) else (some (x11,x10,x12,x13)))
def dL (x0:AB):Option AB:=((HT x0.1).bind fun y1=>((Ll x0.2.2.1).bind fun y2=>(if ([]:List AC).length+x0.2.2.2.length<=68719476736 then (G4 0 x0.1 x0.2.1 x0.2.2.1 x0.2.2.2 ([]:List U) ([]:List (List Int)) ([]:List AA) ([]:List AC) (([]:List AC)++x0.2.2.2) ([]:List U) y1 y2 (([]:List AC)++x0.2.2.2)) else none)))
theorem Ud:AEo Nb G4:=lS (by kernel_rfl)
theorem tZ:Mk dL Sh:=cT Eo rfl ⟨rfl,rfl⟩ (by kernel_rfl)
def gE (x0:Int):Option Bool:=((Ah x0 1 6).bind fun y1=>(some y1))
theorem vS:Mk gE Ef:=cT PI rfl ⟨rfl,rfl⟩ (by kernel_rfl)
def dM (x0 x1 x2:Int):Option Bool:=(if (decide (x0>=x1))=true then (some (decide (x0<=x2))) else (some false))
theorem ta:Rn dM Ah:=cT M5 rfl ⟨rfl,rfl⟩ (by kernel_rfl)
def dN:=cG Pd (AH Co) (AH Co) kx
def dO:=kE 0 [] [] 0 dN kx
def bI:St->Option (RT (BE.outs Co)):=lG Pc [] [0,1,2,9,10,11] 0 (AH Co) dO
def EJ (x0:List Int) (x1 x2:Int) (x3:List Int) (x4 x5:Int):Option Bool:=bI ⟨[(0,.lst (.int .i64) x0),(1,.int .i64 x1),(2,.int .i64 x2),(9,.lst (.int .i64) x3),(10,.int .i64 x4),(11,.int .i64 x5)],[]⟩
def I5 (x0:List Int) (x1 x2:Int) (x3:List Int) (x4 x5:Int):Option Bool:=(if (decide (x5<x4))=true then (if 0<=x5 then (if x5<(x3.length:Int) then ((Ah (x3.getD x5.toNat 0) x1 x2).bind fun y1=>(if (!y1)=false then (if (decide (x5>0))=true then (if 0<=(i64.wrap (x5-1)) then (if (i64.wrap (x5-1))<(x0.length:Int) then (if (decide ((x3.getD x5.toNat 0)<=(x0.getD (i64.wrap (x5-1)).toNat 0)))=true then (some false) else (EJ x0 x1 x2 x3 x4 (i64.wrap (x5+1)))) else none) else none) else (EJ x0 x1 x2 x3 x4 (i64.wrap (x5+1)))) else (some false))) else none) else none) else (some true))
def TJ (x0:List Int) (x1 x2:Int):Option Bool:=(EJ x0 x1 x2 x0 (x0.length:Int) 0)
theorem OK:zz I5 EJ:=lS (by kernel_rfl)
theorem iO:Rn TJ IS:=cT Co rfl ⟨rfl,rfl⟩ (by kernel_rfl)
def nC:=cG T6 (AH Ep) (AH Ep) kx
def nD:=kE 0 [] [0] 0 nC kx
def kH:St->Option (RT (BE.outs Ep)):=lG T5 [] [0,5,6,7] 0 (AH Ep) nD
def G5 (x0 x1:List Z) (x2 x3:Int):Option Bool:=kH ⟨[(0,.lst AF x0),(5,.lst AF x1),(6,.int .i64 x2),(7,.int .i64 x3)],[]⟩
def Nc (x0 x1:List Z) (x2 x3:Int):Option Bool:=(if (decide (x3<x2))=true then (if 0<=x3 then (if x3<(x1.length:Int) then ((R1 ((x1.getD x3.toNat (O,O,0)).1)).bind fun y1=>(if (!y1)=true then (some false) else (if (decide (((((x1.getD x3.toNat (O,O,0)).2).1).size:Int)>20))=true then (some false) else ((Ah (((x1.getD x3.toNat (O,O,0)).2).2) 1 1000000000).bind fun y2=>(if (!y2)=true then (some false) else (if (decide (x3>0))=true then (if 0<=(i64.wrap (x3-1)) then (if (i64.wrap (x3-1))<(x0.length:Int) then (if ((Op.bytesLess ((x1.getD x3.toNat (O,O,0)).1).toList ((x0.getD (i64.wrap (x3-1)).toNat (O,O,0)).1).toList)||(((x1.getD x3.toNat (O,O,0)).1).toList==((x0.getD (i64.wrap (x3-1)).toNat (O,O,0)).1).toList))=true then (some false) else (G5 x0 x1 x2 (i64.wrap (x3+1)))) else none) else none) else (G5 x0 x1 x2 (i64.wrap (x3+1))))))))) else none) else none) else (some (decide ((x0.length:Int)<=12))))
def dP (x0:List Z):Option Bool:=(G5 x0 x0 (x0.length:Int) 0)
theorem Ue:cH Nc G5:=lS (by kernel_rfl)
theorem tc:Mk dP GH:=cT Ep rfl ⟨rfl,rfl⟩ (by kernel_rfl)
def Pm (b0:U):Option (Bool×U):=(if (b0.2.2.2.2.2.2.2.2.2.1==0)=true then (if (b0.2.2.2.2.2.2.2.2.2.2.1==0)=true then (if (b0.2.2.2.2.2.2.2.2.2.2.2.1==0)=true then (if (false != P5 AF b0.2.2.2.2.2.2.2.2.2.2.2.2.1 (O,O,0))=true then (some (((b0.2.2.2.2.2.2.2.2.2.2.2.2.2.length:Int)==0),b0)) else (some (false,b0))) else (some (false,b0))) else (some (false,b0))) else ((Ah b0.2.2.2.2.2.2.2.2.2.1 1 2).bind fun y1=>(if y1=true then (if b0.2.2.2.2.2.1=true then ((Ah b0.2.2.2.2.2.2.2.2.2.2.1 0 1000).bind fun y2=>(if y2=true then ((Ah b0.2.2.2.2.2.2.2.2.2.2.2.1 1 900).bind fun y3=>(if y3=true then ((IS b0.2.2.2.2.2.2.2.2.2.2.2.2.2 1 6).bind fun y4=>(some (y4,b0))) else (some (false,b0)))) else (some (false,b0)))) else (some (false,b0))) else (some (false,b0)))))
theorem dQ:Mk Pm Dd:=cT Gw rfl ⟨rfl,rfl⟩ (by kernel_rfl)
def vT (x0:AC):Option Bool:=(some (decide (x0.2.2.2.2.1>=0)))
theorem vU:Mk vT Eg:=cT PJ rfl ⟨rfl,rfl⟩ (by kernel_rfl)
def kI (x0:AC):Option Int:=((AX x0.2.2.2.2.2.2.1 0 9).bind fun y1=>(if (!y1)=false then ((AX x0.2.2.2.2.2.2.2.1 0 999).bind fun y2=>(if (!y2)=true then (some 0) else (some (i64.wrap ((i64.wrap (1000*x0.2.2.2.2.2.2.1))+x0.2.2.2.2.2.2.2.1))))) else (some 0)))
theorem xx:Mk kI Fn:=cT Rs rfl ⟨rfl,rfl⟩ (by kernel_rfl)
def X8:=cG Hf (AH Al) (AH Al) kx
def X9:=kE 2 [] [0] 1 X8 kx
def Wj:St->Option (RT (BE.outs Al)):=lG MK [] [0,26,27,28] 1 (AH Al) X9
def X_:=cG Hg (AH Al) (AH Al) kx
def YA:=kE 0 [] [0] 1 X_ kx
def Wk:St->Option (RT (BE.outs Al)):=lG M6 [] [0,10,11,12] 1 (AH Al) YA
def MS (x0:AB):Option (Bool×AB):=cG Hf (AH Al) (AH Al) kx ⟨[(0,.ptr 0 0)],[.var (AO.enc x0)]⟩
def E7 (x0:List AA) (x1 x2:Int) (x3:AB):Option (Bool×AB):=Wj ⟨[(0,.ptr 0 0),(26,.lst AJ x0),(27,.int .i64 x1),(28,.int .i64 x2)],[.var (AO.enc x3)]⟩
def MT (x0:AB):Option (Bool×AB):=cG Hg (AH Al) (AH Al) kx ⟨[(0,.ptr 0 0)],[.var (AO.enc x0)]⟩
def E8 (x0:List U) (x1 x2:Int) (x3:AB):Option (Bool×AB):=Wk ⟨[(0,.ptr 0 0),(10,.lst X x0),(11,.int .i64 x1),(12,.int .i64 x2)],[.var (AO.enc x3)]⟩
def MU (x0:AB):Option (Bool×AB):=(if ((x0.2.1.length:Int)==6)=true then ((Dt x0.1).bind fun y2=>(some (y2,x0))) else (some (false,x0)))
def Hq (x0:List AA) (x1 x2:Int) (x3:AB):Option (Bool×AB):=(if (decide (x2<x1))=true then (if 0<=x2 then (if x2<(x0.length:Int) then ((Ef ((((x0.getD x2.toNat (0,0,0,0,0,([]:List Z))).2).2).1)).bind fun y1=>(if (!y1)=true then (some (false,x3)) else (E7 x0 x1 (i64.wrap (x2+1)) x3))) else none) else none) else (MS x3))
def MV (x0:AB):Option (Bool×AB):=(E7 x0.2.2.1 (x0.2.2.1.length:Int) 0 x0)
def Hr (x0:List U) (x1 x2:Int) (x3:AB):Option (Bool×AB):=(if (decide (x2<x1))=true then (if 0<=x2 then (if x2<(x0.length:Int) then (if (((x0.getD x2.toNat (0,0,false,false,false,false,([]:List Int),([]:List Z),0,0,0,0,(O,O,0),([]:List Int))).1) != (i64.wrap (x2+1)))=true then (some (false,x3)) else (E8 x0 x1 (i64.wrap (x2+1)) x3)) else none) else none) else (MT x3))
def Pn (b0:AB):Option (Bool×AB):=(E8 b0.2.1 (b0.2.1.length:Int) 0 b0)
theorem Wl:Mk MU MS:=jS (by kernel_rfl)
theorem MW:cH Hq E7:=lS (by kernel_rfl)
theorem Wm:Mk MV MT:=jS (by kernel_rfl)
theorem MX:cH Hr E8:=lS (by kernel_rfl)
theorem dR:Mk Pn Jg:=cT Al rfl ⟨rfl,rfl⟩ (by kernel_rfl)
def Po (x1 x2:Int) (b0:AB):Option AB:=(if 0<=x1 then (if x1<(b0.2.2.1.length:Int) then ((Bn b0.2.2.1 x1 (i64.wrap (x1+1))).bind fun y1=>((B6 ((((b0.2.2.1.getD x1.toNat (0,0,0,0,0,([]:List Z))).2).2).1) (b0.1,b0.2.1,y1,b0.2.2.2)).bind fun y2=>(if (decide (y2.1>=0))=true then (if 0<=y2.1 then (if y2.1<(y2.2.2.1.length:Int) then ((NM (y2.2.2.1.getD y2.1.toNat (0,0,false,false,false,false,([]:List Int),([]:List Z),0,0,0,0,(O,O,0),([]:List Int))) y2.2.1 (b0.2.2.1.getD x1.toNat (0,0,0,0,0,([]:List Z)))).bind fun y3=>(if 0<=y2.1 then (if y2.1<(y2.2.2.1.length:Int) then (let z4:List U:=y2.2.2.1.set y2.1.toNat y3.1; ((G1 y3.2.1 y3.2.2 x2 (y2.2.1,z4,y2.2.2.2)).bind fun y5=>(some y5))) else none) else none)) else none) else none) else (some y2.2)))) else none) else none)
theorem dS:Rn Po Ew:=cT Gx rfl ⟨rfl,rfl⟩ (by kernel_rfl)
def kK (x0:List AC) (x1:AC):Option Bool:=((CY x0 x1).bind fun y1=>(some y1))
theorem xy:N7 kK X3:=cT Rt rfl ⟨rfl,rfl⟩ (by kernel_rfl)
def gF (x0 x1:AC):Option Bool:=(if (x1.1==1)=true then (if (x1.2.1.toList==x0.2.1.toList)=true then (if (x1.2.2.1.toList==x0.2.2.2.2.2.2.2.2.toList)=true then (if (decide (x1.2.2.2.2.1<0))=false then (some (x1.2.2.2.2.2.1==x0.2.2.2.2.2.1)) else (some true)) else (some false)) else (some false)) else (some false))
theorem vV:N7 gF VP:=cT PL rfl ⟨rfl,rfl⟩ (by kernel_rfl)
def Uf (x1:Int) (b0:AB):Option (List Int×AB):=((Ah x1 1 (b0.1.length:Int)).bind fun y1=>(if (!y1)=true then (some ([],b0)) else (if 0<=(i64.wrap (x1-1)) then (if (i64.wrap (x1-1))<(b0.1.length:Int) then (some ((b0.1.getD (i64.wrap (x1-1)).toNat ([]:List Int)),b0)) else none) else none)))
theorem kL:N7 Uf JH:=cT JD rfl ⟨rfl,rfl⟩ (by kernel_rfl)
def kM (x0 x1 x2:Int):Option Bool:=(if (decide (x0>=x1))=true then (some (decide (x0<=x2))) else (some false))
theorem xz:Rn kM AX:=cT Ru rfl ⟨rfl,rfl⟩ (by kernel_rfl)
def KU (x0:List Int) (x1:Int):Option Bool:=((Dv x0 x1).bind fun y1=>(some (decide (y1>=0))))
theorem Tc:N7 KU CO:=cT EG rfl ⟨rfl,rfl⟩ (by kernel_rfl)
def Kn:=cG FS (AH An) (AH An) kx
def Ko:=kE 0 [] [] 0 Kn kx
def KK:St->Option (RT (BE.outs An)):=lG FR [] [0,1,12,13] 0 (AH An) Ko
def By (x0 x1:List Z) (x2 x3:Int):Option Bool:=KK ⟨[(0,.lst AF x0),(1,.lst AF x1),(12,.int .i64 x2),(13,.int .i64 x3)],[]⟩
def C5 (x0 x1:List Z) (x2 x3:Int):Option Bool:=(if (decide (x3<x2))=true then (if 0<=x3 then (if x3<(x0.length:Int) then (if 0<=x3 then (if x3<(x1.length:Int) then (if (true != P5 AF (x0.getD x3.toNat (O,O,0)) (x1.getD x3.toNat (O,O,0)))=true then (some false) else (By x0 x1 x2 (i64.wrap (x3+1)))) else none) else none) else none) else none) else (some true))
def GO (x0 x1:List Z):Option Bool:=(if ((x0.length:Int) != (x1.length:Int))=true then (some false) else (By x0 x1 (x0.length:Int) 0))
theorem E9:cH C5 By:=lS (by kernel_rfl)
theorem L7:N7 GO DS:=cT An rfl ⟨rfl,rfl⟩ (by kernel_rfl)
def td:=cG cW (AH Gy) (AH Gy) kx
def tf:=kE 0 [] [] 0 td kx
def qF:St->Option (RT (BE.outs Gy)):=lG cV [] [0,1,5] 0 (AH Gy) tf
def LT (x0:List Int) (x1 x2:Int):Option Bool:=qF ⟨[(0,.lst (.int .i64) x0),(1,.int .i64 x1),(5,.int .i64 x2)],[]⟩
def Qe (x0:List Int) (x1 x2:Int):Option Bool:=(if (decide (x2<(x0.length:Int)))=true then (if 0<=x2 then (if x2<(x0.length:Int) then (if ((x0.getD x2.toNat 0)==x1)=true then (some true) else (LT x0 x1 (i64.wrap (x2+1)))) else none) else none) else (some false))
def kN (x0:List Int) (x1:Int):Option Bool:=(LT x0 x1 0)
theorem aL:Rn Qe LT:=lS (by kernel_rfl)
theorem x_:N7 kN Ds:=cT Gy rfl ⟨rfl,rfl⟩ (by kernel_rfl)
def bJ:=cG OB (AH Cd) (AH Cd) kx
def bK:=kE 0 [] [] 0 bJ kx
def YB:St->Option (RT (BE.outs Cd)):=lG OA [] [0,1,5] 0 (AH Cd) bK
def Fp (x0 x1:List Z) (x2:Int):Option Bool:=YB ⟨[(0,.lst AF x0),(1,.lst AF x1),(5,.int .i64 x2)],[]⟩
def IY (x0 x1:List Z) (x2:Int):Option Bool:=(if (decide (x2<(x0.length:Int)))=true then (if 0<=x2 then (if x2<(x0.length:Int) then (if 0<=x2 then (if x2<(x1.length:Int) then (if (true != P5 AF (x0.getD x2.toNat (O,O,0)) (x1.getD x2.toNat (O,O,0)))=true then (some false) else (Fp x0 x1 (i64.wrap (x2+1)))) else none) else none) else none) else none) else (some true))
def RR (x0 x1:List Z):Option Bool:=(if ((x0.length:Int) != (x1.length:Int))=true then (some false) else (Fp x0 x1 0))
theorem Nd:Rn IY Fp:=lS (by kernel_rfl)
theorem fR:N7 RR Kc:=cT Cd rfl ⟨rfl,rfl⟩ (by kernel_rfl)
def TK (b0:AU):Option (Int×AU):=(if 33<0 then none else (if 45<0 then none else (if (decide (b0.2.1<(b0.1.length:Int)))=true then (if 0<=b0.2.1 then (if b0.2.1<(b0.1.length:Int) then (some ((Ml .i64 (i64.wrap ((Ml .i64 (ix .i64 (Int.fdiv (i64.wrap ((i64.wrap (b0.2.2*6364136223846793005))+1442695040888963407)) (2^(min (33:Int).toNat (IntKind.bits .i64)))) (Int.fdiv (i64.wrap ((i64.wrap (b0.2.2*6364136223846793005))+1442695040888963407)) (2^(min (45:Int).toNat (IntKind.bits .i64))))) 255)+(i64.wrap (b0.1.getD b0.2.1.toNat 0)))) 255),(b0.1,(i64.wrap (b0.2.1+1)),(i64.wrap ((i64.wrap (b0.2.2*6364136223846793005))+1442695040888963407))))) else none) else none) else (some ((Ml .i64 (ix .i64 (Int.fdiv (i64.wrap ((i64.wrap (b0.2.2*6364136223846793005))+1442695040888963407)) (2^(min (33:Int).toNat (IntKind.bits .i64)))) (Int.fdiv (i64.wrap ((i64.wrap (b0.2.2*6364136223846793005))+1442695040888963407)) (2^(min (45:Int).toNat (IntKind.bits .i64))))) 255),(b0.1,b0.2.1,(i64.wrap ((i64.wrap (b0.2.2*6364136223846793005))+1442695040888963407))))))))
theorem th:Mk TK GI:=cT M7 rfl ⟨rfl,rfl⟩ (by kernel_rfl)
def Qf (x1:Int) (b0:AU):Option (Int×AU):=(if (decide (x1<=0))=true then (some (0,b0)) else (if (decide (x1<=256))=true then ((GI b0).bind fun y1=>(if x1=0 then none else (some ((Int.tmod y1.1 x1),y1.2)))) else ((GI b0).bind fun y2=>((GI y2.2).bind fun y3=>((GI y3.2).bind fun y4=>((GI y4.2).bind fun y5=>(if x1=0 then none else (some ((Int.tmod (i64.wrap ((i64.wrap ((i64.wrap ((i64.wrap (y2.1*16777216))+(i64.wrap (y3.1*65536))))+(i64.wrap (y4.1*256))))+y5.1)) x1),y5.2)))))))))
theorem qG:N7 Qf Cu:=cT LJ rfl ⟨rfl,rfl⟩ (by kernel_rfl)

def kO:=cG SW (AH CA) (AH CA) kx
def Nf:=kE 0 [(3,1)] [3] 2 kO kx
def TL:St->Option (RT (BE.outs CA)):=lG SV [(3,1)] [0,3,4] 2 (AH CA) Nf
def kP:=kB [(3,1)] [0,3,4] 2 TL
def Ug:=cG SU kP (AH CA) Nf
def kQ:=kB [(3,1)] [0,3,4] 2 Ug
def Uh:=kE 1 [(3,1)] [0,3,4] 2 Ug Nf
def kR:=cG T8 kQ (AH CA) Uh
def kS:=kE 2 [(3,1),(5,2)] [0,3,4,5] 3 kR Uh
def iP:St->Option (RT (BE.outs CA)):=lG T7 [(3,1),(5,2)] [0,3,4,5,6] 3 (AH CA) kS
def GP (x0 x1:Int) (x2:AU) (x3:List (List Int)) (x4:List Int):Option (List (List Int)×AU):=iP ⟨[(0,.ptr 0 0),(3,.row 1),(4,.int .i64 x0),(5,.row 2),(6,.int .i64 x1)],[.var (BQ.enc x2),.rows 33 (.slice (.int .i64)) x3,.rows 3 (.int .i64) x4]⟩
def GQ (x0:Int) (x1:AU) (x2:List (List Int)):Option (List (List Int)×AU):=TL ⟨[(0,.ptr 0 0),(3,.row 1),(4,.int .i64 x0)],[.var (BQ.enc x1),.rows 33 (.slice (.int .i64)) x2]⟩
def GR (x0 x1:Int) (x2:AU) (x3:List (List Int)) (x4:List Int):Option (List (List Int)×AU):=((Cu 3 x2).bind fun y2=>(if (decide (x1<(i64.wrap (1+y2.1))))=true then ((Cu 4 y2.2).bind fun y3=>((Ds x4 (i64.wrap (1+y3.1))).bind fun y4=>(if (!y4)=true then (if x4.length+([(i64.wrap (1+y3.1))]:List Int).length<=68719476736 then (GP x0 (i64.wrap (x1+1)) y3.2 x3 (x4++([(i64.wrap (1+y3.1))]:List Int))) else none) else (GP x0 (i64.wrap (x1+1)) y3.2 x3 x4)))) else (if x3.length+([x4]:List (List Int)).length<=68719476736 then (GQ (i64.wrap (x0+1)) y2.2 (x3++([x4]:List (List Int)))) else none)))
def Ia (x0:Int) (x1:AU) (x2:List (List Int)):Option (List (List Int)×AU):=((Cu 5 x1).bind fun y1=>(if (decide (x0<(i64.wrap (1+y1.1))))=true then (GP x0 0 y1.2 x2 ([]:List Int)) else (some (x2,y1.2))))
def aM (b0:AU):Option (List (List Int)×AU):=(GQ 0 b0 ([]:List (List Int)))
theorem Ib:zf GR GP:=lS (by kernel_rfl)
theorem L8:Rn Ia GQ:=lS (by kernel_rfl)
theorem qH:Mk aM QG:=cT CA rfl ⟨rfl,rfl⟩ (by kernel_rfl)
def Wn:=cG UA (AH Ba) (AH Ba) kx
def Wo:=kB [] [4,5] 4 Wn
def Wp:=kE 0 [] [4,5] 4 Wn kx
def nE:=kE 1 [] [4,5] 6 Wo Wp
def kU:St->Option (RT (BE.outs Ba)):=lG V8 [] [0,1,4,5,6] 6 (AH Ba) nE
def nF:=kE 3 [] [4,5] 4 Wo Wp
def kV:St->Option (RT (BE.outs Ba)):=lG T_ [] [0,1,4,5,7] 4 (AH Ba) nF
def Dz (x0:Int) (x1:AU) (x2:AB) (x3 x4:AY) (x5:List Int) (x6:List ByteArray):Option (AY×AU×AB):=kU ⟨[(0,.ptr 0 0),(1,.ptr 1 0),(4,.ptr 2 0),(5,.ptr 3 0),(6,.int .i64 x0)],[.var (BQ.enc x1),.var (AO.enc x2),.var (Ab.enc x3),.var (Ab.enc x4),.frz (.int .i64) x5,.frz .str x6]⟩
def D0 (x0:Int) (x1:AU) (x2:AB) (x3 x4:AY):Option (AY×AU×AB):=kV ⟨[(0,.ptr 0 0),(1,.ptr 1 0),(4,.ptr 2 0),(5,.ptr 3 0),(7,.int .i64 x0)],[.var (BQ.enc x1),.var (AO.enc x2),.var (Ab.enc x3),.var (Ab.enc x4)]⟩
def G6 (x0:AU) (x1:AB) (x2 x3:AY):Option (AY×AU×AB):=cG UB (AH Ba) (AH Ba) kx ⟨[(0,.ptr 0 0),(1,.ptr 1 0),(4,.ptr 2 0),(5,.ptr 3 0)],[.var (BQ.enc x0),.var (AO.enc x1),.var (Ab.enc x2),.var (Ab.enc x3)]⟩
def BI (x0:AU) (x1:AB) (x2 x3:AY):Option (AY×AU×AB):=cG UC (AH Ba) (AH Ba) kx ⟨[(0,.ptr 0 0),(1,.ptr 1 0),(4,.ptr 2 0),(5,.ptr 3 0)],[.var (BQ.enc x0),.var (AO.enc x1),.var (Ab.enc x2),.var (Ab.enc x3)]⟩
def Ng (x0:AU) (x1:AB) (x2 x3:AY):Option (AY×AU×AB):=cG UD (AH Ba) (AH Ba) kx ⟨[(0,.ptr 0 0),(1,.ptr 1 0),(4,.ptr 2 0),(5,.ptr 3 0)],[.var (BQ.enc x0),.var (AO.enc x1),.var (Ab.enc x2),.var (Ab.enc x3)]⟩
def G7 (x0:Int) (x1:AU) (x2:AB) (x3 x4:AY) (x5:List Int) (x6:List ByteArray):Option (AY×AU×AB):=(if (decide (x0<(x2.2.1.length:Int)))=true then (if 0<=x0 then (if x0<(x2.2.1.length:Int) then (if (((((((x2.2.1.getD x0.toNat (0,0,false,false,false,false,([]:List Int),([]:List Z),0,0,0,0,(O,O,0),([]:List Int))).2).2).2).2).2).1)=true then ((Dw 4 x1).bind fun y10=>(if (!y10.1)=true then (Dz (i64.wrap (x0+1)) y10.2 x2 x3 (x4.1,(i64.wrap (x0+1)),x4.2.2) x5 x6) else (Dz (i64.wrap (x0+1)) y10.2 x2 x3 x4 x5 x6))) else (Dz (i64.wrap (x0+1)) x1 x2 x3 x4 x5 x6)) else none) else none) else (some (x4,x1,x2)))
def E_ (x0:Int) (x1:AU) (x2:AB) (x3 x4:AY):Option (AY×AU×AB):=(if (decide (x0<(x2.2.1.length:Int)))=true then (if 0<=x0 then (if x0<(x2.2.1.length:Int) then (if (decide ((((x2.2.1.getD x0.toNat (0,0,false,false,false,false,([]:List Int),([]:List Z),0,0,0,0,(O,O,0),([]:List Int))).2).1)<(x2.1.length:Int)))=true then (if 0<=(((x2.2.1.getD x0.toNat (0,0,false,false,false,false,([]:List Int),([]:List Z),0,0,0,0,(O,O,0),([]:List Int))).2).1) then (if (((x2.2.1.getD x0.toNat (0,0,false,false,false,false,([]:List Int),([]:List Z),0,0,0,0,(O,O,0),([]:List Int))).2).1)<(x2.1.length:Int) then (if 0<=(0:Int) then (if 0<((x2.1.getD (((x2.2.1.getD x0.toNat (0,0,false,false,false,false,([]:List Int),([]:List Z),0,0,0,0,(O,O,0),([]:List Int))).2).1).toNat ([]:List Int)).length:Int) then (if (((x2.1.getD (((x2.2.1.getD x0.toNat (0,0,false,false,false,false,([]:List Int),([]:List Z),0,0,0,0,(O,O,0),([]:List Int))).2).1).toNat ([]:List Int)).getD (0:Int).toNat 0)==((x2.2.1.getD x0.toNat (0,0,false,false,false,false,([]:List Int),([]:List Z),0,0,0,0,(O,O,0),([]:List Int))).1))=true then ((Dw 3 x1).bind fun y11=>(if (!y11.1)=true then (D0 (i64.wrap (x0+1)) y11.2 x2 x3 (x4.1,(x2.2.1.getD x0.toNat (0,0,false,false,false,false,([]:List Int),([]:List Z),0,0,0,0,(O,O,0),([]:List Int))).1,x4.2.2)) else (D0 (i64.wrap (x0+1)) y11.2 x2 x3 x4))) else (D0 (i64.wrap (x0+1)) x1 x2 x3 x4)) else none) else none) else none) else none) else (D0 (i64.wrap (x0+1)) x1 x2 x3 x4)) else none) else none) else (some (x4,x1,x2)))
def G8 (x0:AU) (x1:AB) (x2 x3:AY):Option (AY×AU×AB):=(if (x3.1==1)=true then ((JI ([1,1,2]:List Int) x0).bind fun y7=>((NN ([(⟨#[97]⟩:ByteArray),(⟨#[98]⟩:ByteArray),(⟨#[99]⟩:ByteArray)]:List ByteArray) y7.2).bind fun y8=>(if (y7.1==1)=true then ((NN ([(⟨#[118]⟩:ByteArray),(⟨#[119]⟩:ByteArray),(⟨#[120]⟩:ByteArray),(⟨#[121]⟩:ByteArray)]:List ByteArray) y8.2).bind fun y9=>(Dz 0 y9.2 x1 x2 (x3.1,x3.2.1,x3.2.2.1,y7.1,y8.1,y9.1) ([1,1,2]:List Int) ([(⟨#[97]⟩:ByteArray),(⟨#[98]⟩:ByteArray),(⟨#[99]⟩:ByteArray)]:List ByteArray))) else (Dz 0 y8.2 x1 x2 (x3.1,x3.2.1,x3.2.2.1,y7.1,y8.1,x3.2.2.2.2.2) ([1,1,2]:List Int) ([(⟨#[97]⟩:ByteArray),(⟨#[98]⟩:ByteArray),(⟨#[99]⟩:ByteArray)]:List ByteArray))))) else (if (x3.1==5)=true then (D0 0 x0 x1 x2 x3) else (some (x3,x0,x1))))
def JK (x0:AU) (x1:AB) (x2 x3:AY):Option (AY×AU×AB):=(if (x3.1==2)=true then ((Dw 2 x0).bind fun y6=>(if y6.1=true then (G6 y6.2 x1 x2 (x3.1,x3.2.1,0,x3.2.2.2)) else (G6 y6.2 x1 x2 x3))) else (G6 x0 x1 x2 x3))
def JL (x0:AU) (x1:AB) (x2 x3:AY):Option (AY×AU×AB):=(if ((x1.2.2.1.length:Int)==0)=true then ((AX x3.1 2 4).bind fun y4=>(if y4=true then (if ((1:Int)==6)=true then ((Dw 4 x0).bind fun y5=>(if (!y5.1)=true then (BI y5.2 x1 x2 (1,x3.2)) else (BI y5.2 x1 x2 (1,x3.2)))) else (BI x0 x1 x2 (1,x3.2))) else (if (x3.1==6)=true then ((Dw 4 x0).bind fun y12=>(if (!y12.1)=true then (BI y12.2 x1 x2 (1,x3.2)) else (BI y12.2 x1 x2 x3))) else (BI x0 x1 x2 x3)))) else (if (x3.1==6)=true then ((Dw 4 x0).bind fun y13=>(if (!y13.1)=true then (BI y13.2 x1 x2 (1,x3.2)) else (BI y13.2 x1 x2 x3))) else (BI x0 x1 x2 x3)))
def dU (b0:AU) (b1:AB):Option (AY×AU×AB):=((JI ([1,1,1,2,2,2,2,2,2,2,2,3,4,5,6]:List Int) b0).bind fun y1=>((Cu 4 y1.2).bind fun y2=>((Cu 20 y2.2).bind fun y3=>(Ng y3.2 b1 (0,0,0,0,O,O) (y1.1,(i64.wrap (1+y2.1)),y3.1,0,O,O)))))
theorem JM:Le7 G7 Dz:=lS (by kernel_rfl)
theorem G9:zf E_ D0:=lS (by kernel_rfl)
theorem JN:cH G8 G6:=jS (by kernel_rfl)
theorem Nh:cH JK BI:=jS (by kernel_rfl)
theorem Ni:cH JL Ng:=jS (by kernel_rfl)
theorem tj:N7 dU Si:=cT Ba rfl ⟨rfl,rfl⟩ (by kernel_rfl)
def nG:=cG UG (AH CD) (AH CD) kx
def Ow:=kE 0 [] [0] 0 nG kx
def Ui:St->Option (RT (BE.outs CD)):=lG UF [] [0,7,8,9] 0 (AH CD) Ow
def nH:=kB [] [0,7,8,9] 0 Ui
def Wq:=cG UE nH (AH CD) Ow
def Wr:=kB [] [0,7,8,9] 0 Wq
def Ox:=kE 1 [] [0,7,8,9] 0 Wq Ow
def nI:=cG Od Wr (AH CD) Ox
def nJ:=kE 2 [] [0,4,7,8,9] 0 nI Ox
def kW:St->Option (RT (BE.outs CD)):=lG V9 [] [0,4,7,8,9,13,14,15] 0 (AH CD) nJ
def Nj (x0:List (List Int)) (x1:List Int) (x2:List (List Int)) (x3 x4:Int):Option Bool:=cG Od Wr (AH CD) Ox ⟨[(0,.lst (.slice (.int .i64)) x0),(4,.lst (.int .i64) x1),(7,.lst (.slice (.int .i64)) x2),(8,.int .i64 x3),(9,.int .i64 x4)],[]⟩
def JO (x0:List (List Int)) (x1:List Int) (x2:List (List Int)) (x3 x4:Int) (x5:List Int) (x6 x7:Int):Option Bool:=kW ⟨[(0,.lst (.slice (.int .i64)) x0),(4,.lst (.int .i64) x1),(7,.lst (.slice (.int .i64)) x2),(8,.int .i64 x3),(9,.int .i64 x4),(13,.lst (.int .i64) x5),(14,.int .i64 x6),(15,.int .i64 x7)],[]⟩
def JP (x0 x1:List (List Int)) (x2 x3:Int):Option Bool:=Ui ⟨[(0,.lst (.slice (.int .i64)) x0),(7,.lst (.slice (.int .i64)) x1),(8,.int .i64 x2),(9,.int .i64 x3)],[]⟩
def Uj (x0:List (List Int)) (x1:List Int) (x2:List (List Int)) (x3 x4:Int):Option Bool:=((Ah (x1.length:Int) 1 4).bind fun y3=>(if (!y3)=true then (some false) else (JP x0 x2 x3 (i64.wrap (x4+1)))))
def Nk (x0:List (List Int)) (x1:List Int) (x2:List (List Int)) (x3 x4:Int) (x5:List Int) (x6 x7:Int):Option Bool:=(if (decide (x7<x6))=true then (if 0<=x7 then (if x7<(x5.length:Int) then ((Ef (x5.getD x7.toNat 0)).bind fun y1=>(if (!y1)=false then ((Dv x1 (x5.getD x7.toNat 0)).bind fun y2=>(if (y2 != x7)=true then (some false) else (JO x0 x1 x2 x3 x4 x5 x6 (i64.wrap (x7+1))))) else (some false))) else none) else none) else (Nj x0 x1 x2 x3 x4))
def Nl (x0 x1:List (List Int)) (x2 x3:Int):Option Bool:=(if (decide (x3<x2))=true then (if 0<=x3 then (if x3<(x1.length:Int) then (JO x0 (x1.getD x3.toNat ([]:List Int)) x1 x2 x3 (x1.getD x3.toNat ([]:List Int)) ((x1.getD x3.toNat ([]:List Int)).length:Int) 0) else none) else none) else ((Ah (x0.length:Int) 1 9).bind fun y4=>(some y4)))
def dV (x0:List (List Int)):Option Bool:=(JP x0 x0 (x0.length:Int) 0)
theorem kX:zf Uj Nj:=jS (by kernel_rfl)
theorem Uk:z_ Nk JO:=lS (by kernel_rfl)
theorem Ul:cH Nl JP:=lS (by kernel_rfl)
theorem tl:Mk dV Dt:=cT CD rfl ⟨rfl,rfl⟩ (by kernel_rfl)
def iQ:=cG SY (AH DY) (AH DY) kx
def iR:=kE 0 [(3,0)] [3] 1 iQ kx
def fS:St->Option (RT (BE.outs DY)):=lG SX [(3,0)] [3,6,7,8] 1 (AH DY) iR
def HV (x0:List (List Int)) (x1 x2:Int) (x3:List (List Int)):Option (List (List Int)):=fS ⟨[(3,.row 0),(6,.lst (.slice (.int .i64)) x0),(7,.int .i64 x1),(8,.int .i64 x2)],[.rows 33 (.slice (.int .i64)) x3]⟩
def Kp (x0:List (List Int)) (x1 x2:Int) (x3:List (List Int)):Option (List (List Int)):=(if (decide (x2<x1))=true then (if 0<=x2 then (if x2<(x0.length:Int) then ((Bw (x0.getD x2.toNat ([]:List Int))).bind fun y1=>(if x3.length+([y1]:List (List Int)).length<=68719476736 then (HV x0 x1 (i64.wrap (x2+1)) (x3++([y1]:List (List Int)))) else none)) else none) else none) else (some x3))
def Ws (x0:List (List Int)):Option (List (List Int)):=(HV x0 (x0.length:Int) 0 ([]:List (List Int)))
theorem RS:cH Kp HV:=lS (by kernel_rfl)
theorem nK:Mk Ws KE:=cT DY rfl ⟨rfl,rfl⟩ (by kernel_rfl)
def RU (x0:Int) (x1:List (List Int)) (x2:Bool) (x3:U):Option (U×Bool):=cG SZ (AH F9) (AH F9) kx ⟨[(0,.int .i64 x0),(1,.lst (.slice (.int .i64)) x1),(4,.ptr 0 0),(14,.bool x2)],[.var (X.enc x3)]⟩
def RV (x0:Int) (x1:List (List Int)) (x2:Bool) (x3:U):Option (U×Bool):=(if 0<=(0:Int) then (if 0<(x1.length:Int) then (if 0<=(0:Int) then (if 0<((x1.getD (0:Int).toNat ([]:List Int)).length:Int) then (if 0<=(0:Int) then (if 0<(x1.length:Int) then ((CO (x1.getD (0:Int).toNat ([]:List Int)) x0).bind fun y3=>(some ((x0,1,false,y3,(((x1.getD (0:Int).toNat ([]:List Int)).getD (0:Int).toNat 0)==x0),(((x1.getD (0:Int).toNat ([]:List Int)).getD (0:Int).toNat 0)==x0),([]:List Int),([]:List Z),0,0,0,0,(O,O,0),([]:List Int)),true))) else none) else none) else none) else none) else none) else none)
def Wt (x0:Int) (x1:List (List Int)):Option (U×Bool):=((Ef x0).bind fun y1=>(if (!y1)=false then ((Dt x1).bind fun y2=>(if (!y2)=true then (some ((0,0,false,false,false,false,([]:List Int),([]:List Z),0,0,0,0,(O,O,0),([]:List Int)),false)) else (RU x0 x1 (!y2) (0,0,false,false,false,false,([]:List Int),([]:List Z),0,0,0,0,(O,O,0),([]:List Int))))) else (some ((0,0,false,false,false,false,([]:List Int),([]:List Z),0,0,0,0,(O,O,0),([]:List Int)),false))))
theorem fT:cH RV RU:=jS (by kernel_rfl)
theorem nL:N7 Wt Oj:=cT F9 rfl ⟨rfl,rfl⟩ (by kernel_rfl)
def LU (x0:Int) (x1:ByteArray) (x2:Bool):Option Bool:=cG cX (AH J_) (AH J_) kx ⟨[(0,.int .i64 x0),(3,.str x1),(26,.bool x2)],[]⟩
def Qg (x0:Int) (x1:ByteArray) (x2:Bool):Option Bool:=(if (x0==1)=false then (some (x1.toList==(⟨#[]⟩:ByteArray).toList)) else (some true))
def YC (x0 x1:Int) (x2 x3:ByteArray):Option Bool:=((Ah x0 1 2).bind fun y1=>(if (!y1)=false then ((Ah x1 0 1000).bind fun y2=>(if (!y2)=false then ((R1 x2).bind fun y3=>(if (!y3)=false then (if (decide ((x3.size:Int)>20))=true then (some false) else (LU x0 x3 (decide ((x3.size:Int)>20)))) else (some false))) else (some false))) else (some false)))
theorem aN:Rn Qg LU:=jS (by kernel_rfl)
theorem kY:cH YC NL:=cT J_ rfl ⟨rfl,rfl⟩ (by kernel_rfl)
def TM (x1:AY) (x2:Int) (b0:AB):Option (Bool×AB):=(if b0.2.2.2.length+([(x1.2.2.2.1,x1.2.2.2.2.1,x1.2.2.2.2.2,x2,(-1:Int),0,0,0,O)]:List AC).length<=68719476736 then ((B6 x1.2.1 (b0.1,b0.2.1,b0.2.2.1,(b0.2.2.2++([(x1.2.2.2.1,x1.2.2.2.2.1,x1.2.2.2.2.2,x2,(-1:Int),0,0,0,O)]:List AC)))).bind fun y1=>(if 0<=y1.1 then (if y1.1<(y1.2.2.1.length:Int) then ((R2 (y1.2.2.1.getD y1.1.toNat (0,0,false,false,false,false,([]:List Int),([]:List Z),0,0,0,0,(O,O,0),([]:List Int))) y1.2.1 x1.2.2.2.1 (b0.2.2.2.length:Int) x1.2.2.2.2.1 x1.2.2.2.2.2).bind fun y2=>(if (!y2.2.2.2)=true then (some (false,y1.2)) else (if 0<=y1.1 then (if y1.1<(y1.2.2.1.length:Int) then (let z3:List U:=y1.2.2.1.set y1.1.toNat y2.1; ((G1 y2.2.1 y2.2.2.1 x2 (y1.2.1,z3,y1.2.2.2)).bind fun y4=>(some (true,y4)))) else none) else none))) else none) else none)) else none)
theorem iS:Rn TM Lj:=cT IP rfl ⟨rfl,rfl⟩ (by kernel_rfl)
def dW:=cG OC (AH Cp) (AH Cp) kx
def dX:=kE 0 [] [] 5 dW kx
def bL:St->Option (RT (BE.outs Cp)):=lG Pe [] [0,2,4,7,8] 5 (AH Cp) dX
def EK (x0 x1 x2:Int) (x3:List (List Int)) (x4:List U) (x5:List AA) (x6:List AC) (x7:AY):Option (Bool×AB):=bL ⟨[(0,.ptr 0 0),(2,.int .i64 x0),(4,.ptr 4 0),(7,.int .i64 x1),(8,.int .i64 x2)],[.var [.lst (.slice (.int .i64)) x3,.row 1,.row 2,.row 3],.rows 42 X x4,.rows 97 AJ x5,.rows 47 AI x6,.var (Ab.enc x7)]⟩
def GX (x0 x1 x2:Int) (x3:List (List Int)) (x4:List U) (x5:List AA) (x6:List AC) (x7:AY):Option (Bool×AB):=(if (decide (x2<=(x3.length:Int)))=true then (if 0<=(i64.wrap (x2-1)) then (if (i64.wrap (x2-1))<(x3.length:Int) then (if 0<=(0:Int) then (if 0<((x3.getD (i64.wrap (x2-1)).toNat ([]:List Int)).length:Int) then (if (((x3.getD (i64.wrap (x2-1)).toNat ([]:List Int)).getD (0:Int).toNat 0) != x7.2.1)=true then (EK x0 x1 (i64.wrap (x2+1)) x3 x4 x5 x6 x7) else (if 0<=x1 then (if x1<(x4.length:Int) then ((R3 (x4.getD x1.toNat (0,0,false,false,false,false,([]:List Int),([]:List Z),0,0,0,0,(O,O,0),([]:List Int))) x3 x2).bind fun y2=>(if y2.2.2=true then (if 0<=x1 then (if x1<(x4.length:Int) then (let z3:List U:=x4.set x1.toNat y2.1; ((G1 y2.2.1 ([]) x0 (x3,z3,x5,x6)).bind fun y4=>(some (y2.2.2,y4)))) else none) else none) else (some (y2.2.2,(x3,x4,x5,x6))))) else none) else none)) else none) else none) else none) else none) else (some (false,(x3,x4,x5,x6))))
def TN (x1:AY) (x2:Int) (b0:AB):Option (Bool×AB):=((B6 x1.2.1 b0).bind fun y1=>(if 0<=y1.1 then (if y1.1<(y1.2.2.1.length:Int) then (EK x2 y1.1 (i64.wrap ((((y1.2.2.1.getD y1.1.toNat (0,0,false,false,false,false,([]:List Int),([]:List Z),0,0,0,0,(O,O,0),([]:List Int))).2).1)+1)) y1.2.1 y1.2.2.1 y1.2.2.2.1 y1.2.2.2.2 x1) else none) else none))
theorem I6:z_ GX EK:=lS (by kernel_rfl)
theorem iT:Rn TN Lk:=cT Cp rfl ⟨rfl,rfl⟩ (by kernel_rfl)
def RW (x1:Int) (b0:AB):Option (Int×AB):=((CT b0.2.1 x1).bind fun y1=>(some (y1,b0)))
theorem fU:N7 RW B6:=cT HS rfl ⟨rfl,rfl⟩ (by kernel_rfl)
def zL (x0:U):Option U:=(some (x0.1,x0.2.1,true,false,false,false,([]:List Int),([]:List Z),0,0,0,0,(O,O,0),([]:List Int)))
theorem zM:Mk zL UY:=cT UH rfl ⟨rfl,rfl⟩ (by kernel_rfl)
def Pp (x1:AY) (x2:Int) (b0:AB):Option (Bool×AB):=(if ((b0.2.2.1.length:Int)==0)=true then (some (false,b0)) else (if (b0.2.2.1.length:Int)=0 then none else (if (x1.1==2)=true then ((Ew (Int.tmod x1.2.2.1 (b0.2.2.1.length:Int)) x2 b0).bind fun y1=>(some (true,y1))) else (if (x1.1==3)=true then ((Bn b0.2.2.1 (Int.tmod x1.2.2.1 (b0.2.2.1.length:Int)) (i64.wrap ((Int.tmod x1.2.2.1 (b0.2.2.1.length:Int))+1))).bind fun y2=>(some (true,(b0.1,b0.2.1,y2,b0.2.2.2)))) else (if (x1.1==4)=true then (if 0<=(Int.tmod x1.2.2.1 (b0.2.2.1.length:Int)) then (if (Int.tmod x1.2.2.1 (b0.2.2.1.length:Int))<(b0.2.2.1.length:Int) then ((Hn (b0.2.2.1.getD ((Int.tmod x1.2.2.1 (b0.2.2.1.length:Int)).toNat) (0,0,0,0,0,([]:List Z)))).bind fun y3=>(if b0.2.2.1.length+([y3]:List AA).length<=68719476736 then (some (true,(b0.1,b0.2.1,(b0.2.2.1++([y3]:List AA)),b0.2.2.2))) else none)) else none) else none) else (some (true,b0)))))))
theorem dY:Rn Pp Jh:=cT Gz rfl ⟨rfl,rfl⟩ (by kernel_rfl)
def Um (x0:U):Option U:=((Bw x0.2.2.2.2.2.2.1).bind fun y1=>((Ao x0.2.2.2.2.2.2.2.1).bind fun y2=>((Bw x0.2.2.2.2.2.2.2.2.2.2.2.2.2).bind fun y3=>(some (x0.1,x0.2.1,x0.2.2.1,x0.2.2.2.1,x0.2.2.2.2.1,x0.2.2.2.2.2.1,y1,y2,x0.2.2.2.2.2.2.2.2.1,x0.2.2.2.2.2.2.2.2.2.1,x0.2.2.2.2.2.2.2.2.2.2.1,x0.2.2.2.2.2.2.2.2.2.2.2.1,x0.2.2.2.2.2.2.2.2.2.2.2.2.1,y3)))))
theorem kZ:Mk Um DD:=cT JE rfl ⟨rfl,rfl⟩ (by kernel_rfl)
def dZ (x0:AA):Option AA:=((Ao x0.2.2.2.2.2).bind fun y1=>(some (x0.1,x0.2.1,x0.2.2.1,x0.2.2.2.1,x0.2.2.2.2.1,y1)))
theorem tp:Mk dZ Hn:=cT M8 rfl ⟨rfl,rfl⟩ (by kernel_rfl)
def nM:=cG WA (AH Er) (AH Er) kx
def nN:=kE 0 [] [0] 0 nM kx
def ka:St->Option (RT (BE.outs Er)):=lG V_ [] [0,3] 0 (AH Er) nN
def JQ (x0:List (List Int)) (x1:Int):Option Bool:=ka ⟨[(0,.lst (.slice (.int .i64)) x0),(3,.int .i64 x1)],[]⟩
def Nm (x0:List (List Int)) (x1:Int):Option Bool:=(if (decide (x1<(x0.length:Int)))=true then (if 0<=x1 then (if x1<(x0.length:Int) then ((Sk (x0.getD x1.toNat ([]:List Int))).bind fun y1=>(if (!y1)=true then (some false) else (JQ x0 (i64.wrap (x1+1))))) else none) else none) else ((AX (x0.length:Int) 1 9).bind fun y2=>(some y2)))
def da (x0:List (List Int)):Option Bool:=(JQ x0 0)
theorem Un:N7 Nm JQ:=lS (by kernel_rfl)
theorem tq:Mk da Ex:=cT Er rfl ⟨rfl,rfl⟩ (by kernel_rfl)
def bM:=cG OE (AH Ce) (AH Ce) kx
def bN:=kE 0 [(3,0)] [3] 1 bM kx
def YD:St->Option (RT (BE.outs Ce)):=lG OD [(3,0)] [0,3,4] 1 (AH Ce) bN
def Fq (x0:List (List Int)) (x1:Int) (x2:List (List Int)):Option (List (List Int)):=YD ⟨[(0,.lst (.slice (.int .i64)) x0),(3,.row 0),(4,.int .i64 x1)],[.rows 33 (.slice (.int .i64)) x2]⟩
def Ic (x0:List (List Int)) (x1:Int) (x2:List (List Int)):Option (List (List Int)):=(if (decide (x1<(x0.length:Int)))=true then (if 0<=x1 then (if x1<(x0.length:Int) then (if ([]:List Int).length+(x0.getD x1.toNat ([]:List Int)).length<=68719476736 then (if x2.length+([(([]:List Int)++(x0.getD x1.toNat ([]:List Int)))]:List (List Int)).length<=68719476736 then (Fq x0 (i64.wrap (x1+1)) (x2++([(([]:List Int)++(x0.getD x1.toNat ([]:List Int)))]:List (List Int)))) else none) else none) else none) else none) else (some x2))
def RX (x0:List (List Int)):Option (List (List Int)):=(Fq x0 0 ([]:List (List Int)))
theorem Nn:Rn Ic Fq:=lS (by kernel_rfl)
theorem fV:Mk RX HT:=cT Ce rfl ⟨rfl,rfl⟩ (by kernel_rfl)
def RY (x0:Int) (x1:List (List Int)) (x2:Bool) (x3:U):Option (U×Bool):=cG Sa (AH F_) (AH F_) kx ⟨[(0,.int .i64 x0),(1,.lst (.slice (.int .i64)) x1),(4,.ptr 0 0),(14,.bool x2)],[.var (X.enc x3)]⟩
def RZ (x0:Int) (x1:List (List Int)) (x2:Bool) (x3:U):Option (U×Bool):=(if 0<=(0:Int) then (if 0<(x1.length:Int) then ((Ds (x1.getD (0:Int).toNat ([]:List Int)) x0).bind fun y3=>(if 0<=(0:Int) then (if 0<(x1.length:Int) then (if 0<=(0:Int) then (if 0<((x1.getD (0:Int).toNat ([]:List Int)).length:Int) then (some ((x0,1,false,y3,(((x1.getD (0:Int).toNat ([]:List Int)).getD (0:Int).toNat 0)==x0),(((x1.getD (0:Int).toNat ([]:List Int)).getD (0:Int).toNat 0)==x0),([]:List Int),([]:List Z),0,0,0,0,(O,O,0),([]:List Int)),true)) else none) else none) else none) else none)) else none) else none)
def Wu (x0:Int) (x1:List (List Int)):Option (U×Bool):=((Ex x1).bind fun y1=>(if (!y1)=false then ((AX x0 1 6).bind fun y2=>(if (!y2)=true then (some ((0,0,false,false,false,false,([]:List Int),([]:List Z),0,0,0,0,(O,O,0),([]:List Int)),false)) else (RY x0 x1 (!y2) (0,0,false,false,false,false,([]:List Int),([]:List Z),0,0,0,0,(O,O,0),([]:List Int))))) else (some ((0,0,false,false,false,false,([]:List Int),([]:List Z),0,0,0,0,(O,O,0),([]:List Int)),false))))
theorem fW:cH RZ RY:=jS (by kernel_rfl)
theorem nO:N7 Wu Ok:=cT F_ rfl ⟨rfl,rfl⟩ (by kernel_rfl)
def aO (x1:Int) (x2:AY) (b0:AB):Option (Int×AB):=(if ([]:List AC).length+b0.2.2.2.length<=68719476736 then (if (([]:List AC)++b0.2.2.2).length+([(x2.2.2.2.1,x2.2.2.2.2.1,x2.2.2.2.2.2,x1,(-1:Int),0,0,0,O)]:List AC).length<=68719476736 then (if 0<=(i64.wrap (x2.2.1-1)) then (if (i64.wrap (x2.2.1-1))<(b0.2.1.length:Int) then ((X4 (b0.2.1.getD (i64.wrap (x2.2.1-1)).toNat (0,0,false,false,false,false,([]:List Int),([]:List Z),0,0,0,0,(O,O,0),([]:List Int))) b0.1 x2.2.2.2.1 (i64.wrap ((((([]:List AC)++b0.2.2.2)++([(x2.2.2.2.1,x2.2.2.2.2.1,x2.2.2.2.2.2,x1,(-1:Int),0,0,0,O)]:List AC)).length:Int)-1)) x2.2.2.2.2.1 x2.2.2.2.2.2).bind fun y1=>(if (!y1.2.2.2)=true then (some (1,(b0.1,b0.2.1,b0.2.2.1,((([]:List AC)++b0.2.2.2)++([(x2.2.2.2.1,x2.2.2.2.2.1,x2.2.2.2.2.2,x1,(-1:Int),0,0,0,O)]:List AC))))) else ((GA y1.1 y1.2.1 y1.2.2.1 x1 (b0.1,b0.2.1,b0.2.2.1,((([]:List AC)++b0.2.2.2)++([(x2.2.2.2.1,x2.2.2.2.2.1,x2.2.2.2.2.2,x1,(-1:Int),0,0,0,O)]:List AC)))).bind fun y2=>(some (0,y2))))) else none) else none) else none) else none)
theorem qI:Rn aO QH:=cT LK rfl ⟨rfl,rfl⟩ (by kernel_rfl)
def kc:=cG Sb (AH EA) (AH EA) kx
def kf:=kE 0 [] [] 2 kc kx
def iU:St->Option (RT (BE.outs EA)):=lG UI [] [0,1,2,7,8] 2 (AH EA) kf
def Id (x0 x1 x2:Int) (x3:AB) (x4:U):Option (Int×AB):=iU ⟨[(0,.ptr 0 0),(1,.int .i64 x0),(2,.int .i64 x1),(7,.ptr 1 0),(8,.int .i64 x2)],[.var (AO.enc x3),.var (X.enc x4)]⟩
def Ie (x0 x1 x2:Int) (x3:AB) (x4:U):Option (Int×AB):=(if (decide (x2<=(x3.1.length:Int)))=true then (if 0<=(i64.wrap (x2-1)) then (if (i64.wrap (x2-1))<(x3.1.length:Int) then (if 0<=(0:Int) then (if 0<((x3.1.getD (i64.wrap (x2-1)).toNat ([]:List Int)).length:Int) then (if (((x3.1.getD (i64.wrap (x2-1)).toNat ([]:List Int)).getD (0:Int).toNat 0) != x1)=true then (Id x0 x1 (i64.wrap (x2+1)) x3 x4) else ((X5 x4 x3.1 x2).bind fun y1=>(if (!y1.2.2)=true then (some (1,x3)) else ((GA y1.1 y1.2.1 ([]:List AK) x0 x3).bind fun y2=>(some (0,y2)))))) else none) else none) else none) else none) else (some (1,x3)))
def Qh (x1 x2:Int) (b0:AB):Option (Int×AB):=(if 0<=(i64.wrap (x2-1)) then (if (i64.wrap (x2-1))<(b0.2.1.length:Int) then (Id x1 x2 (i64.wrap ((((b0.2.1.getD (i64.wrap (x2-1)).toNat (0,0,false,false,false,false,([]:List Int),([]:List Z),0,0,0,0,(O,O,0),([]:List Int))).2).1)+1)) b0 (b0.2.1.getD (i64.wrap (x2-1)).toNat (0,0,false,false,false,false,([]:List Int),([]:List Z),0,0,0,0,(O,O,0),([]:List Int)))) else none) else none)
theorem L9:zf Ie Id:=lS (by kernel_rfl)
theorem aP:Rn Qh QI:=cT EA rfl ⟨rfl,rfl⟩ (by kernel_rfl)
def L_:=kE 0 [] [] 4 (AH C1) kx
def Ra:St->Option (RT (BE.outs C1)):=lG Q8 [] [0,3,4,11] 4 (AH C1) L_
def iV:=kB [] [0,3,4,11] 4 Ra
def TO:=cG Q7 iV (AH C1) L_
def iW:=kB [] [0,3,4,11] 4 TO
def iX:=kE 1 [] [0,3,4,11] 4 TO L_
def Rb (x0:List AK) (x1 x2:Int) (x3:Bool) (x4:AB) (x5:U) (x6:List U) (x7:List AA) (x8:AK):Option AB:=cG Q6 iW (AH C1) iX ⟨[(0,.ptr 0 0),(3,.lst BC x0),(4,.int .i64 x1),(11,.int .i64 x2),(12,.ptr 4 0),(71,.bool x3)],[.var (AO.enc x4),.var (X.enc x5),.frz X x6,.frz AJ x7,.var (BC.enc x8)]⟩
def C8 (x0:List AK) (x1 x2:Int) (x3:AB) (x4:U) (x5:List U) (x6:List AA):Option AB:=Ra ⟨[(0,.ptr 0 0),(3,.lst BC x0),(4,.int .i64 x1),(11,.int .i64 x2)],[.var (AO.enc x3),.var (X.enc x4),.frz X x5,.frz AJ x6]⟩
def Rc (x0:List AK) (x1 x2:Int) (x3:Bool) (x4:AB) (x5:U) (x6:List U) (x7:List AA) (x8:AK):Option AB:=(if ([]:List AC).length+x4.2.2.2.length<=68719476736 then (if 0<=x8.1 then (if x8.1<((([]:List AC)++x4.2.2.2).length:Int) then (let z2:List AC:=(([]:List AC)++x4.2.2.2).set x8.1.toNat (((([]:List AC)++x4.2.2.2).getD x8.1.toNat (0,O,O,0,0,0,0,0,O)).1,(((([]:List AC)++x4.2.2.2).getD x8.1.toNat (0,O,O,0,0,0,0,0,O)).2).1,((((([]:List AC)++x4.2.2.2).getD x8.1.toNat (0,O,O,0,0,0,0,0,O)).2).2).1,(((((([]:List AC)++x4.2.2.2).getD x8.1.toNat (0,O,O,0,0,0,0,0,O)).2).2).2).1,x1,((((((([]:List AC)++x4.2.2.2).getD x8.1.toNat (0,O,O,0,0,0,0,0,O)).2).2).2).2).2); (let z3:List AC:=z2.set x8.1.toNat ((z2.getD x8.1.toNat (0,O,O,0,0,0,0,0,O)).1,((z2.getD x8.1.toNat (0,O,O,0,0,0,0,0,O)).2).1,(((z2.getD x8.1.toNat (0,O,O,0,0,0,0,0,O)).2).2).1,((((z2.getD x8.1.toNat (0,O,O,0,0,0,0,0,O)).2).2).2).1,(((((z2.getD x8.1.toNat (0,O,O,0,0,0,0,0,O)).2).2).2).2).1,x8.2.2.2.2.2,((((((z2.getD x8.1.toNat (0,O,O,0,0,0,0,0,O)).2).2).2).2).2).2); (let z4:List AC:=z3.set x8.1.toNat ((z3.getD x8.1.toNat (0,O,O,0,0,0,0,0,O)).1,((z3.getD x8.1.toNat (0,O,O,0,0,0,0,0,O)).2).1,(((z3.getD x8.1.toNat (0,O,O,0,0,0,0,0,O)).2).2).1,((((z3.getD x8.1.toNat (0,O,O,0,0,0,0,0,O)).2).2).2).1,(((((z3.getD x8.1.toNat (0,O,O,0,0,0,0,0,O)).2).2).2).2).1,((((((z3.getD x8.1.toNat (0,O,O,0,0,0,0,0,O)).2).2).2).2).2).1,x8.2.1,(((((((z3.getD x8.1.toNat (0,O,O,0,0,0,0,0,O)).2).2).2).2).2).2).2); (let z5:List AC:=z4.set x8.1.toNat ((z4.getD x8.1.toNat (0,O,O,0,0,0,0,0,O)).1,((z4.getD x8.1.toNat (0,O,O,0,0,0,0,0,O)).2).1,(((z4.getD x8.1.toNat (0,O,O,0,0,0,0,0,O)).2).2).1,((((z4.getD x8.1.toNat (0,O,O,0,0,0,0,0,O)).2).2).2).1,(((((z4.getD x8.1.toNat (0,O,O,0,0,0,0,0,O)).2).2).2).2).1,((((((z4.getD x8.1.toNat (0,O,O,0,0,0,0,0,O)).2).2).2).2).2).1,(((((((z4.getD x8.1.toNat (0,O,O,0,0,0,0,0,O)).2).2).2).2).2).2).1,x8.2.2.1,((((((((z4.getD x8.1.toNat (0,O,O,0,0,0,0,0,O)).2).2).2).2).2).2).2).2); (if (((z5.getD x8.1.toNat (0,O,O,0,0,0,0,0,O)).1)==2)=true then (let z6:List AC:=z5.set x8.1.toNat ((z5.getD x8.1.toNat (0,O,O,0,0,0,0,0,O)).1,((z5.getD x8.1.toNat (0,O,O,0,0,0,0,0,O)).2).1,(((z5.getD x8.1.toNat (0,O,O,0,0,0,0,0,O)).2).2).1,((((z5.getD x8.1.toNat (0,O,O,0,0,0,0,0,O)).2).2).2).1,(((((z5.getD x8.1.toNat (0,O,O,0,0,0,0,0,O)).2).2).2).2).1,((((((z5.getD x8.1.toNat (0,O,O,0,0,0,0,0,O)).2).2).2).2).2).1,(((((((z5.getD x8.1.toNat (0,O,O,0,0,0,0,0,O)).2).2).2).2).2).2).1,((((((((z5.getD x8.1.toNat (0,O,O,0,0,0,0,0,O)).2).2).2).2).2).2).2).1,x8.2.2.2.2.1); (C8 x0 x1 (i64.wrap (x2+1)) (x4.1,x4.2.1,x4.2.2.1,z6) x5 x6 x7)) else (C8 x0 x1 (i64.wrap (x2+1)) (x4.1,x4.2.1,x4.2.2.1,z5) x5 x6 x7)))))) else none) else none) else none)
def Kq (x0:List AK) (x1 x2:Int) (x3:AB) (x4:U) (x5:List U) (x6:List AA):Option AB:=(if (decide (x2<(x0.length:Int)))=true then (if 0<=x2 then (if x2<(x0.length:Int) then (if (decide (((x0.getD x2.toNat (0,0,0,O,O,0)).1)>=(x3.2.2.2.length:Int)))=true then (C8 x0 x1 (i64.wrap (x2+1)) x3 x4 x5 x6) else (if 0<=((x0.getD x2.toNat (0,0,0,O,O,0)).1) then (if ((x0.getD x2.toNat (0,0,0,O,O,0)).1)<(x3.2.2.2.length:Int) then (if (decide (((((((x3.2.2.2.getD ((x0.getD x2.toNat (0,0,0,O,O,0)).1).toNat (0,O,O,0,0,0,0,0,O)).2).2).2).2).1)>=0))=true then (C8 x0 x1 (i64.wrap (x2+1)) x3 x4 x5 x6) else (Rb x0 x1 x2 (decide (((((((x3.2.2.2.getD ((x0.getD x2.toNat (0,0,0,O,O,0)).1).toNat (0,O,O,0,0,0,0,0,O)).2).2).2).2).1)>=0)) x3 x4 x5 x6 (x0.getD x2.toNat (0,0,0,O,O,0)))) else none) else none)) else none) else none) else (some x3))
def Ww (x1:U) (x2:List AA) (x3:List AK) (x4:Int) (b0:AB):Option AB:=(if ([]:List U).length+b0.2.1.length<=68719476736 then (if 0<=(i64.wrap (x1.1-1)) then (if (i64.wrap (x1.1-1))<((([]:List U)++b0.2.1).length:Int) then (let z1:List U:=(([]:List U)++b0.2.1).set ((i64.wrap (x1.1-1)).toNat) x1; (if ([]:List AA).length+b0.2.2.1.length<=68719476736 then (if (([]:List AA)++b0.2.2.1).length+x2.length<=68719476736 then (C8 x3 x4 0 (b0.1,z1,((([]:List AA)++b0.2.2.1)++x2),b0.2.2.2) x1 z1 ((([]:List AA)++b0.2.2.1)++x2)) else none) else none)) else none) else none) else none)
theorem fX:Le9 Rc Rb:=jS (by kernel_rfl)
theorem Rd:Le7 Kq C8:=lS (by kernel_rfl)
theorem nP:zf Ww GA:=cT C1 rfl ⟨rfl,rfl⟩ (by kernel_rfl)
def zN (x0:U):Option U:=(some (x0.1,x0.2.1,true,false,false,false,([]:List Int),([]:List Z),0,0,0,0,(O,O,0),([]:List Int)))
theorem zO:Mk zN cv:=cT UJ rfl ⟨rfl,rfl⟩ (by kernel_rfl)
def VS (x1:Int) (x2:AY) (b0:AB):Option (Int×AB):=(if ((b0.2.2.1.length:Int)==0)=true then (some (1,b0)) else (if (b0.2.2.1.length:Int)=0 then none else (if 0<=(Int.tmod x2.2.2.1 (b0.2.2.1.length:Int)) then (if (Int.tmod x2.2.2.1 (b0.2.2.1.length:Int))<(b0.2.2.1.length:Int) then (if (x2.1==4)=true then (if ([]:List AA).length+b0.2.2.1.length<=68719476736 then (if (([]:List AA)++b0.2.2.1).length+([b0.2.2.1.getD (Int.tmod x2.2.2.1 (b0.2.2.1.length:Int)).toNat (0,0,0,0,0,([]:List Z))]:List AA).length<=68719476736 then (some (0,(b0.1,b0.2.1,((([]:List AA)++b0.2.2.1)++([b0.2.2.1.getD (Int.tmod x2.2.2.1 (b0.2.2.1.length:Int)).toNat (0,0,0,0,0,([]:List Z))]:List AA)),b0.2.2.2))) else none) else none) else (if 0<=(0:Int) then (if 0<=(Int.tmod x2.2.2.1 (b0.2.2.1.length:Int)) then (if (Int.tmod x2.2.2.1 (b0.2.2.1.length:Int))<=(b0.2.2.1.length:Int) then (if 0<=(i64.wrap ((Int.tmod x2.2.2.1 (b0.2.2.1.length:Int))+1)) then (if (i64.wrap ((Int.tmod x2.2.2.1 (b0.2.2.1.length:Int))+1))<=(b0.2.2.1.length:Int) then (if (b0.2.2.1.length:Int)<=(b0.2.2.1.length:Int) then (if ([]:List AA).length+((b0.2.2.1.take (Int.tmod x2.2.2.1 (b0.2.2.1.length:Int)).toNat).drop (0:Int).toNat).length<=68719476736 then (if (([]:List AA)++((b0.2.2.1.take (Int.tmod x2.2.2.1 (b0.2.2.1.length:Int)).toNat).drop (0:Int).toNat)).length+((b0.2.2.1.take (b0.2.2.1.length:Int).toNat).drop (i64.wrap ((Int.tmod x2.2.2.1 (b0.2.2.1.length:Int))+1)).toNat).length<=68719476736 then (if (x2.1==3)=true then (some (0,(b0.1,b0.2.1,((([]:List AA)++((b0.2.2.1.take (Int.tmod x2.2.2.1 (b0.2.2.1.length:Int)).toNat).drop (0:Int).toNat))++((b0.2.2.1.take (b0.2.2.1.length:Int).toNat).drop (i64.wrap ((Int.tmod x2.2.2.1 (b0.2.2.1.length:Int))+1)).toNat)),b0.2.2.2))) else (if 0<=(i64.wrap (((((b0.2.2.1.getD (Int.tmod x2.2.2.1 (b0.2.2.1.length:Int)).toNat (0,0,0,0,0,([]:List Z))).2).2).1)-1)) then (if (i64.wrap (((((b0.2.2.1.getD (Int.tmod x2.2.2.1 (b0.2.2.1.length:Int)).toNat (0,0,0,0,0,([]:List Z))).2).2).1)-1))<(b0.2.1.length:Int) then ((Sl (b0.2.1.getD (i64.wrap (((((b0.2.2.1.getD (Int.tmod x2.2.2.1 (b0.2.2.1.length:Int)).toNat (0,0,0,0,0,([]:List Z))).2).2).1)-1)).toNat (0,0,false,false,false,false,([]:List Int),([]:List Z),0,0,0,0,(O,O,0),([]:List Int))) b0.1 (b0.2.2.1.getD (Int.tmod x2.2.2.1 (b0.2.2.1.length:Int)).toNat (0,0,0,0,0,([]:List Z)))).bind fun y1=>((GA y1.1 y1.2.1 y1.2.2 x1 (b0.1,b0.2.1,((([]:List AA)++((b0.2.2.1.take (Int.tmod x2.2.2.1 (b0.2.2.1.length:Int)).toNat).drop (0:Int).toNat))++((b0.2.2.1.take (b0.2.2.1.length:Int).toNat).drop (i64.wrap ((Int.tmod x2.2.2.1 (b0.2.2.1.length:Int))+1)).toNat)),b0.2.2.2)).bind fun y2=>(some (0,y2)))) else none) else none)) else none) else none) else none) else none) else none) else none) else none) else none)) else none) else none)))
theorem vW:Rn VS VQ:=cT PN rfl ⟨rfl,rfl⟩ (by kernel_rfl)
def db:=cG Pg (AH Cq) (AH Cq) kx
def dd:=kE 0 [(3,0)] [3] 1 db kx
def bO:St->Option (RT (BE.outs Cq)):=lG Pf [(3,0)] [0,3,4] 1 (AH Cq) dd
def EL (x0:List AA) (x1:Int) (x2:List AA):Option (List AA):=bO ⟨[(0,.lst AJ x0),(3,.row 0),(4,.int .i64 x1)],[.rows 97 AJ x2]⟩
def I7 (x0:List AA) (x1:Int) (x2:List AA):Option (List AA):=(if (decide (x1<(x0.length:Int)))=true then (if 0<=x1 then (if x1<(x0.length:Int) then (if ([]:List Z).length+((((((x0.getD x1.toNat (0,0,0,0,0,([]:List Z))).2).2).2).2).2).length<=68719476736 then (if x2.length+([((x0.getD x1.toNat (0,0,0,0,0,([]:List Z))).1,((x0.getD x1.toNat (0,0,0,0,0,([]:List Z))).2).1,(((x0.getD x1.toNat (0,0,0,0,0,([]:List Z))).2).2).1,((((x0.getD x1.toNat (0,0,0,0,0,([]:List Z))).2).2).2).1,(((((x0.getD x1.toNat (0,0,0,0,0,([]:List Z))).2).2).2).2).1,(([]:List Z)++((((((x0.getD x1.toNat (0,0,0,0,0,([]:List Z))).2).2).2).2).2)))]:List AA).length<=68719476736 then (EL x0 (i64.wrap (x1+1)) (x2++([((x0.getD x1.toNat (0,0,0,0,0,([]:List Z))).1,((x0.getD x1.toNat (0,0,0,0,0,([]:List Z))).2).1,(((x0.getD x1.toNat (0,0,0,0,0,([]:List Z))).2).2).1,((((x0.getD x1.toNat (0,0,0,0,0,([]:List Z))).2).2).2).1,(((((x0.getD x1.toNat (0,0,0,0,0,([]:List Z))).2).2).2).2).1,(([]:List Z)++((((((x0.getD x1.toNat (0,0,0,0,0,([]:List Z))).2).2).2).2).2)))]:List AA))) else none) else none) else none) else none) else (some x2))
def TP (x0:List AA):Option (List AA):=(EL x0 0 ([]:List AA))
theorem OL:Rn I7 EL:=lS (by kernel_rfl)
theorem iY:Mk TP Ll:=cT Cq rfl ⟨rfl,rfl⟩ (by kernel_rfl)
def de (x0:U):Option U:=(if ([]:List Int).length+x0.2.2.2.2.2.2.1.length<=68719476736 then (if ([]:List Z).length+x0.2.2.2.2.2.2.2.1.length<=68719476736 then (if ([]:List Int).length+x0.2.2.2.2.2.2.2.2.2.2.2.2.2.length<=68719476736 then (some (x0.1,x0.2.1,x0.2.2.1,x0.2.2.2.1,x0.2.2.2.2.1,x0.2.2.2.2.2.1,(([]:List Int)++x0.2.2.2.2.2.2.1),(([]:List Z)++x0.2.2.2.2.2.2.2.1),x0.2.2.2.2.2.2.2.2.1,x0.2.2.2.2.2.2.2.2.2.1,x0.2.2.2.2.2.2.2.2.2.2.1,x0.2.2.2.2.2.2.2.2.2.2.2.1,x0.2.2.2.2.2.2.2.2.2.2.2.2.1,(([]:List Int)++x0.2.2.2.2.2.2.2.2.2.2.2.2.2))) else none) else none) else none)
theorem tr:Mk de Du:=cT M9 rfl ⟨rfl,rfl⟩ (by kernel_rfl)
def kg (x0:ByteArray):Option Bool:=((Ah (x0.size:Int) 1 12).bind fun y1=>(some y1))
theorem yA:Mk kg R1:=cT Rv rfl ⟨rfl,rfl⟩ (by kernel_rfl)
def Uo (x0:List (List Int)) (x1:Bool) (x2:U) (x3:AA) (x4 x5:U):Option (U×List AA×List AK):=cG WB (AH Hh) (AH Hh) kx ⟨[(1,.lst (.slice (.int .i64)) x0),(5,.ptr 1 0),(6,.ptr 2 0),(9,.ptr 3 0),(47,.bool x1)],[.var (X.enc x2),.var (AJ.enc x3),.var (X.enc x4),.var (X.enc x5)]⟩
def Up (x0:List (List Int)) (x1:Bool) (x2:U) (x3:AA) (x4 x5:U):Option (U×List AA×List AK):=((Ln x0 x3 x5).bind fun y5=>((DD y5.2.2).bind fun y6=>(some (y6,y5.1,y5.2.1))))
def df (x0:U) (x1:List (List Int)) (x2:AA):Option (U×List AA×List AK):=((DD x0).bind fun y1=>(if (x2.2.2.1 != x0.1)=false then (if (decide (x2.2.2.2.1<x0.2.1))=false then (if (decide (x2.2.2.2.1>(x1.length:Int)))=false then ((Gi x0).bind fun y2=>(if (!y2)=false then ((Dt x1).bind fun y3=>(if (!y3)=false then ((X6 x2).bind fun y4=>(if (!y4)=true then (some (y1,[],[])) else (Uo x1 (!y4) x0 x2 (0,0,false,false,false,false,([]:List Int),([]:List Z),0,0,0,0,(O,O,0),([]:List Int)) y1))) else (some (y1,[],[])))) else (some (y1,[],[])))) else (some (y1,[],[]))) else (some (y1,[],[]))) else (some (y1,[],[]))))
theorem kh:zz Up Uo:=jS (by kernel_rfl)
theorem ts:Rn df NM:=cT Hh rfl ⟨rfl,rfl⟩ (by kernel_rfl)

def Kr:=kE 0 [] [] 4 (AH Ch) kx
def Pq:St->Option (RT (BE.outs Ch)):=lG RA [] [0,3,20,21,22] 4 (AH Ch) Kr
def fY:=kB [] [0,3,20,21,22] 4 Pq
def Re:=cG Q_ fY (AH Ch) Kr
def fZ:=kB [] [0,3,20,21,22] 4 Re
def fa:=kE 1 [] [0,3,20,21,22] 4 Re Kr
def Pr (x0:Int) (x1:List AK) (x2 x3:Int) (x4:Bool) (x5:List (List Int)) (x6:List U) (x7:List AA) (x8:List AC) (x9:AK):Option AB:=cG Q9 fZ (AH Ch) fa ⟨[(0,.ptr 0 0),(3,.int .i64 x0),(9,.ptr 4 0),(20,.lst BC x1),(21,.int .i64 x2),(22,.int .i64 x3),(47,.bool x4)],[.var [.lst (.slice (.int .i64)) x5,.row 1,.row 2,.row 3],.rows 42 X x6,.rows 97 AJ x7,.rows 47 AI x8,.var (BC.enc x9)]⟩
def Cs (x0:Int) (x1:List AK) (x2 x3:Int) (x4:List (List Int)) (x5:List U) (x6:List AA) (x7:List AC):Option AB:=Pq ⟨[(0,.ptr 0 0),(3,.int .i64 x0),(20,.lst BC x1),(21,.int .i64 x2),(22,.int .i64 x3)],[.var [.lst (.slice (.int .i64)) x4,.row 1,.row 2,.row 3],.rows 42 X x5,.rows 97 AJ x6,.rows 47 AI x7]⟩
def Ps (x0:Int) (x1:List AK) (x2 x3:Int) (x4:Bool) (x5:List (List Int)) (x6:List U) (x7:List AA) (x8:List AC) (x9:AK):Option AB:=(if 0<=x9.1 then (if x9.1<(x8.length:Int) then (let z2:List AC:=x8.set x9.1.toNat ((x8.getD x9.1.toNat (0,O,O,0,0,0,0,0,O)).1,((x8.getD x9.1.toNat (0,O,O,0,0,0,0,0,O)).2).1,(((x8.getD x9.1.toNat (0,O,O,0,0,0,0,0,O)).2).2).1,((((x8.getD x9.1.toNat (0,O,O,0,0,0,0,0,O)).2).2).2).1,x0,(((((x8.getD x9.1.toNat (0,O,O,0,0,0,0,0,O)).2).2).2).2).2); (let z3:List AC:=z2.set x9.1.toNat ((z2.getD x9.1.toNat (0,O,O,0,0,0,0,0,O)).1,((z2.getD x9.1.toNat (0,O,O,0,0,0,0,0,O)).2).1,(((z2.getD x9.1.toNat (0,O,O,0,0,0,0,0,O)).2).2).1,((((z2.getD x9.1.toNat (0,O,O,0,0,0,0,0,O)).2).2).2).1,(((((z2.getD x9.1.toNat (0,O,O,0,0,0,0,0,O)).2).2).2).2).1,x9.2.2.2.2.2,((((((z2.getD x9.1.toNat (0,O,O,0,0,0,0,0,O)).2).2).2).2).2).2); (let z4:List AC:=z3.set x9.1.toNat ((z3.getD x9.1.toNat (0,O,O,0,0,0,0,0,O)).1,((z3.getD x9.1.toNat (0,O,O,0,0,0,0,0,O)).2).1,(((z3.getD x9.1.toNat (0,O,O,0,0,0,0,0,O)).2).2).1,((((z3.getD x9.1.toNat (0,O,O,0,0,0,0,0,O)).2).2).2).1,(((((z3.getD x9.1.toNat (0,O,O,0,0,0,0,0,O)).2).2).2).2).1,((((((z3.getD x9.1.toNat (0,O,O,0,0,0,0,0,O)).2).2).2).2).2).1,x9.2.1,(((((((z3.getD x9.1.toNat (0,O,O,0,0,0,0,0,O)).2).2).2).2).2).2).2); (let z5:List AC:=z4.set x9.1.toNat ((z4.getD x9.1.toNat (0,O,O,0,0,0,0,0,O)).1,((z4.getD x9.1.toNat (0,O,O,0,0,0,0,0,O)).2).1,(((z4.getD x9.1.toNat (0,O,O,0,0,0,0,0,O)).2).2).1,((((z4.getD x9.1.toNat (0,O,O,0,0,0,0,0,O)).2).2).2).1,(((((z4.getD x9.1.toNat (0,O,O,0,0,0,0,0,O)).2).2).2).2).1,((((((z4.getD x9.1.toNat (0,O,O,0,0,0,0,0,O)).2).2).2).2).2).1,(((((((z4.getD x9.1.toNat (0,O,O,0,0,0,0,0,O)).2).2).2).2).2).2).1,x9.2.2.1,((((((((z4.getD x9.1.toNat (0,O,O,0,0,0,0,0,O)).2).2).2).2).2).2).2).2); (if (((z5.getD x9.1.toNat (0,O,O,0,0,0,0,0,O)).1)==2)=true then (let z6:List AC:=z5.set x9.1.toNat ((z5.getD x9.1.toNat (0,O,O,0,0,0,0,0,O)).1,((z5.getD x9.1.toNat (0,O,O,0,0,0,0,0,O)).2).1,(((z5.getD x9.1.toNat (0,O,O,0,0,0,0,0,O)).2).2).1,((((z5.getD x9.1.toNat (0,O,O,0,0,0,0,0,O)).2).2).2).1,(((((z5.getD x9.1.toNat (0,O,O,0,0,0,0,0,O)).2).2).2).2).1,((((((z5.getD x9.1.toNat (0,O,O,0,0,0,0,0,O)).2).2).2).2).2).1,(((((((z5.getD x9.1.toNat (0,O,O,0,0,0,0,0,O)).2).2).2).2).2).2).1,((((((((z5.getD x9.1.toNat (0,O,O,0,0,0,0,0,O)).2).2).2).2).2).2).2).1,x9.2.2.2.2.1); (Cs x0 x1 x2 (i64.wrap (x3+1)) x5 x6 x7 z6)) else (Cs x0 x1 x2 (i64.wrap (x3+1)) x5 x6 x7 z5)))))) else none) else none)
def Jj (x0:Int) (x1:List AK) (x2 x3:Int) (x4:List (List Int)) (x5:List U) (x6:List AA) (x7:List AC):Option AB:=(if (decide (x3<x2))=true then (if 0<=x3 then (if x3<(x1.length:Int) then ((Ah ((x1.getD x3.toNat (0,0,0,O,O,0)).1) 0 (i64.wrap ((x7.length:Int)-1))).bind fun y1=>(if (!y1)=true then (Cs x0 x1 x2 (i64.wrap (x3+1)) x4 x5 x6 x7) else (if 0<=((x1.getD x3.toNat (0,0,0,O,O,0)).1) then (if ((x1.getD x3.toNat (0,0,0,O,O,0)).1)<(x7.length:Int) then (if (((((((x7.getD (((x1.getD x3.toNat (0,0,0,O,O,0)).1).toNat) (0,O,O,0,0,0,0,0,O)).2).2).2).2).1) != (-1:Int))=true then (Cs x0 x1 x2 (i64.wrap (x3+1)) x4 x5 x6 x7) else (Pr x0 x1 x2 x3 (((((((x7.getD (((x1.getD x3.toNat (0,0,0,O,O,0)).1).toNat) (0,O,O,0,0,0,0,0,O)).2).2).2).2).1) != (-1:Int)) x4 x5 x6 x7 (x1.getD x3.toNat (0,0,0,O,O,0)))) else none) else none))) else none) else none) else (some (x4,x5,x6,x7)))
def Uq (x1:List AA) (x2:List AK) (x3:Int) (b0:AB):Option AB:=(if b0.2.2.1.length+x1.length<=68719476736 then (Cs x3 x2 (x2.length:Int) 0 b0.1 b0.2.1 (b0.2.2.1++x1) b0.2.2.2) else none)
theorem dg:uz Ps Pr:=jS (by kernel_rfl)
theorem Pt:z_ Jj Cs:=lS (by kernel_rfl)
theorem ki:cH Uq G1:=cT Ch rfl ⟨rfl,rfl⟩ (by kernel_rfl)
def EC (x0:List AC) (x1:AC):Option Bool:=((Cr x0 x1).bind fun y1=>(some (decide (y1>=0))))
theorem Io:N7 EC CY:=cT Bf rfl ⟨rfl,rfl⟩ (by kernel_rfl)
def dh (x0 x1:AC):Option Bool:=(if (x0.1==1)=true then (if (x0.2.1.toList==x1.2.1.toList)=true then (if (x0.2.2.1.toList==x1.2.2.2.2.2.2.2.2.toList)=true then ((Eg x0).bind fun y1=>(if (!y1)=false then (some (x0.2.2.2.2.2.1==x1.2.2.2.2.2.1)) else (some true))) else (some false)) else (some false)) else (some false))
theorem tt:N7 dh Sj:=cT M_ rfl ⟨rfl,rfl⟩ (by kernel_rfl)
def VT:=cG K4 (AH Bu) (AH Bu) kx
def VU:=kE 0 [] [] 0 VT kx
def Td:St->Option (RT (BE.outs Bu)):=lG K3 [] [0,1,7,8] 0 (AH Bu) VU
def C6 (x0:List Int) (x1 x2 x3:Int):Option Int:=Td ⟨[(0,.lst (.int .i64) x0),(1,.int .i64 x1),(7,.int .i64 x2),(8,.int .i64 x3)],[]⟩
def Bp (x0:List Int) (x1 x2 x3:Int):Option Int:=(if (decide (x3<x2))=true then (if 0<=x3 then (if x3<(x0.length:Int) then (if (x1==(x0.getD x3.toNat 0))=true then (some x3) else (C6 x0 x1 x2 (i64.wrap (x3+1)))) else none) else none) else (some (-1:Int)))
def YE (x0:List Int) (x1:Int):Option Int:=(C6 x0 x1 (x0.length:Int) 0)
theorem CP:cH Bp C6:=lS (by kernel_rfl)
theorem No:N7 YE Dv:=cT Bu rfl ⟨rfl,rfl⟩ (by kernel_rfl)
def Ur (x1:List Int) (b0:AU):Option (Int×AU):=((Cu (x1.length:Int) b0).bind fun y1=>(if 0<=y1.1 then (if y1.1<(x1.length:Int) then (some ((x1.getD y1.1.toNat 0),y1.2)) else none) else none))
theorem kj:N7 Ur JI:=cT JF rfl ⟨rfl,rfl⟩ (by kernel_rfl)
def di (x1:Int) (b0:AU):Option (Bool×AU):=((Cu x1 b0).bind fun y1=>(some ((y1.1==0),y1.2)))
theorem tu:N7 di Dw:=cT NA rfl ⟨rfl,rfl⟩ (by kernel_rfl)
def dj (x1:List ByteArray) (b0:AU):Option (ByteArray×AU):=((Cu (x1.length:Int) b0).bind fun y1=>(if 0<=y1.1 then (if y1.1<(x1.length:Int) then (some ((x1.getD y1.1.toNat O),y1.2)) else none) else none))
theorem tv:N7 dj NN:=cT NB rfl ⟨rfl,rfl⟩ (by kernel_rfl)
def LV (x0:List Int) (x1 x2 x3:U) (x4:Z) (x5:List Int) (x6:AA):Option (U×List AA×List AK×Bool):=cG ca (AH Ee) (AH Ee) kx ⟨[(12,.ptr 1 0),(16,.ptr 2 0),(18,.lst (.int .i64) x0),(20,.ptr 5 0)],[.var (X.enc x1),.var (X.enc x2),.var (X.enc x3),.var (AF.enc x4),.frz (.int .i64) x5,.var (AJ.enc x6)]⟩
def Ip (x0:List (List Int)) (x1 x2:Int) (x3:Bool) (x4 x5 x6:U) (x7:Z):Option (U×List AA×List AK×Bool):=cG Y_ (AH Ee) (AH Ee) kx ⟨[(1,.lst (.slice (.int .i64)) x0),(2,.int .i64 x1),(3,.int .i64 x2),(6,.ptr 0 0),(12,.ptr 1 0),(16,.ptr 2 0),(17,.ptr 3 0),(69,.bool x3)],[.var (X.enc x4),.var (X.enc x5),.var (X.enc x6),.var (AF.enc x7)]⟩
def aQ (x0:List (List Int)) (x1 x2:Int) (x3 x4:ByteArray) (x5:Bool) (x6 x7:U):Option (U×List AA×List AK×Bool):=cG ZA (AH Ee) (AH Ee) kx ⟨[(1,.lst (.slice (.int .i64)) x0),(2,.int .i64 x1),(3,.int .i64 x2),(4,.str x3),(5,.str x4),(6,.ptr 0 0),(12,.ptr 1 0),(37,.bool x5)],[.var (X.enc x6),.var (X.enc x7)]⟩
def aR (x0:List Int) (x1 x2 x3:U) (x4:Z) (x5:List Int) (x6:AA):Option (U×List AA×List AK×Bool):=(if ((x0.length:Int)==0)=true then ((IV x3).bind fun y9=>(some (y9.2,[],y9.1,true))) else (yX ((Ap x0 x6 x3).bind fun y10=>(some (x3,y10.1,[],true))) ((Ap x0 x6 x3).bind fun y11=>(some (y11.2,y11.1,[],true)))))
def aS (x0:List (List Int)) (x1 x2:Int) (x3:Bool) (x4 x5 x6:U) (x7:Z):Option (U×List AA×List AK×Bool):=(if 0<=(i64.wrap (x4.2.1-1)) then (if (i64.wrap (x4.2.1-1))<(x0.length:Int) then ((CL (x0.getD (i64.wrap (x4.2.1-1)).toNat ([]:List Int)) x6).bind fun y6=>((Bw y6.1).bind fun y7=>((DF y7).bind fun y8=>(if (x1==1)=true then (LV y6.1 x4 x5 (y6.2.1,y6.2.2.1,y6.2.2.2.1,y6.2.2.2.2.1,y6.2.2.2.2.2.1,y6.2.2.2.2.2.2.1,y6.2.2.2.2.2.2.2.1,y6.2.2.2.2.2.2.2.2.1,y6.2.2.2.2.2.2.2.2.2.1,x1,x2,y6.2.2.2.2.2.2.2.2.2.1,x7,y8) x7 y8 (5,0,0,0,y6.2.2.2.2.2.2.2.2.2.1,([x7]:List Z))) else (LV y6.1 x4 x5 (y6.2.1,y6.2.2.1,y6.2.2.2.1,y6.2.2.2.2.1,y6.2.2.2.2.2.1,y6.2.2.2.2.2.2.1,y6.2.2.2.2.2.2.2.1,y6.2.2.2.2.2.2.2.2.1,y6.2.2.2.2.2.2.2.2.2.1,x1,x2,y6.2.2.2.2.2.2.2.2.2.1,x7,y8) x7 y8 (7,0,0,0,y6.2.2.2.2.2.2.2.2.2.1,([]:List Z))))))) else none) else none)
def aT (x0:List (List Int)) (x1 x2:Int) (x3 x4:ByteArray) (x5:Bool) (x6 x7:U):Option (U×List AA×List AK×Bool):=((DD x6).bind fun y4=>(if (x1==1)=true then (if ((x6.2.2.2.2.2.2.2.1.length:Int)==12)=true then ((PO x6.2.2.2.2.2.2.2.1 x3).bind fun y5=>(if (false != P5 AF y5 (O,O,0))=true then (some ((0,0,false,false,false,false,([]:List Int),([]:List Z),0,0,0,0,(O,O,0),([]:List Int)),[],[],false)) else (Ip x0 x1 x2 (false != P5 AF y5 (O,O,0)) x6 x7 (y4.1,y4.2.1,y4.2.2.1,y4.2.2.2.1,y4.2.2.2.2.1,y4.2.2.2.2.2.1,y4.2.2.2.2.2.2.1,y4.2.2.2.2.2.2.2.1,(i64.wrap (y4.2.2.2.2.2.2.2.2.1+1)),y4.2.2.2.2.2.2.2.2.2) (x3,x4,(i64.wrap ((i64.wrap (1000*x6.2.1))+(i64.wrap (y4.2.2.2.2.2.2.2.2.1+1)))))))) else (Ip x0 x1 x2 false x6 x7 (y4.1,y4.2.1,y4.2.2.1,y4.2.2.2.1,y4.2.2.2.2.1,y4.2.2.2.2.2.1,y4.2.2.2.2.2.2.1,y4.2.2.2.2.2.2.2.1,(i64.wrap (y4.2.2.2.2.2.2.2.2.1+1)),y4.2.2.2.2.2.2.2.2.2) (x3,x4,(i64.wrap ((i64.wrap (1000*x6.2.1))+(i64.wrap (y4.2.2.2.2.2.2.2.2.1+1))))))) else (Ip x0 x1 x2 false x6 x7 (y4.1,y4.2.1,y4.2.2.1,y4.2.2.2.1,y4.2.2.2.2.1,y4.2.2.2.2.2.1,y4.2.2.2.2.2.2.1,y4.2.2.2.2.2.2.2.1,(i64.wrap (y4.2.2.2.2.2.2.2.2.1+1)),y4.2.2.2.2.2.2.2.2.2) (x3,x4,(i64.wrap ((i64.wrap (1000*x6.2.1))+(i64.wrap (y4.2.2.2.2.2.2.2.2.1+1))))))))
def km (x0:U) (x1:List (List Int)) (x2 x3:Int) (x4 x5:ByteArray):Option (U×List AA×List AK×Bool):=((Gi x0).bind fun y1=>(if (!y1)=false then ((IU x1 x0).bind fun y2=>(if (!y2.1)=false then ((NL x2 x3 x4 x5).bind fun y3=>(if (!y3)=true then (some ((0,0,false,false,false,false,([]:List Int),([]:List Z),0,0,0,0,(O,O,0),([]:List Int)),[],[],false)) else (aQ x1 x2 x3 x4 x5 (!y3) y2.2 (0,0,false,false,false,false,([]:List Int),([]:List Z),0,0,0,0,(O,O,0),([]:List Int))))) else (some ((0,0,false,false,false,false,([]:List Int),([]:List Z),0,0,0,0,(O,O,0),([]:List Int)),[],[],false)))) else (some ((0,0,false,false,false,false,([]:List Int),([]:List Z),0,0,0,0,(O,O,0),([]:List Int)),[],[],false))))
theorem qJ:Le7 aR LV:=jS (by kernel_rfl)
theorem qK:z_ aS Ip:=jS (by kernel_rfl)
theorem qL:z_ aT aQ:=jS (by kernel_rfl)
theorem yB:zz km R2:=cT Ee rfl ⟨rfl,rfl⟩ (by kernel_rfl)
def LW (x0:List (List Int)) (x1:Int) (x2:Bool) (x3 x4 x5:U):Option (U×List AA×Bool):=cG ZG (AH G0) (AH G0) kx ⟨[(1,.lst (.slice (.int .i64)) x0),(2,.int .i64 x1),(6,.ptr 1 0),(9,.ptr 2 0),(10,.bool x2)],[.var (X.enc x3),.var (X.enc x4),.var (X.enc x5)]⟩
def aU (x0:List (List Int)) (x1:Int) (x2:Bool) (x3 x4:U):Option (U×List AA×Bool):=cG ZH (AH G0) (AH G0) kx ⟨[(1,.lst (.slice (.int .i64)) x0),(2,.int .i64 x1),(3,.ptr 0 0),(6,.ptr 1 0),(44,.bool x2)],[.var (X.enc x3),.var (X.enc x4)]⟩
def aV (x0:List (List Int)) (x1:Int) (x2:Bool) (x3 x4 x5:U):Option (U×List AA×Bool):=((G2 x5).bind fun y5=>(if x2=true then (if 0<=(i64.wrap (x1-1)) then (if (i64.wrap (x1-1))<(x0.length:Int) then ((Dx (x0.getD (i64.wrap (x1-1)).toNat ([]:List Int)) y5.2.2.2.2.2.2.2.1 (y5.1,x1,false,false,true,y5.2.2.2.2.2)).bind fun y6=>(some (y6.2,y6.1,true))) else none) else none) else (if 0<=(i64.wrap (x1-2)) then (if (i64.wrap (x1-2))<(x0.length:Int) then (yX ((CL (x0.getD (i64.wrap (x1-2)).toNat ([]:List Int)) (y5.1,x1,false,false,true,y5.2.2.2.2.2)).bind fun y7=>((Ap y7.1 (1,0,0,0,0,([]:List Z)) y7.2).bind fun y8=>(some ((y5.1,x1,false,false,true,y5.2.2.2.2.2),y8.1,true)))) ((CL (x0.getD (i64.wrap (x1-2)).toNat ([]:List Int)) (y5.1,x1,false,false,true,y5.2.2.2.2.2)).bind fun y9=>(yX ((Ap y9.1 (1,0,0,0,0,([]:List Z)) y9.2).bind fun y10=>(some (y9.2,y10.1,true))) ((Ap y9.1 (1,0,0,0,0,([]:List Z)) y9.2).bind fun y11=>(some (y11.2,y11.1,true)))))) else none) else none)))
def aW (x0:List (List Int)) (x1:Int) (x2:Bool) (x3 x4:U):Option (U×List AA×Bool):=((DD x3).bind fun y4=>(if x3.2.2.2.1=true then (LW x0 x1 (x3.2.1==(i64.wrap (x1-1))) x3 x4 y4) else (LW x0 x1 false x3 x4 y4)))
def ko (x0:U) (x1:List (List Int)) (x2:Int):Option (U×List AA×Bool):=((Gi x0).bind fun y1=>(if (!y1)=true then (some ((0,0,false,false,false,false,([]:List Int),([]:List Z),0,0,0,0,(O,O,0),([]:List Int)),[],false)) else ((Dt x1).bind fun y2=>(if (!y2)=true then (some ((0,0,false,false,false,false,([]:List Int),([]:List Z),0,0,0,0,(O,O,0),([]:List Int)),[],false)) else ((Ah x2 2 (x1.length:Int)).bind fun y3=>(if (!y3)=true then (some ((0,0,false,false,false,false,([]:List Int),([]:List Z),0,0,0,0,(O,O,0),([]:List Int)),[],false)) else (if (decide (x2<=x0.2.1))=true then (some ((0,0,false,false,false,false,([]:List Int),([]:List Z),0,0,0,0,(O,O,0),([]:List Int)),[],false)) else (if 0<=(i64.wrap (x2-1)) then (if (i64.wrap (x2-1))<(x1.length:Int) then (if 0<=(0:Int) then (if 0<((x1.getD (i64.wrap (x2-1)).toNat ([]:List Int)).length:Int) then (if (((x1.getD (i64.wrap (x2-1)).toNat ([]:List Int)).getD (0:Int).toNat 0) != x0.1)=true then (some ((0,0,false,false,false,false,([]:List Int),([]:List Z),0,0,0,0,(O,O,0),([]:List Int)),[],false)) else (aU x1 x2 (((x1.getD (i64.wrap (x2-1)).toNat ([]:List Int)).getD (0:Int).toNat 0) != x0.1) x0 (0,0,false,false,false,false,([]:List Int),([]:List Z),0,0,0,0,(O,O,0),([]:List Int)))) else none) else none) else none) else none))))))))
theorem qM:zz aV LW:=jS (by kernel_rfl)
theorem qN:zf aW aU:=jS (by kernel_rfl)
theorem yC:Rn ko R3:=cT G0 rfl ⟨rfl,rfl⟩ (by kernel_rfl)
def Hs:=cG Da (AH Ac) (AH Ac) kx
def Ht:=kE 0 [] [] 0 Hs kx
def HQ:St->Option (RT (BE.outs Ac)):=lG DZ [] [0,1,7,8] 0 (AH Ac) Ht
def BS (x0:List U) (x1 x2 x3:Int):Option Int:=HQ ⟨[(0,.lst X x0),(1,.clo 103 (.int .i64) x1),(7,.int .i64 x2),(8,.int .i64 x3)],[]⟩
def B1 (x0:List U) (x1 x2 x3:Int):Option Int:=(if (decide (x3<x2))=true then (if 0<=x3 then (if x3<(x0.length:Int) then ((I2 (x0.getD x3.toNat (0,0,false,false,false,false,([]:List Int),([]:List Z),0,0,0,0,(O,O,0),([]:List Int))) x1).bind fun y1=>(if y1=true then (some x3) else (BS x0 x1 x2 (i64.wrap (x3+1))))) else none) else none) else (some (-1:Int)))
def D1 (x0:List U) (x1:Int):Option Int:=(BS x0 x1 (x0.length:Int) 0)
theorem DQ:cH B1 BS:=lS (by kernel_rfl)
theorem If:N7 D1 CT:=cT Ac rfl ⟨rfl,rfl⟩ (by kernel_rfl)
def OM (x0:U) (x1:Int):Option Bool:=(some (x0.1==x1))
theorem bP:N7 OM I2:=cT GV rfl ⟨rfl,rfl⟩ (by kernel_rfl)
def nQ:=cG WD (AH Es) (AH Es) kx
def nR:=kE 0 [] [] 0 nQ kx
def kq:St->Option (RT (BE.outs Es)):=lG WC [] [0,3] 0 (AH Es) nR
def JR (x0:List Int) (x1:Int):Option Bool:=kq ⟨[(0,.lst (.int .i64) x0),(3,.int .i64 x1)],[]⟩
def Np (x0:List Int) (x1:Int):Option Bool:=(if (decide (x1<(x0.length:Int)))=true then (if 0<=x1 then (if x1<(x0.length:Int) then ((AX (x0.getD x1.toNat 0) 1 6).bind fun y2=>(if (!y2)=true then (some false) else (if 0<=(0:Int) then (if 0<=x1 then (if x1<=(x0.length:Int) then (if 0<=x1 then (if x1<(x0.length:Int) then ((Ds ((x0.take x1.toNat).drop (0:Int).toNat) (x0.getD x1.toNat 0)).bind fun y3=>(if y3=true then (some false) else (JR x0 (i64.wrap (x1+1))))) else none) else none) else none) else none) else none))) else none) else none) else (some true))
def dl (x0:List Int):Option Bool:=((AX (x0.length:Int) 1 4).bind fun y1=>(if (!y1)=true then (some false) else (JR x0 0)))
theorem Us:N7 Np JR:=lS (by kernel_rfl)
theorem tx:Mk dl Sk:=cT Es rfl ⟨rfl,rfl⟩ (by kernel_rfl)
def dp:=cG WF (AH B5) (AH B5) kx
def tz:=kE 0 [(16,2)] [12,16,17,18] 6 dp kx
def qO:St->Option (RT (BE.outs B5)):=lG Oe [(16,2)] [2,6,12,16,17,18,19,20,21] 6 (AH B5) tz
def t8:=kE 0 [(16,2)] [12,16,17,18] 5 dp kx
def qP:St->Option (RT (BE.outs B5)):=lG Oe [(16,2)] [2,6,12,16,17,18,19,20,21] 5 (AH B5) t8
def FJ (x0:Int) (x1:List AK) (x2:List Int) (x3:Int) (x4 x5:U) (x6:List AA) (x7:U) (x8:Z) (x9:List Z):Option (U×List AA×List AK×Bool):=qO ⟨[(2,.int .i64 x0),(6,.ptr 0 0),(12,.ptr 1 0),(16,.row 2),(17,.lst BC x1),(18,.ptr 3 0),(19,.ptr 4 0),(20,.lst (.int .i64) x2),(21,.int .i64 x3)],[.var (X.enc x4),.var (X.enc x5),.rows 97 AJ x6,.var (X.enc x7),.var (AF.enc x8),.rows 38 AF x9]⟩
def Qi (x0:List (List Int)) (x1 x2:Int) (x3:List AK) (x4:Bool) (x5 x6:U) (x7:List AA) (x8:U) (x9:Z) (x10:List Z):Option (U×List AA×List AK×Bool):=cG Of (AH B5) (AH B5) kx ⟨[(1,.lst (.slice (.int .i64)) x0),(2,.int .i64 x1),(3,.int .i64 x2),(6,.ptr 0 0),(12,.ptr 1 0),(16,.row 2),(17,.lst BC x3),(18,.ptr 3 0),(19,.ptr 4 0),(130,.bool x4)],[.var (X.enc x5),.var (X.enc x6),.rows 97 AJ x7,.var (X.enc x8),.var (AF.enc x9),.rows 38 AF x10]⟩
def FK (x0:Int) (x1:List AK) (x2:List Int) (x3:Int) (x4 x5:U) (x6:List AA) (x7:U) (x8:Z):Option (U×List AA×List AK×Bool):=qP ⟨[(2,.int .i64 x0),(6,.ptr 0 0),(12,.ptr 1 0),(16,.row 2),(17,.lst BC x1),(18,.ptr 3 0),(19,.ptr 4 0),(20,.lst (.int .i64) x2),(21,.int .i64 x3)],[.var (X.enc x4),.var (X.enc x5),.rows 97 AJ x6,.var (X.enc x7),.var (AF.enc x8)]⟩
def Qj (x0:List (List Int)) (x1 x2:Int) (x3:List AK) (x4:Bool) (x5 x6:U) (x7:List AA) (x8:U) (x9:Z):Option (U×List AA×List AK×Bool):=cG Of (AH B5) (AH B5) kx ⟨[(1,.lst (.slice (.int .i64)) x0),(2,.int .i64 x1),(3,.int .i64 x2),(6,.ptr 0 0),(12,.ptr 1 0),(16,.row 2),(17,.lst BC x3),(18,.ptr 3 0),(19,.ptr 4 0),(130,.bool x4)],[.var (X.enc x5),.var (X.enc x6),.rows 97 AJ x7,.var (X.enc x8),.var (AF.enc x9)]⟩
def DO (x0:List (List Int)) (x1 x2:Int) (x3 x4:ByteArray) (x5:List AK) (x6:Bool) (x7 x8:U) (x9:List AA):Option (U×List AA×List AK×Bool):=cG WG (AH B5) (AH B5) kx ⟨[(1,.lst (.slice (.int .i64)) x0),(2,.int .i64 x1),(3,.int .i64 x2),(4,.str x3),(5,.str x4),(6,.ptr 0 0),(12,.ptr 1 0),(16,.row 2),(17,.lst BC x5),(100,.bool x6)],[.var (X.enc x7),.var (X.enc x8),.rows 97 AJ x9]⟩
def Qk (x0:Int) (x1:List AK) (x2:List Int) (x3:Int) (x4 x5:U) (x6:List AA) (x7:U) (x8:Z) (x9:List Z):Option (U×List AA×List AK×Bool):=(if (decide (x3<(x2.length:Int)))=true then (if 0<=x3 then (if x3<(x2.length:Int) then (if ((x2.getD x3.toNat 0)==x4.1)=true then (FJ x0 x1 x2 (i64.wrap (x3+1)) x4 x5 x6 x7 x8 x9) else (if 0<=x3 then (if x3<(x2.length:Int) then (if (x0==1)=true then (if x6.length+([(5,x4.1,(x2.getD x3.toNat 0),x4.2.1,x7.2.2.2.2.2.2.2.2.1,([x8]:List Z))]:List AA).length<=68719476736 then (FJ x0 x1 x2 (i64.wrap (x3+1)) x4 x5 (x6++([(5,x4.1,(x2.getD x3.toNat 0),x4.2.1,x7.2.2.2.2.2.2.2.2.1,([x8]:List Z))]:List AA)) x7 x8 x9) else none) else (if x6.length+([(7,x4.1,(x2.getD x3.toNat 0),x4.2.1,x7.2.2.2.2.2.2.2.2.1,([]:List Z))]:List AA).length<=68719476736 then (FJ x0 x1 x2 (i64.wrap (x3+1)) x4 x5 (x6++([(7,x4.1,(x2.getD x3.toNat 0),x4.2.1,x7.2.2.2.2.2.2.2.2.1,([]:List Z))]:List AA)) x7 x8 x9) else none)) else none) else none)) else none) else none) else (some (x7,x6,x1,true)))
def aX (x0:List (List Int)) (x1 x2:Int) (x3:List AK) (x4:Bool) (x5 x6:U) (x7:List AA) (x8:U) (x9:Z) (x10:List Z):Option (U×List AA×List AK×Bool):=(if 0<=(i64.wrap (x5.2.1-1)) then (if (i64.wrap (x5.2.1-1))<(x0.length:Int) then ((Ho (x0.getD (i64.wrap (x5.2.1-1)).toNat ([]:List Int)) x5.1).bind fun y8=>(if ((y8.length:Int)==0)=true then ((Hp (x8.1,x8.2.1,x8.2.2.1,x8.2.2.2.1,x8.2.2.2.2.1,x8.2.2.2.2.2.1,x8.2.2.2.2.2.2.1,x8.2.2.2.2.2.2.2.1,x8.2.2.2.2.2.2.2.2.1,x1,x2,x8.2.2.2.2.2.2.2.2.1,x9,y8)).bind fun y9=>(some (y9.2,x7,y9.1,true))) else (FJ x1 x3 (x0.getD (i64.wrap (x5.2.1-1)).toNat ([]:List Int)) 0 x5 x6 x7 (x8.1,x8.2.1,x8.2.2.1,x8.2.2.2.1,x8.2.2.2.2.1,x8.2.2.2.2.2.1,x8.2.2.2.2.2.2.1,x8.2.2.2.2.2.2.2.1,x8.2.2.2.2.2.2.2.2.1,x1,x2,x8.2.2.2.2.2.2.2.2.1,x9,y8) x9 x10))) else none) else none)
def Ql (x0:Int) (x1:List AK) (x2:List Int) (x3:Int) (x4 x5:U) (x6:List AA) (x7:U) (x8:Z):Option (U×List AA×List AK×Bool):=(if (decide (x3<(x2.length:Int)))=true then (if 0<=x3 then (if x3<(x2.length:Int) then (if ((x2.getD x3.toNat 0)==x4.1)=true then (FK x0 x1 x2 (i64.wrap (x3+1)) x4 x5 x6 x7 x8) else (if 0<=x3 then (if x3<(x2.length:Int) then (if (x0==1)=true then (if x6.length+([(5,x4.1,(x2.getD x3.toNat 0),x4.2.1,x7.2.2.2.2.2.2.2.2.1,([x8]:List Z))]:List AA).length<=68719476736 then (FK x0 x1 x2 (i64.wrap (x3+1)) x4 x5 (x6++([(5,x4.1,(x2.getD x3.toNat 0),x4.2.1,x7.2.2.2.2.2.2.2.2.1,([x8]:List Z))]:List AA)) x7 x8) else none) else (if x6.length+([(7,x4.1,(x2.getD x3.toNat 0),x4.2.1,x7.2.2.2.2.2.2.2.2.1,([]:List Z))]:List AA).length<=68719476736 then (FK x0 x1 x2 (i64.wrap (x3+1)) x4 x5 (x6++([(7,x4.1,(x2.getD x3.toNat 0),x4.2.1,x7.2.2.2.2.2.2.2.2.1,([]:List Z))]:List AA)) x7 x8) else none)) else none) else none)) else none) else none) else (some (x7,x6,x1,true)))
def aY (x0:List (List Int)) (x1 x2:Int) (x3:List AK) (x4:Bool) (x5 x6:U) (x7:List AA) (x8:U) (x9:Z):Option (U×List AA×List AK×Bool):=(if 0<=(i64.wrap (x5.2.1-1)) then (if (i64.wrap (x5.2.1-1))<(x0.length:Int) then ((Ho (x0.getD (i64.wrap (x5.2.1-1)).toNat ([]:List Int)) x5.1).bind fun y10=>(if ((y10.length:Int)==0)=true then ((Hp (x8.1,x8.2.1,x8.2.2.1,x8.2.2.2.1,x8.2.2.2.2.1,x8.2.2.2.2.2.1,x8.2.2.2.2.2.2.1,x8.2.2.2.2.2.2.2.1,x8.2.2.2.2.2.2.2.2.1,x1,x2,x8.2.2.2.2.2.2.2.2.1,x9,y10)).bind fun y11=>(some (y11.2,x7,y11.1,true))) else (FK x1 x3 (x0.getD (i64.wrap (x5.2.1-1)).toNat ([]:List Int)) 0 x5 x6 x7 (x8.1,x8.2.1,x8.2.2.1,x8.2.2.2.1,x8.2.2.2.2.1,x8.2.2.2.2.2.1,x8.2.2.2.2.2.2.1,x8.2.2.2.2.2.2.2.1,x8.2.2.2.2.2.2.2.2.1,x1,x2,x8.2.2.2.2.2.2.2.2.1,x9,y10) x9))) else none) else none)
def aZ (x0:List (List Int)) (x1 x2:Int) (x3 x4:ByteArray) (x5:List AK) (x6:Bool) (x7 x8:U) (x9:List AA):Option (U×List AA×List AK×Bool):=((Du x7).bind fun y5=>(if (x1==1)=true then ((Ji x7.2.2.2.2.2.2.2.1 (x3,x4,(i64.wrap ((i64.wrap (1000*x7.2.1))+(i64.wrap (x7.2.2.2.2.2.2.2.2.1+1)))))).bind fun y6=>((PP y6 x3).bind fun y7=>(if (true != P5 AF y7 (x3,x4,(i64.wrap ((i64.wrap (1000*x7.2.1))+(i64.wrap (x7.2.2.2.2.2.2.2.2.1+1))))))=true then (some ((0,0,false,false,false,false,([]:List Int),([]:List Z),0,0,0,0,(O,O,0),([]:List Int)),x9,x5,false)) else (Qi x0 x1 x2 x5 (true != P5 AF y7 (x3,x4,(i64.wrap ((i64.wrap (1000*x7.2.1))+(i64.wrap (x7.2.2.2.2.2.2.2.2.1+1)))))) x7 x8 x9 (y5.1,y5.2.1,y5.2.2.1,y5.2.2.2.1,y5.2.2.2.2.1,y5.2.2.2.2.2.1,y5.2.2.2.2.2.2.1,y5.2.2.2.2.2.2.2.1,(i64.wrap (x7.2.2.2.2.2.2.2.2.1+1)),y5.2.2.2.2.2.2.2.2.2) (x3,x4,(i64.wrap ((i64.wrap (1000*x7.2.1))+(i64.wrap (x7.2.2.2.2.2.2.2.2.1+1))))) y6)))) else (Qj x0 x1 x2 x5 false x7 x8 x9 (y5.1,y5.2.1,y5.2.2.1,y5.2.2.2.1,y5.2.2.2.2.1,y5.2.2.2.2.2.1,y5.2.2.2.2.2.2.1,y5.2.2.2.2.2.2.2.1,(i64.wrap (x7.2.2.2.2.2.2.2.2.1+1)),y5.2.2.2.2.2.2.2.2.2) (x3,x4,(i64.wrap ((i64.wrap (1000*x7.2.1))+(i64.wrap (x7.2.2.2.2.2.2.2.2.1+1))))))))
def ku (x0:U) (x1:List (List Int)) (x2 x3:Int) (x4 x5:ByteArray):Option (U×List AA×List AK×Bool):=((Gj x0).bind fun y1=>(if (!y1)=true then (some ((0,0,false,false,false,false,([]:List Int),([]:List Z),0,0,0,0,(O,O,0),([]:List Int)),([]:List AA),([]:List AK),false)) else ((Ex x1).bind fun y2=>(if (!y2)=true then (some ((0,0,false,false,false,false,([]:List Int),([]:List Z),0,0,0,0,(O,O,0),([]:List Int)),([]:List AA),([]:List AK),false)) else (if (!x0.2.2.2.2.2.1)=true then (some ((0,0,false,false,false,false,([]:List Int),([]:List Z),0,0,0,0,(O,O,0),([]:List Int)),([]:List AA),([]:List AK),false)) else (if (x0.2.2.2.2.2.2.2.2.2.1 != 0)=true then (some ((0,0,false,false,false,false,([]:List Int),([]:List Z),0,0,0,0,(O,O,0),([]:List Int)),([]:List AA),([]:List AK),false)) else (if (decide (x0.2.2.2.2.2.2.2.2.1>=900))=true then (some ((0,0,false,false,false,false,([]:List Int),([]:List Z),0,0,0,0,(O,O,0),([]:List Int)),([]:List AA),([]:List AK),false)) else (if (x2 != 1)=true then (if (x2 != 2)=true then (some ((0,0,false,false,false,false,([]:List Int),([]:List Z),0,0,0,0,(O,O,0),([]:List Int)),([]:List AA),([]:List AK),false)) else ((AX x3 0 1000).bind fun y3=>(if (!y3)=true then (some ((0,0,false,false,false,false,([]:List Int),([]:List Z),0,0,0,0,(O,O,0),([]:List Int)),([]:List AA),([]:List AK),false)) else ((AX (x4.size:Int) 1 12).bind fun y4=>(if (!y4)=true then (some ((0,0,false,false,false,false,([]:List Int),([]:List Z),0,0,0,0,(O,O,0),([]:List Int)),([]:List AA),([]:List AK),false)) else (if (decide ((x5.size:Int)>20))=true then (some ((0,0,false,false,false,false,([]:List Int),([]:List Z),0,0,0,0,(O,O,0),([]:List Int)),([]:List AA),([]:List AK),false)) else (if (x2==2)=true then (if (!(x5.toList==(⟨#[]⟩:ByteArray).toList))=true then (some ((0,0,false,false,false,false,([]:List Int),([]:List Z),0,0,0,0,(O,O,0),([]:List Int)),([]:List AA),([]:List AK),false)) else (if (decide (x0.2.1>(x1.length:Int)))=true then (some ((0,0,false,false,false,false,([]:List Int),([]:List Z),0,0,0,0,(O,O,0),([]:List Int)),([]:List AA),([]:List AK),false)) else (if 0<=(i64.wrap (x0.2.1-1)) then (if (i64.wrap (x0.2.1-1))<(x1.length:Int) then (if 0<=(0:Int) then (if 0<((x1.getD (i64.wrap (x0.2.1-1)).toNat ([]:List Int)).length:Int) then (if (((x1.getD (i64.wrap (x0.2.1-1)).toNat ([]:List Int)).getD (0:Int).toNat 0) != x0.1)=true then (some ((0,0,false,false,false,false,([]:List Int),([]:List Z),0,0,0,0,(O,O,0),([]:List Int)),([]:List AA),([]:List AK),false)) else (DO x1 x2 x3 x4 x5 ([]:List AK) (((x1.getD (i64.wrap (x0.2.1-1)).toNat ([]:List Int)).getD (0:Int).toNat 0) != x0.1) x0 (0,0,false,false,false,false,([]:List Int),([]:List Z),0,0,0,0,(O,O,0),([]:List Int)) ([]:List AA))) else none) else none) else none) else none))) else (if (decide (x0.2.1>(x1.length:Int)))=true then (some ((0,0,false,false,false,false,([]:List Int),([]:List Z),0,0,0,0,(O,O,0),([]:List Int)),([]:List AA),([]:List AK),false)) else (if 0<=(i64.wrap (x0.2.1-1)) then (if (i64.wrap (x0.2.1-1))<(x1.length:Int) then (if 0<=(0:Int) then (if 0<((x1.getD (i64.wrap (x0.2.1-1)).toNat ([]:List Int)).length:Int) then (if (((x1.getD (i64.wrap (x0.2.1-1)).toNat ([]:List Int)).getD (0:Int).toNat 0) != x0.1)=true then (some ((0,0,false,false,false,false,([]:List Int),([]:List Z),0,0,0,0,(O,O,0),([]:List Int)),([]:List AA),([]:List AK),false)) else (DO x1 x2 x3 x4 x5 ([]:List AK) (((x1.getD (i64.wrap (x0.2.1-1)).toNat ([]:List Int)).getD (0:Int).toNat 0) != x0.1) x0 (0,0,false,false,false,false,([]:List Int),([]:List Z),0,0,0,0,(O,O,0),([]:List Int)) ([]:List AA))) else none) else none) else none) else none))))))))) else ((AX x3 0 1000).bind fun y12=>(if (!y12)=true then (some ((0,0,false,false,false,false,([]:List Int),([]:List Z),0,0,0,0,(O,O,0),([]:List Int)),([]:List AA),([]:List AK),false)) else ((AX (x4.size:Int) 1 12).bind fun y13=>(if (!y13)=true then (some ((0,0,false,false,false,false,([]:List Int),([]:List Z),0,0,0,0,(O,O,0),([]:List Int)),([]:List AA),([]:List AK),false)) else (if (decide ((x5.size:Int)>20))=true then (some ((0,0,false,false,false,false,([]:List Int),([]:List Z),0,0,0,0,(O,O,0),([]:List Int)),([]:List AA),([]:List AK),false)) else (if (x2==2)=true then (if (!(x5.toList==(⟨#[]⟩:ByteArray).toList))=true then (some ((0,0,false,false,false,false,([]:List Int),([]:List Z),0,0,0,0,(O,O,0),([]:List Int)),([]:List AA),([]:List AK),false)) else (if (decide (x0.2.1>(x1.length:Int)))=true then (some ((0,0,false,false,false,false,([]:List Int),([]:List Z),0,0,0,0,(O,O,0),([]:List Int)),([]:List AA),([]:List AK),false)) else (if 0<=(i64.wrap (x0.2.1-1)) then (if (i64.wrap (x0.2.1-1))<(x1.length:Int) then (if 0<=(0:Int) then (if 0<((x1.getD (i64.wrap (x0.2.1-1)).toNat ([]:List Int)).length:Int) then (if (((x1.getD (i64.wrap (x0.2.1-1)).toNat ([]:List Int)).getD (0:Int).toNat 0) != x0.1)=true then (some ((0,0,false,false,false,false,([]:List Int),([]:List Z),0,0,0,0,(O,O,0),([]:List Int)),([]:List AA),([]:List AK),false)) else (DO x1 x2 x3 x4 x5 ([]:List AK) (((x1.getD (i64.wrap (x0.2.1-1)).toNat ([]:List Int)).getD (0:Int).toNat 0) != x0.1) x0 (0,0,false,false,false,false,([]:List Int),([]:List Z),0,0,0,0,(O,O,0),([]:List Int)) ([]:List AA))) else none) else none) else none) else none))) else (if (decide (x0.2.1>(x1.length:Int)))=true then (some ((0,0,false,false,false,false,([]:List Int),([]:List Z),0,0,0,0,(O,O,0),([]:List Int)),([]:List AA),([]:List AK),false)) else (if 0<=(i64.wrap (x0.2.1-1)) then (if (i64.wrap (x0.2.1-1))<(x1.length:Int) then (if 0<=(0:Int) then (if 0<((x1.getD (i64.wrap (x0.2.1-1)).toNat ([]:List Int)).length:Int) then (if (((x1.getD (i64.wrap (x0.2.1-1)).toNat ([]:List Int)).getD (0:Int).toNat 0) != x0.1)=true then (some ((0,0,false,false,false,false,([]:List Int),([]:List Z),0,0,0,0,(O,O,0),([]:List Int)),([]:List AA),([]:List AK),false)) else (DO x1 x2 x3 x4 x5 ([]:List AK) (((x1.getD (i64.wrap (x0.2.1-1)).toNat ([]:List Int)).getD (0:Int).toNat 0) != x0.1) x0 (0,0,false,false,false,false,([]:List Int),([]:List Z),0,0,0,0,(O,O,0),([]:List Int)) ([]:List AA))) else none) else none) else none) else none))))))))))))))))
theorem aa:uz Qk FJ:=lS (by kernel_rfl)
theorem qQ:AEd aX Qi:=jS (by kernel_rfl)
theorem ae:Le9 Ql FK:=lS (by kernel_rfl)
theorem qR:uz aY Qj:=jS (by kernel_rfl)
theorem qS:uz aZ DO:=jS (by kernel_rfl)
theorem yD:zz ku X4:=cT B5 rfl ⟨rfl,rfl⟩ (by kernel_rfl)
def t_:=cG ZW (AH DL) (AH DL) kx
def uA:=kE 0 [(9,2)] [6,9,11] 5 t_ kx
def qT:St->Option (RT (BE.outs DL)):=lG ZV [(9,2)] [1,2,3,6,9,11,13] 5 (AH DL) uA
def Gn (x0:List (List Int)) (x1 x2:Int) (x3 x4:U) (x5:List AA) (x6:List Z) (x7:U):Option (U×List AA×Bool):=qT ⟨[(1,.lst (.slice (.int .i64)) x0),(2,.int .i64 x1),(3,.ptr 0 0),(6,.ptr 1 0),(9,.row 2),(11,.ptr 4 0),(13,.int .i64 x2)],[.var (X.enc x3),.var (X.enc x4),.rows 97 AJ x5,.frz AF x6,.var (X.enc x7)]⟩
def Iq (x0:List (List Int)) (x1:Int) (x2:Bool) (x3 x4:U) (x5:List AA):Option (U×List AA×Bool):=cG ZX (AH DL) (AH DL) kx ⟨[(1,.lst (.slice (.int .i64)) x0),(2,.int .i64 x1),(3,.ptr 0 0),(6,.ptr 1 0),(9,.row 2),(10,.bool x2)],[.var (X.enc x3),.var (X.enc x4),.rows 97 AJ x5]⟩
def af (x0:List (List Int)) (x1:Int) (x2:Bool) (x3 x4:U) (x5:List AA):Option (U×List AA×Bool):=cG ZY (AH DL) (AH DL) kx ⟨[(1,.lst (.slice (.int .i64)) x0),(2,.int .i64 x1),(3,.ptr 0 0),(6,.ptr 1 0),(9,.row 2),(48,.bool x2)],[.var (X.enc x3),.var (X.enc x4),.rows 97 AJ x5]⟩
def Qm (x0:List (List Int)) (x1 x2:Int) (x3 x4:U) (x5:List AA) (x6:List Z) (x7:U):Option (U×List AA×Bool):=(if 0<=(i64.wrap (x1-2)) then (if (i64.wrap (x1-2))<(x0.length:Int) then (if (decide (x2<((x0.getD (i64.wrap (x1-2)).toNat ([]:List Int)).length:Int)))=true then (if 0<=(i64.wrap (x1-2)) then (if (i64.wrap (x1-2))<(x0.length:Int) then (if 0<=x2 then (if x2<((x0.getD (i64.wrap (x1-2)).toNat ([]:List Int)).length:Int) then (if (((x0.getD (i64.wrap (x1-2)).toNat ([]:List Int)).getD x2.toNat 0) != x3.1)=true then (if x5.length+([(1,x3.1,((x0.getD (i64.wrap (x1-2)).toNat ([]:List Int)).getD x2.toNat 0),x1,0,([]:List Z))]:List AA).length<=68719476736 then (Gn x0 x1 (i64.wrap (x2+1)) x3 x4 (x5++([(1,x3.1,((x0.getD (i64.wrap (x1-2)).toNat ([]:List Int)).getD x2.toNat 0),x1,0,([]:List Z))]:List AA)) x6 x7) else none) else (Gn x0 x1 (i64.wrap (x2+1)) x3 x4 x5 x6 x7)) else none) else none) else none) else none) else ((Du x7).bind fun y7=>(some (y7,x5,true)))) else none) else none)
def ag (x0:List (List Int)) (x1:Int) (x2:Bool) (x3 x4:U) (x5:List AA):Option (U×List AA×Bool):=(if ([]:List Z).length+x3.2.2.2.2.2.2.2.1.length<=68719476736 then (if x2=true then (if 0<=(i64.wrap (x1-1)) then (if (i64.wrap (x1-1))<(x0.length:Int) then ((PQ (x0.getD (i64.wrap (x1-1)).toNat ([]:List Int)) x3.2.2.2.2.2.2.2.1 (x3.1,x1,false,false,true,false,([]:List Int),(([]:List Z)++x3.2.2.2.2.2.2.2.1),0,0,0,0,(O,O,0),([]:List Int))).bind fun y5=>((Du y5.2).bind fun y6=>(some (y6,y5.1,true)))) else none) else none) else (Gn x0 x1 0 x3 x4 x5 (([]:List Z)++x3.2.2.2.2.2.2.2.1) (x3.1,x1,false,false,true,false,([]:List Int),(([]:List Z)++x3.2.2.2.2.2.2.2.1),0,0,0,0,(O,O,0),([]:List Int)))) else none)
def ah (x0:List (List Int)) (x1:Int) (x2:Bool) (x3 x4:U) (x5:List AA):Option (U×List AA×Bool):=(if x3.2.2.2.1=true then (if (x3.2.1==(i64.wrap (x1-1)))=true then (if 0<=(i64.wrap (x1-2)) then (if (i64.wrap (x1-2))<(x0.length:Int) then ((Ds (x0.getD (i64.wrap (x1-2)).toNat ([]:List Int)) x3.1).bind fun y4=>(Iq x0 x1 y4 x3 x4 x5)) else none) else none) else (Iq x0 x1 false x3 x4 x5)) else (Iq x0 x1 false x3 x4 x5))
def ky (x0:U) (x1:List (List Int)) (x2:Int):Option (U×List AA×Bool):=((Gj x0).bind fun y1=>(if (!y1)=true then (some ((0,0,false,false,false,false,([]:List Int),([]:List Z),0,0,0,0,(O,O,0),([]:List Int)),([]:List AA),false)) else ((Ex x1).bind fun y2=>(if (!y2)=true then (some ((0,0,false,false,false,false,([]:List Int),([]:List Z),0,0,0,0,(O,O,0),([]:List Int)),([]:List AA),false)) else ((AX x2 2 (x1.length:Int)).bind fun y3=>(if (!y3)=true then (some ((0,0,false,false,false,false,([]:List Int),([]:List Z),0,0,0,0,(O,O,0),([]:List Int)),([]:List AA),false)) else (if (decide (x2<=x0.2.1))=true then (some ((0,0,false,false,false,false,([]:List Int),([]:List Z),0,0,0,0,(O,O,0),([]:List Int)),([]:List AA),false)) else (if 0<=(i64.wrap (x2-1)) then (if (i64.wrap (x2-1))<(x1.length:Int) then (if 0<=(0:Int) then (if 0<((x1.getD (i64.wrap (x2-1)).toNat ([]:List Int)).length:Int) then (if (((x1.getD (i64.wrap (x2-1)).toNat ([]:List Int)).getD (0:Int).toNat 0) != x0.1)=true then (some ((0,0,false,false,false,false,([]:List Int),([]:List Z),0,0,0,0,(O,O,0),([]:List Int)),([]:List AA),false)) else (af x1 x2 (((x1.getD (i64.wrap (x2-1)).toNat ([]:List Int)).getD (0:Int).toNat 0) != x0.1) x0 (0,0,false,false,false,false,([]:List Int),([]:List Z),0,0,0,0,(O,O,0),([]:List Int)) ([]:List AA))) else none) else none) else none) else none))))))))
theorem ak:z_ Qm Gn:=lS (by kernel_rfl)
theorem qU:zz ag Iq:=jS (by kernel_rfl)
theorem qV:zz ah af:=jS (by kernel_rfl)
theorem yE:Rn ky X5:=cT DL rfl ⟨rfl,rfl⟩ (by kernel_rfl)

def nS:=cG UO (AH Bv) (AH Bv) kx
def nT:=cG NC (AH Bv) (AH Bv) kx
def G_ (x0:List AA) (x1:List AK) (x2:Bool) (x3:U) (x4:AA) (x5 x6:U):Option (U×List AA×List AK):=cG UN nS (AH Bv) kx ⟨[(3,.ptr 0 0),(5,.ptr 1 0),(6,.ptr 2 0),(9,.ptr 3 0),(10,.lst AJ x0),(11,.lst BC x1),(146,.bool x2)],[.var (X.enc x3),.var (AJ.enc x4),.var (X.enc x5),.var (X.enc x6)]⟩
def Nq (x0:List (List Int)) (x1:List AA) (x2:List AK) (x3:Bool) (x4:U) (x5:AA) (x6 x7:U):Option (U×List AA×List AK):=cG NC (AH Bv) (AH Bv) kx ⟨[(1,.lst (.slice (.int .i64)) x0),(3,.ptr 0 0),(5,.ptr 1 0),(6,.ptr 2 0),(9,.ptr 3 0),(10,.lst AJ x1),(11,.lst BC x2),(105,.bool x3)],[.var (X.enc x4),.var (AJ.enc x5),.var (X.enc x6),.var (X.enc x7)]⟩
def FA (x0:List (List Int)) (x1:List AA) (x2:List AK) (x3:Bool) (x4:U) (x5:AA) (x6 x7:U):Option (U×List AA×List AK):=cG UL nT (AH Bv) kx ⟨[(1,.lst (.slice (.int .i64)) x0),(3,.ptr 0 0),(5,.ptr 1 0),(6,.ptr 2 0),(9,.ptr 3 0),(10,.lst AJ x1),(11,.lst BC x2),(105,.bool x3)],[.var (X.enc x4),.var (AJ.enc x5),.var (X.enc x6),.var (X.enc x7)]⟩
def Ut (x0:List (List Int)) (x1:List AA) (x2:List AK) (x3:Bool) (x4:U) (x5:AA) (x6 x7:U):Option (U×List AA×List AK):=cG UP (AH Bv) (AH Bv) kx ⟨[(1,.lst (.slice (.int .i64)) x0),(3,.ptr 0 0),(5,.ptr 1 0),(6,.ptr 2 0),(9,.ptr 3 0),(10,.lst AJ x1),(11,.lst BC x2),(59,.bool x3)],[.var (X.enc x4),.var (AJ.enc x5),.var (X.enc x6),.var (X.enc x7)]⟩
def Uu (x0:List AA) (x1:List AK) (x2:Bool) (x3:U) (x4:AA) (x5 x6:U):Option (U×List AA×List AK):=(if x2=true then (if ([]:List Z).length+x4.2.2.2.2.2.length<=68719476736 then ((FE x3 x4 4).bind fun y9=>(some ((x3.1,x4.2.2.2.1,false,true,false,false,([]:List Int),(([]:List Z)++x4.2.2.2.2.2),0,0,0,0,(O,O,0),([]:List Int)),y9,x1))) else none) else (some (x6,x0,x1)))
def Uv (x0:List (List Int)) (x1:List AA) (x2:List AK) (x3:Bool) (x4:U) (x5:AA) (x6 x7:U):Option (U×List AA×List AK):=(if 0<=(i64.wrap (x5.2.2.2.1-1)) then (if (i64.wrap (x5.2.2.2.1-1))<(x0.length:Int) then (if (x5.1==3)=true then ((Ds (x0.getD (i64.wrap (x5.2.2.2.1-1)).toNat ([]:List Int)) x4.1).bind fun y8=>(if y8=true then (if 0<=(0:Int) then (if 0<((x0.getD (i64.wrap (x5.2.2.2.1-1)).toNat ([]:List Int)).length:Int) then (G_ x1 x2 (((x0.getD (i64.wrap (x5.2.2.2.1-1)).toNat ([]:List Int)).getD (0:Int).toNat 0) != x4.1) x4 x5 x6 x7) else none) else none) else (G_ x1 x2 false x4 x5 x6 x7))) else (G_ x1 x2 false x4 x5 x6 x7)) else none) else none)
def Uw (x0:List (List Int)) (x1:List AA) (x2:List AK) (x3:Bool) (x4:U) (x5:AA) (x6 x7:U):Option (U×List AA×List AK):=(if x3=true then ((NO x4 x5.2.2.2.1).bind fun y7=>(if ([]:List Z).length+x4.2.2.2.2.2.2.2.1.length<=68719476736 then (some (y7,([(2,x4.1,x5.2.1,x5.2.2.2.1,0,(([]:List Z)++x4.2.2.2.2.2.2.2.1))]:List AA),x2)) else none)) else (Nq x0 x1 x2 x3 x4 x5 x6 x7))
def Ux (x0:List (List Int)) (x1:List AA) (x2:List AK) (x3:Bool) (x4:U) (x5:AA) (x6 x7:U):Option (U×List AA×List AK):=(if (x5.2.2.2.1==x4.2.1)=true then (if 0<=(i64.wrap (x4.2.1-1)) then (if (i64.wrap (x4.2.1-1))<(x0.length:Int) then ((VR x4 (x0.getD (i64.wrap (x4.2.1-1)).toNat ([]:List Int)) x5).bind fun y5=>(some (y5.1,y5.2.1,y5.2.2))) else none) else none) else (if (x5.1==1)=true then (if (x5.2.2.2.1==(i64.wrap (x4.2.1+1)))=true then (if x4.2.2.2.1=true then (if 0<=(i64.wrap (x4.2.1-1)) then (if (i64.wrap (x4.2.1-1))<(x0.length:Int) then ((Ds (x0.getD (i64.wrap (x4.2.1-1)).toNat ([]:List Int)) x4.1).bind fun y6=>(FA x0 x1 x2 y6 x4 x5 x6 x7)) else none) else none) else (FA x0 x1 x2 false x4 x5 x6 x7)) else (FA x0 x1 x2 false x4 x5 x6 x7)) else (FA x0 x1 x2 false x4 x5 x6 x7)))
def dq (x0:U) (x1:List (List Int)) (x2:AA):Option (U×List AA×List AK):=((Du x0).bind fun y1=>((Gj x0).bind fun y2=>(if (!y2)=false then ((Ex x1).bind fun y3=>(if (!y3)=false then ((X7 x2).bind fun y4=>(if (!y4)=false then (if (x2.2.2.1 != x0.1)=false then (if (decide (x2.2.2.2.1<x0.2.1))=false then (if (decide (x2.2.2.2.1>(x1.length:Int)))=false then (if (decide (x0.2.1>(x1.length:Int)))=true then (some (y1,([]:List AA),([]:List AK))) else (Ut x1 ([]:List AA) ([]:List AK) (decide (x0.2.1>(x1.length:Int))) x0 x2 (0,0,false,false,false,false,([]:List Int),([]:List Z),0,0,0,0,(O,O,0),([]:List Int)) y1)) else (some (y1,([]:List AA),([]:List AK)))) else (some (y1,([]:List AA),([]:List AK)))) else (some (y1,([]:List AA),([]:List AK)))) else (some (y1,([]:List AA),([]:List AK))))) else (some (y1,([]:List AA),([]:List AK))))) else (some (y1,([]:List AA),([]:List AK))))))
theorem kz:Le7 Uu G_:=jS (by kernel_rfl)
theorem k_:z_ Uv Nq:=jS (by kernel_rfl)
theorem lA:z_ Uw FA:=jS (by kernel_rfl)
theorem lB:z_ Ux Ut:=jS (by kernel_rfl)
theorem uB:Rn dq Sl:=cT Bv rfl ⟨rfl,rfl⟩ (by kernel_rfl)
def dr:=cG ci (AH Fj) (AH Fj) kx
def uC:=kB [] [1] 1 dr
def uD:=kE 0 [] [1] 1 dr kx
def LX (x0:Int) (x1:Bool) (x2:AA):Option Bool:=cG cg uC (AH Fj) uD ⟨[(1,.ptr 0 0),(38,.int .i64 x0),(39,.bool x1)],[.var (AJ.enc x2)]⟩
def Qn (x0:Bool) (x1:AA):Option Bool:=cG cj (AH Fj) (AH Fj) kx ⟨[(1,.ptr 0 0),(36,.bool x0)],[.var (AJ.enc x1)]⟩
def am (x0:Int) (x1:Bool) (x2:AA):Option Bool:=(if x1=true then (some true) else (if (x0==5)=true then (some ((x2.2.2.2.2.2.length:Int)==1)) else (some ((x2.2.2.2.2.2.length:Int)==0))))
def an (x0:Bool) (x1:AA):Option Bool:=(if (x1.1==2)=true then (LX x1.1 (x1.1==2) x1) else (LX x1.1 (x1.1==3) x1))
def lC (x0:AA):Option Bool:=((Ah x0.1 1 8).bind fun y1=>(if (!y1)=false then ((Ef x0.2.1).bind fun y2=>(if (!y2)=false then ((Ef x0.2.2.1).bind fun y3=>(if (!y3)=false then ((Ah x0.2.2.2.1 1 9).bind fun y4=>(if (!y4)=false then ((Ah x0.2.2.2.2.1 0 1000000000).bind fun y5=>(if (!y5)=false then ((GH x0.2.2.2.2.2).bind fun y6=>(if (!y6)=true then (some false) else (Qn (!y6) x0))) else (some false))) else (some false))) else (some false))) else (some false))) else (some false)))
theorem qW:Rn am LX:=jS (by kernel_rfl)
theorem qX:N7 an Qn:=jS (by kernel_rfl)
theorem yF:Mk lC X6:=cT Fj rfl ⟨rfl,rfl⟩ (by kernel_rfl)
def Pu:=cG OG (AH CS) (AH CS) kx
def Jk:=kB [] [] 2 Pu
def Jl:=kE 0 [] [] 2 Pu kx
def EM (x0:List (List Int)) (x1:Bool) (x2:U) (x3:AA):Option (List AA×List AK×U):=cG Pi Jk (AH CS) Jl ⟨[(0,.ptr 0 0),(1,.lst (.slice (.int .i64)) x0),(5,.ptr 1 0),(37,.bool x1)],[.var (X.enc x2),.var (AJ.enc x3)]⟩
def GY (x0:Bool) (x1:U) (x2:AA):Option (List AA×List AK×U):=cG Pj Jk (AH CS) Jl ⟨[(0,.ptr 0 0),(5,.ptr 1 0),(75,.bool x0)],[.var (X.enc x1),.var (AJ.enc x2)]⟩
def GZ (x0:Int) (x1:Bool) (x2:U) (x3:AA):Option (List AA×List AK×U):=cG OF Jk (AH CS) Jl ⟨[(0,.ptr 0 0),(5,.ptr 1 0),(9,.int .i64 x0),(107,.bool x1)],[.var (X.enc x2),.var (AJ.enc x3)]⟩
def ON (x0:List (List Int)) (x1:Bool) (x2:U) (x3:AA):Option (List AA×List AK×U):=(if x1=true then (if 0<=(i64.wrap (x2.2.1-1)) then (if (i64.wrap (x2.2.1-1))<(x0.length:Int) then ((Dx (x0.getD (i64.wrap (x2.2.1-1)).toNat ([]:List Int)) x3.2.2.2.2.2 x2).bind fun y2=>(some (y2.1,[],y2.2))) else none) else none) else (some ([],[],x2)))
def OO (x0:Bool) (x1:U) (x2:AA):Option (List AA×List AK×U):=(if x0=true then ((NP x1.2.2.2.2.2.2.1 x2.2.1).bind fun y4=>(if x1.2.2.2.2.2.1=false then (if ((y4.length:Int)==0)=true then (some ([],[],(x1.1,x1.2.1,x1.2.2.1,x1.2.2.2.1,x1.2.2.2.2.1,x1.2.2.2.1,y4,x1.2.2.2.2.2.2.2))) else (some ([],[],(x1.1,x1.2.1,x1.2.2.1,x1.2.2.2.1,x1.2.2.2.2.1,false,y4,x1.2.2.2.2.2.2.2)))) else (some ([],[],(x1.1,x1.2.1,x1.2.2.1,x1.2.2.2.1,x1.2.2.2.2.1,true,y4,x1.2.2.2.2.2.2.2))))) else (some ([],[],x1)))
def OP (x0:Int) (x1:Bool) (x2:U) (x3:AA):Option (List AA×List AK×U):=(if x1=true then ((Ke x3 x2).bind fun y5=>(some (y5.1,[],y5.2))) else (if (x0==6)=true then ((G3 1 x3 x2).bind fun y6=>(some ([],y6.1,y6.2))) else (if (x0==8)=true then ((G3 2 x3 x2).bind fun y7=>(some ([],y7.1,y7.2))) else (some ([],[],x2)))))
def TQ (x1:List (List Int)) (x2:AA) (b0:U):Option (List AA×List AK×U):=(if (x2.1==1)=true then ((Lo x1 x2 b0).bind fun y1=>(some (y1.1,[],y1.2))) else (if (x2.1==2)=true then (if (x2.2.2.2.1==b0.2.1)=true then (if b0.2.2.2.2.1=true then (EM x1 (!b0.2.2.2.1) b0 x2) else (EM x1 false b0 x2)) else (EM x1 false b0 x2)) else (if (x2.1==3)=true then (if 0<=(i64.wrap (x2.2.2.2.1-1)) then (if (i64.wrap (x2.2.2.2.1-1))<(x1.length:Int) then ((I3 (x1.getD (i64.wrap (x2.2.2.2.1-1)).toNat ([]:List Int)) x2 b0).bind fun y3=>(some (y3.1,[],y3.2))) else none) else none) else (if (x2.1==4)=true then (if (x2.2.2.2.1==b0.2.1)=true then (GY b0.2.2.2.2.1 b0 x2) else (GY false b0 x2)) else (if (x2.1==5)=true then (GZ x2.1 (x2.1==5) b0 x2) else (GZ x2.1 (x2.1==7) b0 x2))))))
theorem bQ:cH ON EM:=jS (by kernel_rfl)
theorem bR:Rn OO GY:=jS (by kernel_rfl)
theorem bS:cH OP GZ:=jS (by kernel_rfl)
theorem iZ:Rn TQ Ln:=cT CS rfl ⟨rfl,rfl⟩ (by kernel_rfl)
def I8:=cG EI (AH Ag) (AH Ag) kx
def I9:=kE 0 [] [] 0 I8 kx
def Ir:St->Option (RT (BE.outs Ag)):=lG EH [] [0,1,7,8] 0 (AH Ag) I9
def BF (x0:List AC) (x1:AC) (x2 x3:Int):Option Int:=Ir ⟨[(0,.lst AI x0),(1,.clo 92 AI x1),(7,.int .i64 x2),(8,.int .i64 x3)],[]⟩
def Bg (x0:List AC) (x1:AC) (x2 x3:Int):Option Int:=(if (decide (x3<x2))=true then (if 0<=x3 then (if x3<(x0.length:Int) then ((Sj (x0.getD x3.toNat (0,O,O,0,0,0,0,0,O)) x1).bind fun y1=>(if y1=true then (some x3) else (BF x0 x1 x2 (i64.wrap (x3+1))))) else none) else none) else (some (-1:Int)))
def Ey (x0:List AC) (x1:AC):Option Int:=(BF x0 x1 (x0.length:Int) 0)
theorem CZ:cH Bg BF:=lS (by kernel_rfl)
theorem Jm:N7 Ey Cr:=cT Ag rfl ⟨rfl,rfl⟩ (by kernel_rfl)
def KV (x0:List (List Int)) (x1:Bool) (x2:U):Option (Bool×U):=cG K5 (AH C2) (AH C2) kx ⟨[(0,.ptr 0 0),(1,.lst (.slice (.int .i64)) x0),(33,.bool x1)],[.var (X.enc x2)]⟩
def KW (x0:List (List Int)) (x1:Bool) (x2:U):Option (Bool×U):=((Dt x0).bind fun y1=>(if y1=true then (if 0<=(i64.wrap (x2.2.1-1)) then (if (i64.wrap (x2.2.1-1))<(x0.length:Int) then (if 0<=(0:Int) then (if 0<((x0.getD (i64.wrap (x2.2.1-1)).toNat ([]:List Int)).length:Int) then (some ((((x0.getD (i64.wrap (x2.2.1-1)).toNat ([]:List Int)).getD (0:Int).toNat 0)==x2.1),x2)) else none) else none) else none) else none) else (some (false,x2))))
def Nr (x1:List (List Int)) (b0:U):Option (Bool×U):=(if (!b0.2.2.2.2.2.1)=false then (if (b0.2.2.2.2.2.2.2.2.2.1 != 0)=false then (if (b0.2.2.2.2.2.2.2.2.1==900)=false then (if (decide (b0.2.1>(x1.length:Int)))=true then (some (false,b0)) else (KV x1 (decide (b0.2.1>(x1.length:Int))) b0)) else (some (false,b0))) else (some (false,b0))) else (some (false,b0)))
theorem Te:Rn KW KV:=jS (by kernel_rfl)
theorem YF:N7 Nr IU:=cT C2 rfl ⟨rfl,rfl⟩ (by kernel_rfl)
def qY:=cG Za (AH Fv) (AH Fv) kx
def qZ:=kE 0 [] [4] 1 qY kx
def nU:St->Option (RT (BE.outs Fv)):=lG ZZ [] [1,4,7,8,9] 1 (AH Fv) qZ
def KL (x0:ByteArray) (x1:List Z) (x2 x3:Int) (x4:Z):Option Z:=nU ⟨[(1,.str x0),(4,.ptr 0 0),(7,.lst AF x1),(8,.int .i64 x2),(9,.int .i64 x3)],[.var (AF.enc x4)]⟩
def Oy (x0:ByteArray) (x1:List Z) (x2 x3:Int) (x4:Z):Option Z:=(if (decide (x3<x2))=true then (if 0<=x3 then (if x3<(x1.length:Int) then (if (((x1.getD x3.toNat (O,O,0)).1).toList==x0.toList)=true then (some (x1.getD x3.toNat (O,O,0))) else (KL x0 x1 x2 (i64.wrap (x3+1)) x4)) else none) else none) else (some (O,O,0)))
def gG (x0:List Z) (x1:ByteArray):Option Z:=(KL x1 x0 (x0.length:Int) 0 (O,O,0))
theorem Wx:zf Oy KL:=lS (by kernel_rfl)
theorem vX:N7 gG PO:=cT Fv rfl ⟨rfl,rfl⟩ (by kernel_rfl)
def YG:=cG NE (AH CK) (AH CK) kx
def YH:=kE 0 [(5,1)] [5] 2 YG kx
def Wy:St->Option (RT (BE.outs CK)):=lG ND [(5,1)] [0,5,8,9,10] 2 (AH CK) YH
def Dg (x0:List Int) (x1 x2:Int) (x3:U) (x4:List Int):Option (List Int×U):=Wy ⟨[(0,.ptr 0 0),(5,.row 1),(8,.lst (.int .i64) x0),(9,.int .i64 x1),(10,.int .i64 x2)],[.var (X.enc x3),.rows 3 (.int .i64) x4]⟩
def Hu (x0:List Int) (x1 x2:Int) (x3:U) (x4:List Int):Option (List Int×U):=(if (decide (x2<x1))=true then (if 0<=x2 then (if x2<(x0.length:Int) then (if ((x0.getD x2.toNat 0) != x3.1)=true then (if x4.length+([(x0.getD x2.toNat 0)]:List Int).length<=68719476736 then (Dg x0 x1 (i64.wrap (x2+1)) x3 (x4++([(x0.getD x2.toNat 0)]:List Int))) else none) else (Dg x0 x1 (i64.wrap (x2+1)) x3 x4)) else none) else none) else (some (x4,x3)))
def Pv (x1:List Int) (b0:U):Option (List Int×U):=(Dg x1 (x1.length:Int) 0 b0 ([]:List Int))
theorem MY:zf Hu Dg:=lS (by kernel_rfl)
theorem dt:N7 Pv CL:=cT CK rfl ⟨rfl,rfl⟩ (by kernel_rfl)
def OQ (b0:List Int):Option (List Int):=((QJ (IntKind.u64.wrap (b0.length:Int))).bind fun y1=>((Ci 0 (b0.length:Int) y1 b0).bind fun y2=>(some y2)))
theorem bT:Mk OQ DF:=cT GW rfl ⟨rfl,rfl⟩ (by kernel_rfl)
def I_ (x0:U) (x1:w6):Option (List AK×U):=cG Pk (AH EP) (AH EP) kx ⟨[(0,.ptr 0 0),(3,.ptr 1 0)],[.var (X.enc x0),.var (Mw.enc x1)]⟩
def JA (x0:U) (x1:w6):Option (List AK×U):=(some (([(x1.2.1,x0.2.1,x1.2.2.1,x1.2.2.2.1)]:List AK),(x0.1,x0.2.1,x0.2.2.1,x0.2.2.2.1,x0.2.2.2.2.1,x0.2.2.2.2.2.1,x0.2.2.2.2.2.2.1,x0.2.2.2.2.2.2.2.1,x0.2.2.2.2.2.2.2.2.1,0,0,0,(O,O,0),([]:List Int))))
def TR (b0:U):Option (List AK×U):=(if (b0.2.2.2.2.2.2.2.2.2.1==1)=true then ((NQ b0.2.2.2.2.2.2.2.1 b0.2.2.2.2.2.2.2.2.2.2.2.2.1).bind fun y1=>(I_ (b0.1,b0.2.1,b0.2.2.1,b0.2.2.2.1,b0.2.2.2.2.1,b0.2.2.2.2.2.1,b0.2.2.2.2.2.2.1,y1,b0.2.2.2.2.2.2.2.2) b0.2.2.2.2.2.2.2.2.2)) else ((PO b0.2.2.2.2.2.2.2.1 b0.2.2.2.2.2.2.2.2.2.2.2.2.1.1).bind fun y2=>(I_ b0 (b0.2.2.2.2.2.2.2.2.2.1,b0.2.2.2.2.2.2.2.2.2.2.1,b0.2.2.2.2.2.2.2.2.2.2.2.1,y2,b0.2.2.2.2.2.2.2.2.2.2.2.2.2))))
theorem OR:N7 JA I_:=jS (by kernel_rfl)
theorem ia:Mk TR IV:=cT EP rfl ⟨rfl,rfl⟩ (by kernel_rfl)
def Wz:=cG MM (AH B2) (AH B2) kx
def W0:=kE 0 [(7,2)] [7] 3 Wz kx
def VV:St->Option (RT (BE.outs B2)):=lG ML [(7,2)] [0,5,7,11,12,13] 3 (AH B2) W0
def Eh (x0:List Int) (x1 x2:Int) (x3:U) (x4:AA) (x5:List AA):Option (List AA×U):=VV ⟨[(0,.ptr 0 0),(5,.ptr 1 0),(7,.row 2),(11,.lst (.int .i64) x0),(12,.int .i64 x1),(13,.int .i64 x2)],[.var (X.enc x3),.var (AJ.enc x4),.rows 97 AJ x5]⟩
def HK (x0:List Int) (x1 x2:Int) (x3:U) (x4:AA) (x5:List AA):Option (List AA×U):=(if (decide (x2<x1))=true then (if 0<=x2 then (if x2<(x0.length:Int) then ((Hn x4).bind fun y1=>(if x5.length+([(y1.1,x3.1,(x0.getD x2.toNat 0),x3.2.1,y1.2.2.2.2)]:List AA).length<=68719476736 then (Eh x0 x1 (i64.wrap (x2+1)) x3 x4 (x5++([(y1.1,x3.1,(x0.getD x2.toNat 0),x3.2.1,y1.2.2.2.2)]:List AA))) else none)) else none) else none) else (some (x5,x3)))
def OS (x1:List Int) (x2:AA) (b0:U):Option (List AA×U):=(Eh x1 (x1.length:Int) 0 b0 x2 ([]:List AA))
theorem K7:zz HK Eh:=lS (by kernel_rfl)
theorem bU:Rn OS Ap:=cT B2 rfl ⟨rfl,rfl⟩ (by kernel_rfl)
def lD (b0:U):Option U:=(some (b0.1,b0.2.1,b0.2.2.1,b0.2.2.2.1,false,false,[],b0.2.2.2.2.2.2.2.1,0,0,0,0,(O,O,0),([]:List Int)))
theorem lE:Mk lD G2:=cT JG rfl ⟨rfl,rfl⟩ (by kernel_rfl)
def Ns (x1:List Int) (x2:List Z) (b0:U):Option (List AA×U):=((CL x1 b0).bind fun y1=>((Ao x2).bind fun y2=>((Bw y1.1).bind fun y3=>((DF y3).bind fun y4=>(if ((y1.1.length:Int)==0)=true then ((Ap y1.1 (3,0,0,0,0,x2) (y1.2.1,y1.2.2.1,y1.2.2.2.1,true,y1.2.2.2.2.2.1,true,y4,y2,y1.2.2.2.2.2.2.2.2.2)).bind fun y5=>(some (y5.1,y5.2))) else ((Ap y1.1 (3,0,0,0,0,x2) (y1.2.1,y1.2.2.1,y1.2.2.2.1,true,y1.2.2.2.2.2.1,y1.2.2.2.2.2.2.1,y4,y2,y1.2.2.2.2.2.2.2.2.2)).bind fun y6=>(some (y6.1,y6.2))))))))
theorem YI:Rn Ns Dx:=cT Fk rfl ⟨rfl,rfl⟩ (by kernel_rfl)
def ET (x0:Bool) (x1:U):Option Bool:=cG UQ (AH Gh) (AH Gh) kx ⟨[(1,.ptr 0 0),(70,.bool x0)],[.var (X.enc x1)]⟩
def TS (x0:Bool) (x1:U):Option Bool:=((Ol x1.2.2.2.2.2.2.2.2.2).bind fun y7=>(if y7=false then (if (x1.2.2.2.2.2.2.2.2.2.1==1)=false then (if (x1.2.2.2.2.2.2.2.2.2.1==2)=true then (if x1.2.2.2.2.2.1=true then ((AX x1.2.2.2.2.2.2.2.2.2.2.1 0 1000).bind fun y8=>(if y8=true then ((AX x1.2.2.2.2.2.2.2.2.2.2.2.1 1 900).bind fun y9=>(some y9)) else (some false))) else (some false)) else (some false)) else (if x1.2.2.2.2.2.1=true then ((AX x1.2.2.2.2.2.2.2.2.2.2.1 0 1000).bind fun y10=>(if y10=true then ((AX x1.2.2.2.2.2.2.2.2.2.2.2.1 1 900).bind fun y11=>(some y11)) else (some false))) else (some false))) else (some true)))
def aq (x0:U):Option Bool:=((AX x0.1 1 6).bind fun y1=>(if (!y1)=false then ((AX x0.2.1 1 9).bind fun y2=>(if (!y2)=false then (if x0.2.2.2.2.2.1=true then (if (!x0.2.2.2.1)=false then (if (!x0.2.2.2.2.1)=false then (if (decide ((x0.2.2.2.2.2.2.1.length:Int)>0))=false then (if x0.2.2.1=true then (if x0.2.2.2.1=false then (if x0.2.2.2.2.1=false then ((Dk x0.2.2.2.2.2.2.1).bind fun y3=>(if (!y3)=false then ((Dk x0.2.2.2.2.2.2.2.2.2.2.2.2.2).bind fun y4=>(if (!y4)=false then ((Dy x0.2.2.2.2.2.2.2.1).bind fun y5=>(if (!y5)=false then ((AX x0.2.2.2.2.2.2.2.2.1 0 900).bind fun y6=>(if (!y6)=true then (some false) else (ET (!y6) x0))) else (some false))) else (some false))) else (some false))) else (some false)) else (some false)) else ((Dk x0.2.2.2.2.2.2.1).bind fun y12=>(if (!y12)=false then ((Dk x0.2.2.2.2.2.2.2.2.2.2.2.2.2).bind fun y13=>(if (!y13)=false then ((Dy x0.2.2.2.2.2.2.2.1).bind fun y14=>(if (!y14)=false then ((AX x0.2.2.2.2.2.2.2.2.1 0 900).bind fun y15=>(if (!y15)=true then (some false) else (ET (!y15) x0))) else (some false))) else (some false))) else (some false)))) else (some false)) else (some false)) else (some false)) else (if x0.2.2.1=true then (if x0.2.2.2.1=false then (if x0.2.2.2.2.1=false then ((Dk x0.2.2.2.2.2.2.1).bind fun y16=>(if (!y16)=false then ((Dk x0.2.2.2.2.2.2.2.2.2.2.2.2.2).bind fun y17=>(if (!y17)=false then ((Dy x0.2.2.2.2.2.2.2.1).bind fun y18=>(if (!y18)=false then ((AX x0.2.2.2.2.2.2.2.2.1 0 900).bind fun y19=>(if (!y19)=true then (some false) else (ET (!y19) x0))) else (some false))) else (some false))) else (some false))) else (some false)) else (some false)) else ((Dk x0.2.2.2.2.2.2.1).bind fun y20=>(if (!y20)=false then ((Dk x0.2.2.2.2.2.2.2.2.2.2.2.2.2).bind fun y21=>(if (!y21)=false then ((Dy x0.2.2.2.2.2.2.2.1).bind fun y22=>(if (!y22)=false then ((AX x0.2.2.2.2.2.2.2.2.1 0 900).bind fun y23=>(if (!y23)=true then (some false) else (ET (!y23) x0))) else (some false))) else (some false))) else (some false))))) else (some false))) else (some false)))
theorem ib:N7 TS ET:=jS (by kernel_rfl)
theorem qa:Mk aq Gj:=cT Gh rfl ⟨rfl,rfl⟩ (by kernel_rfl)
def qb:=cG Zc (AH Fw) (AH Fw) kx
def qc:=kE 0 [] [4] 1 qb kx
def nV:St->Option (RT (BE.outs Fw)):=lG Zb [] [0,1,4,5] 1 (AH Fw) qc
def KM (x0:List Z) (x1:ByteArray) (x2:Int) (x3:Z):Option Z:=nV ⟨[(0,.lst AF x0),(1,.str x1),(4,.ptr 0 0),(5,.int .i64 x2)],[.var (AF.enc x3)]⟩
def Oz (x0:List Z) (x1:ByteArray) (x2:Int) (x3:Z):Option Z:=(if (decide (x2<(x0.length:Int)))=true then (if 0<=x2 then (if x2<(x0.length:Int) then (if (((x0.getD x2.toNat (O,O,0)).1).toList==x1.toList)=true then (if 0<=x2 then (if x2<(x0.length:Int) then (some (x0.getD x2.toNat (O,O,0))) else none) else none) else (KM x0 x1 (i64.wrap (x2+1)) x3)) else none) else none) else (some (O,O,0)))
def gH (x0:List Z) (x1:ByteArray):Option Z:=(KM x0 x1 0 (O,O,0))
theorem W3:cH Oz KM:=lS (by kernel_rfl)
theorem vY:N7 gH PP:=cT Fw rfl ⟨rfl,rfl⟩ (by kernel_rfl)
def nW:=cG NF (AH BH) (AH BH) kx
def nX:=kE 2 [(5,1),(6,2)] [0,5,6] 3 nW kx
def lF:St->Option (RT (BE.outs BH)):=lG UR [(5,1),(6,2)] [0,3,5,6,8] 3 (AH BH) nX
def nY:=cG NG (AH BH) (AH BH) kx
def O0:=kE 0 [(5,1),(6,2)] [0,3,5,6] 3 nY kx
def Uy:St->Option (RT (BE.outs BH)):=lG WK [(5,1),(6,2)] [0,3,5,6,7] 3 (AH BH) O0
def nZ:=kB [(5,1),(6,2)] [0,3,5,6,7] 3 Uy
def W4:=cG WJ nZ (AH BH) O0
def na:=kB [(5,1),(6,2)] [0,3,5,6,7] 3 W4
def nb:=kE 1 [(5,1),(6,2)] [0,3,5,6,7] 3 W4 O0
def JS (x0:List Z) (x1:Int) (x2:Z) (x3 x4:List Z):Option (List Z):=cG WI na (AH BH) nb ⟨[(0,.lst AF x0),(3,.ptr 0 0),(5,.row 1),(6,.row 2),(7,.int .i64 x1)],[.var (AF.enc x2),.rows 38 AF x3,.rows 38 AF x4]⟩
def Nt (x0:List Z) (x1:Z) (x2 x3:List Z):Option (List Z):=cG NF (AH BH) (AH BH) kx ⟨[(0,.lst AF x0),(5,.row 1),(6,.row 2)],[.var (AF.enc x1),.rows 38 AF x2,.rows 38 AF x3]⟩
def FB (x0:List Z) (x1:Int) (x2:Z) (x3 x4:List Z):Option (List Z):=lF ⟨[(0,.lst AF x0),(3,.ptr 0 0),(5,.row 1),(6,.row 2),(8,.int .i64 x1)],[.var (AF.enc x2),.rows 38 AF x3,.rows 38 AF x4]⟩
def Nu (x0:List Z) (x1:Z) (x2 x3:List Z):Option (List Z):=cG NG (AH BH) (AH BH) kx ⟨[(0,.lst AF x0),(3,.ptr 0 0),(5,.row 1),(6,.row 2)],[.var (AF.enc x1),.rows 38 AF x2,.rows 38 AF x3]⟩
def FC (x0:List Z) (x1:Int) (x2:Z) (x3 x4:List Z):Option (List Z):=Uy ⟨[(0,.lst AF x0),(3,.ptr 0 0),(5,.row 1),(6,.row 2),(7,.int .i64 x1)],[.var (AF.enc x2),.rows 38 AF x3,.rows 38 AF x4]⟩
def Uz (x0:List Z) (x1:Int) (x2:Z) (x3 x4:List Z):Option (List Z):=(if 0<=x1 then (if x1<(x0.length:Int) then (if (((x0.getD x1.toNat (O,O,0)).1).toList==x2.1.toList)=true then (if 0<=x1 then (if x1<(x0.length:Int) then (if (decide ((((x0.getD x1.toNat (O,O,0)).2).2)>=x2.2.2))=true then (some x3) else (FC x0 (i64.wrap (x1+1)) x2 x3 x4)) else none) else none) else (FC x0 (i64.wrap (x1+1)) x2 x3 x4)) else none) else none)
def U0 (x0:List Z) (x1:Z) (x2 x3:List Z):Option (List Z):=((Dy x0).bind fun y1=>(if (!y1)=false then ((Dy x3).bind fun y2=>(if (!y2)=true then (some x2) else (some x3))) else (some x2)))
def Nv (x0:List Z) (x1:Int) (x2:Z) (x3 x4:List Z):Option (List Z):=(if (decide (x1<(x0.length:Int)))=true then (if 0<=x1 then (if x1<(x0.length:Int) then (if (!((Op.bytesLess ((x0.getD x1.toNat (O,O,0)).1).toList x2.1.toList)||(((x0.getD x1.toNat (O,O,0)).1).toList==x2.1.toList)))=true then (if 0<=x1 then (if x1<(x0.length:Int) then (if x4.length+([x0.getD x1.toNat (O,O,0)]:List Z).length<=68719476736 then (FB x0 (i64.wrap (x1+1)) x2 x3 (x4++([x0.getD x1.toNat (O,O,0)]:List Z))) else none) else none) else none) else (FB x0 (i64.wrap (x1+1)) x2 x3 x4)) else none) else none) else (Nt x0 x2 x3 x4))
def U1 (x0:List Z) (x1:Z) (x2 x3:List Z):Option (List Z):=(if x3.length+([x1]:List Z).length<=68719476736 then (FB x0 0 x1 x2 (x3++([x1]:List Z))) else none)
def Nw (x0:List Z) (x1:Int) (x2:Z) (x3 x4:List Z):Option (List Z):=(if (decide (x1<(x0.length:Int)))=true then (if 0<=x1 then (if x1<(x0.length:Int) then (if (Op.bytesLess ((x0.getD x1.toNat (O,O,0)).1).toList x2.1.toList)=true then (if 0<=x1 then (if x1<(x0.length:Int) then (if x4.length+([x0.getD x1.toNat (O,O,0)]:List Z).length<=68719476736 then (JS x0 x1 x2 x3 (x4++([x0.getD x1.toNat (O,O,0)]:List Z))) else none) else none) else none) else (JS x0 x1 x2 x3 x4)) else none) else none) else (Nu x0 x2 x3 x4))
def du (x0:List Z) (x1:Z):Option (List Z):=(if ([]:List Z).length+x0.length<=68719476736 then (FC x0 0 x1 (([]:List Z)++x0) ([]:List Z)) else none)
theorem lH:zf Uz JS:=jS (by kernel_rfl)
theorem lI:cH U0 Nt:=jS (by kernel_rfl)
theorem U2:zf Nv FB:=lS (by kernel_rfl)
theorem lJ:cH U1 Nu:=jS (by kernel_rfl)
theorem U3:zf Nw FC:=lS (by kernel_rfl)
theorem uE:N7 du Ji:=cT BH rfl ⟨rfl,rfl⟩ (by kernel_rfl)
def ic:=cG Sd (AH Db) (AH Db) kx
def ie:=kE 0 [(5,0)] [5] 1 ic kx
def fb:St->Option (RT (BE.outs Db)):=lG Sc [(5,0)] [0,1,5,6] 1 (AH Db) ie
def Cf (x0:List Int) (x1 x2:Int) (x3:List Int):Option (List Int):=fb ⟨[(0,.lst (.int .i64) x0),(1,.int .i64 x1),(5,.row 0),(6,.int .i64 x2)],[.rows 3 (.int .i64) x3]⟩
def Kt (x0:List Int) (x1 x2:Int) (x3:List Int):Option (List Int):=(if (decide (x2<=6))=true then (if (x2 != x1)=true then ((Ds x0 x2).bind fun y1=>(if y1=true then (if x3.length+([x2]:List Int).length<=68719476736 then (Cf x0 x1 (i64.wrap (x2+1)) (x3++([x2]:List Int))) else none) else (Cf x0 x1 (i64.wrap (x2+1)) x3))) else (Cf x0 x1 (i64.wrap (x2+1)) x3)) else (some x3))
def W5 (x0:List Int) (x1:Int):Option (List Int):=(Cf x0 x1 1 ([]:List Int))
theorem Rf:cH Kt Cf:=lS (by kernel_rfl)
theorem nc:N7 W5 Ho:=cT Db rfl ⟨rfl,rfl⟩ (by kernel_rfl)
def W6 (b0:U):Option (List AK×U):=(if (b0.2.2.2.2.2.2.2.2.2.1==1)=true then ((Ji b0.2.2.2.2.2.2.2.1 b0.2.2.2.2.2.2.2.2.2.2.2.2.1).bind fun y1=>(some (([(b0.2.2.2.2.2.2.2.2.2.2.1,b0.2.1,b0.2.2.2.2.2.2.2.2.2.2.2.1,b0.2.2.2.2.2.2.2.2.2.2.2.2.1)]:List AK),(b0.1,b0.2.1,b0.2.2.1,b0.2.2.2.1,b0.2.2.2.2.1,b0.2.2.2.2.2.1,b0.2.2.2.2.2.2.1,y1,b0.2.2.2.2.2.2.2.2.1,0,0,0,(O,O,0),([]:List Int))))) else ((PP b0.2.2.2.2.2.2.2.1 b0.2.2.2.2.2.2.2.2.2.2.2.2.1.1).bind fun y2=>(some (([(b0.2.2.2.2.2.2.2.2.2.2.1,b0.2.1,b0.2.2.2.2.2.2.2.2.2.2.2.1,y2)]:List AK),(b0.1,b0.2.1,b0.2.2.1,b0.2.2.2.1,b0.2.2.2.2.1,b0.2.2.2.2.2.1,b0.2.2.2.2.2.2.1,b0.2.2.2.2.2.2.2.1,b0.2.2.2.2.2.2.2.2.1,0,0,0,(O,O,0),([]:List Int))))))
theorem ng:Mk W6 Hp:=cT KA rfl ⟨rfl,rfl⟩ (by kernel_rfl)
def qd:=cG Ze (AH Fx) (AH Fx) kx
def qe:=kE 0 [(7,1)] [7] 3 qd kx
def nh:St->Option (RT (BE.outs Fx)):=lG Zd [(7,1)] [0,1,2,7,8] 3 (AH Fx) qe
def Hv (x0:List Int) (x1:List Z) (x2:Int) (x3:U) (x4:List AA) (x5:List Z):Option (List AA×U):=nh ⟨[(0,.ptr 0 0),(1,.lst (.int .i64) x0),(2,.lst AF x1),(7,.row 1),(8,.int .i64 x2)],[.var (X.enc x3),.rows 97 AJ x4,.frz AF x5]⟩
def O1 (x0:List Int) (x1:List Z) (x2:Int) (x3:U) (x4:List AA) (x5:List Z):Option (List AA×U):=(if (decide (x2<(x0.length:Int)))=true then (if 0<=x2 then (if x2<(x0.length:Int) then (if ((x0.getD x2.toNat 0) != x3.1)=true then (if 0<=x2 then (if x2<(x0.length:Int) then (if ([]:List Z).length+x1.length<=68719476736 then (if x4.length+([(3,x3.1,(x0.getD x2.toNat 0),x3.2.1,0,(([]:List Z)++x1))]:List AA).length<=68719476736 then (Hv x0 x1 (i64.wrap (x2+1)) x3 (x4++([(3,x3.1,(x0.getD x2.toNat 0),x3.2.1,0,(([]:List Z)++x1))]:List AA)) x5) else none) else none) else none) else none) else (Hv x0 x1 (i64.wrap (x2+1)) x3 x4 x5)) else none) else none) else (some (x4,x3)))
def gI (x1:List Int) (x2:List Z) (b0:U):Option (List AA×U):=(if ([]:List Z).length+x2.length<=68719476736 then ((Ho x1 b0.1).bind fun y1=>(Hv x1 x2 0 (b0.1,b0.2.1,b0.2.2.1,true,b0.2.2.2.2.1,((y1.length:Int)==0),y1,(([]:List Z)++x2),b0.2.2.2.2.2.2.2.2) ([]:List AA) (([]:List Z)++x2))) else none)
theorem W7:zz O1 Hv:=lS (by kernel_rfl)
theorem vZ:Rn gI PQ:=cT Fx rfl ⟨rfl,rfl⟩ (by kernel_rfl)
def dv:=cG cp (AH Fl) (AH Fl) kx
def uF:=kB [] [1] 1 dv
def uG:=kE 0 [] [1] 1 dv kx
def LY (x0:Int) (x1:Bool) (x2:AA):Option Bool:=cG cn uF (AH Fl) uG ⟨[(1,.ptr 0 0),(38,.int .i64 x0),(39,.bool x1)],[.var (AJ.enc x2)]⟩
def Qo (x0:Bool) (x1:AA):Option Bool:=cG cq (AH Fl) (AH Fl) kx ⟨[(1,.ptr 0 0),(36,.bool x0)],[.var (AJ.enc x1)]⟩
def ar (x0:Int) (x1:Bool) (x2:AA):Option Bool:=(if x1=true then (some true) else (if (x0==5)=true then (some ((x2.2.2.2.2.2.length:Int)==1)) else (some ((x2.2.2.2.2.2.length:Int)==0))))
def au (x0:Bool) (x1:AA):Option Bool:=(if (x1.1==2)=true then (LY x1.1 (x1.1==2) x1) else (LY x1.1 (x1.1==3) x1))
def lK (x0:AA):Option Bool:=((AX x0.1 1 8).bind fun y1=>(if (!y1)=false then ((AX x0.2.1 1 6).bind fun y2=>(if (!y2)=false then ((AX x0.2.2.1 1 6).bind fun y3=>(if (!y3)=false then ((AX x0.2.2.2.1 1 9).bind fun y4=>(if (!y4)=false then ((AX x0.2.2.2.2.1 0 1000000000).bind fun y5=>(if (!y5)=false then ((Dy x0.2.2.2.2.2).bind fun y6=>(if (!y6)=true then (some false) else (Qo (!y6) x0))) else (some false))) else (some false))) else (some false))) else (some false))) else (some false)))
theorem qf:Rn ar LY:=jS (by kernel_rfl)
theorem qg:N7 au Qo:=jS (by kernel_rfl)
theorem yG:Mk lK X7:=cT Fl rfl ⟨rfl,rfl⟩ (by kernel_rfl)
def ax:=cG WO (AH Ct) (AH Ct) kx
def Gp:=kB [] [6,9,10,11] 4 ax
def Gq:=kE 0 [] [6,9,10,11] 4 ax kx
def KN (x0:List Int) (x1:List AA) (x2:List AK) (x3:Bool) (x4:U) (x5:AA) (x6 x7:U):Option (U×List AA×List AK):=cG Zf Gp (AH Ct) Gq ⟨[(1,.lst (.int .i64) x0),(5,.ptr 1 0),(6,.ptr 2 0),(9,.ptr 3 0),(10,.lst AJ x1),(11,.lst BC x2),(28,.bool x3)],[.var (X.enc x4),.var (AJ.enc x5),.var (X.enc x6),.var (X.enc x7)]⟩
def KO (x0:List AA) (x1:List AK) (x2:Bool) (x3:U) (x4:AA) (x5 x6:U):Option (U×List AA×List AK):=cG Zg Gp (AH Ct) Gq ⟨[(3,.ptr 0 0),(5,.ptr 1 0),(6,.ptr 2 0),(9,.ptr 3 0),(10,.lst AJ x0),(11,.lst BC x1),(60,.bool x2)],[.var (X.enc x3),.var (AJ.enc x4),.var (X.enc x5),.var (X.enc x6)]⟩
def O2 (x0:List AA) (x1:List AK) (x2:Bool) (x3:U) (x4:AA) (x5 x6:U):Option (U×List AA×List AK):=cG Zh Gp (AH Ct) Gq ⟨[(3,.ptr 0 0),(5,.ptr 1 0),(6,.ptr 2 0),(9,.ptr 3 0),(10,.lst AJ x0),(11,.lst BC x1),(50,.bool x2)],[.var (X.enc x3),.var (AJ.enc x4),.var (X.enc x5),.var (X.enc x6)]⟩
def O3 (x0:List AA) (x1:List AK) (x2:Bool) (x3:U) (x4:AA) (x5 x6:U):Option (U×List AA×List AK):=cG WL Gp (AH Ct) Gq ⟨[(5,.ptr 1 0),(6,.ptr 2 0),(9,.ptr 3 0),(10,.lst AJ x0),(11,.lst BC x1),(145,.bool x2)],[.var (X.enc x3),.var (AJ.enc x4),.var (X.enc x5),.var (X.enc x6)]⟩
def KP (x0:List AA) (x1:List AK) (x2:Int) (x3:U) (x4:AA) (x5 x6:U):Option (U×List AA×List AK):=cG WM Gp (AH Ct) Gq ⟨[(5,.ptr 1 0),(6,.ptr 2 0),(9,.ptr 3 0),(10,.lst AJ x0),(11,.lst BC x1),(13,.int .i64 x2)],[.var (X.enc x3),.var (AJ.enc x4),.var (X.enc x5),.var (X.enc x6)]⟩
def KQ (x0:List AA) (x1:List AK) (x2:Bool) (x3:U) (x4:AA) (x5 x6:U):Option (U×List AA×List AK):=cG WN Gp (AH Ct) Gq ⟨[(5,.ptr 1 0),(6,.ptr 2 0),(9,.ptr 3 0),(10,.lst AJ x0),(11,.lst BC x1),(127,.bool x2)],[.var (X.enc x3),.var (AJ.enc x4),.var (X.enc x5),.var (X.enc x6)]⟩
def W8 (x0:List Int) (x1:List AA) (x2:List AK) (x3:Bool) (x4:U) (x5:AA) (x6 x7:U):Option (U×List AA×List AK):=(if x3=true then ((PQ x0 x5.2.2.2.2.2 x7).bind fun y2=>(some (y2.2,y2.1,x2))) else (some (x7,x1,x2)))
def W9 (x0:List AA) (x1:List AK) (x2:Bool) (x3:U) (x4:AA) (x5 x6:U):Option (U×List AA×List AK):=(if (!x6.2.2.2.1)=true then ((NO x3 x3.2.1).bind fun y4=>(if ([]:List Z).length+x4.2.2.2.2.2.length<=68719476736 then ((FE x3 x4 4).bind fun y5=>(some ((y4.1,y4.2.1,y4.2.2.1,true,y4.2.2.2.2.1,y4.2.2.2.2.2.1,y4.2.2.2.2.2.2.1,(([]:List Z)++x4.2.2.2.2.2),y4.2.2.2.2.2.2.2.2),y5,x1))) else none)) else ((FE x3 x4 4).bind fun y6=>(some (x6,y6,x1))))
def W_ (x0:List AA) (x1:List AK) (x2:Bool) (x3:U) (x4:AA) (x5 x6:U):Option (U×List AA×List AK):=(if (!x6.2.2.2.1)=true then (if x6.2.2.1=true then (some (x6,x0,x1)) else (KO x0 x1 x6.2.2.1 x3 x4 x5 x6)) else (KO x0 x1 false x3 x4 x5 x6))
def XA (x0:List AA) (x1:List AK) (x2:Bool) (x3:U) (x4:AA) (x5 x6:U):Option (U×List AA×List AK):=((JJ x6.2.2.2.2.2.2.2.2.2.2.2.2.2 x4.2.1).bind fun y11=>(if ((y11.length:Int)==0)=true then ((Hp (x6.1,x6.2.1,x6.2.2.1,x6.2.2.2.1,x6.2.2.2.2.1,x6.2.2.2.2.2.1,x6.2.2.2.2.2.2.1,x6.2.2.2.2.2.2.2.1,x6.2.2.2.2.2.2.2.2.1,x6.2.2.2.2.2.2.2.2.2.1,x6.2.2.2.2.2.2.2.2.2.2.1,x6.2.2.2.2.2.2.2.2.2.2.2.1,x6.2.2.2.2.2.2.2.2.2.2.2.2.1,y11)).bind fun y12=>(some (y12.2,x0,y12.1))) else (some ((x6.1,x6.2.1,x6.2.2.1,x6.2.2.2.1,x6.2.2.2.2.1,x6.2.2.2.2.2.1,x6.2.2.2.2.2.2.1,x6.2.2.2.2.2.2.2.1,x6.2.2.2.2.2.2.2.2.1,x6.2.2.2.2.2.2.2.2.2.1,x6.2.2.2.2.2.2.2.2.2.2.1,x6.2.2.2.2.2.2.2.2.2.2.2.1,x6.2.2.2.2.2.2.2.2.2.2.2.2.1,y11),x0,x1))))
def XB (x0:List AA) (x1:List AK) (x2:Int) (x3:U) (x4:AA) (x5 x6:U):Option (U×List AA×List AK):=(if (x6.2.2.2.2.2.2.2.2.2.1 != x2)=false then (if (x6.2.2.2.2.2.2.2.2.2.2.2.1 != x4.2.2.2.2.1)=true then (some (x6,x0,x1)) else (O3 x0 x1 (x6.2.2.2.2.2.2.2.2.2.2.2.1 != x4.2.2.2.2.1) x3 x4 x5 x6)) else (some (x6,x0,x1)))
def XC (x0:List AA) (x1:List AK) (x2:Bool) (x3:U) (x4:AA) (x5 x6:U):Option (U×List AA×List AK):=(if x2=true then (if (x4.1==8)=true then (KP x0 x1 2 x3 x4 x5 x6) else (KP x0 x1 1 x3 x4 x5 x6)) else (some (x6,x0,x1)))
def gJ (x0:U) (x1:List Int) (x2:AA):Option (U×List AA×List AK):=((Du x0).bind fun y1=>(if (x2.1==2)=true then (if y1.2.2.2.2.1=true then (KN x1 ([]:List AA) ([]:List AK) (!y1.2.2.2.1) x0 x2 (0,0,false,false,false,false,([]:List Int),([]:List Z),0,0,0,0,(O,O,0),([]:List Int)) y1) else (KN x1 ([]:List AA) ([]:List AK) false x0 x2 (0,0,false,false,false,false,([]:List Int),([]:List Z),0,0,0,0,(O,O,0),([]:List Int)) y1)) else (if (x2.1==3)=true then ((Ds x1 x0.1).bind fun y3=>(if (!y3)=true then (some (y1,([]:List AA),([]:List AK))) else (if 0<=(0:Int) then (if 0<(x1.length:Int) then (if ((x1.getD (0:Int).toNat 0)==x0.1)=true then (some (y1,([]:List AA),([]:List AK))) else (O2 ([]:List AA) ([]:List AK) ((x1.getD (0:Int).toNat 0)==x0.1) x0 x2 (0,0,false,false,false,false,([]:List Int),([]:List Z),0,0,0,0,(O,O,0),([]:List Int)) y1)) else none) else none))) else (if (x2.1==4)=true then (if y1.2.2.2.2.1=true then ((JJ y1.2.2.2.2.2.2.1 x2.2.1).bind fun y7=>(if y1.2.2.2.1=true then (some ((y1.1,y1.2.1,y1.2.2.1,y1.2.2.2.1,y1.2.2.2.2.1,((y7.length:Int)==0),y7,y1.2.2.2.2.2.2.2),([]:List AA),([]:List AK))) else (some ((y1.1,y1.2.1,y1.2.2.1,y1.2.2.2.1,y1.2.2.2.2.1,false,y7,y1.2.2.2.2.2.2.2),([]:List AA),([]:List AK))))) else (some (y1,([]:List AA),([]:List AK)))) else (if (x2.1==5)=true then (if y1.2.2.2.1=true then (if 0<=(0:Int) then (if 0<(x2.2.2.2.2.2.length:Int) then ((Ji y1.2.2.2.2.2.2.2.1 (x2.2.2.2.2.2.getD (0:Int).toNat (O,O,0))).bind fun y8=>((FE x0 x2 6).bind fun y9=>(some ((y1.1,y1.2.1,y1.2.2.1,y1.2.2.2.1,y1.2.2.2.2.1,y1.2.2.2.2.2.1,y1.2.2.2.2.2.2.1,y8,y1.2.2.2.2.2.2.2.2),y9,([]:List AK))))) else none) else none) else (some (y1,([]:List AA),([]:List AK)))) else (if (x2.1==7)=true then (if y1.2.2.2.1=true then ((FE x0 x2 8).bind fun y10=>(some (y1,y10,([]:List AK)))) else (some (y1,([]:List AA),([]:List AK)))) else (if (x2.1==6)=true then (KQ ([]:List AA) ([]:List AK) (x2.1==6) x0 x2 (0,0,false,false,false,false,([]:List Int),([]:List Z),0,0,0,0,(O,O,0),([]:List Int)) y1) else (KQ ([]:List AA) ([]:List AK) (x2.1==8) x0 x2 (0,0,false,false,false,false,([]:List Int),([]:List Z),0,0,0,0,(O,O,0),([]:List Int)) y1))))))))
theorem ni:z_ W8 KN:=jS (by kernel_rfl)
theorem nj:Le7 W9 KO:=jS (by kernel_rfl)
theorem nl:Le7 W_ O2:=jS (by kernel_rfl)
theorem nn:Le7 XA O3:=jS (by kernel_rfl)
theorem no:Le7 XB KP:=jS (by kernel_rfl)
theorem np:Le7 XC KQ:=jS (by kernel_rfl)
theorem vd:Rn gJ VR:=cT Ct rfl ⟨rfl,rfl⟩ (by kernel_rfl)
def dw (x0:U) (x1:Int):Option U:=(if ([]:List Z).length+x0.2.2.2.2.2.2.2.1.length<=68719476736 then (some (x0.1,x1,false,false,false,false,([]:List Int),(([]:List Z)++x0.2.2.2.2.2.2.2.1),0,0,0,0,(O,O,0),([]:List Int))) else none)
theorem uH:N7 dw NO:=cT NH rfl ⟨rfl,rfl⟩ (by kernel_rfl)
def qh (x0:U) (x1:AA) (x2:Int):Option (List AA):=(some ([(x2,x0.1,x1.2.1,x1.2.2.2.1,x1.2.2.2.2.1,([]:List Z))]:List AA))
theorem qi:Rn qh FE:=cT LL rfl ⟨rfl,rfl⟩ (by kernel_rfl)
def OT (x0:Bool) (x1:U) (x2:AA):Option (List AA×U):=cG OI (AH EQ) (AH EQ) kx ⟨[(0,.ptr 0 0),(5,.ptr 1 0),(37,.bool x0)],[.var (X.enc x1),.var (AJ.enc x2)]⟩
def OU (x0:Bool) (x1:U) (x2:AA):Option (List AA×U):=((G2 (x1.1,x2.2.2.2.1,x1.2.2.1,false,x1.2.2.2.2)).bind fun y2=>((Ap ([x2.2.1]:List Int) (2,0,0,0,0,y2.2.2.2.2.2.2.2.1) y2).bind fun y3=>(some (y3.1,y3.2))))
def TU (x1:List (List Int)) (x2:AA) (b0:U):Option (List AA×U):=(if (x2.2.2.2.1 != (i64.wrap (b0.2.1+1)))=true then (some ([],b0)) else (if (!b0.2.2.2.1)=true then (some ([],b0)) else (if 0<=(i64.wrap (b0.2.1-1)) then (if (i64.wrap (b0.2.1-1))<(x1.length:Int) then ((CO (x1.getD (i64.wrap (b0.2.1-1)).toNat ([]:List Int)) b0.1).bind fun y1=>(if (!y1)=true then (some ([],b0)) else (OT (!y1) b0 x2))) else none) else none)))
theorem bV:Rn OU OT:=jS (by kernel_rfl)
theorem ig:Rn TU Lo:=cT EQ rfl ⟨rfl,rfl⟩ (by kernel_rfl)
def MZ:=cG MP (AH Bk) (AH Bk) kx
def XD:=kB [] [0,5] 2 MZ
def XE:=kE 0 [] [0,5] 2 MZ kx
def DH (x0:Bool) (x1:U) (x2:AA):Option (List AA×U):=cG MO XD (AH Bk) XE ⟨[(0,.ptr 0 0),(5,.ptr 1 0),(24,.bool x0)],[.var (X.enc x1),.var (AJ.enc x2)]⟩
def K8 (x0:Bool) (x1:U) (x2:AA):Option (List AA×U):=cG MQ (AH Bk) (AH Bk) kx ⟨[(0,.ptr 0 0),(5,.ptr 1 0),(23,.bool x0)],[.var (X.enc x1),.var (AJ.enc x2)]⟩
def K9 (x0:Bool) (x1:U) (x2:AA):Option (List AA×U):=(if x0=true then ((Ao x2.2.2.2.2.2).bind fun y2=>((G2 (x1.1,x2.2.2.2.1,false,true,x1.2.2.2.2.1,x1.2.2.2.2.2.1,x1.2.2.2.2.2.2.1,y2,x1.2.2.2.2.2.2.2.2)).bind fun y3=>((Ap ([x2.2.1]:List Int) (4,0,0,0,0,([]:List Z)) y3).bind fun y4=>(some (y4.1,y4.2))))) else (if (!x1.2.2.2.1)=true then (some ([],x1)) else ((Ap ([x2.2.1]:List Int) (4,0,0,0,0,([]:List Z)) x1).bind fun y5=>(some (y5.1,y5.2)))))
def K_ (x0:Bool) (x1:U) (x2:AA):Option (List AA×U):=(if (decide (x2.2.2.2.1>x1.2.1))=true then (DH true x1 x2) else (if (!x1.2.2.2.1)=true then (DH (!x1.2.2.1) x1 x2) else (DH false x1 x2)))
def OV (x1:List Int) (x2:AA) (b0:U):Option (List AA×U):=((CO x1 b0.1).bind fun y1=>(if (!y1)=true then (some ([],b0)) else (if 0<=(0:Int) then (if 0<(x1.length:Int) then (if ((x1.getD (0:Int).toNat 0)==b0.1)=true then (some ([],b0)) else (K8 ((x1.getD (0:Int).toNat 0)==b0.1) b0 x2)) else none) else none)))
theorem VX:Rn K9 DH:=jS (by kernel_rfl)
theorem VY:Rn K_ K8:=jS (by kernel_rfl)
theorem bW:Rn OV I3:=cT Bk rfl ⟨rfl,rfl⟩ (by kernel_rfl)
def dx (x0:List Int) (x1:Int):Option (List Int):=((Bw x0).bind fun y1=>((Fo y1 x1).bind fun y2=>(some y2)))
theorem uI:N7 dx NP:=cT NI rfl ⟨rfl,rfl⟩ (by kernel_rfl)
def Nx (x0:Bool) (x1:U) (x2:AA):Option (List AA×U):=cG OJ (AH D5) (AH D5) kx ⟨[(0,.ptr 0 0),(3,.ptr 1 0),(18,.bool x0)],[.var (X.enc x1),.var (AJ.enc x2)]⟩
def Ny (x0:Bool) (x1:U) (x2:AA):Option (List AA×U):=(if (x2.1==7)=true then ((Ap ([x2.2.1]:List Int) (8,0,0,0,x2.2.2.2.2.1,([]:List Z)) x1).bind fun y1=>(some (y1.1,y1.2))) else (if 0<=(0:Int) then (if 0<(x2.2.2.2.2.2.length:Int) then ((NQ x1.2.2.2.2.2.2.2.1 (x2.2.2.2.2.2.getD (0:Int).toNat (O,O,0))).bind fun y2=>((Ap ([x2.2.1]:List Int) (6,0,0,0,x2.2.2.2.2.1,([]:List Z)) (x1.1,x1.2.1,x1.2.2.1,x1.2.2.2.1,x1.2.2.2.2.1,x1.2.2.2.2.2.1,x1.2.2.2.2.2.2.1,y2,x1.2.2.2.2.2.2.2.2)).bind fun y3=>(some (y3.1,y3.2)))) else none) else none))
def Rg (x1:AA) (b0:U):Option (List AA×U):=(if (x1.2.2.2.1 != b0.2.1)=true then (some ([],b0)) else (if (!b0.2.2.2.1)=true then (some ([],b0)) else (Nx (!b0.2.2.2.1) b0 x1)))
theorem YJ:Rn Ny Nx:=jS (by kernel_rfl)
theorem fc:N7 Rg Ke:=cT D5 rfl ⟨rfl,rfl⟩ (by kernel_rfl)

def Ma (x0:Bool) (x1:U) (x2:AA):Option (List AK×U):=cG MR (AH Dc) (AH Dc) kx ⟨[(0,.ptr 0 0),(5,.ptr 1 0),(32,.bool x0)],[.var (X.enc x1),.var (AJ.enc x2)]⟩
def Mb (x0:Bool) (x1:U) (x2:AA):Option (List AK×U):=((NP x1.2.2.2.2.2.2.2.2.2.2.2.2.2 x2.2.1).bind fun y1=>(if (decide ((y1.length:Int)>0))=true then (some ([],(x1.1,x1.2.1,x1.2.2.1,x1.2.2.2.1,x1.2.2.2.2.1,x1.2.2.2.2.2.1,x1.2.2.2.2.2.2.1,x1.2.2.2.2.2.2.2.1,x1.2.2.2.2.2.2.2.2.1,x1.2.2.2.2.2.2.2.2.2.1,x1.2.2.2.2.2.2.2.2.2.2.1,x1.2.2.2.2.2.2.2.2.2.2.2.1,x1.2.2.2.2.2.2.2.2.2.2.2.2.1,y1))) else ((IV (x1.1,x1.2.1,x1.2.2.1,x1.2.2.2.1,x1.2.2.2.2.1,x1.2.2.2.2.2.1,x1.2.2.2.2.2.2.1,x1.2.2.2.2.2.2.2.1,x1.2.2.2.2.2.2.2.2.1,x1.2.2.2.2.2.2.2.2.2.1,x1.2.2.2.2.2.2.2.2.2.2.1,x1.2.2.2.2.2.2.2.2.2.2.2.1,x1.2.2.2.2.2.2.2.2.2.2.2.2.1,y1)).bind fun y2=>(some (y2.1,y2.2)))))
def Pw (x1:Int) (x2:AA) (b0:U):Option (List AK×U):=(if (x2.2.2.2.1 != b0.2.1)=true then (some ([],b0)) else (if (b0.2.2.2.2.2.2.2.2.2.1 != x1)=true then (some ([],b0)) else (if (b0.2.2.2.2.2.2.2.2.2.2.2.1 != x2.2.2.2.2.1)=true then (some ([],b0)) else (Ma (b0.2.2.2.2.2.2.2.2.2.2.2.1 != x2.2.2.2.2.1) b0 x2))))
theorem XF:Rn Mb Ma:=jS (by kernel_rfl)
theorem dy:Rn Pw G3:=cT Dc rfl ⟨rfl,rfl⟩ (by kernel_rfl)
def H9:=kE 0 [] [] 1 (AH Ad) kx
def Hw:St->Option (RT (BE.outs Ad)):=lG Hm [(0,0)] [0,1,2,3,8,9] 1 (AH Ad) H9
def H_:=kB [(0,0)] [0,1,2,3,8,9] 1 Hw
def CM:=kB [(0,0)] [0,1,2,3,8,9] 1 H_
def Bl:=kE 1 [(0,0)] [0,1,2,3,8,9] 1 H_ H9
def Px:=cG ER CM (AH Ad) Bl
def Hx (x0 x1 x2:Int) (x3 x4:Bool) (x5 x6:Int) (x7:Bool) (x8:List Int):Option (List Int):=cG ER CM (AH Ad) Bl ⟨[(0,.row 0),(1,.int .i64 x0),(2,.int .i64 x1),(3,.int .i64 x2),(8,.bool x3),(9,.bool x4),(10,.int .i64 x5),(11,.int .i64 x6),(87,.bool x7)],[.mrow 3 (.int .i64) x8]⟩
def EU (x0 x1 x2:Int) (x3 x4:Bool) (x5 x6:Int) (x7:Bool) (x8:List Int):Option (List Int):=cG Hi Px (AH Ad) Bl ⟨[(0,.row 0),(1,.int .i64 x0),(2,.int .i64 x1),(3,.int .i64 x2),(8,.bool x3),(9,.bool x4),(10,.int .i64 x5),(11,.int .i64 x6),(87,.bool x7)],[.mrow 3 (.int .i64) x8]⟩
def CE (x0 x1 x2:Int) (x3 x4:Bool) (x5 x6:Int) (x7:List Int):Option (List Int):=cG Hj CM (AH Ad) Bl ⟨[(0,.row 0),(1,.int .i64 x0),(2,.int .i64 x1),(3,.int .i64 x2),(8,.bool x3),(9,.bool x4),(10,.int .i64 x5),(11,.int .i64 x6)],[.mrow 3 (.int .i64) x7]⟩
def EV (x0 x1 x2:Int) (x3 x4:Bool) (x5 x6 x7:Int) (x8:List Int):Option (List Int):=cG Hk CM (AH Ad) Bl ⟨[(0,.row 0),(1,.int .i64 x0),(2,.int .i64 x1),(3,.int .i64 x2),(8,.bool x3),(9,.bool x4),(10,.int .i64 x5),(11,.int .i64 x6),(12,.int .i64 x7)],[.mrow 3 (.int .i64) x8]⟩
def EW (x0 x1 x2:Int) (x3 x4:Bool) (x5:Int) (x6:List Int):Option (List Int):=cG Hl CM (AH Ad) Bl ⟨[(0,.row 0),(1,.int .i64 x0),(2,.int .i64 x1),(3,.int .i64 x2),(8,.bool x3),(9,.bool x4),(10,.int .i64 x5)],[.mrow 3 (.int .i64) x6]⟩
def CF (x0 x1 x2:Int) (x3 x4:Bool) (x5:List Int):Option (List Int):=Hw ⟨[(0,.row 0),(1,.int .i64 x0),(2,.int .i64 x1),(3,.int .i64 x2),(8,.bool x3),(9,.bool x4)],[.mrow 3 (.int .i64) x5]⟩
def O4 (x0 x1 x2:Int) (x3 x4:Bool) (x5 x6:Int) (x7:Bool) (x8:List Int):Option (List Int):=((Pl x0 x1 x6 x8).bind fun y9=>(if 8=0 then none else (if (decide ((i64.wrap (y9.1-x0))<(i64.wrap (x1-y9.1))))=true then ((Ci x0 y9.1 x2 y9.2.2).bind fun y10=>(CF (i64.wrap (y9.1+1)) x1 x2 (decide ((i64.wrap (y9.1-x0))>=(i64.wrap (Int.tdiv x5 8)))) y9.2.1 y10)) else ((Ci (i64.wrap (y9.1+1)) x1 x2 y9.2.2).bind fun y11=>(CF x0 y9.1 x2 (decide ((i64.wrap (x1-y9.1))>=(i64.wrap (Int.tdiv x5 8)))) y9.2.1 y11)))))
def O5 (x0 x1 x2:Int) (x3 x4:Bool) (x5 x6:Int) (x7:Bool) (x8:List Int):Option (List Int):=(if x7=true then ((Lq x0 x1 x6 x8).bind fun y8=>(CF y8.1 x1 x2 x3 x4 y8.2)) else (Hx x0 x1 x2 x3 x4 x5 x6 x7 x8))
def O6 (x0 x1 x2:Int) (x3 x4:Bool) (x5 x6:Int) (x7:List Int):Option (List Int):=(if (decide (x0>0))=true then (if 0<=(i64.wrap (x0-1)) then (if (i64.wrap (x0-1))<(x7.length:Int) then (if 0<=x6 then (if x6<(x7.length:Int) then ((NR (x7.getD ((i64.wrap (x0-1)).toNat) 0) (x7.getD x6.toNat 0)).bind fun y7=>(EU x0 x1 x2 x3 x4 x5 x6 (!y7) x7)) else none) else none) else none) else none) else (EU x0 x1 x2 x3 x4 x5 x6 false x7))
def O7 (x0 x1 x2:Int) (x3 x4:Bool) (x5 x6 x7:Int) (x8:List Int):Option (List Int):=(if x3=true then (if x4=true then (if (x7==1)=true then ((I4 x0 x1 x8).bind fun y6=>(if y6.1=true then (some y6.2) else (CE x0 x1 x2 x3 x4 x5 x6 y6.2))) else (CE x0 x1 x2 x3 x4 x5 x6 x8)) else (CE x0 x1 x2 x3 x4 x5 x6 x8)) else (CE x0 x1 x2 x3 x4 x5 x6 x8))
def O8 (x0 x1 x2:Int) (x3 x4:Bool) (x5:Int) (x6:List Int):Option (List Int):=((N9 x0 x1 x6).bind fun y4=>(if (y4.2.1==2)=true then ((NT x0 x1 y4.2.2).bind fun y5=>(EV x0 x1 x2 x3 x4 x5 (i64.wrap ((i64.wrap (x1-1))-(i64.wrap (y4.1-x0)))) 1 y5)) else (EV x0 x1 x2 x3 x4 x5 y4.1 y4.2.1 y4.2.2)))
def Hy (x0 x1 x2:Int) (x3 x4:Bool) (x5:List Int):Option (List Int):=(if (decide ((i64.wrap (x1-x0))<=12))=true then ((Di x0 x1 x5).bind fun y1=>(some y1)) else (if (x2==0)=true then ((QK x0 x1 x5).bind fun y2=>(some y2)) else (if (!x3)=true then ((Mi x0 x1 x5).bind fun y3=>(EW x0 x1 (i64.wrap (x2-1)) x3 x4 (i64.wrap (x1-x0)) y3)) else (EW x0 x1 x2 x3 x4 (i64.wrap (x1-x0)) x5))))
def JT (x1 x2 x3:Int) (b0:List Int):Option (List Int):=(CF x1 x2 x3 true true b0)
theorem nq:Le9 O4 Hx:=jS (by kernel_rfl)
theorem ns:Le9 O5 EU:=jS (by kernel_rfl)
theorem nt:z_ O6 CE:=jS (by kernel_rfl)
theorem nu:Le9 O7 EV:=jS (by kernel_rfl)
theorem nw:Le7 O8 EW:=jS (by kernel_rfl)
theorem O9:zz Hy CF:=lS (by kernel_rfl)
theorem R5:cH JT Ci:=cT Ad rfl ⟨rfl,rfl⟩ (by kernel_rfl)
def ay (x0:Int):Option Int:=((NS x0).bind fun y1=>(some y1))
theorem qj:Mk ay QJ:=cT LN rfl ⟨rfl,rfl⟩ (by kernel_rfl)
def JU (x0:List Z) (x1:Z) (x2:List Z):Option (List Z):=cG WQ (AH Et) (AH Et) kx ⟨[(0,.lst AF x0),(5,.row 1)],[.var (AF.enc x1),.rows 38 AF x2]⟩
def JV (x0:List Z) (x1:Int) (x2 x3:Bool) (x4:Z) (x5:List Z):Option (List Z):=cG WR (AH Et) (AH Et) kx ⟨[(0,.lst AF x0),(3,.ptr 0 0),(5,.row 1),(6,.int .i64 x1),(7,.bool x2),(32,.bool x3)],[.var (AF.enc x4),.rows 38 AF x5]⟩
def U4 (x0:List Z) (x1:Z) (x2:List Z):Option (List Z):=((GH x2).bind fun y5=>(if (!y5)=true then ((Ao x0).bind fun y6=>(some y6)) else (some x2)))
def U5 (x0:List Z) (x1:Int) (x2 x3:Bool) (x4:Z) (x5:List Z):Option (List Z):=(if x2=true then (if 0<=x1 then (if x1<(x5.length:Int) then (let z4:List Z:=x5.set x1.toNat x4; (JU x0 x4 z4)) else none) else none) else ((DG x5 x1 ([x4]:List Z)).bind fun y7=>(JU x0 x4 y7)))
def dz (x0:List Z) (x1:Z):Option (List Z):=((Ao x0).bind fun y1=>((Bd x0 x1.1 ()).bind fun y2=>((GH x0).bind fun y3=>(if (!y3)=true then (some y1) else (if y2.2=true then (if 0<=y2.1 then (if y2.1<(x0.length:Int) then (if (decide ((((x0.getD y2.1.toNat (O,O,0)).2).2)>=x1.2.2))=true then (some y1) else (JV x0 y2.1 y2.2 (decide ((((x0.getD y2.1.toNat (O,O,0)).2).2)>=x1.2.2)) x1 y1)) else none) else none) else (JV x0 y2.1 y2.2 false x1 y1))))))
theorem lL:Rn U4 JU:=jS (by kernel_rfl)
theorem lM:zz U5 JV:=jS (by kernel_rfl)
theorem uJ:N7 dz NQ:=cT Et rfl ⟨rfl,rfl⟩ (by kernel_rfl)
def qk:=cG Zk (AH Fy) (AH Fy) kx
def ql:=kE 0 [] [] 0 qk kx
def nx:St->Option (RT (BE.outs Fy)):=lG Zj [] [0,3] 0 (AH Fy) ql
def Hz (x0:List Int) (x1:Int):Option Bool:=nx ⟨[(0,.lst (.int .i64) x0),(3,.int .i64 x1)],[]⟩
def O_ (x0:List Int) (x1:Int):Option Bool:=(if (decide (x1<(x0.length:Int)))=true then (if 0<=x1 then (if x1<(x0.length:Int) then ((AX (x0.getD x1.toNat 0) 1 6).bind fun y1=>(if (!y1)=true then (some false) else (if (decide (x1>0))=true then (if 0<=(i64.wrap (x1-1)) then (if (i64.wrap (x1-1))<(x0.length:Int) then (if 0<=x1 then (if x1<(x0.length:Int) then (if (decide ((x0.getD (i64.wrap (x1-1)).toNat 0)>=(x0.getD x1.toNat 0)))=true then (some false) else (Hz x0 (i64.wrap (x1+1)))) else none) else none) else none) else none) else (Hz x0 (i64.wrap (x1+1)))))) else none) else none) else (some true))
def gK (x0:List Int):Option Bool:=(Hz x0 0)
theorem XG:N7 O_ Hz:=lS (by kernel_rfl)
theorem ve:Mk gK Dk:=cT Fy rfl ⟨rfl,rfl⟩ (by kernel_rfl)
def ny:=cG UW (AH Eu) (AH Eu) kx
def nz:=kE 0 [] [0] 0 ny kx
def lN:St->Option (RT (BE.outs Eu)):=lG UV [] [0,3] 0 (AH Eu) nz
def HA (x0:List Z) (x1:Int):Option Bool:=lN ⟨[(0,.lst AF x0),(3,.int .i64 x1)],[]⟩
def Nz (x0:List Z) (x1:Int):Option Bool:=(if (decide (x1<(x0.length:Int)))=true then (if 0<=x1 then (if x1<(x0.length:Int) then ((AX (((x0.getD x1.toNat (O,O,0)).1).size:Int) 1 12).bind fun y1=>(if (!y1)=true then (some false) else (if (decide (((((x0.getD x1.toNat (O,O,0)).2).1).size:Int)>20))=true then (some false) else ((AX (((x0.getD x1.toNat (O,O,0)).2).2) 1 1000000000).bind fun y2=>(if (!y2)=true then (some false) else (if (decide (x1>0))=true then (if 0<=(i64.wrap (x1-1)) then (if (i64.wrap (x1-1))<(x0.length:Int) then (if (!(Op.bytesLess ((x0.getD (i64.wrap (x1-1)).toNat (O,O,0)).1).toList ((x0.getD x1.toNat (O,O,0)).1).toList))=true then (some false) else (HA x0 (i64.wrap (x1+1)))) else none) else none) else (HA x0 (i64.wrap (x1+1))))))))) else none) else none) else (some (decide ((x0.length:Int)<=12))))
def d8 (x0:List Z):Option Bool:=(HA x0 0)
theorem U6:N7 Nz HA:=lS (by kernel_rfl)
theorem uK:Mk d8 Dy:=cT Eu rfl ⟨rfl,rfl⟩ (by kernel_rfl)
def XH (x0:w6):Option Bool:=(if (x0.1==0)=true then (if (x0.2.1==0)=true then (if (x0.2.2.1==0)=true then (if (false != P5 AF x0.2.2.2.1 (O,O,0))=true then (some ((x0.2.2.2.2.length:Int)==0)) else (some false)) else (some false)) else (some false)) else (some false))
theorem n5:Mk XH Ol:=cT KB rfl ⟨rfl,rfl⟩ (by kernel_rfl)
def ff:=cG RC (AH DB) (AH DB) kx
def fg:=kE 0 [(5,0)] [5] 1 ff kx
def d9:St->Option (RT (BE.outs DB)):=lG RB [(5,0)] [0,1,5,6] 1 (AH DB) fg
def Ez (x0:List Int) (x1 x2:Int) (x3:List Int):Option (List Int):=d9 ⟨[(0,.lst (.int .i64) x0),(1,.int .i64 x1),(5,.row 0),(6,.int .i64 x2)],[.rows 3 (.int .i64) x3]⟩
def Jn (x0:List Int) (x1 x2:Int) (x3:List Int):Option (List Int):=(if (decide (x2<(x0.length:Int)))=true then (if 0<=x2 then (if x2<(x0.length:Int) then (if ((x0.getD x2.toNat 0) != x1)=true then (if 0<=x2 then (if x2<(x0.length:Int) then (if x3.length+([(x0.getD x2.toNat 0)]:List Int).length<=68719476736 then (Ez x0 x1 (i64.wrap (x2+1)) (x3++([(x0.getD x2.toNat 0)]:List Int))) else none) else none) else none) else (Ez x0 x1 (i64.wrap (x2+1)) x3)) else none) else none) else (some x3))
def U7 (x0:List Int) (x1:Int):Option (List Int):=(Ez x0 x1 0 ([]:List Int))
theorem Py:cH Jn Ez:=lS (by kernel_rfl)
theorem lO:N7 U7 JJ:=cT DB rfl ⟨rfl,rfl⟩ (by kernel_rfl)
def DI:=kE 0 [] [] 1 (AH Aa) kx
def FY:St->Option (RT (BE.outs Aa)):=lG F4 [(0,0)] [0,1,2,6] 1 (AH Aa) DI
def LA:=kB [(0,0)] [0,1,2,6] 1 FY
def F5:=cG F3 LA (AH Aa) DI
def LB:=kB [(0,0)] [0,1,2,6] 1 F5
def LC:=kE 1 [(0,0)] [0,1,2,6] 1 F5 DI
def F6:=kE 2 [(0,0)] [0,1,2,6] 1 LB LC
def FZ:St->Option (RT (BE.outs Aa)):=lG F0 [(0,0)] [0,1,2,6,7] 1 (AH Aa) F6
def LD:=kB [(0,0)] [0,1,2,6,7] 1 FZ
def Fa (x0 x1 x2 x3:Int) (x4:Bool) (x5:List Int):Option (List Int):=cG Fz LD (AH Aa) F6 ⟨[(0,.row 0),(1,.int .i64 x0),(2,.int .i64 x1),(6,.int .i64 x2),(7,.int .i64 x3),(30,.bool x4)],[.mrow 3 (.int .i64) x5]⟩
def B7 (x0 x1 x2 x3:Int) (x4:List Int):Option (List Int):=FZ ⟨[(0,.row 0),(1,.int .i64 x0),(2,.int .i64 x1),(6,.int .i64 x2),(7,.int .i64 x3)],[.mrow 3 (.int .i64) x4]⟩
def BD (x0 x1 x2:Int) (x3:List Int):Option (List Int):=FY ⟨[(0,.row 0),(1,.int .i64 x0),(2,.int .i64 x1),(6,.int .i64 x2)],[.mrow 3 (.int .i64) x3]⟩
def Fb (x0 x1 x2 x3:Int) (x4:Bool) (x5:List Int):Option (List Int):=(if 0<=(i64.wrap (x3-1)) then (if (i64.wrap (x3-1))<(x5.length:Int) then (if 0<=x3 then (if x3<(x5.length:Int) then (if 0<=x3 then (if x3<(x5.length:Int) then (let z2:List Int:=x5.set x3.toNat (x5.getD ((i64.wrap (x3-1)).toNat) 0); (if 0<=(i64.wrap (x3-1)) then (if (i64.wrap (x3-1))<(z2.length:Int) then (let z3:List Int:=z2.set ((i64.wrap (x3-1)).toNat) (x5.getD x3.toNat 0); (B7 x0 x1 x2 (i64.wrap (x3-1)) z3)) else none) else none)) else none) else none) else none) else none) else none) else none)
def C9 (x0 x1 x2 x3:Int) (x4:List Int):Option (List Int):=(if (decide (x3>x0))=true then (if 0<=x3 then (if x3<(x4.length:Int) then (if 0<=(i64.wrap (x3-1)) then (if (i64.wrap (x3-1))<(x4.length:Int) then ((NR (x4.getD x3.toNat 0) (x4.getD ((i64.wrap (x3-1)).toNat) 0)).bind fun y1=>(if y1=true then (Fa x0 x1 x2 x3 y1 x4) else (BD x0 x1 (i64.wrap (x2+1)) x4))) else none) else none) else none) else none) else (BD x0 x1 (i64.wrap (x2+1)) x4))
def B8 (x0 x1 x2:Int) (x3:List Int):Option (List Int):=(if (decide (x2<x1))=true then (B7 x0 x1 x2 x2 x3) else (some x3))
def Dj (x1 x2:Int) (b0:List Int):Option (List Int):=(BD x1 x2 (i64.wrap (x1+1)) b0)
theorem Ku:zz Fb Fa:=jS (by kernel_rfl)
theorem Fc:zf C9 B7:=lS (by kernel_rfl)
theorem C_:cH B8 BD:=lS (by kernel_rfl)
theorem Ge:Rn Dj Di:=cT Aa rfl ⟨rfl,rfl⟩ (by kernel_rfl)
def d_ (x0 x1:Int):Option Bool:=((LQ x0).bind fun y1=>(if y1=true then ((LQ x1).bind fun y2=>(if (!y2)=false then (some (decide (x0<x1))) else (some true))) else (some (decide (x0<x1)))))
theorem uL:N7 d_ NR:=cT NK rfl ⟨rfl,rfl⟩ (by kernel_rfl)
def HB (x0 x1:Int):Option Int:=cG RD (AH DC) (AH DC) kx ⟨[(0,.int .u64 x0),(2,.int .i64 x1)],[]⟩
def Jo (x0 x1:Int):Option Int:=cG RE (AH DC) (AH DC) kx ⟨[(0,.int .u64 x0),(2,.int .i64 x1)],[]⟩
def Jp (x0 x1:Int):Option Int:=(if (decide (x0>=256))=true then (if 8<0 then none else (if 0<=(IntKind.u8.wrap (Int.fdiv x0 (2^(min (8:Int).toNat (IntKind.bits .u64))))) then (if (IntKind.u8.wrap (Int.fdiv x0 (2^(min (8:Int).toNat (IntKind.bits .u64)))))<((⟨#[0,1,2,2,3,3,3,3,4,4,4,4,4,4,4,4,5,5,5,5,5,5,5,5,5,5,5,5,5,5,5,5,6,6,6,6,6,6,6,6,6,6,6,6,6,6,6,6,6,6,6,6,6,6,6,6,6,6,6,6,6,6,6,6,7,7,7,7,7,7,7,7,7,7,7,7,7,7,7,7,7,7,7,7,7,7,7,7,7,7,7,7,7,7,7,7,7,7,7,7,7,7,7,7,7,7,7,7,7,7,7,7,7,7,7,7,7,7,7,7,7,7,7,7,7,7,7,7,8,8,8,8,8,8,8,8,8,8,8,8,8,8,8,8,8,8,8,8,8,8,8,8,8,8,8,8,8,8,8,8,8,8,8,8,8,8,8,8,8,8,8,8,8,8,8,8,8,8,8,8,8,8,8,8,8,8,8,8,8,8,8,8,8,8,8,8,8,8,8,8,8,8,8,8,8,8,8,8,8,8,8,8,8,8,8,8,8,8,8,8,8,8,8,8,8,8,8,8,8,8,8,8,8,8,8,8,8,8,8,8,8,8,8,8,8,8,8,8,8,8,8,8,8,8,8,8]⟩:ByteArray).size:Int) then (some (i64.wrap ((i64.wrap (x1+8))+(i64.wrap (((⟨#[0,1,2,2,3,3,3,3,4,4,4,4,4,4,4,4,5,5,5,5,5,5,5,5,5,5,5,5,5,5,5,5,6,6,6,6,6,6,6,6,6,6,6,6,6,6,6,6,6,6,6,6,6,6,6,6,6,6,6,6,6,6,6,6,7,7,7,7,7,7,7,7,7,7,7,7,7,7,7,7,7,7,7,7,7,7,7,7,7,7,7,7,7,7,7,7,7,7,7,7,7,7,7,7,7,7,7,7,7,7,7,7,7,7,7,7,7,7,7,7,7,7,7,7,7,7,7,7,8,8,8,8,8,8,8,8,8,8,8,8,8,8,8,8,8,8,8,8,8,8,8,8,8,8,8,8,8,8,8,8,8,8,8,8,8,8,8,8,8,8,8,8,8,8,8,8,8,8,8,8,8,8,8,8,8,8,8,8,8,8,8,8,8,8,8,8,8,8,8,8,8,8,8,8,8,8,8,8,8,8,8,8,8,8,8,8,8,8,8,8,8,8,8,8,8,8,8,8,8,8,8,8,8,8,8,8,8,8,8,8,8,8,8,8,8,8,8,8,8,8,8,8,8,8,8,8]⟩:ByteArray).data.toList.getD (IntKind.u8.wrap (Int.fdiv x0 (2^(min (8:Int).toNat (IntKind.bits .u64))))).toNat 0).toNat:Int))))) else none) else none)) else (if 0<=(IntKind.u8.wrap x0) then (if (IntKind.u8.wrap x0)<((⟨#[0,1,2,2,3,3,3,3,4,4,4,4,4,4,4,4,5,5,5,5,5,5,5,5,5,5,5,5,5,5,5,5,6,6,6,6,6,6,6,6,6,6,6,6,6,6,6,6,6,6,6,6,6,6,6,6,6,6,6,6,6,6,6,6,7,7,7,7,7,7,7,7,7,7,7,7,7,7,7,7,7,7,7,7,7,7,7,7,7,7,7,7,7,7,7,7,7,7,7,7,7,7,7,7,7,7,7,7,7,7,7,7,7,7,7,7,7,7,7,7,7,7,7,7,7,7,7,7,8,8,8,8,8,8,8,8,8,8,8,8,8,8,8,8,8,8,8,8,8,8,8,8,8,8,8,8,8,8,8,8,8,8,8,8,8,8,8,8,8,8,8,8,8,8,8,8,8,8,8,8,8,8,8,8,8,8,8,8,8,8,8,8,8,8,8,8,8,8,8,8,8,8,8,8,8,8,8,8,8,8,8,8,8,8,8,8,8,8,8,8,8,8,8,8,8,8,8,8,8,8,8,8,8,8,8,8,8,8,8,8,8,8,8,8,8,8,8,8,8,8,8,8,8,8,8,8]⟩:ByteArray).size:Int) then (some (i64.wrap (x1+(i64.wrap (((⟨#[0,1,2,2,3,3,3,3,4,4,4,4,4,4,4,4,5,5,5,5,5,5,5,5,5,5,5,5,5,5,5,5,6,6,6,6,6,6,6,6,6,6,6,6,6,6,6,6,6,6,6,6,6,6,6,6,6,6,6,6,6,6,6,6,7,7,7,7,7,7,7,7,7,7,7,7,7,7,7,7,7,7,7,7,7,7,7,7,7,7,7,7,7,7,7,7,7,7,7,7,7,7,7,7,7,7,7,7,7,7,7,7,7,7,7,7,7,7,7,7,7,7,7,7,7,7,7,7,8,8,8,8,8,8,8,8,8,8,8,8,8,8,8,8,8,8,8,8,8,8,8,8,8,8,8,8,8,8,8,8,8,8,8,8,8,8,8,8,8,8,8,8,8,8,8,8,8,8,8,8,8,8,8,8,8,8,8,8,8,8,8,8,8,8,8,8,8,8,8,8,8,8,8,8,8,8,8,8,8,8,8,8,8,8,8,8,8,8,8,8,8,8,8,8,8,8,8,8,8,8,8,8,8,8,8,8,8,8,8,8,8,8,8,8,8,8,8,8,8,8,8,8,8,8,8,8]⟩:ByteArray).data.toList.getD (IntKind.u8.wrap x0).toNat 0).toNat:Int))))) else none) else none))
def Pz (x0 x1:Int):Option Int:=(if (decide (x0>=65536))=true then (if 16<0 then none else (HB (Int.fdiv x0 (2^(min (16:Int).toNat (IntKind.bits .u64)))) (i64.wrap (x1+16)))) else (HB x0 x1))
def U8 (x0:Int):Option Int:=(if (decide (x0>=4294967296))=true then (if 32<0 then none else (Jo (Int.fdiv x0 (2^(min (32:Int).toNat (IntKind.bits .u64)))) 32)) else (Jo x0 0))
theorem eA:N7 Jp HB:=jS (by kernel_rfl)
theorem eB:N7 Pz Jo:=jS (by kernel_rfl)
theorem lP:Mk U8 NS:=cT DC rfl ⟨rfl,rfl⟩ (by kernel_rfl)
def FM:=cG BY (AH AN) (AH AN) kx
def FN:=kE 0 [] [0,1,2,8,9] 0 FM kx
def E1:St->Option (RT (BE.outs AN)):=lG CX [] [0,1,2,8,9,10] 0 (AH AN) FN
def CU (x0:List Z) (x1:ByteArray) (x2 x3:Int):Option (Int×Bool):=cG BY (AH AN) (AH AN) kx ⟨[(0,.lst AF x0),(1,.str x1),(2,.fn 160 []),(8,.int .i64 x2),(9,.int .i64 x3)],[]⟩
def AR (x0:List Z) (x1:ByteArray) (x2 x3 x4:Int):Option (Int×Bool):=E1 ⟨[(0,.lst AF x0),(1,.str x1),(2,.fn 160 []),(8,.int .i64 x2),(9,.int .i64 x3),(10,.int .i64 x4)],[]⟩
def CV (x0:List Z) (x1:ByteArray) (x2 x3:Int):Option (Int×Bool):=(if (decide (x3<x2))=true then (if 0<=x3 then (if x3<(x0.length:Int) then ((KF (x0.getD x3.toNat (O,O,0)) x1).bind fun y2=>(some (x3,(y2==0)))) else none) else none) else (some (x3,false)))
def BU (x0:List Z) (x1:ByteArray) (x2 x3 x4:Int):Option (Int×Bool):=(if (decide (x3<x4))=true then (if 1<0 then none else (if 0<=(i64.wrap (Int.fdiv (IntKind.u64.wrap (i64.wrap (x3+x4))) (2^(min (1:Int).toNat (IntKind.bits .u64))))) then (if (i64.wrap (Int.fdiv (IntKind.u64.wrap (i64.wrap (x3+x4))) (2^(min (1:Int).toNat (IntKind.bits .u64)))))<(x0.length:Int) then ((KF (x0.getD (i64.wrap (Int.fdiv (IntKind.u64.wrap (i64.wrap (x3+x4))) (2^(min (1:Int).toNat (IntKind.bits .u64))))).toNat (O,O,0)) x1).bind fun y1=>(if (decide (y1<0))=true then (AR x0 x1 x2 (i64.wrap ((i64.wrap (Int.fdiv (IntKind.u64.wrap (i64.wrap (x3+x4))) (2^(min (1:Int).toNat (IntKind.bits .u64)))))+1)) x4) else (AR x0 x1 x2 x3 (i64.wrap (Int.fdiv (IntKind.u64.wrap (i64.wrap (x3+x4))) (2^(min (1:Int).toNat (IntKind.bits .u64)))))))) else none) else none)) else (CU x0 x1 x2 x3))
def Cj (x0:List Z) (x1:ByteArray) (x2:Unit):Option (Int×Bool):=(AR x0 x1 (x0.length:Int) 0 (x0.length:Int))
theorem E2:cH CV CU:=jS (by kernel_rfl)
theorem CW:zf BU AR:=lS (by kernel_rfl)
theorem Fs:Rn Cj Bd:=cT AN rfl ⟨rfl,rfl⟩ (by kernel_rfl)
def XI (x0:Z) (x1:ByteArray):Option Int:=((NU x0.1 x1).bind fun y1=>(some y1))
theorem n6:N7 XI KF:=cT KC rfl ⟨rfl,rfl⟩ (by kernel_rfl)
def az (x0:Int):Option Bool:=(some (x0 != x0))
theorem qm:Mk az LQ:=cT LO rfl ⟨rfl,rfl⟩ (by kernel_rfl)
end
end Go.Proofs.YtokiohnjegbnpaaGreat.Core


namespace Go.Proofs.YtokiohnjegbnpaaGreat.Core
open Go
theorem Ae {n:Int} (h:-9223372036854775808<=n/\n<=9223372036854775807):IntKind.i64.wrap n=n:=IntWalk.i64_in n h
theorem AM {i:Nat} (h:i<9223372036854775807):IntKind.i64.wrap ((i:Int)+1)=((i+1:Nat):Int):=by
 rw [Ae (by omega)]
 omega
theorem E3 {P:Nat->Prop} {n:Nat} (h0:P n) (h:∀ i,i<n->P (i+1)->P i):∀ i,i<=n->P i:=by
 intro i hi
 induction hk:n-i generalizing i with
 | zero =>
  have:i=n:=by omega
  subst this
  exact h0
 | succ k ih=>exact h i (by omega) (ih (i+1) (by omega) (by omega))
theorem AW {α:Type} {xs:List α} {i:Nat} {d:α} (h:i<xs.length):xs.getD i d=xs[i]:=by
 simp [List.getD,h]

theorem Ay (a b c:Int):AX a b c=some (decide (b<=a)&&decide (a<=c)):=xz (by
 unfold kM
 by_cases h:b<=a<;>simp [h])
theorem Av (a b c:Int):Ah a b c=some (decide (b<=a)&&decide (a<=c)):=ta (by
 unfold dM
 by_cases h:b<=a<;>simp [h])
def EY (x:Int×ByteArray×ByteArray×Int×Int×Int×Int×Int×ByteArray):Int :=
 if (decide ((0:Int)<=x.2.2.2.2.2.2.1)&&decide (x.2.2.2.2.2.2.1<=9))&&(decide ((0:Int)<=x.2.2.2.2.2.2.2.1)&&decide (x.2.2.2.2.2.2.2.1<=999)) then IntKind.i64.wrap (IntKind.i64.wrap (1000*x.2.2.2.2.2.2.1)+x.2.2.2.2.2.2.2.1) else 0
theorem Qp x:Fn x=some (EY x):=xx (by
 unfold kI EY
 simp only [Ay,Y]
 generalize (decide ((0:Int)<=x.2.2.2.2.2.2.1)&&decide (x.2.2.2.2.2.2.1<=9))=a
 generalize (decide ((0:Int)<=x.2.2.2.2.2.2.2.1)&&decide (x.2.2.2.2.2.2.2.1<=999))=b
 cases a<;>cases b<;>simp)
theorem Qq x:Dr x=some (EY x):=xm (by
 unfold jv EY
 simp only [Av,Y]
 generalize (decide ((0:Int)<=x.2.2.2.2.2.2.1)&&decide (x.2.2.2.2.2.2.1<=9))=a
 generalize (decide ((0:Int)<=x.2.2.2.2.2.2.2.1)&&decide (x.2.2.2.2.2.2.2.1<=999))=b
 cases a<;>cases b<;>simp)

def BR (x:List (ByteArray×ByteArray×Int)) (k:ByteArray):ByteArray×ByteArray×Int :=
 (x.find? fun a=>a.1.toList==k.toList).getD (O,O,0)
theorem BL {α:Type} {x:List α} {i:Nat} (h:i<x.length):x.drop i=x[i]::x.drop (i+1):=List.drop_eq_getElem_cons h
theorem XJ (x k) (h:x.length<=maxLen):PP x k=some (BR x k):=vY (by
 have hm:x.length<=9223372036854775807:=h
 unfold gH
 exact E3 (n:=x.length) (P:=fun i=>∀ z,KM x k (i:Int) z=some (BR (x.drop i) k)) (fun z=>W3 (by
  unfold Oz
  rw [if_neg (by simp),List.drop_length]
  rfl)) (fun i hi ih z=>W3 (by
  unfold Oz
  simp only [show ((i:Int)<(x.length:Int)) from by omega,decide_true,if_true,show (0:Int)<=(i:Int) from by omega,Aj,AW hi,AM (show i<9223372036854775807 by omega)]
  rw [BL hi]
  by_cases hk:(x[i].1.toList==k.toList)=true
  ·rw [if_pos hk]
   unfold BR
   rw [List.find?_cons,hk]
   rfl
  ·rw [if_neg hk,ih]
   unfold BR
   rw [List.find?_cons,Bool.eq_false_iff.2 hk])) 0 (by omega) _)
theorem XK (x k) (h:x.length<=maxLen):PO x k=some (BR x k):=vX (by
 have hm:x.length<=9223372036854775807:=h
 unfold gG
 exact E3 (n:=x.length) (P:=fun i=>∀ z,KL k x (x.length:Int) (i:Int) z=some (BR (x.drop i) k)) (fun z=>Wx (by
  unfold Oy
  rw [if_neg (by simp),List.drop_length]
  rfl)) (fun i hi ih z=>Wx (by
  unfold Oy
  simp only [show ((i:Int)<(x.length:Int)) from by omega,decide_true,if_true,show (0:Int)<=(i:Int) from by omega,Aj,AW hi,AM (show i<9223372036854775807 by omega)]
  rw [BL hi]
  by_cases hk:(x[i].1.toList==k.toList)=true
  ·rw [if_pos hk]
   unfold BR
   rw [List.find?_cons,hk]
   rfl
  ·rw [if_neg hk,ih]
   unfold BR
   rw [List.find?_cons,Bool.eq_false_iff.2 hk])) 0 (by omega) _)

theorem Qr k:R1 k=some (decide (1<=(k.size:Int))&&decide ((k.size:Int)<=12)):=yA (by simp [kg,Av])
theorem GB n:Ef n=some (decide (1<=n)&&decide (n<=6)):=vS (by simp [gE,Av])
def yH (v:ByteArray):Bool:=v.toList==(⟨#[]⟩:ByteArray).toList
theorem n7 (v:ByteArray):(v.toList==(⟨#[]⟩:ByteArray).toList)=yH v:=rfl
def lQ (op:Int) (k v:ByteArray):Bool :=
 (decide (op=1)||decide (op=2))&&(decide (1<=(k.size:Int))&&decide ((k.size:Int)<=12))&&decide ((v.size:Int)<=20)&&(decide (op=1)||yH v)
def MA (x:Int×Int×Int×Int×ByteArray×ByteArray):Bool :=
 decide (1<=x.1)&&decide (x.1<=6)&&(decide (1<=x.2.1)&&decide (x.2.1<=6))&&decide (0<=x.2.2.1) &&
  (if x.1=1 then lQ x.2.2.2.1 x.2.2.2.2.1 x.2.2.2.2.2 else decide (x.2.2.2.1=0)&&yH x.2.2.2.2.1&&yH x.2.2.2.2.2)
theorem qn a k v:NL a 0 k v=some (lQ a k v):=kY (by
 have w:∀ b,LU a v b=some (decide (a=1)||yH v):=fun b=>aN (by
  unfold Qg
  rw [n7]
  by_cases h:a=1<;>simp [h])
 unfold YC lQ
 have ABR:decide ((v.size:Int)>20)=!decide ((v.size:Int)<=20):=by
  by_cases h:(v.size:Int)<=20<;>simp [h]
  omega
 simp only [ABR,Av,Qr,Y,w]
 by_cases h1:a=1
 ·by_cases h2:1<=(k.size:Int)<;>by_cases h3:(k.size:Int)<=12<;>by_cases h4:(v.size:Int)<=20<;>simp [h1,h2,h3,h4]
 ·by_cases h1b:a=2
  ·by_cases h2:1<=(k.size:Int)<;>by_cases h3:(k.size:Int)<=12<;>by_cases h4:(v.size:Int)<=20<;>simp [h1b,h2,h3,h4]
  ·have:¬ (1<=a/\a<=2):=by omega
   by_cases h5:1<=a
   ·have:¬ a<=2:=by omega
    simp [h1,h1b,this]
   ·simp [h1,h1b,h5])
theorem lR x:Sf x=some (MA x):=tX (by
 have w:∀ b,NY b x=some (if x.1=1 then lQ x.2.2.2.1 x.2.2.2.2.1 x.2.2.2.2.2 else decide (x.2.2.2.1=0)&&yH x.2.2.2.2.1&&yH x.2.2.2.2.2):=fun b=>kA (by
  unfold Ub
  simp only [n7]
  by_cases h:x.1=1
  ·simp [h,qn]
  ·by_cases h2:x.2.2.2.1=0<;>rcases Bool.eq_false_or_eq_true (yH x.2.2.2.2.1) with h3 | h3<;>simp [h,h2,h3])
 unfold dI MA
 simp only [Av,GB,Y,w]
 by_cases h1:1<=x.1<;>by_cases h2:x.1<=6<;>by_cases h3:1<=x.2.1<;>by_cases h4:x.2.1<=6<;>by_cases h5:0<=x.2.2.1<;>simp [h1,h2,h3,h4,h5]<;>omega)
theorem lT x:Sg x=some (MA x):=tY (by
 have w:∀ b,NZ b x=some (if x.1=1 then lQ x.2.2.2.1 x.2.2.2.2.1 x.2.2.2.2.2 else decide (x.2.2.2.1=0)&&yH x.2.2.2.2.1&&yH x.2.2.2.2.2):=fun b=>kF (by
  unfold Uc lQ
  simp only [n7]
  by_cases h:x.1=1
  ·simp only [Ay,Y]
   by_cases g1:x.2.2.2.1=1
   ·by_cases h2:1<=(x.2.2.2.2.1.size:Int)<;>by_cases h3:(x.2.2.2.2.1.size:Int)<=12<;>by_cases h4:(x.2.2.2.2.2.size:Int)<=20<;>simp [h,g1,h2,h3,h4]
   ·by_cases g2:x.2.2.2.1=2
    ·by_cases h2:1<=(x.2.2.2.2.1.size:Int)<;>by_cases h3:(x.2.2.2.2.1.size:Int)<=12<;>by_cases h4:(x.2.2.2.2.2.size:Int)<=20<;>simp [h,g2,h2,h3,h4]
    ·simp [h,g1,g2]
  ·by_cases h2:x.2.2.2.1=0<;>rcases Bool.eq_false_or_eq_true (yH x.2.2.2.2.1) with h3 | h3<;>simp [h,h2,h3])
 unfold dJ MA
 simp only [Ay,Y,w]
 by_cases h1:1<=x.1<;>by_cases h2:x.1<=6<;>by_cases h3:1<=x.2.1<;>by_cases h4:x.2.1<=6<;>by_cases h5:0<=x.2.2.1<;>simp [h1,h2,h3,h4,h5]<;>omega)

def KR (a:ByteArray×ByteArray×Int):Bool:=(decide (1<=(a.1.size:Int))&&decide ((a.1.size:Int)<=12))&&decide ((a.2.1.size:Int)<=20)&&(decide (1<=a.2.2)&&decide (a.2.2<=1000000000))
def CQ (x:List (ByteArray×ByteArray×Int)) (i:Nat):Nat->Bool
 | 0=>decide ((x.length:Int)<=12)
 | k+1=>KR (x.getD i (O,O,0))&&(decide (i=0)||Op.bytesLess (x.getD (i-1) (O,O,0)).1.toList (x.getD i (O,O,0)).1.toList)&&CQ x (i+1) k
theorem ABR (n:Int):decide (n>20)=!decide (n<=20):=by
 by_cases h:n<=20<;>simp [h]
 omega
theorem ee {i:Nat} (h:i<9223372036854775807) (h0:0<i):IntKind.i64.wrap ((i:Int)-1)=((i-1:Nat):Int):=by
 rw [Ae (by omega)]
 omega
theorem JW (x) (h:x.length<=maxLen):Dy x=some (CQ x 0 x.length):=uK (by
 have hm:x.length<=9223372036854775807:=h
 unfold d8
 have:=E3 (n:=x.length) (P:=fun i=>HA x (i:Int)=some (CQ x i (x.length-i))) (U6 (by
  unfold Nz
  rw [if_neg (by simp),Nat.sub_self]
  rfl)) (fun i hi ih=>U6 (by
  unfold Nz
  have e:x.length-i=(x.length-(i+1))+1:=by omega
  simp only [show ((i:Int)<(x.length:Int)) from by omega,decide_true,if_true,show (0:Int)<=(i:Int) from by omega,Aj,AM (show i<9223372036854775807 by omega),ih,Ay,Y,ABR]
  rw [e,CQ,KR]
  generalize (decide (1<=((x.getD i (O,O,0)).1.size:Int))&&decide (((x.getD i (O,O,0)).1.size:Int)<=12))=a
  generalize decide (((x.getD i (O,O,0)).2.1.size:Int)<=20)=b
  generalize (decide (1<=(x.getD i (O,O,0)).2.2)&&decide ((x.getD i (O,O,0)).2.2<=1000000000))=c
  cases a
  ·simp
  cases b
  ·simp
  cases c
  ·simp
  by_cases h0:0<i
  ·rw [ee (by omega) h0]
   simp only [Aj,show ((0:Int)<=((i-1:Nat):Int)) from by omega,show (((i-1:Nat):Int)<(x.length:Int)) from by omega,if_true]
   rcases Bool.eq_false_or_eq_true (Op.bytesLess (x.getD (i-1) (O,O,0)).1.toList (x.getD i (O,O,0)).1.toList) with hb | hb<;>simp only [hb]<;>simp [h0,show i≠0 by omega]
  ·have:i=0:=by omega
   subst this
   simp)) 0 (by omega)
 simpa using this)
theorem N0 (x) (h:x.length<=maxLen) (hl:∀ a b:List UInt8,(Op.bytesLess a b||a==b)=!Op.bytesLess b a):GH x=some (CQ x 0 x.length):=tc (by
 have hm:x.length<=9223372036854775807:=h
 unfold dP
 have:=E3 (n:=x.length) (P:=fun i=>G5 x x (x.length:Int) (i:Int)=some (CQ x i (x.length-i))) (Ue (by
  unfold Nc
  rw [if_neg (by simp),Nat.sub_self]
  rfl)) (fun i hi ih=>Ue (by
  unfold Nc
  have e:x.length-i=(x.length-(i+1))+1:=by omega
  simp only [show ((i:Int)<(x.length:Int)) from by omega,decide_true,if_true,show (0:Int)<=(i:Int) from by omega,Aj,AM (show i<9223372036854775807 by omega),ih,Av,Qr,Y,ABR,hl]
  rw [e,CQ,KR]
  generalize (decide (1<=((x.getD i (O,O,0)).1.size:Int))&&decide (((x.getD i (O,O,0)).1.size:Int)<=12))=a
  generalize decide (((x.getD i (O,O,0)).2.1.size:Int)<=20)=b
  generalize (decide (1<=(x.getD i (O,O,0)).2.2)&&decide ((x.getD i (O,O,0)).2.2<=1000000000))=c
  cases a
  ·simp
  cases b
  ·simp
  cases c
  ·simp
  by_cases h0:0<i
  ·rw [ee (by omega) h0]
   simp only [Aj,show ((0:Int)<=((i-1:Nat):Int)) from by omega,show (((i-1:Nat):Int)<(x.length:Int)) from by omega,if_true]
   rcases Bool.eq_false_or_eq_true (Op.bytesLess (x.getD (i-1) (O,O,0)).1.toList (x.getD i (O,O,0)).1.toList) with hb | hb<;>simp only [hb]<;>simp [h0,show i≠0 by omega]
  ·have:i=0:=by omega
   subst this
   simp)) 0 (by omega)
 simpa using this)
theorem P0:∀ a b:List UInt8,(Op.bytesLess a b||a==b)=!Op.bytesLess b a
 | [],[]=>rfl
 | [],_::_=>rfl
 | _::_,[]=>rfl
 | a::l,b::m=>by
  have ih:=P0 l m
  simp only [Op.bytesLess]
  by_cases h1:a<b
  ·have h2:¬ b<a:=by exact UInt8.not_lt.2 (UInt8.le_of_lt h1)
   have h3:¬ b=a:=fun h=>by subst h; exact absurd h1 (UInt8.lt_irrefl _)
   simp [h1,h2,h3]
  ·by_cases h2:b<a
   ·have h3:¬ a=b:=fun h=>by subst h; exact absurd h2 (UInt8.lt_irrefl _)
    simp [h1,h2,h3]
   ·have h3:a=b:=UInt8.le_antisymm (UInt8.not_lt.1 h2) (UInt8.not_lt.1 h1)
    subst h3
    simpa [h1] using ih

abbrev AP:Type:=ByteArray×ByteArray×Int
abbrev uM:AP:=(O,O,(0:Int))
theorem en:∀ a:List UInt8,Op.bytesLess a a=false
 | []=>rfl
 | a::l=>by simp [Op.bytesLess,en l,UInt8.lt_irrefl]
theorem eC:∀ {a b c:List UInt8},Op.bytesLess a b=true->Op.bytesLess b c=true->Op.bytesLess a c=true
 | _,[],_,h,_=>by cases ‹List UInt8› <;> simp [Op.bytesLess] at h
 | _,_::_,[],_,h=>by simp [Op.bytesLess] at h
 | [],_::_,_::_,_,_=>rfl
 | a::x,b::y,c::z,h,g=>by
  simp only [Op.bytesLess,E5,decide_eq_true_eq,AD,beq_iff_eq] at h g ⊢
  rcases h with h | ⟨rfl,h⟩
  ·rcases g with g | ⟨rfl,g⟩
   ·exact .inl (UInt8.lt_trans h g)
   ·exact .inl h
  ·rcases g with g | ⟨rfl,g⟩
   ·exact .inl g
   ·exact .inr ⟨rfl,eC h g⟩
theorem uN:∀ a b:List UInt8,decide (Lib.compareBytes a b<0)=Op.bytesLess a b/\(Lib.compareBytes a b==0)=(a==b)
 | [],[]=>⟨rfl,rfl⟩
 | [],_::_=>⟨rfl,rfl⟩
 | _::_,[]=>⟨rfl,rfl⟩
 | a::l,b::m=>by
  have ih:=uN l m
  simp only [Lib.compareBytes,Op.bytesLess]
  by_cases h1:a<b
  ·have h3:¬ a=b:=fun h=>by subst h; exact absurd h1 (UInt8.lt_irrefl _)
   simp [h1,h3]
  ·by_cases h2:b<a
   ·have h3:¬ a=b:=fun h=>by subst h; exact absurd h2 (UInt8.lt_irrefl _)
    simp [h1,h2,h3]
   ·have h3:a=b:=UInt8.le_antisymm (UInt8.not_lt.1 h2) (UInt8.not_lt.1 h1)
    subst h3
    simpa [h1] using ih
theorem Rh (a:AP) (k:ByteArray):KF a k=some (Lib.compareBytes a.1.toList k.toList):=n6 (by
 unfold XI
 rw [jk,ByteArray.toList_eq,ByteArray.toList_eq]
 rfl)
def XL (x:List AP) (i:Nat) (k:ByteArray):Bool:=match x[i]? with
 | some b=>b.1.toList==k.toList
 | none=>false
def Vb (k:ByteArray) (b:AP):Bool:=Op.bytesLess b.1.toList k.toList
def LZ (x:List AP):Prop:=∀ a b (ha:a<x.length) (hb:b<x.length),a<b->Op.bytesLess x[a].1.toList x[b].1.toList=true
def ol (x:List AP) (k:ByteArray) (i j:Nat):Prop:=∀ a (ha:a<x.length),(a<i->Vb k x[a]=true)/\(j<=a->Vb k x[a]=false)
theorem AEM {i j:Nat} (h:i+j<=137438953472):IntKind.i64.wrap (Int.fdiv (IntKind.u64.wrap (IntKind.i64.wrap ((i:Int)+(j:Int)))) (2^(min (1:Int).toNat (IntKind.bits .u64))))=(((i+j) / 2:Nat):Int):=by
 have e1:IntKind.i64.wrap ((i:Int)+(j:Int))=((i+j:Nat):Int):=by rw [Ae (by omega)]; omega
 have e2:IntKind.u64.wrap ((i+j:Nat):Int)=((i+j:Nat):Int):=by
  simp only [IntKind.wrap,IntKind.bits,IntKind.signed]
  simp
  omega
 have e3:(2:Int)^(min (1:Int).toNat (IntKind.bits .u64))=2:=by decide
 rw [e1,e2,e3,Int.fdiv_eq_ediv_of_nonneg _ (by omega)]
 rw [Ae (by omega)]
 omega
theorem zP (x:List AP) (k:ByteArray) (hx:x.length<=68719476736):∀ (m i j:Nat),j-i<=m->i<=j->j<=x.length ->
  ∃ r:Nat,i<=r/\r<=j/\AR x k (x.length:Int) (i:Int) (j:Int)=some ((r:Int),XL x r k)/\(LZ x->ol x k i j->ol x k r r):=by
 intro m
 induction m with
 | zero =>
  intro i j hm hij hj
  have:i=j:=by omega
  subst this
  refine ⟨i,Nat.le_refl _,Nat.le_refl _,CW ?_,fun _ h=>h⟩
  unfold BU
  rw [if_neg (by simp)]
  refine E2 ?_
  unfold CV XL
  by_cases h:i<x.length
  ·simp only [show ((i:Int)<(x.length:Int)) from by omega,decide_true,if_true,show (0:Int)<=(i:Int) from by omega,Aj,AW h,Rh,Y,(uN _ _).2,List.getElem?_eq_getElem h]
  ·rw [if_neg (by simp; omega),Dl (by omega)]
 | succ m ih =>
  intro i j hm hij hj
  by_cases hlt:i<j
  ·have hmid:i<=(i+j) / 2/\(i+j) / 2<j:=by omega
   generalize hh:(i+j) / 2=h at hmid
   have hb:h<x.length:=by omega
   have step:∀ r,(if Vb k x[h]=true then AR x k (x.length:Int) ((h+1:Nat):Int) (j:Int) else AR x k (x.length:Int) (i:Int) (h:Int))=some r->AR x k (x.length:Int) (i:Int) (j:Int)=some r:=fun r hr=>CW (by
    unfold BU
    simp only [show ((i:Int)<(j:Int)) from by omega,decide_true,if_true,AEM (show i+j<=137438953472 by omega),hh,show ¬ ((1:Int)<0) from by decide,if_false,show ((0:Int)<=(h:Int)) from by omega,show ((h:Int)<(x.length:Int)) from by omega,Aj,AW hb,Rh,Y,(uN _ _).1,AM (show h<9223372036854775807 by omega)]
    exact hr)
   cases hl:Vb k x[h] with
   | true =>
    obtain ⟨r,h1,h2,h3,h4⟩:=ih (h+1) j (by omega) (by omega) hj
    refine ⟨r,by omega,h2,step _ (by rw [hl]; exact h3),fun ho hc=>h4 ho fun a ha=>⟨fun hlt=>?_,(hc a ha).2⟩⟩
    by_cases e:a=h
    ·subst e; exact hl
    ·exact eC (ho a h ha hb (by omega)) hl
   | false =>
    obtain ⟨r,h1,h2,h3,h4⟩:=ih i h (by omega) hmid.1 (by omega)
    refine ⟨r,h1,by omega,step _ (by rw [hl]; exact h3),fun ho hc=>h4 ho fun a ha=>⟨(hc a ha).1,fun hle=>?_⟩⟩
    by_cases e:a=h
    ·subst e; exact hl
    ·cases q:Vb k x[a] with
     | false=>rfl
     | true =>
      have:=eC (ho h a hb ha (by omega)) q
      rw [show Op.bytesLess x[h].1.toList k.toList=false from hl] at this
      cases this
  ·have:i=j:=by omega
   subst this
   exact ih i i (by omega) (Nat.le_refl _) hj
theorem ABS (x:List AP) (k:ByteArray) (hx:x.length<=68719476736):∃ r:Nat,r<=x.length/\Bd x k ()=some ((r:Int),XL x r k)/\(LZ x->ol x k r r):=by
 obtain ⟨r,_,h2,h3,h4⟩:=zP x k hx x.length 0 x.length (by omega) (by omega) (Nat.le_refl _)
 refine ⟨r,h2,Fs (by unfold Cj; exact h3),fun ho=>h4 ho fun a ha=>⟨fun h=>by omega,fun h=>by omega⟩⟩
theorem eD {x:List AP}:∀ (m i:Nat),CQ x i m=true->∀ a,i<=a->a<i+m->a≠0->Op.bytesLess (x.getD (a-1) uM).1.toList (x.getD a uM).1.toList=true
 | 0,i,_,a,h1,h2,_=>by omega
 | m+1,i,h,a,h1,h2,h0=>by
  simp only [CQ,AD,E5,decide_eq_true_eq] at h
  obtain ⟨⟨_,h3⟩,h4⟩:=h
  by_cases e:a=i
  ·subst e
   exact h3.resolve_left h0
  ·exact eD m (i+1) h4 a (by omega) (by omega) h0
theorem eE {x:List AP} (h:CQ x 0 x.length=true):LZ x:=by
 have st:=eD _ _ h
 have:∀ d a (ha:a+d+1<x.length),Op.bytesLess (x.getD a uM).1.toList (x.getD (a+d+1) uM).1.toList=true:=by
  intro d
  induction d with
  | zero=>intro a ha; exact st (a+1) (by omega) (by omega) (by omega)
  | succ d ih =>
   intro a ha
   exact eC (ih a (by omega)) (st (a+(d+1)+1) (by omega) (by omega) (by omega))
 intro a b ha hb hab
 have:=this (b-a-1) a (by omega)
 rw [show a+(b-a-1)+1=b by omega,AW ha,AW hb] at this
 exact this
theorem zQ {x:List AP} {k:ByteArray} {r:Nat} (hr:r<=x.length) (h:ol x k r r):x.take r=x.filter (Vb k)/\x.drop r=x.filter (fun b=>!Vb k b):=by
 have e1:(x.take r).filter (Vb k)=x.take r:=List.filter_eq_self.2 fun b hb=>by
  obtain ⟨a,ha,rfl⟩:=EZ hb
  rw [List.length_take] at ha
  rw [List.getElem_take]
  exact (h a (by omega)).1 (by omega)
 have e2:(x.drop r).filter (Vb k)=[]:=List.filter_eq_nil_iff.2 fun b hb=>by
  obtain ⟨a,ha,rfl⟩:=EZ hb
  rw [List.length_drop] at ha
  rw [List.getElem_drop]
  have:=(h (r+a) (by omega)).2 (by omega)
  simp [this]
 have e3:(x.take r).filter (fun b=>!Vb k b)=[]:=List.filter_eq_nil_iff.2 fun b hb=>by
  obtain ⟨a,ha,rfl⟩:=EZ hb
  rw [List.length_take] at ha
  rw [List.getElem_take]
  have:=(h a (by omega)).1 (by omega)
  simp [this]
 have e4:(x.drop r).filter (fun b=>!Vb k b)=x.drop r:=List.filter_eq_self.2 fun b hb=>by
  obtain ⟨a,ha,rfl⟩:=EZ hb
  rw [List.length_drop] at ha
  rw [List.getElem_drop]
  have:=(h (r+a) (by omega)).2 (by omega)
  simp [this]
 have f1:x.filter (Vb k)=(x.take r).filter (Vb k)++(x.drop r).filter (Vb k):=by rw [<- List.filter_append,List.take_append_drop]
 have f2:x.filter (fun b=>!Vb k b)=(x.take r).filter (fun b=>!Vb k b)++(x.drop r).filter (fun b=>!Vb k b):=by rw [<- List.filter_append,List.take_append_drop]
 rw [f1,f2,e1,e2,e3,e4]
 simp
theorem AAF {x:List AP} {k:ByteArray} {r:Nat} (ho:LZ x) (h:ol x k r r) (j:Nat) (hj:j<x.length) (e:x[j].1.toList=k.toList):j=r:=by
 rcases Nat.lt_trichotomy j r with g | g | g
 ·have:=(h j hj).1 g
  simp only [Vb,e,en] at this
  cases this
 ·exact g
 ·have h1:=ho r j (by omega) hj g
  have h2:=(h r (by omega)).2 (Nat.le_refl _)
  rw [e] at h1
  rw [show Vb k x[r]=true from h1] at h2
  cases h2
def a_ (x:List AP) (a:AP):Bool:=x.any fun b=>(b.1.toList==a.1.toList)&&decide (b.2.2>=a.2.2)
def Qs (k:ByteArray) (b:AP):Bool:=!(Op.bytesLess b.1.toList k.toList||(b.1.toList==k.toList))
def Tf (x:List AP) (a:AP):List AP:=x.filter (Vb a.1)++[a]++x.filter (Qs a.1)
def BA (x:List AP):Bool:=CQ x 0 x.length
def Aq (x:List AP) (a:AP):List AP:=if a_ x a=true then x else if BA x=true then (if BA (Tf x a)=true then Tf x a else x) else x
theorem AAG {x:List AP} {k:ByteArray} {r:Nat} (hr:r<=x.length) (h:ol x k r r):x.filter (Qs k)=(x.drop r).filter fun b=>!(b.1.toList==k.toList):=by
 rw [(zQ hr h).2,List.filter_filter]
 congr 1
 funext b
 simp only [Qs,Vb,Bool.not_or]
 exact Bool.and_comm _ _
theorem N1 (x:List AP) (a:AP) (hx:x.length<=34359738367):Ji x a=some (Aq x a):=uE (by
 have J4:∀ same out:List AP,out.length<=maxLen->Nt x a same out=some (if BA x=true then (if BA out=true then out else same) else same):=fun same out ho=>lI (by
  unfold U0 BA
  rw [JW x (by unfold maxLen; omega),JW out ho]
  cases CQ x 0 x.length<;>cases CQ out 0 out.length<;>simp)
 have L3:∀ same out:List AP,out.length<=x.length+1->FB x ((0:Nat):Int) a same out=some (if BA x=true then (if BA (out++(x.drop 0).filter (Qs a.1))=true then out++(x.drop 0).filter (Qs a.1) else same) else same):=by
  intro same out ho
  refine E3 (n:=x.length) (P:=fun i=>∀ out:List AP,out.length<=x.length+1+i->FB x (i:Int) a same out=some (if BA x=true then (if BA (out++(x.drop i).filter (Qs a.1))=true then out++(x.drop i).filter (Qs a.1) else same) else same)) (fun out ho=>U2 ?_) (fun i hi ih out ho=>U2 ?_) 0 (by omega) out ho
  ·unfold Nv
   rw [if_neg (by simp),J4 same out (by unfold maxLen; omega)]
   simp
  ·unfold Nv
   simp only [show ((i:Int)<(x.length:Int)) from by omega,decide_true,if_true,show (0:Int)<=(i:Int) from by omega,Aj,AW hi,AM (show i<9223372036854775807 by omega)]
   rw [BL hi,List.filter_cons]
   change (if Qs a.1 x[i]=true then _ else _)=_
   by_cases hh:Qs a.1 x[i]=true
   ·rw [if_pos hh,if_pos (by simp; omega),ih _ (by simp; omega),if_pos hh,Bs]
    rfl
   ·rw [if_neg hh,ih _ (by omega),if_neg hh]
 have J2:∀ same out:List AP,out.length<=x.length->Nu x a same out=some (if BA x=true then (if BA (out++[a]++x.filter (Qs a.1))=true then out++[a]++x.filter (Qs a.1) else same) else same):=fun same out ho=>lJ (by
  unfold U1
  rw [if_pos (by simp; omega)]
  have:=L3 same (out++[a]) (by simp; omega)
  simpa using this)
 have L0:∀ same:List AP,FC x ((0:Nat):Int) a same []=some (if a_ (x.drop 0) a=true then same else if BA x=true then (if BA (([]++(x.drop 0).filter (Vb a.1))++[a]++x.filter (Qs a.1))=true then ([]++(x.drop 0).filter (Vb a.1))++[a]++x.filter (Qs a.1) else same) else same):=by
  intro same
  refine E3 (n:=x.length) (P:=fun i=>∀ out:List AP,out.length<=i->FC x (i:Int) a same out=some (if a_ (x.drop i) a=true then same else if BA x=true then (if BA ((out++(x.drop i).filter (Vb a.1))++[a]++x.filter (Qs a.1))=true then (out++(x.drop i).filter (Vb a.1))++[a]++x.filter (Qs a.1) else same) else same)) (fun out ho=>U3 ?_) (fun i hi ih out ho=>U3 ?_) 0 (by omega) [] (by simp)
  ·unfold Nw
   rw [if_neg (by simp),J2 same out ho]
   simp [a_]
  ·unfold Nw
   simp only [show ((i:Int)<(x.length:Int)) from by omega,decide_true,if_true,show (0:Int)<=(i:Int) from by omega,Aj,AW hi]
   have J1:∀ out:List AP,out.length<=i+1->JS x (i:Int) a same out=some (if a_ (x.drop i) a=true then same else if BA x=true then (if BA ((out++(x.drop (i+1)).filter (Vb a.1))++[a]++x.filter (Qs a.1))=true then (out++(x.drop (i+1)).filter (Vb a.1))++[a]++x.filter (Qs a.1) else same) else same):=fun out ho=>lH (by
    unfold Uz
    simp only [show ((i:Int)<(x.length:Int)) from by omega,decide_true,if_true,show (0:Int)<=(i:Int) from by omega,Aj,AW hi,AM (show i<9223372036854775807 by omega),ih out ho]
    rw [BL hi]
    rw [show a_ (x[i]::x.drop (i+1)) a=(((x[i].1.toList==a.1.toList)&&decide (x[i].2.2>=a.2.2))||a_ (x.drop (i+1)) a) from List.any_cons]
    generalize (x[i].1.toList==a.1.toList)=p
    generalize decide (x[i].2.2>=a.2.2)=q
    cases p<;>cases q<;>simp)
   rw [BL hi,List.filter_cons]
   change (if Vb a.1 x[i]=true then _ else _)=_
   rw [BL hi] at J1
   by_cases hh:Vb a.1 x[i]=true
   ·rw [if_pos hh,if_pos (by simp; omega),J1 _ (by simp; omega),if_pos hh]
    simp only [Bs,List.cons_append,List.nil_append]
   ·rw [if_neg hh,J1 _ (by omega),if_neg hh]
 unfold du
 rw [if_pos (by simp; omega)]
 have:=L0 ([]++x)
 simpa [Aq,Tf] using this)
theorem ACR {x:List AP} {a:AP} {r:Nat} (hr:r<=x.length) (ho:LZ x) (h:ol x a.1 r r):a_ x a=(XL x r a.1&&decide ((x.getD r uM).2.2>=a.2.2)):=by
 unfold a_ XL
 by_cases hl:r<x.length
 ·rw [List.getElem?_eq_getElem hl,AW hl]
  rw [Bool.eq_iff_iff,List.any_eq_true]
  simp only [AD,beq_iff_eq,decide_eq_true_eq]
  refine ⟨fun ⟨b,hb,e,hv⟩=>?_,fun ⟨e,hv⟩=>⟨_,BZ hl,e,hv⟩⟩
  obtain ⟨j,hj,rfl⟩:=EZ hb
  have:=AAF ho h j hj e
  subst this
  exact ⟨e,hv⟩
 ·rw [Dl (by omega),Bool.false_and,List.any_eq_false]
  intro b hb
  obtain ⟨j,hj,rfl⟩:=EZ hb
  intro hc
  simp only [AD,beq_iff_eq] at hc
  have:=AAF ho h j hj hc.1
  omega
theorem ADb {x:List AP} {a:AP} {r:Nat} (hr:r<=x.length) (ho:LZ x) (h:ol x a.1 r r):Tf x a=if XL x r a.1=true then x.set r a else x.take r++[a]++x.drop r:=by
 unfold Tf
 rw [AAG hr h,<- (zQ hr h).1]
 have hk:∀ (j:Nat) (hj:j<x.length),j≠r->(x[j].1.toList==a.1.toList)=false:=fun j hj hne=>by
  cases q:(x[j].1.toList==a.1.toList) with
  | false=>rfl
  | true=>exact absurd (AAF ho h j hj (by simpa using q)) hne
 have tail:(x.drop (r+1)).filter (fun b=>!(b.1.toList==a.1.toList))=x.drop (r+1):=List.filter_eq_self.2 fun b hb=>by
  obtain ⟨j,hj,rfl⟩:=EZ hb
  rw [List.length_drop] at hj
  rw [List.getElem_drop,hk (r+1+j) (by omega) (by omega)]
  rfl
 by_cases hl:r<x.length
 ·rw [BL hl,List.filter_cons,tail]
  unfold XL
  rw [List.getElem?_eq_getElem hl]
  cases q:(x[r].1.toList==a.1.toList) with
  | true=>simp [q,List.set_eq_take_append_cons_drop,hl]
  | false=>simp [q]
 ·have:x.drop r=[]:=List.drop_eq_nil_of_le (by omega)
  rw [this]
  unfold XL
  rw [Dl (by omega)]
  simp
theorem U9 (x:List AP) (a:AP) (hx:x.length<=34359738367):NQ x a=some (Aq x a):=uJ (by
 obtain ⟨r,hr,hs,hc⟩:=ABS x a.1 (by omega)
 have ok:∀ y:List AP,y.length<=68719476736->GH y=some (BA y):=fun y hy=>N0 y (by unfold maxLen; omega) P0
 have J1:∀ y:List AP,y.length<=68719476736->JU x a y=some (if BA y=true then y else x):=fun y hy=>lL (by
  unfold U4
  rw [ok y hy,BK (by omega)]
  cases BA y<;>simp)
 have hl:XL x r a.1=true->r<x.length:=fun h=>by
  by_cases hl:r<x.length
  ·exact hl
  ·unfold XL at h
   rw [Dl (by omega)] at h
   cases h
 have J0:∀ b,BA x=true->JV x (r:Int) (XL x r a.1) b a x=some (if BA (Tf x a)=true then Tf x a else x):=fun b hok=>lM (by
  unfold U5
  rw [ADb hr (eE hok) (hc (eE hok))]
  cases hh:XL x r a.1 with
  | true =>
   have:=hl hh
   simp only [if_true,show (0:Int)<=(r:Int) from by omega,show ((r:Int)<(x.length:Int)) from by omega,Aj]
   rw [J1 _ (by simp; omega)]
  | false =>
   rw [if_neg (by simp),K6 (by simp; omega) hr (by simp),Y,J1 _ (by simp; omega)]
   simp)
 unfold dz
 rw [BK (by omega),Y,hs,Y,ok x (by omega),Y]
 cases hok:BA x with
 | false=>simp [Aq,hok]
 | true =>
  have hst:=ACR hr (eE hok) (hc (eE hok))
  have j0:=J0
  unfold Aq
  rw [hst,hok]
  cases hh:XL x r a.1 with
  | false =>
   have:=J0 false hok
   rw [hh] at this
   simp [this]
  | true =>
   have hlr:=hl hh
   have:=J0 false hok
   rw [hh] at this
   simp only [if_true,show (0:Int)<=(r:Int) from by omega,show ((r:Int)<(x.length:Int)) from by omega,Aj,Bool.true_and]
   cases q:decide ((x.getD r uM).2.2>=a.2.2) with
   | true=>simp
   | false=>simp [this])

abbrev P1:Type:=List Int×Int×Int
def bA (d:P1):Prop:=0<=d.2.1/\d.1.length<=maxLen
theorem om (a:Int):0<=Ml .i64 a 255/\Ml .i64 a 255<=255:=by
 unfold Ml
 have h:(BitVec.ofInt (IntKind.bits .i64) a &&& BitVec.ofInt (IntKind.bits .i64) 255).toNat<=255:=by
  rw [BitVec.toNat_and]
  refine Nat.le_trans Nat.and_le_right ?_
  decide
 rw [Ae (by omega)]
 omega
theorem HC (d:P1) (h:bA d):∃ b d',GI d=some (b,d')/\bA d'/\0<=b/\b<=255:=by
 have hm:d.1.length<=9223372036854775807:=h.2
 have hp:=h.1
 suffices g:∃ b d',TK d=some (b,d')/\bA d'/\0<=b/\b<=255 from g.imp fun b g=>g.imp fun d' g=>⟨th g.1,g.2⟩
 unfold TK
 rw [if_neg (by omega),if_neg (by omega)]
 by_cases h1:d.2.1<(d.1.length:Int)
 ·rw [if_pos (by simpa using h1),if_pos hp,if_pos h1]
  refine ⟨_,_,rfl,⟨?_,h.2⟩,om _⟩
  show 0<=IntKind.i64.wrap (d.2.1+1)
  rw [Ae (by omega)]
  omega
 ·rw [if_neg (by simpa using h1)]
  exact ⟨_,_,rfl,h,om _⟩
theorem Bx (n:Int) (d:P1) (h:bA d):∃ v d',Cu n d=some (v,d')/\bA d'/\0<=v/\(0<n->v<n):=by
 suffices g:∃ b d',Qf n d=some (b,d')/\bA d'/\0<=b/\(0<n->b<n) from g.imp fun b g=>g.imp fun d' g=>⟨qG g.1,g.2⟩
 unfold Qf
 by_cases h1:n<=0
 ·exact ⟨0,d,by rw [if_pos (by simpa using h1)],h,by omega,by omega⟩
 ·rw [if_neg (by simpa using h1)]
  by_cases h2:n<=256
  ·obtain ⟨b,d1,e1,k1,b0,b1⟩:=HC d h
   refine ⟨_,_,by rw [if_pos (by simpa using h2),e1,Y,if_neg (by omega)],k1,Int.tmod_nonneg _ b0,fun _=>Int.tmod_lt_of_pos _ (by omega)⟩
  ·obtain ⟨b1,d1,e1,k1,b10,b11⟩:=HC d h
   obtain ⟨b2,d2,e2,k2,b20,b21⟩:=HC d1 k1
   obtain ⟨b3,d3,e3,k3,b30,b31⟩:=HC d2 k2
   obtain ⟨b4,d4,e4,k4,b40,b41⟩:=HC d3 k3
   refine ⟨_,_,by rw [if_neg (by simpa using h2),e1,Y,e2,Y,e3,Y,e4,Y,if_neg (by omega)],k4,Int.tmod_nonneg _ ?_,fun _=>Int.tmod_lt_of_pos _ (by omega)⟩
   rw [Ae (n:=b1*16777216) (by omega),Ae (n:=b2*65536) (by omega),Ae (n:=b3*256) (by omega),Ae (n:=b1*16777216+b2*65536) (by omega),Ae (n:=b1*16777216+b2*65536+b3*256) (by omega),Ae (by omega)]
   omega
theorem JX (n:Int) (d:P1) (h:bA d):∃ v d',Dw n d=some (v,d')/\bA d':=by
 obtain ⟨v,d',e,k,_⟩:=Bx n d h
 exact ⟨_,_,tu (by unfold di; rw [e,Y]),k⟩
theorem P2 (x:List Int) (hx:0<x.length) (d:P1) (h:bA d):∃ v d',JI x d=some (v,d')/\bA d'/\v∈x:=by
 obtain ⟨v,d',e,k,v0,v1⟩:=Bx (x.length:Int) d h
 have v1:=v1 (by omega)
 have hv:v.toNat<x.length:=by omega
 exact ⟨_,_,kj (by unfold Ur; rw [e,Y,if_pos v0,if_pos v1]),k,by rw [AW hv]; exact BZ hv⟩
theorem n8 (x:List Int) (h:x.length<=maxLen):∃ d,VN x=some d/\bA d:=by
 have hm:x.length<=9223372036854775807:=h
 have key:=E3 (n:=x.length) (P:=fun i=>∀ a,∃ d,KI x a (i:Int)=some d/\bA d) (fun a=>⟨(x,0,a),Ov (by
  unfold KJ
  rw [if_neg (by simp)]),⟨Int.le_refl _,h⟩⟩) (fun i hi ih a=>by
  by_cases h4:(i:Int)<4000
  ·obtain ⟨d,e,k⟩:=ih (Ml .i64 (IntKind.i64.wrap ((IntKind.i64.wrap ((IntKind.i64.wrap (a*(131:Int)))+(IntKind.i64.wrap (x.getD (i:Int).toNat (0:Int)))))+(7:Int))) (1073741823:Int))
   refine ⟨d,Ov ?_,k⟩
   unfold KJ
   rw [if_pos (by simpa using hi),if_pos (by simpa using h4)]
   refine m9 ?_
   unfold Wh
   rw [if_pos (by omega),if_pos (by omega),AM (show i<9223372036854775807 by omega)]
   exact e
  ·refine ⟨(x,0,a),Ov ?_,⟨Int.le_refl _,h⟩⟩
   unfold KJ
   rw [if_pos (by simpa using hi),if_neg (by simpa using h4)]) 0 (by omega)
 obtain ⟨d,e,k⟩:=key (IntKind.i64.wrap ((14301:Int)+(x.length:Int)))
 exact ⟨d,vQ e,k⟩

theorem VZ {x:List AP}:∀ (m i:Nat),i+m=x.length->(CQ x i m=true↔(∀ a (ha:a<x.length),i<=a->KR x[a]=true/\(a≠0->Op.bytesLess (x.getD (a-1) uM).1.toList x[a].1.toList=true))/\x.length<=12)
 | 0,i,h=>by
  simp only [CQ,decide_eq_true_eq]
  refine ⟨fun h2=>⟨fun a ha hi=>by omega,by omega⟩,fun h2=>by have:=h2.2; omega⟩
 | m+1,i,h=>by
  have hi:i<x.length:=by omega
  rw [CQ,AD,AD,VZ m (i+1) (by omega),AW hi]
  simp only [E5,decide_eq_true_eq]
  constructor
  ·rintro ⟨⟨h1,h2⟩,h3,h4⟩
   refine ⟨fun a ha hia=>?_,h4⟩
   by_cases e:a=i
   ·subst e
    exact ⟨h1,fun h0=>h2.resolve_left h0⟩
   ·exact h3 a ha (by omega)
  ·rintro ⟨h3,h4⟩
   refine ⟨⟨(h3 i hi (Nat.le_refl _)).1,?_⟩,fun a ha hia=>h3 a ha (by omega),h4⟩
   by_cases e:i=0
   ·exact .inl e
   ·exact .inr ((h3 i hi (Nat.le_refl _)).2 e)
theorem DE {x:List AP}:BA x=true↔(∀ b∈x,KR b=true)/\LZ x/\x.length<=12:=by
 constructor
 ·intro h
  have h1:=(VZ x.length 0 (by omega)).1 h
  refine ⟨fun b hb=>?_,eE h,h1.2⟩
  obtain ⟨a,ha,rfl⟩:=EZ hb
  exact (h1.1 a ha (Nat.zero_le _)).1
 ·rintro ⟨h1,h2,h3⟩
  refine (VZ x.length 0 (by omega)).2 ⟨fun a ha _=>⟨h1 _ (BZ ha),fun h0=>?_⟩,h3⟩
  rw [AW (show a-1<x.length by omega)]
  exact h2 (a-1) a (by omega) ha (by omega)
theorem wG {x:List AP}:LZ x↔x.Pairwise fun b c=>Op.bytesLess b.1.toList c.1.toList=true:=by
 rw [List.pairwise_iff_getElem]
 rfl
theorem ii {x:List AP} (a:AP) (h:LZ x):LZ (Tf x a):=by
 rw [wG] at h ⊢
 have lo:∀ b∈x.filter (Vb a.1),Op.bytesLess b.1.toList a.1.toList=true:=fun b hb=>(List.mem_filter.1 hb).2
 have hg:∀ b∈x.filter (Qs a.1),Op.bytesLess a.1.toList b.1.toList=true:=fun b hb=>by
  have:=(List.mem_filter.1 hb).2
  rw [Qs,P0] at this
  simpa using this
 unfold Tf
 rw [List.pairwise_append,List.pairwise_append]
 refine ⟨⟨h.filter _,List.pairwise_singleton _ _,fun b hb c hc=>?_⟩,h.filter _,fun b hb c hc=>?_⟩
 ·rw [Cl] at hc
  subst hc
  exact lo b hb
 ·rcases As.1 hb with hb | hb
  ·exact eC (lo b hb) (hg c hc)
  ·rw [Cl] at hb
   subst hb
   exact hg c hc
theorem ACS (x:List AP) (a:AP):(Tf x a).length<=x.length+1:=by
 have h1:(x.filter (Qs a.1)).length<=(x.filter fun b=>!Vb a.1 b).length:=by
  rw [<- List.countP_eq_length_filter,<- List.countP_eq_length_filter]
  refine List.countP_mono_left fun b _ hb=>?_
  simp only [Qs,Vb,Dm,Bool.or_eq_false_iff] at hb ⊢
  exact hb.1
 have h2:(x.filter (Vb a.1)).length+(x.filter fun b=>!Vb a.1 b).length=x.length:=by
  rw [<- List.countP_eq_length_filter,<- List.countP_eq_length_filter]
  have:=List.length_eq_countP_add_countP (Vb a.1) (l:=x)
  rw [this]
  congr 2
  funext b
  cases Vb a.1 b<;>rfl
 simp only [Tf,List.length_append,List.length_cons,List.length_nil]
 omega
theorem uO {x:List AP} {a:AP}:a∈Tf x a:=by simp [Tf]
theorem zR {x:List AP} {a b:AP} (h:b∈Tf x a):b=a\/b∈x:=by
 simp only [Tf,As,List.mem_filter,Cl] at h
 rcases h with (h | h) | h
 ·exact .inr h.1
 ·exact .inl h
 ·exact .inr h.1
theorem AAH {x:List AP} {a b:AP} (h:b∈x) (hk:(b.1.toList==a.1.toList)=false):b∈Tf x a:=by
 simp only [Tf,As,List.mem_filter,Cl]
 cases q:Vb a.1 b with
 | true=>exact .inl (.inl ⟨h,rfl⟩)
 | false =>
  refine .inr ⟨h,?_⟩
  unfold Qs
  rw [show Op.bytesLess b.1.toList a.1.toList=false from q,hk]
  rfl
theorem PA {x:List AP} (ho:LZ x) {b:AP} (hb:b∈x):BR x b.1=b:=by
 obtain ⟨j,hj,rfl⟩:=EZ hb
 have:x.find? (fun a=>a.1.toList==x[j].1.toList)=some x[j]:=by
  rw [List.find?_eq_some_iff_getElem]
  refine ⟨by simp,j,hj,rfl,fun i hi=>?_⟩
  have:=ho i j (by omega) hj hi
  cases q:(x[i].1.toList==x[j].1.toList) with
  | false=>rfl
  | true =>
   rw [beq_iff_eq] at q
   rw [q,en] at this
   cases this
 unfold BR
 rw [this]
 rfl
theorem ABT {x:List AP} (ho:LZ x) {a:AP} (h1:1<=a.2.2):(BR x a.1).2.2>=a.2.2↔a_ x a=true:=by
 constructor
 ·intro h
  unfold BR at h
  cases q:x.find? (fun b=>b.1.toList==a.1.toList) with
  | none=>rw [q] at h; simp at h; omega
  | some b =>
   rw [q] at h
   exact List.any_eq_true.2 ⟨b,List.mem_of_find?_eq_some q,by simpa [List.find?_some q] using h⟩
 ·intro h
  obtain ⟨b,hb,hc⟩:=List.any_eq_true.1 h
  simp only [AD,beq_iff_eq,decide_eq_true_eq] at hc
  have e:BR x a.1=BR x b.1:=by unfold BR; rw [hc.1]
  rw [e,PA ho hb]
  exact hc.2
theorem zS (a:AP):P5 (.pair .str (.pair .str (.int .i64))) a a=true:=by simp [P5]
theorem U_ (x:List ByteArray) (hx:0<x.length) (d:P1) (h:bA d):∃ v d',NN x d=some (v,d')/\bA d'/\v∈x:=by
 obtain ⟨v,d',e,k,v0,v1⟩:=Bx (x.length:Int) d h
 have v1:=v1 (by omega)
 have hv:v.toNat<x.length:=by omega
 exact ⟨_,_,tv (by unfold dj; rw [e,Y,if_pos v0,if_pos v1]),k,by rw [AW hv]; exact BZ hv⟩
theorem Jq {x:List AP} {a:AP} (h:BA x=true):BA (Aq x a)=true:=by
 unfold Aq
 rw [if_pos h]
 split
 ·exact h
 ·split
  ·assumption
  ·exact h
theorem zT (x:List AP) (a:AP):(Aq x a).length<=x.length+1:=by
 have:=ACS x a
 unfold Aq
 (repeat' split)<;>omega



theorem Cw (x:List Int) (n:Int) (h:x.length<=maxLen):Ds x n=some (x.contains n):=x_ (by
 have hm:x.length<=9223372036854775807:=h
 unfold kN
 have:=E3 (n:=x.length) (P:=fun i=>LT x n (i:Int)=some ((x.drop i).contains n)) (aL (by
  unfold Qe
  rw [if_neg (by simp),List.drop_length]
  rfl)) (fun i hi ih=>aL (by
  unfold Qe
  simp only [show ((i:Int)<(x.length:Int)) from by omega,decide_true,if_true,show (0:Int)<=(i:Int) from by omega,Aj,AW hi,AM (show i<9223372036854775807 by omega)]
  rw [BL hi,List.contains_cons,ih]
  by_cases e:x[i]=n
  ·subst e
   simp
  ·simp [e,Ne.symm e])) 0 (by omega)
 simpa using this)
theorem AEN (x:List Int) (i:Nat) (hi:i<x.length) (h:x.length<=maxLen):∃ r,Dv x x[i]=some r/\((r=(i:Int))↔x[i]∉x.take i):=by
 have hm:x.length<=9223372036854775807:=h
 have key:=E3 (n:=i) (P:=fun k=>∃ r,C6 x x[i] (x.length:Int) (k:Int)=some r/\(k:Int)<=r/\((r=(i:Int))↔∀ m (hm:m<i),k<=m->x[m]≠x[i])) ⟨i,CP (by
  unfold Bp
  simp only [show ((i:Int)<(x.length:Int)) from by omega,decide_true,if_true,show (0:Int)<=(i:Int) from by omega,Aj,AW hi]
  simp),by omega,⟨fun _ m hm hk=>by omega,fun _=>rfl⟩⟩ (fun k hk ⟨r,hr,hkr,hiff⟩=>by
  have hk2:k<x.length:=by omega
  by_cases e:x[i]=x[k]
  ·refine ⟨k,CP ?_,by omega,⟨fun he=>by omega,fun hall=>absurd e.symm (hall k hk (by omega))⟩⟩
   unfold Bp
   simp only [show ((k:Int)<(x.length:Int)) from by omega,decide_true,if_true,show (0:Int)<=(k:Int) from by omega,Aj,AW hk2]
   rw [if_pos (by simpa using e)]
  ·refine ⟨r,CP ?_,by omega,hiff.trans ⟨fun hall m hm hkm=>?_,fun hall m hm hkm=>hall m hm (by omega)⟩⟩
   ·unfold Bp
    simp only [show ((k:Int)<(x.length:Int)) from by omega,decide_true,if_true,show (0:Int)<=(k:Int) from by omega,Aj,AW hk2,AM (show k<9223372036854775807 by omega)]
    rw [if_neg (by simpa using e)]
    exact hr
   ·rcases B3 k m with h1 | h1
    ·exact hall m hm h1
    ·have:m=k:=by omega
     subst this
     exact fun h=>e h.symm) 0 (by omega)
 obtain ⟨r,hr,_,hiff⟩:=key
 refine ⟨r,No hr,hiff.trans ⟨fun hall hmem=>?_,fun hn m hm _ he=>hn ?_⟩⟩
 ·obtain ⟨m,hm,he⟩:=List.mem_take_iff_getElem.1 hmem
  exact hall m (by omega) (by omega) he
 ·exact List.mem_take_iff_getElem.2 ⟨m,by omega,he⟩
def Iy (v:List Int) (i:Nat):Nat->Bool
 | 0=>true
 | k+1=>(decide (1<=v.getD i 0)&&decide (v.getD i 0<=6))&&!(v.take i).contains (v.getD i 0)&&Iy v (i+1) k
def YK (v:List Int):Bool:=(decide (1<=(v.length:Int))&&decide ((v.length:Int)<=4))&&Iy v 0 v.length
def GC (x:List (List Int)) (n:Nat):List (List Int)->Bool
 | []=>decide (1<=(n:Int))&&decide ((n:Int)<=9)
 | v::r=>YK v&&GC x n r
theorem lU (v:List Int) (h:v.length<=maxLen):Sk v=some (YK v):=tx (by
 have hm:v.length<=9223372036854775807:=h
 unfold dl YK
 simp only [Ay,Y]
 have:=E3 (n:=v.length) (P:=fun i=>JR v (i:Int)=some (Iy v i (v.length-i))) (Us (by
  unfold Np
  rw [if_neg (by simp),Nat.sub_self]
  rfl)) (fun i hi ih=>Us (by
  unfold Np
  have e:v.length-i=(v.length-(i+1))+1:=by omega
  rw [e,Iy]
  simp only [show ((i:Int)<(v.length:Int)) from by omega,show ((i:Int)<=(v.length:Int)) from by omega,decide_true,if_true,show (0:Int)<=(i:Int) from by omega,Aj,Ay,Y,AM (show i<9223372036854775807 by omega),ih,Int.toNat_zero,List.drop_zero,Int.le_refl,
   Cw (v.take i) _ (by rw [List.length_take]; omega)]
  generalize (decide (1<=v.getD i 0)&&decide (v.getD i 0<=6))=a
  generalize (v.take i).contains (v.getD i 0)=b
  cases a<;>cases b<;>simp)) 0 (by omega)
 simp only [Int.ofNat_zero,Nat.sub_zero] at this
 generalize (decide (1<=(v.length:Int))&&decide ((v.length:Int)<=4))=a
 cases a
 ·simp
 ·simpa using this)
theorem lV (x:List (List Int)) (h:x.length<=maxLen) (ho:∀ a∈x,a.length<=maxLen):Ex x=some (GC x x.length x):=tq (by
 have hm:x.length<=9223372036854775807:=h
 unfold da
 exact E3 (n:=x.length) (P:=fun i=>JQ x (i:Int)=some (GC x x.length (x.drop i))) (Un (by
  unfold Nm
  rw [if_neg (by simp),List.drop_length,Ay]
  rfl)) (fun i hi ih=>Un (by
  unfold Nm
  simp only [show ((i:Int)<(x.length:Int)) from by omega,decide_true,if_true,show (0:Int)<=(i:Int) from by omega,Aj,AW hi,lU x[i] (ho _ (BZ _)),Y,AM (show i<9223372036854775807 by omega),ih]
  rw [BL hi,GC]
  generalize YK x[i]=a
  cases a<;>simp)) 0 (by omega))
theorem lW (x:List (List Int)) (h:x.length<=maxLen) (ho:∀ a∈x,a.length<=maxLen):Dt x=some (GC x x.length x):=tl (by
 have hm:x.length<=9223372036854775807:=h
 unfold dV
 exact E3 (n:=x.length) (P:=fun i=>JP x x (x.length:Int) (i:Int)=some (GC x x.length (x.drop i))) (Ul (by
  unfold Nl
  rw [if_neg (by simp),List.drop_length,Av]
  rfl)) (fun i hi ih=>Ul (by
  unfold Nl
  simp only [show ((i:Int)<(x.length:Int)) from by omega,decide_true,if_true,show (0:Int)<=(i:Int) from by omega,Aj,AW hi]
  rw [BL hi,GC]
  have hv:=ho x[i] (BZ _)
  generalize x[i]=v at hv
  have hvm:v.length<=9223372036854775807:=hv
  have wj:Nj x v x (x.length:Int) (i:Int)=some ((decide (1<=(v.length:Int))&&decide ((v.length:Int)<=4))&&GC x x.length (x.drop (i+1))):=kX (by
   unfold Uj
   rw [Av,Y,AM (show i<9223372036854775807 by omega),ih]
   generalize (decide (1<=(v.length:Int))&&decide ((v.length:Int)<=4))=a
   cases a<;>simp)
  have:=E3 (n:=v.length) (P:=fun j=>JO x v x (x.length:Int) (i:Int) v (v.length:Int) (j:Int)=some (Iy v j (v.length-j)&&((decide (1<=(v.length:Int))&&decide ((v.length:Int)<=4))&&GC x x.length (x.drop (i+1))))) (Uk (by
   unfold Nk
   rw [if_neg (by simp),Nat.sub_self,wj]
   rfl)) (fun j hj ihj=>Uk (by
   unfold Nk
   have e:v.length-j=(v.length-(j+1))+1:=by omega
   obtain ⟨r,hr,hiff⟩:=AEN v j hj hv
   rw [e,Iy]
   simp only [show ((j:Int)<(v.length:Int)) from by omega,decide_true,if_true,show (0:Int)<=(j:Int) from by omega,Aj,GB,Y,AM (show j<9223372036854775807 by omega),ihj,AW hj,hr]
   have hb:(r != (j:Int))=(v.take j).contains v[j]:=by
    by_cases e2:r=(j:Int)
    ·have:=hiff.1 e2
     simp [e2,this]
    ·have:v[j]∈v.take j:=Classical.byContradiction fun hn=>e2 (hiff.2 hn)
     simp [e2,this]
   rw [hb]
   generalize (decide (1<=v[j])&&decide (v[j]<=6))=a
   generalize (v.take j).contains v[j]=b
   cases a<;>cases b<;>simp)) 0 (by omega)
  simp only [Int.ofNat_zero,Nat.sub_zero] at this
  unfold YK
  refine Eq.trans this ?_
  congr 1
  generalize Iy v 0 v.length=a
  generalize (decide (1<=(v.length:Int))&&decide ((v.length:Int)<=4))=b
  cases a<;>cases b<;>simp)) 0 (by omega))

abbrev AAg:Type:=Int×Int×Int×(ByteArray×ByteArray×Int)×List Int
abbrev AE:Type:=Int×Int×Bool×Bool×Bool×Bool×List Int×List (ByteArray×ByteArray×Int)×Int×AAg
def GS (v:List Int) (i:Nat):Nat->Bool
 | 0=>true
 | k+1=>(decide (1<=v.getD i 0)&&decide (v.getD i 0<=6))&&(decide (i=0)||decide (v.getD (i-1) 0<v.getD i 0))&&GS v (i+1) k
theorem XM (x:List Int) (h:x.length<=maxLen):Dk x=some (GS x 0 x.length):=ve (by
 have hm:x.length<=9223372036854775807:=h
 unfold gK
 have:=E3 (n:=x.length) (P:=fun i=>Hz x (i:Int)=some (GS x i (x.length-i))) (XG (by
  unfold O_
  rw [if_neg (by simp),Nat.sub_self]
  rfl)) (fun i hi ih=>XG (by
  unfold O_
  have e:x.length-i=(x.length-(i+1))+1:=by omega
  simp only [show ((i:Int)<(x.length:Int)) from by omega,decide_true,if_true,show (0:Int)<=(i:Int) from by omega,Aj,AM (show i<9223372036854775807 by omega),ih,Ay,Y]
  rw [e,GS]
  generalize (decide (1<=x.getD i 0)&&decide (x.getD i 0<=6))=a
  cases a
  ·simp
  by_cases h0:0<i
  ·rw [ee (by omega) h0]
   simp only [Aj,show ((0:Int)<=((i-1:Nat):Int)) from by omega,show (((i-1:Nat):Int)<(x.length:Int)) from by omega,if_true]
   rcases Int.lt_or_le (x.getD (i-1) 0) (x.getD i 0) with hb | hb
   ·have d1:decide (x.getD (i-1) 0>=x.getD i 0)=false:=decide_eq_false (by omega)
    have d2:decide (x.getD (i-1) 0<x.getD i 0)=true:=decide_eq_true hb
    simp only [d1,d2]
    simp [h0,show i≠0 by omega]
   ·have d1:decide (x.getD (i-1) 0>=x.getD i 0)=true:=decide_eq_true (by omega)
    have d2:decide (x.getD (i-1) 0<x.getD i 0)=false:=decide_eq_false (by omega)
    simp only [d1,d2]
    simp [h0,show i≠0 by omega]
  ·have:i=0:=by omega
   subst this
   simp)) 0 (by omega)
 simpa using this)
theorem OW (x:List Int) (h:x.length<=maxLen):IS x 1 6=some (GS x 0 x.length):=iO (by
 have hm:x.length<=9223372036854775807:=h
 unfold TJ
 have:=E3 (n:=x.length) (P:=fun i=>EJ x 1 6 x (x.length:Int) (i:Int)=some (GS x i (x.length-i))) (OK (by
  unfold I5
  rw [if_neg (by simp),Nat.sub_self]
  rfl)) (fun i hi ih=>OK (by
  unfold I5
  have e:x.length-i=(x.length-(i+1))+1:=by omega
  simp only [show ((i:Int)<(x.length:Int)) from by omega,decide_true,if_true,show (0:Int)<=(i:Int) from by omega,Aj,AM (show i<9223372036854775807 by omega),ih,Av,Y]
  rw [e,GS]
  generalize (decide (1<=x.getD i 0)&&decide (x.getD i 0<=6))=a
  cases a
  ·simp
  by_cases h0:0<i
  ·rw [ee (by omega) h0]
   simp only [Aj,show ((0:Int)<=((i-1:Nat):Int)) from by omega,show (((i-1:Nat):Int)<(x.length:Int)) from by omega,if_true]
   rcases Int.lt_or_le (x.getD (i-1) 0) (x.getD i 0) with hb | hb
   ·have d1:decide (x.getD i 0<=x.getD (i-1) 0)=false:=decide_eq_false (by omega)
    have d2:decide (x.getD (i-1) 0<x.getD i 0)=true:=decide_eq_true hb
    simp only [d1,d2]
    simp [h0,show i≠0 by omega]
   ·have d1:decide (x.getD i 0<=x.getD (i-1) 0)=true:=decide_eq_true (by omega)
    have d2:decide (x.getD (i-1) 0<x.getD i 0)=false:=decide_eq_false (by omega)
    simp only [d1,d2]
    simp [h0,show i≠0 by omega]
  ·have:i=0:=by omega
   subst this
   simp)) 0 (by omega)
 simpa using this)
def Kv (t:AAg):Bool:=(t.1==0)&&(t.2.1==0)&&(t.2.2.1==0)&&P5 (.pair .str (.pair .str (.int .i64))) t.2.2.2.1 (O,O,(0:Int))&&((t.2.2.2.2.length:Int)==0)
def GT (t:AAg) (serves:Bool):Bool:=(t.1==1||t.1==2)&&serves&&(decide (0<=t.2.1)&&decide (t.2.1<=1000))&&(decide (1<=t.2.2.1)&&decide (t.2.2.1<=900))
def XN (x:AE):Bool :=
 (decide (1<=x.1)&&decide (x.1<=6))&&(decide (1<=x.2.1)&&decide (x.2.1<=9))&&(!x.2.2.2.2.2.1||(x.2.2.2.1&&x.2.2.2.2.1&&!decide ((x.2.2.2.2.2.2.1.length:Int)>0)))&&(!x.2.2.1||(!x.2.2.2.1&&!x.2.2.2.2.1)) &&
  GS x.2.2.2.2.2.2.1 0 x.2.2.2.2.2.2.1.length&&GS x.2.2.2.2.2.2.2.2.2.2.2.2.2 0 x.2.2.2.2.2.2.2.2.2.2.2.2.2.length&&CQ x.2.2.2.2.2.2.2.1 0 x.2.2.2.2.2.2.2.1.length&&(decide (0<=x.2.2.2.2.2.2.2.2.1)&&decide (x.2.2.2.2.2.2.2.2.1<=900)) &&
  (Kv x.2.2.2.2.2.2.2.2.2||GT x.2.2.2.2.2.2.2.2.2 x.2.2.2.2.2.1)
theorem fh (t:AAg):Ol t=some (Kv t):=n5 (by
 unfold XH Kv
 generalize (t.1==0)=a
 generalize (t.2.1==0)=b
 generalize (t.2.2.1==0)=c
 generalize P5 (.pair .str (.pair .str (.int .i64))) t.2.2.2.1 (O,O,(0:Int))=d
 cases a<;>cases b<;>cases c<;>cases d<;>simp)
theorem ij (x:AE) (h1:x.2.2.2.2.2.2.1.length<=maxLen) (h2:x.2.2.2.2.2.2.2.1.length<=maxLen) (h3:x.2.2.2.2.2.2.2.2.2.2.2.2.2.length<=maxLen):Gj x=some (XN x):=qa (by
 have w0:∀ b,ET b x=some (Kv x.2.2.2.2.2.2.2.2.2||GT x.2.2.2.2.2.2.2.2.2 x.2.2.2.2.2.1):=fun b=>ib (by
  unfold TS GT
  simp only [Ay,fh,Y]
  generalize Kv x.2.2.2.2.2.2.2.2.2=a
  generalize (x.2.2.2.2.2.2.2.2.2.1==1)=b
  generalize (x.2.2.2.2.2.2.2.2.2.1==2)=c
  generalize x.2.2.2.2.2.1=d
  generalize (decide (0<=x.2.2.2.2.2.2.2.2.2.2.1)&&decide (x.2.2.2.2.2.2.2.2.2.2.1<=1000))=e
  generalize (decide (1<=x.2.2.2.2.2.2.2.2.2.2.2.1)&&decide (x.2.2.2.2.2.2.2.2.2.2.2.1<=900))=f
  cases a<;>cases b<;>cases c<;>cases d<;>cases e<;>simp)
 unfold aq XN
 simp only [Ay,XM _ h1,XM _ h3,JW _ h2,Y,w0]
 generalize (decide (1<=x.1)&&decide (x.1<=6))=a
 generalize (decide (1<=x.2.1)&&decide (x.2.1<=9))=b
 generalize decide ((x.2.2.2.2.2.2.1.length:Int)>0)=c
 generalize GS x.2.2.2.2.2.2.1 0 x.2.2.2.2.2.2.1.length=d
 generalize GS x.2.2.2.2.2.2.2.2.2.2.2.2.2 0 x.2.2.2.2.2.2.2.2.2.2.2.2.2.length=e
 generalize CQ x.2.2.2.2.2.2.2.1 0 x.2.2.2.2.2.2.2.1.length=f
 generalize (decide (0<=x.2.2.2.2.2.2.2.2.1)&&decide (x.2.2.2.2.2.2.2.2.1<=900))=g
 generalize (Kv x.2.2.2.2.2.2.2.2.2||GT x.2.2.2.2.2.2.2.2.2 x.2.2.2.2.2.1)=t
 generalize x.2.2.2.2.2.1=s
 generalize x.2.2.2.2.1=l
 generalize x.2.2.2.1=m
 generalize x.2.2.1=n
 cases a
 ·simp
 cases b
 ·simp
 cases d<;>cases e<;>cases f<;>cases g<;>cases s<;>cases n<;>cases m<;>cases l<;>cases c<;>simp)
theorem XO (x:AE) (h3:x.2.2.2.2.2.2.2.2.2.2.2.2.2.length<=maxLen):Dd x=some (GS x.2.2.2.2.2.2.2.2.2.2.2.2.2 0 x.2.2.2.2.2.2.2.2.2.2.2.2.2.length&&(Kv x.2.2.2.2.2.2.2.2.2||GT x.2.2.2.2.2.2.2.2.2 x.2.2.2.2.2.1),x):=dQ (by
 unfold Pm Kv GT
 simp only [Av,OW _ h3,Y]
 by_cases hk:x.2.2.2.2.2.2.2.2.2.1=0
 ·rw [if_pos (by simp [hk])]
  have k1:(x.2.2.2.2.2.2.2.2.2.1==1)=false:=by simp [hk]
  have k2:(x.2.2.2.2.2.2.2.2.2.1==2)=false:=by simp [hk]
  have k0:(x.2.2.2.2.2.2.2.2.2.1==0)=true:=by simp [hk]
  rw [k1,k2,k0]
  have hl:((x.2.2.2.2.2.2.2.2.2.2.2.2.2.length:Int)==0)=true->GS x.2.2.2.2.2.2.2.2.2.2.2.2.2 0 x.2.2.2.2.2.2.2.2.2.2.2.2.2.length=true:=by
   intro h
   have:x.2.2.2.2.2.2.2.2.2.2.2.2.2.length=0:=by simpa using h
   rw [this]
   rfl
  generalize ((x.2.2.2.2.2.2.2.2.2.2.2.2.2.length:Int)==0)=l at hl
  generalize GS x.2.2.2.2.2.2.2.2.2.2.2.2.2 0 x.2.2.2.2.2.2.2.2.2.2.2.2.2.length=u at hl
  generalize (x.2.2.2.2.2.2.2.2.2.2.1==0)=b
  generalize (x.2.2.2.2.2.2.2.2.2.2.2.1==0)=c
  generalize P5 (.pair .str (.pair .str (.int .i64))) x.2.2.2.2.2.2.2.2.2.2.2.2.1 (O,O,(0:Int))=d
  cases b<;>cases c<;>cases d<;>cases l<;>cases u<;>simp at hl ⊢
 ·rw [if_neg (by simp [hk])]
  have k0:(x.2.2.2.2.2.2.2.2.2.1==0)=false:=by simp [hk]
  have k12:(decide (1<=x.2.2.2.2.2.2.2.2.2.1)&&decide (x.2.2.2.2.2.2.2.2.2.1<=2))=(x.2.2.2.2.2.2.2.2.2.1==1||x.2.2.2.2.2.2.2.2.2.1==2):=by
   rw [Bool.eq_iff_iff]
   simp
   omega
  rw [k12,k0]
  generalize (x.2.2.2.2.2.2.2.2.2.1==1||x.2.2.2.2.2.2.2.2.2.1==2)=k
  generalize GS x.2.2.2.2.2.2.2.2.2.2.2.2.2 0 x.2.2.2.2.2.2.2.2.2.2.2.2.2.length=u
  generalize (decide (0<=x.2.2.2.2.2.2.2.2.2.2.1)&&decide (x.2.2.2.2.2.2.2.2.2.2.1<=1000))=e
  generalize (decide (1<=x.2.2.2.2.2.2.2.2.2.2.2.1)&&decide (x.2.2.2.2.2.2.2.2.2.2.2.1<=900))=f
  cases k<;>cases u<;>cases e<;>cases f<;>rcases Bool.eq_false_or_eq_true x.2.2.2.2.2.1 with hs | hs<;>simp [hs])
theorem ik (x:AE) (h1:x.2.2.2.2.2.2.1.length<=maxLen) (h2:x.2.2.2.2.2.2.2.1.length<=maxLen) (h3:x.2.2.2.2.2.2.2.2.2.2.2.2.2.length<=maxLen):Gi x=some (XN x):=pX (by
 have w0:∀ b,Lw b x=some ((!x.2.2.2.2.2.1||(x.2.2.2.1&&x.2.2.2.2.1&&!decide ((x.2.2.2.2.2.2.1.length:Int)>0)))&&(!x.2.2.1||(!x.2.2.2.1&&!x.2.2.2.2.1))&&(GS x.2.2.2.2.2.2.2.2.2.2.2.2.2 0 x.2.2.2.2.2.2.2.2.2.2.2.2.2.length&&(Kv x.2.2.2.2.2.2.2.2.2||GT x.2.2.2.2.2.2.2.2.2 x.2.2.2.2.2.1))):=fun b=>hU (by
  unfold Sz
  simp only [XO x h3,Y]
  generalize (GS x.2.2.2.2.2.2.2.2.2.2.2.2.2 0 x.2.2.2.2.2.2.2.2.2.2.2.2.2.length&&(Kv x.2.2.2.2.2.2.2.2.2||GT x.2.2.2.2.2.2.2.2.2 x.2.2.2.2.2.1))=t
  generalize decide ((x.2.2.2.2.2.2.1.length:Int)>0)=c
  generalize x.2.2.2.2.2.1=s
  generalize x.2.2.2.2.1=l
  generalize x.2.2.2.1=m
  generalize x.2.2.1=n
  cases s<;>cases n<;>cases m<;>cases l<;>cases c<;>simp)
 unfold Zq XN
 simp only [Av,GB,OW _ h1,N0 _ h2 P0,Y,w0]
 generalize (decide (1<=x.1)&&decide (x.1<=6))=a
 generalize (decide (1<=x.2.1)&&decide (x.2.1<=9))=b
 generalize GS x.2.2.2.2.2.2.1 0 x.2.2.2.2.2.2.1.length=d
 generalize GS x.2.2.2.2.2.2.2.2.2.2.2.2.2 0 x.2.2.2.2.2.2.2.2.2.2.2.2.2.length=e
 generalize CQ x.2.2.2.2.2.2.2.1 0 x.2.2.2.2.2.2.2.1.length=f
 generalize (decide (0<=x.2.2.2.2.2.2.2.2.1)&&decide (x.2.2.2.2.2.2.2.2.1<=900))=g
 generalize (Kv x.2.2.2.2.2.2.2.2.2||GT x.2.2.2.2.2.2.2.2.2 x.2.2.2.2.2.1)=t
 generalize (!x.2.2.2.2.2.1||(x.2.2.2.1&&x.2.2.2.2.1&&!decide ((x.2.2.2.2.2.2.1.length:Int)>0)))=p
 generalize (!x.2.2.1||(!x.2.2.2.1&&!x.2.2.2.2.1))=q
 cases a
 ·simp
 cases b
 ·simp
 cases d<;>cases e<;>cases f<;>cases g<;>cases p<;>cases q<;>simp)

abbrev Bb:Type:=Int×Int×Int×Int×Int×List (ByteArray×ByteArray×Int)
def XP (x:Bb):Bool :=
 (decide (1<=x.1)&&decide (x.1<=8))&&(decide (1<=x.2.1)&&decide (x.2.1<=6))&&(decide (1<=x.2.2.1)&&decide (x.2.2.1<=6))&&(decide (1<=x.2.2.2.1)&&decide (x.2.2.2.1<=9))&&(decide (0<=x.2.2.2.2.1)&&decide (x.2.2.2.2.1<=1000000000))&&CQ x.2.2.2.2.2 0 x.2.2.2.2.2.length &&
  (if x.1=2\/x.1=3 then true else if x.1=5 then ((x.2.2.2.2.2.length:Int)==1) else ((x.2.2.2.2.2.length:Int)==0))
theorem qo (x:Bb) (h:x.2.2.2.2.2.length<=maxLen):X7 x=some (XP x):=yG (by
 have w1:∀ a b,LY a b x=some (if b=true then true else if a=5 then ((x.2.2.2.2.2.length:Int)==1) else ((x.2.2.2.2.2.length:Int)==0)):=fun a b=>qf (by
  unfold ar
  by_cases h1:b=true<;>by_cases h2:a=5<;>simp [h1,h2])
 have w0:∀ b,Qo b x=some (if x.1=2\/x.1=3 then true else if x.1=5 then ((x.2.2.2.2.2.length:Int)==1) else ((x.2.2.2.2.2.length:Int)==0)):=fun b=>qg (by
  unfold au
  by_cases h1:x.1=2<;>by_cases h2:x.1=3<;>simp [h1,h2,w1])
 unfold lK XP
 simp only [Ay,JW _ h,Y,w0]
 generalize (decide (1<=x.1)&&decide (x.1<=8))=a
 generalize (decide (1<=x.2.1)&&decide (x.2.1<=6))=b
 generalize (decide (1<=x.2.2.1)&&decide (x.2.2.1<=6))=c
 generalize (decide (1<=x.2.2.2.1)&&decide (x.2.2.2.1<=9))=d
 generalize (decide (0<=x.2.2.2.2.1)&&decide (x.2.2.2.2.1<=1000000000))=e
 generalize CQ x.2.2.2.2.2 0 x.2.2.2.2.2.length=f
 cases a<;>cases b<;>cases c<;>cases d<;>cases e<;>cases f<;>simp)
theorem qp (x:Bb) (h:x.2.2.2.2.2.length<=maxLen):X6 x=some (XP x):=yF (by
 have w1:∀ a b,LX a b x=some (if b=true then true else if a=5 then ((x.2.2.2.2.2.length:Int)==1) else ((x.2.2.2.2.2.length:Int)==0)):=fun a b=>qW (by
  unfold am
  by_cases h1:b=true<;>by_cases h2:a=5<;>simp [h1,h2])
 have w0:∀ b,Qn b x=some (if x.1=2\/x.1=3 then true else if x.1=5 then ((x.2.2.2.2.2.length:Int)==1) else ((x.2.2.2.2.2.length:Int)==0)):=fun b=>qX (by
  unfold an
  by_cases h1:x.1=2<;>by_cases h2:x.1=3<;>simp [h1,h2,w1])
 unfold lC XP
 simp only [Av,GB,N0 _ h P0,Y,w0]
 generalize (decide (1<=x.1)&&decide (x.1<=8))=a
 generalize (decide (1<=x.2.1)&&decide (x.2.1<=6))=b
 generalize (decide (1<=x.2.2.1)&&decide (x.2.2.1<=6))=c
 generalize (decide (1<=x.2.2.2.1)&&decide (x.2.2.2.1<=9))=d
 generalize (decide (0<=x.2.2.2.2.1)&&decide (x.2.2.2.2.1<=1000000000))=e
 generalize CQ x.2.2.2.2.2 0 x.2.2.2.2.2.length=f
 cases a<;>cases b<;>cases c<;>cases d<;>cases e<;>cases f<;>simp)
end Go.Proofs.YtokiohnjegbnpaaGreat.Core
