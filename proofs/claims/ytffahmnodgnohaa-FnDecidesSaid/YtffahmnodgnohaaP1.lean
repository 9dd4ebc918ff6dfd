/- Texts of the proof, packed: part 2. -/
import Derived.Test.YtffahmnodgnohaaP0
import Derived.Laws.StructEq
import Derived.Laws.BytesString
import Derived.Laws.BytesArg
import Derived.Laws.Slices
import Derived.Laws.OwnMore
import Derived.Great.BuildSlice
import Derived.Lib.ConvBytes
set_option linter.unusedVariables false
set_option linter.unusedSimpArgs false
namespace Go.Proofs.Ytffahmnodgnohaa.Core
open Go
variable {P:Program}
theorem SX {t:TypeId} {w:World} (h:MJ P t true=true):(isAgg t).run P w=.ok true w:=by
 obtain ⟨d,hu,hd⟩:=QX h
 unfold isAgg
 rw [Sem.run_bind,run_underlying hu w]
 cases d<;>simp_all [TypeDesc.isRow]
theorem Rd {t:TypeId} {w:World} (h:MJ P t false=true):(isAgg t).run P w=.ok false w:=by
 obtain ⟨d,hu,hd⟩:=SQ h
 unfold isAgg
 rw [Sem.run_bind,run_underlying hu w]
 cases d<;>simp_all [TypeDesc.isRow]
theorem D7 {t:TypeId} {w:World} {cs:Array Value} {off:Nat} {v:Value} (h:MJ P t false=true) (hv:cs[off]? = some v):(Go.part t cs off).run P w=.ok v w:=by
 simp [Go.part,Rd h,hv]
theorem Pa {t:TypeId} {w:World} {cs:Array Value} {off k:Nat} (h:MJ P t true=true) (hk:Vh P t k=true):(Go.part t cs off).run P w=.ok (.agg (cs.extract off (off+k))) w:=by
 have hs:=In hk
 cases hi:P.info? t with
 | none=>simp [hi] at hs
 | some i =>
  have hs:i.size=k:=by simpa [hi] using hs
  simp [Go.part,SX h,sizeOf,typeInfo,hi,hs]
def Pb (P:Program) (t:TypeId):Option Nat->Bool
 | some k=>Vh P t k&&MJ P t true
 | none=>MJ P t false
theorem U5 {R:AV->Value->Prop} {t:TypeId} {m:Option Nat} {aw:List AV} {cs:Array Value} {off:Nat} (hm:Pb P t m=true) (h:AX R aw cs.toList) (hl:off+m.getD 1<=aw.length) :
  ∃ v,(∀ w,(Go.part t cs off).run P w=.ok v w) /\
   (match m with | some k=>∃ arr,v=.agg arr/\AX R ((aw.drop off).take k) arr.toList | none=>R ((aw.drop off).headD .undef) v):=by
 cases m with
 | some k =>
  simp only [Pb,AD] at hm
  refine ⟨_,fun _=>Pa hm.2 hm.1,_,rfl,?_⟩
  have:=(h.drop off).take k
  simpa [List.extract] using this
 | none =>
  simp only [Option.getD_none] at hl
  obtain ⟨v,hv,hr⟩:=h.get off aw[off] (by simp)
  refine ⟨v,fun _=>D7 hm (by simpa using hv),?_⟩
  have e:(aw.drop off).headD .undef=aw[off]:=by
   rw [List.drop_eq_getElem_cons (by omega)]
   rfl
  simp only [e]
  exact hr
def UQ (P:Program) (n:Nat) (o:Oper) (d:Nat) (x:BS) (off:Nat) (m:Option Nat):Bool :=
 FS o n d&&(match o.op with
  | .field t y f=>Bw y x&&(match WK P t f off with | some ft=>Pb P ft m | none=>false)
  | _=>false)
theorem Xb {n:Nat} {o:Oper} {d:Nat} {x:BS} {off:Nat} {m:Option Nat} {cal:Cz} (h:UQ P n o d x off m=true):ET P n o (.field d x off m) cal:=by
 intro ρ kn r s act w H φ next Q hs hf hn hk hnext
 simp only [UQ,AD] at h
 obtain ⟨h1,h2⟩:=h
 obtain ⟨hd,hdn⟩:=BC h1
 split at h2
 ·rename_i t y f ho
  simp only [AD] at h2
  obtain ⟨h2,h3⟩:=h2
  split at h3
  ·rename_i ft hft
   obtain ⟨fs,fd,hu,hfd,he,hty⟩:=U4 hft
   have hv:=An hf h2
   simp only [CN] at hk
   cases hx:s.opd x with
   | agg cs =>
    rw [hx] at hk hv
    simp only at hk
    obtain ⟨arr,ev,hv⟩:=hv
    split at hk
    ·rename_i hl
     obtain ⟨v,hrun,hr⟩:=U5 h3 hv hl
     refine plain_ok hs hf hn hd hdn hk (v:=v) ?_ ?_ hnext
     ·intro w2 _
      simp [execOp,ho,Instr.field,run_underlying hu,hfd,ev,asAgg,hty,he,hrun]
     ·cases m with
      | some k=>exact hr
      | none=>exact VA.of_VC hr
    ·cases hk
   | _=>rw [hx] at hk; cases hk
  ·cases h3
 ·cases h2
def Yc (P:Program) (n:Nat) (o:Oper) (d:Nat) (k:IntKind) (x:BS):Bool :=
 FS o n d&&(match o.op with
  | .convert src dst y=>Bw y x&&(P.underlying src).isSome&&(match P.underlying dst with | some (.int k')=>decide (k'=k) | _=>false)
  | _=>false)
theorem Zb {n:Nat} {o:Oper} {d:Nat} {k:IntKind} {x:BS} {cal:Cz} (h:Yc P n o d k x=true):ET P n o (.cvi d k x) cal:=by
 intro ρ kn r s act w H φ next Q hs hf hn hk hnext
 simp only [Yc,AD] at h
 obtain ⟨h1,h2⟩:=h
 obtain ⟨hd,hdn⟩:=BC h1
 split at h2
 ·rename_i src dst y ho
  simp only [AD] at h2
  obtain ⟨⟨h2,h3⟩,h4⟩:=h2
  split at h4
  ·rename_i k' hk'
   simp only [decide_eq_true_eq] at h4
   subst h4
   obtain ⟨ds,hds⟩:=Option.isSome_iff_exists.1 h3
   have hv:=An hf h2
   simp only [CN] at hk
   cases hx:s.opd x with
   | int k0 m =>
    rw [hx] at hk hv
    have hv:act.eval y=.int k0 m:=hv
    refine plain_ok hs hf hn hd hdn hk (v:=.int k' (k'.wrap m)) ?_ rfl hnext
    intro w2 _
    simp [execOp,ho,hv,convert,run_underlying hds,run_underlying hk',Conv.intToInt]
   | _=>rw [hx] at hk; cases hk
  ·cases h4
 ·cases h2
def aN (n:Nat) (o:Oper) (d:Nat) (u:UnOp) (x:BS):Bool :=
 FS o n d&&(match o.op with | .unOp u' _ y=>Bw y x&&(match u,u' with | .not,.not=>true | .neg,.neg=>true | _,_=>false) | _=>false)
theorem Z4 {n:Nat} {o:Oper} {d:Nat} {u:UnOp} {x:BS} {cal:Cz} (h:aN n o d u x=true):ET P n o (.un d u x) cal:=by
 intro ρ kn r s act w H φ next Q hs hf hn hk hnext
 simp only [aN,AD] at h
 obtain ⟨h1,h2⟩:=h
 obtain ⟨hd,hdn⟩:=BC h1
 split at h2
 ·rename_i u' t y ho
  simp only [AD] at h2
  obtain ⟨h2,h3⟩:=h2
  have hv:=An hf h2
  simp only [CN] at hk
  split at h3
  ·cases hx:s.opd x with
   | bool b =>
    rw [hx] at hk hv
    simp only [Wm] at hk
    have hv:act.eval y=.bool b:=hv
    exact plain_ok hs hf hn hd hdn hk (v:=.bool (!b)) (fun _ _=>by simp [execOp,ho,hv,Op.unary]) rfl hnext
   | _=>rw [hx] at hk; cases hk
  ·cases hx:s.opd x with
   | int k m =>
    rw [hx] at hk hv
    simp only [Wm] at hk
    have hv:act.eval y=.int k m:=hv
    exact plain_ok hs hf hn hd hdn hk (v:=.int k (k.wrap (0-m))) (fun _ _=>by simp [execOp,ho,hv,Op.unary,Op.intArith]) rfl hnext
   | _=>rw [hx] at hk; cases hk
  ·cases h3
 ·cases h2
def Yd (n:Nat) (o:Oper) (d:Nat) (x:BS) (i:Nat):Bool :=
 FS o n d&&(match o.op with | .extract y i'=>Bw y x&&i'==i | _=>false)
theorem Zc {n:Nat} {o:Oper} {d:Nat} {x:BS} {i:Nat} {cal:Cz} (h:Yd n o d x i=true):ET P n o (.ext d x i) cal:=by
 intro ρ kn r s act w H φ next Q hs hf hn hk hnext
 simp only [Yd,AD] at h
 obtain ⟨h1,h2⟩:=h
 obtain ⟨hd,hdn⟩:=BC h1
 split at h2
 ·rename_i y i' ho
  simp only [AD,beq_iff_eq] at h2
  obtain ⟨h2,rfl⟩:=h2
  have hv:=An hf h2
  simp only [CN] at hk
  cases hx:s.opd x with
  | tup vs =>
   rw [hx] at hk hv
   simp only at hk
   obtain ⟨arr,ev,hv⟩:=hv
   split at hk
   ·rename_i hi
    obtain ⟨v,hv1,hv2⟩:=hv.get i' vs[i'] (by simp)
    have hv1:arr[i']? = some v:=by simpa using hv1
    have e:vs.getD i' .undef=vs[i']:=by simp [List.getD,hi]
    rw [e] at hk
    exact plain_ok hs hf hn hd hdn hk (v:=v) (fun _ _=>by simp [execOp,ho,ev,Instr.extract,hv1]) (VA.of_VB hv2) hnext
   ·cases hk
  | _=>rw [hx] at hk; cases hk
 ·cases h2
def aO (n:Nat) (o:Oper) (d:Nat) (f:Nat) (caps:List BS):Bool :=
 FS o n d&&caps.isEmpty&&(match o.op with | .makeFunc (.func f') first captured=>f'==f&&first.isEmpty&&captured.isEmpty | _=>false)
theorem Z5 {n:Nat} {o:Oper} {d f:Nat} {caps:List BS} {cal:Cz} (h:aO n o d f caps=true):ET P n o (.fn d f caps) cal:=by
 intro ρ kn r s act w H φ next Q hs hf hn hk hnext
 simp only [aO,AD,List.isEmpty_iff] at h
 obtain ⟨⟨h1,rfl⟩,h2⟩:=h
 obtain ⟨hd,hdn⟩:=BC h1
 split at h2
 ·rename_i f' first captured ho
  simp only [AD,beq_iff_eq,Array.isEmpty_iff] at h2
  obtain ⟨⟨rfl,rfl⟩,rfl⟩:=h2
  exact plain_ok hs hf hn hd hdn hk (v:=.func (.func f') #[] #[]) (fun _ _=>by simp [execOp,ho,Instr.makeFunc]) ⟨rfl,rfl⟩ hnext
 ·cases h2

def Ye (n:Nat) (o:Oper) (d:Nat) (b:BinOp) (x y:BS):Bool :=
 FS o n d&&(match o.op with | .binOp b' _ x' y' _=>Bw x' x&&Bw y' y&&decide (b'=b) | _=>false)
theorem Wz {act:Act} {w:World} {o:Oper} {b:BinOp} {t yt:TypeId} {x y:Operand} {v:Value} (ho:o.op=.binOp b t x y yt)
  (hg:eqGuard b t x y (act.eval x) (act.eval y)=pure ()) (h:(binOp b t (act.eval x) (act.eval y)).run P w=.ok v w):(execOp act.eval o).run P w=.ok (.value v) w:=by
 simp [execOp,ho,hg,h]
theorem Xc {ρ:Type} {b:BinOp} {x y:AV} {kn:AV->Option ρ} {r:ρ} (h:RG b x y kn=some r) {vx vy:Value} {H:HP} {φ:BF} {st:List AH} (hx:VA H φ st x vx) (hy:VA H φ st y vy) (t:TypeId) :
  ∃ a v,kn a=some r/\VF H a v/\(∀ w,(binOp b t vx vy).run P w=.ok v w)/\∀ ox oy,eqGuard b t ox oy vx vy=pure ():=by
 unfold RG at h
 split at h
 ·rename_i k a k' c
  have hx:vx=.int k a:=hx
  have hy:vy=.int k' c:=hy
  subst hx hy
  have hg:∀ ox oy,eqGuard b t ox oy (.int k a) (.int k' c)=pure ():=fun ox oy=>eqGuard_at_int ..
  split at h
  ·split at h
   ·cases h
   ·rename_i h0
    exact ⟨_,.int k (k.wrap (a*2^(min c.toNat k.bits))),h,rfl,by simp [binOp,Op.shift,h0],hg⟩
  ·split at h
   ·cases h
   ·rename_i h0
    exact ⟨_,.int k (a.fdiv (2^(min c.toNat k.bits))),h,rfl,by simp [binOp,Op.shift,h0],hg⟩
  ·split at h
   ·rename_i n1 n2 hk
    subst hk
    split at h
    ·exact ⟨_,.int k (k.wrap (a+c)),h,rfl,by simp [binOp,Op.intArith],hg⟩
    ·exact ⟨_,.int k (k.wrap (a-c)),h,rfl,by simp [binOp,Op.intArith],hg⟩
    ·exact ⟨_,.int k (k.wrap (a*c)),h,rfl,by simp [binOp,Op.intArith],hg⟩
    ·split at h
     ·cases h
     ·rename_i h0
      exact ⟨_,.int k (k.wrap (a.tdiv c)),h,rfl,by simp [binOp,Op.intDiv,h0],hg⟩
    ·split at h
     ·cases h
     ·rename_i h0
      exact ⟨_,.int k (a.tmod c),h,rfl,by simp [binOp,Op.intDiv,h0],hg⟩
    ·exact ⟨_,.int k (F0 k a c),h,rfl,by simp [binOp,Op.intBits,F0],hg⟩
    ·exact ⟨_,.int k (Vj k a c),h,rfl,by simp [binOp,Op.intBits,Vj],hg⟩
    ·exact ⟨_,.int k (PG k a c),h,rfl,by simp [binOp,Op.intBits,PG],hg⟩
    ·exact ⟨_,.bool (a==c),h,rfl,by simp [binOp,Op.intCmp],hg⟩
    ·exact ⟨_,.bool (a != c),h,rfl,by simp [binOp,Op.intCmp],hg⟩
    ·exact ⟨_,.bool (a<c),h,rfl,by simp [binOp,Op.intCmp],hg⟩
    ·exact ⟨_,.bool (a<=c),h,rfl,by simp [binOp,Op.intCmp],hg⟩
    ·exact ⟨_,.bool (a>c),h,rfl,by simp [binOp,Op.intCmp],hg⟩
    ·exact ⟨_,.bool (a>=c),h,rfl,by simp [binOp,Op.intCmp],hg⟩
    ·cases h
   ·cases h
 ·rename_i a c
  have hx:vx=.string a:=hx
  have hy:vy=.string c:=hy
  subst hx hy
  have hg:∀ ox oy,eqGuard b t ox oy (.string a) (.string c)=pure ():=fun ox oy=>eqGuard_at_string ..
  split at h
  ·split at h
   ·rename_i hle
    refine ⟨_,.string (a++c),h,rfl,?_,hg⟩
    have hmax:IntKind.i64.max=9223372036854775807:=by decide
    have:¬ (((a.size+c.size:Nat):Int)>IntKind.i64.max):=by rw [hmax]; omega
    simp [binOp,Op.stringOp,hmax]
    omega
   ·cases h
  ·exact ⟨_,.bool (a.toList==c.toList),h,rfl,by simp [binOp,Op.stringOp],hg⟩
  ·exact ⟨_,.bool (!(a.toList==c.toList)),h,rfl,by simp [binOp,Op.stringOp],hg⟩
  ·exact ⟨_,.bool (Op.bytesLess a.toList c.toList),h,rfl,by simp [binOp,Op.stringOp],hg⟩
  ·exact ⟨_,.bool (Op.bytesLess a.toList c.toList||a.toList==c.toList),h,rfl,by simp [binOp,Op.stringOp],hg⟩
  ·exact ⟨_,.bool (!(Op.bytesLess a.toList c.toList||a.toList==c.toList)),h,rfl,by simp [binOp,Op.stringOp],hg⟩
  ·exact ⟨_,.bool (!(Op.bytesLess a.toList c.toList)),h,rfl,by simp [binOp,Op.stringOp],hg⟩
  ·cases h
 ·cases h
theorem Zd {n:Nat} {o:Oper} {d:Nat} {b:BinOp} {x y:BS} {cal:Cz} (h:Ye n o d b x y=true):ET P n o (.bin d b x y) cal:=by
 intro ρ kn r s act w H φ next Q hs hf hn hk hnext
 simp only [Ye,AD] at h
 obtain ⟨h1,h2⟩:=h
 obtain ⟨hd,hdn⟩:=BC h1
 split at h2
 ·rename_i b' t x' y' yt ho
  simp only [AD,decide_eq_true_eq] at h2
  obtain ⟨⟨hx,hy⟩,rfl⟩:=h2
  simp only [CN] at hk
  obtain ⟨a,v,hk',hv,hrun,hg⟩:=Xc (P:=P) hk (An hf hx) (An hf hy) t
  exact plain_ok hs hf hn hd hdn hk' (fun w2 _=>Wz ho (hg _ _) (hrun w2)) (VA.of_VF hv) hnext
 ·cases h2
def MQ:Kd->Option Nat
 | .pair a b=>some (Kd.pair a b).sz
 | _=>none
mutual
def W0 (P:Program):Nat->TypeId->Kd->Bool
 | 0,_,_=>false
 | D+1,t,K=>match P.underlying t with
  | some (.int _)=>(match K with | .int _=>true | _=>false)
  | some .bool=>(match K with | .bool=>true | _=>false)
  | some .string=>(match K with | .str=>true | _=>false)
  | some (.struct fs)=>!P.stoodInHeld t&&(match K with | .pair a b=>W3 P D fs.toList 0 (.pair a b) | _=>false)
  | _=>false
def W3 (P:Program):Nat->List Field->Nat->Kd->Bool
 | 0,_,_,_=>false
 | _,[],_,_=>false
 | D+1,f::fs,off,K=>decide (f.name ≠ "_")&&f.offset==off &&
  (if fs.isEmpty then Pb P f.type (MQ K)&&W0 P D f.type K
  else match K with
   | .pair a b=>Pb P f.type (MQ a)&&W0 P D f.type a&&W3 P D fs (off+a.sz) b
   | _=>false)
end
def G3:Kd->Value->Prop
 | .pair _ _,v=>∃ arr,v=.agg arr
 | _,v=>v.cells=#[v]
theorem Pc {H:HP} {K:Kd} {x:K.T} {xs:Array Value} {off:Nat} {t:TypeId} (w:World) (h:C4 H K x ((xs.toList.drop off).take K.sz)) (ht:Pb P t (MQ K)=true) :
  ∃ v,(Go.part t xs off).run P w=.ok v w/\C4 H K x v.cells.toList/\G3 K v:=by
 have one:∀ v,(xs.toList.drop off).take 1=[v]->xs[off]? = some v:=by
  intro v e
  have e1:((xs.toList.drop off).take 1)[0]? = some v:=by rw [e]; rfl
  rw [BB] at e1
  simpa using e1
 cases K with
 | int k =>
  have hv:=one (.int k x) h
  exact ⟨_,D7 ht hv,rfl,rfl⟩
 | bool =>
  have hv:=one (.bool x) h
  exact ⟨_,D7 ht hv,rfl,rfl⟩
 | str =>
  have hv:=one (.string x) h
  exact ⟨_,D7 ht hv,rfl,rfl⟩
 | slice e =>
  obtain ⟨v,hv,hr⟩:=h
  have hv:=one v hv
  have hc:v.cells=#[v]:=by obtain ⟨a,cap,e1,_⟩:=hr; subst e1; rfl
  exact ⟨v,D7 ht hv,⟨v,by rw [hc],hr⟩,hc⟩
 | pair a b =>
  simp only [MQ,Pb,AD] at ht
  refine ⟨_,Pa ht.2 ht.1,?_,⟨_,rfl⟩⟩
  simpa [Value.cells,List.extract] using h
 | own t e=>exact h.elim
 | ref K=>exact h.elim
 | «fun» f =>
  have hv:=one _ h
  exact ⟨_,D7 ht hv,rfl,rfl⟩
 | clo f K =>
  obtain ⟨v,hv,hr⟩:=h
  have hv:=one v hv
  have hc:v.cells=#[v]:=by obtain ⟨b,o,c,el,fz,e1,_⟩:=hr; subst e1; rfl
  exact ⟨v,D7 ht hv,⟨v,by rw [hc],hr⟩,hc⟩
mutual
theorem UR {H:HP} (w:World):∀ (D d:Nat) (t:TypeId) (K:Kd) (x y:K.T) (v u:Value),W0 P D t K=true->D<=d->C4 H K x v.cells.toList->C4 H K y u.cells.toList->G3 K v->G3 K u ->
  (Op.equalIn d t v u).run P w=.ok (Vg K x y) w
 | 0,_,_,_,_,_,_,_,h,_,_,_,_,_=>by simp [W0] at h
 | D+1,0,_,_,_,_,_,_,_,h,_,_,_,_=>by omega
 | D+1,d+1,t,K,x,y,v,u,h,hd,hx,hy,fx,fy=>by
  unfold W0 at h
  split at h
  ·rename_i k hu
   cases K<;>first | cases h | skip
   rename_i k'
   simp only [G3] at fx fy
   simp only [fx,fy,C4] at hx hy
   simp only [List.cons.injEq,and_true] at hx hy
   subst hx hy
   exact run_equalIn_int w d t k' k x y hu
  ·rename_i hu
   cases K<;>first | cases h | skip
   simp only [G3] at fx fy
   simp only [fx,fy,C4] at hx hy
   simp only [List.cons.injEq,and_true] at hx hy
   subst hx hy
   exact run_equalIn_bool w d t x y hu
  ·rename_i hu
   cases K<;>first | cases h | skip
   simp only [G3] at fx fy
   simp only [fx,fy,C4] at hx hy
   simp only [List.cons.injEq,and_true] at hx hy
   subst hx hy
   exact run_equalIn_string w d t x y hu
  ·rename_i fs hu
   simp only [AD,DH] at h
   obtain ⟨h0,h⟩:=h
   cases K with
   | pair a b =>
    obtain ⟨xs,rfl⟩:=fx
    obtain ⟨ys,rfl⟩:=fy
    have hfo:P.fieldsOf t=fs:=by simp [Program.fieldsOf,hu]
    rw [run_equalIn_struct w d t xs ys (by rw [hfo]; exact hu) h0,hfo]
    refine WL (H:=H) w D d fs.toList 0 (.pair a b) x y xs ys h (by omega) ?_ ?_
    ·have:=hx.length
     simp only [Value.cells] at hx this
     simp only [List.drop_zero]
     rw [List.take_of_length_le (by omega)]
     exact hx
    ·have:=hy.length
     simp only [Value.cells] at hy this
     simp only [List.drop_zero]
     rw [List.take_of_length_le (by omega)]
     exact hy
   | _=>cases h
  ·cases h
theorem WL {H:HP} (w:World):∀ (D d:Nat) (fs:List Field) (off:Nat) (K:Kd) (x y:K.T) (xs ys:Array Value),W3 P D fs off K=true->D<=d ->
  C4 H K x ((xs.toList.drop off).take K.sz)->C4 H K y ((ys.toList.drop off).take K.sz)->(Op.eqFields d xs ys fs).run P w=.ok (Vg K x y) w
 | 0,_,_,_,_,_,_,_,_,h,_,_,_=>by simp [W3] at h
 | D+1,_,[],_,_,_,_,_,_,h,_,_,_=>by simp [W3] at h
 | D+1,d,f::fs,off,K,x,y,xs,ys,h,hd,hx,hy=>by
  unfold W3 at h
  simp only [AD,decide_eq_true_eq,beq_iff_eq] at h
  obtain ⟨⟨hnm,hoff⟩,h⟩:=h
  subst hoff
  split at h
  ·rename_i he
   have he:fs=[]:=by simpa using he
   subst he
   simp only [AD] at h
   obtain ⟨v,r1,r2,r3⟩:=Pc w hx h.1
   obtain ⟨u,s1,s2,s3⟩:=Pc w hy h.1
   have hq:=UR w D d f.type K x y v u h.2 (by omega) r2 s2 r3 s3
   simp only [Op.eqFields,if_pos hnm,Sem.run_bind,r1,s1,hq,Result.andThen_ok]
   cases Vg K x y<;>simp
  ·cases K with
   | pair a b =>
    simp only [AD] at h
    obtain ⟨⟨h1,h2⟩,h3⟩:=h
    have cut:∀ {z:(Kd.pair a b).T} {zs:Array Value},C4 H (.pair a b) z ((zs.toList.drop f.offset).take (Kd.pair a b).sz) ->
      C4 H a z.1 ((zs.toList.drop f.offset).take a.sz)/\C4 H b z.2 ((zs.toList.drop (f.offset+a.sz)).take b.sz):=by
     intro z zs hz
     obtain ⟨c1,c2,e,g1,g2⟩:=hz
     have l1:=g1.length
     have l2:=g2.length
     have e1:(zs.toList.drop f.offset).take a.sz=c1:=by
      have h1:=congrArg (List.take a.sz) e
      rw [List.take_take,show min a.sz (Kd.pair a b).sz=a.sz by simp [Kd.sz]] at h1
      rw [h1,<- l1]
      simp
     have e2:(zs.toList.drop (f.offset+a.sz)).take b.sz=c2:=by
      have h1:=congrArg (List.drop a.sz) e
      rw [List.drop_take,List.drop_drop,show (Kd.pair a b).sz-a.sz=b.sz by simp [Kd.sz]] at h1
      rw [h1,<- l1]
      simp
     exact ⟨by rw [e1]; exact g1,by rw [e2]; exact g2⟩
    obtain ⟨hx1,hx2⟩:=cut hx
    obtain ⟨hy1,hy2⟩:=cut hy
    obtain ⟨v,r1,r2,r3⟩:=Pc w hx1 h1
    obtain ⟨u,s1,s2,s3⟩:=Pc w hy1 h1
    have hq:=UR w D d f.type a x.1 y.1 v u h2 (by omega) r2 s2 r3 s3
    simp only [Op.eqFields,if_pos hnm,Sem.run_bind,r1,s1,hq,Result.andThen_ok,Vg]
    cases Vg a x.1 y.1 with
    | false=>simp
    | true =>
     simp only [Bool.not_true,Bool.false_eq_true,if_false,Bool.true_and]
     exact WL w D d fs _ b x.2 y.2 xs ys h3 (by omega) hx2 hy2
   | _=>cases h
end
def AV.closed (a:AV):Bool:=a.solid||a.isNew
theorem VC.closed {H:HP} {φ:BF} {st:List AH} {a:AV} {v:Value} (hs:a.closed=true) (h:VC H φ st a v):VF H a v:=by
 cases a<;>first | exact h | cases hs
theorem VCs.closed {H:HP} {φ:BF} {st:List AH} {aw:List AV} {vs:List Value} (hs:aw.all AV.closed=true) (h:AX (VC H φ st) aw vs):Ed H aw vs :=
 EX.2 (h.impM fun a ha _ g=>VC.closed (Ax.1 hs a ha) g)
theorem W4:∀ (K:Kd) {aw:List AV} {x:K.T} {r:List AV},K.dec aw=some (x,r)->∃ c,aw=c++r/\c.all AV.closed=true:=by
 intro K
 induction K with
 | int k =>
  intro aw x r hd
  cases aw with
  | nil=>simp [Kd.dec] at hd
  | cons a aw =>
   cases a<;>simp [Kd.dec] at hd
   obtain ⟨rfl,rfl,rfl⟩:=hd
   exact ⟨[_],rfl,rfl⟩
 | bool =>
  intro aw x r hd
  cases aw with
  | nil=>simp [Kd.dec] at hd
  | cons a aw =>
   cases a<;>simp [Kd.dec] at hd
   obtain ⟨rfl,rfl⟩:=hd
   exact ⟨[_],rfl,rfl⟩
 | str =>
  intro aw x r hd
  cases aw with
  | nil=>simp [Kd.dec] at hd
  | cons a aw =>
   cases a<;>simp [Kd.dec] at hd
   obtain ⟨rfl,rfl⟩:=hd
   exact ⟨[_],rfl,rfl⟩
 | slice e ih =>
  intro aw x r hd
  cases aw with
  | nil=>simp [Kd.dec] at hd
  | cons a aw =>
   cases a with
   | nil =>
    simp only [Kd.dec,Af,Prod.mk.injEq] at hd
    obtain ⟨rfl,rfl⟩:=hd
    exact ⟨[_],rfl,rfl⟩
   | lst K xs =>
    simp only [Kd.dec] at hd
    split at hd
    ·rename_i hk
     subst hk
     simp only [Af,Prod.mk.injEq] at hd
     obtain ⟨rfl,rfl⟩:=hd
     exact ⟨[_],rfl,rfl⟩
    ·cases hd
   | _=>simp [Kd.dec] at hd
 | pair a b iha ihb =>
  intro aw x r hd
  simp only [Kd.dec] at hd
  cases hx:a.dec aw with
  | none=>simp [hx] at hd
  | some xa =>
   obtain ⟨xa,ra⟩:=xa
   simp only [hx,Z] at hd
   cases hy:b.dec ra with
   | none=>simp [hy] at hd
   | some yb =>
    obtain ⟨yb,rb⟩:=yb
    simp only [hy,Z,Af,Prod.mk.injEq] at hd
    obtain ⟨rfl,rfl⟩:=hd
    obtain ⟨c1,e1,h1⟩:=iha hx
    obtain ⟨c2,e2,h2⟩:=ihb hy
    exact ⟨c1++c2,by rw [e1,e2,CL],by simp only [List.all_append,h1,h2,Bool.and_self]⟩
 | own t e ih =>
  intro aw x r hd
  cases aw with
  | nil=>simp [Kd.dec] at hd
  | cons a aw =>
   cases a with
   | new t' e' xs =>
    simp only [Kd.dec] at hd
    split at hd
    ·split at hd
     ·rename_i hk
      subst hk
      cases hd
      exact ⟨[_],rfl,rfl⟩
     ·cases hd
    ·cases hd
   | _=>simp [Kd.dec] at hd
 | ref K ih =>
  intro aw x r hd
  cases aw with
  | nil=>simp [Kd.dec] at hd
  | cons a aw =>
   cases a with
   | ref cs =>
    simp only [Kd.dec] at hd
    cases h1:K.dec cs with
    | none=>rw [h1] at hd; cases hd
    | some p =>
     rw [h1] at hd
     simp only [Z] at hd
     split at hd
     ·cases hd
      exact ⟨[_],rfl,rfl⟩
     ·cases hd
   | _=>simp [Kd.dec] at hd
 | «fun» f =>
  intro aw x r hd
  cases aw with
  | nil=>simp [Kd.dec] at hd
  | cons a aw =>
   cases a with
   | fn f' caps =>
    cases caps with
    | nil =>
     simp only [Kd.dec] at hd
     split at hd
     ·cases hd
      exact ⟨[_],rfl,rfl⟩
     ·cases hd
    | cons _ _=>simp [Kd.dec] at hd
   | _=>simp [Kd.dec] at hd
 | clo f K ih =>
  intro aw x r hd
  cases aw with
  | nil=>simp [Kd.dec] at hd
  | cons a aw =>
   cases a with
   | clo f' K' y =>
    simp only [Kd.dec] at hd
    split at hd
    ·split at hd
     ·rename_i hk
      subst hk
      cases hd
      exact ⟨[_],rfl,rfl⟩
     ·cases hd
    ·cases hd
   | _=>simp [Kd.dec] at hd
theorem DI {K:Kd} {cs:List AV} {x:K.T} (h:K.ofCells cs=some x):K.dec cs=some (x,[]):=by
 unfold Kd.ofCells at h
 cases hd:K.dec cs with
 | none=>rw [hd] at h; cases h
 | some y =>
  obtain ⟨y,r⟩:=y
  rw [hd] at h
  simp only [Z] at h
  cases r with
  | nil=>simpa using h
  | cons _ _=>cases h
theorem Xd {K:Kd} {a:AV} {x:K.T} (h:K.of a=some x):K.dec a.cells=some (x,[])/\AV.fits K a=true:=by
 unfold Kd.of at h
 split at h
 ·rename_i hf
  exact ⟨DI h,hf⟩
 ·cases h
theorem Ko {H:HP} {φ:BF} {st:List AH} {a:AV} {v:Value} (h:VC H φ st a v):a.cells=[a]:=by
 cases a<;>first | rfl | exact h.elim
theorem C4.vcells {H:HP} {K:Kd} {x:K.T} {v:Value} (h:C4 H K x [v]):v.cells=#[v]:=by
 cases K with
 | int k=>cases h; rfl
 | bool=>cases h; rfl
 | str=>cases h; rfl
 | slice e=>obtain ⟨u,e1,a,cap,e2,_⟩:=h; cases e1; subst e2; rfl
 | own t e=>exact h.elim
 | ref K=>exact h.elim
 | «fun» f=>cases h; rfl
 | clo f K=>obtain ⟨u,e1,b,o,c,el,fz,e2,_⟩:=h; cases e1; subst e2; rfl
 | pair a b=>have:=h.length; have h1:=Kd.sz_pos a; have h2:=Kd.sz_pos b; simp [Kd.sz] at this; omega
theorem of_rep {H:HP} {K:Kd} {a:AV} {v:Value} {x:K.T} {φ:BF} {st:List AH} (hv:VA H φ st a v) (h:K.of a=some x) :
  C4 H K x v.cells.toList/\G3 K v:=by
 obtain ⟨hd,hf⟩:=Xd h
 obtain ⟨c,e,hs⟩:=W4 K hd
 rw [List.append_nil] at e
 rcases hv.cases with ⟨cs,arr,rfl,rfl,hc⟩ | ⟨vs,arr,rfl,_,_⟩ | hc
 ·simp only [AV.cells] at hd e
  subst e
  obtain ⟨c1,c2,e1,e2,e3⟩:=Dd K (VCs.closed hs hc) hd
  cases e3
  simp only [List.append_nil] at e1
  refine ⟨by simp only [Value.cells]; rw [e1]; exact e2,?_⟩
  cases K with
  | pair a b=>exact ⟨_,rfl⟩
  | _=>cases hf
 ·simp only [AV.cells] at e
  subst e
  cases hs
 ·rw [Ko hc] at hd e
  subst e
  have hs:a.closed=true:=by simpa using hs
  obtain ⟨c1,c2,e1,e2,e3⟩:=Dd K (aw:=[a]) (vs:=[v]) ⟨v,[],rfl,VC.closed hs hc,rfl⟩ hd
  cases e3
  rw [List.append_nil] at e1
  subst e1
  have hcell:=e2.vcells
  refine ⟨by rw [hcell]; exact e2,?_⟩
  cases K with
  | pair _ _ =>
   cases a<;>first | cases hf | skip
   all_goals cases hs
  | _=>exact hcell
def Yf (P:Program) (n:Nat) (o:Oper) (d:Nat) (neg:Bool) (K:Kd) (x y:BS):Bool :=
 FS o n d&&(match o.op with
  | .binOp b t x' y' _=>Bw x' x&&Bw y' y&&W0 P 40 t K&&(match b with | .eql=>!neg | .neq=>neg | _=>false) &&
   (match K with | .bool=>true | .pair _ _=>!P.eqGuardType P.depth t | _=>false)
  | _=>false)
theorem Ze {n:Nat} {o:Oper} {d:Nat} {neg:Bool} {K:Kd} {x y:BS} {cal:Cz} (h:Yf P n o d neg K x y=true):ET P n o (.eqs d neg K x y) cal:=by
 intro ρ kn r s act w H φ next Q hs hf hn hk hnext
 simp only [Yf,AD] at h
 obtain ⟨h1,h2⟩:=h
 obtain ⟨hd,hdn⟩:=BC h1
 split at h2
 ·rename_i b t x' y' yt ho
  simp only [AD] at h2
  obtain ⟨⟨⟨⟨hx,hy⟩,ht⟩,hb⟩,hg⟩:=h2
  simp only [CN] at hk
  ·cases hxa:K.of (s.opd x) with
   | none=>rw [hxa] at hk; cases hk
   | some xa =>
    cases hya:K.of (s.opd y) with
    | none=>rw [hxa,hya] at hk; cases hk
    | some ya =>
     rw [hxa,hya] at hk
     simp only [Z] at hk
     obtain ⟨rx,fx⟩:=of_rep (An hf hx) hxa
     obtain ⟨ry,fy⟩:=of_rep (An hf hy) hya
     have key:∀ w:World,(execOp act.eval o).run P w=.ok (.value (.bool (neg != Vg K xa ya))) w:=by
      intro w
      have hq:=UR (P:=P) w 40 10000 t K xa ya _ _ ht (by omega) rx ry fx fy
      have hguard:(eqGuard b t x' y' (act.eval x') (act.eval y')).run P w=.ok () w:=by
       cases K with
       | bool =>
        simp only [G3] at fx
        have rx:=rx
        simp only [fx,C4,List.cons.injEq,and_true] at rx
        rw [rx,eqGuard_at_bool]
        rfl
       | pair a c =>
        obtain ⟨xs,ex⟩:=fx
        obtain ⟨ys,ey⟩:=fy
        rw [ex,ey]
        exact run_eqGuard_agg w b t x' y' xs ys (by simpa using hg)
       | _=>cases hg
      have hrun:(binOp b t (act.eval x') (act.eval y')).run P w=.ok (.bool (neg != Vg K xa ya)) w:=by
       have hk2:∀ {vx vy:Value},(vx.cells=#[vx]->∃ c,vx=.bool c)->(vy.cells=#[vy]->∃ c,vy=.bool c)->(Op.equalIn 10000 t vx vy).run P w=.ok (Vg K xa ya) w ->
         (binOp b t vx vy).run P w=.ok (.bool (neg != Vg K xa ya)) w:=by
        intro vx vy hvx hvy he
        have cx:(∃ c,vx=.bool c)\/∃ c,vx=.agg c:=by
         cases vx<;>first | exact .inl (hvx rfl) | exact .inr ⟨_,rfl⟩
        have cy:(∃ c,vy=.bool c)\/∃ c,vy=.agg c:=by
         cases vy<;>first | exact .inl (hvy rfl) | exact .inr ⟨_,rfl⟩
        have e1:b=.eql->(binOp b t vx vy).run P w=.ok (.bool (Vg K xa ya)) w:=by
         intro e; subst e
         rcases cx with ⟨c,rfl⟩ | ⟨c,rfl⟩<;>rcases cy with ⟨c',rfl⟩ | ⟨c',rfl⟩<;>simp [binOp,Op.equal,Op.maxDepth,he]
        have e2:b=.neq->(binOp b t vx vy).run P w=.ok (.bool (!Vg K xa ya)) w:=by
         intro e; subst e
         rcases cx with ⟨c,rfl⟩ | ⟨c,rfl⟩<;>rcases cy with ⟨c',rfl⟩ | ⟨c',rfl⟩<;>simp [binOp,Op.equal,Op.maxDepth,he]
        cases b<;>first | cases hb | skip
        ·have:neg=false:=by simpa using hb
         subst this
         rw [e1 rfl]
         simp
        ·rw [e2 rfl]
         simp
       refine hk2 ?_ ?_ hq
       ·intro hc
        cases K with
        | bool=>simp only [hc,C4,List.cons.injEq,and_true] at rx; exact ⟨_,rx⟩
        | pair a c=>obtain ⟨xs,ex⟩:=fx; rw [ex] at hc; exact absurd hc (by
          intro h
          have hsz:=rx.length
          rw [ex] at hsz
          have h2:=congrArg Array.size h
          have p1:=Kd.sz_pos a
          have p2:=Kd.sz_pos c
          simp [Value.cells,Kd.sz] at hsz h2
          omega)
        | _=>cases hg
       ·intro hc
        cases K with
        | bool=>simp only [hc,C4,List.cons.injEq,and_true] at ry; exact ⟨_,ry⟩
        | pair a c=>obtain ⟨xs,ex⟩:=fy; rw [ex] at hc; exact absurd hc (by
          intro h
          have hsz:=ry.length
          rw [ex] at hsz
          have h2:=congrArg Array.size h
          have p1:=Kd.sz_pos a
          have p2:=Kd.sz_pos c
          simp [Value.cells,Kd.sz] at hsz h2
          omega)
        | _=>cases hg
      simp only [execOp,ho,Sem.run_bind,hguard,hrun,Result.andThen_ok,Sem.run_pure]
     exact plain_ok hs hf hn hd hdn hk (v:=.bool (neg != Vg K xa ya)) (fun w2 _=>key w2) rfl hnext
 ·cases h2

def SY (P:Program) (t:TypeId):Bool:=match P.underlying t with | some .string=>true | _=>false
def NJ (P:Program) (t:TypeId):Bool:=match P.underlying t with | some (.slice _)=>true | _=>false
theorem Kp {t:TypeId} (h:SY P t=true):P.underlying t=some .string:=by
 unfold SY at h
 split at h
 ·assumption
 ·cases h
theorem Ir {t:TypeId} (h:NJ P t=true):P.underlying t=some (.slice (P.elem t)):=by
 unfold NJ at h
 split at h
 ·rename_i e hu; simp [Program.elem,hu]
 ·cases h
def Yg (P:Program) (n:Nat) (o:Oper) (d:Nat) (isStr:Bool) (x:BS):Bool :=
 FS o n d&&(match o.op with
  | .call ⟨.builtin .len,args,tys⟩=>(match args.toList,tys.toList with
   | [y],[t]=>Bw y x&&(if isStr then SY P t else NJ P t)
   | _,_=>false)
  | _=>false)
theorem Pd {act:Act} {w:World} {o:Oper} {y:Operand} {t:TypeId} {v:Value} {args:Array Operand} {tys:Array TypeId} (ho:o.op=.call ⟨.builtin .len,args,tys⟩)
  (ha:args.toList=[y]) (ht:tys.toList=[t]) (h:(Builtin.len_ #[t] o.type #[act.eval y]).run P w=.ok v w):(execOp act.eval o).run P w=.ok (.value v) w:=by
 have ha:args=#[y]:=by rw [<- ha]
 have ht:tys=#[t]:=by rw [<- ht]
 subst ha ht
 simp [execOp,ho,resolve,invoke,builtin,h]
theorem Zf {n:Nat} {o:Oper} {d:Nat} {isStr:Bool} {x:BS} {cal:Cz} (h:Yg P n o d isStr x=true):ET P n o (.len d isStr x) cal:=by
 intro ρ kn r s act w H φ next Q hs hf hn hk hnext
 simp only [Yg,AD] at h
 obtain ⟨h1,h2⟩:=h
 obtain ⟨hd,hdn⟩:=BC h1
 split at h2
 ·rename_i args tys ho
  split at h2
  ·rename_i y t ha ht
   simp only [AD] at h2
   obtain ⟨h2,h3⟩:=h2
   have hv:=An hf h2
   simp only [CN] at hk
   have slc:isStr=false->∀ (m:Nat) a cap,act.eval y=.slice a m cap->kn (s.put d (.int .i64 m))=some r->o.wp P act w next Q:=by
    intro e m a cap hy hk'
    subst e
    refine plain_ok hs hf hn hd hdn hk' (v:=goInt m) ?_ rfl hnext
    intro w2 _
    refine Pd ho ha ht ?_
    rw [hy]
    exact run_len_slice w2 t _ a m cap (Ir (by simpa using h3))
   cases hx:s.opd x with
   | str b =>
    rw [hx] at hk hv
    simp only at hk
    split at hk
    ·rename_i e
     subst e
     have hv:act.eval y=.string b:=hv
     refine plain_ok hs hf hn hd hdn hk (v:=goInt b.size) ?_ rfl hnext
     intro w2 _
     refine Pd ho ha ht ?_
     rw [hv]
     exact run_len_string w2 t _ b (Kp (by simpa using h3))
    ·cases hk
   | nil =>
    rw [hx] at hk hv
    simp only at hk
    split at hk
    ·cases hk
    ·rename_i e
     exact slc (by simpa using e) 0 none 0 hv hk
   | lst K xs =>
    rw [hx] at hk hv
    simp only at hk
    split at hk
    ·cases hk
    ·rename_i e
     obtain ⟨a,cap,ev,_⟩:=hv
     exact slc (by simpa using e) _ _ _ ev hk
   | row id =>
    rw [hx] at hk hv
    simp only at hk
    split at hk
    ·cases hk
    ·rename_i e
     obtain ⟨ev,_⟩:=hv
     cases hb:s.st[id]? with
     | none=>rw [hb] at hk; cases hk
     | some bx =>
      rw [hb] at hk
      have hbox:=hs.box id bx hb
      cases bx with
      | rows t' K xs =>
       obtain ⟨a,c,e1⟩:=Aj.slice hbox
       rw [e1] at ev
       exact slc (by simpa using e) _ _ _ ev hk
      | frz K xs =>
       obtain ⟨⟨a,cap,e1,_⟩,_⟩:=hbox
       rw [e1] at ev
       exact slc (by simpa using e) _ _ _ ev hk
      | mrow t' K xs =>
       obtain ⟨a,c,e1⟩:=Aj.slice hbox
       rw [e1] at ev
       exact slc (by simpa using e) _ _ _ ev hk
      | byt t' xs =>
       obtain ⟨g,cap,e1,_⟩:=Ut.flat hbox
       rw [e1] at ev
       exact slc (by simpa using e) _ _ _ ev hk
      | var cs=>cases hk
      | hole m t K xs i q=>cases hk
      | dead=>cases hk
   | irow id i q =>
    rw [hx] at hk hv
    simp only at hk
    split at hk
    ·cases hk
    ·rename_i e
     obtain ⟨N,K0,hkd,hi,hq,hu⟩:=(hv:VC H φ s.st (.irow id i q) _)
     have go:∀ (t':TypeId) (K:Kd) (xs:List K.T),Aj H w C7 (φ id) t' K xs->AE s.st id=some (K,xs.length)->((K.innG (xs.getD i K.zero) q).bind fun r=>kn (s.put d (.int .i64 r.xs.length)))=some r->o.wp P act w next Q:=by
      intro t' K xs hR hk2 hk
      rw [hk2] at hkd
      simp only [Af,Prod.mk.injEq] at hkd
      obtain ⟨rfl,rfl⟩:=hkd
      cases hr:K.innG (xs.getD i K.zero) q with
      | none=>rw [hr] at hk; cases hk
      | some r0 =>
       rw [hr] at hk
       obtain ⟨⟨flat,ho2,_⟩,_⟩:=Aj.out hR hi hr hu
       obtain ⟨a,c,e1⟩:=Aa ho2
       exact slc (by simpa using e) _ _ _ e1 hk
     split at hk
     ·rename_i t' K xs hb
      exact go t' K xs (hs.box id _ hb) (by simp only [AE,hb]) hk
     ·rename_i t' K xs hb
      exact go t' K xs (hs.box id _ hb) (by simp only [AE,hb]) hk
     ·cases hk
   | _=>rw [hx] at hk; cases hk
  ·cases h2
 ·cases h2
def WM (P:Program) (n:Nat) (o:Oper) (d:Nat) (x i:BS):Bool :=
 FS o n d&&(match o.op with | .index t x' i'=>Bw x' x&&Bw i' i&&SY P t | _=>false)
theorem Yh {n:Nat} {o:Oper} {d:Nat} {x i:BS} {cal:Cz} (h:WM P n o d x i=true):ET P n o (.sidx d x i) cal:=by
 intro ρ kn r s act w H φ next Q hs hf hn hk hnext
 simp only [WM,AD] at h
 obtain ⟨h1,h2⟩:=h
 obtain ⟨hd,hdn⟩:=BC h1
 split at h2
 ·rename_i t x' i' ho
  simp only [AD] at h2
  obtain ⟨⟨hx,hi⟩,ht⟩:=h2
  have vx:=An hf hx
  have vi:=An hf hi
  simp only [CN] at hk
  split at hk
  ·rename_i b k j hxe hie
   rw [hxe] at vx
   rw [hie] at vi
   have vx:act.eval x'=.string b:=vx
   have vi:act.eval i'=.int k j:=vi
   split at hk
   ·rename_i h0
    split at hk
    ·rename_i h1
     refine plain_ok hs hf hn hd hdn hk (v:=.int .u8 (b[j.toNat]'(by omega)).toNat) ?_ ?_ hnext
     ·intro w2 _
      simp [execOp,ho,vx,vi,run_index_string w2 t b k j (Kp ht),h0,h1]
     ·show Value.int .u8 _=.int .u8 _
      congr 2
      have e:b.data.toList.getD j.toNat 0=b[j.toNat]'(by omega):=by
       have hlt:j.toNat<b.data.size:=by have:b.size=b.data.size:=rfl; omega
       simp only [List.getD,Array.getElem?_toList,Array.getElem?_eq_getElem hlt,Option.getD_some]
       rfl
      rw [e]
    ·cases hk
   ·cases hk
  ·cases hk
 ·cases h2
def WN (P:Program) (n:Nat) (o:Oper) (d m:Nat) (x i:BS):Bool :=
 FS o n d&&(match o.op with | .index t x' i'=>Bw x' x&&Bw i' i&&(match P.underlying t with | some (.array len e)=>len==m&&(match P.info? e with | some ie=>ie.size==1 | none=>false)&&(match P.underlying e with | some (.int _)=>true | _=>false) | _=>false) | _=>false)
theorem WO {H:HP} {φ:BF}:∀ {cs:List AV} {vs:List Value} {xs:List Int} {st:List AH},AX (VC H φ st) cs vs->(Kd.int .i64).ofs (cs.map fun c=>[c])=some xs->vs=xs.map (.int .i64)
 | [],vs,xs,st,h,e=>by cases h; cases e; rfl
 | c::cs,vs,xs,st,⟨v,r,e1,hc,hr⟩,e=>by
  simp only [List.map_cons,Kd.ofs] at e
  cases hd:(Kd.int .i64).dec [c] with
  | none=>rw [hd] at e; cases e
  | some y =>
   obtain ⟨y,rest⟩:=y
   rw [hd,Z] at e
   cases c with
   | int k n =>
    simp only [Kd.dec] at hd
    split at hd
    ·rename_i hk
     subst hk
     cases hd
     simp only at e
     cases h2:(Kd.int .i64).ofs (cs.map fun c=>[c]) with
     | none=>rw [h2] at e; cases e
     | some ys =>
      rw [h2,Z] at e
      cases e
      have:=WO hr h2
      subst this
      rw [e1]
      have hc:v=.int .i64 _:=hc
      rw [hc]
      rfl
    ·cases hd
   | _=>simp [Kd.dec] at hd
theorem Yi {n:Nat} {o:Oper} {d m:Nat} {x i:BS} {cal:Cz} (h:WN P n o d m x i=true):ET P n o (.aidx d m x i) cal:=by
 intro ρ kn r s act w H φ next Q hs hf hn hk hnext
 simp only [WN,AD] at h
 obtain ⟨h1,h2⟩:=h
 obtain ⟨hd,hdn⟩:=BC h1
 split at h2
 ·rename_i t x' i' ho
  simp only [AD] at h2
  obtain ⟨⟨hx,hi⟩,ht⟩:=h2
  split at ht
  ·rename_i len e hu
   simp only [AD,beq_iff_eq] at ht
   obtain ⟨⟨rfl,hie⟩,hue⟩:=ht
   have hagg:∀ w,(isAgg e).run P w=.ok false w:=fun w=>by
    split at hue
    ·rename_i k hk; simp [isAgg,run_underlying hk]
    ·cases hue
   have hsz:∀ w,(sizeOf e).run P w=.ok 1 w:=fun w=>by
    split at hie
    ·rename_i ie hie2; rw [beq_iff_eq] at hie; simp [sizeOf,typeInfo,hie2,hie]
    ·cases hie
   have vx:=An hf hx
   have vi:=An hf hi
   simp only [CN] at hk
   split at hk
   ·rename_i cs k j hxe hie
    rw [hxe] at vx
    rw [hie] at vi
    obtain ⟨arr,ea,hc⟩:=vx
    have vi:act.eval i'=.int k j:=vi
    cases hxs:(Kd.int .i64).ofs (cs.map fun c=>[c]) with
    | none=>rw [hxs] at hk; cases hk
    | some xs =>
     rw [hxs,Z] at hk
     have hl:=WO hc hxs
     split at hk
     ·rename_i hlen
      split at hk
      ·rename_i h0
       split at hk
       ·rename_i h1
        have hlt:j.toNat<xs.length:=by omega
        have harr:arr[j.toNat]? = some (.int .i64 (xs.getD j.toNat 0)):=by
         rw [<- Array.getElem?_toList,hl,BT,List.getElem?_eq_getElem hlt]
         simp [List.getD,List.getElem?_eq_getElem hlt]
        refine plain_ok hs hf hn hd hdn hk (v:=.int .i64 (xs.getD j.toNat 0)) ?_ rfl hnext
        intro w2 _
        simp [execOp,ho,ea,vi,Instr.index,run_underlying hu,asIntOf,h0,h1,Go.part,hagg,hsz,harr]
       ·cases hk
      ·cases hk
     ·cases hk
   ·cases hk
  ·cases ht
 ·cases h2
def Yj (P:Program) (n:Nat) (o:Oper) (d:Nat) (z:Nat) (x i:BS):Bool :=
 FS o n d&&(match o.op with | .indexAddr t x' i'=>Bw x' x&&Bw i' i&&NJ P t&&Vh P (P.elem t) z | _=>false)
theorem Zg {n:Nat} {o:Oper} {d:Nat} {z:Nat} {x i:BS} {cal:Cz} (h:Yj P n o d z x i=true):ET P n o (.idx d z x i) cal:=by
 intro ρ kn r s act w H φ next Q hs hf hn hk hnext
 simp only [Yj,AD] at h
 obtain ⟨h1,h2⟩:=h
 obtain ⟨hd,hdn⟩:=BC h1
 split at h2
 ·rename_i t x' i' ho
  simp only [AD] at h2
  obtain ⟨⟨⟨hx,hi⟩,ht⟩,hz⟩:=h2
  have vx:=An hf hx
  have vi:=An hf hi
  have hsize:∀ w,(sizeOf (P.elem t)).run P w=.ok z w:=by
   intro w
   have hs:=In hz
   cases hq:P.info? (P.elem t) with
   | none=>simp [hq] at hs
   | some q =>
    have hs:q.size=z:=by simpa [hq] using hs
    simp [sizeOf,typeInfo,hq,hs]
  have run:∀ b off m cap k (j:Int),act.eval x'=.slice (some ⟨b,off,none⟩) m cap->act.eval i'=.int k j->0<=j->j<m->∀ w2,CJ o act w w2 ->
    (execOp act.eval o).run P w2=.ok (.value (.pointer (some ⟨b,off+j.toNat*z,none⟩))) w2:=by
   intro b off m cap k j e1 e2 h0 h1 w _
   simp [execOp,ho,e1,e2,run_indexAt_slice w t _ m cap k j (Ir ht),h0,h1,hsize,Addr.add_none]
  simp only [CN] at hk
  have frozen:∀ (K:Kd) (xs:List K.T) k (j:Int),MC (C4 H K) K.sz H xs (act.eval x')->act.eval i'=.int k j->K.sz=z->0<=j->j<xs.length ->
    ∃ b off cap c el fz,act.eval x'=.slice (some ⟨b,off,none⟩) xs.length cap/\H b=some (.cells c el fz) /\
     ∀ j x,xs[j]? = some x->∃ cs,C4 H K x cs/\cs.length=K.sz/\∀ i u,cs[i]? = some u->c[off+j*K.sz+i]? = some u:=by
   intro K xs k j hr hi hzz h0 h1
   obtain ⟨a,cap,ev,_,hr⟩:=hr
   rcases hr with rfl | ⟨b,off,c,el,fz,ea,hb,hc⟩
   ·simp at h1; omega
   ·subst ea
    exact ⟨b,off,cap,c,el,fz,ev,hb,hc⟩
  split at hk
  ·rename_i K xs k j hxe hie
   rw [hxe] at vx
   rw [hie] at vi
   have vi:act.eval i'=.int k j:=vi
   split at hk
   ·rename_i hzz
    split at hk
    ·rename_i h0
     split at hk
     ·rename_i h1
      obtain ⟨b,off,cap,c,el,fz,e1,e2,e3⟩:=frozen K xs k j vx vi hzz h0 h1
      refine plain_ok hs hf hn hd hdn hk (run _ _ _ _ _ _ e1 vi h0 h1) ?_ hnext
      have hlt:j.toNat<xs.length:=by omega
      obtain ⟨cs,g1,g2,g3⟩:=e3 j.toNat xs[j.toNat] (by simp)
      have eg:xs.getD j.toNat K.zero=xs[j.toNat]:=by simp [List.getD,hlt]
      rw [eg]
      refine ⟨b,off+j.toNat*z,c,el,fz,by simp,e2,cs,Ed.of_rep g1,fun q u hu=>?_⟩
      rw [<- hzz]
      exact g3 q u hu
     ·cases hk
    ·cases hk
   ·cases hk
  ·rename_i id k j hxe hie
   rw [hxe] at vx
   rw [hie] at vi
   have vi:act.eval i'=.int k j:=vi
   obtain ⟨ev,_⟩:=vx
   split at hk
   ·rename_i t' K xs hb
    split at hk
    ·rename_i hzz
     split at hk
     ·rename_i h0
      split at hk
      ·rename_i h1
       rcases Aj.addr (hs.box id _ hb) with e2 | ⟨g,cap,e1⟩
       ·omega
       ·rw [e1] at ev
        refine plain_ok hs hf hn hd hdn hk (run _ _ _ _ _ _ ev vi h0 h1) ?_ hnext
        exact ⟨g,xs.length,cap,K,by simp only [AE,hb],by omega,e1,by simp [hzz]⟩
      ·cases hk
     ·cases hk
    ·cases hk
   ·rename_i K xs hb
    split at hk
    ·rename_i hzz
     split at hk
     ·rename_i h0
      split at hk
      ·rename_i h1
       obtain ⟨hr,ha⟩:=hs.box id _ hb
       rw [<- ev] at hr ha
       obtain ⟨b,off,cap,c,el,fz,e1,e2,e3⟩:=frozen K xs k j hr vi hzz h0 h1
       obtain ⟨hoff,_⟩:=ha _ _ _ e1
       simp only at hoff
       subst hoff
       refine plain_ok hs hf hn hd hdn hk (run _ _ _ _ _ _ e1 vi h0 h1) ?_ hnext
       exact ⟨b,xs.length,cap,K,by simp only [AE,hb],by omega,by rw [<- ev]; exact e1,by simp [hzz]⟩
      ·cases hk
     ·cases hk
    ·cases hk
   ·rename_i t' K xs hb
    split at hk
    ·rename_i hzz
     split at hk
     ·rename_i h0
      split at hk
      ·rename_i h1
       rcases Aj.addr (hs.box id _ hb) with e2 | ⟨g,cap,e1⟩
       ·omega
       ·rw [e1] at ev
        refine plain_ok hs hf hn hd hdn hk (run _ _ _ _ _ _ ev vi h0 h1) ?_ hnext
        exact ⟨g,xs.length,cap,K,by simp only [AE,hb],by omega,e1,by simp [hzz]⟩
      ·cases hk
     ·cases hk
    ·cases hk
   ·rename_i t' xs hb
    split at hk
    ·rename_i hzz
     split at hk
     ·rename_i h0
      split at hk
      ·rename_i h1
       obtain ⟨g,cap,e1,_⟩:=Ut.flat (hs.box id _ hb)
       rw [e1] at ev
       refine plain_ok hs hf hn hd hdn hk (run _ _ _ _ _ _ ev vi h0 h1) ?_ hnext
       exact ⟨g,xs.length,cap,.int .u8,by simp only [AE,hb],by omega,by rw [e1]; rfl,by simp [hzz]⟩
      ·cases hk
     ·cases hk
    ·cases hk
   ·cases hk
  ·cases hk
 ·cases h2
theorem SZ {w:World} {isSlice:Bool} {len cap:Nat} {lo hi:Option Value} {l h:Int} (hlo:(lo=none/\l=0)\/∃ k,lo=some (.int k l)) (hhi:(hi=none/\h=len)\/∃ k,hi=some (.int k h))
  (h0:0<=l) (h1:l<=h) (h2:h<=cap):(Instr.sliceBounds isSlice len cap lo hi none).run P w=.ok (l.toNat,h.toNat,cap) w:=by
 have eh:(h.toNat:Int)=h:=Int.toNat_of_nonneg (by omega)
 have hh:0<=h:=by omega
 rcases hlo with ⟨rfl,rfl⟩ | ⟨k,rfl⟩<;>rcases hhi with ⟨rfl,rfl⟩ | ⟨k',rfl⟩
 ·simp [Instr.sliceBounds]
 ·simp [Instr.sliceBounds,run_sliceBound,h2,hh]
 ·simp [Instr.sliceBounds,run_sliceBound,h0,h1]
 ·simp [Instr.sliceBounds,run_sliceBound,h0,h1,h2,hh,eh]
def Xe:Option Operand->Option BS->Bool
 | none,none=>true
 | some x,some y=>Bw x y
 | _,_=>false
theorem US {H:HP} {φ:BF} {s:St} {act:Act} {lo:Option Operand} {lo':Option BS} {l d0:Int} {k k0:IntKind} (hf:Ca H φ s.st s.fr act.tmps) (h:Xe lo lo'=true)
  (hl:(match lo' with | none=>AV.int k0 d0 | some y=>s.opd y)=.int k l):(lo.map act.eval=none/\l=d0)\/∃ k,lo.map act.eval=some (.int k l):=by
 cases lo with
 | none =>
  cases lo' with
  | none=>simp only [AV.int.injEq] at hl; exact .inl ⟨rfl,hl.2.symm⟩
  | some y=>simp [Xe] at h
 | some x =>
  cases lo' with
  | none=>simp [Xe] at h
  | some y =>
   have hv:=An hf h
   simp only at hl
   rw [hl] at hv
   have hv:act.eval x=.int k l:=hv
   exact .inr ⟨k,by simp [hv]⟩
def aP (P:Program) (n:Nat) (o:Oper) (d:Nat) (z:Nat) (x:BS) (lo hi:Option BS):Bool :=
 FS o n d&&(match o.op with
  | .slice t x' lo' hi' none=>Bw x' x&&Xe lo' lo&&Xe hi' hi&&(if z=0 then SY P t else NJ P t&&Vh P (P.elem t) z)
  | _=>false)
theorem Z6 {n:Nat} {o:Oper} {d:Nat} {z:Nat} {x:BS} {lo hi:Option BS} {cal:Cz} (h:aP P n o d z x lo hi=true):ET P n o (.sl d z x lo hi) cal:=by
 intro ρ kn r s act w H φ next Q hs hf hn hk hnext
 simp only [aP,AD] at h
 obtain ⟨h1,h2⟩:=h
 obtain ⟨hd,hdn⟩:=BC h1
 split at h2
 ·rename_i t x' lo' hi' ho
  simp only [AD] at h2
  obtain ⟨⟨⟨hx,hlo⟩,hhi⟩,ht⟩:=h2
  have vx:=An hf hx
  simp only [CN] at hk
  split at hk
  ·rename_i b k l hxe hle
   rw [hxe] at vx
   have vx:act.eval x'=.string b:=vx
   split at hk
   ·rename_i hz
    subst hz
    simp only [if_true] at ht
    split at hk
    ·rename_i k2 h hhe
     split at hk
     ·rename_i h0
      split at hk
      ·rename_i h1
       split at hk
       ·rename_i h2
        have hb:=fun w=>SZ (P:=P) (w:=w) (isSlice:=false) (US hf hlo hle) (US hf hhi hhe) h0 h1 h2
        refine plain_ok hs hf hn hd hdn hk (v:=.string (b.extract l.toNat h.toNat)) ?_ rfl hnext
        intro w2 _
        simp [execOp,ho,vx,Instr.sliceAt,Instr.slice,run_underlying (Kp ht),hb]
       ·cases hk
      ·cases hk
     ·cases hk
    ·cases hk
   ·cases hk
  ·rename_i K xs k l hxe hle
   rw [hxe] at vx
   obtain ⟨a,cap,ev,hcap,hr⟩:=(vx:MC (C4 H K) K.sz H xs (act.eval x'))
   split at hk
   ·rename_i hz
    have hz0:z≠0:=by have:=Kd.sz_pos K; omega
    simp only [if_neg hz0,AD] at ht
    have hsize:∀ w,(sizeOf (P.elem t)).run P w=.ok z w:=by
     intro w
     have hs:=In ht.2
     cases hq:P.info? (P.elem t) with
     | none=>simp [hq] at hs
     | some q =>
      have hs:q.size=z:=by simpa [hq] using hs
      simp [sizeOf,typeInfo,hq,hs]
    split at hk
    ·rename_i k2 h hhe
     split at hk
     ·rename_i h0
      split at hk
      ·rename_i h1
       split at hk
       ·rename_i h2
        have hb:=fun w=>SZ (P:=P) (w:=w) (isSlice:=true) (cap:=cap) (US hf hlo hle) (US hf hhi hhe) h0 h1 (by omega)
        refine plain_ok hs hf hn hd hdn hk (v:=.slice (if cap=l.toNat then a else a.map (·.add (l.toNat*z))) (h.toNat-l.toNat) (cap-l.toNat)) ?_ ?_ hnext
        ·intro w2 _
         simp [execOp,ho,ev,Instr.sliceAt,Instr.slice,run_underlying (Ir ht.1),hb,hsize]
        ·have hlen:((xs.take h.toNat).drop l.toNat).length=h.toNat-l.toNat:=by
          rw [List.length_drop,List.length_take]; omega
         refine ⟨_,_,by rw [hlen],by rw [hlen]; omega,?_⟩
         rcases hr with rfl | ⟨b,off,c,el,fz,ea,hbb,hc⟩
         ·left; simp
         ·by_cases he:cap=l.toNat
          ·left
           rw [<- Dk,hlen]
           omega
          ·right
           subst ea
           refine ⟨b,off+l.toNat*z,c,el,fz,by simp [he,Addr.add_none],hbb,fun j y hy=>?_⟩
           rw [Ba,BB] at hy
           split at hy
           ·obtain ⟨cs,g1,g2,g3⟩:=hc _ y hy
            refine ⟨cs,g1,g2,fun i u hu=>?_⟩
            have:=g3 i u hu
            rw [hz,Nat.add_mul,<- Nat.add_assoc] at this
            rw [hz]
            exact this
           ·cases hy
       ·cases hk
      ·cases hk
     ·cases hk
    ·cases hk
   ·cases hk
  ·cases hk
 ·cases h2

theorem OI {H:HP} {φ:BF} {s:St} {a:AV} {v:Value} {K:Kd} {ρ:Type} {kn:List K.T->Option ρ} {r:ρ} (hv:VA H φ s.st a v) (h:s.list a K kn=some r):VC H φ s.st a v:=by
 rcases hv.cases with ⟨cs,arr,rfl,_⟩ | ⟨vs,arr,rfl,_⟩ | h
 ·cases h
 ·cases h
 ·exact h
def Zh (P:Program) (n:Nat) (o:Oper) (d:Nat) (x:BS):Bool :=
 FS o n d&&(match o.op with
  | .convert src dst y=>Bw y x&&NJ P src&&SY P dst&&(match P.underlying (P.elem src) with | some (.int .u8)=>true | _=>false)
  | _=>false)
theorem Zi {n:Nat} {o:Oper} {d:Nat} {x:BS} {cal:Cz} (h:Zh P n o d x=true):ET P n o (.bts d x) cal:=by
 intro ρ kn r s act w H φ next Q hs hf hn hk hnext
 simp only [Zh,AD] at h
 obtain ⟨h1,h2⟩:=h
 obtain ⟨hd,hdn⟩:=BC h1
 split at h2
 ·rename_i src dst y ho
  simp only [AD] at h2
  obtain ⟨⟨⟨h2,h3⟩,h4⟩,h5⟩:=h2
  have he:P.underlying (P.elem src)=some (.int .u8):=by
   split at h5
   ·assumption
   ·cases h5
  simp only [CN] at hk
  have hv:=An hf h2
  obtain ⟨xs,hk',sl,cap,flat,ev,hl,hr,hc,hnone⟩:=UG hs (OI hv hk) hk
  have hl1:flat.length=xs.length:=by rw [hl]; exact Nat.mul_one _
  have hflat:flat=xs.map (Value.int .u8):=by
   apply List.ext_getElem?
   intro j
   rcases BI j xs.length with hj | hj
   ·have:=hr j xs[j] (by simp)
    have e:((flat.drop (j*1)).take 1)=[Value.int .u8 xs[j]]:=this
    rw [Nat.mul_one] at e
    have e2:=congrArg (fun l:List Value=>l[0]?) e
    simp only [BB,Ba] at e2
    simpa [hj] using e2
   ·rw [Cb (by omega),Cb (by simp; omega)]
  have hrun:(convert src dst (act.eval y)).run P w=.ok (.string (NC xs)) w:=by
   rw [ev]
   cases sl with
   | none =>
    have:=hnone rfl
    subst this
    rw [run_convert_bytes_nil w src _ (Ir h3) he _ _ dst (Kp h4)]
    rfl
   | some a =>
    rw [run_convert_bytes_string w src dst _ (some a) xs.length cap (Ir h3) he (Kp h4)]
    have hcell:∀ j v,(xs.map (Value.int .u8))[j]? = some v->w.cell? (a.add j)=some v:=by
     rcases hc with h | h | ⟨b,off,h,g⟩
     ·cases h
     ·subst h; intro j v hj; simp at hj
     ·cases h
      intro j v hj
      rw [Addr.add_none]
      exact g j v (by rw [hflat]; exact hj)
    have hload:=run_loadCells_list (P:=P) w a (xs.map (Value.int .u8)) hcell
    simp only [List.length_map] at hload
    rw [run_bytesToString w a xs.length cap xs hload,foldl_push_bytes]
    simp [NC]
  exact FZ (s1:=s) (AP.refl hs) hf hn hd hdn hk' (v:=.string (NC xs)) (by simp [execOp,ho,hrun]) rfl hnext (SD.refl _ _ _ _) rfl
 ·cases h2
theorem Xf {K:Kd} {z:Array Value} {n j:Nat} (hz:z.size=K.sz) (hj:j<n):((madeCells z (n*K.sz)).toList.drop (j*K.sz)).take K.sz=z.toList:=by
 have hpos:=Kd.sz_pos K
 ·apply List.ext_getElem?
  intro i
  rcases BI i K.sz with hi | hi
  ·have hlt:j*K.sz+i<n*K.sz:=by
    have:(j+1)*K.sz<=n*K.sz:=Bj _ hj
    rw [Nat.succ_mul] at this
    omega
   have hmod:(j*K.sz+i) % K.sz=i:=by rw [Nat.mul_comm,Nat.mul_add_mod,Nat.mod_eq_of_lt hi]
   rw [BB,if_pos hi,Ba]
   simp only [madeCells,Array.toList_map,BT,Array.toList_range,List.getElem?_range hlt,Option.map_some]
   rw [hz,hmod]
   have hiz:i<z.size:=by omega
   simp [hiz,getElem!_pos]
  ·rw [BB,if_neg (by omega),Cb (by simp; omega)]
theorem W5 {H:HP} {w:World} {K:Kd} {z:Array Value} {e:TypeId} {v:Value} {n:Nat} (hz:z.size=K.sz) (hr:Tt K z.toList) (ho:w.ownsRow 0 e K.sz v n (madeCells z (n*K.sz)).toList) :
  ∃ v',Aj H w C7 v' e K (List.replicate n K.zero)/\hdr v'=v/\∀ b,BQ v' b->BQ v b:=by
 obtain ⟨vs,hb,hn⟩:=hr
 obtain ⟨a,c,e0⟩:=Aa ho
 have hfl:(List.replicate n vs).flatten.filterMap Dc=[]:=by
  rw [List.filterMap_eq_nil_iff] at hb ⊢
  intro u hu
  obtain ⟨l,h1,h2⟩:=List.mem_flatten.1 hu
  rw [List.eq_of_mem_replicate h1] at h2
  exact hb u h2
 refine ⟨Rc v (List.replicate n vs).flatten,⟨v,_,List.replicate n vs,rfl,by simpa using ho,by simp,?_,fun j x us hx hj=>?_⟩,D5 (by rw [e0]; simp),fun b hb'=>?_⟩
 ·rw [List.filterMap_cons,hfl]
  cases Dc v<;>simp
 ·rw [List.getElem?_replicate] at hx hj
  split at hx
  ·rename_i hjn
   rw [if_pos hjn] at hj
   cases hx
   cases hj
   rw [Xf hz hjn]
   exact (hn H w).congr fun _ _=>rfl
  ·cases hx
 ·obtain ⟨u,hu,hc⟩:=(D6 ⟨_,_,_,e0⟩).1 hb'
  rcases AQ.1 hu with rfl | hu
  ·exact .of hc
  ·have:b∈(List.replicate n vs).flatten.filterMap Dc:=List.mem_filterMap.2 ⟨u,hu,hc⟩
   rw [hfl] at this
   cases this
def aU (P:Program) (n:Nat) (o:Oper) (d:Nat) (e:TypeId) (K:Kd) (m:BS):Bool :=
 FS o n d&&XP P e K&&(match o.op with | .makeSlice t l c=>Bw l m&&Bw c m&&(match P.underlying t with | some (.slice e')=>e'==e | _=>false) | _=>false)
theorem Z7 {n:Nat} {o:Oper} {d:Nat} {e:TypeId} {K:Kd} {m:BS} {cal:Cz} (h:aU P n o d e K m=true):ET P n o (.mk d e K m) cal:=by
 intro ρ kn r s act w H φ next Q hs hf hn hk hnext
 simp only [aU,AD] at h
 obtain ⟨⟨h1,hel⟩,h2⟩:=h
 obtain ⟨hd,hdn⟩:=BC h1
 split at h2
 ·rename_i t l c ho
  simp only [AD] at h2
  obtain ⟨⟨hl,hc⟩,ht⟩:=h2
  have hu:P.underlying t=some (.slice e):=by
   split at ht
   ·rename_i e' hu
    simp only [beq_iff_eq] at ht
    rw [hu,ht]
   ·cases ht
  obtain ⟨i,z,hi,hz,hsz,hb,hzs,hzr⟩:=PW hel
  simp only [CN] at hk
  have vl:=An hf hl
  have vc:=An hf hc
  cases hm:s.opd m with
  | int k q =>
   rw [hm] at hk vl vc
   have vl:act.eval l=.int k q:=vl
   have vc:act.eval c=.int k q:=vc
   simp only at hk
   split at hk
   ·rename_i h0
    split at hk
    ·rename_i hq
     have eq:((q.toNat:Nat):Int)=q:=Int.toNat_of_nonneg h0
     have hqn:q.toNat<=68719476736:=by omega
     have hbytes:i.bytes*q.toNat<=281474976710656:=by
      calc i.bytes*q.toNat<=2048*68719476736:=Nat.mul_le_mul hb hqn
       _<=281474976710656:=by decide
     obtain ⟨w',hrun,hown,hgrow⟩:=run_make_full (P:=P) w w.heap.size t e i z K.sz hu hi hz hsz k k q.toNat hbytes (by simp only [maxLen]; omega) (Nat.le_refl _)
     rw [eq] at hrun
     obtain ⟨hown1,hnew⟩:=NG hown
     obtain ⟨v',hR,hv',hvb⟩:=W5 (H:=H) hzs hzr hown1
     have hst:=PX hs hgrow hR (fun b hb=>hnew b (hvb b hb))
     refine FZ (s:=s) (s1:=⟨s.fr,s.st++[.rows e K (List.replicate q.toNat K.zero)]⟩) (a:=.row s.st.length) (v:=.slice (some ⟨w.heap.size,0,none⟩) q.toNat q.toNat) hst (hf.mono (HP.le_refl H) (CO φ s.st _ _)) hn hd hdn hk
      (by simp only [execOp,ho,Sem.run_bind,vl,vc,hrun,Result.andThen_ok,Sem.run_pure]) ?_ hnext (SD.grown hs hgrow) rfl
     exact ⟨by simp [hv'],by simp [AE]⟩
    ·cases hk
   ·cases hk
  | _=>rw [hm] at hk; cases hk
 ·cases h2
theorem Sa {H:HP} {φ:BF} {st:List AH} {w:World} {a:AV} {v:Value} (hs:SR H φ st w) (hc:VC H φ st a v) (hf:a.full=true):v.cells=#[v]:=by
 cases a with
 | row id =>
  obtain ⟨e,hk⟩:=hc
  subst e
  obtain ⟨a,n,c,e⟩:=Tq hs hk
  rw [e]; rfl
 | ptr id off=>obtain ⟨_,b,_,e⟩:=hc; rw [e]; rfl
 | eptr id i off=>obtain ⟨b,_,_,_,_,_,_,e⟩:=hc; rw [e]; rfl
 | fptr cs off=>obtain ⟨b,_,_,_,_,e,_⟩:=hc; rw [e]; rfl
 | fn f caps=>obtain ⟨_,e⟩:=hc; rw [e]; rfl
 | clo f K x=>obtain ⟨b,o,c,el,fz,e,_⟩:=hc; rw [e]; rfl
 | undef=>cases hf
 | void=>cases hf
 | irow id i q=>cases hf
 | new t K xs=>exact hc.elim
 | ref cs=>exact hc.elim
 | was id=>cases hf
 | self T=>cases hf
 | agg cs=>exact hc.elim
 | tup vs=>exact hc.elim
 | int k n=>exact VF.cells (H:=H) (a:=.int k n) hc
 | bool b=>exact VF.cells (H:=H) (a:=.bool b) hc
 | str b=>exact VF.cells (H:=H) (a:=.str b) hc
 | nil=>exact VF.cells (H:=H) (a:=.nil) hc
 | lst K xs=>exact VF.cells (H:=H) (a:=.lst K xs) hc
theorem Sb {H:HP} {φ:BF} {st:List AH} {w:World} {a:AV} {v:Value} (hs:SR H φ st w) (h:VA H φ st a v) (hf:a.full=true):AX (VC H φ st) a.cells v.cells.toList:=by
 rcases h.cases with ⟨cs,arr,rfl,rfl,hc⟩ | ⟨vs,arr,rfl,_,_⟩ | hc
 ·exact hc
 ·cases hf
 ·rw [Ko hc,Sa hs hc hf]
  exact ⟨v,[],rfl,hc,rfl⟩
theorem AX.set {α β:Type} {R:α->β->Prop}:∀ {aw:List α} {vs:List β} (n:Nat) {a:α} {v:β},AX R aw vs->R a v->AX R (aw.set n a) (vs.set n v)
 | [],vs,n,a,v,h,_=>by cases h; simp [AX]
 | _::_,_,0,a,v,⟨v0,r,e,_,hr⟩,g=>by subst e; exact ⟨v,r,rfl,g,hr⟩
 | _::_,_,n+1,a,v,⟨v0,r,e,h,hr⟩,g=>by subst e; exact ⟨v0,_,rfl,h,AX.set n hr g⟩
theorem U6 {R:AV->Value->Prop}:∀ {aw:List AV} {vs:List Value} {cs:List AV} {arr:Array Value} (off k:Nat),AX R cs arr.toList->AX R aw vs ->
  AX R (Ap cs (off+k) aw) ((vs.zipIdx k).foldl (fun cs c=>cs.setIfInBounds (off+c.2) c.1) arr).toList
 | [],_,cs,arr,off,k,h,g=>by cases g; simpa [Ap] using h
 | a::aw,_,cs,arr,off,k,h,⟨v,r,e,g,gr⟩=>by
  subst e
  simp only [Ap,List.zipIdx_cons,List.foldl_cons]
  rw [Nat.add_assoc]
  refine U6 off (k+1) ?_ gr
  rw [Array.toList_setIfInBounds]
  exact h.set _ g
def MR (places:Nat->Option (Nat×Nat)):List (Nat×Operand)->List (Nat×Nat×BS)->Bool
 | [],[]=>true
 | (i,y)::ps,(off,m,x)::qs=>decide (places i=some (off,m))&&Bw y x&&MR places ps qs
 | _,_=>false
theorem SE {H:HP} {φ:BF} {s:St} {w:World} {act:Act} (hs:SR H φ s.st w) (hf:Ca H φ s.st s.fr act.tmps) (places:Nat->Option (Nat×Nat)) :
  ∀ (ps:List (Nat×Operand)) (qs:List (Nat×Nat×BS)) (cs cs':List AV) (arr:Array Value),MR places ps qs=true->AX (VC H φ s.st) cs arr.toList->s.filled cs qs=some cs' ->
   ∃ arr',Instr.fill places arr (ps.map fun p=>(p.1,act.eval p.2))=some arr'/\AX (VC H φ s.st) cs' arr'.toList
 | [],[],cs,cs',arr,_,h,e=>by cases e; exact ⟨arr,rfl,h⟩
 | (i,y)::ps,(off,m,x)::qs,cs,cs',arr,hb,h,e=>by
  simp only [MR,AD,decide_eq_true_eq] at hb
  obtain ⟨⟨hp,hy⟩,hb⟩:=hb
  simp only [St.filled] at e
  split at e
  ·rename_i hc
   obtain ⟨hfull,hlen,hle⟩:=hc
   have hv:=Sb hs (An hf hy) hfull
   have hsz:(act.eval y).cells.size=m:=by have:=hv.length; simpa [hlen] using this
   have hcs:arr.size=cs.length:=by simpa using h.length
   have h2:=U6 off 0 h hv
   rw [Nat.add_zero] at h2
   obtain ⟨arr',h3,h4⟩:=SE hs hf places ps qs (Ap cs off (s.opd x).cells) cs' (((act.eval y).cells.toList.zipIdx 0).foldl (fun cs c=>cs.setIfInBounds (off+c.2) c.1) arr) hb h2 e
   refine ⟨arr',?_,h4⟩
   simp only [List.map_cons,Instr.fill,hp]
   rw [if_neg (by simp [hsz]; omega)]
   rw [<- h3]
   congr 1
   rw [<- Array.foldl_toList,Array.toList_zipIdx]
  ·cases e
 | [],_::_,_,_,_,hb,_,_=>by simp [MR] at hb
 | _::_,[],_,_,_,hb,_,_=>by simp [MR] at hb
def UT (P:Program) (n:Nat) (o:Oper) (d:Nat) (zero:List AV) (qs:List (Nat×Nat×BS)):Bool :=
 FS o n d&&(match o.op with
  | .build t ps=>XX P t zero&&(match P.underlying t with
   | some (.struct fields)=>(match fields.toList.mapM (fun f=>(P.info? f.type).map fun i=>(f.offset,i.size)) with
    | some places=>MR (places[·]?) ps.toList qs
    | none=>false)
   | some (.array _ e)=>(match P.info? e with
    | some ie=>MR (fun i=>some (i*ie.size,ie.size)) ps.toList qs
    | none=>false)
   | _=>false)
  | _=>false)
theorem Xg {n:Nat} {o:Oper} {d:Nat} {zero:List AV} {qs:List (Nat×Nat×BS)} {cal:Cz} (h:UT P n o d zero qs=true):ET P n o (.build d zero qs) cal:=by
 intro ρ kn r s act w H φ next Q hs hf hn hk hnext
 simp only [UT,AD] at h
 obtain ⟨h1,h2⟩:=h
 obtain ⟨hd,hdn⟩:=BC h1
 split at h2
 ·rename_i t ps ho
  simp only [AD] at h2
  obtain ⟨hz,h2⟩:=h2
  obtain ⟨i,z,hi,hzz,hzc⟩:=XY hz
  split at h2
  ·rename_i fields hu
   split at h2
   ·rename_i places hpl
    simp only [CN] at hk
    cases hq:s.filled zero qs with
    | none=>rw [hq] at hk; cases hk
    | some cs =>
     rw [hq] at hk
     simp only [Z] at hk
     obtain ⟨arr,h3,h4⟩:=SE hs hf (places[·]?) ps.toList qs zero cs z.cells h2 ((EX.1 (hzc H)).imp fun _ _ h=>VC.of_VF h) hq
     have hb:P.built t (ps.map fun p=>(p.1,act.eval p.2)).toList=some arr:=by
      unfold Program.built
      simp only [hi,hu,hzz,hpl]
      rw [Array.toList_map]
      simpa using h3
     refine plain_ok hs hf hn hd hdn hk (v:=.agg arr) ?_ ⟨arr,rfl,h4⟩ hnext
     intro w2 _
     simp only [execOp,ho,Sem.run_bind,run_build w2 t _ arr hb,Result.andThen_ok,Sem.run_pure]
   ·cases h2
  ·rename_i len e hu
   split at h2
   ·rename_i ie hie
    simp only [CN] at hk
    cases hq:s.filled zero qs with
    | none=>rw [hq] at hk; cases hk
    | some cs =>
     rw [hq] at hk
     simp only [Z] at hk
     obtain ⟨arr,h3,h4⟩:=SE hs hf _ ps.toList qs zero cs z.cells h2 ((EX.1 (hzc H)).imp fun _ _ h=>VC.of_VF h) hq
     have hb:P.built t (ps.map fun p=>(p.1,act.eval p.2)).toList=some arr:=by
      unfold Program.built
      simp only [hi,hu,hzz,hie]
      rw [Array.toList_map]
      simpa using h3
     refine plain_ok hs hf hn hd hdn hk (v:=.agg arr) ?_ ⟨arr,rfl,h4⟩ hnext
     intro w2 _
     simp only [execOp,ho,Sem.run_bind,run_build w2 t _ arr hb,Result.andThen_ok,Sem.run_pure]
   ·cases h2
  ·cases h2
 ·cases h2
theorem VC.of_told {T:TypeId} {H:HP} {φ:BF} {st:List AH} {a:AV} {u:Value} (h:U2 T H φ st a u) (hz:∀ i,a≠.was i) (hu:a≠.undef):VC H φ st a u:=by
 obtain ⟨h1,h2⟩:=h
 cases a with
 | row i=>exact ⟨(h2 i rfl).2,(h2 i rfl).1⟩
 | was i=>exact absurd rfl (hz i)
 | undef=>exact absurd rfl hu
 | self T=>trivial
 | _=>first | exact VC.of_VF (h1 .nilIface) | exact (h1 .nilIface).elim
def Xh (P:Program) (n:Nat) (o:Oper) (d:Nat) (zero:List AV) (qs:List (Nat×Nat×BS)):Bool :=
 FS o n d&&(match o.op with
  | .build t ps=>WI P t zero&&(match P.underlying t with
   | some (.struct fields)=>(match fields.toList.mapM (fun f=>(P.info? f.type).map fun i=>(f.offset,i.size)) with
    | some places=>MR (places[·]?) ps.toList qs
    | none=>false)
   | _=>false)
  | _=>false)
theorem Yk {n:Nat} {o:Oper} {d:Nat} {zero:List AV} {qs:List (Nat×Nat×BS)} {cal:Cz} (h:Xh P n o d zero qs=true):ET P n o (.bnew d zero qs) cal:=by
 intro ρ kn r s act w H φ next Q hs hf hn hk hnext
 simp only [Xh,AD] at h
 obtain ⟨h1,h2⟩:=h
 obtain ⟨hd,hdn⟩:=BC h1
 split at h2
 ·rename_i t ps ho
  simp only [AD] at h2
  obtain ⟨hz,h2⟩:=h2
  obtain ⟨i,z,hi,hzz,hzc⟩:=PY hz
  obtain ⟨φ1,g1,k1,told,len⟩:=Kn (hzc H) hs
  split at h2
  ·rename_i fields hu
   split at h2
   ·rename_i places hpl
    simp only [CN] at hk
    cases hq:s.filled (Aq s.st.length zero) qs with
    | none=>rw [hq] at hk; cases hk
    | some cs =>
     rw [hq] at hk
     simp only [Z] at hk
     have hopd:∀ x,(⟨s.fr,s.st++Ae zero⟩:St).opd x=s.opd x:=fun x=>by cases x<;>rfl
     have hq':∀ (qs:List (Nat×Nat×BS)) (cs:List AV),(⟨s.fr,s.st++Ae zero⟩:St).filled cs qs=s.filled cs qs:=by
      intro qs
      induction qs with
      | nil=>intro cs; rfl
      | cons q qs ih=>obtain ⟨off,m,x⟩:=q; intro cs; simp only [St.filled,hopd,ih]
     have hf1:Ca H φ1 (s.st++Ae zero) s.fr act.tmps:=hf.mono (HP.le_refl H) k1
     have htold:∀ (k:Nat) (cs:List AV) (vs:List Value),AX (ZC t H) cs vs->∀ (st:List AH) (φ:BF),AX (U2 t H φ st) (Aq k cs) vs->AX (VC H φ st) (Aq k cs) vs:=by
      intro k cs
      induction cs generalizing k with
      | nil=>intro vs h st φ g; exact g
      | cons a cs ih =>
       intro vs h st φ g
       obtain ⟨v,r,rfl,ha,hr⟩:=h
       rcases ha with ⟨t,K,rfl,rfl⟩ | ha | ⟨rfl,rfl⟩
       ·obtain ⟨v,r',e,g1,g2⟩:=g
        cases e
        exact ⟨_,_,rfl,VC.of_told g1 (by simp) (by simp),ih (k+1) _ hr st φ g2⟩
       ·obtain ⟨o1,_,_⟩:=ST (k:=k) (r:=cs) ha
        rw [o1] at g ⊢
        obtain ⟨v,r',e,g1,g2⟩:=g
        cases e
        exact ⟨_,_,rfl,VC.of_VF ha,ih k _ hr st φ g2⟩
       ·obtain ⟨v,r',e,g1,g2⟩:=g
        cases e
        exact ⟨_,_,rfl,trivial,ih k _ hr st φ g2⟩
     obtain ⟨arr,h3,h4⟩:=SE (s:=⟨s.fr,s.st++Ae zero⟩) g1.sr hf1 (places[·]?) ps.toList qs (Aq s.st.length zero) cs z.cells h2 (htold _ _ _ (hzc H) _ _ told) (by rw [hq']; exact hq)
     have hb:P.built t (ps.map fun p=>(p.1,act.eval p.2)).toList=some arr:=by
      unfold Program.built
      simp only [hi,hu,hzz,hpl]
      rw [Array.toList_map]
      simpa using h3
     refine FZ (s:=s) (s1:=⟨s.fr,s.st++Ae zero⟩) (a:=.agg cs) (v:=.agg arr) g1 hf1 hn hd hdn hk ?_ ⟨arr,rfl,h4⟩ hnext (SD.refl _ _ _ _) rfl
     simp only [execOp,ho,Sem.run_bind,run_build w t _ arr hb,Result.andThen_ok,Sem.run_pure]
   ·cases h2
  ·cases h2
 ·cases h2

theorem EO {φ:BF} {w:World}:∀ {aw:List AV} {css:List (List AV)} {s s':St} {H:HP} {vs:List Value},SR H φ s.st w->AX (VA H φ s.st) aw vs->s.keepAlls aw=some (css,s') ->
  ∃ H',AP H φ s.st w H' φ s'.st w/\A_ φ s.st φ s'.st none/\AX (fun cs v=>Ed H' cs v.cells.toList) css vs/\s'.fr=s.fr/\s'.st.length=s.st.length
 | [],css,s,s',H,vs,hs,hv,h=>by
  cases h
  cases hv
  exact ⟨H,AP.refl hs,A_.refl _ _ _,rfl,rfl,rfl⟩
 | a::aw,css,s,s',H,vs,hs,hv,h=>by
  obtain ⟨v,r,rfl,h1,h2⟩:=hv
  simp only [St.keepAlls] at h
  cases hk:s.keepAll a.cells with
  | none=>rw [hk] at h; cases h
  | some x =>
   obtain ⟨a',s1⟩:=x
   rw [hk] at h
   simp only [Z] at h
   obtain ⟨H1,g1,k1,f1,e1,n1⟩:=F5 hs h1 hk
   cases hq:s1.keepAlls aw with
   | none=>rw [hq] at h; cases h
   | some y =>
    obtain ⟨b',s2⟩:=y
    rw [hq] at h
    cases h
    obtain ⟨H2,g2,k2,f2,e2,n2⟩:=EO g1.sr (h2.imp fun _ _ h=>h.mono g1.le k1) hq
    exact ⟨H2,g1.trans g2,k1.trans k2,⟨v,r,rfl,f1.mono g2.le,f2⟩,e2.trans e1,n2.trans n1⟩
def Vr (H:HP) (w:World):List (List AV)->List Value->List (List Value)->Prop
 | [],us,vss=>us=[]/\vss=[]
 | c::cs,us,vss=>∃ u us' v vss',us=u::us'/\vss=v::vss'/\Ij H w (fun _=>false) c u.cells.toList v/\Vr H w cs us' vss'
theorem Vr.mono {H H':HP} {w:World} (hH:H.le H'):∀ {css:List (List AV)} {us:List Value} {vss:List (List Value)},Vr H w css us vss->Vr H' w css us vss
 | [],_,_,h=>h
 | c::cs,_,_,⟨u,us',v,vss',e1,e2,h1,h2⟩=>⟨u,us',v,vss',e1,e2,Ij.imp hH (Ga w) (fun _=>rfl) h1 fun _ _ _ _=>by simp,Vr.mono hH h2⟩
theorem Sc {φ:BF} {w:World} {ks:List Kd}:∀ {aw:List AV} {css:List (List AV)} {s s1:St} {js:List Nat} {H:HP} {us:List Value},SR H φ s.st w->AX (VA H φ s.st) aw us->s.takeAll ks aw=some (css,s1,js) ->
  ∃ H1,AP H φ s.st w H1 φ s1.st w/\A_ φ s.st φ s1.st none/\s1.fr=s.fr/\s1.st.length=s.st.length/\(∀ {i:Nat} {b:AH},s1.st[i]? = some b->b.live=true->s.st[i]? = some b) /\
   ((∀ j∈js,∃ (t:TypeId) (e:Kd),∃ xs:List (Kd.T e),s1.st[j]? = some (.rows t e xs))->∃ vss,Vr H1 w css us vss/\(∀ v∈vss.flatten,∀ b,Dc v=some b->∃ j∈js,BQ (φ j) b)/\(js.Nodup->(vss.flatten.filterMap Dc).Nodup))
 | [],css,s,s1,js,H,us,hs,hv,h=>by
  cases h
  cases hv
  exact ⟨H,AP.refl hs,A_.refl _ _ _,rfl,rfl,fun h _=>h,fun _=>⟨[],⟨rfl,rfl⟩,by simp,by simp⟩⟩
 | a::aw,css,s,s1,js,H,us,hs,hv,h=>by
  obtain ⟨u,us',rfl,h1,h2⟩:=hv
  simp only [St.takeAll] at h
  cases hk:s.takeC ks a.cells with
  | none=>rw [hk] at h; cases h
  | some x =>
   obtain ⟨c,s0,j0⟩:=x
   rw [hk] at h
   simp only [Z] at h
   obtain ⟨H0,g1,k1,f1,n1,b1,m1⟩:=MM hs (h1.goodCells hs (Iq hk)) hk
   cases hq:s0.takeAll ks aw with
   | none=>rw [hq] at h; cases h
   | some y =>
    obtain ⟨cs,s2,j2⟩:=y
    rw [hq] at h
    cases h
    obtain ⟨H1,g2,k2,f2,n2,b2,m2⟩:=Sc g1.sr (h2.imp fun _ _ h=>h.mono g1.le k1) hq
    refine ⟨H1,g1.trans g2,k1.trans k2,f2.trans f1,n2.trans n1,fun h hl=>b1 (b2 h hl) hl,fun hj=>?_⟩
    obtain ⟨vss,c1,c2,c3⟩:=m2 fun j hm=>hj j (List.mem_append_right _ hm)
    obtain ⟨vi,d1,d2,d3⟩:=m1 fun j hm=>by
     obtain ⟨t,e,xs,hx⟩:=hj j (List.mem_append_left _ hm)
     exact ⟨t,e,xs,b2 hx rfl⟩
    refine ⟨vi::vss,⟨u,us',vi,vss,rfl,rfl,Ij.imp g2.le (Ga w) (fun _=>rfl) d1 fun _ _ _ _=>by simp,c1⟩,fun v hv b hb=>?_,fun hnd=>?_⟩
    ·rw [List.flatten_cons] at hv
     rcases Am.1 hv with hv | hv
     ·obtain ⟨j,q1,q2⟩:=d2 v hv b hb
      exact ⟨j,List.mem_append_left _ q1,q2⟩
     ·obtain ⟨j,q1,q2⟩:=c2 v hv b hb
      exact ⟨j,List.mem_append_right _ q1,q2⟩
    ·obtain ⟨e1,e2,e3⟩:=List.nodup_append.1 hnd
     rw [List.flatten_cons,List.filterMap_append,List.nodup_append]
     refine ⟨d3 e1,c3 e2,fun x hx y hy hxy=>?_⟩
     subst hxy
     obtain ⟨v,hv,hvb⟩:=List.mem_filterMap.1 hx
     obtain ⟨v',hv',hvb'⟩:=List.mem_filterMap.1 hy
     obtain ⟨j,q1,q2⟩:=d2 v hv x hvb
     obtain ⟨j',q1',q2'⟩:=c2 v' hv' x hvb'
     obtain ⟨t,e,xs,hx1⟩:=hj j (List.mem_append_left _ q1)
     obtain ⟨t',e',xs',hx2⟩:=hj j' (List.mem_append_right _ q1')
     exact g2.sr.sep j j' _ _ hx1 hx2 rfl rfl (e3 j q1 j' q1') x q2 q2'
theorem Vs {α β:Type} {sz:Nat} {xs ys:List α} {f g:List β} (hl:f.length=xs.length*sz) {j:Nat} :
  (j<xs.length->((f++g).drop (j*sz)).take sz=(f.drop (j*sz)).take sz)/\(xs.length<=j->((f++g).drop (j*sz)).take sz=(g.drop ((j-xs.length)*sz)).take sz):=by
 constructor
 ·intro hj
  have hle:(j+1)*sz<=xs.length*sz:=Bj _ hj
  rw [Nat.succ_mul] at hle
  rw [List.drop_append_of_le_length (by omega),List.take_append_of_le_length (by simp; omega)]
 ·intro hj
  have hle:xs.length*sz<=j*sz:=Bj _ hj
  rw [List.drop_append,List.drop_eq_nil_of_le (by omega),List.nil_append,hl,Nat.sub_mul]
theorem WP {H:HP} {w:World} (K:Kd):∀ {css:List (List AV)} {us:List Value} {vss:List (List Value)} {xs:List K.T},Vr H w css us vss->K.ofs css=some xs ->
  xs.length=us.length/\vss.length=us.length/\(∀ v∈us,v.cells.size=K.sz)/\(∀ v∈us,∀ c∈v.cells.toList,c.oneCell'=true) /\
   ∀ (j:Nat) x vs,xs[j]? = some x->vss[j]? = some vs->Cf H w (fun _=>false) K x (((us.flatMap fun v=>v.cells.toList).drop (j*K.sz)).take K.sz) vs
 | [],us,vss,xs,h,e=>by
  obtain ⟨rfl,rfl⟩:=h
  cases e
  exact ⟨rfl,rfl,by simp,by simp,fun j x vs hx=>by simp at hx⟩
 | c::css,us,vss,xs,h,e=>by
  obtain ⟨u,us',v,vss',rfl,rfl,h1,h2⟩:=h
  simp only [Kd.ofs] at e
  cases hd:K.dec c with
  | none=>rw [hd] at e; cases e
  | some y =>
   obtain ⟨y,rr⟩:=y
   rw [hd] at e
   simp only [Z] at e
   cases rr with
   | cons _ _=>cases e
   | nil =>
    simp only at e
    cases hq:K.ofs css with
    | none=>rw [hq] at e; cases e
    | some ys =>
     rw [hq] at e
     cases e
     obtain ⟨l1,l2,s1,o1,r1⟩:=WP K h2 hq
     obtain ⟨c1,c2,v1,v2,e1,e2,e3,e4⟩:=Ij.dec h1 hd
     obtain ⟨rfl,rfl⟩:=e4
     rw [List.append_nil] at e1 e2
     subst e2
     have hsz:u.cells.toList.length=K.sz:=by rw [e1]; exact e3.clen
     refine ⟨by simp [l1],by simp [l2],?_,?_,fun j x vs hx hj=>?_⟩
     ·intro v hv
      rcases AQ.1 hv with rfl | hv
      ·simpa using hsz
      ·exact s1 v hv
     ·intro v hv c hc
      rcases AQ.1 hv with rfl | hv
      ·exact h1.news.2.2 c hc
      ·exact o1 v hv c hc
     ·rw [List.flatMap_cons]
      cases j with
      | zero =>
       simp at hx hj
       subst hx hj
       rw [Nat.zero_mul,List.drop_zero,List.take_append_of_le_length (by omega),List.take_of_length_le (by omega),e1]
       exact e3
      | succ j =>
       have:=r1 j x vs (by simpa using hx) (by simpa using hj)
       have e5:(u.cells.toList++us'.flatMap fun v=>v.cells.toList).drop ((j+1)*K.sz)=(us'.flatMap fun v=>v.cells.toList).drop (j*K.sz):=by
        rw [List.drop_append,Nat.succ_mul,List.drop_eq_nil_of_le (by omega),hsz,Nat.add_sub_cancel,List.nil_append]
       rw [e5]
       exact this
theorem Vt {H:HP} {K:Kd} {x:K.T} {c:List Value} (h:C4 H K x c):CI H K [x] c:=by
 intro j y hy
 have hj:j=0:=by
  have:=(AT.1 hy).1
  simpa using this
 subst hj
 simp at hy
 subst hy
 have:=h.length
 rw [Nat.zero_mul,List.drop_zero,List.take_of_length_le (by omega)]
 exact h
theorem Qd {H:HP} (K:Kd):∀ {css:List (List AV)} {vs:List Value} {xs:List K.T},AX (fun cs v=>Ed H cs v.cells.toList) css vs->K.ofs css=some xs ->
  xs.length=vs.length/\CI H K xs (vs.flatMap fun v=>v.cells.toList)/\(∀ v∈vs,v.cells.size=K.sz)
 | [],vs,xs,h,e=>by
  cases h
  cases e
  exact ⟨rfl,fun j x hx=>by simp at hx,fun v hv=>by cases hv⟩
 | cs::css,vs,xs,h,e=>by
  obtain ⟨v,r,rfl,h1,h2⟩:=h
  simp only [Kd.ofs] at e
  cases hd:K.dec cs with
  | none=>rw [hd] at e; cases e
  | some y =>
   obtain ⟨y,rr⟩:=y
   rw [hd] at e
   simp only [Z] at e
   cases rr with
   | cons _ _=>cases e
   | nil =>
    simp only at e
    cases hq:K.ofs css with
    | none=>rw [hq] at e; cases e
    | some ys =>
     rw [hq] at e
     cases e
     obtain ⟨l1,r1,s1⟩:=Qd K h2 hq
     obtain ⟨c1,c2,e1,e2,e3⟩:=Dd K h1 hd
     cases e3
     rw [List.append_nil] at e1
     rw [<- e1] at e2
     have hsz:=e2.length
     refine ⟨by simp [l1],?_,?_⟩
     ·have:=KX (Vt e2) (by simpa using hsz) r1
      simpa using this
     ·intro u hu
      cases hu with
      | head=>simpa using hsz
      | tail _ hm=>exact s1 u hm
def W6:Nat->List (Nat×Operand)->List BS->Bool
 | _,[],[]=>true
 | i,(j,y)::ps,x::qs=>i==j&&Bw y x&&W6 (i+1) ps qs
 | _,_,_=>false
theorem Xi {H:HP} {φ:BF} {s:St} {act:Act} (hf:Ca H φ s.st s.fr act.tmps):∀ (i:Nat) (ps:List (Nat×Operand)) (qs:List BS),W6 i ps qs=true ->
  ∃ vs:List Value,(ps.map fun p=>(p.1,act.eval p.2))=(vs.zipIdx i).map (fun x=>(x.2,x.1))/\AX (VA H φ s.st) (qs.map s.opd) vs/\vs.length=qs.length
 | _,[],[],_=>⟨[],rfl,rfl,rfl⟩
 | i,(j,y)::ps,x::qs,h=>by
  simp only [W6,AD,beq_iff_eq] at h
  obtain ⟨⟨rfl,hy⟩,h⟩:=h
  obtain ⟨vs,e1,e2,e3⟩:=Xi hf (i+1) ps qs h
  exact ⟨act.eval y::vs,by simp [e1],⟨_,_,rfl,An hf hy,e2⟩,by simp [e3]⟩
 | _,[],_::_,h=>by simp [W6] at h
 | _,_::_,[],h=>by simp [W6] at h
def Zj (P:Program) (n:Nat) (o:Oper) (d:Nat) (K:Kd) (qs:List BS) (e:TypeId):Bool :=
 FS o n d&&XP P e K&&decide (qs.length*K.sz<=16777216)&&(match o.op with
  | .buildSlice t len ps=>len==qs.length&&W6 0 ps.toList qs&&(match P.underlying t with | some (.slice e')=>e'==e | _=>false)
  | _=>false)
def RO:Op->Nat->Value
 | .alloc _,b=>.pointer (some ⟨b,0,none⟩)
 | .buildSlice _ len _,b=>.slice (some ⟨b,0,none⟩) len len
 | _,_=>undef
theorem Sd {H:HP} {φ:BF} {s:St} {act:Act} {n:Nat} {o:Oper} {d:Nat} {K:Kd} {qs:List BS} {e:TypeId} (h:Zj P n o d K qs e=true) (hf:Ca H φ s.st s.fr act.tmps) :
  o.dst=some d/\d<n/\qs.length*K.sz<=16777216/\∃ vs:List Value,AX (VA H φ s.st) (qs.map s.opd) vs/\vs.length=qs.length/\(∀ b,RO o.op b=.slice (some ⟨b,0,none⟩) vs.length vs.length) /\
   ((∀ v∈vs,v.cells.size=K.sz)->∀ w:World,(execOp act.eval o).run P w=.ok (.value (.slice (some ⟨w.heap.size,0,none⟩) vs.length vs.length)) (w.alloc (.cells (vs.flatMap fun v=>v.cells.toList).toArray e))):=by
 simp only [Zj,AD,decide_eq_true_eq] at h
 obtain ⟨⟨⟨h1,hel⟩,hsm⟩,h2⟩:=h
 obtain ⟨hd,hdn⟩:=BC h1
 obtain ⟨i,z,hi,hz,hsz,_,hzs,_⟩:=PW hel
 split at h2
 ·rename_i t len ps ho
  simp only [AD,beq_iff_eq] at h2
  obtain ⟨⟨hlen,hps⟩,ht⟩:=h2
  have hu:P.underlying t=some (.slice e):=by
   split at ht
   ·rename_i e' hu
    simp only [beq_iff_eq] at ht
    rw [hu,ht]
   ·cases ht
  obtain ⟨vs,e1,e2,e3⟩:=Xi (s:=s) hf 0 ps.toList qs hps
  refine ⟨hd,hdn,hsm,vs,e2,e3,fun b=>by rw [ho,e3,<- hlen]; rfl,fun hall w=>?_⟩
  have hparts:(ps.map fun (p:Nat×Operand)=>(p.1,act.eval p.2)).toList=(vs.zipIdx 0).map fun x=>(x.2,x.1):=by rw [Array.toList_map]; exact e1
  have hpos:=Kd.sz_pos K
  have hrun:(Instr.buildSlice t len (ps.map fun p=>(p.1,act.eval p.2))).run P w=.ok (.slice (some ⟨w.heap.size,0,none⟩) vs.length vs.length) (w.alloc (.cells (vs.flatMap fun v=>v.cells.toList).toArray e)):=by
   rw [hlen,<- e3]
   by_cases h0:vs.length=0
   ·have:vs=[]:=Dk.1 h0
    subst this
    have hps0:ps.toList=[]:=by simpa using e1
    simp [Instr.buildSlice,run_underlying hu,sizeOf,typeInfo,hi,hps0,Instr.fill,newRow]
    congr 2
    exact Array.eq_empty_of_size_eq_zero (by simp)
   ·have hmul:vs.length*i.size≠0:=by rw [hsz]; exact Nat.mul_ne_zero h0 (by omega)
    refine run_buildSlice w t e vs.length _ _ i z hu hi hz (by rw [hsz,e3]; omega) hmul ?_
    rw [hparts]
    exact Great.fill_whole (by rw [hsz]; exact hpos) vs _ (fun v hv=>by rw [hsz]; exact hall v hv) (by simp)
  simp only [execOp,ho,Sem.run_bind,hrun,Result.andThen_ok,Sem.run_pure]
 ·cases h2
theorem G4 {vs:List Value} {k:Nat} (h:∀ v∈vs,v.cells.size=k):(vs.flatMap fun v=>v.cells.toList).length=vs.length*k:=by
 induction vs with
 | nil=>simp
 | cons v vs ih =>
  have h1:v.cells.size=k:=h v (by simp)
  have h2:=ih fun u hu=>h u (by simp [hu])
  rw [List.flatMap_cons,List.length_append,h2,List.length_cons,Nat.succ_mul]
  simp [h1]
  omega
theorem Xj {H:HP} {φ:BF} {s:St} {act:Act} {w:World} {n:Nat} {o:Oper} {d:Nat} {e:TypeId} {K:Kd} {qs:List BS} {ρ:Type} {kn:St->Option ρ} {r:ρ} {next:Act->World->Prop} {Q:Exit->Act->World->Prop} {us:List Value}
  (hs:SR H φ s.st w) (hf:Ca H φ s.st s.fr act.tmps) (hn:act.tmps.size=n) (hd:o.dst=some d) (hdn:d<n) (hv:AX (VA H φ s.st) (qs.map s.opd) us)
  (hk:((s.takeAll K.leaves (qs.map s.opd)).bind fun y=>if (OH y.2.2&&Im y.2.1.st y.2.2)=true then (K.ofs y.1).bind fun xs =>
   kn ⟨(d,.row y.2.1.st.length)::y.2.1.fr.map (Cq (y.2.1.st.length::y.2.2)),(D3 y.2.2 ((y.2.1.st++[AH.rows e K []]).map (AH.kill (y.2.1.st.length::y.2.2)))).set y.2.1.st.length (AH.rows e K xs)⟩ else none)=some r)
  (hrun:(∀ v∈us,v.cells.size=K.sz)->∀ w:World,(execOp act.eval o).run P w=.ok (.value (.slice (some ⟨w.heap.size,0,none⟩) us.length us.length)) (w.alloc (.cells (us.flatMap fun v=>v.cells.toList).toArray e)))
  (hsm:qs.length*K.sz<=16777216)
  (hnext:∀ s' v w' H' φ',kn s'=some r->AP H φ s.st w H' φ' s'.st w'->Ca H' φ' s'.st s'.fr (act.put o.dst v).tmps->WG P o (.brow d e K qs) s act φ w w' v->next (act.put o.dst v) w') (e3:us.length=qs.length):o.wp P act w next Q:=by
 cases hq:s.takeAll K.leaves (qs.map s.opd) with
 | none=>rw [hq] at hk; cases hk
 | some y =>
  obtain ⟨css,s1,js⟩:=y
  rw [hq] at hk
  simp only [Z] at hk
  split at hk
  case isFalse=>cases hk
  rename_i hchk
  simp only [AD] at hchk
  have hnd:=NF hchk.1
  have hlv:=Jp hchk.2
  obtain ⟨H1,g1,k1,f1,_,bk,hC⟩:=Sc hs hv hq
  obtain ⟨vss,hC1,hC2,hC3⟩:=hC hlv
  cases hx:K.ofs css with
  | none=>rw [hx] at hk; cases hk
  | some xs =>
   rw [hx] at hk
   simp only [Z] at hk
   obtain ⟨l1,l2,s1',_,hR⟩:=WP K hC1 hx
   have hflat:=G4 s1'
   have hmax:us.length<=maxLen:=by
    have hpos:=Kd.sz_pos K
    have:qs.length<=qs.length*K.sz:=Nat.le_mul_of_pos_right _ hpos
    simp only [maxLen]
    omega
   let w':=w.alloc (.cells (us.flatMap fun v=>v.cells.toList).toArray e)
   have hg:=World.grownBy_alloc w (.cells (us.flatMap fun v=>v.cells.toList).toArray e) none
   have how:w'.ownsRow w.heap.size e K.sz (.slice (some ⟨w.heap.size,0,none⟩) us.length us.length) xs.length (us.flatMap fun v=>v.cells.toList):=by
    rw [l1]; exact World.ownsRow_lit w _ us.length (Nat.le_refl _) hmax (by simpa using hflat)
   obtain ⟨how1,hnew⟩:=NG how
   have hlt:∀ v∈vss.flatten,∀ b,Dc v=some b->b<w.heap.size:=fun v hv b hb=>by
    obtain ⟨j,j1,j2⟩:=hC2 v hv b hb
    obtain ⟨t,ek,xk,hj⟩:=hlv j j1
    exact (g1.sr.box j _ hj).blk_lt rfl j2
   have hRow:Aj H1 w' C7 (Rc (.slice (some ⟨w.heap.size,0,none⟩) us.length us.length) vss.flatten) e K xs:=by
    refine ⟨_,_,vss,rfl,how1,by omega,?_,fun j x vs hx' hj=>?_⟩
    ·rw [List.filterMap_cons]
     refine List.nodup_cons.2 ⟨fun hm=>?_,hC3 hnd⟩
     obtain ⟨v,hv,hb⟩:=List.mem_filterMap.1 hm
     have:=hlt v hv _ hb
     simp at this
    ·exact (Cf.imp (HP.le_refl _) hg (hR j x vs hx' hj) fun _ _ _ _=>by simp).congr fun _ _=>rfl
   have A:AP H1 φ s1.st w H1 (fun i=>if i=s1.st.length then .slice none 0 0 else φ i) (s1.st++[.rows e K []]) w :=
    AP.push g1.sr (Ga w) (Aj.of_flat (flat:=[]) ⟨by simp,.inl ⟨rfl,rfl⟩⟩ fun j x hx=>by simp at hx) (fun _ b hb=>by simp [BQ] at hb) (fun cs e=>by cases e)
   have hjl:∀ j∈js,j<s1.st.length:=fun j hj=>by
    obtain ⟨t,ek,xk,h⟩:=hlv j hj
    exact (AT.1 h).1
   have M:Lu H1 (fun i=>if i=s1.st.length then .slice none 0 0 else φ i) (s1.st++[.rows e K []]) w s1.st.length (.rows e K []) (.rows e K xs) (Rc (.slice (some ⟨w.heap.size,0,none⟩) us.length us.length) vss.flatten) js (s1.st.length::js) none w':={
    sr:=A.sr
    at_:=by simp
    live:=rfl
    old:=by simp
    new:=by simp
    kd:=rfl
    rows:=fun j hj=>⟨Nat.ne_of_lt (hjl j hj),by
     obtain ⟨t,ek,xk,h⟩:=hlv j hj
     exact ⟨t,ek,xk,by rw [AZ (hjl j hj)]; exact h⟩⟩
    sub:=fun _ h=>by simp [h]
    grown:=hg
    mine:=fun _ e=>by cases e
    rep:=hRow
    blks:=fun b hb=>by
     obtain ⟨u,hu,hub⟩:=(D6 ⟨_,_,_,rfl⟩).1 hb
     rcases AQ.1 hu with rfl | hu
     ·cases hub
      exact .inr (.inr (Nat.le_refl _))
     ·obtain ⟨j,j1,j2⟩:=hC2 u hu b hub
      exact .inr (.inl ⟨j,j1,by simpa [Nat.ne_of_lt (hjl j j1)] using j2⟩)
    hdr:=.inl (by simp)
    hold:=.inr rfl }
   refine FZ (s:=s) (s1:=⟨s1.fr.map (Cq (s1.st.length::js)),Ef (s1.st++[AH.rows e K []]) js (s1.st.length::js) s1.st.length (.rows e K xs)⟩) (a:=.row s1.st.length) (v:=.slice (some ⟨w.heap.size,0,none⟩) us.length us.length) ((g1.trans A).trans M.step) ?_ hn hd hdn hk (hrun s1' w) ?_ hnext (SD.grown hs hg) rfl
   ·rw [f1]
    exact Ca.kill M.keeps ((hf.mono g1.le k1).mono (HP.le_refl _) (CO φ s1.st _ _))
   ·refine ⟨?_,by rw [E3 M.get.1]; rfl⟩
    simp only [if_true]
    rw [D5 (by simp)]
theorem Yl {n:Nat} {o:Oper} {d:Nat} {e:TypeId} {K:Kd} {qs:List BS} {cal:Cz} (h:Zj P n o d K qs e=true):ET P n o (.brow d e K qs) cal:=by
 intro ρ kn r s act w H φ next Q hs hf hn hk hnext
 obtain ⟨hd,hdn,hsm,vs,e2,e3,_,hrun⟩:=Sd h hf
 simp only [CN] at hk
 split at hk
 case isFalse=>exact Xj hs hf hn hd hdn e2 hk hrun hsm hnext e3
 cases hq:s.keepAlls (qs.map s.opd) with
 | none=>rw [hq] at hk; cases hk
 | some z =>
  obtain ⟨css,s1⟩:=z
  rw [hq] at hk
  simp only [Z] at hk
  cases hx:K.ofs css with
  | none=>rw [hx] at hk; cases hk
  | some xs =>
   rw [hx] at hk
   simp only [Z] at hk
   obtain ⟨H1,g1,k1,f1,e1,_⟩:=EO hs e2 hq
   obtain ⟨l1,r1,s1'⟩:=Qd K f1 hx
   have hflat:=G4 s1'
   have hmax:vs.length<=maxLen:=by
    have hpos:=Kd.sz_pos K
    have:qs.length<=qs.length*K.sz:=Nat.le_mul_of_pos_right _ hpos
    simp only [maxLen]
    omega
   have hst:=U3 g1.sr (World.grownBy_alloc w (.cells (vs.flatMap fun v=>v.cells.toList).toArray e) none) (K:=K) (xs:=xs) (v:=.slice (some ⟨w.heap.size,0,none⟩) vs.length vs.length)
    (by rw [l1]; exact World.ownsRow_lit w _ vs.length (Nat.le_refl _) hmax (by simpa using hflat)) r1
   refine FZ (s:=s) (s1:=⟨s1.fr,s1.st++[.rows e K xs]⟩) (a:=.row s1.st.length) (v:=.slice (some ⟨w.heap.size,0,none⟩) vs.length vs.length) (g1.trans hst) ?_ hn hd hdn hk (hrun s1' w) ?_ hnext (SD.grown hs (World.grownBy_alloc w _ none)) rfl
   ·rw [e1]; exact (hf.mono g1.le k1).mono (HP.le_refl _) (CO φ s1.st _ _)
   ·exact ⟨by simp [hdr],by simp [AE]⟩
theorem AP.lit {H:HP} {φ:BF} {st:List AH} {w:World} (h:SR H φ st w) (o:Obj):∃ H',AP H φ st w H' φ st (w.alloc o)/\H' w.heap.size=some o:=by
 have hg:=World.grownBy_alloc w o none
 have hnone:∀ b,w.heap.size<=b->H b=none:=fun b hb=>(h.fresh hb).1
 let H':HP:=fun b=>if b=w.heap.size then some o else H b
 have hle:H.le H':=by
  intro b o' hb
  have:b≠w.heap.size:=fun e=>by rw [hnone b (by omega)] at hb; cases hb
  simp only [H',this,if_false]
  exact hb
 refine ⟨H',⟨hle,⟨fun b o' hb=>?_,fun id bx hid=>?_,h.sep,fun i bi hi hl b hb=>?_,(h.grow hg).cell,h.tb.le hle⟩,fun mv m0 H0 φ0 w0 f=>?_⟩,by simp [H']⟩
 ·by_cases e:b=w.heap.size
  ·subst e
   simp only [H',if_true] at hb
   rw [heap_alloc_new w o]
   exact hb
  ·simp only [H',e,if_false] at hb
   exact (h.grow hg).hp b o' hb
 ·have:=(h.grow hg).box id bx hid
  cases bx with
  | var cs=>obtain ⟨b,c,el,e1,e2,e3⟩:=this; exact ⟨b,c,el,e1,e2,e3.imp fun _ _ h=>h.mono hle⟩
  | rows t' K' xs'=>exact Aj.mono hle this
  | mrow t' K' xs'=>exact Aj.mono hle this
  | byt t' xs'=>exact this
  | hole m t' K' xs' i q=>exact Aj.mono hle this
  | frz K' xs'=>obtain ⟨r',a'⟩:=this; exact ⟨GY (fun _ _ h=>C4.mono hle h) hle r',a'⟩
  | dead=>trivial
 ·have hlt:=(h.box i bi hi).blk_lt hl hb
  have:b≠w.heap.size:=by omega
  simp only [H',this,if_false]
  exact h.out i bi hi hl b hb
 ·have f2:=(AP.grow h hg).fr mv m0 H0 φ0 w0 f
  refine { f2 with frz:=fun b hb hn=>?_ }
  have:=f.size
  have:b≠w.heap.size:=by omega
  simp only [H',this,if_false]
  exact f.frz b hb hn
theorem Ym {n:Nat} {o:Oper} {d:Nat} {e:TypeId} {K:Kd} {qs:List BS} {cal:Cz} (h:Zj P n o d K qs e=true):ET P n o (.blst d K qs) cal:=by
 intro ρ kn r s act w H φ next Q hs hf hn hk hnext
 obtain ⟨hd,hdn,hsm,vs,e2,e3,_,hrun⟩:=Sd h hf
 simp only [CN] at hk
 cases hq:s.keepAlls (qs.map s.opd) with
 | none=>rw [hq] at hk; cases hk
 | some z =>
  obtain ⟨css,s1⟩:=z
  rw [hq] at hk
  simp only [Z] at hk
  cases hx:K.ofs css with
  | none=>rw [hx] at hk; cases hk
  | some xs =>
   rw [hx] at hk
   simp only [Z] at hk
   obtain ⟨H1,g1,k1,f1,e1,_⟩:=EO hs e2 hq
   obtain ⟨l1,r1,s1'⟩:=Qd K f1 hx
   have hflat:=G4 s1'
   obtain ⟨H2,g2,hb2⟩:=AP.lit g1.sr (.cells (vs.flatMap fun v=>v.cells.toList).toArray e)
   refine FZ (s:=s) (s1:=s1) (a:=.lst K xs) (v:=.slice (some ⟨w.heap.size,0,none⟩) vs.length vs.length) (g1.trans g2) ?_ hn hd hdn hk (hrun s1' w) ?_ hnext (SD.grown hs (World.grownBy_alloc w _ none)) rfl
   ·rw [e1]; exact (hf.mono g1.le k1).mono g2.le (A_.refl _ _ _)
   ·refine ⟨_,vs.length,by rw [l1],by rw [l1]; exact Nat.le_refl _,.inr ⟨w.heap.size,0,_,e,(0,0),rfl,hb2,fun j x hx=>?_⟩⟩
    obtain ⟨cs,c1,c2,c3⟩:=LU r1 (by rw [hflat,l1]) hx
    refine ⟨cs,c1.mono g2.le,c2,fun i u hu=>?_⟩
    have:=c3 i u hu
    simpa using this
def W7 (P:Program) (n:Nat) (o:Oper) (d:Nat) (e:TypeId) (K:Kd) (a b:BS):Bool :=
 FS o n d&&XP P e K&&(match o.op with
  | .call ⟨.builtin .append,args,tys⟩=>(match args.toList,tys.toList with
   | [x,y],[t,t']=>Bw x a&&Bw y b&&t==t'&&(match P.underlying t with | some (.slice e')=>e'==e | _=>false)
   | _,_=>false)
  | _=>false)
theorem Aj.concat {H:HP} {w w':World} {t t2:TypeId} {K:Kd} {xs ys:List K.T} {v1 v2 h':Value} (h1:Aj H w C7 v1 t K xs) (h2:Aj H w C7 v2 t2 K ys) (hsep:∀ b,BQ v1 b->¬BQ v2 b)
  (hg:w.grownBy w' (Dc (hdr v1))) (hr:∀ flat1 flat2,w.ownsRow 0 t K.sz (hdr v1) xs.length flat1->w.ownsRow 0 t2 K.sz (hdr v2) ys.length flat2->(∀ u∈flat2,u.oneCell'=true)->w'.ownsRow 0 t K.sz h' (xs.length+ys.length) (flat1++flat2))
  (hn:∀ b,BQ h' b->BQ (hdr v1) b\/w.heap.size<=b):∃ v',Aj H w' C7 v' t K (xs++ys)/\hdr v'=h'/\∀ b,BQ v' b->BQ v1 b\/BQ v2 b\/w.heap.size<=b:=by
 have h1':=h1
 have h2':=h2
 obtain ⟨d1,flat1,vss1,rfl,o1,l1,n1,r1⟩:=h1
 obtain ⟨d2,flat2,vss2,rfl,o2,l2,n2,r2⟩:=h2
 obtain ⟨a1,c1,e1⟩:=Aa o1
 obtain ⟨a2,c2,e2⟩:=Aa o2
 rw [D5 (by rw [e1]; simp)] at hg hr hn
 rw [D5 (by rw [e2]; simp)] at hr
 have ho:∀ u∈flat2,u.oneCell'=true:=by
  intro u hu
  obtain ⟨k,hk,rfl⟩:=Gm hu
  have hsz:=Kd.sz_pos K
  have hk2:k<ys.length*K.sz:=by rw [<- o2.1]; exact hk
  have hj:k / K.sz<ys.length:=(Nat.div_lt_iff_lt_mul hsz).2 hk2
  have h:=r2 (k / K.sz) (ys[k / K.sz]) (vss2[k / K.sz]'(by omega)) (by simp) (by simp)
  refine h.cells.news.2.2 flat2[k] ?_
  have hm:=Nat.mod_lt k hsz
  have hdm:=Nat.div_add_mod k K.sz
  rw [Nat.mul_comm] at hdm
  refine List.mem_iff_getElem?.2 ⟨k % K.sz,?_⟩
  rw [BB,if_pos hm,Ba,hdm]
  simp [hk]
 have o3:=hr flat1 flat2 o1 o2 ho
 obtain ⟨a3,c3,e3⟩:=Aa o3
 have B1:∀ {b:Nat},BQ (Rc d1 vss1.flatten) b↔∃ u∈d1::vss1.flatten,Dc u=some b:=fun {b}=>D6 ⟨_,_,_,e1⟩
 have B2:∀ {b:Nat},BQ (Rc d2 vss2.flatten) b↔∃ u∈d2::vss2.flatten,Dc u=some b:=fun {b}=>D6 ⟨_,_,_,e2⟩
 have hd1:∀ b,BQ d1 b->Dc d1=some b:=fun b hb=>hb.flat (by rw [e1]; simp)
 have hh':∀ b,Dc h'=some b->Dc d1=some b\/w.heap.size<=b:=fun b hb=>by
  rcases hn b (.of hb) with h | h
  ·exact .inl (hd1 b h)
  ·exact .inr h
 rw [List.filterMap_cons] at n1 n2
 have nf1:(vss1.flatten.filterMap Dc).Nodup/\∀ b,Dc d1=some b->b∉vss1.flatten.filterMap Dc:=by
  cases hb:Dc d1 with
  | none=>rw [hb] at n1; exact ⟨n1,fun b e=>by cases e⟩
  | some c=>rw [hb] at n1; obtain ⟨q1,q2⟩:=List.nodup_cons.1 n1; exact ⟨q2,fun b e=>by cases e; exact q1⟩
 have nf2:(vss2.flatten.filterMap Dc).Nodup:=by
  cases hb:Dc d2 with
  | none=>rw [hb] at n2; exact n2
  | some c=>rw [hb] at n2; exact (List.nodup_cons.1 n2).2
 refine ⟨Rc h' (vss1++vss2).flatten,⟨h',flat1++flat2,vss1++vss2,rfl,by rw [List.length_append]; exact o3,by simp [l1,l2],?_,fun j x vs hx hj=>?_⟩,D5 (by rw [e3]; simp),fun b hb=>?_⟩
 ·have hfl:((vss1++vss2).flatten.filterMap Dc).Nodup:=by
   rw [List.flatten_append,List.filterMap_append,List.nodup_append]
   refine ⟨nf1.1,nf2,fun x hx y hy e=>?_⟩
   subst e
   obtain ⟨u,hu,hub⟩:=List.mem_filterMap.1 hx
   obtain ⟨u',hu',hub'⟩:=List.mem_filterMap.1 hy
   exact hsep x (B1.2 ⟨u,by simp [hu],hub⟩) (B2.2 ⟨u',by simp [hu'],hub'⟩)
  rw [List.filterMap_cons]
  cases hb:Dc h' with
  | none=>exact hfl
  | some b =>
   refine List.nodup_cons.2 ⟨fun hm=>?_,hfl⟩
   rw [List.flatten_append,List.filterMap_append,Am] at hm
   rcases hm with hm | hm
   ·obtain ⟨u,hu,hub⟩:=List.mem_filterMap.1 hm
    rcases hh' b hb with h | h
    ·exact nf1.2 b h hm
    ·have:=h1'.lt (B1.2 ⟨u,by simp [hu],hub⟩); omega
   ·obtain ⟨u,hu,hub⟩:=List.mem_filterMap.1 hm
    rcases hh' b hb with h | h
    ·exact hsep b (B1.2 ⟨d1,by simp,h⟩) (B2.2 ⟨u,by simp [hu],hub⟩)
    ·have:=h2'.lt (B2.2 ⟨u,by simp [hu],hub⟩); omega
 ·have hseg:=Vs (ys:=ys) (g:=flat2) (f:=flat1) (xs:=xs) (sz:=K.sz) o1.1 (j:=j)
  rcases BI j xs.length with hlt | hge
  ·rw [hseg.1 hlt]
   rw [AZ hlt] at hx
   rw [AZ (by omega)] at hj
   exact Cf.imp (HP.le_refl H) hg (r1 j x vs hx hj) fun u hu b hb e=>nf1.2 b e (List.mem_filterMap.2 ⟨u,List.mem_flatten.2 ⟨vs,List.mem_of_getElem? hj,hu⟩,hb⟩)
  ·rw [hseg.2 hge]
   rw [BG hge] at hx
   rw [BG (by omega),l1] at hj
   exact (Cf.imp (HP.le_refl H) hg (r2 _ x vs hx hj) fun u hu b hb e=>hsep b (B1.2 ⟨d1,by simp,e⟩) (B2.2 ⟨u,by simp; exact .inr ⟨vs,List.mem_of_getElem? hj,hu⟩,hb⟩)).congr fun _ _=>rfl
 ·obtain ⟨u,hu,hub⟩:=(D6 ⟨_,_,_,e3⟩).1 hb
  rw [List.flatten_append] at hu
  rcases AQ.1 hu with rfl | hu
  ·rcases hh' b hub with h | h
   ·exact .inl (B1.2 ⟨d1,by simp,h⟩)
   ·exact .inr (.inr h)
  ·rcases Am.1 hu with hu | hu
   ·exact .inl (B1.2 ⟨u,by simp [hu],hub⟩)
   ·exact .inr (.inl (B2.2 ⟨u,by simp [hu],hub⟩))
theorem WQ {H:HP} {φ:BF} {s:St} {w:World} {tmps:Array Value} {ρ:Type} {kn:St->Option ρ} {r:ρ} {d id:Nat} {e t ty:TypeId} {K:Kd} {bv:AV} {v:Value} (hs:SR H φ s.st w) (hf:Ca H φ s.st s.fr tmps) (hd:d<tmps.size) (hu:P.underlying t=some (.slice e)) (hel:XP P e K=true)
  (vy:VA H φ s.st bv v) (hk:s.appR d e K id bv kn=some r) :
  ∃ s' v' w' H' φ' row,kn s'=some r/\(Builtin.append_ #[t,t] ty #[hdr (φ id),v]).run P w=.ok v' w'/\AP H φ s.st w H' φ' s'.st w'/\Ca H' φ' s'.st s'.fr (tmps.setIfInBounds d v')/\w.grownBy w' row/\(∀ b,row=some b->BQ (φ id) b)/\∃ bx,s.st[id]? = some bx/\bx.live=true:=by
 unfold St.appR at hk
 split at hk
 case h_2=>cases hk
 rename_i t0 K0 xs hb
 split at hk
 case isFalse=>cases hk
 rename_i hK
 subst hK
 split at hk
 case isFalse=>cases hk
 rename_i ht0
 subst ht0
 have hlt:id<s.st.length:=(AT.1 hb).1
 split at hk
 ·rename_i hpl
  obtain ⟨ys,hk',sl,cap2,flat2,ev,hl2,hr2,hc2,hn2⟩:=UG hs (OI vy hk) hk
  split at hk'
  case isFalse=>cases hk'
  rename_i hlim
  obtain ⟨v',w',hrun,hst,hkb,hmem,hv'⟩:=RL (P:=P) (t:=t) (ty:=ty) hpl hs hb hu hel ev hl2 hr2 hc2 hn2 hlim
  refine ⟨_,v',w',H,_,_,hk',hrun,hst,(hf.kill hkb).put hd (a:=.row id) ⟨?_,?_⟩,hmem,fun b e=>.of e,_,hb,rfl⟩
  ·simp [hv']
  ·unfold AE
   rw [AU]
   simp [hlt]
 ·rename_i hpl
  split at hk
  case h_2=>cases hk
  rename_i j
  split at hk
  ·cases hk
  rename_i hji
  split at hk
  case h_2=>cases hk
  rename_i t2 K2 ys hbj
  split at hk
  case isFalse=>cases hk
  rename_i hK2
  subst hK2
  split at hk
  case isFalse=>cases hk
  rename_i hlim
  have hR1:=hs.box id _ hb
  have hR2:=hs.box j _ hbj
  obtain ⟨ev,_⟩:=(vy:VC H φ s.st (.row j) v)
  have hfl2:∃ flat2,w.ownsRow 0 t2 K2.sz (hdr (φ j)) ys.length flat2/\∀ u∈flat2,u.oneCell'=true:=by
   obtain ⟨d2,flat2,vss2,e,o2,l2,n2,r2⟩:=hR2
   obtain ⟨a2,c2,e2⟩:=Aa o2
   rw [e,D5 (by rw [e2]; simp)]
   refine ⟨flat2,o2,fun u hu=>?_⟩
   obtain ⟨k,hk,rfl⟩:=Gm hu
   have hsz:=Kd.sz_pos K2
   have hk2:k<ys.length*K2.sz:=by rw [<- o2.1]; exact hk
   have hj:k / K2.sz<ys.length:=(Nat.div_lt_iff_lt_mul hsz).2 hk2
   have h:=r2 (k / K2.sz) (ys[k / K2.sz]) (vss2[k / K2.sz]'(by omega)) (by simp) (by simp)
   refine h.cells.news.2.2 flat2[k] ?_
   have hm:=Nat.mod_lt k hsz
   have hdm:=Nat.div_add_mod k K2.sz
   rw [Nat.mul_comm] at hdm
   refine List.mem_iff_getElem?.2 ⟨k % K2.sz,?_⟩
   rw [BB,if_pos hm,Ba,hdm]
   simp [hk]
  have hfl1:∃ flat1,w.ownsRow 0 t0 K2.sz (hdr (φ id)) xs.length flat1:=by
   obtain ⟨d1,flat1,vss1,e,o1,_⟩:=hR1
   obtain ⟨a2,c2,e2⟩:=Aa o1
   rw [e,D5 (by rw [e2]; simp)]
   exact ⟨flat1,o1⟩
  obtain ⟨flat2,o2,one2⟩:=hfl2
  obtain ⟨flat1,o1⟩:=hfl1
  obtain ⟨a2,c2,e2⟩:=Aa o2
  have hcells:a2=none\/ys.length=0\/∃ b off,a2=some ⟨b,off,none⟩/\∀ j u,flat2[j]? = some u->w.cell? ⟨b,off+j,none⟩=some u:=by
   rcases o2.2 with ⟨e,hn⟩ | ⟨g,cap,cur,e,_,hg,hc,hm,hsz,ht⟩
   ·exact .inr (.inl hn)
   ·rw [e2] at e
    simp only [Value.slice.injEq] at e
    refine .inr (.inr ⟨g,0,e.1,fun jj u hu=>?_⟩)
    have:=o2.cells (g:=g) (by rw [e2,e.1]; rfl) jj u hu
    have hadd:(⟨g,0,none⟩:Addr).add jj=⟨g,0+jj,none⟩:=by unfold Addr.add; split<;>simp_all
    rw [hadd] at this
    exact this
  have hnone:a2=none->ys.length=0:=fun e=>by
   rcases o2.2 with ⟨_,hn⟩ | ⟨g,cap,cur,e3,_⟩
   ·exact hn
   ·rw [e2,e] at e3; cases e3
  obtain ⟨h',w',q1,q2,q3,q4⟩:=UM (P:=P) (ty:=ty) (cap2:=c2) hu hel o1 o2.1 one2 hcells hnone hlim
  obtain ⟨v',g1,g2,g3⟩:=Aj.concat (h':=h') hR1 hR2 (fun b h1 h2=>hs.sep id j _ _ hb hbj rfl rfl (Ne.symm hji) b h1 h2) q3 (fun f1 f2 p1 p2 p3=>by
   obtain ⟨h2,w2,x1,x2,_⟩:=UM (P:=P) (ty:=ty) (cap2:=c2) hu hel p1 p2.1 p3 (by
    rcases hcells with h | h | ⟨b,off,h,_⟩
    ·exact .inl h
    ·exact .inr (.inl h)
    ·refine .inr (.inr ⟨b,off,h,fun jj u hu=>?_⟩)
     have h0:off=0:=by
      rcases p2.2 with ⟨e,hn⟩ | ⟨g,cap,cur,e,_⟩
      ·rw [e2,h] at e; cases e
      ·rw [e2,h] at e; simp only [Value.slice.injEq,Af,Addr.mk.injEq] at e; exact e.1.2.1
     subst h0
     have:=p2.cells (g:=b) (by rw [e2,h]; rfl) jj u hu
     have hadd:(⟨b,0,none⟩:Addr).add jj=⟨b,0+jj,none⟩:=by unfold Addr.add; split<;>simp_all
     rw [hadd] at this
     exact this) hnone hlim
   have:=q1.symm.trans x1
   simp only [Result.ok.injEq] at this
   obtain ⟨rfl,rfl⟩:=this
   exact x2) q4
  have M:Lu H φ s.st w id (.rows t0 K2 xs) (.rows t0 K2 (xs++ys)) v' [j] [id,j] (Dc (hdr (φ id))) w':={
   sr:=hs
   at_:=hb
   live:=rfl
   old:=by simp
   new:=by simp
   kd:=rfl
   rows:=fun q hq=>by rw [CM.1 hq]; exact ⟨hji,t2,K2,ys,hbj⟩
   sub:=fun q hq=>by simp at hq; simp [hq]
   grown:=q3
   mine:=fun b e=>by
    obtain ⟨d1,f1,vs1,ee,oo,_⟩:=hR1
    obtain ⟨x1,x2,x3⟩:=Aa oo
    rw [ee,D5 (by rw [x3]; simp)] at e
    rw [ee]
    exact (D6 ⟨_,_,_,x3⟩).2 ⟨d1,by simp,e⟩
   rep:=g1
   blks:=fun b hb=>by
    rcases g3 b hb with h | h | h
    ·exact .inl h
    ·exact .inr (.inl ⟨j,by simp,h⟩)
    ·exact .inr (.inr h)
   hdr:=.inl (by simp)
   hold:=.inr rfl }
  refine ⟨_,h',w',H,_,_,hk,?_,M.step,(hf.kill M.keeps).put hd (a:=.row id) ⟨by simp [g2],by rw [E3 M.get.1]; rfl⟩,q3,M.mine,_,hb,rfl⟩
  rw [ev,e2]
  exact q1
theorem Zk {n:Nat} {o:Oper} {d:Nat} {e:TypeId} {K:Kd} {a b:BS} {cal:Cz} (h:W7 P n o d e K a b=true):ET P n o (.app d e K a b) cal:=by
 intro ρ kn r s act w H φ next Q hs hf hn hk hnext
 simp only [W7,AD] at h
 obtain ⟨⟨h1,hel⟩,h2⟩:=h
 obtain ⟨hd,hdn⟩:=BC h1
 split at h2
 ·rename_i args tys ho
  split at h2
  ·rename_i x y t t' ha ht
   simp only [AD,beq_iff_eq] at h2
   obtain ⟨⟨⟨hx,hy⟩,rfl⟩,hu⟩:=h2
   have hu:P.underlying t=some (.slice e):=by
    split at hu
    ·rename_i e' hu'
     simp only [beq_iff_eq] at hu
     rw [hu',hu]
    ·cases hu
   have ha:args=#[x,y]:=by rw [<- ha]
   have ht:tys=#[t,t]:=by rw [<- ht]
   subst ha ht
   have vx:=An hf hx
   simp only [CN] at hk
   have fin:∀ (s1:St) (H1:HP) (φ1:BF) (id id0:Nat) (bx0:AH),AP H φ s.st w H1 φ1 s1.st w->Ca H1 φ1 s1.st s1.fr act.tmps->act.eval x=hdr (φ1 id)->s1.appR d e K id (s1.opd b) kn=some r->s.st[id0]? = some bx0->bx0.live=true->Cj.touch s (.app d e K a b)=[id0]->(∀ c,BQ (φ1 id) c->BQ (φ id0) c)->o.wp P act w next Q:=by
    intro s1 H1 φ1 id id0 bx0 hst1 hf1 ex hk hb0 hl0 htch hsub
    obtain ⟨s',v',w',H',φ',row,k1,k2,k3,k4,k5,k6,_⟩:=WQ (P:=P) (t:=t) (ty:=o.type) hst1.sr hf1 (by omega) hu hel (An hf1 hy) hk
    rw [<- ex] at k2
    refine MP (v:=v') (w':=w') ?_ (hnext s' v' w' H' φ' k1 (hst1.trans k3) (by rw [Ip hd]; exact k4) ⟨?_,fun h=>by cases h⟩)
    ·simp only [execOp,ho,resolve,Sem.run_bind,Sem.run_pure,Result.andThen_ok,invoke,builtin,List.map_toArray,List.map_cons,List.map_nil,k2]
    ·intro i bx hi hl hni c hc
     rw [htch] at hni
     exact k5.block c ((hs.box i bx hi).blk_lt hl hc) (fun ee=>hs.sep i id0 bx _ hi hb0 hl hl0 (by simpa using hni) c hc (hsub c (k6 c ee.symm)))
   split at hk
   ·rename_i id hxa
    rw [hxa] at vx
    obtain ⟨_,_,_,_,_,_,_,_,_,_,_,_,bx,hbx,hbl⟩:=WQ (P:=P) (t:=t) (ty:=o.type) hs hf (by omega) hu hel (An hf hy) hk
    exact fin s H φ id id bx (AP.refl hs) hf vx.1 hk hbx hbl (by simp only [Cj.touch,hxa]) (fun _ h=>h)
   ·rename_i i0 j0 q0 hxa
    split at hk
    ·rename_i n0
     cases hop:s.openAt n0 with
     | none=>rw [hop] at hk; cases hk
     | some y0 =>
      obtain ⟨id,s1⟩:=y0
      rw [hop] at hk
      simp only [Z] at hk
      obtain ⟨φ1,i,q,p1,p2,p3,p4,m,t0,K0,xs,r0,u,p5,p6,p7,p8,p9,p10,p11,p12,p13,p14,p15,p16,p17⟩:=Ts hs hf hop
      have hxa2:Cd s.fr n0=.irow i0 j0 q0:=hxa
      rw [p1] at hxa2
      cases hxa2
      have ex:act.eval x=hdr (φ1 s.st.length):=by
       have:=An (s:=s1) p3 hx
       rw [show s1.opd (.t n0)=.row s.st.length by simp [St.opd,p14,Cd]] at this
       exact this.1
      exact fin s1 H φ1 s.st.length i0 (Gy m t0 K0 xs) p2 p3 ex hk p17 (by cases m<;>rfl) (by simp only [Cj.touch,hxa]) p16
    ·cases hk
   ·cases hk
  ·cases h2
 ·cases h2
theorem Zl {n:Nat} {o:Oper} {d:Nat} {e:TypeId} {K:Kd} {a b:BS} {cal:Cz} (h:W7 P n o d e K a b=true):ET P n o (.apz d e K a b) cal:=by
 intro ρ kn r s act w H φ next Q hs hf hn hk hnext
 simp only [W7,AD] at h
 obtain ⟨⟨h1,hel⟩,h2⟩:=h
 obtain ⟨hd,hdn⟩:=BC h1
 split at h2
 ·rename_i args tys ho
  split at h2
  ·rename_i x y t t' ha ht
   simp only [AD,beq_iff_eq] at h2
   obtain ⟨⟨⟨hx,hy⟩,rfl⟩,hu⟩:=h2
   have hu:P.underlying t=some (.slice e):=by
    split at hu
    ·rename_i e' hu'
     simp only [beq_iff_eq] at hu
     rw [hu',hu]
    ·cases hu
   have ha:args=#[x,y]:=by rw [<- ha]
   have ht:tys=#[t,t]:=by rw [<- ht]
   subst ha ht
   have vx:=An hf hx
   have vy:=An hf hy
   simp only [CN] at hk
   split at hk
   ·rename_i id hxa
    rw [hxa] at vx
    obtain ⟨ex,_⟩:=vx
    split at hk
    ·rename_i t0 K0 xs hb
     split at hk
     ·rename_i hK
      subst hK
      split at hk
      ·rename_i ht0
       obtain ⟨ht0,hpl⟩:=ht0
       subst ht0
       obtain ⟨ys,hk',sl,cap2,flat2,ev,hl2,hr2,hc2,hn2⟩:=UG hs (OI vy hk) hk
       split at hk'
       ·rename_i hlim
        obtain ⟨v',w',hrun,hst,hkb,hmem,hv'⟩:=RL (P:=P) (t:=t) (ty:=o.type) hpl hs hb hu hel ev hl2 hr2 hc2 hn2 hlim
        have hlt:id<s.st.length:=(AT.1 hb).1
        have hid1:((s.st.map (AH.kill [id])).set id (.rows t0 K0 (xs++ys)))[id]? = some (.rows t0 K0 (xs++ys)):=by
         rw [AU]
         simp [hlt]
        obtain ⟨H2,hst2,hrep,_⟩:=AP.freeze hst.sr hpl hid1
        rw [List.set_set] at hst2
        have hkf:=PR (φ:=fun i=>if i=id then v' else φ i) hid1
        rw [List.set_set] at hkf
        refine FZ (s:=s) (s1:=⟨s.fr.map (Cq [id]),(s.st.map (AH.kill [id])).set id (.frz K0 (xs++ys))⟩) (a:=.lst K0 (xs++ys)) (v:=v') (hst.trans hst2) (Ca.mono hst2.le hkf (hf.kill hkb)) hn hd hdn hk' ?_ ?_ hnext ?_ rfl
        ·rw [<- ex] at hrun
         simp only [execOp,ho,resolve,Sem.run_bind,Sem.run_pure,Result.andThen_ok,invoke,builtin,List.map_toArray,List.map_cons,List.map_nil,hrun]
        ·have h7:=hrep
         simp only [if_true,hv'] at h7
         exact h7
        ·intro i bx hi hl hni b hb'
         simp only [Cj.touch,hxa] at hni
         exact hmem.block b ((hs.box i bx hi).blk_lt hl hb') (fun e=>hs.sep i id bx _ hi hb hl rfl (by simpa using hni) b hb' (.of e.symm))
       ·cases hk'
      ·cases hk
     ·cases hk
    ·cases hk
   ·cases hk
  ·cases h2
 ·cases h2
end Go.Proofs.Ytffahmnodgnohaa.Core

namespace Go.Proofs.Ytffahmnodgnohaa.Core
open Go
theorem MS (K:Kd) (x:K.T):(K.av x).cells=K.enc x:=by cases K<;>rfl
def AV.nilFree:AV->Bool
 | .nil=>false
 | .ref cs=>cs.all fun c=>c.solid&&(match c with | .nil=>false | _=>true)
 | _=>true
theorem SF:∀ (K:Kd) (cs r:List AV) (x:K.T),cs.all AV.nilFree=true->K.dec cs=some (x,r)->cs=K.enc x++r:=by
 intro K
 induction K with
 | int k =>
  intro cs r x hn h
  cases cs with
  | nil=>simp [Kd.dec] at h
  | cons a cs =>
   cases a<;>simp [Kd.dec] at h
   obtain ⟨rfl,rfl,rfl⟩:=h
   rfl
 | bool =>
  intro cs r x hn h
  cases cs with
  | nil=>simp [Kd.dec] at h
  | cons a cs =>
   cases a<;>simp [Kd.dec] at h
   obtain ⟨rfl,rfl⟩:=h
   rfl
 | str =>
  intro cs r x hn h
  cases cs with
  | nil=>simp [Kd.dec] at h
  | cons a cs =>
   cases a<;>simp [Kd.dec] at h
   obtain ⟨rfl,rfl⟩:=h
   rfl
 | slice e ih =>
  intro cs r x hn h
  cases cs with
  | nil=>simp [Kd.dec] at h
  | cons a cs =>
   cases a with
   | nil=>simp [AV.nilFree] at hn
   | lst K xs =>
    simp only [Kd.dec] at h
    split at h
    ·rename_i hk
     subst hk
     cases h
     rfl
    ·cases h
   | _=>simp [Kd.dec] at h
 | pair a b iha ihb =>
  intro cs r x hn h
  simp only [Kd.dec] at h
  cases h1:a.dec cs with
  | none=>simp [h1] at h
  | some p =>
   simp only [h1,Z] at h
   cases h2:b.dec p.2 with
   | none=>simp [h2] at h
   | some q =>
    simp only [h2,Z,Af,Prod.mk.injEq] at h
    obtain ⟨rfl,rfl⟩:=h
    have e1:=iha cs p.2 p.1 hn h1
    have hn2:p.2.all AV.nilFree=true:=by
     rw [e1,List.all_append,AD] at hn
     exact hn.2
    have e2:=ihb p.2 q.2 q.1 hn2 h2
    simp only [Kd.enc,CL]
    rw [<- e2]
    exact e1
 | own t e ih =>
  intro cs r x hn h
  cases cs with
  | nil=>simp [Kd.dec] at h
  | cons a cs =>
   cases a with
   | new t' e' xs =>
    simp only [Kd.dec] at h
    split at h
    ·rename_i ht
     split at h
     ·rename_i hk
      subst ht hk
      cases h
      rfl
     ·cases h
    ·cases h
   | _=>simp [Kd.dec] at h
 | ref K ih =>
  intro cs r x hn h
  cases cs with
  | nil=>simp [Kd.dec] at h
  | cons a cs =>
   cases a with
   | ref cs' =>
    simp only [Kd.dec] at h
    cases h1:K.dec cs' with
    | none=>rw [h1] at h; cases h
    | some p =>
     rw [h1] at h
     simp only [Z] at h
     split at h
     ·rename_i hp
      cases h
      simp only [List.all_cons,AD,AV.nilFree] at hn
      have:=ih cs' [] p.1 (Ax.2 fun c hc=>by
       have:=Ax.1 hn.1 c hc
       simp only [AD] at this
       cases c<;>first | rfl | exact this.2 | cases this.1) (by rw [h1]; cases p; simp_all)
      rw [List.append_nil] at this
      rw [this]
      rfl
     ·cases h
   | _=>simp [Kd.dec] at h
 | «fun» f =>
  intro cs r x hn h
  cases cs with
  | nil=>simp [Kd.dec] at h
  | cons a cs =>
   cases a with
   | fn f' caps =>
    cases caps with
    | nil =>
     simp only [Kd.dec] at h
     split at h
     ·rename_i e
      subst e
      cases h
      rfl
     ·cases h
    | cons _ _=>simp [Kd.dec] at h
   | _=>simp [Kd.dec] at h
 | clo f K ih =>
  intro cs r x hn h
  cases cs with
  | nil=>simp [Kd.dec] at h
  | cons a cs =>
   cases a with
   | clo f' K' y =>
    simp only [Kd.dec] at h
    split at h
    ·rename_i e
     subst e
     split at h
     ·rename_i hk
      subst hk
      cases h
      rfl
     ·cases h
    ·cases h
   | _=>simp [Kd.dec] at h
def Kd.news:Kd->Nat
 | .pair a b=>a.news+b.news
 | .own _ _=>1
 | .ref _=>1
 | _=>0
theorem Ar:∀ (a b:List AV),AG (a++b)=AG a+AG b
 | [],b=>by simp [AG]
 | x::a,b=>by simp only [List.cons_append,AG,Ar a b]; split<;>omega
theorem LW:∀ (K:Kd) (x:K.T),AG (K.enc x)=K.news
 | .int _,_=>rfl
 | .bool,_=>rfl
 | .str,_=>rfl
 | .slice _,_=>rfl
 | .pair a b,x=>by simp [Kd.enc,Ar,LW a,LW b,Kd.news]
 | .own _ _,_=>rfl
 | .ref _,_=>rfl
 | .fun _,_=>rfl
 | .clo _ _,_=>rfl
theorem CQ:∀ cs:List AV,(Ae cs).length=AG cs
 | []=>rfl
 | a::r=>by
  have:=CQ r
  cases a<;>simp [Ae,AG,AV.isNew,this]
theorem BD:∀ (a b:List AV),Ae (a++b)=Ae a++Ae b
 | [],b=>rfl
 | x::a,b=>by
  have:=BD a b
  cases x<;>simp [Ae,this]
theorem E4:∀ (cs:List AV) (k:Nat),(Aq k cs).length=cs.length
 | [],_=>rfl
 | a::r,k=>by
  cases a<;>simp [Aq,E4 r]
theorem LX:∀ (a b:List AV) (k:Nat),Aq k (a++b)=Aq k a++Aq (k+AG a) b
 | [],b,k=>by simp [Aq,AG]
 | x::a,b,k=>by
  cases x<;>simp [Aq,AG,AV.isNew,LX a b,Nat.add_assoc,Nat.add_comm 1]
def cellsOf (vs:List AV):List AV:=vs.flatMap AV.cells
theorem RP:∀ vs:List AV,PI vs=Ae (cellsOf vs)
 | []=>rfl
 | v::r=>by simp [PI,cellsOf,BD,RP r]
def Ay (vs:List AV):List AV:=vs.flatMap AV.cellsO
theorem LY:∀ vs:List AV,Ki vs=Ae (Ay vs)
 | []=>rfl
 | v::r=>by simp [Ki,Ay,BD,LY r]
theorem F6:∀ (vs:List AV) (k j:Nat) (v:AV),vs[j]? = some v->(Gz k vs)[j]? = some (Uo (k+AG (Ay (vs.take j))) v)
 | [],k,j,v,h=>by simp at h
 | u::r,k,0,v,h=>by simp at h; subst h; simp [Gz,Ay,AG]
 | u::r,k,j+1,v,h=>by
  simp only [Gz,List.getElem?_cons_succ]
  rw [F6 r _ j v (by simpa using h)]
  simp [Ay,Ar,Nat.add_assoc]
theorem As:∀ (vs:List AV) (k:Nat),(Gz k vs).length=vs.length
 | [],_=>rfl
 | v::r,k=>by simp [Gz,As r]
theorem E5 (outs vs:List AV):BK outs vs=Gz outs.length outs++Ae (Ay outs++cellsOf vs):=by
 simp [BK,RP,LY,BD]
theorem Qe (outs:List AV):C6 outs=outs.length+AG (Ay outs):=by simp [C6,LY,CQ]
theorem KY (outs vs:List AV):(BK outs vs).length=outs.length+AG (Ay outs)+AG (cellsOf vs):=by
 simp [E5,As,CQ,Ar,Nat.add_assoc]
theorem Se {K:Kd} (h:K.isOwn=true):∃ t e,K=.own t e:=by cases K<;>first | exact ⟨_,_,rfl⟩ | cases h
theorem E7 {K:Kd} (x:K.T) (h:K.isOwn=false):(K.av x).cellsO=K.enc x/\∀ k,Uo k (K.av x)=.var (Aq k (K.enc x)):=by
 cases K<;>first | exact ⟨rfl,fun _=>rfl⟩ | cases h
theorem Sf {t:TypeId} {e:Kd} (x:(Kd.own t e).T):((Kd.own t e).av x).cellsO=[]/\∀ k,Uo k ((Kd.own t e).av x)=.mrow t e x:=⟨rfl,fun _=>rfl⟩
theorem Tu:∀ {a b:List Nat},UF a b=true->∀ i∈a,i∉b
 | [],b,_,i,hi=>by cases hi
 | x::a,b,h,i,hi=>by
  simp only [UF,AD,DH] at h
  rcases AQ.1 hi with rfl | hi
  ·exact Ak.1 h.1
  ·exact Tu h.2 i hi
theorem Ik:∀ {l:List Nat} {i k:Nat},Jc l i=some k->l[k]? = some i
 | [],i,k,h=>by simp [Jc] at h
 | a::r,i,k,h=>by
  simp only [Jc] at h
  split at h
  ·rename_i e; cases h; simp [e]
  ·cases hq:Jc r i with
   | none=>rw [hq] at h; cases h
   | some q=>rw [hq] at h; cases h; simpa using Ik hq
theorem Tv:∀ {l:List Nat} {i:Nat},Jc l i=none->i∉l
 | [],i,h=>by simp
 | a::r,i,h=>by
  simp only [Jc] at h
  split at h
  ·cases h
  ·rename_i e
   cases hq:Jc r i with
   | none=>have:=Tv hq; simp [Ne.symm e,this]
   | some q=>rw [hq] at h; cases h
theorem WR {l:List Nat} (hd:l.Nodup) {i k:Nat} (h:l[k]? = some i):Jc l i=some k:=by
 cases hq:Jc l i with
 | none=>exact absurd (List.mem_of_getElem? h) (Tv hq)
 | some q =>
  have h2:=Ik hq
  have hk:=(AT.1 h).1
  have:=(List.getElem?_inj hk hd).1 (h.trans h2.symm)
  rw [this]
theorem G5 {back gone:List Nat} {nv n:Nat} {est:List AH}:∀ (st:List AH) (i0 i:Nat),(Jm back gone nv n est i0 st)[i]? = (st[i]?).map fun b =>
  if Az gone (i0+i)=true then .dead else match Jc back (i0+i) with
   | some k=>(SO b (est.getD k .dead)).ren (Fz back n)
   | none=>b.kill (back.drop nv++gone)
 | [],i0,i=>by simp [Jm]
 | b::st,i0,0=>by simp only [Jm,List.getElem?_cons_zero,Option.map_some,Nat.add_zero]<;>rfl
 | b::st,i0,i+1=>by
  simp only [Jm,List.getElem?_cons_succ]
  rw [G5 st (i0+1) i]
  rw [show i0+1+i=i0+(i+1) by omega]
theorem MT {back gone:List Nat} {nv n:Nat} {est:List AH}:∀ (st:List AH) (i0:Nat),(Jm back gone nv n est i0 st).length=st.length
 | [],_=>rfl
 | b::st,i0=>by simp [Jm,MT st]
structure Yn (st:List AH) (nv:Nat) (back gone:List Nat) (est st2:List AH):Prop where
 ofCallee:∀ (k:Nat) (b:AH),est[k]? = some b->∃ b',st2[Fz back st.length k]? = some (b'.ren (Fz back st.length))/\(b'=b\/∃ (t:TypeId) (K:Kd),∃ xs:List (Kd.T K),k<back.length/\b=.mrow t K xs/\b'=.rows t K xs/\∃ (i:Nat) (t':TypeId) (K':Kd),∃ xs':List (Kd.T K'),back[k]? = some i/\st[i]? = some (AH.rows t' K' xs'))
 ret:∀ (k i:Nat) (b b0:AH),est[k]? = some b->back[k]? = some i->st[i]? = some b0->st2[i]? = some ((SO b0 b).ren (Fz back st.length))
 other:∀ (i:Nat) (b:AH),i∉back->i∉gone->st[i]? = some b->st2[i]? = some (b.kill (back.drop nv++gone))
 dead:∀ i:Nat,i∈gone->i<st.length->st2[i]? = some .dead
 cases:∀ (i:Nat) (b:AH),st2[i]? = some b->(∃ k,k<est.length/\i=Fz back st.length k)\/(i<st.length/\i∉back/\i∉gone)\/(i∈gone/\b=.dead)
theorem Xk {st:List AH} {nv:Nat} {back gone:List Nat} {est:List AH} (hd:back.Nodup) (hg:∀ i∈back,i∉gone) (hb:∀ i∈back,i<st.length) (hl:back.length<=est.length) :
  Yn st nv back gone est (G0 st nv back gone est):=by
 have hlen:=MT (back:=back) (gone:=gone) (nv:=nv) (n:=st.length) (est:=est) st 0
 have hback:∀ (k i:Nat) (b b0:AH),est[k]? = some b->back[k]? = some i->st[i]? = some b0->(G0 st nv back gone est)[i]? = some ((SO b0 b).ren (Fz back st.length)):=by
  intro k i b b0 hk hbk hi
  have hlt:=(AT.1 hi).1
  unfold G0
  rw [AZ (by omega),G5,hi,Option.map_some,Nat.zero_add]
  have h1:Az gone i=false:=Ak.2 (hg _ (List.mem_of_getElem? hbk))
  have h2:Jc back i=some k:=WR hd hbk
  simp only [h1,Bool.false_eq_true,if_false,h2]
  simp [List.getD,hk]
 refine ⟨fun k b hk=>?_,hback,fun i b h1 h2 hi=>?_,fun i h1 hi=>?_,fun i b hi=>?_⟩
 ·by_cases hkm:k<back.length
  ·have e:back.getD k 0=back[k]:=by simp [List.getD,hkm]
   have hlt:=hb back[k] (by simp)
   have hren:Fz back st.length k=back[k]:=by unfold Fz; rw [if_pos hkm,e]
   rw [hren]
   refine ⟨_,hback k back[k] b st[back[k]] hk (by simp) (by simp),?_⟩
   have hst:st[back[k]]? = some st[back[k]]:=by simp
   generalize st[back[k]]=b0 at hst ⊢
   cases b0 with
   | rows t' K' xs' =>
    cases b with
    | mrow t K xs=>exact .inr ⟨t,K,xs,hkm,rfl,rfl,back[k],t',K',xs',by simp,hst⟩
    | _=>exact .inl rfl
   | _=>exact .inl rfl
  ·refine ⟨b,?_,.inl rfl⟩
   unfold G0 Fz
   rw [if_neg hkm,BG (by omega),hlen,BT,Ba]
   rw [show back.length+(st.length+(k-back.length)-st.length)=k by omega,hk]
   rfl
 ·have hlt:=(AT.1 hi).1
  unfold G0
  rw [AZ (by omega),G5,hi,Option.map_some,Nat.zero_add,Ak.2 h2]
  have:Jc back i=none:=by
   cases hq:Jc back i with
   | none=>rfl
   | some q=>exact absurd (List.mem_of_getElem? (Ik hq)) h1
  simp [this]
 ·unfold G0
  rw [AZ (by omega),G5,List.getElem?_eq_getElem hi,Option.map_some,Nat.zero_add,Bx.2 h1]
  rfl
 ·have hlt:=(AT.1 hi).1
  have htot:(G0 st nv back gone est).length=st.length+(est.length-back.length):=by simp [G0,hlen]
  rcases BI i st.length with h | h
  ·by_cases h1:i∈gone
   ·right; right
    refine ⟨h1,?_⟩
    unfold G0 at hi
    rw [AZ (by omega),G5,List.getElem?_eq_getElem h,Option.map_some,Nat.zero_add,Bx.2 h1] at hi
    simpa using hi.symm
   ·by_cases h2:i∈back
    ·left
     obtain ⟨k,hk,rfl⟩:=Gm h2
     exact ⟨k,by omega,by simp [Fz,hk,List.getD]⟩
    ·exact .inr (.inl ⟨h,h2,h1⟩)
  ·left
   refine ⟨back.length+(i-st.length),by omega,?_⟩
   unfold Fz
   rw [if_neg (by omega)]
   omega
theorem Xl {st:List AH} {back:List Nat} (hd:back.Nodup) (hb:∀ i∈back,i<st.length) {k k':Nat} (h:Fz back st.length k=Fz back st.length k'):k=k':=by
 unfold Fz at h
 by_cases h1:k<back.length<;>by_cases h2:k'<back.length
 ·rw [if_pos h1,if_pos h2] at h
  have e1:back.getD k 0=back[k]:=by simp [List.getD,h1]
  have e2:back.getD k' 0=back[k']:=by simp [List.getD,h2]
  rw [e1,e2] at h
  exact (List.getElem?_inj h1 hd).1 (by simp [h1,h2,h])
 ·rw [if_pos h1,if_neg h2] at h
  have e1:back.getD k 0=back[k]:=by simp [List.getD,h1]
  have:=hb back[k] (by simp)
  omega
 ·rw [if_neg h1,if_pos h2] at h
  have e1:back.getD k' 0=back[k']:=by simp [List.getD,h2]
  have:=hb back[k'] (by simp)
  omega
 ·rw [if_neg h1,if_neg h2] at h
  omega
structure Cu (st:List AH) (cs cl:List AV) (ids:List Nat):Prop where
 len:cl.length=cs.length
 cnt:AG cl=ids.length
 nf:cl.all AV.nilFree=true
 nr:∀ c∈cl,∀ i,c≠.row i
 boxes:∀ (m:Nat) (b:AH),(Ae cl)[m]? = some b->∃ (i:Nat) (t:TypeId) (e:Kd),∃ xs:List (Kd.T e),ids[m]? = some i/\st[i]? = some (AH.rows t e xs)/\b=AH.rows t e xs
 cells:∀ (k o:Nat) (a:AV),(Aq k cl)[o]? = some a->∃ c,cs[o]? = some c/\((∃ m i:Nat,a=AV.row (k+m)/\ids[m]? = some i/\c=AV.row i)\/(a.solid=true/\c.solid=true/\∀ (H:HP) (u:Value),VF H c u->VF H a u)\/(∃ (i:Nat) (e:Kd),∃ xs:List (Kd.T e),a=AV.lst e xs/\c=AV.row i/\st[i]? = some (AH.frz e xs)))
theorem Cu.plain {st:List AH} {cs cl:List AV} {ids:List Nat} {a v:AV} (hc:Cu st cs cl ids) (hn:a.nilFree=true) (hs:a.solid=true) (hvs:v.solid=true) (hv:∀ H u,VF H v u->VF H a u) :
  Cu st (v::cs) (a::cl) ids:=by
 have o1:∀ k,Aq k (a::cl)=a::Aq k cl:=fun k=>by cases a<;>first | rfl | cases hs
 have o2:Ae (a::cl)=Ae cl:=by cases a<;>first | rfl | cases hs
 have o3:AG (a::cl)=AG cl:=by cases a<;>first | rfl | cases hs
 refine ⟨by simp [hc.len],by rw [o3]; exact hc.cnt,by simp [hn,hc.nf],fun c hm i=>?_,fun m b hb=>by rw [o2] at hb; exact hc.boxes m b hb,fun k o b hb=>?_⟩
 ·rcases AQ.1 hm with rfl | hm
  ·intro e; subst e; cases hs
  ·exact hc.nr c hm i
 ·rw [o1] at hb
  cases o with
  | zero =>
   simp at hb
   subst hb
   exact ⟨v,rfl,.inr (.inl ⟨hs,hvs,hv⟩)⟩
  | succ o=>simpa using hc.cells k o b (by simpa using hb)
theorem Pe {k:Kd} {v a:AV} (h:v.norm k=some a):a.nilFree=true/\a.solid=true/\v.solid=true/\∀ H u,VF H v u->VF H a u:=by
 unfold AV.norm at h
 split at h
 ·split at h
  ·cases h
   exact ⟨rfl,rfl,rfl,fun H u hu=>by simp only [VF] at hu ⊢; subst hu; exact F4⟩
  ·cases h
 ·rename_i hnn
  split at h
  ·rename_i hs
   cases h
   refine ⟨?_,hs,hs,fun _ _ h=>h⟩
   cases v<;>first | exact absurd rfl hnn | rfl | cases hs
  ·cases h
theorem Cu.row {st:List AH} {cs cl:List AV} {ids:List Nat} {i:Nat} {t:TypeId} {e:Kd} {xs:List e.T} (hc:Cu st cs cl ids) (hi:st[i]? = some (.rows t e xs)) :
  Cu st (.row i::cs) (.new t e xs::cl) (i::ids):=by
 refine ⟨by simp [hc.len],by simp [AG,AV.isNew,hc.cnt],by simp [AV.nilFree,hc.nf],fun c hm j=>?_,fun m b hb=>?_,fun k o a ha=>?_⟩
 ·rcases AQ.1 hm with rfl | hm
  ·simp
  ·exact hc.nr c hm j
 ·simp only [Ae] at hb
  cases m with
  | zero=>simp at hb; subst hb; exact ⟨i,t,e,xs,rfl,hi,rfl⟩
  | succ m=>simpa using hc.boxes m b (by simpa using hb)
 ·simp only [Aq] at ha
  cases o with
  | zero=>simp at ha; subst ha; exact ⟨.row i,rfl,.inl ⟨0,i,rfl,rfl,rfl⟩⟩
  | succ o =>
   obtain ⟨c,c1,c2⟩:=hc.cells (k+1) o a (by simpa using ha)
   refine ⟨c,by simpa using c1,?_⟩
   rcases c2 with ⟨m,j,e1,e2,e3⟩ | c2
   ·exact .inl ⟨m+1,j,by rw [e1]; congr 1; omega,by simpa using e2,e3⟩
   ·exact .inr c2
theorem Cu.frozen {st:List AH} {cs cl:List AV} {ids:List Nat} {i:Nat} {e:Kd} {xs:List e.T} (hc:Cu st cs cl ids) (hi:st[i]? = some (.frz e xs)) :
  Cu st (.row i::cs) (.lst e xs::cl) ids:=by
 refine ⟨by simp [hc.len],by simpa [AG,AV.isNew] using hc.cnt,by simp [AV.nilFree,hc.nf],fun c hm j=>?_,fun m b hb=>hc.boxes m b (by simpa [Ae] using hb),fun k o a ha=>?_⟩
 ·rcases AQ.1 hm with rfl | hm
  ·simp
  ·exact hc.nr c hm j
 ·simp only [Aq] at ha
  cases o with
  | zero=>simp at ha; subst ha; exact ⟨.row i,rfl,.inr (.inr ⟨i,e,xs,rfl,rfl,hi⟩)⟩
  | succ o=>simpa using hc.cells k o a (by simpa using ha)
theorem Kq {st:List AH}:∀ {ks:List Kd} {cs cl:List AV} {ids:List Nat},FI st ks cs=some (cl,ids)->Cu st cs cl ids
 | [],[],cl,ids,h=>by
  cases h
  exact ⟨rfl,rfl,rfl,by simp,fun m b h=>by simp [Ae] at h,fun k o a h=>by simp [Aq] at h⟩
 | [],_::_,cl,ids,h=>by simp [FI] at h
 | _::_,[],cl,ids,h=>by simp [FI] at h
 | k0::ks,v::vs,cl,ids,h=>by
  have norm:((v.norm k0).bind fun a=>(FI st ks vs).bind fun y=>some (a::y.1,y.2))=some (cl,ids)->Cu st (v::vs) cl ids:=by
   intro h
   cases hq:v.norm k0 with
   | none=>rw [hq] at h; cases h
   | some a =>
    rw [hq] at h
    simp only [Z] at h
    cases hc:FI st ks vs with
    | none=>rw [hc] at h; cases h
    | some y =>
     rw [hc] at h
     cases h
     obtain ⟨n1,n2,n3,n4⟩:=Pe hq
     exact (Kq hc).plain n1 n2 n3 n4
  cases v with
  | row i =>
   simp only [FI] at h
   split at h
   ·split at h
    ·rename_i t e xs hi
     cases hc:FI st ks vs with
     | none=>rw [hc] at h; cases h
     | some y =>
      rw [hc] at h
      cases h
      exact (Kq hc).row hi
    ·cases h
   ·split at h
    ·rename_i e xs hi
     split at h
     ·cases hc:FI st ks vs with
      | none=>rw [hc] at h; cases h
      | some y =>
       rw [hc] at h
       cases h
       exact (Kq hc).frozen hi
     ·cases h
    ·cases h
   ·cases h
  | _=>exact norm h
end Go.Proofs.Ytffahmnodgnohaa.Core

namespace Go.Proofs.Ytffahmnodgnohaa.Core
open Go
variable {H:HP} {φ:BF} {st:List AH} {w w':World} {P:Program}
theorem Xm:∀ K:Kd,K.fz.sz=K.sz
 | .int _=>rfl
 | .bool=>rfl
 | .str=>rfl
 | .slice _=>rfl
 | .pair a b=>by simp only [Kd.fz,Kd.sz,Xm a,Xm b]
 | .own _ _=>rfl
 | .ref _=>rfl
 | .fun _=>rfl
 | .clo _ _=>rfl
theorem W8 {A B A' B':Type} (h1:A=A') (h2:B=B') (h:(A×B)=(A'×B')) (x:A×B):(cast h x).1=cast h1 x.1/\(cast h x).2=cast h2 x.2:=by
 subst h1 h2
 exact ⟨rfl,rfl⟩
theorem Tw {A B:Type} (h:A=B) (g:List A=List B) (xs:List A):cast g xs=xs.map (cast h):=by
 subst h
 show xs=xs.map fun x=>x
 simp
theorem Yo {K:Kd} {xs:List K.T} {j:Nat} {x:K.fz.T} (h:(WB K xs)[j]? = some x):∃ y,xs[j]? = some y/\x=cast K.fz_T.symm y:=by
 unfold WB at h
 rw [Tw K.fz_T.symm,BT] at h
 cases hx:xs[j]? with
 | none=>rw [hx] at h; cases h
 | some y=>rw [hx] at h; exact ⟨y,rfl,(Option.some.inj h).symm⟩
theorem OJ {K:Kd} {xs:List K.T}:(WB K xs).length=xs.length:=by
 unfold WB
 rw [Tw K.fz_T.symm,List.length_map]
theorem UU {H':HP} (hle:H.le H') {t:TypeId} {e:Kd} {xs:List e.T} {v:Value} {flat:List Value} (ho:w.ownsRow 0 t e.sz v xs.length flat) (hr:CI H e xs flat) (hb:∀ b,Dc v=some b->H' b=w.heap[b]?):MC (C4 H' e) e.sz H' xs v:=by
 rcases ho.2 with ⟨e1,hn⟩ | ⟨g,cap,cur,e1,_,hg,hc,hm,hs,ht⟩
 ·have:xs=[]:=Dk.1 hn
  subst this
  rw [e1]
  exact F4
 ·refine ⟨some ⟨g,0,none⟩,cap,e1,hc,.inr ⟨g,0,cur,t,(0,0),rfl,?_,fun j x hx=>?_⟩⟩
  ·rw [hb g (by rw [e1]; rfl)]; exact hg
  ·obtain ⟨cs,h1,h2,h3⟩:=LU hr ho.1 hx
   refine ⟨cs,h1.mono hle,h2,fun i u hu=>?_⟩
   have:=h3 i u hu
   rw [<- ht,BB] at this
   split at this
   ·simpa using this
   ·cases this
theorem Cf.fz {H':HP} (hle:H.le H'):∀ {K:Kd} {x:K.T} {cs vs:List Value},Cf H w (fun _=>false) K x cs vs->(∀ u∈vs,∀ b,Dc u=some b->H' b=w.heap[b]?)->C4 H' K.fz (cast K.fz_T.symm x) cs:=by
 intro K
 induction K with
 | pair a b iha ihb =>
  intro x cs vs h hb
  obtain ⟨c1,c2,v1,v2,rfl,rfl,h1,h2⟩:=h
  obtain ⟨e1,e2⟩:=W8 a.fz_T.symm b.fz_T.symm (Kd.fz_T (.pair a b)).symm x
  refine ⟨c1,c2,rfl,?_,?_⟩
  ·have:=iha h1 fun u hu=>hb u (List.mem_append_left _ hu)
   rw [<- e1] at this
   exact this
  ·have:=ihb h2 fun u hu=>hb u (List.mem_append_right _ hu)
   rw [<- e2] at this
   exact this
 | own t e _ =>
  intro x cs vs h hb
  obtain ⟨v,rfl,_,h⟩:=h
  rw [if_neg (by simp)] at h
  obtain ⟨rfl,flat,h1,h2⟩:=h
  exact ⟨v,rfl,UU hle h1 h2 (hb v (by simp))⟩
 | _ =>
  intro x cs vs h _
  exact C4.mono hle h.2
theorem U7 (h:SR H φ st w) {id:Nat} {t:TypeId} {K:Kd} {xs:List K.T} (hid:st[id]? = some (.rows t K xs)) :
  MC (C4 (Jd H w (φ id)) K.fz) K.fz.sz (Jd H w (φ id)) (WB K xs) (hdr (φ id))/\∀ a n cap,hdr (φ id)=.slice (some a) n cap->a.off=0/\a.spot=none:=by
 have hle:H.le (Jd H w (φ id)):=by
  intro b o hb
  by_cases e:BQ (φ id) b
  ·have:=h.out id _ hid rfl b e
   rw [this] at hb
   cases hb
  ·simp only [Jd,e,if_false]
   exact hb
 obtain ⟨hd,flat,vss,ev,ho,hl,_,hr⟩:=h.box id _ hid
 obtain ⟨a0,c0,e0⟩:=Aa ho
 have hh:hdr (φ id)=hd:=by rw [ev,D5 (by rw [e0]; simp)]
 have hblk:∀ u∈hd::vss.flatten,∀ b,Dc u=some b->Jd H w (φ id) b=w.heap[b]? := fun u hu b hb=>by
  have:BQ (φ id) b:=by rw [ev]; exact (D6 ⟨_,_,_,e0⟩).2 ⟨u,hu,hb⟩
  simp [Jd,this]
 rw [hh,Xm]
 constructor
 ·rcases ho.2 with ⟨e,hn⟩ | ⟨g,cap,cur,e,_,hg,hc,hm,hs,ht⟩
  ·have:WB K xs=[]:=Dk.1 (by rw [OJ]; exact hn)
   rw [this,e]
   exact F4
  ·refine ⟨some ⟨g,0,none⟩,cap,by rw [OJ]; exact e,by rw [OJ]; exact hc,.inr ⟨g,0,cur,t,(0,0),rfl,?_,fun j x hx=>?_⟩⟩
   ·rw [hblk hd (by simp) g (by rw [e]; rfl)]; exact hg
   ·obtain ⟨y,hy,rfl⟩:=Yo hx
    have hj:j<vss.length:=by rw [hl]; exact (AT.1 hy).1
    have hn:=hr j y vss[j] hy (by simp)
    have hrep:=Cf.fz hle hn fun u hu=>hblk u (List.mem_cons_of_mem _ (List.mem_flatten.2 ⟨vss[j],by simp,hu⟩))
    refine ⟨_,hrep,hn.clen,fun i u hu=>?_⟩
    rw [BB] at hu
    split at hu
    ·rw [Ba,<- ht,BB] at hu
     split at hu
     ·simpa using hu
     ·cases hu
    ·cases hu
 ·intro a n cap e2
  rcases ho.2 with ⟨e,_⟩ | ⟨g,cap',cur,e,_⟩
  ·rw [e] at e2; cases e2
  ·rw [e] at e2; cases e2; exact ⟨rfl,rfl⟩
theorem Z8 (hs:SR H φ st w):∀ (bors:List Nat),(∀ i∈bors,∃ (t:TypeId) (K:Kd),∃ xs:List (Kd.T K),st[i]? = some (AH.rows t K xs)) ->
  ∃ H1 st1,H.le H1/\SR H1 φ st1 w/\(∀ b,(∀ i∈bors,¬BQ (φ i) b)->H1 b=H b)/\(∀ i,i∉bors->st1[i]? = st[i]?) /\
   (∀ i∈bors,∀ (t:TypeId) (K:Kd) (xs:List (Kd.T K)),st[i]? = some (AH.rows t K xs)->MC (C4 H1 K.fz) K.fz.sz H1 (WB K xs) (hdr (φ i)))
 | [],_=>⟨H,st,HP.le_refl H,hs,fun _ _=>rfl,fun _ _=>rfl,fun i hi=>by cases hi⟩
 | i::r,hl=>by
  obtain ⟨H1,st1,h1,h2,h3,h4,h5⟩:=Z8 hs r fun j hj=>hl j (by simp [hj])
  by_cases hir:i∈r
  ·refine ⟨H1,st1,h1,h2,fun b hb=>h3 b fun j hj=>hb j (by simp [hj]),fun j hj=>h4 j fun h=>hj (by simp [h]),fun j hj=>?_⟩
   rcases AQ.1 hj with rfl | hj
   ·exact h5 _ hir
   ·exact h5 _ hj
  ·obtain ⟨t,K,xs,hi⟩:=hl i (by simp)
   have hi1:st1[i]? = some (.rows t K xs):=(h4 i hir).trans hi
   obtain ⟨n1,n2⟩:=U7 h2 hi1
   obtain ⟨g1,g2,g4⟩:=h2.freezeTo hi1 n1 n2
   refine ⟨_,_,HP.le_trans h1 g1,g2,fun b hb=>?_,fun j hj=>?_,fun j hj t' K' xs' hj'=>?_⟩
   ·rw [g4 b (hb i (by simp)),h3 b fun j hj=>hb j (by simp [hj])]
   ·rw [AU,if_neg (fun e=>hj (by simp [e]))]
    exact h4 j fun h=>hj (by simp [h])
   ·by_cases e:j=i
    ·subst e
     rw [hi] at hj'
     cases hj'
     exact n1
    ·have hjr:j∈r:=by rcases AQ.1 hj with h | h; exact absurd h e; exact h
     exact GY (fun _ _ h=>C4.mono g1 h) g1 (h5 j hjr t' K' xs' hj')
structure Gc (st:List AH) (ids:List (Nat×Kd)) (bx:List AV) (owns:List Nat):Prop where
 len:bx.length=ids.length
 cnt:AG (Ay bx)=owns.length
 kd:∀ (j:Nat) (v:AV),bx[j]? = some v->∃ p,ids[j]? = some p/\∃ x:Kd.T p.2,v=Kd.av p.2 x
 rows:∀ (m:Nat) (b:AH),(Ae (Ay bx))[m]? = some b->∃ (i:Nat) (t:TypeId) (e:Kd),∃ xs:List (Kd.T e),owns[m]? = some i/\st[i]? = some (AH.rows t e xs)/\b=AH.rows t e xs
 vars:∀ (k j:Nat) (v:AV),bx[j]? = some v->∃ p:Nat×Kd,ids[j]? = some p/\((∃ cs ecs:List AV,p.2.isOwn=false/\st[p.1]? = some (AH.var cs)/\Uo (k+AG (Ay (bx.take j))) v=.var ecs/\ecs.length=cs.length/\∀ (o:Nat) (a:AV),ecs[o]? = some a ->
  ∃ c,cs[o]? = some c/\((∃ m i:Nat,a=AV.row (k+m)/\owns[m]? = some i/\c=AV.row i)\/(a.solid=true/\c.solid=true/\∀ (H:HP) (u:Value),VF H c u->VF H a u)\/(∃ (i:Nat) (e:Kd),∃ xs:List (Kd.T e),a=AV.lst e xs/\c=AV.row i/\st[i]? = some (AH.frz e xs)))) \/
  (∃ (t:TypeId) (e:Kd),∃ xs:List (Kd.T e),p.2=.own t e/\(st[p.1]? = some (AH.rows t e xs)\/st[p.1]? = some (AH.mrow t e xs))/\Uo (k+AG (Ay (bx.take j))) v=.mrow t e xs))
theorem Gc.mut {st:List AH} {ids:List (Nat×Kd)} {bx:List AV} {owns:List Nat} (f:Gc st ids bx owns) {b:Nat} {t:TypeId} {e:Kd} {xs:List e.T} (hb:st[b]? = some (AH.rows t e xs)\/st[b]? = some (AH.mrow t e xs)) :
  Gc st ((b,.own t e)::ids) (.new t e xs::bx) owns:=by
 have hco:∀ vs,Ay (AV.new t e xs::vs)=Ay vs:=fun vs=>rfl
 refine ⟨by simp [f.len],by rw [hco]; exact f.cnt,fun j v hj=>?_,fun m b hb=>?_,fun k j v hj=>?_⟩
 ·cases j with
  | zero=>simp at hj; subst hj; exact ⟨(b,.own t e),rfl,xs,rfl⟩
  | succ j=>simpa using f.kd j v (by simpa using hj)
 ·rw [hco] at hb; exact f.rows m _ hb
 ·cases j with
  | zero=>simp at hj; subst hj; exact ⟨(b,.own t e),rfl,.inr ⟨t,e,xs,rfl,hb,rfl⟩⟩
  | succ j =>
   obtain ⟨p,g1,g2⟩:=f.vars k j v (by simpa using hj)
   exact ⟨p,by simpa using g1,by rw [List.take_succ_cons,hco]; exact g2⟩
theorem OK {st:List AH}:∀ {ids:List (Nat×Kd)} {bx:List AV} {owns:List Nat},F3 st ids=some (bx,owns)->Gc st ids bx owns
 | [],bx,owns,h=>by
  cases h
  exact ⟨rfl,rfl,fun j v h=>by simp at h,fun m b h=>by simp [Ay,Ae] at h,fun k j v h=>by simp at h⟩
 | (b,K)::ids,bx,owns,h=>by
  have mu:∀ (t:TypeId) (e:Kd) (xs:List e.T),st[b]? = some (AH.rows t e xs)\/st[b]? = some (AH.mrow t e xs)->(if Kd.own t e=K then (F3 st ids).bind fun r=>some (AV.new t e xs::r.1,r.2) else none)=some (bx,owns)->Gc st ((b,K)::ids) bx owns:=by
   intro t e xs hb h'
   split at h'
   ·rename_i hK
    subst hK
    cases h3:F3 st ids with
    | none=>rw [h3] at h'; cases h'
    | some r =>
     obtain ⟨bx',o2⟩:=r
     rw [h3] at h'
     cases h'
     exact (OK h3).mut hb
   ·cases h'
  simp only [F3] at h
  split at h
  ·rename_i cs hcs
   split at h
   ·cases h
   rename_i hno
   have hno:K.isOwn=false:=by simpa using hno
   cases h1:FI st K.leaves cs with
   | none=>rw [h1] at h; cases h
   | some y =>
    obtain ⟨cl,o1⟩:=y
    rw [h1] at h
    simp only [Z] at h
    cases h2:K.ofCells cl with
    | none=>rw [h2] at h; cases h
    | some x =>
     rw [h2] at h
     simp only [Z] at h
     cases h3:F3 st ids with
     | none=>rw [h3] at h; cases h
     | some r =>
      obtain ⟨bx',o2⟩:=r
      rw [h3] at h
      cases h
      have f:=OK h3
      have c:=Kq h1
      have ecl:cl=K.enc x:=by
       have:=SF K cl [] x c.nf (DI h2)
       simpa using this
      have hcells:(K.av x).cellsO=cl:=by rw [(E7 x hno).1,ecl]
      have hco:∀ vs,Ay (K.av x::vs)=cl++Ay vs:=fun vs=>by simp [Ay,hcells]
      refine ⟨by simp [f.len],by rw [hco,Ar,c.cnt,f.cnt,List.length_append],fun j v hj=>?_,fun m b hb=>?_,fun k j v hj=>?_⟩
      ·cases j with
       | zero=>simp at hj; subst hj; exact ⟨(b,K),rfl,x,rfl⟩
       | succ j=>simpa using f.kd j v (by simpa using hj)
      ·rw [hco,BD] at hb
       rcases BI m (Ae cl).length with hm | hm
       ·rw [AZ hm] at hb
        obtain ⟨i,t,e,xs,g1,g2⟩:=c.boxes m b hb
        exact ⟨i,t,e,xs,by rw [AZ (AT.1 g1).1]; exact g1,g2⟩
       ·rw [BG hm] at hb
        obtain ⟨i,t,e,xs,g1,g2⟩:=f.rows _ b hb
        rw [CQ,c.cnt] at hm g1
        exact ⟨i,t,e,xs,by rw [BG hm]; exact g1,g2⟩
      ·cases j with
       | zero =>
        simp at hj
        subst hj
        refine ⟨(b,K),rfl,.inl ⟨cs,Aq k cl,hno,hcs,by rw [(E7 x hno).2,<- ecl]; simp [Ay,AG],by rw [E4]; exact c.len,fun o a ha=>?_⟩⟩
        obtain ⟨q,q1,q2⟩:=c.cells k o a ha
        refine ⟨q,q1,?_⟩
        rcases q2 with ⟨m,i,e1,e2,e3⟩ | q2
        ·exact .inl ⟨m,i,e1,by rw [AZ (AT.1 e2).1]; exact e2,e3⟩
        ·exact .inr q2
       | succ j =>
        obtain ⟨p,g1,gg⟩:=f.vars (k+o1.length) j v (by simpa using hj)
        have et:k+AG (Ay ((K.av x::bx').take (j+1)))=k+o1.length+AG (Ay (bx'.take j)):=by rw [List.take_succ_cons,hco,Ar,c.cnt,<- Nat.add_assoc]
        refine ⟨p,by simpa using g1,?_⟩
        rw [et]
        rcases gg with ⟨cs',ecs,g0,g2,g25,g3,g4⟩ | gg
        rotate_left
        ·exact .inr gg
        refine .inl ⟨cs',ecs,g0,g2,g25,g3,fun o a ha=>?_⟩
        obtain ⟨q,q1,q2⟩:=g4 o a ha
        refine ⟨q,q1,?_⟩
        rcases q2 with ⟨m,i,e1,e2,e3⟩ | q2
        ·refine .inl ⟨o1.length+m,i,by rw [e1,Nat.add_assoc],?_,e3⟩
         rw [BG (by omega)]
         simpa using e2
        ·exact .inr q2
  ·rename_i t e xs hb
   exact mu t e xs (.inl hb) h
  ·rename_i t e xs hb
   exact mu t e xs (.inr hb) h
  ·cases h
structure Pf (st:List AH) (nv:Nat) (ml:List Nat) (est:List AH):Prop where
 len:est.length=ml.length
 nvl:nv<=ml.length
 get:∀ (k:Nat) (b:AH),est[k]? = some b->∃ i,ml[k]? = some i/\((k<nv/\∃ cs ecs:List AV,st[i]? = some (AH.var cs)/\b=AH.var ecs/\ecs.length=cs.length/\∀ (o:Nat) (a:AV),ecs[o]? = some a ->
   ∃ c,cs[o]? = some c/\((∃ q j:Nat,a=AV.row q/\ml[q]? = some j/\c=AV.row j/\nv<=q)\/(a.solid=true/\c.solid=true/\∀ (H:HP) (u:Value),VF H c u->VF H a u)\/(∃ (i:Nat) (e:Kd),∃ xs:List (Kd.T e),a=AV.lst e xs/\c=AV.row i/\st[i]? = some (AH.frz e xs)))) \/
  (nv<=k/\∃ (t:TypeId) (e:Kd),∃ xs:List (Kd.T e),st[i]? = some (AH.rows t e xs)/\b=AH.rows t e xs) \/
  (k<nv/\∃ (t:TypeId) (e:Kd),∃ xs:List (Kd.T e),(st[i]? = some (AH.rows t e xs)\/st[i]? = some (AH.mrow t e xs))/\b=AH.mrow t e xs))
theorem Xn {ids:List (Nat×Kd)} {bx args:List AV} {owns movs:List Nat} (f:Gc st ids bx owns) (hc:AG (cellsOf args)=movs.length)
  (hm:∀ (m:Nat) (b:AH),(Ae (cellsOf args))[m]? = some b->∃ (i:Nat) (t:TypeId) (e:Kd),∃ xs:List (Kd.T e),movs[m]? = some i/\st[i]? = some (AH.rows t e xs)/\b=AH.rows t e xs) :
  Pf st ids.length (ids.map (·.1)++owns++movs) (BK bx args):=by
 refine ⟨by rw [KY,f.len,f.cnt,hc]; simp [Nat.add_assoc],by simp [Nat.add_assoc],fun k b hk=>?_⟩
 rw [E5] at hk
 rcases BI k bx.length with hl | hl
 ·rw [AZ (by rw [As]; exact hl),F6 bx _ k bx[k] (by simp)] at hk
  cases hk
  obtain ⟨p,g1,gg⟩:=f.vars bx.length k bx[k] (by simp)
  have hk2:k<ids.length:=by rw [<- f.len]; exact hl
  refine ⟨p.1,by rw [CL,AZ (by simpa using hk2),BT,g1]; rfl,?_⟩
  rcases gg with ⟨cs,ecs,_,g2,g25,g3,g4⟩ | ⟨t,e,xs,_,g2,g25⟩
  rotate_left
  ·exact .inr (.inr ⟨hk2,t,e,xs,g2,g25⟩)
  refine .inl ⟨hk2,cs,ecs,g2,g25,g3,fun o a ha=>?_⟩
  obtain ⟨c,c1,c2⟩:=g4 o a ha
  refine ⟨c,c1,?_⟩
  rcases c2 with ⟨m,i,e1,e2,e3⟩ | c2
  ·refine .inl ⟨bx.length+m,i,e1,?_,e3,by rw [f.len]; omega⟩
   rw [f.len,CL,BG (by simp)]
   simp only [List.length_map,Nat.add_sub_cancel_left]
   rw [AZ (AT.1 e2).1]
   exact e2
  ·exact .inr c2
 ·rw [BG (by rw [As]; exact hl),As] at hk
  rw [BD] at hk
  have hk2:ids.length<=k:=by rw [<- f.len]; exact hl
  have e0:k-bx.length=k-ids.length:=by rw [f.len]
  rw [e0] at hk
  have hidx:(ids.map (·.1)++owns++movs)[k]? = (owns++movs)[k-ids.length]? := by
   rw [CL,BG (by simpa using hk2)]
   simp
  rcases BI (k-ids.length) (Ae (Ay bx)).length with h1 | h1
  ·rw [AZ h1] at hk
   obtain ⟨i,t,e,xs,g1,g2,g3⟩:=f.rows _ b hk
   exact ⟨i,by rw [hidx,AZ (AT.1 g1).1]; exact g1,.inr (.inl ⟨hk2,t,e,xs,g2,g3⟩)⟩
  ·rw [BG h1] at hk
   obtain ⟨i,t,e,xs,g1,g2,g3⟩:=hm _ b hk
   rw [CQ,f.cnt] at h1 g1
   exact ⟨i,by rw [hidx,BG h1]; exact g1,.inr (.inl ⟨hk2,t,e,xs,g2,g3⟩)⟩
theorem Pf.at {nv:Nat} {ml:List Nat} {est:List AH} (h:Pf st nv ml est) {k i:Nat} (hk:ml[k]? = some i):∃ b,est[k]? = some b:=by
 have:k<est.length:=by rw [h.len]; exact (AT.1 hk).1
 exact ⟨est[k],by simp⟩
theorem Dl {ml:List Nat} {k i:Nat} (h:ml[k]? = some i):ml.getD k 0=i:=by simp [List.getD,h]
theorem Pf.sr {nv:Nat} {ml:List Nat} {est st1:List AH} {H1:HP} (h:Pf st nv ml est) (hd:ml.Nodup) (hs:SR H1 φ st1 w) (hsame:∀ i∈ml,st1[i]? = st[i]?) (hfrz:∀ (i:Nat) (e:Kd) (xs:List e.T),st[i]? = some (AH.frz e xs)->st1[i]? = some (AH.frz e xs)) :
  SR H1 (fun k=>φ (ml.getD k 0)) est w:=by
 have old:∀ {k i:Nat},ml[k]? = some i->st1[i]? = st[i]? := fun hk=>hsame _ (List.mem_of_getElem? hk)
 refine AP.pick hs (fun k=>ml.getD k 0) (fun k b hk=>?_) (fun k b hk hl=>.inr ?_) (fun k k' b b' hk hk' _ _ _ _ e=>?_) (fun k ecs hk o q hq=>?_)
 ·obtain ⟨i,hi,hc⟩:=h.get k b hk
  simp only [Dl hi]
  rcases hc with ⟨_,cs,ecs,g1,rfl,g3,g4⟩ | ⟨_,t,e,xs,g1,rfl⟩ | ⟨_,t,e,xs,g1,rfl⟩
  ·obtain ⟨b0,c,el,e1,e2,e3⟩:=hs.box i _ ((old hi).trans g1)
   refine ⟨b0,c,el,e1,e2,Jn (by rw [e3.length,g3]) fun o a u ha hu=>?_⟩
   obtain ⟨c0,c1,c2⟩:=g4 o a ha
   rcases c2 with ⟨q,j,rfl,_⟩ | ⟨s1,s2,s3⟩ | ⟨j,e,xs,rfl,rfl,hj⟩
   ·trivial
   ·have hw:=e3.at c1 hu
    have hf:VF H1 c0 u:=by cases c0<;>first | exact hw | cases s2
    exact VW.of_VF (s3 H1 u hf)
   ·obtain ⟨d1,b2,d2,d3⟩:=hs.cell i cs ((old hi).trans g1) o j c1
    rw [e1] at d2
    cases d2
    simp only [World.cell?,e2] at d3
    rw [Array.getElem?_toList] at hu
    simp only [Option.isSome_none,Bool.false_eq_true,if_false] at d3
    rw [hu] at d3
    cases d3
    exact (hs.box j _ (hfrz j e xs hj)).1
  ·exact hs.box i _ ((old hi).trans g1)
  ·rcases g1 with g1 | g1
   ·have h:Ee H1 w (φ i) (.rows t e xs):=hs.box i _ ((old hi).trans g1)
    exact h
   ·exact hs.box i _ ((old hi).trans g1)
 ·obtain ⟨i,hi,hc⟩:=h.get k b hk
  simp only [Dl hi]
  rcases hc with ⟨_,cs,ecs,g1,rfl,g3,g4⟩ | ⟨_,t,e,xs,g1,rfl⟩ | ⟨_,t,e,xs,g1,rfl⟩
  ·exact ⟨_,(old hi).trans g1,rfl,trivial⟩
  ·exact ⟨_,(old hi).trans g1,rfl,trivial⟩
  ·rcases g1 with g1 | g1
   ·exact ⟨_,(old hi).trans g1,rfl,trivial⟩
   ·exact ⟨_,(old hi).trans g1,rfl,trivial⟩
 ·obtain ⟨i,hi,_⟩:=h.get k b hk
  obtain ⟨i',hi',_⟩:=h.get k' b' hk'
  simp only [Dl hi,Dl hi'] at e
  subst e
  exact (List.getElem?_inj (AT.1 hi).1 hd).1 (hi.trans hi'.symm)
 ·obtain ⟨i,hi,hc⟩:=h.get k _ hk
  rcases hc with ⟨_,cs,ecs',g1,e,g3,g4⟩ | ⟨_,t,e,xs,g1,e2⟩ | ⟨_,t,e,xs,g1,e2⟩
  ·cases e
   obtain ⟨c0,c1,c2⟩:=g4 o _ hq
   rcases c2 with ⟨q',j,e,hj,rfl,hle⟩ | ⟨s1,_⟩ | ⟨_,_,_,e,_⟩
   ·cases e
    obtain ⟨d1,b0,d2,d3⟩:=hs.cell i cs ((old hi).trans g1) o j c1
    obtain ⟨bq,hbq⟩:=h.at hj
    obtain ⟨j',hj',hcq⟩:=h.get q bq hbq
    refine ⟨?_,b0,by simp only [Dl hi]; exact d2,by simp only [Dl hj]; exact d3⟩
    rcases hcq with ⟨hlt,_⟩ | ⟨_,t,e,xs,_,rfl⟩ | ⟨hlt,_⟩
    ·omega
    ·simp only [AE,hbq]; rfl
    ·omega
   ·cases s1
   ·cases e
  ·cases e2
  ·cases e2
theorem Pf.fr {nv:Nat} {ml:List Nat} {est:List AH} {H1:HP} (h:Pf st nv ml est) (φ2:BF):Fr nv ml.length H1 φ2 w H1 φ2 est w:=by
 refine ⟨rfl,rfl,rfl,Nat.le_refl _,fun _ _ _=>rfl,fun _ _=>rfl,fun k b hk hl b0 hb=>.inr ⟨k,?_,hb⟩,fun j hj=>?_,fun _ _ _=>rfl⟩
 ·rw [<- h.len]; exact (AT.1 hk).1
 ·have hj2:j<est.length:=by rw [h.len]; exact Nat.lt_of_lt_of_le hj h.nvl
  obtain ⟨i,hi,hc⟩:=h.get j est[j] (by simp)
  rcases hc with ⟨_,cs,ecs,_,e,_⟩ | ⟨hle,_⟩ | ⟨_,t,k,xs,_,e⟩
  ·unfold AL; rw [List.getElem?_eq_getElem hj2,e]; rfl
  ·omega
  ·unfold AL; rw [List.getElem?_eq_getElem hj2,e]; rfl
theorem C4.flat {H H':HP}:∀ {K:Kd} {x:K.T} {cs:List Value},K.flat=true->C4 H K x cs->C4 H' K x cs
 | .int _,_,_,_,h=>h
 | .bool,_,_,_,h=>h
 | .str,_,_,_,h=>h
 | .slice _,_,_,hf,_=>by cases hf
 | .pair _ _,_,_,hf,⟨c1,c2,h,h1,h2⟩=>by
  simp only [Kd.flat,AD] at hf
  exact ⟨c1,c2,h,C4.flat hf.1 h1,C4.flat hf.2 h2⟩
 | .own _ _,_,_,hf,h=>h.elim
 | .ref _,_,_,hf,_=>by cases hf
theorem VW.flat {H H':HP} {p:Value} {el:TypeId} {a:AV} {v:Value} (hf:a.flat=true) (h:VW H p el a v):VW H' p el a v:=by
 cases a<;>first | exact h | trivial | cases hf
theorem VC.flat {H H':HP} {a:AV} {v:Value} (hf:a.flat=true) (h:VC H φ st a v):VC H' φ st a v:=by
 cases a<;>first | exact h | trivial | cases hf
theorem VB.flat {H H':HP} {a:AV} {v:Value} (hf:a.flatV=true) (h:VB H φ st a v):VB H' φ st a v:=by
 rcases h.cases with ⟨cs,arr,rfl,e,h⟩ | h
 ·exact ⟨arr,e,h.impM fun a ha _ g=>g.flat (Ax.1 hf a ha)⟩
 ·cases a<;>first | exact h.elim | exact VB.of_VC (h.flat (by first | exact hf | rfl))
theorem Cf.flatH {H H':HP}:∀ {K:Kd} {hl:Nat->Bool} {x:K.T} {cs vs:List Value},K.flat=true->Cf H w hl K x cs vs->Cf H' w hl K x cs vs:=by
 intro K
 induction K with
 | pair a b iha ihb =>
  intro hl x cs vs hf h
  simp only [Kd.flat,AD] at hf
  obtain ⟨c1,c2,v1,v2,e1,e2,h1,h2⟩:=h
  exact ⟨c1,c2,v1,v2,e1,e2,iha hf.1 h1,ihb hf.2 h2⟩
 | own t e _ =>
  intro hl x cs vs hf h
  obtain ⟨v,e1,e2,h⟩:=h
  refine ⟨v,e1,e2,?_⟩
  split at h
  ·rename_i hq; rw [if_pos hq]; exact h
  ·rename_i hq
   rw [if_neg hq]
   obtain ⟨rfl,flat,h1,h2⟩:=h
   exact ⟨rfl,flat,h1,fun j x hx=>(h2 j x hx).flat hf⟩
 | _=>intro hl x cs vs hf h; exact ⟨h.1,h.2.flat hf⟩
theorem Aj.flatH {H H':HP} {hl:Nat->Nat->Bool} {v:Value} {t:TypeId} {K:Kd} {xs:List K.T} (hf:K.flat=true) (h:Aj H w hl v t K xs):Aj H' w hl v t K xs:=by
 obtain ⟨hd,flat,vss,e,ho,hl,hn,hr⟩:=h
 exact ⟨hd,flat,vss,e,ho,hl,hn,fun j x vs hx hj=>(hr j x vs hx hj).flatH hf⟩
theorem Ee.flat {H H':HP} {bx:AH} {v:Value} (hf:bx.flat=true) (h:Ee H w v bx):Ee H' w v bx:=by
 cases bx with
 | var cs=>obtain ⟨b,c,el,e1,e2,e3⟩:=h; exact ⟨b,c,el,e1,e2,e3.impM fun a ha _ g=>g.flat (Ax.1 hf a ha)⟩
 | rows t K xs=>exact Aj.flatH hf h
 | mrow t K xs=>exact Aj.flatH hf h
 | byt t xs=>exact h
 | hole m t K xs i q=>cases hf
 | frz K xs=>cases hf
 | dead=>cases hf
theorem Ee.mono {H H':HP} (hH:H.le H') {bx:AH} {v:Value} (h:Ee H w v bx):Ee H' w v bx:=by
 cases bx with
 | var cs=>obtain ⟨b,c,el,e1,e2,e3⟩:=h; exact ⟨b,c,el,e1,e2,e3.imp fun _ _ g=>g.mono hH⟩
 | rows t K xs=>exact Aj.mono hH h
 | mrow t K xs=>exact Aj.mono hH h
 | byt t xs=>exact h
 | hole m t K xs i q=>exact Aj.mono hH h
 | frz K xs=>exact ⟨GY (fun _ _ h=>C4.mono hH h) hH h.1,h.2⟩
 | dead=>trivial
theorem Ee.ren {f:Nat->Nat} {bx:AH} {v:Value} (h:Ee H w v bx):Ee H w v (bx.ren f):=by
 cases bx with
 | var cs =>
  obtain ⟨b,c,el,e1,e2,e3⟩:=h
  refine ⟨b,c,el,e1,e2,e3.map fun a u g=>?_⟩
  cases a<;>first | exact g | trivial | exact g.elim
 | _=>exact h
theorem Pg {f:Nat->Nat} {bx:AH}:(bx.ren f).live=bx.live:=by cases bx<;>rfl
theorem Xo {f:Nat->Nat} {st2 est:List AH} {k:Nat} {b:AH} (h1:est[k]? = some b) (h2:st2[f k]? = some (b.ren f)):AE st2 (f k)=AE est k/\AS st2 (f k)=AS est k:=by
 unfold AE AS
 rw [h1,h2]
 cases b<;>exact ⟨rfl,rfl⟩
structure Vu (H:HP) (φ:BF) (st:List AH) (w:World) (nv:Nat) (back gone bors:List Nat) (H1:HP) (est:List AH):Prop where
 sr:SR H φ st w
 entry:Pf st nv (back++gone) est
 nd:(back++gone).Nodup
 bor:∀ i∈bors,∃ (t:TypeId) (K:Kd),∃ xs:List (Kd.T K),st[i]? = some (AH.rows t K xs)
 apart:∀ i∈bors,i∉back++gone
 le:H.le H1
 lent:∀ b,(∀ i∈bors,¬BQ (φ i) b)->H1 b=H b
 nvb:nv<=back.length
open Classical in
theorem Vu.back {nv:Nat} {back gone bors:List Nat} {H1 H':HP} {φ':BF} {est est':List AH} (B:Vu H φ st w nv back gone bors H1 est)
  (hs':SR H' φ' est' w') (hle:H1.le H') (f:Fr nv (back++gone).length H1 (fun k=>φ ((back++gone).getD k 0)) w H' φ' est' w') (hlen:back.length<=est'.length)
  (hkd:∀ (k i:Nat),k<nv->back[k]? = some i->(∀ cs:List AV,st[i]? = some (AH.var cs)->∃ cs':List AV,est'[k]? = some (AH.var cs'))/\(∀ (t:TypeId) (K:Kd) (xs:List K.T),st[i]? = some (AH.rows t K xs)\/st[i]? = some (AH.mrow t K xs)->∃ xs':List (Kd.T K),est'[k]? = some (AH.mrow t K xs')))
  (hflat:bors=[]\/est'.all AH.flat=true) :
  ∃ H2 φ2,AP H φ st w H2 φ2 (G0 st nv back gone est') w'/\(∀ (i:Nat) (bi:AH),st[i]? = some bi->bi.live=true->i∉back->i∉gone->∀ b,BQ (φ i) b->w'.heap[b]? = w.heap[b]?)/\BU φ st φ2 (G0 st nv back gone est') (back.drop nv++gone) /\
   (∀ a v,(bors=[]\/a.flatV=true)->VB H' φ' est' a v->VB H2 φ2 (G0 st nv back gone est') (a.renV (Fz back st.length)) v) /\
   (∀ (i:Nat) (b:AH),i∉back->i∉gone->st[i]? = some b->(G0 st nv back gone est')[i]? = some (b.kill (back.drop nv++gone))/\φ2 i=φ i) /\
   (∀ (k i:Nat),k<nv->back[k]? = some i->hdr (φ2 i)=hdr (φ i)):=by
 have hs:=B.sr
 have hndb:back.Nodup:=(List.nodup_append.1 B.nd).1
 have hdis:∀ i∈back,i∉gone:=fun i h1 h2=>(List.nodup_append.1 B.nd).2.2 i h1 i h2 rfl
 have hand:∀ (k i:Nat),(back++gone)[k]? = some i->∃ b,st[i]? = some b/\b.live=true/\(nv<=k->AL st i=false)/\(∀ t xs,b≠AH.byt t xs)/\∀ m t K xs p q,b≠AH.hole m t K xs p q:=by
  intro k i hk
  obtain ⟨eb,heb⟩:=B.entry.at hk
  obtain ⟨i',hi',hc⟩:=B.entry.get k eb heb
  rw [hk] at hi'
  cases hi'
  rcases hc with ⟨h1,cs,ecs,h2,_⟩ | ⟨h1,t,e,xs,h2,_⟩ | ⟨h1,t,e,xs,h2 | h2,_⟩
  ·exact ⟨_,h2,rfl,fun h=>by omega,fun _ _ e=>(by cases e),fun _ _ _ _ _ _ e=>(by cases e)⟩
  ·exact ⟨_,h2,rfl,fun _=>(by simp only [AL,h2]; rfl),fun _ _ e=>(by cases e),fun _ _ _ _ _ _ e=>(by cases e)⟩
  ·exact ⟨_,h2,rfl,fun h=>by omega,fun _ _ e=>(by cases e),fun _ _ _ _ _ _ e=>(by cases e)⟩
  ·exact ⟨_,h2,rfl,fun h=>by omega,fun _ _ e=>(by cases e),fun _ _ _ _ _ _ e=>(by cases e)⟩
 have hlt:∀ i∈back,i<st.length:=fun i hi=>by
  obtain ⟨k,hk,rfl⟩:=Gm hi
  obtain ⟨b,hb,_⟩:=hand k back[k] (by rw [AZ hk]; simp)
  exact (AT.1 hb).1
 have hgt:∀ i∈gone,i<st.length:=fun i hi=>by
  obtain ⟨k,hk⟩:=List.mem_iff_getElem?.1 (List.mem_append_right back hi)
  obtain ⟨b,hb,_⟩:=hand k i hk
  exact (AT.1 hb).1
 have G:=Xk (nv:=nv) hndb hdis hlt hlen
 generalize hst2:G0 st nv back gone est'=st2 at G ⊢
 let ren:=Fz back st.length
 have inj:∀ {k k'},ren k=ren k'->k=k':=fun h=>Xl (st:=st) hndb hlt h
 have renB:∀ k (h:k<back.length),ren k=back[k]:=fun k h=>by simp [ren,Fz,h,List.getD]
 have renO:∀ k,back.length<=k->ren k=st.length+(k-back.length):=fun k h=>by simp only [ren,Fz]; rw [if_neg (by omega)]
 have ofC:∀ (k:Nat) (b:AH),est'[k]? = some b->∃ b':AH,st2[ren k]? = some (b'.ren ren)/\b'.live=b.live/\(∀ {H:HP} {w:World} {v:Value},Ee H w v b->Ee H w v b')/\(∀ cs,b'=.var cs->b=.var cs) /\
   AE st2 (ren k)=AE est' k/\AS st2 (ren k)=AS est' k:=by
  intro k b hb
  obtain ⟨b',g,hc⟩:=G.ofCallee k b hb
  rcases hc with rfl | ⟨t,K,xs,_,rfl,rfl,_⟩
  ·have:=Xo (f:=ren) hb g
   exact ⟨b',g,rfl,fun h=>h,⟨fun _ h=>h,this.1,this.2⟩⟩
  ·refine ⟨.rows t K xs,g,rfl,fun {H w v} h=>h,⟨fun _ h=>(by cases h),?_,?_⟩⟩
   ·simp only [AE,hb,show st2[ren k]? = _ from g,AH.ren]
   ·simp only [AS,hb,show st2[ren k]? = _ from g,AH.ren]
 let Lent:Nat->Prop:=fun b=>∃ i∈bors,BQ (φ i) b
 let H2:HP:=fun b=>if Lent b then none else H' b
 let φ2:BF:=fun i=>match Jc back i with
  | some k=>φ' k
  | none=>if i<st.length then φ i else φ' (back.length+(i-st.length))
 have φren:∀ k,φ2 (ren k)=φ' k:=by
  intro k
  by_cases h:k<back.length
  ·have:Jc back (ren k)=some k:=by rw [renB k h]; exact WR hndb (by simp)
   simp only [φ2,this]
  ·have e:=renO k (by omega)
   have:Jc back (ren k)=none:=by
    cases hq:Jc back (ren k) with
    | none=>rfl
    | some q=>have:=hlt _ (List.mem_of_getElem? (Ik hq)); omega
   simp only [φ2,this]
   rw [if_neg (by omega),e]
   congr 1
   omega
 have φoth:∀ i,i∉back->i<st.length->φ2 i=φ i:=by
  intro i h1 h2
  have:Jc back i=none:=by
   cases hq:Jc back i with
   | none=>rfl
   | some q=>exact absurd (List.mem_of_getElem? (Ik hq)) h1
  simp only [φ2,this]
  rw [if_pos h2]
 have nlent:∀ b,¬ Lent b->H2 b=H' b:=fun b h=>by simp only [H2]; rw [if_neg h]
 have lentN:∀ b,Lent b->H2 b=none:=fun b h=>by simp only [H2]; rw [if_pos h]
 have lentH:∀ b,Lent b->H b=none:=by
  rintro b ⟨i,hi,hb⟩
  obtain ⟨t,K,xs,hx⟩:=B.bor i hi
  exact hs.out i _ hx rfl b hb
 have lentL:∀ b,Lent b->b<w.heap.size:=by
  rintro b ⟨i,hi,hb⟩
  obtain ⟨t,K,xs,hx⟩:=B.bor i hi
  exact (hs.box i _ hx).blk_lt rfl hb
 have hle2:H.le H2:=by
  intro b o hb
  have h1:¬ Lent b:=fun h=>by rw [lentH b h] at hb; cases hb
  rw [nlent b h1]
  exact hle b o (B.le b o hb)
 have aside:∀ i bi,st[i]? = some bi->bi.live=true->i∉back->i∉gone->∀ b,BQ (φ i) b->b<w.heap.size/\(∀ k,k<(back++gone).length->¬BQ (φ ((back++gone).getD k 0)) b):=by
  intro i bi hi hl h1 h2 b hb
  refine ⟨(hs.box i bi hi).blk_lt hl hb,fun k hk e=>?_⟩
  have hk2:(back++gone)[k]? = some (back++gone)[k]:=by simp
  rw [Dl hk2] at e
  obtain ⟨b2,g1,g2,_⟩:=hand k _ hk2
  have hne:(back++gone)[k]≠i:=fun e2=>by
   have:i∈back++gone:=e2▸DG hk
   rcases Am.1 this with h | h
   ·exact h1 h
   ·exact h2 h
  exact hs.sep _ i b2 bi g1 hi g2 hl hne b e hb
 have memo:∀ i bi,st[i]? = some bi->bi.live=true->i∉back->i∉gone->∀ b,BQ (φ i) b->w'.heap[b]? = w.heap[b]? := by
  intro i bi hi hl h1 h2 b hb
  obtain ⟨g1,g2⟩:=aside i bi hi hl h1 h2 b hb
  exact f.old b g1 g2
 have H2old:∀ b,b<w.heap.size->(∀ k,k<(back++gone).length->¬BQ (φ ((back++gone).getD k 0)) b)->H2 b=H b:=by
  intro b h1 h2
  by_cases hl:Lent b
  ·rw [lentN b hl,lentH b hl]
  ·rw [nlent b hl,f.frz b h1 h2,B.lent b fun i hi e=>hl ⟨i,hi,e⟩]
 have calleeBox:∀ k b,est'[k]? = some b->Ee H2 w' (φ' k) b:=by
  intro k b hk
  have h1:=hs'.box k b hk
  rcases hflat with h | h
  ·have:H2=H':=by
    funext b
    exact nlent b fun ⟨i,hi,_⟩=>by rw [h] at hi; cases hi
   rw [this]
   exact h1
  ·exact h1.flat (Ax.1 h b (List.mem_of_getElem? hk))
 have otherBox:∀ (i:Nat) (b:AH),i∉back->i∉gone->st[i]? = some b->Ee H2 w' (φ i) (b.kill (back.drop nv++gone)):=by
  intro i b h1 h2 hi
  have h3:=(hs.kill (back.drop nv++gone)).box i (b.kill (back.drop nv++gone)) (by rw [BT,hi]; rfl)
  have h4:=memo i b hi
  refine Ee.mono hle2 ?_
  cases b with
  | var cs =>
   obtain ⟨b0,c,el,e1,e2,e3⟩:=h3
   exact ⟨b0,c,el,e1,by rw [h4 rfl h1 h2 b0 (by rw [e1]; rfl)]; exact e2,e3⟩
  | rows t K xs=>exact Aj.same h3 fun b hb=>h4 rfl h1 h2 b hb
  | mrow t K xs=>exact Aj.same h3 fun b hb=>h4 rfl h1 h2 b hb
  | byt t xs =>
   obtain ⟨g,cap,cur,fz,e1,e2,e3⟩:=h3
   exact ⟨g,cap,cur,fz,e1,by rw [h4 rfl h1 h2 g (by rw [e1]; rfl)]; exact e2,e3⟩
  | hole m t K xs p q=>exact Aj.same h3 fun b hb=>h4 rfl h1 h2 b hb
  | frz K xs=>exact h3
  | dead=>trivial
 have killLive:∀ {b:AH},(b.kill (back.drop nv++gone)).live=b.live:=fun {b}=>by cases b<;>rfl
 have hvarB:∀ (k i:Nat),k<nv->back[k]? = some i->hdr (φ2 i)=hdr (φ i)/\AE st2 i=AE st i/\AS st2 i=AS st i/\AL st2 i=AL st i:=by
  intro k i hkn hbk
  have hk:k<back.length:=(AT.1 hbk).1
  have hk2:(back++gone)[k]? = some i:=by rw [AZ hk]; exact hbk
  obtain ⟨b,hb,hl,_,hnb,hnn⟩:=hand k _ hk2
  have e1:φ2 (ren k)=φ' k:=φren k
  have eik:ren k=i:=by rw [renB k hk]; exact (AT.1 hbk).2
  rw [eik] at e1
  have e2:=f.same k hkn
  simp only [Dl hk2] at e2
  obtain ⟨c1,c2⟩:=hkd k i hkn hbk
  have len:∀ (t:TypeId) (K:Kd) (xs xs':List (Kd.T K)),(Ee H w (φ i) (.rows t K xs)\/Ee H w (φ i) (.mrow t K xs))->est'[k]? = some (AH.mrow t K xs')->xs'.length=xs.length:=by
   intro t K xs xs' h hq
   obtain ⟨a2,c2,o2⟩:=Aj.slice (hs'.box k _ hq)
   rw [e2] at o2
   rcases h with h | h
   ·obtain ⟨a1,c1,o1⟩:=Aj.slice h
    rw [o1] at o2
    simp only [Value.slice.injEq] at o2
    exact o2.2.1.symm
   ·obtain ⟨a1,c1,o1⟩:=Aj.slice h
    rw [o1] at o2
    simp only [Value.slice.injEq] at o2
    exact o2.2.1.symm
  refine ⟨by rw [e1,e2],?_⟩
  cases b with
  | var cs =>
   obtain ⟨cs',hq⟩:=c1 cs hb
   have g:=G.ret k i _ _ hq hbk hb
   simp only [AE,AS,AL,g,hb,SO,AH.ren,AH.hold,and_self]
  | rows t K xs =>
   obtain ⟨xs',hq⟩:=c2 t K xs (.inl hb)
   have g:=G.ret k i _ _ hq hbk hb
   simp only [AE,AS,AL,g,hb,SO,AH.ren,AH.hold,and_self,len t K xs xs' (.inl (hs.box i _ hb)) hq]
  | mrow t K xs =>
   obtain ⟨xs',hq⟩:=c2 t K xs (.inr hb)
   have g:=G.ret k i _ _ hq hbk hb
   simp only [AE,AS,AL,g,hb,SO,AH.ren,AH.hold,and_self,len t K xs xs' (.inr (hs.box i _ hb)) hq]
  | byt t xs=>exact absurd rfl (hnb t xs)
  | hole m t K xs p q=>exact absurd rfl (hnn m t K xs p q)
  | frz K xs=>cases hl
  | dead=>cases hl
 have hvarO:∀ i,i∉back->i∉gone->i<st.length->φ2 i=φ i/\AE st2 i=AE st i/\AS st2 i=AS st i/\AL st2 i=AL st i:=by
  intro i h1 h2 h3
  have hib:st[i]? = some st[i]:=by simp
  refine ⟨φoth i h1 h3,?_,?_,?_⟩
  rotate_right
  ·rw [<- Cs (AN (back.drop nv++gone)) st i]
   unfold AL
   rw [G.other i _ h1 h2 hib,BT,hib]; rfl
  ·rw [<- De (AN (back.drop nv++gone)) st i]
   unfold AE
   rw [G.other i _ h1 h2 hib,BT,hib]; rfl
  ·rw [<- Cm (AN (back.drop nv++gone)) st i]
   unfold AS
   rw [G.other i _ h1 h2 hib,BT,hib]; rfl
 have hsr:SR H2 φ2 st2 w':=by
  refine ⟨fun b o hb=>?_,fun i b hi=>?_,fun i j bi bj hi hj li lj hij b hbi hbj=>?_,fun i bi hi li b hb=>?_,fun i cs hi o q hq=>?_,hs.tb.le hle2⟩
  ·by_cases hl:Lent b
   ·rw [lentN b hl] at hb; cases hb
   ·rw [nlent b hl] at hb
    exact hs'.hp b o hb
  ·rcases G.cases i b hi with ⟨k,hk,rfl⟩ | ⟨h1,h2,h3⟩ | ⟨_,rfl⟩
   ·obtain ⟨b',g,_,gb,_⟩:=ofC k est'[k] (by simp)
    rw [hi] at g
    cases g
    rw [show φ2 (Fz back st.length k)=φ' k from φren k]
    exact (gb (calleeBox k _ (by simp))).ren
   ·have hib:st[i]? = some st[i]:=by simp
    have g:=G.other i _ h2 h3 hib
    rw [hi] at g
    cases g
    rw [φoth i h2 h1]
    exact otherBox i _ h2 h3 hib
   ·trivial
  ·-- sep
   have key:∀ k i bi,k<est'.length->st2[ren k]? = some bi->bi.live=true->i<st.length->i∉back->i∉gone->∀ b',st[i]? = some b'->b'.live=true->∀ b,BQ (φ' k) b->¬BQ (φ i) b:=by
    intro k i bi hk hbk hl h1 h2 h3 b' hb' lb' b hb e
    obtain ⟨g1,g2⟩:=aside i b' hb' lb' h2 h3 b e
    obtain ⟨b2,g,gl,_⟩:=ofC k est'[k] (by simp)
    rw [hbk] at g
    cases g
    rcases f.new k est'[k] (by simp) (by rw [Pg,gl] at hl; exact hl) b hb with h | ⟨j,hj,h⟩
    ·omega
    ·exact g2 j hj h
   rcases G.cases i bi hi with ⟨k,hk,rfl⟩ | ⟨h1,h2,h3⟩ | ⟨_,rfl⟩
   ·rw [show φ2 (Fz back st.length k)=φ' k from φren k] at hbi
    rcases G.cases j bj hj with ⟨k',hk',rfl⟩ | ⟨g1,g2,g3⟩ | ⟨_,rfl⟩
    ·rw [show φ2 (Fz back st.length k')=φ' k' from φren k'] at hbj
     obtain ⟨_,e1,l1,_⟩:=ofC k est'[k] (by simp)
     obtain ⟨_,e2,l2,_⟩:=ofC k' est'[k'] (by simp)
     rw [hi] at e1
     rw [hj] at e2
     cases e1
     cases e2
     rw [Pg] at li lj
     rw [l1] at li
     rw [l2] at lj
     exact hs'.sep k k' _ _ (by simp) (by simp) li lj (fun e=>hij (by rw [e])) b hbi hbj
    ·rw [φoth j g2 g1] at hbj
     have hjb:st[j]? = some st[j]:=by simp
     have g:=G.other j _ g2 g3 hjb
     rw [hj] at g
     cases g
     exact key k j bi hk hi li g1 g2 g3 _ hjb (killLive▸lj) b hbi hbj
    ·cases lj
   ·rw [φoth i h2 h1] at hbi
    have hib:st[i]? = some st[i]:=by simp
    have g:=G.other i _ h2 h3 hib
    rw [hi] at g
    cases g
    rcases G.cases j bj hj with ⟨k',hk',rfl⟩ | ⟨g1,g2,g3⟩ | ⟨_,rfl⟩
    ·rw [show φ2 (Fz back st.length k')=φ' k' from φren k'] at hbj
     exact key k' i bj hk' hj lj h1 h2 h3 _ hib (killLive▸li) b hbj hbi
    ·rw [φoth j g2 g1] at hbj
     have hjb:st[j]? = some st[j]:=by simp
     have g:=G.other j _ g2 g3 hjb
     rw [hj] at g
     cases g
     exact hs.sep i j _ _ hib hjb (killLive▸li) (killLive▸lj) hij b hbi hbj
    ·cases lj
   ·cases li
  ·rcases G.cases i bi hi with ⟨k,hk,rfl⟩ | ⟨h1,h2,h3⟩ | ⟨_,rfl⟩
   ·rw [show φ2 (Fz back st.length k)=φ' k from φren k] at hb
    obtain ⟨_,e1,l1,_⟩:=ofC k est'[k] (by simp)
    rw [hi] at e1
    cases e1
    rw [Pg,l1] at li
    by_cases hl:Lent b
    ·exact lentN b hl
    ·rw [nlent b hl]
     exact hs'.out k _ (by simp) li b hb
   ·rw [φoth i h2 h1] at hb
    have hib:st[i]? = some st[i]:=by simp
    have g:=G.other i _ h2 h3 hib
    rw [hi] at g
    cases g
    obtain ⟨g1,g2⟩:=aside i _ hib (killLive▸li) h2 h3 b hb
    rw [H2old b g1 g2]
    exact hs.out i _ hib (killLive▸li) b hb
   ·cases li
  ·rcases G.cases i _ hi with ⟨k,hk,rfl⟩ | ⟨h1,h2,h3⟩ | ⟨_,e⟩
   ·obtain ⟨bk',e1,_,_,lv,_⟩:=ofC k est'[k] (by simp)
    rw [hi] at e1
    have hek:est'[k]? = some est'[k]:=by simp
    generalize est'[k]=bk at e1 hek lv
    cases bk' with
    | var cs0 =>
     simp only [AH.ren,Af,AH.var.injEq] at e1
     subst e1
     have lv:=lv cs0 rfl
     subst lv
     rw [BT] at hq
     cases hc:cs0[o]? with
     | none=>rw [hc] at hq; cases hq
     | some c =>
      rw [hc] at hq
      cases c<;>simp only [Option.map_some,AV.ren,Af] at hq<;>try cases hq
      rename_i q0
      obtain ⟨d1,b0,d2,d3⟩:=hs'.cell k cs0 hek o q0 hc
      have hq0:∃ bq,est'[q0]? = some bq:=⟨est'[q0]'(E1 d1),by simp [E1 d1]⟩
      obtain ⟨bq,hbq⟩:=hq0
      refine ⟨?_,b0,?_,?_⟩
      ·obtain ⟨_,_,_,_,_,kk,_⟩:=ofC q0 bq hbq
       rw [kk]; exact d1
      ·rw [show φ2 (Fz back st.length k)=φ' k from φren k]; exact d2
      ·rw [show φ2 (Fz back st.length q0)=φ' q0 from φren q0]; exact d3
    | _=>cases e1
   ·have hib:st[i]? = some st[i]:=by simp
    have g:=G.other i _ h2 h3 hib
    rw [hi] at g
    have hkl:(st.map (AH.kill (back.drop nv++gone)))[i]? = some (.var cs):=by rw [BT,hib,Option.map_some]; exact g.symm
    have hn:=Ak.1 (Gb hkl hq)
    obtain ⟨d1,b0,d2,d3⟩:=(hs.kill (back.drop nv++gone)).cell i cs hkl o q hq
    rw [De (AN _)] at d1
    have hql:=E1 d1
    have hq2:q∉gone:=fun h=>hn (List.mem_append_right _ h)
    have hsame:hdr (φ2 q)=hdr (φ q)/\AE st2 q=AE st q:=by
     by_cases hq1:q∈back
     ·obtain ⟨k,hk,e⟩:=Gm hq1
      have hkn:k<nv:=by
       rcases BI k nv with h | h
       ·exact h
       ·have:q∈back.drop nv:=by
         rw [<- e]
         exact List.mem_iff_getElem?.2 ⟨k-nv,by rw [Ba,show nv+(k-nv)=k by omega]; simp⟩
        exact absurd (List.mem_append_left _ this) hn
      obtain ⟨c1,c2,_⟩:=hvarB k q hkn (by simp [hk,e])
      exact ⟨c1,c2⟩
     ·obtain ⟨c1,c2,_⟩:=hvarO q hq1 hq2 hql
      exact ⟨by rw [c1],c2⟩
    refine ⟨by rw [hsame.2]; exact d1,b0,by rw [φoth i h2 h1]; exact d2,?_⟩
    rw [hsame.1]
    have hlive:(st[i]).live=true:=by
     have e:st[i].kill (back.drop nv++gone)=.var cs:=(Option.some.inj g).symm
     have:(st[i].kill (back.drop nv++gone)).live=true:=by rw [e]; rfl
     rw [killLive] at this
     exact this
    have:=memo i _ hib hlive h2 h3 b0 (by rw [d2]; rfl)
    simp only [World.cell?] at d3 ⊢
    rw [this]
    exact d3
   ·cases e
 have goneRow:∀ i∈gone,AL st i=false:=by
  intro i hi
  obtain ⟨k,hk,e⟩:=Gm hi
  obtain ⟨_,_,_,v2,_⟩:=hand (back.length+k) i (by rw [BG (by omega)]; simp [hk,e])
  exact v2 (by have:=B.nvb; omega)
 have hkb:BU φ st φ2 st2 (back.drop nv++gone):=by
  refine ⟨fun i hn hd=>?_,fun i hv=>?_⟩
  ·rw [Jo,Bool.or_eq_false_iff] at hn
   have hg:=Ak.1 hn.2
   have hlt2:i<st.length:=by rcases hd with h | h; exact E1 h; exact PO h
   by_cases hb:i∈back
   ·obtain ⟨k,hk,e⟩:=Gm hb
    have hk2:(back++gone)[k]? = some i:=by rw [AZ hk]; simp [hk,e]
    have hkn:k<nv:=by
     rcases BI k nv with h | h
     ·exact h
     ·have:i∈back.drop nv:=by
       rw [<- e]
       exact List.mem_iff_getElem?.2 ⟨k-nv,by rw [Ba,show nv+(k-nv)=k by omega]; simp⟩
      exact absurd this (Ak.1 hn.1)
    obtain ⟨c1,c2,c3,_⟩:=hvarB k i hkn (by simp [hk,e])
    exact ⟨c1,c2,c3⟩
   ·obtain ⟨c1,c2,c3,_⟩:=hvarO i hb hg hlt2
    exact ⟨by rw [c1],c2,c3⟩
  ·have hng:i∉gone:=fun h=>by rw [goneRow i h] at hv; cases hv
   by_cases hb:i∈back
   ·obtain ⟨k,hk,e⟩:=Gm hb
    have hk2:(back++gone)[k]? = some i:=by rw [AZ hk]; simp [hk,e]
    obtain ⟨_,_,_,v2,_⟩:=hand k _ hk2
    have hkn:k<nv:=by
     rcases BI k nv with h | h
     ·exact h
     ·rw [v2 h] at hv; cases hv
    obtain ⟨c1,_,c3,c4⟩:=hvarB k i hkn (by simp [hk,e])
    exact ⟨c1,c4.trans hv,c3⟩
   ·obtain ⟨c1,_,c3,c4⟩:=hvarO i hb hng (GZ hv)
    exact ⟨by rw [c1],c4.trans hv,c3⟩
 refine ⟨H2,φ2,⟨hle2,hsr,fun mv m0 H0 φ0 w0 g=>?_⟩,memo,hkb,fun a v hfl hv=>?_,fun i b h1 h2 hi=>⟨G.other i b h1 h2 hi,φoth i h1 (AT.1 hi).1⟩,fun k i hk hbk=>(hvarB k i hk hbk).1⟩
 ·-- the caller's own frame
  have hh:∀ b,b<w0.heap.size->(∀ j,j<m0->¬BQ (φ0 j) b)->∀ k,k<(back++gone).length->¬BQ (φ ((back++gone).getD k 0)) b:=by
   intro b h1 h2 k hk e
   have hk2:(back++gone)[k]? = some (back++gone)[k]:=by simp
   rw [Dl hk2] at e
   obtain ⟨bx,hb,hl,_⟩:=hand k _ hk2
   rcases g.new _ bx hb hl b e with h | ⟨j,hj,h⟩
   ·omega
   ·exact h2 j hj h
  refine ⟨f.os.trans g.os,f.tape.trans g.tape,f.output.trans g.output,Nat.le_trans g.size f.size,fun b h1 h2=>?_,fun j hj=>?_,fun i bi hi li b hb=>?_,fun j hj=>(hkb.2 j (g.vars j hj)).2.1,fun b h1 h2=>?_⟩
  ·rw [f.old b (Nat.lt_of_lt_of_le h1 g.size) (hh b h1 h2)]
   exact g.old b h1 h2
  ·exact (hkb.2 j (g.vars j hj)).1.trans (g.same j hj)
  ·rcases G.cases i bi hi with ⟨k,hk,rfl⟩ | ⟨h1,h2,h3⟩ | ⟨_,rfl⟩
   ·rw [show φ2 (Fz back st.length k)=φ' k from φren k] at hb
    obtain ⟨_,e1,l1,_⟩:=ofC k est'[k] (by simp)
    rw [hi] at e1
    cases e1
    rw [Pg,l1] at li
    rcases f.new k _ (by simp) li b hb with h | ⟨j,hj,h⟩
    ·exact .inl (Nat.le_trans g.size h)
    ·have hk2:(back++gone)[j]? = some (back++gone)[j]:=by simp
     rw [Dl hk2] at h
     obtain ⟨bx,hbx,hl,_⟩:=hand j _ hk2
     exact g.new _ bx hbx hl b h
   ·rw [φoth i h2 h1] at hb
    have hib:st[i]? = some st[i]:=by simp
    have e:=G.other i _ h2 h3 hib
    rw [hi] at e
    cases e
    exact g.new i _ hib (killLive▸li) b hb
   ·cases li
  ·rw [H2old b (Nat.lt_of_lt_of_le h1 g.size) (hh b h1 h2)]
   exact g.frz b h1 h2
 ·have hv2:VB H2 φ' est' a v:=by
   rcases hfl with h | h
   ·have:H2=H':=by
     funext b
     exact nlent b fun ⟨i,hi,_⟩=>by rw [h] at hi; cases hi
    rw [this]
    exact hv
   ·exact hv.flat h
  have one:∀ a v,VC H2 φ' est' a v->VC H2 φ2 st2 (a.ren ren) v:=by
   intro a v hv
   cases a with
   | row k =>
    obtain ⟨e,hk⟩:=hv
    have hb:est'[k]? = some (est'[k]'(E1 hk)):=by simp
    refine ⟨by rw [φren k]; exact e,?_⟩
    obtain ⟨_,_,_,_,_,kk,_⟩:=ofC k _ hb
    rw [kk]
    exact hk
   | ptr k o =>
    obtain ⟨hk,b0,e1,e2⟩:=hv
    have hb:est'[k]? = some (est'[k]'(PO hk)):=by simp
    refine ⟨?_,b0,by rw [φren k]; exact e1,e2⟩
    obtain ⟨_,_,_,_,_,_,kk⟩:=ofC k _ hb
    rw [kk]
    exact hk
   | eptr k i o =>
    obtain ⟨b0,n,cap,K,hk,h2,e1,e2⟩:=hv
    have hb:est'[k]? = some (est'[k]'(E1 (by simp [hk]))):=by simp
    refine ⟨b0,n,cap,K,?_,h2,by rw [φren k]; exact e1,e2⟩
    obtain ⟨_,_,_,_,_,kk,_⟩:=ofC k _ hb
    rw [kk]
    exact hk
   | irow k i q=>trivial
   | _=>exact hv
  rcases hv2.cases with ⟨cs,arr,rfl,e,h⟩ | h
  ·exact ⟨arr,e,h.map one⟩
  ·have:a.renV ren=a.ren ren:=by cases a<;>first | rfl | exact h.elim
   rw [this]
   exact VB.of_VC (one a v h)
end Go.Proofs.Ytffahmnodgnohaa.Core

namespace Go.Proofs.Ytffahmnodgnohaa.Core
open Go
variable {P:Program}
def Z9 (H:HP) (φ:BF) (st:List AH):List AV->Value->Prop
 | [a],v=>VB H φ st a v
 | rs,v=>∃ arr,v=.tuple arr/\AX (VB H φ st) rs arr.toList
def Sg (P:Program) (f:Nat):Prop:=∃ fn c,P.funcs[f]? = some fn∧(fn.name == "runtime.NumGoroutine")=false∧fn.body=some c
def LZ (H:HP) (φ:BF) (w:World) (args bs outs rs:List AV) (v:Value) (w':World):Prop :=
 ∃ H' φ',H.le H'/\SR H' φ' (BK outs rs) w'/\Fr bs.length (BK bs args).length H φ w H' φ' (BK outs rs) w'/\Z9 H' φ' (BK outs rs) (Bv (C6 outs) rs) v
def UV (w w':World) (b n m:Nat) (v:Value) (T t:TypeId) (flat:List Value):Prop :=
 ∃ w1 w2 v',w.grownBy w1 (some b)/\w1.heap[b]? = some (.cells #[.pointer (some ⟨b,0,none⟩),v] T (0,0))/\w1.grownBy w2 (Dc v)/\w2.ownsRow 0 t 1 v' (n+m) flat /\
  (∀ g,BQ v' g->BQ v g\/w1.heap.size<=g)/\w2.grownBy w' (some b)/\w'.heap[b]? = some (.cells #[.pointer (some ⟨b,0,none⟩),v'] T (0,0))
def Z_ (P:Program) (f k t T:Nat):Prop :=
 Sg P f/\∀ (w:World) (b:Nat) (p v:Value) (xs:List Int),w.heap[b]? = some (.cells #[p,v] T (0,0))->(p=.pointer none\/p=.pointer (some ⟨b,0,none⟩)) ->
  w.ownsRow 0 t 1 v xs.length (xs.map (.int .u8))->¬BQ v b->(∃ H:HP,Uu H/\(∀ q o,H q=some o->w.heap[q]? = some o)/\(∀ q,BQ v q->H q=none)/\H b=none) ->
  (k=0->∀ c,xs.length+1<=68719476736->Calls P f #[.pointer (some ⟨b,0,none⟩),.int .u8 c] w fun e w'=>∃ r,e=.returned r/\UV w w' b xs.length 1 v T t ((xs++[c]).map (.int .u8))) /\
  (k=1->∀ s,xs.length+(KT s).length<=68719476736->Calls P f #[.pointer (some ⟨b,0,none⟩),.string s] w fun e w'=>∃ r,e=.returned r/\UV w w' b xs.length (KT s).length v T t ((xs++KT s).map (.int .u8))) /\
  (k=2->ZN xs=true->Calls P f #[.pointer (some ⟨b,0,none⟩)] w fun e w'=>e=.returned (.string (NC xs))/\w.grownBy w' (Dc v))
def D8 (P:Program) (cal:Cz):Prop :=
 (∀ f k t T:Nat,f<B8->cal (B8+f) [.int .i64 k,.int .i64 t,.int .i64 T] []=some []->Z_ P f k t T) /\
 ∀ f args bs rs,(f<B8\/2*B8<=f)->cal f args bs=some rs->Sg P (f % B8)/\(∀ r∈rs,r.cells.all AV.nilFree=true)/\∃ n,n+bs.length=rs.length /\
  ∀ (H:HP) (φ:BF) (w:World) (cargs:List Value),SR H φ (BK bs args) w->AX (VB H φ (BK bs args)) (Bv (C6 bs) args) cargs ->
   Calls P (f % B8) cargs.toArray w fun out w'=>match out with
    | .returned v=>LZ H φ w args bs (rs.drop n) (rs.take n) v w'
    | _=>False
theorem Xp {H:HP} {K:Kd} {x:K.T} {v:Value} (h:C4 H K x v.cells.toList) (f:G3 K v):VE H (K.av x) v:=by
 cases K with
 | int k=>simp only [G3] at f; simp only [f,C4,List.cons.injEq,and_true] at h; subst h; rfl
 | bool=>simp only [G3] at f; simp only [f,C4,List.cons.injEq,and_true] at h; subst h; rfl
 | str=>simp only [G3] at f; simp only [f,C4,List.cons.injEq,and_true] at h; subst h; rfl
 | slice e =>
  simp only [G3] at f
  obtain ⟨u,e1,h⟩:=h
  simp only [f,List.cons.injEq,and_true] at e1
  subst e1
  exact h
 | pair a b =>
  obtain ⟨arr,e⟩:=f
  subst e
  exact ⟨arr,rfl,Ed.of_rep h⟩
 | own t e=>exact h.elim
 | ref K=>exact h.elim
 | «fun» g=>simp only [G3] at f; simp only [f,C4,List.cons.injEq,and_true] at h; subst h; exact ⟨rfl,rfl⟩
 | clo g K =>
  simp only [G3] at f
  obtain ⟨u,e1,h⟩:=h
  simp only [f,List.cons.injEq,and_true] at e1
  subst e1
  exact h
theorem Qf:∀ (Ks:List Kd) (rs:List AV) (y:RT Ks),Cp Ks rs=some y->rs.length=Ks.length/\(B6 Ks y).length=Ks.length/\AX (fun a b=>∃ K x,Kd.of K a=some x/\b=K.av x) rs (B6 Ks y)
 | [],[],y,_=>⟨rfl,rfl,rfl⟩
 | [],_::_,y,h=>by simp [Cp] at h
 | [K],[],y,h=>by simp [Cp] at h
 | [K],[v],y,h=>⟨rfl,rfl,⟨_,_,rfl,⟨K,y,h,rfl⟩,rfl⟩⟩
 | [K],_::_::_,y,h=>by simp [Cp] at h
 | K::L::Ks,[],y,h=>by simp [Cp] at h
 | K::L::Ks,v::vs,y,h=>by
  simp only [Cp] at h
  cases h1:K.of v with
  | none=>rw [h1] at h; cases h
  | some x =>
   cases h2:Cp (L::Ks) vs with
   | none=>rw [h1,h2] at h; cases h
   | some r =>
    rw [h1,h2] at h
    cases h
    obtain ⟨l1,l2,l3⟩:=Qf (L::Ks) vs r h2
    exact ⟨by simp [l1],by simpa [B6] using l2,⟨_,_,rfl,⟨K,x,h1,rfl⟩,l3⟩⟩
theorem aA {K:Kd} {a:AV} {x:K.T} (h:K.of a=some x) (hn:a.cells.all AV.nilFree=true):a=K.av x:=by
 obtain ⟨hd,hf⟩:=Xd h
 have e:=SF K a.cells [] x hn hd
 rw [List.append_nil] at e
 cases K with
 | pair k l =>
  cases a with
  | agg cs=>simp only [AV.cells] at e; rw [e]; rfl
  | _=>cases hf
 | _ =>
  cases a<;>first | exact (List.cons.inj e).1 | cases hf
theorem Tx:∀ (Ks:List Kd) (rs:List AV) (y:RT Ks),Cp Ks rs=some y->(∀ r∈rs,r.cells.all AV.nilFree=true)->B6 Ks y=rs:=by
 intro Ks rs y h hn
 obtain ⟨_,_,h3⟩:=Qf Ks rs y h
 have key:∀ {aw bs:List AV},AX (fun a b=>∃ K x,Kd.of K a=some x/\b=K.av x) aw bs->(∀ r∈aw,r.cells.all AV.nilFree=true)->bs=aw:=by
  intro aw
  induction aw with
  | nil=>intro bs h _; exact h
  | cons a aw ih =>
   intro bs h hn
   obtain ⟨b,r,rfl,⟨K,x,h1,h2⟩,hr⟩:=h
   rw [ih hr fun r hr=>hn r (by simp [hr]),h2,<- aA h1 (hn a (by simp))]
 exact key h3 hn
theorem Qg:∀ (Ks:List Kd) (y:RT Ks) (j:Nat) (K:Kd),Ks[j]? = some K->∃ x:K.T,(B6 Ks y)[j]? = some (K.av x)
 | [],y,j,K,h=>by simp at h
 | [K0],y,j,K,h=>by
  cases j with
  | zero=>simp at h; subst h; exact ⟨y,rfl⟩
  | succ j=>simp at h
 | K0::L::Ks,y,j,K,h=>by
  cases j with
  | zero=>simp at h; subst h; exact ⟨y.1,rfl⟩
  | succ j =>
   obtain ⟨x,hx⟩:=Qg (L::Ks) y.2 j K (by simpa using h)
   exact ⟨x,by simpa [B6] using hx⟩
theorem WS {ids:List (Nat×Kd)}:∀ {bx:List AV},bx.length=ids.length->(∀ (j:Nat) (v:AV),bx[j]? = some v->∃ p,ids[j]? = some p/\∃ x:Kd.T p.2,v=Kd.av p.2 x) ->
  AG (Ay bx)=(ids.map fun p=>if p.2.isOwn=true then 0 else p.2.news).sum:=by
 induction ids with
 | nil=>intro bx hl _; have:bx=[]:=Dk.1 hl; subst this; rfl
 | cons p ids ih =>
  intro bx hl hk
  cases bx with
  | nil=>simp at hl
  | cons v bx =>
   obtain ⟨q,hq,x,hx⟩:=hk 0 v rfl
   simp at hq
   subst hq
   have:=ih (bx:=bx) (by simpa using hl) fun j v hj=>by simpa using hk (j+1) v (by simpa using hj)
   simp only [Ay,List.flatMap_cons,Ar,List.map_cons,List.sum_cons] at this ⊢
   rw [this,hx]
   by_cases ho:p.2.isOwn=true
   ·obtain ⟨pi,pk⟩:=p
    obtain ⟨t,e,rfl⟩:=Se ho
    rw [if_pos ho,(Sf x).1]
    rfl
   ·rw [if_neg ho,(E7 x (by simpa using ho)).1,LW]
theorem Ty {s s':St} {a a':AV} (h:s.keep a=some (a',s')) {i:Nat} {b:AH} (hi:s'.st[i]? = some b) (hl:b.live=true):s.st[i]? = some b:=by
 cases a with
 | row id =>
  simp only [St.keep] at h
  split at h
  ·rename_i t' K' xs' hb
   split at h
   case isFalse=>cases h
   cases h
   simp only [AU] at hi
   split at hi
   ·split at hi
    ·cases hi; cases hl
    ·cases hi
   ·exact hi
  ·cases h; exact hi
  ·cases h
 | fn f caps=>cases caps<;>first | (cases h; exact hi) | cases h
 | _=>first | (cases h; exact hi) | cases h
theorem WT {s s':St} {a a':AV} (h:s.keep a=some (a',s')):s'.fr=s.fr:=by
 cases a with
 | row id =>
  simp only [St.keep] at h
  split at h
  ·split at h
   ·cases h; rfl
   ·cases h
  ·cases h; rfl
  ·cases h
 | fn f caps=>cases caps<;>first | (cases h; rfl) | cases h
 | _=>first | (cases h; rfl) | cases h
theorem Sh:∀ {aw aw':List AV} {s s':St},s.keepAll aw=some (aw',s')->s'.fr=s.fr
 | [],aw',s,s',h=>by cases h; rfl
 | a::aw,aw',s,s',h=>by
  simp only [St.keepAll] at h
  cases hk:s.keep a with
  | none=>rw [hk] at h; cases h
  | some x =>
   rw [hk] at h
   simp only [Z] at h
   cases hq:x.2.keepAll aw with
   | none=>rw [hq] at h; cases h
   | some y =>
    rw [hq] at h
    cases h
    exact (Sh hq).trans (WT (a':=x.1) hk)
theorem Ph:∀ {aw aw':List AV} {s s':St},s.keepAll aw=some (aw',s')->∀ {i:Nat} {b:AH},s'.st[i]? = some b->b.live=true->s.st[i]? = some b
 | [],aw',s,s',h,i,b,hi,hl=>by cases h; exact hi
 | a::aw,aw',s,s',h,i,b,hi,hl=>by
  simp only [St.keepAll] at h
  cases hk:s.keep a with
  | none=>rw [hk] at h; cases h
  | some x =>
   rw [hk] at h
   simp only [Z] at h
   cases hq:x.2.keepAll aw with
   | none=>rw [hq] at h; cases h
   | some y =>
    rw [hq] at h
    cases h
    exact Ty hk (Ph hq hi hl) hl
def Yp:PK->Value->List Value
 | .cap _ _,.func _ _ caps=>caps.toList
 | .cap _ _,_=>[]
 | .cap0 _,_=>[]
 | _,v=>[v]
def Fe:List (BS×PK)->List Value->List Value
 | x::xs,c::cs=>Yp x.2 c++Fe xs cs
 | _,_=>[]
def PK.isCap:PK->Bool
 | .cap _ _ | .cap0 _=>true
 | _=>false
theorem Vv {p:PK} {c:Value} (h:p.isCap=false):Yp p c=[c]:=by cases p<;>first | rfl | cases h
theorem La:∀ {xs:List (BS×PK)} {cs:List Value},xs.length=cs.length->(xs.all fun x=>!x.2.isCap)=true->Fe xs cs=cs
 | [],[],_,_=>rfl
 | x::xs,c::cs,hl,h=>by
  simp only [List.all_cons,AD,DH] at h
  simp only [Fe,Vv h.1,La (by simpa using hl) h.2]
  rfl
 | [],_::_,h,_=>by simp at h
 | _::_,[],h,_=>by simp at h
theorem N2:∀ {xs ys:List (BS×PK)} {cs ds:List Value},xs.length=cs.length->Fe (xs++ys) (cs++ds)=Fe xs cs++Fe ys ds
 | [],ys,[],ds,_=>by simp [Fe]
 | x::xs,ys,c::cs,ds,h=>by
  simp only [List.cons_append,Fe,N2 (xs:=xs) (cs:=cs) (by simpa using h),CL]
 | [],_,_::_,_,h=>by simp at h
 | _::_,_,[],_,h=>by simp at h
def aV (H:HP) (φ:BF) (st:List AH) (lent:Nat->Prop) (a:AV) (c:Value):Prop :=
 VF H a c\/∃ (i:Nat) (t:TypeId) (K:Kd),∃ xs:List (Kd.T K),lent i/\st[i]? = some (AH.rows t K xs)/\a=.lst K.fz (WB K xs)/\c=hdr (φ i)
def Yq (H:HP) (φ:BF) (st:List AH) (pt:Nat->Option (Nat×Kd)) (a:AV) (c:Value):Prop :=
 VF H a c\/∃ (k:Nat) (p:Nat×Kd),a=.row k/\pt k=some p/\AS st p.1=false/\c=hdr (φ p.1)
def Xq (H:HP) (φ:BF) (st:List AH) (pt:Nat->Option (Nat×Kd)) (a:AV) (c:Value):Prop :=
 (∃ (aw:List AV) (arr:Array Value),a=.agg aw/\c=.agg arr/\AX (Yq H φ st pt) aw arr.toList)\/Yq H φ st pt a c
theorem SG {H:HP} {φ:BF} {st:List AH} {w:World}:∀ {vs:List AV} {y:List AV×List Nat} {us:List Value},SR H φ st w->AX (VC H φ st) vs us->Rb st vs=some y ->
  AX (fun a u=>VF H a u\/∃ (i:Nat) (t:TypeId) (K:Kd),∃ xs:List (Kd.T K),i∈y.2/\st[i]? = some (AH.rows t K xs)/\a=.lst K.fz (WB K xs)/\u=hdr (φ i)) y.1 us
 | [],y,us,hs,hv,h=>by cases h; exact hv
 | v::vs,y,us,hs,⟨u,us',e,hu,hr⟩,h=>by
  subst e
  have plain:(if v.solid=true then (Rb st vs).bind fun r=>some (v::r.1,r.2) else none)=some y->AX (fun a u=>VF H a u\/∃ (i:Nat) (t:TypeId) (K:Kd),∃ xs:List (Kd.T K),i∈y.2/\st[i]? = some (AH.rows t K xs)/\a=.lst K.fz (WB K xs)/\u=hdr (φ i)) y.1 (u::us'):=by
   intro h
   split at h
   ·rename_i hsol
    cases hq:Rb st vs with
    | none=>rw [hq] at h; cases h
    | some q =>
     rw [hq] at h
     cases h
     exact ⟨u,us',rfl,.inl (hu.solid hsol),SG hs hr hq⟩
   ·cases h
  cases v with
  | row id =>
   simp only [Rb] at h
   split at h
   ·rename_i t e xs hb
    cases hq:Rb st vs with
    | none=>rw [hq] at h; cases h
    | some q =>
     rw [hq] at h
     cases h
     refine ⟨u,us',rfl,.inr ⟨id,t,e,xs,by simp,hb,rfl,hu.1⟩,(SG hs hr hq).imp fun a u h=>?_⟩
     rcases h with h | ⟨i,t,K,xs,h1,h2⟩
     ·exact .inl h
     ·exact .inr ⟨i,t,K,xs,by simp [h1],h2⟩
   ·rename_i e xs hb
    cases hq:Rb st vs with
    | none=>rw [hq] at h; cases h
    | some q =>
     rw [hq] at h
     cases h
     refine ⟨u,us',rfl,.inl ?_,SG hs hr hq⟩
     have:=(hs.box id _ hb).1
     rw [<- hu.1] at this
     exact this
   ·cases h
  | _=>exact plain h
theorem SH {H:HP} {φ:BF} {st:List AH}:∀ {ks:List Kd} {vs:List AV} {j:Nat} {y:List AV×List (Nat×Kd)} {us:List Value},AX (VC H φ st) vs us->NP st j ks vs=some y ->
  AX (fun a u=>VF H a u\/∃ (m:Nat) (p:Nat×Kd),a=.row (j+m)/\y.2[m]? = some p/\AS st p.1=false/\(AE st p.1).isSome=true/\u=hdr (φ p.1)) y.1 us
 | [],[],j,y,us,hv,h=>by cases h; exact hv
 | [],_::_,j,y,us,hv,h=>by simp [NP] at h
 | _::_,[],j,y,us,hv,h=>by simp [NP] at h
 | k::ks,v::vs,j,y,us,⟨u,us',e,hu,hr⟩,h=>by
  subst e
  have row:∀ id,v=.row id->AS st id=false->((NP st (j+1) ks vs).bind fun r=>some (AV.row j::r.1,(id,k)::r.2))=some y ->
    AX (fun a u=>VF H a u\/∃ (m:Nat) (p:Nat×Kd),a=.row (j+m)/\y.2[m]? = some p/\AS st p.1=false/\(AE st p.1).isSome=true/\u=hdr (φ p.1)) y.1 (u::us'):=by
   intro id ev hva h'
   subst ev
   cases hq:NP st (j+1) ks vs with
   | none=>rw [hq] at h'; cases h'
   | some q =>
    rw [hq] at h'
    cases h'
    refine ⟨u,us',rfl,.inr ⟨0,(id,k),rfl,rfl,hva,hu.2,hu.1⟩,(SH hr hq).imp fun a u h=>?_⟩
    rcases h with h | ⟨m,p,h1,h2,h3⟩
    ·exact .inl h
    ·exact .inr ⟨m+1,p,by rw [h1]; congr 1; omega,by simpa using h2,h3⟩
  have plain:((v.norm k).bind fun a=>(NP st j ks vs).bind fun r=>some (a::r.1,r.2))=some y ->
    AX (fun a u=>VF H a u\/∃ (m:Nat) (p:Nat×Kd),a=.row (j+m)/\y.2[m]? = some p/\AS st p.1=false/\(AE st p.1).isSome=true/\u=hdr (φ p.1)) y.1 (u::us'):=by
   intro h
   cases hn:v.norm k with
   | none=>rw [hn] at h; cases h
   | some a =>
    rw [hn] at h
    simp only [Z] at h
    cases hq:NP st j ks vs with
    | none=>rw [hq] at h; cases h
    | some q =>
     rw [hq] at h
     cases h
     obtain ⟨n1,n2,n3,n4⟩:=Pe hn
     exact ⟨u,us',rfl,.inl (n4 H u (hu.solid n3)),SH hr hq⟩
  cases v with
  | row id =>
   simp only [NP] at h
   split at h
   ·rename_i t e xs hb
    split at h
    ·exact row id rfl (by simp only [AS,hb]) h
    ·cases h
   ·rename_i t e xs hb
    split at h
    ·exact row id rfl (by simp only [AS,hb]) h
    ·cases h
   ·cases h
  | _=>exact plain h
structure aW (H:HP) (φ:BF) (st:List AH) (cl:List AV) (ids:List Nat) (vs:List Value):Prop where
 len:cl.length=vs.length
 cnt:AG cl=ids.length
 boxes:∀ (m:Nat) (b:AH),(Ae cl)[m]? = some b->∃ (i:Nat) (t:TypeId) (e:Kd),∃ xs:List (Kd.T e),ids[m]? = some i/\st[i]? = some (AH.rows t e xs)/\b=AH.rows t e xs
 cells:∀ (k o:Nat) (a:AV),(Aq k cl)[o]? = some a->∃ u,vs[o]? = some u/\((∃ m i:Nat,a=AV.row (k+m)/\ids[m]? = some i/\u=hdr (φ i))\/VF H a u)
inductive Dj (H:HP) (φ:BF) (st:List AH) (pt:Nat->Option (Nat×Kd)) (lent:Nat->Prop):List AV->List Value->List Nat->Prop
 | nil:Dj H φ st pt lent [] [] []
 | val {a:AV} {c:Value} {aw cs ms}:VE H a c->Dj H φ st pt lent aw cs ms->Dj H φ st pt lent (a::aw) (c::cs) ms
 | bor {i:Nat} {t:TypeId} {K:Kd} {xs:List K.T} {aw cs ms}:lent i->st[i]? = some (.rows t K xs)->Dj H φ st pt lent aw cs ms->Dj H φ st pt lent (.lst K.fz (WB K xs)::aw) (hdr (φ i)::cs) ms
 | mov {i:Nat} {t:TypeId} {K:Kd} {xs:List K.T} {aw cs ms}:st[i]? = some (.rows t K xs)->Dj H φ st pt lent aw cs ms->Dj H φ st pt lent (.new t K xs::aw) (hdr (φ i)::cs) (i::ms)
 | cap {f:Nat} {K:Kd} {z:K.T} {c:Value} {aw cs ms}:Vk H f (C4 H K z) (.func (.func f) #[] #[c])->Dj H φ st pt lent aw cs ms->Dj H φ st pt lent (.fptr (K.enc z) 0::aw) (c::cs) ms
 | borS {K:Kd} {z:K.T} {y:List AV} {arr:Array Value} {aw cs ms}:AX (aV H φ st lent) y arr.toList->K.ofCells y=some z->(K.av z=.agg (K.enc z))->Dj H φ st pt lent aw cs ms->Dj H φ st pt lent (K.av z::aw) (.agg arr::cs) ms
 | movS {cl:List AV} {ids:List Nat} {arr:Array Value} {aw cs ms}:aW H φ st cl ids arr.toList->Dj H φ st pt lent aw cs ms->Dj H φ st pt lent (.agg cl::aw) (.agg arr::cs) (ids++ms)
 | lendw {a:AV} {c:Value} {aw cs ms}:Xq H φ st pt a c->Dj H φ st pt lent aw cs ms->Dj H φ st pt lent (a::aw) (c::cs) ms
 | ptr {k:Nat} {p:Nat×Kd} {b:Nat} {aw cs ms}:pt k=some p->hdr (φ p.1)=.pointer (some ⟨b,0,none⟩)->Dj H φ st pt lent aw cs ms->Dj H φ st pt lent (.ptr k 0::aw) (hdr (φ p.1)::cs) ms
 | ept {id i:Nat} {c:Value} {aw cs ms}:VC H φ st (.eptr id i 0) c->Dj H φ st pt lent aw cs ms->Dj H φ st pt lent (.eptr id i 0::aw) (c::cs) ms
theorem Qh {φ:BF} {w:World}:∀ {ks:List Kd} {vs:List AV} {s s':St} {H:HP},SR H φ s.st w->(∀ v∈vs,∀ i,v=.row i->(AE s.st i).isSome=true)->s.settle ks vs=some s' ->
  ∃ H',AP H φ s.st w H' φ s'.st w/\A_ φ s.st φ s'.st none/\s'.fr=s.fr/\s'.st.length=s.st.length/\(∀ {i:Nat} {b:AH},s'.st[i]? = some b->b.live=true->s.st[i]? = some b)
 | [],[],s,s',H,hs,_,h=>by cases h; exact ⟨H,AP.refl hs,A_.refl _ _ _,rfl,rfl,fun h _=>h⟩
 | [],_::_,s,s',H,hs,_,h=>by simp [St.settle] at h
 | _::_,[],s,s',H,hs,_,h=>by simp [St.settle] at h
 | k::ks,v::vs,s,s',H,hs,hv,h=>by
  have rest:s.settle ks vs=some s'->∃ H',AP H φ s.st w H' φ s'.st w/\A_ φ s.st φ s'.st none/\s'.fr=s.fr/\s'.st.length=s.st.length/\(∀ {i:Nat} {b:AH},s'.st[i]? = some b->b.live=true->s.st[i]? = some b) :=
   fun h=>Qh hs (fun v hm=>hv v (by simp [hm])) h
  have freeze:∀ i,v=.row i->((s.keep (.row i)).bind fun x=>x.2.settle ks vs)=some s'->∃ H',AP H φ s.st w H' φ s'.st w/\A_ φ s.st φ s'.st none/\s'.fr=s.fr/\s'.st.length=s.st.length/\(∀ {i:Nat} {b:AH},s'.st[i]? = some b->b.live=true->s.st[i]? = some b):=by
   intro i ev h
   cases hk:s.keep (.row i) with
   | none=>rw [hk] at h; cases h
   | some x =>
    obtain ⟨a1,s1⟩:=x
    rw [hk] at h
    simp only [Z] at h
    have hki:=hv v (by simp) i ev
    obtain ⟨H1,g1,k1,_,e1,n1⟩:=Ii hs (show VC H φ s.st (.row i) (hdr (φ i)) from ⟨rfl,hki⟩) hk
    obtain ⟨H2,g2,k2,e2,n2,b2⟩:=Qh g1.sr (fun v hm j ej=>by
     have:=hv v (by simp [hm]) j ej
     rw [(k1 j (by simp) (.inl this)).2.1]
     exact this) h
    exact ⟨H2,g1.trans g2,k1.trans k2,e2.trans e1,n2.trans n1,fun h hl=>Ty hk (b2 h hl) hl⟩
  simp only [St.settle] at h
  split at h
  ·split at h
   ·exact rest h
   ·exact freeze _ rfl h
  ·exact rest h
theorem E8 {φ:BF} {w:World} {pt:Nat->Option (Nat×Kd)} {lent:Nat->Prop}:∀ {args:List (BS×PK)} {j:Nat} {q:Uq} {s s':St} {H:HP} {cs:List Value},SR H φ s.st w->AX (fun (x:BS×PK) c=>VA H φ s.st (s.opd x.1) c) args cs ->
  s.args args j=some (q,s')->(∀ k,q.ptrs[k]? = pt (j+k)\/q.ptrs[k]? = none)->(∀ i∈q.bors,lent i)->(∀ i∈q.movs++q.bors,∃ (t:TypeId) (K:Kd),∃ xs:List (Kd.T K),s'.st[i]? = some (AH.rows t K xs)) ->
  ∃ H',AP H φ s.st w H' φ s'.st w/\A_ φ s.st φ s'.st none/\s'.fr=s.fr/\s'.st.length=s.st.length/\Dj H' φ s'.st pt lent q.args (Fe args cs) q.movs /\
   (∀ {i:Nat} {b:AH},s'.st[i]? = some b->b.live=true->s.st[i]? = some b)
 | [],j,q,s,s',H,cs,hs,hc,h,_,_,_=>by
  cases h
  cases hc
  exact ⟨H,AP.refl hs,A_.refl _ _ _,rfl,rfl,.nil,fun h _=>h⟩
 | (x,.val K)::r,j,q,s,s',H,cs,hs,hc,h,hp,hl,hv=>by
  obtain ⟨c,cs,rfl,h1,h2⟩:=hc
  simp only [St.args] at h
  split at h
  ·rename_i hfit
   cases hk:s.keepAll (s.opd x).cells with
   | none=>rw [hk] at h; cases h
   | some y =>
    obtain ⟨a',s1⟩:=y
    rw [hk] at h
    simp only [Z] at h
    obtain ⟨H1,g1,k1,f1,e1,n1⟩:=F5 hs h1 hk
    cases hz:K.ofCells a' with
    | none=>rw [hz] at h; cases h
    | some z =>
     rw [hz] at h
     simp only [Z] at h
     cases hq:s1.args r j with
     | none=>rw [hq] at h; cases h
     | some q' =>
      obtain ⟨q1,s2⟩:=q'
      rw [hq] at h
      cases h
      have ho:∀ x,s1.opd x=s.opd x:=fun x=>by cases x<;>simp [St.opd,e1]
      obtain ⟨H2,g2,k2,e2,n2,h3,b2⟩:=E8 (pt:=pt) (lent:=lent) g1.sr (h2.imp fun x c hx=>by rw [ho]; exact hx.mono g1.le k1) hq hp hl hv
      refine ⟨H2,g1.trans g2,k1.trans k2,e2.trans e1,n2.trans n1,.val ?_ h3,fun h hl=>Ph hk (b2 h hl) hl⟩
      obtain ⟨c1,c2,d1,d2,d3⟩:=Dd K f1 (DI hz)
      cases d3
      rw [List.append_nil] at d1
      refine (Xp (by rw [d1]; exact d2) ?_).mono g2.le
      rcases h1.cases with ⟨ds,arr,ea,ev,_⟩ | ⟨vs,arr,ea,_,_⟩ | hvc
      ·rw [ea] at hfit
       cases K with
       | pair a b=>exact ⟨arr,ev⟩
       | _=>cases hfit
      ·rw [ea] at hk
       simp [AV.cells,St.keepAll,St.keep] at hk
      ·rw [Ko hvc] at hk
       simp only [St.keepAll] at hk
       cases hkk:s.keep (s.opd x) with
       | none=>rw [hkk] at hk; cases hk
       | some y2 =>
        obtain ⟨H3,_,_,f3,_⟩:=Ii hs hvc (show s.keep (s.opd x)=some (y2.1,y2.2) from hkk)
        have hcell:=f3.cells
        cases K with
        | pair a b =>
         have:=d2.length
         rw [<- d1,hcell] at this
         have p1:=Kd.sz_pos a
         have p2:=Kd.sz_pos b
         simp [Kd.sz] at this
         omega
        | _=>exact hcell
  ·cases h
 | (x,.bor K)::r,j,q,s,s',H,cs,hs,hc,h,hp,hl,hv=>by
  obtain ⟨c,cs,rfl,h1,h2⟩:=hc
  simp only at h1
  have plain:∀ v,s.opd x=v->(if v.solid=true then (K.ofCells [v]).bind fun z=>(s.args r j).bind fun q=>some ((⟨K.av z::q.1.args,q.1.ptrs,q.1.movs,q.1.bors⟩:Uq),q.2) else none)=some (q,s') ->
    ∃ H',AP H φ s.st w H' φ s'.st w/\A_ φ s.st φ s'.st none/\s'.fr=s.fr/\s'.st.length=s.st.length/\Dj H' φ s'.st pt lent q.args (c::Fe r cs) q.movs /\
     (∀ {i:Nat} {b:AH},s'.st[i]? = some b->b.live=true->s.st[i]? = some b):=by
   intro v ev h
   split at h
   ·rename_i hsol
    cases hz:K.ofCells [v] with
    | none=>rw [hz] at h; cases h
    | some z =>
     rw [hz] at h
     simp only [Z] at h
     cases hq:s.args r j with
     | none=>rw [hq] at h; cases h
     | some q' =>
      obtain ⟨q1,s2⟩:=q'
      rw [hq] at h
      cases h
      obtain ⟨H2,g2,k2,e2,n2,h3,b2⟩:=E8 (pt:=pt) (lent:=lent) hs h2 hq hp hl hv
      rw [ev] at h1
      refine ⟨H2,g2,k2,e2,n2,.val ?_ h3,b2⟩
      have hf:VF H v c:=by
       rcases h1.cases with ⟨ds,arr,ea,_,_⟩ | ⟨vs,arr,ea,_,_⟩ | hvc
       ·rw [ea] at hsol; cases hsol
       ·rw [ea] at hsol; cases hsol
       ·exact hvc.solid hsol
      obtain ⟨c1,c2,d1,d2,d3⟩:=Dd K (aw:=[v]) (vs:=[c]) ⟨c,[],rfl,hf,rfl⟩ (DI hz)
      cases d3
      rw [List.append_nil] at d1
      subst d1
      have hc2:=d2.vcells
      refine (Xp (by rw [hc2]; exact d2) ?_).mono g2.le
      cases K with
      | pair a b =>
       have:=d2.length
       have p1:=Kd.sz_pos a
       have p2:=Kd.sz_pos b
       simp [Kd.sz] at this
       omega
      | _=>exact hc2
   ·cases h
  simp only [St.args] at h
  cases hx:s.opd x with
  | row id =>
   rw [hx] at h h1
   obtain ⟨ec,_⟩:=h1
   subst ec
   simp only at h
   split at h
   ·rename_i t e xs hb
    split at h
    ·rename_i hK
     cases hq:s.args r j with
     | none=>rw [hq] at h; cases h
     | some q' =>
      obtain ⟨q1,s2⟩:=q'
      rw [hq] at h
      cases h
      obtain ⟨H2,g2,k2,e2,n2,h3,b2⟩:=E8 (pt:=pt) (lent:=lent) hs h2 hq hp (fun i hi=>hl i (by simp [hi])) (fun i hi=>hv i (by
       rcases Am.1 hi with h | h
       ·exact List.mem_append_left _ h
       ·exact List.mem_append_right _ (by simp [h])))
      obtain ⟨t',K',xs',hlive⟩:=hv id (by simp)
      have heq:=b2 hlive rfl
      rw [hb] at heq
      cases heq
      exact ⟨H2,g2,k2,e2,n2,.bor (hl id (by simp)) hlive h3,b2⟩
    ·cases h
   ·rename_i e xs hb
    split at h
    ·rename_i hK
     cases hq:s.args r j with
     | none=>rw [hq] at h; cases h
     | some q' =>
      obtain ⟨q1,s2⟩:=q'
      rw [hq] at h
      cases h
      obtain ⟨H2,g2,k2,e2,n2,h3,b2⟩:=E8 (pt:=pt) (lent:=lent) hs h2 hq hp hl hv
      exact ⟨H2,g2,k2,e2,n2,.val (VE.mono g2.le (a:=.lst e xs) (hs.box id _ hb).1) h3,b2⟩
    ·cases h
   ·cases h
  | agg ds =>
   rw [hx] at h h1
   simp only at h
   split at h
   case isFalse=>cases h
   rename_i hfit
   cases hy:Rb s.st ds with
   | none=>rw [hy] at h; cases h
   | some y =>
    rw [hy] at h
    simp only [Z] at h
    cases hz:K.ofCells y.1 with
    | none=>rw [hz] at h; cases h
    | some z =>
     rw [hz] at h
     simp only [Z] at h
     cases hq:s.args r j with
     | none=>rw [hq] at h; cases h
     | some q' =>
      obtain ⟨q1,s2⟩:=q'
      rw [hq] at h
      cases h
      obtain ⟨H2,g2,k2,e2,n2,h3,b2⟩:=E8 (pt:=pt) (lent:=lent) hs h2 hq hp (fun i hi=>hl i (by simp [hi])) (fun i hi=>hv i (by
       rcases Am.1 hi with h | h
       ·exact List.mem_append_left _ h
       ·exact List.mem_append_right _ (by simp [h])))
      obtain ⟨arr,ec,hd⟩:=h1
      subst ec
      refine ⟨H2,g2,k2,e2,n2,.borS (y:=y.1) ((SG hs hd hy).imp fun a u h=>?_) hz ?_ h3,b2⟩
      ·rcases h with h | ⟨i,t,e,xs,h1,h2,h4,h5⟩
       ·exact .inl (h.mono g2.le)
       ·obtain ⟨t',K',xs',hlive⟩:=hv i (by simp [h1])
        have heq:=b2 hlive rfl
        rw [h2] at heq
        cases heq
        exact .inr ⟨i,t,e,xs,hl i (by simp [h1]),hlive,h4,h5⟩
      ·cases K with
       | pair a b=>rfl
       | _=>cases hfit
  | _=>exact plain _ hx (by rw [hx] at h; exact h)
 | (x,.mov K)::r,j,q,s,s',H,cs,hs,hc,h,hp,hl,hv=>by
  obtain ⟨c,cs,rfl,h1,h2⟩:=hc
  simp only [St.args] at h
  split at h
  ·rename_i id hx
   split at h
   ·rename_i t e xs hb
    split at h
    ·cases hq:s.args r j with
     | none=>rw [hq] at h; cases h
     | some q' =>
      obtain ⟨q1,s2⟩:=q'
      rw [hq] at h
      cases h
      simp only at h1
      rw [hx] at h1
      obtain ⟨ec,_⟩:=h1
      subst ec
      obtain ⟨H2,g2,k2,e2,n2,h3,b2⟩:=E8 (pt:=pt) (lent:=lent) hs h2 hq hp hl (fun i hi=>hv i (by
       rcases Am.1 hi with h | h
       ·exact List.mem_append_left _ (by simp [h])
       ·exact List.mem_append_right _ h))
      obtain ⟨t',K',xs',hlive⟩:=hv id (by simp)
      have heq:=b2 hlive rfl
      rw [hb] at heq
      cases heq
      exact ⟨H2,g2,k2,e2,n2,.mov hlive h3,b2⟩
    ·cases h
   ·cases h
  ·cases h
 | (x,.movS K)::r,j,q,s,s',H,cs,hs,hc,h,hp,hl,hv=>by
  obtain ⟨c,cs,rfl,h1,h2⟩:=hc
  simp only [St.args] at h
  split at h
  ·rename_i ds hx
   cases hy:FI s.st K.leaves ds with
   | none=>rw [hy] at h; cases h
   | some y =>
    rw [hy] at h
    simp only [Z] at h
    cases hq:s.args r j with
    | none=>rw [hq] at h; cases h
    | some q' =>
     obtain ⟨q1,s2⟩:=q'
     rw [hq] at h
     cases h
     simp only at h1
     rw [hx] at h1
     obtain ⟨arr,ec,hd⟩:=h1
     subst ec
     obtain ⟨H2,g2,k2,e2,n2,h3,b2⟩:=E8 (pt:=pt) (lent:=lent) hs h2 hq hp hl (fun i hi=>hv i (by
      rcases Am.1 hi with h | h
      ·exact List.mem_append_left _ (by simp [h])
      ·exact List.mem_append_right _ h))
     have F:=Kq hy
     refine ⟨H2,g2,k2,e2,n2,.movS ⟨F.len.trans hd.length.symm,F.cnt,fun m b hb=>?_,fun k o a ha=>?_⟩ h3,b2⟩
     ·obtain ⟨i,t,e,xs,i1,i2,i3⟩:=F.boxes m b hb
      obtain ⟨t',K',xs',hlive⟩:=hv i (List.mem_append_left _ (List.mem_append_left _ (List.mem_of_getElem? i1)))
      have heq:=b2 hlive rfl
      rw [i2] at heq
      cases heq
      exact ⟨i,_,_,_,i1,hlive,i3⟩
     ·obtain ⟨c,c1,c2⟩:=F.cells k o a ha
      obtain ⟨u,u1,u2⟩:=hd.get o c c1
      refine ⟨u,u1,?_⟩
      rcases c2 with ⟨m,i,e1,e2,e3⟩ | ⟨e1,e2,e3⟩ | ⟨i,e,xs,e1,e2,e3⟩
      ·subst e3
       exact .inl ⟨m,i,e1,e2,u2.1⟩
      ·exact .inr ((e3 _ _ (u2.solid e2)).mono g2.le)
      ·subst e2
       subst e1
       obtain ⟨eu,_⟩:=u2
       subst eu
       exact .inr (VF.mono g2.le (a:=.lst e xs) (hs.box i _ e3).1)
  ·cases h
 | (x,.ept)::r,j,q,s,s',H,cs,hs,hc,h,hp,hl,hv=>by
  obtain ⟨c,cs,rfl,h1,h2⟩:=hc
  simp only [St.args] at h
  split at h
  ·rename_i id i hx
   cases hq:s.args r j with
   | none=>rw [hq] at h; cases h
   | some q' =>
    obtain ⟨q1,s2⟩:=q'
    rw [hq] at h
    cases h
    obtain ⟨H2,g2,k2,e2,n2,h3,b2⟩:=E8 (pt:=pt) (lent:=lent) hs h2 hq hp hl hv
    simp only at h1
    rw [hx] at h1
    exact ⟨H2,g2,k2,e2,n2,.ept (VC.mono g2.le k2 (a:=.eptr id i 0) h1) h3,b2⟩
  ·cases h
 | (x,.ptr K)::r,j,q,s,s',H,cs,hs,hc,h,hp,hl,hv=>by
  obtain ⟨c,cs,rfl,h1,h2⟩:=hc
  simp only [St.args] at h
  split at h
  ·rename_i id hx
   split at h
   ·rename_i bcs hbx
    cases hst:s.settle K.leaves bcs with
    | none=>rw [hst] at h; cases h
    | some s1 =>
    rw [hst] at h
    simp only [Z] at h
    obtain ⟨H1,g1,k1,e1,n1,b1'⟩:=Qh hs (fun v hv i ev=>by subst ev; obtain ⟨o,ho⟩:=List.mem_iff_getElem?.1 hv; exact (hs.cell id bcs hbx o i ho).1) hst
    have ho:∀ x,s1.opd x=s.opd x:=fun x=>by cases x<;>simp [St.opd,e1]
    cases hq:s1.args r (j+1) with
    | none=>rw [hq] at h; cases h
    | some q' =>
     obtain ⟨q1,s2⟩:=q'
     rw [hq] at h
     cases h
     obtain ⟨H2,g2,k2,e2,n2,h3,b2⟩:=E8 (pt:=pt) (lent:=lent) g1.sr (h2.imp fun x c hx=>by rw [ho]; exact hx.mono g1.le k1) hq (fun k=>by
      have:=hp (k+1)
      simp only [List.getElem?_cons_succ] at this
      rw [show j+1+k=j+(k+1) by omega]
      exact this) hl hv
     simp only at h1
     rw [hx] at h1
     obtain ⟨_,b,b1,b3⟩:=h1
     have e:c=hdr (φ id):=b3.trans b1.symm
     subst e
     refine ⟨H2,g1.trans g2,k1.trans k2,e2.trans e1,n2.trans n1,Dj.ptr (p:=(id,K)) (b:=b) ?_ b1 h3,fun h hl=>b1' (b2 h hl) hl⟩
     rcases hp 0 with h | h
     ·simpa using h.symm
     ·simp at h
   ·cases h
  ·cases h
 | (x,.mut K)::r,j,q,s,s',H,cs,hs,hc,h,hp,hl,hv=>by
  obtain ⟨c,cs,rfl,h1,h2⟩:=hc
  simp only [St.args] at h
  cases hy:NP s.st j K.leaves (s.opd x).cells with
  | none=>rw [hy] at h; cases h
  | some y =>
   rw [hy] at h
   simp only [Z] at h
   cases hq:s.args r (j+y.2.length) with
   | none=>rw [hq] at h; cases h
   | some q' =>
    obtain ⟨q1,s2⟩:=q'
    rw [hq] at h
    cases h
    obtain ⟨H2,g2,k2,e2,n2,h3,b2⟩:=E8 (pt:=pt) (lent:=lent) hs h2 hq (fun k=>by
     have:=hp (y.2.length+k)
     rw [BG (by omega),Nat.add_sub_cancel_left,<- Nat.add_assoc] at this
     exact this) hl hv
    have pts:∀ (m:Nat) (p:Nat×Kd),y.2[m]? = some p->pt (j+m)=some p:=by
     intro m p hm
     have hlm:=(AT.1 hm).1
     rcases hp m with h | h
     ·rw [<- h,AZ hlm]; exact hm
     ·rw [AZ hlm,hm] at h; cases h
    have one:∀ a u,(VF H a u\/∃ (m:Nat) (p:Nat×Kd),a=.row (j+m)/\y.2[m]? = some p/\AS s.st p.1=false/\(AE s.st p.1).isSome=true/\u=hdr (φ p.1))->Yq H2 φ s2.st pt a u:=by
     intro a u h
     rcases h with h | ⟨m,p,h1,h2,h3,h4,h5⟩
     ·exact .inl (h.mono g2.le)
     ·exact .inr ⟨j+m,p,h1,pts m p h2,((k2 p.1 (by simp) (.inl h4)).2.2.1).trans h3,h5⟩
    refine ⟨H2,g2,k2,e2,n2,Dj.lendw ?_ h3,b2⟩
    simp only at h1
    rcases h1.cases with ⟨ds,arr,ea,ev,hd⟩ | ⟨vs,arr,ea,_,_⟩ | hvc
    ·rw [ea] at hy ⊢
     subst ev
     exact .inl ⟨y.1,arr,rfl,rfl,(SH hd hy).imp one⟩
    ·rw [ea] at hy
     exfalso
     simp only [AV.cells] at hy
     cases hks:K.leaves with
     | nil=>rw [hks] at hy; simp [NP] at hy
     | cons k ks =>
      rw [hks] at hy
      simp [NP,AV.norm,AV.solid] at hy
    ·have hcell:(s.opd x).cells=[s.opd x]:=Ko hvc
     rw [hcell] at hy
     have:=SH (show AX (VC H φ s.st) [s.opd x] [c] from ⟨c,[],rfl,hvc,rfl⟩) hy
     have hlk:∀ z,(s.opd x).like z=z.headD .undef:=fun z=>by
      generalize s.opd x=v at hvc
      cases v<;>first | rfl | exact hvc.elim
     rw [hlk]
     cases hy1:y.1 with
     | nil=>rw [hy1] at this; cases this
     | cons a aw =>
      rw [hy1] at this
      obtain ⟨u,us,e,h1',_⟩:=this
      cases e
      exact .inr (one a c h1')
 | (x,.cap f K)::r,j,q,s,s',H,cs,hs,hc,h,hp,hl,hv=>by
  obtain ⟨c,cs,rfl,h1,h2⟩:=hc
  simp only [St.args] at h
  split at h
  ·rename_i f' K' z hx
   split at h
   ·rename_i ef
    split at h
    ·rename_i ek
     subst ef ek
     cases hq:s.args r j with
     | none=>rw [hq] at h; cases h
     | some q' =>
      obtain ⟨q1,s2⟩:=q'
      rw [hq] at h
      cases h
      obtain ⟨H2,g2,k2,e2,n2,h3,b2⟩:=E8 (pt:=pt) (lent:=lent) hs h2 hq hp hl hv
      simp only at h1
      rw [hx] at h1
      have h1:Vk H f' (C4 H K' z) c:=h1
      have h1':=QT g2.le (fun _ h=>C4.mono g2.le h) h1
      obtain ⟨b,o,c',el,fz,e,rest⟩:=h1'
      subst e
      exact ⟨H2,g2,k2,e2,n2,Dj.cap (f:=f') ⟨b,o,c',el,fz,rfl,rest⟩ h3,b2⟩
    ·cases h
   ·cases h
  ·cases h
 | (x,.cap0 f)::r,j,q,s,s',H,cs,hs,hc,h,hp,hl,hv=>by
  obtain ⟨c,cs,rfl,h1,h2⟩:=hc
  simp only [St.args] at h
  split at h
  ·split at h
   ·exact E8 (args:=r) (pt:=pt) (lent:=lent) hs h2 h hp hl hv
   ·cases h
  ·cases h
theorem NK:∀ {ks:List Kd} {vs:List AV} {s s':St},s.settle ks vs=some s'->s'.fr=s.fr
 | [],[],s,s',h=>by cases h; rfl
 | [],_::_,s,s',h=>by simp [St.settle] at h
 | _::_,[],s,s',h=>by simp [St.settle] at h
 | k::ks,v::vs,s,s',h=>by
  simp only [St.settle] at h
  split at h
  ·split at h
   ·exact NK h
   ·rename_i i _ _
    cases hk:s.keep (.row i) with
    | none=>rw [hk] at h; cases h
    | some x =>
     rw [hk] at h
     simp only [Z] at h
     exact (NK h).trans (WT (a':=x.1) hk)
  ·exact NK h
theorem EP:∀ {l:List (BS×PK)} {x:BS} {p:PK} {s:St} {j:Nat} {r:Uq×St},s.args (l++[(x,p)]) j=some r->∃ (j':Nat) (s':St) (r':Uq×St),s'.fr=s.fr/\s'.args [(x,p)] j'=some r'
 | [],x,p,s,j,r,h=>⟨j,s,r,rfl,h⟩
 | (y,.val K)::l,x,p,s,j,r,h=>by
  simp only [List.cons_append,St.args] at h
  split at h
  ·cases hk:s.keepAll (s.opd y).cells with
   | none=>rw [hk] at h; cases h
   | some a =>
    rw [hk] at h
    simp only [Z] at h
    cases hz:K.ofCells a.1 with
    | none=>rw [hz] at h; cases h
    | some z =>
     rw [hz] at h
     simp only [Z] at h
     cases hq:a.2.args (l++[(x,p)]) j with
     | none=>rw [hq] at h; cases h
     | some q =>
      obtain ⟨j',s',r',e,h'⟩:=EP hq
      exact ⟨j',s',r',e.trans (Sh hk),h'⟩
  ·cases h
 | (y,.bor K)::l,x,p,s,j,r,h=>by
  have go:∀ {ρ:Type} {g:Uq×St->Option ρ} {r:ρ},(s.args (l++[(x,p)]) j).bind g=some r->∃ (j':Nat) (s':St) (r':Uq×St),s'.fr=s.fr/\s'.args [(x,p)] j'=some r':=by
   intro ρ g r h
   cases hq:s.args (l++[(x,p)]) j with
   | none=>rw [hq] at h; cases h
   | some q=>exact EP hq
  simp only [List.cons_append,St.args] at h
  split at h
  ·split at h
   ·split at h
    ·exact go h
    ·cases h
   ·split at h
    ·exact go h
    ·cases h
   ·cases h
  ·split at h
   ·rename_i cs' _ _
    cases hy:Rb s.st cs' with
    | none=>rw [hy] at h; cases h
    | some y' =>
     rw [hy] at h
     simp only [Z] at h
     cases hz:K.ofCells y'.1 with
     | none=>rw [hz] at h; cases h
     | some z =>
      rw [hz] at h
      exact go h
   ·cases h
  ·split at h
   ·cases hz:K.ofCells [s.opd y] with
    | none=>rw [hz] at h; cases h
    | some z =>
     rw [hz] at h
     exact go h
   ·cases h
 | (y,.mov K)::l,x,p,s,j,r,h=>by
  simp only [List.cons_append,St.args] at h
  split at h
  ·split at h
   ·split at h
    ·cases hq:s.args (l++[(x,p)]) j with
     | none=>rw [hq] at h; cases h
     | some q=>exact EP hq
    ·cases h
   ·cases h
  ·cases h
 | (y,.movS K)::l,x,p,s,j,r,h=>by
  simp only [List.cons_append,St.args] at h
  split at h
  ·rename_i ds _
   cases hy:FI s.st K.leaves ds with
   | none=>rw [hy] at h; cases h
   | some y' =>
    rw [hy] at h
    simp only [Z] at h
    cases hq:s.args (l++[(x,p)]) j with
    | none=>rw [hq] at h; cases h
    | some q=>exact EP hq
  ·cases h
 | (y,.ept)::l,x,p,s,j,r,h=>by
  simp only [List.cons_append,St.args] at h
  split at h
  ·cases hq:s.args (l++[(x,p)]) j with
   | none=>rw [hq] at h; cases h
   | some q=>exact EP hq
  ·cases h
 | (y,.ptr K)::l,x,p,s,j,r,h=>by
  simp only [List.cons_append,St.args] at h
  split at h
  ·split at h
   ·rename_i bcs _
    cases hst:s.settle K.leaves bcs with
    | none=>rw [hst] at h; cases h
    | some s1 =>
     rw [hst] at h
     simp only [Z] at h
     cases hq:s1.args (l++[(x,p)]) (j+1) with
     | none=>rw [hq] at h; cases h
     | some q =>
      obtain ⟨j',s',r',e,h'⟩:=EP hq
      exact ⟨j',s',r',e.trans (NK hst),h'⟩
   ·cases h
  ·cases h
 | (y,.mut K)::l,x,p,s,j,r,h=>by
  simp only [List.cons_append,St.args] at h
  cases hy:NP s.st j K.leaves (s.opd y).cells with
  | none=>rw [hy] at h; cases h
  | some y' =>
   rw [hy] at h
   simp only [Z] at h
   cases hq:s.args (l++[(x,p)]) (j+y'.2.length) with
   | none=>rw [hq] at h; cases h
   | some q=>exact EP hq
 | (y,.cap f K)::l,x,p,s,j,r,h=>by
  simp only [List.cons_append,St.args] at h
  split at h
  ·split at h
   ·split at h
    ·cases hq:s.args (l++[(x,p)]) j with
     | none=>rw [hq] at h; cases h
     | some q=>exact EP hq
    ·cases h
   ·cases h
  ·cases h
 | (y,.cap0 f)::l,x,p,s,j,r,h=>by
  simp only [List.cons_append,St.args] at h
  split at h
  ·split at h
   ·exact EP h
   ·cases h
  ·cases h
theorem VE.opens {H:HP} {a:AV} {v:Value} (h:VE H a v) (k:Nat):PH k a=a/\AG a.cells=0/\Ae a.cells=[]:=by
 have sol:∀ {cs:List AV} {vs:List Value},Ed H cs vs->∀ k,Aq k cs=cs/\AG cs=0/\Ae cs=[]:=by
  intro cs
  induction cs with
  | nil=>intro vs _ k; exact ⟨rfl,rfl,rfl⟩
  | cons c cs ih =>
   intro vs h k
   obtain ⟨v,r,rfl,h1,h2⟩:=h
   obtain ⟨o1,o2,o3⟩:=ST (k:=k) (r:=cs) h1
   obtain ⟨i1,i2,i3⟩:=ih h2 k
   exact ⟨by rw [o1,i1],by rw [o3]; exact i2,by rw [o2]; exact i3⟩
 rcases h.cases with ⟨cs,arr,rfl,_,hc⟩ | h
 ·obtain ⟨s1,s2,s3⟩:=sol hc k
  exact ⟨by simp only [PH,s1],s2,s3⟩
 ·have e:a.cells=[a]:=by cases a<;>first | rfl | exact h.elim
  obtain ⟨s1,s2,s3⟩:=sol (cs:=[a]) (vs:=[v]) ⟨v,[],rfl,h,rfl⟩ k
  refine ⟨?_,by rw [e]; exact s2,by rw [e]; exact s3⟩
  have:PH k a=(Aq k [a]).headD .undef:=by cases a<;>first | rfl | exact h.elim
  rw [this,s1]
  rfl
theorem Yr:∀ (K:Kd) (cs r:List AV) (x:K.T),(cs.all fun a=>!a.isNew)=true->K.dec cs=some (x,r)->((K.enc x).all fun a=>!a.isNew)=true/\(r.all fun a=>!a.isNew)=true:=by
 intro K
 induction K with
 | pair a b iha ihb =>
  intro cs r x hn h
  simp only [Kd.dec] at h
  cases h1:a.dec cs with
  | none=>simp [h1] at h
  | some p =>
   simp only [h1,Z] at h
   cases h2:b.dec p.2 with
   | none=>simp [h2] at h
   | some q =>
    simp only [h2,Z,Af,Prod.mk.injEq] at h
    obtain ⟨rfl,rfl⟩:=h
    obtain ⟨e1,e2⟩:=iha cs p.2 p.1 hn h1
    obtain ⟨e3,e4⟩:=ihb p.2 q.2 q.1 e2 h2
    exact ⟨by simp only [Kd.enc,List.all_append,e1,e3,Bool.and_self],e4⟩
 | own t e _ =>
  intro cs r x hn h
  cases cs with
  | nil=>simp [Kd.dec] at h
  | cons a cs=>cases a<;>first | (simp [AV.isNew] at hn; done) | (simp [Kd.dec] at h; done)
 | ref K _ =>
  intro cs r x hn h
  cases cs with
  | nil=>simp [Kd.dec] at h
  | cons a cs=>cases a<;>first | (simp [AV.isNew] at hn; done) | (simp [Kd.dec] at h; done)
 | _ =>
  intro cs r x hn h
  cases cs with
  | nil=>simp [Kd.dec] at h
  | cons a cs =>
   simp only [List.all_cons,AD] at hn
   refine ⟨rfl,?_⟩
   have e:r=cs:=by
    cases a<;>first | (simp [Kd.dec] at h; done) | (simp [Kd.dec] at h; obtain ⟨_,_,rfl⟩:=h; rfl) | (simp [Kd.dec] at h; obtain ⟨_,rfl⟩:=h; rfl) | (simp only [Kd.dec] at h; split at h<;>first | (cases h; done) | (cases h; rfl) | (split at h<;>first | (cases h; done) | (cases h; rfl))) | (rename_i l; cases l<;>first | (simp [Kd.dec] at h; done) | (simp only [Kd.dec] at h; split at h<;>first | (cases h; done) | (cases h; rfl)))
   rw [e]
   exact hn.2
theorem U8 {K:Kd} {cs:List AV} {z:K.T} (h:K.ofCells cs=some z) (hn:(cs.all fun a=>!a.isNew)=true):((K.enc z).all fun a=>!a.isNew)=true:=(Yr K cs [] z hn (DI h)).1
theorem Xr:∀ {cs:List AV},(cs.all fun a=>!a.isNew)=true->AG cs=0/\∀ k,Aq k cs=cs/\Ae cs=[]
 | [],_=>⟨rfl,fun _=>⟨rfl,rfl⟩⟩
 | a::cs,h=>by
  simp only [List.all_cons,AD,DH] at h
  obtain ⟨h1,h2⟩:=Xr h.2
  have ha:=h.1
  refine ⟨by simp [AG,ha,h1],fun k=>?_⟩
  obtain ⟨o1,o2⟩:=h2 k
  cases a<;>first | (cases ha; done) | exact ⟨by simp only [Aq,o1],by simp only [Ae,o2]⟩
theorem Xq.opens {H:HP} {φ:BF} {st:List AH} {pt:Nat->Option (Nat×Kd)} {a:AV} {c:Value} (h:Xq H φ st pt a c) (k:Nat):PH k a=a/\AG a.cells=0/\Ae a.cells=[]:=by
 rcases h with ⟨aw,arr,rfl,_,hc⟩ | h | ⟨k',p,rfl,_⟩
 ·have hs:(aw.all fun a=>!a.isNew)=true:=by
   refine Ax.2 fun a ha=>?_
   obtain ⟨j,hj⟩:=List.mem_iff_getElem?.1 ha
   obtain ⟨u,_,h | ⟨_,_,h,_⟩⟩:=hc.get j a hj
   ·cases a<;>first | rfl | exact h.elim
   ·rw [h]; rfl
  obtain ⟨h1,h2⟩:=Xr hs
  exact ⟨by simp only [PH,(h2 k).1],h1,(h2 k).2⟩
 ·exact (VE.of_VF h).opens k
 ·exact ⟨rfl,rfl,rfl⟩
theorem Dj.news {H:HP} {φ:BF} {st:List AH} {pt:Nat->Option (Nat×Kd)} {lent:Nat->Prop} {aw:List AV} {cs:List Value} {ms:List Nat} (h:Dj H φ st pt lent aw cs ms) :
  AG (cellsOf aw)=ms.length/\∀ (m:Nat) (b:AH),(Ae (cellsOf aw))[m]? = some b->∃ (i:Nat) (t:TypeId) (e:Kd),∃ xs:List (Kd.T e),ms[m]? = some i/\st[i]? = some (AH.rows t e xs)/\b=AH.rows t e xs:=by
 have skip:∀ {a:AV} {aw:List AV} {ms:List Nat},AG a.cells=0->Ae a.cells=[]->(AG (cellsOf aw)=ms.length/\∀ (m:Nat) (b:AH),(Ae (cellsOf aw))[m]? = some b->∃ (i:Nat) (t:TypeId) (e:Kd),∃ xs:List (Kd.T e),ms[m]? = some i/\st[i]? = some (AH.rows t e xs)/\b=AH.rows t e xs) ->
   (AG (cellsOf (a::aw))=ms.length/\∀ (m:Nat) (b:AH),(Ae (cellsOf (a::aw)))[m]? = some b->∃ (i:Nat) (t:TypeId) (e:Kd),∃ xs:List (Kd.T e),ms[m]? = some i/\st[i]? = some (AH.rows t e xs)/\b=AH.rows t e xs):=by
  intro a aw ms h1 h2 h3
  have e:cellsOf (a::aw)=a.cells++cellsOf aw:=rfl
  rw [e,Ar,h1,BD,h2,Nat.zero_add,List.nil_append]
  exact h3
 induction h with
 | nil=>exact ⟨rfl,fun m b h=>by simp [cellsOf,Ae] at h⟩
 | val hv _ ih=>obtain ⟨_,h1,h2⟩:=hv.opens 0; exact skip h1 h2 ih
 | bor _ _ _ ih=>exact skip rfl rfl ih
 | cap _ _ ih=>exact skip rfl rfl ih
 | borS hb hz he _ ih =>
  rename_i K z y arr aw cs ms _
  have hs:(y.all fun a=>!a.isNew)=true:=by
   refine Ax.2 fun a ha=>?_
   obtain ⟨j,hj⟩:=List.mem_iff_getElem?.1 ha
   obtain ⟨u,_,h | ⟨_,_,_,_,_,_,h,_⟩⟩:=hb.get j a hj
   ·cases a<;>first | rfl | exact h.elim
   ·rw [h]; rfl
  have hn:=Xr (U8 hz hs)
  exact skip (by rw [MS]; exact hn.1) (by rw [MS]; exact (hn.2 0).2) ih
 | lendw hm _ ih =>
  obtain ⟨_,h1,h2⟩:=hm.opens 0
  exact skip h1 h2 ih
 | ptr _ _ _ ih=>exact skip rfl rfl ih
 | ept _ _ ih=>exact skip rfl rfl ih
 | movS hm _ ih =>
  rename_i cl ids arr aw cs ms _
  have e:cellsOf (AV.agg cl::aw)=cl++cellsOf aw:=rfl
  rw [e,Ar,BD]
  refine ⟨by rw [hm.cnt,ih.1,List.length_append],fun m b hb=>?_⟩
  rcases BI m (Ae cl).length with h | h
  ·rw [AZ h] at hb
   obtain ⟨i,t,K,xs,h1,h2,h3⟩:=hm.boxes m b hb
   exact ⟨i,t,K,xs,by rw [AZ (AT.1 h1).1]; exact h1,h2,h3⟩
  ·rw [BG h] at hb
   obtain ⟨i,t,K,xs,h1,h2,h3⟩:=ih.2 _ b hb
   rw [CQ,hm.cnt] at h1 h
   exact ⟨i,t,K,xs,by rw [BG h]; exact h1,h2,h3⟩
 | mov hi _ ih =>
  rename_i i t K xs aw cs ms _
  have e:cellsOf (AV.new t K xs::aw)=.new t K xs::cellsOf aw:=rfl
  rw [e]
  refine ⟨by simp [AG,AV.isNew,ih.1],fun m b hb=>?_⟩
  simp only [Ae] at hb
  cases m with
  | zero=>simp at hb; subst hb; exact ⟨i,t,K,xs,rfl,hi,rfl⟩
  | succ m=>simpa using ih.2 m b (by simpa using hb)
theorem Vw (bk:List Nat) (a:AV):AG (KU bk a).cells=AG a.cells/\Ae (KU bk a).cells=Ae a.cells:=by
 cases a with
 | eptr id i o =>
  simp only [KU]
  split<;>exact ⟨rfl,rfl⟩
 | _=>exact ⟨rfl,rfl⟩
theorem U9 (bk:List Nat):∀ aw:List AV,AG (cellsOf (aw.map (KU bk)))=AG (cellsOf aw)/\Ae (cellsOf (aw.map (KU bk)))=Ae (cellsOf aw)
 | []=>⟨rfl,rfl⟩
 | a::aw=>by
  obtain ⟨h1,h2⟩:=U9 bk aw
  obtain ⟨e1,e2⟩:=Vw bk a
  have c1:cellsOf ((a::aw).map (KU bk))=(KU bk a).cells++cellsOf (aw.map (KU bk)):=rfl
  have c2:cellsOf (a::aw)=a.cells++cellsOf aw:=rfl
  rw [c1,c2,Ar,Ar,BD,BD,h1,h2,e1,e2]
  exact ⟨rfl,rfl⟩
theorem VE.ent {H:HP} {a:AV} {v:Value} (h:VE H a v) (bk:List Nat):KU bk a=a:=by
 cases a<;>first | rfl | exact h.elim
theorem Xq.ent {H:HP} {φ:BF} {st:List AH} {pt:Nat->Option (Nat×Kd)} {a:AV} {c:Value} (h:Xq H φ st pt a c) (bk:List Nat):KU bk a=a:=by
 rcases h with ⟨aw,arr,rfl,_⟩ | h | ⟨k',p,rfl,_⟩
 ·rfl
 ·exact (VE.of_VF h).ent bk
 ·rfl
theorem Dj.callee {H H1:HP} {φ:BF} {st est:List AH} {ids:List (Nat×Kd)} {owns movs bors:List Nat} {aw:List AV} {cs:List Value} {ms:List Nat} (hE:Pf st ids.length (ids.map (·.1)++owns++movs) est)
  (hle:H.le H1) (hlent:∀ i∈bors,∀ (t:TypeId) (K:Kd) (xs:List (Kd.T K)),st[i]? = some (AH.rows t K xs)->MC (C4 H1 K.fz) K.fz.sz H1 (WB K xs) (hdr (φ i)))
  (hnp:∀ i b,((∃ (t:TypeId) (K:Kd),∃ xs:List (Kd.T K),st[i]? = some (AH.rows t K xs))\/(∃ (t:TypeId) (K:Kd),∃ xs:List (Kd.T K),st[i]? = some (AH.mrow t K xs)))->hdr (φ i)≠.pointer (some ⟨b,0,none⟩))
  (h:Dj H φ st (fun k=>ids[k]?) (· ∈ bors) aw cs ms):∀ (pre:List Nat),movs=pre++ms ->
  AX (VB H1 (fun k=>φ ((ids.map (·.1)++owns++movs).getD k 0)) est) (Bv (ids.length+owns.length+pre.length) (aw.map (KU (ids.map (·.1)++owns)))) cs:=by
 induction h with
 | nil=>intro pre _; rfl
 | val hv _ ih =>
  intro pre e
  obtain ⟨h1,h2,_⟩:=hv.opens (ids.length+owns.length+pre.length)
  simp only [List.map_cons,hv.ent,Bv,h1,h2,Nat.add_zero]
  exact ⟨_,_,rfl,VB.of_VE (hv.mono hle),ih pre e⟩
 | bor hi hst _ ih =>
  intro pre e
  exact ⟨_,_,rfl,VB.of_VC (a:=.lst _ _) (hlent _ hi _ _ _ hst),ih pre e⟩
 | cap hc _ ih =>
  intro pre e
  obtain ⟨b,o,c',el,fz,ev,hb,vs,hr,hv⟩:=hc
  simp only [Value.func.injEq,true_and,Array.mk.injEq,List.cons.injEq,and_true] at ev
  subst ev
  exact ⟨_,_,rfl,VB.of_VC (a:=.fptr _ 0) ⟨b,o,c',el,fz,rfl,hle _ _ hb,vs,Ed.mono hle (Ed.of_rep hr),hv⟩,ih pre e⟩
 | movS hm _ ih =>
  rename_i cl ids0 arr aw cs ms _
  intro pre e
  have hk:∀ m i,ids0[m]? = some i->(ids.map (·.1)++owns++movs)[ids.length+owns.length+pre.length+m]? = some i:=fun m i hm=>by
   rw [BG (by simp; omega),e,List.length_append,List.length_map,BG (by omega),AZ (by have:=(AT.1 hm).1; omega),<- hm]
   congr 1; omega
  refine ⟨_,_,rfl,?_,?_⟩
  ·refine ⟨arr,rfl,Jn (by rw [E4,hm.len]) fun o a v ha hv=>?_⟩
   obtain ⟨u,u1,u2⟩:=hm.cells _ o a ha
   rw [hv] at u1
   cases u1
   rcases u2 with ⟨m,i,rfl,h2,rfl⟩ | h
   ·have hk:=hk m i h2
    obtain ⟨b,hb⟩:=hE.at hk
    obtain ⟨i',hi',hc⟩:=hE.get _ b hb
    refine ⟨by simp only [Dl hk],?_⟩
    rcases hc with ⟨hlt,_⟩ | ⟨_,t',e',xs',_,rfl⟩ | ⟨hlt,_⟩
    ·omega
    ·simp only [AE,hb]; rfl
    ·omega
   ·exact VC.of_VF (h.mono hle)
  ·have:=ih (pre++ids0) (by rw [e,CL])
   have hcnt:=hm.cnt
   simpa [KU,AV.cells,hcnt,Nat.add_assoc] using this
 | mov hst _ ih =>
  rename_i i t K xs aw cs ms _
  intro pre e
  have hk:(ids.map (·.1)++owns++movs)[ids.length+owns.length+pre.length]? = some i:=by
   rw [BG (by simp),e]
   simp
  refine ⟨_,_,rfl,?_,?_⟩
  ·obtain ⟨b,hb⟩:=hE.at hk
   obtain ⟨i',hi',hc⟩:=hE.get _ b hb
   refine VB.of_VC (a:=.row _) ⟨by simp only [Dl hk],?_⟩
   rcases hc with ⟨hlt,_⟩ | ⟨_,t',e',xs',_,rfl⟩ | ⟨hlt,_⟩
   ·omega
   ·simp only [AE,hb]; rfl
   ·omega
  ·have:=ih (pre++[i]) (by simp [e])
   simpa [KU,AG,AV.cells,AV.isNew,Nat.add_assoc] using this
 | borS hb hz he _ ih =>
  rename_i K z y arr aw cs ms _
  intro pre e
  have hf:Ed H1 y arr.toList:=EX.2 (hb.imp fun a u h=>by
   rcases h with h | ⟨i,t,K',xs,g1,g2,rfl,rfl⟩
   ·exact h.mono hle
   ·exact hlent i g1 t K' xs g2)
  obtain ⟨c1,c2,d1,d2,d3⟩:=Dd K hf (DI hz)
  cases d3
  rw [List.append_nil] at d1
  have hve:VE H1 (K.av z) (.agg arr):=by
   rw [he]
   exact ⟨arr,rfl,by rw [d1]; exact Ed.of_rep d2⟩
  obtain ⟨h1,h2,_⟩:=hve.opens (ids.length+owns.length+pre.length)
  simp only [List.map_cons,hve.ent,Bv,h1,h2,Nat.add_zero]
  exact ⟨_,_,rfl,VB.of_VE hve,ih pre e⟩
 | lendw hm _ ih =>
  rename_i a c aw cs ms _
  intro pre e
  obtain ⟨h1,h2,_⟩:=hm.opens (ids.length+owns.length+pre.length)
  simp only [List.map_cons,hm.ent,Bv,h1,h2,Nat.add_zero]
  have one:∀ a c,Yq H φ st (fun k=>ids[k]?) a c->VC H1 (fun k=>φ ((ids.map (·.1)++owns++movs).getD k 0)) est a c:=by
   intro a c h
   rcases h with h | ⟨k,p,rfl,hp,hva,rfl⟩
   ·exact VC.of_VF (h.mono hle)
   ·have hp:ids[k]? = some p:=hp
    have hk1:k<ids.length:=(AT.1 hp).1
    have hk:(ids.map (·.1)++owns++movs)[k]? = some p.1:=by
     rw [CL,AZ (by simpa using hk1),BT,hp]
     rfl
    obtain ⟨bx,hbx⟩:=hE.at hk
    obtain ⟨i',hi',hc⟩:=hE.get _ bx hbx
    rw [hk] at hi'
    cases hi'
    refine ⟨by simp only [Dl hk],?_⟩
    rcases hc with ⟨_,c1,c2,hst,_⟩ | ⟨hle,_⟩ | ⟨_,t',e',xs',_,rfl⟩
    ·simp only [AS,hst] at hva; cases hva
    ·omega
    ·simp only [AE,hbx]; rfl
  refine ⟨_,_,rfl,?_,ih pre e⟩
  rcases hm with ⟨aw',arr,rfl,rfl,hc⟩ | hm
  ·exact ⟨arr,rfl,hc.imp one⟩
  ·exact VB.of_VC (one a c hm)
 | ptr hp hb _ ih =>
  rename_i k p b aw cs ms _
  intro pre e
  have hk1:k<ids.length:=(AT.1 hp).1
  have hk:(ids.map (·.1)++owns++movs)[k]? = some p.1:=by
   rw [CL,AZ (by simpa using hk1),BT,hp]
   rfl
  refine ⟨_,_,rfl,?_,by simpa [KU,AG,AV.cells,AV.isNew] using ih pre e⟩
  obtain ⟨bx,hbx⟩:=hE.at hk
  obtain ⟨i',hi',hc⟩:=hE.get _ bx hbx
  rw [hk] at hi'
  cases hi'
  refine VB.of_VC (a:=.ptr k 0) ⟨?_,b,by simp only [Dl hk]; exact hb,hb⟩
  rcases hc with ⟨_,c1,c2,_,rfl,_⟩ | ⟨hle,_⟩ | ⟨_,t',e',xs',hst,rfl⟩
  ·simp only [AS,hbx]
  ·omega
  ·exact absurd hb (hnp p.1 b (by rcases hst with h | h; exact .inl ⟨_,_,_,h⟩; exact .inr ⟨_,_,_,h⟩))
 | ept hp _ ih =>
  rename_i id i c aw cs ms _
  intro pre e
  have rest:=ih pre e
  have hgo:∀ a,(a=.undef\/∃ j,a=.eptr j i 0)->VB H1 (fun k=>φ ((ids.map (·.1)++owns++movs).getD k 0)) est a c->AX (VB H1 (fun k=>φ ((ids.map (·.1)++owns++movs).getD k 0)) est) (Bv (ids.length+owns.length+pre.length) (a::aw.map (KU (ids.map (·.1)++owns)))) (c::cs):=by
   intro a ha hv
   rcases ha with rfl | ⟨j,rfl⟩<;>exact ⟨_,_,rfl,hv,rest⟩
  rw [List.map_cons]
  simp only [KU]
  split
  ·rename_i j hj
   refine hgo _ (.inr ⟨j,rfl⟩) (VB.of_VC (a:=.eptr j i 0) ?_)
   have hk0:=Ik hj
   have hk:(ids.map (·.1)++owns++movs)[j]? = some id:=by
    rw [AZ (AT.1 hk0).1]; exact hk0
   obtain ⟨b,n,cap,K,h1,h2,h3,h4⟩:=hp
   obtain ⟨bx,hbx⟩:=hE.at hk
   obtain ⟨i',hi',hc⟩:=hE.get _ bx hbx
   rw [hk] at hi'
   cases hi'
   refine ⟨b,n,cap,K,?_,h2,by simp only [Dl hk]; exact h3,h4⟩
   rcases hc with ⟨_,c1,c2,hst,_⟩ | ⟨_,t',e',xs',hst,rfl⟩ | ⟨_,t',e',xs',hst,rfl⟩
   ·simp only [AE,hst] at h1; cases h1
   ·simp only [AE,hst] at h1
    simp only [AE,hbx]
    exact h1
   ·rcases hst with hst | hst
    ·simp only [AE,hst] at h1
     simp only [AE,hbx]
     exact h1
    ·simp only [AE,hst] at h1
     simp only [AE,hbx]
     exact h1
  ·exact hgo _ (.inl rfl) (VB.of_VC (a:=.undef) trivial)
def MU:List Operand->List (BS×PK)->Bool
 | [],[]=>true
 | y::ys,x::xs=>Bw y x.1&&MU ys xs
 | _,_=>false
theorem Si {H:HP} {φ:BF} {s:St} {act:Act} (hf:Ca H φ s.st s.fr act.tmps):∀ {ys:List Operand} {xs:List (BS×PK)},MU ys xs=true->AX (fun (x:BS×PK) c=>VA H φ s.st (s.opd x.1) c) xs (ys.map act.eval)
 | [],[],_=>rfl
 | y::ys,x::xs,h=>by
  simp only [MU,AD] at h
  exact ⟨_,_,rfl,An hf h.1,Si hf h.2⟩
 | [],_::_,h=>by simp [MU] at h
 | _::_,[],h=>by simp [MU] at h
def RQ (n:Nat) (o:Oper) (d:Option Nat) (f:Nat) (args:List (BS×PK)):Bool :=
 (o.dst==d&&(decide (f<B8)||decide (2*B8<=f)))&&(match d with | some d=>decide (d<n) | none=>true)&&(match o.op with
  | .call ⟨.value (.func g),cargs,_⟩=>g==f % B8&&MU cargs.toList args&&args.all fun x=>!x.2.isCap
  | .call ⟨.value (.tmp y),cargs,_⟩=>(match args.getLast? with
   | some x=>decide (f<B8)&&MU cargs.toList args.dropLast&&Bw (.tmp y) x.1&&(args.dropLast.all fun x=>!x.2.isCap)&&(match x.2 with
    | .cap f' _=>f'==f
    | .cap0 f'=>f'==f
    | _=>false)
   | none=>false)
  | _=>false)
theorem Xs {H H':HP} {φ φ':BF} {st st':List AH} {rs:List AV} {f:AV->AV} {v:Value} (h:Z9 H φ st rs v) (hf:∀ a∈rs,∀ u,VB H φ st a u->VB H' φ' st' (f a) u):VA H' φ' st' (ZO (rs.map f)) v:=by
 have mp:∀ {aw:List AV} {vs:List Value},(∀ a∈aw,∀ u,VB H φ st a u->VB H' φ' st' (f a) u)->AX (VB H φ st) aw vs->AX (VB H' φ' st') (aw.map f) vs:=by
  intro aw
  induction aw with
  | nil=>intro vs _ h; exact h
  | cons a aw ih =>
   intro vs hf h
   obtain ⟨v,r,rfl,h1,h2⟩:=h
   exact ⟨v,_,rfl,hf a (by simp) v h1,ih (fun b hb=>hf b (by simp [hb])) h2⟩
 cases rs with
 | nil =>
  obtain ⟨arr,e,h⟩:=h
  exact ⟨arr,e,mp (aw:=[]) (fun _ h=>by cases h) h⟩
 | cons a rs =>
  cases rs with
  | nil=>exact VA.of_VB (hf a (by simp) v h)
  | cons b rs =>
   obtain ⟨arr,e,h⟩:=h
   exact ⟨arr,e,mp hf h⟩
theorem NL:∀ {ys:List Operand} {xs:List (BS×PK)},MU ys xs=true->xs.length=ys.length
 | [],[],_=>rfl
 | y::ys,x::xs,h=>by
  simp only [MU,AD] at h
  simp [NL h.2]
 | [],_::_,h=>by simp [MU] at h
 | _::_,[],h=>by simp [MU] at h
theorem W9 {H:HP} {φ:BF} {s:St} {act:Act} {n:Nat} {o:Oper} {d:Option Nat} {f:Nat} {args:List (BS×PK)} {q:Uq×St} (h:RQ n o d f args=true) (hf:Ca H φ s.st s.fr act.tmps) (hq:s.args args 0=some q) :
  o.dst=d/\(∀ k,d=some k->k<n)/\∃ cs:List Value,AX (fun (x:BS×PK) c=>VA H φ s.st (s.opd x.1) c) args cs/\∀ w:World,Sg P (f % B8)->(execOp act.eval o).run P w=.ok (.enter (f % B8) (Fe args cs).toArray) w:=by
 simp only [RQ,AD,beq_iff_eq] at h
 obtain ⟨⟨⟨hd,_⟩,hdn⟩,h2⟩:=h
 refine ⟨hd,fun k e=>by subst e; simpa using hdn,?_⟩
 split at h2
 ·rename_i g cargs tys ho
  simp only [AD,beq_iff_eq] at h2
  obtain ⟨⟨rfl,hargs⟩,hpl⟩:=h2
  refine ⟨_,Si hf hargs,fun w hent=>?_⟩
  obtain ⟨fn,c,hfn,hname,hbody⟩:=hent
  have hname':¬ fn.name = "runtime.NumGoroutine" := by simpa using hname
  rw [La (by simpa using NL hargs) hpl]
  have hargs':(cargs.toList.map act.eval).toArray=cargs.map act.eval:=by
   rw [<- Array.toList_map,Array.toArray_toList]
  rw [hargs']
  simp [execOp,ho,resolve,Act.eval,Deferred.ofValue,invoke,callFunc,run_program,hfn,hname',hbody]
 ·rename_i y cargs tys ho
  split at h2
  ·rename_i x hx
   simp only [AD] at h2
   obtain ⟨⟨⟨⟨hfb,hargs⟩,hy⟩,hpl⟩,hp⟩:=h2
   rw [decide_eq_true_eq] at hfb
   rw [Nat.mod_eq_of_lt hfb]
   have hne:args≠[]:=fun e=>by rw [e] at hx; cases hx
   have hsplit:args=args.dropLast++[x]:=by
    rw [List.getLast?_eq_some_getLast hne] at hx
    rw [<- Option.some.inj hx]
    exact (List.dropLast_concat_getLast hne).symm
   have hvy:=An hf hy
   refine ⟨cargs.toList.map act.eval++[act.eval (.tmp y)],?_,fun w hent=>?_⟩
   ·rw [hsplit]
    exact (Si hf hargs).append ⟨_,_,rfl,hvy,rfl⟩
   ·obtain ⟨fn,c,hfn,hname,hbody⟩:=hent
    have hname':¬ fn.name = "runtime.NumGoroutine" := by simpa using hname
    have hargs':(cargs.toList.map act.eval).toArray=cargs.map act.eval:=by
     rw [<- Array.toList_map,Array.toArray_toList]
    rw [hsplit,N2 (by simpa using NL hargs),La (by simpa using NL hargs) hpl,show (cargs.toList.map act.eval++Fe [x] [act.eval (.tmp y)]).toArray=(cargs.toList.map act.eval).toArray++(Fe [x] [act.eval (.tmp y)]).toArray from by simp,hargs']
    obtain ⟨x1,p⟩:=x
    rw [hsplit] at hq
    obtain ⟨j',s',r',efr,hl⟩:=EP hq
    have hopd:s'.opd x1=s.opd x1:=by cases x1<;>simp [St.opd,efr]
    cases p with
    | cap f' K =>
     simp only [beq_iff_eq] at hp
     subst hp
     simp only [St.args] at hl
     split at hl
     ·rename_i f2 K2 z hz
      rw [hopd] at hz
      simp only at hvy
      rw [hz] at hvy
      split at hl
      ·rename_i e1
       subst e1
       obtain ⟨b,o',c',el,fz,ev,_⟩:=(hvy:Vk H f2 (C4 H K2 z) _)
       simp only [Fe,Yp,ev,List.append_nil]
       simp [execOp,ho,resolve,ev,Deferred.ofValue,invoke,callFunc,run_program,hfn,hname',hbody]
      ·cases hl
     ·cases hl
    | cap0 f' =>
     simp only [beq_iff_eq] at hp
     subst hp
     simp only [St.args] at hl
     split at hl
     ·rename_i f2 hz
      rw [hopd] at hz
      simp only at hvy
      rw [hz] at hvy
      split at hl
      ·rename_i e1
       subst e1
       obtain ⟨_,ev⟩:=(hvy:([]:List AV)=[]/\act.eval (.tmp y)=.func (.func f2) #[] #[])
       simp only [Fe,Yp,List.append_nil]
       simp [execOp,ho,resolve,ev,Deferred.ofValue,invoke,callFunc,run_program,hfn,hname',hbody]
      ·cases hl
     ·cases hl
    | _=>cases hp
  ·cases h2
 ·cases h2
def aB (φ φ':BF) (s s':St) (args:List (BS×PK)):Prop :=
 (∀ (i:Nat) (b':AH),s'.st[i]? = some b'->b'.live=true->i<s.st.length->i∉KV s args->(∃ (b:AH) (kl:List Nat),s.st[i]? = some b/\b'=b.kill kl)/\φ' i=φ i)/\∀ i∈Us s args,hdr (φ' i)=hdr (φ i)
theorem U_ {n:Nat} {o:Oper} {d:Option Nat} {f:Nat} {args:List (BS×PK)} {res:List Kd} {cal:Cz} (hcal:D8 P cal) (h:RQ n o d f args=true) {ρ:Type} {kn:St->Option ρ} {r:ρ} {s:St} {act:Act} {w:World} {H:HP} {φ:BF} {next:Act->World->Prop} {Q:Exit->Act->World->Prop}
  (hs:SR H φ s.st w) (hf:Ca H φ s.st s.fr act.tmps) (hn:act.tmps.size=n) (hk:SP cal kn s d f args res=some r)
  (hnext:∀ s' v w' H' φ',kn s'=some r->AP H φ s.st w H' φ' s'.st w'->Ca H' φ' s'.st s'.fr (act.put o.dst v).tmps->SD (KV s args) φ s.st w w'->aB φ φ' s s' args->next (act.put o.dst v) w'):o.wp P act w next Q:=by
 simp only [SP] at hk
 cases hq:s.args args 0 with
 | none=>rw [hq] at hk; cases hk
 | some q0 =>
  obtain ⟨q,s1⟩:=q0
  rw [hq] at hk
  simp only [Z] at hk
  obtain ⟨hd,hdn,cvs,hcvs,hrun⟩:=W9 h hf hq
  cases hb:F3 s1.st q.ptrs with
  | none=>rw [hb] at hk; cases hk
  | some bx0 =>
   obtain ⟨bx,owns⟩:=bx0
   rw [hb] at hk
   simp only [Z] at hk
   split at hk
   ·rename_i hchk
    simp only [AD] at hchk
    obtain ⟨⟨hnd,hap⟩,hlv⟩:=hchk
    have hnd:=NF hnd
    have hap:=Tu hap
    have hlv:=Jp hlv
    cases hc:cal f (q.args.map (KU (q.ptrs.map (·.1)++owns))) bx with
    | none=>rw [hc] at hk; cases hk
    | some rs =>
     rw [hc] at hk
     simp only [Z] at hk
     cases hy:Cp (res++q.ptrs.map (·.2)) rs with
     | none=>rw [hy] at hk; cases hk
     | some y =>
      rw [hy] at hk
      simp only [Z] at hk
      obtain ⟨H1,g1,k1,e1,n1,ha,hback⟩:=E8 (pt:=fun k=>q.ptrs[k]?) (lent:=(· ∈ q.bors)) hs hcvs hq (fun k=>.inl (by simp)) (fun _ h=>h) hlv
      have F:=OK hb
      obtain ⟨hent,hnf,m,hm,hcall⟩:=hcal.2 f (q.args.map (KU (q.ptrs.map (·.1)++owns))) bx rs (by simp only [RQ,AD,Ez,decide_eq_true_eq] at h; exact h.1.1.2) hc
      obtain ⟨l1,l2,_⟩:=Qf _ rs y hy
      have hrs:B6 _ y=rs:=Tx _ rs y hy hnf
      rw [hrs] at hk
      have hmr:m=res.length:=by
       have:rs.length=res.length+q.ptrs.length:=by rw [l1]; simp
       have:=F.len
       omega
      subst hmr
      have hent2:=U9 (q.ptrs.map (·.1)++owns) q.args
      have hE:=Xn F (args:=q.args.map (KU (q.ptrs.map (·.1)++owns))) (by rw [hent2.1]; exact ha.news.1) (by rw [hent2.2]; exact ha.news.2)
      obtain ⟨H2,st1,b1,b2,b3,b4,b5⟩:=Z8 g1.sr q.bors (fun i hi=>hlv i (List.mem_append_right _ hi))
      have hsame:∀ i∈q.ptrs.map (·.1)++owns++q.movs,st1[i]? = s1.st[i]? := fun i hi=>b4 i fun h=>hap i h hi
      have hsr:=hE.sr hnd b2 hsame (fun i e xs hi=>by
       rw [b4 i fun h=>?_]
       ·exact hi
       ·obtain ⟨_,_,_,h2⟩:=hlv i (List.mem_append_right _ h)
        rw [hi] at h2
        cases h2)
      have hnp:∀ i b,((∃ (t:TypeId) (K:Kd),∃ xs:List (Kd.T K),s1.st[i]? = some (AH.rows t K xs))\/(∃ (t:TypeId) (K:Kd),∃ xs:List (Kd.T K),s1.st[i]? = some (AH.mrow t K xs)))->hdr (φ i)≠.pointer (some ⟨b,0,none⟩):=by
       intro i b hi e
       rcases hi with ⟨t,K,xs,hi⟩ | ⟨t,K,xs,hi⟩
       ·obtain ⟨_,_,e1⟩:=Aj.slice (g1.sr.box i _ hi)
        rw [e] at e1; cases e1
       ·obtain ⟨_,_,e1⟩:=Aj.slice (g1.sr.box i _ hi)
        rw [e] at e1; cases e1
      have hargs2:=ha.callee hE b1 b5 hnp [] rfl
      have hhan:C6 bx=q.ptrs.length+owns.length:=by rw [Qe,F.len,F.cnt]
      simp only [List.length_nil,Nat.add_zero] at hargs2
      rw [<- hhan] at hargs2
      have hC:=hcall H2 _ w _ hsr hargs2
      have B:Vu H1 φ s1.st w q.ptrs.length (q.ptrs.map (·.1)++owns) q.movs q.bors H2 (BK bx (q.args.map (KU (q.ptrs.map (·.1)++owns)))) :=
       ⟨g1.sr,hE,hnd,fun i hi=>hlv i (List.mem_append_right _ hi),hap,b1,b3,by simp⟩
      have houtl:(rs.drop res.length).length=q.ptrs.length:=by rw [List.length_drop,l1]; simp
      have houtk:∀ (j:Nat) (v:AV),(rs.drop res.length)[j]? = some v->∃ p,q.ptrs[j]? = some p/\∃ x:Kd.T p.2,v=Kd.av p.2 x:=by
       intro j v hj
       have hjl:j<q.ptrs.length:=by rw [<- houtl]; exact (AT.1 hj).1
       have hp:q.ptrs[j]? = some q.ptrs[j]:=by simp
       refine ⟨q.ptrs[j],hp,?_⟩
       have hK:(res++q.ptrs.map (·.2))[res.length+j]? = some q.ptrs[j].2:=by
        rw [BG (by omega),Nat.add_sub_cancel_left,BT,hp]; rfl
       obtain ⟨x,hx⟩:=Qg _ y _ _ hK
       rw [hrs] at hx
       rw [Ba,hx] at hj
       exact ⟨x,(Option.some.inj hj).symm⟩
      have hcnt:AG (Ay (rs.drop res.length))=owns.length:=by
       rw [WS houtl houtk,<- WS F.len F.kd,F.cnt]
      have hhan2:C6 (rs.drop res.length)=q.ptrs.length+owns.length:=by rw [Qe,houtl,hcnt]
      split at hk
      ·rename_i hflat
       simp only [Ez,AD,List.isEmpty_iff] at hflat
       unfold Oper.wp
       rw [hrun w hent,Oper.upon_enter]
       refine Calls.mono hC fun out w' hout=>?_
       cases out with
       | returned v =>
        obtain ⟨H3,φ3,c1,c2,c3,c4⟩:=hout
        rw [F.len,hE.len] at c3
        have hlen:(q.ptrs.map (·.1)++owns).length<=(BK (rs.drop res.length) (rs.take res.length)).length:=by
         rw [KY,houtl,hcnt]; simp only [List.length_append,List.length_map]; omega
        obtain ⟨H4,φ4,d1,dm,d2,d3,d4,d5⟩:=B.back c2 c1 c3 hlen (by
         intro k i hkn hbk
         have hpk:q.ptrs[k]? = some q.ptrs[k]:=by simp
         have hik:q.ptrs[k].1=i:=by
          rw [AZ (by simpa using hkn),BT,hpk] at hbk
          exact Option.some.inj hbk
         have hbxk:bx[k]? = some (bx[k]'(by rw [F.len]; exact hkn)):=by simp
         obtain ⟨p,hp,hc⟩:=F.vars 0 k _ hbxk
         rw [hpk] at hp
         cases hp
         have hok:(rs.drop res.length)[k]? = some ((rs.drop res.length)[k]'(by rw [houtl]; exact hkn)):=by simp
         obtain ⟨p,hp,x,hx⟩:=houtk k _ hok
         rw [hpk] at hp
         cases hp
         have hest:(BK (rs.drop res.length) (rs.take res.length))[k]? = some (Uo ((rs.drop res.length).length+AG (Ay ((rs.drop res.length).take k))) (Kd.av q.ptrs[k].2 x)):=by
          rw [E5,AZ (by rw [As,houtl]; exact hkn),F6 _ _ k _ hok,hx]
         rw [hik] at hc
         rcases hc with ⟨cs,ecs,ho,hst,_⟩ | ⟨t,e,xs,ho,hst,_⟩
         ·refine ⟨fun _ _=>⟨_,by rw [hest,(E7 x ho).2]⟩,fun t K xs h=>?_⟩
          rw [hst] at h
          rcases h with h | h<;>cases h
         ·refine ⟨fun cs h=>?_,fun t' K' xs' h=>?_⟩
          ·rcases hst with h2 | h2<;>rw [h2] at h<;>cases h
          ·have e1:t'=t/\K'=e:=by
            rcases hst with h2 | h2<;>rcases h with h | h<;>rw [h2] at h<;>cases h<;>exact ⟨rfl,rfl⟩
           obtain ⟨rfl,rfl⟩:=e1
           revert x
           rw [ho]
           intro x _ hest
           exact ⟨x,hest⟩) (by
         rcases hflat with h | h
         ·exact .inl h
         ·exact .inr h.1)
        have hdrop:(q.ptrs.map (·.1)++owns).drop q.ptrs.length=owns:=by
         rw [show q.ptrs.length=(q.ptrs.map (·.1)).length by simp,List.drop_left]
        rw [hdrop] at d2
        have hf4:Ca H4 φ4 (G0 s1.st q.ptrs.length (q.ptrs.map (·.1)++owns) q.movs (BK (rs.drop res.length) (rs.take res.length))) (s1.fr.map (Cq (owns++q.movs))) act.tmps:=by
         rw [e1]
         exact Ca.kill d2 ((hf.mono g1.le k1).mono d1.le (A_.refl _ _ _))
        have hres:=Xs c4 (H':=H4) (φ':=φ4) (st':=G0 s1.st q.ptrs.length (q.ptrs.map (·.1)++owns) q.movs (BK (rs.drop res.length) (rs.take res.length)))
         (f:=AV.renV (Fz (q.ptrs.map (·.1)++owns) s1.st.length)) fun a ha u hu=>d3 a u (by
          rcases hflat with h | h
          ·exact .inl h
          ·exact .inr (Ax.1 h.2 a ha)) hu
        refine hnext _ v w' H4 φ4 hk (g1.trans d1) ?_ ?_ ⟨fun i b' hb' hl' hil hni=>?_,fun i hi=>?_⟩
        rotate_left
        ·intro i bi hi hl hni b hbi
         simp only [KV,hq,hb,Am,not_or] at hni
         refine c3.old b ((hs.box i bi hi).blk_lt hl hbi) fun k hk=>?_
         have hk2:(q.ptrs.map (·.1)++owns++q.movs)[k]? = some (q.ptrs.map (·.1)++owns++q.movs)[k]:=by simp
         rw [Dl hk2]
         intro e
         have hmem:=DG hk
         have hne:(q.ptrs.map (·.1)++owns++q.movs)[k]≠i:=fun e2=>by
          rw [e2] at hmem
          simp only [Am] at hmem
          rcases hmem with (h | h) | h
          ·exact hni.1.1 h
          ·exact hni.1.2 h
          ·exact hni.2 h
         obtain ⟨eb,heb⟩:=hE.at hk2
         obtain ⟨i',hi',hc'⟩:=hE.get k eb heb
         rw [hk2] at hi'
         cases hi'
         have hlv2:∃ b2,s.st[(q.ptrs.map (·.1)++owns++q.movs)[k]]? = some b2/\b2.live=true:=by
          rcases hc' with ⟨_,cs,ecs,h,_⟩ | ⟨_,t,e,xs,h,_⟩ | ⟨_,t,e,xs,h | h,_⟩
          ·exact ⟨_,hback h rfl,rfl⟩
          ·exact ⟨_,hback h rfl,rfl⟩
          ·exact ⟨_,hback h rfl,rfl⟩
          ·exact ⟨_,hback h rfl,rfl⟩
         obtain ⟨b2,h1,h2⟩:=hlv2
         exact hs.sep _ i b2 bi h1 hi h2 hl hne b e hbi
        ·simp only [KV,hq,hb,Am,not_or] at hni
         have h1:i∉q.ptrs.map (·.1)++owns:=fun h=>by
          rcases Am.1 h with h | h
          ·exact hni.1.1 h
          ·exact hni.1.2 h
         have hil1:i<s1.st.length:=by rw [n1]; exact hil
         obtain ⟨x1,x2⟩:=d4 i s1.st[i] h1 hni.2 (by simp)
         simp only at hb'
         rw [hb'] at x1
         have e1:b'=s1.st[i].kill (List.drop q.ptrs.length (q.ptrs.map (·.1)++owns)++q.movs):=Option.some.inj x1
         have hl1:s1.st[i].live=true:=by rw [e1,Km] at hl'; exact hl'
         exact ⟨⟨s1.st[i],_,hback (by simp) hl1,e1⟩,x2⟩
        ·simp only [Us,hq] at hi
         obtain ⟨k,hk2⟩:=List.mem_iff_getElem?.1 hi
         have hkn:k<q.ptrs.length:=by simpa using (AT.1 hk2).1
         exact d5 k i hkn (by rw [AZ (by simpa using hkn)]; exact hk2)
        cases d with
        | none=>rw [hd]; exact hf4
        | some d =>
         rw [Ip hd]
         exact hf4.put (by have:=hdn d rfl; omega) hres
       | panicked ch=>exact hout.elim
       | outgrown=>exact hout.elim
      ·cases hk
   ·cases hk
theorem Ys {n:Nat} {o:Oper} {d:Option Nat} {f:Nat} {args:List (BS×PK)} {res:List Kd} {cal:Cz} (hcal:D8 P cal) (h:RQ n o d f args=true):ET P n o (.call d f args res) cal:=by
 intro ρ kn r s act w H φ next Q hs hf hn hk hnext
 simp only [CN] at hk
 exact U_ hcal h hs hf hn hk fun s' v w' H' φ' k1 k2 k3 k4 _=>hnext s' v w' H' φ' k1 k2 k3 ⟨k4,fun h=>by cases h⟩
theorem Xt {n:Nat} {o:Oper} {n0:Nat} {rd:Bool} {d:Option Nat} {f:Nat} {args:List (BS×PK)} {res:List Kd} {cal:Cz} (hcal:D8 P cal) (h:RQ n o d f args=true):ET P n o (.icall n0 rd d f args res) cal:=by
 intro ρ kn r s act w H φ next Q hs hf hn hk hnext
 simp only [CN] at hk
 cases hop:s.openAt n0 with
 | none=>rw [hop] at hk; cases hk
 | some y =>
  obtain ⟨id,s1⟩:=y
  rw [hop] at hk
  simp only [Z] at hk
  split at hk
  ·cases hk
  rename_i hnid
  have hnid:=Ak.1 (by simpa using hnid)
  by_cases hcond:(if rd=true then !Az (KV s1 args) s.st.length else Az (Us s1 args) s.st.length)=true
  case neg=>rw [if_neg hcond] at hk; cases hk
  rw [if_pos hcond] at hk
  obtain ⟨φ1,i,q,p1,p2,p3,p4,m,t0,K0,xs,r0,u,p5,p6,p7,p8,p9,p10,p11,p12,p13,p14,p15,p16,p17⟩:=Ts hs hf hop
  have hkl:s.st.length<s1.st.length:=by omega
  have hidl:id<s1.st.length:=by omega
  have hne:s.st.length≠id:=by omega
  refine U_ hcal h p2.sr p3 hn hk fun s2 v w' H' φ' k1 k2 k3 k4 k5=>?_
  cases hcl:s2.closeAt id s.st.length rd with
  | none=>rw [hcl] at k1; cases k1
  | some s3 =>
   rw [hcl] at k1
   simp only [Z] at k1
   obtain ⟨x1,x2⟩:=k5
   have hhole:s2.st[id]? = some (.hole m t0 K0 xs i q)/\φ' id=φ1 id:=by
    unfold St.closeAt at hcl
    cases hb:s2.st[id]? with
    | none=>rw [hb] at hcl; cases hcl
    | some bx =>
     rw [hb] at hcl
     cases bx with
     | hole m' t' K' xs' i' q' =>
      obtain ⟨⟨b,kl,y1,y2⟩,y3⟩:=x1 id _ hb rfl hidl hnid
      rw [p5] at y1
      cases y1
      cases y2
      exact ⟨rfl,y3⟩
     | _=>cases hcl
   have hkrow:∃ (t':TypeId) (e:Kd),∃ ys:List (Kd.T e),s2.st[s.st.length]? = some (.rows t' e ys):=by
    unfold St.closeAt at hcl
    rw [hhole.1] at hcl
    simp only at hcl
    cases hb:s2.st[s.st.length]? with
    | none=>rw [hb] at hcl; cases hcl
    | some bx =>
     rw [hb] at hcl
     cases bx with
     | rows t' e ys=>exact ⟨t',e,ys,rfl⟩
     | _=>cases hcl
   obtain ⟨t',e',ys,hkr⟩:=hkrow
   have hu1:hdr (φ1 s.st.length)=u:=by
    obtain ⟨a,c,eu⟩:=p13
    rw [p12,eu]; rfl
   have hku:hdr (φ' s.st.length)=u:=by
    cases hrd:rd with
    | true =>
     rw [hrd,if_pos rfl] at hcond
     have hnk:=Ak.1 (by simpa using hcond)
     rw [(x1 _ _ hkr rfl hkl hnk).2]
     exact hu1
    | false =>
     rw [hrd,if_neg (by simp)] at hcond
     rw [x2 _ (Bx.1 hcond)]
     exact hu1
   obtain ⟨φ3,z1,z2⟩:=Vo (u:=u) k2.sr k3 hcl hhole.1 p8 p9 (by rw [hhole.2]; exact p11) hku hne (fun hr=>by
    rw [hr,if_pos rfl] at hcond
    have hnk:=Ak.1 (by simpa using hcond)
    obtain ⟨⟨b,kl,y1,y2⟩,_⟩:=x1 _ _ hkr rfl hkl hnk
    rw [p6] at y1
    cases y1
    exact ⟨r0,by rw [hkr,y2]; rfl,p7⟩)
   refine hnext s3 v w' H' φ3 k1 ((p2.trans k2).trans z1) z2 ⟨fun j bx hj hl hnj b hb=>?_,fun h=>by cases h⟩
   simp only [Cj.touch,hop,AQ,not_or] at hnj
   have hjl:j<s.st.length:=(AT.1 hj).1
   obtain ⟨w1,w2⟩:=p15 j hnj.1 hjl
   exact k4 j bx (w1.trans hj) hl hnj.2 b (by rw [w2]; exact hb)
end Go.Proofs.Ytffahmnodgnohaa.Core

namespace Go.Proofs.Ytffahmnodgnohaa.Core
open Go
variable {H:HP} {φ:BF} {st:List AH} {w w':World} {P:Program}
theorem Xu {id j b:Nat} {T t:TypeId} {xs ys:List Int} (hs:SR H φ st w) (hid:st[id]? = some (.var [.self T,.row j])) (hj:st[j]? = some (.rows t (.int .u8) xs))
  (hb:φ id=.pointer (some ⟨b,0,none⟩)) (he:UV w w' b xs.length ys.length (φ j) T t ((xs++ys).map (.int .u8))) :
  ∃ φ',AP H φ st w H φ' (((st.map (AH.kill [j])).set j (.rows t (.int .u8) (xs++ys))).set id (.var [.self T,.row j])) w' /\
   BU φ st φ' (((st.map (AH.kill [j])).set j (.rows t (.int .u8) (xs++ys))).set id (.var [.self T,.row j])) [j]/\SD [id,j] φ st w w':=by
 obtain ⟨w1,w2,v',g1,h1,g2,h2,h3,g3,h4⟩:=he
 have hij:id≠j:=fun e=>by subst e; rw [hid] at hj; cases hj
 have hj0:hdr (φ j)=φ j:=by
  obtain ⟨flat,ho,_⟩:=Aj.flat rfl (hs.box j _ hj)
  obtain ⟨_,_,e⟩:=Aa ho
  rw [e]; rfl
 have hv0:hdr v'=v':=by
  obtain ⟨_,_,e⟩:=Aa h2
  rw [e]; rfl
 have hil:id<st.length:=(AT.1 hid).1
 have hjl:j<st.length:=(AT.1 hj).1
 have hkid:AE st id=none:=by simp only [AE,hid]
 have self:∀ (u:Value),VW H (φ id) T (.self T) (.pointer (some ⟨b,0,none⟩)):=fun _=>⟨rfl,.inr hb.symm⟩
 have A:=AP.update (id:=id) (bx':=.var [.self T,.row j]) (v':=φ id) hs hid rfl (by rw [hb]; exact g1) ⟨b,_,T,hb,h1,_,_,rfl,self (φ id),_,_,rfl,trivial,rfl⟩ (fun _ h=>.inl h) (.inl ⟨rfl,rfl⟩)
  (fun k cs hk o ho=>by have:=(hs.cell k cs hk o id ho).1; rw [hkid] at this; cases this)
  (fun cs e o i ho=>by
   cases e
   match o,ho with
   | 1,ho =>
    cases ho
    exact ⟨Ne.symm hij,by simp [AE,hj],b,hb,by simp [World.cell?,h1,hj0]⟩)
 have eφ:(fun i=>if i=id then φ id else φ i)=φ:=by funext i; by_cases e:i=id<;>simp [e]
 have est:st.set id (.var [.self T,.row j])=st:=by
  apply List.ext_getElem?
  intro i
  rw [AU]
  by_cases e:id=i
  ·subst e; rw [if_pos rfl,if_pos hil,hid]
  ·rw [if_neg e]
 rw [eφ,est] at A
 have hj1:(st.map (AH.kill [j]))[j]? = some (.rows t (.int .u8) xs):=by rw [BT,hj]; rfl
 have hid1:(st.map (AH.kill [j]))[id]? = some (.var [.self T,.was j]):=by rw [BT,hid]; simp [AH.kill,AV.killB,Az]
 have hvj:AL st j=false:=by simp only [AL,hj]; rfl
 have hvj1:AL (st.map (AH.kill [j])) j=false:=by rw [Cs (AN [j])]; exact hvj
 have B:=AP.update (id:=j) (bx':=.rows t (.int .u8) (xs++ys)) (v':=v') (A.sr.kill [j]) hj1 rfl g2 (Aj.of_flat (flat:=(xs++ys).map (.int .u8)) (by rw [List.length_append]; exact h2) RJ) h3 (.inr hvj1)
  (fun k cs hk o ho=>by have:=Gb hk ho; simp [Az] at this) (fun cs e=>by cases e)
 have hid2:((st.map (AH.kill [j])).set j (.rows t (.int .u8) (xs++ys)))[id]? = some (.var [.self T,.was j]):=by rw [AU,if_neg (Ne.symm hij)]; exact hid1
 have hj2:((st.map (AH.kill [j])).set j (.rows t (.int .u8) (xs++ys)))[j]? = some (.rows t (.int .u8) (xs++ys)):=by rw [AU]; simp [hjl]
 have eid:(fun i=>if i=j then v' else φ i) id=φ id:=by simp [hij]
 have hkid2:AE ((st.map (AH.kill [j])).set j (.rows t (.int .u8) (xs++ys))) id=none:=by simp only [AE,hid2]
 have C:=AP.update (id:=id) (bx':=.var [.self T,.row j]) (v':=φ id) B.sr hid2 rfl (by rw [if_neg hij,hb]; exact g3) ⟨b,_,T,hb,h4,_,_,rfl,self (φ id),_,_,rfl,trivial,rfl⟩ (fun _ h=>.inl (by rw [if_neg hij]; exact h)) (.inl ⟨rfl,congrArg hdr eid.symm⟩)
  (fun k cs hk o ho=>by have:=(B.sr.cell k cs hk o id ho).1; rw [hkid2] at this; cases this)
  (fun cs e o i ho=>by
   cases e
   match o,ho with
   | 1,ho =>
    cases ho
    exact ⟨Ne.symm hij,by simp [AE,hj2],b,hb,by simp [World.cell?,h4,hv0]⟩)
 refine ⟨_,A.trans ((AP.kill A.sr [j]).trans (B.trans C)),⟨fun i hn _=>?_,fun i hv=>?_⟩,fun i bx hi hl hni c hc=>?_⟩
 ·have hne:i≠j:=fun e=>by subst e; simp [Az] at hn
  have go:∀ q,q≠id->q≠j->(((st.map (AH.kill [j])).set j (.rows t (.int .u8) (xs++ys))).set id (.var [.self T,.row j]))[q]? = (st.map (AH.kill [j]))[q]? := fun q h1 h2=>by
   rw [AU,if_neg (Ne.symm h1),AU,if_neg (Ne.symm h2)]
  by_cases e:i=id
  ·subst e
   have:(((st.map (AH.kill [j])).set j (.rows t (.int .u8) (xs++ys))).set i (.var [.self T,.row j]))[i]? = some (.var [.self T,.row j]):=by rw [AU]; simp [hil]
   exact ⟨by simp,by simp only [AE,this,hid],by simp only [AS,this,hid]⟩
  ·refine ⟨by simp [e,hne],?_,?_⟩
   ·rw [<- De (AN [j]) st i]; simp only [AE,go i e hne]
   ·rw [<- Cm (AN [j]) st i]; simp only [AS,go i e hne]
 ·have hne:i≠j:=fun e=>by subst e; rw [hvj] at hv; cases hv
  by_cases e:i=id
  ·subst e
   have:(((st.map (AH.kill [j])).set j (.rows t (.int .u8) (xs++ys))).set i (.var [.self T,.row j]))[i]? = some (.var [.self T,.row j]):=by rw [AU]; simp [hil]
   exact ⟨by simp,by simp only [AL,this]; rfl,by simp only [AS,this,hid]⟩
  ·have go:(((st.map (AH.kill [j])).set j (.rows t (.int .u8) (xs++ys))).set id (.var [.self T,.row j]))[i]? = (st.map (AH.kill [j]))[i]? := by
    rw [AU,if_neg (Ne.symm e),AU,if_neg (Ne.symm hne)]
   have t1:AL (((st.map (AH.kill [j])).set j (.rows t (.int .u8) (xs++ys))).set id (.var [.self T,.row j])) i=AL (st.map (AH.kill [j])) i:=by simp only [AL,go]
   have t2:AS (((st.map (AH.kill [j])).set j (.rows t (.int .u8) (xs++ys))).set id (.var [.self T,.row j])) i=AS (st.map (AH.kill [j])) i:=by simp only [AS,go]
   exact ⟨by simp [e,hne],by rw [t1,Cs (AN [j])]; exact hv,by rw [t2,Cm (AN [j])]⟩
 ·simp only [AQ,List.not_mem_nil,or_false,not_or] at hni
  have n1:c≠b:=fun e=>by subst e; exact hs.sep i id bx _ hi hid hl rfl hni.1 c hc (by rw [hb]; rfl)
  have n2:¬BQ (φ j) c:=hs.sep i j bx _ hi hj hl rfl hni.2 c hc
  have hlt:=(hs.box i bx hi).blk_lt hl hc
  rw [g3.block c (Nat.lt_of_lt_of_le hlt (Nat.le_trans g1.size g2.size)) (by simpa using n1),g2.block c (Nat.lt_of_lt_of_le hlt g1.size) (fun e=>n2 (.of e.symm)),g1.block c hlt (by simpa using n1)]
theorem VD {id j:Nat} {T t:TypeId} {xs:List Int} (hs:SR H φ st w) (hid:st[id]? = some (.var [.self T,.row j])) (hj:st[j]? = some (.rows t (.int .u8) xs)) (hg:w.grownBy w' (Dc (φ j))) :
  AP H φ st w H φ ((st.map (AH.kill [j])).set j .dead) w'/\BU φ st φ ((st.map (AH.kill [j])).set j .dead) [j]/\SD [id,j] φ st w w':=by
 have hjl:j<st.length:=(AT.1 hj).1
 have hj1:(st.map (AH.kill [j]))[j]? = some (.rows t (.int .u8) xs):=by rw [BT,hj]; rfl
 have hvj:AL st j=false:=by simp only [AL,hj]; rfl
 have hvj1:AL (st.map (AH.kill [j])) j=false:=by rw [Cs (AN [j])]; exact hvj
 have B:=AP.update (id:=j) (bx':=.dead) (v':=φ j) (hs.kill [j]) hj1 rfl hg trivial (fun _ h=>.inl h) (.inr hvj1)
  (fun k cs hk o ho=>by have:=Gb hk ho; simp [Az] at this) (fun cs e=>by cases e)
 have eφ:(fun i=>if i=j then φ j else φ i)=φ:=by funext i; by_cases e:i=j<;>simp [e]
 rw [eφ] at B
 have go:∀ i,i≠j->((st.map (AH.kill [j])).set j .dead)[i]? = (st.map (AH.kill [j]))[i]? := fun i h=>by rw [AU,if_neg (Ne.symm h)]
 refine ⟨(AP.kill hs [j]).trans B,⟨fun i hn _=>?_,fun i hv=>?_⟩,fun i bx hi hl hni c hc=>?_⟩
 ·have hne:i≠j:=fun e=>by subst e; simp [Az] at hn
  refine ⟨rfl,?_,?_⟩
  ·rw [<- De (AN [j]) st i]; simp only [AE,go i hne]
  ·rw [<- Cm (AN [j]) st i]; simp only [AS,go i hne]
 ·have hne:i≠j:=fun e=>by subst e; rw [hvj] at hv; cases hv
  have t1:AL ((st.map (AH.kill [j])).set j .dead) i=AL (st.map (AH.kill [j])) i:=by simp only [AL,go i hne]
  have t2:AS ((st.map (AH.kill [j])).set j .dead) i=AS (st.map (AH.kill [j])) i:=by simp only [AS,go i hne]
  exact ⟨rfl,by rw [t1,Cs (AN [j])]; exact hv,by rw [t2,Cm (AN [j])]⟩
 ·simp only [AQ,List.not_mem_nil,or_false,not_or] at hni
  exact hg.block c ((hs.box i bx hi).blk_lt hl hc) (fun e=>hs.sep i j bx _ hi hj hl rfl hni.2 c hc (.of e.symm))
def Zm (n:Nat) (o:Oper) (d:Option Nat) (k f:Nat) (x y:BS):Bool :=
 (o.dst==d&&decide (f<B8))&&(match d with | some d=>decide (d<n) | none=>true)&&(match o.op with
  | .call ⟨.value (.func g),cargs,_⟩=>g==f&&(match cargs.toList with
   | [x']=>k==2&&Bw x' x
   | [x',y']=>decide (k≠2)&&Bw x' x&&Bw y' y
   | _=>false)
  | _=>false)
theorem Zn {n:Nat} {o:Oper} {d:Option Nat} {k f t:Nat} {x y:BS} {cal:Cz} (hcal:D8 P cal) (h:Zm n o d k f x y=true):ET P n o (.bld d k f t x y) cal:=by
 intro ρ kn r s act w H φ next Q hs hf hn hk hnext
 simp only [CN] at hk
 simp only [Zm,AD,beq_iff_eq,decide_eq_true_eq] at h
 obtain ⟨⟨⟨hd,hfb⟩,hdn⟩,h2⟩:=h
 split at hk
 ·rename_i id hx
  split at hk
  ·rename_i T j hid
   split at hk
   ·rename_i t' xs hj
    split at hk
    ·rename_i ht
     subst ht
     cases hq:cal (B8+f) [.int .i64 k,.int .i64 t',.int .i64 T] [] with
     | none=>rw [hq] at hk; cases hk
     | some q =>
      rw [hq,Z] at hk
      cases q with
      | cons _ _=>cases hk
      | nil =>
      simp only [Cp,Z] at hk
      obtain ⟨hent,hB⟩:=hcal.1 f k t' T hfb hq
      split at h2
      ·rename_i g cargs tys ho
       simp only [AD,beq_iff_eq] at h2
       obtain ⟨rfl,hargs⟩:=h2
       obtain ⟨b,c,el,e1,hh,u0,r0,ec,⟨hel,hu0⟩,u1,r1,er,_,hr1⟩:=hs.box id _ hid
       subst hel
       have hr1:r1=[]:=hr1
       subst hr1 er
       have hc:c=#[u0,u1]:=by rw [<- Array.toArray_toList (xs:=c),ec]
       subst hc
       obtain ⟨flat,how,hrr⟩:=Aj.flat rfl (hs.box j _ hj)
       have hj0:hdr (φ j)=φ j:=by
        obtain ⟨_,_,e⟩:=Aa how
        rw [e]; rfl
       have hu1:u1=φ j:=by
        rw [<- hj0]
        obtain ⟨_,b2,q1,q2⟩:=hs.cell id _ hid 1 j rfl
        rw [e1] at q1
        cases q1
        simp [World.cell?,hh] at q2
        exact q2
       subst hu1
       have hfl:=RI hrr how.1
       subst hfl
       have hij:id≠j:=fun e=>by subst e; rw [hid] at hj; cases hj
       have hne:¬BQ (φ j) b:=fun e=>hs.sep j id _ _ hj hid rfl rfl (Ne.symm hij) b e (by rw [e1]; rfl)
       have hun:u0=.pointer none\/u0=.pointer (some ⟨b,0,none⟩):=by rw [e1] at hu0; exact hu0
       obtain ⟨B0,B1,B2⟩:=hB w b u0 (φ j) xs hh hun how hne ⟨H,hs.tb,hs.hp,fun q hq=>hs.out j _ hj rfl q hq,hs.out id _ hid rfl b (by rw [e1]; rfl)⟩
       have hptr:∀ x',Bw x' x=true->act.eval x'=.pointer (some ⟨b,0,none⟩):=fun x' hx'=>by
        have:=An hf hx'
        rw [hx] at this
        obtain ⟨_,b2,q1,q2⟩:=this
        rw [e1] at q1
        cases q1
        exact q2
       have hrun:∀ w:World,(execOp act.eval o).run P w=.ok (.enter g (cargs.map act.eval)) w:=fun w=>by
        obtain ⟨fn,c,hfn,hname,hbody⟩:=hent
        have hname':¬ fn.name = "runtime.NumGoroutine" := by simpa using hname
        simp [execOp,ho,resolve,Act.eval,Deferred.ofValue,invoke,callFunc,run_program,hfn,hname',hbody]
       have fin:∀ {a:AV} {v:Value} {s1:St} {w':World} {φ':BF},kn ⟨Ur d a s1.fr,s1.st⟩=some r->AP H φ s.st w H φ' s1.st w'->Ca H φ' s1.st s1.fr act.tmps->VA H φ' s1.st a v->SD [id,j] φ s.st w w'->next (act.put o.dst v) w':=by
        intro a v s1 w' φ' hk hst hfr hva hm
        refine hnext _ v w' H φ' hk hst ?_ ⟨?_,fun h=>by cases h⟩
        ·cases d with
         | none=>rw [hd]; exact hfr
         | some d=>rw [Ip hd]; exact hfr.put (Nat.lt_of_lt_of_eq (show d<n by simpa using hdn) hn.symm) hva
        ·simp only [Cj.touch,hx,hid]; exact hm
       split at hk
       ·rename_i hk2
        split at hk
        ·rename_i hbyte
         have hargs':∃ x',cargs=#[x']/\Bw x' x=true:=by
          rw [<- Array.toArray_toList (xs:=cargs)]
          split at hargs
          ·rename_i x' e; rw [e]; simp only [AD] at hargs; exact ⟨x',rfl,hargs.2⟩
          ·simp [hk2] at hargs
          ·cases hargs
         obtain ⟨x',rfl,hx'⟩:=hargs'
         unfold Oper.wp
         rw [hrun w,Oper.upon_enter]
         have:=B2 hk2 hbyte
         simp only [List.map_toArray,List.map_cons,List.map_nil,hptr x' hx']
         refine Calls.mono this fun out w' hout=>?_
         obtain ⟨rfl,hg⟩:=hout
         obtain ⟨q1,q2,q3⟩:=VD hs hid hj hg
         exact fin (s1:=⟨s.fr.map (Cq [j]),_⟩) hk q1 (hf.kill q2) rfl q3
        ·cases hk
       ·rename_i hk2
        cases ha:YT k (s.opd y) with
        | none=>rw [ha] at hk; cases hk
        | some ys =>
         rw [ha] at hk
         simp only [Z] at hk
         split at hk
         ·rename_i hlim
          have hargs':∃ x' y',cargs=#[x',y']/\Bw x' x=true/\Bw y' y=true:=by
           rw [<- Array.toArray_toList (xs:=cargs)]
           split at hargs
           ·simp [hk2] at hargs
           ·rename_i x' y' e; rw [e]; simp only [AD] at hargs; exact ⟨x',y',rfl,hargs.1.2,hargs.2⟩
           ·cases hargs
          obtain ⟨x',y',rfl,hx',hy'⟩:=hargs'
          have vy:=An hf hy'
          unfold Oper.wp
          rw [hrun w,Oper.upon_enter]
          simp only [List.map_toArray,List.map_cons,List.map_nil,hptr x' hx']
          have done:∀ (ys:List Int) (w':World) (v:Value),kn ⟨Ur d .undef (s.fr.map (Cq [j])),((s.st.map (AH.kill [j])).set j (.rows t' (.int .u8) (xs++ys))).set id (.var [.self el,.row j])⟩=some r ->
            UV w w' b xs.length ys.length (φ j) el t' ((xs++ys).map (.int .u8))->next (act.put o.dst v) w':=fun ys w' v hk he=>by
           obtain ⟨φ',q1,q2,q3⟩:=Xu hs hid hj e1 he
           exact fin (s1:=⟨s.fr.map (Cq [j]),_⟩) hk q1 (hf.kill q2) trivial q3
          unfold YT at ha
          split at ha
          ·rename_i c hyc
           split at ha
           ·rename_i hk0
            cases ha
            have ey:act.eval y'=.int .u8 c:=vy.int hyc
            rw [ey]
            refine Calls.mono (B0 hk0 c (by simpa using hlim)) fun out w' hout=>?_
            obtain ⟨rv,rfl,he⟩:=hout
            exact done [c] w' rv hk he
           ·cases ha
          ·rename_i sv hyc
           split at ha
           ·rename_i hk1
            cases ha
            have ey:act.eval y'=.string sv:=vy.str hyc
            rw [ey]
            refine Calls.mono (B1 hk1 sv hlim) fun out w' hout=>?_
            obtain ⟨rv,rfl,he⟩:=hout
            exact done _ w' rv hk he
           ·cases ha
          ·cases ha
         ·cases hk
      ·cases h2
    ·cases hk
   ·cases hk
  ·cases hk
 ·cases hk
end Go.Proofs.Ytffahmnodgnohaa.Core

namespace Go.Proofs.Ytffahmnodgnohaa.Core
open Go
variable {P:Program}
def Yt (n:Nat) (o:Oper) (d:Nat) (f:Nat) (x:BS):Bool :=
 FS o n d&&(match o.op with
  | .makeFunc (.func g) first caps=>g==f&&first.toList.isEmpty&&(match caps.toList with | [y]=>Bw y x | _=>false)
  | _=>false)
theorem Zo {n:Nat} {o:Oper} {d f:Nat} {K:Kd} {x:BS} {cal:Cz} (h:Yt n o d f x=true):ET P n o (.clo d f K x) cal:=by
 intro ρ kn r s act w H φ next Q hs hf hn hk hnext
 simp only [Yt,AD] at h
 obtain ⟨h1,h2⟩:=h
 obtain ⟨hd,hdn⟩:=BC h1
 split at h2
 ·rename_i g first caps ho
  simp only [AD,beq_iff_eq,List.isEmpty_iff] at h2
  obtain ⟨⟨rfl,hfi⟩,h2⟩:=h2
  split at h2
  ·rename_i y hc
   have hfi:first=#[]:=by rw [<- Array.toArray_toList (xs:=first),hfi]
   have hc:caps=#[y]:=by rw [<- Array.toArray_toList (xs:=caps),hc]
   subst hfi hc
   have hv:=An hf h2
   simp only [CN] at hk
   split at hk
   ·rename_i cs hx
    rw [hx] at hv
    cases hz:K.ofCells cs with
    | none=>rw [hz] at hk; cases hk
    | some z =>
     rw [hz] at hk
     simp only [Z] at hk
     obtain ⟨b,o',c,el,fz,e,hb,vs,v1,v2⟩:=hv
     obtain ⟨c1,c2,d1,d2,d3⟩:=Dd K v1 (DI hz)
     cases d3
     rw [List.append_nil] at d1
     subst d1
     refine plain_ok hs hf hn hd hdn hk (v:=.func (.func g) #[] #[act.eval y]) (fun w2 _=>by simp [execOp,ho,Instr.makeFunc]) ?_ hnext
     exact ⟨b,o',c,el,fz,by rw [e]; rfl,hb,vs,d2,v2⟩
   ·cases hk
  ·cases h2
 ·cases h2
def Xv (n:Nat) (o:Oper) (d:Nat) (x:BS):Bool :=
 FS o n d&&(match o.op with | .box _ y=>Bw y x | _=>false)
theorem Yu {n:Nat} {o:Oper} {d:Nat} {x:BS} {cal:Cz} (h:Xv n o d x=true):ET P n o (.fbox d x) cal:=by
 intro ρ kn r s act w H φ next Q hs hf hn hk hnext
 simp only [Xv,AD] at h
 obtain ⟨h1,h2⟩:=h
 obtain ⟨hd,hdn⟩:=BC h1
 split at h2
 ·rename_i t y ho
  simp only [CN] at hk
  cases hq:s.keepAll (s.opd x).cells with
  | none=>rw [hq] at hk; cases hk
  | some z =>
   obtain ⟨aw,s1⟩:=z
   rw [hq] at hk
   simp only [Z] at hk
   obtain ⟨H1,g1,k1,f1,e1,_⟩:=F5 hs (An hf h2) hq
   obtain ⟨H2,g2,hb2⟩:=AP.lit g1.sr (.cells (act.eval y).cells t)
   refine FZ (s:=s) (s1:=s1) (a:=.fptr aw 0) (v:=.pointer (some ⟨w.heap.size,0,none⟩)) (g1.trans g2) ?_ hn hd hdn hk ?_ ?_ hnext (SD.grown hs (World.grownBy_alloc w _ none)) rfl
   ·rw [e1]; exact (hf.mono g1.le k1).mono g2.le (A_.refl _ _ _)
   ·simp [execOp,ho,Instr.box,newVar,newRow]
   ·exact ⟨w.heap.size,0,_,t,(0,0),rfl,hb2,_,f1.mono g2.le,fun j u hu=>by simpa using hu⟩
 ·cases h2
def Yv (n:Nat) (o:Oper) (d:Nat) (x y:BS):Bool :=
 FS o n d&&(match o.op with
  | .call ⟨.builtin .min,args,_⟩=>(match args.toList with
   | [a,b]=>Bw a x&&Bw b y
   | _=>false)
  | _=>false)
theorem Zp {n:Nat} {o:Oper} {d:Nat} {x y:BS} {cal:Cz} (h:Yv n o d x y=true):ET P n o (.min d x y) cal:=by
 intro ρ kn r s act w H φ next Q hs hf hn hk hnext
 simp only [Yv,AD] at h
 obtain ⟨h1,h2⟩:=h
 obtain ⟨hd,hdn⟩:=BC h1
 split at h2
 ·rename_i args tys ho
  split at h2
  ·rename_i a b ha
   simp only [AD] at h2
   have ha:args=#[a,b]:=by rw [<- Array.toArray_toList (xs:=args),ha]
   subst ha
   have va:=An hf h2.1
   have vb:=An hf h2.2
   simp only [CN] at hk
   split at hk
   ·rename_i k u k' v hx hy
    rw [hx] at va
    rw [hy] at vb
    split at hk
    ·rename_i e
     subst e
     have va:act.eval a=.int k u:=va
     have vb:act.eval b=.int k v:=vb
     refine plain_ok hs hf hn hd hdn hk (v:=.int k (min u v)) (fun w2 _=>?_) rfl hnext
     have hm:(if v<u then v else u)=min u v:=by
      rw [Int.min_def]
      split<;>split<;>omega
     simp [execOp,ho,resolve,invoke,builtin,Builtin.min_,Builtin.min2,va,vb,hm]
    ·cases hk
   ·cases hk
  ·cases h2
 ·cases h2
def Zq (P:Program) (n:Nat) (o:Oper) (d:Nat) (t:TypeId) (x:BS):Bool :=
 FS o n d&&(match o.op with
  | .convert src dst y=>Bw y x&&SY P src&&(match P.underlying dst with | some (.slice e)=>e==t&&(match P.underlying e with | some (.int .u8)=>true | _=>false) | _=>false)
  | _=>false)
theorem Zr {n:Nat} {o:Oper} {d:Nat} {t:TypeId} {x:BS} {cal:Cz} (h:Zq P n o d t x=true):ET P n o (.stb d t x) cal:=by
 intro ρ kn r s act w H φ next Q hs hf hn hk hnext
 simp only [Zq,AD] at h
 obtain ⟨h1,h2⟩:=h
 obtain ⟨hd,hdn⟩:=BC h1
 split at h2
 ·rename_i src dst y ho
  simp only [AD] at h2
  obtain ⟨⟨hy,hsrc⟩,h2⟩:=h2
  split at h2
  ·rename_i e hdst
   simp only [AD,beq_iff_eq] at h2
   obtain ⟨rfl,h2⟩:=h2
   have he:P.underlying e=some (.int .u8):=by
    split at h2
    ·assumption
    ·cases h2
   have vy:=An hf hy
   simp only [CN] at hk
   split at hk
   ·rename_i b hx
    rw [hx] at vy
    have vy:act.eval y=.string b:=vy
    have hrun:=Lib.run_convert_string_bytes (P:=P) w src dst e b (Kp hsrc) hdst he
    have hg:w.grownBy (Lib.bytesWorld w e b) none:=⟨by unfold Lib.bytesWorld; rfl,by unfold Lib.bytesWorld; rfl,by unfold Lib.bytesWorld; rfl,by rw [Lib.bytesWorld_size]; omega,fun k hk _=>Lib.bytesWorld_at_old w e b k hk⟩
    have hl:(KT b).length=b.size:=by simp [KT]
    have hbs:b.size<=(Lib.bytesCells w e b).size:=by
     simp only [Lib.bytesCells,Array.size_append,Array.size_map]
     have:b.data.size=b.size:=rfl
     omega
    have hst:=AP.push (v:=.slice (some ⟨w.heap.size,0,none⟩) b.size (grownCap w b.size 0 e)) (bx:=.byt e (KT b)) hs hg
     ⟨w.heap.size,_,_,_,by rw [hl],Lib.bytesWorld_at_new w e b,by rw [hl]; exact hbs,by rw [hl]; exact grownCap_ge w b.size 0 e,fun j x hx=>by
      have hj:j<b.data.size:=by have:=(AT.1 hx).1; rw [hl] at this; exact this
      simp only [Lib.bytesCells]
      rw [Array.getElem?_append_left (by simpa using hj),Array.getElem?_map]
      simp only [KT,BT,Array.getElem?_toList] at hx
      cases hq:b.data[j]? with
      | none=>rw [hq] at hx; cases hx
      | some u=>rw [hq] at hx; cases hx; rfl⟩
     (fun _ q hq=>by simp only [BQ] at hq; omega) (fun cs e=>by cases e)
    refine FZ (s:=s) (s1:=⟨s.fr,s.st++[.byt e (KT b)]⟩) (a:=.row s.st.length) (v:=.slice (some ⟨w.heap.size,0,none⟩) b.size (grownCap w b.size 0 e)) hst (hf.mono (HP.le_refl H) (CO φ s.st _ _)) hn hd hdn hk
     (by simp [execOp,ho,vy,hrun]) ⟨by simp [hdr],by simp [AE]⟩ hnext (SD.grown hs hg) rfl
   ·cases hk
  ·cases h2
 ·cases h2

def SI (P:Program) (n:Nat) (o:Oper):Cj->Bool
 | .mv d x=>aM n o d x
 | .nilrow d _ _=>UO n o d
 | .pick d c a b=>RN n o d c a b
 | .sc _ _ _ _ _ _=>false
 | .alloc d cs=>SV P n o d cs
 | .box d x _=>ZY n o d x
 | .build d z qs=>UT P n o d z qs
 | .bnew d z qs=>Xh P n o d z qs
 | .brow d e K qs=>Zj P n o d K qs e
 | .blst d K qs=>(match o.op with | .buildSlice t _ _=>Zj P n o d K qs (P.elem t) | _=>false)
 | .load d x m=>SW P n o d x m
 | .store x y m _=>Vq P o x y m
 | .nilc d x=>WJ n o d x
 | .bin d b x y=>Ye n o d b x y
 | .eqs d neg K x y=>Yf P n o d neg K x y
 | .un d u x=>aN n o d u x
 | .cvi d k x=>Yc P n o d k x
 | .bts d x=>Zh P n o d x
 | .fld d x off=>Yb P n o d x off
 | .field d x off m=>UQ P n o d x off m
 | .idx d z x i=>Yj P n o d z x i
 | .sidx d x i=>WM P n o d x i
 | .aidx d m x i=>WN P n o d m x i
 | .sl d z x lo hi=>aP P n o d z x lo hi
 | .mk d e K m=>aU P n o d e K m
 | .fn d f caps=>aO n o d f caps
 | .clo d f _ x=>Yt n o d f x
 | .fbox d x=>Xv n o d x
 | .min d x y=>Yv n o d x y
 | .app d e K a b=>W7 P n o d e K a b
 | .apz d e K a b=>W7 P n o d e K a b
 | .len d t x=>Yg P n o d t x
 | .call d f args _=>RQ n o d f args
 | .icall _ _ d f args _=>RQ n o d f args
 | .bld d k f _ x y=>Zm n o d k f x y
 | .stb d t x=>Zq P n o d t x
 | .ext d x i=>Yd n o d x i
theorem Sj {n:Nat} {o:Oper} {ao:Cj} {cal:Cz} (hcal:D8 P cal) (h:SI P n o ao=true):ET P n o ao cal:=by
 cases ao with
 | mv d x=>exact Z3 h
 | nilrow d t K=>exact Wx h
 | pick d c a b=>exact YY h
 | sc c w ops d a b=>cases h
 | alloc d cs=>exact XZ h
 | box d x own=>exact ZZ h
 | build d z qs=>exact Xg h
 | bnew d z qs=>exact Yk h
 | brow d e K qs=>exact Yl h
 | blst d K qs =>
  simp only [SI] at h
  split at h
  ·exact Ym h
  ·cases h
 | load d x m=>exact YZ h
 | store x y m own=>exact Xa h
 | nilc d x=>exact Ya h
 | bin d b x y=>exact Zd h
 | eqs d neg K x y=>exact Ze h
 | un d u x=>exact Z4 h
 | cvi d k x=>exact Zb h
 | bts d x=>exact Zi h
 | fld d x off=>exact Za h
 | field d x off m=>exact Xb h
 | idx d z x i=>exact Zg h
 | sidx d x i=>exact Yh h
 | aidx d m x i=>exact Yi h
 | sl d z x lo hi=>exact Z6 h
 | mk d e K m=>exact Z7 h
 | fn d f caps=>exact Z5 h
 | clo d f K x=>exact Zo h
 | fbox d x=>exact Yu h
 | min d x y=>exact Zp h
 | app d e K a b=>exact Zk h
 | apz d e K a b=>exact Zl h
 | len d t x=>exact Zf h
 | call d f args res=>exact Ys hcal h
 | icall n0 rd d f args res=>exact Xt hcal h
 | bld d k f t x y=>exact Zn hcal h
 | stb d t x=>exact Zr h
 | ext d x i=>exact Zc h
def Re (ops:Array Oper) (j:Nat):Option Nat:=(ops[j]?).bind (·.dst)
def VG (P:Program) (n:Nat) (ops:Array Oper) (g:Option (Nat×Bool)) (i:Nat) (ao:Cj):Option Nat :=
 match ops[i]? with
 | some o=>if (decide (o.guard=g)&&SI P n o ao&&decide (o.dst.toList=ao.dsts)&&ao.dsts.all (fun d=>decide (d<n)))=true then some (i+1) else none
 | none=>none
mutual
def NQ (P:Program) (n:Nat) (ops:Array Oper) (g:Option (Nat×Bool)):List Nat->Nat->List Cj->Option Nat
 | _,i,[]=>some i
 | D,i,ao::aos=>(Pi P n ops g D i ao).bind fun i'=>NQ P n ops g (ao.dsts++D) i' aos
def Pi (P:Program) (n:Nat) (ops:Array Oper) (g:Option (Nat×Bool)) (D:List Nat) (i:Nat):Cj->Option Nat
 | .sc c want sub d a b =>
  match (ops[i]?).bind (·.guard) with
  | some (j,w)=>if (w==want&&Re ops j==some c&&!(Cr sub).contains c&&(g.isNone||D.contains c))=true then
    (NQ P n ops (some (j,w)) [] i sub).bind fun i'=>match ops[i']? with
     | some o=>if (decide (o.guard=g)&&RN n o d (.t c) a b)=true then some (i'+1) else none
     | none=>none
   else none
  | none=>none
 | ao=>VG P n ops g i ao
end
def aQ (ops:Array Oper) (tmps:Array Value):Option (Nat×Bool)->Prop
 | none=>True
 | some (j,w)=>∃ c,Re ops j=some c/\tmps[c]? = some (.bool w)
theorem Is {ops:Array Oper} {o:Oper} {tmps:Array Value} {g:Option (Nat×Bool)} (hg:o.guard=g) (h:aQ ops tmps g):Region.wanted o (yielded ops tmps)=true:=by
 unfold Region.wanted
 rw [hg]
 cases g with
 | none=>rfl
 | some p =>
  obtain ⟨j,w⟩:=p
  obtain ⟨c,h1,h2⟩:=h
  have:yielded ops tmps j=some w:=by
   unfold yielded
   unfold Re at h1
   rw [h1,Z,h2]
  simp [this]
theorem OL {ops:Array Oper} {o:Oper} {tmps:Array Value} {j c:Nat} {w:Bool} (hg:o.guard=some (j,w)) (hc:Re ops j=some c) (h:tmps[c]? ≠ some (.bool w)):Region.wanted o (yielded ops tmps)=false:=by
 unfold Region.wanted
 rw [hg]
 have:yielded ops tmps j≠some w:=by
  unfold yielded
  unfold Re at hc
  rw [hc,Z]
  intro e
  split at e
  ·rename_i b hb
   cases e
   exact h hb
  ·cases e
 simpa using this
theorem Fs {act:Act} {dst:Option Tmp} {v:Value} {t:Nat} (h:dst≠some t):(act.put dst v).tmps[t]? = act.tmps[t]? := by
 cases dst with
 | none=>rfl
 | some d =>
  have:d≠t:=fun e=>h (by rw [e])
  simp [Act.put,Array.getElem?_setIfInBounds,this]
theorem EH {act:Act} {dst:Option Tmp} {v:Value}:(act.put dst v).tmps.size=act.tmps.size:=by
 cases dst<;>simp [Act.put]
theorem Df {act:Act} {dst:Option Tmp} {v:Value}:(act.put dst v).defers=act.defers:=by
 cases dst<;>rfl
theorem NM {act:Act} {d:Nat}:(act.put (some d) undef).tmps.getD d undef=undef:=by
 rcases BI d act.tmps.size with h | h<;>simp [Act.put,Array.getD,h]
theorem Sk {ops:Array Oper} {Q:Exit->Act->World->Prop} {i:Nat} {rest:List Nat} {act:Act} {w:World} {o:Oper} (ho:ops[i]? = some o) (hw:Region.wanted o (yielded ops act.tmps)=true)
  (h:o.wp P act w (wpOps P ops Q rest) Q):wpOps P ops Q (i::rest) act w:=by
 simp only [wpOps,ho,hw,if_true]
 exact .inl h
theorem Sl {ops:Array Oper} {Q:Exit->Act->World->Prop} {i:Nat} {rest:List Nat} {act:Act} {w:World} {o:Oper} (ho:ops[i]? = some o) (hw:Region.wanted o (yielded ops act.tmps)=false)
  (h:wpOps P ops Q rest (act.put o.dst undef) w):wpOps P ops Q (i::rest) act w:=by
 simp only [wpOps,ho,hw,Bool.false_eq_true,if_false]
 exact h
theorem Jq {i j k:Nat} (h1:i<=j) (h2:j<=k):List.range' i (k-i)=List.range' i (j-i)++List.range' j (k-j):=by
 have:=List.range'_append (s:=i) (m:=j-i) (n:=k-j) (step:=1)
 rw [Nat.one_mul,show i+(j-i)=j by omega,show j-i+(k-j)=k-i by omega] at this
 exact this.symm
theorem Qi {n:Nat} {ops:Array Oper} {g:Option (Nat×Bool)} {i m:Nat} {ao:Cj} (h:VG P n ops g i ao=some m) :
  m=i+1/\∃ o,ops[i]? = some o/\o.guard=g/\SI P n o ao=true/\o.dst.toList=ao.dsts/\∀ d∈ao.dsts,d<n:=by
 unfold VG at h
 cases ho:ops[i]? with
 | none=>rw [ho] at h; cases h
 | some o =>
  rw [ho] at h
  simp only at h
  split at h
  ·rename_i hb
   simp only [AD,decide_eq_true_eq,Ax] at hb
   cases h
   exact ⟨rfl,o,rfl,hb.1.1.1,hb.1.1.2,hb.1.2,hb.2⟩
  ·cases h
theorem UW {n:Nat} {ops:Array Oper} {g:Option (Nat×Bool)} {D:List Nat} {i m c d:Nat} {want:Bool} {sub:List Cj} {a b:BS} (h:Pi P n ops g D i (.sc c want sub d a b)=some m) :
  ∃ j i',Re ops j=some c/\c∉Cr sub/\(g.isNone=true\/c∈D)/\NQ P n ops (some (j,want)) [] i sub=some i'/\m=i'+1/\∃ o,ops[i']? = some o/\o.guard=g/\RN n o d (.t c) a b=true:=by
 simp only [Pi] at h
 split at h
 ·rename_i j w hj
  split at h
  ·rename_i hb
   simp only [AD,beq_iff_eq,DH,Ez,List.contains_eq_mem,decide_eq_false_iff_not,decide_eq_true_eq] at hb
   obtain ⟨⟨⟨rfl,h2⟩,h3⟩,h4⟩:=hb
   cases hs:NQ P n ops (some (j,w)) [] i sub with
   | none=>rw [hs] at h; cases h
   | some i' =>
    rw [hs] at h
    simp only [Z] at h
    split at h
    ·rename_i o ho
     split at h
     ·rename_i hp
      simp only [AD,decide_eq_true_eq] at hp
      cases h
      exact ⟨j,i',h2,h3,h4,hs,rfl,o,ho,hp.1,hp.2⟩
     ·cases h
    ·cases h
  ·cases h
 ·cases h
mutual
theorem Qj {n:Nat} {ops:Array Oper}:∀ (aos:List Cj) (g:Option (Nat×Bool)) (D:List Nat) (i i':Nat),NQ P n ops g D i aos=some i'->i<=i'
 | [],g,D,i,i',h=>by simp only [NQ,Af] at h; omega
 | ao::aos,g,D,i,i',h=>by
  simp only [NQ] at h
  cases hi:Pi P n ops g D i ao with
  | none=>rw [hi] at h; cases h
  | some m =>
   rw [hi] at h
   exact Nat.le_trans (Nat.le_of_lt (UX ao g D i m hi)) (Qj aos _ _ _ _ h)
theorem UX {n:Nat} {ops:Array Oper}:∀ (ao:Cj) (g:Option (Nat×Bool)) (D:List Nat) (i m:Nat),Pi P n ops g D i ao=some m->i<m
 | .sc c want sub d a b,g,D,i,m,h=>by
  obtain ⟨j,i',_,_,_,hs,rfl,_⟩:=UW h
  have:=Qj sub _ _ _ _ hs
  omega
 | .mv ..,g,D,i,m,h | .nilrow ..,g,D,i,m,h | .pick ..,g,D,i,m,h | .alloc ..,g,D,i,m,h | .box ..,g,D,i,m,h | .build ..,g,D,i,m,h | .bnew ..,g,D,i,m,h | .brow ..,g,D,i,m,h
 | .blst ..,g,D,i,m,h | .load ..,g,D,i,m,h | .store ..,g,D,i,m,h | .nilc ..,g,D,i,m,h | .bin ..,g,D,i,m,h | .eqs ..,g,D,i,m,h | .un ..,g,D,i,m,h
 | .cvi ..,g,D,i,m,h | .bts ..,g,D,i,m,h | .fld ..,g,D,i,m,h | .field ..,g,D,i,m,h | .idx ..,g,D,i,m,h | .sidx ..,g,D,i,m,h | .aidx ..,g,D,i,m,h | .sl ..,g,D,i,m,h
 | .mk ..,g,D,i,m,h | .fn ..,g,D,i,m,h | .clo ..,g,D,i,m,h | .fbox ..,g,D,i,m,h | .min ..,g,D,i,m,h | .app ..,g,D,i,m,h | .apz ..,g,D,i,m,h | .len ..,g,D,i,m,h | .call ..,g,D,i,m,h | .icall ..,g,D,i,m,h | .bld ..,g,D,i,m,h | .stb ..,g,D,i,m,h | .ext ..,g,D,i,m,h=>by
  have:=(Qi (ao:=_) h).1
  omega
end
def Zs (act act':Act) (ds:List Nat):Prop:=act'.tmps.size=act.tmps.size/\act'.defers=act.defers/\(∀ t,t∉ds->act'.tmps[t]? = act.tmps[t]?)/\(∀ t,act.tmps.getD t undef=undef->act'.tmps.getD t undef=undef)/\(∀ t∈ds,act'.tmps.getD t undef=undef)
theorem W_ {n:Nat} {ops:Array Oper} {j c:Nat} {w:Bool} (hc:Re ops j=some c) {Q:Exit->Act->World->Prop} {wd:World} {ao:Cj} {i m:Nat} {rest:List Nat} {act:Act} (h:VG P n ops (some (j,w)) i ao=some m)
  (hn:act.tmps[c]? ≠ some (.bool w)) (hk:∀ act',Zs act act' ao.dsts->wpOps P ops Q rest act' wd):wpOps P ops Q (List.range' i (m-i)++rest) act wd:=by
 obtain ⟨rfl,o,ho,hg,_,hds,hlt⟩:=Qi h
 rw [show i+1-i=1 by omega]
 refine Sl ho (OL hg hc hn) (hk _ ⟨EH,Df,fun t ht=>Fs fun e=>ht ?_,fun t ht=>?_,fun t ht=>?_⟩)
 ·rw [<- hds,e]; simp
 ·cases hd:o.dst with
  | none=>exact ht
  | some d =>
   by_cases e:d=t
   ·subst e; exact NM
   ·have:=Fs (act:=act) (dst:=some d) (v:=undef) (t:=t) (by simpa using e)
    simpa [Array.getD_eq_getD_getElem?,this] using ht
 ·rw [<- hds] at ht
  cases hd:o.dst with
  | none=>rw [hd] at ht; simp at ht
  | some d =>
   rw [hd] at ht
   simp at ht
   subst ht
   exact NM
mutual
theorem Sm {n:Nat} {ops:Array Oper} {j c:Nat} {w:Bool} (hc:Re ops j=some c) {Q:Exit->Act->World->Prop} {wd:World}:∀ (aos:List Cj) (D:List Nat) (i i':Nat) (rest:List Nat) (act:Act),NQ P n ops (some (j,w)) D i aos=some i' ->
  act.tmps[c]? ≠ some (.bool w)->c∉Cr aos->(∀ t∈D,act.tmps.getD t undef=undef) ->
  (∀ act',Zs act act' (Cr aos)->wpOps P ops Q rest act' wd)->wpOps P ops Q (List.range' i (i'-i)++rest) act wd
 | [],D,i,i',rest,act,h,hn,hd,hD,hk=>by
  simp only [NQ,Af] at h
  subst h
  simp only [Nat.sub_self,List.range'_zero,List.nil_append]
  exact hk act ⟨rfl,rfl,fun _ _=>rfl,fun _ h=>h,fun t ht=>by simp [Cr] at ht⟩
 | ao::aos,D,i,i',rest,act,h,hn,hd,hD,hk=>by
  simp only [NQ] at h
  cases hi:Pi P n ops (some (j,w)) D i ao with
  | none=>rw [hi] at h; cases h
  | some m =>
   rw [hi] at h
   simp only [Z] at h
   simp only [Cr,Am,not_or] at hd
   rw [Jq (Nat.le_of_lt (UX ao _ _ _ _ hi)) (Qj aos _ _ _ _ h),CL]
   refine XA hc (Q:=Q) (wd:=wd) ao D i m (List.range' m (i'-m)++rest) act hi hn hd.1 hD fun act1 l1=>?_
   refine Sm hc (Q:=Q) (wd:=wd) aos (ao.dsts++D) m i' rest act1 h (by rw [l1.2.2.1 c hd.1]; exact hn) hd.2 (fun t ht=>?_) fun act2 l2=>?_
   ·rcases Am.1 ht with ht | ht
    ·exact l1.2.2.2.2 t ht
    ·exact l1.2.2.2.1 t (hD t ht)
   ·refine hk act2 ⟨l2.1.trans l1.1,l2.2.1.trans l1.2.1,fun t ht=>?_,fun t ht=>l2.2.2.2.1 t (l1.2.2.2.1 t ht),fun t ht=>?_⟩
    ·simp only [Cr,Am,not_or] at ht
     rw [l2.2.2.1 t ht.2,l1.2.2.1 t ht.1]
    ·simp only [Cr,Am] at ht
     rcases ht with ht | ht
     ·exact l2.2.2.2.1 t (l1.2.2.2.2 t ht)
     ·exact l2.2.2.2.2 t ht
theorem XA {n:Nat} {ops:Array Oper} {j c:Nat} {w:Bool} (hc:Re ops j=some c) {Q:Exit->Act->World->Prop} {wd:World}:∀ (ao:Cj) (D:List Nat) (i m:Nat) (rest:List Nat) (act:Act),Pi P n ops (some (j,w)) D i ao=some m ->
  act.tmps[c]? ≠ some (.bool w)->c∉ao.dsts->(∀ t∈D,act.tmps.getD t undef=undef) ->
  (∀ act',Zs act act' ao.dsts->wpOps P ops Q rest act' wd)->wpOps P ops Q (List.range' i (m-i)++rest) act wd
 | .sc c2 want sub d a b,D,i,m,rest,act,h,hn,hd,hD,hk=>by
  obtain ⟨j2,i',hg2,hcn,hcD,hs,rfl,o,ho,hgo,hp⟩:=UW h
  simp only [Cj.dsts,Am,not_or] at hd
  have hc2:act.tmps.getD c2 undef=undef:=by
   rcases hcD with h | h
   ·cases h
   ·exact hD c2 h
  have hle:=Qj sub _ _ _ _ hs
  have hpd:o.dst=some d/\d<n:=by
   simp only [RN,AD] at hp
   exact BC hp.1
  have hnb:act.tmps[c2]? ≠ some (.bool want):=by
   intro e
   rw [Array.getD_eq_getD_getElem?,e] at hc2
   cases hc2
  rw [Jq hle (Nat.le_succ i'),CL]
  refine Sm hg2 (Q:=Q) (wd:=wd) sub [] i i' _ act hs hnb hcn (fun t ht=>by cases ht) fun act1 l1=>?_
  rw [show i'+1-i'=1 by omega]
  refine Sl ho (OL hgo hc (by rw [l1.2.2.1 c hd.1]; exact hn)) (hk _ ⟨EH.trans l1.1,Df.trans l1.2.1,fun t ht=>?_,fun t ht=>?_,fun t ht=>?_⟩)
  ·simp only [Cj.dsts,Am,not_or,CM] at ht
   rw [Fs (by rw [hpd.1]; intro e; cases e; exact ht.2 rfl)]
   exact l1.2.2.1 t ht.1
  ·rw [hpd.1]
   by_cases e:d=t
   ·subst e; exact NM
   ·have:=Fs (act:=act1) (dst:=some d) (v:=undef) (t:=t) (by simpa using e)
    have h2:=l1.2.2.2.1 t ht
    simpa [Array.getD_eq_getD_getElem?,this] using h2
  ·simp only [Cj.dsts,Am,CM] at ht
   rw [hpd.1]
   by_cases e:d=t
   ·subst e; exact NM
   ·have:=Fs (act:=act1) (dst:=some d) (v:=undef) (t:=t) (by simpa using e)
    have h2:=l1.2.2.2.2 t (ht.resolve_right (Ne.symm e))
    simpa [Array.getD_eq_getD_getElem?,this] using h2
 | .mv ..,D,i,m,rest,act,h,hn,hd,hD,hk | .nilrow ..,D,i,m,rest,act,h,hn,hd,hD,hk | .pick ..,D,i,m,rest,act,h,hn,hd,hD,hk | .alloc ..,D,i,m,rest,act,h,hn,hd,hD,hk
 | .box ..,D,i,m,rest,act,h,hn,hd,hD,hk | .build ..,D,i,m,rest,act,h,hn,hd,hD,hk | .bnew ..,D,i,m,rest,act,h,hn,hd,hD,hk | .brow ..,D,i,m,rest,act,h,hn,hd,hD,hk | .blst ..,D,i,m,rest,act,h,hn,hd,hD,hk
 | .load ..,D,i,m,rest,act,h,hn,hd,hD,hk | .store ..,D,i,m,rest,act,h,hn,hd,hD,hk | .nilc ..,D,i,m,rest,act,h,hn,hd,hD,hk | .bin ..,D,i,m,rest,act,h,hn,hd,hD,hk
 | .eqs ..,D,i,m,rest,act,h,hn,hd,hD,hk | .un ..,D,i,m,rest,act,h,hn,hd,hD,hk | .cvi ..,D,i,m,rest,act,h,hn,hd,hD,hk | .bts ..,D,i,m,rest,act,h,hn,hd,hD,hk
 | .fld ..,D,i,m,rest,act,h,hn,hd,hD,hk | .field ..,D,i,m,rest,act,h,hn,hd,hD,hk | .idx ..,D,i,m,rest,act,h,hn,hd,hD,hk | .sidx ..,D,i,m,rest,act,h,hn,hd,hD,hk | .aidx ..,D,i,m,rest,act,h,hn,hd,hD,hk
 | .sl ..,D,i,m,rest,act,h,hn,hd,hD,hk | .mk ..,D,i,m,rest,act,h,hn,hd,hD,hk | .fn ..,D,i,m,rest,act,h,hn,hd,hD,hk | .clo ..,D,i,m,rest,act,h,hn,hd,hD,hk | .fbox ..,D,i,m,rest,act,h,hn,hd,hD,hk | .min ..,D,i,m,rest,act,h,hn,hd,hD,hk | .app ..,D,i,m,rest,act,h,hn,hd,hD,hk | .apz ..,D,i,m,rest,act,h,hn,hd,hD,hk
 | .len ..,D,i,m,rest,act,h,hn,hd,hD,hk | .call ..,D,i,m,rest,act,h,hn,hd,hD,hk | .icall ..,D,i,m,rest,act,h,hn,hd,hD,hk | .bld ..,D,i,m,rest,act,h,hn,hd,hD,hk | .stb ..,D,i,m,rest,act,h,hn,hd,hD,hk | .ext ..,D,i,m,rest,act,h,hn,hd,hD,hk=>W_ hc h hn hk
end
def aX (P:Program) (ops:Array Oper) (n:Nat) {ρ:Type} (kn:St->Option ρ) (r:ρ) (s:St) (act:Act) (w:World) (H:HP) (φ:BF) (ds:List Nat) (N:Act->World->Prop):Prop :=
 ∀ s' act' w' H' φ',kn s'=some r->AP H φ s.st w H' φ' s'.st w'->Ca H' φ' s'.st s'.fr act'.tmps->act'.tmps.size=n->act'.defers=act.defers->(∀ t,t∉ds->act'.tmps[t]? = act.tmps[t]?)->N act' w'
def Vx (P:Program) (n:Nat) (ops:Array Oper) (g:Option (Nat×Bool)) (cal:Cz) (ds:List Nat) (i m:Nat) (run:(ρ:Type)->(St->Option ρ)->St->Option ρ):Prop :=
 ∀ (ρ:Type) (kn:St->Option ρ) (r:ρ) (s:St) (act:Act) (w:World) (H:HP) (φ:BF) (Q:Exit->Act->World->Prop) (rest:List Nat),
  SR H φ s.st w->Ca H φ s.st s.fr act.tmps->act.tmps.size=n->aQ ops act.tmps g->(∀ j w c,g=some (j,w)->Re ops j=some c->c∉ds)->run ρ kn s=some r ->
  aX P ops n kn r s act w H φ ds (wpOps P ops Q rest)->wpOps P ops Q (List.range' i (m-i)++rest) act w
theorem BA {n:Nat} {ops:Array Oper} {g:Option (Nat×Bool)} {cal:Cz} (hcal:D8 P cal) {ao:Cj} {i m:Nat} (h:VG P n ops g i ao=some m) :
  Vx P n ops g cal ao.dsts i m fun ρ kn s=>CN cal kn s ao:=by
 intro ρ kn r s act w H φ Q rest hs hf hn hm _ hk hnext
 obtain ⟨rfl,o,ho,hg,hb,hds,hlt⟩:=Qi h
 rw [show i+1-i=1 by omega]
 refine Sk ho (Is hg hm) (Sj hcal hb ρ kn r s act w H φ _ Q hs hf hn hk fun s' v w' H' φ' hk' hst hf' _=>?_)
 refine hnext s' _ w' H' φ' hk' hst hf' (EH.trans hn) Df fun t ht=>Fs fun e=>ht ?_
 rw [<- hds,e]
 simp
mutual
theorem Vy {n:Nat} {ops:Array Oper} {cal:Cz} (hcal:D8 P cal):∀ (aos:List Cj) (g:Option (Nat×Bool)) (D:List Nat) (i m:Nat),NQ P n ops g D i aos=some m->Vx P n ops g cal (Cr aos) i m fun ρ kn s=>QR cal kn s aos
 | [],g,D,i,m,h=>by
  intro ρ kn r s act w H φ Q rest hs hf hn hm hd hk hnext
  simp only [NQ,Af] at h
  subst h
  simp only [Nat.sub_self,List.range'_zero,List.nil_append]
  simp only [QR] at hk
  exact hnext s act w H φ hk (AP.refl hs) hf hn rfl fun _ _=>rfl
 | ao::aos,g,D,i,m,h=>by
  intro ρ kn r s act w H φ Q rest hs hf hn hm hd hk hnext
  simp only [NQ] at h
  cases hi:Pi P n ops g D i ao with
  | none=>rw [hi] at h; cases h
  | some q =>
   rw [hi] at h
   simp only [Z] at h
   rw [Jq (Nat.le_of_lt (UX ao _ _ _ _ hi)) (Qj aos _ _ _ _ h),CL]
   have hd1:∀ j w c,g=some (j,w)->Re ops j=some c->c∉ao.dsts/\c∉Cr aos:=by
    intro j w c h1 h2
    have:=hd j w c h1 h2
    simpa [Cr,not_or] using this
   refine Yw hcal ao g D i q hi ρ (fun s'=>QR cal kn s' aos) r s act w H φ Q _ hs hf hn hm (fun j w c h1 h2=>(hd1 j w c h1 h2).1) (by simpa only [QR] using hk) fun s1 act1 w1 H1 φ1 hk1 st1 hf1 hn1 hd1' ht1=>?_
   have hm1:aQ ops act1.tmps g:=by
    cases g with
    | none=>trivial
    | some p =>
     obtain ⟨j,w⟩:=p
     obtain ⟨c,h1,h2⟩:=hm
     exact ⟨c,h1,by rw [ht1 c (hd1 j w c rfl h1).1]; exact h2⟩
   refine Vy hcal aos g (ao.dsts++D) q m h ρ kn r s1 act1 w1 H1 φ1 Q rest st1.sr hf1 hn1 hm1 (fun j w c h1 h2=>(hd1 j w c h1 h2).2) hk1 fun s2 act2 w2 H2 φ2 hk2 st2 hf2 hn2 hd2 ht2=>?_
   refine hnext s2 act2 w2 H2 φ2 hk2 (st1.trans st2) hf2 hn2 (hd2.trans hd1') fun t ht=>?_
   simp only [Cr,Am,not_or] at ht
   rw [ht2 t ht.2,ht1 t ht.1]
theorem Yw {n:Nat} {ops:Array Oper} {cal:Cz} (hcal:D8 P cal):∀ (ao:Cj) (g:Option (Nat×Bool)) (D:List Nat) (i m:Nat),Pi P n ops g D i ao=some m->Vx P n ops g cal ao.dsts i m fun ρ kn s=>CN cal kn s ao
 | .sc c want sub d a b,g,D,i,m,h=>by
  intro ρ kn r s act w H φ Q rest hs hf hn hm hd hk hnext
  obtain ⟨j,i',hg2,hcn,_,hseg,rfl,o,ho,hgo,hp⟩:=UW h
  have hle:=Qj sub _ _ _ _ hseg
  have hmet:∀ act':Act,(∀ t,t∉Cr sub->act'.tmps[t]? = act.tmps[t]?)->aQ ops act'.tmps g:=by
   intro act' ht
   cases g with
   | none=>trivial
   | some p =>
    obtain ⟨j,w⟩:=p
    obtain ⟨c,h1,h2⟩:=hm
    have:=hd j w c rfl h1
    simp only [Cj.dsts,Am,not_or] at this
    exact ⟨c,h1,by rw [ht c this.1]; exact h2⟩
  simp only [RN,AD] at hp
  obtain ⟨hpd,hp⟩:=hp
  obtain ⟨hod,hdn⟩:=BC hpd
  split at hp
  ·rename_i c' a' b' hop
   simp only [AD] at hp
   obtain ⟨⟨hc',ha'⟩,hb'⟩:=hp
   have hce:c'=.tmp c:=by
    cases c'<;>simp [Bw] at hc'
    rw [hc']
   subst hce
   simp only [CN] at hk
   have hfc:=hf c
   cases hgt:Cd s.fr c with
   | bool t =>
    rw [hgt] at hk hfc
    simp only at hk
    have hct:act.tmps[c]? = some (.bool t):=by
     have hfc:act.tmps.getD c undef=.bool t:=hfc
     rw [Array.getD_eq_getD_getElem?] at hfc
     cases hq:act.tmps[c]? with
     | none=>rw [hq] at hfc; cases hfc
     | some v=>rw [hq] at hfc; simpa using hfc
    rw [Jq hle (Nat.le_succ i'),CL]
    have last:∀ (s1:St) (act1:Act) (w1:World) (H1:HP) (φ1:BF) (x:AV),kn (s1.put d x)=some r->AP H φ s.st w H1 φ1 s1.st w1->Ca H1 φ1 s1.st s1.fr act1.tmps->act1.tmps.size=n->act1.defers=act.defers ->
      (∀ t,t∉Cr sub->act1.tmps[t]? = act.tmps[t]?)->x=(if t=true then s1.opd a else s1.opd b)->wpOps P ops Q (List.range' i' (i'+1-i')++rest) act1 w1:=by
     intro s1 act1 w1 H1 φ1 x hk1 st1 hf1 hn1 hdef1 ht1 hx
     rw [show i'+1-i'=1 by omega]
     have hc1:act1.eval (.tmp c)=.bool t:=by
      show act1.tmps.getD c undef=_
      rw [Array.getD_eq_getD_getElem?,ht1 c hcn,hct]
      rfl
     have hput:∀ v,(∀ u,u∉(Cj.sc c want sub d a b).dsts->(act1.put o.dst v).tmps[u]? = act.tmps[u]?):=by
      intro v u hu
      simp only [Cj.dsts,Am,not_or,CM] at hu
      rw [Fs (by rw [hod]; intro e; cases e; exact hu.2 rfl)]
      exact ht1 u hu.1
     refine Sk ho (Is hgo (hmet act1 ht1)) ?_
     have fin:∀ v,VA H1 φ1 s1.st x v->(execOp act1.eval o).run P w1=.ok (.value v) w1->o.wp P act1 w1 (wpOps P ops Q rest) Q:=by
      intro v hv hrun
      refine MP hrun (hnext (s1.put d x) _ w1 H1 φ1 hk1 st1 ?_ (EH.trans hn1) (Df.trans hdef1) (hput v))
      rw [Ip hod]
      exact hf1.put (by omega) hv
     cases t with
     | true=>exact fin _ (by rw [hx]; exact An hf1 ha') (by simp [execOp,hop,hc1,asBool])
     | false=>exact fin _ (by rw [hx]; exact An hf1 hb') (by simp [execOp,hop,hc1,asBool])
    by_cases htw:t=want
    ·subst htw
     rw [if_pos rfl] at hk
     refine Vy hcal sub (some (j,t)) [] i i' hseg ρ _ r s act w H φ Q _ hs hf hn ⟨c,hg2,hct⟩ (fun j2 w2 c2 e1 e2=>?_) hk fun s1 act1 w1 H1 φ1 hk1 st1 hf1 hn1 hdef1 ht1=>?_
     ·cases e1
      rw [hg2] at e2
      cases e2
      exact hcn
     ·exact last s1 act1 w1 H1 φ1 _ hk1 st1 hf1 hn1 hdef1 ht1 rfl
    ·rw [if_neg htw] at hk
     refine Sm hg2 sub [] i i' _ act hseg (by rw [hct]; intro e; cases e; exact htw rfl) hcn (fun t ht=>by cases ht) fun act1 l1=>?_
     refine last (s.forget (Cr sub)) act1 w H φ _ hk (AP.refl hs) ?_ (l1.1.trans hn) l1.2.1 l1.2.2.1 ?_
     ·intro u
      have:Cd (s.forget (Cr sub)).fr u=if u∈Cr sub then .undef else Cd s.fr u:=by
       simp only [St.forget]
       generalize Cr sub=ds
       induction ds with
       | nil=>simp
       | cons q qs ih =>
        simp only [List.map_cons,List.cons_append,Cd]
        by_cases e:q=u
        ·subst e; simp
        ·rw [if_neg e,ih]; simp [Ne.symm e]
      rw [this]
      split
      ·trivial
      ·rename_i hu
       have:=hf u
       rw [Array.getD_eq_getD_getElem?] at this ⊢
       rw [l1.2.2.1 u hu]
       exact this
     ·cases t<;>cases want<;>first | exact absurd rfl htw | rfl
   | _=>rw [hgt] at hk; cases hk
  ·cases hp
 | .mv ..,g,D,i,m,h=>BA hcal h
 | .nilrow ..,g,D,i,m,h=>BA hcal h
 | .pick ..,g,D,i,m,h=>BA hcal h
 | .alloc ..,g,D,i,m,h=>BA hcal h
 | .box ..,g,D,i,m,h=>BA hcal h
 | .build ..,g,D,i,m,h=>BA hcal h
 | .bnew ..,g,D,i,m,h=>BA hcal h
 | .brow ..,g,D,i,m,h=>BA hcal h
 | .blst ..,g,D,i,m,h=>BA hcal h
 | .load ..,g,D,i,m,h=>BA hcal h
 | .store ..,g,D,i,m,h=>BA hcal h
 | .nilc ..,g,D,i,m,h=>BA hcal h
 | .bin ..,g,D,i,m,h=>BA hcal h
 | .eqs ..,g,D,i,m,h=>BA hcal h
 | .un ..,g,D,i,m,h=>BA hcal h
 | .cvi ..,g,D,i,m,h=>BA hcal h
 | .bts ..,g,D,i,m,h=>BA hcal h
 | .fld ..,g,D,i,m,h=>BA hcal h
 | .field ..,g,D,i,m,h=>BA hcal h
 | .idx ..,g,D,i,m,h=>BA hcal h
 | .sidx ..,g,D,i,m,h=>BA hcal h
 | .aidx ..,g,D,i,m,h=>BA hcal h
 | .sl ..,g,D,i,m,h=>BA hcal h
 | .mk ..,g,D,i,m,h=>BA hcal h
 | .fn ..,g,D,i,m,h=>BA hcal h
 | .clo ..,g,D,i,m,h=>BA hcal h
 | .fbox ..,g,D,i,m,h=>BA hcal h
 | .min ..,g,D,i,m,h=>BA hcal h
 | .app ..,g,D,i,m,h=>BA hcal h
 | .apz ..,g,D,i,m,h=>BA hcal h
 | .len ..,g,D,i,m,h=>BA hcal h
 | .call ..,g,D,i,m,h=>BA hcal h
 | .icall ..,g,D,i,m,h=>BA hcal h
 | .bld ..,g,D,i,m,h=>BA hcal h
 | .stb ..,g,D,i,m,h=>BA hcal h
 | .ext ..,g,D,i,m,h=>BA hcal h
end
theorem XB {n:Nat} {ops:Array Oper} {cal:Cz} (hcal:D8 P cal) {aos:List Cj} {id:Nat} (h:NQ P n ops none [] 0 aos=some ops.size) {ρ:Type} {kn:St->Option ρ} {r:ρ} {s:St} {act:Act} {w:World} {H:HP} {φ:BF} {Q:Exit->Act->World->Prop}
  (hs:SR H φ s.st w) (hf:Ca H φ s.st s.fr act.tmps) (hn:act.tmps.size=n) (hk:QR cal kn s aos=some r)
  (hnext:∀ s' act' w' H' φ',kn s'=some r->AP H φ s.st w H' φ' s'.st w'->Ca H' φ' s'.st s'.fr act'.tmps->act'.tmps.size=n->act'.defers=act.defers->Q .normal act' w'):(Code.region id ops false).wp P Q act w:=by
 refine wp_region ?_
 have:=Vy hcal aos none [] 0 ops.size h ρ kn r s act w H φ Q [] hs hf hn trivial (fun _ _ _ e=>by cases e) hk fun s' act' w' H' φ' h1 h2 h3 h4 h5 _=>hnext s' act' w' H' φ' h1 h2 h3 h4 h5
 rw [List.append_nil,Nat.sub_zero,<- List.range_eq_range'] at this
 exact this

def Yx (P:Program) (o:Oper) (act:Act) (obj:Obj):Prop:=∀ w:World,(execOp act.eval o).run P w=.ok (.value (RO o.op w.heap.size)) (w.alloc obj)
structure OM (H:HP) (φ:BF) (st:List AH) (w:World) (b:Nat) (obj:Obj):Prop where
 held:w.heap[b]? = some obj
 out:H b=none
 sep:∀ j bx,st[j]? = some bx->bx.live=true->¬BQ (φ j) b
theorem OM.lt {H:HP} {φ:BF} {st:List AH} {w:World} {b:Nat} {obj:Obj} (h:OM H φ st w b obj):b<w.heap.size:=(Array.getElem?_eq_some_iff.1 h.held).1
theorem OM.step {H H':HP} {φ φ':BF} {st st':List AH} {w w':World} {b:Nat} {obj:Obj} (h:OM H φ st w b obj) (g:AP H φ st w H' φ' st' w'):OM H' φ' st' w' b obj:=by
 let φ0:BF:=fun j=>match st[j]? with
  | some bx=>if bx.live=true then φ j else .slice none 0 0
  | none=>.slice none 0 0
 have self:Fr 0 st.length H φ0 w H φ st w:=⟨rfl,rfl,rfl,Nat.le_refl _,fun _ _ _=>rfl,fun j hj=>absurd hj (Nat.not_lt_zero _),fun i bi hi hl b hb=>.inr ⟨i,(AT.1 hi).1,by simp only [φ0,hi,hl,if_true]; exact hb⟩,fun j hj=>absurd hj (Nat.not_lt_zero _),fun _ _ _=>rfl⟩
 have f:=g.fr 0 st.length H φ0 w self
 have hne:∀ j,j<st.length->¬BQ (φ0 j) b:=by
  intro j hj
  simp only [φ0]
  cases hi:st[j]? with
  | none=>simp [BQ]
  | some bx =>
   simp only
   split
   ·rename_i hl; exact h.sep j bx hi hl
   ·simp [BQ]
 refine ⟨(f.old b h.lt hne).trans h.held,(f.frz b h.lt hne).trans h.out,fun j bx hj hl e=>?_⟩
 rcases f.new j bx hj hl b e with h1 | ⟨k,hk,e2⟩
 ·have:=h.lt; omega
 ·exact hne k hk e2
theorem AP.size {H H':HP} {φ φ':BF} {st st':List AH} {w w':World} (g:AP H φ st w H' φ' st' w'):w.heap.size<=w'.heap.size :=
 (g.fr 0 st.length H φ w ⟨rfl,rfl,rfl,Nat.le_refl _,fun _ _ _=>rfl,fun j hj=>absurd hj (Nat.not_lt_zero _),fun i bi hi hl b hb=>.inr ⟨i,(AT.1 hi).1,hb⟩,fun j hj=>absurd hj (Nat.not_lt_zero _),fun _ _ _=>rfl⟩).size
theorem OM.alloc {H:HP} {φ:BF} {st:List AH} {w:World} (hs:SR H φ st w) (obj:Obj):OM H φ st (w.alloc obj) w.heap.size obj :=
 ⟨heap_alloc_new w obj,(hs.fresh (Nat.le_refl _)).1,(hs.fresh (Nat.le_refl _)).2⟩
theorem Qk {w:World} {a b:Obj} (h:w.alloc a=w.alloc b):a=b:=by
 have h1:=heap_alloc_new w a
 rw [h,heap_alloc_new w b] at h1
 exact (Option.some.inj h1).symm
theorem AP.adopt {Hb H:HP} {φb φ:BF} {stb st:List AH} {wb w:World} (hB:AP Hb φb stb wb H φ st w) {v:Value} {bx:AH} (hs:SR H (fun i=>if i=st.length then v else φ i) (st++[bx]) w)
  (hb:bx.live=true->∀ b,BQ v b->wb.heap.size<=b):AP Hb φb stb wb H (fun i=>if i=st.length then v else φ i) (st++[bx]) w where
 le:=hB.le
 sr:=hs
 fr mv m0 H0 φ0 w0 f:=by
  have g:=hB.fr mv m0 H0 φ0 w0 f
  refine ⟨g.os,g.tape,g.output,g.size,g.old,fun j hj=>?_,fun i bi hbi hl b hb'=>?_,fun j hj=>?_,g.frz⟩
  ·have:=GZ (g.vars j hj)
   rw [if_neg (by omega)]
   exact g.same j hj
  ·rcases Nat.lt_trichotomy i st.length with e | e | e
   ·rw [AZ e] at hbi
    simp only [Nat.ne_of_lt e,if_false] at hb'
    exact g.new i bi hbi hl b hb'
   ·subst e
    simp at hbi
    subst hbi
    simp only [if_true] at hb'
    exact .inl (Nat.le_trans f.size (hb hl b hb'))
   ·rw [Cb (by simp; omega)] at hbi; cases hbi
  ·have:=g.vars j hj
   have hl:=GZ this
   unfold AL at this ⊢
   rw [AZ hl]
   exact this
theorem AP.adoptH {Hb H:HP} {φb φ:BF} {stb st:List AH} {wb w:World} (hB:AP Hb φb stb wb H φ st w) {b:Nat} {obj:Obj} (hl:OM H φ st w b obj) (hb:wb.heap.size<=b) :
  ∃ H',AP Hb φb stb wb H' φ st w/\H' b=some obj/\H.le H'/\∀ b',b'≠b->H' b'=H b':=by
 have h:=hB.sr
 let H':HP:=fun b'=>if b'=b then some obj else H b'
 have hle:H.le H':=by
  intro b' o' hb'
  have:b'≠b:=fun e=>by rw [e,hl.out] at hb'; cases hb'
  simp only [H',this,if_false]
  exact hb'
 refine ⟨H',⟨HP.le_trans hB.le hle,⟨fun b' o' hb'=>?_,fun id bx hid=>?_,h.sep,fun i bi hi hlv b' hb'=>?_,h.cell,h.tb.le hle⟩,fun mv m0 H0 φ0 w0 f=>?_⟩,by simp [H'],hle,fun b' hne=>by simp [H',hne]⟩
 ·by_cases e:b'=b
  ·subst e
   simp only [H',if_true] at hb'
   rw [<- hb']
   exact hl.held
  ·simp only [H',e,if_false] at hb'
   exact h.hp b' o' hb'
 ·have:=h.box id bx hid
  cases bx with
  | var cs=>obtain ⟨b,c,el,e1,e2,e3⟩:=this; exact ⟨b,c,el,e1,e2,e3.imp fun _ _ h=>h.mono hle⟩
  | rows t' K' xs'=>exact Aj.mono hle this
  | mrow t' K' xs'=>exact Aj.mono hle this
  | byt t' xs'=>exact this
  | hole m t' K' xs' i q=>exact Aj.mono hle this
  | frz K' xs'=>obtain ⟨r',a'⟩:=this; exact ⟨GY (fun _ _ h=>C4.mono hle h) hle r',a'⟩
  | dead=>trivial
 ·have:b'≠b:=fun e=>by subst e; exact hl.sep i bi hi hlv hb'
  simp only [H',this,if_false]
  exact h.out i bi hi hlv b' hb'
 ·have g:=hB.fr mv m0 H0 φ0 w0 f
  refine { g with frz:=fun b' hb' hn=>?_ }
  have:=f.size
  have:b'≠b:=by omega
  simp only [H',this,if_false]
  exact g.frz b' hb' hn
theorem N3 {s:St}:∀ {cs:List AV},cs.all AV.solid=true->s.keepAll cs=some (cs,s)
 | [],_=>rfl
 | c::cs,h=>by
  simp only [List.all_cons,AD] at h
  have h1:s.keep c=some (c,s):=by
   have:=h.1
   cases c with
   | fn f caps=>cases caps<;>first | rfl | cases this
   | _=>first | rfl | (simp [AV.solid] at this)
  simp [St.keepAll,h1,N3 h.2]
theorem EQ {s:St}:∀ {aw:List AV},aw.all AV.firm=true->s.keepAlls aw=some (aw.map AV.cells,s)
 | [],_=>rfl
 | a::aw,h=>by
  simp only [List.all_cons,AD] at h
  have h1:a.cells.all AV.solid=true:=by
   have:=h.1
   cases a with
   | agg cs=>exact this
   | _=>simp only [AV.cells,List.all_cons,List.all_nil,Bool.and_true]; exact this
  simp [St.keepAlls,N3 h1,EQ h.2]
theorem RR {ao:Cj} (h:ao.isFloat=true):(∃ d cs,ao=.alloc d cs)\/(∃ d e K qs,ao=.brow d e K qs)\/(∃ d K qs,ao=.blst d K qs):=by
 cases ao<;>first | (simp [Cj.isFloat] at h; done) | exact .inl ⟨_,_,rfl⟩ | exact .inr (.inl ⟨_,_,_,_,rfl⟩) | exact .inr (.inr ⟨_,_,_,rfl⟩)
theorem WU {H:HP} {φ:BF} {s:St} {act:Act} {w:World} {n:Nat} {o:Oper} {d:Nat} {K:Kd} {qs:List BS} {e:TypeId} (h:Zj P n o d K qs e=true) (hs:SR H φ s.st w) (hf:Ca H φ s.st s.fr act.tmps)
  (hk:((qs.map s.opd).all AV.firm&&(K.ofs ((qs.map s.opd).map AV.cells)).isSome)=true):∃ obj,Yx P o act obj:=by
 simp only [AD] at hk
 obtain ⟨_,_,_,vs,e2,_,hb,hrun⟩:=Sd h hf
 obtain ⟨H1,g1,k1,f1,_,_⟩:=EO hs e2 (EQ hk.1)
 obtain ⟨xs,hx⟩:=Option.isSome_iff_exists.1 hk.2
 obtain ⟨_,_,s1'⟩:=Qd K f1 hx
 exact ⟨_,fun w=>by rw [hb]; exact hrun s1' w⟩
theorem Yy {H:HP} {φ:BF} {s:St} {act:Act} {w:World} {n:Nat} {o:Oper} {ao:Cj} (h:SI P n o ao=true) (hfl:ao.isFloat=true) (hk:ao.floatOk s=true) (hs:SR H φ s.st w) (hf:Ca H φ s.st s.fr act.tmps) :
  ∃ obj,Yx P o act obj:=by
 rcases RR hfl with ⟨d,cs,rfl⟩ | ⟨d,e,K,qs,rfl⟩ | ⟨d,K,qs,rfl⟩
 ·simp only [SI,SV,AD] at h
  have h2:=h.2
  split at h2
  ·rename_i t ho
   obtain ⟨i,z,hi,hz,_⟩:=PY h2
   exact ⟨.cells z.cells t,fun w=>by simp [execOp,ho,Instr.alloc,zeroValue,typeInfo,hi,hz,newVar,newRow,RO]⟩
  ·cases h2
 ·exact WU h hs hf (by simp only [Cj.floatOk,AD] at hk ⊢; exact ⟨hk.1.2,hk.2⟩)
 ·simp only [SI] at h
  split at h
  ·exact WU h hs hf hk
  ·cases h
theorem Ca.cons {H:HP} {φ:BF} {st:List AH} {fr:List (Nat×AV)} {tmps:Array Value} (h:Ca H φ st fr tmps) {d:Nat} {a:AV} (ha:VA H φ st a (tmps.getD d undef)):Ca H φ st ((d,a)::fr) tmps:=by
 intro t
 simp only [Cd]
 split
 ·rename_i e; subst e; exact ha
 ·exact h t
theorem Xw {Hb H:HP} {φb φ:BF} {stb:List AH} {wb w:World} {s:St} {act:Act} {n:Nat} {o:Oper} {ao:Cj} {cal:Cz} (h:SI P n o ao=true) (hfl:ao.isFloat=true) (hk0:ao.floatOk s=true)
  (hB:AP Hb φb stb wb H φ s.st w) (hf:Ca H φ s.st s.fr act.tmps) {ρ:Type} {kn:St->Option ρ} {r:ρ} (hk:CN cal kn s ao=some r) {obj:Obj} (hborn:Yx P o act obj) {b:Nat}
  (hd:∀ d,o.dst=some d->act.tmps.getD d undef=RO o.op b) (hl:OM H φ s.st w b obj) (hbb:wb.heap.size<=b) :
  ∃ s' H' φ',kn s'=some r/\AP Hb φb stb wb H' φ' s'.st w/\Ca H' φ' s'.st s'.fr act.tmps/\∀ b' obj',b'≠b->OM H φ s.st w b' obj'->OM H' φ' s'.st w b' obj':=by
 have hs:=hB.sr
 rcases RR hfl with ⟨d,cs,rfl⟩ | ⟨d,e,K,qs,rfl⟩ | ⟨d,K,qs,rfl⟩
 ·simp only [SI,SV,AD] at h
  obtain ⟨hdd,_⟩:=BC h.1
  have h2:=h.2
  split at h2
  ·rename_i t ho
   obtain ⟨i,z,hi,hz,hv⟩:=PY h2
   have hobj:obj=.cells z.cells t:=by
    have e1:=hborn w
    have e2:(execOp act.eval o).run P w=.ok (.value (.pointer (some ⟨w.heap.size,0,none⟩))) (w.alloc (.cells z.cells t)):=by simp [execOp,ho,Instr.alloc,zeroValue,typeInfo,hi,hz,newVar,newRow]
    rw [e2] at e1
    exact Qk (Result.ok.inj e1).2.symm
   subst hobj
   obtain ⟨φ1,g1,k1,told,len⟩:=Kn (hv H) hs
   have hl1:=hl.step g1
   have hd1:act.tmps.getD d undef=.pointer (some ⟨b,0,none⟩):=by rw [hd d hdd,ho]; rfl
   have hsr:=g1.sr.push (v:=.pointer (some ⟨b,0,none⟩)) (bx:=.var (Aq s.st.length cs)) ⟨b,z.cells,t,rfl,hl1.held,told.imp fun _ _ h=>h.1 _⟩
    (fun _ b' hb'=>by
     simp only [BQ] at hb'
     subst hb'
     exact ⟨hl1.out,hl1.sep⟩)
    (fun cs' e o' i' ho'=>by
     cases e
     obtain ⟨u,hu,ht⟩:=told.get o' _ ho'
     obtain ⟨q1,q2⟩:=ht.2 i' rfl
     refine ⟨q1,_,rfl,?_⟩
     simp only [World.cell?,hl1.held]
     rw [<- q2]
     simpa using hu)
   have hst:=(hB.trans g1).adopt hsr (fun _ b' hb'=>by
    simp only [BQ] at hb'
    omega)
   simp only [CN] at hk
   refine ⟨_,H,_,hk,hst,?_,?_⟩
   ·refine Ca.cons ((hf.mono (HP.le_refl H) k1).mono (HP.le_refl H) (CO φ1 (s.st++Ae cs) _ _)) ?_
    rw [hd1]
    refine ⟨by rw [<- len]; exact Qc _ _,b,by simp [len,hdr],rfl⟩
   ·intro b' obj' hne hq
    have hq1:=hq.step g1
    refine ⟨hq1.held,hq1.out,fun j bx hj hlv e=>?_⟩
    rcases Nat.lt_trichotomy j (s.st++Ae cs).length with e1 | e1 | e1
    ·rw [AZ e1] at hj
     simp only [Nat.ne_of_lt e1,if_false] at e
     exact hq1.sep j bx hj hlv e
    ·rw [if_pos e1] at e
     simp only [BQ] at e
     omega
    ·rw [Cb (by simp at e1 ⊢; omega)] at hj; cases hj
  ·cases h2
 ·simp only [Cj.floatOk,AD] at hk0
  obtain ⟨⟨hk1,hk2⟩,hk3⟩:=hk0
  have hk0:=And.intro hk2 hk3
  obtain ⟨hdd,hdn,hsm,vs,e2,e3,hbv,hrun⟩:=Sd (e:=e) h hf
  simp only [CN,hk1,if_true,EQ hk0.1,Z] at hk
  obtain ⟨H1,g1,k1,f1,_,_⟩:=EO hs e2 (EQ hk0.1)
  cases hx:K.ofs ((qs.map s.opd).map AV.cells) with
  | none=>rw [hx] at hk; cases hk
  | some xs =>
   rw [hx] at hk
   simp only [Z] at hk
   obtain ⟨l1,r1,s1'⟩:=Qd K f1 hx
   have hflat:=G4 s1'
   have hmax:vs.length<=maxLen:=by
    have hpos:=Kd.sz_pos K
    have:qs.length<=qs.length*K.sz:=Nat.le_mul_of_pos_right _ hpos
    simp only [maxLen]
    omega
   have hobj:obj=.cells (vs.flatMap fun v=>v.cells.toList).toArray e:=by
    have e1:=hborn w
    rw [hrun s1' w] at e1
    exact Qk (Result.ok.inj e1).2.symm
   subst hobj
   have hl1:=hl.step g1
   have hsr:=g1.sr.push (v:=.slice (some ⟨b,0,none⟩) vs.length vs.length) (bx:=.rows e K xs)
    (Aj.of_flat (flat:=vs.flatMap fun v=>v.cells.toList) ⟨by rw [hflat,l1],.inr ⟨b,vs.length,_,by rw [l1],Nat.zero_le _,hl1.held,by omega,hmax,by simp [hflat],by show List.take _ _=_; rw [l1,<- hflat]; exact List.take_length⟩⟩ r1)
    (fun _ b' hb'=>by
     simp only [BQ] at hb'
     subst hb'
     exact ⟨hl1.out,hl1.sep⟩) (fun cs e=>by cases e)
   have hst:=(hB.trans g1).adopt hsr (fun _ b' hb'=>by
    simp only [BQ] at hb'
    omega)
   refine ⟨_,H1,_,hk,hst,?_,?_⟩
   ·refine Ca.cons ((hf.mono g1.le k1).mono (HP.le_refl _) (CO φ s.st _ _)) ?_
    rw [hd d hdd,hbv]
    exact ⟨by simp [hdr],by simp [AE]⟩
   ·intro b' obj' hne hq
    have hq1:=hq.step g1
    refine ⟨hq1.held,hq1.out,fun j bx hj hlv e=>?_⟩
    rcases Nat.lt_trichotomy j s.st.length with e1 | e1 | e1
    ·rw [AZ e1] at hj
     simp only [Nat.ne_of_lt e1,if_false] at e
     exact hq1.sep j bx hj hlv e
    ·rw [if_pos e1] at e
     simp only [BQ] at e
     omega
    ·rw [Cb (by simp; omega)] at hj; cases hj
 ·simp only [SI] at h
  split at h
  case h_2=>cases h
  simp only [Cj.floatOk,AD] at hk0
  obtain ⟨hdd,hdn,hsm,vs,e2,e3,hbv,hrun⟩:=Sd h hf
  simp only [CN,EQ hk0.1,Z] at hk
  obtain ⟨H1,g1,k1,f1,_,_⟩:=EO hs e2 (EQ hk0.1)
  cases hx:K.ofs ((qs.map s.opd).map AV.cells) with
  | none=>rw [hx] at hk; cases hk
  | some xs =>
   rw [hx] at hk
   simp only [Z] at hk
   obtain ⟨l1,r1,s1'⟩:=Qd K f1 hx
   have hflat:=G4 s1'
   have e1:=hborn w
   rw [hrun s1' w] at e1
   have hobj:=(Qk (Result.ok.inj e1).2).symm
   have hl1:=hl.step g1
   obtain ⟨H2,hst,hb2,hle2,hoth⟩:=(hB.trans g1).adoptH hl1 hbb
   rw [hobj] at hb2
   refine ⟨_,H2,φ,hk,hst,?_,?_⟩
   ·refine Ca.cons ((hf.mono g1.le k1).mono hle2 (A_.refl _ _ _)) ?_
    rw [hd d hdd,hbv]
    refine ⟨_,vs.length,by rw [l1],by rw [l1]; exact Nat.le_refl _,.inr ⟨b,0,_,_,(0,0),rfl,hb2,fun j x hx=>?_⟩⟩
    obtain ⟨cs,c1,c2,c3⟩:=LU r1 (by rw [hflat,l1]) hx
    refine ⟨cs,c1.mono hle2,c2,fun i u hu=>?_⟩
    have:=c3 i u hu
    simpa using this
   ·intro b' obj' hne hq
    have hq1:=hq.step g1
    exact ⟨hq1.held,(hoth b' hne).trans hq1.out,hq1.sep⟩
end Go.Proofs.Ytffahmnodgnohaa.Core
