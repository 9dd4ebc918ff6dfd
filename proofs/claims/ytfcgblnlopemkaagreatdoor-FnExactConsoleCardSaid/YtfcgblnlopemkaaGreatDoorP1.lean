/- Texts of the proof, packed: part 2. -/
import Derived.Test.YtfcgblnlopemkaaGreatDoorP0
import Derived.Lib.ConvBytes
import Derived.OrdersHeld
set_option linter.unusedVariables false
set_option linter.unusedSimpArgs false
namespace Go.Proofs.YtfcgblnlopemkaaGreatDoor.Core
open Go
theorem Z3 (K:Kd) (x:K.T):(K.av x).cells=K.enc x:=by cases K<;>rfl
def AV.nilFree:AV->Bool
 | .nil=>false
 | .ref cs=>cs.all fun c=>c.solid&&(match c with | .nil=>false | _=>true)
 | _=>true
theorem ge:∀ (K:Kd) (cs r:List AV) (x:K.T),cs.all AV.nilFree=true->K.dec cs=some (x,r)->cs=K.enc x++r:=by
 intro K
 induction K with
 | int k =>
  intro cs r x hn h
  cases cs with
  | nil=>simp [Kd.dec] at h
  | cons a cs =>
   cases a<;>simp [Kd.dec] at h
   obtain ⟨rfl,rfl,rfl⟩:=h
   rfl
 | bool =>
  intro cs r x hn h
  cases cs with
  | nil=>simp [Kd.dec] at h
  | cons a cs =>
   cases a<;>simp [Kd.dec] at h
   obtain ⟨rfl,rfl⟩:=h
   rfl
 | str =>
  intro cs r x hn h
  cases cs with
  | nil=>simp [Kd.dec] at h
  | cons a cs =>
   cases a<;>simp [Kd.dec] at h
   obtain ⟨rfl,rfl⟩:=h
   rfl
 | slice e ih =>
  intro cs r x hn h
  cases cs with
  | nil=>simp [Kd.dec] at h
  | cons a cs =>
   cases a with
   | nil=>simp [AV.nilFree] at hn
   | lst K xs =>
    simp only [Kd.dec] at h
    split at h
    ·rename_i hk
     subst hk
     cases h
     rfl
    ·cases h
   | _=>simp [Kd.dec] at h
 | pair a b iha ihb =>
  intro cs r x hn h
  simp only [Kd.dec] at h
  cases h1:a.dec cs with
  | none=>simp [h1] at h
  | some p =>
   simp only [h1,Z] at h
   cases h2:b.dec p.2 with
   | none=>simp [h2] at h
   | some q =>
    simp only [h2,Z,BG,Prod.mk.injEq] at h
    obtain ⟨rfl,rfl⟩:=h
    have e1:=iha cs p.2 p.1 hn h1
    have hn2:p.2.all AV.nilFree=true:=by
     rw [e1,List.all_append,AC] at hn
     exact hn.2
    have e2:=ihb p.2 q.2 q.1 hn2 h2
    simp only [Kd.enc,Be]
    rw [<- e2]
    exact e1
 | own t e ih =>
  intro cs r x hn h
  cases cs with
  | nil=>simp [Kd.dec] at h
  | cons a cs =>
   cases a with
   | new t' e' xs =>
    simp only [Kd.dec] at h
    split at h
    ·rename_i ht
     split at h
     ·rename_i hk
      subst ht hk
      cases h
      rfl
     ·cases h
    ·cases h
   | _=>simp [Kd.dec] at h
 | ref K ih =>
  intro cs r x hn h
  cases cs with
  | nil=>simp [Kd.dec] at h
  | cons a cs =>
   cases a with
   | ref cs' =>
    simp only [Kd.dec] at h
    cases h1:K.dec cs' with
    | none=>rw [h1] at h; cases h
    | some p =>
     rw [h1] at h
     simp only [Z] at h
     split at h
     ·rename_i hp
      cases h
      simp only [List.all_cons,AC,AV.nilFree] at hn
      have:=ih cs' [] p.1 (Bf.2 fun c hc=>by
       have:=Bf.1 hn.1 c hc
       simp only [AC] at this
       cases c<;>first | rfl | exact this.2 | cases this.1) (by rw [h1]; cases p; simp_all)
      rw [List.append_nil] at this
      rw [this]
      rfl
     ·cases h
   | _=>simp [Kd.dec] at h
 | «fun» f =>
  intro cs r x hn h
  cases cs with
  | nil=>simp [Kd.dec] at h
  | cons a cs =>
   cases a with
   | fn f' caps =>
    cases caps with
    | nil =>
     simp only [Kd.dec] at h
     split at h
     ·rename_i e
      subst e
      cases h
      rfl
     ·cases h
    | cons _ _=>simp [Kd.dec] at h
   | _=>simp [Kd.dec] at h
 | clo f K ih =>
  intro cs r x hn h
  cases cs with
  | nil=>simp [Kd.dec] at h
  | cons a cs =>
   cases a with
   | clo f' K' y =>
    simp only [Kd.dec] at h
    split at h
    ·rename_i e
     subst e
     split at h
     ·rename_i hk
      subst hk
      cases h
      rfl
     ·cases h
    ·cases h
   | _=>simp [Kd.dec] at h
def Kd.news:Kd->Nat
 | .pair a b=>a.news+b.news
 | .own _ _=>1
 | .ref _=>1
 | _=>0
theorem CA:∀ (a b:List AV),AO (a++b)=AO a+AO b
 | [],b=>by simp [AO]
 | x::a,b=>by simp only [List.cons_append,AO,CA a b]; split<;>omega
theorem Xb:∀ (K:Kd) (x:K.T),AO (K.enc x)=K.news
 | .int _,_=>rfl
 | .bool,_=>rfl
 | .str,_=>rfl
 | .slice _,_=>rfl
 | .pair a b,x=>by simp [Kd.enc,CA,Xb a,Xb b,Kd.news]
 | .own _ _,_=>rfl
 | .ref _,_=>rfl
 | .fun _,_=>rfl
 | .clo _ _,_=>rfl
theorem EM:∀ cs:List AV,(Aw cs).length=AO cs
 | []=>rfl
 | a::r=>by
  have:=EM r
  cases a<;>simp [Aw,AO,AV.isNew,this]
theorem CN:∀ (a b:List AV),Aw (a++b)=Aw a++Aw b
 | [],b=>rfl
 | x::a,b=>by
  have:=CN a b
  cases x<;>simp [Aw,this]
theorem JV:∀ (cs:List AV) (k:Nat),(BQ k cs).length=cs.length
 | [],_=>rfl
 | a::r,k=>by
  cases a<;>simp [BQ,JV r]
theorem Xc:∀ (a b:List AV) (k:Nat),BQ k (a++b)=BQ k a++BQ (k+AO a) b
 | [],b,k=>by simp [BQ,AO]
 | x::a,b,k=>by
  cases x<;>simp [BQ,AO,AV.isNew,Xc a b,Nat.add_assoc,Nat.add_comm 1]
def cellsOf (vs:List AV):List AV:=vs.flatMap AV.cells
theorem m4:∀ vs:List AV,gJ vs=Aw (cellsOf vs)
 | []=>rfl
 | v::r=>by simp [gJ,cellsOf,CN,m4 r]
def Bh (vs:List AV):List AV:=vs.flatMap AV.cellsO
theorem Xd:∀ vs:List AV,Vd vs=Aw (Bh vs)
 | []=>rfl
 | v::r=>by simp [Vd,Bh,CN,Xd r]
theorem L9:∀ (vs:List AV) (k j:Nat) (v:AV),vs[j]? = some v->(O9 k vs)[j]? = some (ut (k+AO (Bh (vs.take j))) v)
 | [],k,j,v,h=>by simp at h
 | u::r,k,0,v,h=>by simp at h; subst h; simp [O9,Bh,AO]
 | u::r,k,j+1,v,h=>by
  simp only [O9,List.getElem?_cons_succ]
  rw [L9 r _ j v (by simpa using h)]
  simp [Bh,CA,Nat.add_assoc]
theorem Bb:∀ (vs:List AV) (k:Nat),(O9 k vs).length=vs.length
 | [],_=>rfl
 | v::r,k=>by simp [O9,Bb r]
theorem JW (outs vs:List AV):Bd outs vs=O9 outs.length outs++Aw (Bh outs++cellsOf vs):=by
 simp [Bd,m4,Xd,CN]
theorem kH (outs:List AV):Fe outs=outs.length+AO (Bh outs):=by simp [Fe,Xd,EM]
theorem VL (outs vs:List AV):(Bd outs vs).length=outs.length+AO (Bh outs)+AO (cellsOf vs):=by
 simp [JW,Bb,EM,CA,Nat.add_assoc]
theorem pU {K:Kd} (h:K.isOwn=true):∃ t e,K=.own t e:=by cases K<;>first | exact ⟨_,_,rfl⟩ | cases h
theorem JX {K:Kd} (x:K.T) (h:K.isOwn=false):(K.av x).cellsO=K.enc x/\∀ k,ut k (K.av x)=.var (BQ k (K.enc x)):=by
 cases K<;>first | exact ⟨rfl,fun _=>rfl⟩ | cases h
theorem pV {t:TypeId} {e:Kd} (x:(Kd.own t e).T):((Kd.own t e).av x).cellsO=[]/\∀ k,ut k ((Kd.own t e).av x)=.mrow t e x:=⟨rfl,fun _=>rfl⟩
theorem yL:∀ (cs:List AV) (k o q:Nat),(∀ c∈cs,∀ i,c≠.row i)->(BQ k cs)[o]? = some (.row q)->∃ m t e xs,q=k+m/\(Aw cs)[m]? = some (.rows t e xs)/\m<AO cs
 | [],k,o,q,_,h=>by simp [BQ] at h
 | a::r,k,o,q,hn,h=>by
  have ih:=yL r
  have hn':∀ c∈r,∀ i,c≠.row i:=fun c hc=>hn c (by simp [hc])
  cases a with
  | new t e xs =>
   simp only [BQ] at h
   cases o with
   | zero=>simp at h; subst h; exact ⟨0,t,e,xs,rfl,rfl,by simp [AO,AV.isNew]⟩
   | succ o =>
    obtain ⟨m,t',e',xs',h1,h2,h3⟩:=ih (k+1) o q hn' (by simpa using h)
    exact ⟨m+1,t',e',xs',by omega,by simpa [Aw] using h2,by simp [AO,AV.isNew]; omega⟩
  | ref cs =>
   simp only [BQ] at h
   cases o with
   | zero=>simp at h
   | succ o =>
    obtain ⟨m,t',e',xs',h1,h2,h3⟩:=ih (k+1) o q hn' (by simpa using h)
    exact ⟨m+1,t',e',xs',by omega,by simpa [Aw] using h2,by simp [AO,AV.isNew]; omega⟩
  | row i=>exact absurd rfl (hn (.row i) (by simp) i)
  | _ =>
   simp only [BQ] at h
   cases o with
   | zero=>simp at h
   | succ o =>
    obtain ⟨m,t',e',xs',h1,h2,h3⟩:=ih k o q hn' (by simpa using h)
    exact ⟨m,t',e',xs',h1,by simpa [Aw] using h2,by simpa [AO,AV.isNew] using h3⟩
theorem D8 {l:List Nat} {i:Nat}:Bx l i=true↔i∈l:=by
 induction l with
 | nil=>simp [Bx]
 | cons a r ih =>
  simp only [Bx]
  split
  ·rename_i e; subst e; simp
  ·rename_i e; rw [ih]; simp [Ne.symm e]
theorem Bu {l:List Nat} {i:Nat}:Bx l i=false↔i∉l:=by
 rw [<- D8]; simp
theorem sq:∀ {l:List Nat},tV l=true->l.Nodup
 | [],_=>List.nodup_nil
 | a::r,h=>by
  simp only [tV,AC,EL] at h
  exact List.nodup_cons.2 ⟨Bu.1 h.1,sq h.2⟩
theorem ss:∀ {a b:List Nat},tW a b=true->∀ i∈a,i∉b
 | [],b,_,i,hi=>by cases hi
 | x::a,b,h,i,hi=>by
  simp only [tW,AC,EL] at h
  rcases BI.1 hi with rfl | hi
  ·exact Bu.1 h.1
  ·exact ss h.2 i hi
theorem m5 {st:List AS}:∀ {l:List Nat},gK st l=true->∀ i∈l,∃ (t:TypeId) (K:Kd),∃ xs:List (Kd.T K),st[i]? = some (AS.rows t K xs)
 | [],_,i,hi=>by cases hi
 | x::l,h,i,hi=>by
  simp only [gK,AC] at h
  rcases BI.1 hi with rfl | hi
  ·have:=h.1
   split at this
   ·rename_i t K xs e; exact ⟨t,K,xs,e⟩
   ·cases this
  ·exact m5 h.2 i hi
theorem Vm:∀ {l:List Nat} {i k:Nat},VK l i=some k->l[k]? = some i
 | [],i,k,h=>by simp [VK] at h
 | a::r,i,k,h=>by
  simp only [VK] at h
  split at h
  ·rename_i e; cases h; simp [e]
  ·cases hq:VK r i with
   | none=>rw [hq] at h; cases h
   | some q=>rw [hq] at h; cases h; simpa using Vm hq
theorem su:∀ {l:List Nat} {i:Nat},VK l i=none->i∉l
 | [],i,h=>by simp
 | a::r,i,h=>by
  simp only [VK] at h
  split at h
  ·cases h
  ·rename_i e
   cases hq:VK r i with
   | none=>have:=su hq; simp [Ne.symm e,this]
   | some q=>rw [hq] at h; cases h
theorem xO {l:List Nat} (hd:l.Nodup) {i k:Nat} (h:l[k]? = some i):VK l i=some k:=by
 cases hq:VK l i with
 | none=>exact absurd (List.mem_of_getElem? h) (su hq)
 | some q =>
  have h2:=Vm hq
  have hk:=(Aj.1 h).1
  have:=(List.getElem?_inj hk hd).1 (h.trans h2.symm)
  rw [this]
theorem PB {back gone:List Nat} {nv n:Nat} {est:List AS}:∀ (st:List AS) (i0 i:Nat),(S7 back gone nv n est i0 st)[i]? = (st[i]?).map fun b =>
  if Bx gone (i0+i)=true then .dead else match VK back (i0+i) with
   | some k=>(pF b (est.getD k .dead)).ren (Lt back n)
   | none=>b.kill (back.drop nv++gone)
 | [],i0,i=>by simp [S7]
 | b::st,i0,0=>by simp only [S7,List.getElem?_cons_zero,Option.map_some,Nat.add_zero]<;>rfl
 | b::st,i0,i+1=>by
  simp only [S7,List.getElem?_cons_succ]
  rw [PB st (i0+1) i]
  rw [show i0+1+i=i0+(i+1) by omega]
theorem Z4 {back gone:List Nat} {nv n:Nat} {est:List AS}:∀ (st:List AS) (i0:Nat),(S7 back gone nv n est i0 st).length=st.length
 | [],_=>rfl
 | b::st,i0=>by simp [S7,Z4 st]
structure AA3 (st:List AS) (nv:Nat) (back gone:List Nat) (est st2:List AS):Prop where
 ofCallee:∀ (k:Nat) (b:AS),est[k]? = some b->∃ b',st2[Lt back st.length k]? = some (b'.ren (Lt back st.length))/\(b'=b\/∃ (t:TypeId) (K:Kd),∃ xs:List (Kd.T K),k<back.length/\b=.mrow t K xs/\b'=.rows t K xs/\∃ (i:Nat) (t':TypeId) (K':Kd),∃ xs':List (Kd.T K'),back[k]? = some i/\st[i]? = some (AS.rows t' K' xs'))
 ret:∀ (k i:Nat) (b b0:AS),est[k]? = some b->back[k]? = some i->st[i]? = some b0->st2[i]? = some ((pF b0 b).ren (Lt back st.length))
 other:∀ (i:Nat) (b:AS),i∉back->i∉gone->st[i]? = some b->st2[i]? = some (b.kill (back.drop nv++gone))
 dead:∀ i:Nat,i∈gone->i<st.length->st2[i]? = some .dead
 cases:∀ (i:Nat) (b:AS),st2[i]? = some b->(∃ k,k<est.length/\i=Lt back st.length k)\/(i<st.length/\i∉back/\i∉gone)\/(i∈gone/\b=.dead)
theorem zQ {st:List AS} {nv:Nat} {back gone:List Nat} {est:List AS} (hd:back.Nodup) (hg:∀ i∈back,i∉gone) (hb:∀ i∈back,i<st.length) (hl:back.length<=est.length) :
  AA3 st nv back gone est (Qc st nv back gone est):=by
 have hlen:=Z4 (back:=back) (gone:=gone) (nv:=nv) (n:=st.length) (est:=est) st 0
 have hback:∀ (k i:Nat) (b b0:AS),est[k]? = some b->back[k]? = some i->st[i]? = some b0->(Qc st nv back gone est)[i]? = some ((pF b0 b).ren (Lt back st.length)):=by
  intro k i b b0 hk hbk hi
  have hlt:=(Aj.1 hi).1
  unfold Qc
  rw [BF (by omega),PB,hi,Option.map_some,Nat.zero_add]
  have h1:Bx gone i=false:=Bu.2 (hg _ (List.mem_of_getElem? hbk))
  have h2:VK back i=some k:=xO hd hbk
  simp only [h1,Bool.false_eq_true,if_false,h2]
  simp [List.getD,hk]
 refine ⟨fun k b hk=>?_,hback,fun i b h1 h2 hi=>?_,fun i h1 hi=>?_,fun i b hi=>?_⟩
 ·by_cases hkm:k<back.length
  ·have e:back.getD k 0=back[k]:=by simp [List.getD,hkm]
   have hlt:=hb back[k] (by simp)
   have hren:Lt back st.length k=back[k]:=by unfold Lt; rw [if_pos hkm,e]
   rw [hren]
   refine ⟨_,hback k back[k] b st[back[k]] hk (by simp) (by simp),?_⟩
   have hst:st[back[k]]? = some st[back[k]]:=by simp
   generalize st[back[k]]=b0 at hst ⊢
   cases b0 with
   | rows t' K' xs' =>
    cases b with
    | mrow t K xs=>exact .inr ⟨t,K,xs,hkm,rfl,rfl,back[k],t',K',xs',by simp,hst⟩
    | _=>exact .inl rfl
   | _=>exact .inl rfl
  ·refine ⟨b,?_,.inl rfl⟩
   unfold Qc Lt
   rw [if_neg hkm,Ci (by omega),hlen,CT,C3]
   rw [show back.length+(st.length+(k-back.length)-st.length)=k by omega,hk]
   rfl
 ·have hlt:=(Aj.1 hi).1
  unfold Qc
  rw [BF (by omega),PB,hi,Option.map_some,Nat.zero_add,Bu.2 h2]
  have:VK back i=none:=by
   cases hq:VK back i with
   | none=>rfl
   | some q=>exact absurd (List.mem_of_getElem? (Vm hq)) h1
  simp [this]
 ·unfold Qc
  rw [BF (by omega),PB,List.getElem?_eq_getElem hi,Option.map_some,Nat.zero_add,D8.2 h1]
  rfl
 ·have hlt:=(Aj.1 hi).1
  have htot:(Qc st nv back gone est).length=st.length+(est.length-back.length):=by simp [Qc,hlen]
  rcases B6 i st.length with h | h
  ·by_cases h1:i∈gone
   ·right; right
    refine ⟨h1,?_⟩
    unfold Qc at hi
    rw [BF (by omega),PB,List.getElem?_eq_getElem h,Option.map_some,Nat.zero_add,D8.2 h1] at hi
    simpa using hi.symm
   ·by_cases h2:i∈back
    ·left
     obtain ⟨k,hk,rfl⟩:=EK h2
     exact ⟨k,by omega,by simp [Lt,hk,List.getD]⟩
    ·exact .inr (.inl ⟨h,h2,h1⟩)
  ·left
   refine ⟨back.length+(i-st.length),by omega,?_⟩
   unfold Lt
   rw [if_neg (by omega)]
   omega
theorem zR {st:List AS} {back:List Nat} (hd:back.Nodup) (hb:∀ i∈back,i<st.length) {k k':Nat} (h:Lt back st.length k=Lt back st.length k'):k=k':=by
 unfold Lt at h
 by_cases h1:k<back.length<;>by_cases h2:k'<back.length
 ·rw [if_pos h1,if_pos h2] at h
  have e1:back.getD k 0=back[k]:=by simp [List.getD,h1]
  have e2:back.getD k' 0=back[k']:=by simp [List.getD,h2]
  rw [e1,e2] at h
  exact (List.getElem?_inj h1 hd).1 (by simp [h1,h2,h])
 ·rw [if_pos h1,if_neg h2] at h
  have e1:back.getD k 0=back[k]:=by simp [List.getD,h1]
  have:=hb back[k] (by simp)
  omega
 ·rw [if_neg h1,if_pos h2] at h
  have e1:back.getD k' 0=back[k']:=by simp [List.getD,h2]
  have:=hb back[k'] (by simp)
  omega
 ·rw [if_neg h1,if_neg h2] at h
  omega
structure Fh (st:List AS) (cs cl:List AV) (ids:List Nat):Prop where
 len:cl.length=cs.length
 cnt:AO cl=ids.length
 nf:cl.all AV.nilFree=true
 nr:∀ c∈cl,∀ i,c≠.row i
 boxes:∀ (m:Nat) (b:AS),(Aw cl)[m]? = some b->∃ (i:Nat) (t:TypeId) (e:Kd),∃ xs:List (Kd.T e),ids[m]? = some i/\st[i]? = some (AS.rows t e xs)/\b=AS.rows t e xs
 cells:∀ (k o:Nat) (a:AV),(BQ k cl)[o]? = some a->∃ c,cs[o]? = some c/\((∃ m i:Nat,a=AV.row (k+m)/\ids[m]? = some i/\c=AV.row i)\/(a.solid=true/\c.solid=true/\∀ (H:HP) (u:Value),VF H c u->VF H a u)\/(∃ (i:Nat) (e:Kd),∃ xs:List (Kd.T e),a=AV.lst e xs/\c=AV.row i/\st[i]? = some (AS.frz e xs)))
theorem Fh.plain {st:List AS} {cs cl:List AV} {ids:List Nat} {a v:AV} (hc:Fh st cs cl ids) (hn:a.nilFree=true) (hs:a.solid=true) (hvs:v.solid=true) (hv:∀ H u,VF H v u->VF H a u) :
  Fh st (v::cs) (a::cl) ids:=by
 have o1:∀ k,BQ k (a::cl)=a::BQ k cl:=fun k=>by cases a<;>first | rfl | cases hs
 have o2:Aw (a::cl)=Aw cl:=by cases a<;>first | rfl | cases hs
 have o3:AO (a::cl)=AO cl:=by cases a<;>first | rfl | cases hs
 refine ⟨by simp [hc.len],by rw [o3]; exact hc.cnt,by simp [hn,hc.nf],fun c hm i=>?_,fun m b hb=>by rw [o2] at hb; exact hc.boxes m b hb,fun k o b hb=>?_⟩
 ·rcases BI.1 hm with rfl | hm
  ·intro e; subst e; cases hs
  ·exact hc.nr c hm i
 ·rw [o1] at hb
  cases o with
  | zero =>
   simp at hb
   subst hb
   exact ⟨v,rfl,.inr (.inl ⟨hs,hvs,hv⟩)⟩
  | succ o=>simpa using hc.cells k o b (by simpa using hb)
theorem gf {k:Kd} {v a:AV} (h:v.norm k=some a):a.nilFree=true/\a.solid=true/\v.solid=true/\∀ H u,VF H v u->VF H a u:=by
 unfold AV.norm at h
 split at h
 ·split at h
  ·cases h
   exact ⟨rfl,rfl,rfl,fun H u hu=>by simp only [VF] at hu ⊢; subst hu; exact Ve⟩
  ·cases h
 ·rename_i hnn
  split at h
  ·rename_i hs
   cases h
   refine ⟨?_,hs,hs,fun _ _ h=>h⟩
   cases v<;>first | exact absurd rfl hnn | rfl | cases hs
  ·cases h
theorem Fh.row {st:List AS} {cs cl:List AV} {ids:List Nat} {i:Nat} {t:TypeId} {e:Kd} {xs:List e.T} (hc:Fh st cs cl ids) (hi:st[i]? = some (.rows t e xs)) :
  Fh st (.row i::cs) (.new t e xs::cl) (i::ids):=by
 refine ⟨by simp [hc.len],by simp [AO,AV.isNew,hc.cnt],by simp [AV.nilFree,hc.nf],fun c hm j=>?_,fun m b hb=>?_,fun k o a ha=>?_⟩
 ·rcases BI.1 hm with rfl | hm
  ·simp
  ·exact hc.nr c hm j
 ·simp only [Aw] at hb
  cases m with
  | zero=>simp at hb; subst hb; exact ⟨i,t,e,xs,rfl,hi,rfl⟩
  | succ m=>simpa using hc.boxes m b (by simpa using hb)
 ·simp only [BQ] at ha
  cases o with
  | zero=>simp at ha; subst ha; exact ⟨.row i,rfl,.inl ⟨0,i,rfl,rfl,rfl⟩⟩
  | succ o =>
   obtain ⟨c,c1,c2⟩:=hc.cells (k+1) o a (by simpa using ha)
   refine ⟨c,by simpa using c1,?_⟩
   rcases c2 with ⟨m,j,e1,e2,e3⟩ | c2
   ·exact .inl ⟨m+1,j,by rw [e1]; congr 1; omega,by simpa using e2,e3⟩
   ·exact .inr c2
theorem Fh.frozen {st:List AS} {cs cl:List AV} {ids:List Nat} {i:Nat} {e:Kd} {xs:List e.T} (hc:Fh st cs cl ids) (hi:st[i]? = some (.frz e xs)) :
  Fh st (.row i::cs) (.lst e xs::cl) ids:=by
 refine ⟨by simp [hc.len],by simpa [AO,AV.isNew] using hc.cnt,by simp [AV.nilFree,hc.nf],fun c hm j=>?_,fun m b hb=>hc.boxes m b (by simpa [Aw] using hb),fun k o a ha=>?_⟩
 ·rcases BI.1 hm with rfl | hm
  ·simp
  ·exact hc.nr c hm j
 ·simp only [BQ] at ha
  cases o with
  | zero=>simp at ha; subst ha; exact ⟨.row i,rfl,.inr (.inr ⟨i,e,xs,rfl,rfl,hi⟩)⟩
  | succ o=>simpa using hc.cells k o a (by simpa using ha)
theorem Vn {st:List AS}:∀ {ks:List Kd} {cs cl:List AV} {ids:List Nat},Ju st ks cs=some (cl,ids)->Fh st cs cl ids
 | [],[],cl,ids,h=>by
  cases h
  exact ⟨rfl,rfl,rfl,by simp,fun m b h=>by simp [Aw] at h,fun k o a h=>by simp [BQ] at h⟩
 | [],_::_,cl,ids,h=>by simp [Ju] at h
 | _::_,[],cl,ids,h=>by simp [Ju] at h
 | k0::ks,v::vs,cl,ids,h=>by
  have norm:((v.norm k0).bind fun a=>(Ju st ks vs).bind fun y=>some (a::y.1,y.2))=some (cl,ids)->Fh st (v::vs) cl ids:=by
   intro h
   cases hq:v.norm k0 with
   | none=>rw [hq] at h; cases h
   | some a =>
    rw [hq] at h
    simp only [Z] at h
    cases hc:Ju st ks vs with
    | none=>rw [hc] at h; cases h
    | some y =>
     rw [hc] at h
     cases h
     obtain ⟨n1,n2,n3,n4⟩:=gf hq
     exact (Vn hc).plain n1 n2 n3 n4
  cases v with
  | row i =>
   simp only [Ju] at h
   split at h
   ·split at h
    ·rename_i t e xs hi
     cases hc:Ju st ks vs with
     | none=>rw [hc] at h; cases h
     | some y =>
      rw [hc] at h
      cases h
      exact (Vn hc).row hi
    ·cases h
   ·split at h
    ·rename_i e xs hi
     split at h
     ·cases hc:Ju st ks vs with
      | none=>rw [hc] at h; cases h
      | some y =>
       rw [hc] at h
       cases h
       exact (Vn hc).frozen hi
     ·cases h
    ·cases h
   ·cases h
  | _=>exact norm h
end Go.Proofs.YtfcgblnlopemkaaGreatDoor.Core

namespace Go.Proofs.YtfcgblnlopemkaaGreatDoor.Core
open Go
variable {H:HP} {φ:CG} {st:List AS} {w w':World} {P:Program}
theorem AC2 (hs:SR H φ st w):∀ (bors:List Nat),(∀ i∈bors,∃ (t:TypeId) (K:Kd),∃ xs:List (Kd.T K),st[i]? = some (AS.rows t K xs)) ->
  ∃ H1 st1,H.le H1/\SR H1 φ st1 w/\(∀ b,(∀ i∈bors,DZ (φ i)≠some b)->H1 b=H b)/\(∀ i,i∉bors->st1[i]? = st[i]?) /\
   (∀ i∈bors,∀ (t:TypeId) (K:Kd) (xs:List (Kd.T K)),st[i]? = some (AS.rows t K xs)->ZR (GN H1 K) K.sz H1 xs (φ i))
 | [],_=>⟨H,st,HP.le_refl H,hs,fun _ _=>rfl,fun _ _=>rfl,fun i hi=>by cases hi⟩
 | i::r,hl=>by
  obtain ⟨H1,st1,h1,h2,h3,h4,h5⟩:=AC2 hs r fun j hj=>hl j (by simp [hj])
  by_cases hir:i∈r
  ·refine ⟨H1,st1,h1,h2,fun b hb=>h3 b fun j hj=>hb j (by simp [hj]),fun j hj=>h4 j fun h=>hj (by simp [h]),fun j hj=>?_⟩
   rcases BI.1 hj with rfl | hj
   ·exact h5 _ hir
   ·exact h5 _ hj
  ·obtain ⟨t,K,xs,hi⟩:=hl i (by simp)
   have hi1:st1[i]? = some (.rows t K xs):=(h4 i hir).trans hi
   obtain ⟨H2,g1,g2,g3,g4⟩:=h2.freeze hi1
   refine ⟨H2,_,HP.le_trans h1 g1,g2,fun b hb=>?_,fun j hj=>?_,fun j hj t' K' xs' hj'=>?_⟩
   ·rw [g4 b (hb i (by simp)),h3 b fun j hj=>hb j (by simp [hj])]
   ·rw [BD,if_neg (fun e=>hj (by simp [e]))]
    exact h4 j fun h=>hj (by simp [h])
   ·by_cases e:j=i
    ·subst e
     rw [hi] at hj'
     cases hj'
     exact g3
    ·have hjr:j∈r:=by rcases BI.1 hj with h | h; exact absurd h e; exact h
     exact OL (fun _ _ h=>GN.mono g1 h) g1 (h5 j hjr t' K' xs' hj')
structure ON (st:List AS) (ids:List (Nat×Kd)) (bx:List AV) (owns:List Nat):Prop where
 len:bx.length=ids.length
 cnt:AO (Bh bx)=owns.length
 kd:∀ (j:Nat) (v:AV),bx[j]? = some v->∃ p,ids[j]? = some p/\∃ x:Kd.T p.2,v=Kd.av p.2 x
 rows:∀ (m:Nat) (b:AS),(Aw (Bh bx))[m]? = some b->∃ (i:Nat) (t:TypeId) (e:Kd),∃ xs:List (Kd.T e),owns[m]? = some i/\st[i]? = some (AS.rows t e xs)/\b=AS.rows t e xs
 vars:∀ (k j:Nat) (v:AV),bx[j]? = some v->∃ p:Nat×Kd,ids[j]? = some p/\((∃ cs ecs:List AV,p.2.isOwn=false/\st[p.1]? = some (AS.var cs)/\ut (k+AO (Bh (bx.take j))) v=.var ecs/\ecs.length=cs.length/\∀ (o:Nat) (a:AV),ecs[o]? = some a ->
  ∃ c,cs[o]? = some c/\((∃ m i:Nat,a=AV.row (k+m)/\owns[m]? = some i/\c=AV.row i)\/(a.solid=true/\c.solid=true/\∀ (H:HP) (u:Value),VF H c u->VF H a u)\/(∃ (i:Nat) (e:Kd),∃ xs:List (Kd.T e),a=AV.lst e xs/\c=AV.row i/\st[i]? = some (AS.frz e xs)))) \/
  (∃ (t:TypeId) (e:Kd),∃ xs:List (Kd.T e),p.2=.own t e/\(st[p.1]? = some (AS.rows t e xs)\/st[p.1]? = some (AS.mrow t e xs))/\ut (k+AO (Bh (bx.take j))) v=.mrow t e xs))
theorem ON.mut {st:List AS} {ids:List (Nat×Kd)} {bx:List AV} {owns:List Nat} (f:ON st ids bx owns) {b:Nat} {t:TypeId} {e:Kd} {xs:List e.T} (hb:st[b]? = some (AS.rows t e xs)\/st[b]? = some (AS.mrow t e xs)) :
  ON st ((b,.own t e)::ids) (.new t e xs::bx) owns:=by
 have hco:∀ vs,Bh (AV.new t e xs::vs)=Bh vs:=fun vs=>rfl
 refine ⟨by simp [f.len],by rw [hco]; exact f.cnt,fun j v hj=>?_,fun m b hb=>?_,fun k j v hj=>?_⟩
 ·cases j with
  | zero=>simp at hj; subst hj; exact ⟨(b,.own t e),rfl,xs,rfl⟩
  | succ j=>simpa using f.kd j v (by simpa using hj)
 ·rw [hco] at hb; exact f.rows m _ hb
 ·cases j with
  | zero=>simp at hj; subst hj; exact ⟨(b,.own t e),rfl,.inr ⟨t,e,xs,rfl,hb,rfl⟩⟩
  | succ j =>
   obtain ⟨p,g1,g2⟩:=f.vars k j v (by simpa using hj)
   exact ⟨p,by simpa using g1,by rw [List.take_succ_cons,hco]; exact g2⟩
theorem d_ {st:List AS}:∀ {ids:List (Nat×Kd)} {bx:List AV} {owns:List Nat},L5 st ids=some (bx,owns)->ON st ids bx owns
 | [],bx,owns,h=>by
  cases h
  exact ⟨rfl,rfl,fun j v h=>by simp at h,fun m b h=>by simp [Bh,Aw] at h,fun k j v h=>by simp at h⟩
 | (b,K)::ids,bx,owns,h=>by
  have mu:∀ (t:TypeId) (e:Kd) (xs:List e.T),st[b]? = some (AS.rows t e xs)\/st[b]? = some (AS.mrow t e xs)->(if Kd.own t e=K then (L5 st ids).bind fun r=>some (AV.new t e xs::r.1,r.2) else none)=some (bx,owns)->ON st ((b,K)::ids) bx owns:=by
   intro t e xs hb h'
   split at h'
   ·rename_i hK
    subst hK
    cases h3:L5 st ids with
    | none=>rw [h3] at h'; cases h'
    | some r =>
     obtain ⟨bx',o2⟩:=r
     rw [h3] at h'
     cases h'
     exact (d_ h3).mut hb
   ·cases h'
  simp only [L5] at h
  split at h
  ·rename_i cs hcs
   split at h
   ·cases h
   rename_i hno
   have hno:K.isOwn=false:=by simpa using hno
   cases h1:Ju st K.leaves cs with
   | none=>rw [h1] at h; cases h
   | some y =>
    obtain ⟨cl,o1⟩:=y
    rw [h1] at h
    simp only [Z] at h
    cases h2:K.ofCells cl with
    | none=>rw [h2] at h; cases h
    | some x =>
     rw [h2] at h
     simp only [Z] at h
     cases h3:L5 st ids with
     | none=>rw [h3] at h; cases h
     | some r =>
      obtain ⟨bx',o2⟩:=r
      rw [h3] at h
      cases h
      have f:=d_ h3
      have c:=Vn h1
      have ecl:cl=K.enc x:=by
       have:=ge K cl [] x c.nf (GO h2)
       simpa using this
      have hcells:(K.av x).cellsO=cl:=by rw [(JX x hno).1,ecl]
      have hco:∀ vs,Bh (K.av x::vs)=cl++Bh vs:=fun vs=>by simp [Bh,hcells]
      refine ⟨by simp [f.len],by rw [hco,CA,c.cnt,f.cnt,List.length_append],fun j v hj=>?_,fun m b hb=>?_,fun k j v hj=>?_⟩
      ·cases j with
       | zero=>simp at hj; subst hj; exact ⟨(b,K),rfl,x,rfl⟩
       | succ j=>simpa using f.kd j v (by simpa using hj)
      ·rw [hco,CN] at hb
       rcases B6 m (Aw cl).length with hm | hm
       ·rw [BF hm] at hb
        obtain ⟨i,t,e,xs,g1,g2⟩:=c.boxes m b hb
        exact ⟨i,t,e,xs,by rw [BF (Aj.1 g1).1]; exact g1,g2⟩
       ·rw [Ci hm] at hb
        obtain ⟨i,t,e,xs,g1,g2⟩:=f.rows _ b hb
        rw [EM,c.cnt] at hm g1
        exact ⟨i,t,e,xs,by rw [Ci hm]; exact g1,g2⟩
      ·cases j with
       | zero =>
        simp at hj
        subst hj
        refine ⟨(b,K),rfl,.inl ⟨cs,BQ k cl,hno,hcs,by rw [(JX x hno).2,<- ecl]; simp [Bh,AO],by rw [JV]; exact c.len,fun o a ha=>?_⟩⟩
        obtain ⟨q,q1,q2⟩:=c.cells k o a ha
        refine ⟨q,q1,?_⟩
        rcases q2 with ⟨m,i,e1,e2,e3⟩ | q2
        ·exact .inl ⟨m,i,e1,by rw [BF (Aj.1 e2).1]; exact e2,e3⟩
        ·exact .inr q2
       | succ j =>
        obtain ⟨p,g1,gg⟩:=f.vars (k+o1.length) j v (by simpa using hj)
        have et:k+AO (Bh ((K.av x::bx').take (j+1)))=k+o1.length+AO (Bh (bx'.take j)):=by rw [List.take_succ_cons,hco,CA,c.cnt,<- Nat.add_assoc]
        refine ⟨p,by simpa using g1,?_⟩
        rw [et]
        rcases gg with ⟨cs',ecs,g0,g2,g25,g3,g4⟩ | gg
        rotate_left
        ·exact .inr gg
        refine .inl ⟨cs',ecs,g0,g2,g25,g3,fun o a ha=>?_⟩
        obtain ⟨q,q1,q2⟩:=g4 o a ha
        refine ⟨q,q1,?_⟩
        rcases q2 with ⟨m,i,e1,e2,e3⟩ | q2
        ·refine .inl ⟨o1.length+m,i,by rw [e1,Nat.add_assoc],?_,e3⟩
         rw [Ci (by omega)]
         simpa using e2
        ·exact .inr q2
  ·rename_i t e xs hb
   exact mu t e xs (.inl hb) h
  ·rename_i t e xs hb
   exact mu t e xs (.inr hb) h
  ·cases h
structure gh (st:List AS) (nv:Nat) (ml:List Nat) (est:List AS):Prop where
 len:est.length=ml.length
 nvl:nv<=ml.length
 get:∀ (k:Nat) (b:AS),est[k]? = some b->∃ i,ml[k]? = some i/\((k<nv/\∃ cs ecs:List AV,st[i]? = some (AS.var cs)/\b=AS.var ecs/\ecs.length=cs.length/\∀ (o:Nat) (a:AV),ecs[o]? = some a ->
   ∃ c,cs[o]? = some c/\((∃ q j:Nat,a=AV.row q/\ml[q]? = some j/\c=AV.row j/\nv<=q)\/(a.solid=true/\c.solid=true/\∀ (H:HP) (u:Value),VF H c u->VF H a u)\/(∃ (i:Nat) (e:Kd),∃ xs:List (Kd.T e),a=AV.lst e xs/\c=AV.row i/\st[i]? = some (AS.frz e xs)))) \/
  (nv<=k/\∃ (t:TypeId) (e:Kd),∃ xs:List (Kd.T e),st[i]? = some (AS.rows t e xs)/\b=AS.rows t e xs) \/
  (k<nv/\∃ (t:TypeId) (e:Kd),∃ xs:List (Kd.T e),(st[i]? = some (AS.rows t e xs)\/st[i]? = some (AS.mrow t e xs))/\b=AS.mrow t e xs))
theorem zS {ids:List (Nat×Kd)} {bx args:List AV} {owns movs:List Nat} (f:ON st ids bx owns) (hc:AO (cellsOf args)=movs.length)
  (hm:∀ (m:Nat) (b:AS),(Aw (cellsOf args))[m]? = some b->∃ (i:Nat) (t:TypeId) (e:Kd),∃ xs:List (Kd.T e),movs[m]? = some i/\st[i]? = some (AS.rows t e xs)/\b=AS.rows t e xs) :
  gh st ids.length (ids.map (·.1)++owns++movs) (Bd bx args):=by
 refine ⟨by rw [VL,f.len,f.cnt,hc]; simp [Nat.add_assoc],by simp [Nat.add_assoc],fun k b hk=>?_⟩
 rw [JW] at hk
 rcases B6 k bx.length with hl | hl
 ·rw [BF (by rw [Bb]; exact hl),L9 bx _ k bx[k] (by simp)] at hk
  cases hk
  obtain ⟨p,g1,gg⟩:=f.vars bx.length k bx[k] (by simp)
  have hk2:k<ids.length:=by rw [<- f.len]; exact hl
  refine ⟨p.1,by rw [Be,BF (by simpa using hk2),CT,g1]; rfl,?_⟩
  rcases gg with ⟨cs,ecs,_,g2,g25,g3,g4⟩ | ⟨t,e,xs,_,g2,g25⟩
  rotate_left
  ·exact .inr (.inr ⟨hk2,t,e,xs,g2,g25⟩)
  refine .inl ⟨hk2,cs,ecs,g2,g25,g3,fun o a ha=>?_⟩
  obtain ⟨c,c1,c2⟩:=g4 o a ha
  refine ⟨c,c1,?_⟩
  rcases c2 with ⟨m,i,e1,e2,e3⟩ | c2
  ·refine .inl ⟨bx.length+m,i,e1,?_,e3,by rw [f.len]; omega⟩
   rw [f.len,Be,Ci (by simp)]
   simp only [List.length_map,Nat.add_sub_cancel_left]
   rw [BF (Aj.1 e2).1]
   exact e2
  ·exact .inr c2
 ·rw [Ci (by rw [Bb]; exact hl),Bb] at hk
  rw [CN] at hk
  have hk2:ids.length<=k:=by rw [<- f.len]; exact hl
  have e0:k-bx.length=k-ids.length:=by rw [f.len]
  rw [e0] at hk
  have hidx:(ids.map (·.1)++owns++movs)[k]? = (owns++movs)[k-ids.length]? := by
   rw [Be,Ci (by simpa using hk2)]
   simp
  rcases B6 (k-ids.length) (Aw (Bh bx)).length with h1 | h1
  ·rw [BF h1] at hk
   obtain ⟨i,t,e,xs,g1,g2,g3⟩:=f.rows _ b hk
   exact ⟨i,by rw [hidx,BF (Aj.1 g1).1]; exact g1,.inr (.inl ⟨hk2,t,e,xs,g2,g3⟩)⟩
  ·rw [Ci h1] at hk
   obtain ⟨i,t,e,xs,g1,g2,g3⟩:=hm _ b hk
   rw [EM,f.cnt] at h1 g1
   exact ⟨i,by rw [hidx,Ci h1]; exact g1,.inr (.inl ⟨hk2,t,e,xs,g2,g3⟩)⟩
theorem gh.at {nv:Nat} {ml:List Nat} {est:List AS} (h:gh st nv ml est) {k i:Nat} (hk:ml[k]? = some i):∃ b,est[k]? = some b:=by
 have:k<est.length:=by rw [h.len]; exact (Aj.1 hk).1
 exact ⟨est[k],by simp⟩
theorem Hk {ml:List Nat} {k i:Nat} (h:ml[k]? = some i):ml.getD k 0=i:=by simp [List.getD,h]
theorem gh.sr {nv:Nat} {ml:List Nat} {est st1:List AS} {H1:HP} (h:gh st nv ml est) (hd:ml.Nodup) (hs:SR H1 φ st1 w) (hsame:∀ i∈ml,st1[i]? = st[i]?) (hfrz:∀ (i:Nat) (e:Kd) (xs:List e.T),st[i]? = some (AS.frz e xs)->st1[i]? = some (AS.frz e xs)) :
  SR H1 (fun k=>φ (ml.getD k 0)) est w:=by
 have old:∀ {k i:Nat},ml[k]? = some i->st1[i]? = st[i]? := fun hk=>hsame _ (List.mem_of_getElem? hk)
 refine Ae.pick hs (fun k=>ml.getD k 0) (fun k b hk=>?_) (fun k b hk hl=>.inr ?_) (fun k k' b b' hk hk' _ _ _ _ e=>?_) (fun k ecs hk o q hq=>?_)
 ·obtain ⟨i,hi,hc⟩:=h.get k b hk
  simp only [Hk hi]
  rcases hc with ⟨_,cs,ecs,g1,rfl,g3,g4⟩ | ⟨_,t,e,xs,g1,rfl⟩ | ⟨_,t,e,xs,g1,rfl⟩
  ·obtain ⟨b0,c,el,e1,e2,e3⟩:=hs.box i _ ((old hi).trans g1)
   refine ⟨b0,c,el,e1,e2,S8 (by rw [e3.length,g3]) fun o a u ha hu=>?_⟩
   obtain ⟨c0,c1,c2⟩:=g4 o a ha
   rcases c2 with ⟨q,j,rfl,_⟩ | ⟨s1,s2,s3⟩ | ⟨j,e,xs,rfl,rfl,hj⟩
   ·trivial
   ·have hw:=e3.at c1 hu
    have hf:VF H1 c0 u:=by cases c0<;>first | exact hw | cases s2
    exact VW.of_VF (s3 H1 u hf)
   ·obtain ⟨d1,b2,d2,d3⟩:=hs.cell i cs ((old hi).trans g1) o j c1
    rw [e1] at d2
    cases d2
    simp only [World.cell?,e2] at d3
    rw [Array.getElem?_toList] at hu
    simp only [Option.isSome_none,Bool.false_eq_true,if_false] at d3
    rw [hu] at d3
    cases d3
    exact (hs.box j _ (hfrz j e xs hj)).1
  ·exact hs.box i _ ((old hi).trans g1)
  ·rcases g1 with g1 | g1
   ·have h:L6 H1 w (φ i) (.rows t e xs):=hs.box i _ ((old hi).trans g1)
    exact h
   ·exact hs.box i _ ((old hi).trans g1)
 ·obtain ⟨i,hi,hc⟩:=h.get k b hk
  simp only [Hk hi]
  rcases hc with ⟨_,cs,ecs,g1,rfl,g3,g4⟩ | ⟨_,t,e,xs,g1,rfl⟩ | ⟨_,t,e,xs,g1,rfl⟩
  ·exact ⟨_,(old hi).trans g1,rfl,trivial⟩
  ·exact ⟨_,(old hi).trans g1,rfl,trivial⟩
  ·rcases g1 with g1 | g1
   ·exact ⟨_,(old hi).trans g1,rfl,trivial⟩
   ·exact ⟨_,(old hi).trans g1,rfl,trivial⟩
 ·obtain ⟨i,hi,_⟩:=h.get k b hk
  obtain ⟨i',hi',_⟩:=h.get k' b' hk'
  simp only [Hk hi,Hk hi'] at e
  subst e
  exact (List.getElem?_inj (Aj.1 hi).1 hd).1 (hi.trans hi'.symm)
 ·obtain ⟨i,hi,hc⟩:=h.get k _ hk
  rcases hc with ⟨_,cs,ecs',g1,e,g3,g4⟩ | ⟨_,t,e,xs,g1,e2⟩ | ⟨_,t,e,xs,g1,e2⟩
  ·cases e
   obtain ⟨c0,c1,c2⟩:=g4 o _ hq
   rcases c2 with ⟨q',j,e,hj,rfl,hle⟩ | ⟨s1,_⟩ | ⟨_,_,_,e,_⟩
   ·cases e
    obtain ⟨d1,b0,d2,d3⟩:=hs.cell i cs ((old hi).trans g1) o j c1
    obtain ⟨bq,hbq⟩:=h.at hj
    obtain ⟨j',hj',hcq⟩:=h.get q bq hbq
    refine ⟨?_,b0,by simp only [Hk hi]; exact d2,by simp only [Hk hj]; exact d3⟩
    rcases hcq with ⟨hlt,_⟩ | ⟨_,t,e,xs,_,rfl⟩ | ⟨hlt,_⟩
    ·omega
    ·simp only [AN,hbq]; rfl
    ·omega
   ·cases s1
   ·cases e
  ·cases e2
  ·cases e2
theorem gh.fr {nv:Nat} {ml:List Nat} {est:List AS} {H1:HP} (h:gh st nv ml est) (φ2:CG):Fr nv ml.length H1 φ2 w H1 φ2 est w:=by
 refine ⟨rfl,rfl,rfl,Nat.le_refl _,fun _ _ _=>rfl,fun _ _=>rfl,fun k b hk hl b0 hb=>.inr ⟨k,?_,hb⟩,fun j hj=>?_,fun _ _ _=>rfl⟩
 ·rw [<- h.len]; exact (Aj.1 hk).1
 ·have hj2:j<est.length:=by rw [h.len]; exact Nat.lt_of_lt_of_le hj h.nvl
  obtain ⟨i,hi,hc⟩:=h.get j est[j] (by simp)
  rcases hc with ⟨_,cs,ecs,_,e,_⟩ | ⟨hle,_⟩ | ⟨_,t,k,xs,_,e⟩
  ·unfold AW; rw [List.getElem?_eq_getElem hj2,e]; rfl
  ·omega
  ·unfold AW; rw [List.getElem?_eq_getElem hj2,e]; rfl
theorem GN.flat {H H':HP}:∀ {K:Kd} {x:K.T} {cs:List Value},K.flat=true->GN H K x cs->GN H' K x cs
 | .int _,_,_,_,h=>h
 | .bool,_,_,_,h=>h
 | .str,_,_,_,h=>h
 | .slice _,_,_,hf,_=>by cases hf
 | .pair _ _,_,_,hf,⟨c1,c2,h,h1,h2⟩=>by
  simp only [Kd.flat,AC] at hf
  exact ⟨c1,c2,h,GN.flat hf.1 h1,GN.flat hf.2 h2⟩
 | .own _ _,_,_,hf,_=>by cases hf
 | .ref _,_,_,hf,_=>by cases hf
theorem VW.flat {H H':HP} {p:Value} {el:TypeId} {a:AV} {v:Value} (hf:a.flat=true) (h:VW H p el a v):VW H' p el a v:=by
 cases a<;>first | exact h | trivial | cases hf
theorem VC.flat {H H':HP} {a:AV} {v:Value} (hf:a.flat=true) (h:VC H φ st a v):VC H' φ st a v:=by
 cases a<;>first | exact h | trivial | cases hf
theorem VB.flat {H H':HP} {a:AV} {v:Value} (hf:a.flatV=true) (h:VB H φ st a v):VB H' φ st a v:=by
 rcases h.cases with ⟨cs,arr,rfl,e,h⟩ | h
 ·exact ⟨arr,e,h.impM fun a ha _ g=>g.flat (Bf.1 hf a ha)⟩
 ·cases a<;>first | exact h.elim | exact VB.of_VC (h.flat (by first | exact hf | rfl))
theorem L6.flat {H H':HP} {bx:AS} {v:Value} (hf:bx.flat=true) (h:L6 H w v bx):L6 H' w v bx:=by
 cases bx with
 | var cs=>obtain ⟨b,c,el,e1,e2,e3⟩:=h; exact ⟨b,c,el,e1,e2,e3.impM fun a ha _ g=>g.flat (Bf.1 hf a ha)⟩
 | rows t K xs=>obtain ⟨flat,h1,h2⟩:=h; exact ⟨flat,h1,fun j x hx=>(h2 j x hx).flat hf⟩
 | mrow t K xs=>obtain ⟨flat,h1,h2⟩:=h; exact ⟨flat,h1,fun j x hx=>(h2 j x hx).flat hf⟩
 | byt t xs=>exact h
 | frz K xs=>cases hf
 | dead=>cases hf
theorem L6.mono {H H':HP} (hH:H.le H') {bx:AS} {v:Value} (h:L6 H w v bx):L6 H' w v bx:=by
 cases bx with
 | var cs=>obtain ⟨b,c,el,e1,e2,e3⟩:=h; exact ⟨b,c,el,e1,e2,e3.imp fun _ _ g=>g.mono hH⟩
 | rows t K xs=>obtain ⟨flat,h1,h2⟩:=h; exact ⟨flat,h1,fun j x hx=>(h2 j x hx).mono hH⟩
 | mrow t K xs=>obtain ⟨flat,h1,h2⟩:=h; exact ⟨flat,h1,fun j x hx=>(h2 j x hx).mono hH⟩
 | byt t xs=>exact h
 | frz K xs=>exact ⟨OL (fun _ _ h=>GN.mono hH h) hH h.1,h.2⟩
 | dead=>trivial
theorem L6.ren {f:Nat->Nat} {bx:AS} {v:Value} (h:L6 H w v bx):L6 H w v (bx.ren f):=by
 cases bx with
 | var cs =>
  obtain ⟨b,c,el,e1,e2,e3⟩:=h
  refine ⟨b,c,el,e1,e2,e3.map fun a u g=>?_⟩
  cases a<;>first | exact g | trivial | exact g.elim
 | _=>exact h
theorem m6 {w w':World} {t t':TypeId} {z z' n n':Nat} {v:Value} {f f':List Value} (h:w.ownsRow 0 t z v n f) (g:w'.ownsRow 0 t' z' v n' f'):n=n':=by
 rcases h.2 with ⟨e,hn⟩ | ⟨_,_,_,e,_⟩<;>rcases g.2 with ⟨e2,gn⟩ | ⟨_,_,_,e2,_⟩<;>rw [e] at e2<;>simp_all
theorem gj {f:Nat->Nat} {bx:AS}:(bx.ren f).live=bx.live:=by cases bx<;>rfl
theorem zT {f:Nat->Nat} {st2 est:List AS} {k:Nat} {b:AS} (h1:est[k]? = some b) (h2:st2[f k]? = some (b.ren f)):AN st2 (f k)=AN est k/\Ak st2 (f k)=Ak est k:=by
 unfold AN Ak
 rw [h1,h2]
 cases b<;>exact ⟨rfl,rfl⟩
structure wP (H:HP) (φ:CG) (st:List AS) (w:World) (nv:Nat) (back gone bors:List Nat) (H1:HP) (est:List AS):Prop where
 sr:SR H φ st w
 entry:gh st nv (back++gone) est
 nd:(back++gone).Nodup
 bor:∀ i∈bors,∃ (t:TypeId) (K:Kd),∃ xs:List (Kd.T K),st[i]? = some (AS.rows t K xs)
 apart:∀ i∈bors,i∉back++gone
 le:H.le H1
 lent:∀ b,(∀ i∈bors,DZ (φ i)≠some b)->H1 b=H b
 nvb:nv<=back.length
open Classical in
theorem wP.back {nv:Nat} {back gone bors:List Nat} {H1 H':HP} {φ':CG} {est est':List AS} (B:wP H φ st w nv back gone bors H1 est)
  (hs':SR H' φ' est' w') (hle:H1.le H') (f:Fr nv (back++gone).length H1 (fun k=>φ ((back++gone).getD k 0)) w H' φ' est' w') (hlen:back.length<=est'.length)
  (hkd:∀ (k i:Nat),k<nv->back[k]? = some i->(∀ cs:List AV,st[i]? = some (AS.var cs)->∃ cs':List AV,est'[k]? = some (AS.var cs'))/\(∀ (t:TypeId) (K:Kd) (xs:List K.T),st[i]? = some (AS.rows t K xs)\/st[i]? = some (AS.mrow t K xs)->∃ xs':List (Kd.T K),est'[k]? = some (AS.mrow t K xs')))
  (hflat:bors=[]\/est'.all AS.flat=true) :
  ∃ H2 φ2,Ae H φ st w H2 φ2 (Qc st nv back gone est') w'/\(∀ (i:Nat) (bi:AS),st[i]? = some bi->bi.live=true->i∉back->i∉gone->∀ b,DZ (φ i)=some b->w'.heap[b]? = w.heap[b]?)/\Cw φ st φ2 (Qc st nv back gone est') (back.drop nv++gone) /\
   (∀ a v,(bors=[]\/a.flatV=true)->VB H' φ' est' a v->VB H2 φ2 (Qc st nv back gone est') (a.renV (Lt back st.length)) v):=by
 have hs:=B.sr
 have hndb:back.Nodup:=(List.nodup_append.1 B.nd).1
 have hdis:∀ i∈back,i∉gone:=fun i h1 h2=>(List.nodup_append.1 B.nd).2.2 i h1 i h2 rfl
 have hand:∀ (k i:Nat),(back++gone)[k]? = some i->∃ b,st[i]? = some b/\b.live=true/\(nv<=k->AW st i=false)/\∀ t xs,b≠AS.byt t xs:=by
  intro k i hk
  obtain ⟨eb,heb⟩:=B.entry.at hk
  obtain ⟨i',hi',hc⟩:=B.entry.get k eb heb
  rw [hk] at hi'
  cases hi'
  rcases hc with ⟨h1,cs,ecs,h2,_⟩ | ⟨h1,t,e,xs,h2,_⟩ | ⟨h1,t,e,xs,h2 | h2,_⟩
  ·exact ⟨_,h2,rfl,fun h=>by omega,fun _ _ e=>by cases e⟩
  ·exact ⟨_,h2,rfl,fun _=>(by simp only [AW,h2]; rfl),fun _ _ e=>by cases e⟩
  ·exact ⟨_,h2,rfl,fun h=>by omega,fun _ _ e=>by cases e⟩
  ·exact ⟨_,h2,rfl,fun h=>by omega,fun _ _ e=>by cases e⟩
 have hlt:∀ i∈back,i<st.length:=fun i hi=>by
  obtain ⟨k,hk,rfl⟩:=EK hi
  obtain ⟨b,hb,_⟩:=hand k back[k] (by rw [BF hk]; simp)
  exact (Aj.1 hb).1
 have hgt:∀ i∈gone,i<st.length:=fun i hi=>by
  obtain ⟨k,hk⟩:=List.mem_iff_getElem?.1 (List.mem_append_right back hi)
  obtain ⟨b,hb,_⟩:=hand k i hk
  exact (Aj.1 hb).1
 have G:=zQ (nv:=nv) hndb hdis hlt hlen
 generalize hst2:Qc st nv back gone est'=st2 at G ⊢
 let ren:=Lt back st.length
 have inj:∀ {k k'},ren k=ren k'->k=k':=fun h=>zR (st:=st) hndb hlt h
 have renB:∀ k (h:k<back.length),ren k=back[k]:=fun k h=>by simp [ren,Lt,h,List.getD]
 have renO:∀ k,back.length<=k->ren k=st.length+(k-back.length):=fun k h=>by simp only [ren,Lt]; rw [if_neg (by omega)]
 have ofC:∀ (k:Nat) (b:AS),est'[k]? = some b->∃ b':AS,st2[ren k]? = some (b'.ren ren)/\b'.live=b.live/\(∀ {H:HP} {w:World} {v:Value},L6 H w v b->L6 H w v b')/\(∀ cs,b'=.var cs->b=.var cs) /\
   AN st2 (ren k)=AN est' k/\Ak st2 (ren k)=Ak est' k:=by
  intro k b hb
  obtain ⟨b',g,hc⟩:=G.ofCallee k b hb
  rcases hc with rfl | ⟨t,K,xs,_,rfl,rfl,_⟩
  ·have:=zT (f:=ren) hb g
   exact ⟨b',g,rfl,fun h=>h,⟨fun _ h=>h,this.1,this.2⟩⟩
  ·refine ⟨.rows t K xs,g,rfl,fun {H w v} h=>h,⟨fun _ h=>(by cases h),?_,?_⟩⟩
   ·simp only [AN,hb,show st2[ren k]? = _ from g,AS.ren]
   ·simp only [Ak,hb,show st2[ren k]? = _ from g,AS.ren]
 let Lent:Nat->Prop:=fun b=>∃ i∈bors,DZ (φ i)=some b
 let H2:HP:=fun b=>if Lent b then none else H' b
 let φ2:CG:=fun i=>match VK back i with
  | some k=>φ' k
  | none=>if i<st.length then φ i else φ' (back.length+(i-st.length))
 have φren:∀ k,φ2 (ren k)=φ' k:=by
  intro k
  by_cases h:k<back.length
  ·have:VK back (ren k)=some k:=by rw [renB k h]; exact xO hndb (by simp)
   simp only [φ2,this]
  ·have e:=renO k (by omega)
   have:VK back (ren k)=none:=by
    cases hq:VK back (ren k) with
    | none=>rfl
    | some q=>have:=hlt _ (List.mem_of_getElem? (Vm hq)); omega
   simp only [φ2,this]
   rw [if_neg (by omega),e]
   congr 1
   omega
 have φoth:∀ i,i∉back->i<st.length->φ2 i=φ i:=by
  intro i h1 h2
  have:VK back i=none:=by
   cases hq:VK back i with
   | none=>rfl
   | some q=>exact absurd (List.mem_of_getElem? (Vm hq)) h1
  simp only [φ2,this]
  rw [if_pos h2]
 have nlent:∀ b,¬ Lent b->H2 b=H' b:=fun b h=>by simp only [H2]; rw [if_neg h]
 have lentN:∀ b,Lent b->H2 b=none:=fun b h=>by simp only [H2]; rw [if_pos h]
 have lentH:∀ b,Lent b->H b=none:=by
  rintro b ⟨i,hi,hb⟩
  obtain ⟨t,K,xs,hx⟩:=B.bor i hi
  exact hs.out i _ hx rfl b hb
 have lentL:∀ b,Lent b->b<w.heap.size:=by
  rintro b ⟨i,hi,hb⟩
  obtain ⟨t,K,xs,hx⟩:=B.bor i hi
  exact (hs.box i _ hx).blk_lt rfl hb
 have hle2:H.le H2:=by
  intro b o hb
  have h1:¬ Lent b:=fun h=>by rw [lentH b h] at hb; cases hb
  rw [nlent b h1]
  exact hle b o (B.le b o hb)
 have aside:∀ i bi,st[i]? = some bi->bi.live=true->i∉back->i∉gone->∀ b,DZ (φ i)=some b->b<w.heap.size/\(∀ k,k<(back++gone).length->DZ (φ ((back++gone).getD k 0))≠some b):=by
  intro i bi hi hl h1 h2 b hb
  refine ⟨(hs.box i bi hi).blk_lt hl hb,fun k hk e=>?_⟩
  have hk2:(back++gone)[k]? = some (back++gone)[k]:=by simp
  rw [Hk hk2] at e
  obtain ⟨b2,g1,g2,_⟩:=hand k _ hk2
  have hne:(back++gone)[k]≠i:=fun e2=>by
   have:i∈back++gone:=e2▸BW hk
   rcases CZ.1 this with h | h
   ·exact h1 h
   ·exact h2 h
  exact hs.sep _ i b2 bi g1 hi g2 hl hne b e hb
 have memo:∀ i bi,st[i]? = some bi->bi.live=true->i∉back->i∉gone->∀ b,DZ (φ i)=some b->w'.heap[b]? = w.heap[b]? := by
  intro i bi hi hl h1 h2 b hb
  obtain ⟨g1,g2⟩:=aside i bi hi hl h1 h2 b hb
  exact f.old b g1 g2
 have H2old:∀ b,b<w.heap.size->(∀ k,k<(back++gone).length->DZ (φ ((back++gone).getD k 0))≠some b)->H2 b=H b:=by
  intro b h1 h2
  by_cases hl:Lent b
  ·rw [lentN b hl,lentH b hl]
  ·rw [nlent b hl,f.frz b h1 h2,B.lent b fun i hi e=>hl ⟨i,hi,e⟩]
 have calleeBox:∀ k b,est'[k]? = some b->L6 H2 w' (φ' k) b:=by
  intro k b hk
  have h1:=hs'.box k b hk
  rcases hflat with h | h
  ·have:H2=H':=by
    funext b
    exact nlent b fun ⟨i,hi,_⟩=>by rw [h] at hi; cases hi
   rw [this]
   exact h1
  ·exact h1.flat (Bf.1 h b (List.mem_of_getElem? hk))
 have otherBox:∀ (i:Nat) (b:AS),i∉back->i∉gone->st[i]? = some b->L6 H2 w' (φ i) (b.kill (back.drop nv++gone)):=by
  intro i b h1 h2 hi
  have h3:=(hs.kill (back.drop nv++gone)).box i (b.kill (back.drop nv++gone)) (by rw [CT,hi]; rfl)
  have h4:=memo i b hi
  refine L6.mono hle2 ?_
  cases b with
  | var cs =>
   obtain ⟨b0,c,el,e1,e2,e3⟩:=h3
   exact ⟨b0,c,el,e1,by rw [h4 rfl h1 h2 b0 (by rw [e1]; rfl)]; exact e2,e3⟩
  | rows t K xs =>
   obtain ⟨flat,⟨g1,g2⟩,g3⟩:=h3
   refine ⟨flat,⟨g1,?_⟩,g3⟩
   rcases g2 with g2 | ⟨g,cap,cur,e1,e2,e3,e4⟩
   ·exact .inl g2
   ·exact .inr ⟨g,cap,cur,e1,e2,by rw [h4 rfl h1 h2 g (by rw [e1]; rfl)]; exact e3,e4⟩
  | mrow t K xs =>
   obtain ⟨flat,⟨g1,g2⟩,g3⟩:=h3
   refine ⟨flat,⟨g1,?_⟩,g3⟩
   rcases g2 with g2 | ⟨g,cap,cur,e1,e2,e3,e4⟩
   ·exact .inl g2
   ·exact .inr ⟨g,cap,cur,e1,e2,by rw [h4 rfl h1 h2 g (by rw [e1]; rfl)]; exact e3,e4⟩
  | byt t xs =>
   obtain ⟨g,cap,cur,fz,e1,e2,e3⟩:=h3
   exact ⟨g,cap,cur,fz,e1,by rw [h4 rfl h1 h2 g (by rw [e1]; rfl)]; exact e2,e3⟩
  | frz K xs=>exact h3
  | dead=>trivial
 have killLive:∀ {b:AS},(b.kill (back.drop nv++gone)).live=b.live:=fun {b}=>by cases b<;>rfl
 have hvarB:∀ (k i:Nat),k<nv->back[k]? = some i->φ2 i=φ i/\AN st2 i=AN st i/\Ak st2 i=Ak st i/\AW st2 i=AW st i:=by
  intro k i hkn hbk
  have hk:k<back.length:=(Aj.1 hbk).1
  have hk2:(back++gone)[k]? = some i:=by rw [BF hk]; exact hbk
  obtain ⟨b,hb,hl,_,hnb⟩:=hand k _ hk2
  have e1:φ2 (ren k)=φ' k:=φren k
  have eik:ren k=i:=by rw [renB k hk]; exact (Aj.1 hbk).2
  rw [eik] at e1
  have e2:=f.same k hkn
  simp only [Hk hk2] at e2
  obtain ⟨c1,c2⟩:=hkd k i hkn hbk
  have len:∀ (t:TypeId) (K:Kd) (xs xs':List (Kd.T K)),(L6 H w (φ i) (.rows t K xs)\/L6 H w (φ i) (.mrow t K xs))->est'[k]? = some (AS.mrow t K xs')->xs'.length=xs.length:=by
   intro t K xs xs' h hq
   obtain ⟨_,o2,_⟩:=hs'.box k _ hq
   rw [e2] at o2
   rcases h with ⟨_,o1,_⟩ | ⟨_,o1,_⟩
   ·exact m6 o2 o1
   ·exact m6 o2 o1
  refine ⟨e1.trans e2,?_⟩
  cases b with
  | var cs =>
   obtain ⟨cs',hq⟩:=c1 cs hb
   have g:=G.ret k i _ _ hq hbk hb
   simp only [AN,Ak,AW,g,hb,pF,AS.ren,AS.hold,and_self]
  | rows t K xs =>
   obtain ⟨xs',hq⟩:=c2 t K xs (.inl hb)
   have g:=G.ret k i _ _ hq hbk hb
   simp only [AN,Ak,AW,g,hb,pF,AS.ren,AS.hold,and_self,len t K xs xs' (.inl (hs.box i _ hb)) hq]
  | mrow t K xs =>
   obtain ⟨xs',hq⟩:=c2 t K xs (.inr hb)
   have g:=G.ret k i _ _ hq hbk hb
   simp only [AN,Ak,AW,g,hb,pF,AS.ren,AS.hold,and_self,len t K xs xs' (.inr (hs.box i _ hb)) hq]
  | byt t xs=>exact absurd rfl (hnb t xs)
  | frz K xs=>cases hl
  | dead=>cases hl
 have hvarO:∀ i,i∉back->i∉gone->i<st.length->φ2 i=φ i/\AN st2 i=AN st i/\Ak st2 i=Ak st i/\AW st2 i=AW st i:=by
  intro i h1 h2 h3
  have hib:st[i]? = some st[i]:=by simp
  refine ⟨φoth i h1 h3,?_,?_,?_⟩
  rotate_right
  ·rw [<- Fg (Ab (back.drop nv++gone)) st i]
   unfold AW
   rw [G.other i _ h1 h2 hib,CT,hib]; rfl
  ·rw [<- Gr (Ab (back.drop nv++gone)) st i]
   unfold AN
   rw [G.other i _ h1 h2 hib,CT,hib]; rfl
  ·rw [<- FY (Ab (back.drop nv++gone)) st i]
   unfold Ak
   rw [G.other i _ h1 h2 hib,CT,hib]; rfl
 have hsr:SR H2 φ2 st2 w':=by
  refine ⟨fun b o hb=>?_,fun i b hi=>?_,fun i j bi bj hi hj li lj hij b hbi hbj=>?_,fun i bi hi li b hb=>?_,fun i cs hi o q hq=>?_,hs.tb.le hle2⟩
  ·by_cases hl:Lent b
   ·rw [lentN b hl] at hb; cases hb
   ·rw [nlent b hl] at hb
    exact hs'.hp b o hb
  ·rcases G.cases i b hi with ⟨k,hk,rfl⟩ | ⟨h1,h2,h3⟩ | ⟨_,rfl⟩
   ·obtain ⟨b',g,_,gb,_⟩:=ofC k est'[k] (by simp)
    rw [hi] at g
    cases g
    rw [show φ2 (Lt back st.length k)=φ' k from φren k]
    exact (gb (calleeBox k _ (by simp))).ren
   ·have hib:st[i]? = some st[i]:=by simp
    have g:=G.other i _ h2 h3 hib
    rw [hi] at g
    cases g
    rw [φoth i h2 h1]
    exact otherBox i _ h2 h3 hib
   ·trivial
  ·-- sep
   have key:∀ k i bi,k<est'.length->st2[ren k]? = some bi->bi.live=true->i<st.length->i∉back->i∉gone->∀ b',st[i]? = some b'->b'.live=true->∀ b,DZ (φ' k)=some b->DZ (φ i)≠some b:=by
    intro k i bi hk hbk hl h1 h2 h3 b' hb' lb' b hb e
    obtain ⟨g1,g2⟩:=aside i b' hb' lb' h2 h3 b e
    obtain ⟨b2,g,gl,_⟩:=ofC k est'[k] (by simp)
    rw [hbk] at g
    cases g
    rcases f.new k est'[k] (by simp) (by rw [gj,gl] at hl; exact hl) b hb with h | ⟨j,hj,h⟩
    ·omega
    ·exact g2 j hj h
   rcases G.cases i bi hi with ⟨k,hk,rfl⟩ | ⟨h1,h2,h3⟩ | ⟨_,rfl⟩
   ·rw [show φ2 (Lt back st.length k)=φ' k from φren k] at hbi
    rcases G.cases j bj hj with ⟨k',hk',rfl⟩ | ⟨g1,g2,g3⟩ | ⟨_,rfl⟩
    ·rw [show φ2 (Lt back st.length k')=φ' k' from φren k'] at hbj
     obtain ⟨_,e1,l1,_⟩:=ofC k est'[k] (by simp)
     obtain ⟨_,e2,l2,_⟩:=ofC k' est'[k'] (by simp)
     rw [hi] at e1
     rw [hj] at e2
     cases e1
     cases e2
     rw [gj] at li lj
     rw [l1] at li
     rw [l2] at lj
     exact hs'.sep k k' _ _ (by simp) (by simp) li lj (fun e=>hij (by rw [e])) b hbi hbj
    ·rw [φoth j g2 g1] at hbj
     have hjb:st[j]? = some st[j]:=by simp
     have g:=G.other j _ g2 g3 hjb
     rw [hj] at g
     cases g
     exact key k j bi hk hi li g1 g2 g3 _ hjb (killLive▸lj) b hbi hbj
    ·cases lj
   ·rw [φoth i h2 h1] at hbi
    have hib:st[i]? = some st[i]:=by simp
    have g:=G.other i _ h2 h3 hib
    rw [hi] at g
    cases g
    rcases G.cases j bj hj with ⟨k',hk',rfl⟩ | ⟨g1,g2,g3⟩ | ⟨_,rfl⟩
    ·rw [show φ2 (Lt back st.length k')=φ' k' from φren k'] at hbj
     exact key k' i bj hk' hj lj h1 h2 h3 _ hib (killLive▸li) b hbj hbi
    ·rw [φoth j g2 g1] at hbj
     have hjb:st[j]? = some st[j]:=by simp
     have g:=G.other j _ g2 g3 hjb
     rw [hj] at g
     cases g
     exact hs.sep i j _ _ hib hjb (killLive▸li) (killLive▸lj) hij b hbi hbj
    ·cases lj
   ·cases li
  ·rcases G.cases i bi hi with ⟨k,hk,rfl⟩ | ⟨h1,h2,h3⟩ | ⟨_,rfl⟩
   ·rw [show φ2 (Lt back st.length k)=φ' k from φren k] at hb
    obtain ⟨_,e1,l1,_⟩:=ofC k est'[k] (by simp)
    rw [hi] at e1
    cases e1
    rw [gj,l1] at li
    by_cases hl:Lent b
    ·exact lentN b hl
    ·rw [nlent b hl]
     exact hs'.out k _ (by simp) li b hb
   ·rw [φoth i h2 h1] at hb
    have hib:st[i]? = some st[i]:=by simp
    have g:=G.other i _ h2 h3 hib
    rw [hi] at g
    cases g
    obtain ⟨g1,g2⟩:=aside i _ hib (killLive▸li) h2 h3 b hb
    rw [H2old b g1 g2]
    exact hs.out i _ hib (killLive▸li) b hb
   ·cases li
  ·rcases G.cases i _ hi with ⟨k,hk,rfl⟩ | ⟨h1,h2,h3⟩ | ⟨_,e⟩
   ·obtain ⟨bk',e1,_,_,lv,_⟩:=ofC k est'[k] (by simp)
    rw [hi] at e1
    have hek:est'[k]? = some est'[k]:=by simp
    generalize est'[k]=bk at e1 hek lv
    cases bk' with
    | var cs0 =>
     simp only [AS.ren,BG,AS.var.injEq] at e1
     subst e1
     have lv:=lv cs0 rfl
     subst lv
     rw [CT] at hq
     cases hc:cs0[o]? with
     | none=>rw [hc] at hq; cases hq
     | some c =>
      rw [hc] at hq
      cases c<;>simp only [Option.map_some,AV.ren,BG] at hq<;>try cases hq
      rename_i q0
      obtain ⟨d1,b0,d2,d3⟩:=hs'.cell k cs0 hek o q0 hc
      have hq0:∃ bq,est'[q0]? = some bq:=⟨est'[q0]'(La d1),by simp [La d1]⟩
      obtain ⟨bq,hbq⟩:=hq0
      refine ⟨?_,b0,?_,?_⟩
      ·obtain ⟨_,_,_,_,_,kk,_⟩:=ofC q0 bq hbq
       rw [kk]; exact d1
      ·rw [show φ2 (Lt back st.length k)=φ' k from φren k]; exact d2
      ·rw [show φ2 (Lt back st.length q0)=φ' q0 from φren q0]; exact d3
    | _=>cases e1
   ·have hib:st[i]? = some st[i]:=by simp
    have g:=G.other i _ h2 h3 hib
    rw [hi] at g
    have hkl:(st.map (AS.kill (back.drop nv++gone)))[i]? = some (.var cs):=by rw [CT,hib,Option.map_some]; exact g.symm
    have hn:=Bu.1 (RZ hkl hq)
    obtain ⟨d1,b0,d2,d3⟩:=(hs.kill (back.drop nv++gone)).cell i cs hkl o q hq
    rw [Gr (Ab _)] at d1
    have hql:=La d1
    have hq2:q∉gone:=fun h=>hn (List.mem_append_right _ h)
    have hsame:φ2 q=φ q/\AN st2 q=AN st q:=by
     by_cases hq1:q∈back
     ·obtain ⟨k,hk,e⟩:=EK hq1
      have hkn:k<nv:=by
       rcases B6 k nv with h | h
       ·exact h
       ·have:q∈back.drop nv:=by
         rw [<- e]
         exact List.mem_iff_getElem?.2 ⟨k-nv,by rw [C3,show nv+(k-nv)=k by omega]; simp⟩
        exact absurd (List.mem_append_left _ this) hn
      obtain ⟨c1,c2,_⟩:=hvarB k q hkn (by simp [hk,e])
      exact ⟨c1,c2⟩
     ·obtain ⟨c1,c2,_⟩:=hvarO q hq1 hq2 hql
      exact ⟨c1,c2⟩
    refine ⟨by rw [hsame.2]; exact d1,b0,by rw [φoth i h2 h1]; exact d2,?_⟩
    rw [hsame.1]
    have hlive:(st[i]).live=true:=by
     have e:st[i].kill (back.drop nv++gone)=.var cs:=(Option.some.inj g).symm
     have:(st[i].kill (back.drop nv++gone)).live=true:=by rw [e]; rfl
     rw [killLive] at this
     exact this
    have:=memo i _ hib hlive h2 h3 b0 (by rw [d2]; rfl)
    simp only [World.cell?] at d3 ⊢
    rw [this]
    exact d3
   ·cases e
 have goneRow:∀ i∈gone,AW st i=false:=by
  intro i hi
  obtain ⟨k,hk,e⟩:=EK hi
  obtain ⟨_,_,_,v2,_⟩:=hand (back.length+k) i (by rw [Ci (by omega)]; simp [hk,e])
  exact v2 (by have:=B.nvb; omega)
 have hkb:Cw φ st φ2 st2 (back.drop nv++gone):=by
  refine ⟨fun i hn hd=>?_,fun i hv=>?_⟩
  ·rw [TA,Bool.or_eq_false_iff] at hn
   have hg:=Bu.1 hn.2
   have hlt2:i<st.length:=by rcases hd with h | h; exact La h; exact pH h
   by_cases hb:i∈back
   ·obtain ⟨k,hk,e⟩:=EK hb
    have hk2:(back++gone)[k]? = some i:=by rw [BF hk]; simp [hk,e]
    have hkn:k<nv:=by
     rcases B6 k nv with h | h
     ·exact h
     ·have:i∈back.drop nv:=by
       rw [<- e]
       exact List.mem_iff_getElem?.2 ⟨k-nv,by rw [C3,show nv+(k-nv)=k by omega]; simp⟩
      exact absurd this (Bu.1 hn.1)
    obtain ⟨c1,c2,c3,_⟩:=hvarB k i hkn (by simp [hk,e])
    exact ⟨c1,c2,c3⟩
   ·obtain ⟨c1,c2,c3,_⟩:=hvarO i hb hg hlt2
    exact ⟨c1,c2,c3⟩
  ·have hng:i∉gone:=fun h=>by rw [goneRow i h] at hv; cases hv
   by_cases hb:i∈back
   ·obtain ⟨k,hk,e⟩:=EK hb
    have hk2:(back++gone)[k]? = some i:=by rw [BF hk]; simp [hk,e]
    obtain ⟨_,_,_,v2,_⟩:=hand k _ hk2
    have hkn:k<nv:=by
     rcases B6 k nv with h | h
     ·exact h
     ·rw [v2 h] at hv; cases hv
    obtain ⟨c1,_,c3,c4⟩:=hvarB k i hkn (by simp [hk,e])
    exact ⟨c1,c4.trans hv,c3⟩
   ·obtain ⟨c1,_,c3,c4⟩:=hvarO i hb hng (RY hv)
    exact ⟨c1,c4.trans hv,c3⟩
 refine ⟨H2,φ2,⟨hle2,hsr,fun mv m0 H0 φ0 w0 g=>?_⟩,memo,hkb,fun a v hfl hv=>?_⟩
 ·-- the caller's own frame
  have hh:∀ b,b<w0.heap.size->(∀ j,j<m0->DZ (φ0 j)≠some b)->∀ k,k<(back++gone).length->DZ (φ ((back++gone).getD k 0))≠some b:=by
   intro b h1 h2 k hk e
   have hk2:(back++gone)[k]? = some (back++gone)[k]:=by simp
   rw [Hk hk2] at e
   obtain ⟨bx,hb,hl,_⟩:=hand k _ hk2
   rcases g.new _ bx hb hl b e with h | ⟨j,hj,h⟩
   ·omega
   ·exact h2 j hj h
  refine ⟨f.os.trans g.os,f.tape.trans g.tape,f.output.trans g.output,Nat.le_trans g.size f.size,fun b h1 h2=>?_,fun j hj=>?_,fun i bi hi li b hb=>?_,fun j hj=>(hkb.2 j (g.vars j hj)).2.1,fun b h1 h2=>?_⟩
  ·rw [f.old b (Nat.lt_of_lt_of_le h1 g.size) (hh b h1 h2)]
   exact g.old b h1 h2
  ·exact (hkb.2 j (g.vars j hj)).1.trans (g.same j hj)
  ·rcases G.cases i bi hi with ⟨k,hk,rfl⟩ | ⟨h1,h2,h3⟩ | ⟨_,rfl⟩
   ·rw [show φ2 (Lt back st.length k)=φ' k from φren k] at hb
    obtain ⟨_,e1,l1,_⟩:=ofC k est'[k] (by simp)
    rw [hi] at e1
    cases e1
    rw [gj,l1] at li
    rcases f.new k _ (by simp) li b hb with h | ⟨j,hj,h⟩
    ·exact .inl (Nat.le_trans g.size h)
    ·have hk2:(back++gone)[j]? = some (back++gone)[j]:=by simp
     rw [Hk hk2] at h
     obtain ⟨bx,hbx,hl,_⟩:=hand j _ hk2
     exact g.new _ bx hbx hl b h
   ·rw [φoth i h2 h1] at hb
    have hib:st[i]? = some st[i]:=by simp
    have e:=G.other i _ h2 h3 hib
    rw [hi] at e
    cases e
    exact g.new i _ hib (killLive▸li) b hb
   ·cases li
  ·rw [H2old b (Nat.lt_of_lt_of_le h1 g.size) (hh b h1 h2)]
   exact g.frz b h1 h2
 ·have hv2:VB H2 φ' est' a v:=by
   rcases hfl with h | h
   ·have:H2=H':=by
     funext b
     exact nlent b fun ⟨i,hi,_⟩=>by rw [h] at hi; cases hi
    rw [this]
    exact hv
   ·exact hv.flat h
  have one:∀ a v,VC H2 φ' est' a v->VC H2 φ2 st2 (a.ren ren) v:=by
   intro a v hv
   cases a with
   | row k =>
    obtain ⟨e,hk⟩:=hv
    have hb:est'[k]? = some (est'[k]'(La hk)):=by simp
    refine ⟨by rw [φren k]; exact e,?_⟩
    obtain ⟨_,_,_,_,_,kk,_⟩:=ofC k _ hb
    rw [kk]
    exact hk
   | ptr k o =>
    obtain ⟨hk,b0,e1,e2⟩:=hv
    have hb:est'[k]? = some (est'[k]'(pH hk)):=by simp
    refine ⟨?_,b0,by rw [φren k]; exact e1,e2⟩
    obtain ⟨_,_,_,_,_,_,kk⟩:=ofC k _ hb
    rw [kk]
    exact hk
   | eptr k i o =>
    obtain ⟨b0,n,cap,K,hk,h2,e1,e2⟩:=hv
    have hb:est'[k]? = some (est'[k]'(La (by simp [hk]))):=by simp
    refine ⟨b0,n,cap,K,?_,h2,by rw [φren k]; exact e1,e2⟩
    obtain ⟨_,_,_,_,_,kk,_⟩:=ofC k _ hb
    rw [kk]
    exact hk
   | _=>exact hv
  rcases hv2.cases with ⟨cs,arr,rfl,e,h⟩ | h
  ·exact ⟨arr,e,h.map one⟩
  ·have:a.renV ren=a.ren ren:=by cases a<;>first | rfl | exact h.elim
   rw [this]
   exact VB.of_VC (one a v h)
end Go.Proofs.YtfcgblnlopemkaaGreatDoor.Core

namespace Go.Proofs.YtfcgblnlopemkaaGreatDoor.Core
open Go
variable {P:Program}
def ACG (H:HP) (φ:CG) (st:List AS):List AV->Value->Prop
 | [a],v=>VB H φ st a v
 | rs,v=>∃ arr,v=.tuple arr/\Aq (VB H φ st) rs arr.toList
def kI (P:Program) (f:Nat):Prop:=∃ fn c,P.funcs[f]? = some fn∧(fn.name == "runtime.NumGoroutine")=false∧fn.body=some c
def Ov (H:HP) (φ:CG) (w:World) (args bs outs rs:List AV) (v:Value) (w':World):Prop :=
 ∃ H' φ',H.le H'/\SR H' φ' (Bd outs rs) w'/\Fr bs.length (Bd bs args).length H φ w H' φ' (Bd outs rs) w'/\ACG H' φ' (Bd outs rs) (DW (Fe outs) rs) v
def tp (w w':World) (b n m:Nat) (v:Value) (T t:TypeId) (flat:List Value):Prop :=
 ∃ w1 w2 v',w.grownBy w1 (some b)/\w1.heap[b]? = some (.cells #[.pointer (some ⟨b,0,none⟩),v] T (0,0))/\w1.grownBy w2 (DZ v)/\w2.ownsRow 0 t 1 v' (n+m) flat /\
  (∀ g,DZ v'=some g->DZ v=some g\/w1.heap.size<=g)/\w2.grownBy w' (some b)/\w'.heap[b]? = some (.cells #[.pointer (some ⟨b,0,none⟩),v'] T (0,0))
def m7 (P:Program) (f k t T:Nat):Prop :=
 kI P f/\∀ (w:World) (b:Nat) (p v:Value) (xs:List Int),w.heap[b]? = some (.cells #[p,v] T (0,0))->(p=.pointer none\/p=.pointer (some ⟨b,0,none⟩)) ->
  w.ownsRow 0 t 1 v xs.length (xs.map (.int .u8))->DZ v≠some b->(∃ H:HP,pG H/\(∀ q o,H q=some o->w.heap[q]? = some o)/\(∀ q,DZ v=some q->H q=none)/\H b=none) ->
  (k=0->∀ c,xs.length+1<=68719476736->Calls P f #[.pointer (some ⟨b,0,none⟩),.int .u8 c] w fun e w'=>∃ r,e=.returned r/\tp w w' b xs.length 1 v T t ((xs++[c]).map (.int .u8))) /\
  (k=1->∀ s,xs.length+(Cg s).length<=68719476736->Calls P f #[.pointer (some ⟨b,0,none⟩),.string s] w fun e w'=>∃ r,e=.returned r/\tp w w' b xs.length (Cg s).length v T t ((xs++Cg s).map (.int .u8))) /\
  (k=2->mq xs=true->Calls P f #[.pointer (some ⟨b,0,none⟩)] w fun e w'=>e=.returned (.string (Ed xs))/\w.grownBy w' (DZ v))
def I9 (P:Program) (cal:GM):Prop :=
 (∀ f k t T:Nat,f<Bg->cal (Bg+f) [.int .i64 k,.int .i64 t,.int .i64 T] []=some []->m7 P f k t T) /\
 ∀ f args bs rs,(f<Bg\/2*Bg<=f)->cal f args bs=some rs->kI P (f % Bg)/\(∀ r∈rs,r.cells.all AV.nilFree=true)/\∃ n,n+bs.length=rs.length /\
  ∀ (H:HP) (φ:CG) (w:World) (cargs:List Value),SR H φ (Bd bs args) w->Aq (VB H φ (Bd bs args)) (DW (Fe bs) args) cargs ->
   Calls P (f % Bg) cargs.toArray w fun out w'=>match out with
    | .returned v=>Ov H φ w args bs (rs.drop n) (rs.take n) v w'
    | _=>False
theorem xP {H:HP} {K:Kd} {x:K.T} {v:Value} (h:GN H K x v.cells.toList) (f:PA K v):VE H (K.av x) v:=by
 cases K with
 | int k=>simp only [PA] at f; simp only [f,GN,List.cons.injEq,and_true] at h; subst h; rfl
 | bool=>simp only [PA] at f; simp only [f,GN,List.cons.injEq,and_true] at h; subst h; rfl
 | str=>simp only [PA] at f; simp only [f,GN,List.cons.injEq,and_true] at h; subst h; rfl
 | slice e =>
  simp only [PA] at f
  obtain ⟨u,e1,h⟩:=h
  simp only [f,List.cons.injEq,and_true] at e1
  subst e1
  exact h
 | pair a b =>
  obtain ⟨arr,e⟩:=f
  subst e
  exact ⟨arr,rfl,I8.of_rep h⟩
 | own t e=>exact h.elim
 | ref K=>exact h.elim
 | «fun» g=>simp only [PA] at f; simp only [f,GN,List.cons.injEq,and_true] at h; subst h; exact ⟨rfl,rfl⟩
 | clo g K =>
  simp only [PA] at f
  obtain ⟨u,e1,h⟩:=h
  simp only [f,List.cons.injEq,and_true] at e1
  subst e1
  exact h
theorem ADZ {H:HP} {K:Kd} {a:AV} {x:K.T} {v:Value} (hv:VE H a v) (h:K.of a=some x):VE H (K.av x) v:=by
 obtain ⟨h1,h2⟩:=of_rep (φ:=fun _=>.nilIface) (st:=[]) (VA.of_VE hv) h
 exact xP h1 h2
theorem kK:∀ (Ks:List Kd) (rs:List AV) (y:RT Ks),CB Ks rs=some y->rs.length=Ks.length/\(Dw Ks y).length=Ks.length/\Aq (fun a b=>∃ K x,Kd.of K a=some x/\b=K.av x) rs (Dw Ks y)
 | [],[],y,_=>⟨rfl,rfl,rfl⟩
 | [],_::_,y,h=>by simp [CB] at h
 | [K],[],y,h=>by simp [CB] at h
 | [K],[v],y,h=>⟨rfl,rfl,⟨_,_,rfl,⟨K,y,h,rfl⟩,rfl⟩⟩
 | [K],_::_::_,y,h=>by simp [CB] at h
 | K::L::Ks,[],y,h=>by simp [CB] at h
 | K::L::Ks,v::vs,y,h=>by
  simp only [CB] at h
  cases h1:K.of v with
  | none=>rw [h1] at h; cases h
  | some x =>
   cases h2:CB (L::Ks) vs with
   | none=>rw [h1,h2] at h; cases h
   | some r =>
    rw [h1,h2] at h
    cases h
    obtain ⟨l1,l2,l3⟩:=kK (L::Ks) vs r h2
    exact ⟨by simp [l1],by simpa [Dw] using l2,⟨_,_,rfl,⟨K,x,h1,rfl⟩,l3⟩⟩
theorem AC3 {K:Kd} {a:AV} {x:K.T} (h:K.of a=some x) (hn:a.cells.all AV.nilFree=true):a=K.av x:=by
 obtain ⟨hd,hf⟩:=zL h
 have e:=ge K a.cells [] x hn hd
 rw [List.append_nil] at e
 cases K with
 | pair k l =>
  cases a with
  | agg cs=>simp only [AV.cells] at e; rw [e]; rfl
  | _=>cases hf
 | _ =>
  cases a<;>first | exact (List.cons.inj e).1 | cases hf
theorem sw:∀ (Ks:List Kd) (rs:List AV) (y:RT Ks),CB Ks rs=some y->(∀ r∈rs,r.cells.all AV.nilFree=true)->Dw Ks y=rs:=by
 intro Ks rs y h hn
 obtain ⟨_,_,h3⟩:=kK Ks rs y h
 have key:∀ {aw bs:List AV},Aq (fun a b=>∃ K x,Kd.of K a=some x/\b=K.av x) aw bs->(∀ r∈aw,r.cells.all AV.nilFree=true)->bs=aw:=by
  intro aw
  induction aw with
  | nil=>intro bs h _; exact h
  | cons a aw ih =>
   intro bs h hn
   obtain ⟨b,r,rfl,⟨K,x,h1,h2⟩,hr⟩:=h
   rw [ih hr fun r hr=>hn r (by simp [hr]),h2,<- AC3 h1 (hn a (by simp))]
 exact key h3 hn
theorem kL:∀ (Ks:List Kd) (y:RT Ks) (j:Nat) (K:Kd),Ks[j]? = some K->∃ x:K.T,(Dw Ks y)[j]? = some (K.av x)
 | [],y,j,K,h=>by simp at h
 | [K0],y,j,K,h=>by
  cases j with
  | zero=>simp at h; subst h; exact ⟨y,rfl⟩
  | succ j=>simp at h
 | K0::L::Ks,y,j,K,h=>by
  cases j with
  | zero=>simp at h; subst h; exact ⟨y.1,rfl⟩
  | succ j =>
   obtain ⟨x,hx⟩:=kL (L::Ks) y.2 j K (by simpa using h)
   exact ⟨x,by simpa [Dw] using hx⟩
theorem xQ {ids:List (Nat×Kd)}:∀ {bx:List AV},bx.length=ids.length->(∀ (j:Nat) (v:AV),bx[j]? = some v->∃ p,ids[j]? = some p/\∃ x:Kd.T p.2,v=Kd.av p.2 x) ->
  AO (Bh bx)=(ids.map fun p=>if p.2.isOwn=true then 0 else p.2.news).sum:=by
 induction ids with
 | nil=>intro bx hl _; have:bx=[]:=DV.1 hl; subst this; rfl
 | cons p ids ih =>
  intro bx hl hk
  cases bx with
  | nil=>simp at hl
  | cons v bx =>
   obtain ⟨q,hq,x,hx⟩:=hk 0 v rfl
   simp at hq
   subst hq
   have:=ih (bx:=bx) (by simpa using hl) fun j v hj=>by simpa using hk (j+1) v (by simpa using hj)
   simp only [Bh,List.flatMap_cons,CA,List.map_cons,List.sum_cons] at this ⊢
   rw [this,hx]
   by_cases ho:p.2.isOwn=true
   ·obtain ⟨pi,pk⟩:=p
    obtain ⟨t,e,rfl⟩:=pU ho
    rw [if_pos ho,(pV x).1]
    rfl
   ·rw [if_neg ho,(JX x (by simpa using ho)).1,Xb]
theorem sx {s s':St} {a a':AV} (h:s.keep a=some (a',s')) {i:Nat} {b:AS} (hi:s'.st[i]? = some b) (hl:b.live=true):s.st[i]? = some b:=by
 cases a with
 | row id =>
  simp only [St.keep] at h
  split at h
  ·rename_i t' K' xs' hb
   cases h
   simp only [BD] at hi
   split at hi
   ·split at hi
    ·cases hi; cases hl
    ·cases hi
   ·exact hi
  ·cases h; exact hi
  ·cases h
 | fn f caps=>cases caps<;>first | (cases h; exact hi) | cases h
 | _=>first | (cases h; exact hi) | cases h
theorem xR {s s':St} {a a':AV} (h:s.keep a=some (a',s')):s'.fr=s.fr:=by
 cases a with
 | row id =>
  simp only [St.keep] at h
  split at h
  ·cases h; rfl
  ·cases h; rfl
  ·cases h
 | fn f caps=>cases caps<;>first | (cases h; rfl) | cases h
 | _=>first | (cases h; rfl) | cases h
theorem pW:∀ {aw aw':List AV} {s s':St},s.keepAll aw=some (aw',s')->s'.fr=s.fr
 | [],aw',s,s',h=>by cases h; rfl
 | a::aw,aw',s,s',h=>by
  simp only [St.keepAll] at h
  cases hk:s.keep a with
  | none=>rw [hk] at h; cases h
  | some x =>
   rw [hk] at h
   simp only [Z] at h
   cases hq:x.2.keepAll aw with
   | none=>rw [hq] at h; cases h
   | some y =>
    rw [hq] at h
    cases h
    exact (pW hq).trans (xR (a':=x.1) hk)
theorem gm:∀ {aw aw':List AV} {s s':St},s.keepAll aw=some (aw',s')->∀ {i:Nat} {b:AS},s'.st[i]? = some b->b.live=true->s.st[i]? = some b
 | [],aw',s,s',h,i,b,hi,hl=>by cases h; exact hi
 | a::aw,aw',s,s',h,i,b,hi,hl=>by
  simp only [St.keepAll] at h
  cases hk:s.keep a with
  | none=>rw [hk] at h; cases h
  | some x =>
   rw [hk] at h
   simp only [Z] at h
   cases hq:x.2.keepAll aw with
   | none=>rw [hq] at h; cases h
   | some y =>
    rw [hq] at h
    cases h
    exact sx hk (gm hq hi hl) hl
def AA4:PK->Value->List Value
 | .cap _ _,.func _ _ caps=>caps.toList
 | .cap _ _,_=>[]
 | .cap0 _,_=>[]
 | _,v=>[v]
def Kv:List (Cv×PK)->List Value->List Value
 | x::xs,c::cs=>AA4 x.2 c++Kv xs cs
 | _,_=>[]
def PK.isCap:PK->Bool
 | .cap _ _ | .cap0 _=>true
 | _=>false
theorem wQ {p:PK} {c:Value} (h:p.isCap=false):AA4 p c=[c]:=by cases p<;>first | rfl | cases h
theorem Xe:∀ {xs:List (Cv×PK)} {cs:List Value},xs.length=cs.length->(xs.all fun x=>!x.2.isCap)=true->Kv xs cs=cs
 | [],[],_,_=>rfl
 | x::xs,c::cs,hl,h=>by
  simp only [List.all_cons,AC,EL] at h
  simp only [Kv,wQ h.1,Xe (by simpa using hl) h.2]
  rfl
 | [],_::_,h,_=>by simp at h
 | _::_,[],h,_=>by simp at h
theorem dg:∀ {xs ys:List (Cv×PK)} {cs ds:List Value},xs.length=cs.length->Kv (xs++ys) (cs++ds)=Kv xs cs++Kv ys ds
 | [],ys,[],ds,_=>by simp [Kv]
 | x::xs,ys,c::cs,ds,h=>by
  simp only [List.cons_append,Kv,dg (xs:=xs) (cs:=cs) (by simpa using h),Be]
 | [],_,_::_,_,h=>by simp at h
 | _::_,_,[],_,h=>by simp at h
def ADQ (H:HP) (φ:CG) (st:List AS) (lent:Nat->Prop) (a:AV) (c:Value):Prop :=
 VF H a c\/∃ (i:Nat) (t:TypeId) (K:Kd),∃ xs:List (Kd.T K),lent i/\st[i]? = some (AS.rows t K xs)/\a=.lst K xs/\c=φ i
def AA5 (H:HP) (φ:CG) (st:List AS) (pt:Nat->Option (Nat×Kd)) (a:AV) (c:Value):Prop :=
 VF H a c\/∃ (k:Nat) (p:Nat×Kd),a=.row k/\pt k=some p/\Ak st p.1=false/\c=φ p.1
def ACH (H:HP) (φ:CG) (st:List AS) (pt:Nat->Option (Nat×Kd)) (a:AV) (c:Value):Prop :=
 (∃ (aw:List AV) (arr:Array Value),a=.agg aw/\c=.agg arr/\Aq (AA5 H φ st pt) aw arr.toList)\/AA5 H φ st pt a c
theorem o7 {H:HP} {φ:CG} {st:List AS} {w:World}:∀ {vs:List AV} {y:List AV×List Nat} {us:List Value},SR H φ st w->Aq (VC H φ st) vs us->nN st vs=some y ->
  Aq (fun a u=>VF H a u\/∃ (i:Nat) (t:TypeId) (K:Kd),∃ xs:List (Kd.T K),i∈y.2/\st[i]? = some (AS.rows t K xs)/\a=.lst K xs/\u=φ i) y.1 us
 | [],y,us,hs,hv,h=>by cases h; exact hv
 | v::vs,y,us,hs,⟨u,us',e,hu,hr⟩,h=>by
  subst e
  have plain:(if v.solid=true then (nN st vs).bind fun r=>some (v::r.1,r.2) else none)=some y->Aq (fun a u=>VF H a u\/∃ (i:Nat) (t:TypeId) (K:Kd),∃ xs:List (Kd.T K),i∈y.2/\st[i]? = some (AS.rows t K xs)/\a=.lst K xs/\u=φ i) y.1 (u::us'):=by
   intro h
   split at h
   ·rename_i hsol
    cases hq:nN st vs with
    | none=>rw [hq] at h; cases h
    | some q =>
     rw [hq] at h
     cases h
     exact ⟨u,us',rfl,.inl (hu.solid hsol),o7 hs hr hq⟩
   ·cases h
  cases v with
  | row id =>
   simp only [nN] at h
   split at h
   ·rename_i t e xs hb
    cases hq:nN st vs with
    | none=>rw [hq] at h; cases h
    | some q =>
     rw [hq] at h
     cases h
     refine ⟨u,us',rfl,.inr ⟨id,t,e,xs,by simp,hb,rfl,hu.1⟩,(o7 hs hr hq).imp fun a u h=>?_⟩
     rcases h with h | ⟨i,t,K,xs,h1,h2⟩
     ·exact .inl h
     ·exact .inr ⟨i,t,K,xs,by simp [h1],h2⟩
   ·rename_i e xs hb
    cases hq:nN st vs with
    | none=>rw [hq] at h; cases h
    | some q =>
     rw [hq] at h
     cases h
     refine ⟨u,us',rfl,.inl ?_,o7 hs hr hq⟩
     have:=(hs.box id _ hb).1
     rw [<- hu.1] at this
     exact this
   ·cases h
  | _=>exact plain h
theorem o8 {H:HP} {φ:CG} {st:List AS}:∀ {ks:List Kd} {vs:List AV} {j:Nat} {y:List AV×List (Nat×Kd)} {us:List Value},Aq (VC H φ st) vs us->cj st j ks vs=some y ->
  Aq (fun a u=>VF H a u\/∃ (m:Nat) (p:Nat×Kd),a=.row (j+m)/\y.2[m]? = some p/\Ak st p.1=false/\(AN st p.1).isSome=true/\u=φ p.1) y.1 us
 | [],[],j,y,us,hv,h=>by cases h; exact hv
 | [],_::_,j,y,us,hv,h=>by simp [cj] at h
 | _::_,[],j,y,us,hv,h=>by simp [cj] at h
 | k::ks,v::vs,j,y,us,⟨u,us',e,hu,hr⟩,h=>by
  subst e
  have row:∀ id,v=.row id->Ak st id=false->((cj st (j+1) ks vs).bind fun r=>some (AV.row j::r.1,(id,k)::r.2))=some y ->
    Aq (fun a u=>VF H a u\/∃ (m:Nat) (p:Nat×Kd),a=.row (j+m)/\y.2[m]? = some p/\Ak st p.1=false/\(AN st p.1).isSome=true/\u=φ p.1) y.1 (u::us'):=by
   intro id ev hva h'
   subst ev
   cases hq:cj st (j+1) ks vs with
   | none=>rw [hq] at h'; cases h'
   | some q =>
    rw [hq] at h'
    cases h'
    refine ⟨u,us',rfl,.inr ⟨0,(id,k),rfl,rfl,hva,hu.2,hu.1⟩,(o8 hr hq).imp fun a u h=>?_⟩
    rcases h with h | ⟨m,p,h1,h2,h3⟩
    ·exact .inl h
    ·exact .inr ⟨m+1,p,by rw [h1]; congr 1; omega,by simpa using h2,h3⟩
  have plain:((v.norm k).bind fun a=>(cj st j ks vs).bind fun r=>some (a::r.1,r.2))=some y ->
    Aq (fun a u=>VF H a u\/∃ (m:Nat) (p:Nat×Kd),a=.row (j+m)/\y.2[m]? = some p/\Ak st p.1=false/\(AN st p.1).isSome=true/\u=φ p.1) y.1 (u::us'):=by
   intro h
   cases hn:v.norm k with
   | none=>rw [hn] at h; cases h
   | some a =>
    rw [hn] at h
    simp only [Z] at h
    cases hq:cj st j ks vs with
    | none=>rw [hq] at h; cases h
    | some q =>
     rw [hq] at h
     cases h
     obtain ⟨n1,n2,n3,n4⟩:=gf hn
     exact ⟨u,us',rfl,.inl (n4 H u (hu.solid n3)),o8 hr hq⟩
  cases v with
  | row id =>
   simp only [cj] at h
   split at h
   ·rename_i t e xs hb
    split at h
    ·exact row id rfl (by simp only [Ak,hb]) h
    ·cases h
   ·rename_i t e xs hb
    split at h
    ·exact row id rfl (by simp only [Ak,hb]) h
    ·cases h
   ·cases h
  | _=>exact plain h
structure ADR (H:HP) (φ:CG) (st:List AS) (cl:List AV) (ids:List Nat) (vs:List Value):Prop where
 len:cl.length=vs.length
 cnt:AO cl=ids.length
 boxes:∀ (m:Nat) (b:AS),(Aw cl)[m]? = some b->∃ (i:Nat) (t:TypeId) (e:Kd),∃ xs:List (Kd.T e),ids[m]? = some i/\st[i]? = some (AS.rows t e xs)/\b=AS.rows t e xs
 cells:∀ (k o:Nat) (a:AV),(BQ k cl)[o]? = some a->∃ u,vs[o]? = some u/\((∃ m i:Nat,a=AV.row (k+m)/\ids[m]? = some i/\u=φ i)\/VF H a u)
inductive Hc (H:HP) (φ:CG) (st:List AS) (pt:Nat->Option (Nat×Kd)) (lent:Nat->Prop):List AV->List Value->List Nat->Prop
 | nil:Hc H φ st pt lent [] [] []
 | val {a:AV} {c:Value} {aw cs ms}:VE H a c->Hc H φ st pt lent aw cs ms->Hc H φ st pt lent (a::aw) (c::cs) ms
 | bor {i:Nat} {t:TypeId} {K:Kd} {xs:List K.T} {aw cs ms}:lent i->st[i]? = some (.rows t K xs)->Hc H φ st pt lent aw cs ms->Hc H φ st pt lent (.lst K xs::aw) (φ i::cs) ms
 | mov {i:Nat} {t:TypeId} {K:Kd} {xs:List K.T} {aw cs ms}:st[i]? = some (.rows t K xs)->Hc H φ st pt lent aw cs ms->Hc H φ st pt lent (.new t K xs::aw) (φ i::cs) (i::ms)
 | cap {f:Nat} {K:Kd} {z:K.T} {c:Value} {aw cs ms}:ux H f (GN H K z) (.func (.func f) #[] #[c])->Hc H φ st pt lent aw cs ms->Hc H φ st pt lent (.fptr (K.enc z) 0::aw) (c::cs) ms
 | borS {K:Kd} {z:K.T} {y:List AV} {arr:Array Value} {aw cs ms}:Aq (ADQ H φ st lent) y arr.toList->K.ofCells y=some z->(K.av z=.agg (K.enc z))->Hc H φ st pt lent aw cs ms->Hc H φ st pt lent (K.av z::aw) (.agg arr::cs) ms
 | movS {cl:List AV} {ids:List Nat} {arr:Array Value} {aw cs ms}:ADR H φ st cl ids arr.toList->Hc H φ st pt lent aw cs ms->Hc H φ st pt lent (.agg cl::aw) (.agg arr::cs) (ids++ms)
 | lendw {a:AV} {c:Value} {aw cs ms}:ACH H φ st pt a c->Hc H φ st pt lent aw cs ms->Hc H φ st pt lent (a::aw) (c::cs) ms
 | ptr {k:Nat} {p:Nat×Kd} {b:Nat} {aw cs ms}:pt k=some p->φ p.1=.pointer (some ⟨b,0,none⟩)->Hc H φ st pt lent aw cs ms->Hc H φ st pt lent (.ptr k 0::aw) (φ p.1::cs) ms
theorem kM {φ:CG} {w:World}:∀ {ks:List Kd} {vs:List AV} {s s':St} {H:HP},SR H φ s.st w->(∀ v∈vs,∀ i,v=.row i->(AN s.st i).isSome=true)->s.settle ks vs=some s' ->
  ∃ H',Ae H φ s.st w H' φ s'.st w/\By φ s.st φ s'.st none/\s'.fr=s.fr/\s'.st.length=s.st.length/\(∀ {i:Nat} {b:AS},s'.st[i]? = some b->b.live=true->s.st[i]? = some b)
 | [],[],s,s',H,hs,_,h=>by cases h; exact ⟨H,Ae.refl hs,By.refl _ _ _,rfl,rfl,fun h _=>h⟩
 | [],_::_,s,s',H,hs,_,h=>by simp [St.settle] at h
 | _::_,[],s,s',H,hs,_,h=>by simp [St.settle] at h
 | k::ks,v::vs,s,s',H,hs,hv,h=>by
  have rest:s.settle ks vs=some s'->∃ H',Ae H φ s.st w H' φ s'.st w/\By φ s.st φ s'.st none/\s'.fr=s.fr/\s'.st.length=s.st.length/\(∀ {i:Nat} {b:AS},s'.st[i]? = some b->b.live=true->s.st[i]? = some b) :=
   fun h=>kM hs (fun v hm=>hv v (by simp [hm])) h
  have freeze:∀ i,v=.row i->((s.keep (.row i)).bind fun x=>x.2.settle ks vs)=some s'->∃ H',Ae H φ s.st w H' φ s'.st w/\By φ s.st φ s'.st none/\s'.fr=s.fr/\s'.st.length=s.st.length/\(∀ {i:Nat} {b:AS},s'.st[i]? = some b->b.live=true->s.st[i]? = some b):=by
   intro i ev h
   cases hk:s.keep (.row i) with
   | none=>rw [hk] at h; cases h
   | some x =>
    obtain ⟨a1,s1⟩:=x
    rw [hk] at h
    simp only [Z] at h
    have hki:=hv v (by simp) i ev
    obtain ⟨H1,g1,k1,_,e1,n1⟩:=Vg hs (show VC H φ s.st (.row i) (φ i) from ⟨rfl,hki⟩) hk
    obtain ⟨H2,g2,k2,e2,n2,b2⟩:=kM g1.sr (fun v hm j ej=>by
     have:=hv v (by simp [hm]) j ej
     rw [(k1 j (by simp) (.inl this)).2.1]
     exact this) h
    exact ⟨H2,g1.trans g2,k1.trans k2,e2.trans e1,n2.trans n1,fun h hl=>sx hk (b2 h hl) hl⟩
  simp only [St.settle] at h
  split at h
  ·split at h
   ·exact rest h
   ·exact freeze _ rfl h
  ·exact rest h
theorem Kc {φ:CG} {w:World} {pt:Nat->Option (Nat×Kd)} {lent:Nat->Prop}:∀ {args:List (Cv×PK)} {j:Nat} {q:uu} {s s':St} {H:HP} {cs:List Value},SR H φ s.st w->Aq (fun (x:Cv×PK) c=>VA H φ s.st (s.opd x.1) c) args cs ->
  s.args args j=some (q,s')->(∀ k,q.ptrs[k]? = pt (j+k)\/q.ptrs[k]? = none)->(∀ i∈q.bors,lent i)->(∀ i∈q.movs++q.bors,∃ (t:TypeId) (K:Kd),∃ xs:List (Kd.T K),s'.st[i]? = some (AS.rows t K xs)) ->
  ∃ H',Ae H φ s.st w H' φ s'.st w/\By φ s.st φ s'.st none/\s'.fr=s.fr/\s'.st.length=s.st.length/\Hc H' φ s'.st pt lent q.args (Kv args cs) q.movs /\
   (∀ {i:Nat} {b:AS},s'.st[i]? = some b->b.live=true->s.st[i]? = some b)
 | [],j,q,s,s',H,cs,hs,hc,h,_,_,_=>by
  cases h
  cases hc
  exact ⟨H,Ae.refl hs,By.refl _ _ _,rfl,rfl,.nil,fun h _=>h⟩
 | (x,.val K)::r,j,q,s,s',H,cs,hs,hc,h,hp,hl,hv=>by
  obtain ⟨c,cs,rfl,h1,h2⟩:=hc
  simp only [St.args] at h
  split at h
  ·rename_i hfit
   cases hk:s.keepAll (s.opd x).cells with
   | none=>rw [hk] at h; cases h
   | some y =>
    obtain ⟨a',s1⟩:=y
    rw [hk] at h
    simp only [Z] at h
    obtain ⟨H1,g1,k1,f1,e1,n1⟩:=L7 hs h1 hk
    cases hz:K.ofCells a' with
    | none=>rw [hz] at h; cases h
    | some z =>
     rw [hz] at h
     simp only [Z] at h
     cases hq:s1.args r j with
     | none=>rw [hq] at h; cases h
     | some q' =>
      obtain ⟨q1,s2⟩:=q'
      rw [hq] at h
      cases h
      have ho:∀ x,s1.opd x=s.opd x:=fun x=>by cases x<;>simp [St.opd,e1]
      obtain ⟨H2,g2,k2,e2,n2,h3,b2⟩:=Kc (pt:=pt) (lent:=lent) g1.sr (h2.imp fun x c hx=>by rw [ho]; exact hx.mono g1.le k1) hq hp hl hv
      refine ⟨H2,g1.trans g2,k1.trans k2,e2.trans e1,n2.trans n1,.val ?_ h3,fun h hl=>gm hk (b2 h hl) hl⟩
      obtain ⟨c1,c2,d1,d2,d3⟩:=Hh K f1 (GO hz)
      cases d3
      rw [List.append_nil] at d1
      refine (xP (by rw [d1]; exact d2) ?_).mono g2.le
      rcases h1.cases with ⟨ds,arr,ea,ev,_⟩ | ⟨vs,arr,ea,_,_⟩ | hvc
      ·rw [ea] at hfit
       cases K with
       | pair a b=>exact ⟨arr,ev⟩
       | _=>cases hfit
      ·rw [ea] at hk
       simp [AV.cells,St.keepAll,St.keep] at hk
      ·rw [Vk hvc] at hk
       simp only [St.keepAll] at hk
       cases hkk:s.keep (s.opd x) with
       | none=>rw [hkk] at hk; cases hk
       | some y2 =>
        obtain ⟨H3,_,_,f3,_⟩:=Vg hs hvc (show s.keep (s.opd x)=some (y2.1,y2.2) from hkk)
        have hcell:=f3.cells
        cases K with
        | pair a b =>
         have:=d2.length
         rw [<- d1,hcell] at this
         have p1:=Kd.sz_pos a
         have p2:=Kd.sz_pos b
         simp [Kd.sz] at this
         omega
        | _=>exact hcell
  ·cases h
 | (x,.bor K)::r,j,q,s,s',H,cs,hs,hc,h,hp,hl,hv=>by
  obtain ⟨c,cs,rfl,h1,h2⟩:=hc
  simp only at h1
  have plain:∀ v,s.opd x=v->(if v.solid=true then (K.ofCells [v]).bind fun z=>(s.args r j).bind fun q=>some ((⟨K.av z::q.1.args,q.1.ptrs,q.1.movs,q.1.bors⟩:uu),q.2) else none)=some (q,s') ->
    ∃ H',Ae H φ s.st w H' φ s'.st w/\By φ s.st φ s'.st none/\s'.fr=s.fr/\s'.st.length=s.st.length/\Hc H' φ s'.st pt lent q.args (c::Kv r cs) q.movs /\
     (∀ {i:Nat} {b:AS},s'.st[i]? = some b->b.live=true->s.st[i]? = some b):=by
   intro v ev h
   split at h
   ·rename_i hsol
    cases hz:K.ofCells [v] with
    | none=>rw [hz] at h; cases h
    | some z =>
     rw [hz] at h
     simp only [Z] at h
     cases hq:s.args r j with
     | none=>rw [hq] at h; cases h
     | some q' =>
      obtain ⟨q1,s2⟩:=q'
      rw [hq] at h
      cases h
      obtain ⟨H2,g2,k2,e2,n2,h3,b2⟩:=Kc (pt:=pt) (lent:=lent) hs h2 hq hp hl hv
      rw [ev] at h1
      refine ⟨H2,g2,k2,e2,n2,.val ?_ h3,b2⟩
      have hf:VF H v c:=by
       rcases h1.cases with ⟨ds,arr,ea,_,_⟩ | ⟨vs,arr,ea,_,_⟩ | hvc
       ·rw [ea] at hsol; cases hsol
       ·rw [ea] at hsol; cases hsol
       ·exact hvc.solid hsol
      obtain ⟨c1,c2,d1,d2,d3⟩:=Hh K (aw:=[v]) (vs:=[c]) ⟨c,[],rfl,hf,rfl⟩ (GO hz)
      cases d3
      rw [List.append_nil] at d1
      subst d1
      have hc2:=d2.vcells
      refine (xP (by rw [hc2]; exact d2) ?_).mono g2.le
      cases K with
      | pair a b =>
       have:=d2.length
       have p1:=Kd.sz_pos a
       have p2:=Kd.sz_pos b
       simp [Kd.sz] at this
       omega
      | _=>exact hc2
   ·cases h
  simp only [St.args] at h
  cases hx:s.opd x with
  | row id =>
   rw [hx] at h h1
   obtain ⟨ec,_⟩:=h1
   subst ec
   simp only at h
   split at h
   ·rename_i t e xs hb
    split at h
    ·rename_i hK
     cases hq:s.args r j with
     | none=>rw [hq] at h; cases h
     | some q' =>
      obtain ⟨q1,s2⟩:=q'
      rw [hq] at h
      cases h
      obtain ⟨H2,g2,k2,e2,n2,h3,b2⟩:=Kc (pt:=pt) (lent:=lent) hs h2 hq hp (fun i hi=>hl i (by simp [hi])) (fun i hi=>hv i (by
       rcases CZ.1 hi with h | h
       ·exact List.mem_append_left _ h
       ·exact List.mem_append_right _ (by simp [h])))
      obtain ⟨t',K',xs',hlive⟩:=hv id (by simp)
      have heq:=b2 hlive rfl
      rw [hb] at heq
      cases heq
      exact ⟨H2,g2,k2,e2,n2,.bor (hl id (by simp)) hlive h3,b2⟩
    ·cases h
   ·rename_i e xs hb
    split at h
    ·rename_i hK
     cases hq:s.args r j with
     | none=>rw [hq] at h; cases h
     | some q' =>
      obtain ⟨q1,s2⟩:=q'
      rw [hq] at h
      cases h
      obtain ⟨H2,g2,k2,e2,n2,h3,b2⟩:=Kc (pt:=pt) (lent:=lent) hs h2 hq hp hl hv
      exact ⟨H2,g2,k2,e2,n2,.val (VE.mono g2.le (a:=.lst e xs) (hs.box id _ hb).1) h3,b2⟩
    ·cases h
   ·cases h
  | agg ds =>
   rw [hx] at h h1
   simp only at h
   split at h
   case isFalse=>cases h
   rename_i hfit
   cases hy:nN s.st ds with
   | none=>rw [hy] at h; cases h
   | some y =>
    rw [hy] at h
    simp only [Z] at h
    cases hz:K.ofCells y.1 with
    | none=>rw [hz] at h; cases h
    | some z =>
     rw [hz] at h
     simp only [Z] at h
     cases hq:s.args r j with
     | none=>rw [hq] at h; cases h
     | some q' =>
      obtain ⟨q1,s2⟩:=q'
      rw [hq] at h
      cases h
      obtain ⟨H2,g2,k2,e2,n2,h3,b2⟩:=Kc (pt:=pt) (lent:=lent) hs h2 hq hp (fun i hi=>hl i (by simp [hi])) (fun i hi=>hv i (by
       rcases CZ.1 hi with h | h
       ·exact List.mem_append_left _ h
       ·exact List.mem_append_right _ (by simp [h])))
      obtain ⟨arr,ec,hd⟩:=h1
      subst ec
      refine ⟨H2,g2,k2,e2,n2,.borS (y:=y.1) ((o7 hs hd hy).imp fun a u h=>?_) hz ?_ h3,b2⟩
      ·rcases h with h | ⟨i,t,e,xs,h1,h2,h4,h5⟩
       ·exact .inl (h.mono g2.le)
       ·obtain ⟨t',K',xs',hlive⟩:=hv i (by simp [h1])
        have heq:=b2 hlive rfl
        rw [h2] at heq
        cases heq
        exact .inr ⟨i,t,e,xs,hl i (by simp [h1]),hlive,h4,h5⟩
      ·cases K with
       | pair a b=>rfl
       | _=>cases hfit
  | _=>exact plain _ hx (by rw [hx] at h; exact h)
 | (x,.mov K)::r,j,q,s,s',H,cs,hs,hc,h,hp,hl,hv=>by
  obtain ⟨c,cs,rfl,h1,h2⟩:=hc
  simp only [St.args] at h
  split at h
  ·rename_i id hx
   split at h
   ·rename_i t e xs hb
    split at h
    ·cases hq:s.args r j with
     | none=>rw [hq] at h; cases h
     | some q' =>
      obtain ⟨q1,s2⟩:=q'
      rw [hq] at h
      cases h
      simp only at h1
      rw [hx] at h1
      obtain ⟨ec,_⟩:=h1
      subst ec
      obtain ⟨H2,g2,k2,e2,n2,h3,b2⟩:=Kc (pt:=pt) (lent:=lent) hs h2 hq hp hl (fun i hi=>hv i (by
       rcases CZ.1 hi with h | h
       ·exact List.mem_append_left _ (by simp [h])
       ·exact List.mem_append_right _ h))
      obtain ⟨t',K',xs',hlive⟩:=hv id (by simp)
      have heq:=b2 hlive rfl
      rw [hb] at heq
      cases heq
      exact ⟨H2,g2,k2,e2,n2,.mov hlive h3,b2⟩
    ·cases h
   ·cases h
  ·cases h
 | (x,.movS K)::r,j,q,s,s',H,cs,hs,hc,h,hp,hl,hv=>by
  obtain ⟨c,cs,rfl,h1,h2⟩:=hc
  simp only [St.args] at h
  split at h
  ·rename_i ds hx
   cases hy:Ju s.st K.leaves ds with
   | none=>rw [hy] at h; cases h
   | some y =>
    rw [hy] at h
    simp only [Z] at h
    cases hq:s.args r j with
    | none=>rw [hq] at h; cases h
    | some q' =>
     obtain ⟨q1,s2⟩:=q'
     rw [hq] at h
     cases h
     simp only at h1
     rw [hx] at h1
     obtain ⟨arr,ec,hd⟩:=h1
     subst ec
     obtain ⟨H2,g2,k2,e2,n2,h3,b2⟩:=Kc (pt:=pt) (lent:=lent) hs h2 hq hp hl (fun i hi=>hv i (by
      rcases CZ.1 hi with h | h
      ·exact List.mem_append_left _ (by simp [h])
      ·exact List.mem_append_right _ h))
     have F:=Vn hy
     refine ⟨H2,g2,k2,e2,n2,.movS ⟨F.len.trans hd.length.symm,F.cnt,fun m b hb=>?_,fun k o a ha=>?_⟩ h3,b2⟩
     ·obtain ⟨i,t,e,xs,i1,i2,i3⟩:=F.boxes m b hb
      obtain ⟨t',K',xs',hlive⟩:=hv i (List.mem_append_left _ (List.mem_append_left _ (List.mem_of_getElem? i1)))
      have heq:=b2 hlive rfl
      rw [i2] at heq
      cases heq
      exact ⟨i,_,_,_,i1,hlive,i3⟩
     ·obtain ⟨c,c1,c2⟩:=F.cells k o a ha
      obtain ⟨u,u1,u2⟩:=hd.get o c c1
      refine ⟨u,u1,?_⟩
      rcases c2 with ⟨m,i,e1,e2,e3⟩ | ⟨e1,e2,e3⟩ | ⟨i,e,xs,e1,e2,e3⟩
      ·subst e3
       exact .inl ⟨m,i,e1,e2,u2.1⟩
      ·exact .inr ((e3 _ _ (u2.solid e2)).mono g2.le)
      ·subst e2
       subst e1
       obtain ⟨eu,_⟩:=u2
       subst eu
       exact .inr (VF.mono g2.le (a:=.lst e xs) (hs.box i _ e3).1)
  ·cases h
 | (x,.ptr K)::r,j,q,s,s',H,cs,hs,hc,h,hp,hl,hv=>by
  obtain ⟨c,cs,rfl,h1,h2⟩:=hc
  simp only [St.args] at h
  split at h
  ·rename_i id hx
   split at h
   ·rename_i bcs hbx
    cases hst:s.settle K.leaves bcs with
    | none=>rw [hst] at h; cases h
    | some s1 =>
    rw [hst] at h
    simp only [Z] at h
    obtain ⟨H1,g1,k1,e1,n1,b1'⟩:=kM hs (fun v hv i ev=>by subst ev; obtain ⟨o,ho⟩:=List.mem_iff_getElem?.1 hv; exact (hs.cell id bcs hbx o i ho).1) hst
    have ho:∀ x,s1.opd x=s.opd x:=fun x=>by cases x<;>simp [St.opd,e1]
    cases hq:s1.args r (j+1) with
    | none=>rw [hq] at h; cases h
    | some q' =>
     obtain ⟨q1,s2⟩:=q'
     rw [hq] at h
     cases h
     obtain ⟨H2,g2,k2,e2,n2,h3,b2⟩:=Kc (pt:=pt) (lent:=lent) g1.sr (h2.imp fun x c hx=>by rw [ho]; exact hx.mono g1.le k1) hq (fun k=>by
      have:=hp (k+1)
      simp only [List.getElem?_cons_succ] at this
      rw [show j+1+k=j+(k+1) by omega]
      exact this) hl hv
     simp only at h1
     rw [hx] at h1
     obtain ⟨_,b,b1,b3⟩:=h1
     have e:c=φ id:=b3.trans b1.symm
     subst e
     refine ⟨H2,g1.trans g2,k1.trans k2,e2.trans e1,n2.trans n1,Hc.ptr (p:=(id,K)) (b:=b) ?_ b1 h3,fun h hl=>b1' (b2 h hl) hl⟩
     rcases hp 0 with h | h
     ·simpa using h.symm
     ·simp at h
   ·cases h
  ·cases h
 | (x,.mut K)::r,j,q,s,s',H,cs,hs,hc,h,hp,hl,hv=>by
  obtain ⟨c,cs,rfl,h1,h2⟩:=hc
  simp only [St.args] at h
  cases hy:cj s.st j K.leaves (s.opd x).cells with
  | none=>rw [hy] at h; cases h
  | some y =>
   rw [hy] at h
   simp only [Z] at h
   cases hq:s.args r (j+y.2.length) with
   | none=>rw [hq] at h; cases h
   | some q' =>
    obtain ⟨q1,s2⟩:=q'
    rw [hq] at h
    cases h
    obtain ⟨H2,g2,k2,e2,n2,h3,b2⟩:=Kc (pt:=pt) (lent:=lent) hs h2 hq (fun k=>by
     have:=hp (y.2.length+k)
     rw [Ci (by omega),Nat.add_sub_cancel_left,<- Nat.add_assoc] at this
     exact this) hl hv
    have pts:∀ (m:Nat) (p:Nat×Kd),y.2[m]? = some p->pt (j+m)=some p:=by
     intro m p hm
     have hlm:=(Aj.1 hm).1
     rcases hp m with h | h
     ·rw [<- h,BF hlm]; exact hm
     ·rw [BF hlm,hm] at h; cases h
    have one:∀ a u,(VF H a u\/∃ (m:Nat) (p:Nat×Kd),a=.row (j+m)/\y.2[m]? = some p/\Ak s.st p.1=false/\(AN s.st p.1).isSome=true/\u=φ p.1)->AA5 H2 φ s2.st pt a u:=by
     intro a u h
     rcases h with h | ⟨m,p,h1,h2,h3,h4,h5⟩
     ·exact .inl (h.mono g2.le)
     ·exact .inr ⟨j+m,p,h1,pts m p h2,((k2 p.1 (by simp) (.inl h4)).2.2.1).trans h3,h5⟩
    refine ⟨H2,g2,k2,e2,n2,Hc.lendw ?_ h3,b2⟩
    simp only at h1
    rcases h1.cases with ⟨ds,arr,ea,ev,hd⟩ | ⟨vs,arr,ea,_,_⟩ | hvc
    ·rw [ea] at hy ⊢
     subst ev
     exact .inl ⟨y.1,arr,rfl,rfl,(o8 hd hy).imp one⟩
    ·rw [ea] at hy
     exfalso
     simp only [AV.cells] at hy
     cases hks:K.leaves with
     | nil=>rw [hks] at hy; simp [cj] at hy
     | cons k ks =>
      rw [hks] at hy
      simp [cj,AV.norm,AV.solid] at hy
    ·have hcell:(s.opd x).cells=[s.opd x]:=Vk hvc
     rw [hcell] at hy
     have:=o8 (show Aq (VC H φ s.st) [s.opd x] [c] from ⟨c,[],rfl,hvc,rfl⟩) hy
     have hlk:∀ z,(s.opd x).like z=z.headD .undef:=fun z=>by
      generalize s.opd x=v at hvc
      cases v<;>first | rfl | exact hvc.elim
     rw [hlk]
     cases hy1:y.1 with
     | nil=>rw [hy1] at this; cases this
     | cons a aw =>
      rw [hy1] at this
      obtain ⟨u,us,e,h1',_⟩:=this
      cases e
      exact .inr (one a c h1')
 | (x,.cap f K)::r,j,q,s,s',H,cs,hs,hc,h,hp,hl,hv=>by
  obtain ⟨c,cs,rfl,h1,h2⟩:=hc
  simp only [St.args] at h
  split at h
  ·rename_i f' K' z hx
   split at h
   ·rename_i ef
    split at h
    ·rename_i ek
     subst ef ek
     cases hq:s.args r j with
     | none=>rw [hq] at h; cases h
     | some q' =>
      obtain ⟨q1,s2⟩:=q'
      rw [hq] at h
      cases h
      obtain ⟨H2,g2,k2,e2,n2,h3,b2⟩:=Kc (pt:=pt) (lent:=lent) hs h2 hq hp hl hv
      simp only at h1
      rw [hx] at h1
      have h1:ux H f' (GN H K' z) c:=h1
      have h1':=j_ g2.le (fun _ h=>GN.mono g2.le h) h1
      obtain ⟨b,o,c',el,fz,e,rest⟩:=h1'
      subst e
      exact ⟨H2,g2,k2,e2,n2,Hc.cap (f:=f') ⟨b,o,c',el,fz,rfl,rest⟩ h3,b2⟩
    ·cases h
   ·cases h
  ·cases h
 | (x,.cap0 f)::r,j,q,s,s',H,cs,hs,hc,h,hp,hl,hv=>by
  obtain ⟨c,cs,rfl,h1,h2⟩:=hc
  simp only [St.args] at h
  split at h
  ·split at h
   ·exact Kc (args:=r) (pt:=pt) (lent:=lent) hs h2 h hp hl hv
   ·cases h
  ·cases h
theorem cS:∀ {ks:List Kd} {vs:List AV} {s s':St},s.settle ks vs=some s'->s'.fr=s.fr
 | [],[],s,s',h=>by cases h; rfl
 | [],_::_,s,s',h=>by simp [St.settle] at h
 | _::_,[],s,s',h=>by simp [St.settle] at h
 | k::ks,v::vs,s,s',h=>by
  simp only [St.settle] at h
  split at h
  ·split at h
   ·exact cS h
   ·rename_i i _ _
    cases hk:s.keep (.row i) with
    | none=>rw [hk] at h; cases h
    | some x =>
     rw [hk] at h
     simp only [Z] at h
     exact (cS h).trans (xR (a':=x.1) hk)
  ·exact cS h
theorem JY:∀ {l:List (Cv×PK)} {x:Cv} {p:PK} {s:St} {j:Nat} {r:uu×St},s.args (l++[(x,p)]) j=some r->∃ (j':Nat) (s':St) (r':uu×St),s'.fr=s.fr/\s'.args [(x,p)] j'=some r'
 | [],x,p,s,j,r,h=>⟨j,s,r,rfl,h⟩
 | (y,.val K)::l,x,p,s,j,r,h=>by
  simp only [List.cons_append,St.args] at h
  split at h
  ·cases hk:s.keepAll (s.opd y).cells with
   | none=>rw [hk] at h; cases h
   | some a =>
    rw [hk] at h
    simp only [Z] at h
    cases hz:K.ofCells a.1 with
    | none=>rw [hz] at h; cases h
    | some z =>
     rw [hz] at h
     simp only [Z] at h
     cases hq:a.2.args (l++[(x,p)]) j with
     | none=>rw [hq] at h; cases h
     | some q =>
      obtain ⟨j',s',r',e,h'⟩:=JY hq
      exact ⟨j',s',r',e.trans (pW hk),h'⟩
  ·cases h
 | (y,.bor K)::l,x,p,s,j,r,h=>by
  have go:∀ {ρ:Type} {g:uu×St->Option ρ} {r:ρ},(s.args (l++[(x,p)]) j).bind g=some r->∃ (j':Nat) (s':St) (r':uu×St),s'.fr=s.fr/\s'.args [(x,p)] j'=some r':=by
   intro ρ g r h
   cases hq:s.args (l++[(x,p)]) j with
   | none=>rw [hq] at h; cases h
   | some q=>exact JY hq
  simp only [List.cons_append,St.args] at h
  split at h
  ·split at h
   ·split at h
    ·exact go h
    ·cases h
   ·split at h
    ·exact go h
    ·cases h
   ·cases h
  ·split at h
   ·rename_i cs' _ _
    cases hy:nN s.st cs' with
    | none=>rw [hy] at h; cases h
    | some y' =>
     rw [hy] at h
     simp only [Z] at h
     cases hz:K.ofCells y'.1 with
     | none=>rw [hz] at h; cases h
     | some z =>
      rw [hz] at h
      exact go h
   ·cases h
  ·split at h
   ·cases hz:K.ofCells [s.opd y] with
    | none=>rw [hz] at h; cases h
    | some z =>
     rw [hz] at h
     exact go h
   ·cases h
 | (y,.mov K)::l,x,p,s,j,r,h=>by
  simp only [List.cons_append,St.args] at h
  split at h
  ·split at h
   ·split at h
    ·cases hq:s.args (l++[(x,p)]) j with
     | none=>rw [hq] at h; cases h
     | some q=>exact JY hq
    ·cases h
   ·cases h
  ·cases h
 | (y,.movS K)::l,x,p,s,j,r,h=>by
  simp only [List.cons_append,St.args] at h
  split at h
  ·rename_i ds _
   cases hy:Ju s.st K.leaves ds with
   | none=>rw [hy] at h; cases h
   | some y' =>
    rw [hy] at h
    simp only [Z] at h
    cases hq:s.args (l++[(x,p)]) j with
    | none=>rw [hq] at h; cases h
    | some q=>exact JY hq
  ·cases h
 | (y,.ptr K)::l,x,p,s,j,r,h=>by
  simp only [List.cons_append,St.args] at h
  split at h
  ·split at h
   ·rename_i bcs _
    cases hst:s.settle K.leaves bcs with
    | none=>rw [hst] at h; cases h
    | some s1 =>
     rw [hst] at h
     simp only [Z] at h
     cases hq:s1.args (l++[(x,p)]) (j+1) with
     | none=>rw [hq] at h; cases h
     | some q =>
      obtain ⟨j',s',r',e,h'⟩:=JY hq
      exact ⟨j',s',r',e.trans (cS hst),h'⟩
   ·cases h
  ·cases h
 | (y,.mut K)::l,x,p,s,j,r,h=>by
  simp only [List.cons_append,St.args] at h
  cases hy:cj s.st j K.leaves (s.opd y).cells with
  | none=>rw [hy] at h; cases h
  | some y' =>
   rw [hy] at h
   simp only [Z] at h
   cases hq:s.args (l++[(x,p)]) (j+y'.2.length) with
   | none=>rw [hq] at h; cases h
   | some q=>exact JY hq
 | (y,.cap f K)::l,x,p,s,j,r,h=>by
  simp only [List.cons_append,St.args] at h
  split at h
  ·split at h
   ·split at h
    ·cases hq:s.args (l++[(x,p)]) j with
     | none=>rw [hq] at h; cases h
     | some q=>exact JY hq
    ·cases h
   ·cases h
  ·cases h
 | (y,.cap0 f)::l,x,p,s,j,r,h=>by
  simp only [List.cons_append,St.args] at h
  split at h
  ·split at h
   ·exact JY h
   ·cases h
  ·cases h
theorem VE.opens {H:HP} {a:AV} {v:Value} (h:VE H a v) (k:Nat):gI k a=a/\AO a.cells=0/\Aw a.cells=[]:=by
 have sol:∀ {cs:List AV} {vs:List Value},I8 H cs vs->∀ k,BQ k cs=cs/\AO cs=0/\Aw cs=[]:=by
  intro cs
  induction cs with
  | nil=>intro vs _ k; exact ⟨rfl,rfl,rfl⟩
  | cons c cs ih =>
   intro vs h k
   obtain ⟨v,r,rfl,h1,h2⟩:=h
   obtain ⟨o1,o2,o3⟩:=pK (k:=k) (r:=cs) h1
   obtain ⟨i1,i2,i3⟩:=ih h2 k
   exact ⟨by rw [o1,i1],by rw [o3]; exact i2,by rw [o2]; exact i3⟩
 rcases h.cases with ⟨cs,arr,rfl,_,hc⟩ | h
 ·obtain ⟨s1,s2,s3⟩:=sol hc k
  exact ⟨by simp only [gI,s1],s2,s3⟩
 ·have e:a.cells=[a]:=by cases a<;>first | rfl | exact h.elim
  obtain ⟨s1,s2,s3⟩:=sol (cs:=[a]) (vs:=[v]) ⟨v,[],rfl,h,rfl⟩ k
  refine ⟨?_,by rw [e]; exact s2,by rw [e]; exact s3⟩
  have:gI k a=(BQ k [a]).headD .undef:=by cases a<;>first | rfl | exact h.elim
  rw [this,s1]
  rfl
theorem AA6:∀ (K:Kd) (cs r:List AV) (x:K.T),(cs.all fun a=>!a.isNew)=true->K.dec cs=some (x,r)->((K.enc x).all fun a=>!a.isNew)=true/\(r.all fun a=>!a.isNew)=true:=by
 intro K
 induction K with
 | pair a b iha ihb =>
  intro cs r x hn h
  simp only [Kd.dec] at h
  cases h1:a.dec cs with
  | none=>simp [h1] at h
  | some p =>
   simp only [h1,Z] at h
   cases h2:b.dec p.2 with
   | none=>simp [h2] at h
   | some q =>
    simp only [h2,Z,BG,Prod.mk.injEq] at h
    obtain ⟨rfl,rfl⟩:=h
    obtain ⟨e1,e2⟩:=iha cs p.2 p.1 hn h1
    obtain ⟨e3,e4⟩:=ihb p.2 q.2 q.1 e2 h2
    exact ⟨by simp only [Kd.enc,List.all_append,e1,e3,Bool.and_self],e4⟩
 | own t e _ =>
  intro cs r x hn h
  cases cs with
  | nil=>simp [Kd.dec] at h
  | cons a cs=>cases a<;>first | (simp [AV.isNew] at hn; done) | (simp [Kd.dec] at h; done)
 | ref K _ =>
  intro cs r x hn h
  cases cs with
  | nil=>simp [Kd.dec] at h
  | cons a cs=>cases a<;>first | (simp [AV.isNew] at hn; done) | (simp [Kd.dec] at h; done)
 | _ =>
  intro cs r x hn h
  cases cs with
  | nil=>simp [Kd.dec] at h
  | cons a cs =>
   simp only [List.all_cons,AC] at hn
   refine ⟨rfl,?_⟩
   have e:r=cs:=by
    cases a<;>first | (simp [Kd.dec] at h; done) | (simp [Kd.dec] at h; obtain ⟨_,_,rfl⟩:=h; rfl) | (simp [Kd.dec] at h; obtain ⟨_,rfl⟩:=h; rfl) | (simp only [Kd.dec] at h; split at h<;>first | (cases h; done) | (cases h; rfl) | (split at h<;>first | (cases h; done) | (cases h; rfl))) | (rename_i l; cases l<;>first | (simp [Kd.dec] at h; done) | (simp only [Kd.dec] at h; split at h<;>first | (cases h; done) | (cases h; rfl)))
   rw [e]
   exact hn.2
theorem vC {K:Kd} {cs:List AV} {z:K.T} (h:K.ofCells cs=some z) (hn:(cs.all fun a=>!a.isNew)=true):((K.enc z).all fun a=>!a.isNew)=true:=(AA6 K cs [] z hn (GO h)).1
theorem zU:∀ {cs:List AV},(cs.all fun a=>!a.isNew)=true->AO cs=0/\∀ k,BQ k cs=cs/\Aw cs=[]
 | [],_=>⟨rfl,fun _=>⟨rfl,rfl⟩⟩
 | a::cs,h=>by
  simp only [List.all_cons,AC,EL] at h
  obtain ⟨h1,h2⟩:=zU h.2
  have ha:=h.1
  refine ⟨by simp [AO,ha,h1],fun k=>?_⟩
  obtain ⟨o1,o2⟩:=h2 k
  cases a<;>first | (cases ha; done) | exact ⟨by simp only [BQ,o1],by simp only [Aw,o2]⟩
theorem ACH.opens {H:HP} {φ:CG} {st:List AS} {pt:Nat->Option (Nat×Kd)} {a:AV} {c:Value} (h:ACH H φ st pt a c) (k:Nat):gI k a=a/\AO a.cells=0/\Aw a.cells=[]:=by
 rcases h with ⟨aw,arr,rfl,_,hc⟩ | h | ⟨k',p,rfl,_⟩
 ·have hs:(aw.all fun a=>!a.isNew)=true:=by
   refine Bf.2 fun a ha=>?_
   obtain ⟨j,hj⟩:=List.mem_iff_getElem?.1 ha
   obtain ⟨u,_,h | ⟨_,_,h,_⟩⟩:=hc.get j a hj
   ·cases a<;>first | rfl | exact h.elim
   ·rw [h]; rfl
  obtain ⟨h1,h2⟩:=zU hs
  exact ⟨by simp only [gI,(h2 k).1],h1,(h2 k).2⟩
 ·exact (VE.of_VF h).opens k
 ·exact ⟨rfl,rfl,rfl⟩
theorem Hc.news {H:HP} {φ:CG} {st:List AS} {pt:Nat->Option (Nat×Kd)} {lent:Nat->Prop} {aw:List AV} {cs:List Value} {ms:List Nat} (h:Hc H φ st pt lent aw cs ms) :
  AO (cellsOf aw)=ms.length/\∀ (m:Nat) (b:AS),(Aw (cellsOf aw))[m]? = some b->∃ (i:Nat) (t:TypeId) (e:Kd),∃ xs:List (Kd.T e),ms[m]? = some i/\st[i]? = some (AS.rows t e xs)/\b=AS.rows t e xs:=by
 have skip:∀ {a:AV} {aw:List AV} {ms:List Nat},AO a.cells=0->Aw a.cells=[]->(AO (cellsOf aw)=ms.length/\∀ (m:Nat) (b:AS),(Aw (cellsOf aw))[m]? = some b->∃ (i:Nat) (t:TypeId) (e:Kd),∃ xs:List (Kd.T e),ms[m]? = some i/\st[i]? = some (AS.rows t e xs)/\b=AS.rows t e xs) ->
   (AO (cellsOf (a::aw))=ms.length/\∀ (m:Nat) (b:AS),(Aw (cellsOf (a::aw)))[m]? = some b->∃ (i:Nat) (t:TypeId) (e:Kd),∃ xs:List (Kd.T e),ms[m]? = some i/\st[i]? = some (AS.rows t e xs)/\b=AS.rows t e xs):=by
  intro a aw ms h1 h2 h3
  have e:cellsOf (a::aw)=a.cells++cellsOf aw:=rfl
  rw [e,CA,h1,CN,h2,Nat.zero_add,List.nil_append]
  exact h3
 induction h with
 | nil=>exact ⟨rfl,fun m b h=>by simp [cellsOf,Aw] at h⟩
 | val hv _ ih=>obtain ⟨_,h1,h2⟩:=hv.opens 0; exact skip h1 h2 ih
 | bor _ _ _ ih=>exact skip rfl rfl ih
 | cap _ _ ih=>exact skip rfl rfl ih
 | borS hb hz he _ ih =>
  rename_i K z y arr aw cs ms _
  have hs:(y.all fun a=>!a.isNew)=true:=by
   refine Bf.2 fun a ha=>?_
   obtain ⟨j,hj⟩:=List.mem_iff_getElem?.1 ha
   obtain ⟨u,_,h | ⟨_,_,_,_,_,_,h,_⟩⟩:=hb.get j a hj
   ·cases a<;>first | rfl | exact h.elim
   ·rw [h]; rfl
  have hn:=zU (vC hz hs)
  exact skip (by rw [Z3]; exact hn.1) (by rw [Z3]; exact (hn.2 0).2) ih
 | lendw hm _ ih =>
  obtain ⟨_,h1,h2⟩:=hm.opens 0
  exact skip h1 h2 ih
 | ptr _ _ _ ih=>exact skip rfl rfl ih
 | movS hm _ ih =>
  rename_i cl ids arr aw cs ms _
  have e:cellsOf (AV.agg cl::aw)=cl++cellsOf aw:=rfl
  rw [e,CA,CN]
  refine ⟨by rw [hm.cnt,ih.1,List.length_append],fun m b hb=>?_⟩
  rcases B6 m (Aw cl).length with h | h
  ·rw [BF h] at hb
   obtain ⟨i,t,K,xs,h1,h2,h3⟩:=hm.boxes m b hb
   exact ⟨i,t,K,xs,by rw [BF (Aj.1 h1).1]; exact h1,h2,h3⟩
  ·rw [Ci h] at hb
   obtain ⟨i,t,K,xs,h1,h2,h3⟩:=ih.2 _ b hb
   rw [EM,hm.cnt] at h1 h
   exact ⟨i,t,K,xs,by rw [Ci h]; exact h1,h2,h3⟩
 | mov hi _ ih =>
  rename_i i t K xs aw cs ms _
  have e:cellsOf (AV.new t K xs::aw)=.new t K xs::cellsOf aw:=rfl
  rw [e]
  refine ⟨by simp [AO,AV.isNew,ih.1],fun m b hb=>?_⟩
  simp only [Aw] at hb
  cases m with
  | zero=>simp at hb; subst hb; exact ⟨i,t,K,xs,rfl,hi,rfl⟩
  | succ m=>simpa using ih.2 m b (by simpa using hb)
theorem Hc.callee {H H1:HP} {φ:CG} {st est:List AS} {ids:List (Nat×Kd)} {owns movs bors:List Nat} {aw:List AV} {cs:List Value} {ms:List Nat} (hE:gh st ids.length (ids.map (·.1)++owns++movs) est)
  (hle:H.le H1) (hlent:∀ i∈bors,∀ (t:TypeId) (K:Kd) (xs:List (Kd.T K)),st[i]? = some (AS.rows t K xs)->ZR (GN H1 K) K.sz H1 xs (φ i))
  (hnp:∀ i b,((∃ (t:TypeId) (K:Kd),∃ xs:List (Kd.T K),st[i]? = some (AS.rows t K xs))\/(∃ (t:TypeId) (K:Kd),∃ xs:List (Kd.T K),st[i]? = some (AS.mrow t K xs)))->φ i≠.pointer (some ⟨b,0,none⟩))
  (h:Hc H φ st (fun k=>ids[k]?) (· ∈ bors) aw cs ms):∀ (pre:List Nat),movs=pre++ms ->
  Aq (VB H1 (fun k=>φ ((ids.map (·.1)++owns++movs).getD k 0)) est) (DW (ids.length+owns.length+pre.length) aw) cs:=by
 induction h with
 | nil=>intro pre _; rfl
 | val hv _ ih =>
  intro pre e
  obtain ⟨h1,h2,_⟩:=hv.opens (ids.length+owns.length+pre.length)
  simp only [DW,h1,h2,Nat.add_zero]
  exact ⟨_,_,rfl,VB.of_VE (hv.mono hle),ih pre e⟩
 | bor hi hst _ ih =>
  intro pre e
  exact ⟨_,_,rfl,VB.of_VC (a:=.lst _ _) (hlent _ hi _ _ _ hst),ih pre e⟩
 | cap hc _ ih =>
  intro pre e
  obtain ⟨b,o,c',el,fz,ev,hb,vs,hr,hv⟩:=hc
  simp only [Value.func.injEq,true_and,Array.mk.injEq,List.cons.injEq,and_true] at ev
  subst ev
  exact ⟨_,_,rfl,VB.of_VC (a:=.fptr _ 0) ⟨b,o,c',el,fz,rfl,hle _ _ hb,vs,I8.mono hle (I8.of_rep hr),hv⟩,ih pre e⟩
 | movS hm _ ih =>
  rename_i cl ids0 arr aw cs ms _
  intro pre e
  have hk:∀ m i,ids0[m]? = some i->(ids.map (·.1)++owns++movs)[ids.length+owns.length+pre.length+m]? = some i:=fun m i hm=>by
   rw [Ci (by simp; omega),e,List.length_append,List.length_map,Ci (by omega),BF (by have:=(Aj.1 hm).1; omega),<- hm]
   congr 1; omega
  refine ⟨_,_,rfl,?_,?_⟩
  ·refine ⟨arr,rfl,S8 (by rw [JV,hm.len]) fun o a v ha hv=>?_⟩
   obtain ⟨u,u1,u2⟩:=hm.cells _ o a ha
   rw [hv] at u1
   cases u1
   rcases u2 with ⟨m,i,rfl,h2,rfl⟩ | h
   ·have hk:=hk m i h2
    obtain ⟨b,hb⟩:=hE.at hk
    obtain ⟨i',hi',hc⟩:=hE.get _ b hb
    refine ⟨by simp only [Hk hk],?_⟩
    rcases hc with ⟨hlt,_⟩ | ⟨_,t',e',xs',_,rfl⟩ | ⟨hlt,_⟩
    ·omega
    ·simp only [AN,hb]; rfl
    ·omega
   ·exact VC.of_VF (h.mono hle)
  ·have:=ih (pre++ids0) (by rw [e,Be])
   have hcnt:=hm.cnt
   simpa [AV.cells,hcnt,Nat.add_assoc] using this
 | mov hst _ ih =>
  rename_i i t K xs aw cs ms _
  intro pre e
  have hk:(ids.map (·.1)++owns++movs)[ids.length+owns.length+pre.length]? = some i:=by
   rw [Ci (by simp),e]
   simp
  refine ⟨_,_,rfl,?_,?_⟩
  ·obtain ⟨b,hb⟩:=hE.at hk
   obtain ⟨i',hi',hc⟩:=hE.get _ b hb
   refine VB.of_VC (a:=.row _) ⟨by simp only [Hk hk],?_⟩
   rcases hc with ⟨hlt,_⟩ | ⟨_,t',e',xs',_,rfl⟩ | ⟨hlt,_⟩
   ·omega
   ·simp only [AN,hb]; rfl
   ·omega
  ·have:=ih (pre++[i]) (by simp [e])
   simpa [AO,AV.cells,AV.isNew,Nat.add_assoc] using this
 | borS hb hz he _ ih =>
  rename_i K z y arr aw cs ms _
  intro pre e
  have hf:I8 H1 y arr.toList:=Hi.2 (hb.imp fun a u h=>by
   rcases h with h | ⟨i,t,K',xs,g1,g2,rfl,rfl⟩
   ·exact h.mono hle
   ·exact hlent i g1 t K' xs g2)
  obtain ⟨c1,c2,d1,d2,d3⟩:=Hh K hf (GO hz)
  cases d3
  rw [List.append_nil] at d1
  have hve:VE H1 (K.av z) (.agg arr):=by
   rw [he]
   exact ⟨arr,rfl,by rw [d1]; exact I8.of_rep d2⟩
  obtain ⟨h1,h2,_⟩:=hve.opens (ids.length+owns.length+pre.length)
  simp only [DW,h1,h2,Nat.add_zero]
  exact ⟨_,_,rfl,VB.of_VE hve,ih pre e⟩
 | lendw hm _ ih =>
  rename_i a c aw cs ms _
  intro pre e
  obtain ⟨h1,h2,_⟩:=hm.opens (ids.length+owns.length+pre.length)
  simp only [DW,h1,h2,Nat.add_zero]
  have one:∀ a c,AA5 H φ st (fun k=>ids[k]?) a c->VC H1 (fun k=>φ ((ids.map (·.1)++owns++movs).getD k 0)) est a c:=by
   intro a c h
   rcases h with h | ⟨k,p,rfl,hp,hva,rfl⟩
   ·exact VC.of_VF (h.mono hle)
   ·have hp:ids[k]? = some p:=hp
    have hk1:k<ids.length:=(Aj.1 hp).1
    have hk:(ids.map (·.1)++owns++movs)[k]? = some p.1:=by
     rw [Be,BF (by simpa using hk1),CT,hp]
     rfl
    obtain ⟨bx,hbx⟩:=hE.at hk
    obtain ⟨i',hi',hc⟩:=hE.get _ bx hbx
    rw [hk] at hi'
    cases hi'
    refine ⟨by simp only [Hk hk],?_⟩
    rcases hc with ⟨_,c1,c2,hst,_⟩ | ⟨hle,_⟩ | ⟨_,t',e',xs',_,rfl⟩
    ·simp only [Ak,hst] at hva; cases hva
    ·omega
    ·simp only [AN,hbx]; rfl
  refine ⟨_,_,rfl,?_,ih pre e⟩
  rcases hm with ⟨aw',arr,rfl,rfl,hc⟩ | hm
  ·exact ⟨arr,rfl,hc.imp one⟩
  ·exact VB.of_VC (one a c hm)
 | ptr hp hb _ ih =>
  rename_i k p b aw cs ms _
  intro pre e
  have hk1:k<ids.length:=(Aj.1 hp).1
  have hk:(ids.map (·.1)++owns++movs)[k]? = some p.1:=by
   rw [Be,BF (by simpa using hk1),CT,hp]
   rfl
  refine ⟨_,_,rfl,?_,by simpa [AO,AV.cells,AV.isNew] using ih pre e⟩
  obtain ⟨bx,hbx⟩:=hE.at hk
  obtain ⟨i',hi',hc⟩:=hE.get _ bx hbx
  rw [hk] at hi'
  cases hi'
  refine VB.of_VC (a:=.ptr k 0) ⟨?_,b,by simp only [Hk hk]; exact hb,hb⟩
  rcases hc with ⟨_,c1,c2,_,rfl,_⟩ | ⟨hle,_⟩ | ⟨_,t',e',xs',hst,rfl⟩
  ·simp only [Ak,hbx]
  ·omega
  ·exact absurd hb (hnp p.1 b (by rcases hst with h | h; exact .inl ⟨_,_,_,h⟩; exact .inr ⟨_,_,_,h⟩))
def Z5:List Operand->List (Cv×PK)->Bool
 | [],[]=>true
 | y::ys,x::xs=>Da y x.1&&Z5 ys xs
 | _,_=>false
theorem pX {H:HP} {φ:CG} {s:St} {act:Act} (hf:Gw H φ s.st s.fr act.tmps):∀ {ys:List Operand} {xs:List (Cv×PK)},Z5 ys xs=true->Aq (fun (x:Cv×PK) c=>VA H φ s.st (s.opd x.1) c) xs (ys.map act.eval)
 | [],[],_=>rfl
 | y::ys,x::xs,h=>by
  simp only [Z5,AC] at h
  exact ⟨_,_,rfl,BX hf h.1,pX hf h.2⟩
 | [],_::_,h=>by simp [Z5] at h
 | _::_,[],h=>by simp [Z5] at h
def vD (n:Nat) (o:Oper) (d:Option Nat) (f:Nat) (args:List (Cv×PK)):Bool :=
 (o.dst==d&&(decide (f<Bg)||decide (2*Bg<=f)))&&(match d with | some d=>decide (d<n) | none=>true)&&(match o.op with
  | .call ⟨.value (.func g),cargs,_⟩=>g==f % Bg&&Z5 cargs.toList args&&args.all fun x=>!x.2.isCap
  | .call ⟨.value (.tmp y),cargs,_⟩=>(match args.getLast? with
   | some x=>decide (f<Bg)&&Z5 cargs.toList args.dropLast&&Da (.tmp y) x.1&&(args.dropLast.all fun x=>!x.2.isCap)&&(match x.2 with
    | .cap f' _=>f'==f
    | .cap0 f'=>f'==f
    | _=>false)
   | none=>false)
  | _=>false)
theorem zV {H H':HP} {φ φ':CG} {st st':List AS} {rs:List AV} {f:AV->AV} {v:Value} (h:ACG H φ st rs v) (hf:∀ a∈rs,∀ u,VB H φ st a u->VB H' φ' st' (f a) u):VA H' φ' st' (ABy (rs.map f)) v:=by
 have mp:∀ {aw:List AV} {vs:List Value},(∀ a∈aw,∀ u,VB H φ st a u->VB H' φ' st' (f a) u)->Aq (VB H φ st) aw vs->Aq (VB H' φ' st') (aw.map f) vs:=by
  intro aw
  induction aw with
  | nil=>intro vs _ h; exact h
  | cons a aw ih =>
   intro vs hf h
   obtain ⟨v,r,rfl,h1,h2⟩:=h
   exact ⟨v,_,rfl,hf a (by simp) v h1,ih (fun b hb=>hf b (by simp [hb])) h2⟩
 cases rs with
 | nil =>
  obtain ⟨arr,e,h⟩:=h
  exact ⟨arr,e,mp (aw:=[]) (fun _ h=>by cases h) h⟩
 | cons a rs =>
  cases rs with
  | nil=>exact VA.of_VB (hf a (by simp) v h)
  | cons b rs =>
   obtain ⟨arr,e,h⟩:=h
   exact ⟨arr,e,mp hf h⟩
theorem cU:∀ {ys:List Operand} {xs:List (Cv×PK)},Z5 ys xs=true->xs.length=ys.length
 | [],[],_=>rfl
 | y::ys,x::xs,h=>by
  simp only [Z5,AC] at h
  simp [cU h.2]
 | [],_::_,h=>by simp [Z5] at h
 | _::_,[],h=>by simp [Z5] at h
theorem yM {H:HP} {φ:CG} {s:St} {act:Act} {n:Nat} {o:Oper} {d:Option Nat} {f:Nat} {args:List (Cv×PK)} {q:uu×St} (h:vD n o d f args=true) (hf:Gw H φ s.st s.fr act.tmps) (hq:s.args args 0=some q) :
  o.dst=d/\(∀ k,d=some k->k<n)/\∃ cs:List Value,Aq (fun (x:Cv×PK) c=>VA H φ s.st (s.opd x.1) c) args cs/\∀ w:World,kI P (f % Bg)->(execOp act.eval o).run P w=.ok (.enter (f % Bg) (Kv args cs).toArray) w:=by
 simp only [vD,AC,beq_iff_eq] at h
 obtain ⟨⟨⟨hd,_⟩,hdn⟩,h2⟩:=h
 refine ⟨hd,fun k e=>by subst e; simpa using hdn,?_⟩
 split at h2
 ·rename_i g cargs tys ho
  simp only [AC,beq_iff_eq] at h2
  obtain ⟨⟨rfl,hargs⟩,hpl⟩:=h2
  refine ⟨_,pX hf hargs,fun w hent=>?_⟩
  obtain ⟨fn,c,hfn,hname,hbody⟩:=hent
  have hname':¬ fn.name = "runtime.NumGoroutine" := by simpa using hname
  rw [Xe (by simpa using cU hargs) hpl]
  have hargs':(cargs.toList.map act.eval).toArray=cargs.map act.eval:=by
   rw [<- Array.toList_map,Array.toArray_toList]
  rw [hargs']
  simp [execOp,ho,resolve,Act.eval,Deferred.ofValue,invoke,callFunc,run_program,hfn,hname',hbody]
 ·rename_i y cargs tys ho
  split at h2
  ·rename_i x hx
   simp only [AC] at h2
   obtain ⟨⟨⟨⟨hfb,hargs⟩,hy⟩,hpl⟩,hp⟩:=h2
   rw [decide_eq_true_eq] at hfb
   rw [Nat.mod_eq_of_lt hfb]
   have hne:args≠[]:=fun e=>by rw [e] at hx; cases hx
   have hsplit:args=args.dropLast++[x]:=by
    rw [List.getLast?_eq_some_getLast hne] at hx
    rw [<- Option.some.inj hx]
    exact (List.dropLast_concat_getLast hne).symm
   have hvy:=BX hf hy
   refine ⟨cargs.toList.map act.eval++[act.eval (.tmp y)],?_,fun w hent=>?_⟩
   ·rw [hsplit]
    exact (pX hf hargs).append ⟨_,_,rfl,hvy,rfl⟩
   ·obtain ⟨fn,c,hfn,hname,hbody⟩:=hent
    have hname':¬ fn.name = "runtime.NumGoroutine" := by simpa using hname
    have hargs':(cargs.toList.map act.eval).toArray=cargs.map act.eval:=by
     rw [<- Array.toList_map,Array.toArray_toList]
    rw [hsplit,dg (by simpa using cU hargs),Xe (by simpa using cU hargs) hpl,show (cargs.toList.map act.eval++Kv [x] [act.eval (.tmp y)]).toArray=(cargs.toList.map act.eval).toArray++(Kv [x] [act.eval (.tmp y)]).toArray from by simp,hargs']
    obtain ⟨x1,p⟩:=x
    rw [hsplit] at hq
    obtain ⟨j',s',r',efr,hl⟩:=JY hq
    have hopd:s'.opd x1=s.opd x1:=by cases x1<;>simp [St.opd,efr]
    cases p with
    | cap f' K =>
     simp only [beq_iff_eq] at hp
     subst hp
     simp only [St.args] at hl
     split at hl
     ·rename_i f2 K2 z hz
      rw [hopd] at hz
      simp only at hvy
      rw [hz] at hvy
      split at hl
      ·rename_i e1
       subst e1
       obtain ⟨b,o',c',el,fz,ev,_⟩:=(hvy:ux H f2 (GN H K2 z) _)
       simp only [Kv,AA4,ev,List.append_nil]
       simp [execOp,ho,resolve,ev,Deferred.ofValue,invoke,callFunc,run_program,hfn,hname',hbody]
      ·cases hl
     ·cases hl
    | cap0 f' =>
     simp only [beq_iff_eq] at hp
     subst hp
     simp only [St.args] at hl
     split at hl
     ·rename_i f2 hz
      rw [hopd] at hz
      simp only at hvy
      rw [hz] at hvy
      split at hl
      ·rename_i e1
       subst e1
       obtain ⟨_,ev⟩:=(hvy:([]:List AV)=[]/\act.eval (.tmp y)=.func (.func f2) #[] #[])
       simp only [Kv,AA4,List.append_nil]
       simp [execOp,ho,resolve,ev,Deferred.ofValue,invoke,callFunc,run_program,hfn,hname',hbody]
      ·cases hl
     ·cases hl
    | _=>cases hp
  ·cases h2
 ·cases h2
theorem AA7 {n:Nat} {o:Oper} {d:Option Nat} {f:Nat} {args:List (Cv×PK)} {res:List Kd} {cal:GM} (hcal:I9 P cal) (h:vD n o d f args=true):I7 P n o (.call d f args res) cal:=by
 intro ρ kn r s act w H φ next Q hs hf hn hk hnext
 simp only [EQ] at hk
 cases hq:s.args args 0 with
 | none=>rw [hq] at hk; cases hk
 | some q0 =>
  obtain ⟨q,s1⟩:=q0
  rw [hq] at hk
  simp only [Z] at hk
  obtain ⟨hd,hdn,cvs,hcvs,hrun⟩:=yM h hf hq
  cases hb:L5 s1.st q.ptrs with
  | none=>rw [hb] at hk; cases hk
  | some bx0 =>
   obtain ⟨bx,owns⟩:=bx0
   rw [hb] at hk
   simp only [Z] at hk
   split at hk
   ·rename_i hchk
    simp only [AC] at hchk
    obtain ⟨⟨hnd,hap⟩,hlv⟩:=hchk
    have hnd:=sq hnd
    have hap:=ss hap
    have hlv:=m5 hlv
    cases hc:cal f q.args bx with
    | none=>rw [hc] at hk; cases hk
    | some rs =>
     rw [hc] at hk
     simp only [Z] at hk
     cases hy:CB (res++q.ptrs.map (·.2)) rs with
     | none=>rw [hy] at hk; cases hk
     | some y =>
      rw [hy] at hk
      simp only [Z] at hk
      obtain ⟨H1,g1,k1,e1,n1,ha,hback⟩:=Kc (pt:=fun k=>q.ptrs[k]?) (lent:=(· ∈ q.bors)) hs hcvs hq (fun k=>.inl (by simp)) (fun _ h=>h) hlv
      have F:=d_ hb
      obtain ⟨hent,hnf,m,hm,hcall⟩:=hcal.2 f q.args bx rs (by simp only [vD,AC,Dy,decide_eq_true_eq] at h; exact h.1.1.2) hc
      obtain ⟨l1,l2,_⟩:=kK _ rs y hy
      have hrs:Dw _ y=rs:=sw _ rs y hy hnf
      rw [hrs] at hk
      have hmr:m=res.length:=by
       have:rs.length=res.length+q.ptrs.length:=by rw [l1]; simp
       have:=F.len
       omega
      subst hmr
      have hE:=zS F ha.news.1 ha.news.2
      obtain ⟨H2,st1,b1,b2,b3,b4,b5⟩:=AC2 g1.sr q.bors (fun i hi=>hlv i (List.mem_append_right _ hi))
      have hsame:∀ i∈q.ptrs.map (·.1)++owns++q.movs,st1[i]? = s1.st[i]? := fun i hi=>b4 i fun h=>hap i h hi
      have hsr:=hE.sr hnd b2 hsame (fun i e xs hi=>by
       rw [b4 i fun h=>?_]
       ·exact hi
       ·obtain ⟨_,_,_,h2⟩:=hlv i (List.mem_append_right _ h)
        rw [hi] at h2
        cases h2)
      have hnp:∀ i b,((∃ (t:TypeId) (K:Kd),∃ xs:List (Kd.T K),s1.st[i]? = some (AS.rows t K xs))\/(∃ (t:TypeId) (K:Kd),∃ xs:List (Kd.T K),s1.st[i]? = some (AS.mrow t K xs)))->φ i≠.pointer (some ⟨b,0,none⟩):=by
       intro i b hi e
       rcases hi with ⟨t,K,xs,hi⟩ | ⟨t,K,xs,hi⟩
       ·obtain ⟨flat,ho,_⟩:=g1.sr.box i _ hi
        rcases ho.2 with ⟨e1,_⟩ | ⟨_,_,_,e1,_⟩<;>rw [e] at e1<;>cases e1
       ·obtain ⟨flat,ho,_⟩:=g1.sr.box i _ hi
        rcases ho.2 with ⟨e1,_⟩ | ⟨_,_,_,e1,_⟩<;>rw [e] at e1<;>cases e1
      have hargs2:=ha.callee hE b1 b5 hnp [] rfl
      have hhan:Fe bx=q.ptrs.length+owns.length:=by rw [kH,F.len,F.cnt]
      simp only [List.length_nil,Nat.add_zero] at hargs2
      rw [<- hhan] at hargs2
      have hC:=hcall H2 _ w _ hsr hargs2
      have B:wP H1 φ s1.st w q.ptrs.length (q.ptrs.map (·.1)++owns) q.movs q.bors H2 (Bd bx q.args) :=
       ⟨g1.sr,hE,hnd,fun i hi=>hlv i (List.mem_append_right _ hi),hap,b1,b3,by simp⟩
      have houtl:(rs.drop res.length).length=q.ptrs.length:=by rw [List.length_drop,l1]; simp
      have houtk:∀ (j:Nat) (v:AV),(rs.drop res.length)[j]? = some v->∃ p,q.ptrs[j]? = some p/\∃ x:Kd.T p.2,v=Kd.av p.2 x:=by
       intro j v hj
       have hjl:j<q.ptrs.length:=by rw [<- houtl]; exact (Aj.1 hj).1
       have hp:q.ptrs[j]? = some q.ptrs[j]:=by simp
       refine ⟨q.ptrs[j],hp,?_⟩
       have hK:(res++q.ptrs.map (·.2))[res.length+j]? = some q.ptrs[j].2:=by
        rw [Ci (by omega),Nat.add_sub_cancel_left,CT,hp]; rfl
       obtain ⟨x,hx⟩:=kL _ y _ _ hK
       rw [hrs] at hx
       rw [C3,hx] at hj
       exact ⟨x,(Option.some.inj hj).symm⟩
      have hcnt:AO (Bh (rs.drop res.length))=owns.length:=by
       rw [xQ houtl houtk,<- xQ F.len F.kd,F.cnt]
      have hhan2:Fe (rs.drop res.length)=q.ptrs.length+owns.length:=by rw [kH,houtl,hcnt]
      split at hk
      ·rename_i hflat
       simp only [Dy,AC,List.isEmpty_iff] at hflat
       unfold Oper.wp
       rw [hrun w hent,Oper.upon_enter]
       refine Calls.mono hC fun out w' hout=>?_
       cases out with
       | returned v =>
        obtain ⟨H3,φ3,c1,c2,c3,c4⟩:=hout
        rw [F.len,hE.len] at c3
        have hlen:(q.ptrs.map (·.1)++owns).length<=(Bd (rs.drop res.length) (rs.take res.length)).length:=by
         rw [VL,houtl,hcnt]; simp only [List.length_append,List.length_map]; omega
        obtain ⟨H4,φ4,d1,dm,d2,d3⟩:=B.back c2 c1 c3 hlen (by
         intro k i hkn hbk
         have hpk:q.ptrs[k]? = some q.ptrs[k]:=by simp
         have hik:q.ptrs[k].1=i:=by
          rw [BF (by simpa using hkn),CT,hpk] at hbk
          exact Option.some.inj hbk
         have hbxk:bx[k]? = some (bx[k]'(by rw [F.len]; exact hkn)):=by simp
         obtain ⟨p,hp,hc⟩:=F.vars 0 k _ hbxk
         rw [hpk] at hp
         cases hp
         have hok:(rs.drop res.length)[k]? = some ((rs.drop res.length)[k]'(by rw [houtl]; exact hkn)):=by simp
         obtain ⟨p,hp,x,hx⟩:=houtk k _ hok
         rw [hpk] at hp
         cases hp
         have hest:(Bd (rs.drop res.length) (rs.take res.length))[k]? = some (ut ((rs.drop res.length).length+AO (Bh ((rs.drop res.length).take k))) (Kd.av q.ptrs[k].2 x)):=by
          rw [JW,BF (by rw [Bb,houtl]; exact hkn),L9 _ _ k _ hok,hx]
         rw [hik] at hc
         rcases hc with ⟨cs,ecs,ho,hst,_⟩ | ⟨t,e,xs,ho,hst,_⟩
         ·refine ⟨fun _ _=>⟨_,by rw [hest,(JX x ho).2]⟩,fun t K xs h=>?_⟩
          rw [hst] at h
          rcases h with h | h<;>cases h
         ·refine ⟨fun cs h=>?_,fun t' K' xs' h=>?_⟩
          ·rcases hst with h2 | h2<;>rw [h2] at h<;>cases h
          ·have e1:t'=t/\K'=e:=by
            rcases hst with h2 | h2<;>rcases h with h | h<;>rw [h2] at h<;>cases h<;>exact ⟨rfl,rfl⟩
           obtain ⟨rfl,rfl⟩:=e1
           revert x
           rw [ho]
           intro x _ hest
           exact ⟨x,hest⟩) (by
         rcases hflat with h | h
         ·exact .inl h
         ·exact .inr h.1)
        have hdrop:(q.ptrs.map (·.1)++owns).drop q.ptrs.length=owns:=by
         rw [show q.ptrs.length=(q.ptrs.map (·.1)).length by simp,List.drop_left]
        rw [hdrop] at d2
        have hf4:Gw H4 φ4 (Qc s1.st q.ptrs.length (q.ptrs.map (·.1)++owns) q.movs (Bd (rs.drop res.length) (rs.take res.length))) (s1.fr.map (O8 (owns++q.movs))) act.tmps:=by
         rw [e1]
         exact Gw.kill d2 ((hf.mono g1.le k1).mono d1.le (By.refl _ _ _))
        have hres:=zV c4 (H':=H4) (φ':=φ4) (st':=Qc s1.st q.ptrs.length (q.ptrs.map (·.1)++owns) q.movs (Bd (rs.drop res.length) (rs.take res.length)))
         (f:=AV.renV (Lt (q.ptrs.map (·.1)++owns) s1.st.length)) fun a ha u hu=>d3 a u (by
          rcases hflat with h | h
          ·exact .inl h
          ·exact .inr (Bf.1 h.2 a ha)) hu
        refine hnext _ v w' H4 φ4 hk (g1.trans d1) ?_ ⟨?_,fun h=>by cases h⟩
        rotate_left
        ·intro i bi hi hl hni b hbi
         simp only [GB.touch,hq,hb,CZ,not_or] at hni
         refine c3.old b ((hs.box i bi hi).blk_lt hl hbi) fun k hk=>?_
         have hk2:(q.ptrs.map (·.1)++owns++q.movs)[k]? = some (q.ptrs.map (·.1)++owns++q.movs)[k]:=by simp
         rw [Hk hk2]
         intro e
         have hmem:=BW hk
         have hne:(q.ptrs.map (·.1)++owns++q.movs)[k]≠i:=fun e2=>by
          rw [e2] at hmem
          simp only [CZ] at hmem
          rcases hmem with (h | h) | h
          ·exact hni.1.1 h
          ·exact hni.1.2 h
          ·exact hni.2 h
         obtain ⟨eb,heb⟩:=hE.at hk2
         obtain ⟨i',hi',hc'⟩:=hE.get k eb heb
         rw [hk2] at hi'
         cases hi'
         have hlv2:∃ b2,s.st[(q.ptrs.map (·.1)++owns++q.movs)[k]]? = some b2/\b2.live=true:=by
          rcases hc' with ⟨_,cs,ecs,h,_⟩ | ⟨_,t,e,xs,h,_⟩ | ⟨_,t,e,xs,h | h,_⟩
          ·exact ⟨_,hback h rfl,rfl⟩
          ·exact ⟨_,hback h rfl,rfl⟩
          ·exact ⟨_,hback h rfl,rfl⟩
          ·exact ⟨_,hback h rfl,rfl⟩
         obtain ⟨b2,h1,h2⟩:=hlv2
         exact hs.sep _ i b2 bi h1 hi h2 hl hne b e hbi
        cases d with
        | none=>rw [hd]; exact hf4
        | some d =>
         rw [Vj hd]
         exact hf4.put (by have:=hdn d rfl; omega) hres
       | panicked ch=>exact hout.elim
       | outgrown=>exact hout.elim
      ·cases hk
   ·cases hk
end Go.Proofs.YtfcgblnlopemkaaGreatDoor.Core

namespace Go.Proofs.YtfcgblnlopemkaaGreatDoor.Core
open Go
variable {H:HP} {φ:CG} {st:List AS} {w w':World} {P:Program}
theorem zW {id j b:Nat} {T t:TypeId} {xs ys:List Int} (hs:SR H φ st w) (hid:st[id]? = some (.var [.self T,.row j])) (hj:st[j]? = some (.rows t (.int .u8) xs))
  (hb:φ id=.pointer (some ⟨b,0,none⟩)) (he:tp w w' b xs.length ys.length (φ j) T t ((xs++ys).map (.int .u8))) :
  ∃ φ',Ae H φ st w H φ' (((st.map (AS.kill [j])).set j (.rows t (.int .u8) (xs++ys))).set id (.var [.self T,.row j])) w' /\
   Cw φ st φ' (((st.map (AS.kill [j])).set j (.rows t (.int .u8) (xs++ys))).set id (.var [.self T,.row j])) [j]/\rp [id,j] φ st w w':=by
 obtain ⟨w1,w2,v',g1,h1,g2,h2,h3,g3,h4⟩:=he
 have hij:id≠j:=fun e=>by subst e; rw [hid] at hj; cases hj
 have hil:id<st.length:=(Aj.1 hid).1
 have hjl:j<st.length:=(Aj.1 hj).1
 have hkid:AN st id=none:=by simp only [AN,hid]
 have self:∀ (u:Value),VW H (φ id) T (.self T) (.pointer (some ⟨b,0,none⟩)):=fun _=>⟨rfl,.inr hb.symm⟩
 have A:=Ae.update (id:=id) (bx':=.var [.self T,.row j]) (v':=φ id) hs hid rfl (by rw [hb]; exact g1) ⟨b,_,T,hb,h1,_,_,rfl,self (φ id),_,_,rfl,trivial,rfl⟩ (fun _ h=>.inl h) (.inl ⟨rfl,rfl⟩)
  (fun k cs hk o ho=>by have:=(hs.cell k cs hk o id ho).1; rw [hkid] at this; cases this)
  (fun cs e o i ho=>by
   cases e
   match o,ho with
   | 1,ho =>
    cases ho
    exact ⟨Ne.symm hij,by simp [AN,hj],b,hb,by simp [World.cell?,h1]⟩)
 have eφ:(fun i=>if i=id then φ id else φ i)=φ:=by funext i; by_cases e:i=id<;>simp [e]
 have est:st.set id (.var [.self T,.row j])=st:=by
  apply List.ext_getElem?
  intro i
  rw [BD]
  by_cases e:id=i
  ·subst e; rw [if_pos rfl,if_pos hil,hid]
  ·rw [if_neg e]
 rw [eφ,est] at A
 have hj1:(st.map (AS.kill [j]))[j]? = some (.rows t (.int .u8) xs):=by rw [CT,hj]; rfl
 have hid1:(st.map (AS.kill [j]))[id]? = some (.var [.self T,.was j]):=by rw [CT,hid]; simp [AS.kill,AV.killB,Bx]
 have hvj:AW st j=false:=by simp only [AW,hj]; rfl
 have hvj1:AW (st.map (AS.kill [j])) j=false:=by rw [Fg (Ab [j])]; exact hvj
 have B:=Ae.update (id:=j) (bx':=.rows t (.int .u8) (xs++ys)) (v':=v') (A.sr.kill [j]) hj1 rfl g2 ⟨_,by simpa [Kd.sz] using h2,S9⟩ h3 (.inr hvj1)
  (fun k cs hk o ho=>by have:=RZ hk ho; simp [Bx] at this) (fun cs e=>by cases e)
 have hid2:((st.map (AS.kill [j])).set j (.rows t (.int .u8) (xs++ys)))[id]? = some (.var [.self T,.was j]):=by rw [BD,if_neg (Ne.symm hij)]; exact hid1
 have hj2:((st.map (AS.kill [j])).set j (.rows t (.int .u8) (xs++ys)))[j]? = some (.rows t (.int .u8) (xs++ys)):=by rw [BD]; simp [hjl]
 have eid:(fun i=>if i=j then v' else φ i) id=φ id:=by simp [hij]
 have hkid2:AN ((st.map (AS.kill [j])).set j (.rows t (.int .u8) (xs++ys))) id=none:=by simp only [AN,hid2]
 have C:=Ae.update (id:=id) (bx':=.var [.self T,.row j]) (v':=φ id) B.sr hid2 rfl (by rw [if_neg hij,hb]; exact g3) ⟨b,_,T,hb,h4,_,_,rfl,self (φ id),_,_,rfl,trivial,rfl⟩ (fun _ h=>.inl (by rw [if_neg hij]; exact h)) (.inl ⟨rfl,eid.symm⟩)
  (fun k cs hk o ho=>by have:=(B.sr.cell k cs hk o id ho).1; rw [hkid2] at this; cases this)
  (fun cs e o i ho=>by
   cases e
   match o,ho with
   | 1,ho =>
    cases ho
    exact ⟨Ne.symm hij,by simp [AN,hj2],b,hb,by simp [World.cell?,h4]⟩)
 refine ⟨_,A.trans ((Ae.kill A.sr [j]).trans (B.trans C)),⟨fun i hn _=>?_,fun i hv=>?_⟩,fun i bx hi hl hni c hc=>?_⟩
 ·have hne:i≠j:=fun e=>by subst e; simp [Bx] at hn
  have go:∀ q,q≠id->q≠j->(((st.map (AS.kill [j])).set j (.rows t (.int .u8) (xs++ys))).set id (.var [.self T,.row j]))[q]? = (st.map (AS.kill [j]))[q]? := fun q h1 h2=>by
   rw [BD,if_neg (Ne.symm h1),BD,if_neg (Ne.symm h2)]
  by_cases e:i=id
  ·subst e
   have:(((st.map (AS.kill [j])).set j (.rows t (.int .u8) (xs++ys))).set i (.var [.self T,.row j]))[i]? = some (.var [.self T,.row j]):=by rw [BD]; simp [hil]
   exact ⟨by simp,by simp only [AN,this,hid],by simp only [Ak,this,hid]⟩
  ·refine ⟨by simp [e,hne],?_,?_⟩
   ·rw [<- Gr (Ab [j]) st i]; simp only [AN,go i e hne]
   ·rw [<- FY (Ab [j]) st i]; simp only [Ak,go i e hne]
 ·have hne:i≠j:=fun e=>by subst e; rw [hvj] at hv; cases hv
  by_cases e:i=id
  ·subst e
   have:(((st.map (AS.kill [j])).set j (.rows t (.int .u8) (xs++ys))).set i (.var [.self T,.row j]))[i]? = some (.var [.self T,.row j]):=by rw [BD]; simp [hil]
   exact ⟨by simp,by simp only [AW,this]; rfl,by simp only [Ak,this,hid]⟩
  ·have go:(((st.map (AS.kill [j])).set j (.rows t (.int .u8) (xs++ys))).set id (.var [.self T,.row j]))[i]? = (st.map (AS.kill [j]))[i]? := by
    rw [BD,if_neg (Ne.symm e),BD,if_neg (Ne.symm hne)]
   have t1:AW (((st.map (AS.kill [j])).set j (.rows t (.int .u8) (xs++ys))).set id (.var [.self T,.row j])) i=AW (st.map (AS.kill [j])) i:=by simp only [AW,go]
   have t2:Ak (((st.map (AS.kill [j])).set j (.rows t (.int .u8) (xs++ys))).set id (.var [.self T,.row j])) i=Ak (st.map (AS.kill [j])) i:=by simp only [Ak,go]
   exact ⟨by simp [e,hne],by rw [t1,Fg (Ab [j])]; exact hv,by rw [t2,FY (Ab [j])]⟩
 ·simp only [BI,List.not_mem_nil,or_false,not_or] at hni
  have n1:c≠b:=fun e=>by subst e; exact hs.sep i id bx _ hi hid hl rfl hni.1 c hc (by rw [hb]; rfl)
  have n2:DZ (φ j)≠some c:=hs.sep i j bx _ hi hj hl rfl hni.2 c hc
  have hlt:=(hs.box i bx hi).blk_lt hl hc
  rw [g3.block c (Nat.lt_of_lt_of_le hlt (Nat.le_trans g1.size g2.size)) (by simpa using n1),g2.block c (Nat.lt_of_lt_of_le hlt g1.size) (fun e=>n2 e.symm),g1.block c hlt (by simpa using n1)]
theorem vE {id j:Nat} {T t:TypeId} {xs:List Int} (hs:SR H φ st w) (hid:st[id]? = some (.var [.self T,.row j])) (hj:st[j]? = some (.rows t (.int .u8) xs)) (hg:w.grownBy w' (DZ (φ j))) :
  Ae H φ st w H φ ((st.map (AS.kill [j])).set j .dead) w'/\Cw φ st φ ((st.map (AS.kill [j])).set j .dead) [j]/\rp [id,j] φ st w w':=by
 have hjl:j<st.length:=(Aj.1 hj).1
 have hj1:(st.map (AS.kill [j]))[j]? = some (.rows t (.int .u8) xs):=by rw [CT,hj]; rfl
 have hvj:AW st j=false:=by simp only [AW,hj]; rfl
 have hvj1:AW (st.map (AS.kill [j])) j=false:=by rw [Fg (Ab [j])]; exact hvj
 have B:=Ae.update (id:=j) (bx':=.dead) (v':=φ j) (hs.kill [j]) hj1 rfl hg trivial (fun _ h=>.inl h) (.inr hvj1)
  (fun k cs hk o ho=>by have:=RZ hk ho; simp [Bx] at this) (fun cs e=>by cases e)
 have eφ:(fun i=>if i=j then φ j else φ i)=φ:=by funext i; by_cases e:i=j<;>simp [e]
 rw [eφ] at B
 have go:∀ i,i≠j->((st.map (AS.kill [j])).set j .dead)[i]? = (st.map (AS.kill [j]))[i]? := fun i h=>by rw [BD,if_neg (Ne.symm h)]
 refine ⟨(Ae.kill hs [j]).trans B,⟨fun i hn _=>?_,fun i hv=>?_⟩,fun i bx hi hl hni c hc=>?_⟩
 ·have hne:i≠j:=fun e=>by subst e; simp [Bx] at hn
  refine ⟨rfl,?_,?_⟩
  ·rw [<- Gr (Ab [j]) st i]; simp only [AN,go i hne]
  ·rw [<- FY (Ab [j]) st i]; simp only [Ak,go i hne]
 ·have hne:i≠j:=fun e=>by subst e; rw [hvj] at hv; cases hv
  have t1:AW ((st.map (AS.kill [j])).set j .dead) i=AW (st.map (AS.kill [j])) i:=by simp only [AW,go i hne]
  have t2:Ak ((st.map (AS.kill [j])).set j .dead) i=Ak (st.map (AS.kill [j])) i:=by simp only [Ak,go i hne]
  exact ⟨rfl,by rw [t1,Fg (Ab [j])]; exact hv,by rw [t2,FY (Ab [j])]⟩
 ·simp only [BI,List.not_mem_nil,or_false,not_or] at hni
  exact hg.block c ((hs.box i bx hi).blk_lt hl hc) (fun e=>hs.sep i j bx _ hi hj hl rfl hni.2 c hc e.symm)
def ACI (n:Nat) (o:Oper) (d:Option Nat) (k f:Nat) (x y:Cv):Bool :=
 (o.dst==d&&decide (f<Bg))&&(match d with | some d=>decide (d<n) | none=>true)&&(match o.op with
  | .call ⟨.value (.func g),cargs,_⟩=>g==f&&(match cargs.toList with
   | [x']=>k==2&&Da x' x
   | [x',y']=>decide (k≠2)&&Da x' x&&Da y' y
   | _=>false)
  | _=>false)
theorem ACJ {n:Nat} {o:Oper} {d:Option Nat} {k f t:Nat} {x y:Cv} {cal:GM} (hcal:I9 P cal) (h:ACI n o d k f x y=true):I7 P n o (.bld d k f t x y) cal:=by
 intro ρ kn r s act w H φ next Q hs hf hn hk hnext
 simp only [EQ] at hk
 simp only [ACI,AC,beq_iff_eq,decide_eq_true_eq] at h
 obtain ⟨⟨⟨hd,hfb⟩,hdn⟩,h2⟩:=h
 split at hk
 ·rename_i id hx
  split at hk
  ·rename_i T j hid
   split at hk
   ·rename_i t' xs hj
    split at hk
    ·rename_i ht
     subst ht
     cases hq:cal (Bg+f) [.int .i64 k,.int .i64 t',.int .i64 T] [] with
     | none=>rw [hq] at hk; cases hk
     | some q =>
      rw [hq,Z] at hk
      cases q with
      | cons _ _=>cases hk
      | nil =>
      simp only [CB,Z] at hk
      obtain ⟨hent,hB⟩:=hcal.1 f k t' T hfb hq
      split at h2
      ·rename_i g cargs tys ho
       simp only [AC,beq_iff_eq] at h2
       obtain ⟨rfl,hargs⟩:=h2
       obtain ⟨b,c,el,e1,hh,u0,r0,ec,⟨hel,hu0⟩,u1,r1,er,_,hr1⟩:=hs.box id _ hid
       subst hel
       have hr1:r1=[]:=hr1
       subst hr1 er
       have hc:c=#[u0,u1]:=by rw [<- Array.toArray_toList (xs:=c),ec]
       subst hc
       have hu1:u1=φ j:=by
        obtain ⟨_,b2,q1,q2⟩:=hs.cell id _ hid 1 j rfl
        rw [e1] at q1
        cases q1
        simp [World.cell?,hh] at q2
        exact q2
       subst hu1
       obtain ⟨flat,how,hrr⟩:=hs.box j _ hj
       have hfl:=Zw hrr how.1
       subst hfl
       have hij:id≠j:=fun e=>by subst e; rw [hid] at hj; cases hj
       have hne:DZ (φ j)≠some b:=fun e=>hs.sep j id _ _ hj hid rfl rfl (Ne.symm hij) b e (by rw [e1]; rfl)
       have hun:u0=.pointer none\/u0=.pointer (some ⟨b,0,none⟩):=by rw [e1] at hu0; exact hu0
       obtain ⟨B0,B1,B2⟩:=hB w b u0 (φ j) xs hh hun how hne ⟨H,hs.tb,hs.hp,fun q hq=>hs.out j _ hj rfl q hq,hs.out id _ hid rfl b (by rw [e1]; rfl)⟩
       have hptr:∀ x',Da x' x=true->act.eval x'=.pointer (some ⟨b,0,none⟩):=fun x' hx'=>by
        have:=BX hf hx'
        rw [hx] at this
        obtain ⟨_,b2,q1,q2⟩:=this
        rw [e1] at q1
        cases q1
        exact q2
       have hrun:∀ w:World,(execOp act.eval o).run P w=.ok (.enter g (cargs.map act.eval)) w:=fun w=>by
        obtain ⟨fn,c,hfn,hname,hbody⟩:=hent
        have hname':¬ fn.name = "runtime.NumGoroutine" := by simpa using hname
        simp [execOp,ho,resolve,Act.eval,Deferred.ofValue,invoke,callFunc,run_program,hfn,hname',hbody]
       have fin:∀ {a:AV} {v:Value} {s1:St} {w':World} {φ':CG},kn ⟨uv d a s1.fr,s1.st⟩=some r->Ae H φ s.st w H φ' s1.st w'->Gw H φ' s1.st s1.fr act.tmps->VA H φ' s1.st a v->rp [id,j] φ s.st w w'->next (act.put o.dst v) w':=by
        intro a v s1 w' φ' hk hst hfr hva hm
        refine hnext _ v w' H φ' hk hst ?_ ⟨?_,fun h=>by cases h⟩
        ·cases d with
         | none=>rw [hd]; exact hfr
         | some d=>rw [Vj hd]; exact hfr.put (Nat.lt_of_lt_of_eq (show d<n by simpa using hdn) hn.symm) hva
        ·simp only [GB.touch,hx,hid]; exact hm
       split at hk
       ·rename_i hk2
        split at hk
        ·rename_i hbyte
         have hargs':∃ x',cargs=#[x']/\Da x' x=true:=by
          rw [<- Array.toArray_toList (xs:=cargs)]
          split at hargs
          ·rename_i x' e; rw [e]; simp only [AC] at hargs; exact ⟨x',rfl,hargs.2⟩
          ·simp [hk2] at hargs
          ·cases hargs
         obtain ⟨x',rfl,hx'⟩:=hargs'
         unfold Oper.wp
         rw [hrun w,Oper.upon_enter]
         have:=B2 hk2 hbyte
         simp only [List.map_toArray,List.map_cons,List.map_nil,hptr x' hx']
         refine Calls.mono this fun out w' hout=>?_
         obtain ⟨rfl,hg⟩:=hout
         obtain ⟨q1,q2,q3⟩:=vE hs hid hj hg
         exact fin (s1:=⟨s.fr.map (O8 [j]),_⟩) hk q1 (hf.kill q2) rfl q3
        ·cases hk
       ·rename_i hk2
        cases ha:AAm k (s.opd y) with
        | none=>rw [ha] at hk; cases hk
        | some ys =>
         rw [ha] at hk
         simp only [Z] at hk
         split at hk
         ·rename_i hlim
          have hargs':∃ x' y',cargs=#[x',y']/\Da x' x=true/\Da y' y=true:=by
           rw [<- Array.toArray_toList (xs:=cargs)]
           split at hargs
           ·simp [hk2] at hargs
           ·rename_i x' y' e; rw [e]; simp only [AC] at hargs; exact ⟨x',y',rfl,hargs.1.2,hargs.2⟩
           ·cases hargs
          obtain ⟨x',y',rfl,hx',hy'⟩:=hargs'
          have vy:=BX hf hy'
          unfold Oper.wp
          rw [hrun w,Oper.upon_enter]
          simp only [List.map_toArray,List.map_cons,List.map_nil,hptr x' hx']
          have done:∀ (ys:List Int) (w':World) (v:Value),kn ⟨uv d .undef (s.fr.map (O8 [j])),((s.st.map (AS.kill [j])).set j (.rows t' (.int .u8) (xs++ys))).set id (.var [.self el,.row j])⟩=some r ->
            tp w w' b xs.length ys.length (φ j) el t' ((xs++ys).map (.int .u8))->next (act.put o.dst v) w':=fun ys w' v hk he=>by
           obtain ⟨φ',q1,q2,q3⟩:=zW hs hid hj e1 he
           exact fin (s1:=⟨s.fr.map (O8 [j]),_⟩) hk q1 (hf.kill q2) trivial q3
          unfold AAm at ha
          split at ha
          ·rename_i c hyc
           split at ha
           ·rename_i hk0
            cases ha
            have ey:act.eval y'=.int .u8 c:=vy.int hyc
            rw [ey]
            refine Calls.mono (B0 hk0 c (by simpa using hlim)) fun out w' hout=>?_
            obtain ⟨rv,rfl,he⟩:=hout
            exact done [c] w' rv hk he
           ·cases ha
          ·rename_i sv hyc
           split at ha
           ·rename_i hk1
            cases ha
            have ey:act.eval y'=.string sv:=vy.str hyc
            rw [ey]
            refine Calls.mono (B1 hk1 sv hlim) fun out w' hout=>?_
            obtain ⟨rv,rfl,he⟩:=hout
            exact done _ w' rv hk he
           ·cases ha
          ·cases ha
         ·cases hk
      ·cases h2
    ·cases hk
   ·cases hk
  ·cases hk
 ·cases hk
end Go.Proofs.YtfcgblnlopemkaaGreatDoor.Core

namespace Go.Proofs.YtfcgblnlopemkaaGreatDoor.Core
open Go
variable {P:Program}
def AA8 (n:Nat) (o:Oper) (d:Nat) (f:Nat) (x:Cv):Bool :=
 KL o n d&&(match o.op with
  | .makeFunc (.func g) first caps=>g==f&&first.toList.isEmpty&&(match caps.toList with | [y]=>Da y x | _=>false)
  | _=>false)
theorem ACK {n:Nat} {o:Oper} {d f:Nat} {K:Kd} {x:Cv} {cal:GM} (h:AA8 n o d f x=true):I7 P n o (.clo d f K x) cal:=by
 intro ρ kn r s act w H φ next Q hs hf hn hk hnext
 simp only [AA8,AC] at h
 obtain ⟨h1,h2⟩:=h
 obtain ⟨hd,hdn⟩:=Bo h1
 split at h2
 ·rename_i g first caps ho
  simp only [AC,beq_iff_eq,List.isEmpty_iff] at h2
  obtain ⟨⟨rfl,hfi⟩,h2⟩:=h2
  split at h2
  ·rename_i y hc
   have hfi:first=#[]:=by rw [<- Array.toArray_toList (xs:=first),hfi]
   have hc:caps=#[y]:=by rw [<- Array.toArray_toList (xs:=caps),hc]
   subst hfi hc
   have hv:=BX hf h2
   simp only [EQ] at hk
   split at hk
   ·rename_i cs hx
    rw [hx] at hv
    cases hz:K.ofCells cs with
    | none=>rw [hz] at hk; cases hk
    | some z =>
     rw [hz] at hk
     simp only [Z] at hk
     obtain ⟨b,o',c,el,fz,e,hb,vs,v1,v2⟩:=hv
     obtain ⟨c1,c2,d1,d2,d3⟩:=Hh K v1 (GO hz)
     cases d3
     rw [List.append_nil] at d1
     subst d1
     refine Ba hs hf hn hd hdn hk (v:=.func (.func g) #[] #[act.eval y]) (fun w2 _=>by simp [execOp,ho,Instr.makeFunc]) ?_ hnext
     exact ⟨b,o',c,el,fz,by rw [e]; rfl,hb,vs,d2,v2⟩
   ·cases hk
  ·cases h2
 ·cases h2
def zX (n:Nat) (o:Oper) (d:Nat) (x:Cv):Bool :=
 KL o n d&&(match o.op with | .box _ y=>Da y x | _=>false)
theorem AA9 {n:Nat} {o:Oper} {d:Nat} {x:Cv} {cal:GM} (h:zX n o d x=true):I7 P n o (.fbox d x) cal:=by
 intro ρ kn r s act w H φ next Q hs hf hn hk hnext
 simp only [zX,AC] at h
 obtain ⟨h1,h2⟩:=h
 obtain ⟨hd,hdn⟩:=Bo h1
 split at h2
 ·rename_i t y ho
  simp only [EQ] at hk
  cases hq:s.keepAll (s.opd x).cells with
  | none=>rw [hq] at hk; cases hk
  | some z =>
   obtain ⟨aw,s1⟩:=z
   rw [hq] at hk
   simp only [Z] at hk
   obtain ⟨H1,g1,k1,f1,e1,_⟩:=L7 hs (BX hf h2) hq
   obtain ⟨H2,g2,hb2⟩:=Ae.lit g1.sr (.cells (act.eval y).cells t)
   refine Kb (s:=s) (s1:=s1) (a:=.fptr aw 0) (v:=.pointer (some ⟨w.heap.size,0,none⟩)) (g1.trans g2) ?_ hn hd hdn hk ?_ ?_ hnext (rp.grown hs (World.grownBy_alloc w _ none)) rfl
   ·rw [e1]; exact (hf.mono g1.le k1).mono g2.le (By.refl _ _ _)
   ·simp [execOp,ho,Instr.box,newVar,newRow]
   ·exact ⟨w.heap.size,0,_,t,(0,0),rfl,hb2,_,f1.mono g2.le,fun j u hu=>by simpa using hu⟩
 ·cases h2
def AA_ (n:Nat) (o:Oper) (d:Nat) (x y:Cv):Bool :=
 KL o n d&&(match o.op with
  | .call ⟨.builtin .min,args,_⟩=>(match args.toList with
   | [a,b]=>Da a x&&Da b y
   | _=>false)
  | _=>false)
theorem ACL {n:Nat} {o:Oper} {d:Nat} {x y:Cv} {cal:GM} (h:AA_ n o d x y=true):I7 P n o (.min d x y) cal:=by
 intro ρ kn r s act w H φ next Q hs hf hn hk hnext
 simp only [AA_,AC] at h
 obtain ⟨h1,h2⟩:=h
 obtain ⟨hd,hdn⟩:=Bo h1
 split at h2
 ·rename_i args tys ho
  split at h2
  ·rename_i a b ha
   simp only [AC] at h2
   have ha:args=#[a,b]:=by rw [<- Array.toArray_toList (xs:=args),ha]
   subst ha
   have va:=BX hf h2.1
   have vb:=BX hf h2.2
   simp only [EQ] at hk
   split at hk
   ·rename_i k u k' v hx hy
    rw [hx] at va
    rw [hy] at vb
    split at hk
    ·rename_i e
     subst e
     have va:act.eval a=.int k u:=va
     have vb:act.eval b=.int k v:=vb
     refine Ba hs hf hn hd hdn hk (v:=.int k (min u v)) (fun w2 _=>?_) rfl hnext
     have hm:(if v<u then v else u)=min u v:=by
      rw [Int.min_def]
      split<;>split<;>omega
     simp [execOp,ho,resolve,invoke,builtin,Builtin.min_,Builtin.min2,va,vb,hm]
    ·cases hk
   ·cases hk
  ·cases h2
 ·cases h2
def ACM (P:Program) (n:Nat) (o:Oper) (d:Nat) (t:TypeId) (x:Cv):Bool :=
 KL o n d&&(match o.op with
  | .convert src dst y=>Da y x&&pP P src&&(match P.underlying dst with | some (.slice e)=>e==t&&(match P.underlying e with | some (.int .u8)=>true | _=>false) | _=>false)
  | _=>false)
theorem ACN {n:Nat} {o:Oper} {d:Nat} {t:TypeId} {x:Cv} {cal:GM} (h:ACM P n o d t x=true):I7 P n o (.stb d t x) cal:=by
 intro ρ kn r s act w H φ next Q hs hf hn hk hnext
 simp only [ACM,AC] at h
 obtain ⟨h1,h2⟩:=h
 obtain ⟨hd,hdn⟩:=Bo h1
 split at h2
 ·rename_i src dst y ho
  simp only [AC] at h2
  obtain ⟨⟨hy,hsrc⟩,h2⟩:=h2
  split at h2
  ·rename_i e hdst
   simp only [AC,beq_iff_eq] at h2
   obtain ⟨rfl,h2⟩:=h2
   have he:P.underlying e=some (.int .u8):=by
    split at h2
    ·assumption
    ·cases h2
   have vy:=BX hf hy
   simp only [EQ] at hk
   split at hk
   ·rename_i b hx
    rw [hx] at vy
    have vy:act.eval y=.string b:=vy
    have hrun:=Lib.run_convert_string_bytes (P:=P) w src dst e b (Vl hsrc) hdst he
    have hg:w.grownBy (Lib.bytesWorld w e b) none:=⟨by unfold Lib.bytesWorld; rfl,by unfold Lib.bytesWorld; rfl,by unfold Lib.bytesWorld; rfl,by rw [Lib.bytesWorld_size]; omega,fun k hk _=>Lib.bytesWorld_at_old w e b k hk⟩
    have hl:(Cg b).length=b.size:=by simp [Cg]
    have hbs:b.size<=(Lib.bytesCells w e b).size:=by
     simp only [Lib.bytesCells,Array.size_append,Array.size_map]
     have:b.data.size=b.size:=rfl
     omega
    have hst:=Ae.push (v:=.slice (some ⟨w.heap.size,0,none⟩) b.size (grownCap w b.size 0 e)) (bx:=.byt e (Cg b)) hs hg
     ⟨w.heap.size,_,_,_,by rw [hl],Lib.bytesWorld_at_new w e b,by rw [hl]; exact hbs,by rw [hl]; exact grownCap_ge w b.size 0 e,fun j x hx=>by
      have hj:j<b.data.size:=by have:=(Aj.1 hx).1; rw [hl] at this; exact this
      simp only [Lib.bytesCells]
      rw [Array.getElem?_append_left (by simpa using hj),Array.getElem?_map]
      simp only [Cg,CT,Array.getElem?_toList] at hx
      cases hq:b.data[j]? with
      | none=>rw [hq] at hx; cases hx
      | some u=>rw [hq] at hx; cases hx; rfl⟩
     (fun _ q hq=>by simp only [DZ,BG] at hq; omega) (fun cs e=>by cases e)
    refine Kb (s:=s) (s1:=⟨s.fr,s.st++[.byt e (Cg b)]⟩) (a:=.row s.st.length) (v:=.slice (some ⟨w.heap.size,0,none⟩) b.size (grownCap w b.size 0 e)) hst (hf.mono (HP.le_refl H) (E4 φ s.st _ _)) hn hd hdn hk
     (by simp [execOp,ho,vy,hrun]) ⟨by simp,by simp [AN]⟩ hnext (rp.grown hs hg) rfl
   ·cases hk
  ·cases h2
 ·cases h2

def o9 (P:Program) (n:Nat) (o:Oper):GB->Bool
 | .mv d x=>mvB n o d x
 | .nilrow d _ _=>tf n o d
 | .pick d c a b=>mz n o d c a b
 | .sc _ _ _ _ _ _=>false
 | .alloc d cs=>pM P n o d cs
 | .box d x _=>AB4 n o d x
 | .build d z qs=>tm P n o d z qs
 | .bnew d z qs=>zO P n o d z qs
 | .brow d e K qs=>bsB P n o d K qs e
 | .blst d K qs=>(match o.op with | .buildSlice t _ _=>bsB P n o d K qs (P.elem t) | _=>false)
 | .load d x m=>pN P n o d x m
 | .store x y m _=>wN P o x y m
 | .nilc d x=>xI n o d x
 | .bin d b x y=>AAu n o d b x y
 | .eqs d neg K x y=>AAv P n o d neg K x y
 | .un d u x=>unB n o d u x
 | .cvi d k x=>AAs P n o d k x
 | .bts d x=>ACC P n o d x
 | .fld d x off=>AAr P n o d x off
 | .field d x off m=>ti P n o d x off m
 | .idx d z x i=>AAz P n o d z x i
 | .sidx d x i=>xL P n o d x i
 | .aidx d m x i=>xM P n o d m x i
 | .sl d z x lo hi=>slB P n o d z x lo hi
 | .mk d e K m=>mkB P n o d e K m
 | .fn d f caps=>fnB n o d f caps
 | .clo d f _ x=>AA8 n o d f x
 | .fbox d x=>zX n o d x
 | .min d x y=>AA_ n o d x y
 | .app d e K a b=>yK P n o d e K a b
 | .apz d e K a b=>yK P n o d e K a b
 | .len d t x=>AAw P n o d t x
 | .call d f args _=>vD n o d f args
 | .bld d k f _ x y=>ACI n o d k f x y
 | .stb d t x=>ACM P n o d t x
 | .ext d x i=>AAt n o d x i
theorem pY {n:Nat} {o:Oper} {ao:GB} {cal:GM} (hcal:I9 P cal) (h:o9 P n o ao=true):I7 P n o ao cal:=by
 cases ao with
 | mv d x=>exact ACx h
 | nilrow d t K=>exact yD h
 | pick d c a b=>exact AAo h
 | sc c w ops d a b=>cases h
 | alloc d cs=>exact zH h
 | box d x own=>exact AB5 h
 | build d z qs=>exact zN h
 | bnew d z qs=>exact AA0 h
 | brow d e K qs=>exact AA1 h
 | blst d K qs =>
  simp only [o9] at h
  split at h
  ·exact AA2 h
  ·cases h
 | load d x m=>exact AAp h
 | store x y m own=>exact zI h
 | nilc d x=>exact AAq h
 | bin d b x y=>exact AB9 h
 | eqs d neg K x y=>exact AB_ h
 | un d u x=>exact ACy h
 | cvi d k x=>exact AB7 h
 | bts d x=>exact ACD h
 | fld d x off=>exact AB6 h
 | field d x off m=>exact zJ h
 | idx d z x i=>exact ACB h
 | sidx d x i=>exact AAx h
 | aidx d m x i=>exact AAy h
 | sl d z x lo hi=>exact AC0 h
 | mk d e K m=>exact AC1 h
 | fn d f caps=>exact ACz h
 | clo d f K x=>exact ACK h
 | fbox d x=>exact AA9 h
 | min d x y=>exact ACL h
 | app d e K a b=>exact ACE h
 | apz d e K a b=>exact ACF h
 | len d t x=>exact ACA h
 | call d f args res=>exact AA7 hcal h
 | bld d k f t x y=>exact ACJ hcal h
 | stb d t x=>exact ACN h
 | ext d x i=>exact AB8 h
def nQ (ops:Array Oper) (j:Nat):Option Nat:=(ops[j]?).bind (·.dst)
def vF (P:Program) (n:Nat) (ops:Array Oper) (g:Option (Nat×Bool)) (i:Nat) (ao:GB):Option Nat :=
 match ops[i]? with
 | some o=>if (decide (o.guard=g)&&o9 P n o ao&&decide (o.dst.toList=ao.dsts)&&ao.dsts.all (fun d=>decide (d<n)))=true then some (i+1) else none
 | none=>none
mutual
def cm (P:Program) (n:Nat) (ops:Array Oper) (g:Option (Nat×Bool)):List Nat->Nat->List GB->Option Nat
 | _,i,[]=>some i
 | D,i,ao::aos=>(gp P n ops g D i ao).bind fun i'=>cm P n ops g (ao.dsts++D) i' aos
def gp (P:Program) (n:Nat) (ops:Array Oper) (g:Option (Nat×Bool)) (D:List Nat) (i:Nat):GB->Option Nat
 | .sc c want sub d a b =>
  match (ops[i]?).bind (·.guard) with
  | some (j,w)=>if (w==want&&nQ ops j==some c&&!(Ff sub).contains c&&(g.isNone||D.contains c))=true then
    (cm P n ops (some (j,w)) [] i sub).bind fun i'=>match ops[i']? with
     | some o=>if (decide (o.guard=g)&&mz n o d (.t c) a b)=true then some (i'+1) else none
     | none=>none
   else none
  | none=>none
 | ao=>vF P n ops g i ao
end
def met (ops:Array Oper) (tmps:Array Value):Option (Nat×Bool)->Prop
 | none=>True
 | some (j,w)=>∃ c,nQ ops j=some c/\tmps[c]? = some (.bool w)
theorem Rf {ops:Array Oper} {o:Oper} {tmps:Array Value} {g:Option (Nat×Bool)} (hg:o.guard=g) (h:met ops tmps g):Region.wanted o (yielded ops tmps)=true:=by
 unfold Region.wanted
 rw [hg]
 cases g with
 | none=>rfl
 | some p =>
  obtain ⟨j,w⟩:=p
  obtain ⟨c,h1,h2⟩:=h
  have:yielded ops tmps j=some w:=by
   unfold yielded
   unfold nQ at h1
   rw [h1,Z,h2]
  simp [this]
theorem eA {ops:Array Oper} {o:Oper} {tmps:Array Value} {j c:Nat} {w:Bool} (hg:o.guard=some (j,w)) (hc:nQ ops j=some c) (h:tmps[c]? ≠ some (.bool w)):Region.wanted o (yielded ops tmps)=false:=by
 unfold Region.wanted
 rw [hg]
 have:yielded ops tmps j≠some w:=by
  unfold yielded
  unfold nQ at hc
  rw [hc,Z]
  intro e
  split at e
  ·rename_i b hb
   cases e
   exact h hb
  ·cases e
 simpa using this
theorem Lc {act:Act} {dst:Option Tmp} {v:Value} {t:Nat} (h:dst≠some t):(act.put dst v).tmps[t]? = act.tmps[t]? := by
 cases dst with
 | none=>rfl
 | some d =>
  have:d≠t:=fun e=>h (by rw [e])
  simp [Act.put,Array.getElem?_setIfInBounds,this]
theorem IC {act:Act} {dst:Option Tmp} {v:Value}:(act.put dst v).tmps.size=act.tmps.size:=by
 cases dst<;>simp [Act.put]
theorem Gs {act:Act} {dst:Option Tmp} {v:Value}:(act.put dst v).defers=act.defers:=by
 cases dst<;>rfl
theorem cV {act:Act} {d:Nat}:(act.put (some d) undef).tmps.getD d undef=undef:=by
 rcases B6 d act.tmps.size with h | h<;>simp [Act.put,Array.getD,h]
theorem pZ {ops:Array Oper} {Q:Exit->Act->World->Prop} {i:Nat} {rest:List Nat} {act:Act} {w:World} {o:Oper} (ho:ops[i]? = some o) (hw:Region.wanted o (yielded ops act.tmps)=true)
  (h:o.wp P act w (wpOps P ops Q rest) Q):wpOps P ops Q (i::rest) act w:=by
 simp only [wpOps,ho,hw,if_true]
 exact .inl h
theorem pa {ops:Array Oper} {Q:Exit->Act->World->Prop} {i:Nat} {rest:List Nat} {act:Act} {w:World} {o:Oper} (ho:ops[i]? = some o) (hw:Region.wanted o (yielded ops act.tmps)=false)
  (h:wpOps P ops Q rest (act.put o.dst undef) w):wpOps P ops Q (i::rest) act w:=by
 simp only [wpOps,ho,hw,Bool.false_eq_true,if_false]
 exact h
theorem ACO {i i':Nat} (h:i<i'):List.range' i (i'-i)=i::List.range' (i+1) (i'-(i+1)):=by
 rw [show i'-i=(i'-(i+1))+1 by omega,List.range'_succ]
theorem TC {i j k:Nat} (h1:i<=j) (h2:j<=k):List.range' i (k-i)=List.range' i (j-i)++List.range' j (k-j):=by
 have:=List.range'_append (s:=i) (m:=j-i) (n:=k-j) (step:=1)
 rw [Nat.one_mul,show i+(j-i)=j by omega,show j-i+(k-j)=k-i by omega] at this
 exact this.symm
theorem kN {n:Nat} {ops:Array Oper} {g:Option (Nat×Bool)} {i m:Nat} {ao:GB} (h:vF P n ops g i ao=some m) :
  m=i+1/\∃ o,ops[i]? = some o/\o.guard=g/\o9 P n o ao=true/\o.dst.toList=ao.dsts/\∀ d∈ao.dsts,d<n:=by
 unfold vF at h
 cases ho:ops[i]? with
 | none=>rw [ho] at h; cases h
 | some o =>
  rw [ho] at h
  simp only at h
  split at h
  ·rename_i hb
   simp only [AC,decide_eq_true_eq,Bf] at hb
   cases h
   exact ⟨rfl,o,rfl,hb.1.1.1,hb.1.1.2,hb.1.2,hb.2⟩
  ·cases h
theorem tq {n:Nat} {ops:Array Oper} {g:Option (Nat×Bool)} {D:List Nat} {i m c d:Nat} {want:Bool} {sub:List GB} {a b:Cv} (h:gp P n ops g D i (.sc c want sub d a b)=some m) :
  ∃ j i',nQ ops j=some c/\c∉Ff sub/\(g.isNone=true\/c∈D)/\cm P n ops (some (j,want)) [] i sub=some i'/\m=i'+1/\∃ o,ops[i']? = some o/\o.guard=g/\mz n o d (.t c) a b=true:=by
 simp only [gp] at h
 split at h
 ·rename_i j w hj
  split at h
  ·rename_i hb
   simp only [AC,beq_iff_eq,EL,Dy,List.contains_eq_mem,decide_eq_false_iff_not,decide_eq_true_eq] at hb
   obtain ⟨⟨⟨rfl,h2⟩,h3⟩,h4⟩:=hb
   cases hs:cm P n ops (some (j,w)) [] i sub with
   | none=>rw [hs] at h; cases h
   | some i' =>
    rw [hs] at h
    simp only [Z] at h
    split at h
    ·rename_i o ho
     split at h
     ·rename_i hp
      simp only [AC,decide_eq_true_eq] at hp
      cases h
      exact ⟨j,i',h2,h3,h4,hs,rfl,o,ho,hp.1,hp.2⟩
     ·cases h
    ·cases h
  ·cases h
 ·cases h
mutual
theorem kO {n:Nat} {ops:Array Oper}:∀ (aos:List GB) (g:Option (Nat×Bool)) (D:List Nat) (i i':Nat),cm P n ops g D i aos=some i'->i<=i'
 | [],g,D,i,i',h=>by simp only [cm,BG] at h; omega
 | ao::aos,g,D,i,i',h=>by
  simp only [cm] at h
  cases hi:gp P n ops g D i ao with
  | none=>rw [hi] at h; cases h
  | some m =>
   rw [hi] at h
   exact Nat.le_trans (Nat.le_of_lt (tr ao g D i m hi)) (kO aos _ _ _ _ h)
theorem tr {n:Nat} {ops:Array Oper}:∀ (ao:GB) (g:Option (Nat×Bool)) (D:List Nat) (i m:Nat),gp P n ops g D i ao=some m->i<m
 | .sc c want sub d a b,g,D,i,m,h=>by
  obtain ⟨j,i',_,_,_,hs,rfl,_⟩:=tq h
  have:=kO sub _ _ _ _ hs
  omega
 | .mv ..,g,D,i,m,h | .nilrow ..,g,D,i,m,h | .pick ..,g,D,i,m,h | .alloc ..,g,D,i,m,h | .box ..,g,D,i,m,h | .build ..,g,D,i,m,h | .bnew ..,g,D,i,m,h | .brow ..,g,D,i,m,h
 | .blst ..,g,D,i,m,h | .load ..,g,D,i,m,h | .store ..,g,D,i,m,h | .nilc ..,g,D,i,m,h | .bin ..,g,D,i,m,h | .eqs ..,g,D,i,m,h | .un ..,g,D,i,m,h
 | .cvi ..,g,D,i,m,h | .bts ..,g,D,i,m,h | .fld ..,g,D,i,m,h | .field ..,g,D,i,m,h | .idx ..,g,D,i,m,h | .sidx ..,g,D,i,m,h | .aidx ..,g,D,i,m,h | .sl ..,g,D,i,m,h
 | .mk ..,g,D,i,m,h | .fn ..,g,D,i,m,h | .clo ..,g,D,i,m,h | .fbox ..,g,D,i,m,h | .min ..,g,D,i,m,h | .app ..,g,D,i,m,h | .apz ..,g,D,i,m,h | .len ..,g,D,i,m,h | .call ..,g,D,i,m,h | .bld ..,g,D,i,m,h | .stb ..,g,D,i,m,h | .ext ..,g,D,i,m,h=>by
  have:=(kN (ao:=_) h).1
  omega
end
def ACP (act act':Act) (ds:List Nat):Prop:=act'.tmps.size=act.tmps.size/\act'.defers=act.defers/\(∀ t,t∉ds->act'.tmps[t]? = act.tmps[t]?)/\(∀ t,act.tmps.getD t undef=undef->act'.tmps.getD t undef=undef)/\(∀ t∈ds,act'.tmps.getD t undef=undef)
theorem yN {n:Nat} {ops:Array Oper} {j c:Nat} {w:Bool} (hc:nQ ops j=some c) {Q:Exit->Act->World->Prop} {wd:World} {ao:GB} {i m:Nat} {rest:List Nat} {act:Act} (h:vF P n ops (some (j,w)) i ao=some m)
  (hn:act.tmps[c]? ≠ some (.bool w)) (hk:∀ act',ACP act act' ao.dsts->wpOps P ops Q rest act' wd):wpOps P ops Q (List.range' i (m-i)++rest) act wd:=by
 obtain ⟨rfl,o,ho,hg,_,hds,hlt⟩:=kN h
 rw [show i+1-i=1 by omega]
 refine pa ho (eA hg hc hn) (hk _ ⟨IC,Gs,fun t ht=>Lc fun e=>ht ?_,fun t ht=>?_,fun t ht=>?_⟩)
 ·rw [<- hds,e]; simp
 ·cases hd:o.dst with
  | none=>exact ht
  | some d =>
   by_cases e:d=t
   ·subst e; exact cV
   ·have:=Lc (act:=act) (dst:=some d) (v:=undef) (t:=t) (by simpa using e)
    simpa [Array.getD_eq_getD_getElem?,this] using ht
 ·rw [<- hds] at ht
  cases hd:o.dst with
  | none=>rw [hd] at ht; simp at ht
  | some d =>
   rw [hd] at ht
   simp at ht
   subst ht
   exact cV
mutual
theorem pb {n:Nat} {ops:Array Oper} {j c:Nat} {w:Bool} (hc:nQ ops j=some c) {Q:Exit->Act->World->Prop} {wd:World}:∀ (aos:List GB) (D:List Nat) (i i':Nat) (rest:List Nat) (act:Act),cm P n ops (some (j,w)) D i aos=some i' ->
  act.tmps[c]? ≠ some (.bool w)->c∉Ff aos->(∀ t∈D,act.tmps.getD t undef=undef) ->
  (∀ act',ACP act act' (Ff aos)->wpOps P ops Q rest act' wd)->wpOps P ops Q (List.range' i (i'-i)++rest) act wd
 | [],D,i,i',rest,act,h,hn,hd,hD,hk=>by
  simp only [cm,BG] at h
  subst h
  simp only [Nat.sub_self,List.range'_zero,List.nil_append]
  exact hk act ⟨rfl,rfl,fun _ _=>rfl,fun _ h=>h,fun t ht=>by simp [Ff] at ht⟩
 | ao::aos,D,i,i',rest,act,h,hn,hd,hD,hk=>by
  simp only [cm] at h
  cases hi:gp P n ops (some (j,w)) D i ao with
  | none=>rw [hi] at h; cases h
  | some m =>
   rw [hi] at h
   simp only [Z] at h
   simp only [Ff,CZ,not_or] at hd
   rw [TC (Nat.le_of_lt (tr ao _ _ _ _ hi)) (kO aos _ _ _ _ h),Be]
   refine yO hc (Q:=Q) (wd:=wd) ao D i m (List.range' m (i'-m)++rest) act hi hn hd.1 hD fun act1 l1=>?_
   refine pb hc (Q:=Q) (wd:=wd) aos (ao.dsts++D) m i' rest act1 h (by rw [l1.2.2.1 c hd.1]; exact hn) hd.2 (fun t ht=>?_) fun act2 l2=>?_
   ·rcases CZ.1 ht with ht | ht
    ·exact l1.2.2.2.2 t ht
    ·exact l1.2.2.2.1 t (hD t ht)
   ·refine hk act2 ⟨l2.1.trans l1.1,l2.2.1.trans l1.2.1,fun t ht=>?_,fun t ht=>l2.2.2.2.1 t (l1.2.2.2.1 t ht),fun t ht=>?_⟩
    ·simp only [Ff,CZ,not_or] at ht
     rw [l2.2.2.1 t ht.2,l1.2.2.1 t ht.1]
    ·simp only [Ff,CZ] at ht
     rcases ht with ht | ht
     ·exact l2.2.2.2.1 t (l1.2.2.2.2 t ht)
     ·exact l2.2.2.2.2 t ht
theorem yO {n:Nat} {ops:Array Oper} {j c:Nat} {w:Bool} (hc:nQ ops j=some c) {Q:Exit->Act->World->Prop} {wd:World}:∀ (ao:GB) (D:List Nat) (i m:Nat) (rest:List Nat) (act:Act),gp P n ops (some (j,w)) D i ao=some m ->
  act.tmps[c]? ≠ some (.bool w)->c∉ao.dsts->(∀ t∈D,act.tmps.getD t undef=undef) ->
  (∀ act',ACP act act' ao.dsts->wpOps P ops Q rest act' wd)->wpOps P ops Q (List.range' i (m-i)++rest) act wd
 | .sc c2 want sub d a b,D,i,m,rest,act,h,hn,hd,hD,hk=>by
  obtain ⟨j2,i',hg2,hcn,hcD,hs,rfl,o,ho,hgo,hp⟩:=tq h
  simp only [GB.dsts,CZ,not_or] at hd
  have hc2:act.tmps.getD c2 undef=undef:=by
   rcases hcD with h | h
   ·cases h
   ·exact hD c2 h
  have hle:=kO sub _ _ _ _ hs
  have hpd:o.dst=some d/\d<n:=by
   simp only [mz,AC] at hp
   exact Bo hp.1
  have hnb:act.tmps[c2]? ≠ some (.bool want):=by
   intro e
   rw [Array.getD_eq_getD_getElem?,e] at hc2
   cases hc2
  rw [TC hle (Nat.le_succ i'),Be]
  refine pb hg2 (Q:=Q) (wd:=wd) sub [] i i' _ act hs hnb hcn (fun t ht=>by cases ht) fun act1 l1=>?_
  rw [show i'+1-i'=1 by omega]
  refine pa ho (eA hgo hc (by rw [l1.2.2.1 c hd.1]; exact hn)) (hk _ ⟨IC.trans l1.1,Gs.trans l1.2.1,fun t ht=>?_,fun t ht=>?_,fun t ht=>?_⟩)
  ·simp only [GB.dsts,CZ,not_or,B5] at ht
   rw [Lc (by rw [hpd.1]; intro e; cases e; exact ht.2 rfl)]
   exact l1.2.2.1 t ht.1
  ·rw [hpd.1]
   by_cases e:d=t
   ·subst e; exact cV
   ·have:=Lc (act:=act1) (dst:=some d) (v:=undef) (t:=t) (by simpa using e)
    have h2:=l1.2.2.2.1 t ht
    simpa [Array.getD_eq_getD_getElem?,this] using h2
  ·simp only [GB.dsts,CZ,B5] at ht
   rw [hpd.1]
   by_cases e:d=t
   ·subst e; exact cV
   ·have:=Lc (act:=act1) (dst:=some d) (v:=undef) (t:=t) (by simpa using e)
    have h2:=l1.2.2.2.2 t (ht.resolve_right (Ne.symm e))
    simpa [Array.getD_eq_getD_getElem?,this] using h2
 | .mv ..,D,i,m,rest,act,h,hn,hd,hD,hk | .nilrow ..,D,i,m,rest,act,h,hn,hd,hD,hk | .pick ..,D,i,m,rest,act,h,hn,hd,hD,hk | .alloc ..,D,i,m,rest,act,h,hn,hd,hD,hk
 | .box ..,D,i,m,rest,act,h,hn,hd,hD,hk | .build ..,D,i,m,rest,act,h,hn,hd,hD,hk | .bnew ..,D,i,m,rest,act,h,hn,hd,hD,hk | .brow ..,D,i,m,rest,act,h,hn,hd,hD,hk | .blst ..,D,i,m,rest,act,h,hn,hd,hD,hk
 | .load ..,D,i,m,rest,act,h,hn,hd,hD,hk | .store ..,D,i,m,rest,act,h,hn,hd,hD,hk | .nilc ..,D,i,m,rest,act,h,hn,hd,hD,hk | .bin ..,D,i,m,rest,act,h,hn,hd,hD,hk
 | .eqs ..,D,i,m,rest,act,h,hn,hd,hD,hk | .un ..,D,i,m,rest,act,h,hn,hd,hD,hk | .cvi ..,D,i,m,rest,act,h,hn,hd,hD,hk | .bts ..,D,i,m,rest,act,h,hn,hd,hD,hk
 | .fld ..,D,i,m,rest,act,h,hn,hd,hD,hk | .field ..,D,i,m,rest,act,h,hn,hd,hD,hk | .idx ..,D,i,m,rest,act,h,hn,hd,hD,hk | .sidx ..,D,i,m,rest,act,h,hn,hd,hD,hk | .aidx ..,D,i,m,rest,act,h,hn,hd,hD,hk
 | .sl ..,D,i,m,rest,act,h,hn,hd,hD,hk | .mk ..,D,i,m,rest,act,h,hn,hd,hD,hk | .fn ..,D,i,m,rest,act,h,hn,hd,hD,hk | .clo ..,D,i,m,rest,act,h,hn,hd,hD,hk | .fbox ..,D,i,m,rest,act,h,hn,hd,hD,hk | .min ..,D,i,m,rest,act,h,hn,hd,hD,hk | .app ..,D,i,m,rest,act,h,hn,hd,hD,hk | .apz ..,D,i,m,rest,act,h,hn,hd,hD,hk
 | .len ..,D,i,m,rest,act,h,hn,hd,hD,hk | .call ..,D,i,m,rest,act,h,hn,hd,hD,hk | .bld ..,D,i,m,rest,act,h,hn,hd,hD,hk | .stb ..,D,i,m,rest,act,h,hn,hd,hD,hk | .ext ..,D,i,m,rest,act,h,hn,hd,hD,hk=>yN hc h hn hk
end
def ADS (P:Program) (ops:Array Oper) (n:Nat) {ρ:Type} (kn:St->Option ρ) (r:ρ) (s:St) (act:Act) (w:World) (H:HP) (φ:CG) (ds:List Nat) (N:Act->World->Prop):Prop :=
 ∀ s' act' w' H' φ',kn s'=some r->Ae H φ s.st w H' φ' s'.st w'->Gw H' φ' s'.st s'.fr act'.tmps->act'.tmps.size=n->act'.defers=act.defers->(∀ t,t∉ds->act'.tmps[t]? = act.tmps[t]?)->N act' w'
def wR (P:Program) (n:Nat) (ops:Array Oper) (g:Option (Nat×Bool)) (cal:GM) (ds:List Nat) (i m:Nat) (run:(ρ:Type)->(St->Option ρ)->St->Option ρ):Prop :=
 ∀ (ρ:Type) (kn:St->Option ρ) (r:ρ) (s:St) (act:Act) (w:World) (H:HP) (φ:CG) (Q:Exit->Act->World->Prop) (rest:List Nat),
  SR H φ s.st w->Gw H φ s.st s.fr act.tmps->act.tmps.size=n->met ops act.tmps g->(∀ j w c,g=some (j,w)->nQ ops j=some c->c∉ds)->run ρ kn s=some r ->
  ADS P ops n kn r s act w H φ ds (wpOps P ops Q rest)->wpOps P ops Q (List.range' i (m-i)++rest) act w
theorem Bp {n:Nat} {ops:Array Oper} {g:Option (Nat×Bool)} {cal:GM} (hcal:I9 P cal) {ao:GB} {i m:Nat} (h:vF P n ops g i ao=some m) :
  wR P n ops g cal ao.dsts i m fun ρ kn s=>EQ cal kn s ao:=by
 intro ρ kn r s act w H φ Q rest hs hf hn hm _ hk hnext
 obtain ⟨rfl,o,ho,hg,hb,hds,hlt⟩:=kN h
 rw [show i+1-i=1 by omega]
 refine pZ ho (Rf hg hm) (pY hcal hb ρ kn r s act w H φ _ Q hs hf hn hk fun s' v w' H' φ' hk' hst hf' _=>?_)
 refine hnext s' _ w' H' φ' hk' hst hf' (IC.trans hn) Gs fun t ht=>Lc fun e=>ht ?_
 rw [<- hds,e]
 simp
mutual
theorem wS {n:Nat} {ops:Array Oper} {cal:GM} (hcal:I9 P cal):∀ (aos:List GB) (g:Option (Nat×Bool)) (D:List Nat) (i m:Nat),cm P n ops g D i aos=some m->wR P n ops g cal (Ff aos) i m fun ρ kn s=>j7 cal kn s aos
 | [],g,D,i,m,h=>by
  intro ρ kn r s act w H φ Q rest hs hf hn hm hd hk hnext
  simp only [cm,BG] at h
  subst h
  simp only [Nat.sub_self,List.range'_zero,List.nil_append]
  simp only [j7] at hk
  exact hnext s act w H φ hk (Ae.refl hs) hf hn rfl fun _ _=>rfl
 | ao::aos,g,D,i,m,h=>by
  intro ρ kn r s act w H φ Q rest hs hf hn hm hd hk hnext
  simp only [cm] at h
  cases hi:gp P n ops g D i ao with
  | none=>rw [hi] at h; cases h
  | some q =>
   rw [hi] at h
   simp only [Z] at h
   rw [TC (Nat.le_of_lt (tr ao _ _ _ _ hi)) (kO aos _ _ _ _ h),Be]
   have hd1:∀ j w c,g=some (j,w)->nQ ops j=some c->c∉ao.dsts/\c∉Ff aos:=by
    intro j w c h1 h2
    have:=hd j w c h1 h2
    simpa [Ff,not_or] using this
   refine ABA hcal ao g D i q hi ρ (fun s'=>j7 cal kn s' aos) r s act w H φ Q _ hs hf hn hm (fun j w c h1 h2=>(hd1 j w c h1 h2).1) (by simpa only [j7] using hk) fun s1 act1 w1 H1 φ1 hk1 st1 hf1 hn1 hd1' ht1=>?_
   have hm1:met ops act1.tmps g:=by
    cases g with
    | none=>trivial
    | some p =>
     obtain ⟨j,w⟩:=p
     obtain ⟨c,h1,h2⟩:=hm
     exact ⟨c,h1,by rw [ht1 c (hd1 j w c rfl h1).1]; exact h2⟩
   refine wS hcal aos g (ao.dsts++D) q m h ρ kn r s1 act1 w1 H1 φ1 Q rest st1.sr hf1 hn1 hm1 (fun j w c h1 h2=>(hd1 j w c h1 h2).2) hk1 fun s2 act2 w2 H2 φ2 hk2 st2 hf2 hn2 hd2 ht2=>?_
   refine hnext s2 act2 w2 H2 φ2 hk2 (st1.trans st2) hf2 hn2 (hd2.trans hd1') fun t ht=>?_
   simp only [Ff,CZ,not_or] at ht
   rw [ht2 t ht.2,ht1 t ht.1]
theorem ABA {n:Nat} {ops:Array Oper} {cal:GM} (hcal:I9 P cal):∀ (ao:GB) (g:Option (Nat×Bool)) (D:List Nat) (i m:Nat),gp P n ops g D i ao=some m->wR P n ops g cal ao.dsts i m fun ρ kn s=>EQ cal kn s ao
 | .sc c want sub d a b,g,D,i,m,h=>by
  intro ρ kn r s act w H φ Q rest hs hf hn hm hd hk hnext
  obtain ⟨j,i',hg2,hcn,_,hseg,rfl,o,ho,hgo,hp⟩:=tq h
  have hle:=kO sub _ _ _ _ hseg
  have hmet:∀ act':Act,(∀ t,t∉Ff sub->act'.tmps[t]? = act.tmps[t]?)->met ops act'.tmps g:=by
   intro act' ht
   cases g with
   | none=>trivial
   | some p =>
    obtain ⟨j,w⟩:=p
    obtain ⟨c,h1,h2⟩:=hm
    have:=hd j w c rfl h1
    simp only [GB.dsts,CZ,not_or] at this
    exact ⟨c,h1,by rw [ht c this.1]; exact h2⟩
  simp only [mz,AC] at hp
  obtain ⟨hpd,hp⟩:=hp
  obtain ⟨hod,hdn⟩:=Bo hpd
  split at hp
  ·rename_i c' a' b' hop
   simp only [AC] at hp
   obtain ⟨⟨hc',ha'⟩,hb'⟩:=hp
   have hce:c'=.tmp c:=by
    cases c'<;>simp [Da] at hc'
    rw [hc']
   subst hce
   simp only [EQ] at hk
   have hfc:=hf c
   cases hgt:F7 s.fr c with
   | bool t =>
    rw [hgt] at hk hfc
    simp only at hk
    have hct:act.tmps[c]? = some (.bool t):=by
     have hfc:act.tmps.getD c undef=.bool t:=hfc
     rw [Array.getD_eq_getD_getElem?] at hfc
     cases hq:act.tmps[c]? with
     | none=>rw [hq] at hfc; cases hfc
     | some v=>rw [hq] at hfc; simpa using hfc
    rw [TC hle (Nat.le_succ i'),Be]
    have last:∀ (s1:St) (act1:Act) (w1:World) (H1:HP) (φ1:CG) (x:AV),kn (s1.put d x)=some r->Ae H φ s.st w H1 φ1 s1.st w1->Gw H1 φ1 s1.st s1.fr act1.tmps->act1.tmps.size=n->act1.defers=act.defers ->
      (∀ t,t∉Ff sub->act1.tmps[t]? = act.tmps[t]?)->x=(if t=true then s1.opd a else s1.opd b)->wpOps P ops Q (List.range' i' (i'+1-i')++rest) act1 w1:=by
     intro s1 act1 w1 H1 φ1 x hk1 st1 hf1 hn1 hdef1 ht1 hx
     rw [show i'+1-i'=1 by omega]
     have hc1:act1.eval (.tmp c)=.bool t:=by
      show act1.tmps.getD c undef=_
      rw [Array.getD_eq_getD_getElem?,ht1 c hcn,hct]
      rfl
     have hput:∀ v,(∀ u,u∉(GB.sc c want sub d a b).dsts->(act1.put o.dst v).tmps[u]? = act.tmps[u]?):=by
      intro v u hu
      simp only [GB.dsts,CZ,not_or,B5] at hu
      rw [Lc (by rw [hod]; intro e; cases e; exact hu.2 rfl)]
      exact ht1 u hu.1
     refine pZ ho (Rf hgo (hmet act1 ht1)) ?_
     have fin:∀ v,VA H1 φ1 s1.st x v->(execOp act1.eval o).run P w1=.ok (.value v) w1->o.wp P act1 w1 (wpOps P ops Q rest) Q:=by
      intro v hv hrun
      refine gU hrun (hnext (s1.put d x) _ w1 H1 φ1 hk1 st1 ?_ (IC.trans hn1) (Gs.trans hdef1) (hput v))
      rw [Vj hod]
      exact hf1.put (by omega) hv
     cases t with
     | true=>exact fin _ (by rw [hx]; exact BX hf1 ha') (by simp [execOp,hop,hc1,asBool])
     | false=>exact fin _ (by rw [hx]; exact BX hf1 hb') (by simp [execOp,hop,hc1,asBool])
    by_cases htw:t=want
    ·subst htw
     rw [if_pos rfl] at hk
     refine wS hcal sub (some (j,t)) [] i i' hseg ρ _ r s act w H φ Q _ hs hf hn ⟨c,hg2,hct⟩ (fun j2 w2 c2 e1 e2=>?_) hk fun s1 act1 w1 H1 φ1 hk1 st1 hf1 hn1 hdef1 ht1=>?_
     ·cases e1
      rw [hg2] at e2
      cases e2
      exact hcn
     ·exact last s1 act1 w1 H1 φ1 _ hk1 st1 hf1 hn1 hdef1 ht1 rfl
    ·rw [if_neg htw] at hk
     refine pb hg2 sub [] i i' _ act hseg (by rw [hct]; intro e; cases e; exact htw rfl) hcn (fun t ht=>by cases ht) fun act1 l1=>?_
     refine last (s.forget (Ff sub)) act1 w H φ _ hk (Ae.refl hs) ?_ (l1.1.trans hn) l1.2.1 l1.2.2.1 ?_
     ·intro u
      have:F7 (s.forget (Ff sub)).fr u=if u∈Ff sub then .undef else F7 s.fr u:=by
       simp only [St.forget]
       generalize Ff sub=ds
       induction ds with
       | nil=>simp
       | cons q qs ih =>
        simp only [List.map_cons,List.cons_append,F7]
        by_cases e:q=u
        ·subst e; simp
        ·rw [if_neg e,ih]; simp [Ne.symm e]
      rw [this]
      split
      ·trivial
      ·rename_i hu
       have:=hf u
       rw [Array.getD_eq_getD_getElem?] at this ⊢
       rw [l1.2.2.1 u hu]
       exact this
     ·cases t<;>cases want<;>first | exact absurd rfl htw | rfl
   | _=>rw [hgt] at hk; cases hk
  ·cases hp
 | .mv ..,g,D,i,m,h=>Bp hcal h
 | .nilrow ..,g,D,i,m,h=>Bp hcal h
 | .pick ..,g,D,i,m,h=>Bp hcal h
 | .alloc ..,g,D,i,m,h=>Bp hcal h
 | .box ..,g,D,i,m,h=>Bp hcal h
 | .build ..,g,D,i,m,h=>Bp hcal h
 | .bnew ..,g,D,i,m,h=>Bp hcal h
 | .brow ..,g,D,i,m,h=>Bp hcal h
 | .blst ..,g,D,i,m,h=>Bp hcal h
 | .load ..,g,D,i,m,h=>Bp hcal h
 | .store ..,g,D,i,m,h=>Bp hcal h
 | .nilc ..,g,D,i,m,h=>Bp hcal h
 | .bin ..,g,D,i,m,h=>Bp hcal h
 | .eqs ..,g,D,i,m,h=>Bp hcal h
 | .un ..,g,D,i,m,h=>Bp hcal h
 | .cvi ..,g,D,i,m,h=>Bp hcal h
 | .bts ..,g,D,i,m,h=>Bp hcal h
 | .fld ..,g,D,i,m,h=>Bp hcal h
 | .field ..,g,D,i,m,h=>Bp hcal h
 | .idx ..,g,D,i,m,h=>Bp hcal h
 | .sidx ..,g,D,i,m,h=>Bp hcal h
 | .aidx ..,g,D,i,m,h=>Bp hcal h
 | .sl ..,g,D,i,m,h=>Bp hcal h
 | .mk ..,g,D,i,m,h=>Bp hcal h
 | .fn ..,g,D,i,m,h=>Bp hcal h
 | .clo ..,g,D,i,m,h=>Bp hcal h
 | .fbox ..,g,D,i,m,h=>Bp hcal h
 | .min ..,g,D,i,m,h=>Bp hcal h
 | .app ..,g,D,i,m,h=>Bp hcal h
 | .apz ..,g,D,i,m,h=>Bp hcal h
 | .len ..,g,D,i,m,h=>Bp hcal h
 | .call ..,g,D,i,m,h=>Bp hcal h
 | .bld ..,g,D,i,m,h=>Bp hcal h
 | .stb ..,g,D,i,m,h=>Bp hcal h
 | .ext ..,g,D,i,m,h=>Bp hcal h
end
theorem yP {n:Nat} {ops:Array Oper} {cal:GM} (hcal:I9 P cal) {aos:List GB} {id:Nat} (h:cm P n ops none [] 0 aos=some ops.size) {ρ:Type} {kn:St->Option ρ} {r:ρ} {s:St} {act:Act} {w:World} {H:HP} {φ:CG} {Q:Exit->Act->World->Prop}
  (hs:SR H φ s.st w) (hf:Gw H φ s.st s.fr act.tmps) (hn:act.tmps.size=n) (hk:j7 cal kn s aos=some r)
  (hnext:∀ s' act' w' H' φ',kn s'=some r->Ae H φ s.st w H' φ' s'.st w'->Gw H' φ' s'.st s'.fr act'.tmps->act'.tmps.size=n->act'.defers=act.defers->Q .normal act' w'):(Code.region id ops false).wp P Q act w:=by
 refine wp_region ?_
 have:=wS hcal aos none [] 0 ops.size h ρ kn r s act w H φ Q [] hs hf hn trivial (fun _ _ _ e=>by cases e) hk fun s' act' w' H' φ' h1 h2 h3 h4 h5 _=>hnext s' act' w' H' φ' h1 h2 h3 h4 h5
 rw [List.append_nil,Nat.sub_zero,<- List.range_eq_range'] at this
 exact this

def ABB (P:Program) (o:Oper) (act:Act) (obj:Obj):Prop:=∀ w:World,(execOp act.eval o).run P w=.ok (.value (m3 o.op w.heap.size)) (w.alloc obj)
structure eB (H:HP) (φ:CG) (st:List AS) (w:World) (b:Nat) (obj:Obj):Prop where
 held:w.heap[b]? = some obj
 out:H b=none
 sep:∀ j bx,st[j]? = some bx->bx.live=true->DZ (φ j)≠some b
theorem eB.lt {H:HP} {φ:CG} {st:List AS} {w:World} {b:Nat} {obj:Obj} (h:eB H φ st w b obj):b<w.heap.size:=(Array.getElem?_eq_some_iff.1 h.held).1
theorem eB.step {H H':HP} {φ φ':CG} {st st':List AS} {w w':World} {b:Nat} {obj:Obj} (h:eB H φ st w b obj) (g:Ae H φ st w H' φ' st' w'):eB H' φ' st' w' b obj:=by
 let φ0:CG:=fun j=>match st[j]? with
  | some bx=>if bx.live=true then φ j else .slice none 0 0
  | none=>.slice none 0 0
 have self:Fr 0 st.length H φ0 w H φ st w:=⟨rfl,rfl,rfl,Nat.le_refl _,fun _ _ _=>rfl,fun j hj=>absurd hj (Nat.not_lt_zero _),fun i bi hi hl b hb=>.inr ⟨i,(Aj.1 hi).1,by simp only [φ0,hi,hl,if_true]; exact hb⟩,fun j hj=>absurd hj (Nat.not_lt_zero _),fun _ _ _=>rfl⟩
 have f:=g.fr 0 st.length H φ0 w self
 have hne:∀ j,j<st.length->DZ (φ0 j)≠some b:=by
  intro j hj
  simp only [φ0]
  cases hi:st[j]? with
  | none=>simp [DZ]
  | some bx =>
   simp only
   split
   ·rename_i hl; exact h.sep j bx hi hl
   ·simp [DZ]
 refine ⟨(f.old b h.lt hne).trans h.held,(f.frz b h.lt hne).trans h.out,fun j bx hj hl e=>?_⟩
 rcases f.new j bx hj hl b e with h1 | ⟨k,hk,e2⟩
 ·have:=h.lt; omega
 ·exact hne k hk e2
theorem Ae.size {H H':HP} {φ φ':CG} {st st':List AS} {w w':World} (g:Ae H φ st w H' φ' st' w'):w.heap.size<=w'.heap.size :=
 (g.fr 0 st.length H φ w ⟨rfl,rfl,rfl,Nat.le_refl _,fun _ _ _=>rfl,fun j hj=>absurd hj (Nat.not_lt_zero _),fun i bi hi hl b hb=>.inr ⟨i,(Aj.1 hi).1,hb⟩,fun j hj=>absurd hj (Nat.not_lt_zero _),fun _ _ _=>rfl⟩).size
theorem eB.alloc {H:HP} {φ:CG} {st:List AS} {w:World} (hs:SR H φ st w) (obj:Obj):eB H φ st (w.alloc obj) w.heap.size obj :=
 ⟨heap_alloc_new w obj,(hs.fresh (Nat.le_refl _)).1,(hs.fresh (Nat.le_refl _)).2⟩
theorem kP {w:World} {a b:Obj} (h:w.alloc a=w.alloc b):a=b:=by
 have h1:=heap_alloc_new w a
 rw [h,heap_alloc_new w b] at h1
 exact (Option.some.inj h1).symm
theorem Ae.adopt {Hb H:HP} {φb φ:CG} {stb st:List AS} {wb w:World} (hB:Ae Hb φb stb wb H φ st w) {v:Value} {bx:AS} (hs:SR H (fun i=>if i=st.length then v else φ i) (st++[bx]) w)
  (hb:bx.live=true->∀ b,DZ v=some b->wb.heap.size<=b):Ae Hb φb stb wb H (fun i=>if i=st.length then v else φ i) (st++[bx]) w where
 le:=hB.le
 sr:=hs
 fr mv m0 H0 φ0 w0 f:=by
  have g:=hB.fr mv m0 H0 φ0 w0 f
  refine ⟨g.os,g.tape,g.output,g.size,g.old,fun j hj=>?_,fun i bi hbi hl b hb'=>?_,fun j hj=>?_,g.frz⟩
  ·have:=RY (g.vars j hj)
   rw [if_neg (by omega)]
   exact g.same j hj
  ·rcases Nat.lt_trichotomy i st.length with e | e | e
   ·rw [BF e] at hbi
    simp only [Nat.ne_of_lt e,if_false] at hb'
    exact g.new i bi hbi hl b hb'
   ·subst e
    simp at hbi
    subst hbi
    simp only [if_true] at hb'
    exact .inl (Nat.le_trans f.size (hb hl b hb'))
   ·rw [Dc (by simp; omega)] at hbi; cases hbi
  ·have:=g.vars j hj
   have hl:=RY this
   unfold AW at this ⊢
   rw [BF hl]
   exact this
theorem Ae.adoptH {Hb H:HP} {φb φ:CG} {stb st:List AS} {wb w:World} (hB:Ae Hb φb stb wb H φ st w) {b:Nat} {obj:Obj} (hl:eB H φ st w b obj) (hb:wb.heap.size<=b) :
  ∃ H',Ae Hb φb stb wb H' φ st w/\H' b=some obj/\H.le H'/\∀ b',b'≠b->H' b'=H b':=by
 have h:=hB.sr
 let H':HP:=fun b'=>if b'=b then some obj else H b'
 have hle:H.le H':=by
  intro b' o' hb'
  have:b'≠b:=fun e=>by rw [e,hl.out] at hb'; cases hb'
  simp only [H',this,if_false]
  exact hb'
 refine ⟨H',⟨HP.le_trans hB.le hle,⟨fun b' o' hb'=>?_,fun id bx hid=>?_,h.sep,fun i bi hi hlv b' hb'=>?_,h.cell,h.tb.le hle⟩,fun mv m0 H0 φ0 w0 f=>?_⟩,by simp [H'],hle,fun b' hne=>by simp [H',hne]⟩
 ·by_cases e:b'=b
  ·subst e
   simp only [H',if_true] at hb'
   rw [<- hb']
   exact hl.held
  ·simp only [H',e,if_false] at hb'
   exact h.hp b' o' hb'
 ·have:=h.box id bx hid
  cases bx with
  | var cs=>obtain ⟨b,c,el,e1,e2,e3⟩:=this; exact ⟨b,c,el,e1,e2,e3.imp fun _ _ h=>h.mono hle⟩
  | rows t' K' xs'=>obtain ⟨flat',o',r'⟩:=this; exact ⟨flat',o',fun j x hx=>(r' j x hx).mono hle⟩
  | mrow t' K' xs'=>obtain ⟨flat',o',r'⟩:=this; exact ⟨flat',o',fun j x hx=>(r' j x hx).mono hle⟩
  | byt t' xs'=>exact this
  | frz K' xs'=>obtain ⟨r',a'⟩:=this; exact ⟨OL (fun _ _ h=>GN.mono hle h) hle r',a'⟩
  | dead=>trivial
 ·have:b'≠b:=fun e=>by subst e; exact hl.sep i bi hi hlv hb'
  simp only [H',this,if_false]
  exact h.out i bi hi hlv b' hb'
 ·have g:=hB.fr mv m0 H0 φ0 w0 f
  refine { g with frz:=fun b' hb' hn=>?_ }
  have:=f.size
  have:b'≠b:=by omega
  simp only [H',this,if_false]
  exact g.frz b' hb' hn
theorem dh {s:St}:∀ {cs:List AV},cs.all AV.solid=true->s.keepAll cs=some (cs,s)
 | [],_=>rfl
 | c::cs,h=>by
  simp only [List.all_cons,AC] at h
  have h1:s.keep c=some (c,s):=by
   have:=h.1
   cases c with
   | fn f caps=>cases caps<;>first | rfl | cases this
   | _=>first | rfl | (simp [AV.solid] at this)
  simp [St.keepAll,h1,dh h.2]
theorem IJ {s:St}:∀ {aw:List AV},aw.all AV.firm=true->s.keepAlls aw=some (aw.map AV.cells,s)
 | [],_=>rfl
 | a::aw,h=>by
  simp only [List.all_cons,AC] at h
  have h1:a.cells.all AV.solid=true:=by
   have:=h.1
   cases a with
   | agg cs=>exact this
   | _=>simp only [AV.cells,List.all_cons,List.all_nil,Bool.and_true]; exact this
  simp [St.keepAlls,dh h1,IJ h.2]
theorem m8 {ao:GB} (h:ao.isFloat=true):(∃ d cs,ao=.alloc d cs)\/(∃ d e K qs,ao=.brow d e K qs)\/(∃ d K qs,ao=.blst d K qs):=by
 cases ao<;>first | (simp [GB.isFloat] at h; done) | exact .inl ⟨_,_,rfl⟩ | exact .inr (.inl ⟨_,_,_,_,rfl⟩) | exact .inr (.inr ⟨_,_,_,rfl⟩)
theorem xS {H:HP} {φ:CG} {s:St} {act:Act} {w:World} {n:Nat} {o:Oper} {d:Nat} {K:Kd} {qs:List Cv} {e:TypeId} (h:bsB P n o d K qs e=true) (hs:SR H φ s.st w) (hf:Gw H φ s.st s.fr act.tmps)
  (hk:((qs.map s.opd).all AV.firm&&(K.ofs ((qs.map s.opd).map AV.cells)).isSome)=true):∃ obj,ABB P o act obj:=by
 simp only [AC] at hk
 obtain ⟨_,_,_,vs,e2,_,hb,hrun⟩:=pT h hf
 obtain ⟨H1,g1,k1,f1,_,_⟩:=II hs e2 (IJ hk.1)
 obtain ⟨xs,hx⟩:=Option.isSome_iff_exists.1 hk.2
 obtain ⟨_,_,s1'⟩:=kG K f1 hx
 exact ⟨_,fun w=>by rw [hb]; exact hrun s1' w⟩
theorem ABC {H:HP} {φ:CG} {s:St} {act:Act} {w:World} {n:Nat} {o:Oper} {ao:GB} (h:o9 P n o ao=true) (hfl:ao.isFloat=true) (hk:ao.floatOk s=true) (hs:SR H φ s.st w) (hf:Gw H φ s.st s.fr act.tmps) :
  ∃ obj,ABB P o act obj:=by
 rcases m8 hfl with ⟨d,cs,rfl⟩ | ⟨d,e,K,qs,rfl⟩ | ⟨d,K,qs,rfl⟩
 ·simp only [o9,pM,AC] at h
  have h2:=h.2
  split at h2
  ·rename_i t ho
   obtain ⟨i,z,hi,hz,_⟩:=gV h2
   exact ⟨.cells z.cells t,fun w=>by simp [execOp,ho,Instr.alloc,zeroValue,typeInfo,hi,hz,newVar,newRow,m3]⟩
  ·cases h2
 ·exact xS h hs hf hk
 ·simp only [o9] at h
  split at h
  ·exact xS h hs hf hk
  ·cases h
theorem Gw.cons {H:HP} {φ:CG} {st:List AS} {fr:List (Nat×AV)} {tmps:Array Value} (h:Gw H φ st fr tmps) {d:Nat} {a:AV} (ha:VA H φ st a (tmps.getD d undef)):Gw H φ st ((d,a)::fr) tmps:=by
 intro t
 simp only [F7]
 split
 ·rename_i e; subst e; exact ha
 ·exact h t
theorem zY {Hb H:HP} {φb φ:CG} {stb:List AS} {wb w:World} {s:St} {act:Act} {n:Nat} {o:Oper} {ao:GB} {cal:GM} (h:o9 P n o ao=true) (hfl:ao.isFloat=true) (hk0:ao.floatOk s=true)
  (hB:Ae Hb φb stb wb H φ s.st w) (hf:Gw H φ s.st s.fr act.tmps) {ρ:Type} {kn:St->Option ρ} {r:ρ} (hk:EQ cal kn s ao=some r) {obj:Obj} (hborn:ABB P o act obj) {b:Nat}
  (hd:∀ d,o.dst=some d->act.tmps.getD d undef=m3 o.op b) (hl:eB H φ s.st w b obj) (hbb:wb.heap.size<=b) :
  ∃ s' H' φ',kn s'=some r/\Ae Hb φb stb wb H' φ' s'.st w/\Gw H' φ' s'.st s'.fr act.tmps/\∀ b' obj',b'≠b->eB H φ s.st w b' obj'->eB H' φ' s'.st w b' obj':=by
 have hs:=hB.sr
 rcases m8 hfl with ⟨d,cs,rfl⟩ | ⟨d,e,K,qs,rfl⟩ | ⟨d,K,qs,rfl⟩
 ·simp only [o9,pM,AC] at h
  obtain ⟨hdd,_⟩:=Bo h.1
  have h2:=h.2
  split at h2
  ·rename_i t ho
   obtain ⟨i,z,hi,hz,hv⟩:=gV h2
   have hobj:obj=.cells z.cells t:=by
    have e1:=hborn w
    have e2:(execOp act.eval o).run P w=.ok (.value (.pointer (some ⟨w.heap.size,0,none⟩))) (w.alloc (.cells z.cells t)):=by simp [execOp,ho,Instr.alloc,zeroValue,typeInfo,hi,hz,newVar,newRow]
    rw [e2] at e1
    exact kP (Result.ok.inj e1).2.symm
   subst hobj
   obtain ⟨φ1,g1,k1,told,len⟩:=Vi (hv H) hs
   have hl1:=hl.step g1
   have hd1:act.tmps.getD d undef=.pointer (some ⟨b,0,none⟩):=by rw [hd d hdd,ho]; rfl
   have hsr:=g1.sr.push (v:=.pointer (some ⟨b,0,none⟩)) (bx:=.var (BQ s.st.length cs)) ⟨b,z.cells,t,rfl,hl1.held,told.imp fun _ _ h=>h.1 _⟩
    (fun _ b' hb'=>by
     simp only [DZ,BG] at hb'
     subst hb'
     exact ⟨hl1.out,hl1.sep⟩)
    (fun cs' e o' i' ho'=>by
     cases e
     obtain ⟨u,hu,ht⟩:=told.get o' _ ho'
     obtain ⟨q1,q2⟩:=ht.2 i' rfl
     refine ⟨q1,_,rfl,?_⟩
     simp only [World.cell?,hl1.held]
     rw [<- q2]
     simpa using hu)
   have hst:=(hB.trans g1).adopt hsr (fun _ b' hb'=>by
    simp only [DZ,BG] at hb'
    omega)
   simp only [EQ] at hk
   refine ⟨_,H,_,hk,hst,?_,?_⟩
   ·refine Gw.cons ((hf.mono (HP.le_refl H) k1).mono (HP.le_refl H) (E4 φ1 (s.st++Aw cs) _ _)) ?_
    rw [hd1]
    refine ⟨by rw [<- len]; exact kF _ _,b,by simp [len],rfl⟩
   ·intro b' obj' hne hq
    have hq1:=hq.step g1
    refine ⟨hq1.held,hq1.out,fun j bx hj hlv e=>?_⟩
    rcases Nat.lt_trichotomy j (s.st++Aw cs).length with e1 | e1 | e1
    ·rw [BF e1] at hj
     simp only [Nat.ne_of_lt e1,if_false] at e
     exact hq1.sep j bx hj hlv e
    ·rw [if_pos e1] at e
     simp only [DZ,BG] at e
     omega
    ·rw [Dc (by simp at e1 ⊢; omega)] at hj; cases hj
  ·cases h2
 ·simp only [GB.floatOk,AC] at hk0
  obtain ⟨hdd,hdn,hsm,vs,e2,e3,hbv,hrun⟩:=pT (e:=e) h hf
  simp only [EQ,IJ hk0.1,Z] at hk
  obtain ⟨H1,g1,k1,f1,_,_⟩:=II hs e2 (IJ hk0.1)
  cases hx:K.ofs ((qs.map s.opd).map AV.cells) with
  | none=>rw [hx] at hk; cases hk
  | some xs =>
   rw [hx] at hk
   simp only [Z] at hk
   obtain ⟨l1,r1,s1'⟩:=kG K f1 hx
   have hflat:=TB s1'
   have hmax:vs.length<=maxLen:=by
    have hpos:=Kd.sz_pos K
    have:qs.length<=qs.length*K.sz:=Nat.le_mul_of_pos_right _ hpos
    simp only [maxLen]
    omega
   have hobj:obj=.cells (vs.flatMap fun v=>v.cells.toList).toArray e:=by
    have e1:=hborn w
    rw [hrun s1' w] at e1
    exact kP (Result.ok.inj e1).2.symm
   subst hobj
   have hl1:=hl.step g1
   have hsr:=g1.sr.push (v:=.slice (some ⟨b,0,none⟩) vs.length vs.length) (bx:=.rows e K xs)
    ⟨vs.flatMap fun v=>v.cells.toList,⟨by rw [hflat,l1],.inr ⟨b,vs.length,_,by rw [l1],Nat.zero_le _,hl1.held,by omega,hmax,by simp [hflat],by show List.take _ _=_; rw [l1,<- hflat]; exact List.take_length⟩⟩,r1⟩
    (fun _ b' hb'=>by
     simp only [DZ,BG] at hb'
     subst hb'
     exact ⟨hl1.out,hl1.sep⟩) (fun cs e=>by cases e)
   have hst:=(hB.trans g1).adopt hsr (fun _ b' hb'=>by
    simp only [DZ,BG] at hb'
    omega)
   refine ⟨_,H1,_,hk,hst,?_,?_⟩
   ·refine Gw.cons ((hf.mono g1.le k1).mono (HP.le_refl _) (E4 φ s.st _ _)) ?_
    rw [hd d hdd,hbv]
    exact ⟨by simp,by simp [AN]⟩
   ·intro b' obj' hne hq
    have hq1:=hq.step g1
    refine ⟨hq1.held,hq1.out,fun j bx hj hlv e=>?_⟩
    rcases Nat.lt_trichotomy j s.st.length with e1 | e1 | e1
    ·rw [BF e1] at hj
     simp only [Nat.ne_of_lt e1,if_false] at e
     exact hq1.sep j bx hj hlv e
    ·rw [if_pos e1] at e
     simp only [DZ,BG] at e
     omega
    ·rw [Dc (by simp; omega)] at hj; cases hj
 ·simp only [o9] at h
  split at h
  case h_2=>cases h
  simp only [GB.floatOk,AC] at hk0
  obtain ⟨hdd,hdn,hsm,vs,e2,e3,hbv,hrun⟩:=pT h hf
  simp only [EQ,IJ hk0.1,Z] at hk
  obtain ⟨H1,g1,k1,f1,_,_⟩:=II hs e2 (IJ hk0.1)
  cases hx:K.ofs ((qs.map s.opd).map AV.cells) with
  | none=>rw [hx] at hk; cases hk
  | some xs =>
   rw [hx] at hk
   simp only [Z] at hk
   obtain ⟨l1,r1,s1'⟩:=kG K f1 hx
   have hflat:=TB s1'
   have e1:=hborn w
   rw [hrun s1' w] at e1
   have hobj:=(kP (Result.ok.inj e1).2).symm
   have hl1:=hl.step g1
   obtain ⟨H2,hst,hb2,hle2,hoth⟩:=(hB.trans g1).adoptH hl1 hbb
   rw [hobj] at hb2
   refine ⟨_,H2,φ,hk,hst,?_,?_⟩
   ·refine Gw.cons ((hf.mono g1.le k1).mono hle2 (By.refl _ _ _)) ?_
    rw [hd d hdd,hbv]
    refine ⟨_,vs.length,by rw [l1],by rw [l1]; exact Nat.le_refl _,.inr ⟨b,0,_,_,(0,0),rfl,hb2,fun j x hx=>?_⟩⟩
    obtain ⟨cs,c1,c2,c3⟩:=Rc r1 (by rw [hflat,l1]) hx
    refine ⟨cs,c1.mono hle2,c2,fun i u hu=>?_⟩
    have:=c3 i u hu
    simpa using this
   ·intro b' obj' hne hq
    have hq1:=hq.step g1
    exact ⟨hq1.held,(hoth b' hne).trans hq1.out,hq1.sep⟩

abbrev nR:=List (Nat×(World->Prop))
def VM (anc:List Nat):nR->nR
 | []=>[]
 | p::r=>if Bx anc p.1=true then VM anc r else p::VM anc r
theorem G7 {anc:List Nat}:∀ {T:nR},∀ p∈VM anc T,p∈T/\Bx anc p.1=false
 | [],p,h=>by cases h
 | q::r,p,h=>by
  simp only [VM] at h
  split at h
  ·obtain ⟨h1,h2⟩:=G7 p h
   exact ⟨by simp [h1],h2⟩
  ·rename_i hq
   rcases BI.1 h with rfl | h
   ·exact ⟨by simp,by simpa using hq⟩
   ·obtain ⟨h1,h2⟩:=G7 p h
    exact ⟨by simp [h1],h2⟩
theorem pc {anc:List Nat}:∀ {T:nR} {p},p∈T->Bx anc p.1=false->p∈VM anc T
 | [],p,h,_=>by cases h
 | q::r,p,h,hn=>by
  simp only [VM]
  rcases BI.1 h with rfl | h
  ·rw [if_neg (by rw [hn]; simp)]; simp
  ·split
   ·exact pc h hn
   ·exact List.mem_cons_of_mem _ (pc h hn)
theorem yQ {anc:List Nat} {i:Nat} {C:World->Prop} {T:nR} (h:Bx anc i=false):VM anc ((i,C)::T)=(i,C)::VM anc T:=by
 show (if Bx anc i=true then VM anc T else (i,C)::VM anc T)=_
 rw [h]
 rfl
def eC (P:Program) (ops:Array Oper) (Q:Exit->Act->World->Prop) (anc:Nat->List Nat):Nat->nR->Array Bool->Act->World->Prop
 | 0,_,listed,a,w=>Region.ready .any ops listed=[]/\Q .normal a w
 | fuel+1,T,listed,a,w =>
  (Region.ready .any ops listed=[]->Q .normal a w) /\
  ∀ i∈Region.ready .any ops listed,wpOp P ops Q i (fun a' w'=>(∀ p∈VM (anc i) T,p.2 w')/\eC P ops Q anc fuel (VM (anc i) T) (listed.setIfInBounds i true) a' w') a w
theorem pd {ops:Array Oper} {Q:Exit->Act->World->Prop} {anc:Nat->List Nat}:∀ (fuel:Nat) (T:nR) (listed:Array Bool) (a:Act) (w:World),eC P ops Q anc fuel T listed a w->wpAny P .any ops Q fuel listed a w
 | 0,_,_,_,_,h=>h
 | fuel+1,_,_,_,_,h=>⟨h.1,fun i hi=>wpOp_mono (fun a' w' h'=>pd fuel _ _ a' w' h'.2) (h.2 i hi)⟩
theorem di {ops:Array Oper} {Q:Exit->Act->World->Prop} {anc:Nat->List Nat}:∀ (fuel:Nat) {T T':nR} (listed:Array Bool) (a:Act) (w:World),(∀ p∈T',p∈T)->eC P ops Q anc fuel T listed a w->eC P ops Q anc fuel T' listed a w
 | 0,_,_,_,_,_,_,h=>h
 | fuel+1,T,T',_,_,_,hs,h=>⟨h.1,fun i hi=>wpOp_mono (fun a' w' h'=>by
   have hsub:∀ p∈VM (anc i) T',p∈VM (anc i) T:=fun p hp=>by
    obtain ⟨h1,h2⟩:=G7 p hp
    exact pc (hs p h1) h2
   exact ⟨fun p hp=>h'.1 p (hsub p hp),di fuel _ a' w' hsub h'.2⟩) (h.2 i hi)⟩
def r5 (ops:Array Oper) (listed:Array Bool):Prop:=∀ k o,listed.getD k false=true->ops[k]? = some o->∀ e∈o.after,Region.binds .any e=true->listed.getD e.on false=true
def pe (ops:Array Oper) (i:Nat):List Nat:=match ops[i]? with
 | some o=>(o.after.filter fun e=>Region.binds .any e).toList.map (·.on)
 | none=>[]
def wT (ops:Array Oper) (anc:List (List Nat)):Bool :=
 (List.range ops.size).all fun i=>(pe ops i).all (fun p=>decide (p<i))&&(anc.getD i []).all fun j=>(pe ops i).any (fun p=>p==j)||(pe ops i).any fun p=>Bx (anc.getD p []) j
theorem Rg {ops:Array Oper} {anc:List (List Nat)} (hA:wT ops anc=true) {listed:Array Bool} (hs:r5 ops listed):∀ (i:Nat),(∀ p∈pe ops i,listed.getD p false=true)->i<ops.size->∀ j∈anc.getD i [],listed.getD j false=true:=by
 intro i
 induction i using Nat.strongRecOn with
 | _ i ih =>
  intro hp hi j hj
  have h1:=Bf.1 hA i (List.mem_range.2 hi)
  simp only [AC,Bf,List.any_eq_true,Dy,beq_iff_eq,decide_eq_true_eq] at h1
  rcases h1.2 j hj with ⟨p,hpm,rfl⟩ | ⟨p,hpm,hpj⟩
  ·exact hp p hpm
  ·have hlt:=h1.1 p hpm
   refine ih p hlt (fun q hq=>?_) (by omega) j (D8.1 hpj)
   unfold pe at hq
   split at hq
   ·rename_i o ho
    simp only [List.mem_map,Array.mem_toList_iff,Array.mem_filter] at hq
    obtain ⟨e,⟨he,hb⟩,rfl⟩:=hq
    exact hs p o (hp p hpm) ho e he hb
   ·cases hq
theorem ES {ops:Array Oper} {listed:Array Bool} {i:Nat} (h:i∈Region.ready .any ops listed):(∀ p∈pe ops i,listed.getD p false=true)/\i<ops.size:=by
 obtain ⟨_,o,ho,hall⟩:=mem_ready.1 h
 refine ⟨fun p hp=>?_,(Array.getElem?_eq_some_iff.1 ho).1⟩
 unfold pe at hp
 rw [ho] at hp
 simp only [List.mem_map,Array.mem_toList_iff,Array.mem_filter] at hp
 obtain ⟨e,⟨he,hb⟩,rfl⟩:=hp
 exact hall e he hb
theorem r5.set {ops:Array Oper} {listed:Array Bool} (hs:r5 ops listed) {i:Nat} (h:i∈Region.ready .any ops listed):r5 ops (listed.setIfInBounds i true):=by
 intro k o hk ho e he hb
 by_cases hik:i=k
 ·subst hik
  obtain ⟨_,o',ho',hall⟩:=mem_ready.1 h
  rw [ho] at ho'
  cases ho'
  exact getD_set_true (hall e he hb)
 ·rw [getD_set_ne false hik] at hk
  exact getD_set_true (hs k o hk ho e he hb)
theorem Fi {ops:Array Oper} {listed:Array Bool} {i:Nat} (h:i∈Region.ready .any ops listed):listed.getD i false=false:=by
 have h0:=(mem_ready.1 h).1
 rcases B6 i listed.size with h' | h'
 ·simp [h'] at h0 ⊢; exact h0
 ·simp [Array.getElem?_eq_none h']
theorem gq {ops:Array Oper} {Q:Exit->Act->World->Prop} {anc:List (List Nat)} (hA:wT ops anc=true) {i:Nat} {oi:Oper} {v:Value} {C:World->Prop} (hi:ops[i]? = some oi)
  (hsel:∀ (j:Nat) (o:Oper) cs b,ops[j]? = some o->o.op≠.select cs b) (hQ:∀ c a w,Q (.panic c) (a.put oi.dst v) w->Q (.panic c) a w) :
  ∀ (fuel:Nat) (T:nR) (listed:Array Bool) (a:Act) (w:World),r5 ops listed ->
   (∀ j oj,ops[j]? = some oj->j≠i->listed.getD j true=false->(∀ e∈oj.after,Region.binds .any e=true->e.on≠i)->oi.apart ops oj=true) ->
   i∈Region.ready .any ops listed->YieldsIf P ops C oi v a->C w->(∀ p∈T,p.2 w) ->
   eC P ops Q (fun i=>anc.getD i []) fuel ((i,C)::T) (listed.setIfInBounds i true) (a.put oi.dst v) w->eC P ops Q (fun i=>anc.getD i []) (fuel+1) T listed a w:=by
 intro fuel
 induction fuel with
 | zero =>
  intro T listed a w hsh _ hr hy hC hT H
  refine ⟨fun h=>(by rw [h] at hr; cases hr),fun j hj=>?_⟩
  by_cases hji:j=i
  ·subst hji; exact hy.wpOp hi hC ⟨fun p hp=>hT p (G7 p hp).1,H⟩
  ·have:=ready_mono hj hji
   rw [H.1] at this
   cases this
 | succ fuel ih =>
  intro T listed a w hsh hfree hr hy hC hT H
  refine ⟨fun h=>(by rw [h] at hr; cases hr),fun j hj=>?_⟩
  by_cases hji:j=i
  ·subst hji
   refine hy.wpOp hi hC ⟨fun p hp=>hT p (G7 p hp).1,di _ _ _ _ (fun p hp=>?_) H⟩
   exact List.mem_cons_of_mem _ (G7 p hp).1
  ·have h1:=H.2 j (ready_mono hj hji)
   obtain ⟨hjun,oj,hoj,hall⟩:=mem_ready.1 hj
   have hnot:∀ e∈oj.after,Region.binds .any e=true->e.on≠i:=fun e he hb heq=>by
    have h1:=hall e he hb
    have h0:=Fi hr
    rw [heq] at h1
    rw [h0] at h1
    cases h1
   have hnanc:Bx (anc.getD j []) i=false:=by
    rw [Bu]
    intro hm
    have:=Rg hA hsh j (ES hj).1 (ES hj).2 i hm
    rw [Fi hr] at this
    cases this
   have hcut:VM (anc.getD j []) ((i,C)::T)=(i,C)::VM (anc.getD j []) T:=yQ hnanc
   simp only [hcut] at h1
   have h2:=wpOp_putIf hoj (hfree j oj hoj hji hjun hnot) (fun cs b=>hsel i oi cs b hi) (fun cs b=>hsel j oj cs b hoj) hQ hy h1
   have hfree':∀ k ok,ops[k]? = some ok->k≠i->(listed.setIfInBounds j true).getD k true=false ->
     (∀ e∈ok.after,Region.binds .any e=true->e.on≠i)->oi.apart ops ok=true:=fun k ok hk hki hun hno=>by
    refine hfree k ok hk hki ?_ hno
    by_cases hjk:j=k
    ·subst hjk; exact hjun
    ·rw [getD_set_ne true hjk] at hun; exact hun
   refine wpOp_mono (fun a' w' h3=>?_) h2
   obtain ⟨hy',hp',hG⟩:=h3
   have hC':C w':=hp' (i,C) (by simp)
   have hT':∀ p∈VM (anc.getD j []) T,p.2 w':=fun p hp=>hp' p (List.mem_cons_of_mem _ hp)
   refine ⟨hT',ih _ (listed.setIfInBounds j true) a' w' (hsh.set hj) hfree' (ready_mono hr (Ne.symm hji)) hy' hC' hT' ?_⟩
   rw [Array.setIfInBounds_comm _ _ hji]
   exact hG
theorem ABD {o:Oper} {a:Act} {w:World} {I:Prop} (h:o.wp P a w (fun _ _=>I) (fun _ _ _=>I)):I:=by
 unfold Oper.wp at h
 generalize (execOp a.eval o).run P w=r at h
 cases r with
 | ok n w' =>
  cases n<;>simp only [Oper.upon] at h<;>try exact h
  case enter f args =>
   obtain ⟨e,w2,fr,hr,_⟩:=h []
   cases e with
   | returned v=>exact hr
   | panicked c=>exact hr
   | outgrown=>exact hr.elim fun _ h=>h.elim fun _ h=>h
  case row row args =>
   obtain ⟨v,w2,hr,_⟩:=h default []
   exact hr
 | halt x w' =>
  cases x<;>simp only [Oper.upon] at h
  case panic v=>exact h
def gB (ops:Array Oper) (o:Oper):Option (Nat×Bool)->Bool
 | none=>o.guard.isNone
 | some g=>match o.guard with
  | some (j,want)=>want==g.2&&nQ ops j==some g.1
  | none=>false
def yR (L:Array Bool) (fl:List Nat):Array Bool:=fl.foldl (fun L i=>L.setIfInBounds i true) L
def zZ (ops:Array Oper) (i:Nat) (js:List Nat):Bool :=
 js.all fun j=>match ops[i]?,ops[j]? with
  | some a,some b=>a.apart ops b&&b.apart ops a
  | _,_=>false
def Vo (ops:Array Oper):List Nat->Bool
 | []=>true
 | i::r=>!Bx r i&&zZ ops i r&&Vo ops r
def wU (P:Program) (n:Nat) (ops:Array Oper) (L:Array Bool) (f:Nat×GB):Bool :=
 (Region.ready .any ops L).contains f.1&&f.2.isFloat&&(match ops[f.1]? with
  | some o=>o9 P n o f.2&&decide (o.dst.toList=f.2.dsts)&&o.guard.isNone&&(match o.dst with
   | some d=>!(o.looksAt ops).contains d&&decide (d<n)
   | none=>false)
  | none=>false)
def o_ (P:Program) (n:Nat) (ops:Array Oper):DT->Array Bool->List Nat->Bool
 | .done,L,F=>(Region.ready .any ops L).isEmpty&&F.isEmpty
 | .take i g ao r,L,F=>(Region.ready .any ops L).contains i&&Region.free .any ops L i&&!Bx F i&&ao.isVal&&(match ops[i]? with
   | some o=>gB ops o g&&o9 P n o ao&&decide (o.dst.toList=ao.dsts)
   | none=>false)&&o_ P n ops r (L.setIfInBounds i true) F
 | .skip i g d r,L,F=>(Region.ready .any ops L).contains i&&Region.free .any ops L i&&!Bx F i&&(match ops[i]? with
   | some o=>gB ops o (some g)&&decide (o.dst=d)&&(match d with | some d=>decide (d<n) | none=>true)
   | none=>false)&&o_ P n ops r (L.setIfInBounds i true) F
 | .only i g ao e fl r,L,F=>(Region.ready .any ops L).contains i&&(Region.ready .any ops (yR L (fl.map (·.1)))).all (· == i)&&F.all (fun f=>f==i||Bx (fl.map (·.1)) f)&&(!Bx F i||(e&&ao.isFloat))
   && fl.all (wU P n ops L)&&Vo ops (i::fl.map (·.1))&&(match ops[i]? with
   | some o=>gB ops o g&&o9 P n o ao&&decide (o.dst.toList=ao.dsts)
   | none=>false)&&o_ P n ops r (L.setIfInBounds i true) (fl.map (·.1))
 | .test _ a b,L,F=>o_ P n ops a L F&&o_ P n ops b L F
 | .fork i ai ri j aj rj,L,F=>F.isEmpty&&(Region.ready .any ops L).contains i&&(Region.ready .any ops L).all (fun k=>k==i||k==j)
   && (match ops[i]? with
   | some o=>gB ops o none&&o9 P n o ai&&decide (o.dst.toList=ai.dsts)
   | none=>false)&&(match ops[j]? with
   | some o=>gB ops o none&&o9 P n o aj&&decide (o.dst.toList=aj.dsts)
   | none=>false)&&o_ P n ops ri (L.setIfInBounds i true) []&&o_ P n ops rj (L.setIfInBounds j true) []
def xT (P:Program) (n:Nat) (ops:Array Oper) (anc:List (List Nat)) (t:DT):Bool :=
 P.follows .mixedOrders&&Region.noSelect ops&&wT ops anc&&o_ P n ops t (Array.replicate ops.size false) []
theorem vG {H:HP} {φ:CG} {s:St} {act:Act} (hf:Gw H φ s.st s.fr act.tmps) {c:Nat} {t:Bool} (h:F7 s.fr c=.bool t):act.tmps[c]? = some (.bool t):=by
 have hfc:=hf c
 rw [h] at hfc
 have hfc:act.tmps.getD c undef=.bool t:=hfc
 rw [Array.getD_eq_getD_getElem?] at hfc
 cases hq:act.tmps[c]? with
 | none=>rw [hq] at hfc; cases hfc
 | some v=>rw [hq] at hfc; simpa using hfc
theorem Xf {H:HP} {φ:CG} {s:St} {act:Act} {ops:Array Oper} {o:Oper} {g:Option (Nat×Bool)} (hf:Gw H φ s.st s.fr act.tmps) (h:gOk s g=true) (hb:gB ops o g=true):Region.wanted o (yielded ops act.tmps)=true:=by
 cases g with
 | none =>
  simp only [gB,Option.isNone_iff_eq_none] at hb
  exact Rf hb trivial
 | some g =>
  simp only [gB] at hb
  split at hb
  ·rename_i j want hg
   simp only [AC,beq_iff_eq] at hb
   obtain ⟨rfl,hb2⟩:=hb
   simp only [gOk] at h
   split at h
   ·rename_i t ht
    simp only [beq_iff_eq] at h
    subst h
    exact Rf hg ⟨g.1,hb2,vG hf ht⟩
   ·cases h
  ·cases hb
theorem vH {H:HP} {φ:CG} {s:St} {act:Act} {ops:Array Oper} {o:Oper} {g:Nat×Bool} (hf:Gw H φ s.st s.fr act.tmps) (h:AB2 s g=true) (hb:gB ops o (some g)=true):Region.wanted o (yielded ops act.tmps)=false:=by
 simp only [gB] at hb
 split at hb
 ·rename_i j want hg
  simp only [AC,beq_iff_eq] at hb
  obtain ⟨rfl,hb2⟩:=hb
  refine eA hg hb2 ?_
  unfold AB2 at h
  split at h
  ·rename_i t ht
   rw [vG hf ht]
   intro e
   cases e
   simp at h
  ·rename_i ht
   have hv:=hf g.1
   rw [ht] at hv
   have hv:act.tmps.getD g.1 undef=undef:=hv
   intro e
   rw [Array.getD_eq_getD_getElem?,e] at hv
   cases hv
  ·cases h
 ·cases hb
def m9 (act:Act) (w:World) (T:List (Nat×Nat)) (TT:nR):Prop :=
 ∀ p∈TT,p.2 w/\((∀ w2,p.2 w2)\/∃ x,(p.1,x)∈T/\∃ w0:World,p.2=fun w2=>∀ b,DZ (act.tmps.getD x undef)=some b->w2.heap[b]? = w0.heap[b]?)
theorem Ra {ds:List Nat}:∀ {T:List (Nat×Nat)},IM ds T=true->∀ p∈T,p.2∉ds
 | [],_,p,hp=>by cases hp
 | q::r,h,p,hp=>by
  simp only [IM,AC,EL] at h
  rcases BI.1 hp with rfl | hp
  ·exact Bu.1 h.1
  ·exact Ra h.2 p hp
theorem PC {act:Act} {dst:Option Tmp} {v:Value} {t:Nat} (h:dst≠some t):(act.put dst v).tmps.getD t undef=act.tmps.getD t undef:=by
 rw [Array.getD_eq_getD_getElem?,Array.getD_eq_getD_getElem?,Lc h]
theorem m9.put {act:Act} {w:World} {T:List (Nat×Nat)} {TT:nR} (h:m9 act w T TT) {dst:Option Tmp} {v:Value} (hf:IM dst.toList T=true):m9 (act.put dst v) w T TT:=by
 intro p hp
 obtain ⟨h1,h2⟩:=h p hp
 refine ⟨h1,?_⟩
 rcases h2 with h2 | ⟨x,hx,w0,e⟩
 ·exact .inl h2
 ·refine .inr ⟨x,hx,w0,?_⟩
  have:=Ra hf _ hx
  rw [PC (fun e=>this (by rw [e]; simp))]
  exact e
theorem Ld {anc:List Nat}:∀ {T:List (Nat×Nat)} {p},p∈T->Bx anc p.1=false->p∈Hg anc T
 | [],p,h,_=>by cases h
 | q::r,p,h,hn=>by
  simp only [Hg]
  rcases BI.1 h with rfl | h
  ·rw [if_neg (by rw [hn]; simp)]; simp
  ·split
   ·exact Ld h hn
   ·exact List.mem_cons_of_mem _ (Ld h hn)
theorem Vp {anc tch:List Nat} {s:St}:∀ {T:List (Nat×Nat)},XW anc tch s T=true->∀ p∈T,Bx anc p.1=false->(F7 s.fr p.2).clear tch=true
 | [],_,p,hp,_=>by cases hp
 | q::r,h,p,hp,hn=>by
  simp only [XW,AC,Dy] at h
  rcases BI.1 hp with rfl | hp
  ·rcases h.1 with h1 | h1
   ·rw [hn] at h1; cases h1
   ·exact h1
  ·exact Vp h.2 p hp hn
theorem cW {H H':HP} {φ φ':CG} {s:St} {st':List AS} {w w':World} {v:Value} {a:AV} {tch:List Nat} (hs:SR H φ s.st w) (hst:Ae H φ s.st w H' φ' st' w') (hm:rp tch φ s.st w w') (hv:VA H φ s.st a v)
  (h:a.clear tch=true):∀ b,DZ v=some b->w'.heap[b]? = w.heap[b]? := by
 intro b hb
 have keepH:∀ o,H b=some o->w'.heap[b]? = w.heap[b]? := fun o ho=>by rw [hst.sr.hp b o (hst.le b o ho),hs.hp b o ho]
 cases a with
 | ptr id off =>
  obtain ⟨hva,b0,e1,e2⟩:=hv
  rw [e2] at hb
  cases hb
  unfold Ak at hva
  split at hva
  ·rename_i cs hid
   exact hm id _ hid rfl (Bu.1 (by simpa [AV.clear] using h)) b0 (by rw [e1]; rfl)
  ·cases hva
 | eptr id i off =>
  obtain ⟨b0,n,cap,K,hk,hi,e1,e2⟩:=hv
  rw [e2] at hb
  cases hb
  unfold AN at hk
  split at hk
  ·rename_i t K' xs hid
   exact hm id _ hid rfl (Bu.1 (by simpa [AV.clear] using h)) b0 (by rw [e1]; rfl)
  ·rename_i K' xs hid
   cases hk
   obtain ⟨⟨sl,cap',e3,_,hr⟩,_⟩:=hs.box id _ hid
   rcases hr with rfl | ⟨b1,o1,c,el,fz,e4,e5,_⟩
   ·simp at hi
   ·rw [e1] at e3
    simp only [Value.slice.injEq] at e3
    rw [e4] at e3
    obtain ⟨e6,_⟩:=e3
    simp only [BG,Addr.mk.injEq] at e6
    obtain ⟨rfl,_⟩:=e6
    exact keepH _ e5
  ·rename_i t K' xs hid
   exact hm id _ hid rfl (Bu.1 (by simpa [AV.clear] using h)) b0 (by rw [e1]; rfl)
  ·rename_i t xs hid
   cases hk
   exact hm id _ hid rfl (Bu.1 (by simpa [AV.clear] using h)) b0 (by rw [e1]; rfl)
  ·cases hk
 | fptr cs off =>
  obtain ⟨b0,o,c,el,fz,e,hb0,_⟩:=hv
  rw [e] at hb
  cases hb
  exact keepH _ hb0
 | _=>cases h
theorem za {n:Nat} {o:Oper} {d x:Nat} {m:Option Nat} (h:pN P n o d (.t x) m=true):∃ t,o.op=.load t (.tmp x):=by
 simp only [pN,AC] at h
 have h2:=h.2
 split at h2
 ·rename_i t y ho
  simp only [AC] at h2
  have:=h2.1
  cases y<;>simp [Da] at this
  subst this
  exact ⟨t,ho⟩
 ·cases h2
theorem yS {n:Nat} {o:Oper} {ao:GB} {t:TypeId} {y:Operand} {ρ:Type} {kn:St->Option ρ} {r:ρ} {cal:GM} {s:St} (hb:o9 P n o ao=true) (hop:o.op=.load t y) (hv:ao.isVal=true) (hk:EQ cal kn s ao=some r) :
  ∃ d x m,ao=.load d (.t x) m:=by
 cases ao<;>first | cases hv | skip
 case load d x m =>
  cases x with
  | t x=>exact ⟨d,x,m,rfl⟩
  | c a =>
   exfalso
   simp only [o9,pN,hop,AC] at hb
   simp only [EQ,St.opd] at hk
   have h2:=hb.2.1
   cases y with
   | const v =>
    have h3:a=.undef\/kD v a=true:=by cases a<;>first | exact .inl rfl | exact .inr h2
    rcases h3 with rfl | h3
    ·simp [St.behind] at hk
    ·have:=cO (H:=fun _=>none) (v:=v) (a:=a) h3
     cases a<;>first | exact this.elim | (simp [St.behind] at hk)
   | func f =>
    cases a<;>first | (simp [Da] at h2; done) | (simp [St.behind] at hk)
   | tmp t=>simp [Da] at h2
   | global g=>simp [Da] at h2
 all_goals (exfalso; simp [o9,mvB,mz,xI,AAu,AAv,unB,AAs,AAr,ti,AAz,xL,xM,slB,fnB,AA8,AA_,AAw,AAt,tm,hop] at hb)
def LS (M L:Array Bool) (S:List Nat):Prop:=M.size=L.size/\∀ k,M.getD k true=(L.getD k true||Bx S k)
theorem LS.refl (L:Array Bool):LS L L []:=⟨rfl,fun k=>by simp [Bx]⟩
theorem eD {M:Array Bool} {k:Nat}:M.getD k false=(M.getD k true&&decide (k<M.size)):=by
 rw [Array.getD_eq_getD_getElem?,Array.getD_eq_getD_getElem?]
 by_cases h:k<M.size
 ·simp [h]
 ·simp [h]
theorem LS.getF {M L:Array Bool} {S:List Nat} (h:LS M L S) (k:Nat):M.getD k false=(L.getD k false||(Bx S k&&decide (k<L.size))):=by
 rw [eD,eD,h.2,h.1]
 cases L.getD k true<;>cases Bx S k<;>simp
theorem Vq {M:Array Bool} {i k:Nat}:(M.setIfInBounds i true).getD k true=(M.getD k true||(i==k)):=by
 by_cases h:i=k
 ·subst h
  rw [Array.getD_eq_getD_getElem?]
  by_cases h2:i<M.size
  ·simp [h2]
  ·simp [h2]
 ·rw [getD_set_ne true h]
  simp [h]
theorem LS.set {M L:Array Bool} {S:List Nat} (h:LS M L S) (i:Nat):LS (M.setIfInBounds i true) (L.setIfInBounds i true) S:=by
 refine ⟨by simp [h.1],fun k=>?_⟩
 rw [Vq,Vq,h.2]
 cases L.getD k true<;>cases Bx S k<;>cases (i==k)<;>rfl
theorem LS.early {M L:Array Bool} {S:List Nat} (h:LS M L S) (f:Nat):LS (M.setIfInBounds f true) L (f::S):=by
 refine ⟨by simp [h.1],fun k=>?_⟩
 rw [Vq,h.2]
 simp only [Bx]
 by_cases e:f=k<;>simp [e]
theorem LS.adopt {M L:Array Bool} {a b:List Nat} {i:Nat} (h:LS M L (a++i::b)):LS M (L.setIfInBounds i true) (a++b):=by
 refine ⟨by simp [h.1],fun k=>?_⟩
 rw [Vq,h.2,TA,TA]
 simp only [Bx]
 by_cases e:i=k
 ·simp [e]
 ·have:(i==k)=false:=by simpa using e
  rw [this]
  cases L.getD k true<;>cases Bx a k<;>cases Bx b k<;>simp [e]
theorem ABE (L:Array Bool):∀ (fl:List Nat),(yR L fl).size=L.size/\∀ k,(yR L fl).getD k true=(L.getD k true||Bx fl k):=by
 intro fl
 unfold yR
 induction fl generalizing L with
 | nil=>exact ⟨rfl,fun k=>by simp [Bx]⟩
 | cons f fl ih =>
  obtain ⟨h1,h2⟩:=ih (L.setIfInBounds f true)
  refine ⟨by simpa using h1,fun k=>?_⟩
  rw [List.foldl_cons,h2,Vq]
  simp only [Bx]
  by_cases e:f=k
  ·simp [e]
  ·have:(f==k)=false:=by simpa using e
   rw [this,if_neg e,Bool.or_false]
def r6:List Bool->Nat
 | []=>0
 | b::r=>(if b=true then 0 else 1)+r6 r
theorem vI:∀ (l:List Bool) (i:Nat),l[i]? = some false->r6 (l.set i true)+1=r6 l
 | [],i,h=>by simp at h
 | b::l,0,h=>by simp at h; subst h; simp [r6]; omega
 | b::l,i+1,h=>by
  have:=vI l i (by simpa using h)
  simp only [List.set_cons_succ,r6]
  omega
theorem cX {M:Array Bool} {i:Nat} (h:M.getD i true=false):r6 (M.setIfInBounds i true).toList+1=r6 M.toList:=by
 rw [Array.toList_setIfInBounds]
 apply vI
 rw [Array.getD_eq_getD_getElem?] at h
 cases hq:M[i]? with
 | none=>rw [hq] at h; cases h
 | some b=>rw [hq] at h; simp at h; subst h; simpa using hq
theorem ABF (n:Nat):r6 (List.replicate n false)=n:=by
 induction n with
 | zero=>rfl
 | succ n ih=>rw [List.replicate_succ]; simp [r6,ih]; omega
def xU (P:Program) (ops:Array Oper) (wb:World) (H:HP) (φ:CG) (st:List AS) (act:Act) (w:World) (f b:Nat):Prop :=
 ∃ o d obj,ops[f]? = some o/\o.dst=some d/\d<act.tmps.size/\ABB P o act obj/\act.tmps.getD d undef=m3 o.op b/\eB H φ st w b obj/\wb.heap.size<=b
theorem xU.put {ops:Array Oper} {wb:World} {H H':HP} {φ φ':CG} {st st':List AS} {act:Act} {w w':World} {f b:Nat} (h:xU P ops wb H φ st act w f b) {oi:Oper} {v:Value}
  (hsel:∀ (j:Nat) (o:Oper) cs b,ops[j]? = some o->o.op≠.select cs b) (hap:∀ o,ops[f]? = some o->oi.apart ops o=true) (hl:∀ obj,eB H φ st w b obj->eB H' φ' st' w' b obj):xU P ops wb H' φ' st' (act.put oi.dst v) w' f b:=by
 obtain ⟨o,d,obj,h1,h2,h3,h4,h5,h6,h7⟩:=h
 obtain ⟨a1,a2,_⟩:=Oper.apart_spec (hap o h1)
 refine ⟨o,d,obj,h1,h2,by rw [IC]; exact h3,fun w2=>?_,?_,hl obj h6,h7⟩
 ·rw [execOp_put o (fun cs b=>hsel f o cs b h1) act oi.dst v a1]
  exact h4 w2
 ·rw [PC (fun e=>a2 d e h2)]
  exact h5
theorem sy {ops:Array Oper} {i:Nat} {js:List Nat} (h:zZ ops i js=true) {j:Nat} (hj:j∈js):∃ a b,ops[i]? = some a/\ops[j]? = some b/\a.apart ops b=true/\b.apart ops a=true:=by
 have:=Bf.1 h j hj
 split at this
 ·rename_i a b ha hb
  simp only [AC] at this
  exact ⟨a,b,ha,hb,this.1,this.2⟩
 ·cases this
theorem Z6 {ops:Array Oper}:∀ {l:List Nat},Vo ops l=true->∀ i∈l,∀ j∈l,i≠j->∃ a b,ops[i]? = some a/\ops[j]? = some b/\a.apart ops b=true
 | [],_,i,hi,_,_,_=>by cases hi
 | x::l,h,i,hi,j,hj,hne=>by
  simp only [Vo,AC] at h
  rcases BI.1 hi with e1 | hi
  ·subst e1
   rcases BI.1 hj with e2 | hj
   ·exact absurd e2.symm hne
   ·obtain ⟨a,b,h1,h2,h3,_⟩:=sy h.1.2 hj
    exact ⟨a,b,h1,h2,h3⟩
  ·rcases BI.1 hj with e2 | hj
   ·rw [e2]
    obtain ⟨a,b,h1,h2,_,h4⟩:=sy h.1.2 hi
    exact ⟨b,a,h2,h1,h4⟩
   ·exact Z6 h.2 i hi j hj hne
theorem gt {s:St} {T:List (Nat×Nat)}:∀ {fl:List (Nat×GB)},gN s T fl=true->∀ f∈fl,f.2.floatOk s=true/\gM s f.2.dsts=true/\IM f.2.dsts T=true
 | [],_,f,hf=>by cases hf
 | g::fl,h,f,hf=>by
  simp only [gN,AC] at h
  rcases BI.1 hf with rfl | hf
  ·exact ⟨h.1.1.1,h.1.1.2,h.1.2⟩
  ·exact gt h.2 f hf
theorem AC4 {n:Nat} {ops:Array Oper} {anc:List (List Nat)} {cal:GM} (hcal:I9 P cal) (hA:wT ops anc=true) (hsel:Region.noSelect ops=true) {ρ:Type} {kn:St->Option ρ} {r:ρ} {N:Act->World->Prop}
  {Hb:HP} {φb:CG} {stb:List AS} {wb:World} {ab:Act}
  (hN:∀ s' act' w' H' φ',kn s'=some r->Ae Hb φb stb wb H' φ' s'.st w'->Gw H' φ' s'.st s'.fr act'.tmps->act'.tmps.size=n->act'.defers=ab.defers->N act' w') :
  ∀ (t:DT) (fuel:Nat) (F S:List Nat) (B:Nat->Nat) (T:List (Nat×Nat)) (TT:nR) (L M:Array Bool) (s:St) (act:Act) (w:World) (H:HP) (φ:CG),o_ P n ops t L F=true->LS M L S->(∀ f∈S,Bx F f=true/\f∈Region.ready .any ops L) ->
   S.Nodup->(∀ f∈S,∀ g∈S,f≠g->B f≠B g)->r6 M.toList<=fuel->r5 ops L->r5 ops M ->
   Ae Hb φb stb wb H φ s.st w->Gw H φ s.st s.fr act.tmps->act.tmps.size=n->act.defers=ab.defers->m9 act w T TT->(∀ f∈S,∀ p∈TT,Bx (anc.getD f []) p.1=false)->(∀ f∈S,xU P ops wb H φ s.st act w f (B f))->dK cal anc kn t T s=some r ->
   eC P ops (fun e a w=>match e with | .normal=>N a w | _=>False) (fun i=>anc.getD i []) fuel TT M act w:=by
 have hsnd:=Region.noSelect_spec hsel
 intro t
 induction t with
 | done =>
  intro fuel F S B T TT L M s act w H φ hb hls hS _ _ hfu _ _ hB hf hn hde _ _ _ hk
  simp only [o_,AC,List.isEmpty_iff] at hb
  have hS0:S=[]:=by
   cases S with
   | nil=>rfl
   | cons f S =>
    have:=(hS f (by simp)).2
    rw [hb.1] at this
    cases this
  subst hS0
  have hM:Region.ready .any ops M=[]:=by
   rw [List.eq_nil_iff_forall_not_mem]
   intro j hj
   obtain ⟨h1,o,h2,h3⟩:=mem_ready.1 hj
   have:j∈Region.ready .any ops L:=mem_ready.2 ⟨by have:=hls.2 j; simp only [Bx,Bool.or_false] at this; rw [<- this]; exact h1,o,h2,fun e he hbi=>by have:=hls.getF e.on; simp only [Bx,Bool.false_and,Bool.or_false] at this; rw [<- this]; exact h3 e he hbi⟩
   rw [hb.1] at this
   cases this
  have hq:=hN s act w H φ hk hB hf hn hde
  cases fuel with
  | zero=>exact ⟨hM,hq⟩
  | succ fuel=>exact ⟨fun _=>hq,fun i hi=>by rw [hM] at hi; cases hi⟩
 | test c a b iha ihb =>
  intro fuel F S B T TT L M s act w H φ hb hls hS hnd hBd hfu hsh hshM hB hf hn hde hp hAn hpf hk
  simp only [o_,AC] at hb
  simp only [dK] at hk
  split at hk
  ·rename_i t ht
   have hfc:∀ t',t=t'->Gw H φ (s.put c (.bool t')).st (s.put c (.bool t')).fr act.tmps:=by
    intro t' e q
    subst e
    simp only [St.put,F7]
    split
    ·rename_i e; subst e; have:=hf c; rw [ht] at this; exact this
    ·exact hf q
   split at hk
   ·rename_i e
    exact iha fuel F S B T TT L M (s.put c (.bool true)) act w H φ hb.1 hls hS hnd hBd hfu hsh hshM hB (hfc true e) hn hde hp hAn hpf hk
   ·rename_i e
    exact ihb fuel F S B T TT L M (s.put c (.bool false)) act w H φ hb.2 hls hS hnd hBd hfu hsh hshM hB (hfc false (by simpa using e)) hn hde hp hAn hpf hk
  ·cases hk
 | fork i ai ri j aj rj ihi ihj =>
  intro fuel F S B T TT L M s act w H φ hb hls hS hnd hBd hfu hsh hshM hB hf hn hde hp hAn hpf hk
  simp only [o_,AC,List.isEmpty_iff] at hb
  obtain ⟨⟨⟨⟨⟨⟨hF,hri⟩,hall⟩,hoi⟩,hoj⟩,hbi⟩,hbj⟩:=hb
  have hS0:S=[]:=by
   cases S with
   | nil=>rfl
   | cons f S =>
    have:=(hS f (by simp)).1
    rw [hF] at this
    cases this
  subst hS0
  simp only [dK] at hk
  obtain ⟨hki,hkj⟩:=j8.1 hk
  have hq:∀ k∈Region.ready .any ops M,k∈Region.ready .any ops L:=fun k hk=>by
   obtain ⟨h1,o,h2,h3⟩:=mem_ready.1 hk
   exact mem_ready.2 ⟨by have:=hls.2 k; simp only [Bx,Bool.or_false] at this; rw [<- this]; exact h1,o,h2,fun e he hbi=>by have:=hls.getF e.on; simp only [Bx,Bool.false_and,Bool.or_false] at this; rw [<- this]; exact h3 e he hbi⟩
  have hqL:∀ k∈Region.ready .any ops L,k∈Region.ready .any ops M:=fun k hk=>by
   obtain ⟨h1,o,h2,h3⟩:=mem_ready.1 hk
   exact mem_ready.2 ⟨by rw [hls.2,h1]; rfl,o,h2,fun e he hbi=>by rw [hls.getF,h3 e he hbi]; rfl⟩
  obtain ⟨i0,hi0⟩:∃ k,k∈Region.ready .any ops L:=⟨i,by simpa using hri⟩
  obtain ⟨fuel,rfl⟩:∃ k,fuel=k+1:=⟨fuel-1,by
   have:=cX (mem_ready.1 (hqL i0 hi0)).1
   omega⟩
  refine ⟨fun h=>(by have:=hqL i0 hi0; rw [h] at this; cases this),fun k hkM=>?_⟩
  have hcnt:=cX (mem_ready.1 hkM).1
  have hkL:=hq k hkM
  have hkk:=Bf.1 hall k hkL
  simp only [Dy,beq_iff_eq] at hkk
  rcases hkk with e | e
  ·subst e
   split at hoi
   case h_2=>cases hoi
   rename_i o hoi
   simp only [AC,decide_eq_true_eq] at hoi
   obtain ⟨⟨hg,hob⟩,hds⟩:=hoi
   split at hki
   case isFalse=>cases hki
   rename_i hc
   simp only [AC] at hc
   obtain ⟨hc2,hc3⟩:=hc
   have hfr:IM o.dst.toList T=true:=by rw [hds]; exact hc2
   unfold wpOp
   simp only [hoi,Xf (g:=none) hf rfl hg,if_true]
   refine .inl (pY hcal hob ρ (fun s'=>dK cal anc kn ri (Hg (anc.getD k []) T) s') r s act w H φ _ _ hB.sr hf hn hki fun s' v w' H' φ' h1 h2 h3 h4=>?_)
   have hpend:m9 (act.put o.dst v) w' (Hg (anc.getD k []) T) (VM (anc.getD k []) TT):=by
    intro p hp'
    obtain ⟨hp1,hp2⟩:=G7 p hp'
    obtain ⟨q1,q2⟩:=hp p hp1
    rcases q2 with q2 | ⟨x,hx,w0,e⟩
    ·exact ⟨q2 w',.inl q2⟩
    ·have hxf:=Ra hfr _ hx
     have hgd:(act.put o.dst v).tmps.getD x undef=act.tmps.getD x undef:=PC (fun e=>hxf (by rw [e]; simp))
     refine ⟨?_,.inr ⟨x,Ld hx hp2,w0,by rw [hgd]; exact e⟩⟩
     have hun:=cW hB.sr h2 h4.mem (hf x) (Vp hc3 _ hx hp2)
     rw [e] at q1 ⊢
     intro b hb'
     rw [hun b hb']
     exact q1 b hb'
   exact ⟨fun p hp'=>(hpend p hp').1,ihi fuel [] [] B _ _ (L.setIfInBounds k true) _ s' _ w' H' φ' hbi (hls.set k) (fun f hf'=>by cases hf') List.nodup_nil (fun f hf'=>by cases hf') (by omega) (hsh.set hkL) (hshM.set hkM) (hB.trans h2) h3 (IC.trans hn) (Gs.trans hde) hpend (fun f hf'=>by cases hf') (fun f hf'=>by cases hf') h1⟩
  ·subst e
   split at hoj
   case h_2=>cases hoj
   rename_i o hoi
   simp only [AC,decide_eq_true_eq] at hoj
   obtain ⟨⟨hg,hob⟩,hds⟩:=hoj
   split at hkj
   case isFalse=>cases hkj
   rename_i hc
   simp only [AC] at hc
   obtain ⟨hc2,hc3⟩:=hc
   have hfr:IM o.dst.toList T=true:=by rw [hds]; exact hc2
   unfold wpOp
   simp only [hoi,Xf (g:=none) hf rfl hg,if_true]
   refine .inl (pY hcal hob ρ (fun s'=>dK cal anc kn rj (Hg (anc.getD k []) T) s') r s act w H φ _ _ hB.sr hf hn hkj fun s' v w' H' φ' h1 h2 h3 h4=>?_)
   have hpend:m9 (act.put o.dst v) w' (Hg (anc.getD k []) T) (VM (anc.getD k []) TT):=by
    intro p hp'
    obtain ⟨hp1,hp2⟩:=G7 p hp'
    obtain ⟨q1,q2⟩:=hp p hp1
    rcases q2 with q2 | ⟨x,hx,w0,e⟩
    ·exact ⟨q2 w',.inl q2⟩
    ·have hxf:=Ra hfr _ hx
     have hgd:(act.put o.dst v).tmps.getD x undef=act.tmps.getD x undef:=PC (fun e=>hxf (by rw [e]; simp))
     refine ⟨?_,.inr ⟨x,Ld hx hp2,w0,by rw [hgd]; exact e⟩⟩
     have hun:=cW hB.sr h2 h4.mem (hf x) (Vp hc3 _ hx hp2)
     rw [e] at q1 ⊢
     intro b hb'
     rw [hun b hb']
     exact q1 b hb'
   exact ⟨fun p hp'=>(hpend p hp').1,ihj fuel [] [] B _ _ (L.setIfInBounds k true) _ s' _ w' H' φ' hbj (hls.set k) (fun f hf'=>by cases hf') List.nodup_nil (fun f hf'=>by cases hf') (by omega) (hsh.set hkL) (hshM.set hkM) (hB.trans h2) h3 (IC.trans hn) (Gs.trans hde) hpend (fun f hf'=>by cases hf') (fun f hf'=>by cases hf') h1⟩
 | skip i g d rt ih =>
  intro fuel F S B T TT L M s act w H φ hb hls hS hnd hBd hfu hsh hshM hB hf hn hde hp hAn hpf hk
  simp only [o_,AC,EL] at hb
  obtain ⟨⟨⟨⟨hr,hfree⟩,hiF⟩,ho⟩,hb⟩:=hb
  split at ho
  case h_2=>cases ho
  rename_i o hoi
  simp only [AC,decide_eq_true_eq] at ho
  obtain ⟨⟨hg,rfl⟩,hdn⟩:=ho
  simp only [dK] at hk
  split at hk
  case isFalse=>cases hk
  rename_i hc
  simp only [AC] at hc
  have hri:i∈Region.ready .any ops L:=by simpa using hr
  have hiS:i∉S:=fun h=>by have:=(hS i h).1; rw [hiF] at this; cases this
  have hriM:i∈Region.ready .any ops M:=by
   obtain ⟨h1,o',h2,h3⟩:=mem_ready.1 hri
   exact mem_ready.2 ⟨by rw [hls.2,h1,Bu.2 hiS]; rfl,o',h2,fun e he hbi=>by rw [hls.getF,h3 e he hbi]; rfl⟩
  have hfreeL:=Region.free_spec hoi hfree
  have hfreeM:∀ j oj,ops[j]? = some oj->j≠i->M.getD j true=false->(∀ e∈oj.after,Region.binds .any e=true->e.on≠i)->o.apart ops oj=true:=fun j oj h1 h2 h3 h4 =>
   hfreeL j oj h1 h2 (by rw [hls.2] at h3; simp only [Bool.or_eq_false_iff] at h3; exact h3.1) h4
  have hcnt:=cX (mem_ready.1 hriM).1
  obtain ⟨fuel,rfl⟩:∃ k,fuel=k+1:=⟨fuel-1,by omega⟩
  refine gq hA (C:=fun _=>True) hoi hsnd (fun c a w h=>h) fuel TT M act w hshM hfreeM hriM (.inr ⟨vH hf hc.1 hg,rfl⟩) trivial (fun p hp'=>(hp p hp').1) ?_
  have hf2:Gw H φ s.st (uv o.dst .void s.fr) (act.put o.dst undef).tmps:=by
   cases hdst:o.dst with
   | none=>exact hf
   | some d =>
    rw [hdst] at hdn
    simp only [decide_eq_true_eq] at hdn
    exact hf.put (a:=.void) (v:=undef) (by omega) rfl
  have hAn':∀ (C:World->Prop),∀ f∈S,∀ p∈(i,C)::TT,Bx (anc.getD f []) p.1=false:=fun C f hf' p hp'=>by
   rcases BI.1 hp' with rfl | hp'
   ·rw [Bu]
    intro hm
    have:=Rg hA hsh f (ES (hS f hf').2).1 (ES (hS f hf').2).2 _ hm
    rw [Fi hri] at this
    cases this
   ·exact hAn f hf' p hp'
  refine ih fuel F S B T _ (L.setIfInBounds i true) _ ⟨uv o.dst .void s.fr,s.st⟩ _ w H φ hb (hls.set i) (fun f hf'=>⟨(hS f hf').1,ready_mono (hS f hf').2 (fun e=>hiS (e▸hf'))⟩) hnd hBd (by omega) (hsh.set hri) (hshM.set hriM) hB hf2 (IC.trans hn) (Gs.trans hde) ?_ (hAn' _) (fun f hf'=>?_) hk
  ·intro p hp'
   rcases BI.1 hp' with rfl | hp'
   ·exact ⟨trivial,.inl fun _=>trivial⟩
   ·exact (hp.put hc.2) p hp'
  ·refine (hpf f hf').put hsnd (fun of hof=>hfreeL f of hof (fun e=>hiS (e▸hf')) (mem_ready.1 (hS f hf').2).1 (fun e he hbi heq=>?_)) (fun _ h=>h)
   obtain ⟨_,o',h2,h3⟩:=mem_ready.1 (hS f hf').2
   rw [hof] at h2
   cases h2
   have:=h3 e he hbi
   rw [heq,Fi hri] at this
   cases this
 | take i g ao rt ih =>
  intro fuel F S B T TT L M s act w H φ hb hls hS hnd hBd hfu hsh hshM hB hf hn hde hp hAn hpf hk
  simp only [o_,AC,EL] at hb
  obtain ⟨⟨⟨⟨⟨hr,hfree⟩,hiF⟩,hval⟩,ho⟩,hb⟩:=hb
  split at ho
  case h_2=>cases ho
  rename_i o hoi
  simp only [AC,decide_eq_true_eq] at ho
  obtain ⟨⟨hg,hob⟩,hds⟩:=ho
  simp only [dK] at hk
  split at hk
  case isFalse=>cases hk
  rename_i hc
  simp only [AC] at hc
  obtain ⟨hc,hns⟩:=hc
  have hri:i∈Region.ready .any ops L:=by simpa using hr
  have hiS:i∉S:=fun h=>by have:=(hS i h).1; rw [hiF] at this; cases this
  have hriM:i∈Region.ready .any ops M:=by
   obtain ⟨h1,o',h2,h3⟩:=mem_ready.1 hri
   exact mem_ready.2 ⟨by rw [hls.2,h1,Bu.2 hiS]; rfl,o',h2,fun e he hbi=>by rw [hls.getF,h3 e he hbi]; rfl⟩
  have hfreeL:=Region.free_spec hoi hfree
  have hfreeM:∀ j oj,ops[j]? = some oj->j≠i->M.getD j true=false->(∀ e∈oj.after,Region.binds .any e=true->e.on≠i)->o.apart ops oj=true:=fun j oj h1 h2 h3 h4 =>
   hfreeL j oj h1 h2 (by rw [hls.2] at h3; simp only [Bool.or_eq_false_iff] at h3; exact h3.1) h4
  have hcnt:=cX (mem_ready.1 hriM).1
  obtain ⟨fuel,rfl⟩:∃ k,fuel=k+1:=⟨fuel-1,by omega⟩
  have info:∃ s' v H' φ',dK cal anc kn rt (gL i ao T) s'=some r/\Ae H φ s.st w H' φ' s'.st w/\Gw H' φ' s'.st s'.fr (act.put o.dst v).tmps/\∀ w2,D7 o act w w2->(execOp act.eval o).run P w2=.ok (.value v) w2:=by
   refine ABD (P:=P) (o:=o) (a:=act) (w:=w) (pY hcal hob ρ (fun s'=>dK cal anc kn rt (gL i ao T) s') r s act w H φ _ _ hB.sr hf hn hk fun s' v w' H' φ' h1 h2 h3 h4=>?_)
   obtain ⟨e,h5⟩:=h4.val hval
   subst e
   exact ⟨s',v,H',φ',h1,h2,h3,h5⟩
  obtain ⟨s',v,H',φ',hk',hst,hf',hrun⟩:=info
  refine gq hA (C:=D7 o act w) hoi hsnd (fun c a w h=>h) fuel TT M act w hshM hfreeM hriM (.inl ⟨Xf hf hc.1 hg,hrun⟩) (D7.refl o act w) (fun p hp'=>(hp p hp').1) ?_
  have hfr:IM o.dst.toList T=true:=by rw [hds]; exact hc.2
  have hAn':∀ (C:World->Prop),∀ f∈S,∀ p∈(i,C)::TT,Bx (anc.getD f []) p.1=false:=fun C f hf' p hp'=>by
   rcases BI.1 hp' with rfl | hp'
   ·rw [Bu]
    intro hm
    have:=Rg hA hsh f (ES (hS f hf').2).1 (ES (hS f hf').2).2 _ hm
    rw [Fi hri] at this
    cases this
   ·exact hAn f hf' p hp'
  refine ih fuel F S B _ _ (L.setIfInBounds i true) _ s' _ w H' φ' hb (hls.set i) (fun f hf'=>⟨(hS f hf').1,ready_mono (hS f hf').2 (fun e=>hiS (e▸hf'))⟩) hnd hBd (by omega) (hsh.set hri) (hshM.set hriM) (hB.trans hst) hf' (IC.trans hn) (Gs.trans hde) ?_ (hAn' _) (fun f hfS=>?_) hk'
  ·intro p hp'
   rcases BI.1 hp' with rfl | hp'
   ·refine ⟨D7.refl o act w,?_⟩
    by_cases hload:∃ d x m,ao=.load d (.t x) m
    ·obtain ⟨d,x,m,rfl⟩:=hload
     simp only [o9] at hob
     obtain ⟨t,ht⟩:=za hob
     right
     have hxd:o.dst≠some x:=by
      have hd1:o.dst=some d:=by
       simp only [pN,AC] at hob
       exact (Bo hob.1).1
      rw [hd1]
      intro e
      cases e
      simp [GB.notSelf] at hns
     refine ⟨x,by simp [gL],w,?_⟩
     funext w2
     simp only [D7,ht,Act.eval]
     rw [PC hxd]
    ·left
     intro w2
     unfold D7
     split
     ·rename_i t y hop
      exfalso
      apply hload
      exact yS hob hop hval hk
     ·trivial
   ·obtain ⟨h1,h2⟩:=(hp.put hfr) p hp'
    refine ⟨h1,?_⟩
    rcases h2 with h2 | ⟨x,hx,w0,e⟩
    ·exact .inl h2
    ·refine .inr ⟨x,?_,w0,e⟩
     unfold gL
     split
     ·exact List.mem_cons_of_mem _ hx
     ·exact hx
  ·refine (hpf f hfS).put hsnd (fun of hof=>hfreeL f of hof (fun e=>hiS (e▸hfS)) (mem_ready.1 (hS f hfS).2).1 (fun e he hbi heq=>?_)) (fun _ h=>h.step hst)
   obtain ⟨_,o',h2,h3⟩:=mem_ready.1 (hS f hfS).2
   rw [hof] at h2
   cases h2
   have:=h3 e he hbi
   rw [heq,Fi hri] at this
   cases this
 | only i g ao e fl rt ih =>
  intro fuel
  induction fuel using Nat.strongRecOn with
  | _ fuel ihf =>
  intro F S B T TT L M s act w H φ hb hls hS hnd hBd hfu hsh hshM hB hf hn hde hp hAn hpf hk
  have hb0:=hb
  have hk0:=hk
  simp only [o_,AC] at hb
  obtain ⟨⟨⟨⟨⟨⟨⟨hr,hrF⟩,hFs⟩,hFi⟩,hfl⟩,hap⟩,ho⟩,hb⟩:=hb
  split at ho
  case h_2=>cases ho
  rename_i o hoi
  simp only [AC,decide_eq_true_eq] at ho
  obtain ⟨⟨hg,hob⟩,hds⟩:=ho
  simp only [dK] at hk
  split at hk
  case isFalse=>cases hk
  rename_i hc
  simp only [AC] at hc
  obtain ⟨⟨⟨⟨⟨hc1,hc2⟩,hc3⟩,hc4⟩,hc6⟩,hc5⟩:=hc
  have hri:i∈Region.ready .any ops L:=by simpa using hr
  have hfr:IM o.dst.toList T=true:=by rw [hds]; exact hc2
  have hanc:∀ k∈anc.getD i [],k≠i:=fun k hk e=>by
   have:=Rg hA hsh i (ES hri).1 (ES hri).2 k hk
   rw [e,Fi hri] at this
   cases this
  have hFsub:∀ f∈S,f=i\/f∈fl.map (·.1):=fun f hfS=>by
   have h1:=(hS f hfS).1
   have h2:=Bf.1 hFs f (D8.1 h1)
   simp only [Dy,beq_iff_eq] at h2
   exact h2.imp id D8.1
  by_cases hiS:i∈S
  ·-- it came up before: now the boxes are told
   obtain ⟨oa,d,obj,q1,q2,q3,q4,q5,q6,q7⟩:=hpf i hiS
   rw [hoi] at q1
   cases q1
   have hfi:ao.isFloat=true:=by
    have h1:=(hS i hiS).1
    rw [h1] at hFi
    simp only [Bool.not_true,Bool.false_or,AC] at hFi
    exact hFi.2
   have hfk:ao.floatOk s=true:=by
    have h1:=(hS i hiS).1
    rw [h1] at hFi
    simp only [Bool.not_true,Bool.false_or,AC] at hFi
    rw [hFi.1] at hc5
    simpa using hc5
   obtain ⟨s',H',φ',hk',hst',hf',hoth⟩:=zY hob hfi hfk hB hf hk q4 (fun d' hd'=>by rw [q2] at hd'; cases hd'; exact q5) q6 q7
   obtain ⟨S1,S2,rfl⟩:=List.append_of_mem hiS
   have hnd2:i∉S1++S2/\(S1++S2).Nodup:=by
    rw [List.nodup_append] at hnd
    obtain ⟨n1,n2,n3⟩:=hnd
    rw [List.nodup_cons] at n2
    refine ⟨fun h=>?_,?_⟩
    ·rcases CZ.1 h with h | h
     ·exact n3 i h i (by simp) rfl
     ·exact n2.1 h
    ·rw [List.nodup_append]
     exact ⟨n1,n2.2,fun a ha b hb=>n3 a ha b (by simp [hb])⟩
   have hsub:∀ f∈S1++S2,f∈S1++i::S2:=fun f h=>by
    rcases CZ.1 h with h | h
    ·simp [h]
    ·simp [h]
   refine ih fuel (fl.map (·.1)) (S1++S2) B _ _ (L.setIfInBounds i true) M s' act w H' φ' hb hls.adopt (fun f hf'=>?_) hnd2.2 (fun f hf' g hg'=>hBd f (hsub f hf') g (hsub g hg')) hfu (hsh.set hri) hshM hst' hf' hn hde ?_ (fun f hf'=>hAn f (hsub f hf')) (fun f hf'=>?_) hk'
   ·have hne:f≠i:=fun e=>hnd2.1 (e▸hf')
    refine ⟨D8.2 ((hFsub f (hsub f hf')).resolve_left hne),ready_mono (hS f (hsub f hf')).2 hne⟩
   ·intro p hp'
    obtain ⟨h1,h2⟩:=hp p hp'
    refine ⟨h1,?_⟩
    rcases h2 with h2 | ⟨x,hx,w0,e⟩
    ·exact .inl h2
    ·exact .inr ⟨x,Ld hx (hAn i hiS p hp'),w0,e⟩
   ·obtain ⟨o2,d2,obj2,p1,p2,p3,p4,p5,p6,p7⟩:=hpf f (hsub f hf')
    have hne:f≠i:=fun e=>hnd2.1 (e▸hf')
    exact ⟨o2,d2,obj2,p1,p2,p3,p4,p5,hoth _ _ (hBd f (hsub f hf') i hiS hne) p6,p7⟩
  ·have hriM:i∈Region.ready .any ops M:=by
    obtain ⟨h1,o',h2,h3⟩:=mem_ready.1 hri
    exact mem_ready.2 ⟨by rw [hls.2,h1,Bu.2 hiS]; rfl,o',h2,fun e he hbi=>by rw [hls.getF,h3 e he hbi]; rfl⟩
   have hcnt:=cX (mem_ready.1 hriM).1
   obtain ⟨fuel,rfl⟩:∃ k,fuel=k+1:=⟨fuel-1,by omega⟩
   have hSfl:∀ f∈S,f∈fl.map (·.1):=fun f hf'=>(hFsub f hf').resolve_left (fun e=>hiS (e▸hf'))
   refine ⟨fun h=>(by rw [h] at hriM; cases hriM),fun j hj=>?_⟩
   have hcj:=cX (mem_ready.1 hj).1
   by_cases hji:j=i
   ·subst hji
    unfold wpOp
    simp only [hoi,Xf hf hc1 hg,if_true]
    refine .inl (pY hcal hob ρ (fun s'=>dK cal anc kn rt (Hg (anc.getD j []) T) s') r s act w H φ _ _ hB.sr hf hn hk fun s' v w' H' φ' h1 h2 h3 h4=>?_)
    have hpend:m9 (act.put o.dst v) w' (Hg (anc.getD j []) T) (VM (anc.getD j []) TT):=by
     intro p hp'
     obtain ⟨hp1,hp2⟩:=G7 p hp'
     obtain ⟨q1,q2⟩:=hp p hp1
     rcases q2 with q2 | ⟨x,hx,w0,e⟩
     ·exact ⟨q2 w',.inl q2⟩
     ·have hxf:=Ra hfr _ hx
      have hgd:(act.put o.dst v).tmps.getD x undef=act.tmps.getD x undef:=PC (fun e=>hxf (by rw [e]; simp))
      refine ⟨?_,.inr ⟨x,Ld hx hp2,w0,by rw [hgd]; exact e⟩⟩
      have hun:=cW hB.sr h2 h4.mem (hf x) (Vp hc3 _ hx hp2)
      rw [e] at q1 ⊢
      intro b hb'
      rw [hun b hb']
      exact q1 b hb'
    refine ⟨fun p hp'=>(hpend p hp').1,ih fuel (fl.map (·.1)) S B _ _ (L.setIfInBounds j true) _ s' _ w' H' φ' hb (hls.set j) (fun f hf'=>⟨D8.2 (hSfl f hf'),ready_mono (hS f hf').2 (fun e=>hiS (e▸hf'))⟩) hnd hBd (by omega) (hsh.set hri) (hshM.set hj) (hB.trans h2) h3 (IC.trans hn) (Gs.trans hde) hpend (fun f hf' p hp'=>hAn f hf' p (G7 p hp').1) (fun f hf'=>?_) h1⟩
    obtain ⟨a,b,k1,k2,k3⟩:=Z6 hap j (by simp) f (List.mem_cons_of_mem _ (hSfl f hf')) (fun e=>hiS (e▸hf'))
    rw [hoi] at k1
    cases k1
    exact (hpf f hf').put hsnd (fun of hof=>by rw [k2] at hof; cases hof; exact k3) (fun _ h=>h.step h2)
   ·-- one that comes up ahead of its turn
    have hjS:j∉S:=fun h=>by
     have h1:=(mem_ready.1 hj).1
     rw [hls.2,D8.2 h] at h1
     simp at h1
    have hjfl:j∈fl.map (·.1):=by
     rcases Classical.em (j∈fl.map (·.1)) with h | h
     ·exact h
     ·exfalso
      obtain ⟨h1,o',h2,h3⟩:=mem_ready.1 hj
      have hLF:=ABE L (fl.map (·.1))
      have hrd:j∈Region.ready .any ops (yR L (fl.map (·.1))):=by
       refine mem_ready.2 ⟨?_,o',h2,fun e he hbi=>?_⟩
       ·rw [hLF.2,Bu.2 h]
        rw [hls.2] at h1
        simp only [Bool.or_eq_false_iff] at h1
        rw [h1.1]
        rfl
       ·have:=h3 e he hbi
        rw [eD] at this ⊢
        simp only [AC,decide_eq_true_eq] at this ⊢
        refine ⟨?_,by rw [hLF.1,<- hls.1]; exact this.2⟩
        rw [hLF.2]
        have h4:=this.1
        rw [hls.2] at h4
        simp only [Dy] at h4 ⊢
        exact h4.imp id fun h5=>D8.2 (hSfl _ (D8.1 h5))
      have:=Bf.1 hrF j hrd
      simp only [beq_iff_eq] at this
      exact hji this
    obtain ⟨⟨j',aj⟩,hjm,hje⟩:=List.mem_map.1 hjfl
    simp only at hje
    subst hje
    have hfb:=Bf.1 hfl _ hjm
    obtain ⟨k1,k2,k3⟩:=gt hc4 _ hjm
    have hpk:=Bf.1 hc6 _ hjm
    simp only [wU,AC] at hfb
    obtain ⟨⟨hjr,hjfl2⟩,hfb⟩:=hfb
    split at hfb
    case h_2=>cases hfb
    rename_i oj hoj
    simp only [AC,decide_eq_true_eq] at hfb
    obtain ⟨⟨⟨hjob,hjds⟩,hjg⟩,hjd⟩:=hfb
    split at hjd
    case h_2=>cases hjd
    rename_i d hdd
    simp only [AC,EL,decide_eq_true_eq] at hjd
    have hjL:j'∈Region.ready .any ops L:=by simpa using hjr
    obtain ⟨obj,hborn⟩:=ABC hjob hjfl2 k1 hB.sr hf
    have hst:Ae H φ s.st w H φ s.st (w.alloc obj):=Ae.grow hB.sr (World.grownBy_alloc w obj none)
    have hfrj:IM oj.dst.toList T=true:=by rw [hjds]; exact k3
    have hund:F7 s.fr d=.undef:=by
     rw [<- hjds,hdd] at k2
     simp only [Option.toList_some,gM,Bool.and_true] at k2
     split at k2
     ·rename_i h; exact h
     ·cases k2
    have hf2:Gw H φ s.st s.fr (act.put oj.dst (m3 oj.op w.heap.size)).tmps:=by
     intro t
     by_cases ht:t=d
     ·subst ht
      rw [hund]
      trivial
     ·rw [PC (fun e=>ht (by rw [hdd] at e; cases e; rfl))]
      exact hf t
    have hpend:m9 (act.put oj.dst (m3 oj.op w.heap.size)) (w.alloc obj) T (VM (anc.getD j' []) TT):=by
     intro p hp'
     obtain ⟨hp1,hp2⟩:=G7 p hp'
     obtain ⟨q1,q2⟩:=hp p hp1
     rcases q2 with q2 | ⟨x,hx,w0,e⟩
     ·exact ⟨q2 _,.inl q2⟩
     ·have hxf:=Ra hfrj _ hx
      have hgd:(act.put oj.dst (m3 oj.op w.heap.size)).tmps.getD x undef=act.tmps.getD x undef:=PC (fun e=>hxf (by rw [e]; simp))
      refine ⟨?_,.inr ⟨x,hx,w0,by rw [hgd]; exact e⟩⟩
      have hun:=cW hB.sr hst (rp.grown (W:=[]) hB.sr (World.grownBy_alloc w obj none)) (hf x) (Vp hpk _ hx hp2)
      rw [e] at q1 ⊢
      intro b hb'
      rw [hun b hb']
      exact q1 b hb'
    have hiff:∀ f∈S,f≠j':=fun f hf' e=>hjS (e▸hf')
    unfold wpOp
    simp only [hoj,Rf (o:=oj) (Option.isNone_iff_eq_none.1 hjg) trivial,if_true]
    refine .inl (gU (hborn w) ⟨fun p hp'=>(hpend p hp').1,?_⟩)
    have hbF:o_ P n ops (.only i g ao e fl rt) L (fl.map (·.1))=true:=by
     have hni:Bx (fl.map (·.1)) i=false:=by
      have:=hap
      simp only [Vo,AC,EL] at this
      exact this.1.1
     simp only [o_,AC] at hb0 ⊢
     obtain ⟨⟨⟨⟨⟨⟨⟨z1,z2⟩,_⟩,_⟩,z5⟩,z6⟩,z7⟩,z8⟩:=hb0
     exact ⟨⟨⟨⟨⟨⟨⟨z1,z2⟩,Bf.2 fun f hf'=>by simp [D8.2 hf']⟩,by rw [hni]; rfl⟩,z5⟩,z6⟩,z7⟩,z8⟩
    refine ihf fuel (by omega) (fl.map (·.1)) (j'::S) (fun f=>if f=j' then w.heap.size else B f) T _ L _ s _ (w.alloc obj) H φ hbF (hls.early j') ?_ (List.nodup_cons.2 ⟨hjS,hnd⟩) ?_ (by omega) hsh (hshM.set hj) (hB.trans hst) hf2 (IC.trans hn) (Gs.trans hde) hpend ?_ ?_ hk0
    ·intro f hf'
     rcases BI.1 hf' with rfl | hf'
     ·exact ⟨D8.2 hjfl,hjL⟩
     ·exact ⟨D8.2 (hSfl f hf'),(hS f hf').2⟩
    ·have hlt:∀ f∈S,B f<w.heap.size:=fun f hf'=>by
      obtain ⟨_,_,_,_,_,_,_,_,h6,_⟩:=hpf f hf'
      exact h6.lt
     intro f hf' g hg' hne
     rcases BI.1 hf' with e1 | hf'
     ·rcases BI.1 hg' with e2 | hg'
      ·exact absurd (e1.trans e2.symm) hne
      ·rw [if_pos e1,if_neg (hiff g hg')]
       have:=hlt g hg'
       omega
     ·rcases BI.1 hg' with e2 | hg'
      ·rw [if_pos e2,if_neg (hiff f hf')]
       have:=hlt f hf'
       omega
      ·rw [if_neg (hiff f hf'),if_neg (hiff g hg')]
       exact hBd f hf' g hg' hne
    ·intro f hf' p hp'
     rcases BI.1 hf' with rfl | hf'
     ·exact (G7 p hp').2
     ·exact hAn f hf' p (G7 p hp').1
    ·intro f hf'
     rcases BI.1 hf' with e1 | hf'
     ·subst e1
      rw [if_pos rfl]
      refine ⟨oj,d,obj,hoj,hdd,by rw [IC,hn]; exact hjd.2,fun w2=>?_,?_,eB.alloc hB.sr obj,hB.size⟩
      ·rw [execOp_put oj (fun cs b=>hsnd f oj cs b hoj) act oj.dst _ (ops:=ops) (fun d' hd'=>by
        rw [hdd] at hd'
        cases hd'
        intro hm
        have:=hjd.1
        rw [List.contains_eq_mem,decide_eq_true hm] at this
        cases this)]
       exact hborn w2
      ·rw [Vj hdd,Array.getD_eq_getD_getElem?]
       simp [hn,hjd.2]
     ·rw [if_neg (hiff f hf')]
      obtain ⟨a,b,q1,q2,q3⟩:=Z6 hap j' (List.mem_cons_of_mem _ hjfl) f (List.mem_cons_of_mem _ (hSfl f hf')) (fun e=>hiff f hf' e.symm)
      rw [hoj] at q1
      cases q1
      exact (hpf f hf').put hsnd (fun of hof=>by rw [q2] at hof; cases hof; exact q3) (fun _ h=>h.step hst)
theorem ABG {n:Nat} {id:Nat} {ops:Array Oper} {anc:List (List Nat)} {t:DT} {cal:GM} (hcal:I9 P cal) (h:xT P n ops anc t=true) {ρ:Type} {kn:St->Option ρ} {r:ρ} {s:St} {act:Act} {w:World} {H:HP} {φ:CG} {Q:Exit->Act->World->Prop}
  (hs:SR H φ s.st w) (hf:Gw H φ s.st s.fr act.tmps) (hn:act.tmps.size=n) (hk:dK cal anc kn t [] s=some r)
  (hN:∀ s' act' w' H' φ',kn s'=some r->Ae H φ s.st w H' φ' s'.st w'->Gw H' φ' s'.st s'.fr act'.tmps->act'.tmps.size=n->act'.defers=act.defers->Q .normal act' w'):(Code.region id ops true).wp P Q act w:=by
 simp only [xT,AC] at h
 obtain ⟨⟨⟨hm,hsel⟩,hA⟩,hb⟩:=h
 have hst:Ae H φ s.st w H φ s.st { w with drawn:=w.drawn+1 }:=Ae.grow hs ⟨rfl,rfl,rfl,Nat.le_refl _,fun _ _ _=>rfl⟩
 refine wp_mono (wp_region_any hm (Q:=fun e a w=>match e with | .normal=>Q .normal a w | _=>False) (pd (anc:=fun i=>anc.getD i []) ops.size [] _ act _ ?_)) fun e a w h=>by cases e<;>first | exact h | exact h.elim
 have hsh:r5 ops (Array.replicate ops.size false):=by
  intro k o hk' _ _ _ _
  simp [Array.getElem?_replicate] at hk'
  split at hk'<;>simp at hk'
 exact AC4 (ab:=act) (N:=fun a w=>Q .normal a w) hcal hA hsel (fun s' act' w' H' φ' h1 h2 h3 h4 h5=>hN s' act' w' H' φ' h1 h2 h3 h4 h5) t ops.size [] [] (fun _=>0) [] [] (Array.replicate ops.size false) _ s act _ H φ hb (LS.refl _)
  (fun f hf=>by cases hf) List.nodup_nil (fun f hf=>by cases hf) (by simp [ABF]) hsh hsh hst hf hn rfl (fun p hp=>by cases hp) (fun f hf=>by cases hf) (fun f hf=>by cases hf) hk
def X9:List Nat->Nat
 | []=>0
 | i::r=>Nat.lor (Nat.shiftLeft 1 i) (X9 r)
def zb (ops:Array Oper):List Nat:=ops.toList.map fun o=>X9 ((o.after.filter fun e=>Region.binds .any e).toList.map (·.on))
def ACQ (m i:Nat):Bool:=Nat.beq (Nat.land (Nat.shiftRight m i) 1) 1
def P9 (pm:List Nat) (m i:Nat):Bool :=
 match pm[i]? with
 | some p=>!ACQ m i&&Nat.beq (Nat.land p m) p
 | none=>false
def xV (ops:Array Oper) (anc:List (List Nat)) (i:Nat):Bool :=
 match ops[i]? with
 | none=>false
 | some oi=>(List.range ops.size).all fun j=>j==i||Bx (anc.getD i []) j||match ops[j]? with
   | some oj=>oj.after.any (fun e=>Region.binds .any e&&e.on==i)||oi.apart ops oj
   | none=>true
def wV (P:Program) (n:Nat) (ops:Array Oper) (pm:List Nat) (m:Nat) (f:Nat×GB):Bool :=
 P9 pm m f.1&&f.2.isFloat&&(match ops[f.1]? with
  | some o=>o9 P n o f.2&&decide (o.dst.toList=f.2.dsts)&&o.guard.isNone&&(match o.dst with
   | some d=>!(o.looksAt ops).contains d&&decide (d<n)
   | none=>false)
  | none=>false)
def wW (P:Program) (n:Nat) (ops:Array Oper) (anc:List (List Nat)) (pm:List Nat):DT->Array Bool->Nat->List Nat->Bool
 | .done,_,m,F=>(List.range ops.size).all (fun i=>!P9 pm m i)&&F.isEmpty
 | .take i g ao r,L,m,F=>P9 pm m i&&(xV ops anc i||Region.free .any ops L i)&&!Bx F i&&ao.isVal&&(match ops[i]? with
   | some o=>gB ops o g&&o9 P n o ao&&decide (o.dst.toList=ao.dsts)
   | none=>false)&&wW P n ops anc pm r (L.setIfInBounds i true) (Nat.lor m (Nat.shiftLeft 1 i)) F
 | .skip i g d r,L,m,F=>P9 pm m i&&(xV ops anc i||Region.free .any ops L i)&&!Bx F i&&(match ops[i]? with
   | some o=>gB ops o (some g)&&decide (o.dst=d)&&(match d with | some d=>decide (d<n) | none=>true)
   | none=>false)&&wW P n ops anc pm r (L.setIfInBounds i true) (Nat.lor m (Nat.shiftLeft 1 i)) F
 | .only i g ao e fl r,L,m,F=>P9 pm m i&&(List.range ops.size).all (fun k=>k==i||!P9 pm (Nat.lor m (X9 (fl.map (·.1)))) k)&&F.all (fun f=>f==i||Bx (fl.map (·.1)) f)&&(!Bx F i||(e&&ao.isFloat))
   && fl.all (wV P n ops pm m)&&Vo ops (i::fl.map (·.1))&&(match ops[i]? with
   | some o=>gB ops o g&&o9 P n o ao&&decide (o.dst.toList=ao.dsts)
   | none=>false)&&wW P n ops anc pm r (L.setIfInBounds i true) (Nat.lor m (Nat.shiftLeft 1 i)) (fl.map (·.1))
 | .test _ a b,L,m,F=>wW P n ops anc pm a L m F&&wW P n ops anc pm b L m F
 | .fork i ai ri j aj rj,L,m,F=>F.isEmpty&&(P9 pm m i&&P9 pm m j)&&(List.range ops.size).all (fun k=>(k==i||k==j)||!P9 pm m k)
   && (match ops[i]? with
   | some o=>gB ops o none&&o9 P n o ai&&decide (o.dst.toList=ai.dsts)
   | none=>false)&&(match ops[j]? with
   | some o=>gB ops o none&&o9 P n o aj&&decide (o.dst.toList=aj.dsts)
   | none=>false)&&wW P n ops anc pm ri (L.setIfInBounds i true) (Nat.lor m (Nat.shiftLeft 1 i)) []&&wW P n ops anc pm rj (L.setIfInBounds j true) (Nat.lor m (Nat.shiftLeft 1 j)) []
def zc (P:Program) (n:Nat) (ops:Array Oper) (anc:List (List Nat)) (t:DT):Bool :=
 P.follows .mixedOrders&&Region.noSelect ops&&wT ops anc&&wW P n ops anc (zb ops) t (Array.replicate ops.size false) 0 []
theorem ABH (m i:Nat):ACQ m i=m.testBit i:=by
 have h:Nat.land (Nat.shiftRight m i) 1=(m >>> i) &&& 1:=rfl
 unfold ACQ
 rw [h,Nat.testBit,Nat.and_comm,Nat.one_and_eq_mod_two]
 have:=Nat.mod_two_eq_zero_or_one (m >>> i)
 rcases this with e | e<;>rw [e]<;>rfl
theorem ABI (m i j:Nat):(Nat.lor m (Nat.shiftLeft 1 i)).testBit j=(m.testBit j||decide (i=j)):=by
 have h:Nat.lor m (Nat.shiftLeft 1 i)=m ||| (1 <<< i):=rfl
 rw [h,Nat.testBit_or,Nat.one_shiftLeft,Nat.testBit_two_pow]
theorem s0 (j:Nat):∀ l:List Nat,(X9 l).testBit j=decide (j∈l)
 | []=>by simp [X9]
 | i::r=>by
  have h:X9 (i::r)=(1 <<< i) ||| X9 r:=rfl
  rw [h,Nat.testBit_or,Nat.one_shiftLeft,Nat.testBit_two_pow,s0 j r]
  by_cases e:i=j
  ·subst e; simp
  ·simp [e,Ne.symm e]
theorem zd (p m:Nat):Nat.beq (Nat.land p m) p=true↔∀ j,p.testBit j=true->m.testBit j=true:=by
 have h:Nat.land p m=p &&& m:=rfl
 rw [Nat.beq_eq,h]
 constructor
 ·intro e j hj
  have:=congrArg (fun x=>Nat.testBit x j) e
  simp only [Nat.testBit_and,hj,Bool.true_and] at this
  exact this
 ·intro e
  refine Nat.eq_of_testBit_eq fun j=>?_
  rw [Nat.testBit_and]
  cases hj:p.testBit j with
  | false=>rfl
  | true=>rw [e j hj]; rfl
def LM (ops:Array Oper) (L:Array Bool) (m:Nat):Prop:=L.size=ops.size/\∀ j,L.getD j false=m.testBit j
theorem Gt {ops:Array Oper} {L:Array Bool} {m:Nat} (h:LM ops L m) (i:Nat):P9 (zb ops) m i=true↔i∈Region.ready .any ops L:=by
 unfold P9 zb
 rw [mem_ready,CT,Array.getElem?_toList]
 cases ho:ops[i]? with
 | none=>simp
 | some o =>
  have hi:i<ops.size:=(Array.getElem?_eq_some_iff.1 ho).1
  have h0:L.getD i true=L.getD i false:=by simp [Array.getD,h.1,hi]
  simp only [Option.map_some,AC,EL,zd,s0,decide_eq_true_eq,List.mem_map,Array.mem_toList_iff,Array.mem_filter,BG,exists_eq_left',ABH,h0,h.2]
  constructor
  ·rintro ⟨a,b⟩
   exact ⟨a,fun e he hb=>b e.on ⟨e,⟨he,hb⟩,rfl⟩⟩
  ·rintro ⟨a,b⟩
   refine ⟨a,?_⟩
   rintro j ⟨e,⟨he,hb⟩,rfl⟩
   exact b e he hb
theorem LM.set {ops:Array Oper} {L:Array Bool} {m i:Nat} (h:LM ops L m) (hi:i<ops.size):LM ops (L.setIfInBounds i true) (Nat.lor m (Nat.shiftLeft 1 i)):=by
 refine ⟨by rw [Array.size_setIfInBounds]; exact h.1,fun j=>?_⟩
 rw [ABI,<- h.2 j]
 by_cases e:i=j
 ·subst e
  simp [Array.getD,h.1,hi]
 ·rw [getD_set_ne false e]; simp [e]
theorem LM.add {ops:Array Oper}:∀ (fl:List Nat) {L:Array Bool} {m:Nat},LM ops L m->(∀ f∈fl,f<ops.size)->LM ops (yR L fl) (Nat.lor m (X9 fl))
 | [],L,m,h,_=>by
  have e:Nat.lor m (X9 [])=m ||| 0:=rfl
  rw [e,Nat.or_zero]
  exact h
 | i::r,L,m,h,hl=>by
  have:=LM.add r (h.set (hl i (by simp))) fun f hf=>hl f (List.mem_cons_of_mem _ hf)
  have e:Nat.lor m (X9 (i::r))=Nat.lor (Nat.lor m (Nat.shiftLeft 1 i)) (X9 r):=(Nat.or_assoc m (1 <<< i) (X9 r)).symm
  rw [e]
  exact this
theorem L_ {ops:Array Oper} {L:Array Bool} {i:Nat} (h:i∈Region.ready .any ops L):i<ops.size:=(ES h).2
theorem xW {ops:Array Oper} {anc:List (List Nat)} (hA:wT ops anc=true) {L:Array Bool} (hs:r5 ops L) {i:Nat} (hr:i∈Region.ready .any ops L) (h:xV ops anc i=true):Region.free .any ops L i=true:=by
 unfold xV at h
 unfold Region.free
 split at h
 ·cases h
 ·rename_i oi hi
  rw [hi]
  simp only
  rw [Bf] at h ⊢
  intro j hj
  have h1:=h j hj
  simp only [Dy] at h1 ⊢
  rcases h1 with (h1 | h1) | h1
  ·exact .inl (.inl h1)
  ·have:=Rg hA hs i (ES hr).1 (ES hr).2 j (D8.1 h1)
   exact .inl (.inr (by
    have hl:j<L.size:=by
     rcases B6 j L.size with q | q
     ·exact q
     ·simp [Array.getD,Nat.not_lt.2 q] at this
    simp [Array.getD,hl] at this ⊢
    exact this))
  ·exact .inr h1
theorem AC5 {P:Program} {n:Nat} {ops:Array Oper} {anc:List (List Nat)} (hA:wT ops anc=true):∀ (t:DT) (L:Array Bool) (m:Nat) (F:List Nat),LM ops L m->r5 ops L->wW P n ops anc (zb ops) t L m F=true->o_ P n ops t L F=true:=by
 intro t
 induction t with
 | done =>
  intro L m F hL _ h
  simp only [wW,o_,AC,List.isEmpty_iff] at h ⊢
  refine ⟨?_,h.2⟩
  rw [List.eq_nil_iff_forall_not_mem]
  intro j hj
  have:=Bf.1 h.1 j (List.mem_range.2 (L_ hj))
  rw [(Gt hL j).2 hj] at this
  cases this
 | test c a b iha ihb =>
  intro L m F hL hs h
  simp only [wW,o_,AC] at h ⊢
  exact ⟨iha _ _ _ hL hs h.1,ihb _ _ _ hL hs h.2⟩
 | take i g ao r ih =>
  intro L m F hL hs h
  simp only [wW,o_,AC] at h ⊢
  obtain ⟨⟨⟨⟨⟨h1,h2⟩,h3⟩,h4⟩,h5⟩,h6⟩:=h
  have hr:=(Gt hL i).1 h1
  refine ⟨⟨⟨⟨⟨by simpa using hr,?_⟩,h3⟩,h4⟩,h5⟩,ih _ _ _ (hL.set (L_ hr)) (hs.set hr) h6⟩
  rcases Dy _ _▸h2 with q | q
  ·exact xW hA hs hr q
  ·exact q
 | skip i g d r ih =>
  intro L m F hL hs h
  simp only [wW,o_,AC] at h ⊢
  obtain ⟨⟨⟨⟨h1,h2⟩,h3⟩,h5⟩,h6⟩:=h
  have hr:=(Gt hL i).1 h1
  refine ⟨⟨⟨⟨by simpa using hr,?_⟩,h3⟩,h5⟩,ih _ _ _ (hL.set (L_ hr)) (hs.set hr) h6⟩
  rcases Dy _ _▸h2 with q | q
  ·exact xW hA hs hr q
  ·exact q
 | only i g ao e fl r ih =>
  intro L m F hL hs h
  simp only [wW,o_,AC] at h ⊢
  obtain ⟨⟨⟨⟨⟨⟨⟨h1,h2⟩,h3⟩,h4⟩,h5⟩,h6⟩,h7⟩,h8⟩:=h
  have hr:=(Gt hL i).1 h1
  have hfl:∀ f∈fl,P9 (zb ops) m f.1=true:=fun f hf=>by
   have:=Bf.1 h5 f hf
   simp only [wV,AC] at this
   exact this.1.1
  have hL2:=LM.add (fl.map (·.1)) hL fun f hf=>by
   obtain ⟨g,hg,rfl⟩:=List.mem_map.1 hf
   exact L_ ((Gt hL g.1).1 (hfl g hg))
  refine ⟨⟨⟨⟨⟨⟨⟨by simpa using hr,?_⟩,h3⟩,h4⟩,?_⟩,h6⟩,h7⟩,ih _ _ _ (hL.set (L_ hr)) (hs.set hr) h8⟩
  ·rw [Bf]
   intro k hk
   have:=Bf.1 h2 k (List.mem_range.2 (L_ hk))
   rw [(Gt hL2 k).2 hk] at this
   simpa using this
  ·rw [Bf]
   intro f hf
   have h9:=Bf.1 h5 f hf
   unfold wV at h9
   unfold wU
   rw [hfl f hf] at h9
   have h10:(Region.ready .any ops L).contains f.1=true:=by simpa using (Gt hL f.1).1 (hfl f hf)
   rw [h10]
   exact h9
 | fork i ai ri j aj rj ihi ihj =>
  intro L m F hL hs h
  simp only [wW,o_,AC] at h ⊢
  obtain ⟨⟨⟨⟨⟨⟨h0,h1⟩,h2⟩,h3⟩,h4⟩,h5⟩,h6⟩:=h
  have hr:=(Gt hL i).1 h1.1
  have hr2:=(Gt hL j).1 h1.2
  have hall:(Region.ready .any ops L).all (fun k=>k==i||k==j)=true:=by
   rw [Bf]
   intro k hk
   have:=Bf.1 h2 k (List.mem_range.2 (L_ hk))
   rw [(Gt hL k).2 hk] at this
   simpa using this
  exact ⟨⟨⟨⟨⟨⟨h0,by simpa using hr⟩,hall⟩,h3⟩,h4⟩,ihi _ _ _ (hL.set (L_ hr)) (hs.set hr) h5⟩,ihj _ _ _ (hL.set (L_ hr2)) (hs.set hr2) h6⟩
theorem ze {P:Program} {n:Nat} {ops:Array Oper} {anc:List (List Nat)} {t:DT} (h:zc P n ops anc t=true):xT P n ops anc t=true:=by
 simp only [zc,xT,AC] at h ⊢
 refine ⟨h.1,AC5 h.1.2 t _ 0 [] ⟨by simp,fun j=>?_⟩ ?_ h.2⟩
 ·rw [Nat.zero_testBit]
  simp [Array.getD]
 ·intro k o hk' _ _ _ _
  simp [Array.getElem?_replicate] at hk'
  split at hk'<;>simp at hk'

theorem yT {st:List AS} {N k:Nat} {cs:List AV} (h:(st.map (AS.older N))[k]? = some (.var cs)) {o i:Nat} (ho:cs[o]? = some (.row i)):i<N:=by
 rw [CT] at h
 cases hb:st[k]? with
 | none=>rw [hb] at h; cases h
 | some b =>
  rw [hb] at h
  cases b with
  | var cs0 =>
   cases h
   rw [CT] at ho
   cases hc:cs0[o]? with
   | none=>rw [hc] at ho; cases ho
   | some c =>
    rw [hc] at ho
    simp only [Option.map_some,BG] at ho
    cases c<;>simp only [AV.olderC] at ho<;>try cases ho
    split at ho
    ·rename_i hn
     cases ho
     exact hn
    ·cases ho
  | _=>cases h
theorem SR.cut {H:HP} {φ:CG} {st:List AS} {w:World} (h:SR H φ st w) (N:Nat):SR H φ ((st.take N).map (AS.older N)) w:=by
 have h2:=h.older N
 rw [List.map_take]
 have get:∀ (i:Nat) (b:AS),((st.map (AS.older N)).take N)[i]? = some b->(st.map (AS.older N))[i]? = some b:=by
  intro i b hi
  rw [Bz] at hi
  split at hi
  ·exact hi
  ·cases hi
 refine ⟨h2.hp,fun i b hi=>h2.box i b (get i b hi),fun i j bi bj hi hj=>h2.sep i j bi bj (get i bi hi) (get j bj hj),fun i bi hi=>h2.out i bi (get i bi hi),fun id cs hid o i ho=>?_,h2.tb⟩
 obtain ⟨h3,h4⟩:=h2.cell id cs (get id _ hid) o i ho
 have hi:=yT (get id _ hid) ho
 refine ⟨?_,h4⟩
 unfold AN at h3 ⊢
 rw [Bz,if_pos hi]
 exact h3
theorem Ae.cut {H H':HP} {φ φ':CG} {st st':List AS} {w w':World} (h:Ae H φ st w H' φ' st' w') {N:Nat} (hN:st.length<=N):Ae H φ st w H' φ' ((st'.take N).map (AS.older N)) w':=by
 refine ⟨h.le,h.sr.cut N,fun mv m0 H0 φ0 w0 f=>?_⟩
 have f2:=h.fr mv m0 H0 φ0 w0 f
 refine { f2 with new:=fun i bi hbi hl b hb=>?_,vars:=fun j hj=>?_ }
 ·rw [CT,Bz] at hbi
  split at hbi
  ·cases hb0:st'[i]? with
   | none=>rw [hb0] at hbi; cases hbi
   | some b0 =>
    rw [hb0] at hbi
    cases hbi
    exact f2.new i b0 hb0 (by cases b0<;>exact hl) b hb
  ·cases hbi
 ·have h1:=RY (f.vars j hj)
  have h2:=f2.vars j hj
  rw [Fg (P8 N)]
  unfold AW at h2 ⊢
  rw [Bz,if_pos (by omega)]
  exact h2
theorem Gw.cut {H:HP} {φ:CG} {st:List AS} {fr:List (Nat×AV)} {tmps:Array Value} (h:Gw H φ st fr tmps) (live:List Nat) (N:Nat) :
  Gw H φ ((st.take N).map (AS.older N)) (live.map fun t=>(t,(F7 fr t).older N)) tmps:=by
 intro t
 rcases sj fr (fun a=>a.older N) live t with e | e
 ·rw [e]; trivial
 ·rw [e]; exact (h t).older N
theorem vJ {s s':St} {i:Nat} {v a:AV} {ids:List Nat} (h:s.intoRow i v=some (a,s',ids)):s'.st.length=s.st.length:=by
 unfold St.intoRow at h
 split at h
 ·split at h
  ·cases h; rfl
  ·split at h
   ·split at h
    ·cases h; simp
    ·cases h
   ·cases h
 ·split at h
  ·cases h; simp
  ·cases h
 ·cases h
theorem ABJ {H:HP} {φ:CG} {s:St} {w:World} {tmps:Array Value} (hs:SR H φ s.st w) (hf:Gw H φ s.st s.fr tmps) (n t i:Nat) :
  ∃ φ',Ae H φ s.st w H φ' (s.home n t i).st w/\Gw H φ' (s.home n t i).st (s.home n t i).fr tmps/\(s.home n t i).st.length=s.st.length:=by
 have same:∃ φ',Ae H φ s.st w H φ' s.st w/\Gw H φ' s.st s.fr tmps/\s.st.length=s.st.length:=⟨φ,Ae.refl hs,hf,rfl⟩
 unfold St.home
 split
 ·rename_i k hk
  split
  ·split
   ·rename_i x hx
    have hv:=hf t
    rw [hk] at hv
    obtain ⟨a,s1,ids⟩:=x
    obtain ⟨φ',h1,_,_,h4,h5,h6⟩:=gR hs (v:=.row k) (u:=tmps.getD t undef) hv hx
    exact ⟨φ',h1,Gw.cons (h6 tmps hf) ⟨h5,h4⟩,(vJ hx:s1.st.length=s.st.length)⟩
   ·exact same
  ·exact same
 ·exact same
theorem vK {w:World} {tmps:Array Value} {n:Nat}:∀ (hs:List (Nat×Nat)) {H:HP} {φ:CG} {s:St},SR H φ s.st w->Gw H φ s.st s.fr tmps ->
  ∃ φ',Ae H φ s.st w H φ' (St.homes n hs s).st w/\Gw H φ' (St.homes n hs s).st (St.homes n hs s).fr tmps/\(St.homes n hs s).st.length=s.st.length
 | [],H,φ,s,h,hf=>⟨φ,Ae.refl h,hf,rfl⟩
 | p::r,H,φ,s,h,hf=>by
  obtain ⟨φ1,a1,a2,a3⟩:=ABJ h hf n p.1 p.2
  obtain ⟨φ2,b1,b2,b3⟩:=vK r a1.sr a2
  exact ⟨φ2,a1.trans b1,b2,b3.trans a3⟩
theorem ts {H H':HP} {φ φ':CG} {st:List AS} {s':St} {w w':World} {tmps:Array Value} (h:Ae H φ st w H' φ' s'.st w') (hf:Gw H' φ' s'.st s'.fr tmps) (hs:List (Nat×Nat)) (live:List Nat) {N:Nat} (hN:st.length<=N) :
  ∃ φ2,Ae H φ st w H' φ2 (s'.cutH hs live N).st w'/\Gw H' φ2 (s'.cutH hs live N).st (s'.cutH hs live N).fr tmps:=by
 obtain ⟨φ2,a1,a2,_⟩:=vK (n:=N) hs h.sr hf
 exact ⟨φ2,(h.trans a1).cut hN,a2.cut live N⟩
def eE (P:Program) (c:Code) (Q:Exit->Act->World->Prop) (a:Act) (w:World):Prop :=
 ∀ (b:Frame) (k:List Item) (cs:List Frame),∃ e a' w',Q e a' w'/\Arrives P (lone (b.at a (.code c::.inLoop c::k)) cs w) b k cs e a' w'
theorem eE.wp {c:Code} {Q:Exit->Act->World->Prop} {a:Act} {w:World} (h:eE P c Q a w):(Code.loop c).wp P Q a w:=by
 intro b k cs
 obtain ⟨e,a',w',hq,harr⟩:=h b k cs
 exact ⟨e,a',w',hq,.of_steps (.one step_loop) harr⟩
theorem eE.round {c:Code} {Q:Exit->Act->World->Prop} {a:Act} {w:World} (h:c.wp P (Exit.then (eE P c Q) Q) a w):eE P c Q a w:=by
 intro b k cs
 obtain ⟨e,a₁,w₁,hq,harr⟩:=h b (.inLoop c::k) cs
 cases e with
 | normal =>
  obtain ⟨e₂,a₂,w₂,hq₂,harr₂⟩:=hq b k cs
  exact ⟨e₂,a₂,w₂,hq₂,.of_steps (Steps.trans harr (.one step_inLoop)) harr₂⟩
 | exit id=>exact ⟨_,a₁,w₁,hq,.pass (x:=.inLoop c) rfl (fun _ _=>.inl (by simp)) harr⟩
 | goto l=>exact ⟨_,a₁,w₁,hq,.pass (x:=.inLoop c) rfl (fun _ _=>.inl (by simp)) harr⟩
 | ret=>exact ⟨_,a₁,w₁,hq,.pass (x:=.inLoop c) rfl (fun _ _=>.inl (by simp)) harr⟩
 | panic ch=>exact ⟨_,a₁,w₁,hq,.pass (x:=.inLoop c) rfl (fun _ _=>.inl (by simp)) harr⟩
 | outgrown=>exact ⟨_,a₁,w₁,hq,.pass (x:=.inLoop c) rfl (fun _ _=>.inl (by simp)) harr⟩
def F8 (P:Program) (n:Nat):Code->AI->Bool
 | .skip,.skip=>true
 | .region _ ops false,.region aos _=>decide (cm P n ops none [] 0 aos=some ops.size)
 | .region _ ops true,.draw anc t _=>zc P n ops anc t
 | .seq x y,.seq a b=>F8 P n x a&&F8 P n y b
 | .seq x y,.seqc _ a b=>F8 P n x a&&F8 P n y b
 | .cond c x y,.cond c' a b=>Da c c'&&F8 P n x a&&F8 P n y b
 | .block id x,.block id' _ a=>id==id'&&F8 P n x a
 | .loop x,.loop _ a=>F8 P n x a
 | .exit id,.exit id'=>id==id'
 | .ret,.ret=>true
 | _,_=>false
def m_ {ρ:Type} (n:Nat) (q:St->Option ρ) (r:ρ) (s:St) (act:Act) (w:World) (H:HP) (φ:CG) (N:Act->World->Prop):Prop :=
 ∀ s' act' w' H' φ',q s'=some r->Ae H φ s.st w H' φ' s'.st w'->Gw H' φ' s'.st s'.fr act'.tmps->act'.tmps.size=n->act'.defers=act.defers->N act' w'
def zf (P:Program) (n:Nat) (cal:GM) (k:Nat) (c:Code) (ac:AI):Prop :=
 ∀ (ρ:Type) (kn kr:St->Option ρ) (ke:Nat->St->Option ρ) (r:ρ) (s:St) (act:Act) (w:World) (H:HP) (φ:CG) (Q:Exit->Act->World->Prop),
  SR H φ s.st w->Gw H φ s.st s.fr act.tmps->act.tmps.size=n->Ha cal k ac kn kr ke s=some r ->
  m_ n kn r s act w H φ (Q .normal)->m_ n kr r s act w H φ (Q .ret)->(∀ i,m_ n (ke i) r s act w H φ (Q (.exit i)))->c.wp P Q act w
theorem m_.step {ρ:Type} {n:Nat} {q:St->Option ρ} {r:ρ} {s s1:St} {act act1:Act} {w w1:World} {H H1:HP} {φ φ1:CG} {N:Act->World->Prop}
  (h:m_ n q r s act w H φ N) (hst:Ae H φ s.st w H1 φ1 s1.st w1) (hd:act1.defers=act.defers):m_ n q r s1 act1 w1 H1 φ1 N :=
 fun s' act' w' H' φ' hq hs hf hn hd'=>h s' act' w' H' φ' hq (hst.trans hs) hf hn (hd'.trans hd)
theorem vL {n:Nat} {cal:GM} {k:Nat} (hcal:I9 P cal) {id:Nat} {ops:Array Oper} {aos:List GB} {live:List Nat} (h:cm P n ops none [] 0 aos=some ops.size) :
  zf P n cal k (.region id ops false) (.region aos live):=by
 intro ρ kn kr ke r s act w H φ Q hs hf hn hk hnorm _ _
 simp only [Ha] at hk
 refine yP hcal h hs hf hn hk fun s' act' w' H' φ' hk' hst hf' hn' hd'=>?_
 exact hnorm _ act' w' H' φ' hk' hst (hf'.live live) hn' hd'
theorem ABK {n:Nat} {cal:GM} {k:Nat} (hcal:I9 P cal):∀ (ac:AI) (c:Code),F8 P n c ac=true->zf P n cal k c ac:=by
 intro ac
 induction ac with
 | skip =>
  intro c h
  cases c<;>first | (simp [F8] at h; done) | skip
  intro ρ kn kr ke r s act w H φ Q hs hf hn hk h1 _ _
  exact wp_skip (h1 s act w H φ hk (Ae.refl hs) hf hn rfl)
 | ret =>
  intro c h
  cases c<;>first | (simp [F8] at h; done) | skip
  intro ρ kn kr ke r s act w H φ Q hs hf hn hk _ h2 _
  exact wp_ret (h2 s act w H φ hk (Ae.refl hs) hf hn rfl)
 | exit id =>
  intro c h
  cases c<;>first | (simp [F8] at h; done) | skip
  rename_i id'
  simp only [F8,beq_iff_eq] at h
  subst h
  intro ρ kn kr ke r s act w H φ Q hs hf hn hk _ _ h3
  exact wp_exit (h3 id' s act w H φ hk (Ae.refl hs) hf hn rfl)
 | region aos live =>
  intro c h
  cases c<;>first | (simp [F8] at h; done) | skip
  rename_i id ops draw
  cases draw
  ·simp only [F8,decide_eq_true_eq] at h
   exact vL hcal h
  ·simp [F8] at h
 | draw anc t live =>
  intro c h
  cases c<;>first | (simp [F8] at h; done) | skip
  rename_i id ops draw
  cases draw
  ·simp [F8] at h
  ·simp only [F8] at h
   intro ρ kn kr ke r s act w H φ Q hs hf hn hk hnorm _ _
   simp only [Ha] at hk
   exact ABG hcal (ze h) hs hf hn hk fun s' act' w' H' φ' hk' hst hf' hn' hd'=>hnorm _ act' w' H' φ' hk' hst (hf'.live live) hn' hd'
 | seq a b iha ihb =>
  intro c h
  cases c<;>first | (simp [F8] at h; done) | skip
  rename_i x y
  simp only [F8,AC] at h
  intro ρ kn kr ke r s act w H φ Q hs hf hn hk h1 h2 h3
  simp only [Ha] at hk
  refine wp_seq (iha x h.1 ρ (fun s'=>Ha cal k b kn kr ke s') kr ke r s act w H φ _ hs hf hn hk (fun s' act' w' H' φ' hk' hst hf' hn' hd'=>?_) h2 h3)
  exact ihb y h.2 ρ kn kr ke r s' act' w' H' φ' Q hst.sr hf' hn' hk' (h1.step hst hd') (h2.step hst hd') fun i=>(h3 i).step hst hd'
 | seqc live a b iha ihb =>
  intro c h
  cases c<;>first | (simp [F8] at h; done) | skip
  rename_i x y
  simp only [F8,AC] at h
  intro ρ kn kr ke r s act w H φ Q hs hf hn hk h1 h2 h3
  simp only [Ha] at hk
  refine wp_seq (iha x h.1 ρ (fun s'=>Ha cal k b kn kr ke (s'.cutH (Dz s live) live s.st.length)) kr ke r s act w H φ _ hs hf hn hk (fun s' act' w' H' φ' hk' hst hf' hn' hd'=>?_) h2 h3)
  obtain ⟨φ2,hst',hf2⟩:=ts hst hf' (Dz s live) live (Nat.le_refl _)
  exact ihb y h.2 ρ kn kr ke r (s'.cutH (Dz s live) live s.st.length) act' w' H' φ2 Q hst'.sr hf2 hn' hk' (h1.step hst' hd') (h2.step hst' hd') fun i=>(h3 i).step hst' hd'
 | cond c' a b iha ihb =>
  intro c h
  cases c<;>first | (simp [F8] at h; done) | skip
  rename_i co x y
  simp only [F8,AC] at h
  obtain ⟨⟨hc,ha⟩,hb⟩:=h
  intro ρ kn kr ke r s act w H φ Q hs hf hn hk h1 h2 h3
  simp only [Ha] at hk
  cases ht:s.opd c' with
  | bool t =>
   rw [ht] at hk
   simp only at hk
   have hv:=(BX hf hc).bool ht
   cases t with
   | true=>exact wp_cond_true hv (iha x ha ρ kn kr ke r s act w H φ Q hs hf hn (by simpa using hk) h1 h2 h3)
   | false=>exact wp_cond_false hv (ihb y hb ρ kn kr ke r s act w H φ Q hs hf hn (by simpa using hk) h1 h2 h3)
  | _=>rw [ht] at hk; cases hk
 | block id live a iha =>
  intro c h
  cases c<;>first | (simp [F8] at h; done) | skip
  rename_i id' x
  simp only [F8,AC,beq_iff_eq] at h
  obtain ⟨rfl,h⟩:=h
  intro ρ kn kr ke r s act w H φ Q hs hf hn hk h1 h2 h3
  simp only [Ha] at hk
  have cutOk:m_ n (fun s'=>kn (s'.cutH (Dz s live) live s.st.length)) r s act w H φ (Q .normal):=fun s' act' w' H' φ' hk' hst hf' hn' hd'=>by
   obtain ⟨φ2,hst',hf2⟩:=ts hst hf' (Dz s live) live (Nat.le_refl _)
   exact h1 _ act' w' H' φ2 hk' hst' hf2 hn' hd'
  refine wp_block (iha x h ρ (fun s'=>kn (s'.cutH (Dz s live) live s.st.length)) kr (fun i s'=>if i=id' then kn (s'.cutH (Dz s live) live s.st.length) else ke i s') r s act w H φ _ hs hf hn hk cutOk h2 fun i=>?_)
  intro s' act' w' H' φ' hk' hst hf' hn' hd'
  simp only at hk'
  simp only [Exit.inBlock]
  by_cases e:i=id'
  ·rw [if_pos e] at hk' ⊢
   exact cutOk s' act' w' H' φ' hk' hst hf' hn' hd'
  ·rw [if_neg e] at hk' ⊢
   exact h3 i s' act' w' H' φ' hk' hst hf' hn' hd'
 | loop live a iha =>
  intro c h
  cases c<;>first | (simp [F8] at h; done) | skip
  rename_i x
  simp only [F8] at h
  intro ρ kn kr ke r s act w H φ Q hs hf hn hk _ h2 h3
  simp only [Ha] at hk
  have key:∀ (j:Nat) (s1:St) (act1:Act) (w1:World) (H1:HP) (φ1:CG),s1.st.length<=s.st.length->Ae H φ s.st w H1 φ1 s1.st w1->Gw H1 φ1 s1.st s1.fr act1.tmps->act1.tmps.size=n->act1.defers=act.defers ->
    O_ j (fun go s'=>Ha cal k a (fun s''=>go (s''.cutH (Dz s live) live s.st.length)) kr ke s') s1=some r->eE P x Q act1 w1:=by
   intro j
   induction j with
   | zero=>intro s1 act1 w1 H1 φ1 _ _ _ _ _ hk; cases hk
   | succ j ihj =>
    intro s1 act1 w1 H1 φ1 hl hst hf1 hn1 hd1 hk
    simp only [O_] at hk
    refine eE.round (iha x h ρ _ kr ke r s1 act1 w1 H1 φ1 _ hst.sr hf1 hn1 hk (fun s' act' w' H' φ' hk' hst' hf' hn' hd'=>?_) (h2.step hst hd1) fun i=>(h3 i).step hst hd1)
    obtain ⟨φ2,hst2,hf2⟩:=ts hst' hf' (Dz s live) live hl
    exact ihj (s'.cutH (Dz s live) live s.st.length) act' w' H' φ2 (by simp [St.cutH,St.cut]; omega) (hst.trans hst2) hf2 hn' (hd'.trans hd1) hk'
  refine (key k (s.cut live s.st.length) act w H φ (by simp [St.cut]) ((Ae.refl hs).cut (Nat.le_refl _)) (hf.cut live _) hn rfl hk).wp
end Go.Proofs.YtfcgblnlopemkaaGreatDoor.Core

namespace Go.Proofs.YtfcgblnlopemkaaGreatDoor.Core
open Go
variable {H:HP} {φ:CG} {st:List AS} {w:World} {P:Program}
def s_ (st:List AS) (i:Nat) (b:AS):Prop :=
 (∃ (t:TypeId) (e:Kd),∃ xs:List (Kd.T e),st[i]? = some (AS.rows t e xs)/\b=AS.rows t e xs) \/
 (∃ cs ecs:List AV,st[i]? = some (AS.var cs)/\b=AS.var ecs/\ecs.length=cs.length/\∀ (o:Nat) (a:AV),ecs[o]? = some a->∃ c,cs[o]? = some c/\a.solid=true/\c.solid=true/\∀ (H:HP) (u:Value),VF H c u->VF H a u)
theorem pf:∀ {ks:List Kd} {cs cs':List AV},Lz ks cs=some cs'->cs'.length=cs.length/\(cs'.all fun c=>c.solid&&(match c with | .nil=>false | _=>true))=true /\
  ∀ (o:Nat) (a:AV),cs'[o]? = some a->∃ c,cs[o]? = some c/\a.solid=true/\c.solid=true/\∀ (H:HP) (u:Value),VF H c u->VF H a u
 | [],[],cs',h=>by cases h; exact ⟨rfl,rfl,fun o a h=>by simp at h⟩
 | [],_::_,cs',h=>by simp [Lz] at h
 | _::_,[],cs',h=>by simp [Lz] at h
 | k::ks,v::vs,cs',h=>by
  simp only [Lz] at h
  cases h1:v.norm k with
  | none=>rw [h1] at h; cases h
  | some a =>
   rw [h1] at h
   simp only [Z] at h
   cases h2:Lz ks vs with
   | none=>rw [h2] at h; cases h
   | some r =>
    rw [h2] at h
    cases h
    obtain ⟨n1,n2,n3,n4⟩:=gf h1
    obtain ⟨l1,l2,l3⟩:=pf h2
    refine ⟨by simp [l1],?_,fun o b hb=>?_⟩
    ·simp only [List.all_cons,l2,n2,Bool.true_and,Bool.and_true]
     cases a<;>first | rfl | cases n1
    ·cases o with
     | zero=>simp at hb; subst hb; exact ⟨v,rfl,n2,n3,n4⟩
     | succ o=>simpa using l3 o b (by simpa using hb)
theorem wX {s s':St} {a a':AV} (h:s.keep a=some (a',s')) {i:Nat} (hi:a≠.row i):s'.st[i]? = s.st[i]? := by
 cases a with
 | row id =>
  simp only [St.keep] at h
  split at h
  ·cases h
   simp only [BD]
   rw [if_neg (fun e=>hi (by rw [e]))]
  ·cases h; rfl
  ·cases h
 | fn f caps=>cases caps<;>first | (cases h; rfl) | cases h
 | _=>first | (cases h; rfl) | cases h
theorem zg {s s':St} {a a':AV} (h:s.keep a=some (a',s')) {i:Nat} (hi:AW s.st i=true):s'.st[i]? = s.st[i]? := by
 cases a with
 | row id =>
  simp only [St.keep] at h
  split at h
  ·rename_i t K xs hb
   cases h
   simp only [BD]
   rw [if_neg (fun e=>by subst e; simp only [AW,hb] at hi; cases hi)]
  ·cases h; rfl
  ·cases h
 | fn f caps=>cases caps<;>first | (cases h; rfl) | cases h
 | _=>first | (cases h; rfl) | cases h
theorem wY {s s':St} {i:Nat} {a':AV} (h:s.keep (.row i)=some (a',s')):a'.nilFree=true/\a'.solid=true:=by
 simp only [St.keep] at h
 split at h
 ·cases h; exact ⟨rfl,rfl⟩
 ·cases h; exact ⟨rfl,rfl⟩
 ·cases h
structure FZ (H:HP) (φ:CG) (w:World) (s s':St) (tk tk':List Nat) (us:List Value) (cl:List AV) (H':HP) (ids:List Nat):Prop where
 step:Ae H φ s.st w H' φ s'.st w
 keeps:By φ s.st φ s'.st none
 fr:s'.fr=s.fr
 nf:cl.all AV.nilFree=true
 cnt:AO cl=ids.length
 tks:tk'=ids.reverse++tk
 nd:tk.Nodup->tk'.Nodup
 held:∀ i∈tk,s'.st[i]? = s.st[i]?
 vars:∀ i,AW s.st i=true->s'.st[i]? = s.st[i]?
 boxes:∀ (m:Nat) (b:AS),(Aw cl)[m]? = some b->∃ i,ids[m]? = some i/\s_ s'.st i b
 vals:∀ (k:Nat) (f:Nat->Nat),(∀ m i,ids[m]? = some i->f (k+m)=i) ->
  Aq (fun a u=>VC H' φ s'.st (a.ren f) u/\(a.solid=true\/∃ m,m<ids.length/\((∃ t e,∃ xs:List (Kd.T e),a=.row (k+m)/\(Aw cl)[m]? = some (AS.rows t e xs))\/(∃ ecs,a=.ptr (k+m) 0/\(Aw cl)[m]? = some (AS.var ecs))))) (BQ k cl) us
theorem kQ {a:AV} (h:a.solid=true) (f:Nat->Nat):a.ren f=a:=by cases a<;>first | rfl | cases h
theorem FZ.plain {H:HP} {φ:CG} {s s1 s':St} {tk tk':List Nat} {u:Value} {us:List Value} {cl:List AV} {H1 H':HP} {ids:List Nat} {a:AV} (F:FZ H1 φ w s1 s' tk tk' us cl H' ids)
  (hst:Ae H φ s.st w H1 φ s1.st w) (hk:By φ s.st φ s1.st none) (hfr:s1.fr=s.fr) (hheld:∀ i∈tk,s1.st[i]? = s.st[i]?) (hvars:∀ i,AW s.st i=true->s1.st[i]? = s.st[i]?)
  (hn:a.nilFree=true) (hs:a.solid=true) (hv:VF H1 a u):FZ H φ w s s' tk tk' (u::us) (a::cl) H' ids:=by
 have o1:∀ k,BQ k (a::cl)=a::BQ k cl:=fun k=>by cases a<;>first | rfl | cases hs
 have o2:Aw (a::cl)=Aw cl:=by cases a<;>first | rfl | cases hs
 have o3:AO (a::cl)=AO cl:=by cases a<;>first | rfl | cases hs
 refine ⟨hst.trans F.step,hk.trans F.keeps,F.fr.trans hfr,by simp [hn,F.nf],by rw [o3]; exact F.cnt,F.tks,F.nd,fun i hi=>(F.held i hi).trans (hheld i hi),fun i hi=>?_,by rw [o2]; exact F.boxes,fun k f hf=>?_⟩
 ·have h1:=hvars i hi
  rw [F.vars i (by unfold AW at hi ⊢; rw [h1]; exact hi),h1]
 ·rw [o1,o2]
  exact ⟨u,us,rfl,⟨by rw [kQ hs]; exact VC.of_VF (hv.mono F.step.le),.inl hs⟩,F.vals k f hf⟩
theorem Rh:∀ {ks:List Kd} {vs cl:List AV} {tk tk':List Nat} {s s':St} {H:HP} {us:List Value},SR H φ s.st w->Aq (VC H φ s.st) vs us->s.shutAll tk ks vs=some (cl,tk',s') ->
  ∃ H' ids,FZ H φ w s s' tk tk' us cl H' ids
 | [],[],cl,tk,tk',s,s',H,us,hs,hv,h=>by
  cases h
  cases hv
  exact ⟨H,[],Ae.refl hs,By.refl _ _ _,rfl,rfl,rfl,rfl,fun h=>h,fun _ _=>rfl,fun _ _=>rfl,fun m b h=>by simp [Aw] at h,fun k f _=>rfl⟩
 | [],_::_,cl,tk,tk',s,s',H,us,hs,hv,h=>by simp [St.shutAll] at h
 | _::_,[],cl,tk,tk',s,s',H,us,hs,hv,h=>by simp [St.shutAll] at h
 | k0::ks,v::vs,cl,tk,tk',s,s',H,us,hs,hv,h=>by
  obtain ⟨u,us,rfl,hu,hr⟩:=hv
  have norm:((v.norm k0).bind fun a=>(s.shutAll tk ks vs).bind fun y=>some (a::y.1,y.2))=some (cl,tk',s')->∃ H' ids,FZ H φ w s s' tk tk' (u::us) cl H' ids:=by
   intro h
   cases hq:v.norm k0 with
   | none=>rw [hq] at h; cases h
   | some a =>
    rw [hq] at h
    simp only [Z] at h
    cases hc:s.shutAll tk ks vs with
    | none=>rw [hc] at h; cases h
    | some y =>
     obtain ⟨y1,y2,y3⟩:=y
     rw [hc] at h
     cases h
     obtain ⟨n1,n2,n3,n4⟩:=gf hq
     obtain ⟨H',ids,F⟩:=Rh hs hr hc
     exact ⟨H',ids,F.plain (Ae.refl hs) (By.refl _ _ _) rfl (fun _ _=>rfl) (fun _ _=>rfl) n1 n2 (n4 H u (hu.solid n3))⟩
  have away:∀ (i:Nat) (a:AV) (b:AS) (y:List AV×List Nat×St),Bx tk i=false->s.shutAll (i::tk) ks vs=some y->(cl,tk',s')=(a::y.1,y.2) ->
    s_ s.st i b->a.nilFree=true->(∀ k r,BQ k (a::r)=(match b with | .var _=>AV.ptr k 0 | _=>AV.row k)::BQ (k+1) r)->(∀ r,Aw (a::r)=b::Aw r)->(∀ r,AO (a::r)=AO r+1) ->
    (∀ cs,b=.var cs->v=.ptr i 0)->((∀ cs,b≠.var cs)->v=.row i)->((∀ cs,b≠.var cs)->∃ (t:TypeId) (e:Kd),∃ xs:List (Kd.T e),b=AS.rows t e xs)->∃ H' ids,FZ H φ w s s' tk tk' (u::us) cl H' ids:=by
   intro i a b y hn hy e hb hnf o1 o2 o3 e1 e2 e3
   obtain ⟨y1,y2,y3⟩:=y
   cases e
   obtain ⟨H',ids,F⟩:=Rh hs hr hy
   refine ⟨H',i::ids,F.step,F.keeps,F.fr,by simp [hnf,F.nf],by rw [o3,F.cnt]; rfl,by rw [F.tks]; simp,fun hnd=>F.nd (List.nodup_cons.2 ⟨Bu.1 hn,hnd⟩),fun j hj=>F.held j (by simp [hj]),F.vars,fun m b' hb'=>?_,fun k f hf=>?_⟩
   ·rw [o2] at hb'
    cases m with
    | zero =>
     simp at hb'
     subst hb'
     refine ⟨i,rfl,?_⟩
     have hh:=F.held i (by simp)
     unfold s_ at hb ⊢
     rw [hh]
     exact hb
    | succ m=>simpa using F.boxes m b' (by simpa using hb')
   ·rw [o1,o2]
    have f0:f k=i:=by simpa using hf 0 i rfl
    refine ⟨u,us,rfl,⟨?_,.inr ⟨0,by simp,?_⟩⟩,?_⟩
    ·have hu':=VC.mono F.step.le F.keeps hu
     cases b with
     | var cs =>
      simp only [AV.ren,f0]
      rw [e1 cs rfl] at hu'
      exact hu'
     | _ =>
      simp only [AV.ren,f0]
      rw [e2 (by simp)] at hu'
      exact hu'
    ·cases b with
     | var cs=>exact .inr ⟨cs,rfl,rfl⟩
     | rows t e xs=>exact .inl ⟨t,e,xs,rfl,rfl⟩
     | _=>obtain ⟨_,_,_,e⟩:=e3 (by simp); cases e
    ·have:=F.vals (k+1) f fun m j hj=>by rw [Nat.add_assoc,Nat.add_comm 1 m]; exact hf (m+1) j (by simpa using hj)
     refine this.imp fun a' u' ⟨g1,g2⟩=>⟨g1,?_⟩
     rcases g2 with g2 | ⟨m,hm,g2⟩
     ·exact .inl g2
     ·refine .inr ⟨m+1,by simp; omega,?_⟩
      rw [show k+(m+1)=k+1+m by omega]
      simpa using g2
  cases v with
  | row i =>
   simp only [St.shutAll] at h
   split at h
   ·cases h
   ·rename_i hn
    have hn:Bx tk i=false:=by simpa using hn
    have kept:((s.keep (.row i)).bind fun x=>(x.2.shutAll tk ks vs).bind fun y=>some (x.1::y.1,y.2))=some (cl,tk',s')->∃ H' ids,FZ H φ w s s' tk tk' (u::us) cl H' ids:=by
     intro h
     cases hk:s.keep (.row i) with
     | none=>rw [hk] at h; cases h
     | some x =>
      obtain ⟨a1,s1⟩:=x
      rw [hk] at h
      simp only [Z] at h
      cases hc:s1.shutAll tk ks vs with
      | none=>rw [hc] at h; cases h
      | some y =>
       obtain ⟨y1,y2,y3⟩:=y
       rw [hc] at h
       cases h
       obtain ⟨H1,g1,k1,f1,r1,_⟩:=Vg hs hu hk
       obtain ⟨H',ids,F⟩:=Rh g1.sr (hr.imp fun _ _ h=>h.mono g1.le k1) hc
       obtain ⟨n1,n2⟩:=wY hk
       refine ⟨H',ids,F.plain g1 k1 r1 (fun j hj=>wX hk fun e=>?_) (fun j hj=>zg hk hj) n1 n2 f1⟩
       cases e
       exact Bu.1 hn hj
    split at h
    ·split at h
     ·rename_i t e xs hi
      cases hc:s.shutAll (i::tk) ks vs with
      | none=>rw [hc] at h; cases h
      | some y =>
       rw [hc] at h
       simp only [Z,BG] at h
       exact away i (.new t e xs) (.rows t e xs) y hn hc h.symm (.inl ⟨t,e,xs,hi,rfl⟩) rfl (fun k r=>rfl) (fun r=>rfl) (fun r=>by simp [AO,AV.isNew]) (fun cs e=>by cases e) (fun _=>rfl) (fun _=>⟨t,e,xs,rfl⟩)
     ·cases h
    ·exact kept h
  | ptr i o =>
   cases o with
   | zero =>
    simp only [St.shutAll] at h
    split at h
    ·cases h
    ·rename_i hn
     have hn:Bx tk i=false:=by simpa using hn
     split at h
     ·split at h
      ·rename_i K x0 cs hi
       cases hq:Lz K.leaves cs with
       | none=>rw [hq] at h; cases h
       | some cs' =>
        rw [hq] at h
        simp only [Z] at h
        cases hc:s.shutAll (i::tk) ks vs with
        | none=>rw [hc] at h; cases h
        | some y =>
         rw [hc] at h
         simp only [Z,BG] at h
         obtain ⟨l1,l2,l3⟩:=pf hq
         exact away i (.ref cs') (.var cs') y hn hc h.symm (.inr ⟨cs,cs',hi,rfl,l1,l3⟩) l2 (fun k r=>rfl) (fun r=>rfl) (fun r=>by simp [AO,AV.isNew]) (fun _ _=>rfl) (fun h=>absurd rfl (h cs')) (fun h=>absurd rfl (h cs'))
      ·cases h
     ·cases h
   | succ o=>exact norm h
  | _=>exact norm h
theorem MA:∀ {k1 k2:List Kd} {v1 v2 c1 c2:List AV} {tk t1 t2:List Nat} {s s1 s2:St},s.shutAll tk k1 v1=some (c1,t1,s1)->s1.shutAll t1 k2 v2=some (c2,t2,s2) ->
  s.shutAll tk (k1++k2) (v1++v2)=some (c1++c2,t2,s2)
 | [],k2,[],v2,c1,c2,tk,t1,t2,s,s1,s2,h,g=>by cases h; exact g
 | [],k2,_::_,v2,c1,c2,tk,t1,t2,s,s1,s2,h,g=>by simp [St.shutAll] at h
 | _::_,k2,[],v2,c1,c2,tk,t1,t2,s,s1,s2,h,g=>by simp [St.shutAll] at h
 | k::k1,k2,v::v1,v2,c1,c2,tk,t1,t2,s,s1,s2,h,g=>by
  have norm:((v.norm k).bind fun a=>(s.shutAll tk k1 v1).bind fun y=>some (a::y.1,y.2))=some (c1,t1,s1) ->
    ((v.norm k).bind fun a=>(s.shutAll tk (k1++k2) (v1++v2)).bind fun y=>some (a::y.1,y.2))=some (c1++c2,t2,s2):=by
   intro h
   cases hq:v.norm k with
   | none=>rw [hq] at h; cases h
   | some a =>
    rw [hq] at h
    simp only [Z] at h ⊢
    cases hc:s.shutAll tk k1 v1 with
    | none=>rw [hc] at h; cases h
    | some y =>
     obtain ⟨y1,y2,y3⟩:=y
     rw [hc] at h
     cases h
     rw [MA hc g]
     rfl
  cases v with
  | row i =>
   simp only [List.cons_append,St.shutAll] at h ⊢
   split at h
   ·cases h
   ·rename_i hn
    rw [if_neg hn]
    split at h
    ·split at h
     ·rename_i t e xs hi
      cases hc:s.shutAll (i::tk) k1 v1 with
      | none=>rw [hc] at h; cases h
      | some y =>
       obtain ⟨y1,y2,y3⟩:=y
       rw [hc] at h
       cases h
       simp only [hi,MA hc g]
       rfl
     ·cases h
    ·rename_i hno
     cases hk:s.keep (.row i) with
     | none=>rw [hk] at h; cases h
     | some x =>
      rw [hk] at h
      simp only [Z] at h
      cases hc:x.2.shutAll tk k1 v1 with
      | none=>rw [hc] at h; cases h
      | some y =>
       obtain ⟨y1,y2,y3⟩:=y
       rw [hc] at h
       cases h
       cases k<;>first | exact (hno _ _ rfl).elim | (simp only [hk,Z,MA hc g]; rfl)
  | ptr i o =>
   cases o with
   | zero =>
    simp only [List.cons_append,St.shutAll] at h ⊢
    split at h
    ·cases h
    ·rename_i hn
     rw [if_neg hn]
     split at h
     ·split at h
      ·rename_i K x0 cs hi
       cases hq:Lz K.leaves cs with
       | none=>rw [hq] at h; cases h
       | some cs' =>
        rw [hq] at h
        simp only [Z] at h
        cases hc:s.shutAll (i::tk) k1 v1 with
        | none=>rw [hc] at h; cases h
        | some y =>
         obtain ⟨y1,y2,y3⟩:=y
         rw [hc] at h
         cases h
         simp only [hi,hq,Z,MA hc g]
         rfl
      ·cases h
     ·cases h
   | succ o=>exact norm h
  | _=>exact norm h
end Go.Proofs.YtfcgblnlopemkaaGreatDoor.Core
