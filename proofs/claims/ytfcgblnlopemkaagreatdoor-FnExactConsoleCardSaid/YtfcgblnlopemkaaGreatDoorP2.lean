/- Texts of the proof, packed: part 3. -/
import Derived.Test.YtfcgblnlopemkaaGreatDoorP1
import Derived.ChangeArms
import Derived.Below
import Derived.Test.YtfcgblnlopemkaaGreatDoorProg
import Derived.Shelf.SlLaysE0
import Derived.Shelf.RegionOpenPlain
import Derived.WalkKit
import Derived.Deep.LoopGhost
import Derived.Lib.Walk
import Derived.Lib.SliceRun
set_option linter.unusedVariables false
set_option linter.unusedSimpArgs false
namespace Go.Proofs.YtfcgblnlopemkaaGreatDoor.Core
open Go
variable {P:Program}
theorem FZ.append {H H1 H2:HP} {φ:CG} {w:World} {s s1 s2:St} {tk t1 t2:List Nat} {us1 us2:List Value} {c1 c2:List AV} {i1 i2:List Nat}
  (F1:FZ H φ w s s1 tk t1 us1 c1 H1 i1) (F2:FZ H1 φ w s1 s2 t1 t2 us2 c2 H2 i2):FZ H φ w s s2 tk t2 (us1++us2) (c1++c2) H2 (i1++i2):=by
 have hl:(Aw c1).length=i1.length:=by rw [EM,F1.cnt]
 refine ⟨F1.step.trans F2.step,F1.keeps.trans F2.keeps,F2.fr.trans F1.fr,by rw [List.all_append,F1.nf,F2.nf]; rfl,by rw [CA,F1.cnt,F2.cnt,List.length_append],by rw [F2.tks,F1.tks]; simp,fun h=>F2.nd (F1.nd h),fun i hi=>?_,fun i hi=>?_,fun m b hb=>?_,fun k f hf=>?_⟩
 ·rw [F2.held i (by rw [F1.tks]; simp [hi]),F1.held i hi]
 ·have h1:=F1.vars i hi
  rw [F2.vars i (by unfold AW at hi ⊢; rw [h1]; exact hi),h1]
 ·rw [CN] at hb
  rcases B6 m (Aw c1).length with h | h
  ·rw [BF h] at hb
   obtain ⟨i,g1,g2⟩:=F1.boxes m b hb
   refine ⟨i,by rw [BF (by omega)]; exact g1,?_⟩
   have hh:=F2.held i (by rw [F1.tks]; simp [List.mem_of_getElem? g1])
   unfold s_ at g2 ⊢
   rw [hh]
   exact g2
  ·rw [Ci h] at hb
   obtain ⟨i,g1,g2⟩:=F2.boxes _ b hb
   exact ⟨i,by rw [Ci (by omega)]; rw [hl] at g1; exact g1,g2⟩
 ·rw [Xc,CN]
  refine Aq.append ((F1.vals k f fun m i hm=>hf m i (by rw [BF (Aj.1 hm).1]; exact hm)).imp fun a u ⟨g1,g2⟩=>⟨g1.mono F2.step.le F2.keeps,?_⟩)
   ((F2.vals (k+AO c1) f fun m i hm=>by
    rw [Nat.add_assoc]
    exact hf _ i (by rw [F1.cnt,Ci (by omega),Nat.add_sub_cancel_left]; exact hm)).imp fun a u ⟨g1,g2⟩=>⟨g1,?_⟩)
  ·rcases g2 with g2 | ⟨m,hm,g2⟩
   ·exact .inl g2
   ·refine .inr ⟨m,by simp; omega,?_⟩
    rw [BF (by omega)]
    exact g2
  ·rcases g2 with g2 | ⟨m,hm,g2⟩
   ·exact .inl g2
   ·refine .inr ⟨i1.length+m,by simp; omega,?_⟩
    rw [Ci (by omega),hl,Nat.add_sub_cancel_left,<- Nat.add_assoc]
    rw [F1.cnt] at g2
    exact g2
theorem yU {H:HP} {φ:CG} {st:List AS} {w:World} (hs:SR H φ st w) {id:Nat} {cs:List AV} (hb:st[id]? = some (.var cs)) :
  ∃ b c el,φ id=.pointer (some ⟨b,0,none⟩)/\w.heap[b]? = some (.cells c el (0,0))/\Aq (VC H φ st) cs c.toList:=by
 obtain ⟨b,c,el,e3,hh,hc⟩:=hs.box id _ hb
 refine ⟨b,c,el,e3,hh,S8 hc.length fun j a u ha hu=>?_⟩
 have hw:=hc.at ha hu
 cases a with
 | row i =>
  obtain ⟨g1,b2,g2,g3⟩:=hs.cell id _ hb j i ha
  rw [e3] at g2
  cases g2
  simp only [World.cell?,hh] at g3
  rw [Array.getElem?_toList] at hu
  simp only [Option.isSome_none,Bool.false_eq_true,if_false] at g3
  rw [hu] at g3
  cases g3
  exact ⟨rfl,g1⟩
 | was i=>trivial
 | self T=>trivial
 | undef=>trivial
 | _=>exact VC.of_VF hw
def ABL (P:Program):ResultVar->Res->Bool
 | .tmp t,r=>!r.cell&&r.t==t
 | .cell a t,r=>r.cell&&r.t==a&&gY P t (Z1 r.K)
def pg (P:Program):List ResultVar->List Res->Bool
 | [],[]=>true
 | v::vs,r::rs=>ABL P v r&&pg P vs rs
 | _,_=>false
def Xg (tmps:Array Value):ResultVar->Sem Value
 | .tmp t=>pure (tmps.getD t undef)
 | .cell a t=>do loadVar t (<- asAddr (tmps.getD a undef))
def ABM (K:Kd) (v:Value):Prop:=match K with
 | .pair _ _=>∃ arr,v=.agg arr
 | _=>v.cells=#[v]
theorem zh {H:HP} {φ:CG} {w:World} {s:St} {K:Kd} {a:AV} {v:Value} {ds:List AV} {off:Nat} {t:TypeId} (hs:SR H φ s.st w) (hv:VC H φ s.st a v) (hbh:s.behind a=some (ds,off)) (hl2:off+K.sz<=ds.length) (hp:gY P t (Z1 K)=true) :
  ∃ u,(Instr.loadAt t v).run P w=.ok u w/\VA H φ s.st (part ds off (Z1 K)) u:=by
 cases K with
 | pair a b=>exact mw hs hv hbh (n:=some _) hl2 hp
 | _=>exact mw hs hv hbh (n:=none) hl2 hp
theorem vM {H:HP} {φ:CG} {w:World} {s:St} {r:Res} {rv:ResultVar} {cs:List AV} {tmps:Array Value} (hs:SR H φ s.st w) (hf:Gw H φ s.st s.fr tmps) (h:s.resCells r=some cs) (hb:ABL P rv r=true)
  (hne:∀ c∈cs,c.full=true) (hlen:cs.length=r.K.sz) :
  ∃ v,(Xg tmps rv).run P w=.ok v w/\Aq (VC H φ s.st) cs v.cells.toList/\ABM r.K v:=by
 unfold St.resCells at h
 cases rv with
 | tmp t =>
  simp only [ABL,AC,EL,beq_iff_eq] at hb
  obtain ⟨hc,rfl⟩:=hb
  rw [if_neg (by rw [hc]; simp)] at h
  split at h
  ·rename_i hfit
   cases h
   simp only [AC] at hfit
   have hv:=hf r.t
   refine ⟨tmps.getD r.t undef,by simp [Xg],pS hs hv hfit.2,?_⟩
   rcases hv.cases with ⟨ds,arr,ea,ev,_⟩ | ⟨vs,arr,ea,_,_⟩ | hvc
   ·rw [ea] at hfit
    unfold ABM
    cases hK:r.K with
    | pair a b=>exact ⟨arr,ev⟩
    | _=>rw [hK] at hfit; cases hfit.1
   ·rw [ea] at hfit; cases hfit.2
   ·have h1:=pR hs hvc hfit.2
    unfold ABM
    cases hK:r.K with
    | pair a b =>
     rw [hK,Vk hvc] at hlen
     have p1:=Kd.sz_pos a
     have p2:=Kd.sz_pos b
     simp [Kd.sz] at hlen
     omega
    | _=>exact h1
  ·cases h
 | cell a t =>
  simp only [ABL,AC,beq_iff_eq] at hb
  obtain ⟨⟨hc,rfl⟩,hp⟩:=hb
  rw [if_pos hc] at h
  cases hbh:s.behind (F7 s.fr r.t) with
  | none=>rw [hbh] at h; cases h
  | some y =>
   obtain ⟨ds,off⟩:=y
   rw [hbh] at h
   simp only [Z,BG] at h
   subst h
   have hv:=(hf r.t).behind hbh
   have hl2:off+r.K.sz<=ds.length:=by
    have:=Kd.sz_pos r.K
    simp only [List.length_take,List.length_drop] at hlen
    omega
   obtain ⟨b,o,vs,ev,_,_⟩:=cN hs hv hbh
   obtain ⟨u,hrun,hu⟩:=zh (P:=P) (t:=t) hs hv hbh hl2 hp
   have hrun2:(Xg tmps (.cell r.t t)).run P w=.ok u w:=by
    rw [ev] at hrun
    simp only [Instr.loadAt,Instr.sureAddr,Sem.run_bind,Sem.run_pure,Result.andThen_ok] at hrun
    simp only [Xg,Sem.run_bind]
    rw [ev]
    simp only [asAddr,Sem.run_pure,Result.andThen_ok]
    exact hrun
   refine ⟨u,hrun2,?_⟩
   have single:r.K.sz=1->Z1 r.K=none->Aq (VC H φ s.st) ((ds.drop off).take r.K.sz) u.cells.toList/\u.cells=#[u]:=by
    intro h1 h2
    rw [h1] at hl2 hne ⊢
    rw [h2] at hu
    have hlt:off<ds.length:=by omega
    have hc1:(ds.drop off).take 1=[ds[off]]:=by rw [List.drop_eq_getElem_cons hlt]; rfl
    have hpart:part ds off none=ds[off]:=by simp only [part,List.headD_eq_head?_getD]; rw [List.drop_eq_getElem_cons hlt]; rfl
    rw [hpart] at hu
    have hfc:ds[off].full=true:=hne _ (by rw [hc1]; simp)
    have hvc:VC H φ s.st ds[off] u:=by
     rcases hu.cases with ⟨e1,arr,ea,_,_⟩ | ⟨e1,arr,ea,_,_⟩ | hvc
     ·obtain ⟨b',o',vs',_,hall,_⟩:=cN hs hv hbh
      obtain ⟨u2,_,hu2⟩:=hall.get off ds[off] (by simp)
      rw [ea] at hu2
      exact hu2.elim
     ·rw [ea] at hfc; cases hfc
     ·exact hvc
    have hone:=pR hs hvc hfc
    rw [hc1,hone]
    exact ⟨⟨u,[],rfl,hvc,rfl⟩,rfl⟩
   cases hK:r.K with
   | pair a b =>
    rw [hK] at hu
    obtain ⟨arr,e,hc⟩:=hu
    subst e
    exact ⟨hc,arr,rfl⟩
   | _=>rw [hK] at single; exact single rfl rfl
theorem MB:∀ {ks:List Kd} {vs cl:List AV} {tk tk':List Nat} {s s':St},s.shutAll tk ks vs=some (cl,tk',s')->∀ v∈vs,v.full=true
 | [],[],cl,tk,tk',s,s',h,v,hv=>by cases hv
 | [],_::_,cl,tk,tk',s,s',h,v,hv=>by simp [St.shutAll] at h
 | _::_,[],cl,tk,tk',s,s',h,v,hv=>by cases hv
 | k::ks,a::vs,cl,tk,tk',s,s',h,v,hv=>by
  have norm:((a.norm k).bind fun x=>(s.shutAll tk ks vs).bind fun y=>some (x::y.1,y.2))=some (cl,tk',s')->v.full=true:=by
   intro h
   cases hq:a.norm k with
   | none=>rw [hq] at h; cases h
   | some x =>
    rw [hq] at h
    simp only [Z] at h
    cases hc:s.shutAll tk ks vs with
    | none=>rw [hc] at h; cases h
    | some y =>
     obtain ⟨y1,y2,y3⟩:=y
     rcases BI.1 hv with rfl | hv
     ·have:=(gf hq).2.2.1
      cases v<;>first | rfl | cases this
     ·exact MB hc v hv
  cases a with
  | row i =>
   rcases BI.1 hv with rfl | hv
   ·rfl
   ·simp only [St.shutAll] at h
    split at h
    ·cases h
    ·split at h
     ·split at h
      ·cases hc:s.shutAll (i::tk) ks vs with
       | none=>rw [hc] at h; cases h
       | some y=>obtain ⟨y1,y2,y3⟩:=y; exact MB hc v hv
      ·cases h
     ·cases hk:s.keep (.row i) with
      | none=>rw [hk] at h; cases h
      | some x =>
       rw [hk] at h
       simp only [Z] at h
       cases hc:x.2.shutAll tk ks vs with
       | none=>rw [hc] at h; cases h
       | some y=>obtain ⟨y1,y2,y3⟩:=y; exact MB hc v hv
  | ptr i o =>
   rcases BI.1 hv with rfl | hv'
   ·rfl
   ·cases o with
    | zero =>
     simp only [St.shutAll] at h
     split at h
     ·cases h
     ·split at h
      ·split at h
       ·rename_i K x0 cs hi
        cases hq:Lz K.leaves cs with
        | none=>rw [hq] at h; cases h
        | some cs' =>
         rw [hq] at h
         simp only [Z] at h
         cases hc:s.shutAll (i::tk) ks vs with
         | none=>rw [hc] at h; cases h
         | some y=>obtain ⟨y1,y2,y3⟩:=y; exact MB hc v hv'
       ·cases h
      ·cases h
    | succ o=>exact norm h
  | _=>exact norm h
theorem PD:∀ {ks:List Kd} {vs cl:List AV} {tk tk':List Nat} {s s':St},s.shutAll tk ks vs=some (cl,tk',s')->vs.length=ks.length
 | [],[],cl,tk,tk',s,s',h=>rfl
 | [],_::_,cl,tk,tk',s,s',h=>by simp [St.shutAll] at h
 | _::_,[],cl,tk,tk',s,s',h=>by simp [St.shutAll] at h
 | k::ks,a::vs,cl,tk,tk',s,s',h=>by
  have norm:((a.norm k).bind fun x=>(s.shutAll tk ks vs).bind fun y=>some (x::y.1,y.2))=some (cl,tk',s')->(a::vs).length=(k::ks).length:=by
   intro h
   cases hq:a.norm k with
   | none=>rw [hq] at h; cases h
   | some x =>
    rw [hq] at h
    simp only [Z] at h
    cases hc:s.shutAll tk ks vs with
    | none=>rw [hc] at h; cases h
    | some y=>obtain ⟨y1,y2,y3⟩:=y; simp [PD hc]
  cases a with
  | row i =>
   simp only [St.shutAll] at h
   split at h
   ·cases h
   ·split at h
    ·split at h
     ·cases hc:s.shutAll (i::tk) ks vs with
      | none=>rw [hc] at h; cases h
      | some y=>obtain ⟨y1,y2,y3⟩:=y; simp [PD hc]
     ·cases h
    ·cases hk:s.keep (.row i) with
     | none=>rw [hk] at h; cases h
     | some x =>
      rw [hk] at h
      simp only [Z] at h
      cases hc:x.2.shutAll tk ks vs with
      | none=>rw [hc] at h; cases h
      | some y=>obtain ⟨y1,y2,y3⟩:=y; simp [PD hc]
  | ptr i o =>
   cases o with
   | zero =>
    simp only [St.shutAll] at h
    split at h
    ·cases h
    ·split at h
     ·split at h
      ·rename_i K x0 cs hi
       cases hq:Lz K.leaves cs with
       | none=>rw [hq] at h; cases h
       | some cs' =>
        rw [hq] at h
        simp only [Z] at h
        cases hc:s.shutAll (i::tk) ks vs with
        | none=>rw [hc] at h; cases h
        | some y=>obtain ⟨y1,y2,y3⟩:=y; simp [PD hc]
      ·cases h
     ·cases h
   | succ o=>exact norm h
  | _=>exact norm h
theorem eF:∀ K:Kd,K.leaves.length=K.sz
 | .int _=>rfl
 | .bool=>rfl
 | .str=>rfl
 | .slice _=>rfl
 | .pair a b=>by simp [Kd.leaves,Kd.sz,eF a,eF b]
 | .own _ _=>rfl
 | .ref _=>rfl
 | .fun _=>rfl
 | .clo _ _=>rfl
theorem tA {w:World} {φ:CG} {tmps:Array Value}:∀ {rs:List Res} {rvs:List ResultVar} {aw:List AV} {tk tk':List Nat} {s s':St} {H:HP},SR H φ s.st w->Gw H φ s.st s.fr tmps->s.result tk rs=some (aw,tk',s')->pg P rvs rs=true ->
  ∃ H' ids vs,FZ H φ w s s' tk tk' (vs.flatMap fun v=>v.cells.toList) (cellsOf aw) H' ids/\(rvs.mapM (Xg tmps)).run P w=.ok vs w/\Aq (fun a v=>∃ K,∃ x:Kd.T K,a=Kd.av K x/\ABM K v/\a.cells.length=v.cells.toList.length) aw vs
 | [],[],aw,tk,tk',s,s',H,hs,hf,h,hb=>by
  cases h
  exact ⟨H,[],[],⟨Ae.refl hs,By.refl _ _ _,rfl,rfl,rfl,rfl,fun h=>h,fun _ _=>rfl,fun _ _=>rfl,fun m b h=>by simp [cellsOf,Aw] at h,fun k f _=>rfl⟩,by simp,rfl⟩
 | [],_::_,aw,tk,tk',s,s',H,hs,hf,h,hb=>by simp [pg] at hb
 | _::_,[],aw,tk,tk',s,s',H,hs,hf,h,hb=>by simp [pg] at hb
 | r::rs,rv::rvs,aw,tk,tk',s,s',H,hs,hf,h,hb=>by
  simp only [pg,AC] at hb
  simp only [St.result] at h
  cases h1:s.resCells r with
  | none=>rw [h1] at h; cases h
  | some cs =>
   rw [h1] at h
   simp only [Z] at h
   cases h2:s.shutAll tk r.K.leaves cs with
   | none=>rw [h2] at h; cases h
   | some y =>
    obtain ⟨cl,t1,s1⟩:=y
    rw [h2] at h
    simp only [Z] at h
    cases h3:r.K.ofCells cl with
    | none=>rw [h3] at h; cases h
    | some x =>
     rw [h3] at h
     simp only [Z] at h
     cases h4:s1.result t1 rs with
     | none=>rw [h4] at h; cases h
     | some z =>
      obtain ⟨aw',t2,s2⟩:=z
      rw [h4] at h
      cases h
      obtain ⟨v,hrun,hv,hfit⟩:=vM hs hf h1 hb.1 (MB h2) ((PD h2).trans (eF _))
      obtain ⟨H1,i1,F1⟩:=Rh hs hv h2
      have ecl:cl=r.K.enc x:=by
       have:=ge r.K cl [] x F1.nf (GO h3)
       simpa using this
      have hf1:Gw H1 φ s1.st s1.fr tmps:=by rw [F1.fr]; exact hf.mono F1.step.le F1.keeps
      obtain ⟨H2,i2,vs,F2,hrun2,hall⟩:=tA F1.step.sr hf1 h4 hb.2
      have hcells:(r.K.av x).cells=cl:=by rw [Z3,ecl]
      refine ⟨H2,i1++i2,v::vs,?_,?_,⟨v,vs,rfl,⟨r.K,x,rfl,hfit,?_⟩,hall⟩⟩
      ·have:=F1.append F2
       simp only [cellsOf,List.flatMap_cons,hcells] at this ⊢
       exact this
      ·rw [List.mapM_cons]
       simp [Sem.run_bind,hrun,hrun2]
      ·have:=(F1.vals 0 (fun m=>i1.getD m 0) fun m i hm=>by simp [List.getD,hm]).length
       rw [hcells]
       rw [JV] at this
       exact this.symm
theorem Xh {w:World} {φ:CG}:∀ {bs:List (Nat×Kd)} {aw:List AV} {tk tk':List Nat} {s s':St} {H:HP},SR H φ s.st w->s.shutBoxes tk bs=some (aw,tk',s') ->
  ∃ (H':HP) (ids:List Nat) (us:List (List Value)),FZ H φ w s s' tk tk' us.flatten (Bh aw) H' ids/\Aq (fun a u=>a.cellsO.length=u.length) aw us/\aw.length=bs.length/\(∀ (j:Nat) (v:AV),aw[j]? = some v->∃ p,bs[j]? = some p/\p.2.noRef=true/\∃ x:Kd.T p.2,v=Kd.av p.2 x) /\
   ∀ (j:Nat) (p:Nat×Kd),bs[j]? = some p->(p.2.isOwn=false/\Ak s'.st p.1=true/\∃ (b:Nat) (c:Array Value) (el:TypeId),φ p.1=.pointer (some ⟨b,0,none⟩)/\w.heap[b]? = some (.cells c el (0,0))/\us[j]? = some c.toList) \/
    (∃ (t:TypeId) (e:Kd),∃ xs:List (Kd.T e),p.2=.own t e/\s'.st[p.1]? = some (AS.mrow t e xs)/\aw[j]? = some (.new t e xs))
 | [],aw,tk,tk',s,s',H,hs,h=>by
  cases h
  exact ⟨H,[],[],⟨Ae.refl hs,By.refl _ _ _,rfl,rfl,rfl,rfl,fun h=>h,fun _ _=>rfl,fun _ _=>rfl,fun m b h=>by simp [Bh,Aw] at h,fun k f _=>rfl⟩,rfl,rfl,fun j v h=>by simp at h,fun j p h=>by simp at h⟩
 | (b,K)::bs,aw,tk,tk',s,s',H,hs,h=>by
  simp only [St.shutBoxes] at h
  split at h
  ·rename_i t e xs hm
   split at h
   ·rename_i hK
    subst hK
    cases h4:s.shutBoxes tk bs with
    | none=>rw [h4] at h; cases h
    | some z =>
     obtain ⟨aw',t2,s2⟩:=z
     rw [h4] at h
     cases h
     obtain ⟨H2,i2,us,F2,hl,hn,hk,hb⟩:=Xh hs h4
     refine ⟨H2,i2,[]::us,F2,⟨[],us,rfl,rfl,hl⟩,by simp [hn],fun j v hj=>?_,fun j p hj=>?_⟩
     ·cases j with
      | zero=>simp at hj; subst hj; exact ⟨(b,.own t e),rfl,rfl,xs,rfl⟩
      | succ j=>simpa using hk j v (by simpa using hj)
     ·cases j with
      | zero =>
       simp at hj
       subst hj
       exact .inr ⟨t,e,xs,rfl,by rw [F2.vars b (by simp only [AW,hm]; rfl)]; exact hm,rfl⟩
      | succ j=>simpa using hb j p (by simpa using hj)
   ·cases h
  ·rename_i cs hcs
   split at h
   case isFalse=>cases h
   rename_i hnr2
   simp only [AC,EL] at hnr2
   obtain ⟨hnr,hno⟩:=hnr2
   cases h2:s.shutAll tk K.leaves cs with
   | none=>rw [h2] at h; cases h
   | some y =>
    obtain ⟨cl,t1,s1⟩:=y
    rw [h2] at h
    simp only [Z] at h
    cases h3:K.ofCells cl with
    | none=>rw [h3] at h; cases h
    | some x =>
     rw [h3] at h
     simp only [Z] at h
     cases h4:s1.shutBoxes t1 bs with
     | none=>rw [h4] at h; cases h
     | some z =>
      obtain ⟨aw',t2,s2⟩:=z
      rw [h4] at h
      cases h
      obtain ⟨b0,c,el,e1,e2,e3⟩:=yU hs hcs
      obtain ⟨H1,i1,F1⟩:=Rh hs e3 h2
      have ecl:cl=K.enc x:=by
       have:=ge K cl [] x F1.nf (GO h3)
       simpa using this
      obtain ⟨H2,i2,us,F2,hl,hn,hk,hb⟩:=Xh F1.step.sr h4
      have hcells:(K.av x).cellsO=cl:=by rw [(JX x hno).1,ecl]
      have hlen:cl.length=c.toList.length:=by
       have:=(F1.vals 0 (fun m=>i1.getD m 0) fun m i hm=>by simp [List.getD,hm]).length
       rw [JV] at this
       exact this.symm
      refine ⟨H2,i1++i2,c.toList::us,?_,⟨c.toList,us,rfl,by simp only [hcells]; exact hlen,hl⟩,by simp [hn],fun j v hj=>?_,fun j p hj=>?_⟩
      ·have:=F1.append F2
       simp only [Bh,List.flatMap_cons,hcells,List.flatten_cons] at this ⊢
       exact this
      ·cases j with
       | zero=>simp at hj; subst hj; exact ⟨(b,K),rfl,hnr,x,rfl⟩
       | succ j=>simpa using hk j v (by simpa using hj)
      ·cases j with
       | zero =>
        simp at hj
        subst hj
        refine .inl ⟨hno,?_,b0,c,el,e1,e2,rfl⟩
        have v0:Ak s.st b=true:=by simp only [Ak,hcs]
        have g1:=F1.vars b (XX v0)
        have v1:Ak s1.st b=true:=by unfold Ak at v0 ⊢; rw [g1]; exact v0
        have g2:=F2.vars b (XX v1)
        unfold Ak at v1 ⊢; rw [g2]; exact v1
       | succ j=>simpa using hb j p (by simpa using hj)
  ·cases h
theorem eG {R:AV->Value->Prop} (c:AV->List AV):∀ {aw:List AV} {us:List (List Value)} {k:Nat},Aq (fun a u=>(c a).length=u.length) aw us->Aq R (BQ k (aw.flatMap c)) us.flatten ->
  ∀ (j:Nat) (a:AV) (u:List Value),aw[j]? = some a->us[j]? = some u->Aq R (BQ (k+AO ((aw.take j).flatMap c)) (c a)) u
 | [],us,k,hl,h,j,a,u,ha,hu=>by simp at ha
 | a0::aw,us,k,⟨u0,us',e,l0,hl⟩,h,j,a,u,ha,hu=>by
  subst e
  simp only [List.flatMap_cons,List.flatten_cons] at h
  rw [Xc] at h
  have hlen:(BQ k (c a0)).length=u0.length:=by rw [JV]; exact l0
  have h1:Aq R (BQ k (c a0)) u0:=by
   have:=h.take (BQ k (c a0)).length
   rw [List.take_left,hlen,List.take_left] at this
   exact this
  have h2:Aq R (BQ (k+AO (c a0)) (aw.flatMap c)) us'.flatten:=by
   have:=h.drop (BQ k (c a0)).length
   rw [List.drop_left,hlen,List.drop_left] at this
   exact this
  cases j with
  | zero =>
   simp at ha hu
   subst ha hu
   simpa [AO] using h1
  | succ j =>
   have:=eG c hl h2 j a u (by simpa using ha) (by simpa using hu)
   simpa [CA,Nat.add_assoc] using this
theorem ABz:∀ (K:Kd) (cs r:List AV) (x:K.T),K.dec cs=some (x,r)->cs.all AV.nilFree=true->(K.enc x).all AV.nilFree=true:=by
 intro K cs r x h hn
 have:=ge K cs r x hn h
 rw [this,List.all_append,AC] at hn
 exact hn.1
def AV.isPtr:AV->Bool
 | .ptr _ _=>true
 | .ref _=>true
 | _=>false
theorem kR:∀ (K:Kd) (x:K.T),K.noRef=true->∀ c∈K.enc x,c.isPtr=false
 | .int _,_,_,c,h=>by simp [Kd.enc] at h; subst h; rfl
 | .bool,_,_,c,h=>by simp [Kd.enc] at h; subst h; rfl
 | .str,_,_,c,h=>by simp [Kd.enc] at h; subst h; rfl
 | .slice _,_,_,c,h=>by simp [Kd.enc] at h; subst h; rfl
 | .pair a b,x,hn,c,h=>by
  simp only [Kd.noRef,AC] at hn
  simp only [Kd.enc,CZ] at h
  rcases h with h | h
  ·exact kR a x.1 hn.1 c h
  ·exact kR b x.2 hn.2 c h
 | .own _ _,_,_,c,h=>by simp [Kd.enc] at h; subst h; rfl
 | .ref _,_,hn,_,_=>by cases hn
 | .fun _,_,_,c,h=>by simp [Kd.enc] at h; subst h; rfl
 | .clo _ _,_,_,c,h=>by simp [Kd.enc] at h; subst h; rfl
theorem nA:∀ (cs:List AV) (k:Nat),(∀ c∈cs,c.isPtr=false)->∀ a∈BQ k cs,a.isPtr=false
 | [],k,_,a,h=>by simp [BQ] at h
 | c::cs,k,hn,a,h=>by
  have h1:=hn c (by simp)
  have ih:=fun k=>nA cs k fun c hc=>hn c (by simp [hc])
  have key:∀ (d:AV) (k':Nat),d.isPtr=false->(a=d\/a∈BQ k' cs)->a.isPtr=false:=fun d k' hd h=>by
   rcases h with rfl | h
   ·exact hd
   ·exact ih k' a h
  cases c<;>simp only [BQ,BI] at h<;>first | exact key _ _ rfl h | exact absurd h1 (by simp [AV.isPtr])
theorem Ow:∀ (vs:List AV) (k:Nat),(DW k vs).length=vs.length
 | [],_=>rfl
 | v::r,k=>by simp [DW,Ow r]
theorem ph:∀ (vs:List AV) (k j:Nat) (v:AV),vs[j]? = some v->(DW k vs)[j]? = some (gI (k+AO (cellsOf (vs.take j))) v)
 | [],k,j,v,h=>by simp at h
 | u::r,k,0,v,h=>by simp at h; subst h; simp [DW,cellsOf,AO]
 | u::r,k,j+1,v,h=>by
  simp only [DW,List.getElem?_cons_succ]
  rw [ph r _ j v (by simpa using h)]
  simp [cellsOf,CA,Nat.add_assoc]
theorem ACR {H0 H:HP} {φ0 φ:CG} {w0 w:World} {s s1 s2:St} {args bs:List AV} {ids:List (Nat×Kd)} {rsv outs:List AV} {t1 t2:List Nat} {fn:Func} {ress:List Res} {tmps:Array Value}
  (hs:SR H φ s.st w) (hf:Gw H φ s.st s.fr tmps) (hfr:Fr bs.length (Bd bs args).length H0 φ0 w0 H φ s.st w) (hle:H0.le H)
  (hids:∀ (j:Nat) (p:Nat×Kd),ids[j]? = some p->p.1=j) (hbl:bs.length=ids.length)
  (hres:s.result (List.range ids.length) ress=some (rsv,t1,s1)) (hbox:s1.shutBoxes t1 ids=some (outs,t2,s2)) (hrb:pg P fn.results.toList ress=true) :
  (∀ r∈rsv++outs,r.cells.all AV.nilFree=true)/\∃ v,(results fn tmps).run P w=.ok v w/\Ov H0 φ0 w0 args bs outs rsv v w:=by
 obtain ⟨H1,i1,vs,F1,hrun,hall⟩:=tA (P:=P) hs hf hres hrb
 obtain ⟨H2,i2,us,F2,hul,hol,hok,hob⟩:=Xh F1.step.sr hbox
 have hnv:outs.length=bs.length:=by rw [hol,hbl]
 let nv:=bs.length
 let μ:Nat->Nat:=fun k=>if k<nv then k else (i2++i1).getD (k-nv) 0
 have μv:∀ k,k<nv->μ k=k:=fun k h=>by simp only [μ,h,if_true]
 have μb:∀ m i,i2[m]? = some i->μ (nv+m)=i:=fun m i hm=>by
  have hl:=(Aj.1 hm).1
  simp only [μ,show ¬ nv+m<nv by omega,if_false,Nat.add_sub_cancel_left]
  simp [List.getD,BF hl,hm]
 have μr:∀ m i,i1[m]? = some i->μ (nv+i2.length+m)=i:=fun m i hm=>by
  simp only [μ,show ¬ nv+i2.length+m<nv by omega,if_false]
  rw [show nv+i2.length+m-nv=i2.length+m by omega]
  simp [List.getD,Ci,hm]
 have hnd:(t2).Nodup:=F2.nd (F1.nd List.nodup_range)
 have ht2:t2=i2.reverse++(i1.reverse++List.range ids.length):=by rw [F2.tks,F1.tks]
 let est:=Bd outs rsv
 let φ2:CG:=fun k=>φ (μ k)
 have hc2:AO (Bh outs)=i2.length:=F2.cnt
 have hc1:AO (cellsOf rsv)=i1.length:=F1.cnt
 have elen:est.length=nv+i2.length+i1.length:=by
  show (Bd outs rsv).length=_
  rw [VL,hnv,hc2,hc1]
 have evar:∀ k,k<nv->(∃ (b:Nat) (c:Array Value) (el:TypeId) (a:AV),φ k=.pointer (some ⟨b,0,none⟩)/\w.heap[b]? = some (.cells c el (0,0))/\outs[k]? = some a/\Ak s2.st k=true /\
   est[k]? = some (.var (BQ (nv+AO (Bh (outs.take k))) a.cellsO)) /\
   Aq (fun a u=>VC H2 φ s2.st (a.ren μ) u/\(a.solid=true\/∃ m,m<i2.length/\((∃ t e,∃ xs:List (Kd.T e),a=.row (nv+m)/\(Aw (Bh outs))[m]? = some (AS.rows t e xs))\/(∃ ecs,a=.ptr (nv+m) 0/\(Aw (Bh outs))[m]? = some (AS.var ecs)))))
    (BQ (nv+AO (Bh (outs.take k))) a.cellsO) c.toList)\/(∃ (t:TypeId) (e:Kd),∃ xs:List (Kd.T e),s2.st[k]? = some (AS.mrow t e xs)/\est[k]? = some (AS.mrow t e xs)):=by
  intro k hk
  have hk2:k<ids.length:=by omega
  have hp:ids[k]? = some ids[k]:=by simp
  have hk3:k<outs.length:=by omega
  have ha:outs[k]? = some outs[k]:=by simp
  have hget:est[k]? = some (ut (nv+AO (Bh (outs.take k))) outs[k]):=by
   show (Bd outs rsv)[k]? = _
   rw [JW,BF (by rw [Bb]; exact hk3),L9 outs _ k _ ha,hnv]
  rcases hob k _ hp with ⟨hno,g1,b,c,el,e1,e2,e3⟩ | ⟨t,e,xs,hK,g1,g2⟩
  ·rw [hids k _ hp] at g1 e1
   refine .inl ⟨b,c,el,outs[k],e1,e2,ha,g1,?_,eG AV.cellsO hul (F2.vals nv μ μb) k _ _ ha e3⟩
   rw [hget]
   obtain ⟨p,hp2,_,x,hx⟩:=hok k _ ha
   rw [hp] at hp2
   cases hp2
   rw [hx,(JX x hno).2,(JX x hno).1]
  ·rw [hids k _ hp] at g1
   rw [ha] at g2
   refine .inr ⟨t,e,xs,g1,?_⟩
   rw [hget,Option.some.inj g2]
   rfl
 have erow:∀ k b,nv<=k->est[k]? = some b->s_ s2.st (μ k) b/\(i2++i1)[k-nv]? = some (μ k):=by
  intro k b hk hb
  have hb:(Bd outs rsv)[k]? = some b:=hb
  rw [JW,Ci (by rw [Bb,hnv]; exact hk),Bb,hnv,CN] at hb
  rcases B6 (k-bs.length) (Aw (Bh outs)).length with h | h
  ·rw [BF h] at hb
   obtain ⟨i,g1,g2⟩:=F2.boxes _ b hb
   have e:=μb _ i g1
   rw [show nv+(k-bs.length)=k by omega] at e
   rw [e]
   exact ⟨g2,by rw [BF (Aj.1 g1).1]; exact g1⟩
  ·rw [Ci h] at hb
   obtain ⟨i,g1,g2⟩:=F1.boxes _ b hb
   rw [EM,hc2] at h g1
   have e:=μr _ i g1
   rw [show nv+i2.length+(k-bs.length-i2.length)=k by omega] at e
   rw [e]
   refine ⟨?_,by rw [Ci h]; exact g1⟩
   have hh:=F2.held i (by rw [F1.tks]; simp [List.mem_of_getElem? g1])
   unfold s_ at g2 ⊢
   rw [hh]
   exact g2
 have rowsE:∀ m t e (xs:List (Kd.T e)),(Aw (Bh outs))[m]? = some (AS.rows t e xs)->est[nv+m]? = some (AS.rows t e xs):=by
  intro m t e xs h
  show (Bd outs rsv)[nv+m]? = _
  have hl:=(Aj.1 h).1
  rw [JW,Ci (by rw [Bb,hnv]; exact Nat.le_add_right _ _),Bb,hnv,CN,show nv+m-bs.length=m by simp only [nv]; omega,BF hl]
  exact h
 have restE:∀ m b,(Aw (cellsOf rsv))[m]? = some b->est[nv+i2.length+m]? = some b:=by
  intro m b h
  show (Bd outs rsv)[nv+i2.length+m]? = _
  rw [JW,Ci (by rw [Bb,hnv]; simp only [nv]; omega),Bb,hnv,CN,Ci (by rw [EM,hc2]; simp only [nv]; omega),EM,hc2,
   show nv+i2.length+m-bs.length-i2.length=m by simp only [nv]; omega]
  exact h
 have hs2:=F2.step.sr
 have μt:∀ k,k<est.length->(k<nv/\μ k=k)\/(nv<=k/\(i2++i1)[k-nv]? = some (μ k)):=by
  intro k hk
  rcases B6 k nv with h | h
  ·exact .inl ⟨h,μv k h⟩
  ·exact .inr ⟨h,(erow k est[k] h (by simp)).2⟩
 have μinj:∀ k k',k<est.length->k'<est.length->μ k=μ k'->k=k':=by
  intro k k' hk hk' e
  have hndl:(i2++i1).Nodup/\∀ i∈i2++i1,¬ i<ids.length:=by
   rw [ht2,<- Be] at hnd
   have h1:=List.nodup_append.1 hnd
   constructor
   ·have h2:=List.nodup_append.1 h1.1
    exact List.nodup_append.2 ⟨(List.reverse_perm i2).nodup_iff.1 h2.1,(List.reverse_perm i1).nodup_iff.1 h2.2.1,fun a ha b hb=>h2.2.2 a (by simpa using ha) b (by simpa using hb)⟩
   ·intro i hi hlt
    exact h1.2.2 i (by simpa using hi) i (List.mem_range.2 hlt) rfl
  rcases μt k hk with ⟨h1,e1⟩ | ⟨h1,e1⟩<;>rcases μt k' hk' with ⟨h2,e2⟩ | ⟨h2,e2⟩
  ·omega
  ·exact absurd (show μ k'<ids.length by rw [<- e,e1]; omega) (hndl.2 _ (List.mem_of_getElem? e2))
  ·exact absurd (show μ k<ids.length by rw [e,e2]; omega) (hndl.2 _ (List.mem_of_getElem? e1))
  ·rw [<- e] at e2
   have:=(List.getElem?_inj (Aj.1 e1).1 hndl.1).1 (e1.trans e2.symm)
   omega
 have vcE:∀ a u,VC H2 φ s2.st (a.ren μ) u->(a.solid=true\/(∃ k t e,∃ xs:List (Kd.T e),a=.row k/\est[k]? = some (AS.rows t e xs))\/∃ k ecs,a=.ptr k 0/\est[k]? = some (AS.var ecs))->VC H2 φ2 est a u:=by
  intro a u hv hc
  rcases hc with h | ⟨k,t,e,xs,rfl,hk⟩ | ⟨k,ecs,rfl,hk⟩
  ·rw [kQ h] at hv
   exact VC.of_VF (hv.solid h)
  ·obtain ⟨e1,_⟩:=hv
   exact ⟨e1,by simp only [AN,hk]; rfl⟩
  ·obtain ⟨_,b,e1,e2⟩:=hv
   exact ⟨by simp only [Ak,hk],b,e1,e2⟩
 have hbox2:∀ k b,est[k]? = some b->L6 H2 w (φ2 k) b:=by
  intro k b hk
  rcases B6 k nv with h | h
  ·rcases evar k h with ⟨b0,c,el,a,e1,e2,e3,_,e4,e5⟩ | ⟨t,e,xs,e1,e2⟩
   rotate_left
   ·rw [hk] at e2
    cases e2
    rw [show φ2 k=φ k by simp only [φ2,μv k h]]
    exact hs2.box k _ e1
   rw [hk] at e4
   cases e4
   obtain ⟨p,hp,hnr,x,hx⟩:=hok k a e3
   refine ⟨b0,c,el,by simp only [φ2,μv k h]; exact e1,e2,e5.impM fun a' ha' u ⟨g1,g2⟩=>?_⟩
   have hnp:=nA _ _ (by
    intro c hc
    rw [hx] at hc
    by_cases ho:p.2.isOwn=true
    ·revert x
     obtain ⟨t,e,ho⟩:=pU ho
     rw [ho]
     intro x _ hc
     simp [pV x] at hc
    ·rw [(JX x (by simpa using ho)).1] at hc
     exact kR _ _ hnr c hc) a' ha'
   rcases g2 with g2 | ⟨m,_,⟨t,e,xs,rfl,_⟩ | ⟨ecs,rfl,g3⟩⟩
   ·rw [kQ g2] at g1
    exact VW.of_VF (g1.solid g2)
   ·trivial
   ·cases hnp
  ·obtain ⟨g1,_⟩:=erow k b h hk
   rcases g1 with ⟨t,e,xs,g2,rfl⟩ | ⟨cs,ecs,g2,rfl,g3,g4⟩
   ·exact hs2.box _ _ g2
   ·obtain ⟨b0,c,el,e1,e2,e3⟩:=hs2.box _ _ g2
    refine ⟨b0,c,el,e1,e2,S8 (by rw [e3.length,g3]) fun o a u ha hu=>?_⟩
    obtain ⟨c0,c1,c2,c3,c4⟩:=g4 o a ha
    have hw:=e3.at c1 hu
    have hf:VF H2 c0 u:=by cases c0<;>first | exact hw | cases c3
    exact VW.of_VF (c4 H2 u hf)
 have hlive:∀ (k:Nat) (b2:AS),est[k]? = some b2->b2.live=true->DZ (φ2 k)=none\/∃ b,s2.st[μ k]? = some b/\b.live=true/\φ2 k=φ (μ k):=by
  intro k b hk _
  right
  rcases B6 k nv with h | h
  ·rw [μv k h]
   rcases evar k h with ⟨_,_,_,_,_,_,_,e3,_⟩ | ⟨t,e,xs,e1,_⟩
   ·unfold Ak at e3
    split at e3
    ·rename_i cs e; exact ⟨_,e,rfl,by simp only [φ2,μv k h]⟩
    ·cases e3
   ·exact ⟨_,e1,rfl,by simp only [φ2,μv k h]⟩
  ·obtain ⟨g1,_⟩:=erow k b h hk
   rcases g1 with ⟨t,e,xs,g2,_⟩ | ⟨cs,ecs,g2,_⟩
   ·exact ⟨_,g2,rfl,rfl⟩
   ·exact ⟨_,g2,rfl,rfl⟩
 have hsr:SR H2 φ2 est w:=by
  refine Ae.pick hs2 μ hbox2 hlive (fun k k' b b' hk hk' _ _ _ _ e=>μinj k k' (Aj.1 hk).1 (Aj.1 hk').1 e) (fun k cs hk o i ho=>?_)
  rcases B6 k nv with h | h
  ·rcases evar k h with ⟨b0,c,el,a,e1,e2,e3,_,e4,e5⟩ | ⟨t,e,xs,_,e2⟩
   rotate_left
   ·rw [hk] at e2; cases e2
   rw [hk] at e4
   cases e4
   obtain ⟨u,hu,g1,g2⟩:=e5.get o _ ho
   rcases g2 with g2 | ⟨m,_,⟨t,e,xs,g3,g4⟩ | ⟨ecs,g3,_⟩⟩
   ·cases g2
   ·cases g3
    refine ⟨by simp only [AN,rowsE m t e xs g4]; rfl,b0,by simp only [φ2,μv k h]; exact e1,?_⟩
    obtain ⟨g5,_⟩:=g1
    simp only [World.cell?,e2]
    rw [Array.getElem?_toList] at hu
    simp only [Option.isSome_none,Bool.false_eq_true,if_false,hu]
    rw [g5]
   ·cases g3
  ·obtain ⟨g1,_⟩:=erow k _ h hk
   rcases g1 with ⟨t,e,xs,_,g3⟩ | ⟨cs0,ecs,g2,g3,_,g4⟩
   ·cases g3
   ·cases g3
    obtain ⟨_,_,g5,_⟩:=g4 o _ ho
    cases g5
 have hfr2:Fr bs.length (Bd bs args).length H0 φ0 w0 H2 φ2 est w:=by
  have f2:=F2.step.fr _ _ _ _ _ (F1.step.fr _ _ _ _ _ hfr)
  refine ⟨f2.os,f2.tape,f2.output,f2.size,f2.old,fun j hj=>?_,fun i bi hi hl b hb=>?_,fun j hj=>?_,f2.frz⟩
  ·have:=f2.same j hj
   simp only [φ2,μv j hj]
   exact this
  ·rcases hlive i bi hi hl with e | ⟨b1,g1,g2,g3⟩
   ·rw [e] at hb; cases hb
   ·rw [g3] at hb
    exact f2.new _ b1 g1 g2 b hb
  ·rcases evar j hj with ⟨_,_,_,_,_,_,_,_,e4,_⟩ | ⟨t,e,xs,_,e4⟩
   ·simp only [AW,e4]; rfl
   ·simp only [AW,e4]; rfl
 have hhan:Fe outs=nv+i2.length:=by rw [kH,hnv,hc2]
 have hvals:Aq (VB H2 φ2 est) (DW (Fe outs) rsv) vs:=by
  rw [hhan]
  have h1:=F1.vals (nv+i2.length) μ μr
  have h2:Aq (VC H2 φ2 est) (BQ (nv+i2.length) (cellsOf rsv)) (vs.map fun v=>v.cells.toList).flatten:=by
   rw [<- List.flatMap_def]
   refine h1.imp fun a u ⟨g1,g2⟩=>vcE a u (g1.mono F2.step.le F2.keeps) ?_
   rcases g2 with g2 | ⟨m,_,⟨t,e,xs,g3,g4⟩ | ⟨ecs,g3,g4⟩⟩
   ·exact .inl g2
   ·exact .inr (.inl ⟨_,t,e,xs,g3,restE m _ g4⟩)
   ·exact .inr (.inr ⟨_,ecs,g3,restE m _ g4⟩)
  have h3:Aq (fun a u=>a.cells.length=u.length) rsv (vs.map fun v=>v.cells.toList):=by
   refine S8 (by rw [List.length_map,hall.length]) fun j a u ha hu=>?_
   rw [CT] at hu
   obtain ⟨v,hv,_,_,_,_,hl⟩:=hall.get j a ha
   rw [hv] at hu
   cases hu
   exact hl
  refine S8 (by rw [Ow,hall.length]) fun j a v ha hv=>?_
  have hj:j<rsv.length:=by rw [<- Ow rsv (nv+i2.length)]; exact (Aj.1 ha).1
  have hr:rsv[j]? = some rsv[j]:=by simp
  rw [ph rsv _ j _ hr] at ha
  cases ha
  have h4:=eG AV.cells h3 h2 j rsv[j] v.cells.toList hr (by rw [CT,hv]; rfl)
  obtain ⟨v',hv',K,x,hK,hfit,_⟩:=hall.get j _ hr
  rw [hv] at hv'
  cases hv'
  rw [hK] at h4 ⊢
  change Aq _ (BQ (nv+i2.length+AO (cellsOf (List.take j rsv))) _) _ at h4
  generalize nv+i2.length+AO (cellsOf (List.take j rsv))=kk at h4 ⊢
  have single:(K.av x).cells=[K.av x]->v.cells=#[v]->gI kk (K.av x)=(BQ kk [K.av x]).headD .undef->VB H2 φ2 est (gI kk (K.av x)) v:=by
   intro e1 e2 e3
   rw [e1,e2] at h4
   rw [e3]
   cases hq:BQ kk [K.av x] with
   | nil=>rw [hq] at h4; simp [Aq] at h4
   | cons c r =>
    rw [hq] at h4
    obtain ⟨v',r',e,h5,_⟩:=h4
    cases e
    exact VB.of_VC h5
  cases K with
  | pair k l =>
   obtain ⟨arr,rfl⟩:=hfit
   exact ⟨arr,rfl,h4⟩
  | _=>exact single rfl hfit rfl
 have nfs:∀ {l:List AV},(cellsOf l).all AV.nilFree=true->∀ r∈l,r.cells.all AV.nilFree=true:=by
  intro l h r hr
  refine Bf.2 fun c hc=>Bf.1 h c ?_
  exact List.mem_flatMap.2 ⟨r,hr,hc⟩
 refine ⟨fun r hr=>?_,match vs with | [v]=>v | vs=>.tuple vs.toArray,?_,H2,φ2,HP.le_trans hle (HP.le_trans F1.step.le F2.step.le),hsr,hfr2,?_⟩
 ·rcases CZ.1 hr with h | h
  ·exact nfs F1.nf r h
  ·obtain ⟨j,hj⟩:=List.mem_iff_getElem?.1 h
   obtain ⟨p,_,_,x,hx⟩:=hok j r hj
   by_cases ho:p.2.isOwn=true
   ·subst hx
    revert x
    obtain ⟨t,e,ho⟩:=pU ho
    rw [ho]
    intro x
    intros
    rfl
   ·refine Bf.2 fun c hc=>Bf.1 F2.nf c (List.mem_flatMap.2 ⟨r,h,?_⟩)
    subst hx
    rw [(JX x (by simpa using ho)).1]
    rw [Z3] at hc
    exact hc
 ·have hm:(fn.results.mapM (Xg tmps)).run P w=.ok vs.toArray w:=by
   rw [Array.mapM_eq_mapM_toList,<- bind_pure_comp,Sem.run_bind,hrun]
   rfl
  have hr:results fn tmps=(fn.results.mapM (Xg tmps)) >>= fun vs=>pure (if h:vs.size=1 then vs[0] else .tuple vs):=by
   unfold results
   first | rfl | (congr 1; done) | (congr 1; congr 1; done) | (congr 1; congr 1; funext rv; cases rv<;>rfl)
  rw [hr,Sem.run_bind,hm]
  cases vs with
  | nil=>rfl
  | cons v vs =>
   cases vs with
   | nil=>rfl
   | cons v2 vs=>rfl
 ·cases vs with
  | nil =>
   have:rsv=[]:=by
    have:=hall.length
    exact DV.1 (by simpa using this.symm)
   subst this
   exact ⟨_,rfl,rfl⟩
  | cons v vs =>
   cases vs with
   | nil =>
    have h1:rsv.length=1:=by have:=hall.length; simpa using this.symm
    obtain ⟨a,rfl⟩:=List.length_eq_one_iff.1 h1
    obtain ⟨v',r,e,h2,_⟩:=hvals
    cases e
    exact h2
   | cons v2 vs =>
    have h1:rsv.length=vs.length+2:=by have:=hall.length; simpa using this.symm
    obtain ⟨a,b,r,rfl⟩:∃ a b r,rsv=a::b::r:=by
     match rsv,h1 with
     | a::b::r,_=>exact ⟨a,b,r,rfl⟩
    exact ⟨_,rfl,hvals⟩
def Kd.sol:Kd->Bool
 | .pair a b=>a.sol&&b.sol
 | .own _ _ | .ref _=>false
 | _=>true
def Kd.okOut:Kd->Bool
 | .pair a b=>a.okOut&&b.okOut
 | .ref K=>K.sol
 | _=>true
theorem tt:∀ (K:Kd) (x:K.T),K.sol=true->(K.enc x).all (fun c=>c.solid&&(match c with | .nil=>false | _=>true))=true
 | .int _,_,_=>rfl
 | .bool,_,_=>rfl
 | .str,_,_=>rfl
 | .slice _,_,_=>rfl
 | .pair a b,x,h=>by
  simp only [Kd.sol,AC] at h
  simp only [Kd.enc,List.all_append,tt a x.1 h.1,tt b x.2 h.2,Bool.and_self]
 | .own _ _,_,h=>by cases h
 | .ref _,_,h=>by cases h
 | .fun _,_,_=>rfl
 | .clo _ _,_,_=>rfl
theorem kS:∀ (K:Kd) (x:K.T),K.okOut=true->(K.enc x).all AV.nilFree=true
 | .int _,_,_=>rfl
 | .bool,_,_=>rfl
 | .str,_,_=>rfl
 | .slice _,_,_=>rfl
 | .pair a b,x,h=>by
  simp only [Kd.okOut,AC] at h
  simp only [Kd.enc,List.all_append,kS a x.1 h.1,kS b x.2 h.2,Bool.and_self]
 | .own _ _,_,_=>rfl
 | .fun _,_,_=>rfl
 | .clo _ _,_,_=>rfl
 | .ref K,x,h=>by
  simp only [Kd.enc,List.all_cons,List.all_nil,Bool.and_true,AV.nilFree]
  exact tt K x h
def zi (P:Program) (f:Nat) (a:BS):Bool :=
 match P.funcs[f]? with
 | some fn=>(match fn.body with
  | some c=>!(fn.name == "runtime.NumGoroutine")&&F8 P fn.ntmps c a.body&&pg P fn.results.toList a.res&&decide (a.params.length≤fn.ntmps)&&a.outs.all Kd.okOut
  | none=>false)
 | none=>false
theorem tB:∀ (ks:List Kd) (j0:Nat),(mt ks j0).length=ks.length/\∀ (j:Nat) (p:Nat×Kd),(mt ks j0)[j]? = some p->p.1=j0+j
 | [],j0=>⟨rfl,fun j p h=>by simp [mt] at h⟩
 | k::ks,j0=>by
  obtain ⟨h1,h2⟩:=tB ks (j0+1)
  refine ⟨by simp [mt,h1],fun j p h=>?_⟩
  simp only [mt] at h
  cases j with
  | zero=>simp at h; subst h; rfl
  | succ j=>have:=h2 j p (by simpa using h); omega
theorem E5:∀ (ps:List PK) (j0 j:Nat) (p:Nat×Kd),(ER ps j0)[j]? = some p->p.1=j0+j
 | [],j0,j,p,h=>by simp [ER] at h
 | .val _::r,j0,j,p,h=>E5 r j0 j p h
 | .bor _::r,j0,j,p,h=>E5 r j0 j p h
 | .mov _::r,j0,j,p,h=>E5 r j0 j p h
 | .movS _::r,j0,j,p,h=>E5 r j0 j p h
 | .cap _ _::r,j0,j,p,h=>E5 r j0 j p h
 | .cap0 _::r,j0,j,p,h=>E5 r j0 j p h
 | .ptr K::r,j0,j,p,h=>by
  simp only [ER] at h
  cases j with
  | zero=>simp at h; subst h; rfl
  | succ j=>have:=E5 r (j0+1) j p (by simpa using h); omega
 | .mut K::r,j0,j,p,h=>by
  simp only [ER] at h
  obtain ⟨hl,hm⟩:=tB K.owns j0
  rcases B6 j (mt K.owns j0).length with h1 | h1
  ·rw [BF h1] at h; exact hm j p h
  ·rw [Ci h1,hl] at h
   rw [hl] at h1
   have:=E5 r _ _ p h
   omega
theorem nB:∀ (vs:List AV) (i t:Nat),F7 (RG i vs) t=if i<=t/\t<i+vs.length then vs.getD (t-i) .undef else .undef
 | [],i,t=>by simp [RG,F7]
 | v::vs,i,t=>by
  simp only [RG,F7]
  by_cases h:i=t
  ·subst h
   rw [if_pos rfl,if_pos ⟨Nat.le_refl _,by simp⟩]
   simp
  ·rw [if_neg h,nB vs (i+1) t]
   by_cases h1:i+1<=t/\t<i+1+vs.length
   ·rw [if_pos h1,if_pos ⟨by omega,by simp; omega⟩,show t-i=(t-(i+1))+1 by omega]
    simp
   ·rw [if_neg h1,if_neg (by simp; omega)]
theorem tC:∀ {rs:List Res} {aw:List AV} {tk tk':List Nat} {s s':St},s.result tk rs=some (aw,tk',s')->aw.length=rs.length
 | [],aw,tk,tk',s,s',h=>by cases h; rfl
 | r::rs,aw,tk,tk',s,s',h=>by
  simp only [St.result] at h
  cases h1:s.resCells r with
  | none=>rw [h1] at h; cases h
  | some cs =>
   rw [h1] at h
   simp only [Z] at h
   cases h2:s.shutAll tk r.K.leaves cs with
   | none=>rw [h2] at h; cases h
   | some y =>
    rw [h2] at h
    simp only [Z] at h
    cases h3:r.K.ofCells y.1 with
    | none=>rw [h3] at h; cases h
    | some x =>
     rw [h3] at h
     simp only [Z] at h
     cases h4:y.2.2.result y.2.1 rs with
     | none=>rw [h4] at h; cases h
     | some z =>
      obtain ⟨aw',t2,s2⟩:=z
      rw [h4] at h
      cases h
      simp [tC h4]
theorem ABN {cal:GM} {k f:Nat} {a:BS} {args bs rs:List AV} (hcal:I9 P cal) (hb:zi P f a=true) (hl:args.length=a.params.length/\bs.length=(ER a.params 0).length)
  (h:(xE cal k a args bs).map (Dw a.outs)=some rs):kI P f/\(∀ r∈rs,r.cells.all AV.nilFree=true)/\∃ n,n+bs.length=rs.length /\
  ∀ (H:HP) (φ:CG) (w:World) (cargs:List Value),SR H φ (Bd bs args) w->Aq (VB H φ (Bd bs args)) (DW (Fe bs) args) cargs ->
   Calls P f cargs.toArray w fun out w'=>match out with
    | .returned v=>Ov H φ w args bs (rs.drop n) (rs.take n) v w'
    | _=>False:=by
 unfold zi at hb
 split at hb
 case h_2=>cases hb
 rename_i fn hfn
 split at hb
 case h_2=>cases hb
 rename_i c hc
 simp only [AC,EL,decide_eq_true_eq] at hb
 obtain ⟨⟨⟨⟨hname,hcode⟩,hress⟩,hlen⟩,hout⟩:=hb
 cases hr:xE cal k a args bs with
 | none=>rw [hr] at h; cases h
 | some r =>
 rw [hr] at h
 simp only [Option.map_some,BG] at h
 subst h
 have hol:a.outs.length=a.res.length+bs.length:=by rw [hl.2]; simp [BS.outs]
 have el:(Dw a.outs r).length=a.outs.length:=by
  have:∀ (Ks:List Kd) (y:RT Ks),(Dw Ks y).length=Ks.length:=by
   intro Ks
   induction Ks with
   | nil=>intro y; rfl
   | cons K Ks ih =>
    intro y
    cases Ks with
    | nil=>rfl
    | cons L Ks=>simp only [Dw,List.length_cons] at ih ⊢; rw [ih y.2]
  exact this _ _
 refine ⟨⟨fn,c,hfn,hname,hc⟩,fun q hq=>?_,a.res.length,by rw [el,hol],fun H φ w cargs hs hargs=>?_⟩
 ·obtain ⟨j,hj⟩:=List.mem_iff_getElem?.1 hq
  have hjl:j<a.outs.length:=by rw [<- el]; exact (Aj.1 hj).1
  obtain ⟨x,hx⟩:=kL a.outs r j a.outs[j] (by simp)
  rw [hx] at hj
  cases hj
  rw [Z3]
  exact kS _ _ (Bf.1 hout _ (BW hjl))
 ·have hcl:cargs.length=args.length:=by rw [hargs.length,Ow]
  have hsz:(cargs.toArray++Array.replicate (fn.ntmps-cargs.toArray.size) undef).size=fn.ntmps:=by
   simp only [Array.size_append,List.size_toArray,Array.size_replicate]
   omega
  have hf0:Gw H φ (Bd bs args) (RG 0 (DW (Fe bs) args)) (cargs.toArray++Array.replicate (fn.ntmps-cargs.toArray.size) undef):=by
   intro t
   rw [nB]
   split
   ·rename_i ht
    have ht2:t<(DW (Fe bs) args).length:=by omega
    have h1:(DW (Fe bs) args)[t]? = some (DW (Fe bs) args)[t]:=by simp
    obtain ⟨v,hv,hvb⟩:=hargs.get t _ h1
    have e1:(DW (Fe bs) args).getD (t-0) .undef=(DW (Fe bs) args)[t]:=by simp [List.getD,ht2]
    have ht3:t<cargs.length:=(Aj.1 hv).1
    have e2:(cargs.toArray++Array.replicate (fn.ntmps-cargs.toArray.size) undef).getD t undef=v:=by
     rw [Array.getD_eq_getD_getElem?,Array.getElem?_append_left (by simpa using ht3)]
     simp only [List.getElem?_toArray,hv,Option.getD_some]
    rw [e1,e2]
    exact VA.of_VB hvb
   ·trivial
  have fr0:Fr bs.length (Bd bs args).length H φ w H φ (Bd bs args) w:=by
   refine ⟨rfl,rfl,rfl,Nat.le_refl _,fun _ _ _=>rfl,fun _ _=>rfl,fun i bi hi _ b hb=>.inr ⟨i,(Aj.1 hi).1,hb⟩,fun j hj=>?_,fun _ _ _=>rfl⟩
   have hv:bs[j]? = some bs[j]:=by simp
   unfold AW
   rw [JW,BF (by rw [Bb]; exact hj),L9 bs _ j _ hv]
   generalize bs[j]=v
   cases v<;>rfl
  have fin:m_ fn.ntmps (AE a) r ⟨RG 0 (DW (Fe bs) args),Bd bs args⟩ { tmps:=cargs.toArray++Array.replicate (fn.ntmps-cargs.toArray.size) undef,defers:=[] } w H φ
    (fun act' w'=>act'.defers=[]/\∃ v,(results fn act'.tmps).run P w'=.ok v w'/\Ov H φ w args bs ((Dw a.outs r).drop a.res.length) ((Dw a.outs r).take a.res.length) v w'):=by
   intro s' act' w' H' φ' hk hst hf' hn' hd'
   refine ⟨hd',?_⟩
   unfold AE at hk
   cases h1:s'.result (List.range (ER a.params 0).length) a.res with
   | none=>rw [h1] at hk; cases hk
   | some y =>
    obtain ⟨rsv,t1,s1⟩:=y
    rw [h1] at hk
    simp only [Z] at hk
    cases h2:s1.shutBoxes t1 (ER a.params 0) with
    | none=>rw [h2] at hk; cases hk
    | some z =>
     obtain ⟨outs,t2,s2⟩:=z
     rw [h2] at hk
     simp only [Z] at hk
     obtain ⟨nf,v,hv,hend⟩:=ACR (P:=P) (args:=args) hst.sr hf' (hst.fr _ _ _ _ _ fr0) hst.le (fun j p hp=>by have:=E5 a.params 0 j p hp; omega) hl.2 h1 h2 hress
     have henc:=sw _ _ r hk nf
     have hrl:=tC h1
     rw [henc,<- hrl,List.drop_left,List.take_left]
     exact ⟨v,hv,hend⟩
  have hwp:=ABK (P:=P) (n:=fn.ntmps) (k:=k) hcal a.body c hcode (RT a.outs) (AE a) (AE a) (fun _ _=>none) r ⟨RG 0 (DW (Fe bs) args),Bd bs args⟩
   { tmps:=cargs.toArray++Array.replicate (fn.ntmps-cargs.toArray.size) undef,defers:=[] } w H φ
   (bodyPost P fn fun out w'=>match out with
    | .returned v=>Ov H φ w args bs ((Dw a.outs r).drop a.res.length) ((Dw a.outs r).take a.res.length) v w'
    | _=>False) hs hf0 hsz hr fin fin (fun i s' act' w' H' φ' hk=>by cases hk)
  exact calls_of_wp hfn hc hwp
def Ax (P:Program) (f:Nat) (a:BS):Bool:=(decide (f<Bg)||decide (2*Bg<=f))&&zi P (f % Bg) a
def zj (P:Program) (fns:Nat->Option BS):Prop:=∀ f a,fns f=some a->Ax P f a=true
theorem vN {fns:Nat->Option BS} {prims:GM} (ht:zj P fns) (hp:I9 P prims):∀ k,I9 P (gO fns prims k)
 | 0=>⟨fun f k t T _ h=>(by cases h),fun f args bs rs _ h=>by cases h⟩
 | k+1=>⟨fun f q t T hf h=>(by
  simp only [gO] at h
  split at h
  ·rename_i a ha
   have:=ht _ a ha
   simp only [Ax,AC,Dy,decide_eq_true_eq] at this
   omega
  ·exact hp.1 f q t T hf h),fun f args bs rs hlt h=>by
  simp only [gO] at h
  split at h
  ·rename_i a ha
   split at h
   ·rename_i hl
    exact ABN (vN ht hp k) (by have:=ht f a ha; simp only [Ax,AC] at this; exact this.2) hl h
   ·cases h
  ·exact hp.2 f args bs rs hlt h⟩
end Go.Proofs.YtfcgblnlopemkaaGreatDoor.Core

namespace Go.Proofs.YtfcgblnlopemkaaGreatDoor.Core
open Go
def Kd.ok:(K:Kd)->K.T->Prop
 | .int k,n=>k.min<=n/\n<=k.max
 | .bool,_=>True
 | .str,s=>s.size<=maxLen
 | .slice e,xs=>xs.length<=maxLen/\∀ x∈xs,Kd.ok e x
 | .pair a b,x=>a.ok x.1/\b.ok x.2
 | .own _ _,_=>False
 | .ref _,_=>False
 | .fun _,_=>False
 | .clo _ _,_=>False
mutual
def dj (P:Program):Nat->TypeId->Kd->Bool
 | 0,_,_=>false
 | D+1,t,K=>match P.underlying t with
  | some (.int k)=>(match K with | .int k'=>decide (k=k') | _=>false)
  | some .bool=>(match K with | .bool=>true | _=>false)
  | some .string=>(match K with | .str=>true | _=>false)
  | some (.slice te)=>(match K with | .slice e=>P.cellsOf te==e.sz&&dj P D te e | _=>false)
  | some (.struct fs)=>P.cellsOf t==K.sz&&(match K with | .pair _ _=>true | _=>false)&&Xi P D fs.toList 0 K
  | _=>false
def Xi (P:Program):Nat->List Field->Nat->Kd->Bool
 | 0,_,_,_=>false
 | _+1,[],_,_=>false
 | D+1,[f],off,K=>f.offset==off&&P.cellsOf f.type==K.sz&&dj P D f.type K
 | D+1,f::g::fs,off,K=>match K with
  | .pair a b=>f.offset==off&&P.cellsOf f.type==a.sz&&dj P D f.type a&&Xi P D (g::fs) (off+a.sz) b
  | _=>false
end
def TD (w:World):HP:=fun b=>w.heap[b]?
theorem pj {w:World} {base:Nat} {a:Addr} {n:Nat} {cs:List Value} (h:w.cells? base a n=some cs):cs.length=n/\∀ i,i<n->w.cell? (a.add i)=cs[i]? := by
 unfold World.cells? at h
 split at h
 ·exact ⟨by simpa using mapM_some_length h,fun i hi=>mapM_some_get h i i (by simp [hi])⟩
 ·cases h
theorem tD (a:Addr):a.add 0=a:=by unfold Addr.add; split<;>simp_all
theorem tE {w:World} {a:Addr} {u:Value} (h:w.cell? a=some u):a=⟨a.block,a.off,none⟩/\∃ c el fz,w.heap[a.block]? = some (.cells c el fz)/\c[a.off]? = some u:=by
 obtain ⟨b,o,sp⟩:=a
 simp only [World.cell?] at h
 split at h
 ·rename_i c el fz hc
  cases sp with
  | some sp=>simp at h
  | none =>
   simp only [Option.isSome_none,Bool.false_eq_true,if_false] at h
   exact ⟨rfl,c,el,fz,hc,h⟩
 ·cases h
mutual
theorem pA {H:Type} {enc:TypeId×Value->H} {P:Program} {w:World} {base:Nat} {spare:Nat->Bool} {held:Bool}:∀ (D:Nat) (t:TypeId) (K:Kd) (fuel:Nat) (cs:List Value) (x:DataW H×List MemPlace),dj P D t K=true ->
  DataW.trod enc P w base spare held fuel t cs=some x->∃ y:K.T,GN (TD w) K y cs/\Kd.ok K y
 | 0,t,K,fuel,cs,x,h,_=>by simp [dj] at h
 | D+1,t,K,fuel,cs,x,h,hd=>by
  unfold dj at h
  split at h
  ·rename_i k hu
   cases K<;>first | cases h | skip
   simp only [decide_eq_true_eq] at h
   subst h
   obtain ⟨n,rfl,_,hw⟩:=DataW.trod_int hu hd
   simp only [Lit.wf,AC,decide_eq_true_eq] at hw
   exact ⟨n,rfl,hw⟩
  ·rename_i hu
   cases K<;>first | cases h | skip
   obtain ⟨b,rfl,_⟩:=DataW.trod_bool hu hd
   exact ⟨b,rfl,trivial⟩
  ·rename_i hu
   cases K<;>first | cases h | skip
   obtain ⟨s,rfl,_,hs⟩:=DataW.trod_string hu hd
   exact ⟨s,rfl,hs⟩
  ·rename_i te hu
   cases K<;>first | cases h | skip
   rename_i e
   simp only [AC,beq_iff_eq] at h
   rcases DataW.trod_slice hu hd with ⟨rfl,_⟩ | ⟨a,len,cap,elems,rest,n,_,rfl,_,_,hl,hm,hlen,hel,_⟩
   ·exact ⟨[],⟨_,rfl,Ve⟩,by simp [Kd.ok]⟩
   ·have each:∀ i,i<len->∃ y:e.T,∃ cs',w.cells? base (a.add (i*e.sz)) e.sz=some cs'/\GN (TD w) e y cs'/\Kd.ok e y:=by
     intro i hi
     have h1:=hel i hi
     rw [h.1] at h1
     have h2:elems[i]? = some (elems[i]'(by omega)):=by simp
     rw [h2] at h1
     cases hq:w.cells? base (a.add (i*e.sz)) e.sz with
     | none=>rw [hq] at h1; cases h1
     | some cs' =>
      rw [hq] at h1
      simp only [Z] at h1
      obtain ⟨y,h3,h4⟩:=pA D te e n cs' _ h.2 h1
      exact ⟨y,cs',rfl,h3,h4⟩
    have all:∀ m,m<=len->∃ ys:List e.T,ys.length=m/\∀ i y,ys[i]? = some y->∃ cs',w.cells? base (a.add (i*e.sz)) e.sz=some cs'/\GN (TD w) e y cs'/\Kd.ok e y:=by
     intro m
     induction m with
     | zero=>intro _; exact ⟨[],rfl,fun i y h=>by simp at h⟩
     | succ m ih =>
      intro hm
      obtain ⟨ys,l,hy⟩:=ih (by omega)
      obtain ⟨y,cs',g1,g2,g3⟩:=each m (by omega)
      refine ⟨ys++[y],by simp [l],fun i z hz=>?_⟩
      rcases B6 i ys.length with hi | hi
      ·rw [BF hi] at hz
       exact hy i z hz
      ·rw [Ci hi] at hz
       have hi0:i-ys.length=0:=by
        have:=(Aj.1 hz).1
        simp at this
        omega
       rw [hi0] at hz
       simp at hz
       subst hz
       have:i=m:=by omega
       subst this
       exact ⟨cs',g1,g2,g3⟩
    obtain ⟨ys,l,hy⟩:=all len (Nat.le_refl _)
    have hok:ys.length<=maxLen/\∀ y∈ys,Kd.ok e y:=by
     refine ⟨by omega,fun y hm=>?_⟩
     obtain ⟨i,hi⟩:=List.mem_iff_getElem?.1 hm
     obtain ⟨_,_,_,g⟩:=hy i y hi
     exact g
    refine ⟨ys,⟨_,rfl,some a,cap,by rw [l],by omega,?_⟩,hok⟩
    cases hys:ys with
    | nil=>exact .inl rfl
    | cons y0 yr =>
     right
     have hsz:=Kd.sz_pos e
     obtain ⟨cs0,g1,g2,_⟩:=hy 0 y0 (by rw [hys]; rfl)
     obtain ⟨l0,c0⟩:=pj g1
     have hc0:=c0 0 hsz
     have hcs0:cs0[0]? = some (cs0[0]'(by omega)):=by simp
     rw [hcs0,Nat.zero_mul,tD,tD] at hc0
     obtain ⟨ea,c,el,fz,hb,_⟩:=tE hc0
     have addadd:∀ x y:Nat,(a.add x).add y=⟨a.block,a.off+(x+y),none⟩:=by
      intro x y
      rw [ea,Addr.add_none,Addr.add_none,Nat.add_assoc]
     refine ⟨a.block,a.off,c,el,fz,by rw [<- ea],hb,fun j y hj=>?_⟩
     obtain ⟨cs',g3,g4,_⟩:=hy j y (by rw [hys]; exact hj)
     obtain ⟨l1,c1⟩:=pj g3
     refine ⟨cs',g4,l1,fun i u hu=>?_⟩
     have hi:i<e.sz:=by rw [<- l1]; exact (Aj.1 hu).1
     have h3:=c1 i hi
     rw [hu,addadd] at h3
     obtain ⟨_,c2,el2,fz2,hb2,h4⟩:=tE h3
     rw [hb] at hb2
     cases hb2
     rw [Nat.add_assoc]
     exact h4
  ·rename_i fs hu
   simp only [AC,beq_iff_eq] at h
   obtain ⟨⟨hc,_⟩,h⟩:=h
   obtain ⟨xs,n,_,_,hl,_,hf⟩:=DataW.trod_struct hu hd
   have:=nC (w:=w) (P:=P) D fs.toList 0 K n cs xs h (fun i f hi=>hf i f (by simpa using hi)) (by
    have:xs.length=fs.size:=by assumption
    simpa using this)
   obtain ⟨y,h1,h2⟩:=this
   refine ⟨y,?_,h2⟩
   rw [hc] at hl
   rw [List.drop_zero,List.take_of_length_le (by omega)] at h1
   exact h1
  ·cases h
theorem nC {H:Type} {enc:TypeId×Value->H} {P:Program} {w:World} {base:Nat} {spare:Nat->Bool} {held:Bool}:∀ (D:Nat) (fs:List Field) (off:Nat) (K:Kd) (fuel:Nat) (cs:List Value) (xs:List (DataW H×List MemPlace)),Xi P D fs off K=true ->
  (∀ (i:Nat) (f:Field),fs[i]? = some f->DataW.trod enc P w base spare held fuel f.type ((cs.drop f.offset).take (P.cellsOf f.type))=xs[i]?)->xs.length=fs.length->∃ y:K.T,GN (TD w) K y ((cs.drop off).take K.sz)/\Kd.ok K y
 | 0,fs,off,K,fuel,cs,xs,h,_,_=>by simp [Xi] at h
 | D+1,[],off,K,fuel,cs,xs,h,_,_=>by simp [Xi] at h
 | D+1,[f],off,K,fuel,cs,xs,h,hf,hl=>by
  simp only [Xi,AC,beq_iff_eq] at h
  obtain ⟨⟨rfl,hc⟩,ht⟩:=h
  have h1:=hf 0 f rfl
  rw [hc] at h1
  have h2:xs[0]? = some (xs[0]'(by simp at hl; omega)):=by simp
  rw [h2] at h1
  exact pA D f.type K fuel _ _ ht h1
 | D+1,f::g::fs,off,K,fuel,cs,xs,h,hf,hl=>by
  simp only [Xi] at h
  cases K with
  | pair a b =>
   simp only [AC,beq_iff_eq] at h
   obtain ⟨⟨⟨rfl,hc⟩,ht⟩,hr⟩:=h
   have h1:=hf 0 f rfl
   rw [hc] at h1
   have h2:xs[0]? = some (xs[0]'(by simp at hl; omega)):=by simp
   rw [h2] at h1
   obtain ⟨y1,r1,o1⟩:=pA D f.type a fuel _ _ ht h1
   obtain ⟨y2,r2,o2⟩:=nC (w:=w) (P:=P) D (g::fs) (f.offset+a.sz) b fuel cs (xs.drop 1) hr (fun i q hi=>by
    have:=hf (i+1) q (by simpa using hi)
    rw [this,C3,Nat.add_comm]) (by simp at hl ⊢; omega)
   refine ⟨(y1,y2),⟨_,_,?_,r1,r2⟩,o1,o2⟩
   apply List.ext_getElem?
   intro i
   have l1:=r1.length
   have l2:=r2.length
   simp only [Kd.sz]
   rcases B6 i a.sz with hi | hi
   ·rw [BF (by omega)]
    simp only [Bz,C3]
    rw [if_pos (by omega),if_pos hi]
   ·rw [Ci (by omega),l1]
    simp only [Bz,C3]
    by_cases h3:i<a.sz+b.sz
    ·rw [if_pos h3,if_pos (by omega)]
     congr 1
     omega
    ·rw [if_neg h3,if_neg (by omega)]
  | _=>cases h
end
theorem zk {H:Type} {enc:TypeId×Value->H} {P:Program} {w:World} {base:Nat} {spare:Nat->Bool} {held:Bool} {t:TypeId} {K:Kd} {v:Value} {d:DataW H} {p:List MemPlace} (h:dj P 40 t K=true) (hf:PA K v)
  (hd:DataW.Trod enc P w base spare held t v d p):∃ x:K.T,VE (TD w) (K.av x) v/\Kd.ok K x:=by
 obtain ⟨fuel,hd⟩:=hd
 obtain ⟨x,h1,h2⟩:=pA 40 t K fuel _ _ h hd
 exact ⟨x,xP h1 hf,h2⟩
theorem ABO {P:Program} {W:World} {r:Reach} {base:Nat} {t:TypeId} {K:Kd} {v:Value} (h:dj P 40 t K=true) (hv:Value.okWide P W r base t v):PA K v:=by
 unfold dj at h
 split at h
 ·rename_i k hu
  obtain ⟨n,rfl⟩:=WideShapes.okWide_int hu hv
  cases K<;>first | cases h | rfl
 ·rename_i hu
  obtain ⟨n,rfl⟩:=WideShapes.okWide_bool hu hv
  cases K<;>first | rfl | cases h
 ·rename_i hu
  obtain ⟨n,rfl⟩:=WideShapes.okWide_string hu hv
  cases K<;>first | rfl | cases h
 ·rename_i te hu
  obtain ⟨a,l,c,rfl⟩:=WideShapes.okWide_slice hu hv
  cases K<;>first | cases h | rfl
 ·rename_i fs hu
  obtain ⟨cs,rfl,_⟩:=WideShapes.okWide_struct hu hv
  simp only [AC] at h
  cases K<;>first | exact ⟨_,rfl⟩ | cases h.1.2
 ·cases h
theorem zl (w:World) (φ:CG) (ht:pG (TD w)):SR (TD w) φ [] w:=by
 refine ⟨fun b o h=>h,fun id bx h=>by simp at h,fun i j bi bj h=>by simp at h,fun i bi h=>by simp at h,fun id cs h=>by simp at h,ht⟩
theorem yV {P:Program} {fns:Nat->Option BS} {prims:GM} (ht:zj P fns) (hp:I9 P prims) {k f:Nat} {args:List AV} (h:gO fns prims k f args []=some [.bool true]) {W:World} {cargs:List Value}
  (ha:Aq (VE (TD W)) args cargs) (hlt:f<Bg:=by decide) (htab:pG (TD W):=by exact fun p h=>by cases h):Calls P f cargs.toArray W fun e W'=>e=.returned (.bool true)/\RowKit.Below W.heap.size W W':=by
 obtain ⟨_,_,n,hn,hc⟩:=(vN ht hp k).2 f args [] _ (.inl hlt) h
 rw [Nat.mod_eq_of_lt hlt] at hc
 have hn:n=1:=by simpa using hn
 subst hn
 have opens:∀ {aw:List AV} {vs:List Value} (k:Nat),Aq (VE (TD W)) aw vs->DW k aw=aw/\Aw (cellsOf aw)=[]:=by
  intro aw
  induction aw with
  | nil=>intro vs k _; exact ⟨rfl,rfl⟩
  | cons a aw ih =>
   intro vs k h
   obtain ⟨v,r,rfl,h1,h2⟩:=h
   obtain ⟨o1,o2,o3⟩:=h1.opens k
   obtain ⟨i1,i2⟩:=ih (k+AO a.cells) h2
   refine ⟨by simp only [DW,o1,i1],?_⟩
   simp only [cellsOf,List.flatMap_cons] at i2 ⊢
   rw [CN,o3,i2]
   rfl
 have hst:Bd [] args=[]:=by
  rw [JW,CN,(opens 0 ha).2]
  rfl
 have:=hc (TD W) (fun _=>.nilIface) W cargs (by rw [hst]; exact zl W _ htab) (by rw [(opens _ ha).1,hst]; exact ha.imp fun _ _ h=>VB.of_VE h)
 refine this.mono fun e W' he=>?_
 cases e with
 | returned v =>
  obtain ⟨H',φ',_,_,f,hr⟩:=he
  have hv:v=.bool true:=hr
  subst hv
  rw [hst] at f
  exact ⟨rfl,f.os,f.tape,f.output,f.size,fun k hk=>f.old k hk fun j hj=>by simp at hj⟩
 | panicked c=>exact he.elim
 | outgrown=>exact he.elim

def Ev (p:Nat->Prop):Prop:=∃ m,∀ k,m<=k->p k
theorem Ev.mono {p q:Nat->Prop} (h:Ev p) (f:∀ k,p k->q k):Ev q:=h.elim fun m hm=>⟨m,fun k hk=>f k (hm k hk)⟩
theorem Ev.const {p:Prop} (h:p):Ev fun _=>p:=⟨0,fun _ _=>h⟩
theorem Ev.all {p:Nat->Prop} (h:∀ k,p k):Ev p:=⟨0,fun k _=>h k⟩
theorem Ev.and {p q:Nat->Prop} (h:Ev p) (g:Ev q):Ev fun k=>p k/\q k:=by
 obtain ⟨m,hm⟩:=h
 obtain ⟨n,hn⟩:=g
 exact ⟨max m n,fun k hk=>⟨hm k (by omega),hn k (by omega)⟩⟩
noncomputable def Lm {ρ:Type} (u:Nat->Option ρ):Option ρ :=
 @dite _ (∃ r,Ev fun k=>u k=some r) (Classical.propDecidable _) (fun h=>some (Classical.choose h)) (fun _=>none)
theorem vO {ρ:Type} {u:Nat->Option ρ} {r:ρ} (h:Lm u=some r):Ev fun k=>u k=some r:=by
 unfold Lm at h
 split at h
 ·rename_i hx
  cases h
  exact Classical.choose_spec hx
 ·cases h
theorem zm {ρ:Type} {u:Nat->Option ρ} {r:ρ} (h:Ev fun k=>u k=some r):Lm u=some r:=by
 have hx:∃ r,Ev fun k=>u k=some r:=⟨r,h⟩
 unfold Lm
 rw [dif_pos hx]
 obtain ⟨m,hm⟩:=(Classical.choose_spec hx).and h
 obtain ⟨a,b⟩:=hm m (Nat.le_refl _)
 rw [<- b,a]
def Conv {ρ:Type} (kn:Nat->St->Option ρ) (kl:St->Option ρ):Prop:=∀ s r,kl s=some r->Ev fun j=>kn j s=some r
theorem Conv.refl {ρ:Type} (kl:St->Option ρ):Conv (fun _=>kl) kl:=fun _ _ h=>.const h
def Xj (cal:Nat->GM) (c:GM):Prop:=∀ f a b r,c f a b=some r->Ev fun j=>cal j f a b=some r
theorem Xj.refl (c:GM):Xj (fun _=>c) c:=fun _ _ _ _ h=>.const h
abbrev Lp (ρ:Type):Type:=((St->Option ρ)->St->Option ρ)->St->Option ρ
def zn {ρ:Type} (F:Nat->(St->Option ρ)->St->Option ρ) (FL:(St->Option ρ)->St->Option ρ):Prop :=
 ∀ (go:Nat->St->Option ρ) (gl:St->Option ρ),Conv go gl->Conv (fun j=>F j (go j)) (FL gl)
def zo {ρ:Type} (lp:Nat->Lp ρ) (ll:Lp ρ):Prop:=∀ (F:Nat->(St->Option ρ)->St->Option ρ) (FL:(St->Option ρ)->St->Option ρ),zn F FL->(∀ j,zn (fun _=>F j) (F j))->Conv (fun j=>lp j (F j)) (ll FL)
noncomputable def Le {ρ:Type}:Lp ρ:=fun F s=>Lm fun n=>O_ n F s
theorem zp {ρ:Type}:zo (ρ:=ρ) O_ Le:=by
 intro F FL hF _ s r h
 have h:=vO h
 obtain ⟨m,hm⟩:=h
 have key:∀ n,∀ g:Nat->Nat,(∀ j,n<=g j)->Conv (fun j=>O_ (g j) (F j)) (O_ n FL):=by
  intro n
  induction n with
  | zero=>intro g _ s r h; cases h
  | succ n ih =>
   intro g hg s r h
   refine (hF (fun j=>O_ (g j-1) (F j)) (O_ n FL) (ih (fun j=>g j-1) fun j=>by have:=hg j; omega) s r h).mono fun j hj=>?_
   have e:g j=(g j-1)+1:=by have:=hg j; omega
   show O_ (g j) (F j) s=some r
   rw [e]
   exact hj
 obtain ⟨k,hk⟩:=key m (fun j=>max j m) (fun j=>by omega) s r (hm m (Nat.le_refl _))
 refine ⟨max k m,fun j hj=>?_⟩
 have:=hk j (by omega)
 simp only [show max j m=j by omega] at this
 exact this
theorem vP {ρ:Type} (k:Nat):zo (ρ:=ρ) (fun _=>O_ k) (O_ k):=by
 intro F FL hF _
 induction k with
 | zero=>intro s r h; cases h
 | succ k ih=>exact hF _ _ ih
theorem pl {ρ:Type} {F:(St->Option ρ)->St->Option ρ} (hF:zn (fun _=>F) F) {s:St} {r:ρ} (h:F (Le F) s=some r):Le F s=some r:=by
 obtain ⟨m,hm⟩:=hF (fun j=>O_ j F) (Le F) (fun s r h=>vO h) s r h
 exact zm ⟨m+1,fun k hk=>by
  cases k with
  | zero=>omega
  | succ k=>exact hm k (by omega)⟩
theorem vQ {ρ:Type}:zo (ρ:=ρ) (fun _=>Le) Le:=by
 intro F FL hF hs s r h
 obtain ⟨m,hm⟩:=vO h
 have key:∀ n,Conv (fun j=>Le (F j)) (O_ n FL):=by
  intro n
  induction n with
  | zero=>intro s r h; cases h
  | succ n ih=>intro s r h; exact (hF _ _ ih s r h).mono fun j hj=>pl (hs j) hj
 exact key m s r (hm m (Nat.le_refl _))
theorem C9 {α β:Type} {x:Option α} {f:Nat->α->Option β} {g:α->Option β} (h:∀ a r,g a=some r->Ev fun j=>f j a=some r) (r:β) (hx:x.bind g=some r):Ev fun j=>x.bind (f j)=some r:=by
 cases x with
 | none=>cases hx
 | some a=>exact h a r hx
theorem pn {ρ:Type} {s:St} {v:AV} {K:Kd} {kn:Nat->List K.T->Option ρ} {kl:List K.T->Option ρ} (hk:∀ a r,kl a=some r->Ev fun j=>kn j a=some r) (r:ρ) (h:s.list v K kl=some r):Ev fun j=>s.list v K (kn j)=some r:=by
 unfold St.list at h ⊢
 split at h
 ·exact hk _ _ h
 ·split at h
  ·rename_i e
   simp only [dif_pos e]
   exact hk _ _ h
  ·cases h
 ·split at h
  ·rename_i e0
   split at h
   ·rename_i e
    simp only [e0,dif_pos e]
    exact hk _ _ h
   ·cases h
  ·rename_i e0
   split at h
   ·rename_i e
    simp only [e0,dif_pos e]
    exact hk _ _ h
   ·cases h
  ·rename_i e0
   split at h
   ·rename_i e
    simp only [e0,dif_pos e]
    exact hk _ _ h
   ·cases h
  ·rename_i e0
   split at h
   ·rename_i e
    simp only [e0,dif_pos e]
    exact hk _ _ h
   ·cases h
  ·cases h
 ·cases h
theorem yW {ρ:Type} {op:BinOp} {x y:AV} {kn:Nat->AV->Option ρ} {kl:AV->Option ρ} (hk:∀ a r,kl a=some r->Ev fun j=>kn j a=some r) (r:ρ) (h:mr op x y kl=some r):Ev fun j=>mr op x y (kn j)=some r:=by
 have e:∀ k:AV->Option ρ,mr op x y k=(mr op x y some).bind k:=by
  intro k
  unfold mr
  repeat' split
  all_goals rfl
 rw [e] at h
 simp only [e (kn _)]
 exact C9 hk r h
theorem zq {ρ:Type} {op:UnOp} {x:AV} {kn:Nat->AV->Option ρ} {kl:AV->Option ρ} (hk:∀ a r,kl a=some r->Ev fun j=>kn j a=some r) (r:ρ) (h:xy op x kl=some r):Ev fun j=>xy op x (kn j)=some r:=by
 unfold xy at h ⊢
 split at h<;>first | exact hk _ _ h | cases h
theorem vR {α β:Type} {x:Nat->Option α} {xl:Option α} {f:Nat->α->Option β} {g:α->Option β} (hx:∀ a,xl=some a->Ev fun j=>x j=some a) (h:∀ a r,g a=some r->Ev fun j=>f j a=some r) (r:β) (hr:xl.bind g=some r):Ev fun j=>(x j).bind (f j)=some r:=by
 cases xl with
 | none=>cases hr
 | some a=>exact ((hx a rfl).and (h a r hr)).mono fun j hj=>by rw [hj.1]; exact hj.2
theorem ACS {ρ:Type} {cal:Nat->GM} {c:GM} {d z:Nat} {x:Cv} {lo hi:Option Cv} {kn:Nat->St->Option ρ} {kl:St->Option ρ} (hk:Conv kn kl) (s:St) (r:ρ) (h:EQ c kl s (.sl d z x lo hi)=some r):Ev fun j=>EQ (cal j) (kn j) s (.sl d z x lo hi)=some r:=by
 simp only [EQ] at h ⊢
 split at h
 ·split at h
  ·rename_i ez
   split at h
   ·split at h
    ·rename_i g1
     split at h
     ·rename_i g2
      split at h
      ·rename_i g3
       simp only [if_pos ez,if_pos g1,if_pos g2,if_pos g3]
       exact hk _ _ h
      ·cases h
     ·cases h
    ·cases h
   ·cases h
  ·cases h
 ·split at h
  ·rename_i ez
   split at h
   ·split at h
    ·rename_i g1
     split at h
     ·rename_i g2
      split at h
      ·rename_i g3
       simp only [if_pos ez,if_pos g1,if_pos g2,if_pos g3]
       exact hk _ _ h
      ·cases h
     ·cases h
    ·cases h
   ·cases h
  ·cases h
 ·cases h
mutual
theorem po {ρ:Type} {cal:Nat->GM} {c:GM} (hc:Xj cal c):∀ (ao:GB) {kn:Nat->St->Option ρ} {kl:St->Option ρ},Conv kn kl->∀ s r,EQ c kl s ao=some r->Ev fun j=>EQ (cal j) (kn j) s ao=some r
 | .mv d x,kn,kl,hk,s,r,h=>hk _ _ h
 | .nilrow d t K,kn,kl,hk,s,r,h=>hk _ _ h
 | .pick d c a b,kn,kl,hk,s,r,h=>by
  simp only [EQ] at h ⊢
  split at h
  ·split at h<;>rename_i e<;>simp only [e,if_true,if_false,Bool.false_eq_true]<;>exact hk _ _ h
  ·cases h
 | .sc c want ops d a b,kn,kl,hk,s,r,h=>by
  simp only [EQ] at h ⊢
  split at h
  ·split at h
   ·rename_i e
    simp only [e,if_true]
    exact tu hc ops (kn:=fun j s'=>kn j (s'.put d (if want then s'.opd a else s'.opd b))) (kl:=fun s'=>kl (s'.put d (if want then s'.opd a else s'.opd b))) (fun s r h=>hk _ _ h) s r h
   ·rename_i e
    simp only [if_neg e]
    exact hk _ _ h
  ·cases h
 | .alloc d cs,kn,kl,hk,s,r,h=>hk _ _ h
 | .box d x own,kn,kl,hk,s,r,h=>by
  simp only [EQ] at h ⊢
  exact C9 (fun a r h=>hk _ _ h) r h
 | .build d zero parts,kn,kl,hk,s,r,h=>by
  simp only [EQ] at h ⊢
  exact C9 (fun a r h=>hk _ _ h) r h
 | .bnew d zero parts,kn,kl,hk,s,r,h=>by
  simp only [EQ] at h ⊢
  exact C9 (fun a r h=>hk _ _ h) r h
 | .brow d t K parts,kn,kl,hk,s,r,h=>by
  simp only [EQ] at h ⊢
  exact C9 (fun a r h=>C9 (fun a r h=>hk _ _ h) r h) r h
 | .blst d K parts,kn,kl,hk,s,r,h=>by
  simp only [EQ] at h ⊢
  exact C9 (fun a r h=>C9 (fun a r h=>hk _ _ h) r h) r h
 | .load d x n,kn,kl,hk,s,r,h=>by
  simp only [EQ] at h ⊢
  refine C9 (fun a r h=>?_) r h
  split at h
  ·rename_i e
   simp only [if_pos e]
   exact hk _ _ h
  ·cases h
 | .store x y m own,kn,kl,hk,s,r,h=>by
  simp only [EQ] at h ⊢
  split at h
  ·rename_i e
   simp only [if_pos e]
   exact C9 (fun a r h=>hk _ _ h) r h
  ·cases h
 | .nilc d x,kn,kl,hk,s,r,h=>by
  simp only [EQ] at h ⊢
  split at h<;>first | exact hk _ _ h | cases h
 | .bin d op x y,kn,kl,hk,s,r,h=>by
  simp only [EQ] at h ⊢
  exact yW (fun a r h=>hk _ _ h) r h
 | .eqs d neg K x y,kn,kl,hk,s,r,h=>by
  simp only [EQ] at h ⊢
  exact C9 (fun a r h=>C9 (fun a r h=>hk _ _ h) r h) r h
 | .un d op x,kn,kl,hk,s,r,h=>by
  simp only [EQ] at h ⊢
  exact zq (fun a r h=>hk _ _ h) r h
 | .cvi d k x,kn,kl,hk,s,r,h=>by
  simp only [EQ] at h ⊢
  split at h<;>first | exact hk _ _ h | cases h
 | .bts d x,kn,kl,hk,s,r,h=>by
  simp only [EQ] at h ⊢
  exact pn (fun a r h=>hk _ _ h) r h
 | .fld d x off,kn,kl,hk,s,r,h=>by
  simp only [EQ] at h ⊢
  split at h<;>first | exact hk _ _ h | cases h
 | .field d x off n,kn,kl,hk,s,r,h=>by
  simp only [EQ] at h ⊢
  split at h
  ·split at h
   ·rename_i e
    simp only [if_pos e]
    exact hk _ _ h
   ·cases h
  ·cases h
 | .idx d z x i,kn,kl,hk,s,r,h=>by
  have e:∀ k:St->Option ρ,EQ (cal 0) k s (.idx d z x i)=(EQ (cal 0) some s (.idx d z x i)).bind k:=by
   intro k
   simp only [EQ]
   repeat' split
   all_goals rfl
  have e2:∀ k:St->Option ρ,∀ c:GM,EQ c k s (.idx d z x i)=EQ (cal 0) k s (.idx d z x i):=fun k c=>by simp only [EQ]
  rw [e2,e] at h
  simp only [e2 (kn _),e (kn _)]
  exact C9 (fun a r h=>hk _ _ h) r h
 | .aidx d n x i,kn,kl,hk,s,r,h=>by
  simp only [EQ] at h ⊢
  split at h
  ·refine C9 (fun xs r h=>?_) r h
   split at h
   ·rename_i e1
    split at h
    ·rename_i e2
     split at h
     ·rename_i e3
      simp only [if_pos e1,if_pos e2,if_pos e3]
      exact hk _ _ h
     ·cases h
    ·cases h
   ·cases h
  ·cases h
 | .sidx d x i,kn,kl,hk,s,r,h=>by
  have e:∀ k:St->Option ρ,EQ (cal 0) k s (.sidx d x i)=(EQ (cal 0) some s (.sidx d x i)).bind k:=by
   intro k
   simp only [EQ]
   repeat' split
   all_goals rfl
  have e2:∀ k:St->Option ρ,∀ c:GM,EQ c k s (.sidx d x i)=EQ (cal 0) k s (.sidx d x i):=fun k c=>by simp only [EQ]
  rw [e2,e] at h
  simp only [e2 (kn _),e (kn _)]
  exact C9 (fun a r h=>hk _ _ h) r h
 | .sl d z x lo hi,kn,kl,hk,s,r,h=>ACS hk s r h
 | .mk d t K n,kn,kl,hk,s,r,h=>by
  have e:∀ k:St->Option ρ,EQ (cal 0) k s (.mk d t K n)=(EQ (cal 0) some s (.mk d t K n)).bind k:=by
   intro k
   simp only [EQ]
   repeat' split
   all_goals rfl
  have e2:∀ k:St->Option ρ,∀ c:GM,EQ c k s (.mk d t K n)=EQ (cal 0) k s (.mk d t K n):=fun k c=>by simp only [EQ]
  rw [e2,e] at h
  simp only [e2 (kn _),e (kn _)]
  exact C9 (fun a r h=>hk _ _ h) r h
 | .fn d f caps,kn,kl,hk,s,r,h=>hk _ _ h
 | .clo d f K x,kn,kl,hk,s,r,h=>by
  simp only [EQ] at h ⊢
  split at h
  ·exact C9 (fun a r h=>hk _ _ h) r h
  ·cases h
 | .fbox d x,kn,kl,hk,s,r,h=>by
  simp only [EQ] at h ⊢
  exact C9 (fun a r h=>hk _ _ h) r h
 | .min d x y,kn,kl,hk,s,r,h=>by
  simp only [EQ] at h ⊢
  split at h
  ·split at h
   ·rename_i e
    simp only [if_pos e]
    exact hk _ _ h
   ·cases h
  ·cases h
 | .app d e K a b,kn,kl,hk,s,r,h=>by
  simp only [EQ] at h ⊢
  split at h
  ·split at h
   ·rename_i e1
    split at h
    ·rename_i e2
     split at h
     ·rename_i e3
      simp only [e1,dif_pos e2,if_pos e3]
      refine pn (fun a r h=>?_) r h
      split at h
      ·rename_i e4
       simp only [if_pos e4]
       exact hk _ _ h
      ·cases h
     ·cases h
    ·cases h
   ·cases h
  ·cases h
 | .apz d e K a b,kn,kl,hk,s,r,h=>by
  simp only [EQ] at h ⊢
  split at h
  ·split at h
   ·rename_i e1
    split at h
    ·rename_i e2
     split at h
     ·rename_i e3
      simp only [e1,dif_pos e2,if_pos e3]
      refine pn (fun a r h=>?_) r h
      split at h
      ·rename_i e4
       simp only [if_pos e4]
       exact hk _ _ h
      ·cases h
     ·cases h
    ·cases h
   ·cases h
  ·cases h
 | .len d t x,kn,kl,hk,s,r,h=>by
  have e:∀ k:St->Option ρ,EQ (cal 0) k s (.len d t x)=(EQ (cal 0) some s (.len d t x)).bind k:=by
   intro k
   simp only [EQ]
   repeat' split
   all_goals rfl
  have e2:∀ k:St->Option ρ,∀ c:GM,EQ c k s (.len d t x)=EQ (cal 0) k s (.len d t x):=fun k c=>by simp only [EQ]
  rw [e2,e] at h
  simp only [e2 (kn _),e (kn _)]
  exact C9 (fun a r h=>hk _ _ h) r h
 | .call d f args res,kn,kl,hk,s,r,h=>by
  simp only [EQ] at h ⊢
  refine C9 (fun q r h=>C9 (fun bx r h=>?_) r h) r h
  split at h
  ·rename_i e
   simp only [if_pos e]
   refine vR (fun a ha=>?_) (fun y r h=>?_) r h
   ·exact vR (f:=fun _=>CB _) (g:=CB _) (fun a ha=>hc _ _ _ _ ha) (fun y r h=>.const h) a ha
   ·split at h
    ·rename_i e
     simp only [if_pos e]
     exact hk _ _ h
    ·cases h
  ·cases h
 | .bld d k f t x y,kn,kl,hk,s,r,h=>by
  simp only [EQ] at h ⊢
  split at h
  ·rename_i id e1
   split at h
   ·rename_i T j e2
    split at h
    ·rename_i t' xs e3
     split at h
     ·rename_i e4
      cases e5:c (Bg+f) [.int .i64 k,.int .i64 t,.int .i64 T] [] with
      | none=>rw [e5] at h; cases h
      | some q =>
       have hq:=hc _ _ _ _ e5
       rw [e5,Z] at h
       cases e8:CB [] q with
       | none=>rw [e8] at h; cases h
       | some u =>
        rw [e8,Z] at h
        split at h
        ·rename_i e6
         split at h
         ·rename_i e7
          refine (hq.and (hk _ _ h)).mono fun j hj=>?_
          simp only [e2,e3,if_pos e4,hj.1,Z,e8,if_pos e6,if_pos e7]
          exact hj.2
         ·cases h
        ·rename_i e6
         cases ha:AAm k (s.opd y) with
         | none=>rw [ha] at h; cases h
         | some ys =>
          rw [ha,Z] at h
          split at h
          ·rename_i e7
           refine (hq.and (hk _ _ h)).mono fun j hj=>?_
           simp only [e2,e3,if_pos e4,hj.1,Z,e8,if_neg e6,ha,if_pos e7]
           exact hj.2
          ·cases h
     ·cases h
    ·cases h
   ·cases h
  ·cases h
 | .stb d t x,kn,kl,hk,s,r,h=>by
  simp only [EQ] at h ⊢
  split at h
  ·exact hk _ _ h
  ·cases h
 | .ext d x i,kn,kl,hk,s,r,h=>by
  simp only [EQ] at h ⊢
  split at h
  ·split at h
   ·rename_i e
    simp only [if_pos e]
    exact hk _ _ h
   ·cases h
  ·cases h
theorem tu {ρ:Type} {cal:Nat->GM} {c:GM} (hc:Xj cal c):∀ (aos:List GB) {kn:Nat->St->Option ρ} {kl:St->Option ρ},Conv kn kl->∀ s r,j7 c kl s aos=some r->Ev fun j=>j7 (cal j) (kn j) s aos=some r
 | [],kn,kl,hk,s,r,h=>by simp only [j7] at h ⊢; exact hk _ _ h
 | o::os,kn,kl,hk,s,r,h=>by
  simp only [j7] at h ⊢
  exact po hc o (fun s r h=>tu hc os hk s r h) s r h
end
theorem Z7 {ρ:Type} {cal:Nat->GM} {c:GM} (hc:Xj cal c) (anc:List (List Nat)) {kn:Nat->St->Option ρ} {kl:St->Option ρ} (hk:Conv kn kl):∀ (t:DT) (T:List (Nat×Nat)) s r,dK c anc kl t T s=some r->Ev fun j=>dK (cal j) anc (kn j) t T s=some r
 | .done,T,s,r,h=>hk _ _ h
 | .take i g ao d,T,s,r,h=>by
  simp only [dK] at h ⊢
  split at h
  ·rename_i e
   simp only [if_pos e]
   exact po hc ao (fun s r h=>Z7 hc anc hk d _ s r h) s r h
  ·cases h
 | .skip i g d t,T,s,r,h=>by
  simp only [dK] at h ⊢
  split at h
  ·rename_i e
   simp only [if_pos e]
   exact Z7 hc anc hk t _ _ r h
  ·cases h
 | .only i g ao e fl d,T,s,r,h=>by
  simp only [dK] at h ⊢
  split at h
  ·rename_i e
   simp only [if_pos e]
   exact po hc ao (fun s r h=>Z7 hc anc hk d _ s r h) s r h
  ·cases h
 | .test c a b,T,s,r,h=>by
  simp only [dK] at h ⊢
  split at h
  ·split at h
   ·rename_i e
    simp only [if_pos e]
    exact Z7 hc anc hk a _ _ r h
   ·rename_i e
    simp only [if_neg e]
    exact Z7 hc anc hk b _ _ r h
  ·cases h
 | .fork i ai ri j aj rj,T,s,r,h=>by
  simp only [dK] at h ⊢
  obtain ⟨ha,hb⟩:=j8.1 h
  have ea:Ev fun n=>(if (IM ai.dsts T&&XW (anc.getD i []) (ai.touch s) s T)=true then EQ (cal n) (fun s'=>dK (cal n) anc (kn n) ri (Hg (anc.getD i []) T) s') s ai else none)=some r:=by
   split at ha
   ·rename_i e
    simp only [if_pos e]
    exact po hc ai (fun s r h=>Z7 hc anc hk ri _ s r h) s r ha
   ·cases ha
  have eb:Ev fun n=>(if (IM aj.dsts T&&XW (anc.getD j []) (aj.touch s) s T)=true then EQ (cal n) (fun s'=>dK (cal n) anc (kn n) rj (Hg (anc.getD j []) T) s') s aj else none)=some r:=by
   split at hb
   ·rename_i e
    simp only [if_pos e]
    exact po hc aj (fun s r h=>Z7 hc anc hk rj _ s r h) s r hb
   ·cases hb
  exact (ea.and eb).mono fun n h=>j8.2 h
noncomputable def G8 {ρ:Type} (cal:GM) (lp:Lp ρ):AI->(kn kr:St->Option ρ)->(ke:Nat->St->Option ρ)->St->Option ρ
 | .skip,kn,_,_,s=>kn s
 | .region ops live,kn,_,_,s=>j7 cal (fun s'=>kn ⟨live.map fun t=>(t,F7 s'.fr t),s'.st⟩) s ops
 | .draw anc t live,kn,_,_,s=>dK cal anc (fun s'=>kn ⟨live.map fun t=>(t,F7 s'.fr t),s'.st⟩) t [] s
 | .seqc live a b,kn,kr,ke,s=>G8 cal lp a (fun s'=>G8 cal lp b kn kr ke (s'.cutH (Dz s live) live s.st.length)) kr ke s
 | .seq a b,kn,kr,ke,s=>G8 cal lp a (fun s'=>G8 cal lp b kn kr ke s') kr ke s
 | .cond c a b,kn,kr,ke,s=>match s.opd c with
  | .bool t=>if t=true then G8 cal lp a kn kr ke s else G8 cal lp b kn kr ke s
  | _=>none
 | .block id live body,kn,kr,ke,s=>G8 cal lp body (fun s'=>kn (s'.cutH (Dz s live) live s.st.length)) kr (fun i s'=>if i=id then kn (s'.cutH (Dz s live) live s.st.length) else ke i s') s
 | .loop live body,_,kr,ke,s=>lp (fun go s'=>G8 cal lp body (fun s''=>go (s''.cutH (Dz s live) live s.st.length)) kr ke s') (s.cut live s.st.length)
 | .exit id,_,_,ke,s=>ke id s
 | .ret,_,kr,_,s=>kr s
theorem RJ {ρ:Type} (cal:GM) (k:Nat):∀ (a:AI) (kn kr:St->Option ρ) (ke:Nat->St->Option ρ) (s:St),Ha cal k a kn kr ke s=G8 cal (O_ k) a kn kr ke s
 | .skip,_,_,_,_=>rfl
 | .region ..,_,_,_,_=>rfl
 | .draw ..,_,_,_,_=>rfl
 | .seqc live a b,kn,kr,ke,s=>by simp only [Ha,G8,RJ cal k a,RJ cal k b]
 | .seq a b,kn,kr,ke,s=>by simp only [Ha,G8,RJ cal k a,RJ cal k b]
 | .cond c a b,kn,kr,ke,s=>by
  simp only [Ha,G8,RJ cal k a,RJ cal k b]
  cases s.opd c<;>rfl
 | .block id live a,kn,kr,ke,s=>by simp only [Ha,G8,RJ cal k a]
 | .loop live a,kn,kr,ke,s=>by simp only [Ha,G8,RJ cal k a]
 | .exit _,_,_,_,_=>rfl
 | .ret,_,_,_,_=>rfl
theorem I_ {ρ:Type}:∀ (a:AI) {cal:Nat->GM} {c:GM} {lp:Nat->Lp ρ} {ll:Lp ρ} {kn kr:Nat->St->Option ρ} {kl krl:St->Option ρ} {ke:Nat->Nat->St->Option ρ} {kel:Nat->St->Option ρ},Xj cal c->zo lp ll->(∀ j,zo (fun _=>lp j) (lp j)) ->
  Conv kn kl->Conv kr krl->(∀ i,Conv (fun j=>ke j i) (kel i))->Conv (fun j=>G8 (cal j) (lp j) a (kn j) (kr j) (ke j)) (G8 c ll a kl krl kel)
 | .skip,_,_,_,_,_,_,_,_,_,_,hc,hl,hl',hk,hr,he=>hk
 | .region ops live,_,_,_,_,_,_,_,_,_,_,hc,hl,hl',hk,hr,he=>fun s r h=>tu hc ops (fun s r h=>hk _ r h) s r h
 | .draw anc t live,_,_,_,_,_,_,_,_,_,_,hc,hl,hl',hk,hr,he=>fun s r h=>Z7 hc anc (fun s r h=>hk _ r h) t [] s r h
 | .seqc live a b,_,_,_,_,_,_,_,_,_,_,hc,hl,hl',hk,hr,he=>fun s r h=>I_ a hc hl hl' (fun s' r h=>I_ b hc hl hl' hk hr he _ r h) hr he s r h
 | .seq a b,_,_,_,_,_,_,_,_,_,_,hc,hl,hl',hk,hr,he=>fun s r h=>I_ a hc hl hl' (fun s' r h=>I_ b hc hl hl' hk hr he _ r h) hr he s r h
 | .cond c a b,_,_,_,_,_,_,_,_,_,_,hc,hl,hl',hk,hr,he=>fun s r h=>by
  simp only [G8] at h ⊢
  split at h
  ·split at h
   ·rename_i e
    simp only [if_pos e]
    exact I_ a hc hl hl' hk hr he s r h
   ·rename_i e
    simp only [if_neg e]
    exact I_ b hc hl hl' hk hr he s r h
  ·cases h
 | .block id live a,_,_,_,_,_,_,_,_,_,_,hc,hl,hl',hk,hr,he=>fun s r h=>by
  simp only [G8] at h ⊢
  refine I_ a hc hl hl' (fun s r h=>hk _ r h) hr (fun i s' r h=>?_) s r h
  split at h
  ·rename_i e
   simp only [if_pos e]
   exact hk _ r h
  ·rename_i e
   simp only [if_neg e]
   exact he i _ r h
 | .loop live a,cal,c,lp,ll,kn,kr,kl,krl,ke,kel,hc,hl,hl',hk,hr,he=>fun s r h=>by
  simp only [G8] at h ⊢
  refine hl _ _ (fun go gl hgo s' r h=>?_) (fun j go gl hgo s' r h=>?_) _ r h
  ·exact I_ a hc hl hl' (fun s r h=>hgo _ r h) hr he s' r h
  ·exact I_ (cal:=fun _=>cal j) (lp:=fun _=>lp j) (kn:=fun i s'=>go i (s'.cutH (Dz s live) live s.st.length)) (kl:=fun s'=>gl (s'.cutH (Dz s live) live s.st.length)) (kr:=fun _=>kr j) (krl:=kr j) (ke:=fun _=>ke j) (kel:=ke j) a (Xj.refl _) (hl' j) (fun _=>hl' j) (fun s r h=>hgo _ r h) (Conv.refl _) (fun i=>Conv.refl _) s' r h
 | .exit id,_,_,_,_,_,_,_,_,_,_,hc,hl,hl',hk,hr,he=>fun s r h=>he id s r h
 | .ret,_,_,_,_,_,_,_,_,_,_,hc,hl,hl',hk,hr,he=>hr
theorem yX {ρ:Type} {cal:GM} {a:AI} {hs:List (Nat×Nat)} {live:List Nat} {n:Nat} {kr:St->Option ρ} {ke:Nat->St->Option ρ} {s:St} {r:ρ}
  (h:G8 cal Le a (fun s''=>Le (fun go s'=>G8 cal Le a (fun s''=>go (s''.cutH hs live n)) kr ke s') (s''.cutH hs live n)) kr ke s=some r) :
  Le (fun go s'=>G8 cal Le a (fun s''=>go (s''.cutH hs live n)) kr ke s') s=some r :=
 pl (F:=fun go s'=>G8 cal Le a (fun s''=>go (s''.cutH hs live n)) kr ke s') (fun go gl hgo s' r h=>I_ (cal:=fun _=>cal) (lp:=fun _=>Le) (kn:=fun i s'=>go i (s'.cutH hs live n)) (kl:=fun s'=>gl (s'.cutH hs live n)) (kr:=fun _=>kr) (krl:=kr) (ke:=fun _=>ke) (kel:=ke) a (Xj.refl _) vQ (fun _=>vQ) (fun s r h=>hgo _ r h) (Conv.refl _) (fun i=>Conv.refl _) s' r h) h
noncomputable def zr (cal:GM) (fn:BS) (args bs:List AV):Option (RT fn.outs) :=
 G8 cal Le fn.body (AE fn) (AE fn) (fun _ _=>none) ⟨RG 0 (DW (Fe bs) args),Bd bs args⟩
noncomputable def tv (fns:Nat->Option BS) (prims:GM):GM:=fun f a b=>Lm fun k=>gO fns prims k f a b
theorem GD {fns:Nat->Option BS} {prims:GM} {f:Nat} {args bs r:List AV} (hf:fns f=none) (h:prims f args bs=some r):tv fns prims f args bs=some r:=by
 refine zm ⟨1,fun k hk=>?_⟩
 cases k with
 | zero=>omega
 | succ k=>simp only [gO,hf,h]
theorem yY {fns:Nat->Option BS} {prims:GM} {f:Nat} {fn:BS} {args bs:List AV} {r:RT fn.outs} (hf:fns f=some fn) (hl:args.length=fn.params.length/\bs.length=(ER fn.params 0).length)
  (h:zr (tv fns prims) fn args bs=some r):tv fns prims f args bs=some (Dw fn.outs r):=by
 have hc:Xj (fun k=>gO fns prims k) (tv fns prims):=fun f a b r h=>vO h
 obtain ⟨m,hm⟩:=I_ (lp:=O_) (ll:=Le) fn.body (kn:=fun _=>AE fn) (kr:=fun _=>AE fn) (ke:=fun _ _ _=>none) hc zp vP (Conv.refl _) (Conv.refl _) (fun i=>Conv.refl _) _ r h
 refine zm ⟨m+1,fun k hk=>?_⟩
 cases k with
 | zero=>omega
 | succ k =>
  simp only [gO,hf,if_pos hl]
  have:=hm k (by omega)
  simp only [<- RJ] at this
  unfold xE
  rw [this]
  rfl
theorem TE:∀ (K:Kd) (x:K.T) (r:List AV),K.dec (K.enc x++r)=some (x,r)
 | .int k,x,r=>by simp [Kd.enc,Kd.dec]
 | .bool,x,r=>rfl
 | .str,x,r=>rfl
 | .slice e,x,r=>by simp [Kd.enc,Kd.dec]
 | .pair a b,x,r=>by simp [Kd.enc,Kd.dec,Be,TE a,TE b]
 | .own t e,x,r=>by simp [Kd.enc,Kd.dec]
 | .ref K,x,r=>by
  have:=TE K x []
  rw [List.append_nil] at this
  simp [Kd.enc,Kd.dec,this]
 | .fun f,x,r=>by simp [Kd.enc,Kd.dec]
 | .clo f K,x,r=>by simp [Kd.enc,Kd.dec]
theorem pp (K:Kd) (x:K.T):K.of (K.av x)=some x:=by
 have h:K.ofCells (K.enc x)=some x:=by
  have:=TE K x []
  rw [List.append_nil] at this
  simp [Kd.ofCells,this]
 unfold Kd.of
 cases K<;>exact h
theorem pq:∀ (Ks:List Kd) (x:RT Ks),CB Ks (Dw Ks x)=some x
 | [],_=>rfl
 | [K],x=>pp K x
 | K::L::Ks,x=>by
  simp only [Dw,CB,pp,Z]
  rw [pq (L::Ks) x.2]
  rfl
theorem wZ {fns:Nat->Option BS} {prims:GM} {f:Nat} {fn:BS} {args bs:List AV} {r:RT fn.outs} (hf:fns f=some fn) (hl:args.length=fn.params.length/\bs.length=(ER fn.params 0).length)
  (h:zr (tv fns prims) fn args bs=some r):(tv fns prims f args bs).bind (CB fn.outs)=some r:=by
 rw [yY hf hl h,Z,pq]
theorem zt {P:Program} {fns:Nat->Option BS} {prims:GM} (ht:zj P fns) (hp:I9 P prims) {f:Nat} {args:List AV} (h:(tv fns prims f args []).bind (CB [.bool])=some true) {W:World} {cargs:List Value}
  (ha:Aq (VE (TD W)) args cargs) (hlt:f<Bg:=by decide) (htab:pG (TD W):=by exact fun p h=>by cases h):Calls P f cargs.toArray W fun e W'=>e=.returned (.bool true)/\RowKit.Below W.heap.size W W':=by
 cases hq:tv fns prims f args [] with
 | none=>rw [hq] at h; cases h
 | some v =>
  rw [hq,Z] at h
  obtain ⟨m,hm⟩:=vO hq
  have hm:=hm m (Nat.le_refl _)
  have e:v=[.bool true]:=by
   match v,h with
   | [a],h =>
    have h:Kd.of .bool a=some true:=h
    unfold Kd.of Kd.ofCells at h
    cases a<;>simp [AV.cells,Kd.dec,AV.fits] at h<;>first | rw [h] | skip
  subst e
  exact yV ht hp hm ha hlt htab
def ABP (f:Nat):List (Nat×BS)->Option BS
 | []=>none
 | (g,a)::r=>if g=f then some a else ABP f r
inductive xX (P:Program):List (Nat×BS)->Prop where
 | nil:xX P []
 | cons {f:Nat} {a:BS} {r:List (Nat×BS)} (h:Ax P f a=true) (t:xX P r):xX P ((f,a)::r)
theorem yZ {P:Program} {tab:List (Nat×BS)} (h:xX P tab):zj P fun f=>ABP f tab:=by
 intro f a hf
 induction h with
 | nil=>cases hf
 | cons h _ ih =>
  simp only [ABP] at hf
  split at hf
  ·rename_i e
   cases hf
   rw [<- e]
   exact h
  ·exact ih hf
end Go.Proofs.YtfcgblnlopemkaaGreatDoor.Core

namespace Go.Proofs.YtfcgblnlopemkaaGreatDoor.Core
open Go IntKind
set_option maxRecDepth 100000
noncomputable section
abbrev AH:Kd:=(.pair .str (.pair .str (.int .i64)))
abbrev AA:Type:=ByteArray×ByteArray×Int
abbrev MC:Kd:=(.pair (.int .i64) (.pair (.int .i64) (.pair (.int .i64) (.pair AH (.slice (.int .i64))))))
abbrev tw:Type:=Int×Int×Int×AA×List Int
abbrev Y:Kd:=(.pair (.int .i64) (.pair (.int .i64) (.pair .bool (.pair .bool (.pair .bool (.pair .bool (.pair (.slice (.int .i64)) (.pair (.slice AH) (.pair (.int .i64) MC)))))))))
abbrev U:Type:=Int×Int×Bool×Bool×Bool×Bool×List Int×List AA×Int×Int×Int×Int×AA×List Int
abbrev AJ:Kd:=(.pair (.int .i64) (.pair (.int .i64) (.pair (.int .i64) (.pair (.int .i64) (.pair (.int .i64) (.slice AH))))))
abbrev AB:Type:=Int×Int×Int×Int×Int×List AA
abbrev As:Kd:=(.pair (.int .i64) (.pair .str (.pair .str (.pair (.int .i64) (.pair (.int .i64) (.pair (.int .i64) (.pair (.int .i64) (.pair (.int .i64) .str))))))))
abbrev AR:Type:=Int×ByteArray×ByteArray×Int×Int×Int×Int×Int×ByteArray
abbrev Ah:Kd:=(.pair (.slice (.slice (.int .i64))) (.pair (.slice Y) (.pair (.slice AJ) (.slice As))))
abbrev AG:Type:=List (List Int)×List U×List AB×List AR
abbrev AM:Kd:=(.pair (.int .i64) (.pair (.int .i64) (.pair (.int .i64) (.pair (.int .i64) (.pair .str .str)))))
abbrev AF:Type:=Int×Int×Int×Int×ByteArray×ByteArray
abbrev MD:Kd:=(.pair (.own 37 (.slice (.int .i64))) (.own 72 AM))
abbrev DF:Type:=List (List Int)×List AF
abbrev AC6:Kd:=(.pair (.slice (.slice (.int .i64))) (.slice AM))
abbrev Af:Kd:=(.pair (.slice (.slice (.int .i64))) (.pair (.own 49 Y) (.pair (.own 112 AJ) (.own 42 As))))
abbrev wa:Kd:=(.pair (.int .i64) (.pair (.int .i64) (.pair (.int .i64) (.pair AH (.own 3 (.int .i64))))))
abbrev JZ:Kd:=(.pair (.int .i64) (.pair (.int .i64) (.pair .bool (.pair .bool (.pair .bool (.pair .bool (.pair (.own 3 (.int .i64)) (.pair (.own 45 AH) (.pair (.int .i64) wa)))))))))
abbrev Ay:Kd:=(.pair (.int .i64) (.pair (.int .i64) (.pair (.int .i64) AH)))
abbrev AK:Type:=Int×Int×Int×ByteArray×ByteArray×Int
abbrev GP:Kd:=(.pair (.slice (.slice (.int .i64))) (.pair (.own 49 Y) (.pair (.slice AJ) (.slice As))))
def pr:Nat×List PK×List Kd:=(5,[.val .str],[.str])
def pu:Nat×List PK×List Kd:=(6,[.val .str],[.str])
def gu:Nat×List PK×List Kd:=(9,[.val .str],[(.slice (.slice (.int .i64))),(.slice AM),(.int .i64)])
def ME:Nat×List PK×List Kd:=(10,[.val (.int .i64)],[.str])
def nS:Nat×List PK×List Kd:=(11,[.val (.slice (.slice (.int .i64))),.val (.slice AM)],[Ah,(.slice (.int .i64)),.bool])
def nT:Nat×List PK×List Kd:=(13,[.val (.slice (.slice (.int .i64))),.val (.slice AM)],[Ah,(.slice (.int .i64)),.bool])
def gw:Nat×List PK×List Kd:=(14,[.val .str],[(.slice (.slice (.int .i64))),(.slice AM),(.int .i64)])
def MF:Nat×List PK×List Kd:=(15,[.val (.int .i64)],[.str])
def pw:Nat×List PK×List Kd:=(17,[.bor (.slice .str),.val .str],[.str])
def r7:Nat×List PK×List Kd:=(18,[.val As],[.bool])
def nU:Nat×List PK×List Kd:=(19,[.val As],[.str])
def X_:Nat×List PK×List Kd:=(23,[.val .str],[(.slice .str)])
def px:Nat×List PK×List Kd:=(24,[.val .str],[(.slice .str),.bool])
def kT:Nat×List PK×List Kd:=(25,[.val .str],[(.slice (.int .i64)),.bool])
def G9:Nat×List PK×List Kd:=(26,[.bor (.slice (.slice (.int .i64)))],[.bool])
def nV:Nat×List PK×List Kd:=(27,[.bor (.slice .str)],[AM,.bool])
def Z8:Nat×List PK×List Kd:=(28,[.val AM],[.bool])
def kU:Nat×List PK×List Kd:=(29,[.val (.int .i64)],[(.int .u8)])
def nW:Nat×List PK×List Kd:=(30,[.val (.slice (.slice (.int .i64)))],[Af,.bool])
def Z9:Nat×List PK×List Kd:=(31,[.val AM],[.bool])
def eH:Nat×List PK×List Kd:=(32,[.ptr Af,.val AM,.val (.int .i64)],[.bool])
def r8:Nat×List PK×List Kd:=(33,[.val .bool],[(.int .i64)])
def kV:Nat×List PK×List Kd:=(34,[.val Ah],[Af])
def nX:Nat×List PK×List Kd:=(35,[.val (.slice (.slice (.int .i64)))],[Ah,.bool])
def tx:Nat×List PK×List Kd:=(36,[.ptr Ah,.val (.int .i64),.val AM],[(.int .i64)])
def py:Nat×List PK×List Kd:=(37,[.val Ah],[Ah])
def P_:Nat×List PK×List Kd:=(38,[.val .str,.val .str],[(.slice .str)])
def eI:Nat×List PK×List Kd:=(39,[.ptr MD,.val .str],[.bool])
def pz:Nat×List PK×List Kd:=(40,[.val (.int .i64)],[.str])
def Hl:Nat×List PK×List Kd:=(49,[.val .str],[(.int .i64),.bool])
def p8:Nat×List PK×List Kd:=(50,[.bor (.slice (.int .i64))],[.bool])
def Az:Nat×List PK×List Kd:=(51,[.val (.int .i64),.val (.int .i64),.val (.int .i64)],[.bool])
def G_:Nat×List PK×List Kd:=(52,[.bor (.slice (.slice (.int .i64)))],[.bool])
def Vr:Nat×List PK×List Kd:=(53,[.val (.slice (.slice (.int .i64)))],[(.slice (.slice (.int .i64)))])
def kW:Nat×List PK×List Kd:=(54,[.val (.int .i64),.val (.slice (.slice (.int .i64)))],[Y,.bool])
def A_:Nat×List PK×List Kd:=(55,[.val (.int .i64),.val (.int .i64),.val (.int .i64)],[.bool])
def IK:Nat×List PK×List Kd:=(56,[.val (.int .i64)],[.bool])
def gx:Nat×List PK×List Kd:=(57,[.val (.int .i64),.val (.int .i64),.val .str,.val .str],[.bool])
def eJ:Nat×List PK×List Kd:=(58,[.ptr Af,.val AM,.val (.int .i64)],[.bool])
def eK:Nat×List PK×List Kd:=(59,[.ptr Af,.val AM,.val (.int .i64)],[.bool])
def Gy:Nat×List PK×List Kd:=(60,[.ptr Af,.val (.int .i64)],[(.int .i64)])
def vS:Nat×List PK×List Kd:=(61,[.bor Y],[JZ])
def Z_:Nat×List PK×List Kd:=(62,[.ptr Af,.val AM,.val (.int .i64)],[.bool])
def Kw:Nat×List PK×List Kd:=(63,[.bor (.slice As)],[(.own 42 As)])
def GQ:Nat×List PK×List Kd:=(64,[.val Y],[Y])
def Ri:Nat×List PK×List Kd:=(65,[.val AJ],[AJ])
def Qd:Nat×List PK×List Kd:=(66,[.val (.slice (.slice (.int .i64)))],[(.slice (.slice (.int .i64)))])
def kX:Nat×List PK×List Kd:=(67,[.val (.int .i64),.val (.slice (.slice (.int .i64)))],[Y,.bool])
def nY:Nat×List PK×List Kd:=(68,[.ptr Ah,.val (.int .i64),.val AM],[(.int .i64)])
def nZ:Nat×List PK×List Kd:=(69,[.ptr Ah,.val (.int .i64),.val (.int .i64)],[(.int .i64)])
def Ja:Nat×List PK×List Kd:=(70,[.ptr Ah,.val Y,.val (.slice AJ),.val (.slice Ay),.val (.int .i64)],[])
def vT:Nat×List PK×List Kd:=(71,[.bor Y],[JZ])
def r9:Nat×List PK×List Kd:=(72,[.ptr Ah,.val (.int .i64),.val AM],[(.int .i64)])
def eL:Nat×List PK×List Kd:=(73,[.val (.slice AJ)],[(.slice AJ)])
def HA:Nat×List PK×List Kd:=(74,[.val Y],[Y])
def p9:Nat×List PK×List Kd:=(76,[.val .str],[(.slice .str),.bool])
def cn:Nat×List PK×List Kd:=(77,[.val .str,.val .str],[.bool])
def eM:Nat×List PK×List Kd:=(78,[.ptr MD,.val (.slice .str)],[.bool])
def p_:Nat×List PK×List Kd:=(79,[.bor (.slice .str)],[AM,.bool])
def Hm:Nat×List PK×List Kd:=(86,[.bor (.slice (.int .i64)),.val (.int .i64)],[.bool])
def MG:Nat×List PK×List Kd:=(87,[.bor (.slice (.int .i64)),.val (.int .i64)],[(.int .i64)])
def Cr:Nat×List PK×List Kd:=(88,[.bor (.slice (.int .i64))],[(.own 3 (.int .i64))])
def GC:Nat×List PK×List Kd:=(89,[.bor (.slice (.int .i64)),.val (.int .i64)],[.bool])
def gy:Nat×List PK×List Kd:=(90,[.val .str],[.bool])
def tz:Nat×List PK×List Kd:=(91,[.val Y,.val (.slice (.slice (.int .i64))),.val (.int .i64),.val (.int .i64),.val .str,.val .str],[Y,(.slice AJ),(.slice Ay),.bool])
def MH:Nat×List PK×List Kd:=(92,[.ptr Af,.val (.slice AJ),.val (.slice Ay),.val (.int .i64)],[])
def t6:Nat×List PK×List Kd:=(93,[.val Y,.val (.slice (.slice (.int .i64))),.val (.int .i64)],[Y,(.slice AJ),.bool])
def Hn:Nat×List PK×List Kd:=(94,[.bor (.slice Y),.val (.clo 95 (.int .i64))],[(.int .i64)])
def aA:Nat×List PK×List Kd:=(96,[.ptr Af,.val (.int .i64),.val (.int .i64)],[])
def F9:Nat×List PK×List Kd:=(97,[.mov (.own 112 AJ),.val (.int .i64),.val (.int .i64)],[(.own 112 AJ)])
def BK:Nat×List PK×List Kd:=(98,[.bor (.slice AH)],[(.own 45 AH)])
def t7:Nat×List PK×List Kd:=(99,[.val Y,.val (.slice (.slice (.int .i64))),.val (.int .i64),.val (.int .i64),.val .str,.val .str],[Y,(.slice AJ),(.slice Ay),.bool])
def t8:Nat×List PK×List Kd:=(100,[.val Y,.val (.slice (.slice (.int .i64))),.val (.int .i64)],[Y,(.slice AJ),.bool])
def qA:Nat×List PK×List Kd:=(101,[.val Y,.val (.slice (.slice (.int .i64))),.val AJ],[Y,(.slice AJ),(.slice Ay)])
def MI:Nat×List PK×List Kd:=(105,[.val .str,.val .str],[.bool])
def r_:Nat×List PK×List Kd:=(106,[.val .str],[(.slice (.int .i64)),.bool])
def sA:Nat×List PK×List Kd:=(107,[.val .str],[(.int .i64),(.int .i64)])
def Rj:Nat×List PK×List Kd:=(108,[.val .str],[(.int .i64),.bool])
def QA:Nat×List PK×List Kd:=(112,[.bor Y],[.bool])
def Xk:Nat×List PK×List Kd:=(113,[.ptr Y,.val (.slice (.slice (.int .i64)))],[.bool])
def dl:Nat×List PK×List Kd:=(114,[.bor (.slice AH),.val .str],[AH])
def GR:Nat×List PK×List Kd:=(115,[.ptr Y,.val (.slice (.int .i64))],[(.slice (.int .i64))])
def Nl:Nat×List PK×List Kd:=(116,[.mut (.own 3 (.int .i64))],[])
def Rk:Nat×List PK×List Kd:=(117,[.ptr Y],[(.slice Ay)])
def Bi:Nat×List PK×List Kd:=(118,[.ptr Y,.val (.slice (.int .i64)),.val AJ],[(.slice AJ)])
def MJ:Nat×List PK×List Kd:=(119,[.ptr Y],[])
def MK:Nat×List PK×List Kd:=(120,[.ptr Y,.val (.slice (.int .i64)),.val (.slice AH)],[(.slice AJ)])
def qB:Nat×List PK×List Kd:=(121,[.val Y,.val (.slice (.slice (.int .i64))),.val AJ],[Y,(.slice AJ),(.slice Ay)])
def QB:Nat×List PK×List Kd:=(122,[.bor Y],[.bool])
def dn:Nat×List PK×List Kd:=(123,[.bor (.slice AH),.val .str],[AH])
def Rl:Nat×List PK×List Kd:=(124,[.bor (.slice AH),.val AH],[(.own 45 AH)])
def Vs:Nat×List PK×List Kd:=(125,[.val (.slice (.int .i64)),.val (.int .i64)],[(.slice (.int .i64))])
def Vt:Nat×List PK×List Kd:=(126,[.ptr Y],[(.slice Ay)])
def dp:Nat×List PK×List Kd:=(127,[.ptr Y,.val (.slice (.int .i64)),.val (.slice AH)],[(.slice AJ)])
def t_:Nat×List PK×List Kd:=(128,[.bor AJ],[.bool])
def sB:Nat×List PK×List Kd:=(129,[.val Y,.val (.slice (.int .i64)),.val AJ],[Y,(.slice AJ),(.slice Ay)])
def aB:Nat×List PK×List Kd:=(130,[.val Y,.val (.int .i64)],[Y])
def Ke:Nat×List PK×List Kd:=(131,[.val Y,.val AJ,.val (.int .i64)],[(.slice AJ)])
def Rm:Nat×List PK×List Kd:=(140,[.bor (.slice (.int .i64)),.val (.int .i64),.val (.int .i64)],[.bool])
def ML:Nat×List PK×List Kd:=(141,[.bor (.slice AH)],[.bool])
def aC:Nat×List PK×List Kd:=(142,[.ptr Y],[.bool])
def E6:Nat×List PK×List Kd:=(143,[.mut (.own 3 (.int .i64)),.val (.int .i64),.val (.int .i64),.val (.int .i64)],[])
def na:Nat×List PK×List Kd:=(144,[.val (.int .u64)],[(.int .i64)])
def aD:Nat×List PK×List Kd:=(145,[.bor (.slice AH),.val AH],[(.own 45 AH)])
def uA:Nat×List PK×List Kd:=(146,[.bor AJ],[.bool])
def eN:Nat×List PK×List Kd:=(147,[.ptr Y,.val (.slice (.slice (.int .i64))),.val AJ],[(.slice AJ),(.slice Ay)])
def dq:Nat×List PK×List Kd:=(148,[.bor (.slice (.int .i64))],[.bool])
def MM:Nat×List PK×List Kd:=(149,[.bor (.slice AH)],[.bool])
def kY:Nat×List PK×List Kd:=(150,[.bor MC],[.bool])
def TF:Nat×List PK×List Kd:=(151,[.val (.slice (.int .i64)),.val (.int .i64)],[(.slice (.int .i64))])
def gz:Nat×List PK×List Kd:=(158,[.val (.int .u64)],[(.int .i64)])
def Lu:Nat×List PK×List Kd:=(162,[.mut (.own 3 (.int .i64)),.val (.int .i64),.val (.int .i64)],[])
def QC:Nat×List PK×List Kd:=(163,[.mut (.own 3 (.int .i64)),.val (.int .i64),.val (.int .i64)],[])
def Lv:Nat×List PK×List Kd:=(164,[.mut (.own 3 (.int .i64)),.val (.int .i64),.val (.int .i64)],[])
def Ni:Nat×List PK×List Kd:=(165,[.mut (.own 3 (.int .i64)),.val (.int .i64),.val (.int .i64)],[(.int .i64),(.int .i64)])
def MN:Nat×List PK×List Kd:=(166,[.mut (.own 3 (.int .i64)),.val (.int .i64),.val (.int .i64)],[])
def IN:Nat×List PK×List Kd:=(167,[.mut (.own 3 (.int .i64)),.val (.int .i64),.val (.int .i64)],[.bool])
def aE:Nat×List PK×List Kd:=(168,[.val (.int .i64),.val (.int .i64)],[.bool])
def Kx:Nat×List PK×List Kd:=(169,[.mut (.own 3 (.int .i64)),.val (.int .i64),.val (.int .i64),.val (.int .i64)],[(.int .i64)])
def PE:Nat×List PK×List Kd:=(170,[.mut (.own 3 (.int .i64)),.val (.int .i64),.val (.int .i64),.val (.int .i64)],[(.int .i64),.bool])
def g7:Nat×List PK×List Kd:=(171,[.val (.int .u32)],[(.int .i64)])
def E7:Nat×List PK×List Kd:=(172,[.bor (.slice AH),.val .str,.val (.fun 173)],[(.int .i64),.bool])
def g8:Nat×List PK×List Kd:=(174,[.val .str,.val .str],[(.int .i64)])
def KM:Nat×List PK×List Kd:=(175,[.mov (.own 45 AH),.val (.int .i64),.mov (.own 45 AH)],[(.own 45 AH)])
def eO:Nat×List PK×List Kd:=(176,[.ptr Y,.val (.slice (.slice (.int .i64))),.val AJ],[(.slice AJ)])
def ZS:Nat×List PK×List Kd:=(177,[.ptr Y,.val (.slice (.int .i64)),.val AJ],[(.slice AJ)])
def aF:Nat×List PK×List Kd:=(178,[.val (.slice (.int .i64)),.val (.int .i64)],[(.slice (.int .i64))])
def cp:Nat×List PK×List Kd:=(179,[.ptr Y,.val AJ],[(.slice AJ)])
def PF:Nat×List PK×List Kd:=(180,[.ptr Y,.val (.int .i64),.val AJ],[(.slice Ay)])
def YA:Nat×List PK×List Kd:=(190,[.val (.int .i64)],[.bool])
def RK:Nat×List PK×List Kd:=(194,[.mov (.own 3 (.int .i64)),.val (.clo 195 (.int .i64))],[(.own 3 (.int .i64))])
abbrev Le0 { ρ:Type} (t W:Option ρ):Prop:=∀ { r},t=some r->W=some r
abbrev MO {A0 ρ:Type} (t W:A0->Option ρ):Prop:=∀ {a0 r},t a0=some r->W a0=some r
abbrev Rb {A0 A1 ρ:Type} (t W:A0->A1->Option ρ):Prop:=∀ {a0 a1 r},t a0 a1=some r->W a0 a1=some r
abbrev Nm {A0 A1 A2 ρ:Type} (t W:A0->A1->A2->Option ρ):Prop:=∀ {a0 a1 a2 r},t a0 a1 a2=some r->W a0 a1 a2=some r
abbrev eP {A0 A1 A2 A3 ρ:Type} (t W:A0->A1->A2->A3->Option ρ):Prop:=∀ {a0 a1 a2 a3 r},t a0 a1 a2 a3=some r->W a0 a1 a2 a3=some r
abbrev rq {A0 A1 A2 A3 A4 ρ:Type} (t W:A0->A1->A2->A3->A4->Option ρ):Prop:=∀ {a0 a1 a2 a3 a4 r},t a0 a1 a2 a3 a4=some r->W a0 a1 a2 a3 a4=some r
abbrev wg {A0 A1 A2 A3 A4 A5 ρ:Type} (t W:A0->A1->A2->A3->A4->A5->Option ρ):Prop:=∀ {a0 a1 a2 a3 a4 a5 r},t a0 a1 a2 a3 a4 a5=some r->W a0 a1 a2 a3 a4 a5=some r
abbrev zu {A0 A1 A2 A3 A4 A5 A6 ρ:Type} (t W:A0->A1->A2->A3->A4->A5->A6->Option ρ):Prop:=∀ {a0 a1 a2 a3 a4 a5 a6 r},t a0 a1 a2 a3 a4 a5 a6=some r->W a0 a1 a2 a3 a4 a5 a6=some r
abbrev xY {A0 A1 A2 A3 A4 A5 A6 A7 ρ:Type} (t W:A0->A1->A2->A3->A4->A5->A6->A7->Option ρ):Prop:=∀ {a0 a1 a2 a3 a4 a5 a6 a7 r},t a0 a1 a2 a3 a4 a5 a6 a7=some r->W a0 a1 a2 a3 a4 a5 a6 a7=some r
abbrev Le9 {A0 A1 A2 A3 A4 A5 A6 A7 A8 ρ:Type} (t W:A0->A1->A2->A3->A4->A5->A6->A7->A8->Option ρ):Prop:=∀ {a0 a1 a2 a3 a4 a5 a6 a7 a8 r},t a0 a1 a2 a3 a4 a5 a6 a7 a8=some r->W a0 a1 a2 a3 a4 a5 a6 a7 a8=some r
abbrev yc {A0 A1 A2 A3 A4 A5 A6 A7 A8 A9 ρ:Type} (t W:A0->A1->A2->A3->A4->A5->A6->A7->A8->A9->Option ρ):Prop:=∀ {a0 a1 a2 a3 a4 a5 a6 a7 a8 a9 r},t a0 a1 a2 a3 a4 a5 a6 a7 a8 a9=some r->W a0 a1 a2 a3 a4 a5 a6 a7 a8 a9=some r
abbrev ADT {A0 A1 A2 A3 A4 A5 A6 A7 A8 A9 A10 ρ:Type} (t W:A0->A1->A2->A3->A4->A5->A6->A7->A8->A9->A10->Option ρ):Prop:=∀ {a0 a1 a2 a3 a4 a5 a6 a7 a8 a9 a10 r},t a0 a1 a2 a3 a4 a5 a6 a7 a8 a9 a10=some r->W a0 a1 a2 a3 a4 a5 a6 a7 a8 a9 a10=some r
abbrev ACT {A0 A1 A2 A3 A4 A5 A6 A7 A8 A9 A10 A11 ρ:Type} (t W:A0->A1->A2->A3->A4->A5->A6->A7->A8->A9->A10->A11->Option ρ):Prop:=∀ {a0 a1 a2 a3 a4 a5 a6 a7 a8 a9 a10 a11 r},t a0 a1 a2 a3 a4 a5 a6 a7 a8 a9 a10 a11=some r->W a0 a1 a2 a3 a4 a5 a6 a7 a8 a9 a10 a11=some r
abbrev ADU {A0 A1 A2 A3 A4 A5 A6 A7 A8 A9 A10 A11 A12 A13 ρ:Type} (t W:A0->A1->A2->A3->A4->A5->A6->A7->A8->A9->A10->A11->A12->A13->Option ρ):Prop:=∀ {a0 a1 a2 a3 a4 a5 a6 a7 a8 a9 a10 a11 a12 a13 r},t a0 a1 a2 a3 a4 a5 a6 a7 a8 a9 a10 a11 a12 a13=some r->W a0 a1 a2 a3 a4 a5 a6 a7 a8 a9 a10 a11 a12 a13=some r
abbrev AC7 {A0 A1 A2 A3 A4 A5 A6 A7 A8 A9 A10 A11 A12 A13 A14 ρ:Type} (t W:A0->A1->A2->A3->A4->A5->A6->A7->A8->A9->A10->A11->A12->A13->A14->Option ρ):Prop:=∀ {a0 a1 a2 a3 a4 a5 a6 a7 a8 a9 a10 a11 a12 a13 a14 r},t a0 a1 a2 a3 a4 a5 a6 a7 a8 a9 a10 a11 a12 a13 a14=some r->W a0 a1 a2 a3 a4 a5 a6 a7 a8 a9 a10 a11 a12 a13 a14=some r

def Fv:BS:=⟨[.val .str],[⟨2,false,.bool⟩],(.seq (.region [.mv 2 (.c (.bool false))] [0]) (.seq (.seq (.region [.m 5 0,.len 6 true (.t 5),.bin 7 .gtr (.t 6) (.i 1048576)] [0,7]) (.cond (.t 7) (.seq (.region [.mv 2 (.c (.bool true))] [2]) .ret) .skip)) (.seq (.region [.m 8 0,.cl 9 [8] pr,.m 3 9] [0,3]) (.seq (.region [.m 10 0,.cl 11 [10] pu,.m 4 11] [3,4]) (.seq (.seq (.region [.m 12 4,.m 13 3,.b 14 .neq 12 13] [14]) (.cond (.t 14) (.seq (.region [.mv 2 (.c (.bool false))] [2]) .ret) .skip)) (.seq (.region [.mv 2 (.c (.bool true))] [2]) .ret))))))⟩
theorem ZT:Ax Tryz.prog 3 Fv=true:=by kernel_rfl
def Vu:AI:=(.seq (.seq (.region [.m 33 10,.m 34 7,.len 35 false (.t 34),.b 36 .lss 33 35] [6,7,9,10,36]) (.cond (.t 36) .skip (.exit 0))) (.seq (.block 1 [6,7,9,10] (.seqc [6,7,9,10] (.seq (.region [.m 39 10,.bin 40 .gtr (.t 39) (.i 0)] [6,7,9,10,40]) (.cond (.t 40) (.region [.m 41 9,.bin 42 .add (.t 41) (.c (.str ⟨#[32]⟩)),.m 9 42] [6,7,9,10]) .skip)) (.region [.m 43 9,.m 44 7,.m 45 10,.idx 46 1 (.t 44) (.t 45),.l 47 46,.cl 48 [47] ME,.b 49 .add 43 48,.m 9 49] [6,7,9,10]))) (.region [.m 37 10,.bin 38 .add (.t 37) (.i 1),.m 10 38] [6,7,9,10])))
def TG:AI:=(.cond (.t 88) (.region [.m 89 9,.bin 90 .add (.t 89) (.c (.str ⟨#[103,101,116,32]⟩)),.f 91 12 1,.l 92 91,.b 93 .add 90 92,.bin 94 .add (.t 93) (.c (.str ⟨#[32]⟩)),.f 95 12 8,.l 96 95,.b 97 .add 94 96,.bin 98 .add (.t 97) (.c (.str ⟨#[10]⟩)),.m 9 98] [6,9,11]) .skip)
def TH:AI:=(.seq (.region [.f 81 12 4,.l 82 81,.bin 83 .geq (.t 82) (.i 0),.m 84 83,.sc 84 true [.f 85 12 0,.l 86 85,.bin 87 .eql (.t 86) (.i 2)] 88 (.t 87) (.c (.bool false))] [6,9,11,12,88]) TG)
def TI:AI:=(.region [.m 60 11,.bin 61 .add (.t 60) (.i 1),.m 11 61] [6,9,11])
def TJ:AI:=(.seq (.seq (.region [.m 55 11,.f 56 6 3,.l 57 56,.len 58 false (.t 57),.b 59 .lss 55 58] [6,9,11,59]) (.cond (.t 59) .skip (.exit 2))) (.seq (.block 3 [6,9,11] (.seq (.region [.f 62 6 3,.l 63 62,.m 64 11,.idx 65 9 (.t 63) (.t 64),.ls 66 65 9,.al 12 As,.store (.t 12) (.t 66) 9 false] [6,9,11,12]) (.seqc [6,9,11,12] (.seq (.region [.f 67 12 4,.l 68 67,.bin 69 .geq (.t 68) (.i 0),.m 70 69,.sc 70 true [.f 71 12 0,.l 72 71,.bin 73 .eql (.t 72) (.i 1)] 74 (.t 73) (.c (.bool false))] [6,9,11,12,74]) (.cond (.t 74) (.region [.m 75 9,.bin 76 .add (.t 75) (.c (.str ⟨#[112,117,116,32]⟩)),.f 77 12 1,.l 78 77,.b 79 .add 76 78,.bin 80 .add (.t 79) (.c (.str ⟨#[10]⟩)),.m 9 80] [6,9,11,12]) .skip)) TH))) TI))
def TK:AI:=(.seq (.seq (.region [.m 99 13,.f 100 6 1,.l 101 100,.len 102 false (.t 101),.b 103 .lss 99 102] [6,9,13,103]) (.cond (.t 103) .skip (.exit 4))) (.seq (.block 5 [6,9,13] (.seq (.region [.f 106 6 1,.l 107 106,.m 108 13,.idx 109 16 (.t 107) (.t 108),.f 110 109 5,.l 111 110] [6,9,13,111]) (.cond (.t 111) (.region [.m 112 9,.bin 113 .add (.t 112) (.c (.str ⟨#[115,101,114,118,101,115,32]⟩)),.f 114 6 1,.l 115 114,.m 116 13,.idx 117 16 (.t 115) (.t 116),.f 118 117 0,.l 119 118,.cl 120 [119] ME,.b 121 .add 113 120,.bin 122 .add (.t 121) (.c (.str ⟨#[10]⟩)),.m 9 122] [6,9,13]) .skip))) (.region [.m 104 13,.bin 105 .add (.t 104) (.i 1),.m 13 105] [6,9,13])))
def TL:AI:=(.seq (.region [.m 123 9,.m 2 123] [2]) .ret)
def TM:AI:=(.seq (.seq (.region [.mv 13 (.i 0)] [6,9,13]) (.block 4 [9] (.loop [6,9,13] TK))) TL)
def MP:AI:=(.seqc [6,9] (.seq (.region [.m 50 7,.len 51 false (.t 50),.bin 52 .gtr (.t 51) (.i 0)] [6,9,52]) (.cond (.t 52) (.region [.m 53 9,.bin 54 .add (.t 53) (.c (.str ⟨#[10]⟩)),.m 9 54] [6,9]) .skip)) (.seq (.seq (.region [.mv 11 (.i 0)] [6,9,11]) (.block 2 [6,9] (.loop [6,9,11] TJ))) TM))
def At:BS:=⟨[.val .str],[⟨2,false,.str⟩],(.seq (.region [.mv 2 (.c (.str ⟨#[]⟩))] [0]) (.seq (.region [.m 15 0,.cl 16 [15] gu,.m 14 16,.ext 17 (.t 14) 0,.ext 18 (.t 14) 1,.ext 19 (.t 14) 2,.m 3 17,.m 4 18,.m 5 19] [3,4,5]) (.seq (.seq (.region [.m 20 5,.bin 21 .neq (.t 20) (.i 0)] [3,4,5,21]) (.cond (.t 21) (.seq (.region [.m 22 5,.cl 23 [22] ME,.bin 24 .add (.c (.str ⟨#[102,97,117,108,116,32]⟩)) (.t 23),.bin 25 .add (.t 24) (.c (.str ⟨#[10]⟩)),.m 2 25] [2]) .ret) .skip)) (.seq (.region [.m 27 3,.m 28 4,.cl 29 [27,28] nT,.m 26 29,.ext 30 (.t 26) 0,.ext 31 (.t 26) 1,.ext 32 (.t 26) 2,.al 6 Ah,.store (.t 6) (.t 30) 4 false,.m 7 31,.m 8 32] [6,7]) (.seq (.region [.mv 9 (.c (.str ⟨#[]⟩))] [6,7,9]) (.seq (.seq (.region [.mv 10 (.i 0)] [6,7,9,10]) (.block 0 [6,7,9] (.loop [6,7,9,10] Vu))) MP))))))⟩
theorem qC:Ax Tryz.prog 5 At=true:=by kernel_rfl
def Vv:AI:=(.seq (.region [.b 39 .lss 38 37] [6,9,36,37,38,39]) (.seq (.cond (.t 39) .skip (.exit 0)) (.seq (.block 1 [6,9,36,37,38] (.seq (.region [.idx 40 1 (.t 36) (.t 38),.l 41 40,.m 11 41] [6,9,11,36,37,38]) (.region [.m 42 9,.m 43 11,.cl 44 [43] MF,.blst 45 .str [.t 44],.app 46 9 .str (.t 42) (.t 45),.m 9 46] [6,9,36,37,38]))) (.region [.bin 47 .add (.t 38) (.i 1),.m 38 47] [6,9,36,37,38]))))
def TN:AI:=(.seq (.region [.b 59 .lss 58 57] [6,12,56,57,58,59]) (.seq (.cond (.t 59) .skip (.exit 2)) (.seq (.block 3 [6,12,56,57,58] (.seq (.region [.idx 60 9 (.t 56) (.t 58),.ls 61 60 9,.al 14 As,.store (.t 14) (.t 61) 9 false] [6,12,14,56,57,58]) (.seq (.region [.ls 62 14 9,.cl 63 [62] r7] [6,12,14,56,57,58,63]) (.cond (.t 63) (.region [.ls 64 14 9,.cl 65 [64] nU,.bld (some 66) 1 16 5 (.t 12) (.t 65)] [6,12,56,57,58]) .skip)))) (.region [.bin 67 .add (.t 58) (.i 1),.m 58 67] [6,12,56,57,58]))))
def TO:AI:=(.seq (.region [.b 72 .lss 71 70] [12,69,70,71,72]) (.seq (.cond (.t 72) .skip (.exit 4)) (.seq (.block 5 [12,69,70,71] (.seq (.region [.idx 73 16 (.t 69) (.t 71),.ls 74 73 16,.al 16 Y,.store (.t 16) (.t 74) 16 false] [12,16,69,70,71]) (.seq (.region [.f 75 16 5,.l 76 75] [12,16,69,70,71,76]) (.cond (.t 76) (.region [.f 77 16 0,.l 78 77,.cl 79 [78] MF,.bin 80 .add (.c (.str ⟨#[115,101,114,118,101,115,32]⟩)) (.t 79),.bin 81 .add (.t 80) (.c (.str ⟨#[10]⟩)),.bld (some 82) 1 16 5 (.t 12) (.t 81)] [12,69,70,71]) .skip)))) (.region [.bin 83 .add (.t 71) (.i 1),.m 71 83] [12,69,70,71]))))
def TP:AI:=(.seq (.region [.bld (some 84) 2 20 5 (.t 12) (.c .undef),.m 2 84] [2]) .ret)
def MQ:AI:=(.seq (.seq (.region [.f 68 6 1,.l 69 68,.len 70 false (.t 69),.mv 71 (.i 0)] [12,69,70,71]) (.block 4 [12] (.loop [12,69,70,71] TO))) TP)
def TQ:AI:=(.seq (.seq (.region [.f 55 6 3,.l 56 55,.len 57 false (.t 56),.mv 58 (.i 0)] [6,12,56,57,58]) (.block 2 [6,12] (.loop [6,12,56,57,58] TN))) MQ)
def MR:AI:=(.seq (.region [.alloc 12 [.self 53,.new 5 (.int .u8) []]] [6,9,12]) (.seqc [6,12] (.seq (.region [.m 48 9,.len 49 false (.t 48),.bin 50 .gtr (.t 49) (.i 0)] [6,9,12,50]) (.cond (.t 50) (.region [.m 51 9,.cx (some 52) [.t 51,.c (.str ⟨#[32]⟩)] pw,.bin 53 .add (.t 52) (.c (.str ⟨#[10]⟩)),.bld (some 54) 1 16 5 (.t 12) (.t 53)] [6,12]) .skip)) TQ))
def Ao:BS:=⟨[.val .str],[⟨2,false,.str⟩],(.seq (.region [.mv 2 (.c (.str ⟨#[]⟩))] [0]) (.seq (.region [.m 18 0,.cl 19 [18] gw,.m 17 19,.ext 20 (.t 17) 0,.ext 21 (.t 17) 1,.ext 22 (.t 17) 2,.m 3 20,.m 4 21,.m 5 22] [3,4,5]) (.seq (.seq (.region [.m 23 5,.bin 24 .neq (.t 23) (.i 0)] [3,4,5,24]) (.cond (.t 24) (.seq (.region [.m 25 5,.cl 26 [25] MF,.bin 27 .add (.c (.str ⟨#[102,97,117,108,116,32]⟩)) (.t 26),.bin 28 .add (.t 27) (.c (.str ⟨#[10]⟩)),.m 2 28] [2]) .ret) .skip)) (.seq (.region [.m 30 3,.m 31 4,.cl 32 [30,31] nS,.m 29 32,.ext 33 (.t 29) 0,.ext 34 (.t 29) 1,.ext 35 (.t 29) 2,.al 6 Ah,.store (.t 6) (.t 33) 4 false,.m 7 34,.m 8 35] [6,7]) (.seq (.region [.nilrow 9 9 .str] [6,7,9]) (.seq (.seq (.region [.m 36 7,.len 37 false (.t 36),.mv 38 (.i 0)] [6,9,36,37,38]) (.block 0 [6,9] (.loop [6,9,36,37,38] Vv))) MR))))))⟩
theorem qD:Ax Tryz.prog 6 Ao=true:=by kernel_rfl
def Qe:AI:=(.cond (.t 73) (.seq (.region [.m 75 10,.idx 76 1 (.t 75) (.i 1),.l 77 76,.cl 78 [77] kT,.m 74 78,.ext 79 (.t 74) 0,.ext 80 (.t 74) 1,.m 12 79,.m 13 80] [5,6,7,8,9,12,13]) (.seq (.region [.m 81 7,.m 82 12,.blst 83 (.slice (.int .i64)) [.t 82],.app 84 37 (.slice (.int .i64)) (.t 81) (.t 83),.m 7 84] [5,6,7,8,9,13]) (.seq (.seq (.region [.m 85 13,.un 86 .not (.t 85),.m 87 86,.sc 87 false [.m 88 8,.len 89 false (.t 88),.bin 90 .gtr (.t 89) (.i 0)] 91 (.c (.bool true)) (.t 90),.m 92 91,.sc 92 false [.m 93 7,.cl 94 [93] G9,.un 95 .not (.t 94)] 96 (.c (.bool true)) (.t 95)] [5,6,7,8,9,96]) (.cond (.t 96) (.seq (.region [.blst 97 (.slice (.int .i64)) [],.m 98 5,.m 99 9,.bin 100 .add (.t 99) (.i 1),.m 2 97,.m 3 98,.m 4 100] [2,3,4]) .ret) .skip)) (.exit 1)))) .skip)
def JA:AI:=(.seq (.region [.m 102 10,.cl 103 [102] nV,.m 101 103,.ext 104 (.t 101) 0,.ext 105 (.t 101) 1,.al 14 AM,.store (.t 14) (.t 104) 6 false,.m 15 105] [5,6,7,8,9,14,15]) (.seq (.seq (.region [.m 106 15,.un 107 .not (.t 106),.m 108 107,.sc 108 false [.ls 109 14 6,.cl 110 [109] Z8,.un 111 .not (.t 110)] 112 (.c (.bool true)) (.t 111),.m 113 112,.sc 113 false [.m 114 7,.len 115 false (.t 114),.bin 116 .eql (.t 115) (.i 0)] 117 (.c (.bool true)) (.t 116),.m 118 117,.sc 118 false [.m 119 8,.len 120 false (.t 119),.bin 121 .eql (.t 120) (.i 70)] 122 (.c (.bool true)) (.t 121)] [5,6,7,8,9,14,122]) (.cond (.t 122) (.seq (.region [.blst 123 (.slice (.int .i64)) [],.m 124 5,.m 125 9,.bin 126 .add (.t 125) (.i 1),.m 2 123,.m 3 124,.m 4 126] [2,3,4]) .ret) .skip)) (.region [.m 127 8,.ls 128 14 6,.blst 129 AM [.t 128],.app 130 72 AM (.t 127) (.t 129),.m 8 130] [5,6,7,8,9])))
def PG:AI:=(.seq (.seq (.region [.m 59 11,.un 60 .not (.t 59)] [5,6,7,8,9,10,60]) (.cond (.t 60) (.seq (.region [.blst 61 (.slice (.int .i64)) [],.m 62 5,.m 63 9,.bin 64 .add (.t 63) (.i 1),.m 2 61,.m 3 62,.m 4 64] [2,3,4]) .ret) .skip)) (.seq (.seq (.region [.m 65 10,.idx 66 1 (.t 65) (.i 0),.l 67 66,.bin 68 .eql (.t 67) (.c (.str ⟨#[118,105,101,119]⟩)),.m 69 68,.sc 69 true [.m 70 10,.len 71 false (.t 70),.bin 72 .eql (.t 71) (.i 2)] 73 (.t 72) (.c (.bool false))] [5,6,7,8,9,10,73]) Qe) JA))
def PH:AI:=(.region [.m 36 9,.bin 37 .add (.t 36) (.i 1),.m 9 37] [5,6,7,8,9])
def PI:AI:=(.seq (.seq (.region [.m 32 9,.m 33 6,.len 34 false (.t 33),.b 35 .lss 32 34] [5,6,7,8,9,35]) (.cond (.t 35) .skip (.exit 0))) (.seq (.block 1 [5,6,7,8,9] (.seq (.region [.m 39 6,.m 40 9,.idx 41 1 (.t 39) (.t 40),.l 42 41,.cl 43 [42] px,.m 38 43,.ext 44 (.t 38) 0,.ext 45 (.t 38) 1,.m 10 44,.m 11 45] [5,6,7,8,9,10,11]) (.seq (.seq (.region [.m 46 11,.m 47 46,.sc 47 true [.m 48 10,.len 49 false (.t 48),.bin 50 .eql (.t 49) (.i 0),.m 51 50,.sc 51 false [.m 52 10,.idx 53 1 (.t 52) (.i 0),.l 54 53,.sidx 55 (.t 54) (.i 0),.bin 56 .eql (.t 55) (.c (.int .u8 35))] 57 (.c (.bool true)) (.t 56)] 58 (.t 57) (.c (.bool false))] [5,6,7,8,9,10,11,58]) (.cond (.t 58) (.exit 1) .skip)) PG))) PH))
def JB:AI:=(.seq (.seq (.region [.m 131 7,.len 132 false (.t 131),.bin 133 .eql (.t 132) (.i 0)] [5,7,8,133]) (.cond (.t 133) (.seq (.region [.blst 134 (.slice (.int .i64)) [],.m 135 5,.m 2 134,.m 3 135,.mv 4 (.i 1)] [2,3,4]) .ret) .skip)) (.seq (.region [.m 136 7,.m 137 8,.m 2 136,.m 3 137,.mv 4 (.i 0)] [2,3,4]) .ret))
def PJ:AI:=(.seq (.region [.m 28 0,.cl 29 [28] X_,.m 6 29] [5,6]) (.seq (.region [.brow 30 37 (.slice (.int .i64)) [],.m 7 30] [5,6,7]) (.seq (.region [.brow 31 72 AM [],.m 8 31] [5,6,7,8]) (.seq (.seq (.region [.mv 9 (.i 0)] [5,6,7,8,9]) (.block 0 [5,7,8] (.loop [5,6,7,8,9] PI))) JB))))
def Ar:BS:=⟨[.val .str],[⟨2,false,(.slice (.slice (.int .i64)))⟩,⟨3,false,(.slice AM)⟩,⟨4,false,(.int .i64)⟩],(.seq (.region [.mv 2 (.c (.nil)),.mv 3 (.c (.nil)),.mv 4 (.i 0)] [0]) (.seq (.region [.blst 16 AM [],.m 5 16] [0,5]) (.seq (.seq (.region [.m 17 0,.len 18 true (.t 17),.bin 19 .gtr (.t 18) (.i 4000),.m 20 19,.sc 20 false [.m 21 0,.cl 22 [21] X_,.len 23 false (.t 22),.bin 24 .gtr (.t 23) (.i 100)] 25 (.c (.bool true)) (.t 24)] [0,5,25]) (.cond (.t 25) (.seq (.region [.blst 26 (.slice (.int .i64)) [],.m 27 5,.m 2 26,.m 3 27,.mv 4 (.c (.int .i64 (-1)))] [2,3,4]) .ret) .skip)) PJ)))⟩
theorem g9:Ax Tryz.prog 9 Ar=true:=by kernel_rfl
def Vw:AI:=(.seq (.region [.m 18 5,.cl 19 [18] kU,.brow 20 5 (.int .u8) [.t 19],.bts 21 (.t 20),.m 22 4,.b 23 .add 21 22,.m 4 23] [0,3,4]) (.region [.m 24 0,.bin 25 .quo (.t 24) (.i 10),.m 0 25] [0,3,4]))
def Vx:AI:=(.seq (.seq (.region [.m 10 0,.bin 11 .neq (.t 10) (.i 0)] [0,3,4,11]) (.cond (.t 11) .skip (.exit 0))) (.block 1 [0,3,4] (.seq (.region [.m 12 0,.bin 13 .rem (.t 12) (.i 10),.m 5 13] [0,3,4,5]) (.seqc [0,3,4,5] (.seq (.region [.m 14 5,.bin 15 .lss (.t 14) (.i 0)] [0,3,4,5,15]) (.cond (.t 15) (.region [.m 16 5,.un 17 .neg (.t 16),.m 5 17] [0,3,4,5]) .skip)) Vw))))
def TR:AI:=(.seq (.seq (.region [.m 26 3] [4,26]) (.cond (.t 26) (.seq (.region [.m 27 4,.bin 28 .add (.c (.str ⟨#[45]⟩)) (.t 27),.m 2 28] [2]) .ret) .skip)) (.seq (.region [.m 29 4,.m 2 29] [2]) .ret))
def Df:BS:=⟨[.val (.int .i64)],[⟨2,false,.str⟩],(.seq (.region [.mv 2 (.c (.str ⟨#[]⟩))] [0]) (.seq (.seq (.region [.m 6 0,.bin 7 .eql (.t 6) (.i 0)] [0,7]) (.cond (.t 7) (.seq (.region [.mv 2 (.c (.str ⟨#[48]⟩))] [2]) .ret) .skip)) (.seq (.region [.m 8 0,.bin 9 .lss (.t 8) (.i 0),.m 3 9] [0,3]) (.seq (.region [.mv 4 (.c (.str ⟨#[]⟩))] [0,3,4]) (.seq (.block 0 [3,4] (.loop [0,3,4] Vx)) TR)))))⟩
theorem qE:Ax Tryz.prog 10 Df=true:=by kernel_rfl
def TS:AI:=(.seq (.region [.b 31 .lss 30 29] [1,4,7,28,29,30,31]) (.seq (.cond (.t 31) .skip (.exit 0)) (.seq (.block 1 [1,4,7,28,29,30] (.seq (.region [.idx 32 6 (.t 28) (.t 30),.ls 33 32 6,.al 10 AM,.store (.t 10) (.t 33) 6 false] [1,4,7,10,28,29,30]) (.seq (.region [.ls 34 10 6,.cl 35 [34] Z9,.un 36 .not (.t 35)] [1,4,7,28,29,30,36]) (.cond (.t 36) (.seq (.region [.build 37 [.nil,.nil,.nil,.nil] [],.store (.t 4) (.t 37) 4 false,.mv 5 (.c (.nil)),.mv 6 (.c (.bool false))] [4,5,6]) .ret) .skip)))) (.region [.bin 38 .add (.t 30) (.i 1),.m 30 38] [1,4,7,28,29,30]))))
def Rn:AI:=(.seq (.region [.b 42 .lss 41 40] [4,7,11,39,40,41,42]) (.seq (.cond (.t 42) .skip (.exit 2)) (.seq (.block 3 [4,7,11,39,40,41] (.seq (.region [.m 43 41,.idx 44 6 (.t 39) (.t 41),.ls 45 44 6,.al 13 AM,.m 12 43,.store (.t 13) (.t 45) 6 false] [4,7,11,12,13,39,40,41]) (.seq (.region [.ls 46 13 6,.m 47 12,.cl 48 [7,46,47] eH,.m 14 48] [4,7,11,14,39,40,41]) (.region [.m 49 11,.m 50 14,.cl 51 [50] r8,.blst 52 (.int .i64) [.t 51],.app 53 3 (.int .i64) (.t 49) (.t 52),.m 11 53] [4,7,11,39,40,41])))) (.region [.bin 54 .add (.t 41) (.i 1),.m 41 54] [4,7,11,39,40,41]))))
def Ro:AI:=(.seq (.region [.ls 55 7 4,.cl 56 [55] kV,.m 57 11,.store (.t 4) (.t 56) 4 false,.m 5 57,.mv 6 (.c (.bool true))] [4,5,6]) .ret)
def Ky:AI:=(.seq (.region [.nilrow 11 3 (.int .i64)] [1,4,7,11]) (.seq (.seq (.region [.m 39 1,.len 40 false (.t 39),.mv 41 (.i 0)] [4,7,11,39,40,41]) (.block 2 [4,7,11] (.loop [4,7,11,39,40,41] Rn))) Ro))
def Rp:AI:=(.seq (.seq (.region [.m 28 1,.len 29 false (.t 28),.mv 30 (.i 0)] [1,4,7,28,29,30]) (.block 0 [1,4,7] (.loop [1,4,7,28,29,30] TS))) Ky)
def BM:BS:=⟨[.val (.slice (.slice (.int .i64))),.val (.slice AM)],[⟨4,true,Ah⟩,⟨5,false,(.slice (.int .i64))⟩,⟨6,false,.bool⟩],(.seq (.region [.al 4 Af,.mv 5 (.c (.nil)),.mv 6 (.c (.bool false))] [0,1,4]) (.seq (.region [.m 16 0,.cl 17 [16] nW,.m 15 17,.ext 18 (.t 15) 0,.ext 19 (.t 15) 1,.al 7 Af,.store (.t 7) (.t 18) 4 false,.m 8 19] [1,4,7,8]) (.seq (.seq (.region [.m 20 8,.un 21 .not (.t 20),.m 22 21,.sc 22 false [.m 23 1,.len 24 false (.t 23),.bin 25 .gtr (.t 24) (.i 70)] 26 (.c (.bool true)) (.t 25)] [1,4,7,26]) (.cond (.t 26) (.seq (.region [.build 27 [.nil,.nil,.nil,.nil] [],.store (.t 4) (.t 27) 4 false,.mv 5 (.c (.nil)),.mv 6 (.c (.bool false))] [4,5,6]) .ret) .skip)) Rp)))⟩
theorem nb:Ax Tryz.prog 11 BM=true:=by kernel_rfl
def TU:AI:=(.seq (.block 1 [1,4,7,8,9] (.region [.m 26 1,.len 27 false (.t 26),.bin 28 .leq (.t 27) (.i 70),.m 29 28,.sc 29 true [.m 30 1,.m 31 9,.idx 32 6 (.t 30) (.t 31),.ls 33 32 6,.cl 34 [33] Z8] 35 (.t 34) (.c (.bool false)),.m 8 35] [1,4,7,8,9])) (.region [.m 24 9,.bin 25 .add (.t 24) (.i 1),.m 9 25] [1,4,7,8,9]))
def TV:AI:=(.seq (.seq (.region [.m 17 9,.m 18 1,.len 19 false (.t 18),.b 20 .lss 17 19,.m 21 20,.sc 21 true [.m 22 8] 23 (.t 22) (.c (.bool false))] [1,4,7,8,9,23]) (.cond (.t 23) .skip (.exit 0))) TU)
def TW:AI:=(.seq (.seq (.region [.m 41 11,.m 42 1,.len 43 false (.t 42),.b 44 .lss 41 43] [1,4,7,10,11,44]) (.cond (.t 44) .skip (.exit 2))) (.seq (.block 3 [1,4,7,10,11] (.region [.m 47 10,.m 48 11,.m 49 1,.m 50 11,.idx 51 6 (.t 49) (.t 50),.ls 52 51 6,.cl 53 [7,48,52] tx,.blst 54 (.int .i64) [.t 53],.app 55 3 (.int .i64) (.t 47) (.t 54),.m 10 55] [1,4,7,10,11])) (.region [.m 45 11,.bin 46 .add (.t 45) (.i 1),.m 11 46] [1,4,7,10,11])))
def Rq:AI:=(.seq (.region [.ls 56 7 4,.cl 57 [56] py,.m 58 10,.store (.t 4) (.t 57) 4 false,.m 5 58,.mv 6 (.c (.bool true))] [4,5,6]) .ret)
def Kz:AI:=(.seq (.seq (.region [.m 36 8,.un 37 .not (.t 36)] [1,4,7,37]) (.cond (.t 37) (.seq (.region [.bu 38 Ah [],.blst 39 (.int .i64) [],.store (.t 4) (.t 38) 4 false,.m 5 39,.mv 6 (.c (.bool false))] [4,5,6]) .ret) .skip)) (.seq (.region [.brow 40 3 (.int .i64) [],.m 10 40] [1,4,7,10]) (.seq (.seq (.region [.mv 11 (.i 0)] [1,4,7,10,11]) (.block 2 [4,7,10] (.loop [1,4,7,10,11] TW))) Rq)))
def BT:BS:=⟨[.val (.slice (.slice (.int .i64))),.val (.slice AM)],[⟨4,true,Ah⟩,⟨5,false,(.slice (.int .i64))⟩,⟨6,false,.bool⟩],(.seq (.region [.al 4 Ah,.mv 5 (.c (.nil)),.mv 6 (.c (.bool false))] [0,1,4]) (.seq (.region [.m 13 0,.cl 14 [13] nX,.m 12 14,.ext 15 (.t 12) 0,.ext 16 (.t 12) 1,.al 7 Ah,.store (.t 7) (.t 15) 4 false,.m 8 16] [1,4,7,8]) (.seq (.seq (.region [.mv 9 (.i 0)] [1,4,7,8,9]) (.block 0 [1,4,7,8] (.loop [1,4,7,8,9] TV))) Kz)))⟩
theorem nc:Ax Tryz.prog 13 BT=true:=by kernel_rfl
def Qf:AI:=(.seq (.region [.b 34 .lss 33 32] [6,31,32,33,34]) (.seq (.cond (.t 34) .skip (.exit 0)) (.seq (.block 1 [6,31,32,33] (.seq (.region [.m 35 33,.idx 36 1 (.t 31) (.t 33),.l 37 36,.m 7 35,.m 8 37] [6,7,8,31,32,33]) (.seq (.region [.m 38 8,.cl 39 [6,38] eI,.un 40 .not (.t 39)] [6,7,31,32,33,40]) (.cond (.t 40) (.seq (.region [.m 41 7,.bin 42 .add (.t 41) (.i 1),.mv 2 (.c (.nil)),.mv 3 (.c (.nil)),.m 4 42] [2,3,4]) .ret) .skip)))) (.region [.bin 43 .add (.t 33) (.i 1),.m 33 43] [6,31,32,33]))))
def JC:AI:=(.seq (.seq (.region [.f 44 6 0,.l 45 44,.len 46 false (.t 45),.bin 47 .eql (.t 46) (.i 0)] [6,47]) (.cond (.t 47) (.seq (.region [.mv 2 (.c (.nil)),.mv 3 (.c (.nil)),.mv 4 (.i 1)] [2,3,4]) .ret) .skip)) (.seq (.draw (Fd 7 [(2,[]),(4,[1]),(5,[3,4])]) (.tk 7 [.mv 4 (.i 0),.m 3 51,.m 2 49,.l 51 50,.f 50 6 1,.l 49 48,.f 48 6 0] .done) [2,3,4]) .ret))
def PL:AI:=(.seq (.region [.al 6 MD] [5,6]) (.seq (.seq (.region [.m 31 5,.len 32 false (.t 31),.mv 33 (.i 0)] [6,31,32,33]) (.block 0 [6] (.loop [6,31,32,33] Qf))) JC))
def PM:AI:=(.seq (.seq (.region [.m 23 0,.len 24 true (.t 23),.bin 25 .gtr (.t 24) (.i 4000),.m 26 25,.sc 26 false [.m 27 5,.len 28 false (.t 27),.bin 29 .gtr (.t 28) (.i 100)] 30 (.c (.bool true)) (.t 29)] [5,30]) (.cond (.t 30) (.seq (.region [.mv 2 (.c (.nil)),.mv 3 (.c (.nil)),.mv 4 (.c (.int .i64 (-1)))] [2,3,4]) .ret) .skip)) PL)
def BJ:BS:=⟨[.val .str],[⟨2,false,(.slice (.slice (.int .i64)))⟩,⟨3,false,(.slice AM)⟩,⟨4,false,(.int .i64)⟩],(.seq (.region [.mv 2 (.c (.nil)),.mv 3 (.c (.nil)),.mv 4 (.i 0)] [0]) (.seq (.region [.m 9 0,.cx (some 10) [.t 9,.c (.str ⟨#[10]⟩)] P_,.m 5 10] [0,5]) (.seqc [0,5] (.seq (.region [.m 11 5,.m 12 5,.len 13 false (.t 12),.bin 14 .sub (.t 13) (.i 1),.idx 15 1 (.t 11) (.t 14),.l 16 15,.bin 17 .eql (.t 16) (.c (.str ⟨#[]⟩))] [0,5,17]) (.cond (.t 17) (.region [.m 18 5,.m 19 5,.len 20 false (.t 19),.bin 21 .sub (.t 20) (.i 1),.sl 22 1 (.t 18) none (some (.t 21)),.m 5 22] [0,5]) .skip)) PM)))⟩
theorem g_:Ax Tryz.prog 14 BJ=true:=by kernel_rfl
def MS:BS:=⟨[.val (.int .i64)],[⟨2,false,.str⟩],(.seq (.region [.mv 2 (.c (.str ⟨#[]⟩))] [0]) (.seq (.region [.m 3 0,.cl 4 [3] pz,.m 2 4] [2]) .ret))⟩
theorem qF:Ax Tryz.prog 15 MS=true:=by kernel_rfl
def Ox:BS:=⟨[.val As],[⟨2,false,.bool⟩],(.seq (.region [.box 1 (.t 0) false,.mv 2 (.c (.bool false))] [1]) (.seq (.region [.f 3 1 4,.l 4 3,.bin 5 .geq (.t 4) (.i 0),.m 2 5] [2]) .ret))⟩
theorem sC:Ax Tryz.prog 18 Ox=true:=by kernel_rfl
def Kf:BS:=⟨[.val As],[⟨2,false,.str⟩],(.seq (.region [.box 1 (.t 0) false,.mv 2 (.c (.str ⟨#[]⟩))] [1]) (.seq (.seq (.region [.f 3 1 0,.l 4 3,.bin 5 .eql (.t 4) (.i 1)] [1,5]) (.cond (.t 5) (.seq (.region [.f 6 1 1,.l 7 6,.bin 8 .add (.c (.str ⟨#[112,117,116,32]⟩)) (.t 7),.bin 9 .add (.t 8) (.c (.str ⟨#[10]⟩)),.m 2 9] [2]) .ret) .skip)) (.seq (.region [.f 10 1 1,.l 11 10,.bin 12 .add (.c (.str ⟨#[103,101,116,32]⟩)) (.t 11),.bin 13 .add (.t 12) (.c (.str ⟨#[32]⟩)),.f 14 1 8,.l 15 14,.b 16 .add 13 15,.bin 17 .add (.t 16) (.c (.str ⟨#[10]⟩)),.m 2 17] [2]) .ret)))⟩
theorem ne:Ax Tryz.prog 19 Kf=true:=by kernel_rfl
def TX:AI:=(.seq (.seq (.region [.m 7 5,.m 8 0,.len 9 true (.t 8),.b 10 .lss 7 9] [0,3,4,5,10]) (.cond (.t 10) .skip (.exit 0))) (.seq (.block 1 [0,3,4,5] (.seq (.region [.m 13 0,.m 14 5,.sidx 15 (.t 13) (.t 14),.bin 16 .eql (.t 15) (.c (.int .u8 10))] [0,3,4,5,16]) (.cond (.t 16) (.seq (.region [.m 17 3,.m 18 0,.m 19 4,.m 20 5,.sl 21 0 (.t 18) (some (.t 19)) (some (.t 20)),.blst 22 .str [.t 21],.app 23 9 .str (.t 17) (.t 22),.m 3 23] [0,3,5]) (.region [.m 24 5,.bin 25 .add (.t 24) (.i 1),.m 4 25] [0,3,4,5])) .skip))) (.region [.m 11 5,.bin 12 .add (.t 11) (.i 1),.m 5 12] [0,3,4,5])))
def MT:AI:=(.seqc [3] (.seq (.region [.m 26 4,.m 27 0,.len 28 true (.t 27),.b 29 .lss 26 28] [0,3,4,29]) (.cond (.t 29) (.region [.m 30 3,.m 31 0,.m 32 4,.sl 33 0 (.t 31) (some (.t 32)) none,.blst 34 .str [.t 33],.app 35 9 .str (.t 30) (.t 34),.m 3 35] [3]) .skip)) (.seq (.region [.m 36 3,.m 2 36] [2]) .ret))
def Cp:BS:=⟨[.val .str],[⟨2,false,(.slice .str)⟩],(.seq (.region [.mv 2 (.c (.nil))] [0]) (.seq (.region [.brow 6 9 .str [],.m 3 6] [0,3]) (.seq (.region [.mv 4 (.i 0)] [0,3,4]) (.seq (.seq (.region [.mv 5 (.i 0)] [0,3,4,5]) (.block 0 [0,3,4] (.loop [0,3,4,5] TX))) MT))))⟩
theorem ng:Ax Tryz.prog 23 Cp=true:=by kernel_rfl
def Vy:AI:=(.seqc [0,4,6] (.seq (.region [.m 45 5,.m 46 6,.b 47 .lss 45 46] [0,4,5,6,47]) (.cond (.t 47) (.region [.m 48 4,.m 49 0,.m 50 5,.m 51 6,.sl 52 0 (.t 49) (some (.t 50)) (some (.t 51)),.blst 53 .str [.t 52],.app 54 9 .str (.t 48) (.t 53),.m 4 54] [0,4,6]) .skip)) (.region [.m 55 6,.bin 56 .add (.t 55) (.i 1),.m 5 56] [0,4,5,6]))
def Vz:AI:=(.seq (.seq (.region [.m 35 6,.m 36 0,.len 37 true (.t 36),.b 38 .lss 35 37,.m 39 38,.sc 39 true [.m 40 0,.m 41 6,.sidx 42 (.t 40) (.t 41),.bin 43 .neq (.t 42) (.c (.int .u8 32))] 44 (.t 43) (.c (.bool false))] [0,4,5,6,44]) (.cond (.t 44) (.exit 1) .skip)) Vy)
def V0:AI:=(.region [.m 16 6,.bin 17 .add (.t 16) (.i 1),.m 6 17] [0,4,5,6])
def TY:AI:=(.seq (.seq (.region [.m 12 6,.m 13 0,.len 14 true (.t 13),.b 15 .leq 12 14] [0,4,5,6,15]) (.cond (.t 15) .skip (.exit 0))) (.seq (.block 1 [0,4,5,6] (.seq (.seq (.region [.m 18 6,.m 19 0,.len 20 true (.t 19),.b 21 .lss 18 20,.m 22 21,.sc 22 true [.m 23 0,.m 24 6,.sidx 25 (.t 23) (.t 24),.bin 26 .lss (.t 25) (.c (.int .u8 32)),.m 27 26,.sc 27 false [.m 28 0,.m 29 6,.sidx 30 (.t 28) (.t 29),.bin 31 .gtr (.t 30) (.c (.int .u8 126))] 32 (.c (.bool true)) (.t 31)] 33 (.t 32) (.c (.bool false))] [0,4,5,6,33]) (.cond (.t 33) (.seq (.region [.blst 34 .str [],.m 2 34,.mv 3 (.c (.bool false))] [2,3]) .ret) .skip)) Vz)) V0))
def MU:AI:=(.seq (.seq (.region [.m 57 4,.len 58 false (.t 57),.bin 59 .gtr (.t 58) (.i 10)] [4,59]) (.cond (.t 59) (.seq (.region [.blst 60 .str [],.m 2 60,.mv 3 (.c (.bool false))] [2,3]) .ret) .skip)) (.seq (.region [.m 61 4,.m 2 61,.mv 3 (.c (.bool true))] [2,3]) .ret))
def CC:BS:=⟨[.val .str],[⟨2,false,(.slice .str)⟩,⟨3,false,.bool⟩],(.seq (.region [.mv 2 (.c (.nil)),.mv 3 (.c (.bool false))] [0]) (.seq (.region [.brow 7 9 .str [],.m 4 7] [0,4]) (.seq (.seq (.region [.m 8 0,.len 9 true (.t 8),.bin 10 .gtr (.t 9) (.i 600)] [0,4,10]) (.cond (.t 10) (.seq (.region [.m 11 4,.m 2 11,.mv 3 (.c (.bool false))] [2,3]) .ret) .skip)) (.seq (.region [.mv 5 (.i 0)] [0,4,5]) (.seq (.seq (.region [.mv 6 (.i 0)] [0,4,5,6]) (.block 0 [4] (.loop [0,4,5,6] TY))) MU)))))⟩
theorem qG:Ax Tryz.prog 24 CC=true:=by kernel_rfl
def Rr:AI:=(.seq (.region [.m 27 0,.m 28 5,.m 29 6,.sl 30 0 (.t 27) (some (.t 28)) (some (.t 29)),.cl 31 [30] Hl,.m 26 31,.ext 32 (.t 26) 0,.ext 33 (.t 26) 1,.m 7 32,.m 8 33] [0,4,6,7,8]) (.seq (.seq (.region [.m 34 8,.un 35 .not (.t 34)] [0,4,6,7,35]) (.cond (.t 35) (.seq (.region [.blst 36 (.int .i64) [],.m 2 36,.mv 3 (.c (.bool false))] [2,3]) .ret) .skip)) (.seq (.region [.m 37 4,.m 38 7,.blst 39 (.int .i64) [.t 38],.app 40 3 (.int .i64) (.t 37) (.t 39),.m 4 40] [0,4,6]) (.region [.m 41 6,.bin 42 .add (.t 41) (.i 1),.m 5 42] [0,4,5,6]))))
def Rs:AI:=(.region [.m 14 6,.bin 15 .add (.t 14) (.i 1),.m 6 15] [0,4,5,6])
def Rt:AI:=(.seq (.seq (.region [.m 10 6,.m 11 0,.len 12 true (.t 11),.b 13 .leq 10 12] [0,4,5,6,13]) (.cond (.t 13) .skip (.exit 0))) (.seq (.block 1 [0,4,5,6] (.seq (.seq (.region [.m 16 6,.m 17 0,.len 18 true (.t 17),.b 19 .lss 16 18,.m 20 19,.sc 20 true [.m 21 0,.m 22 6,.sidx 23 (.t 21) (.t 22),.bin 24 .neq (.t 23) (.c (.int .u8 44))] 25 (.t 24) (.c (.bool false))] [0,4,5,6,25]) (.cond (.t 25) (.exit 1) .skip)) Rr)) Rs))
def Qg:AI:=(.seq (.region [.m 43 4,.m 2 43,.mv 3 (.c (.bool true))] [2,3]) .ret)
def CW:BS:=⟨[.val .str],[⟨2,false,(.slice (.int .i64))⟩,⟨3,false,.bool⟩],(.seq (.region [.mv 2 (.c (.nil)),.mv 3 (.c (.bool false))] [0]) (.seq (.region [.brow 9 3 (.int .i64) [],.m 4 9] [0,4]) (.seq (.region [.mv 5 (.i 0)] [0,4,5]) (.seq (.seq (.region [.mv 6 (.i 0)] [0,4,5,6]) (.block 0 [4] (.loop [0,4,5,6] Rt))) Qg))))⟩
theorem kZ:Ax Tryz.prog 25 CW=true:=by kernel_rfl
def V5:AI:=(.seq (.seq (.region [.m 4 3,.m 5 0,.len 6 false (.t 5),.b 7 .lss 4 6] [0,3,7]) (.cond (.t 7) .skip (.exit 0))) (.seq (.block 1 [0,3] (.seq (.region [.m 10 0,.m 11 3,.idx 12 1 (.t 10) (.t 11),.l 13 12,.cl 14 [13] p8,.un 15 .not (.t 14)] [0,3,15]) (.cond (.t 15) (.seq (.region [.mv 2 (.c (.bool false))] [2]) .ret) .skip))) (.region [.m 8 3,.bin 9 .add (.t 8) (.i 1),.m 3 9] [0,3])))
def V6:AI:=(.seq (.region [.m 16 0,.len 17 false (.t 16),.cx (some 18) [.t 17,.c (.int .i64 1),.c (.int .i64 9)] Az,.m 2 18] [2]) .ret)
def ET:BS:=⟨[.val (.slice (.slice (.int .i64)))],[⟨2,false,.bool⟩],(.seq (.region [.mv 2 (.c (.bool false))] [0]) (.seq (.seq (.region [.mv 3 (.i 0)] [0,3]) (.block 0 [0] (.loop [0,3] V5))) V6))⟩
theorem qH:Ax Tryz.prog 26 ET=true:=by kernel_rfl
def TZ:AI:=(.cond (.t 21) (.seq (.region [.m 23 0,.idx 24 1 (.t 23) (.i 1),.l 25 24,.cl 26 [25] Hl,.m 22 26,.ext 27 (.t 22) 0,.ext 28 (.t 22) 1,.m 4 27,.m 5 28] [0,2,4,5]) (.seq (.draw (Fd 11 [(1,[]),(4,[]),(7,[0,3,6]),(8,[]),(9,[7]),(10,[8,9])]) (.tk 9 [.m 37 5,.bu 36 AM [(0,1,.c (.int .i64 1)),(1,1,.t 29),(3,1,.c (.int .i64 1)),(4,1,.t 32),(5,1,.t 35)],.l 35 34,.idx 34 1 (.t 33) (.i 3),.m 33 0,.l 32 31,.idx 31 1 (.t 30) (.i 2),.m 30 0,.m 29 4] (.only 9 none (.store (.t 2) (.t 36) 6 false) false [] (.tk 11 [.m 3 37] .done))) [2,3]) .ret)) .skip)
def Ta:AI:=(.cond (.t 46) (.seq (.region [.m 48 0,.idx 49 1 (.t 48) (.i 1),.l 50 49,.cl 51 [50] Hl,.m 47 51,.ext 52 (.t 47) 0,.ext 53 (.t 47) 1,.m 6 52,.m 7 53] [0,2,6,7]) (.seq (.region [.m 54 6,.m 55 0,.idx 56 1 (.t 55) (.i 2),.l 57 56,.bu 58 AM [(0,1,.c (.int .i64 1)),(1,1,.t 54),(3,1,.c (.int .i64 2)),(4,1,.t 57)],.m 59 7,.store (.t 2) (.t 58) 6 false,.m 3 59] [2,3]) .ret)) .skip)
def Ru:AI:=(.seq (.region [.m 81 0,.idx 82 1 (.t 81) (.i 1),.l 83 82,.cl 84 [83] Hl,.m 80 84,.ext 85 (.t 80) 0,.ext 86 (.t 80) 1,.m 10 85,.m 11 86] [2,9,10,11]) (.seq (.region [.m 87 9,.bin 88 .add (.i 2) (.t 87),.bu 89 AM [(0,1,.t 88),(1,1,.c (.int .i64 1))],.al 12 AM,.store (.t 12) (.t 89) 6 false] [2,10,11,12]) (.seqc [2,11,12] (.seq (.region [.f 90 12 0,.l 91 90,.bin 92 .leq (.t 91) (.i 4)] [2,10,11,12,92]) (.cond (.t 92) (.region [.m 93 10,.f 94 12 2,.store (.t 94) (.t 93) 1 false] [2,11,12]) (.region [.m 95 10,.f 96 12 1,.store (.t 96) (.t 95) 1 false] [2,11,12]))) (.seq (.region [.ls 97 12 6,.m 98 11,.store (.t 2) (.t 97) 6 false,.m 3 98] [2,3]) .ret))))
def Rv:AI:=(.region [.m 65 9,.bin 66 .add (.t 65) (.i 1),.m 9 66] [0,2,8,9])
def Rw:AI:=(.seq (.seq (.region [.m 61 9,.m 62 8,.len 63 false (.t 62),.b 64 .lss 61 63] [0,2,8,9,64]) (.cond (.t 64) .skip (.exit 0))) (.seq (.block 1 [0,2,8,9] (.seq (.seq (.draw (Fd 13 [(1,[]),(2,[0,1]),(4,[]),(7,[3,6])]) (.tk 9 [.m 75 74,.b 74 .neq 70 73,.l 73 72,.idx 72 1 (.t 71) (.i 0),.m 71 0,.l 70 69,.idx 69 1 (.t 67) (.t 68),.m 68 9,.m 67 8] (.test 75 (.sk 75 false 3 12 79 (.tk 13 [.pick 79 (.t 75) (.c (.bool true)) (.t 78)] .done)) (.tg 75 false 12 [.bin 78 .neq (.t 77) (.i 2),.len 77 false (.t 76),.m 76 0] (.tk 13 [.pick 79 (.t 75) (.c (.bool true)) (.t 78)] .done)))) [0,2,8,9,79]) (.cond (.t 79) (.exit 1) .skip)) Ru)) Rv))
def Rx:AI:=(.seq (.region [.bu 99 AM [],.store (.t 2) (.t 99) 6 false,.mv 3 (.c (.bool false))] [2,3]) .ret)
def Ry:AI:=(.seq (.region [.brow 60 9 .str [.c (.str ⟨#[100,101,108,105,118,101,114]⟩),.c (.str ⟨#[100,114,111,112]⟩),.c (.str ⟨#[99,111,112,121]⟩),.c (.str ⟨#[97,100,111,112,116]⟩),.c (.str ⟨#[102,97,108,108]⟩)],.m 8 60] [0,2,8]) (.seq (.seq (.region [.mv 9 (.i 0)] [0,2,8,9]) (.block 0 [2] (.loop [0,2,8,9] Rw))) Rx))
def K3:AI:=(.seq (.seq (.region [.m 38 0,.idx 39 1 (.t 38) (.i 0),.l 40 39,.bin 41 .eql (.t 40) (.c (.str ⟨#[103,101,116]⟩)),.m 42 41,.sc 42 true [.m 43 0,.len 44 false (.t 43),.bin 45 .eql (.t 44) (.i 3)] 46 (.t 45) (.c (.bool false))] [0,2,46]) Ta) Ry)
def Av:BS:=⟨[.val (.slice .str)],[⟨2,true,AM⟩,⟨3,false,.bool⟩],(.seq (.region [.al 2 AM,.mv 3 (.c (.bool false))] [0,2]) (.seq (.seq (.region [.m 13 0,.idx 14 1 (.t 13) (.i 0),.l 15 14,.bin 16 .eql (.t 15) (.c (.str ⟨#[112,117,116]⟩)),.m 17 16,.sc 17 true [.m 18 0,.len 19 false (.t 18),.bin 20 .eql (.t 19) (.i 4)] 21 (.t 20) (.c (.bool false))] [0,2,21]) TZ) K3))⟩
theorem nh:Ax Tryz.prog 27 Av=true:=by kernel_rfl
def V7:AI:=(.seq (.seq (.region [.f 18 1 0,.l 19 18,.bin 20 .neq (.t 19) (.i 1)] [1,20]) (.cond (.t 20) (.seq (.region [.f 21 1 3,.l 22 21,.bin 23 .eql (.t 22) (.i 0),.m 24 23,.sc 24 true [.f 25 1 4,.l 26 25,.bin 27 .eql (.t 26) (.c (.str ⟨#[]⟩))] 28 (.t 27) (.c (.bool false)),.m 29 28,.sc 29 true [.f 30 1 5,.l 31 30,.bin 32 .eql (.t 31) (.c (.str ⟨#[]⟩))] 33 (.t 32) (.c (.bool false)),.m 2 33] [2]) .ret) .skip)) (.seq (.region [.f 34 1 3,.l 35 34,.bin 36 .eql (.t 35) (.i 1),.m 37 36,.sc 37 false [.f 38 1 3,.l 39 38,.bin 40 .eql (.t 39) (.i 2)] 41 (.c (.bool true)) (.t 40),.m 42 41,.sc 42 true [.f 43 1 4,.l 44 43,.len 45 true (.t 44),.cx (some 46) [.t 45,.c (.int .i64 1),.c (.int .i64 12)] Az] 47 (.t 46) (.c (.bool false)),.m 48 47,.sc 48 true [.f 49 1 5,.l 50 49,.len 51 true (.t 50),.bin 52 .leq (.t 51) (.i 20)] 53 (.t 52) (.c (.bool false)),.m 54 53,.sc 54 true [.f 55 1 3,.l 56 55,.bin 57 .eql (.t 56) (.i 1),.m 58 57,.sc 58 false [.f 59 1 5,.l 60 59,.bin 61 .eql (.t 60) (.c (.str ⟨#[]⟩))] 62 (.c (.bool true)) (.t 61)] 63 (.t 62) (.c (.bool false)),.m 2 63] [2]) .ret))
def HB:BS:=⟨[.val AM],[⟨2,false,.bool⟩],(.seq (.region [.box 1 (.t 0) false,.mv 2 (.c (.bool false))] [1]) (.seq (.seq (.region [.f 3 1 0,.l 4 3,.cx (some 5) [.t 4,.c (.int .i64 1),.c (.int .i64 6)] Az,.un 6 .not (.t 5),.m 7 6,.sc 7 false [.f 8 1 1,.l 9 8,.cx (some 10) [.t 9,.c (.int .i64 1),.c (.int .i64 6)] Az,.un 11 .not (.t 10)] 12 (.c (.bool true)) (.t 11),.m 13 12,.sc 13 false [.f 14 1 2,.l 15 14,.bin 16 .lss (.t 15) (.i 0)] 17 (.c (.bool true)) (.t 16)] [1,17]) (.cond (.t 17) (.seq (.region [.mv 2 (.c (.bool false))] [2]) .ret) .skip)) V7))⟩
theorem qI:Ax Tryz.prog 28 HB=true:=by kernel_rfl
def Jb:BS:=⟨[.val (.int .i64)],[⟨2,false,(.int .u8)⟩],(.seq (.region [.mv 2 (.c (.int .u8 0))] [0]) (.seq (.seq (.region [.m 3 0,.bin 4 .lss (.t 3) (.i 10)] [0,4]) (.cond (.t 4) (.seq (.region [.m 5 0,.bin 6 .add (.i 48) (.t 5),.cvi 7 .u8 (.t 6),.m 2 7] [2]) .ret) .skip)) (.seq (.region [.m 8 0,.bin 9 .add (.i 97) (.t 8),.bin 10 .sub (.t 9) (.i 10),.cvi 11 .u8 (.t 10),.m 2 11] [2]) .ret)))⟩
theorem ka:Ax Tryz.prog 29 Jb=true:=by kernel_rfl
def Tb:AI:=(.seq (.seq (.region [.m 15 5,.bin 16 .leq (.t 15) (.i 6)] [0,2,4,5,16]) (.cond (.t 16) .skip (.exit 0))) (.seq (.block 1 [0,2,4,5] (.seq (.region [.m 20 5,.m 21 0,.cl 22 [20,21] kW,.m 19 22,.ext 23 (.t 19) 0,.ext 24 (.t 19) 1,.al 6 Y,.store (.t 6) (.t 23) 16 false,.m 7 24] [0,2,4,5,6]) (.region [.f 25 4 1,.l 26 25,.ls 27 6 16,.blst 28 Y [.t 27],.app 29 49 Y (.t 26) (.t 28),.f 30 4 1,.store (.t 30) (.t 29) 1 false] [0,2,4,5]))) (.region [.m 17 5,.bin 18 .add (.t 17) (.i 1),.m 5 18] [0,2,4,5])))
def Tc:AI:=(.seq (.region [.ls 31 4 4,.store (.t 2) (.t 31) 4 false,.mv 3 (.c (.bool true))] [2,3]) .ret)
def Ds:BS:=⟨[.val (.slice (.slice (.int .i64)))],[⟨2,true,Af⟩,⟨3,false,.bool⟩],(.seq (.region [.al 2 Af,.mv 3 (.c (.bool false))] [0,2]) (.seq (.seq (.region [.m 8 0,.cl 9 [8] G_,.un 10 .not (.t 9)] [0,2,10]) (.cond (.t 10) (.seq (.region [.build 11 [.nil,.nil,.nil,.nil] [],.store (.t 2) (.t 11) 4 false,.mv 3 (.c (.bool false))] [2,3]) .ret) .skip)) (.seq (.region [.m 12 0,.cl 13 [12] Vr,.build 14 [.nil,.nil,.nil,.nil] [(0,1,.t 13)],.al 4 Af,.store (.t 4) (.t 14) 4 false] [0,2,4]) (.seq (.seq (.region [.mv 5 (.i 1)] [0,2,4,5]) (.block 0 [2,4] (.loop [0,2,4,5] Tb))) Tc))))⟩
theorem ni:Ax Tryz.prog 30 Ds=true:=by kernel_rfl
def V8:AI:=(.seq (.seq (.region [.f 18 1 0,.l 19 18,.bin 20 .eql (.t 19) (.i 1)] [1,20]) (.cond (.t 20) (.seq (.region [.f 21 1 3,.l 22 21,.f 23 1 4,.l 24 23,.f 25 1 5,.l 26 25,.cx (some 27) [.t 22,.c (.int .i64 0),.t 24,.t 26] gx,.m 2 27] [2]) .ret) .skip)) (.seq (.region [.f 28 1 3,.l 29 28,.bin 30 .eql (.t 29) (.i 0),.m 31 30,.sc 31 true [.f 32 1 4,.l 33 32,.bin 34 .eql (.t 33) (.c (.str ⟨#[]⟩))] 35 (.t 34) (.c (.bool false)),.m 36 35,.sc 36 true [.f 37 1 5,.l 38 37,.bin 39 .eql (.t 38) (.c (.str ⟨#[]⟩))] 40 (.t 39) (.c (.bool false)),.m 2 40] [2]) .ret))
def HC:BS:=⟨[.val AM],[⟨2,false,.bool⟩],(.seq (.region [.box 1 (.t 0) false,.mv 2 (.c (.bool false))] [1]) (.seq (.seq (.region [.f 3 1 0,.l 4 3,.cx (some 5) [.t 4,.c (.int .i64 1),.c (.int .i64 6)] A_,.un 6 .not (.t 5),.m 7 6,.sc 7 false [.f 8 1 1,.l 9 8,.cl 10 [9] IK,.un 11 .not (.t 10)] 12 (.c (.bool true)) (.t 11),.m 13 12,.sc 13 false [.f 14 1 2,.l 15 14,.bin 16 .lss (.t 15) (.i 0)] 17 (.c (.bool true)) (.t 16)] [1,17]) (.cond (.t 17) (.seq (.region [.mv 2 (.c (.bool false))] [2]) .ret) .skip)) V8))⟩
theorem qJ:Ax Tryz.prog 31 HC=true:=by kernel_rfl
def Ho:BS:=⟨[.ptr Af,.val AM,.val (.int .i64)],[⟨6,false,.bool⟩],(.seq (.region [.box 4 (.t 1) false,.mv 6 (.c (.bool false))] [0,2,4]) (.seq (.seq (.region [.f 8 4 0,.l 9 8] [0,2,4,9]) (.block 0 [0,2,4] (.seq (.region [.bin 11 .eql (.t 9) (.i 1),.m 10 11] [0,2,4,9,10]) (.cond (.t 10) (.seq (.region [.m 12 0,.ls 13 4 6,.m 14 2,.cl 15 [12,13,14] eJ,.m 6 15] [6]) .ret) (.seq (.region [.bin 17 .eql (.t 9) (.i 5),.m 16 17] [0,2,4,9,16]) (.cond (.t 16) (.seq (.region [.m 18 0,.ls 19 4 6,.m 20 2,.cl 21 [18,19,20] eK,.m 6 21] [6]) .ret) (.seq (.region [.bin 23 .eql (.t 9) (.i 6),.m 22 23] [0,2,4,22]) (.cond (.t 22) (.seq (.region [.m 24 0,.f 25 4 1,.l 26 25,.cl 27 [24,26] Gy,.m 7 27] [0,7]) (.seq (.draw (Fd 15 [(4,[]),(5,[]),(9,[]),(10,[8,9]),(13,[3,4,12])]) (.tk 12 [.ls 39 38 16,.idx 38 16 (.t 36) (.t 37),.m 37 7,.l 36 35,.f 35 34 1,.n 34 33,.m 33 0,.m 32 7,.l 31 30,.f 30 29 1,.n 29 28,.m 28 0] (.only 12 none (.cl 40 [39] vS) false [] (.tk 14 [.idx 41 16 (.t 31) (.t 32)] (.only 14 none (.store (.t 41) (.t 40) 16 false) false [] .done)))) []) (.seq (.region [.mv 6 (.c (.bool true))] [6]) .ret))) .skip)))))))) (.seq (.region [.m 42 0,.ls 43 4 6,.m 44 2,.cl 45 [42,43,44] Z_,.m 6 45] [6]) .ret)))⟩
theorem eQ:Ax Tryz.prog 32 Ho=true:=by kernel_rfl
def Oy:BS:=⟨[.val .bool],[⟨2,false,(.int .i64)⟩],(.seq (.region [.mv 2 (.i 0)] [0]) (.seq (.seq (.region [.m 3 0] [3]) (.cond (.t 3) (.seq (.region [.mv 2 (.i 0)] [2]) .ret) .skip)) (.seq (.region [.mv 2 (.i 1)] [2]) .ret)))⟩
theorem sD:Ax Tryz.prog 33 Oy=true:=by kernel_rfl
def Rz:AI:=(.seq (.region [.b 19 .lss 18 17] [1,2,3,16,17,18,19]) (.seq (.cond (.t 19) .skip (.exit 0)) (.seq (.block 1 [1,2,3,16,17,18] (.seq (.region [.idx 20 16 (.t 16) (.t 18),.ls 21 20 16,.al 5 Y,.store (.t 5) (.t 21) 16 false] [1,2,3,5,16,17,18]) (.draw (Fd 8 [(2,[]),(5,[1,4])]) (.tk 3 [.ls 24 5 16,.l 23 22,.f 22 3 1] (.only 3 none (.cl 25 [24] GQ) false [] (.only 4 none (.blst 26 Y [.t 25]) false [] (.only 5 none (.app 27 49 Y (.t 23) (.t 26)) false [] (.tk 7 [.f 28 3 1] (.only 7 none (.store (.t 28) (.t 27) 1 false) false [] .done)))))) [1,2,3,16,17,18]))) (.region [.bin 29 .add (.t 18) (.i 1),.m 18 29] [1,2,3,16,17,18]))))
def Qh:AI:=(.seq (.region [.b 34 .lss 33 32] [2,3,31,32,33,34]) (.seq (.cond (.t 34) .skip (.exit 2)) (.seq (.block 3 [2,3,31,32,33] (.seq (.region [.idx 35 6 (.t 31) (.t 33),.ls 36 35 6,.al 7 AJ,.store (.t 7) (.t 36) 6 false] [2,3,7,31,32,33]) (.draw (Fd 8 [(2,[]),(5,[1,4])]) (.tk 3 [.ls 39 7 6,.l 38 37,.f 37 3 2] (.only 3 none (.cl 40 [39] Ri) false [] (.only 4 none (.blst 41 AJ [.t 40]) false [] (.only 5 none (.app 42 112 AJ (.t 38) (.t 41)) false [] (.tk 7 [.f 43 3 2] (.only 7 none (.store (.t 43) (.t 42) 1 false) false [] .done)))))) [2,3,31,32,33]))) (.region [.bin 44 .add (.t 33) (.i 1),.m 33 44] [2,3,31,32,33]))))
def Qi:AI:=(.seq (.region [.ls 45 3 4,.store (.t 2) (.t 45) 4 false] [2]) .ret)
def Jv:AI:=(.seq (.seq (.region [.f 30 1 2,.l 31 30,.len 32 false (.t 31),.mv 33 (.i 0)] [2,3,31,32,33]) (.block 2 [2,3] (.loop [2,3,31,32,33] Qh))) Qi)
def BR:BS:=⟨[.val Ah],[⟨2,true,Af⟩],(.seq (.region [.box 1 (.t 0) true,.al 2 Af] [1,2]) (.seq (.draw (Fd 9 [(3,[]),(5,[2,4]),(7,[]),(8,[6,7])]) (.tk 2 [.l 9 8,.f 8 1 0] (.tk 5 [.l 12 11,.f 11 1 3] (.only 2 none (.cl 10 [9] Vr) false [(7,.al 3 Af)] (.only 5 none (.cl 13 [12] Kw) false [(7,.al 3 Af)] (.tk 7 [.build 14 [.nil,.nil,.nil,.nil] [(0,1,.t 10),(3,1,.t 13)]] (.only 7 none (.al 3 Af) true [] (.only 8 none (.store (.t 3) (.t 14) 4 false) false [] .done))))))) [1,2,3]) (.seq (.seq (.region [.f 15 1 1,.l 16 15,.len 17 false (.t 16),.mv 18 (.i 0)] [1,2,3,16,17,18]) (.block 0 [1,2,3] (.loop [1,2,3,16,17,18] Rz))) Jv)))⟩
theorem kb:Ax Tryz.prog 34 BR=true:=by kernel_rfl
def Td:AI:=(.seq (.seq (.region [.m 15 5,.bin 16 .leq (.t 15) (.i 6)] [0,2,4,5,16]) (.cond (.t 16) .skip (.exit 0))) (.seq (.block 1 [0,2,4,5] (.seq (.region [.m 20 5,.m 21 0,.cl 22 [20,21] kX,.m 19 22,.ext 23 (.t 19) 0,.ext 24 (.t 19) 1,.al 6 Y,.store (.t 6) (.t 23) 16 false,.m 7 24] [0,2,4,5,6]) (.region [.f 25 4 1,.l 26 25,.ls 27 6 16,.blst 28 Y [.t 27],.app 29 49 Y (.t 26) (.t 28),.f 30 4 1,.store (.t 30) (.t 29) 1 false] [0,2,4,5]))) (.region [.m 17 5,.bin 18 .add (.t 17) (.i 1),.m 5 18] [0,2,4,5])))
def Te:AI:=(.seq (.region [.ls 31 4 4,.store (.t 2) (.t 31) 4 false,.mv 3 (.c (.bool true))] [2,3]) .ret)
def Dt:BS:=⟨[.val (.slice (.slice (.int .i64)))],[⟨2,true,Ah⟩,⟨3,false,.bool⟩],(.seq (.region [.al 2 GP,.mv 3 (.c (.bool false))] [0,2]) (.seq (.seq (.region [.m 8 0,.cl 9 [8] G9,.un 10 .not (.t 9)] [0,2,10]) (.cond (.t 10) (.seq (.region [.build 11 [.nil,.nil,.nil,.nil] [],.store (.t 2) (.t 11) 4 false,.mv 3 (.c (.bool false))] [2,3]) .ret) .skip)) (.seq (.region [.m 12 0,.cl 13 [12] Qd,.build 14 [.nil,.nil,.nil,.nil] [(0,1,.t 13)],.al 4 GP,.store (.t 4) (.t 14) 4 false] [0,2,4]) (.seq (.seq (.region [.mv 5 (.i 1)] [0,2,4,5]) (.block 0 [2,4] (.loop [0,2,4,5] Td))) Te))))⟩
theorem nj:Ax Tryz.prog 35 Dt=true:=by kernel_rfl
def RL:BS:=⟨[.ptr Ah,.val (.int .i64),.val AM],[⟨6,false,(.int .i64)⟩],(.seq (.region [.box 5 (.t 2) false,.mv 6 (.i 0)] [0,1,5]) (.seq (.seq (.region [.f 7 5 0,.l 8 7] [0,1,5,8]) (.block 0 [0,1,5] (.seq (.region [.bin 10 .eql (.t 8) (.i 1),.m 9 10] [0,1,5,8,9]) (.cond (.t 9) (.seq (.region [.m 11 0,.m 12 1,.ls 13 5 6,.cl 14 [11,12,13] nY,.m 6 14] [6]) .ret) (.seq (.region [.bin 16 .eql (.t 8) (.i 5),.m 15 16] [0,1,5,8,15]) (.cond (.t 15) (.seq (.region [.m 17 0,.m 18 1,.f 19 5 1,.l 20 19,.cl 21 [17,18,20] nZ,.m 6 21] [6]) .ret) (.seq (.region [.bin 23 .eql (.t 8) (.i 6),.m 22 23] [0,1,5,22]) (.cond (.t 22) (.seq (.draw (Fd 15 [(1,[]),(5,[]),(8,[4,7]),(11,[]),(12,[]),(13,[]),(14,[0,10,11,12,13])]) (.tk 10 [.ls 33 32 16,.idx 32 16 (.t 28) (.t 31),.bin 31 .sub (.t 30) (.i 1),.l 30 29,.f 29 5 1,.l 28 27,.f 27 26 1,.n 26 25,.m 25 0,.m 24 0] (.tk 14 [.m 37 1] (.only 10 none (.cl 34 [33] vT) false [(11,.brow 35 112 AJ []),(12,.brow 36 140 Ay [])] (.only 11 none (.brow 35 112 AJ []) true [(12,.brow 36 140 Ay [])] (.only 12 none (.brow 36 140 Ay []) true [] (.only 14 none (.cl 38 [24,34,35,36,37] Ja) false [] .done)))))) []) (.seq (.region [.mv 6 (.i 0)] [6]) .ret)) .skip)))))))) (.seq (.region [.m 39 0,.m 40 1,.ls 41 5 6,.cl 42 [39,40,41] r9,.m 6 42] [6]) .ret)))⟩
theorem uB:Ax Tryz.prog 36 RL=true:=by kernel_rfl
def V9:AI:=(.seq (.seq (.region [.m 16 4,.f 17 1 1,.l 18 17,.len 19 false (.t 18),.b 20 .lss 16 19] [1,2,3,4,20]) (.cond (.t 20) .skip (.exit 0))) (.seq (.block 1 [1,2,3,4] (.draw (Fd 12 [(2,[]),(4,[]),(5,[3,4]),(9,[1,8])]) (.tk 7 [.ls 29 28 16,.idx 28 16 (.t 26) (.t 27),.m 27 4,.l 26 25,.f 25 1 1,.l 24 23,.f 23 3 1] (.only 7 none (.cl 30 [29] HA) false [] (.only 8 none (.blst 31 Y [.t 30]) false [] (.only 9 none (.app 32 49 Y (.t 24) (.t 31)) false [] (.tk 11 [.f 33 3 1] (.only 11 none (.store (.t 33) (.t 32) 1 false) false [] .done)))))) [1,2,3,4])) (.region [.m 21 4,.bin 22 .add (.t 21) (.i 1),.m 4 22] [1,2,3,4])))
def V_:AI:=(.seq (.region [.ls 34 3 4,.store (.t 2) (.t 34) 4 false] [2]) .ret)
def EU:BS:=⟨[.val Ah],[⟨2,true,Ah⟩],(.seq (.region [.box 1 (.t 0) true,.al 2 GP] [1,2]) (.seq (.draw (Fd 13 [(3,[]),(5,[2,4]),(6,[]),(7,[]),(9,[5,6,8]),(11,[]),(12,[10,11])]) (.tk 2 [.l 6 5,.f 5 1 0] (.tk 5 [.l 9 8,.f 8 1 2] (.tk 9 [.l 13 12,.f 12 1 3] (.only 2 none (.cl 7 [6] Qd) false [(6,.brow 11 42 As []),(11,.al 3 GP)] (.only 5 none (.cl 10 [9] eL) false [(6,.brow 11 42 As []),(11,.al 3 GP)] (.only 6 none (.brow 11 42 As []) true [(11,.al 3 GP)] (.only 9 none (.app 14 42 As (.t 11) (.t 13)) false [(11,.al 3 GP)] (.tk 11 [.build 15 [.nil,.nil,.nil,.nil] [(0,1,.t 7),(2,1,.t 10),(3,1,.t 14)]] (.only 11 none (.al 3 GP) true [] (.only 12 none (.store (.t 3) (.t 15) 4 false) false [] .done)))))))))) [1,2,3]) (.seq (.seq (.region [.mv 4 (.i 0)] [1,2,3,4]) (.block 0 [2,3] (.loop [1,2,3,4] V9))) V_)))⟩
theorem qK:Ax Tryz.prog 37 EU=true:=by kernel_rfl
def PN:AI:=(.seq (.seq (.region [.m 25 5,.idx 26 1 (.t 25) (.i 0),.l 27 26,.bin 28 .eql (.t 27) (.c (.str ⟨#[118,105,101,119]⟩))] [0,5,28]) (.cond (.t 28) (.seq (.region [.m 29 0,.m 30 5,.cl 31 [29,30] eM,.m 4 31] [4]) .ret) .skip)) (.seq (.region [.m 33 5,.cl 34 [33] p_,.m 32 34,.ext 35 (.t 32) 0,.ext 36 (.t 32) 1,.al 7 AM,.store (.t 7) (.t 35) 6 false,.m 8 36] [0,7,8]) (.seq (.draw (Fd 11 [(1,[]),(5,[]),(7,[4,6]),(8,[0,7])]) (.tk 6 [.ls 42 7 6,.l 41 40,.f 40 39 1,.n 39 38,.m 38 0,.m 37 0] (.only 6 none (.blst 43 AM [.t 42]) false [] (.only 7 none (.app 44 72 AM (.t 41) (.t 43)) false [] (.tk 10 [.f 46 45 1,.n 45 37] (.only 10 none (.store (.t 46) (.t 44) 1 false) false [] .done))))) [0,8]) (.seq (.region [.m 47 8,.m 48 47,.sc 48 true [.m 49 0,.n 50 49,.f 51 50 0,.l 52 51,.len 53 false (.t 52),.bin 54 .gtr (.t 53) (.i 0)] 55 (.t 54) (.c (.bool false)),.m 56 55,.sc 56 true [.m 57 0,.n 58 57,.f 59 58 1,.l 60 59,.len 61 false (.t 60),.bin 62 .leq (.t 61) (.i 70)] 63 (.t 62) (.c (.bool false)),.m 4 63] [4]) .ret))))
def D9:BS:=⟨[.ptr MD,.val .str],[⟨4,false,.bool⟩],(.seq (.region [.mv 4 (.c (.bool false))] [0,1]) (.seq (.region [.m 10 1,.cl 11 [10] p9,.m 9 11,.ext 12 (.t 9) 0,.ext 13 (.t 9) 1,.m 5 12,.m 6 13] [0,5,6]) (.seq (.seq (.region [.m 14 6,.un 15 .not (.t 14)] [0,5,15]) (.cond (.t 15) (.seq (.region [.mv 4 (.c (.bool false))] [4]) .ret) .skip)) (.seq (.seq (.region [.m 16 5,.len 17 false (.t 16),.bin 18 .eql (.t 17) (.i 0),.m 19 18,.sc 19 false [.m 20 5,.idx 21 1 (.t 20) (.i 0),.l 22 21,.cx (some 23) [.t 22,.c (.str ⟨#[35]⟩)] cn] 24 (.c (.bool true)) (.t 23)] [0,5,24]) (.cond (.t 24) (.seq (.region [.mv 4 (.c (.bool true))] [4]) .ret) .skip)) PN))))⟩
theorem eR:Ax Tryz.prog 39 D9=true:=by kernel_rfl
def PO:AI:=(.seq (.seq (.region [.m 9 5,.m 10 0,.len 11 true (.t 10),.b 12 .lss 9 11] [0,4,5,12]) (.cond (.t 12) .skip (.exit 0))) (.seq (.block 1 [0,4,5] (.seq (.seq (.region [.m 15 0,.m 16 5,.sidx 17 (.t 15) (.t 16),.bin 18 .lss (.t 17) (.c (.int .u8 48)),.m 19 18,.sc 19 false [.m 20 0,.m 21 5,.sidx 22 (.t 20) (.t 21),.bin 23 .gtr (.t 22) (.c (.int .u8 57))] 24 (.c (.bool true)) (.t 23)] [0,4,5,24]) (.cond (.t 24) (.seq (.region [.mv 2 (.i 0),.mv 3 (.c (.bool false))] [2,3]) .ret) .skip)) (.region [.m 25 4,.bin 26 .mul (.i 10) (.t 25),.m 27 0,.m 28 5,.sidx 29 (.t 27) (.t 28),.cvi 30 .i64 (.t 29),.b 31 .add 26 30,.bin 32 .sub (.t 31) (.i 48),.m 4 32] [0,4,5]))) (.region [.m 13 5,.bin 14 .add (.t 13) (.i 1),.m 5 14] [0,4,5])))
def IP:AI:=(.seq (.seq (.region [.m 33 4,.bin 34 .gtr (.t 33) (.i 1000000000),.m 35 34,.sc 35 false [.m 36 4,.cl 37 [36] ME,.m 38 0,.b 39 .neq 37 38] 40 (.c (.bool true)) (.t 39)] [4,40]) (.cond (.t 40) (.seq (.region [.mv 2 (.i 0),.mv 3 (.c (.bool false))] [2,3]) .ret) .skip)) (.seq (.region [.m 41 4,.m 2 41,.mv 3 (.c (.bool true))] [2,3]) .ret))
def Bv:BS:=⟨[.val .str],[⟨2,false,(.int .i64)⟩,⟨3,false,.bool⟩],(.seq (.region [.mv 2 (.i 0),.mv 3 (.c (.bool false))] [0]) (.seq (.seq (.region [.m 6 0,.len 7 true (.t 6),.bin 8 .gtr (.t 7) (.i 10)] [0,8]) (.cond (.t 8) (.seq (.region [.mv 2 (.i 0),.mv 3 (.c (.bool false))] [2,3]) .ret) .skip)) (.seq (.region [.mv 4 (.i 0)] [0,4]) (.seq (.seq (.region [.mv 5 (.i 0)] [0,4,5]) (.block 0 [0,4] (.loop [0,4,5] PO))) IP))))⟩
theorem eS:Ax Tryz.prog 49 Bv=true:=by kernel_rfl
def WA:AI:=(.seq (.seq (.region [.m 8 3,.m 9 0,.len 10 false (.t 9),.b 11 .lss 8 10] [0,3,11]) (.cond (.t 11) .skip (.exit 0))) (.seq (.block 1 [0,3] (.seq (.draw (Fd 16 [(1,[]),(2,[0,1]),(8,[6]),(9,[7,8]),(10,[6]),(11,[6]),(12,[10,11]),(14,[9,13])]) (.tk 4 [.l 17 16,.idx 16 1 (.t 14) (.t 15),.m 15 3,.m 14 0] (.only 4 none (.cx (some 18) [.t 17,.c (.int .i64 1),.c (.int .i64 6)] Az) false [] (.tk 7 [.m 20 19,.un 19 .not (.t 18)] (.test 20 (.sk 20 false 8 15 29 (.tk 16 [.pick 29 (.t 20) (.c (.bool true)) (.t 28)] .done)) (.tg 20 false 14 [.l 27 26,.idx 26 1 (.t 24) (.t 25),.m 25 3,.m 24 0,.sl 23 1 (.t 21) none (some (.t 22)),.m 22 3,.m 21 0] (.only 14 (some (20,false)) (.cl 28 [23,27] Hm) false [] (.tk 16 [.pick 29 (.t 20) (.c (.bool true)) (.t 28)] .done))))))) [0,3,29]) (.cond (.t 29) (.seq (.region [.mv 2 (.c (.bool false))] [2]) .ret) .skip))) (.region [.m 12 3,.bin 13 .add (.t 12) (.i 1),.m 3 13] [0,3])))
def WB:AI:=(.seq (.region [.mv 2 (.c (.bool true))] [2]) .ret)
def EV:BS:=⟨[.val (.slice (.int .i64))],[⟨2,false,.bool⟩],(.seq (.region [.mv 2 (.c (.bool false))] [0]) (.seq (.seq (.region [.m 4 0,.len 5 false (.t 4),.cx (some 6) [.t 5,.c (.int .i64 1),.c (.int .i64 4)] Az,.un 7 .not (.t 6)] [0,7]) (.cond (.t 7) (.seq (.region [.mv 2 (.c (.bool false))] [2]) .ret) .skip)) (.seq (.seq (.region [.mv 3 (.i 0)] [0,3]) (.block 0 [] (.loop [0,3] WA))) WB)))⟩
theorem qL:Ax Tryz.prog 50 EV=true:=by kernel_rfl
def RM:BS:=⟨[.val (.int .i64),.val (.int .i64),.val (.int .i64)],[⟨6,false,.bool⟩],(.seq (.region [.mv 6 (.c (.bool false))] [0,1,2]) (.seq (.region [.m 7 0,.m 8 1,.b 9 .geq 7 8,.m 10 9,.sc 10 true [.m 11 0,.m 12 2,.b 13 .leq 11 12] 14 (.t 13) (.c (.bool false)),.m 6 14] [6]) .ret))⟩
theorem uC:Ax Tryz.prog 51 RM=true:=by kernel_rfl
def WC:AI:=(.seq (.region [.b 16 .lss 15 14] [0,4,7,8,9,13,14,15,16]) (.seq (.cond (.t 16) .skip (.exit 2)) (.seq (.block 3 [0,4,7,8,9,13,14,15] (.seq (.region [.m 17 15,.idx 18 1 (.t 13) (.t 15),.l 19 18,.m 5 17,.m 6 19] [0,4,5,6,7,8,9,13,14,15]) (.seq (.region [.m 20 6,.cl 21 [20] IK,.un 22 .not (.t 21),.m 23 22,.sc 23 false [.m 24 4,.m 25 6,.cl 26 [24,25] MG,.m 27 5,.b 28 .neq 26 27] 29 (.c (.bool true)) (.t 28)] [0,4,7,8,9,13,14,15,29]) (.cond (.t 29) (.seq (.region [.mv 2 (.c (.bool false))] [2]) .ret) .skip)))) (.region [.bin 30 .add (.t 15) (.i 1),.m 15 30] [0,4,7,8,9,13,14,15]))))
def OO:AI:=(.seq (.region [.m 31 4,.len 32 false (.t 31),.cx (some 33) [.t 32,.c (.int .i64 1),.c (.int .i64 4)] A_,.un 34 .not (.t 33)] [0,7,8,9,34]) (.cond (.t 34) (.seq (.region [.mv 2 (.c (.bool false))] [2]) .ret) .skip))
def Tf:AI:=(.region [.bin 35 .add (.t 9) (.i 1),.m 9 35] [0,7,8,9])
def Tg:AI:=(.seq (.region [.b 10 .lss 9 8] [0,7,8,9,10]) (.seq (.cond (.t 10) .skip (.exit 0)) (.seq (.block 1 [0,7,8,9] (.seq (.region [.idx 11 1 (.t 7) (.t 9),.l 12 11,.m 4 12] [0,4,7,8,9]) (.seq (.seq (.region [.m 13 4,.len 14 false (.t 13),.mv 15 (.i 0)] [0,4,7,8,9,13,14,15]) (.block 2 [0,4,7,8,9] (.loop [0,4,7,8,9,13,14,15] WC))) OO))) Tf)))
def Th:AI:=(.seq (.region [.m 36 0,.len 37 false (.t 36),.cx (some 38) [.t 37,.c (.int .i64 1),.c (.int .i64 9)] A_,.m 2 38] [2]) .ret)
def CD:BS:=⟨[.val (.slice (.slice (.int .i64)))],[⟨2,false,.bool⟩],(.seq (.region [.mv 2 (.c (.bool false))] [0]) (.seq (.seq (.region [.m 7 0,.len 8 false (.t 7),.mv 9 (.i 0)] [0,7,8,9]) (.block 0 [0] (.loop [0,7,8,9] Tg))) Th))⟩
theorem qM:Ax Tryz.prog 52 CD=true:=by kernel_rfl

def R0:AI:=(.seq (.region [.b 9 .lss 8 7] [3,6,7,8,9]) (.seq (.cond (.t 9) .skip (.exit 0)) (.seq (.block 1 [3,6,7,8] (.seq (.region [.idx 10 1 (.t 6) (.t 8),.l 11 10,.m 5 11] [3,5,6,7,8]) (.region [.m 12 3,.m 13 5,.cl 14 [13] Cr,.blst 15 (.slice (.int .i64)) [.t 14],.app 16 37 (.slice (.int .i64)) (.t 12) (.t 15),.m 3 16] [3,6,7,8]))) (.region [.bin 17 .add (.t 8) (.i 1),.m 8 17] [3,6,7,8]))))
def R1:AI:=(.seq (.region [.m 18 3,.m 2 18] [2]) .ret)
def DN:BS:=⟨[.val (.slice (.slice (.int .i64)))],[⟨2,false,(.slice (.slice (.int .i64)))⟩],(.seq (.region [.mv 2 (.c (.nil))] [0]) (.seq (.region [.nilrow 3 37 (.slice (.int .i64))] [0,3]) (.seq (.seq (.region [.m 6 0,.len 7 false (.t 6),.mv 8 (.i 0)] [3,6,7,8]) (.block 0 [3] (.loop [3,6,7,8] R0))) R1)))⟩
theorem kc:Ax Tryz.prog 53 DN=true:=by kernel_rfl
def R2:AI:=(.seq (.region [.m 16 1,.idx 17 1 (.t 16) (.i 0),.l 18 17,.idx 19 1 (.t 18) (.i 0),.l 20 19,.m 21 0,.b 22 .eql 20 21,.m 6 22] [0,1,4,6]) (.seq (.region [.m 23 0,.m 24 1,.idx 25 1 (.t 24) (.i 0),.l 26 25,.m 27 0,.cl 28 [26,27] GC,.m 29 6,.m 30 6,.bu 31 Y [(0,1,.t 23),(1,1,.c (.int .i64 1)),(3,1,.t 28),(4,1,.t 29),(5,1,.t 30)],.store (.t 4) (.t 31) 16 false,.mv 5 (.c (.bool true))] [4,5]) .ret))
def Fa:BS:=⟨[.val (.int .i64),.val (.slice (.slice (.int .i64)))],[⟨4,true,Y⟩,⟨5,false,.bool⟩],(.seq (.region [.al 4 Y,.mv 5 (.c (.bool false))] [0,1,4]) (.seq (.seq (.region [.m 7 0,.cl 8 [7] IK,.un 9 .not (.t 8),.m 10 9,.sc 10 false [.m 11 1,.cl 12 [11] G_,.un 13 .not (.t 12)] 14 (.c (.bool true)) (.t 13)] [0,1,4,14]) (.cond (.t 14) (.seq (.region [.bu 15 Y [],.store (.t 4) (.t 15) 16 false,.mv 5 (.c (.bool false))] [4,5]) .ret) .skip)) R2))⟩
theorem kf:Ax Tryz.prog 54 Fa=true:=by kernel_rfl
def MV:BS:=⟨[.val (.int .i64),.val (.int .i64),.val (.int .i64)],[⟨6,false,.bool⟩],(.seq (.region [.mv 6 (.c (.bool false))] [0,1,2]) (.seq (.region [.m 7 0,.m 8 1,.b 9 .geq 7 8,.m 10 9,.sc 10 true [.m 11 0,.m 12 2,.b 13 .leq 11 12] 14 (.t 13) (.c (.bool false)),.m 6 14] [6]) .ret))⟩
theorem qN:Ax Tryz.prog 55 MV=true:=by kernel_rfl
def Oz:BS:=⟨[.val (.int .i64)],[⟨2,false,.bool⟩],(.seq (.region [.mv 2 (.c (.bool false))] [0]) (.seq (.region [.m 3 0,.cx (some 4) [.t 3,.c (.int .i64 1),.c (.int .i64 6)] A_,.m 2 4] [2]) .ret))⟩
theorem sE:Ax Tryz.prog 56 Oz=true:=by kernel_rfl
def aG:AI:=(.seq (.region [.m 27 0,.bin 28 .eql (.t 27) (.i 1),.m 29 28,.sc 29 false [.m 30 3,.bin 31 .eql (.t 30) (.c (.str ⟨#[]⟩))] 32 (.c (.bool true)) (.t 31),.m 8 32] [8]) .ret)
def Jc:BS:=⟨[.val (.int .i64),.val (.int .i64),.val .str,.val .str],[⟨8,false,.bool⟩],(.seq (.region [.mv 8 (.c (.bool false))] [0,1,2,3]) (.seq (.seq (.region [.m 9 0,.cx (some 10) [.t 9,.c (.int .i64 1),.c (.int .i64 2)] A_,.un 11 .not (.t 10),.m 12 11,.sc 12 false [.m 13 1,.cx (some 14) [.t 13,.c (.int .i64 0),.c (.int .i64 1000)] A_,.un 15 .not (.t 14)] 16 (.c (.bool true)) (.t 15),.m 17 16,.sc 17 false [.m 18 2,.cl 19 [18] gy,.un 20 .not (.t 19)] 21 (.c (.bool true)) (.t 20),.m 22 21,.sc 22 false [.m 23 3,.len 24 true (.t 23),.bin 25 .gtr (.t 24) (.i 20)] 26 (.c (.bool true)) (.t 25)] [0,3,26]) (.cond (.t 26) (.seq (.region [.mv 8 (.c (.bool false))] [8]) .ret) .skip)) aG))⟩
theorem uD:Ax Tryz.prog 57 Jc=true:=by kernel_rfl
def Hp:BS:=⟨[.ptr Af,.val AM,.val (.int .i64)],[⟨6,false,.bool⟩],(.seq (.region [.box 4 (.t 1) false,.mv 6 (.c (.bool false))] [0,2,4]) (.seq (.region [.m 13 0,.n 14 13,.f 15 14 3,.l 16 15,.len 17 false (.t 16),.m 7 17] [0,2,4,7]) (.seq (.draw (Fd 18 [(1,[]),(5,[]),(7,[]),(9,[]),(11,[]),(12,[6,8,10,11]),(14,[4,13]),(15,[0,14])]) (.tk 13 [.bu 30 As [(0,1,.t 24),(1,1,.t 26),(2,1,.t 28),(3,1,.t 29),(4,1,.c (.int .i64 (-1)))],.m 29 2,.l 28 27,.f 27 4 5,.l 26 25,.f 25 4 4,.l 24 23,.f 23 4 3,.l 22 21,.f 21 20 3,.n 20 19,.m 19 0,.m 18 0] (.only 13 none (.blst 31 As [.t 30]) false [] (.only 14 none (.app 32 42 As (.t 22) (.t 31)) false [] (.tk 17 [.f 34 33 3,.n 33 18] (.only 17 none (.store (.t 34) (.t 32) 1 false) false [] .done))))) [0,2,4,7]) (.seq (.region [.m 35 0,.f 36 4 1,.l 37 36,.cl 38 [35,37] Gy,.m 8 38] [0,2,4,7,8]) (.seq (.draw (Fd 29 [(4,[]),(5,[3,4]),(7,[]),(11,[]),(13,[]),(14,[]),(16,[]),(18,[6,10,12,13,15,17]),(21,[19]),(22,[19]),(23,[19]),(24,[]),(25,[20,24]),(26,[21,25]),(27,[22,26]),(28,[23,27])]) (.tk 18 [.l 57 56,.f 56 4 5,.l 55 54,.f 54 4 4,.m 53 7,.l 52 51,.f 51 4 3,.l 50 49,.f 49 48 0,.n 48 47,.m 47 0,.ls 46 45 16,.idx 45 16 (.t 43) (.t 44),.m 44 8,.l 43 42,.f 42 41 1,.n 41 40,.m 40 0] (.only 18 none (.cl 58 [46,50,52,53,55,57] tz) false [(24,.al 9 Y)] (.tk 24 [.ext 62 (.t 39) 3,.ext 61 (.t 39) 2,.ext 60 (.t 39) 1,.ext 59 (.t 39) 0,.m 39 58] (.only 24 none (.al 9 Y) true [] (.only 25 none (.store (.t 9) (.t 59) 16 false) false [] (.tk 29 [.m 12 62,.m 11 61,.m 10 60] .done)))))) [0,2,8,9,10,11,12]) (.seq (.seq (.region [.m 63 12,.un 64 .not (.t 63)] [0,2,8,9,10,11,64]) (.cond (.t 64) (.seq (.region [.mv 6 (.c (.bool false))] [6]) .ret) .skip)) (.seq (.draw (Fd 8 [(4,[]),(5,[]),(6,[3,4,5])]) (.tk 7 [.idx 71 16 (.t 68) (.t 69),.ls 70 9 16,.m 69 8,.l 68 67,.f 67 66 1,.n 66 65,.m 65 0] (.only 7 none (.store (.t 71) (.t 70) 16 false) false [] .done)) [0,2,10,11]) (.seq (.region [.m 72 0,.m 73 10,.m 74 11,.m 75 2,.cl 76 [72,73,74,75] MH] []) (.seq (.region [.mv 6 (.c (.bool true))] [6]) .ret)))))))))⟩
theorem eT:Ax Tryz.prog 58 Hp=true:=by kernel_rfl
def PP:AI:=(.seq (.seq (.region [.m 25 8,.m 26 0,.n 27 26,.f 28 27 0,.l 29 28,.len 30 false (.t 29),.b 31 .leq 25 30] [0,2,4,7,8,31]) (.cond (.t 31) .skip (.exit 0))) (.seq (.block 1 [0,2,4,7,8] (.seq (.seq (.draw (Fd 13 [(4,[]),(6,[3,5]),(10,[]),(12,[9,11])]) (.tk 13 [.b 46 .neq 43 45,.l 45 44,.f 44 4 1,.l 43 42,.idx 42 1 (.t 41) (.i 0),.l 41 40,.idx 40 1 (.t 37) (.t 39),.bin 39 .sub (.t 38) (.i 1),.m 38 8,.l 37 36,.f 36 35 0,.n 35 34,.m 34 0] .done) [0,2,4,7,8,46]) (.cond (.t 46) (.exit 1) .skip)) (.seq (.draw (Fd 21 [(4,[]),(5,[3,4]),(7,[]),(11,[]),(12,[6,10,11]),(15,[13]),(16,[13]),(17,[]),(18,[14,17]),(19,[15,18]),(20,[16,19])]) (.tk 12 [.m 59 8,.l 58 57,.f 57 56 0,.n 56 55,.m 55 0,.ls 54 53 16,.idx 53 16 (.t 51) (.t 52),.m 52 7,.l 51 50,.f 50 49 1,.n 49 48,.m 48 0] (.only 12 none (.cl 60 [54,58,59] t6) false [(17,.al 9 Y)] (.tk 17 [.ext 63 (.t 47) 2,.ext 62 (.t 47) 1,.ext 61 (.t 47) 0,.m 47 60] (.only 17 none (.al 9 Y) true [] (.only 18 none (.store (.t 9) (.t 61) 16 false) false [] (.tk 21 [.m 11 63,.m 10 62] .done)))))) [0,2,7,9,10,11]) (.seqc [11] (.seq (.region [.m 64 11] [0,2,7,9,10,11,64]) (.cond (.t 64) (.seq (.draw (Fd 8 [(4,[]),(5,[]),(6,[3,4,5])]) (.tk 7 [.idx 71 16 (.t 68) (.t 69),.ls 70 9 16,.m 69 7,.l 68 67,.f 67 66 1,.n 66 65,.m 65 0] (.only 7 none (.store (.t 71) (.t 70) 16 false) false [] .done)) [0,2,10,11]) (.region [.m 72 0,.m 73 10,.m 74 2,.cx (some 75) [.t 72,.t 73,.c (.nil),.t 74] MH] [11])) .skip)) (.seq (.region [.m 76 11,.m 6 76] [6]) .ret))))) (.region [.m 32 8,.bin 33 .add (.t 32) (.i 1),.m 8 33] [0,2,4,7,8])))
def Nn:AI:=(.seq (.region [.mv 6 (.c (.bool false))] [6]) .ret)
def Cj:BS:=⟨[.ptr Af,.val AM,.val (.int .i64)],[⟨6,false,.bool⟩],(.seq (.region [.box 4 (.t 1) false,.mv 6 (.c (.bool false))] [0,2,4]) (.seq (.region [.m 12 0,.f 13 4 1,.l 14 13,.cl 15 [12,14] Gy,.m 7 15] [0,2,4,7]) (.seq (.seq (.region [.m 16 0,.n 17 16,.f 18 17 1,.l 19 18,.m 20 7,.idx 21 16 (.t 19) (.t 20),.f 22 21 1,.l 23 22,.bin 24 .add (.t 23) (.i 1),.m 8 24] [0,2,4,7,8]) (.block 0 [] (.loop [0,2,4,7,8] PP))) Nn)))⟩
theorem eU:Ax Tryz.prog 59 Cj=true:=by kernel_rfl
def Gz:BS:=⟨[.ptr Af,.val (.int .i64)],[⟨4,false,(.int .i64)⟩],(.seq (.region [.fbox 3 (.t 1),.mv 4 (.i 0)] [0,3]) (.seq (.region [.m 5 0,.n 6 5,.f 7 6 1,.l 8 7,.clo 9 95 (.int .i64) (.t 3),.cl 10 [8,9] Hn,.m 4 10] [4]) .ret))⟩
theorem cq:Ax Tryz.prog 60 Gz=true:=by kernel_rfl
def Ti:BS:=⟨[.val Y],[⟨2,true,JZ⟩],(.seq (.region [.box 1 (.t 0) true,.al 2 JZ] [1,2]) (.seq (.region [.f 3 1 0,.l 4 3,.f 5 1 1,.l 6 5,.bnew 7 [.int .i64 0,.int .i64 0,.bool false,.bool false,.bool false,.bool false,.new 3 (.int .i64) [],.new 45 AH [],.int .i64 0,.int .i64 0,.int .i64 0,.int .i64 0,.str O,.str O,.int .i64 0,.new 3 (.int .i64) []] [(0,1,.t 4),(1,1,.t 6),(2,1,.c (.bool true))],.store (.t 2) (.t 7) 16 false] [2]) .ret))⟩
theorem vU:Ax Tryz.prog 61 Ti=true:=by kernel_rfl
def GS:BS:=⟨[.ptr Af,.val AM,.val (.int .i64)],[⟨6,false,.bool⟩],(.seq (.region [.box 4 (.t 1) false,.mv 6 (.c (.bool false))] [0,2,4]) (.seq (.seq (.region [.m 8 0,.n 9 8,.f 10 9 2,.l 11 10,.len 12 false (.t 11),.bin 13 .eql (.t 12) (.i 0)] [0,2,4,13]) (.cond (.t 13) (.seq (.region [.mv 6 (.c (.bool false))] [6]) .ret) .skip)) (.seq (.draw (Fd 9 [(2,[]),(7,[1,6])]) (.tk 9 [.m 7 21,.b 21 .rem 15 20,.len 20 false (.t 19),.l 19 18,.f 18 17 2,.n 17 16,.m 16 0,.l 15 14,.f 14 4 2] .done) [0,2,4,7]) (.seq (.seq (.region [.f 22 4 0,.l 23 22] [0,2,7,23]) (.block 0 [] (.seq (.region [.bin 25 .eql (.t 23) (.i 2),.m 24 25] [0,2,7,23,24]) (.cond (.t 24) (.region [.m 26 0,.m 27 7,.m 28 2,.cl 29 [26,27,28] aA] []) (.seq (.region [.bin 31 .eql (.t 23) (.i 3),.m 30 31] [0,7,23,30]) (.cond (.t 30) (.region [.m 32 0,.m 33 0,.n 34 33,.f 35 34 2,.l 36 35,.m 37 7,.m 38 7,.bin 39 .add (.t 38) (.i 1),.cl 40 [36,37,39] F9,.n 41 32,.f 42 41 2,.store (.t 42) (.t 40) 1 false] []) (.seq (.region [.bin 44 .eql (.t 23) (.i 4),.m 43 44] [0,7,43]) (.cond (.t 43) (.draw (Fd 18 [(1,[]),(5,[]),(9,[]),(10,[8,9]),(14,[4,13]),(15,[0,14])]) (.tk 12 [.ls 56 55 6,.idx 55 6 (.t 53) (.t 54),.m 54 7,.l 53 52,.f 52 51 2,.n 51 50,.m 50 0,.l 49 48,.f 48 47 2,.n 47 46,.m 46 0,.m 45 0] (.only 12 none (.cl 57 [56] Ri) false [] (.only 13 none (.blst 58 AJ [.t 57]) false [] (.only 14 none (.app 59 112 AJ (.t 49) (.t 58)) false [] (.tk 17 [.f 61 60 2,.n 60 45] (.only 17 none (.store (.t 61) (.t 59) 1 false) false [] .done)))))) []) .skip)))))))) (.seq (.region [.mv 6 (.c (.bool true))] [6]) .ret)))))⟩
theorem aH:Ax Tryz.prog 62 GS=true:=by kernel_rfl
def Ie:BS:=⟨[.val Y],[⟨2,true,Y⟩],(.seq (.region [.box 1 (.t 0) false,.al 2 Y] [1,2]) (.seq (.draw (Fd 17 [(3,[]),(5,[2,4]),(6,[]),(9,[5,8]),(10,[2,4,8]),(11,[9,10])]) (.tk 2 [.l 4 3,.f 3 1 6] (.tk 5 [.l 7 6,.f 6 1 7] (.tk 9 [.l 11 10,.f 10 9 6,.f 9 1 9] (.only 2 none (.cl 5 [4] Cr) false [] (.tk 11 [.f 13 1 6] (.only 5 none (.cl 8 [7] BK) false [] (.only 9 none (.cl 12 [11] Cr) false [] (.only 11 none (.store (.t 13) (.t 5) 1 false) false [] (.tk 13 [.f 14 1 7] (.only 13 none (.store (.t 14) (.t 8) 1 false) false [] (.tk 16 [.f 16 15 6,.f 15 1 9] (.only 16 none (.store (.t 16) (.t 12) 1 false) false [] .done)))))))))))) [1,2]) (.seq (.region [.ls 17 1 16,.store (.t 2) (.t 17) 16 false] [2]) .ret)))⟩
theorem hJ:Ax Tryz.prog 64 Ie=true:=by kernel_rfl
def MW:BS:=⟨[.val AJ],[⟨2,true,AJ⟩],(.seq (.region [.box 1 (.t 0) false,.al 2 AJ] [1,2]) (.seq (.region [.f 3 1 5,.l 4 3,.cl 5 [4] BK,.f 6 1 5,.store (.t 6) (.t 5) 1 false] [1,2]) (.seq (.region [.ls 7 1 6,.store (.t 2) (.t 7) 6 false] [2]) .ret)))⟩
theorem qO:Ax Tryz.prog 65 MW=true:=by kernel_rfl
def No:AI:=(.seq (.seq (.region [.m 6 4,.m 7 0,.len 8 false (.t 7),.b 9 .lss 6 8] [0,3,4,9]) (.cond (.t 9) .skip (.exit 0))) (.seq (.block 1 [0,3,4] (.region [.m 12 3,.brow 13 3 (.int .i64) [],.m 14 0,.m 15 4,.idx 16 1 (.t 14) (.t 15),.l 17 16,.app 18 3 (.int .i64) (.t 13) (.t 17),.blst 19 (.slice (.int .i64)) [.t 18],.app 20 37 (.slice (.int .i64)) (.t 12) (.t 19),.m 3 20] [0,3,4])) (.region [.m 10 4,.bin 11 .add (.t 10) (.i 1),.m 4 11] [0,3,4])))
def Np:AI:=(.seq (.region [.m 21 3,.m 2 21] [2]) .ret)
def CX:BS:=⟨[.val (.slice (.slice (.int .i64)))],[⟨2,false,(.slice (.slice (.int .i64)))⟩],(.seq (.region [.mv 2 (.c (.nil))] [0]) (.seq (.region [.brow 5 37 (.slice (.int .i64)) [],.m 3 5] [0,3]) (.seq (.seq (.region [.mv 4 (.i 0)] [0,3,4]) (.block 0 [3] (.loop [0,3,4] No))) Np)))⟩
theorem cr:Ax Tryz.prog 66 CX=true:=by kernel_rfl
def R3:AI:=(.seq (.region [.m 16 0,.m 17 1,.idx 18 1 (.t 17) (.i 0),.l 19 18,.m 20 0,.cl 21 [19,20] Hm,.bu 22 Y [(0,1,.t 16),(1,1,.c (.int .i64 1)),(3,1,.t 21)],.al 6 Y,.store (.t 6) (.t 22) 16 false] [0,1,4,6]) (.seq (.region [.m 23 1,.idx 24 1 (.t 23) (.i 0),.l 25 24,.idx 26 1 (.t 25) (.i 0),.l 27 26,.m 28 0,.b 29 .eql 27 28,.f 30 6 4,.store (.t 30) (.t 29) 1 false] [4,6]) (.seq (.region [.f 31 6 4,.l 32 31,.f 33 6 5,.store (.t 33) (.t 32) 1 false] [4,6]) (.seq (.region [.ls 34 6 16,.store (.t 4) (.t 34) 16 false,.mv 5 (.c (.bool true))] [4,5]) .ret))))
def Fb:BS:=⟨[.val (.int .i64),.val (.slice (.slice (.int .i64)))],[⟨4,true,Y⟩,⟨5,false,.bool⟩],(.seq (.region [.al 4 Y,.mv 5 (.c (.bool false))] [0,1,4]) (.seq (.seq (.region [.m 7 1,.cl 8 [7] G9,.un 9 .not (.t 8),.m 10 9,.sc 10 false [.m 11 0,.cx (some 12) [.t 11,.c (.int .i64 1),.c (.int .i64 6)] Az,.un 13 .not (.t 12)] 14 (.c (.bool true)) (.t 13)] [0,1,4,14]) (.cond (.t 14) (.seq (.region [.bu 15 Y [],.store (.t 4) (.t 15) 16 false,.mv 5 (.c (.bool false))] [4,5]) .ret) .skip)) R3))⟩
theorem kg:Ax Tryz.prog 67 Fb=true:=by kernel_rfl
def Kg:BS:=⟨[.ptr Ah,.val (.int .i64),.val AM],[⟨6,false,(.int .i64)⟩],(.seq (.region [.box 5 (.t 2) false,.mv 6 (.i 0)] [0,1,5]) (.seq (.draw (Fd 20 [(1,[]),(2,[]),(6,[1,5]),(7,[]),(9,[]),(11,[]),(13,[]),(14,[8,10,12,13]),(16,[6,15]),(17,[0,16])]) (.tk 1 [.m 11 0] (.tk 6 [.l 16 15,.f 15 14 3,.n 14 13,.m 13 0] (.tk 15 [.bu 25 As [(0,1,.t 19),(1,1,.t 21),(2,1,.t 23),(3,1,.t 24),(4,1,.c (.int .i64 (-1)))],.m 24 1,.l 23 22,.f 22 5 5,.l 21 20,.f 20 5 4,.l 19 18,.f 18 5 3] (.only 1 none (.brow 12 42 As []) false [(15,.blst 26 As [.t 25])] (.only 6 none (.app 17 42 As (.t 12) (.t 16)) false [(15,.blst 26 As [.t 25])] (.only 15 none (.blst 26 As [.t 25]) true [] (.only 16 none (.app 27 42 As (.t 17) (.t 26)) false [] (.tk 19 [.f 29 28 3,.n 28 11] (.only 19 none (.store (.t 29) (.t 27) 1 false) false [] .done))))))))) [0,1,5]) (.seq (.draw (Fd 36 [(4,[]),(7,[3,6]),(9,[]),(13,[]),(15,[]),(21,[]),(23,[]),(25,[8,12,14,20,22,24]),(28,[26]),(29,[26]),(30,[26]),(31,[]),(32,[27,31]),(33,[28,32]),(34,[29,33]),(35,[30,34])]) (.tk 25 [.l 55 54,.f 54 5 5,.l 53 52,.f 52 5 4,.bin 51 .sub (.t 50) (.i 1),.len 50 false (.t 49),.l 49 48,.f 48 47 3,.n 47 46,.m 46 0,.l 45 44,.f 44 5 3,.l 43 42,.f 42 41 0,.n 41 40,.m 40 0,.ls 39 38 16,.idx 38 16 (.t 34) (.t 37),.bin 37 .sub (.t 36) (.i 1),.l 36 35,.f 35 5 1,.l 34 33,.f 33 32 1,.n 32 31,.m 31 0] (.only 25 none (.cl 56 [39,43,45,51,53,55] t7) false [(31,.al 7 Y)] (.tk 31 [.ext 60 (.t 30) 3,.ext 59 (.t 30) 2,.ext 58 (.t 30) 1,.ext 57 (.t 30) 0,.m 30 56] (.only 31 none (.al 7 Y) true [] (.only 32 none (.store (.t 7) (.t 57) 16 false) false [] (.tk 36 [.m 10 60,.m 9 59,.m 8 58] .done)))))) [0,1,7,8,9,10]) (.seq (.seq (.region [.m 61 10,.un 62 .not (.t 61)] [0,1,7,8,9,62]) (.cond (.t 62) (.seq (.region [.mv 6 (.i 1)] [6]) .ret) .skip)) (.seq (.region [.m 63 0,.ls 64 7 16,.m 65 8,.m 66 9,.m 67 1,.cl 68 [63,64,65,66,67] Ja] []) (.seq (.region [.mv 6 (.i 0)] [6]) .ret))))))⟩
theorem nl:Ax Tryz.prog 68 Kg=true:=by kernel_rfl
def Tj:AI:=(.seq (.seq (.region [.m 23 8,.m 24 0,.n 25 24,.f 26 25 0,.l 27 26,.len 28 false (.t 27),.b 29 .leq 23 28] [0,1,2,7,8,29]) (.cond (.t 29) .skip (.exit 0))) (.seq (.block 1 [0,1,2,7,8] (.seq (.seq (.region [.m 32 0,.n 33 32,.f 34 33 0,.l 35 34,.m 36 8,.bin 37 .sub (.t 36) (.i 1),.idx 38 1 (.t 35) (.t 37),.l 39 38,.idx 40 1 (.t 39) (.i 0),.l 41 40,.m 42 2,.b 43 .neq 41 42] [0,1,2,7,8,43]) (.cond (.t 43) (.exit 1) .skip)) (.seq (.draw (Fd 15 [(1,[]),(5,[]),(6,[0,4,5]),(9,[7]),(10,[7]),(11,[]),(12,[8,11]),(13,[9,12]),(14,[10,13])]) (.tk 6 [.m 50 8,.l 49 48,.f 48 47 0,.n 47 46,.m 46 0,.ls 45 7 16] (.only 6 none (.cl 51 [45,49,50] t8) false [(11,.al 9 Y)] (.tk 11 [.ext 54 (.t 44) 2,.ext 53 (.t 44) 1,.ext 52 (.t 44) 0,.m 44 51] (.only 11 none (.al 9 Y) true [] (.only 12 none (.store (.t 9) (.t 52) 16 false) false [] (.tk 15 [.m 11 54,.m 10 53] .done)))))) [0,1,9,10,11]) (.seq (.seq (.region [.m 55 11,.un 56 .not (.t 55)] [0,1,9,10,56]) (.cond (.t 56) (.seq (.region [.mv 6 (.i 1)] [6]) .ret) .skip)) (.seq (.region [.m 57 0,.ls 58 9 16,.m 59 10,.brow 60 140 Ay [],.m 61 1,.cl 62 [57,58,59,60,61] Ja] []) (.seq (.region [.mv 6 (.i 0)] [6]) .ret)))))) (.region [.m 30 8,.bin 31 .add (.t 30) (.i 1),.m 8 31] [0,1,2,7,8])))
def R4:AI:=(.seq (.region [.mv 6 (.i 1)] [6]) .ret)
def Du:BS:=⟨[.ptr Ah,.val (.int .i64),.val (.int .i64)],[⟨6,false,(.int .i64)⟩],(.seq (.region [.mv 6 (.i 0)] [0,1,2]) (.seq (.region [.m 12 0,.n 13 12,.f 14 13 1,.l 15 14,.m 16 2,.bin 17 .sub (.t 16) (.i 1),.idx 18 16 (.t 15) (.t 17),.ls 19 18 16,.al 7 Y,.store (.t 7) (.t 19) 16 false] [0,1,2,7]) (.seq (.seq (.region [.f 20 7 1,.l 21 20,.bin 22 .add (.t 21) (.i 1),.m 8 22] [0,1,2,7,8]) (.block 0 [] (.loop [0,1,2,7,8] Tj))) R4)))⟩
theorem nn:Ax Tryz.prog 69 Du=true:=by kernel_rfl
def Qj:AI:=(.seq (.region [.brow 72 42 As [],.m 73 0,.n 74 73,.f 75 74 3,.l 76 75,.app 77 42 As (.t 72) (.t 76),.m 13 77] [0,3,4,11,12,13]) (.seq (.region [.m 78 13,.f 79 12 0,.l 80 79,.idx 81 9 (.t 78) (.t 80),.m 14 81] [0,3,4,11,12,13,14]) (.seq (.region [.m 82 14,.m 83 4,.n 84 82,.f 85 84 4,.store (.t 85) (.t 83) 1 false] [0,3,4,11,12,13,14]) (.seq (.region [.m 86 14,.f 87 12 3,.f 88 87 2,.l 89 88,.n 90 86,.f 91 90 5,.store (.t 91) (.t 89) 1 false] [0,3,4,11,12,13,14]) (.seq (.region [.m 92 14,.f 93 12 1,.l 94 93,.n 95 92,.f 96 95 6,.store (.t 96) (.t 94) 1 false] [0,3,4,11,12,13,14]) (.seq (.region [.m 97 14,.f 98 12 2,.l 99 98,.n 100 97,.f 101 100 7,.store (.t 101) (.t 99) 1 false] [0,3,4,11,12,13,14]) (.seqc [0,3,4,11,13] (.seq (.region [.m 102 14,.n 103 102,.f 104 103 0,.l 105 104,.bin 106 .eql (.t 105) (.i 2)] [0,3,4,11,12,13,14,106]) (.cond (.t 106) (.region [.m 107 14,.f 108 12 3,.f 109 108 1,.l 110 109,.n 111 107,.f 112 111 8,.store (.t 112) (.t 110) 1 false] [0,3,4,11,13]) .skip)) (.region [.m 113 0,.m 114 13,.n 115 113,.f 116 115 3,.store (.t 116) (.t 114) 1 false] [0,3,4,11]))))))))
def Qk:AI:=(.region [.m 46 11,.bin 47 .add (.t 46) (.i 1),.m 11 47] [0,3,4,11])
def Ql:AI:=(.seq (.seq (.region [.m 42 11,.m 43 3,.len 44 false (.t 43),.b 45 .lss 42 44] [0,3,4,11,45]) (.cond (.t 45) .skip (.exit 0))) (.seq (.block 1 [0,3,4,11] (.seq (.region [.m 48 3,.m 49 11,.idx 50 6 (.t 48) (.t 49),.ls 51 50 6,.al 12 Ay,.store (.t 12) (.t 51) 6 false] [0,3,4,11,12]) (.seq (.seq (.draw (Fd 20 [(2,[]),(7,[1,6]),(13,[8]),(15,[12,14])]) (.tk 9 [.m 60 59,.b 59 .geq 53 58,.len 58 false (.t 57),.l 57 56,.f 56 55 3,.n 55 54,.m 54 0,.l 53 52,.f 52 12 0] (.test 60 (.sk 60 false 10 19 71 (.tk 20 [.pick 71 (.t 60) (.c (.bool true)) (.t 70)] .done)) (.tg 60 false 19 [.bin 70 .geq (.t 69) (.i 0),.l 69 68,.f 68 67 4,.idx 67 9 (.t 64) (.t 66),.l 66 65,.f 65 12 0,.l 64 63,.f 63 62 3,.n 62 61,.m 61 0] (.tk 20 [.pick 71 (.t 60) (.c (.bool true)) (.t 70)] .done)))) [0,3,4,11,12,71]) (.cond (.t 71) (.exit 1) .skip)) Qj))) Qk))
def Cs:BS:=⟨[.ptr Ah,.val Y,.val (.slice AJ),.val (.slice Ay),.val (.int .i64)],[],(.seq (.region [.box 6 (.t 1) false] [0,2,3,4,6]) (.seq (.region [.brow 15 49 Y [],.m 16 0,.n 17 16,.f 18 17 1,.l 19 18,.app 20 49 Y (.t 15) (.t 19),.m 10 20] [0,2,3,4,6,10]) (.seq (.region [.m 21 10,.f 22 6 0,.l 23 22,.bin 24 .sub (.t 23) (.i 1),.ls 25 6 16,.idx 26 16 (.t 21) (.t 24),.store (.t 26) (.t 25) 16 false] [0,2,3,4,10]) (.seq (.region [.m 27 0,.m 28 10,.n 29 27,.f 30 29 1,.store (.t 30) (.t 28) 1 false] [0,2,3,4]) (.seq (.region [.m 31 0,.brow 32 112 AJ [],.m 33 0,.n 34 33,.f 35 34 2,.l 36 35,.app 37 112 AJ (.t 32) (.t 36),.m 38 2,.app 39 112 AJ (.t 37) (.t 38),.n 40 31,.f 41 40 2,.store (.t 41) (.t 39) 1 false] [0,3,4]) (.seq (.region [.mv 11 (.i 0)] [0,3,4,11]) (.block 0 [] (.loop [0,3,4,11] Ql))))))))⟩
theorem kh:Ax Tryz.prog 70 Cs=true:=by kernel_rfl
def Tk:BS:=⟨[.val Y],[⟨2,true,JZ⟩],(.seq (.region [.box 1 (.t 0) true,.al 2 JZ] [1,2]) (.seq (.region [.f 3 1 0,.l 4 3,.f 5 1 1,.l 6 5,.bnew 7 [.int .i64 0,.int .i64 0,.bool false,.bool false,.bool false,.bool false,.new 3 (.int .i64) [],.new 45 AH [],.int .i64 0,.int .i64 0,.int .i64 0,.int .i64 0,.str O,.str O,.int .i64 0,.new 3 (.int .i64) []] [(0,1,.t 4),(1,1,.t 6),(2,1,.c (.bool true))],.store (.t 2) (.t 7) 16 false] [2]) .ret))⟩
theorem vV:Ax Tryz.prog 71 Tk=true:=by kernel_rfl
def O0:BS:=⟨[.ptr Ah,.val (.int .i64),.val AM],[⟨6,false,(.int .i64)⟩],(.seq (.region [.box 5 (.t 2) false,.mv 6 (.i 0)] [0,1,5]) (.seq (.seq (.region [.m 12 0,.n 13 12,.f 14 13 2,.l 15 14,.len 16 false (.t 15),.bin 17 .eql (.t 16) (.i 0)] [0,1,5,17]) (.cond (.t 17) (.seq (.region [.mv 6 (.i 1)] [6]) .ret) .skip)) (.seq (.draw (Fd 9 [(2,[]),(7,[1,6])]) (.tk 9 [.m 7 25,.b 25 .rem 19 24,.len 24 false (.t 23),.l 23 22,.f 22 21 2,.n 21 20,.m 20 0,.l 19 18,.f 18 5 2] .done) [0,1,5,7]) (.seq (.region [.m 26 0,.n 27 26,.f 28 27 2,.l 29 28,.m 30 7,.idx 31 6 (.t 29) (.t 30),.ls 32 31 6,.al 8 AJ,.store (.t 8) (.t 32) 6 false] [0,1,5,7,8]) (.seq (.seq (.region [.f 33 5 0,.l 34 33,.bin 35 .eql (.t 34) (.i 4)] [0,1,5,7,8,35]) (.cond (.t 35) (.seq (.draw (Fd 13 [(1,[]),(2,[]),(6,[1,5]),(7,[]),(9,[6,8]),(10,[0,9])]) (.tk 1 [.m 36 0] (.tk 6 [.l 41 40,.f 40 39 2,.n 39 38,.m 38 0] (.tk 8 [.ls 43 8 6] (.only 1 none (.brow 37 112 AJ []) false [(8,.blst 44 AJ [.t 43])] (.only 6 none (.app 42 112 AJ (.t 37) (.t 41)) false [(8,.blst 44 AJ [.t 43])] (.only 8 none (.blst 44 AJ [.t 43]) true [] (.only 9 none (.app 45 112 AJ (.t 42) (.t 44)) false [] (.tk 12 [.f 47 46 2,.n 46 36] (.only 12 none (.store (.t 47) (.t 45) 1 false) false [] .done))))))))) []) (.seq (.region [.mv 6 (.i 0)] [6]) .ret)) .skip)) (.seq (.draw (Fd 20 [(1,[]),(2,[]),(6,[]),(7,[5,6]),(8,[1,7]),(9,[]),(13,[]),(15,[12,14]),(16,[8,15]),(17,[0,16])]) (.tk 1 [.m 48 0] (.tk 8 [.sl 55 6 (.t 53) none (some (.t 54)),.m 54 7,.l 53 52,.f 52 51 2,.n 51 50,.m 50 0] (.tk 16 [.sl 63 6 (.t 60) (some (.t 62)) none,.bin 62 .add (.t 61) (.i 1),.m 61 7,.l 60 59,.f 59 58 2,.n 58 57,.m 57 0] (.only 1 none (.brow 49 112 AJ []) false [] (.only 8 none (.app 56 112 AJ (.t 49) (.t 55)) false [] (.only 16 none (.app 64 112 AJ (.t 56) (.t 63)) false [] (.tk 19 [.f 66 65 2,.n 65 48] (.only 19 none (.store (.t 66) (.t 64) 1 false) false [] .done)))))))) [0,1,5,8]) (.seq (.seq (.region [.f 67 5 0,.l 68 67,.bin 69 .eql (.t 68) (.i 3)] [0,1,8,69]) (.cond (.t 69) (.seq (.region [.mv 6 (.i 0)] [6]) .ret) .skip)) (.seq (.draw (Fd 23 [(4,[]),(7,[3,6]),(9,[]),(13,[]),(14,[8,12,13]),(17,[15]),(18,[15]),(19,[]),(20,[16,19]),(21,[17,20]),(22,[18,21])]) (.tk 14 [.ls 84 8 6,.l 83 82,.f 82 81 0,.n 81 80,.m 80 0,.ls 79 78 16,.idx 78 16 (.t 74) (.t 77),.bin 77 .sub (.t 76) (.i 1),.l 76 75,.f 75 8 2,.l 74 73,.f 73 72 1,.n 72 71,.m 71 0] (.only 14 none (.cl 85 [79,83,84] qA) false [(19,.al 9 Y)] (.tk 19 [.ext 88 (.t 70) 2,.ext 87 (.t 70) 1,.ext 86 (.t 70) 0,.m 70 85] (.only 19 none (.al 9 Y) true [] (.only 20 none (.store (.t 9) (.t 86) 16 false) false [] (.tk 23 [.m 11 88,.m 10 87] .done)))))) [0,1,9,10,11]) (.seq (.region [.m 89 0,.ls 90 9 16,.m 91 10,.m 92 11,.m 93 1,.cl 94 [89,90,91,92,93] Ja] []) (.seq (.region [.mv 6 (.i 0)] [6]) .ret))))))))))⟩
theorem sF:Ax Tryz.prog 72 O0=true:=by kernel_rfl
def PQ:AI:=(.seq (.seq (.region [.m 7 4,.m 8 0,.len 9 false (.t 8),.b 10 .lss 7 9] [0,3,4,10]) (.cond (.t 10) .skip (.exit 0))) (.seq (.block 1 [0,3,4] (.seq (.region [.m 13 0,.m 14 4,.idx 15 6 (.t 13) (.t 14),.ls 16 15 6,.al 5 AJ,.store (.t 5) (.t 16) 6 false] [0,3,4,5]) (.seq (.region [.brow 17 45 AH [],.f 18 5 5,.l 19 18,.app 20 45 AH (.t 17) (.t 19),.f 21 5 5,.store (.t 21) (.t 20) 1 false] [0,3,4,5]) (.region [.m 22 3,.ls 23 5 6,.blst 24 AJ [.t 23],.app 25 112 AJ (.t 22) (.t 24),.m 3 25] [0,3,4])))) (.region [.m 11 4,.bin 12 .add (.t 11) (.i 1),.m 4 12] [0,3,4])))
def PR:AI:=(.seq (.region [.m 26 3,.m 2 26] [2]) .ret)
def Ck:BS:=⟨[.val (.slice AJ)],[⟨2,false,(.slice AJ)⟩],(.seq (.region [.mv 2 (.c (.nil))] [0]) (.seq (.region [.brow 6 112 AJ [],.m 3 6] [0,3]) (.seq (.seq (.region [.mv 4 (.i 0)] [0,3,4]) (.block 0 [3] (.loop [0,3,4] PQ))) PR)))⟩
theorem eV:Ax Tryz.prog 73 Ck=true:=by kernel_rfl
def MX:BS:=⟨[.val Y],[⟨2,true,Y⟩],(.seq (.region [.box 1 (.t 0) false,.al 2 Y] [1,2]) (.seq (.region [.brow 3 3 (.int .i64) [],.f 4 1 6,.l 5 4,.app 6 3 (.int .i64) (.t 3) (.t 5),.f 7 1 6,.store (.t 7) (.t 6) 1 false] [1,2]) (.seq (.region [.brow 8 45 AH [],.f 9 1 7,.l 10 9,.app 11 45 AH (.t 8) (.t 10),.f 12 1 7,.store (.t 12) (.t 11) 1 false] [1,2]) (.seq (.region [.brow 13 3 (.int .i64) [],.f 14 1 9,.f 15 14 6,.l 16 15,.app 17 3 (.int .i64) (.t 13) (.t 16),.f 18 1 9,.f 19 18 6,.store (.t 19) (.t 17) 1 false] [1,2]) (.seq (.region [.ls 20 1 16,.store (.t 2) (.t 20) 16 false] [2]) .ret)))))⟩
theorem qP:Ax Tryz.prog 74 MX=true:=by kernel_rfl
def WD:AI:=(.seq (.seq (.region [.m 11 4,.m 12 0,.len 13 true (.t 12),.b 14 .lss 11 13] [0,4,14]) (.cond (.t 14) .skip (.exit 0))) (.seq (.block 1 [0,4] (.seq (.region [.m 17 0,.m 18 4,.sidx 19 (.t 17) (.t 18),.bin 20 .lss (.t 19) (.c (.int .u8 32)),.m 21 20,.sc 21 false [.m 22 0,.m 23 4,.sidx 24 (.t 22) (.t 23),.bin 25 .gtr (.t 24) (.c (.int .u8 126))] 26 (.c (.bool true)) (.t 25)] [0,4,26]) (.cond (.t 26) (.seq (.region [.mv 2 (.c (.nil)),.mv 3 (.c (.bool false))] [2,3]) .ret) .skip))) (.region [.m 15 4,.bin 16 .add (.t 15) (.i 1),.m 4 16] [0,4])))
def Tl:AI:=(.seq (.region [.b 31 .lss 30 29] [5,28,29,30,31]) (.seq (.cond (.t 31) .skip (.exit 2)) (.seq (.block 3 [5,28,29,30] (.seq (.region [.idx 32 1 (.t 28) (.t 30),.l 33 32,.m 7 33] [5,7,28,29,30]) (.seq (.region [.m 34 7,.bin 35 .neq (.t 34) (.c (.str ⟨#[]⟩))] [5,7,28,29,30,35]) (.cond (.t 35) (.region [.m 36 5,.m 37 7,.blst 38 .str [.t 37],.app 39 9 .str (.t 36) (.t 38),.m 5 39] [5,28,29,30]) .skip)))) (.region [.bin 40 .add (.t 30) (.i 1),.m 30 40] [5,28,29,30]))))
def MY:AI:=(.seq (.seq (.region [.m 41 5,.len 42 false (.t 41),.bin 43 .gtr (.t 42) (.i 10)] [5,43]) (.cond (.t 43) (.seq (.region [.mv 2 (.c (.nil)),.mv 3 (.c (.bool false))] [2,3]) .ret) .skip)) (.seq (.region [.m 44 5,.m 2 44,.mv 3 (.c (.bool true))] [2,3]) .ret))
def MZ:AI:=(.seq (.region [.nilrow 5 9 .str] [0,5]) (.seq (.seq (.region [.m 27 0,.cx (some 28) [.t 27,.c (.str ⟨#[32]⟩)] P_,.len 29 false (.t 28),.mv 30 (.i 0)] [5,28,29,30]) (.block 2 [5] (.loop [5,28,29,30] Tl))) MY))
def BY:BS:=⟨[.val .str],[⟨2,false,(.slice .str)⟩,⟨3,false,.bool⟩],(.seq (.region [.mv 2 (.c (.nil)),.mv 3 (.c (.bool false))] [0]) (.seq (.seq (.region [.m 8 0,.len 9 true (.t 8),.bin 10 .gtr (.t 9) (.i 600)] [0,10]) (.cond (.t 10) (.seq (.region [.mv 2 (.c (.nil)),.mv 3 (.c (.bool false))] [2,3]) .ret) .skip)) (.seq (.seq (.region [.mv 4 (.i 0)] [0,4]) (.block 0 [0] (.loop [0,4] WD))) MZ)))⟩
theorem qQ:Ax Tryz.prog 76 BY=true:=by kernel_rfl
def G0:BS:=⟨[.val .str,.val .str],[⟨4,false,.bool⟩],(.seq (.region [.mv 4 (.c (.bool false))] [0,1]) (.seq (.region [.m 5 0,.m 6 1,.cl 7 [5,6] MI,.m 4 7] [4]) .ret))⟩
theorem ct:Ax Tryz.prog 77 G0=true:=by kernel_rfl
def PS:AI:=(.seq (.region [.m 19 1,.idx 20 1 (.t 19) (.i 1),.l 21 20,.cl 22 [21] r_,.m 18 22,.ext 23 (.t 18) 0,.ext 24 (.t 18) 1,.m 5 23,.m 6 24] [0,5,6]) (.seq (.region [.m 25 0,.m 26 0,.n 27 26,.f 28 27 0,.l 29 28,.m 30 5,.blst 31 (.slice (.int .i64)) [.t 30],.app 32 37 (.slice (.int .i64)) (.t 29) (.t 31),.n 33 25,.f 34 33 0,.store (.t 34) (.t 32) 1 false] [0,6]) (.seq (.region [.m 35 6,.m 36 35,.sc 36 true [.m 37 0,.n 38 37,.f 39 38 0,.l 40 39,.cl 41 [40] G_] 42 (.t 41) (.c (.bool false)),.m 4 42] [4]) .ret)))
def D_:BS:=⟨[.ptr MD,.val (.slice .str)],[⟨4,false,.bool⟩],(.seq (.region [.mv 4 (.c (.bool false))] [0,1]) (.seq (.seq (.region [.m 7 1,.len 8 false (.t 7),.bin 9 .neq (.t 8) (.i 2),.m 10 9,.sc 10 false [.m 11 0,.n 12 11,.f 13 12 1,.l 14 13,.len 15 false (.t 14),.bin 16 .gtr (.t 15) (.i 0)] 17 (.c (.bool true)) (.t 16)] [0,1,17]) (.cond (.t 17) (.seq (.region [.mv 4 (.c (.bool false))] [4]) .ret) .skip)) PS))⟩
theorem eW:Ax Tryz.prog 78 D_=true:=by kernel_rfl
def WE:AI:=(.cond (.t 36) (.region [.m 40 6,.f 41 8 1,.store (.t 41) (.i 1) 1 false,.f 42 8 2,.store (.t 42) (.t 40) 1 false] [2,7,8]) (.seq (.region [.bin 44 .eql (.t 35) (.i 1),.m 43 44] [0,2,5,7,8,43]) (.cond (.t 43) (.seq (.draw (Fd 7 [(3,[]),(5,[2,4])]) (.tk 4 [.f 48 8 3,.l 47 46,.idx 46 1 (.t 45) (.i 2),.m 45 0] (.only 4 none (.store (.t 48) (.i 2) 1 false) false [] (.tk 6 [.f 49 8 4] (.only 6 none (.store (.t 49) (.t 47) 1 false) false [] .done)))) [0,2,5,7,8]) (.seq (.region [.m 50 5,.bin 51 .eql (.t 50) (.i 4)] [0,2,7,8,51]) (.cond (.t 51) (.draw (Fd 7 [(3,[]),(5,[2,4])]) (.tk 4 [.f 55 8 3,.l 54 53,.idx 53 1 (.t 52) (.i 3),.m 52 0] (.only 4 none (.store (.t 55) (.i 1) 1 false) false [] (.tk 6 [.f 56 8 5] (.only 6 none (.store (.t 56) (.t 54) 1 false) false [] .done)))) [2,7,8]) .skip))) .skip)))
def WF:DT:=(.tk 6 [.pick 62 (.t 59) (.t 61) (.c (.bool false))] (.only 6 none (.store (.t 2) (.t 57) 6 false) false [] (.tk 8 [.m 3 62] .done)))
def OP:AI:=(.seq (.draw (Fd 8 [(1,[]),(6,[0,4]),(7,[5,6])]) (.tk 3 [.m 59 58,.m 58 7,.ls 57 8 6] (.test 59 (.tg 59 true 4 [.ls 60 8 6] (.only 4 (some (59,true)) (.cl 61 [60] Z9) false [] WF)) (.sk 59 true 2 5 62 WF))) [2,3]) .ret)
def Tm:AI:=(.seq (.region [.m 26 0,.idx 27 1 (.t 26) (.i 1),.l 28 27,.cl 29 [28] Rj,.m 25 29,.ext 30 (.t 25) 0,.ext 31 (.t 25) 1,.m 6 30,.m 7 31] [0,2,4,5,6,7]) (.seq (.region [.m 32 4,.m 33 6,.bu 34 AM [(0,1,.t 32),(1,1,.t 33)],.al 8 AM,.store (.t 8) (.t 34) 6 false] [0,2,4,5,6,7,8]) (.seq (.seq (.region [.m 35 4] [0,2,5,6,7,8,35]) (.block 0 [2,7,8] (.seqc [0,2,5,6,7,8,35,36] (.seq (.region [.bin 37 .eql (.t 35) (.i 2),.m 36 37] [0,2,5,6,7,8,35,36]) (.cond (.t 36) .skip (.seq (.region [.bin 38 .eql (.t 35) (.i 3),.m 36 38] [0,2,5,6,7,8,35,36]) (.cond (.t 36) .skip (.region [.bin 39 .eql (.t 35) (.i 4),.m 36 39] [0,2,5,6,7,8,35,36]))))) WE))) OP)))
def Cl:BS:=⟨[.val (.slice .str)],[⟨2,true,AM⟩,⟨3,false,.bool⟩],(.seq (.region [.al 2 AM,.mv 3 (.c (.bool false))] [0,2]) (.seq (.region [.m 10 0,.idx 11 1 (.t 10) (.i 0),.l 12 11,.cl 13 [12] sA,.m 9 13,.ext 14 (.t 9) 0,.ext 15 (.t 9) 1,.m 4 14,.m 5 15] [0,2,4,5]) (.seq (.seq (.region [.m 16 4,.bin 17 .eql (.t 16) (.i 0),.m 18 17,.sc 18 false [.m 19 0,.len 20 false (.t 19),.m 21 5,.b 22 .neq 20 21] 23 (.c (.bool true)) (.t 22)] [0,2,4,5,23]) (.cond (.t 23) (.seq (.region [.bu 24 AM [],.store (.t 2) (.t 24) 6 false,.mv 3 (.c (.bool false))] [2,3]) .ret) .skip)) Tm)))⟩
theorem qR:Ax Tryz.prog 79 Cl=true:=by kernel_rfl
def aI:AI:=(.seq (.seq (.region [.m 6 5,.m 7 0,.len 8 false (.t 7),.b 9 .lss 6 8] [0,1,5,9]) (.cond (.t 9) .skip (.exit 0))) (.seq (.block 1 [0,1,5] (.seq (.region [.m 12 0,.m 13 5,.idx 14 1 (.t 12) (.t 13),.l 15 14,.m 16 1,.b 17 .eql 15 16] [0,1,5,17]) (.cond (.t 17) (.seq (.region [.mv 4 (.c (.bool true))] [4]) .ret) .skip))) (.region [.m 10 5,.bin 11 .add (.t 10) (.i 1),.m 5 11] [0,1,5])))
def aJ:AI:=(.seq (.region [.mv 4 (.c (.bool false))] [4]) .ret)
def GT:BS:=⟨[.val (.slice (.int .i64)),.val (.int .i64)],[⟨4,false,.bool⟩],(.seq (.region [.mv 4 (.c (.bool false))] [0,1]) (.seq (.seq (.region [.mv 5 (.i 0)] [0,1,5]) (.block 0 [] (.loop [0,1,5] aI))) aJ))⟩
theorem uE:Ax Tryz.prog 86 GT=true:=by kernel_rfl
def KN:AI:=(.seq (.region [.b 9 .lss 8 7] [0,1,7,8,9]) (.seq (.cond (.t 9) .skip (.exit 0)) (.seq (.block 1 [0,1,7,8] (.seq (.region [.m 10 8,.m 5 10] [0,1,5,7,8]) (.seq (.region [.m 11 1,.m 12 0,.m 13 5,.idx 14 1 (.t 12) (.t 13),.l 15 14,.b 16 .eql 11 15] [0,1,5,7,8,16]) (.cond (.t 16) (.seq (.region [.m 17 5,.m 4 17] [4]) .ret) .skip)))) (.region [.bin 18 .add (.t 8) (.i 1),.m 8 18] [0,1,7,8]))))
def KO:AI:=(.seq (.region [.mv 4 (.c (.int .i64 (-1)))] [4]) .ret)
def Bq:BS:=⟨[.val (.slice (.int .i64)),.val (.int .i64)],[⟨4,false,(.int .i64)⟩],(.seq (.region [.mv 4 (.i 0)] [0,1]) (.seq (.seq (.region [.m 6 0,.len 7 false (.t 6),.mv 8 (.i 0)] [0,1,7,8]) (.block 0 [] (.loop [0,1,7,8] KN))) KO))⟩
theorem Xl:Ax Tryz.prog 87 Bq=true:=by kernel_rfl
def D0:BS:=⟨[.val (.slice (.int .i64)),.val (.int .i64)],[⟨4,false,.bool⟩],(.seq (.region [.mv 4 (.c (.bool false))] [0,1]) (.seq (.region [.m 5 0,.m 6 1,.cl 7 [5,6] MG,.bin 8 .geq (.t 7) (.i 0),.m 4 8] [4]) .ret))⟩
theorem S0:Ax Tryz.prog 89 D0=true:=by kernel_rfl
def RN:BS:=⟨[.val .str],[⟨2,false,.bool⟩],(.seq (.region [.mv 2 (.c (.bool false))] [0]) (.seq (.region [.m 3 0,.len 4 true (.t 3),.cx (some 5) [.t 4,.c (.int .i64 1),.c (.int .i64 12)] A_,.m 2 5] [2]) .ret))⟩
theorem uF:Ax Tryz.prog 90 RN=true:=by kernel_rfl
def aK:DT:=(.only 4 none (.store (.t 12) (.t 106) 16 false) false [] (.tk 8 [.mv 15 (.c (.bool true)),.mv 14 (.c (.nil)),.m 13 109] .done))
def aL:AI:=(.seq (.seq (.region [.m 100 18,.len 101 false (.t 100),.bin 102 .eql (.t 101) (.i 0)] [12,16,18,20,102]) (.cond (.t 102) (.seq (.region [.cl 103 [16] Rk,.m 21 103] [12,16,21]) (.seq (.region [.ls 104 16 16,.m 105 21,.store (.t 12) (.t 104) 16 false,.mv 13 (.c (.nil)),.m 14 105,.mv 15 (.c (.bool true))] [12,13,14,15]) .ret)) .skip)) (.seq (.draw (Fd 8 [(1,[]),(2,[]),(3,[1,2]),(4,[0,3])]) (.tk 3 [.ls 108 20 6,.m 107 18] (.fork 0 (.ls 106 16 16) (.only 3 none (.cl 109 [16,107,108] Bi) false [] aK) 3 (.cl 109 [16,107,108] Bi) (.tk 1 [.ls 106 16 16] aK))) [12,13,14,15]) .ret))
def YB:AI:=(.seq (.region [.m 71 1,.f 72 6 1,.l 73 72,.bin 74 .sub (.t 73) (.i 1),.idx 75 1 (.t 71) (.t 74),.l 76 75,.cl 77 [16,76] GR,.m 18 77] [2,3,12,16,17,18]) (.seq (.region [.m 78 18,.cl 79 [78] Cr,.m 19 79] [2,3,12,16,17,18,19]) (.seq (.region [.m 80 19,.cl 81 [80] Nl] [2,3,12,16,17,18,19]) (.seq (.region [.m 82 2,.m 83 3,.f 84 16 8,.l 85 84,.ls 86 17 3,.m 87 19,.bu 88 MC [(0,1,.t 82),(1,1,.t 83),(2,1,.t 85),(3,3,.t 86),(6,1,.t 87)],.f 89 16 9,.store (.t 89) (.t 88) 7 false] [2,12,16,17,18]) (.seq (.region [.f 90 16 8,.l 91 90,.bu 92 AJ [(0,1,.c (.int .i64 7)),(4,1,.t 91)],.al 20 AJ,.store (.t 20) (.t 92) 6 false] [2,12,16,17,18,20]) (.seqc [12,16,18,20] (.seq (.region [.m 93 2,.bin 94 .eql (.t 93) (.i 1)] [12,16,17,18,20,94]) (.cond (.t 94) (.region [.f 95 16 8,.l 96 95,.ls 97 17 3,.brow 98 45 AH [.t 97],.bu 99 AJ [(0,1,.c (.int .i64 5)),(4,1,.t 96),(5,1,.t 98)],.store (.t 20) (.t 99) 6 false] [12,16,18,20]) .skip)) aL))))))
def YC:AI:=(.seq (.region [.ls 39 6 16,.cl 40 [39] GQ,.al 16 Y,.store (.t 16) (.t 40) 16 false] [1,2,3,4,5,6,12,16]) (.seq (.region [.f 41 16 8,.l 42 41,.bin 43 .add (.t 42) (.i 1),.f 44 16 8,.store (.t 44) (.t 43) 1 false] [1,2,3,4,5,6,12,16]) (.seq (.region [.m 45 4,.m 46 5,.f 47 6 1,.l 48 47,.bin 49 .mul (.i 1000) (.t 48),.f 50 16 8,.l 51 50,.b 52 .add 49 51,.bu 53 AH [(0,1,.t 45),(1,1,.t 46),(2,1,.t 52)],.al 17 AH,.store (.t 17) (.t 53) 3 false] [1,2,3,4,6,12,16,17]) (.seq (.seq (.region [.m 54 2,.bin 55 .eql (.t 54) (.i 1),.m 56 55,.sc 56 true [.f 57 6 7,.l 58 57,.len 59 false (.t 58),.bin 60 .eql (.t 59) (.i 12)] 61 (.t 60) (.c (.bool false)),.m 62 61,.sc 62 true [.f 63 6 7,.l 64 63,.m 65 4,.cl 66 [64,65] dl,.bu 67 AH [],.eqs 68 false AH (.t 66) (.t 67)] 69 (.t 68) (.c (.bool false))] [1,2,3,6,12,16,17,69]) (.cond (.t 69) (.seq (.region [.bu 70 Y [],.store (.t 12) (.t 70) 16 false,.mv 13 (.c (.nil)),.mv 14 (.c (.nil)),.mv 15 (.c (.bool false))] [12,13,14,15]) .ret) .skip)) YB))))
def EN:BS:=⟨[.val Y,.val (.slice (.slice (.int .i64))),.val (.int .i64),.val (.int .i64),.val .str,.val .str],[⟨12,true,Y⟩,⟨13,false,(.slice AJ)⟩,⟨14,false,(.slice Ay)⟩,⟨15,false,.bool⟩],(.seq (.region [.box 6 (.t 0) false,.al 12 Y,.mv 13 (.c (.nil)),.mv 14 (.c (.nil)),.mv 15 (.c (.bool false))] [1,2,3,4,5,6,12]) (.seq (.seq (.region [.ls 22 6 16,.cl 23 [22] QA,.un 24 .not (.t 23),.m 25 24,.sc 25 false [.m 26 1,.cl 27 [6,26] Xk,.un 28 .not (.t 27)] 29 (.c (.bool true)) (.t 28),.m 30 29,.sc 30 false [.m 31 2,.m 32 3,.m 33 4,.m 34 5,.cl 35 [31,32,33,34] gx,.un 36 .not (.t 35)] 37 (.c (.bool true)) (.t 36)] [1,2,3,4,5,6,12,37]) (.cond (.t 37) (.seq (.region [.bu 38 Y [],.store (.t 12) (.t 38) 16 false,.mv 13 (.c (.nil)),.mv 14 (.c (.nil)),.mv 15 (.c (.bool false))] [12,13,14,15]) .ret) .skip)) YC))⟩
theorem uG:Ax Tryz.prog 91 EN=true:=by kernel_rfl
def Qm:AI:=(.seq (.draw (Fd 8 [(4,[]),(6,[3,5])]) (.tk 8 [.m 10 54,.idx 54 9 (.t 51) (.t 53),.l 53 52,.f 52 9 0,.l 51 50,.f 50 49 3,.n 49 48,.m 48 0] .done) [0,3,9,10,20,21,22]) (.seq (.draw (Fd 24 [(1,[]),(2,[]),(3,[]),(4,[]),(5,[]),(8,[]),(10,[]),(12,[0,4]),(15,[1,7,14]),(18,[2,9,17]),(21,[3,11,20])]) (.tk 14 [.f 68 67 4,.n 67 55,.l 66 65,.f 65 9 2,.l 64 63,.f 63 9 1,.l 62 61,.f 61 60 2,.f 60 9 3,.m 59 3,.m 58 10,.m 57 10,.m 56 10,.m 55 10] (.only 14 none (.store (.t 68) (.t 59) 1 false) false [] (.tk 17 [.f 70 69 5,.n 69 56] (.only 17 none (.store (.t 70) (.t 62) 1 false) false [] (.tk 20 [.f 72 71 6,.n 71 57] (.only 20 none (.store (.t 72) (.t 64) 1 false) false [] (.tk 23 [.f 74 73 7,.n 73 58] (.only 23 none (.store (.t 74) (.t 66) 1 false) false [] .done)))))))) [0,3,9,10,20,21,22]) (.seq (.region [.m 75 10,.n 76 75,.f 77 76 0,.l 78 77,.bin 79 .eql (.t 78) (.i 2)] [0,3,9,10,20,21,22,79]) (.cond (.t 79) (.region [.m 80 10,.f 81 9 3,.f 82 81 1,.l 83 82,.n 84 80,.f 85 84 8,.store (.t 85) (.t 83) 1 false] [0,3,20,21,22]) .skip))))
def Qn:AI:=(.region [.bin 86 .add (.t 22) (.i 1),.m 22 86] [0,3,20,21,22])
def Qo:AI:=(.seq (.region [.b 23 .lss 22 21] [0,3,20,21,22,23]) (.seq (.cond (.t 23) .skip (.exit 0)) (.seq (.block 1 [0,3,20,21,22] (.seq (.region [.idx 24 6 (.t 20) (.t 22),.ls 25 24 6,.al 9 Ay,.store (.t 9) (.t 25) 6 false] [0,3,9,20,21,22]) (.seq (.seq (.draw (Fd 22 [(2,[]),(8,[1,7]),(15,[10]),(17,[14,16])]) (.tk 8 [.bin 33 .sub (.t 32) (.i 1),.len 32 false (.t 31),.l 31 30,.f 30 29 3,.n 29 28,.m 28 0,.l 27 26,.f 26 9 0] (.only 8 none (.cx (some 34) [.t 27,.c (.int .i64 0),.t 33] A_) false [] (.tk 11 [.m 36 35,.un 35 .not (.t 34)] (.test 36 (.sk 36 false 10 21 47 (.tk 22 [.pick 47 (.t 36) (.c (.bool true)) (.t 46)] .done)) (.tg 36 false 21 [.bin 46 .neq (.t 45) (.c (.int .i64 (-1))),.l 45 44,.f 44 43 4,.idx 43 9 (.t 40) (.t 42),.l 42 41,.f 41 9 0,.l 40 39,.f 39 38 3,.n 38 37,.m 37 0] (.tk 22 [.pick 47 (.t 36) (.c (.bool true)) (.t 46)] .done)))))) [0,3,9,20,21,22,47]) (.cond (.t 47) (.exit 1) .skip)) Qm))) Qn)))
def Cb:BS:=⟨[.ptr Af,.val (.slice AJ),.val (.slice Ay),.val (.int .i64)],[],(.seq (.region [.m 11 0,.m 12 0,.n 13 12,.f 14 13 2,.l 15 14,.m 16 1,.app 17 112 AJ (.t 15) (.t 16),.n 18 11,.f 19 18 2,.store (.t 19) (.t 17) 1 false] [0,2,3]) (.seq (.region [.m 20 2,.len 21 false (.t 20),.mv 22 (.i 0)] [0,3,20,21,22]) (.block 0 [] (.loop [0,3,20,21,22] Qo))))⟩
theorem hO:Ax Tryz.prog 92 Cb=true:=by kernel_rfl
def aM:DT:=(.sk 33 false 10 32 44 (.tk 33 [.pick 44 (.t 33) (.c (.bool true)) (.t 43)] .done))
def YD:DT:=(.sk 27 false 4 20 32 (.tk 22 [.m 33 32,.pick 32 (.t 27) (.c (.bool true)) (.t 31)] aM))
def YE:DT:=(.sk 20 false 5 14 26 (.tk 16 [.m 27 26,.pick 26 (.t 20) (.c (.bool true)) (.t 25)] YD))
def YF:DT:=(.only 9 none (.store (.t 6) (.t 74) 16 false) false [] (.tk 12 [.mv 8 (.c (.bool true)),.m 7 82] .done))
def YG:DT:=(.only 8 none (.cl 82 [9,80,81] Bi) false [] YF)
def YH:AI:=(.seq (.region [.cl 57 [9] MJ] [1,2,6,9,10]) (.seq (.region [.m 58 2,.f 59 9 1,.store (.t 59) (.t 58) 1 false,.f 60 9 2,.store (.t 60) (.c (.bool false)) 1 false,.f 61 9 3,.store (.t 61) (.c (.bool false)) 1 false,.f 62 9 4,.store (.t 62) (.c (.bool true)) 1 false] [1,2,6,9,10]) (.seq (.seq (.region [.m 63 10] [1,2,6,9,63]) (.cond (.t 63) (.seq (.draw (Fd 9 [(1,[]),(3,[0,2]),(5,[]),(7,[4,6])]) (.tk 7 [.l 70 69,.f 69 9 7,.l 68 67,.idx 67 1 (.t 64) (.t 66),.bin 66 .sub (.t 65) (.i 1),.m 65 2,.m 64 1] (.only 7 none (.cl 71 [9,68,70] MK) false [] (.tk 9 [.m 11 71] .done))) [6,9,11]) (.seq (.region [.ls 72 9 16,.m 73 11,.store (.t 6) (.t 72) 16 false,.m 7 73,.mv 8 (.c (.bool true))] [6,7,8]) .ret)) .skip)) (.seq (.draw (Fd 12 [(1,[]),(2,[]),(4,[1,3]),(7,[]),(8,[6,7]),(9,[0,8])]) (.tk 6 [.l 79 78,.idx 78 1 (.t 75) (.t 77),.bin 77 .sub (.t 76) (.i 2),.m 76 2,.m 75 1] (.tk 8 [.bu 81 AJ [(0,1,.c (.int .i64 1))]] (.fork 0 (.ls 74 9 16) (.only 6 none (.cl 80 [9,79] GR) false [] YG) 6 (.cl 80 [9,79] GR) (.fork 0 (.ls 74 9 16) YG 8 (.cl 82 [9,80,81] Bi) (.tk 1 [.ls 74 9 16] YF))))) [6,7,8]) .ret))))
def YI:AI:=(.seq (.region [.ls 46 3 16,.cl 47 [46] GQ,.al 9 Y,.store (.t 9) (.t 47) 16 false] [1,2,3,6,9]) (.seq (.region [.f 48 3 3,.l 49 48,.m 50 49,.sc 50 true [.f 51 3 1,.l 52 51,.m 53 2,.bin 54 .sub (.t 53) (.i 1),.b 55 .eql 52 54] 56 (.t 55) (.c (.bool false)),.m 10 56] [1,2,6,9,10]) YH))
def GU:BS:=⟨[.val Y,.val (.slice (.slice (.int .i64))),.val (.int .i64)],[⟨6,true,Y⟩,⟨7,false,(.slice AJ)⟩,⟨8,false,.bool⟩],(.seq (.region [.box 3 (.t 0) false,.al 6 Y,.mv 7 (.c (.nil)),.mv 8 (.c (.bool false))] [1,2,3,6]) (.seq (.seq (.draw (Fd 33 [(10,[8]),(12,[9,11]),(17,[15]),(19,[16,18]),(23,[21]),(25,[22,24]),(29,[21]),(31,[28,30])]) (.tk 1 [.ls 12 3 16] (.only 1 none (.cl 13 [12] QA) false [] (.tk 4 [.m 15 14,.un 14 .not (.t 13)] (.test 15 (.sk 15 false 3 7 19 (.tk 9 [.m 20 19,.pick 19 (.t 15) (.c (.bool true)) (.t 18)] YE)) (.tg 15 false 5 [.m 16 1] (.only 5 (some (15,false)) (.cl 17 [16] G_) false [] (.tg 15 false 7 [.un 18 .not (.t 17)] (.tk 9 [.m 20 19,.pick 19 (.t 15) (.c (.bool true)) (.t 18)] (.test 20 YE (.tg 20 false 12 [.len 23 false (.t 22),.m 22 1,.m 21 2] (.only 12 (some (20,false)) (.cx (some 24) [.t 21,.c (.int .i64 2),.t 23] A_) false [] (.tg 20 false 14 [.un 25 .not (.t 24)] (.tk 16 [.m 27 26,.pick 26 (.t 20) (.c (.bool true)) (.t 25)] (.test 27 YD (.tg 27 false 20 [.b 31 .leq 28 30,.l 30 29,.f 29 3 1,.m 28 2] (.tk 22 [.m 33 32,.pick 32 (.t 27) (.c (.bool true)) (.t 31)] (.test 33 aM (.tg 33 false 32 [.b 43 .neq 40 42,.l 42 41,.f 41 3 0,.l 40 39,.idx 39 1 (.t 38) (.i 0),.l 38 37,.idx 37 1 (.t 34) (.t 36),.bin 36 .sub (.t 35) (.i 1),.m 35 2,.m 34 1] (.tk 33 [.pick 44 (.t 33) (.c (.bool true)) (.t 43)] .done))))))))))))))))))) [1,2,3,6,44]) (.cond (.t 44) (.seq (.region [.bu 45 Y [],.store (.t 6) (.t 45) 16 false,.mv 7 (.c (.nil)),.mv 8 (.c (.bool false))] [6,7,8]) .ret) .skip)) YI))⟩
theorem uH:Ax Tryz.prog 93 GU=true:=by kernel_rfl
def DO:AI:=(.seq (.region [.b 9 .lss 8 7] [0,1,7,8,9]) (.seq (.cond (.t 9) .skip (.exit 0)) (.seq (.block 1 [0,1,7,8] (.seq (.region [.m 10 8,.m 5 10] [0,1,5,7,8]) (.seq (.region [.m 11 1,.m 12 0,.m 13 5,.idx 14 16 (.t 12) (.t 13),.ls 15 14 16,.call (some 16) 95 [(.t 15,.bor Y),(.t 11,.cap 95 (.int .i64))] [.bool]] [0,1,5,7,8,16]) (.cond (.t 16) (.seq (.region [.m 17 5,.m 4 17] [4]) .ret) .skip)))) (.region [.bin 18 .add (.t 8) (.i 1),.m 8 18] [0,1,7,8]))))
def DP:AI:=(.seq (.region [.mv 4 (.c (.int .i64 (-1)))] [4]) .ret)
def AY:BS:=⟨[.val (.slice Y),.val (.clo 95 (.int .i64))],[⟨4,false,(.int .i64)⟩],(.seq (.region [.mv 4 (.i 0)] [0,1]) (.seq (.seq (.region [.m 6 0,.len 7 false (.t 6),.mv 8 (.i 0)] [0,1,7,8]) (.block 0 [] (.loop [0,1,7,8] DO))) DP))⟩
theorem Hq:Ax Tryz.prog 94 AY=true:=by kernel_rfl
def Fw:BS:=⟨[.val Y,.val (.int .i64)],[⟨3,false,.bool⟩],(.seq (.region [.box 2 (.t 0) false,.mv 3 (.c (.bool false))] [1,2]) (.seq (.region [.f 4 2 0,.l 5 4,.l 6 1,.b 7 .eql 5 6,.m 3 7] [3]) .ret))⟩
theorem ZU:Ax Tryz.prog 95 Fw=true:=by kernel_rfl
def GV:BS:=⟨[.ptr Af,.val (.int .i64),.val (.int .i64)],[],(.seq (.region [.m 11 0,.n 12 11,.f 13 12 2,.l 14 13,.m 15 1,.idx 16 6 (.t 14) (.t 15),.ls 17 16 6,.al 6 AJ,.store (.t 6) (.t 17) 6 false] [0,1,2,6]) (.seq (.region [.m 18 0,.m 19 0,.n 20 19,.f 21 20 2,.l 22 21,.m 23 1,.m 24 1,.bin 25 .add (.t 24) (.i 1),.cl 26 [22,23,25] F9,.n 27 18,.f 28 27 2,.store (.t 28) (.t 26) 1 false] [0,2,6]) (.seq (.region [.m 29 0,.f 30 6 2,.l 31 30,.cl 32 [29,31] Gy,.m 7 32] [0,2,6,7]) (.seq (.region [.m 33 7,.bin 34 .geq (.t 33) (.i 0)] [0,2,6,7,34]) (.cond (.t 34) (.seq (.draw (Fd 21 [(4,[]),(5,[3,4]),(7,[]),(11,[]),(12,[6,10,11]),(15,[13]),(16,[13]),(17,[]),(18,[14,17]),(19,[15,18]),(20,[16,19])]) (.tk 12 [.ls 47 6 6,.l 46 45,.f 45 44 0,.n 44 43,.m 43 0,.ls 42 41 16,.idx 41 16 (.t 39) (.t 40),.m 40 7,.l 39 38,.f 38 37 1,.n 37 36,.m 36 0] (.only 12 none (.cl 48 [42,46,47] qB) false [(17,.al 8 Y)] (.tk 17 [.ext 51 (.t 35) 2,.ext 50 (.t 35) 1,.ext 49 (.t 35) 0,.m 35 48] (.only 17 none (.al 8 Y) true [] (.only 18 none (.store (.t 8) (.t 49) 16 false) false [] (.tk 21 [.m 10 51,.m 9 50] .done)))))) [0,2,7,8,9,10]) (.seq (.draw (Fd 8 [(4,[]),(5,[]),(6,[3,4,5])]) (.tk 7 [.idx 58 16 (.t 55) (.t 56),.ls 57 8 16,.m 56 7,.l 55 54,.f 54 53 1,.n 53 52,.m 52 0] (.only 7 none (.store (.t 58) (.t 57) 16 false) false [] .done)) [0,2,9,10]) (.region [.m 59 0,.m 60 9,.m 61 10,.m 62 2,.cl 63 [59,60,61,62] MH] []))) .skip)))))⟩
theorem aN:Ax Tryz.prog 96 GV=true:=by kernel_rfl

def aO:DT:=(.sk 88 false 11 75 100 (.tk 76 [.pick 100 (.t 88) (.c (.bool true)) (.t 99)] .done))
def YJ:DT:=(.sk 81 false 5 62 87 (.tk 64 [.m 88 87,.pick 87 (.t 81) (.c (.bool true)) (.t 86)] aO))
def YK:DT:=(.sk 73 false 3 52 77 (.sk 76 true 2 54 79 (.sk 73 false 1 55 80 (.tk 57 [.m 81 80,.pick 80 (.t 73) (.c (.bool true)) (.t 79)] YJ))))
def YL:DT:=(.sk 68 false 3 47 72 (.tk 49 [.m 73 72,.pick 72 (.t 68) (.c (.bool true)) (.t 71)] YK))
def YM:DT:=(.sk 62 false 4 42 67 (.tk 44 [.m 68 67,.pick 67 (.t 62) (.c (.bool true)) (.t 66)] YL))
def YN:DT:=(.sk 57 false 3 36 61 (.tk 38 [.m 62 61,.pick 61 (.t 57) (.c (.bool true)) (.t 60)] YM))
def YO:DT:=(.sk 49 false 3 28 53 (.sk 52 true 2 30 55 (.sk 49 false 1 31 56 (.tk 33 [.m 57 56,.pick 56 (.t 49) (.c (.bool true)) (.t 55)] YN))))
def YP:DT:=(.sk 44 false 3 23 48 (.tk 25 [.m 49 48,.pick 48 (.t 44) (.c (.bool true)) (.t 47)] YO))
def YQ:DT:=(.sk 38 false 4 18 43 (.tk 20 [.m 44 43,.pick 43 (.t 38) (.c (.bool true)) (.t 42)] YP))
def YR:DT:=(.sk 33 false 3 12 37 (.tk 14 [.m 38 37,.pick 37 (.t 33) (.c (.bool true)) (.t 36)] YQ))
def YS:DT:=(.tg 81 false 62 [.b 86 .gtr 83 85,.len 85 false (.t 84),.m 84 1,.l 83 82,.f 82 6 1] (.tk 64 [.m 88 87,.pick 87 (.t 81) (.c (.bool true)) (.t 86)] (.test 88 aO (.tg 88 false 75 [.b 99 .neq 96 98,.l 98 97,.f 97 6 0,.l 96 95,.idx 95 1 (.t 94) (.i 0),.l 94 93,.idx 93 1 (.t 89) (.t 92),.bin 92 .sub (.t 91) (.i 1),.l 91 90,.f 90 6 1,.m 89 1] (.tk 76 [.pick 100 (.t 88) (.c (.bool true)) (.t 99)] .done)))))
def WG:DT:=(.tg 57 false 34 [.m 58 3] (.only 34 (some (57,false)) (.cx (some 59) [.t 58,.c (.int .i64 0),.c (.int .i64 1000)] Az) false [] (.tg 57 false 36 [.un 60 .not (.t 59)] (.tk 38 [.m 62 61,.pick 61 (.t 57) (.c (.bool true)) (.t 60)] (.test 62 YM (.tg 62 false 40 [.len 64 true (.t 63),.m 63 4] (.only 40 (some (62,false)) (.cx (some 65) [.t 64,.c (.int .i64 1),.c (.int .i64 12)] Az) false [] (.tg 62 false 42 [.un 66 .not (.t 65)] (.tk 44 [.m 68 67,.pick 67 (.t 62) (.c (.bool true)) (.t 66)] (.test 68 YL (.tg 68 false 47 [.bin 71 .gtr (.t 70) (.i 20),.len 70 true (.t 69),.m 69 5] (.tk 49 [.m 73 72,.pick 72 (.t 68) (.c (.bool true)) (.t 71)] (.test 73 YK (.tg 73 false 52 [.m 76 75,.bin 75 .eql (.t 74) (.i 2),.m 74 2] (.test 76 (.tg 76 true 54 [.bin 78 .neq (.t 77) (.c (.str ⟨#[]⟩)),.m 77 5] (.tg 73 false 55 [.pick 79 (.t 76) (.t 78) (.c (.bool false))] (.tk 57 [.m 81 80,.pick 80 (.t 73) (.c (.bool true)) (.t 79)] (.test 81 YJ YS)))) (.sk 76 true 2 54 79 (.tg 73 false 55 [.pick 79 (.t 76) (.t 78) (.c (.bool false))] (.tk 57 [.m 81 80,.pick 80 (.t 73) (.c (.bool true)) (.t 79)] YS))))))))))))))))))
def OQ:AI:=(.seq (.seq (.region [.m 160 21,.m 161 20,.len 162 false (.t 161),.b 163 .lss 160 162] [2,6,12,16,17,18,19,20,21,163]) (.cond (.t 163) .skip (.exit 0))) (.seq (.block 1 [2,6,12,16,17,18,19,20,21] (.seq (.seq (.draw (Fd 7 [(1,[]),(2,[0,1]),(4,[]),(6,[3,5])]) (.tk 7 [.b 172 .eql 169 171,.l 171 170,.f 170 6 0,.l 169 168,.idx 168 1 (.t 166) (.t 167),.m 167 21,.m 166 20] .done) [2,6,12,16,17,18,19,20,21,172]) (.cond (.t 172) (.exit 1) .skip)) (.seq (.draw (Fd 13 [(2,[]),(3,[]),(4,[2,3]),(6,[]),(8,[]),(10,[1,5,7,9]),(11,[]),(12,[10,11])]) (.tk 11 [.bu 183 AJ [(0,1,.c (.int .i64 7)),(1,1,.t 174),(2,1,.t 178),(3,1,.t 180),(4,1,.t 182)],.l 182 181,.f 181 18 8,.l 180 179,.f 179 6 1,.l 178 177,.idx 177 1 (.t 175) (.t 176),.m 176 21,.m 175 20,.l 174 173,.f 173 6 0] (.only 11 none (.al 22 AJ) false [] (.only 12 none (.store (.t 22) (.t 183) 6 false) false [] .done))) [2,6,12,16,17,18,19,20,21,22]) (.seqc [2,6,12,16,17,18,19,20,21,22] (.seq (.region [.m 184 2,.bin 185 .eql (.t 184) (.i 1)] [2,6,12,16,17,18,19,20,21,22,185]) (.cond (.t 185) (.seq (.region [.f 186 22 0,.store (.t 186) (.i 5) 1 false] [2,6,12,16,17,18,19,20,21,22]) (.region [.ls 187 19 3,.brow 188 45 AH [.t 187],.f 189 22 5,.store (.t 189) (.t 188) 1 false] [2,6,12,16,17,18,19,20,21,22])) .skip)) (.region [.m 190 16,.ls 191 22 6,.blst 192 AJ [.t 191],.app 193 112 AJ (.t 190) (.t 192),.m 16 193] [2,6,12,16,17,18,19,20,21]))))) (.region [.m 164 21,.bin 165 .add (.t 164) (.i 1),.m 21 165] [2,6,12,16,17,18,19,20,21])))
def WH:AI:=(.seq (.region [.ls 194 18 16,.m 195 16,.m 196 17,.store (.t 12) (.t 194) 16 false,.m 13 195,.m 14 196,.mv 15 (.c (.bool true))] [12,13,14,15]) .ret)
def OR:AI:=(.seq (.region [.m 134 1,.f 135 6 1,.l 136 135,.bin 137 .sub (.t 136) (.i 1),.idx 138 1 (.t 134) (.t 137),.l 139 138,.m 20 139] [2,3,6,12,16,17,18,19,20]) (.seq (.draw (Fd 12 [(1,[]),(2,[]),(4,[]),(5,[]),(6,[]),(8,[5,7]),(9,[0,1,3,4,8])]) (.tk 8 [.l 147 146,.f 146 6 0,.m 145 20,.ls 144 19 3,.l 143 142,.f 142 18 8,.m 141 3,.m 140 2] (.only 8 none (.cl 148 [145,147] Vs) false [] (.tk 11 [.f 150 18 9,.bu 149 MC [(0,1,.t 140),(1,1,.t 141),(2,1,.t 143),(3,3,.t 144),(6,1,.t 148)]] (.only 11 none (.store (.t 150) (.t 149) 7 false) false [] .done)))) [2,6,12,16,17,18,19,20]) (.seq (.seq (.region [.f 151 18 9,.f 152 151 6,.l 153 152,.len 154 false (.t 153),.bin 155 .eql (.t 154) (.i 0)] [2,6,12,16,17,18,19,20,155]) (.cond (.t 155) (.seq (.region [.cl 156 [18] Vt,.m 17 156] [12,16,17,18]) (.seq (.region [.ls 157 18 16,.m 158 16,.m 159 17,.store (.t 12) (.t 157) 16 false,.m 13 158,.m 14 159,.mv 15 (.c (.bool true))] [12,13,14,15]) .ret)) .skip)) (.seq (.seq (.region [.mv 21 (.i 0)] [2,6,12,16,17,18,19,20,21]) (.block 0 [12,16,17,18] (.loop [2,6,12,16,17,18,19,20,21] OQ))) WH))))
def WI:AI:=(.seq (.region [.ls 104 6 16,.cl 105 [104] HA,.al 18 Y,.store (.t 18) (.t 105) 16 false] [1,2,3,4,5,6,12,16,17,18]) (.seq (.region [.f 106 6 8,.l 107 106,.bin 108 .add (.t 107) (.i 1),.f 109 18 8,.store (.t 109) (.t 108) 1 false] [1,2,3,4,5,6,12,16,17,18]) (.seq (.region [.m 110 4,.m 111 5,.f 112 6 1,.l 113 112,.bin 114 .mul (.i 1000) (.t 113),.f 115 18 8,.l 116 115,.b 117 .add 114 116,.bu 118 AH [(0,1,.t 110),(1,1,.t 111),(2,1,.t 117)],.al 19 AH,.store (.t 19) (.t 118) 3 false] [1,2,3,4,6,12,16,17,18,19]) (.seq (.seq (.draw (Fd 12 [(5,[2]),(6,[4,5]),(7,[2]),(8,[6,7]),(9,[2]),(10,[8,9])]) (.tk 3 [.m 121 120,.bin 120 .eql (.t 119) (.i 1),.m 119 2] (.test 121 (.tg 121 true 6 [.ls 124 19 3,.l 123 122,.f 122 6 7] (.tg 121 true 8 [.m 126 4] (.tg 121 true 10 [.ls 128 19 3] (.only 6 (some (121,true)) (.cl 125 [123,124] Rl) false [] (.only 8 (some (121,true)) (.cl 127 [125,126] dn) false [] (.tg 121 true 11 [.eqs 129 true AH (.t 127) (.t 128)] (.tk 12 [.pick 130 (.t 121) (.t 129) (.c (.bool false))] .done))))))) (.sk 121 true 8 11 130 (.tk 12 [.pick 130 (.t 121) (.t 129) (.c (.bool false))] .done)))) [1,2,3,6,12,16,17,18,19,130]) (.cond (.t 130) (.seq (.region [.bu 131 Y [],.m 132 16,.m 133 17,.store (.t 12) (.t 131) 16 false,.m 13 132,.m 14 133,.mv 15 (.c (.bool false))] [12,13,14,15]) .ret) .skip)) OR))))
def B7:BS:=⟨[.val Y,.val (.slice (.slice (.int .i64))),.val (.int .i64),.val (.int .i64),.val .str,.val .str],[⟨12,true,Y⟩,⟨13,false,(.slice AJ)⟩,⟨14,false,(.slice Ay)⟩,⟨15,false,.bool⟩],(.seq (.region [.box 6 (.t 0) false,.al 12 Y,.mv 13 (.c (.nil)),.mv 14 (.c (.nil)),.mv 15 (.c (.bool false))] [1,2,3,4,5,6,12]) (.seq (.region [.brow 23 112 AJ [],.m 16 23] [1,2,3,4,5,6,12,16]) (.seq (.region [.blst 24 Ay [],.m 17 24] [1,2,3,4,5,6,12,16,17]) (.seq (.seq (.draw (Fd 76 [(59,[56]),(61,[58,60]),(65,[63]),(68,[64,67]),(72,[63]),(74,[71,73])]) (.tk 1 [.ls 25 6 16] (.only 1 none (.cl 26 [25] QB) false [] (.tk 4 [.m 28 27,.un 27 .not (.t 26)] (.test 28 (.sk 28 false 3 7 32 (.tk 9 [.m 33 32,.pick 32 (.t 28) (.c (.bool true)) (.t 31)] YR)) (.tg 28 false 5 [.m 29 1] (.only 5 (some (28,false)) (.cl 30 [29] G9) false [] (.tg 28 false 7 [.un 31 .not (.t 30)] (.tk 9 [.m 33 32,.pick 32 (.t 28) (.c (.bool true)) (.t 31)] (.test 33 YR (.tg 33 false 12 [.un 36 .not (.t 35),.l 35 34,.f 34 6 5] (.tk 14 [.m 38 37,.pick 37 (.t 33) (.c (.bool true)) (.t 36)] (.test 38 YQ (.tg 38 false 18 [.bin 42 .neq (.t 41) (.i 0),.l 41 40,.f 40 39 0,.f 39 6 9] (.tk 20 [.m 44 43,.pick 43 (.t 38) (.c (.bool true)) (.t 42)] (.test 44 YP (.tg 44 false 23 [.bin 47 .geq (.t 46) (.i 900),.l 46 45,.f 45 6 8] (.tk 25 [.m 49 48,.pick 48 (.t 44) (.c (.bool true)) (.t 47)] (.test 49 YO (.tg 49 false 28 [.m 52 51,.bin 51 .neq (.t 50) (.i 1),.m 50 2] (.test 52 (.tg 52 true 30 [.bin 54 .neq (.t 53) (.i 2),.m 53 2] (.tg 49 false 31 [.pick 55 (.t 52) (.t 54) (.c (.bool false))] (.tk 33 [.m 57 56,.pick 56 (.t 49) (.c (.bool true)) (.t 55)] (.test 57 YN WG)))) (.sk 52 true 2 30 55 (.tg 49 false 31 [.pick 55 (.t 52) (.t 54) (.c (.bool false))] (.tk 33 [.m 57 56,.pick 56 (.t 49) (.c (.bool true)) (.t 55)] WG))))))))))))))))))))))) [1,2,3,4,5,6,12,16,17,100]) (.cond (.t 100) (.seq (.region [.bu 101 Y [],.m 102 16,.m 103 17,.store (.t 12) (.t 101) 16 false,.m 13 102,.m 14 103,.mv 15 (.c (.bool false))] [12,13,14,15]) .ret) .skip)) WI))))⟩
theorem uI:Ax Tryz.prog 99 B7=true:=by kernel_rfl
def aP:DT:=(.sk 37 false 10 32 48 (.tk 33 [.pick 48 (.t 37) (.c (.bool true)) (.t 47)] .done))
def YT:DT:=(.sk 31 false 4 20 36 (.tk 22 [.m 37 36,.pick 36 (.t 31) (.c (.bool true)) (.t 35)] aP))
def YU:DT:=(.sk 24 false 5 14 30 (.tk 16 [.m 31 30,.pick 30 (.t 24) (.c (.bool true)) (.t 29)] YT))
def YV:DT:=(.sk 60 true 8 18 69 (.tk 20 [.m 10 69,.pick 69 (.t 60) (.t 68) (.c (.bool false))] .done))
def YW:AI:=(.seq (.seq (.region [.m 90 13,.m 91 1,.m 92 2,.bin 93 .sub (.t 92) (.i 2),.idx 94 1 (.t 91) (.t 93),.l 95 94,.len 96 false (.t 95),.b 97 .lss 90 96] [1,2,3,6,9,11,13,97]) (.cond (.t 97) .skip (.exit 0))) (.seq (.block 1 [1,2,3,6,9,11,13] (.seq (.region [.m 100 1,.m 101 2,.bin 102 .sub (.t 101) (.i 2),.idx 103 1 (.t 100) (.t 102),.l 104 103,.m 105 13,.idx 106 1 (.t 104) (.t 105),.l 107 106,.m 14 107] [1,2,3,6,9,11,13,14]) (.seq (.region [.m 108 14,.f 109 3 0,.l 110 109,.b 111 .neq 108 110] [1,2,3,6,9,11,13,14,111]) (.cond (.t 111) (.region [.m 112 9,.f 113 3 0,.l 114 113,.m 115 14,.m 116 2,.bu 117 AJ [(0,1,.c (.int .i64 1)),(1,1,.t 114),(2,1,.t 115),(3,1,.t 116)],.blst 118 AJ [.t 117],.app 119 112 AJ (.t 112) (.t 118),.m 9 119] [1,2,3,6,9,11,13]) .skip)))) (.region [.m 98 13,.bin 99 .add (.t 98) (.i 1),.m 13 99] [1,2,3,6,9,11,13])))
def YX:AI:=(.seq (.region [.ls 120 11 16,.cl 121 [120] HA,.m 122 9,.store (.t 6) (.t 121) 16 false,.m 7 122,.mv 8 (.c (.bool true))] [6,7,8]) .ret)
def YY:AI:=(.seq (.draw (Fd 10 [(2,[]),(3,[]),(4,[]),(6,[3,5]),(7,[1,2,6]),(8,[]),(9,[7,8])]) (.tk 3 [.m 72 2,.l 71 70,.f 70 3 0] (.tk 6 [.l 75 74,.f 74 3 7] (.only 3 none (.brow 73 45 AH []) false [(8,.al 11 Y)] (.only 6 none (.apz 76 45 AH (.t 73) (.t 75)) false [(8,.al 11 Y)] (.tk 8 [.bu 77 Y [(0,1,.t 71),(1,1,.t 72),(4,1,.c (.bool true)),(7,1,.t 76)]] (.only 8 none (.al 11 Y) true [] (.only 9 none (.store (.t 11) (.t 77) 16 false) false [] .done))))))) [1,2,3,6,9,10,11]) (.seq (.seq (.region [.m 78 10] [1,2,3,6,9,11,78]) (.cond (.t 78) (.seq (.draw (Fd 9 [(1,[]),(3,[0,2]),(5,[]),(7,[4,6])]) (.tk 7 [.l 85 84,.f 84 3 7,.l 83 82,.idx 82 1 (.t 79) (.t 81),.bin 81 .sub (.t 80) (.i 1),.m 80 2,.m 79 1] (.only 7 none (.cl 86 [11,83,85] dp) false [] (.tk 9 [.m 12 86] .done))) [6,11,12]) (.seq (.region [.ls 87 11 16,.cl 88 [87] HA,.m 89 12,.store (.t 6) (.t 88) 16 false,.m 7 89,.mv 8 (.c (.bool true))] [6,7,8]) .ret)) .skip)) (.seq (.seq (.region [.mv 13 (.i 0)] [1,2,3,6,9,11,13]) (.block 0 [6,9,11] (.loop [1,2,3,6,9,11,13] YW))) YX)))
def YZ:AI:=(.seq (.draw (Fd 20 [(5,[2]),(7,[4,6]),(11,[9]),(13,[10,12]),(15,[9]),(17,[14,16])]) (.tk 3 [.m 53 52,.l 52 51,.f 51 3 3] (.test 53 (.tg 53 true 8 [.b 58 .eql 55 57,.bin 57 .sub (.t 56) (.i 1),.m 56 2,.l 55 54,.f 54 3 1] (.tk 10 [.m 60 59,.pick 59 (.t 53) (.t 58) (.c (.bool false))] (.test 60 (.tg 60 true 17 [.l 67 66,.f 66 3 0,.l 65 64,.idx 64 1 (.t 61) (.t 63),.bin 63 .sub (.t 62) (.i 2),.m 62 2,.m 61 1] (.only 17 (some (60,true)) (.cl 68 [65,67] Hm) false [] (.tk 20 [.m 10 69,.pick 69 (.t 60) (.t 68) (.c (.bool false))] .done))) YV))) (.sk 53 true 5 8 59 (.tk 10 [.m 60 59,.pick 59 (.t 53) (.t 58) (.c (.bool false))] YV)))) [1,2,3,6,9,10]) YY)
def DG:BS:=⟨[.val Y,.val (.slice (.slice (.int .i64))),.val (.int .i64)],[⟨6,true,Y⟩,⟨7,false,(.slice AJ)⟩,⟨8,false,.bool⟩],(.seq (.region [.box 3 (.t 0) false,.al 6 Y,.mv 7 (.c (.nil)),.mv 8 (.c (.bool false))] [1,2,3,6]) (.seq (.region [.brow 15 112 AJ [],.m 9 15] [1,2,3,6,9]) (.seq (.seq (.draw (Fd 33 [(10,[8]),(12,[9,11]),(17,[15]),(19,[16,18]),(23,[21]),(25,[22,24]),(29,[21]),(31,[28,30])]) (.tk 1 [.ls 16 3 16] (.only 1 none (.cl 17 [16] QB) false [] (.tk 4 [.m 19 18,.un 18 .not (.t 17)] (.test 19 (.sk 19 false 3 7 23 (.tk 9 [.m 24 23,.pick 23 (.t 19) (.c (.bool true)) (.t 22)] YU)) (.tg 19 false 5 [.m 20 1] (.only 5 (some (19,false)) (.cl 21 [20] G9) false [] (.tg 19 false 7 [.un 22 .not (.t 21)] (.tk 9 [.m 24 23,.pick 23 (.t 19) (.c (.bool true)) (.t 22)] (.test 24 YU (.tg 24 false 12 [.len 27 false (.t 26),.m 26 1,.m 25 2] (.only 12 (some (24,false)) (.cx (some 28) [.t 25,.c (.int .i64 2),.t 27] Az) false [] (.tg 24 false 14 [.un 29 .not (.t 28)] (.tk 16 [.m 31 30,.pick 30 (.t 24) (.c (.bool true)) (.t 29)] (.test 31 YT (.tg 31 false 20 [.b 35 .leq 32 34,.l 34 33,.f 33 3 1,.m 32 2] (.tk 22 [.m 37 36,.pick 36 (.t 31) (.c (.bool true)) (.t 35)] (.test 37 aP (.tg 37 false 32 [.b 47 .neq 44 46,.l 46 45,.f 45 3 0,.l 44 43,.idx 43 1 (.t 42) (.i 0),.l 42 41,.idx 41 1 (.t 38) (.t 40),.bin 40 .sub (.t 39) (.i 1),.m 39 2,.m 38 1] (.tk 33 [.pick 48 (.t 37) (.c (.bool true)) (.t 47)] .done))))))))))))))))))) [1,2,3,6,9,48]) (.cond (.t 48) (.seq (.region [.bu 49 Y [],.m 50 9,.store (.t 6) (.t 49) 16 false,.m 7 50,.mv 8 (.c (.bool false))] [6,7,8]) .ret) .skip)) YZ)))⟩
theorem uJ:Ax Tryz.prog 100 DG=true:=by kernel_rfl
def WJ:DT:=(.sk 95 true 9 25 105 (.tk 26 [.pick 105 (.t 95) (.t 104) (.c (.bool false))] .done))
def Tn:DT:=(.sk 91 true 2 14 94 (.tk 16 [.m 95 94,.pick 94 (.t 91) (.t 93) (.c (.bool false))] WJ))
def To:AI:=(.cond (.t 105) (.seq (.region [.ls 106 3 16,.f 107 5 3,.l 108 107,.cl 109 [106,108] aB,.al 12 Y,.store (.t 12) (.t 109) 16 false] [3,5,6,11,12]) (.seq (.draw (Fd 17 [(1,[]),(3,[]),(5,[]),(7,[]),(8,[]),(10,[7,9]),(11,[2,4,6,10]),(13,[]),(14,[0,10]),(15,[12,14]),(16,[13,15])]) (.tk 7 [.l 116 115,.f 115 5 3,.l 114 113,.f 113 5 1,.l 112 111,.f 111 3 0,.ls 110 12 16] (.tk 10 [.l 119 118,.f 118 3 7] (.tk 14 [.m 123 11] (.only 7 none (.brow 117 45 AH []) false [] (.only 10 none (.apz 120 45 AH (.t 117) (.t 119)) false [] (.tk 12 [.bu 121 AJ [(0,1,.c (.int .i64 2)),(1,1,.t 112),(2,1,.t 114),(3,1,.t 116),(5,1,.t 120)]] (.only 14 none (.store (.t 6) (.t 110) 16 false) false [(12,.brow 122 112 AJ [.t 121])] (.only 12 none (.brow 122 112 AJ [.t 121]) true [] (.tk 17 [.m 8 123,.m 7 122] .done))))))))) [6,7,8]) .ret)) .skip)
def Tp:DT:=(.sk 139 true 6 16 146 (.tk 17 [.pick 146 (.t 139) (.t 145) (.c (.bool false))] .done))
def Tq:AI:=(.cond (.t 146) (.seq (.draw (Fd 11 [(2,[]),(4,[]),(5,[]),(7,[4,6]),(8,[1,3,7]),(9,[]),(10,[8,9])]) (.tk 4 [.l 150 149,.f 149 5 3,.l 148 147,.f 147 3 0] (.tk 7 [.l 153 152,.f 152 5 5] (.only 4 none (.brow 151 45 AH []) false [(9,.al 14 Y)] (.only 7 none (.apz 154 45 AH (.t 151) (.t 153)) false [(9,.al 14 Y)] (.tk 9 [.bu 155 Y [(0,1,.t 148),(1,1,.t 150),(3,1,.c (.bool true)),(7,1,.t 154)]] (.only 9 none (.al 14 Y) true [] (.only 10 none (.store (.t 14) (.t 155) 16 false) false [] .done))))))) [3,5,6,11,14]) (.seq (.draw (Fd 8 [(1,[]),(2,[]),(3,[1,2]),(4,[]),(5,[0,3]),(7,[4,6])]) (.tk 3 [.ls 158 5 6,.ls 157 3 16,.ls 156 14 16] (.tk 5 [.m 160 11] (.only 3 none (.cx (some 159) [.t 157,.t 158,.c (.int .i64 4)] Ke) false [] (.only 5 none (.store (.t 6) (.t 156) 16 false) false [] (.tk 8 [.m 8 160,.m 7 159] .done))))) [6,7,8]) .ret)) .skip)
def Tr:AI:=(.seq (.region [.ls 161 9 16,.m 162 10,.m 163 11,.store (.t 6) (.t 161) 16 false,.m 7 162,.m 8 163] [6,7,8]) .ret)
def Ma:AI:=(.seq (.region [.m 124 1,.f 125 5 3,.l 126 125,.bin 127 .sub (.t 126) (.i 1),.idx 128 1 (.t 124) (.t 127),.l 129 128,.m 13 129] [3,5,6,9,10,11,13]) (.seq (.seq (.draw (Fd 17 [(5,[3]),(7,[4,6]),(13,[9]),(15,[12,14])]) (.tk 4 [.m 133 132,.bin 132 .eql (.t 131) (.i 3),.l 131 130,.f 130 5 0] (.test 133 (.tg 133 true 7 [.l 136 135,.f 135 3 0,.m 134 13] (.only 7 (some (133,true)) (.cl 137 [134,136] Hm) false [] (.tk 10 [.m 139 138,.pick 138 (.t 133) (.t 137) (.c (.bool false))] (.test 139 (.tg 139 true 16 [.b 145 .neq 142 144,.l 144 143,.f 143 3 0,.l 142 141,.idx 141 1 (.t 140) (.i 0),.m 140 13] (.tk 17 [.pick 146 (.t 139) (.t 145) (.c (.bool false))] .done)) Tp)))) (.sk 133 true 4 8 138 (.tk 10 [.m 139 138,.pick 138 (.t 133) (.t 137) (.c (.bool false))] Tp)))) [3,5,6,9,10,11,146]) Tq) Tr))
def Ts:AI:=(.seq (.seq (.region [.f 63 5 3,.l 64 63,.f 65 3 1,.l 66 65,.b 67 .eql 64 66] [1,3,5,6,9,10,11,67]) (.cond (.t 67) (.seq (.draw (Fd 15 [(1,[]),(2,[]),(5,[1,4]),(7,[]),(8,[0,6,7]),(10,[8]),(11,[8]),(12,[9,10,11])]) (.tk 8 [.ls 75 5 6,.l 74 73,.idx 73 1 (.t 69) (.t 72),.bin 72 .sub (.t 71) (.i 1),.l 71 70,.f 70 3 1,.m 69 1,.ls 68 3 16] (.only 8 none (.cl 76 [68,74,75] sB) false [] (.tk 12 [.ext 79 (.t 76) 2,.ext 78 (.t 76) 1,.ext 77 (.t 76) 0] (.only 12 none (.store (.t 6) (.t 77) 16 false) false [] (.tk 15 [.m 8 79,.m 7 78] .done))))) [6,7,8]) .ret) .skip)) (.seq (.seq (.draw (Fd 26 [(6,[3]),(9,[5,8]),(17,[15]),(20,[16,19]),(22,[15]),(24,[21,23])]) (.tk 4 [.m 83 82,.bin 82 .eql (.t 81) (.i 1),.l 81 80,.f 80 5 0] (.test 83 (.tg 83 true 10 [.b 89 .eql 85 88,.bin 88 .add (.t 87) (.i 1),.l 87 86,.f 86 3 1,.l 85 84,.f 84 5 3] (.tk 12 [.m 91 90,.pick 90 (.t 83) (.t 89) (.c (.bool false))] (.test 91 (.tg 91 true 14 [.l 93 92,.f 92 3 3] (.tk 16 [.m 95 94,.pick 94 (.t 91) (.t 93) (.c (.bool false))] (.test 95 (.tg 95 true 24 [.l 103 102,.f 102 3 0,.l 101 100,.idx 100 1 (.t 96) (.t 99),.bin 99 .sub (.t 98) (.i 1),.l 98 97,.f 97 3 1,.m 96 1] (.only 24 (some (95,true)) (.cl 104 [101,103] Hm) false [] (.tk 26 [.pick 105 (.t 95) (.t 104) (.c (.bool false))] .done))) WJ))) Tn))) (.sk 83 true 6 10 90 (.tk 12 [.m 91 90,.pick 90 (.t 83) (.t 89) (.c (.bool false))] Tn)))) [1,3,5,6,9,10,11,105]) To) Ma))
def Br:BS:=⟨[.val Y,.val (.slice (.slice (.int .i64))),.val AJ],[⟨6,true,Y⟩,⟨7,false,(.slice AJ)⟩,⟨8,false,(.slice Ay)⟩],(.seq (.region [.box 3 (.t 0) false,.box 5 (.t 2) false,.al 6 Y,.mv 7 (.c (.nil)),.mv 8 (.c (.nil))] [1,3,5,6]) (.seq (.region [.ls 15 3 16,.cl 16 [15] HA,.al 9 Y,.store (.t 9) (.t 16) 16 false] [1,3,5,6,9]) (.seq (.region [.blst 17 AJ [],.m 10 17] [1,3,5,6,9,10]) (.seq (.region [.blst 18 Ay [],.m 11 18] [1,3,5,6,9,10,11]) (.seq (.seq (.region [.ls 19 3 16,.cl 20 [19] QB,.un 21 .not (.t 20),.m 22 21,.sc 22 false [.m 23 1,.cl 24 [23] G9,.un 25 .not (.t 24)] 26 (.c (.bool true)) (.t 25),.m 27 26,.sc 27 false [.ls 28 5 6,.cl 29 [28] t_,.un 30 .not (.t 29)] 31 (.c (.bool true)) (.t 30),.m 32 31,.sc 32 false [.f 33 5 2,.l 34 33,.f 35 3 0,.l 36 35,.b 37 .neq 34 36] 38 (.c (.bool true)) (.t 37),.m 39 38,.sc 39 false [.f 40 5 3,.l 41 40,.f 42 3 1,.l 43 42,.b 44 .lss 41 43] 45 (.c (.bool true)) (.t 44),.m 46 45,.sc 46 false [.f 47 5 3,.l 48 47,.m 49 1,.len 50 false (.t 49),.b 51 .gtr 48 50] 52 (.c (.bool true)) (.t 51),.m 53 52,.sc 53 false [.f 54 3 1,.l 55 54,.m 56 1,.len 57 false (.t 56),.b 58 .gtr 55 57] 59 (.c (.bool true)) (.t 58)] [1,3,5,6,9,10,11,59]) (.cond (.t 59) (.seq (.region [.ls 60 9 16,.m 61 10,.m 62 11,.store (.t 6) (.t 60) 16 false,.m 7 61,.m 8 62] [6,7,8]) .ret) .skip)) Ts)))))⟩
theorem qS:Ax Tryz.prog 101 Br=true:=by kernel_rfl
def Cc:BS:=⟨[.val .str,.val .str],[⟨4,false,.bool⟩],(.seq (.region [.mv 4 (.c (.bool false))] [0,1]) (.seq (.region [.m 5 0,.len 6 true (.t 5),.m 7 1,.len 8 true (.t 7),.b 9 .geq 6 8,.m 10 9,.sc 10 true [.m 11 0,.m 12 1,.len 13 true (.t 12),.sl 14 0 (.t 11) none (some (.t 13)),.m 15 1,.b 16 .eql 14 15] 17 (.t 16) (.c (.bool false)),.m 4 17] [4]) .ret))⟩
theorem Mb:Ax Tryz.prog 105 Cc=true:=by kernel_rfl
def Ya:AI:=(.seq (.region [.b 13 .lss 12 11] [4,10,11,12,13]) (.seq (.cond (.t 13) .skip (.exit 0)) (.seq (.block 1 [4,10,11,12] (.seq (.region [.idx 14 1 (.t 10) (.t 12),.l 15 14,.m 6 15] [4,6,10,11,12]) (.seq (.region [.m 17 6,.cl 18 [17] Rj,.m 16 18,.ext 19 (.t 16) 0,.ext 20 (.t 16) 1,.m 7 19,.m 8 20] [4,7,8,10,11,12]) (.seq (.seq (.region [.m 21 8,.un 22 .not (.t 21)] [4,7,10,11,12,22]) (.cond (.t 22) (.seq (.region [.mv 2 (.c (.nil)),.mv 3 (.c (.bool false))] [2,3]) .ret) .skip)) (.region [.m 23 4,.m 24 7,.blst 25 (.int .i64) [.t 24],.app 26 3 (.int .i64) (.t 23) (.t 25),.m 4 26] [4,10,11,12]))))) (.region [.bin 27 .add (.t 12) (.i 1),.m 12 27] [4,10,11,12]))))
def Yb:AI:=(.seq (.region [.m 28 4,.m 2 28,.mv 3 (.c (.bool true))] [2,3]) .ret)
def FM:BS:=⟨[.val .str],[⟨2,false,(.slice (.int .i64))⟩,⟨3,false,.bool⟩],(.seq (.region [.mv 2 (.c (.nil)),.mv 3 (.c (.bool false))] [0]) (.seq (.region [.nilrow 4 3 (.int .i64)] [0,4]) (.seq (.seq (.region [.m 9 0,.cx (some 10) [.t 9,.c (.str ⟨#[44]⟩)] P_,.len 11 false (.t 10),.mv 12 (.i 0)] [4,10,11,12]) (.block 0 [4] (.loop [4,10,11,12] Ya))) Yb)))⟩
theorem sG:Ax Tryz.prog 106 FM=true:=by kernel_rfl
def O1:BS:=⟨[.val .str],[⟨2,false,(.int .i64)⟩,⟨3,false,(.int .i64)⟩],(.seq (.region [.mv 2 (.i 0),.mv 3 (.i 0)] [0]) (.seq (.seq (.region [.m 4 0] [4]) (.block 0 [] (.seq (.region [.bin 6 .eql (.t 4) (.c (.str ⟨#[112,117,116]⟩)),.m 5 6] [4,5]) (.cond (.t 5) (.seq (.region [.mv 2 (.i 1),.mv 3 (.i 4)] [2,3]) .ret) (.seq (.region [.bin 8 .eql (.t 4) (.c (.str ⟨#[103,101,116]⟩)),.m 7 8] [4,7]) (.cond (.t 7) (.seq (.region [.mv 2 (.i 1),.mv 3 (.i 3)] [2,3]) .ret) (.seq (.region [.bin 10 .eql (.t 4) (.c (.str ⟨#[100,101,108,105,118,101,114]⟩)),.m 9 10] [4,9]) (.cond (.t 9) (.seq (.region [.mv 2 (.i 2),.mv 3 (.i 2)] [2,3]) .ret) (.seq (.region [.bin 12 .eql (.t 4) (.c (.str ⟨#[100,114,111,112]⟩)),.m 11 12] [4,11]) (.cond (.t 11) (.seq (.region [.mv 2 (.i 3),.mv 3 (.i 2)] [2,3]) .ret) (.seq (.region [.bin 14 .eql (.t 4) (.c (.str ⟨#[99,111,112,121]⟩)),.m 13 14] [4,13]) (.cond (.t 13) (.seq (.region [.mv 2 (.i 4),.mv 3 (.i 2)] [2,3]) .ret) (.seq (.region [.bin 16 .eql (.t 4) (.c (.str ⟨#[97,100,111,112,116]⟩)),.m 15 16] [4,15]) (.cond (.t 15) (.seq (.region [.mv 2 (.i 5),.mv 3 (.i 2)] [2,3]) .ret) (.seq (.region [.bin 18 .eql (.t 4) (.c (.str ⟨#[102,97,108,108]⟩)),.m 17 18] [17]) (.cond (.t 17) (.seq (.region [.mv 2 (.i 6),.mv 3 (.i 2)] [2,3]) .ret) .skip)))))))))))))))) (.seq (.region [.mv 2 (.i 0),.mv 3 (.i 0)] [2,3]) .ret)))⟩
theorem sH:Ax Tryz.prog 107 O1=true:=by kernel_rfl
def PT:AI:=(.seq (.seq (.region [.m 14 5,.m 15 0,.len 16 true (.t 15),.b 17 .lss 14 16] [0,4,5,17]) (.cond (.t 17) .skip (.exit 0))) (.seq (.block 1 [0,4,5] (.seq (.seq (.region [.m 20 0,.m 21 5,.sidx 22 (.t 20) (.t 21),.bin 23 .lss (.t 22) (.c (.int .u8 48)),.m 24 23,.sc 24 false [.m 25 0,.m 26 5,.sidx 27 (.t 25) (.t 26),.bin 28 .gtr (.t 27) (.c (.int .u8 57))] 29 (.c (.bool true)) (.t 28)] [0,4,5,29]) (.cond (.t 29) (.seq (.region [.mv 2 (.i 0),.mv 3 (.c (.bool false))] [2,3]) .ret) .skip)) (.region [.m 30 4,.bin 31 .mul (.t 30) (.i 10),.m 32 0,.m 33 5,.sidx 34 (.t 32) (.t 33),.bin 35 .sub (.t 34) (.c (.int .u8 48)),.cvi 36 .i64 (.t 35),.b 37 .add 31 36,.m 4 37] [0,4,5]))) (.region [.m 18 5,.bin 19 .add (.t 18) (.i 1),.m 5 19] [0,4,5])))
def IQ:AI:=(.seq (.seq (.region [.m 38 4,.bin 39 .gtr (.t 38) (.i 1000000000),.m 40 39,.sc 40 false [.m 41 4,.cl 42 [41] MF,.m 43 0,.b 44 .neq 42 43] 45 (.c (.bool true)) (.t 44)] [4,45]) (.cond (.t 45) (.seq (.region [.mv 2 (.i 0),.mv 3 (.c (.bool false))] [2,3]) .ret) .skip)) (.seq (.region [.m 46 4,.m 2 46,.mv 3 (.c (.bool true))] [2,3]) .ret))
def Nq:AI:=(.seq (.region [.mv 4 (.i 0)] [0,4]) (.seq (.seq (.region [.mv 5 (.i 0)] [0,4,5]) (.block 0 [0,4] (.loop [0,4,5] PT))) IQ))
def BU:BS:=⟨[.val .str],[⟨2,false,(.int .i64)⟩,⟨3,false,.bool⟩],(.seq (.region [.mv 2 (.i 0),.mv 3 (.c (.bool false))] [0]) (.seq (.seq (.region [.m 6 0,.len 7 true (.t 6),.bin 8 .eql (.t 7) (.i 0),.m 9 8,.sc 9 false [.m 10 0,.len 11 true (.t 10),.bin 12 .gtr (.t 11) (.i 10)] 13 (.c (.bool true)) (.t 12)] [0,13]) (.cond (.t 13) (.seq (.region [.mv 2 (.i 0),.mv 3 (.c (.bool false))] [2,3]) .ret) .skip)) Nq))⟩
theorem eX:Ax Tryz.prog 108 BU=true:=by kernel_rfl
def Tt:AI:=(.seq (.seq (.region [.f 31 1 5,.l 32 31,.m 33 32,.sc 33 true [.f 34 1 3,.l 35 34,.un 36 .not (.t 35),.m 37 36,.sc 37 false [.f 38 1 4,.l 39 38,.un 40 .not (.t 39)] 41 (.c (.bool true)) (.t 40),.m 42 41,.sc 42 false [.f 43 1 6,.l 44 43,.len 45 false (.t 44),.bin 46 .gtr (.t 45) (.i 0)] 47 (.c (.bool true)) (.t 46)] 48 (.t 47) (.c (.bool false)),.m 49 48,.sc 49 false [.f 50 1 2,.l 51 50,.m 52 51,.sc 52 true [.f 53 1 3,.l 54 53,.m 55 54,.sc 55 false [.f 56 1 4,.l 57 56] 58 (.c (.bool true)) (.t 57)] 59 (.t 58) (.c (.bool false))] 60 (.c (.bool true)) (.t 59)] [1,60]) (.cond (.t 60) (.seq (.region [.mv 2 (.c (.bool false))] [2]) .ret) .skip)) (.seq (.region [.cl 61 [1] aC,.m 2 61] [2]) .ret))
def GE:BS:=⟨[.val Y],[⟨2,false,.bool⟩],(.seq (.region [.box 1 (.t 0) false,.mv 2 (.c (.bool false))] [1]) (.seq (.seq (.region [.f 3 1 0,.l 4 3,.cl 5 [4] IK,.un 6 .not (.t 5),.m 7 6,.sc 7 false [.f 8 1 1,.l 9 8,.cx (some 10) [.t 9,.c (.int .i64 1),.c (.int .i64 9)] A_,.un 11 .not (.t 10)] 12 (.c (.bool true)) (.t 11),.m 13 12,.sc 13 false [.f 14 1 6,.l 15 14,.cx (some 16) [.t 15,.c (.int .i64 1),.c (.int .i64 6)] Rm,.un 17 .not (.t 16)] 18 (.c (.bool true)) (.t 17),.m 19 18,.sc 19 false [.f 20 1 7,.l 21 20,.cl 22 [21] ML,.un 23 .not (.t 22)] 24 (.c (.bool true)) (.t 23),.m 25 24,.sc 25 false [.f 26 1 8,.l 27 26,.cx (some 28) [.t 27,.c (.int .i64 0),.c (.int .i64 900)] A_,.un 29 .not (.t 28)] 30 (.c (.bool true)) (.t 29)] [1,30]) (.cond (.t 30) (.seq (.region [.mv 2 (.c (.bool false))] [2]) .ret) .skip)) Tt))⟩
theorem no:Ax Tryz.prog 112 GE=true:=by kernel_rfl
def KP:AI:=(.seq (.draw (Fd 20 [(4,[2]),(9,[3,8]),(13,[2]),(17,[12,16])]) (.tk 1 [.m 34 1] (.only 1 none (.cl 35 [34] G_) false [] (.tk 3 [.m 36 35] (.test 36 (.tg 36 true 18 [.b 51 .eql 46 50,.l 50 49,.f 49 48 0,.n 48 47,.m 47 0,.l 46 45,.idx 45 1 (.t 44) (.i 0),.l 44 43,.idx 43 1 (.t 37) (.t 42),.bin 42 .sub (.t 41) (.i 1),.l 41 40,.f 40 39 1,.n 39 38,.m 38 0,.m 37 1] (.tk 20 [.m 4 52,.pick 52 (.t 36) (.t 51) (.c (.bool false))] .done)) (.sk 36 true 15 18 52 (.tk 20 [.m 4 52,.pick 52 (.t 36) (.t 51) (.c (.bool false))] .done)))))) [4]) .ret)
def Ct:BS:=⟨[.ptr Y,.val (.slice (.slice (.int .i64)))],[⟨4,false,.bool⟩],(.seq (.region [.mv 4 (.c (.bool false))] [0,1]) (.seq (.seq (.region [.m 5 0,.n 6 5,.f 7 6 5,.l 8 7,.un 9 .not (.t 8),.m 10 9,.sc 10 false [.m 11 0,.n 12 11,.f 13 12 9,.f 14 13 0,.l 15 14,.bin 16 .neq (.t 15) (.i 0)] 17 (.c (.bool true)) (.t 16),.m 18 17,.sc 18 false [.m 19 0,.n 20 19,.f 21 20 8,.l 22 21,.bin 23 .eql (.t 22) (.i 900)] 24 (.c (.bool true)) (.t 23),.m 25 24,.sc 25 false [.m 26 0,.n 27 26,.f 28 27 1,.l 29 28,.m 30 1,.len 31 false (.t 30),.b 32 .gtr 29 31] 33 (.c (.bool true)) (.t 32)] [0,1,33]) (.cond (.t 33) (.seq (.region [.mv 4 (.c (.bool false))] [4]) .ret) .skip)) KP))⟩
theorem Xm:Ax Tryz.prog 113 Ct=true:=by kernel_rfl
def Yc:AI:=(.seq (.region [.b 10 .lss 9 8] [1,4,7,8,9,10]) (.seq (.cond (.t 10) .skip (.exit 0)) (.seq (.block 1 [1,4,7,8,9] (.seq (.region [.idx 11 3 (.t 7) (.t 9),.ls 12 11 3,.al 6 AH,.store (.t 6) (.t 12) 3 false] [1,4,6,7,8,9]) (.seq (.region [.f 13 6 0,.l 14 13,.m 15 1,.b 16 .eql 14 15] [1,4,6,7,8,9,16]) (.cond (.t 16) (.seq (.region [.ls 17 6 3,.store (.t 4) (.t 17) 3 false] [4]) .ret) .skip)))) (.region [.bin 18 .add (.t 9) (.i 1),.m 9 18] [1,4,7,8,9]))))
def Yd:AI:=(.seq (.region [.bu 19 AH [],.store (.t 4) (.t 19) 3 false] [4]) .ret)
def FN:BS:=⟨[.val (.slice AH),.val .str],[⟨4,true,AH⟩],(.seq (.region [.al 4 AH] [0,1,4]) (.seq (.seq (.region [.m 7 0,.len 8 false (.t 7),.mv 9 (.i 0)] [1,4,7,8,9]) (.block 0 [4] (.loop [1,4,7,8,9] Yc))) Yd))⟩
theorem sI:Ax Tryz.prog 114 FN=true:=by kernel_rfl
def Mc:AI:=(.seq (.region [.b 11 .lss 10 9] [0,5,8,9,10,11]) (.seq (.cond (.t 11) .skip (.exit 0)) (.seq (.block 1 [0,5,8,9,10] (.seq (.region [.idx 12 1 (.t 8) (.t 10),.l 13 12,.m 7 13] [0,5,7,8,9,10]) (.seq (.region [.m 14 7,.m 15 0,.n 16 15,.f 17 16 0,.l 18 17,.b 19 .neq 14 18] [0,5,7,8,9,10,19]) (.cond (.t 19) (.region [.m 20 5,.m 21 7,.blst 22 (.int .i64) [.t 21],.app 23 3 (.int .i64) (.t 20) (.t 22),.m 5 23] [0,5,8,9,10]) .skip)))) (.region [.bin 24 .add (.t 10) (.i 1),.m 10 24] [0,5,8,9,10]))))
def Md:AI:=(.seq (.region [.m 25 5,.m 4 25] [4]) .ret)
def CI:BS:=⟨[.ptr Y,.val (.slice (.int .i64))],[⟨4,false,(.slice (.int .i64))⟩],(.seq (.region [.mv 4 (.c (.nil))] [0,1]) (.seq (.region [.nilrow 5 3 (.int .i64)] [0,1,5]) (.seq (.seq (.region [.m 8 1,.len 9 false (.t 8),.mv 10 (.i 0)] [0,5,8,9,10]) (.block 0 [5] (.loop [0,5,8,9,10] Mc))) Md)))⟩
theorem aQ:Ax Tryz.prog 115 CI=true:=by kernel_rfl
def Fx:BS:=⟨[.mut (.own 3 (.int .i64))],[],(.seq (.region [.m 3 0,.len 4 false (.t 3),.m 2 4] [0,2]) (.region [.m 5 0,.m 6 2,.m 7 2,.cvi 8 .u64 (.t 7),.cl 9 [8] na,.cx (some 10) [.t 5,.c (.int .i64 0),.t 6,.t 9] E6] []))⟩
theorem ZV:Ax Tryz.prog 116 Fx=true:=by kernel_rfl
def PU:AI:=(.seq (.region [.m 30 0,.bu 31 MC [],.n 32 30,.f 33 32 9,.store (.t 33) (.t 31) 7 false] [0,3]) (.seq (.draw (Fd 13 [(2,[]),(6,[]),(8,[]),(10,[1,5,7,9])]) (.tk 11 [.bu 44 Ay [(0,1,.t 35),(1,1,.t 39),(2,1,.t 41),(3,3,.t 43)],.ls 43 42 3,.f 42 3 3,.l 41 40,.f 40 3 2,.l 39 38,.f 38 37 1,.n 37 36,.m 36 0,.l 35 34,.f 34 3 1] (.only 11 none (.brow 45 140 Ay [.t 44]) false [] (.tk 13 [.m 2 45] .done))) [2]) .ret))
def EA:BS:=⟨[.ptr Y],[⟨2,false,(.slice Ay)⟩],(.seq (.region [.mv 2 (.c (.nil))] [0]) (.seq (.region [.m 4 0,.n 5 4,.f 6 5 9,.ls 7 6 7,.al 3 MC,.store (.t 3) (.t 7) 7 false] [0,3]) (.seqc [0,3] (.seq (.region [.f 8 3 0,.l 9 8,.bin 10 .eql (.t 9) (.i 1)] [0,3,10]) (.cond (.t 10) (.draw (Fd 11 [(1,[]),(5,[]),(7,[4,6]),(8,[0,7])]) (.tk 7 [.ls 17 16 3,.f 16 3 3,.l 15 14,.f 14 13 7,.n 13 12,.m 12 0,.m 11 0] (.only 7 none (.cl 18 [15,17] aD) false [] (.tk 10 [.f 20 19 7,.n 19 11] (.only 10 none (.store (.t 20) (.t 18) 1 false) false [] .done)))) [0,3]) (.draw (Fd 10 [(4,[]),(7,[3,6])]) (.tk 7 [.l 27 26,.f 26 25 0,.f 25 3 3,.l 24 23,.f 23 22 7,.n 22 21,.m 21 0] (.only 7 none (.cl 28 [24,27] dl) false [] (.tk 9 [.f 29 3 3] (.only 9 none (.store (.t 29) (.t 28) 3 false) false [] .done)))) [0,3]))) PU)))⟩
theorem eY:Ax Tryz.prog 117 EA=true:=by kernel_rfl
def Lf:AI:=(.seq (.region [.b 14 .lss 13 12] [0,5,7,11,12,13,14]) (.seq (.cond (.t 14) .skip (.exit 0)) (.seq (.block 1 [0,5,7,11,12,13] (.seq (.region [.idx 15 1 (.t 11) (.t 13),.l 16 15,.m 9 16] [0,5,7,9,11,12,13]) (.seq (.region [.ls 17 5 6,.cl 18 [17] Ri,.al 10 AJ,.store (.t 10) (.t 18) 6 false] [0,5,7,9,10,11,12,13]) (.seq (.draw (Fd 15 [(4,[]),(5,[]),(9,[3]),(11,[4,10]),(13,[8,12])]) (.tk 10 [.f 28 10 1,.l 27 26,.f 26 25 1,.n 25 24,.m 24 0,.m 23 9,.l 22 21,.f 21 20 0,.n 20 19,.m 19 0] (.only 10 none (.store (.t 28) (.t 22) 1 false) false [] (.tk 12 [.f 29 10 2] (.only 12 none (.store (.t 29) (.t 23) 1 false) false [] (.tk 14 [.f 30 10 3] (.only 14 none (.store (.t 30) (.t 27) 1 false) false [] .done)))))) [0,5,7,10,11,12,13]) (.region [.m 31 7,.ls 32 10 6,.blst 33 AJ [.t 32],.app 34 112 AJ (.t 31) (.t 33),.m 7 34] [0,5,7,11,12,13]))))) (.region [.bin 35 .add (.t 13) (.i 1),.m 13 35] [0,5,7,11,12,13]))))
def Lg:AI:=(.seq (.region [.m 36 7,.m 6 36] [6]) .ret)
def B4:BS:=⟨[.ptr Y,.val (.slice (.int .i64)),.val AJ],[⟨6,false,(.slice AJ)⟩],(.seq (.region [.box 5 (.t 2) false,.mv 6 (.c (.nil))] [0,1,5]) (.seq (.region [.nilrow 7 112 AJ] [0,1,5,7]) (.seq (.seq (.region [.m 11 1,.len 12 false (.t 11),.mv 13 (.i 0)] [0,5,7,11,12,13]) (.block 0 [7] (.loop [0,5,7,11,12,13] Lf))) Lg)))⟩
theorem ZW:Ax Tryz.prog 118 B4=true:=by kernel_rfl
def If:BS:=⟨[.ptr Y],[],(.region [.m 2 0,.m 3 0,.m 4 0,.m 5 0,.m 6 0,.bu 7 MC [],.n 8 2,.f 9 8 4,.store (.t 9) (.c (.bool false)) 1 false,.n 10 3,.f 11 10 5,.store (.t 11) (.c (.bool false)) 1 false,.n 12 4,.f 13 12 6,.store (.t 13) (.c (.nil)) 1 false,.n 14 5,.f 15 14 8,.store (.t 15) (.i 0) 1 false,.n 16 6,.f 17 16 9,.store (.t 17) (.t 7) 7 false] [])⟩
theorem hP:Ax Tryz.prog 119 If=true:=by kernel_rfl
def E8:BS:=⟨[.ptr Y,.val (.slice (.int .i64)),.val (.slice AH)],[⟨6,false,(.slice AJ)⟩],(.seq (.region [.mv 6 (.c (.nil))] [0,1,2]) (.seq (.region [.m 8 0,.m 9 1,.cl 10 [8,9] GR,.m 7 10] [0,2,7]) (.seq (.region [.m 11 0,.m 12 0,.m 13 2,.cl 14 [13] BK,.n 15 11,.f 16 15 3,.store (.t 16) (.c (.bool true)) 1 true,.n 17 12,.f 18 17 7,.store (.t 18) (.t 14) 1 true] [0,2,7]) (.seq (.region [.m 19 0,.m 20 7,.cl 21 [20] Cr,.n 22 19,.f 23 22 6,.store (.t 23) (.t 21) 1 true] [0,2,7]) (.seq (.region [.m 24 0,.n 25 24,.f 26 25 6,.l 27 26,.cl 28 [27] Nl] [0,2,7]) (.seqc [0,2,7] (.seq (.region [.m 29 7,.len 30 false (.t 29),.bin 31 .eql (.t 30) (.i 0)] [0,2,7,31]) (.cond (.t 31) (.region [.m 32 0,.n 33 32,.f 34 33 5,.store (.t 34) (.c (.bool true)) 1 true] [0,2,7]) .skip)) (.seq (.region [.m 35 0,.m 36 7,.m 37 2,.bu 38 AJ [(0,1,.c (.int .i64 3)),(5,1,.t 37)],.cl 39 [35,36,38] Bi,.m 6 39] [6]) .ret)))))))⟩
theorem Xn:Ax Tryz.prog 120 E8=true:=by kernel_rfl
def WK:AI:=(.seq (.region [.m 50 1,.ls 51 5 6,.cl 52 [9,50,51] eN,.m 49 52,.ext 53 (.t 49) 0,.ext 54 (.t 49) 1,.m 10 53,.m 11 54] [6,9,10,11]) (.seq (.region [.ls 55 9 16,.cl 56 [55] GQ,.m 57 10,.m 58 11,.store (.t 6) (.t 56) 16 false,.m 7 57,.m 8 58] [6,7,8]) .ret))
def HD:BS:=⟨[.val Y,.val (.slice (.slice (.int .i64))),.val AJ],[⟨6,true,Y⟩,⟨7,false,(.slice AJ)⟩,⟨8,false,(.slice Ay)⟩],(.seq (.region [.box 3 (.t 0) false,.box 5 (.t 2) false,.al 6 Y,.mv 7 (.c (.nil)),.mv 8 (.c (.nil))] [1,3,5,6]) (.seq (.region [.ls 12 3 16,.cl 13 [12] GQ,.al 9 Y,.store (.t 9) (.t 13) 16 false] [1,3,5,6,9]) (.seq (.seq (.region [.f 14 5 2,.l 15 14,.f 16 3 0,.l 17 16,.b 18 .neq 15 17,.m 19 18,.sc 19 false [.f 20 5 3,.l 21 20,.f 22 3 1,.l 23 22,.b 24 .lss 21 23] 25 (.c (.bool true)) (.t 24),.m 26 25,.sc 26 false [.f 27 5 3,.l 28 27,.m 29 1,.len 30 false (.t 29),.b 31 .gtr 28 30] 32 (.c (.bool true)) (.t 31),.m 33 32,.sc 33 false [.ls 34 3 16,.cl 35 [34] QA,.un 36 .not (.t 35)] 37 (.c (.bool true)) (.t 36),.m 38 37,.sc 38 false [.m 39 1,.cl 40 [39] G_,.un 41 .not (.t 40)] 42 (.c (.bool true)) (.t 41),.m 43 42,.sc 43 false [.ls 44 5 6,.cl 45 [44] uA,.un 46 .not (.t 45)] 47 (.c (.bool true)) (.t 46)] [1,5,6,9,47]) (.cond (.t 47) (.seq (.region [.ls 48 9 16,.store (.t 6) (.t 48) 16 false,.mv 7 (.c (.nil)),.mv 8 (.c (.nil))] [6,7,8]) .ret) .skip)) WK)))⟩
theorem qT:Ax Tryz.prog 121 HD=true:=by kernel_rfl
def Tu:AI:=(.seq (.region [.f 71 1 9,.ls 72 71 7,.al 3 MC,.store (.t 3) (.t 72) 7 false] [1,3]) (.seq (.region [.ls 73 3 7,.cl 74 [73] kY,.m 75 74,.sc 75 false [.f 76 3 0,.l 77 76,.bin 78 .eql (.t 77) (.i 1),.m 79 78,.sc 79 false [.f 80 3 0,.l 81 80,.bin 82 .eql (.t 81) (.i 2)] 83 (.c (.bool true)) (.t 82),.m 84 83,.sc 84 true [.f 85 1 5,.l 86 85] 87 (.t 86) (.c (.bool false)),.m 88 87,.sc 88 true [.f 89 3 1,.l 90 89,.cx (some 91) [.t 90,.c (.int .i64 0),.c (.int .i64 1000)] Az] 92 (.t 91) (.c (.bool false)),.m 93 92,.sc 93 true [.f 94 3 2,.l 95 94,.cx (some 96) [.t 95,.c (.int .i64 1),.c (.int .i64 900)] Az] 97 (.t 96) (.c (.bool false))] 98 (.c (.bool true)) (.t 97),.m 2 98] [2]) .ret))
def GF:BS:=⟨[.val Y],[⟨2,false,.bool⟩],(.seq (.region [.box 1 (.t 0) false,.mv 2 (.c (.bool false))] [1]) (.seq (.seq (.region [.f 4 1 0,.l 5 4,.cx (some 6) [.t 5,.c (.int .i64 1),.c (.int .i64 6)] Az,.un 7 .not (.t 6),.m 8 7,.sc 8 false [.f 9 1 1,.l 10 9,.cx (some 11) [.t 10,.c (.int .i64 1),.c (.int .i64 9)] Az,.un 12 .not (.t 11)] 13 (.c (.bool true)) (.t 12),.m 14 13,.sc 14 false [.f 15 1 5,.l 16 15,.m 17 16,.sc 17 true [.f 18 1 3,.l 19 18,.un 20 .not (.t 19),.m 21 20,.sc 21 false [.f 22 1 4,.l 23 22,.un 24 .not (.t 23)] 25 (.c (.bool true)) (.t 24),.m 26 25,.sc 26 false [.f 27 1 6,.l 28 27,.len 29 false (.t 28),.bin 30 .gtr (.t 29) (.i 0)] 31 (.c (.bool true)) (.t 30)] 32 (.t 31) (.c (.bool false))] 33 (.c (.bool true)) (.t 32),.m 34 33,.sc 34 false [.f 35 1 2,.l 36 35,.m 37 36,.sc 37 true [.f 38 1 3,.l 39 38,.m 40 39,.sc 40 false [.f 41 1 4,.l 42 41] 43 (.c (.bool true)) (.t 42)] 44 (.t 43) (.c (.bool false))] 45 (.c (.bool true)) (.t 44),.m 46 45,.sc 46 false [.f 47 1 6,.l 48 47,.cl 49 [48] dq,.un 50 .not (.t 49)] 51 (.c (.bool true)) (.t 50),.m 52 51,.sc 52 false [.f 53 1 9,.f 54 53 6,.l 55 54,.cl 56 [55] dq,.un 57 .not (.t 56)] 58 (.c (.bool true)) (.t 57),.m 59 58,.sc 59 false [.f 60 1 7,.l 61 60,.cl 62 [61] MM,.un 63 .not (.t 62)] 64 (.c (.bool true)) (.t 63),.m 65 64,.sc 65 false [.f 66 1 8,.l 67 66,.cx (some 68) [.t 67,.c (.int .i64 0),.c (.int .i64 900)] Az,.un 69 .not (.t 68)] 70 (.c (.bool true)) (.t 69)] [1,70]) (.cond (.t 70) (.seq (.region [.mv 2 (.c (.bool false))] [2]) .ret) .skip)) Tu))⟩
theorem np:Ax Tryz.prog 122 GF=true:=by kernel_rfl
def Ye:AI:=(.seq (.seq (.region [.m 6 5,.m 7 0,.len 8 false (.t 7),.b 9 .lss 6 8] [0,1,4,5,9]) (.cond (.t 9) .skip (.exit 0))) (.seq (.block 1 [0,1,4,5] (.seq (.region [.m 12 0,.m 13 5,.idx 14 3 (.t 12) (.t 13),.f 15 14 0,.l 16 15,.m 17 1,.b 18 .eql 16 17] [0,1,4,5,18]) (.cond (.t 18) (.seq (.region [.m 19 0,.m 20 5,.idx 21 3 (.t 19) (.t 20),.ls 22 21 3,.store (.t 4) (.t 22) 3 false] [4]) .ret) .skip))) (.region [.m 10 5,.bin 11 .add (.t 10) (.i 1),.m 5 11] [0,1,4,5])))
def Yf:AI:=(.seq (.region [.bu 23 AH [],.store (.t 4) (.t 23) 3 false] [4]) .ret)
def FO:BS:=⟨[.val (.slice AH),.val .str],[⟨4,true,AH⟩],(.seq (.region [.al 4 AH] [0,1,4]) (.seq (.seq (.region [.mv 5 (.i 0)] [0,1,4,5]) (.block 0 [4] (.loop [0,1,4,5] Ye))) Yf))⟩
theorem sJ:Ax Tryz.prog 123 FO=true:=by kernel_rfl
def WL:AI:=(.seq (.draw (Fd 18 [(1,[]),(2,[0,1]),(5,[]),(7,[4,6]),(10,[8]),(11,[9,10]),(14,[8]),(16,[13,15])]) (.tk 9 [.m 42 41,.b 41 .eql 38 40,.l 40 39,.f 39 3 0,.l 38 37,.f 37 36 0,.idx 36 3 (.t 34) (.t 35),.m 35 7,.m 34 0] (.test 42 (.tg 42 true 17 [.b 50 .geq 47 49,.l 49 48,.f 48 3 2,.l 47 46,.f 46 45 2,.idx 45 3 (.t 43) (.t 44),.m 44 7,.m 43 0] (.tk 18 [.pick 51 (.t 42) (.t 50) (.c (.bool false))] .done)) (.sk 42 true 8 17 51 (.tk 18 [.pick 51 (.t 42) (.t 50) (.c (.bool false))] .done)))) [0,3,5,6,7,51]) (.cond (.t 51) (.seq (.region [.m 52 5,.m 4 52] [4]) .ret) .skip))
def WM:AI:=(.region [.m 17 7,.bin 18 .add (.t 17) (.i 1),.m 7 18] [0,3,5,6,7])
def WN:AI:=(.seq (.seq (.region [.m 13 7,.m 14 0,.len 15 false (.t 14),.b 16 .lss 13 15] [0,3,5,6,7,16]) (.cond (.t 16) .skip (.exit 0))) (.seq (.block 1 [0,3,5,6,7] (.seqc [0,3,5,6,7] (.seq (.draw (Fd 8 [(1,[]),(2,[0,1]),(5,[]),(7,[4,6])]) (.tk 8 [.b 26 .lss 23 25,.l 25 24,.f 24 3 0,.l 23 22,.f 22 21 0,.idx 21 3 (.t 19) (.t 20),.m 20 7,.m 19 0] .done) [0,3,5,6,7,26]) (.cond (.t 26) (.region [.m 27 6,.m 28 0,.m 29 7,.idx 30 3 (.t 28) (.t 29),.ls 31 30 3,.blst 32 AH [.t 31],.app 33 45 AH (.t 27) (.t 32),.m 6 33] [0,3,5,6,7]) .skip)) WL)) WM))
def Tv:AI:=(.seq (.seq (.region [.m 57 8,.m 58 0,.len 59 false (.t 58),.b 60 .lss 57 59] [0,3,5,6,8,60]) (.cond (.t 60) .skip (.exit 2))) (.seq (.block 3 [0,3,5,6,8] (.seq (.draw (Fd 8 [(1,[]),(2,[0,1]),(5,[]),(7,[4,6])]) (.tk 8 [.b 70 .gtr 67 69,.l 69 68,.f 68 3 0,.l 67 66,.f 66 65 0,.idx 65 3 (.t 63) (.t 64),.m 64 8,.m 63 0] .done) [0,3,5,6,8,70]) (.cond (.t 70) (.region [.m 71 6,.m 72 0,.m 73 8,.idx 74 3 (.t 72) (.t 73),.ls 75 74 3,.blst 76 AH [.t 75],.app 77 45 AH (.t 71) (.t 76),.m 6 77] [0,3,5,6,8]) .skip))) (.region [.m 61 8,.bin 62 .add (.t 61) (.i 1),.m 8 62] [0,3,5,6,8])))
def Me:AI:=(.seq (.seq (.region [.m 78 0,.cl 79 [78] MM,.un 80 .not (.t 79),.m 81 80,.sc 81 false [.m 82 6,.cl 83 [82] MM,.un 84 .not (.t 83)] 85 (.c (.bool true)) (.t 84)] [5,6,85]) (.cond (.t 85) (.seq (.region [.m 86 5,.m 4 86] [4]) .ret) .skip)) (.seq (.region [.m 87 6,.m 4 87] [4]) .ret))
def Mf:AI:=(.seq (.region [.m 53 6,.ls 54 3 3,.blst 55 AH [.t 54],.app 56 45 AH (.t 53) (.t 55),.m 6 56] [0,3,5,6]) (.seq (.seq (.region [.mv 8 (.i 0)] [0,3,5,6,8]) (.block 2 [0,5,6] (.loop [0,3,5,6,8] Tv))) Me))
def BH:BS:=⟨[.val (.slice AH),.val AH],[⟨4,false,(.own 45 AH)⟩],(.seq (.region [.box 3 (.t 1) false,.mv 4 (.c (.nil))] [0,3]) (.seq (.region [.brow 9 45 AH [],.m 10 0,.app 11 45 AH (.t 9) (.t 10),.m 5 11] [0,3,5]) (.seq (.region [.brow 12 45 AH [],.m 6 12] [0,3,5,6]) (.seq (.seq (.region [.mv 7 (.i 0)] [0,3,5,6,7]) (.block 0 [0,3,5,6] (.loop [0,3,5,6,7] WN))) Mf))))⟩
theorem qU:Ax Tryz.prog 124 BH=true:=by kernel_rfl
def R5:AI:=(.seq (.seq (.region [.m 8 6,.bin 9 .leq (.t 8) (.i 6)] [0,1,5,6,9]) (.cond (.t 9) .skip (.exit 0))) (.seq (.block 1 [0,1,5,6] (.seq (.region [.m 12 6,.m 13 1,.b 14 .neq 12 13,.m 15 14,.sc 15 true [.m 16 0,.m 17 6,.cl 18 [16,17] Hm] 19 (.t 18) (.c (.bool false))] [0,1,5,6,19]) (.cond (.t 19) (.region [.m 20 5,.m 21 6,.blst 22 (.int .i64) [.t 21],.app 23 3 (.int .i64) (.t 20) (.t 22),.m 5 23] [0,1,5,6]) .skip))) (.region [.m 10 6,.bin 11 .add (.t 10) (.i 1),.m 6 11] [0,1,5,6])))
def R6:AI:=(.seq (.region [.m 24 5,.m 4 24] [4]) .ret)
def DQ:BS:=⟨[.val (.slice (.int .i64)),.val (.int .i64)],[⟨4,false,(.slice (.int .i64))⟩],(.seq (.region [.mv 4 (.c (.nil))] [0,1]) (.seq (.region [.brow 7 3 (.int .i64) [],.m 5 7] [0,1,5]) (.seq (.seq (.region [.mv 6 (.i 1)] [0,1,5,6]) (.block 0 [5] (.loop [0,1,5,6] R5))) R6)))⟩
theorem ki:Ax Tryz.prog 125 DQ=true:=by kernel_rfl
def Jd:BS:=⟨[.ptr Y],[⟨2,false,(.slice Ay)⟩],(.seq (.region [.mv 2 (.c (.nil))] [0]) (.seq (.region [.m 5 0,.n 6 5,.f 7 6 9,.ls 8 7 7,.al 3 MC,.store (.t 3) (.t 8) 7 false] [0,3]) (.seq (.draw (Fd 13 [(2,[]),(6,[]),(8,[]),(10,[1,5,7,9]),(11,[]),(12,[10,11])]) (.tk 11 [.bu 19 Ay [(0,1,.t 10),(1,1,.t 14),(2,1,.t 16),(3,3,.t 18)],.ls 18 17 3,.f 17 3 3,.l 16 15,.f 15 3 2,.l 14 13,.f 13 12 1,.n 12 11,.m 11 0,.l 10 9,.f 9 3 1] (.only 11 none (.al 4 Ay) false [] (.only 12 none (.store (.t 4) (.t 19) 6 false) false [] .done))) [0,3,4]) (.seqc [0,4] (.seq (.region [.f 20 3 0,.l 21 20,.bin 22 .eql (.t 21) (.i 1)] [0,3,4,22]) (.cond (.t 22) (.draw (Fd 11 [(1,[]),(5,[]),(7,[4,6]),(8,[0,7])]) (.tk 7 [.ls 29 28 3,.f 28 3 3,.l 27 26,.f 26 25 7,.n 25 24,.m 24 0,.m 23 0] (.only 7 none (.cl 30 [27,29] Rl) false [] (.tk 10 [.f 32 31 7,.n 31 23] (.only 10 none (.store (.t 32) (.t 30) 1 false) false [] .done)))) [0,4]) (.draw (Fd 10 [(4,[]),(7,[3,6])]) (.tk 7 [.l 39 38,.f 38 37 0,.f 37 3 3,.l 36 35,.f 35 34 7,.n 34 33,.m 33 0] (.only 7 none (.cl 40 [36,39] dn) false [] (.tk 9 [.f 41 4 3] (.only 9 none (.store (.t 41) (.t 40) 3 false) false [] .done)))) [0,4]))) (.seq (.region [.m 42 0,.bu 43 MC [],.n 44 42,.f 45 44 9,.store (.t 45) (.t 43) 7 false] [4]) (.seq (.region [.ls 46 4 6,.brow 47 140 Ay [.t 46],.m 2 47] [2]) .ret))))))⟩
theorem kj:Ax Tryz.prog 126 Jd=true:=by kernel_rfl
def Yg:AI:=(.seq (.seq (.region [.m 37 8,.m 38 1,.len 39 false (.t 38),.b 40 .lss 37 39] [0,1,2,7,8,40]) (.cond (.t 40) .skip (.exit 0))) (.seq (.block 1 [0,1,2,7,8] (.seq (.draw (Fd 9 [(1,[]),(2,[0,1]),(4,[]),(8,[3,7])]) (.tk 9 [.b 51 .neq 46 50,.l 50 49,.f 49 48 0,.n 48 47,.m 47 0,.l 46 45,.idx 45 1 (.t 43) (.t 44),.m 44 8,.m 43 1] .done) [0,1,2,7,8,51]) (.cond (.t 51) (.draw (Fd 20 [(1,[]),(5,[]),(6,[]),(7,[5,6]),(9,[]),(13,[]),(14,[]),(15,[13,14]),(16,[4,8,12,15]),(18,[0,17])]) (.tk 13 [.l 64 63,.f 63 62 1,.n 62 61,.m 61 0,.l 60 59,.idx 59 1 (.t 57) (.t 58),.m 58 8,.m 57 1,.l 56 55,.f 55 54 0,.n 54 53,.m 53 0,.m 52 7] (.tk 15 [.m 66 2] (.only 13 none (.brow 65 45 AH []) false [] (.only 15 none (.apz 67 45 AH (.t 65) (.t 66)) false [] (.tk 17 [.bu 68 AJ [(0,1,.c (.int .i64 3)),(1,1,.t 56),(2,1,.t 60),(3,1,.t 64),(5,1,.t 67)]] (.only 17 none (.blst 69 AJ [.t 68]) false [] (.only 18 none (.app 70 112 AJ (.t 52) (.t 69)) false [] (.tk 20 [.m 7 70] .done)))))))) [0,1,2,7,8]) .skip))) (.region [.m 41 8,.bin 42 .add (.t 41) (.i 1),.m 8 42] [0,1,2,7,8])))
def Yh:AI:=(.seq (.region [.m 71 7,.m 6 71] [6]) .ret)
def FP:BS:=⟨[.ptr Y,.val (.slice (.int .i64)),.val (.slice AH)],[⟨6,false,(.slice AJ)⟩],(.seq (.region [.mv 6 (.c (.nil))] [0,1,2]) (.seq (.region [.brow 9 112 AJ [],.m 7 9] [0,1,2,7]) (.seq (.region [.m 10 0,.n 11 10,.f 12 11 3,.store (.t 12) (.c (.bool true)) 1 false] [0,1,2,7]) (.seq (.region [.m 13 0,.brow 14 45 AH [],.m 15 2,.app 16 45 AH (.t 14) (.t 15),.n 17 13,.f 18 17 7,.store (.t 18) (.t 16) 1 false] [0,1,2,7]) (.seq (.region [.m 19 0,.m 20 1,.m 21 0,.n 22 21,.f 23 22 0,.l 24 23,.cl 25 [20,24] Vs,.n 26 19,.f 27 26 6,.store (.t 27) (.t 25) 1 false] [0,1,2,7]) (.seq (.region [.m 28 0,.m 29 0,.n 30 29,.f 31 30 6,.l 32 31,.len 33 false (.t 32),.bin 34 .eql (.t 33) (.i 0),.n 35 28,.f 36 35 5,.store (.t 36) (.t 34) 1 false] [0,1,2,7]) (.seq (.seq (.region [.mv 8 (.i 0)] [0,1,2,7,8]) (.block 0 [7] (.loop [0,1,2,7,8] Yg))) Yh)))))))⟩
theorem sK:Ax Tryz.prog 127 FP=true:=by kernel_rfl
def aR:AI:=(.cond (.t 39) (.seq (.region [.mv 2 (.c (.bool true))] [2]) .ret) (.seq (.region [.bin 43 .eql (.t 38) (.i 5),.m 42 43] [1,42]) (.cond (.t 42) (.seq (.region [.f 44 1 5,.l 45 44,.len 46 false (.t 45),.bin 47 .eql (.t 46) (.i 1),.m 2 47] [2]) .ret) .skip)))
def aS:AI:=(.seq (.region [.f 48 1 5,.l 49 48,.len 50 false (.t 49),.bin 51 .eql (.t 50) (.i 0),.m 2 51] [2]) .ret)
def aT:AI:=(.seq (.seq (.region [.f 37 1 0,.l 38 37] [1,38]) (.block 0 [1] (.seqc [1,38,39] (.seq (.region [.bin 40 .eql (.t 38) (.i 2),.m 39 40] [1,38,39]) (.cond (.t 39) .skip (.region [.bin 41 .eql (.t 38) (.i 3),.m 39 41] [1,38,39]))) aR))) aS)
def E9:BS:=⟨[.val AJ],[⟨2,false,.bool⟩],(.seq (.region [.box 1 (.t 0) false,.mv 2 (.c (.bool false))] [1]) (.seq (.seq (.region [.f 3 1 0,.l 4 3,.cx (some 5) [.t 4,.c (.int .i64 1),.c (.int .i64 8)] Az,.un 6 .not (.t 5),.m 7 6,.sc 7 false [.f 8 1 1,.l 9 8,.cx (some 10) [.t 9,.c (.int .i64 1),.c (.int .i64 6)] Az,.un 11 .not (.t 10)] 12 (.c (.bool true)) (.t 11),.m 13 12,.sc 13 false [.f 14 1 2,.l 15 14,.cx (some 16) [.t 15,.c (.int .i64 1),.c (.int .i64 6)] Az,.un 17 .not (.t 16)] 18 (.c (.bool true)) (.t 17),.m 19 18,.sc 19 false [.f 20 1 3,.l 21 20,.cx (some 22) [.t 21,.c (.int .i64 1),.c (.int .i64 9)] Az,.un 23 .not (.t 22)] 24 (.c (.bool true)) (.t 23),.m 25 24,.sc 25 false [.f 26 1 4,.l 27 26,.cx (some 28) [.t 27,.c (.int .i64 0),.c (.int .i64 1000000000)] Az,.un 29 .not (.t 28)] 30 (.c (.bool true)) (.t 29),.m 31 30,.sc 31 false [.f 32 1 5,.l 33 32,.cl 34 [33] MM,.un 35 .not (.t 34)] 36 (.c (.bool true)) (.t 35)] [1,36]) (.cond (.t 36) (.seq (.region [.mv 2 (.c (.bool false))] [2]) .ret) .skip)) aT))⟩
theorem uK:Ax Tryz.prog 128 E9=true:=by kernel_rfl

def Yi:AI:=(.cond (.t 28) (.seq (.region [.m 29 1,.f 30 5 5,.l 31 30,.cl 32 [9,29,31] dp,.m 12 32] [6,9,11,12]) (.seq (.region [.ls 33 9 16,.m 34 12,.m 35 11,.store (.t 6) (.t 33) 16 false,.m 7 34,.m 8 35] [6,7,8]) .ret)) .skip)
def Yj:AI:=(.seqc [3,5,6,9,11] (.seq (.region [.f 64 9 3,.l 65 64,.un 66 .not (.t 65)] [3,5,6,9,11,66]) (.cond (.t 66) (.seq (.region [.ls 67 3 16,.f 68 3 1,.l 69 68,.cl 70 [67,69] aB,.store (.t 9) (.t 70) 16 false] [3,5,6,9,11]) (.seq (.region [.f 71 9 3,.store (.t 71) (.c (.bool true)) 1 false] [3,5,6,9,11]) (.region [.brow 72 45 AH [],.f 73 5 5,.l 74 73,.app 75 45 AH (.t 72) (.t 74),.f 76 9 7,.store (.t 76) (.t 75) 1 false] [3,5,6,9,11]))) .skip)) (.seq (.draw (Fd 8 [(1,[]),(2,[]),(3,[1,2]),(4,[]),(5,[0,3]),(7,[4,6])]) (.tk 3 [.ls 79 5 6,.ls 78 3 16,.ls 77 9 16] (.tk 5 [.m 81 11] (.only 3 none (.cx (some 80) [.t 78,.t 79,.c (.int .i64 4)] Ke) false [] (.only 5 none (.store (.t 6) (.t 77) 16 false) false [] (.tk 8 [.m 8 81,.m 7 80] .done))))) [6,7,8]) .ret))
def Yk:AI:=(.seq (.seq (.region [.f 54 9 3,.l 55 54,.un 56 .not (.t 55),.m 57 56,.sc 57 true [.f 58 9 2,.l 59 58] 60 (.t 59) (.c (.bool false))] [3,5,6,9,10,11,60]) (.cond (.t 60) (.seq (.region [.ls 61 9 16,.m 62 10,.m 63 11,.store (.t 6) (.t 61) 16 false,.m 7 62,.m 8 63] [6,7,8]) .ret) .skip)) Yj)
def WO:AI:=(.seq (.region [.f 149 9 9,.f 150 149 6,.l 151 150,.f 152 5 1,.l 153 152,.cl 154 [151,153] TF,.f 155 9 9,.f 156 155 6,.store (.t 156) (.t 154) 1 false] [6,9,10,11]) (.seq (.region [.f 157 9 9,.f 158 157 6,.l 159 158,.len 160 false (.t 159),.bin 161 .eql (.t 160) (.i 0)] [6,9,10,11,161]) (.cond (.t 161) (.region [.cl 162 [9] Vt,.m 11 162] [6,9,10,11]) .skip)))
def WP:AI:=(.seq (.seq (.region [.f 133 9 9,.f 134 133 0,.l 135 134,.m 136 13,.b 137 .neq 135 136,.m 138 137,.sc 138 false [.f 139 9 9,.f 140 139 2,.l 141 140,.f 142 5 4,.l 143 142,.b 144 .neq 141 143] 145 (.c (.bool true)) (.t 144)] [5,6,9,10,11,145]) (.cond (.t 145) (.seq (.region [.ls 146 9 16,.m 147 10,.m 148 11,.store (.t 6) (.t 146) 16 false,.m 7 147,.m 8 148] [6,7,8]) .ret) .skip)) WO)
def WQ:AI:=(.cond (.t 127) (.seq (.region [.mv 13 (.i 1)] [5,6,9,10,11,13]) (.seqc [5,6,9,10,11,13] (.seq (.region [.f 130 5 0,.l 131 130,.bin 132 .eql (.t 131) (.i 8)] [5,6,9,10,11,13,132]) (.cond (.t 132) (.region [.mv 13 (.i 2)] [5,6,9,10,11,13]) .skip)) WP)) .skip)
def WR:AI:=(.seq (.region [.ls 163 9 16,.m 164 10,.m 165 11,.store (.t 6) (.t 163) 16 false,.m 7 164,.m 8 165] [6,7,8]) .ret)
def Cq:BS:=⟨[.val Y,.val (.slice (.int .i64)),.val AJ],[⟨6,true,Y⟩,⟨7,false,(.slice AJ)⟩,⟨8,false,(.slice Ay)⟩],(.seq (.region [.box 3 (.t 0) false,.box 5 (.t 2) false,.al 6 Y,.mv 7 (.c (.nil)),.mv 8 (.c (.nil))] [1,3,5,6]) (.seq (.region [.ls 14 3 16,.cl 15 [14] HA,.al 9 Y,.store (.t 9) (.t 15) 16 false] [1,3,5,6,9]) (.seq (.region [.blst 16 AJ [],.m 10 16] [1,3,5,6,9,10]) (.seq (.region [.blst 17 Ay [],.m 11 17] [1,3,5,6,9,10,11]) (.seq (.seq (.region [.f 18 5 0,.l 19 18] [1,3,5,6,9,10,11,19]) (.block 0 [6,9,10,11] (.seq (.region [.bin 21 .eql (.t 19) (.i 2),.m 20 21] [1,3,5,6,9,10,11,19,20]) (.cond (.t 20) (.seq (.region [.f 22 9 4,.l 23 22,.m 24 23,.sc 24 true [.f 25 9 3,.l 26 25,.un 27 .not (.t 26)] 28 (.t 27) (.c (.bool false))] [1,5,6,9,10,11,28]) Yi) (.seq (.region [.bin 37 .eql (.t 19) (.i 3),.m 36 37] [1,3,5,6,9,10,11,19,36]) (.cond (.t 36) (.seq (.seq (.draw (Fd 13 [(1,[]),(3,[0,2]),(9,[5]),(11,[8,10])]) (.tk 3 [.l 40 39,.f 39 3 0,.m 38 1] (.only 3 none (.cl 41 [38,40] Hm) false [] (.tk 6 [.m 43 42,.un 42 .not (.t 41)] (.test 43 (.sk 43 false 6 12 50 (.tk 13 [.pick 50 (.t 43) (.c (.bool true)) (.t 49)] .done)) (.tg 43 false 12 [.b 49 .eql 46 48,.l 48 47,.f 47 3 0,.l 46 45,.idx 45 1 (.t 44) (.i 0),.m 44 1] (.tk 13 [.pick 50 (.t 43) (.c (.bool true)) (.t 49)] .done)))))) [3,5,6,9,10,11,50]) (.cond (.t 50) (.seq (.region [.ls 51 9 16,.m 52 10,.m 53 11,.store (.t 6) (.t 51) 16 false,.m 7 52,.m 8 53] [6,7,8]) .ret) .skip)) Yk) (.seq (.region [.bin 83 .eql (.t 19) (.i 4),.m 82 83] [3,5,6,9,10,11,19,82]) (.cond (.t 82) (.seq (.region [.f 84 9 4,.l 85 84] [5,6,9,10,11,85]) (.cond (.t 85) (.seq (.region [.f 86 9 6,.l 87 86,.f 88 5 1,.l 89 88,.cl 90 [87,89] TF,.f 91 9 6,.store (.t 91) (.t 90) 1 false] [6,9,10,11]) (.region [.f 92 9 3,.l 93 92,.m 94 93,.sc 94 true [.f 95 9 6,.l 96 95,.len 97 false (.t 96),.bin 98 .eql (.t 97) (.i 0)] 99 (.t 98) (.c (.bool false)),.f 100 9 5,.store (.t 100) (.t 99) 1 false] [6,9,10,11])) .skip)) (.seq (.region [.bin 102 .eql (.t 19) (.i 5),.m 101 102] [3,5,6,9,10,11,19,101]) (.cond (.t 101) (.seq (.region [.f 103 9 3,.l 104 103] [3,5,6,9,10,11,104]) (.cond (.t 104) (.seq (.draw (Fd 9 [(2,[]),(6,[1,5])]) (.tk 6 [.ls 110 109 3,.idx 109 3 (.t 108) (.i 0),.l 108 107,.f 107 5 5,.l 106 105,.f 105 9 7] (.only 6 none (.cl 111 [106,110] Rl) false [] (.tk 8 [.f 112 9 7] (.only 8 none (.store (.t 112) (.t 111) 1 false) false [] .done)))) [3,5,6,9,11]) (.seq (.draw (Fd 8 [(1,[]),(2,[]),(3,[1,2]),(4,[]),(5,[0,3]),(7,[4,6])]) (.tk 3 [.ls 115 5 6,.ls 114 3 16,.ls 113 9 16] (.tk 5 [.m 117 11] (.only 3 none (.cx (some 116) [.t 114,.t 115,.c (.int .i64 6)] Ke) false [] (.only 5 none (.store (.t 6) (.t 113) 16 false) false [] (.tk 8 [.m 8 117,.m 7 116] .done))))) [6,7,8]) .ret)) .skip)) (.seq (.region [.bin 119 .eql (.t 19) (.i 7),.m 118 119] [3,5,6,9,10,11,19,118]) (.cond (.t 118) (.seq (.region [.f 120 9 3,.l 121 120] [3,5,6,9,10,11,121]) (.cond (.t 121) (.seq (.draw (Fd 8 [(1,[]),(2,[]),(3,[1,2]),(4,[]),(5,[0,3]),(7,[4,6])]) (.tk 3 [.ls 124 5 6,.ls 123 3 16,.ls 122 9 16] (.tk 5 [.m 126 11] (.only 3 none (.cx (some 125) [.t 123,.t 124,.c (.int .i64 8)] Ke) false [] (.only 5 none (.store (.t 6) (.t 122) 16 false) false [] (.tk 8 [.m 8 126,.m 7 125] .done))))) [6,7,8]) .ret) .skip)) (.seqc [5,6,9,10,11,127] (.seq (.region [.bin 128 .eql (.t 19) (.i 6),.m 127 128] [5,6,9,10,11,19,127]) (.cond (.t 127) .skip (.region [.bin 129 .eql (.t 19) (.i 8),.m 127 129] [5,6,9,10,11,127]))) WQ))))))))))))) WR)))))⟩
theorem sL:Ax Tryz.prog 129 Cq=true:=by kernel_rfl
def Mg:BS:=⟨[.val Y,.val (.int .i64)],[⟨4,true,Y⟩],(.seq (.region [.box 2 (.t 0) false,.al 4 Y] [1,2,4]) (.seq (.draw (Fd 9 [(2,[]),(3,[]),(4,[]),(6,[3,5]),(7,[1,2,6])]) (.tk 3 [.m 7 1,.l 6 5,.f 5 2 0] (.tk 6 [.l 10 9,.f 9 2 7] (.only 3 none (.brow 8 45 AH []) false [] (.only 6 none (.apz 11 45 AH (.t 8) (.t 10)) false [] (.tk 8 [.bu 12 Y [(0,1,.t 6),(1,1,.t 7),(7,1,.t 11),(8,1,.c (.int .i64 0))]] (.only 8 none (.store (.t 4) (.t 12) 16 false) false [] .done)))))) [4]) .ret))⟩
theorem qV:Ax Tryz.prog 130 Mg=true:=by kernel_rfl
def Kh:BS:=⟨[.val Y,.val AJ,.val (.int .i64)],[⟨6,false,(.slice AJ)⟩],(.seq (.region [.box 3 (.t 0) false,.box 4 (.t 1) false,.mv 6 (.c (.nil))] [2,3,4]) (.seq (.region [.m 7 2,.f 8 3 0,.l 9 8,.f 10 4 1,.l 11 10,.f 12 4 3,.l 13 12,.f 14 4 4,.l 15 14,.bu 16 AJ [(0,1,.t 7),(1,1,.t 9),(2,1,.t 11),(3,1,.t 13),(4,1,.t 15)],.brow 17 112 AJ [.t 16],.m 6 17] [6]) .ret))⟩
theorem nq:Ax Tryz.prog 131 Kh=true:=by kernel_rfl
def PV:AI:=(.seq (.region [.b 12 .lss 11 10] [0,1,2,9,10,11,12]) (.seq (.cond (.t 12) .skip (.exit 0)) (.seq (.block 1 [0,1,2,9,10,11] (.seq (.region [.m 13 11,.idx 14 1 (.t 9) (.t 11),.l 15 14,.m 7 13,.m 8 15] [0,1,2,7,8,9,10,11]) (.seq (.region [.m 16 8,.m 17 1,.m 18 2,.cl 19 [16,17,18] A_,.un 20 .not (.t 19),.m 21 20,.sc 21 false [.m 22 7,.bin 23 .gtr (.t 22) (.i 0),.m 24 23,.sc 24 true [.m 25 8,.m 26 0,.m 27 7,.bin 28 .sub (.t 27) (.i 1),.idx 29 1 (.t 26) (.t 28),.l 30 29,.b 31 .leq 25 30] 32 (.t 31) (.c (.bool false))] 33 (.c (.bool true)) (.t 32)] [0,1,2,9,10,11,33]) (.cond (.t 33) (.seq (.region [.mv 6 (.c (.bool false))] [6]) .ret) .skip)))) (.region [.bin 34 .add (.t 11) (.i 1),.m 11 34] [0,1,2,9,10,11]))))
def PW:AI:=(.seq (.region [.mv 6 (.c (.bool true))] [6]) .ret)
def Cm:BS:=⟨[.val (.slice (.int .i64)),.val (.int .i64),.val (.int .i64)],[⟨6,false,.bool⟩],(.seq (.region [.mv 6 (.c (.bool false))] [0,1,2]) (.seq (.seq (.region [.m 9 0,.len 10 false (.t 9),.mv 11 (.i 0)] [0,1,2,9,10,11]) (.block 0 [] (.loop [0,1,2,9,10,11] PV))) PW))⟩
theorem eZ:Ax Tryz.prog 140 Cm=true:=by kernel_rfl
def Tw:DT:=(.sk 28 false 3 20 32 (.sk 31 true 9 29 41 (.sk 28 false 1 30 42 (.tk 31 [.pick 42 (.t 28) (.c (.bool true)) (.t 41)] .done))))
def Tx:DT:=(.sk 22 false 4 15 27 (.tk 17 [.m 28 27,.pick 27 (.t 22) (.c (.bool true)) (.t 26)] Tw))
def Ty:DT:=(.tg 28 false 30 [.pick 41 (.t 31) (.t 40) (.c (.bool false))] (.tk 31 [.pick 42 (.t 28) (.c (.bool true)) (.t 41)] .done))
def Tz:AI:=(.seq (.region [.b 8 .lss 7 6] [0,5,6,7,8]) (.seq (.cond (.t 8) .skip (.exit 0)) (.seq (.block 1 [0,5,6,7] (.seq (.region [.m 9 7,.idx 10 3 (.t 5) (.t 7),.ls 11 10 3,.al 4 AH,.m 3 9,.store (.t 4) (.t 11) 3 false] [0,3,4,5,6,7]) (.seq (.draw (Fd 31 [(22,[19]),(23,[19]),(25,[22,24]),(28,[21,27])]) (.tk 2 [.l 13 12,.f 12 4 0] (.only 2 none (.cl 14 [13] gy) false [] (.tk 5 [.m 16 15,.un 15 .not (.t 14)] (.test 16 (.sk 16 false 4 9 21 (.tk 11 [.m 22 21,.pick 21 (.t 16) (.c (.bool true)) (.t 20)] Tx)) (.tg 16 false 9 [.bin 20 .gtr (.t 19) (.i 20),.len 19 true (.t 18),.l 18 17,.f 17 4 1] (.tk 11 [.m 22 21,.pick 21 (.t 16) (.c (.bool true)) (.t 20)] (.test 22 Tx (.tg 22 false 13 [.l 24 23,.f 23 4 2] (.only 13 (some (22,false)) (.cx (some 25) [.t 24,.c (.int .i64 1),.c (.int .i64 1000000000)] A_) false [] (.tg 22 false 15 [.un 26 .not (.t 25)] (.tk 17 [.m 28 27,.pick 27 (.t 22) (.c (.bool true)) (.t 26)] (.test 28 Tw (.tg 28 false 20 [.m 31 30,.bin 30 .gtr (.t 29) (.i 0),.m 29 3] (.test 31 (.tg 31 true 29 [.b 40 .leq 33 39,.l 39 38,.f 38 37 0,.idx 37 3 (.t 34) (.t 36),.bin 36 .sub (.t 35) (.i 1),.m 35 3,.m 34 0,.l 33 32,.f 32 4 0] Ty) (.sk 31 true 9 29 41 Ty))))))))))))))) [0,5,6,7,42]) (.cond (.t 42) (.seq (.region [.mv 2 (.c (.bool false))] [2]) .ret) .skip)))) (.region [.bin 43 .add (.t 7) (.i 1),.m 7 43] [0,5,6,7]))))
def T0:AI:=(.seq (.region [.m 44 0,.len 45 false (.t 44),.bin 46 .leq (.t 45) (.i 12),.m 2 46] [2]) .ret)
def EW:BS:=⟨[.val (.slice AH)],[⟨2,false,.bool⟩],(.seq (.region [.mv 2 (.c (.bool false))] [0]) (.seq (.seq (.region [.m 5 0,.len 6 false (.t 5),.mv 7 (.i 0)] [0,5,6,7]) (.block 0 [0] (.loop [0,5,6,7] Tz))) T0))⟩
theorem qW:Ax Tryz.prog 141 EW=true:=by kernel_rfl
def GW:BS:=⟨[.ptr Y],[⟨2,false,.bool⟩],(.seq (.region [.mv 2 (.c (.bool false))] [0]) (.seq (.region [.m 4 0,.n 5 4,.f 6 5 9,.ls 7 6 7,.al 3 MC,.store (.t 3) (.t 7) 7 false] [0,3]) (.seq (.seq (.region [.f 8 3 0,.l 9 8,.bin 10 .eql (.t 9) (.i 0)] [0,3,10]) (.cond (.t 10) (.seq (.region [.f 11 3 1,.l 12 11,.bin 13 .eql (.t 12) (.i 0),.m 14 13,.sc 14 true [.f 15 3 2,.l 16 15,.bin 17 .eql (.t 16) (.i 0)] 18 (.t 17) (.c (.bool false)),.m 19 18,.sc 19 true [.f 20 3 3,.ls 21 20 3,.bu 22 AH [],.eqs 23 false AH (.t 21) (.t 22)] 24 (.t 23) (.c (.bool false)),.m 25 24,.sc 25 true [.f 26 3 6,.l 27 26,.len 28 false (.t 27),.bin 29 .eql (.t 28) (.i 0)] 30 (.t 29) (.c (.bool false)),.m 2 30] [2]) .ret) .skip)) (.seq (.region [.f 31 3 0,.l 32 31,.cx (some 33) [.t 32,.c (.int .i64 1),.c (.int .i64 2)] A_,.m 34 33,.sc 34 true [.m 35 0,.n 36 35,.f 37 36 5,.l 38 37] 39 (.t 38) (.c (.bool false)),.m 40 39,.sc 40 true [.f 41 3 1,.l 42 41,.cx (some 43) [.t 42,.c (.int .i64 0),.c (.int .i64 1000)] A_] 44 (.t 43) (.c (.bool false)),.m 45 44,.sc 45 true [.f 46 3 2,.l 47 46,.cx (some 48) [.t 47,.c (.int .i64 1),.c (.int .i64 900)] A_] 49 (.t 48) (.c (.bool false)),.m 50 49,.sc 50 true [.f 51 3 6,.l 52 51,.cx (some 53) [.t 52,.c (.int .i64 1),.c (.int .i64 6)] Rm] 54 (.t 53) (.c (.bool false)),.m 2 54] [2]) .ret))))⟩
theorem aU:Ax Tryz.prog 142 GW=true:=by kernel_rfl
def HE:AI:=(.cond (.t 87) (.seq (.region [.m 88 0,.m 89 1,.m 90 2,.m 91 11,.cl 92 [88,89,90,91] Kx,.m 13 92] [0,2,3,8,9,13]) (.seq (.region [.m 93 13,.m 1 93] [0,1,2,3,8,9]) (.exit 1))) .skip)
def EB:AI:=(.seq (.region [.m 95 0,.m 96 1,.m 97 2,.m 98 11,.cl 99 [95,96,97,98] PE,.m 94 99,.ext 100 (.t 94) 0,.ext 101 (.t 94) 1,.m 14 100,.m 15 101] [0,1,2,3,10,14,15]) (.seq (.region [.m 102 15,.m 9 102] [0,1,2,3,9,10,14]) (.seq (.region [.m 103 14,.m 104 1,.b 105 .sub 103 104,.m 106 2,.m 107 14,.b 108 .sub 106 107,.m 16 105,.m 17 108] [0,1,2,3,9,10,14,16,17]) (.seq (.region [.m 109 10,.bin 110 .quo (.t 109) (.i 8),.m 18 110] [0,1,2,3,9,14,16,17,18]) (.seq (.region [.m 111 16,.m 112 17,.b 113 .lss 111 112] [0,1,2,3,9,14,16,17,18,113]) (.cond (.t 113) (.seq (.region [.m 114 16,.m 115 18,.b 116 .geq 114 115,.m 8 116] [0,1,2,3,8,9,14]) (.seq (.region [.m 117 0,.m 118 1,.m 119 14,.m 120 3,.cl 121 [117,118,119,120] E6] [0,2,3,8,9,14]) (.region [.m 122 14,.bin 123 .add (.t 122) (.i 1),.m 1 123] [0,1,2,3,8,9]))) (.seq (.region [.m 124 17,.m 125 18,.b 126 .geq 124 125,.m 8 126] [0,1,2,3,8,9,14]) (.seq (.region [.m 127 0,.m 128 14,.bin 129 .add (.t 128) (.i 1),.m 130 2,.m 131 3,.cl 132 [127,129,130,131] E6] [0,1,3,8,9,14]) (.region [.m 133 14,.m 2 133] [0,1,2,3,8,9])))))))))
def HF:AI:=(.seq (.seq (.draw (Fd 15 [(4,[2]),(6,[3,5]),(8,[2]),(9,[2]),(10,[8,9]),(12,[7,11])]) (.tk 3 [.m 75 74,.bin 74 .gtr (.t 73) (.i 0),.m 73 1] (.test 75 (.tg 75 true 12 [.l 84 83,.idx 83 1 (.t 81) (.t 82),.m 82 11,.m 81 0,.l 80 79,.idx 79 1 (.t 76) (.t 78),.bin 78 .sub (.t 77) (.i 1),.m 77 1,.m 76 0] (.only 12 (some (75,true)) (.cl 85 [80,84] aE) false [] (.tg 75 true 14 [.un 86 .not (.t 85)] (.tk 15 [.pick 87 (.t 75) (.t 86) (.c (.bool false))] .done)))) (.sk 75 true 11 14 87 (.tk 15 [.pick 87 (.t 75) (.t 86) (.c (.bool false))] .done)))) [0,1,2,3,8,9,10,11,87]) HE) EB)
def HG:AI:=(.seqc [0,1,2,3,8,9,10,11] (.seq (.region [.m 61 8,.m 62 61,.sc 62 true [.m 63 9] 64 (.t 63) (.c (.bool false)),.m 65 64,.sc 65 true [.m 66 12,.bin 67 .eql (.t 66) (.i 1)] 68 (.t 67) (.c (.bool false))] [0,1,2,3,8,9,10,11,68]) (.cond (.t 68) (.seq (.region [.m 69 0,.m 70 1,.m 71 2,.cl 72 [69,70,71] IN] [0,1,2,3,8,9,10,11,72]) (.cond (.t 72) .ret .skip)) .skip)) HF)
def HH:AI:=(.seq (.region [.m 43 0,.m 44 1,.m 45 2,.cl 46 [43,44,45] Ni,.m 42 46,.ext 47 (.t 42) 0,.ext 48 (.t 42) 1,.m 11 47,.m 12 48] [0,1,2,3,8,9,10,11,12]) (.seqc [0,1,2,3,8,9,10,11,12] (.seq (.region [.m 49 12,.bin 50 .eql (.t 49) (.i 2)] [0,1,2,3,8,9,10,11,12,50]) (.cond (.t 50) (.seq (.region [.m 51 0,.m 52 1,.m 53 2,.cl 54 [51,52,53] MN] [0,1,2,3,8,9,10,11]) (.seq (.region [.m 55 2,.bin 56 .sub (.t 55) (.i 1),.m 57 11,.m 58 1,.b 59 .sub 57 58,.b 60 .sub 56 59,.m 11 60] [0,1,2,3,8,9,10,11]) (.region [.mv 12 (.i 1)] [0,1,2,3,8,9,10,11,12]))) .skip)) HG))
def HI:AI:=(.block 1 [0,1,2,3,8,9] (.seq (.region [.m 19 2,.m 20 1,.b 21 .sub 19 20,.m 10 21] [0,1,2,3,8,9,10]) (.seq (.seq (.region [.m 22 10,.bin 23 .leq (.t 22) (.i 12)] [0,1,2,3,8,9,10,23]) (.cond (.t 23) (.seq (.region [.m 24 0,.m 25 1,.m 26 2,.cl 27 [24,25,26] Lu] []) .ret) .skip)) (.seq (.seq (.region [.m 28 3,.bin 29 .eql (.t 28) (.i 0)] [0,1,2,3,8,9,10,29]) (.cond (.t 29) (.seq (.region [.m 30 0,.m 31 1,.m 32 2,.cl 33 [30,31,32] QC] []) .ret) .skip)) (.seqc [0,1,2,3,8,9,10] (.seq (.region [.m 34 8,.un 35 .not (.t 34)] [0,1,2,3,8,9,10,35]) (.cond (.t 35) (.seq (.region [.m 36 0,.m 37 1,.m 38 2,.cl 39 [36,37,38] Lv] [0,1,2,3,8,9,10]) (.region [.m 40 3,.bin 41 .sub (.t 40) (.i 1),.m 3 41] [0,1,2,3,8,9,10])) .skip)) HH)))))
def Aa:BS:=⟨[.mut (.own 3 (.int .i64)),.val (.int .i64),.val (.int .i64),.val (.int .i64)],[],(.seq (.region [.mv 8 (.c (.bool true))] [0,1,2,3,8]) (.seq (.region [.mv 9 (.c (.bool true))] [0,1,2,3,8,9]) (.block 0 [] (.loop [0,1,2,3,8,9] HI))))⟩
theorem RO:Ax Tryz.prog 143 Aa=true:=by kernel_rfl
def Ki:BS:=⟨[.val (.int .u64)],[⟨2,false,(.int .i64)⟩],(.seq (.region [.mv 2 (.i 0)] [0]) (.seq (.cond (.c (.bool false)) (.seq (.region [.m 3 0,.cvi 4 .u32 (.t 3),.cl 5 [4] g7,.m 2 5] [2]) .ret) .skip) (.seq (.region [.m 6 0,.cl 7 [6] gz,.m 2 7] [2]) .ret)))⟩
theorem ns:Ax Tryz.prog 144 Ki=true:=by kernel_rfl
def WS:DT:=(.tg 20 false 15 [.pick 31 (.t 22) (.t 30) (.c (.bool false))] (.tk 16 [.pick 32 (.t 20) (.c (.bool true)) (.t 31)] .done))
def WT:AI:=(.seq (.seq (.region [.m 44 5,.cl 45 [44] ML,.un 46 .not (.t 45)] [0,5,46]) (.cond (.t 46) (.seq (.region [.m 47 0,.cl 48 [47] BK,.m 4 48] [4]) .ret) .skip)) (.seq (.region [.m 49 5,.m 4 49] [4]) .ret))
def WU:AI:=(.seqc [0,5] (.seq (.region [.m 34 7] [0,3,5,6,34]) (.cond (.t 34) (.region [.m 35 5,.m 36 6,.ls 37 3 3,.idx 38 3 (.t 35) (.t 36),.store (.t 38) (.t 37) 3 false] [0,5]) (.region [.m 39 5,.m 40 6,.ls 41 3 3,.brow 42 45 AH [.t 41],.cl 43 [39,40,42] KM,.m 5 43] [0,5]))) WT)
def EX:BS:=⟨[.val (.slice AH),.val AH],[⟨4,false,(.own 45 AH)⟩],(.seq (.region [.box 3 (.t 1) false,.mv 4 (.c (.nil))] [0,3]) (.seq (.region [.m 8 0,.cl 9 [8] BK,.m 5 9] [0,3,5]) (.seq (.region [.m 11 0,.f 12 3 0,.l 13 12,.cx (some 14) [.t 11,.t 13,.c (.fn 173 [])] E7,.m 10 14,.ext 15 (.t 10) 0,.ext 16 (.t 10) 1,.m 6 15,.m 7 16] [0,3,5,6,7]) (.seq (.seq (.draw (Fd 16 [(7,[5]),(8,[6,7]),(11,[5]),(13,[10,12])]) (.tk 1 [.m 17 0] (.only 1 none (.cl 18 [17] ML) false [] (.tk 4 [.m 20 19,.un 19 .not (.t 18)] (.test 20 (.sk 20 false 2 6 23 (.sk 22 true 8 14 31 (.sk 20 false 1 15 32 (.tk 16 [.pick 32 (.t 20) (.c (.bool true)) (.t 31)] .done)))) (.tg 20 false 6 [.m 22 21,.m 21 7] (.test 22 (.tg 22 true 14 [.b 30 .geq 27 29,.l 29 28,.f 28 3 2,.l 27 26,.f 26 25 2,.idx 25 3 (.t 23) (.t 24),.m 24 6,.m 23 0] WS) (.sk 22 true 8 14 31 WS))))))) [0,3,5,6,7,32]) (.cond (.t 32) (.seq (.region [.m 33 5,.m 4 33] [4]) .ret) .skip)) WU))))⟩
theorem qX:Ax Tryz.prog 145 EX=true:=by kernel_rfl
def aV:AI:=(.cond (.t 39) (.seq (.region [.mv 2 (.c (.bool true))] [2]) .ret) (.seq (.region [.bin 43 .eql (.t 38) (.i 5),.m 42 43] [1,42]) (.cond (.t 42) (.seq (.region [.f 44 1 5,.l 45 44,.len 46 false (.t 45),.bin 47 .eql (.t 46) (.i 1),.m 2 47] [2]) .ret) .skip)))
def aW:AI:=(.seq (.region [.f 48 1 5,.l 49 48,.len 50 false (.t 49),.bin 51 .eql (.t 50) (.i 0),.m 2 51] [2]) .ret)
def aX:AI:=(.seq (.seq (.region [.f 37 1 0,.l 38 37] [1,38]) (.block 0 [1] (.seqc [1,38,39] (.seq (.region [.bin 40 .eql (.t 38) (.i 2),.m 39 40] [1,38,39]) (.cond (.t 39) .skip (.region [.bin 41 .eql (.t 38) (.i 3),.m 39 41] [1,38,39]))) aV))) aW)
def E_:BS:=⟨[.val AJ],[⟨2,false,.bool⟩],(.seq (.region [.box 1 (.t 0) false,.mv 2 (.c (.bool false))] [1]) (.seq (.seq (.region [.f 3 1 0,.l 4 3,.cx (some 5) [.t 4,.c (.int .i64 1),.c (.int .i64 8)] A_,.un 6 .not (.t 5),.m 7 6,.sc 7 false [.f 8 1 1,.l 9 8,.cl 10 [9] IK,.un 11 .not (.t 10)] 12 (.c (.bool true)) (.t 11),.m 13 12,.sc 13 false [.f 14 1 2,.l 15 14,.cl 16 [15] IK,.un 17 .not (.t 16)] 18 (.c (.bool true)) (.t 17),.m 19 18,.sc 19 false [.f 20 1 3,.l 21 20,.cx (some 22) [.t 21,.c (.int .i64 1),.c (.int .i64 9)] A_,.un 23 .not (.t 22)] 24 (.c (.bool true)) (.t 23),.m 25 24,.sc 25 false [.f 26 1 4,.l 27 26,.cx (some 28) [.t 27,.c (.int .i64 0),.c (.int .i64 1000000000)] A_,.un 29 .not (.t 28)] 30 (.c (.bool true)) (.t 29),.m 31 30,.sc 31 false [.f 32 1 5,.l 33 32,.cl 34 [33] ML,.un 35 .not (.t 34)] 36 (.c (.bool true)) (.t 35)] [1,36]) (.cond (.t 36) (.seq (.region [.mv 2 (.c (.bool false))] [2]) .ret) .skip)) aX))⟩
theorem uL:Ax Tryz.prog 146 E_=true:=by kernel_rfl
def PX:DT:=(.sk 31 true 5 19 37 (.tk 20 [.pick 37 (.t 31) (.t 36) (.c (.bool false))] .done))
def PY:AI:=(.cond (.t 37) (.seq (.draw (Fd 14 [(1,[]),(2,[]),(7,[1,6]),(9,[]),(11,[0,8,10])]) (.tk 11 [.l 48 47,.f 47 5 5,.l 46 45,.idx 45 1 (.t 39) (.t 44),.bin 44 .sub (.t 43) (.i 1),.l 43 42,.f 42 41 1,.n 41 40,.m 40 0,.m 39 1,.m 38 0] (.only 11 none (.cl 49 [38,46,48] MK) false [] (.tk 14 [.mv 7 (.c (.nil)),.m 6 49] .done))) [6,7]) .ret) .skip)
def PZ:AI:=(.cond (.t 75) (.seq (.draw (Fd 11 [(1,[]),(5,[]),(7,[4,6]),(8,[0,7])]) (.tk 7 [.l 82 81,.f 81 5 1,.l 80 79,.f 79 78 6,.n 78 77,.m 77 0,.m 76 0] (.only 7 none (.cl 83 [80,82] aF) false [] (.tk 10 [.f 85 84 6,.n 84 76] (.only 10 none (.store (.t 85) (.t 83) 1 false) false [] .done)))) [0]) (.region [.m 86 0,.m 87 0,.n 88 87,.f 89 88 5,.l 90 89,.m 91 90,.sc 91 false [.m 92 0,.n 93 92,.f 94 93 6,.l 95 94,.len 96 false (.t 95),.bin 97 .eql (.t 96) (.i 0),.m 98 97,.sc 98 true [.m 99 0,.n 100 99,.f 101 100 3,.l 102 101] 103 (.t 102) (.c (.bool false))] 104 (.c (.bool true)) (.t 103),.n 105 86,.f 106 105 5,.store (.t 106) (.t 104) 1 false] [])) .skip)
def Nr:AI:=(.cond (.t 107) (.seq (.region [.m 110 0,.ls 111 5 6,.cl 112 [110,111] cp,.m 6 112,.mv 7 (.c (.nil))] [6,7]) .ret) (.seq (.region [.bin 114 .eql (.t 9) (.i 6),.m 113 114] [0,5,9,113]) (.cond (.t 113) (.seq (.region [.m 115 0,.ls 116 5 6,.cx (some 117) [.t 115,.c (.int .i64 1),.t 116] PF,.mv 6 (.c (.nil)),.m 7 117] [6,7]) .ret) (.seq (.region [.bin 119 .eql (.t 9) (.i 8),.m 118 119] [0,5,118]) (.cond (.t 118) (.seq (.region [.m 120 0,.ls 121 5 6,.cx (some 122) [.t 120,.c (.int .i64 2),.t 121] PF,.mv 6 (.c (.nil)),.m 7 122] [6,7]) .ret) .skip)))))
def Ns:AI:=(.seq (.region [.mv 6 (.c (.nil)),.mv 7 (.c (.nil))] [6,7]) .ret)
def CO:BS:=⟨[.ptr Y,.val (.slice (.slice (.int .i64))),.val AJ],[⟨6,false,(.slice AJ)⟩,⟨7,false,(.slice Ay)⟩],(.seq (.region [.box 5 (.t 2) false,.mv 6 (.c (.nil)),.mv 7 (.c (.nil))] [0,1,5]) (.seq (.seq (.region [.f 8 5 0,.l 9 8] [0,1,5,9]) (.block 0 [] (.seq (.region [.bin 11 .eql (.t 9) (.i 1),.m 10 11] [0,1,5,9,10]) (.cond (.t 10) (.seq (.region [.m 12 0,.m 13 1,.ls 14 5 6,.cl 15 [12,13,14] eO,.m 6 15,.mv 7 (.c (.nil))] [6,7]) .ret) (.seq (.region [.bin 17 .eql (.t 9) (.i 2),.m 16 17] [0,1,5,9,16]) (.cond (.t 16) (.seq (.draw (Fd 20 [(2,[]),(6,[1,5])]) (.tk 8 [.m 25 24,.b 24 .eql 19 23,.l 23 22,.f 22 21 1,.n 21 20,.m 20 0,.l 19 18,.f 18 5 3] (.test 25 (.tg 25 true 12 [.l 29 28,.f 28 27 4,.n 27 26,.m 26 0] (.tk 14 [.m 31 30,.pick 30 (.t 25) (.t 29) (.c (.bool false))] (.test 31 (.tg 31 true 19 [.un 36 .not (.t 35),.l 35 34,.f 34 33 3,.n 33 32,.m 32 0] (.tk 20 [.pick 37 (.t 31) (.t 36) (.c (.bool false))] .done)) PX))) (.sk 25 true 4 12 30 (.tk 14 [.m 31 30,.pick 30 (.t 25) (.t 29) (.c (.bool false))] PX)))) [0,1,5,37]) PY) (.seq (.region [.bin 51 .eql (.t 9) (.i 3),.m 50 51] [0,1,5,9,50]) (.cond (.t 50) (.seq (.draw (Fd 11 [(1,[]),(2,[]),(5,[1,4]),(7,[]),(8,[0,6,7])]) (.tk 8 [.ls 59 5 6,.l 58 57,.idx 57 1 (.t 53) (.t 56),.bin 56 .sub (.t 55) (.i 1),.l 55 54,.f 54 5 3,.m 53 1,.m 52 0] (.only 8 none (.cl 60 [52,58,59] ZS) false [] (.tk 11 [.mv 7 (.c (.nil)),.m 6 60] .done))) [6,7]) .ret) (.seq (.region [.bin 62 .eql (.t 9) (.i 4),.m 61 62] [0,5,9,61]) (.cond (.t 61) (.seq (.draw (Fd 13 [(2,[]),(6,[1,5])]) (.tk 8 [.m 70 69,.b 69 .eql 64 68,.l 68 67,.f 67 66 1,.n 66 65,.m 65 0,.l 64 63,.f 63 5 3] (.test 70 (.tg 70 true 12 [.l 74 73,.f 73 72 4,.n 72 71,.m 71 0] (.tk 13 [.pick 75 (.t 70) (.t 74) (.c (.bool false))] .done)) (.sk 70 true 4 12 75 (.tk 13 [.pick 75 (.t 70) (.t 74) (.c (.bool false))] .done)))) [0,5,75]) PZ) (.seqc [0,5,9,107] (.seq (.region [.bin 108 .eql (.t 9) (.i 5),.m 107 108] [0,5,9,107]) (.cond (.t 107) .skip (.region [.bin 109 .eql (.t 9) (.i 7),.m 107 109] [0,5,9,107]))) Nr))))))))))) Ns))⟩
theorem ed:Ax Tryz.prog 147 CO=true:=by kernel_rfl
def Yl:DT:=(.tg 16 false 21 [.pick 30 (.t 19) (.t 29) (.c (.bool false))] (.tk 22 [.pick 31 (.t 16) (.c (.bool true)) (.t 30)] .done))
def Ym:AI:=(.seq (.seq (.region [.m 4 3,.m 5 0,.len 6 false (.t 5),.b 7 .lss 4 6] [0,3,7]) (.cond (.t 7) .skip (.exit 0))) (.seq (.block 1 [0,3] (.seq (.draw (Fd 22 [(1,[]),(2,[0,1]),(11,[9]),(13,[10,12]),(15,[9]),(16,[9]),(17,[15,16]),(19,[14,18])]) (.tk 4 [.l 13 12,.idx 12 1 (.t 10) (.t 11),.m 11 3,.m 10 0] (.only 4 none (.cx (some 14) [.t 13,.c (.int .i64 1),.c (.int .i64 6)] Az) false [] (.tk 7 [.m 16 15,.un 15 .not (.t 14)] (.test 16 (.sk 16 false 3 10 20 (.sk 19 true 10 20 30 (.sk 16 false 1 21 31 (.tk 22 [.pick 31 (.t 16) (.c (.bool true)) (.t 30)] .done)))) (.tg 16 false 10 [.m 19 18,.bin 18 .gtr (.t 17) (.i 0),.m 17 3] (.test 19 (.tg 19 true 20 [.b 29 .geq 24 28,.l 28 27,.idx 27 1 (.t 25) (.t 26),.m 26 3,.m 25 0,.l 24 23,.idx 23 1 (.t 20) (.t 22),.bin 22 .sub (.t 21) (.i 1),.m 21 3,.m 20 0] Yl) (.sk 19 true 10 20 30 Yl))))))) [0,3,31]) (.cond (.t 31) (.seq (.region [.mv 2 (.c (.bool false))] [2]) .ret) .skip))) (.region [.m 8 3,.bin 9 .add (.t 8) (.i 1),.m 3 9] [0,3])))
def Yn:AI:=(.seq (.region [.mv 2 (.c (.bool true))] [2]) .ret)
def FQ:BS:=⟨[.val (.slice (.int .i64))],[⟨2,false,.bool⟩],(.seq (.region [.mv 2 (.c (.bool false))] [0]) (.seq (.seq (.region [.mv 3 (.i 0)] [0,3]) (.block 0 [] (.loop [0,3] Ym))) Yn))⟩
theorem sM:Ax Tryz.prog 148 FQ=true:=by kernel_rfl
def T1:DT:=(.sk 32 false 3 21 36 (.sk 35 true 9 30 45 (.sk 32 false 1 31 46 (.tk 32 [.pick 46 (.t 32) (.c (.bool true)) (.t 45)] .done))))
def T2:DT:=(.sk 26 false 4 16 31 (.tk 18 [.m 32 31,.pick 31 (.t 26) (.c (.bool true)) (.t 30)] T1))
def T3:DT:=(.tg 32 false 31 [.pick 45 (.t 35) (.t 44) (.c (.bool false))] (.tk 32 [.pick 46 (.t 32) (.c (.bool true)) (.t 45)] .done))
def T4:AI:=(.seq (.seq (.region [.m 5 3,.m 6 0,.len 7 false (.t 6),.b 8 .lss 5 7] [0,3,8]) (.cond (.t 8) .skip (.exit 0))) (.seq (.block 1 [0,3] (.seq (.region [.m 11 0,.m 12 3,.idx 13 3 (.t 11) (.t 12),.ls 14 13 3,.al 4 AH,.store (.t 4) (.t 14) 3 false] [0,3,4]) (.seq (.draw (Fd 32 [(22,[20]),(24,[21,23]),(27,[20]),(29,[26,28])]) (.tk 3 [.len 17 true (.t 16),.l 16 15,.f 15 4 0] (.only 3 none (.cx (some 18) [.t 17,.c (.int .i64 1),.c (.int .i64 12)] Az) false [] (.tk 6 [.m 20 19,.un 19 .not (.t 18)] (.test 20 (.sk 20 false 4 10 25 (.tk 12 [.m 26 25,.pick 25 (.t 20) (.c (.bool true)) (.t 24)] T2)) (.tg 20 false 10 [.bin 24 .gtr (.t 23) (.i 20),.len 23 true (.t 22),.l 22 21,.f 21 4 1] (.tk 12 [.m 26 25,.pick 25 (.t 20) (.c (.bool true)) (.t 24)] (.test 26 T2 (.tg 26 false 14 [.l 28 27,.f 27 4 2] (.only 14 (some (26,false)) (.cx (some 29) [.t 28,.c (.int .i64 1),.c (.int .i64 1000000000)] Az) false [] (.tg 26 false 16 [.un 30 .not (.t 29)] (.tk 18 [.m 32 31,.pick 31 (.t 26) (.c (.bool true)) (.t 30)] (.test 32 T1 (.tg 32 false 21 [.m 35 34,.bin 34 .gtr (.t 33) (.i 0),.m 33 3] (.test 35 (.tg 35 true 30 [.b 44 .geq 41 43,.l 43 42,.f 42 4 0,.l 41 40,.f 40 39 0,.idx 39 3 (.t 36) (.t 38),.bin 38 .sub (.t 37) (.i 1),.m 37 3,.m 36 0] T3) (.sk 35 true 9 30 45 T3))))))))))))))) [0,3,46]) (.cond (.t 46) (.seq (.region [.mv 2 (.c (.bool false))] [2]) .ret) .skip)))) (.region [.m 9 3,.bin 10 .add (.t 9) (.i 1),.m 3 10] [0,3])))
def T5:AI:=(.seq (.region [.m 47 0,.len 48 false (.t 47),.bin 49 .leq (.t 48) (.i 12),.m 2 49] [2]) .ret)
def EY:BS:=⟨[.val (.slice AH)],[⟨2,false,.bool⟩],(.seq (.region [.mv 2 (.c (.bool false))] [0]) (.seq (.seq (.region [.mv 3 (.i 0)] [0,3]) (.block 0 [0] (.loop [0,3] T4))) T5))⟩
theorem qY:Ax Tryz.prog 149 EY=true:=by kernel_rfl
def Je:BS:=⟨[.val MC],[⟨2,false,.bool⟩],(.seq (.region [.box 1 (.t 0) false,.mv 2 (.c (.bool false))] [1]) (.seq (.region [.f 3 1 0,.l 4 3,.bin 5 .eql (.t 4) (.i 0),.m 6 5,.sc 6 true [.f 7 1 1,.l 8 7,.bin 9 .eql (.t 8) (.i 0)] 10 (.t 9) (.c (.bool false)),.m 11 10,.sc 11 true [.f 12 1 2,.l 13 12,.bin 14 .eql (.t 13) (.i 0)] 15 (.t 14) (.c (.bool false)),.m 16 15,.sc 16 true [.f 17 1 3,.ls 18 17 3,.bu 19 AH [],.eqs 20 false AH (.t 18) (.t 19)] 21 (.t 20) (.c (.bool false)),.m 22 21,.sc 22 true [.f 23 1 6,.l 24 23,.len 25 false (.t 24),.bin 26 .eql (.t 25) (.i 0)] 27 (.t 26) (.c (.bool false)),.m 2 27] [2]) .ret))⟩
theorem km:Ax Tryz.prog 150 Je=true:=by kernel_rfl
def Qp:AI:=(.seq (.seq (.region [.m 8 6,.m 9 0,.len 10 false (.t 9),.b 11 .lss 8 10] [0,1,5,6,11]) (.cond (.t 11) .skip (.exit 0))) (.seq (.block 1 [0,1,5,6] (.seq (.region [.m 14 0,.m 15 6,.idx 16 1 (.t 14) (.t 15),.l 17 16,.m 18 1,.b 19 .neq 17 18] [0,1,5,6,19]) (.cond (.t 19) (.region [.m 20 5,.m 21 0,.m 22 6,.idx 23 1 (.t 21) (.t 22),.l 24 23,.blst 25 (.int .i64) [.t 24],.app 26 3 (.int .i64) (.t 20) (.t 25),.m 5 26] [0,1,5,6]) .skip))) (.region [.m 12 6,.bin 13 .add (.t 12) (.i 1),.m 6 13] [0,1,5,6])))
def Qq:AI:=(.seq (.region [.m 27 5,.m 4 27] [4]) .ret)
def C4:BS:=⟨[.val (.slice (.int .i64)),.val (.int .i64)],[⟨4,false,(.slice (.int .i64))⟩],(.seq (.region [.mv 4 (.c (.nil))] [0,1]) (.seq (.region [.brow 7 3 (.int .i64) [],.m 5 7] [0,1,5]) (.seq (.seq (.region [.mv 6 (.i 0)] [0,1,5,6]) (.block 0 [5] (.loop [0,1,5,6] Qp))) Qq)))⟩
theorem hU:Ax Tryz.prog 151 C4=true:=by kernel_rfl
def Qr:AI:=(.seqc [0,2] (.seq (.region [.m 13 0,.bin 14 .geq (.t 13) (.c (.int .u64 256))] [0,2,14]) (.cond (.t 14) (.seq (.region [.m 15 0,.bin 16 .shr (.t 15) (.c (.int .u64 8)),.m 0 16] [0,2]) (.region [.m 17 2,.bin 18 .add (.t 17) (.i 8),.m 2 18] [0,2])) .skip)) (.seq (.region [.m 19 2,.m 20 0,.cvi 21 .u8 (.t 20),.sidx 22 (.c (.str ⟨#[0,1,2,2,3,3,3,3,4,4,4,4,4,4,4,4,5,5,5,5,5,5,5,5,5,5,5,5,5,5,5,5,6,6,6,6,6,6,6,6,6,6,6,6,6,6,6,6,6,6,6,6,6,6,6,6,6,6,6,6,6,6,6,6,7,7,7,7,7,7,7,7,7,7,7,7,7,7,7,7,7,7,7,7,7,7,7,7,7,7,7,7,7,7,7,7,7,7,7,7,7,7,7,7,7,7,7,7,7,7,7,7,7,7,7,7,7,7,7,7,7,7,7,7,7,7,7,7,8,8,8,8,8,8,8,8,8,8,8,8,8,8,8,8,8,8,8,8,8,8,8,8,8,8,8,8,8,8,8,8,8,8,8,8,8,8,8,8,8,8,8,8,8,8,8,8,8,8,8,8,8,8,8,8,8,8,8,8,8,8,8,8,8,8,8,8,8,8,8,8,8,8,8,8,8,8,8,8,8,8,8,8,8,8,8,8,8,8,8,8,8,8,8,8,8,8,8,8,8,8,8,8,8,8,8,8,8,8,8,8,8,8,8,8,8,8,8,8,8,8,8,8,8,8,8,8]⟩)) (.t 21),.cvi 23 .i64 (.t 22),.b 24 .add 19 23,.m 2 24] [2]) .ret))
def Qs:AI:=(.seqc [0,2] (.seq (.region [.m 7 0,.bin 8 .geq (.t 7) (.c (.int .u64 65536))] [0,2,8]) (.cond (.t 8) (.seq (.region [.m 9 0,.bin 10 .shr (.t 9) (.c (.int .u64 16)),.m 0 10] [0,2]) (.region [.m 11 2,.bin 12 .add (.t 11) (.i 16),.m 2 12] [0,2])) .skip)) Qr)
def C5:BS:=⟨[.val (.int .u64)],[⟨2,false,(.int .i64)⟩],(.seq (.region [.mv 2 (.i 0)] [0,2]) (.seqc [0,2] (.seq (.region [.m 3 0,.bin 4 .geq (.t 3) (.c (.int .u64 4294967296))] [0,2,4]) (.cond (.t 4) (.seq (.region [.m 5 0,.bin 6 .shr (.t 5) (.c (.int .u64 32)),.m 0 6] [0]) (.region [.mv 2 (.i 32)] [0,2])) .skip)) Qs))⟩
theorem hX:Ax Tryz.prog 158 C5=true:=by kernel_rfl
def FR:AI:=(.seq (.block 3 [0,1,2,6,7] (.draw (Fd 18 [(1,[]),(2,[]),(3,[]),(5,[]),(6,[]),(8,[5,7]),(10,[]),(11,[]),(12,[10,11]),(14,[0,1,9,13]),(16,[2,4,15])]) (.tk 15 [.idx 47 1 (.t 33) (.t 34),.l 46 45,.idx 45 1 (.t 43) (.t 44),.m 44 7,.m 43 0,.l 42 41,.idx 41 1 (.t 38) (.t 40),.bin 40 .sub (.t 39) (.i 1),.m 39 7,.m 38 0,.bin 37 .sub (.t 36) (.i 1),.m 36 7,.m 35 0,.m 34 7,.m 33 0] (.only 15 none (.store (.t 47) (.t 42) 1 false) false [] (.tk 17 [.idx 48 1 (.t 35) (.t 37)] (.only 17 none (.store (.t 48) (.t 46) 1 false) false [] .done)))) [0,1,2,6,7])) (.region [.m 31 7,.bin 32 .sub (.t 31) (.i 1),.m 7 32] [0,1,2,6,7]))
def FS:AI:=(.seq (.seq (.draw (Fd 15 [(1,[]),(2,[0,1]),(5,[3]),(6,[4,5]),(8,[3]),(9,[3]),(11,[8,10]),(13,[7,12])]) (.tk 4 [.m 19 18,.b 18 .gtr 16 17,.m 17 1,.m 16 7] (.test 19 (.tg 19 true 13 [.l 28 27,.idx 27 1 (.t 24) (.t 26),.bin 26 .sub (.t 25) (.i 1),.m 25 7,.m 24 0,.l 23 22,.idx 22 1 (.t 20) (.t 21),.m 21 7,.m 20 0] (.only 13 (some (19,true)) (.cl 29 [23,28] aE) false [] (.tk 15 [.pick 30 (.t 19) (.t 29) (.c (.bool false))] .done))) (.sk 19 true 10 14 30 (.tk 15 [.pick 30 (.t 19) (.t 29) (.c (.bool false))] .done)))) [0,1,2,6,7,30]) (.cond (.t 30) .skip (.exit 2))) FR)
def FT:AI:=(.region [.m 13 6,.bin 14 .add (.t 13) (.i 1),.m 6 14] [0,1,2,6])
def FU:AI:=(.seq (.seq (.region [.m 10 6,.m 11 2,.b 12 .lss 10 11] [0,1,2,6,12]) (.cond (.t 12) .skip (.exit 0))) (.seq (.block 1 [0,1,2,6] (.seq (.region [.m 15 6,.m 7 15] [0,1,2,6,7]) (.block 2 [0,1,2,6] (.loop [0,1,2,6,7] FS)))) FT))
def AU:BS:=⟨[.mut (.own 3 (.int .i64)),.val (.int .i64),.val (.int .i64)],[],(.seq (.region [.m 8 1,.bin 9 .add (.t 8) (.i 1),.m 6 9] [0,1,2,6]) (.block 0 [] (.loop [0,1,2,6] FU)))⟩
theorem Lw:Ax Tryz.prog 162 AU=true:=by kernel_rfl
def Mh:BS:=⟨[.val (.int .i64),.val (.int .i64)],[⟨4,false,.bool⟩],(.seq (.region [.mv 4 (.c (.bool false))] [0,1]) (.seq (.region [.m 5 0,.cl 6 [5] YA,.m 7 6,.sc 7 true [.m 8 1,.cl 9 [8] YA,.un 10 .not (.t 9)] 11 (.t 10) (.c (.bool false)),.m 12 11,.sc 12 false [.m 13 0,.m 14 1,.b 15 .lss 13 14] 16 (.c (.bool true)) (.t 15),.m 4 16] [4]) .ret))⟩
theorem qZ:Ax Tryz.prog 168 Mh=true:=by kernel_rfl
def CU:AI:=(.seq (.seq (.region [.m 15 9,.m 16 10,.b 17 .lss 15 16] [0,1,2,8,9,10,17]) (.cond (.t 17) .skip (.exit 0))) (.block 1 [0,1,2,8,9,10] (.seq (.region [.m 18 9,.m 19 10,.b 20 .add 18 19,.cvi 21 .u64 (.t 20),.bin 22 .shr (.t 21) (.c (.int .u64 1)),.cvi 23 .i64 (.t 22),.m 11 23] [0,1,2,8,9,10,11]) (.seq (.region [.m 24 2,.m 25 0,.m 26 11,.idx 27 3 (.t 25) (.t 26),.ls 28 27 3,.m 29 1,.call (some 30) 173 [(.t 28,.val AH),(.t 29,.val .str),(.t 24,.cap0 173)] [(.int .i64)],.bin 31 .lss (.t 30) (.i 0)] [0,1,2,8,9,10,11,31]) (.cond (.t 31) (.region [.m 32 11,.bin 33 .add (.t 32) (.i 1),.m 9 33] [0,1,2,8,9,10]) (.region [.m 34 11,.m 10 34] [0,1,2,8,9,10]))))))
def BV:AI:=(.seq (.region [.m 35 9,.m 36 9,.m 37 8,.b 38 .lss 36 37,.m 39 38,.sc 39 true [.m 40 2,.m 41 0,.m 42 9,.idx 43 3 (.t 41) (.t 42),.ls 44 43 3,.m 45 1,.call (some 46) 173 [(.t 44,.val AH),(.t 45,.val .str),(.t 40,.cap0 173)] [(.int .i64)],.bin 47 .eql (.t 46) (.i 0)] 48 (.t 47) (.c (.bool false)),.m 6 35,.m 7 48] [6,7]) .ret)
def AL:BS:=⟨[.val (.slice AH),.val .str,.val (.fun 173)],[⟨6,false,(.int .i64)⟩,⟨7,false,.bool⟩],(.seq (.region [.mv 6 (.i 0),.mv 7 (.c (.bool false))] [0,1,2]) (.seq (.region [.m 12 0,.len 13 false (.t 12),.m 8 13] [0,1,2,8]) (.seq (.region [.m 14 8,.mv 9 (.i 0),.m 10 14] [0,1,2,8,9,10]) (.seq (.block 0 [0,1,2,8,9] (.loop [0,1,2,8,9,10] CU)) BV))))⟩
theorem FA:Ax Tryz.prog 172 AL=true:=by kernel_rfl
def Jf:BS:=⟨[.val AH,.val .str],[⟨4,false,(.int .i64)⟩],(.seq (.region [.box 2 (.t 0) false,.mv 4 (.i 0)] [1,2]) (.seq (.region [.f 5 2 0,.l 6 5,.m 7 1,.cl 8 [6,7] g8,.m 4 8] [4]) .ret))⟩
theorem ko:Ax Tryz.prog 173 Jf=true:=by kernel_rfl
def Nt:DT:=(.sk 22 false 14 30 37 (.tk 31 [.pick 37 (.t 22) (.c (.bool true)) (.t 36)] .done))
def Nu:AI:=(.seq (.region [.m 38 0,.m 39 0,.f 40 5 3,.l 41 40,.n 42 38,.f 43 42 1,.store (.t 43) (.t 41) 1 false,.n 44 39,.f 45 44 3,.store (.t 45) (.c (.bool false)) 1 false] [0,5]) (.seq (.region [.m 46 0,.cl 47 [46] MJ] [0,5]) (.seq (.draw (Fd 11 [(1,[]),(4,[]),(9,[0,3,8])]) (.tk 3 [.l 50 49,.f 49 5 1,.m 48 0] (.tk 9 [.bu 56 AJ [(0,1,.c (.int .i64 2)),(5,1,.t 55)],.l 55 54,.f 54 53 7,.n 53 52,.m 52 0] (.only 3 none (.brow 51 3 (.int .i64) [.t 50]) false [] (.only 9 none (.cl 57 [48,51,56] Bi) false [] (.tk 11 [.m 6 57] .done))))) [6]) .ret)))
def EC:BS:=⟨[.ptr Y,.val (.slice (.slice (.int .i64))),.val AJ],[⟨6,false,(.slice AJ)⟩],(.seq (.region [.box 5 (.t 2) false,.mv 6 (.c (.nil))] [0,1,5]) (.seq (.seq (.draw (Fd 31 [(2,[]),(7,[1,6]),(17,[15]),(22,[16,21]),(24,[15]),(28,[23,27])]) (.tk 9 [.m 15 14,.b 14 .neq 8 13,.bin 13 .add (.t 12) (.i 1),.l 12 11,.f 11 10 1,.n 10 9,.m 9 0,.l 8 7,.f 7 5 3] (.test 15 (.sk 15 false 5 14 21 (.tk 16 [.m 22 21,.pick 21 (.t 15) (.c (.bool true)) (.t 20)] Nt)) (.tg 15 false 14 [.un 20 .not (.t 19),.l 19 18,.f 18 17 3,.n 17 16,.m 16 0] (.tk 16 [.m 22 21,.pick 21 (.t 15) (.c (.bool true)) (.t 20)] (.test 22 Nt (.tg 22 false 28 [.l 34 33,.f 33 32 0,.n 32 31,.m 31 0,.l 30 29,.idx 29 1 (.t 23) (.t 28),.bin 28 .sub (.t 27) (.i 1),.l 27 26,.f 26 25 1,.n 25 24,.m 24 0,.m 23 1] (.only 28 (some (22,false)) (.cl 35 [30,34] GC) false [] (.tg 22 false 30 [.un 36 .not (.t 35)] (.tk 31 [.pick 37 (.t 22) (.c (.bool true)) (.t 36)] .done))))))))) [0,5,37]) (.cond (.t 37) (.seq (.region [.mv 6 (.c (.nil))] [6]) .ret) .skip)) Nu))⟩
theorem ee:Ax Tryz.prog 176 EC=true:=by kernel_rfl
def Lh:DT:=(.tg 32 false 20 [.pick 44 (.t 38) (.t 43) (.c (.bool false))] (.tk 22 [.m 24 45,.pick 45 (.t 32) (.c (.bool true)) (.t 44)] .done))
def Li:AI:=(.cond (.t 24) (.seq (.draw (Fd 21 [(1,[]),(2,[]),(3,[]),(4,[]),(6,[]),(9,[0,5,8]),(12,[1,11]),(15,[2,14]),(18,[3,17])]) (.tk 8 [.l 53 52,.f 52 5 5,.l 51 50,.f 50 5 3,.m 49 0,.m 48 0,.m 47 0,.m 46 0] (.only 8 none (.cl 54 [53] BK) false [] (.tk 11 [.f 56 55 1,.n 55 46] (.only 11 none (.store (.t 56) (.t 51) 1 false) false [] (.tk 14 [.f 58 57 3,.n 57 47] (.only 14 none (.store (.t 58) (.c (.bool true)) 1 false) false [] (.tk 17 [.f 60 59 2,.n 59 48] (.only 17 none (.store (.t 60) (.c (.bool false)) 1 false) false [] (.tk 20 [.f 62 61 7,.n 61 49] (.only 20 none (.store (.t 62) (.t 54) 1 false) false [] .done)))))))))) [0,5]) (.region [.m 63 0,.cl 64 [63] MJ] [0,5])) (.seq (.region [.m 66 0,.n 67 66,.f 68 67 3,.l 69 68,.un 70 .not (.t 69),.m 65 70] [0,5,65]) (.cond (.t 65) (.seq (.region [.mv 6 (.c (.nil))] [6]) .ret) .skip)))
def Lj:AI:=(.seq (.region [.m 71 0,.f 72 5 1,.l 73 72,.brow 74 3 (.int .i64) [.t 73],.bu 75 AJ [(0,1,.c (.int .i64 4))],.cl 76 [71,74,75] Bi,.m 6 76] [6]) .ret)
def Lk:AI:=(.seq (.block 0 [0,5] (.seq (.draw (Fd 22 [(2,[]),(6,[1,5])]) (.tk 8 [.m 32 31,.b 31 .gtr 26 30,.l 30 29,.f 29 28 1,.n 28 27,.m 27 0,.l 26 25,.f 25 5 3] (.test 32 (.sk 32 false 6 14 39 (.sk 38 true 5 19 44 (.sk 32 false 1 20 45 (.tk 22 [.m 24 45,.pick 45 (.t 32) (.c (.bool true)) (.t 44)] .done)))) (.tg 32 false 14 [.m 38 37,.un 37 .not (.t 36),.l 36 35,.f 35 34 3,.n 34 33,.m 33 0] (.test 38 (.tg 38 true 19 [.un 43 .not (.t 42),.l 42 41,.f 41 40 2,.n 40 39,.m 39 0] Lh) (.sk 38 true 5 19 44 Lh))))) [0,5,24]) Li)) Lj)
def Bj:BS:=⟨[.ptr Y,.val (.slice (.int .i64)),.val AJ],[⟨6,false,(.slice AJ)⟩],(.seq (.region [.box 5 (.t 2) false,.mv 6 (.c (.nil))] [0,1,5]) (.seq (.seq (.draw (Fd 17 [(1,[]),(5,[0,4]),(11,[7]),(15,[10,14])]) (.tk 5 [.l 11 10,.f 10 9 0,.n 9 8,.m 8 0,.m 7 1] (.only 5 none (.cl 12 [7,11] GC) false [] (.tk 8 [.m 14 13,.un 13 .not (.t 12)] (.test 14 (.sk 14 false 8 16 23 (.tk 17 [.pick 23 (.t 14) (.c (.bool true)) (.t 22)] .done)) (.tg 14 false 16 [.b 22 .eql 17 21,.l 21 20,.f 20 19 0,.n 19 18,.m 18 0,.l 17 16,.idx 16 1 (.t 15) (.i 0),.m 15 1] (.tk 17 [.pick 23 (.t 14) (.c (.bool true)) (.t 22)] .done)))))) [0,5,23]) (.cond (.t 23) (.seq (.region [.mv 6 (.c (.nil))] [6]) .ret) .skip)) Lk))⟩
theorem ZX:Ax Tryz.prog 177 Bj=true:=by kernel_rfl
def Mi:BS:=⟨[.val (.slice (.int .i64)),.val (.int .i64)],[⟨4,false,(.slice (.int .i64))⟩],(.seq (.region [.fbox 3 (.t 1),.mv 4 (.c (.nil))] [0,3]) (.seq (.region [.m 5 0,.cl 6 [5] Cr,.clo 7 195 (.int .i64) (.t 3),.cl 8 [6,7] RK,.m 4 8] [4]) .ret))⟩
theorem qa:Ax Tryz.prog 178 Mi=true:=by kernel_rfl
def Nv:AI:=(.seq (.seq (.region [.f 19 3 0,.l 20 19,.bin 21 .eql (.t 20) (.i 7)] [0,3,21]) (.cond (.t 21) (.seq (.region [.m 22 0,.f 23 3 1,.l 24 23,.brow 25 3 (.int .i64) [.t 24],.f 26 3 4,.l 27 26,.bu 28 AJ [(0,1,.c (.int .i64 8)),(4,1,.t 27)],.cl 29 [22,25,28] Bi,.m 4 29] [4]) .ret) .skip)) (.seq (.draw (Fd 13 [(1,[]),(5,[]),(9,[4,8]),(10,[0,9])]) (.tk 9 [.ls 38 37 3,.idx 37 3 (.t 36) (.i 0),.l 36 35,.f 35 3 5,.l 34 33,.f 33 32 7,.n 32 31,.m 31 0,.m 30 0] (.only 9 none (.cl 39 [34,38] aD) false [] (.tk 12 [.f 41 40 7,.n 40 30] (.only 12 none (.store (.t 41) (.t 39) 1 false) false [] .done)))) [0,3]) (.seq (.region [.m 42 0,.f 43 3 1,.l 44 43,.brow 45 3 (.int .i64) [.t 44],.f 46 3 4,.l 47 46,.bu 48 AJ [(0,1,.c (.int .i64 6)),(4,1,.t 47)],.cl 49 [42,45,48] Bi,.m 4 49] [4]) .ret)))
def Dq:BS:=⟨[.ptr Y,.val AJ],[⟨4,false,(.slice AJ)⟩],(.seq (.region [.box 3 (.t 1) false,.mv 4 (.c (.nil))] [0,3]) (.seq (.seq (.draw (Fd 14 [(2,[]),(6,[1,5])]) (.tk 8 [.m 12 11,.b 11 .neq 6 10,.l 10 9,.f 9 8 1,.n 8 7,.m 7 0,.l 6 5,.f 5 3 3] (.test 12 (.sk 12 false 5 13 18 (.tk 14 [.pick 18 (.t 12) (.c (.bool true)) (.t 17)] .done)) (.tg 12 false 13 [.un 17 .not (.t 16),.l 16 15,.f 15 14 3,.n 14 13,.m 13 0] (.tk 14 [.pick 18 (.t 12) (.c (.bool true)) (.t 17)] .done)))) [0,3,18]) (.cond (.t 18) (.seq (.region [.mv 4 (.c (.nil))] [4]) .ret) .skip)) Nv))⟩
theorem cv:Ax Tryz.prog 179 Dq=true:=by kernel_rfl
def Mj:DT:=(.sk 23 false 8 25 32 (.tk 26 [.pick 32 (.t 23) (.c (.bool true)) (.t 31)] .done))
def Ll:AI:=(.seq (.draw (Fd 13 [(1,[]),(6,[]),(8,[5,7]),(9,[0,8])]) (.tk 8 [.l 40 39,.f 39 5 1,.l 38 37,.f 37 36 6,.f 36 35 9,.n 35 34,.m 34 0,.m 33 0] (.only 8 none (.cl 41 [38,40] aF) false [] (.tk 12 [.f 44 43 6,.f 43 42 9,.n 42 33] (.only 12 none (.store (.t 44) (.t 41) 1 false) false [] .done)))) [0]) (.seq (.seq (.region [.m 45 0,.n 46 45,.f 47 46 9,.f 48 47 6,.l 49 48,.len 50 false (.t 49),.bin 51 .gtr (.t 50) (.i 0)] [0,51]) (.cond (.t 51) (.seq (.region [.mv 6 (.c (.nil))] [6]) .ret) .skip)) (.seq (.region [.m 52 0,.cl 53 [52] Rk,.m 6 53] [6]) .ret)))
def DR:BS:=⟨[.ptr Y,.val (.int .i64),.val AJ],[⟨6,false,(.slice Ay)⟩],(.seq (.region [.box 5 (.t 2) false,.mv 6 (.c (.nil))] [0,1,5]) (.seq (.seq (.draw (Fd 26 [(2,[]),(6,[1,5]),(13,[7]),(14,[12,13]),(22,[16]),(24,[21,23])]) (.tk 8 [.m 14 13,.b 13 .neq 8 12,.l 12 11,.f 11 10 1,.n 10 9,.m 9 0,.l 8 7,.f 7 5 3] (.test 14 (.sk 14 false 7 15 22 (.tk 17 [.m 23 22,.pick 22 (.t 14) (.c (.bool true)) (.t 21)] Mj)) (.tg 14 false 15 [.b 21 .neq 19 20,.m 20 1,.l 19 18,.f 18 17 0,.f 17 16 9,.n 16 15,.m 15 0] (.tk 17 [.m 23 22,.pick 22 (.t 14) (.c (.bool true)) (.t 21)] (.test 23 Mj (.tg 23 false 25 [.b 31 .neq 28 30,.l 30 29,.f 29 5 4,.l 28 27,.f 27 26 2,.f 26 25 9,.n 25 24,.m 24 0] (.tk 26 [.pick 32 (.t 23) (.c (.bool true)) (.t 31)] .done))))))) [0,5,32]) (.cond (.t 32) (.seq (.region [.mv 6 (.c (.nil))] [6]) .ret) .skip)) Ll))⟩
theorem aY:Ax Tryz.prog 180 DR=true:=by kernel_rfl
def Kj:BS:=⟨[.val (.int .i64)],[⟨2,false,.bool⟩],(.seq (.region [.mv 2 (.c (.bool false))] [0]) (.seq (.region [.m 3 0,.m 4 0,.b 5 .neq 3 4,.m 2 5] [2]) .ret))⟩
theorem nt:Ax Tryz.prog 190 Kj=true:=by kernel_rfl
end
end Go.Proofs.YtfcgblnlopemkaaGreatDoor.Core

namespace Go.Proofs.YtfcgblnlopemkaaGreatDoor.Core
open Go Go.Shelf Go.RowKit Go.Lib
variable {P:Program} {ρ:Ren}
set_option maxHeartbeats 2000000 in
set_option maxRecDepth 100000 in
theorem zv (L:SlLaysE0.n41 P ρ) (i0:TypeInfo) (z:Value) (size bytes:Nat) (hi:P.info? (ρ.t 23)=some i0) (hz0:i0.zero=some z) (hz1:i0.size=size) (hz2:i0.bytes=bytes) (hzs:z.cells.size=size) (hsz:0<size)
  (z23:∀ w,(Go.sizeOf (ρ.t 23)).run P w=.ok size w) (ad:Addr) (n c:Nat) (news:List Value) (w:World) (hl:news.length=n*size) (hn:n<=maxLen) (hbig:n*bytes<=140737488355328)
  (hc:∀ j u,news[j]? = some u->w.cell? (ad.add j)=some u) (h1:∀ u∈news,u.oneCell'=true) :
  Calls P (ρ.f 41) #[.slice (some ad) n c] w fun e w'=>∃ v',e=.returned v'/\w'.ownsRow w.heap.size (ρ.t 23) size v' n news/\w.grownBy w' none:=by
 have mixed:=L.mixed; have t4:=L.t4; have a4:=L.a4; have z4:=L.z4; have v4:=L.v4; have t22:=L.t22; have a22:=L.a22; have z22:=L.z22; have v22:=L.v22
 have q22:∀ (w:World) (a:Option Addr) (n c n' c':Nat),(binOp .eql (ρ.t 22) (.slice a n c) (.slice none n' c')).run P w=.ok (.bool a.isNone) w:=fun w a n c n' c'=>Lib.run_eql_slice_nil w _ _ a n c n' c' L.t22
 have u22:∀ w,Sem.run P (underlying (ρ.t 22)) w=.ok (TypeDesc.slice (ρ.t 23)) w:=run_underlying t22
 have A:Aside (∀ j u,news[j]? = some u->w.cell? (ad.add j)=some u):=hc
 clear hc
 obtain ⟨_,_,FG⟩:=L.f41
 go_enter FG,SlBodyN.n41_ntmps ρ
 go_wp2_with (at_builtin; refine wpList_append_own _ rfl _ _ (ρ.t 22) rfl w.heap.size (ρ.t 23) i0 z size bytes t22 hi hz0 hz1 hz2 hzs hsz _ _ _ rfl (World.ownsRow_made w #[] 0 (Nat.le_refl _) (Nat.zero_le _) (by simp)) ad n c news rfl ?qc1 ?qc2 ?qc3 ?qc4 ?qc5 ?qc6 ?_)
 case qc1=>exact hl
 case qc2 =>
  intro j u hj
  exact Lib.cell?_alloc_some _ (A.out j u hj)
 case qc3=>exact h1
 case qc4=>rw [Nat.zero_add]; exact hn
 case qc5=>rw [Nat.zero_add]; exact hbig
 case qc6=>simp
 intro v' w1 hown hgrow hnil
 go_wp2
 go_ret
 refine ⟨v',rfl,by simpa using hown,⟨hgrow.os,hgrow.tape,hgrow.output,?_,fun k hk _=>?_⟩⟩
 ·have:=hgrow.size
  simp at this
  omega
 ·rw [hgrow.block k (by simp; omega) (by simp [Value.ownBlock]; omega)]
  simp only [World.alloc,Array.getElem?_push]
  rw [if_neg (by omega)]
set_option maxHeartbeats 1000000 in
theorem yd (L:SlLaysE0.n41 P ρ) (n c:Nat) (w:World) :
  Calls P (ρ.f 41) #[.slice none n c] w fun e w'=>e=.returned (.slice none 0 0)/\w'=w:=by
 have mixed:=L.mixed; have t4:=L.t4; have a4:=L.a4; have z4:=L.z4; have v4:=L.v4; have t22:=L.t22; have a22:=L.a22; have z22:=L.z22; have v22:=L.v22
 have q22:∀ (w:World) (a:Option Addr) (n c n' c':Nat),(binOp .eql (ρ.t 22) (.slice a n c) (.slice none n' c')).run P w=.ok (.bool a.isNone) w:=fun w a n c n' c'=>Lib.run_eql_slice_nil w _ _ a n c n' c' L.t22
 obtain ⟨_,_,FG⟩:=L.f41
 go_enter FG,SlBodyN.n41_ntmps ρ
 go_wp2
 go_ret
 exact ⟨rfl,rfl⟩
theorem FB {α:Type} {c:Prop} [Decidable c] {a b r:α} (h:(if c then a else b)=r):(c/\a=r)\/(¬ c/\b=r):=by
 by_cases hc:c
 ·rw [if_pos hc] at h; exact .inl ⟨hc,h⟩
 ·rw [if_neg hc] at h; exact .inr ⟨hc,h⟩
def QD (P:Program) (f:Nat) (args bs rs:List AV):Prop :=
 kI P f/\(∀ r∈rs,r.cells.all AV.nilFree=true)/\∃ n,n+bs.length=rs.length /\
  ∀ (H:HP) (φ:CG) (w:World) (cargs:List Value),SR H φ (Bd bs args) w->Aq (VB H φ (Bd bs args)) (DW (Fe bs) args) cargs ->
   Calls P f cargs.toArray w fun out w'=>match out with
    | .returned v=>Ov H φ w args bs (rs.drop n) (rs.take n) v w'
    | _=>False
theorem aZ {H H':HP} {φ φ':CG} {w w':World} {args rs:List AV} {v:Value} (h:Ae H φ (Bd [] args) w H' φ' (Bd [] rs) w') (hr:ACG H' φ' (Bd [] rs) (DW (Fe []) rs) v):Ov H φ w args [] [] rs v w':=by
 refine ⟨H',φ',h.le,h.sr,h.fr _ _ _ _ _ ⟨rfl,rfl,rfl,Nat.le_refl _,fun _ _ _=>rfl,fun _ _=>rfl,fun i bi hi _ b hb=>.inr ⟨i,(Aj.1 hi).1,hb⟩,fun j hj=>?_,fun _ _ _=>rfl⟩,hr⟩
 simp at hj
theorem zw {K:Kd} (L:SlLaysE0.n41 P ρ) (he:r4 P (ρ.t 23) K=true) {xs:List K.T} (hx:xs.length<=68719476736):QD P (ρ.f 41) [.lst K xs] [] [.new (ρ.t 23) K xs]:=by
 obtain ⟨i,z,hi,hz,h1,h2,h3,h4⟩:=Vh he
 have hn:xs.length<=maxLen:=by unfold maxLen; omega
 refine ⟨?_,?_,1,rfl,fun H φ w cargs hs ha=>?_⟩
 ·obtain ⟨nm,hnm,hf⟩:=L.f41
  exact ⟨_,_,hf,hnm,rfl⟩
 ·intro r hr
  simp only [B5] at hr
  subst hr
  rfl
 ·obtain ⟨v,rest,rfl,hv,hrest⟩:=ha
  have hrest:rest=[]:=hrest
  subst hrest
  ··obtain ⟨sl,cap,e,hc,hr⟩:=(show ZR (GN H K) K.sz H xs v from hv)
    subst e
    have fin:∀ (v':Value) (w':World) (flat:List Value),w'.ownsRow w.heap.size (ρ.t 23) K.sz v' xs.length flat->Dx H K xs flat->w.grownBy w' none->Ov H φ w [.lst K xs] [] [] [.new (ρ.t 23) K xs] v' w':=by
     intro v' w' flat ho hrr hg
     have hst:=Z0 (st:=Bd [] [.lst K xs]) hs hg ho hrr
     refine aZ (rs:=[.new (ρ.t 23) K xs]) hst ?_
     exact ⟨rfl,rfl⟩
    cases sl with
    | none =>
     have:xs=[]:=by
      rcases hr with h | ⟨_,_,_,_,_,h,_⟩
      ·exact h
      ·cases h
     subst this
     refine Calls.mono (yd L _ _ w) fun out w' h=>?_
     obtain ⟨rfl,rfl⟩:=h
     exact fin _ _ [] ⟨by simp,.inl ⟨rfl,rfl⟩⟩ (fun j x h=>by simp at h) ⟨rfl,rfl,rfl,Nat.le_refl _,fun _ _ _=>rfl⟩
    | some ad =>
     obtain ⟨sl2,cap2,flat,e2,_,hl,hrr,hcl⟩:=sn hs.hp (show ZR (GN H K) K.sz H xs (.slice (some ad) xs.length cap) from ⟨some ad,cap,rfl,hc,hr⟩)
     cases e2
     refine Calls.mono (zv L i z K.sz i.bytes hi hz h1 rfl h3 (Kd.sz_pos K) (fun w=>by simp [sizeOf,typeInfo,hi,h1]) ad xs.length cap flat w hl hn (Nat.le_trans (Nat.mul_le_mul hx h2) (by omega)) ?_ (De hrr hl)) fun out w' h=>?_
     ·intro j u hj
      rcases hcl with rfl | ⟨b,off,c,el,fz,ea,hb,hcc⟩
      ·have:flat=[]:=DV.1 (by rw [hl]; simp)
       rw [this] at hj
       simp at hj
      ·cases ea
       rw [Addr.add_none]
       have:=hs.hp _ _ hb
       have h5:=hcc j u hj
       simp only [World.cell?,this]
       simpa using h5
     ·obtain ⟨v',rfl,ho,hg⟩:=h
      exact fin v' w' flat ho hrr hg
end Go.Proofs.YtfcgblnlopemkaaGreatDoor.Core
