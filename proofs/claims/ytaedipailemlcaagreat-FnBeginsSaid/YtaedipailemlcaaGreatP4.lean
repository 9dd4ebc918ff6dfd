/- Texts of the proof, packed: part 5. -/
import Derived.Test.YtaedipailemlcaaGreatP3
import Derived.JoinedOf
import Derived.Test.YtaedipailemlcaaGreatRows
import Derived.ProofKit
set_option linter.unusedVariables false
set_option linter.unusedSimpArgs false
namespace Go.Proofs.YtaedipailemlcaaGreat.Core
open Go
set_option linter.unusedVariables false
set_option linter.unusedSimpArgs false
def TB (k:ByteArray) (b:AP):Bool:=b.1.toList==k.toList
theorem dx (k:ByteArray):∀ x:List AP,(x.filter (Oy k)).length+(x.filter (LD k)).length+(x.filter (TB k)).length=x.length
 | []=>rfl
 | b::x=>by
  have ih:=dx k x
  have hi:LD k b=!(Oy k b||TB k b):=rfl
  cases hl:Oy k b with
  | true =>
   have hs:TB k b=false:=by
    cases q:TB k b with
    | false=>rfl
    | true =>
     have e:b.1.toList=k.toList:=by simpa [TB] using q
     unfold Oy at hl
     rw [e,SZ] at hl
     cases hl
   simp only [List.filter_cons,hi,hl,hs,Bool.true_or,Bool.not_true,if_true,Bool.false_eq_true,if_false,List.length_cons]
   omega
  | false =>
   cases hs:TB k b with
   | true =>
    simp only [List.filter_cons,hi,hl,hs,Bool.false_or,Bool.not_true,if_true,Bool.false_eq_true,if_false,List.length_cons]
    omega
   | false =>
    simp only [List.filter_cons,hi,hl,hs,Bool.or_false,Bool.not_false,if_true,Bool.false_eq_true,if_false,List.length_cons]
    omega
def HZ (x:List AP) (k:ByteArray):Bool:=x.any (TB k)
theorem aP {x:List AP} {k:ByteArray}:HZ x k=true↔1≤(x.filter (TB k)).length:=by
 unfold HZ
 rw [List.any_eq_true]
 constructor
 ·rintro ⟨b,hb,hs⟩
  exact List.length_pos_of_mem (List.mem_filter.2 ⟨hb,hs⟩)
 ·intro h
  obtain ⟨b,hb⟩:=List.exists_mem_of_length_pos h
  exact ⟨b,(List.mem_filter.1 hb).1,(List.mem_filter.1 hb).2⟩
theorem Xe {x:List AP} {k:ByteArray} (h:HZ x k=false):B2 x k=(ByteArray.empty,ByteArray.empty,0):=by
 unfold B2
 have:x.find? (fun a=>a.1.toList==k.toList)=none:=by
  rw [List.find?_eq_none]
  intro b hb hs
  have:HZ x k=true:=List.any_eq_true.2 ⟨b,hb,hs⟩
  rw [h] at this
  cases this
 rw [this]
 rfl
theorem eX {x:List AP} {k:ByteArray} (h:HZ x k=true):B2 x k∈x∧(B2 x k).1.toList=k.toList:=by
 obtain ⟨b,hb,hs⟩:=List.any_eq_true.1 h
 unfold B2
 cases q:x.find? (fun a=>a.1.toList==k.toList) with
 | none =>
  rw [List.find?_eq_none] at q
  exact absurd hs (q b hb)
 | some c=>exact ⟨List.mem_of_find?_eq_some q,by simpa using List.find?_some q⟩
theorem ik {x:List AP} {k:ByteArray} (hx:As x=true):Nn (.pair .str (.pair .str (.int .i64))) (B2 x k) (ByteArray.empty,ByteArray.empty,(0:Int))=!HZ x k:=by
 cases h:HZ x k with
 | false=>rw [Xe h]; exact dn _
 | true =>
  obtain ⟨h1,h2⟩:=eX h
  have h3:=(GH.1 hx).1 _ h1
  unfold Iv at h3
  simp only [Bool.and_eq_true,decide_eq_true_eq] at h3
  have h4:((B2 x k).2.2==(0:Int))=false:=by
   rw [beq_eq_false_iff_ne]
   omega
  show ((B2 x k).1.toList==_&&((B2 x k).2.1.toList==_&&((B2 x k).2.2==(0:Int))))=false
  rw [h4,Bool.and_false,Bool.and_false]
theorem jw {x:List AP} {a:AP} (hx:As x=true) (ha:Iv a=true) (hv:KF x (a.2.2-1)) :
  By x a=if x.length=12∧HZ x a.1=false then x else Oz x a:=by
 obtain ⟨h1,h2,h3⟩:=GH.1 hx
 have hs:SB x a=false:=by
  cases q:SB x a with
  | false=>rfl
  | true =>
   obtain ⟨b,hb,hc⟩:=List.any_eq_true.1 q
   simp only [Bool.and_eq_true,decide_eq_true_eq] at hc
   have:=hv b hb
   omega
 have hl:=dx a.1 x
 have hlen:(Oz x a).length=(x.filter (Oy a.1)).length+1+(x.filter (LD a.1)).length:=by simp [Oz]; omega
 unfold By
 rw [hs,if_neg (by simp),if_pos hx]
 have hk:As (Oz x a)=true↔(Oz x a).length≤12:=by
  rw [GH]
  refine ⟨fun h=>h.2.2,fun h=>⟨fun b hb=>?_,aG a h2,h⟩⟩
  rcases dl hb with e | e
  ·rw [e]; exact ha
  ·exact h1 b e
 cases hh:HZ x a.1 with
 | true =>
  have:=aP.1 hh
  rw [if_pos (hk.2 (by omega)),if_neg (by simp)]
 | false =>
  have h0:(x.filter (TB a.1)).length=0:=by
   rcases Nat.eq_zero_or_pos (x.filter (TB a.1)).length with e | e
   ·exact e
   ·have:=aP.2 e
    rw [hh] at this
    cases this
  by_cases h12:x.length=12
  ·rw [if_neg (fun h=>by have:=hk.1 h; omega),if_pos ⟨h12,rfl⟩]
  ·rw [if_pos (hk.2 (by omega)),if_neg (fun h=>h12 h.1)]
theorem eY {x:List AP} {a:AP} (hx:As x=true) (ha:Iv a=true) (hv:KF x (a.2.2-1)) :
  Nn (.pair .str (.pair .str (.int .i64))) (B2 (By x a) a.1) a=!(decide (x.length=12)&&!HZ x a.1):=by
 obtain ⟨h1,h2,h3⟩:=GH.1 hx
 have ha2:=ha
 unfold Iv at ha2
 simp only [Bool.and_eq_true,decide_eq_true_eq] at ha2
 rw [jw hx ha hv]
 by_cases h:x.length=12∧HZ x a.1=false
 ·rw [if_pos h,Xe h.2,h.2,decide_eq_true h.1]
  have h4:((0:Int)==a.2.2)=false:=by
   rw [beq_eq_false_iff_ne]
   omega
  show (_&&(_&&((0:Int)==a.2.2)))=false
  rw [h4,Bool.and_false,Bool.and_false]
 ·rw [if_neg h,eU (aG a h2) ib,dn]
  by_cases h12:x.length=12
  ·cases hh:HZ x a.1 with
   | true=>simp
   | false=>exact absurd ⟨h12,hh⟩ h
  ·simp [h12]
def lJ (m:AA) (views:List (List Int)):Bool:=m.2.2.2.2.2.1&&(m.2.2.2.2.2.2.2.2.2.1==0)&&decide (m.2.2.2.2.2.2.2.2.1<900)&&decide (m.2.1≤(views.length:Int))&&((views.getD (m.2.1-1).toNat []).getD 0 0==m.1)
def lK (op call:Int) (key val:ByteArray):Bool:=(op==1||op==2)&&(decide (0≤call)&&decide (call≤1000))&&(decide (1≤(key.size:Int))&&decide ((key.size:Int)≤12))&&decide ((val.size:Int)≤20)&&(op==1||eR val)
theorem aQ (m:AA) (views:List (List Int)) (op call:Int) (key val:ByteArray):Nl m views op call key val=(lJ m views&&lK op call key val):=by
 unfold Nl lJ lK
 ac_rfl
theorem T0 (m:AA) (views:List (List Int)) (hm:Gk m) (hv:S8 views):FC views m=some (lJ m views,m):=PZ (by
 have hvl:=hv.len
 have hep:=hm.ep
 have hcnt:=hm.count
 have wm:IntKind.i64.wrap (m.2.1-1)=m.2.1-1:=AY (by omega)
 unfold Ig lJ
 cases h1:m.2.2.2.2.2.1 with
 | false=>rfl
 | true =>
  rw [if_pos (by rfl)]
  by_cases h2:m.2.2.2.2.2.2.2.2.2.1=0
  ·rw [if_pos (by rw [h2]; rfl),h2]
   by_cases h3:m.2.2.2.2.2.2.2.2.1=900
   ·rw [if_neg (by rw [h3]; simp),h3]
    rfl
   ·rw [if_pos (by simpa using h3),decide_eq_true (show m.2.2.2.2.2.2.2.2.1<900 by omega)]
    by_cases h4:m.2.1>(views.length:Int)
    ·rw [if_pos (by simpa using h4),decide_eq_false (show ¬ m.2.1≤(views.length:Int) by omega)]
     rfl
    ·rw [if_neg (by simpa using h4),decide_eq_true (show m.2.1≤(views.length:Int) by omega)]
     refine MC ?_
     have g1:=hv.get (i:=(m.2.1-1).toNat) (by omega)
     unfold Gc
     rw [Vo hv,Option.bind_some,if_pos (by rfl),wm,if_pos (by omega),if_pos (by omega),if_pos (by omega),if_pos (by omega)]
     rfl
  ·rw [if_neg (by simpa using h2),show (m.2.2.2.2.2.2.2.2.2.1==(0:Int))=false by simpa using h2]
   rfl)
theorem aR (op call:Int) (key val:ByteArray):PW op call key val=some (lK op call key val):=cc (by
 have w:∀ b,KY op val b=some (op==1||eR val):=fun b=>YO (by
  unfold Qe
  rw [cg]
  by_cases h:op=1
  ·rw [if_neg (by simp [h]),h]; rfl
  ·rw [if_pos (by simpa using h),show (op==1)=false by simpa using h]; rfl)
 unfold Ux lK
 have jn:decide ((val.size:Int)>20)=!decide ((val.size:Int)≤20):=by
  by_cases h:(val.size:Int)≤20
  ·rw [decide_eq_true h,decide_eq_false (by omega)]; rfl
  ·rw [decide_eq_false h,decide_eq_true (by omega)]; rfl
 have h12:(op==1||op==2)=(decide (1≤op)&&decide (op≤2)):=by
  by_cases a:op=1
  ·subst a; rfl
  ·by_cases b:op=2
   ·subst b; rfl
   ·rw [show (op==1)=false by simpa using a,show (op==2)=false by simpa using b,← Bool.decide_and,decide_eq_false (by omega)]; rfl
 rw [BR,Option.bind_some,BR,Qq,h12]
 cases (decide (1≤op)&&decide (op≤2)) with
 | false=>rfl
 | true =>
  rw [if_pos (by rfl),Option.bind_some]
  cases (decide (0≤call)&&decide (call≤1000)) with
  | false=>rfl
  | true =>
   rw [if_pos (by rfl),Option.bind_some]
   cases (decide (1≤(key.size:Int))&&decide ((key.size:Int)≤12)) with
   | false=>rfl
   | true =>
    rw [if_pos (by rfl),jn,w]
    cases decide ((val.size:Int)≤20)<;>rfl)
theorem Qs (m:AA) (views:List (List Int)) (op call:Int) (key val:ByteArray) (hm:Gk m) (hv:S8 views) (h1:V1 views m):K7 m views op call key val=some (B8 m views op call key val):=cX (by
 have hvl:=hv.len
 have hep:=hm.ep
 have hcnt:=hm.count
 have hl:=hm.lens
 have wm:IntKind.i64.wrap (m.2.1-1)=m.2.1-1:=AY (by omega)
 have wc:IntKind.i64.wrap (m.2.2.2.2.2.2.2.2.1+1)=m.2.2.2.2.2.2.2.2.1+1:=AY (by omega)
 have wk:IntKind.i64.wrap (1000*m.2.1)=1000*m.2.1:=AY (by omega)
 have wv:IntKind.i64.wrap (1000*m.2.1+(m.2.2.2.2.2.2.2.2.1+1))=1000*m.2.1+(m.2.2.2.2.2.2.2.2.1+1):=AY (by omega)
 unfold Un B8
 rw [MB hm,Option.bind_some,if_pos (by rfl),T0 m views hm hv,Option.bind_some,aR,aQ]
 cases hb:lJ m views with
 | false=>rfl
 | true =>
  dsimp only
  rw [if_pos (by rfl),Option.bind_some]
  cases ha:lK op call key val with
  | false=>rfl
  | true =>
   rw [if_neg (by simp),if_pos (by rfl)]
   have hmay:Nl m views op call key val=true:=by rw [aQ,hb,ha]; rfl
   obtain ⟨s1,s2,s3,s4,s5,s6,s7,s8,s9,s10⟩:=Sc hmay
   obtain ⟨b1,b2,_⟩:=hm.serves s1
   have hw:=hv.wok (i:=(m.2.1-1).toNat) (by omega)
   have hwl:=hw.len
   have hrl:=HX (views.getD (m.2.1-1).toNat []) m.1
   have ho:=Xd hw m.1
   have hone:Iv (De m key val)=true:=(GH.1 (dt hm s3 s6 s7)).1 _ (by simp)
   have href:=eY (a:=De m key val) hm.items hone ((h1.own b2 b1).mono (by show _≤1000*m.2.1+(m.2.2.2.2.2.2.2.2.1+1)-1; omega))
   have hz:=ik (k:=key) hm.items
   have J1:∀ b z,FR views op call b m z (m.1,m.2.1,m.2.2.1,m.2.2.2.1,m.2.2.2.2.1,m.2.2.2.2.2.1,m.2.2.2.2.2.2.1,m.2.2.2.2.2.2.2.1,m.2.2.2.2.2.2.2.2.1+1,m.2.2.2.2.2.2.2.2.2) (key,val,1000*m.2.1+(m.2.2.2.2.2.2.2.2.1+1))=some (Iy m (views.getD (m.2.1-1).toNat []) op call key val):=fun b z=>X_ (by
    unfold QS
    rw [wm,if_pos (by omega),if_pos (by omega),XC _ _ (by omega),Option.bind_some,FE (by show (CP (views.getD (m.2.1-1).toNat []) m.1).length≤_; omega),Option.bind_some]
    have hsort:=ba hw m.1
    change ((CY (CP (views.getD (m.2.1-1).toNat []) m.1)).bind _)=_
    rw [hsort,Option.bind_some]
    have J2:∀ a c d e x,(∀ q:B6,q=x→q.2.2.2.2.2.length≤12)→(fg (Df m (views.getD (m.2.1-1).toNat []) op call key val) (CP (views.getD (m.2.1-1).toNat []) m.1) x=Ph m (views.getD (m.2.1-1).toNat []) op key val) →
      HA (CP (views.getD (m.2.1-1).toNat []) m.1) a c (Df m (views.getD (m.2.1-1).toNat []) op call key val) d e x=some (Iy m (views.getD (m.2.1-1).toNat []) op call key val):=fun a c d e x hx12 htell=>X9 (by
     have hx:=hx12 x rfl
     unfold QR Iy
     by_cases h0:(CP (views.getD (m.2.1-1).toNat []) m.1).length=0
     ·rw [if_pos (by simpa using h0),if_pos (List.length_eq_zero_iff.1 (by rw [ho,h0])),aO _ (by show m.2.2.2.2.2.2.2.1.length≤_; omega),Option.bind_some]
     ·rw [if_neg (by simpa using h0),if_neg (fun e=>h0 (by rw [← ho,e]; rfl)),Vn _ _ _ (by omega) (by omega),Option.bind_some,htell]
      exact fi)
    by_cases hop:op=1
    ·rw [if_pos (by simpa using hop)]
     refine J2 _ _ _ _ _ (fun q e=>by subst e; simp) ?_
     unfold fg Ph
     simp only [hop,if_true]
     rfl
    ·rw [if_neg (by simpa using hop)]
     refine J2 _ _ _ _ _ (fun q e=>by subst e; simp) ?_
     unfold fg Ph
     simp only [hop,if_false]
     rfl)
   refine YA ?_
   unfold QT
   rw [hm.icopy,Option.bind_some,wc,wk,wv]
   by_cases hop:op=1
   ·rw [if_pos (by simpa using hop)]
    by_cases h12:m.2.2.2.2.2.2.2.1.length=12
    ·rw [if_pos (by simp only [beq_iff_eq]; omega),Jd _ _ (by unfold maxLen; omega),Option.bind_some]
     change (if (false != Nn (.pair .str (.pair .str (.int .i64))) (B2 m.2.2.2.2.2.2.2.1 key) (ByteArray.empty,ByteArray.empty,(0:Int)))=true then _ else _)=_
     rw [hz]
     rw [h12] at href
     cases hh:HZ m.2.2.2.2.2.2.2.1 key with
     | false =>
      have hh2:HZ m.2.2.2.2.2.2.2.1 (De m key val).1=false:=hh
      rw [hh2] at href
      rw [if_pos (by rfl),if_pos ⟨hop,href⟩]
      rfl
     | true =>
      have hh2:HZ m.2.2.2.2.2.2.2.1 (De m key val).1=true:=hh
      rw [hh2] at href
      rw [if_neg (by simp),if_neg (fun h=>by have:=h.2; change Nn (.pair .str (.pair .str (.int .i64))) (B2 _ (De m key val).1) _=false at this; rw [href] at this; cases this)]
      exact J1 _ _
    ·rw [if_neg (by simp; omega),if_neg (fun h=>by
      have:=h.2
      change Nn (.pair .str (.pair .str (.int .i64))) (B2 _ (De m key val).1) _=false at this
      rw [href,decide_eq_false h12] at this
      cases this)]
     exact J1 _ _
   ·rw [if_neg (by simpa using hop),if_neg (fun h=>hop h.1)]
    exact J1 _ _)
theorem fV.v3 {g:Av} (h:fV g):V3 g:=by
 obtain ⟨v,es,hv,hl,he,rfl⟩:=h
 exact V3.run es 0 _ _ (Sd hv) (V3.new hv) (by omega) he
theorem cp (x) (hx:Kd.ok (.slice (.int .u8)) x):QL x=some true:=X3 (by
 unfold QM
 rw [bA,Option.bind_some]
 by_cases hbig:x.length≤1048576
 case neg=>rw [if_pos (by simp; omega)]
 rw [if_neg (by simp; omega)]
 obtain ⟨m,g,e,hm,hv,hlv,hor⟩:=Q4 x hbig
 have h1:V1 g.1 m:=by
  rcases hor with ⟨i,hi,rfl⟩ | ⟨i,rfl⟩
  ·exact hlv.v3.mem i hi
  ·exact V1.first hv
 have hvl:=hv.len
 have hep:=hm.ep
 have hcnt:=hm.count
 have wm:IntKind.i64.wrap (m.2.1-1)=m.2.1-1:=AY (by omega)
 rw [e,Option.bind_some]
 dsimp only
 rw [Qs m g.1 1 3 _ _ hm hv h1,Option.bind_some,Qr m g.1 1 3 _ _ hm hv,Option.bind_some]
 have hok:=W_ (op:=1) (call:=3) (key:=(⟨#[97]⟩:ByteArray)) (val:=(⟨#[122]⟩:ByteArray)) hm hv
 generalize hr:B8 m g.1 1 3 (⟨#[97]⟩:ByteArray) (⟨#[122]⟩:ByteArray)=r at hok ⊢
 rw [if_pos (by simp [Nn]),if_pos (by simp),if_neg (by simp)]
 refine TZ ?_
 unfold Ll
 unfold B8 at hr
 by_cases hmay:Nl m g.1 1 3 (⟨#[97]⟩:ByteArray) (⟨#[122]⟩:ByteArray)=true
 case neg =>
  rw [if_neg hmay] at hr
  subst hr
  rfl
 rw [if_pos hmay] at hr
 by_cases hrf:(1:Int)=1∧Nn (.pair .str (.pair .str (.int .i64))) (B2 (By m.2.2.2.2.2.2.2.1 (De m (⟨#[97]⟩:ByteArray) (⟨#[122]⟩:ByteArray))) (⟨#[97]⟩:ByteArray)) (De m (⟨#[97]⟩:ByteArray) (⟨#[122]⟩:ByteArray))=false
 ·rw [if_pos hrf] at hr
  subst hr
  rfl
 rw [if_neg hrf] at hr
 obtain ⟨s1,s2,s3,s4,s5,s6,s7,s8,s9,s10⟩:=Sc hmay
 have hw:=hv.wok (i:=(m.2.1-1).toNat) (by omega)
 have hwl:=hw.len
 have ho:=Xd hw m.1
 have hin:m.1∈g.1.getD (m.2.1-1).toNat []:=by
  rw [← s10,AU (show 0<(g.1.getD (m.2.1-1).toNat []).length by omega)]
  exact List.getElem_mem _
 have hrest:(CP (g.1.getD (m.2.1-1).toNat []) m.1).length+1=(g.1.getD (m.2.1-1).toNat []).length:=gd hw hin
 have heq:Nn (.pair .str (.pair .str (.int .i64))) (B2 (By m.2.2.2.2.2.2.2.1 (De m (⟨#[97]⟩:ByteArray) (⟨#[122]⟩:ByteArray))) (⟨#[97]⟩:ByteArray)) (De m (⟨#[97]⟩:ByteArray) (⟨#[122]⟩:ByteArray))=true:=by
  cases q:Nn (.pair .str (.pair .str (.int .i64))) (B2 (By m.2.2.2.2.2.2.2.1 (De m (⟨#[97]⟩:ByteArray) (⟨#[122]⟩:ByteArray))) (⟨#[97]⟩:ByteArray)) (De m (⟨#[97]⟩:ByteArray) (⟨#[122]⟩:ByteArray)) with
  | true=>rfl
  | false=>exact absurd ⟨rfl,q⟩ hrf
 have hht:r.2.2.2=true:=by rw [← hr]; unfold Iy; split<;>rfl
 rw [hht,if_neg (by simp),wm,if_pos (by omega),if_pos (by omega)]
 unfold Iy at hr
 by_cases h0:Dz (g.1.getD (m.2.1-1).toNat []) m.1=[]
 ·rw [if_pos h0] at hr
  have hone:(g.1.getD (m.2.1-1).toNat []).length=1:=by
   have:(CP (g.1.getD (m.2.1-1).toNat []) m.1).length=0:=by rw [← ho,h0]; rfl
   omega
  rw [if_pos (by simp only [beq_iff_eq]; omega)]
  have hf:DS (Df m (g.1.getD (m.2.1-1).toNat []) 1 3 (⟨#[97]⟩:ByteArray) (⟨#[122]⟩:ByteArray))=([(3,m.2.1,m.2.2.2.2.2.2.2.2.1+1,De m (⟨#[97]⟩:ByteArray) (⟨#[122]⟩:ByteArray))],LH (Df m (g.1.getD (m.2.1-1).toNat []) 1 3 (⟨#[97]⟩:ByteArray) (⟨#[122]⟩:ByteArray)) (By m.2.2.2.2.2.2.2.1 (De m (⟨#[97]⟩:ByteArray) (⟨#[122]⟩:ByteArray)))):=rfl
  rw [hf] at hr
  subst hr
  dsimp only
  rw [if_pos (by rfl),if_pos (by decide),if_pos (by simp),if_pos (by rfl)]
  change ((FW (By m.2.2.2.2.2.2.2.1 (De m (⟨#[97]⟩:ByteArray) (⟨#[122]⟩:ByteArray))) (⟨#[97]⟩:ByteArray)).bind _)=_
  have hl:=hm.lens
  rw [Jd _ _ (by have:=XZ m.2.2.2.2.2.2.2.1 (De m (⟨#[97]⟩:ByteArray) (⟨#[122]⟩:ByteArray)); unfold maxLen; omega),Option.bind_some]
  simp only [Nn,Bool.and_eq_true] at heq
  exact (if_pos heq.2.1).trans rfl
 ·rw [if_neg h0] at hr
  have hone:(g.1.getD (m.2.1-1).toNat []).length≠1:=by
   intro h
   have:(Dz (g.1.getD (m.2.1-1).toNat []) m.1).length=0:=by omega
   exact h0 (List.length_eq_zero_iff.1 this)
  rw [if_neg (by simp only [beq_iff_eq]; omega)]
  subst hr
  have htk:Gk (Df m (g.1.getD (m.2.1-1).toNat []) 1 3 (⟨#[97]⟩:ByteArray) (⟨#[122]⟩:ByteArray)):=hm.task1 s1 s3 s4 s5
  have hV1:V1 g.1 (Df m (g.1.getD (m.2.1-1).toNat []) 1 3 (⟨#[97]⟩:ByteArray) (⟨#[122]⟩:ByteArray)):=by
   have hb:(B8 m g.1 1 3 (⟨#[97]⟩:ByteArray) (⟨#[122]⟩:ByteArray)).2.2.2=true:=by
    unfold B8 Iy
    rw [if_pos hmay,if_neg hrf,if_neg h0]
   have:=(fY hm h1 hb).1
   unfold B8 Iy at this
   rw [if_pos hmay,if_neg hrf,if_neg h0] at this
   exact this
  dsimp only
  rw [Qs _ g.1 2 4 _ _ htk hv hV1,Option.bind_some]
  have hno:(B8 (Df m (g.1.getD (m.2.1-1).toNat []) 1 3 (⟨#[97]⟩:ByteArray) (⟨#[122]⟩:ByteArray)) g.1 2 4 (⟨#[97]⟩:ByteArray) (⟨#[]⟩:ByteArray)).2.2.2=false:=by
   unfold B8
   rw [if_neg]
   unfold Nl Df
   simp
  rw [hno]
  have hal:(Ph m (g.1.getD (m.2.1-1).toNat []) 1 (⟨#[97]⟩:ByteArray) (⟨#[122]⟩:ByteArray)).length=(CP (g.1.getD (m.2.1-1).toNat []) m.1).length:=by simp [Ph]
  have hol:((Df m (g.1.getD (m.2.1-1).toNat []) 1 3 (⟨#[97]⟩:ByteArray) (⟨#[122]⟩:ByteArray)).2.2.2.2.2.2.2.2.2.2.2.2.2).length=(CP (g.1.getD (m.2.1-1).toNat []) m.1).length:=ho
  have J2:∀ a c d,HM (Ph m (g.1.getD (m.2.1-1).toNat []) 1 (⟨#[97]⟩:ByteArray) (⟨#[122]⟩:ByteArray)) [] (g.1.getD (m.2.1-1).toNat []) false a (Df m (g.1.getD (m.2.1-1).toNat []) 1 3 (⟨#[97]⟩:ByteArray) (⟨#[122]⟩:ByteArray)) c d=some true:=fun a c d=>TY (by
   unfold Lk
   have wv:IntKind.i64.wrap (((g.1.getD (m.2.1-1).toNat []).length:Int)-1)=((g.1.getD (m.2.1-1).toNat []).length:Int)-1:=AY (by omega)
   rw [if_pos (by rfl),if_pos (by rfl),wv,hal,hol,if_pos (by simp only [beq_iff_eq]; omega),if_pos (by simp only [beq_iff_eq]; omega),MB htk]
   rfl)
  have key:∀ a c d,Dq (Ph m (g.1.getD (m.2.1-1).toNat []) 1 (⟨#[97]⟩:ByteArray) (⟨#[122]⟩:ByteArray)) [] (g.1.getD (m.2.1-1).toNat []) false ((0:Nat):Int) a (Df m (g.1.getD (m.2.1-1).toNat []) 1 3 (⟨#[97]⟩:ByteArray) (⟨#[122]⟩:ByteArray)) c d=some true:=fun a c d =>
   Gz (n:=(Ph m (g.1.getD (m.2.1-1).toNat []) 1 (⟨#[97]⟩:ByteArray) (⟨#[122]⟩:ByteArray)).length) (P:=fun i=>Dq (Ph m (g.1.getD (m.2.1-1).toNat []) 1 (⟨#[97]⟩:ByteArray) (⟨#[122]⟩:ByteArray)) [] (g.1.getD (m.2.1-1).toNat []) false (i:Int) a (Df m (g.1.getD (m.2.1-1).toNat []) 1 3 (⟨#[97]⟩:ByteArray) (⟨#[122]⟩:ByteArray)) c d=some true) (Ln (by
    unfold HN
    rw [if_neg (by simp)]
    exact J2 a c d)) (fun i hi ih=>Ln (by
    unfold HN
    have hz:(Ph m (g.1.getD (m.2.1-1).toNat []) 1 (⟨#[97]⟩:ByteArray) (⟨#[122]⟩:ByteArray)).getD i ((0:Int),(0:Int),(0:Int),(0:Int),(0:Int),([]:List AP))=(Ph m (g.1.getD (m.2.1-1).toNat []) 1 (⟨#[97]⟩:ByteArray) (⟨#[122]⟩:ByteArray))[i]:=AU hi
    obtain ⟨v,hvm,hve⟩:=List.mem_map.1 (List.getElem_mem hi)
    have hvin:v∈g.1.getD (m.2.1-1).toNat []:=(List.mem_filter.1 hvm).1
    simp only [show ((i:Int)<((Ph m (g.1.getD (m.2.1-1).toNat []) 1 (⟨#[97]⟩:ByteArray) (⟨#[122]⟩:ByteArray)).length:Int)) from by omega,decide_true,if_true,show (0:Int)≤(i:Int) from by omega,Int.toNat_natCast,hz,← hve]
    rw [if_pos (by rfl),cn _ _ (by unfold maxLen; omega),Option.bind_some,if_pos (by rw [List.contains_iff_mem.2 hvin]; rfl),if_pos (by decide),if_pos (by simp),if_neg (by simp [De]),AR (show i<9223372036854775807 by omega)]
    exact ih)) 0 (by omega)
  exact key _ _ _)
end Go.Proofs.YtaedipailemlcaaGreat.Core

namespace Go.Proofs.YtaedipailemlcaaGreat.Core
open Go
theorem il {P:Program} {c:List Char} {rest:List (List Char)} (h:behindMainWord (wordsSigns P.initOrder.toList)=c::rest) (h1:(c == "gc".toList||c == "spec".toList)=false) (h2:(c == "cut".toList||(c == "finals".toList&&rest.head? == some "cut".toList))=true):P.make=some .cut:=by
 unfold Program.make
 rw [h]
 simp only [h1,h2]
 rfl
theorem im {P:Program} {c:List Char} {rest:List (List Char)} (h:behindMainWord (wordsSigns P.initOrder.toList)=c::rest) (h1:((stripLifts liftWords (c::rest)).2.head? == some "cut".toList)=true) (h2:(stripLifts liftWords (c::rest)).1=[])
  (h3:P.laysLater=false) (h4:P.bearsReflect=false) (h5:P.doorFits []=true):P.mayEnter=true:=by
 unfold Program.mayEnter
 rw [h]
 simp only [h1,h2,h3,h4,h5]
 simp
theorem ip {P:Program} {c:List Char} {rest:List (List Char)} (h:behindMainWord (wordsSigns P.initOrder.toList)=c::rest) (h1:(c == "carried".toList)=false) (h2:(stripLifts liftWords (c::rest)).1=[]):P.liftsFinal=false:=by
 have e:(some c==some "carried".toList)=false:=h1
 unfold Program.liftsFinal Program.headLifts
 rw [h]
 simp only [List.head?_cons,e,h2]
 simp
theorem Ha {a b:Bool} (h:a=true) (g:b=true):(a&&b)=true:=by rw [h,g]; rfl
theorem iq {α:Type} [BEq α] [LawfulBEq α] {a b:α} (h:a=b):(a==b)=true:=by rw [h]; exact beq_self_eq_true b
end Go.Proofs.YtaedipailemlcaaGreat.Core

namespace Go.Proofs.YtaedipailemlcaaGreat.Core
open Go
set_option maxRecDepth 100000
def lf:List Nat:=[104,97,114,110,101,115,115,32,98,50,99,51,48,48,98,97,49,48,99,99,50,54,56,50,57,101,51,51,54,56,98,54,101,51,100,99,99,51,56,98,50,51,98,101,98,50,56,100,50,52,48,100,48,100,102,97,53,53,52,49,102,57,53,54,56,101,56,100,55,48,99,55,32,99,117,116,32,97,116,32,108,111,111,112,46,101,120,97,109,112,108,101,47,103,48,48,49,56,48,47,108,97,119,115,46,70,110,77,101,109,98,101,114,115,32,108,111,111,112,46,101,120,97,109,112,108,101,47,103,48,48,49,56,48,47,108,97,119,115,46,70,110,83,101,97,108,115,32,108,111,111,112,46,101,120,97,109,112,108,101,47,103,48,48,49,56,48,47,108,97,119,115,46,70,110,66,101,103,105,110,115]
def lg:List Nat:=[99,117,116]
def lh:List (List Nat):=[[97,116],[108,111,111,112,46,101,120,97,109,112,108,101,47,103,48,48,49,56,48,47,108,97,119,115,46,70,110,77,101,109,98,101,114,115],[108,111,111,112,46,101,120,97,109,112,108,101,47,103,48,48,49,56,48,47,108,97,119,115,46,70,110,83,101,97,108,115],[108,111,111,112,46,101,120,97,109,112,108,101,47,103,48,48,49,56,48,47,108,97,119,115,46,70,110,66,101,103,105,110,115]]
theorem io:Tryz.prog.initOrder.toList=lf.map Char.ofNat:=(congrArg String.toList (show Tryz.prog.initOrder=String.ofList (lf.map Char.ofNat) from by kernel_rfl)).trans String.toList_ofList
theorem la:behindMainWord (wordsSigns Tryz.prog.initOrder.toList)=lg.map Char.ofNat::lh.map fun w=>w.map Char.ofNat:=by
 rw [io]
 kernel_rfl
theorem lc:Tryz.prog.make=some .cut:=il la (by kernel_rfl) (by kernel_rfl)
theorem enters:Tryz.prog.mayEnter=true:=im la (by kernel_rfl) (by kernel_rfl) (by kernel_rfl) (by kernel_rfl) (by kernel_rfl)
theorem jx:Tryz.prog.liftsFinal=false:=ip la (by kernel_rfl) (by kernel_rfl)
theorem dy:laidOutB Tryz.prog=true:=by kernel_rfl
theorem eZ:mapsRowed Tryz.prog=true:=by kernel_rfl
theorem ki:Tryz.prog.stopsHeard=true:=by kernel_rfl
end Go.Proofs.YtaedipailemlcaaGreat.Core
