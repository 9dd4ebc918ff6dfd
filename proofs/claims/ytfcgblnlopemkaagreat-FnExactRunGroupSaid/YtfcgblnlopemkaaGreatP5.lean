/- Texts of the proof, packed: part 6. -/
import Derived.Test.YtfcgblnlopemkaaGreatP4
import Derived.JoinedOf
import Derived.Test.YtfcgblnlopemkaaGreatRows
import Derived.ProofKit
set_option linter.unusedVariables false
set_option linter.unusedSimpArgs false
namespace Go.Proofs.YtfcgblnlopemkaaGreat.Core
open Go
def td (x:Bc):Bc:=if x.1=3 then (x.1,x.2.1,x.2.2.1,x.2.2.2.1,0,x.2.2.2.2.2) else x
def aa (m:AF) (views:List (List Int)) (x:Bc):AF×List Bc×List Dt:=if WH x=true then EY m views (td x) else (m,[],[])
theorem ABQ (x:Bc):(td x).2.2.1=x.2.2.1/\(td x).2.2.2.1=x.2.2.2.1:=by unfold td; split<;>exact ⟨rfl,rfl⟩
theorem bG {m:AF} {views:List (List Int)} {x:Bc} (h:¬ (x.2.2.1=m.1/\m.2.1<=x.2.2.2.1/\x.2.2.2.1<=(views.length:Int)/\WH x=true)):aa m views x=(m,[],[]):=by
 unfold aa
 split
 ·rename_i hx
  unfold EY
  rw [if_neg (by
   rw [(ABQ x).1,(ABQ x).2]
   simp only [AE,beq_iff_eq,decide_eq_true_eq]
   exact fun g=>h ⟨g.1.1.2,g.1.2,g.2,hx⟩)]
 ·rfl
theorem vU {x:Bc} (h:x.1≠3):td x=x:=if_neg h
theorem ABR {x:Bc} (h:x.1=3->x.2.2.2.2.1=0):td x=x:=by
 unfold td
 split
 ·rename_i e
  obtain ⟨a,b,c,d,e,f⟩:=x
  have:=h ‹_›
  dsimp only at this
  rw [this]
 ·rfl
theorem xK {m:AF} {views:List (List Int)} {x:Bc} (hx:XOk x) (h1:x.2.2.1=m.1) (h2:m.2.1<=x.2.2.2.1) (h3:x.2.2.2.1<=(views.length:Int)):EY m views x =
  (if x.2.2.2.1=m.2.1 then fJ m (views.getD (m.2.1-1).toNat []) x
  else if (x.1==1&&(x.2.2.2.1==m.2.1+1)&&m.2.2.2.1&&(views.getD (m.2.1-1).toNat []).contains m.1)=true then (WJ m x.2.2.2.1,[(2,m.1,x.2.1,x.2.2.2.1,0,m.2.2.2.2.2.2.2.1)],[])
  else if (x.1==3&&(views.getD (x.2.2.2.1-1).toNat []).contains m.1&&((views.getD (x.2.2.2.1-1).toNat []).getD 0 0 != m.1))=true then
   ((m.1,x.2.2.2.1,false,true,false,false,([]:List Int),x.2.2.2.2.2,(0:Int),(0:Int),(0:Int),(0:Int),(U,U,(0:Int)),([]:List Int)),En m x 4,[])
  else (m,[],[])):=by
 unfold EY
 rw [if_pos (by rw [bC.2 hx]; simp [h1,h2,h3])]
theorem jI {a:AF} {b:List Bc} {c:List Dt} {r:AF×List Bc×List Dt} (h:r=(a,b,c)):(b,c,a)=(r.2.1,r.2.2,r.1):=by rw [h]
theorem sP (m:AF) (views:List (List Int)) (x:Bc) (hm:J_ m) (hv:WP views) (hx:XOk x) (h1:x.2.2.1=m.1) (h2:m.2.1<=x.2.2.2.1) (h3:x.2.2.2.1<=(views.length:Int)) :
  LJ views x m=some ((aa m views x).2.1,(aa m views x).2.2,(aa m views x).1):=fA (by
 have hvl:=hv.len
 have hep:=hm.ep
 have hxe:=hx.ep
 have hxi:=Jk hx.items
 obtain ⟨l1,l2,l3⟩:=hm.lens
 have hin:=xK hx h1 h2 h3
 unfold SL aa
 rw [if_pos (bC.2 hx)]
 have hV:=hv.wok (i:=(m.2.1-1).toNat) (by omega)
 generalize hVe:views.getD (m.2.1-1).toNat []=V at hV hin
 have hk:=hx.kind
 by_cases k1:x.1=1
 ·rw [if_pos (by simpa using k1),sO m views x hm hv (by omega),AC,vU (by omega)]
  congr 1
  apply jI
  rw [hin]
  unfold ABN
  rw [hVe]
  by_cases e:x.2.2.2.1=m.2.1
  ·rw [if_pos e,if_neg (by rw [e]; simp; omega)]
   unfold fJ
   simp [k1]
  ·rw [if_neg e]
   cases hc:(x.2.2.2.1==m.2.1+1&&m.2.2.2.1&&V.contains m.1) with
   | true =>
    rw [if_pos (by rw [k1]; simpa using hc),if_pos rfl]
   | false =>
    rw [if_neg (by rw [k1]; simpa using hc),if_neg (by simp [k1]),if_neg (by simp)]
 rw [if_neg (by simpa using k1)]
 by_cases k2:x.1=2
 ·have J:∀ b:Bool,(b=true->m.2.2.2.1=false)->D3 views b m x=some (if b=true then ((CV V m.1).map (fun v=>(3,m.1,v,m.2.1,0,x.2.2.2.2.2)),[],WI m V x.2.2.2.2.2) else ([],[],m)):=fun b hb=>Yi (by
   unfold Nj
   cases b with
   | false=>rw [if_neg (by simp),if_neg (by simp)]
   | true =>
    have hs:m.2.2.2.2.2.1=false:=by
     cases hh:m.2.2.2.2.2.1 with
     | false=>rfl
     | true=>have:=(hm.serves hh).1; rw [hb rfl] at this; cases this
    rw [if_pos rfl,if_pos rfl,AN (by omega),if_pos (by omega),if_pos (by omega),hVe,SQ V _ m hV (by omega) hs,AC])
  rw [if_pos (by simpa using k2),vU (by omega)]
  by_cases e:x.2.2.2.1=m.2.1
  ·rw [if_pos (by simpa using e)]
   have ho:EY m views x=(if (m.2.2.2.2.1&&!m.2.2.2.1)=true then (WI m V x.2.2.2.2.2,(CV V m.1).map (fun v=>(3,m.1,v,m.2.1,0,x.2.2.2.2.2)),[]) else (m,[],[])):=by
    rw [hin,if_pos e]; unfold fJ; rw [if_pos k2]
   rw [ho]
   cases hl:m.2.2.2.2.1 with
   | false=>rw [if_neg (by simp),J false (by simp),if_neg (by simp),if_neg (by simp)]
   | true =>
    rw [if_pos (by rfl),J _ (by simp)]
    cases hb:m.2.2.2.1 with
    | true=>rw [if_neg (by simp),if_neg (by simp)]
    | false=>rw [if_pos (by rfl),if_pos (by rfl)]
  ·rw [if_neg (by simpa using e),J false (by simp),if_neg (by simp)]
   congr 1
   apply jI
   rw [hin,if_neg e,if_neg (by simp [k2]),if_neg (by simp [k2])]
 rw [if_neg (by simpa using k2)]
 by_cases k3:x.1=3
 ·have hW:=hv.wok (i:=(x.2.2.2.1-1).toNat) (by omega)
  rw [if_pos (by simpa using k3),AN (by omega),if_pos (by omega),if_pos (by omega)]
  have hx':XOk (td x):=by
   unfold td
   rw [if_pos k3]
   exact ⟨hx.kind,hx.frm,hx.to,hx.ep,(show (0:Int)<=0/\(0:Int)<=1000000000 from by decide),hx.items,hx.shape⟩
  have hf:td x=(x.1,x.2.1,x.2.2.1,x.2.2.2.1,0,x.2.2.2.2.2):=if_pos k3
  have hin2:=xK (m:=m) (views:=views) hx' (by rw [hf]; exact h1) (by rw [hf]; exact h2) (by rw [hf]; exact h3)
  rw [hVe] at hin2
  generalize hWe:views.getD (x.2.2.2.1-1).toNat []=Wv at hW
  rw [jH m Wv x hW (by omega),AC]
  congr 1
  apply jI
  rw [hin2,hf]
  dsimp only
  rw [hWe]
  unfold ABP
  by_cases e:x.2.2.2.1=m.2.1
  ·have hVW:Wv=V:=by rw [<- hWe,<- hVe,e]
   rw [if_pos e]
   unfold fJ
   rw [if_neg (by rw [k3]; decide),if_pos k3,hVW]
   dsimp only
   cases hc:(!V.contains m.1||(V.getD 0 0==m.1)) with
   | true=>simp only [if_true]
   | false =>
    simp only [Bool.false_eq_true,if_false]
    cases hb:m.2.2.2.1<;>cases hf2:m.2.2.1<;>simp [e,En,ABO]
  ·rw [if_neg e,if_neg (by rw [k3]; simp)]
   cases hc:(!Wv.contains m.1||(Wv.getD 0 0==m.1)) with
   | true =>
    rw [if_neg (by
     intro h
     simp only [AE,bne_iff_ne,Ec,Dw,beq_iff_eq] at h hc
     rcases hc with hc | hc
     ·rw [hc] at h; exact absurd h.1.2 (by simp)
     ·exact h.2 hc),if_pos rfl]
   | false =>
    rw [if_pos (by
     simp only [Bool.or_eq_false_iff,Bool.not_eq_false'] at hc
     rw [k3,hc.1]
     simpa using hc.2),if_neg (by simp),if_pos (Or.inl (by omega))]
    rfl
 rw [if_neg (by simpa using k3),vU k3]
 by_cases k4:x.1=4
 ·rw [if_pos (by simpa using k4)]
  have J:∀ b:Bool,F3 b m x=some (if b=true then ([],[],(m.1,m.2.1,m.2.2.1,m.2.2.2.1,m.2.2.2.2.1,m.2.2.2.1&&(((m.2.2.2.2.2.2.1.filter (· != x.2.1)).length:Int)==0),m.2.2.2.2.2.2.1.filter (· != x.2.1),m.2.2.2.2.2.2.2)) else ([],[],m)):=fun b=>Yj (by
   unfold Nk
   cases b with
   | false=>rw [if_neg (by simp),if_neg (by simp)]
   | true =>
    rw [if_pos rfl,if_pos rfl,UE _ _ (by omega),AC]
    cases hs:m.2.2.2.2.2.1 with
    | true =>
     obtain ⟨q1,q2,q3⟩:=hm.serves hs
     rw [if_neg (by simp),q3,q1]
     rfl
    | false =>
     rw [if_pos rfl]
     cases hq:(((m.2.2.2.2.2.2.1.filter (· != x.2.1)).length:Int)==0) with
     | true=>rw [if_pos rfl,Bool.and_true]
     | false=>rw [if_neg (by simp),Bool.and_false])
  by_cases e:x.2.2.2.1=m.2.1
  ·rw [if_pos (by simpa using e),J]
   have ho:EY m views x=(if m.2.2.2.2.1=true then
     ((m.1,m.2.1,m.2.2.1,m.2.2.2.1,m.2.2.2.2.1,m.2.2.2.1&&(((m.2.2.2.2.2.2.1.filter (· != x.2.1)).length:Int)==0),m.2.2.2.2.2.2.1.filter (· != x.2.1),m.2.2.2.2.2.2.2),[],[]) else (m,[],[])):=by
    rw [hin,if_pos e]; unfold fJ; rw [if_neg k2,if_neg k3,if_pos k4]
   rw [ho]
   cases hl:m.2.2.2.2.1 with
   | false=>rw [if_neg (by simp),if_neg (by simp)]
   | true=>rw [if_pos rfl,if_pos rfl]
  ·rw [if_neg (by simpa using e),J,if_neg (by simp)]
   congr 1
   apply jI
   rw [hin,if_neg e,if_neg (by simp [k4]),if_neg (by simp [k4])]
 rw [if_neg (by simpa using k4)]
 have st:x.1=5\/x.1=7->vT m x=((EY m views x).2.1,(EY m views x).1)/\(EY m views x).2.2=[]:=fun hk=>by
  rw [hin]
  unfold vT
  by_cases e:x.2.2.2.1=m.2.1
  ·rw [if_pos e]
   unfold fJ En
   rw [if_neg k2,if_neg k3,if_neg k4,e]
   cases hb:m.2.2.2.1 with
   | true =>
    rcases hk with hk | hk
    ·rw [if_pos (by simp),if_neg (by omega),if_pos hk,if_pos rfl]
     exact ⟨rfl,rfl⟩
    ·rw [if_pos (by simp),if_pos hk,if_neg (by omega),if_pos hk,if_pos rfl]
     exact ⟨rfl,rfl⟩
   | false =>
    rcases hk with hk | hk
    ·rw [if_neg (by simp),if_pos hk,if_neg (by simp)]
     exact ⟨rfl,rfl⟩
    ·rw [if_neg (by simp),if_neg (by omega),if_pos hk,if_neg (by simp)]
     exact ⟨rfl,rfl⟩
  ·simp [e,k1,k3]
 have sd:∀ op,x.1=6/\op=1\/x.1=8/\op=2->(if (x.2.2.2.1==m.2.1&&m.2.2.2.2.2.2.2.2.2.1==op&&m.2.2.2.2.2.2.2.2.2.2.2.1==x.2.2.2.2.1)=true then ((G3 m x.2.1).2.2,(G3 m x.2.1).1) else ([],m))=((EY m views x).2.2,(EY m views x).1)/\(EY m views x).2.1=[]:=fun op hk=>by
  have ht:(G3 m x.2.1).2.1=[]:=by unfold G3; split<;>rfl
  rw [hin]
  by_cases e:x.2.2.2.1=m.2.1
  ·rw [if_pos e]
   unfold fJ
   rw [if_neg k2,if_neg k3,if_neg k4,if_neg (show ¬ x.1=5 by omega),if_neg (show ¬ x.1=7 by omega),e]
   have hop:(if x.1=8 then (2:Int) else 1)=op:=by
    rcases hk with ⟨h,h'⟩ | ⟨h,h'⟩
    ·rw [if_neg (by omega),h']
    ·rw [if_pos h,h']
   rw [hop]
   by_cases c1:m.2.2.2.2.2.2.2.2.2.1=op
   ·by_cases c2:m.2.2.2.2.2.2.2.2.2.2.2.1=x.2.2.2.2.1
    ·rw [if_pos (by simp [c1,c2]),if_pos ⟨by omega,c1,c2⟩]
     exact ⟨rfl,ht⟩
    ·simp [c2]
   ·simp [c1]
  ·simp [e,k1,k3]
 have h7:x.1≠7->x.1=5->0<x.2.2.2.2.2.length:=fun _ h5=>by
  have:=hx.shape
  rw [if_neg (by omega),if_pos h5] at this
  omega
 have J2:∀ b:Bool,(b=true↔x.1=5\/x.1=7)->F4 x.1 b m x=some ((EY m views x).2.1,(EY m views x).2.2,(EY m views x).1):=fun b hb=>Yk (by
  unfold Nl
  cases b with
  | true =>
   have hk5:=hb.1 rfl
   obtain ⟨q1,q2⟩:=st hk5
   rw [if_pos rfl,pM m x l2 (fun h=>h7 h (by omega)),AC,q1,q2]
  | false =>
   have hn:¬ (x.1=5\/x.1=7):=fun h=>by have:=hb.2 h; cases this
   rw [if_neg (by simp)]
   by_cases k6:x.1=6
   ·obtain ⟨q1,q2⟩:=sd 1 (.inl ⟨k6,rfl⟩)
    rw [if_pos (by simpa using k6),WN m 1 x hm,AC,q1,q2]
   ·obtain ⟨q1,q2⟩:=sd 2 (.inr ⟨by omega,rfl⟩)
    rw [if_neg (by simpa using k6),if_pos (by rw [beq_iff_eq]; omega),WN m 2 x hm,AC,q1,q2])
 by_cases k5:x.1=5
 ·rw [if_pos (by simpa using k5),J2 _ (by simp [k5])]
 ·rw [if_neg (by simpa using k5),J2 _ (by simp [k5])])
theorem Lg {m:AF} (h:J_ m):GJ m=some true:=by
 obtain ⟨h1,h2,h3⟩:=h.lens
 rw [fI m (by unfold maxLen; omega) (by unfold maxLen; omega) (by unfold maxLen; omega),yy.2 h]
theorem Gf {views:List (List Int)} (h:WP views):EW views=some true:=by
 have:=h.len
 rw [UA views (by unfold maxLen; omega) (fun a ha=>by have:=(h.view ha).2; unfold maxLen; omega),h.ok]
theorem jJ (m:AF) (views:List (List Int)) (x:Bc) (hm:J_ m) (hv:WP views) (hx:x.2.2.2.2.2.length<=68719476736) :
  Mm m views x=some (aa m views x):=rz (by
 have hxm:x.2.2.2.2.2.length<=maxLen:=by unfold maxLen; omega
 unfold Z5
 rw [hm.icopy,AC]
 by_cases c1:x.2.2.1=m.1
 case neg=>rw [if_neg (by simpa using c1),bG (fun h=>c1 h.1)]
 rw [if_pos (by simpa using c1)]
 by_cases c2:x.2.2.2.1<m.2.1
 ·rw [if_neg (by simpa using c2),bG (fun h=>by omega)]
 rw [if_pos (by simpa using c2)]
 by_cases c3:x.2.2.2.1>(views.length:Int)
 ·rw [if_neg (by simpa using c3),bG (fun h=>by omega)]
 rw [if_pos (by simpa using c3),Lg hm,AC,if_pos (by rfl),Gf hv,AC,if_pos (by rfl),pI x hxm,AC]
 cases hmo:WH x with
 | false=>rw [if_pos (by rfl),bG (fun h=>by rw [hmo] at h; cases h.2.2.2)]
 | true =>
  rw [if_neg (by simp)]
  have hx':=bC.1 hmo
  refine iq ?_
  unfold T0
  have hok:J_ (aa m views x).1:=by
   unfold aa
   rw [if_pos hmo]
   exact (aU hm hv).mok
  rw [sP m views x hm hv hx' c1 (by omega) (by omega),AC,hok.icopy,AC])

theorem tf (m:AF):Ta m=some (YS m):=wy rfl



def cj (k:ByteArray) (b:Ad):Bool:=b.1.toList==k.toList
theorem xL (k:ByteArray):∀ x:List Ad,(x.filter (WC k)).length+(x.filter (Q1 k)).length+(x.filter (cj k)).length=x.length
 | []=>rfl
 | b::x=>by
  have ih:=xL k x
  have hi:Q1 k b=!(WC k b||cj k b):=rfl
  cases hl:WC k b with
  | true =>
   have hs:cj k b=false:=by
    cases q:cj k b with
    | false=>rfl
    | true =>
     have e:b.1.toList=k.toList:=by simpa [cj] using q
     unfold WC at hl
     rw [e,bB] at hl
     cases hl
   simp only [List.filter_cons,hi,hl,hs,Bool.true_or,Bool.not_true,if_true,Bool.false_eq_true,if_false,List.length_cons]
   omega
  | false =>
   cases hs:cj k b with
   | true =>
    simp only [List.filter_cons,hi,hl,hs,Bool.false_or,Bool.not_true,if_true,Bool.false_eq_true,if_false,List.length_cons]
    omega
   | false =>
    simp only [List.filter_cons,hi,hl,hs,Bool.or_false,Bool.not_false,if_true,Bool.false_eq_true,if_false,List.length_cons]
    omega
def Lh (x:List Ad) (k:ByteArray):Bool:=x.any (cj k)
theorem sQ {x:List Ad} {k:ByteArray}:Lh x k=true↔1<=(x.filter (cj k)).length:=by
 unfold Lh
 rw [List.any_eq_true]
 constructor
 ·rintro ⟨b,hb,hs⟩
  exact List.length_pos_of_mem (List.mem_filter.2 ⟨hb,hs⟩)
 ·intro h
  obtain ⟨b,hb⟩:=List.exists_mem_of_length_pos h
  exact ⟨b,(List.mem_filter.1 hb).1,(List.mem_filter.1 hb).2⟩
theorem nD {x:List Ad} {k:ByteArray} (h:Lh x k=false):Df x k=(U,U,0):=by
 unfold Df
 have:x.find? (fun a=>a.1.toList==k.toList)=none:=by
  rw [List.find?_eq_none]
  intro b hb hs
  have:Lh x k=true:=List.any_eq_true.2 ⟨b,hb,hs⟩
  rw [h] at this
  cases this
 rw [this]
 rfl
theorem yE {x:List Ad} {k:ByteArray} (h:Lh x k=true):Df x k∈x/\(Df x k).1.toList=k.toList:=by
 obtain ⟨b,hb,hs⟩:=List.any_eq_true.1 h
 unfold Df
 cases q:x.find? (fun a=>a.1.toList==k.toList) with
 | none =>
  rw [List.find?_eq_none] at q
  exact absurd hs (q b hb)
 | some c=>exact ⟨List.mem_of_find?_eq_some q,by simpa using List.find?_some q⟩
theorem ABS {x:List Ad} {k:ByteArray} (hx:Ba x=true):MA (.pair .str (.pair .str (.int .i64))) (Df x k) (U,U,(0:Int))=!Lh x k:=by
 cases h:Lh x k with
 | false=>rw [nD h]; exact xD _
 | true =>
  obtain ⟨h1,h2⟩:=yE h
  have h3:=(JD.1 hx).1 _ h1
  unfold NF at h3
  simp only [AE,decide_eq_true_eq] at h3
  have h4:((Df x k).2.2==(0:Int))=false:=by
   rw [beq_eq_false_iff_ne]
   omega
  show ((Df x k).1.toList==_&&((Df x k).2.1.toList==_&&((Df x k).2.2==(0:Int))))=false
  rw [h4,Bool.and_false,Bool.and_false]
theorem ACe {x:List Ad} {a:Ad} (hx:Ba x=true) (ha:NF a=true) (hv:PU x (a.2.2-1)) :
  Dz x a=if x.length=12/\Lh x a.1=false then x else WD x a:=by
 obtain ⟨h1,h2,h3⟩:=JD.1 hx
 have hs:aS x a=false:=by
  cases q:aS x a with
  | false=>rfl
  | true =>
   obtain ⟨b,hb,hc⟩:=List.any_eq_true.1 q
   simp only [AE,decide_eq_true_eq] at hc
   have:=hv b hb
   omega
 have hl:=xL a.1 x
 have hlen:(WD x a).length=(x.filter (WC a.1)).length+1+(x.filter (Q1 a.1)).length:=by simp [WD]; omega
 unfold Dz
 rw [hs,if_neg (by simp),if_pos hx]
 have hk:Ba (WD x a)=true↔(WD x a).length<=12:=by
  rw [JD]
  refine ⟨fun h=>h.2.2,fun h=>⟨fun b hb=>?_,sJ a h2,h⟩⟩
  rcases xC hb with e | e
  ·rw [e]; exact ha
  ·exact h1 b e
 cases hh:Lh x a.1 with
 | true =>
  have:=sQ.1 hh
  rw [if_pos (hk.2 (by omega)),if_neg (by simp)]
 | false =>
  have h0:(x.filter (cj a.1)).length=0:=by
   rcases Nat.eq_zero_or_pos (x.filter (cj a.1)).length with e | e
   ·exact e
   ·have:=sQ.2 e
    rw [hh] at this
    cases this
  by_cases h12:x.length=12
  ·rw [if_neg (fun h=>by have:=hk.1 h; omega),if_pos ⟨h12,rfl⟩]
  ·rw [if_pos (hk.2 (by omega)),if_neg (fun h=>h12 h.1)]
theorem yF {x:List Ad} {a:Ad} (hx:Ba x=true) (ha:NF a=true) (hv:PU x (a.2.2-1)) :
  MA (.pair .str (.pair .str (.int .i64))) (Df (Dz x a) a.1) a=!(decide (x.length=12)&&!Lh x a.1):=by
 obtain ⟨h1,h2,h3⟩:=JD.1 hx
 have ha2:=ha
 unfold NF at ha2
 simp only [AE,decide_eq_true_eq] at ha2
 rw [ACe hx ha hv]
 by_cases h:x.length=12/\Lh x a.1=false
 ·rw [if_pos h,nD h.2,h.2,decide_eq_true h.1]
  have h4:((0:Int)==a.2.2)=false:=by
   rw [beq_eq_false_iff_ne]
   omega
  show (_&&(_&&((0:Int)==a.2.2)))=false
  rw [h4,Bool.and_false,Bool.and_false]
 ·rw [if_neg h,yB (sJ a h2) ABH,xD]
  by_cases h12:x.length=12
  ·cases hh:Lh x a.1 with
   | true=>simp
   | false=>exact absurd ⟨h12,hh⟩ h
  ·simp [h12]
def mbS (m:AF) (views:List (List Int)):Bool:=m.2.2.2.2.2.1&&(m.2.2.2.2.2.2.2.2.2.1==0)&&decide (m.2.2.2.2.2.2.2.2.1<900)&&decide (m.2.1<=(views.length:Int))&&((views.getD (m.2.1-1).toNat []).getD 0 0==m.1)
def akS (op call:Int) (key val:ByteArray):Bool:=(op==1||op==2)&&(decide (0<=call)&&decide (call<=1000))&&(decide (1<=(key.size:Int))&&decide ((key.size:Int)<=12))&&decide ((val.size:Int)<=20)&&(op==1||w_ val)
theorem sR (m:AF) (views:List (List Int)) (op call:Int) (key val:ByteArray):W0 m views op call key val=(mbS m views&&akS op call key val):=by
 unfold W0 mbS akS
 ac_rfl
theorem fO (m:AF) (views:List (List Int)) (hm:J_ m) (hv:WP views):Hj views m=some (mbS m views,m):=Ws (by
 have hvl:=hv.len
 have hep:=hm.ep
 have hcnt:=hm.count
 have wm:IntKind.i64.wrap (m.2.1-1)=m.2.1-1:=AN (by omega)
 unfold M9 mbS
 cases h1:m.2.2.2.2.2.1 with
 | false=>rfl
 | true =>
  rw [if_pos (by rfl)]
  by_cases h2:m.2.2.2.2.2.2.2.2.2.1=0
  ·rw [if_pos (by rw [h2]; rfl),h2]
   by_cases h3:m.2.2.2.2.2.2.2.2.1=900
   ·rw [if_neg (by rw [h3]; simp),h3]
    rfl
   ·rw [if_pos (by simpa using h3),decide_eq_true (show m.2.2.2.2.2.2.2.2.1<900 by omega)]
    by_cases h4:m.2.1>(views.length:Int)
    ·rw [if_pos (by simpa using h4),decide_eq_false (show ¬ m.2.1<=(views.length:Int) by omega)]
     rfl
    ·rw [if_neg (by simpa using h4),decide_eq_true (show m.2.1<=(views.length:Int) by omega)]
     refine Sf ?_
     have g1:=hv.get (i:=(m.2.1-1).toNat) (by omega)
     unfold J9
     rw [Gf hv,AC,if_pos (by rfl),wm,if_pos (by omega),if_pos (by omega),if_pos (by omega),if_pos (by omega)]
     rfl
  ·rw [if_neg (by simpa using h2),show (m.2.2.2.2.2.2.2.2.2.1==(0:Int))=false by simpa using h2]
   rfl)
theorem sS (op call:Int) (key val:ByteArray):Mj op call key val=some (akS op call key val):=iL (by
 have w:∀ b,K3 op val b=some (op==1||w_ val):=fun b=>Xy (by
  unfold Pp
  rw [mW]
  by_cases h:op=1
  ·rw [if_neg (by simp [h]),h]; rfl
  ·rw [if_pos (by simpa using h),show (op==1)=false by simpa using h]; rfl)
 unfold Wq akS
 have zy:decide ((val.size:Int)>20)=!decide ((val.size:Int)<=20):=by
  by_cases h:(val.size:Int)<=20
  ·rw [decide_eq_true h,decide_eq_false (by omega)]; rfl
  ·rw [decide_eq_false h,decide_eq_true (by omega)]; rfl
 have h12:(op==1||op==2)=(decide (1<=op)&&decide (op<=2)):=by
  by_cases a:op=1
  ·subst a; rfl
  ·by_cases b:op=2
   ·subst b; rfl
   ·rw [show (op==1)=false by simpa using a,show (op==2)=false by simpa using b,<- Bool.decide_and,decide_eq_false (by omega)]; rfl
 rw [BH,AC,BH,Py,h12]
 cases (decide (1<=op)&&decide (op<=2)) with
 | false=>rfl
 | true =>
  rw [if_pos (by rfl),AC]
  cases (decide (0<=call)&&decide (call<=1000)) with
  | false=>rfl
  | true =>
   rw [if_pos (by rfl),AC]
   cases (decide (1<=(key.size:Int))&&decide ((key.size:Int)<=12)) with
   | false=>rfl
   | true =>
    rw [if_pos (by rfl),zy,w]
    cases decide ((val.size:Int)<=20)<;>rfl)
theorem pN (m:AF) (views:List (List Int)) (op call:Int) (key val:ByteArray) (hm:J_ m) (hv:WP views) (h1:V1 views m):Qx m views op call key val=some (Dv m views op call key val):=vL (by
 have hvl:=hv.len
 have hep:=hm.ep
 have hcnt:=hm.count
 have hl:=hm.lens
 have wm:IntKind.i64.wrap (m.2.1-1)=m.2.1-1:=AN (by omega)
 have wc:IntKind.i64.wrap (m.2.2.2.2.2.2.2.2.1+1)=m.2.2.2.2.2.2.2.2.1+1:=AN (by omega)
 have wk:IntKind.i64.wrap (1000*m.2.1)=1000*m.2.1:=AN (by omega)
 have wv:IntKind.i64.wrap (1000*m.2.1+(m.2.2.2.2.2.2.2.2.1+1))=1000*m.2.1+(m.2.2.2.2.2.2.2.2.1+1):=AN (by omega)
 unfold iX Dv
 rw [Lg hm,AC,if_pos (by rfl),fO m views hm hv,AC,sS,sR]
 cases hb:mbS m views with
 | false=>rfl
 | true =>
  dsimp only
  rw [if_pos (by rfl),AC]
  cases ha:akS op call key val with
  | false=>rfl
  | true =>
   rw [if_neg (by simp),if_pos (by rfl)]
   have hmay:W0 m views op call key val=true:=by rw [sR,hb,ha]; rfl
   obtain ⟨s1,s2,s3,s4,s5,s6,s7,s8,s9,s10⟩:=ma hmay
   obtain ⟨b1,b2,_⟩:=hm.serves s1
   have hw:=hv.wok (i:=(m.2.1-1).toNat) (by omega)
   have hwl:=hw.len
   have hrl:=H8 (views.getD (m.2.1-1).toNat []) m.1
   have ho:=nC hw m.1
   have hone:NF (Kl m key val)=true:=(JD.1 (xG hm s3 s6 s7)).1 _ (by simp)
   have href:=yF (a:=Kl m key val) hm.items hone ((h1.own b2 b1).mono (by show _<=1000*m.2.1+(m.2.2.2.2.2.2.2.2.1+1)-1; omega))
   have hz:=ABS (k:=key) hm.items
   have J1:∀ b z,ID views op call b m z (m.1,m.2.1,m.2.2.1,m.2.2.2.1,m.2.2.2.2.1,m.2.2.2.2.2.1,m.2.2.2.2.2.2.1,m.2.2.2.2.2.2.2.1,m.2.2.2.2.2.2.2.2.1+1,m.2.2.2.2.2.2.2.2.2) (key,val,1000*m.2.1+(m.2.2.2.2.2.2.2.2.1+1))=some (Ub m (views.getD (m.2.1-1).toNat []) op call key val):=fun b z=>oV (by
    unfold YB
    rw [wm,if_pos (by omega),if_pos (by omega),OQ _ _ (by omega),AC,BZ (by show (CV (views.getD (m.2.1-1).toNat []) m.1).length<=_; omega),AC]
    have hsort:=mf hw m.1
    change ((Cx (CV (views.getD (m.2.1-1).toNat []) m.1)).bind _)=_
    rw [hsort,AC]
    have J2:∀ a c d e x,(∀ q:Bc,q=x->q.2.2.2.2.2.length<=12)->(zF (KA m (views.getD (m.2.1-1).toNat []) op call key val) (CV (views.getD (m.2.1-1).toNat []) m.1) x=ta m (views.getD (m.2.1-1).toNat []) op key val) ->
      K5 (CV (views.getD (m.2.1-1).toNat []) m.1) a c (KA m (views.getD (m.2.1-1).toNat []) op call key val) d e x=some (Ub m (views.getD (m.2.1-1).toNat []) op call key val):=fun a c d e x hx12 htell=>oU (by
     have hx:=hx12 x rfl
     unfold YA Ub
     by_cases h0:(CV (views.getD (m.2.1-1).toNat []) m.1).length=0
     ·rw [if_pos (by simpa using h0),if_pos (C2.1 (by rw [ho,h0])),aZ _ (by show m.2.2.2.2.2.2.2.1.length<=_; omega),AC]
     ·rw [if_neg (by simpa using h0),if_neg (fun e=>h0 (by rw [<- ho,e]; rfl)),CY _ _ _ (by omega) (by omega),AC,htell]
      exact jT)
    by_cases hop:op=1
    ·rw [if_pos (by simpa using hop)]
     refine J2 _ _ _ _ _ (fun q e=>by subst e; simp) ?_
     unfold zF ta
     simp only [hop,if_true]
     rfl
    ·rw [if_neg (by simpa using hop)]
     refine J2 _ _ _ _ _ (fun q e=>by subst e; simp) ?_
     unfold zF ta
     simp only [hop,if_false]
     rfl)
   refine oW ?_
   unfold YC
   rw [hm.icopy,AC,wc,wk,wv]
   by_cases hop:op=1
   ·rw [if_pos (by simpa using hop)]
    by_cases h12:m.2.2.2.2.2.2.2.1.length=12
    ·rw [if_pos (by simp only [beq_iff_eq]; omega),WA _ _ (by unfold maxLen; omega),AC]
     change (if (false != MA (.pair .str (.pair .str (.int .i64))) (Df m.2.2.2.2.2.2.2.1 key) (U,U,(0:Int)))=true then _ else _)=_
     rw [hz]
     rw [h12] at href
     cases hh:Lh m.2.2.2.2.2.2.2.1 key with
     | false =>
      have hh2:Lh m.2.2.2.2.2.2.2.1 (Kl m key val).1=false:=hh
      rw [hh2] at href
      rw [if_pos (by rfl),if_pos ⟨hop,href⟩]
      rfl
     | true =>
      have hh2:Lh m.2.2.2.2.2.2.2.1 (Kl m key val).1=true:=hh
      rw [hh2] at href
      rw [if_neg (by simp),if_neg (fun h=>by have:=h.2; change MA (.pair .str (.pair .str (.int .i64))) (Df _ (Kl m key val).1) _=false at this; rw [href] at this; cases this)]
      exact J1 _ _
    ·rw [if_neg (by simp; omega),if_neg (fun h=>by
      have:=h.2
      change MA (.pair .str (.pair .str (.int .i64))) (Df _ (Kl m key val).1) _=false at this
      rw [href,decide_eq_false h12] at this
      cases this)]
     exact J1 _ _
   ·rw [if_neg (by simpa using hop),if_neg (fun h=>hop h.1)]
    exact J1 _ _)

def vV (m:AF) (views:List (List Int)) (e:Int):AF×List Bc×Bool :=
 if 2<=e/\e<=(views.length:Int)/\m.2.1<e/\(views.getD (e-1).toNat []).getD 0 0=m.1 then
  if (m.2.2.2.1&&(m.2.1==e-1))=true then
   (WI (L_ m e) (views.getD (e-1).toNat []) m.2.2.2.2.2.2.2.1,(CV (views.getD (e-1).toNat []) m.1).map (fun v=>(3,m.1,v,e,0,m.2.2.2.2.2.2.2.1)),true)
  else (L_ m e,(CV (views.getD (e-2).toNat []) m.1).map (fun v=>(1,m.1,v,e,0,[])),true)
 else (Kk,[],false)
theorem pO (m:AF) (views:List (List Int)) (e:Int) (hm:J_ m) (hv:WP views):Qy m views e=some (vV m views e):=vM (by
 have hvl:=hv.len
 have hep:=hm.ep
 have hl:=hm.lens
 unfold iZ vV
 rw [Lg hm,AC,if_neg (by simp),Gf hv,AC,if_neg (by simp),BH,AC]
 by_cases h1:2<=e/\e<=(views.length:Int)
 case neg =>
  rw [if_pos (by rw [<- Bool.decide_and,decide_eq_false h1]; rfl),if_neg (fun h=>h1 ⟨h.1,h.2.1⟩)]
  rfl
 have we:IntKind.i64.wrap (e-1)=e-1:=AN (by omega)
 have we2:IntKind.i64.wrap (e-2)=e-2:=AN (by omega)
 rw [if_neg (by rw [<- Bool.decide_and,decide_eq_true h1]; simp),we]
 by_cases h2:m.2.1<e
 case neg =>
  rw [if_pos (by simp; omega),if_neg (fun h=>h2 h.2.2.1)]
  rfl
 have g1:=hv.get (i:=(e-1).toNat) (by omega)
 have hw:=hv.wok (i:=(e-1).toNat) (by omega)
 have hw2:=hv.wok (i:=(e-2).toNat) (by omega)
 have hwl:=hw2.len
 rw [if_neg (by simp; omega),if_pos (by omega),if_pos (by omega),if_pos (by omega),if_pos (by omega)]
 by_cases h3:(views.getD (e-1).toNat []).getD 0 0=m.1
 case neg =>
  rw [if_pos (by simpa using h3),if_neg (fun h=>h3 h.2.2.2)]
  rfl
 rw [if_neg (by simpa using h3),if_pos ⟨h1.1,h1.2,h2,h3⟩]
 refine oY ?_
 unfold YF
 rw [hm.icopy,AC,we]
 have J1:∀ b z,K6 views e b m z m=some (if b=true then (WI (L_ m e) (views.getD (e-1).toNat []) m.2.2.2.2.2.2.2.1,(CV (views.getD (e-1).toNat []) m.1).map (fun v=>(3,m.1,v,e,0,m.2.2.2.2.2.2.2.1)),true)
   else (L_ m e,(CV (views.getD (e-2).toNat []) m.1).map (fun v=>(1,m.1,v,e,0,[])),true)):=fun b z=>oX (by
  unfold YE
  rw [Uc,AC,we,we2]
  cases b with
  | true =>
   rw [if_pos rfl,if_pos (by omega),if_pos (by omega)]
   change ((Dc (views.getD (e-1).toNat []) m.2.2.2.2.2.2.2.1 (L_ m e)).bind _)=_
   rw [SQ _ _ (L_ m e) hw (by omega) rfl,AC]
   rfl
  | false =>
   rw [if_neg (by simp),if_pos (by omega),if_pos (by omega)]
   change vf ((CH (views.getD (e-2).toNat []) (L_ m e)).bind _) ((CH (views.getD (e-2).toNat []) (L_ m e)).bind _)=_
   have hrl:=H8 (views.getD (e-2).toNat []) m.1
   rw [OQ _ (L_ m e) (by omega),AC,AC,CY _ _ (L_ m e) (by show (CV (views.getD (e-2).toNat []) m.1).length<=_; omega) (by simp),AC,AC,AC,jT]
   exact jT)
 cases hb:m.2.2.2.1 with
 | true=>rw [if_pos rfl,J1,Bool.true_and]
 | false=>rw [if_neg (by simp),J1,Bool.false_and])
theorem cD (id:Int) (views:List (List Int)) (hi:1<=id/\id<=6) (hv:WP views):OC id views=some (HQ id views,true):=lX (by
 have hvl:=hv.len
 have g:=hv.get (i:=0) (by omega)
 unfold Vj
 rw [HN,AC,if_pos (by rw [<- Bool.decide_and,decide_eq_true hi]; rfl),Gf hv,AC,if_neg (by simp)]
 refine bg ?_
 unfold Qb
 rw [show views.getD (0:Int).toNat ([]:List Int)=views.getD 0 [] from rfl,aX _ _ (by unfold maxLen; omega),AC]
 repeat rw [if_pos (by omega)]
 rfl)

theorem cE (x:List (List Int)) (h:x.length<=1000) (ho:∀ a∈x,a.length<=1000):OB x=some x:=lW (by
 have key:=HR (n:=x.length) (P:=fun i=>Gz x (x.length:Int) (i:Int) (x.take i)=some x) (QZ (by
  unfold KM
  rw [if_neg (by simp),List.take_length])) (fun i hi ih=>QZ (by
  unfold KM
  have hb:=ho x[i] (Bk hi)
  simp only [show ((i:Int)<(x.length:Int)) from by omega,decide_true,if_true,show (0:Int)<=(i:Int) from by omega,Al,Ac hi,AW (show i<9223372036854775807 by omega)]
  rw [BZ (by omega),AC,if_pos (by simp; omega),List.take_append_getElem]
  exact ih)) 0 (by omega)
 unfold Vi
 exact key)
theorem jK {views:List (List Int)} (hv:WP views):Ky views=some (Bj views,true):=Xu (by
 have hvl:=hv.len
 unfold Pm
 rw [Gf hv,AC,if_neg (by simp),cE views (by omega) (fun a ha=>by have:=hv.view ha; omega),AC]
 have step:∀ (i:Nat) (a:_) (b:_) (c:_) (d:_) (l:List AF) r,1<=i->i<=6->l.length<=6->Fp views ((i+1:Nat):Int) a b c d (l++[HQ (i:Int) views]) [] [] views=some r->Fp views (i:Int) a b c d l [] [] views=some r:=by
  intro i a b c d l r h1 h6 hl hr
  refine R_ ?_
  unfold LX
  rw [if_pos (by simp; omega),cD _ _ (by omega) hv,AC,if_pos (by simp; omega),AW (show i<9223372036854775807 by omega)]
  exact hr
 refine step 1 _ _ _ _ _ _ (by omega) (by omega) (by simp) ?_
 refine step 2 _ _ _ _ _ _ (by omega) (by omega) (by simp) ?_
 refine step 3 _ _ _ _ _ _ (by omega) (by omega) (by simp) ?_
 refine step 4 _ _ _ _ _ _ (by omega) (by omega) (by simp) ?_
 refine step 5 _ _ _ _ _ _ (by omega) (by omega) (by simp) ?_
 refine step 6 _ _ _ _ _ _ (by omega) (by omega) (by simp) ?_
 refine R_ ?_
 unfold LX
 rw [if_neg (by decide)]
 rfl)
theorem E_ {k:Nat} (id:Int) (g:A_) (ms:SP g k) (hi:1<=id/\id<=6):B8 id g=some (id-1,g):=bh (by
 have h6:=ms.six
 have step:∀ j (hj:j<6),IQ (g.2.1.getD j ((0:Int),(0:Int),false,false,false,false,([]:List Int),([]:List Ad),(0:Int),(0:Int),(0:Int),(0:Int),(U,U,(0:Int)),([]:List Int))) id=some ((j:Int)+1==id):=fun j hj=>Ye (by
  unfold Nd
  have:=(ms.mem j hj).2
  unfold Cn at this
  change some ((g.2.1.getD j Kk).1==id)=_
  rw [this])
 have key:∀ (d j:Nat),j+d=5->(j:Int)+1<=id->BP g.2.1 id (g.2.1.length:Int) (j:Int)=some (id-1):=by
  intro d
  induction d with
  | zero =>
   intro j hj hle
   refine C6 ?_
   unfold B5
   rw [if_pos (by simp; omega),if_pos (by omega),if_pos (by omega),Al,step j (by omega),AC,if_pos (by simp; omega)]
   congr 1; omega
  | succ d ih =>
   intro j hj hle
   refine C6 ?_
   unfold B5
   rw [if_pos (by simp; omega),if_pos (by omega),if_pos (by omega),Al,step j (by omega),AC]
   by_cases e:(j:Int)+1=id
   ·rw [if_pos (by simpa using e)]
    congr 1; omega
   ·rw [if_neg (by simpa using e),AW (by omega)]
    exact ih (j+1) (by omega) (by omega)
 unfold Qc
 rw [show CM g.2.1 id=some (id-1) from H5 (by
  unfold De
  exact key 5 0 rfl (by omega)),AC])
theorem JE (told:List Bc) (said:List Dt) (at_:Int) (g:A_) (hf:g.2.2.1.length+told.length<=68719476736) (hc:g.2.2.2.length<=68719476736) (hs:mZ said) (hd:∀ c∈g.2.2.2,c.2.2.2.2.1=-1\/0<=c.2.2.2.2.1) :
  GU told said at_ g=some (g.1,g.2.1,g.2.2.1++told,said.foldl (GF at_) g.2.2.2):=iY (by
 have hsl:=hs.1
 unfold Ts
 rw [if_pos hf]
 have fin:∀ (n:Nat) (cs:List Nr),n=said.length->Ci at_ said (said.length:Int) (n:Int) g.1 g.2.1 (g.2.2.1++told) cs=some (g.1,g.2.1,g.2.2.1++told,cs):=fun n cs hn=>PF (by
  unfold I8
  rw [if_neg (by simp; omega)])
 match said,hs,hsl,fin with
 | [],_,_,fin=>exact fin 0 _ rfl
 | [s],hs,_,fin =>
  have h0:=(hs.2 s (by simp)).1
  refine PF ?_
  unfold I8
  have wl:IntKind.i64.wrap ((g.2.2.2.length:Int)-1)=(g.2.2.2.length:Int)-1:=AN (by omega)
  rw [if_pos (by simp),if_pos (by omega),if_pos (by simp)]
  change ((Av s.1 0 (IntKind.i64.wrap ((g.2.2.2.length:Int)-1))).bind _)=_
  rw [BH,AC,wl,AN (show -9223372036854775808<=(0:Int)+1/\(0:Int)+1<=9223372036854775807 by omega)]
  show _=some (g.1,g.2.1,g.2.2.1++told,GF at_ g.2.2.2 s)
  have f1:=fun cs=>fin 1 cs rfl
  by_cases c1:s.1>=(g.2.2.2.length:Int)
  ·rw [if_pos (by rw [<- Bool.decide_and,decide_eq_false (by omega)]; rfl)]
   have:GF at_ g.2.2.2 s=g.2.2.2:=by unfold GF; rw [if_pos (by simp [c1])]
   rw [this]
   exact f1 _
  ·rw [if_neg (by rw [<- Bool.decide_and,decide_eq_true (by omega)]; simp)]
   change (if 0<=s.1 then (if s.1<(g.2.2.2.length:Int) then (if ((g.2.2.2.getD s.1.toNat Fu).2.2.2.2.1 != -1)=true then _ else _) else _) else _)=_
   rw [if_pos h0,if_pos (by omega)]
   have hcl:s.1.toNat<g.2.2.2.length:=by omega
   have hdd:=hd (g.2.2.2.getD s.1.toNat Fu) (by rw [Ac hcl]; exact Bk _)
   by_cases c2:(g.2.2.2.getD s.1.toNat Fu).2.2.2.2.1>=0
   ·rw [if_pos (by simp only [bne_iff_ne,ne_eq]; omega)]
    have:GF at_ g.2.2.2 s=g.2.2.2:=by unfold GF; rw [if_pos (by rw [decide_eq_true c2,Bool.or_true])]
    rw [this]
    exact f1 _
   ·rw [if_neg (by simp only [bne_iff_ne,ne_eq]; omega)]
    have e:GF at_ g.2.2.2 s=g.2.2.2.set s.1.toNat (aV at_ s (g.2.2.2.getD s.1.toNat Fu)):=by unfold GF; rw [if_neg (by rw [decide_eq_false c1,decide_eq_false c2]; simp)]
    rw [e]
    refine Zz ?_
    unfold PE
    have hz2:∀ (l:List Nr),l.getD s.1.toNat ((0:Int),U,U,(0:Int),(0:Int),(0:Int),(0:Int),(0:Int),U)=l.getD s.1.toNat Fu:=fun l=>rfl
    have hz3:([s]:List Dt).getD (0:Int).toNat ((0:Int),(0:Int),(0:Int),U,U,(0:Int))=s:=rfl
    simp only [hz3,hz2,vQ hcl,List.set_set,List.length_set]
    rw [if_pos h0,if_pos (by omega),AN (show -9223372036854775808<=(0:Int)+1/\(0:Int)+1<=9223372036854775807 by omega)]
    unfold aV
    by_cases c3:(g.2.2.2.getD s.1.toNat Fu).1=2
    ·rw [if_pos (show ((g.2.2.2.getD s.1.toNat Fu).1==2)=true by simpa using c3),if_pos (show ((g.2.2.2.getD s.1.toNat Fu).1==2)=true by simpa using c3)]
     exact f1 _
    ·rw [if_neg (show ¬ ((g.2.2.2.getD s.1.toNat Fu).1==2)=true by simpa using c3),if_neg (show ¬ ((g.2.2.2.getD s.1.toNat Fu).1==2)=true by simpa using c3)]
     exact f1 _
 | _::_::_,_,hsl,_=>simp at hsl)

theorem SP.call {g:A_} {k:Nat} (h:SP g k) (at_:Int) (e:CZ):SP (PT g at_ e) (k+1) :=
 ⟨h.views,h.six,h.mem,h.fly,by have:=h.flen; show g.2.2.1.length<=_; omega,by have:=h.clen; simp only [PT,List.length_append,List.length_cons,List.length_nil]; omega⟩
theorem Yp (at_:Int) (e:CZ) (g:A_) (k:Nat) (hg:SP g k) (hk:k<=1000) (h3:V3 g) (hn:1<=e.2.1/\e.2.1<=6):LG e at_ g=some ((NJ g at_ e).1==0,(NJ g at_ e).2):=eS (by
 have hc:=hg.clen
 have hf:=hg.flen
 have h6:=hg.six
 have hgc:=hg.call at_ e
 have h3c:=h3.call at_ e
 obtain ⟨m1,m2⟩:=hg.mem (e.2.1-1).toNat (by omega)
 have hb:=bE (op:=e.2.2.2.1) (call:=(g.2.2.2.length:Int)) (key:=e.2.2.2.2.1) (val:=e.2.2.2.2.2) m1 hg.views
 unfold SF NJ
 rw [if_pos (by simp; omega)]
 change ((B8 e.2.1 (PT g at_ e)).bind _)=_
 rw [E_ e.2.1 _ hgc hn,AC]
 change (if 0<=e.2.1-1 then (if e.2.1-1<(g.2.1.length:Int) then ((Qx (Cn g (e.2.1-1).toNat) g.1 e.2.2.2.1 (g.2.2.2.length:Int) e.2.2.2.2.1 e.2.2.2.2.2).bind _) else none) else none)=_
 rw [if_pos (by omega),if_pos (by omega),pN _ _ _ _ _ _ m1 hg.views (h3.mem _ (by omega)),AC]
 cases hq:(Dv (Cn g (e.2.1-1).toNat) g.1 e.2.2.2.1 (g.2.2.2.length:Int) e.2.2.2.2.1 e.2.2.2.2.2).2.2.2 with
 | false=>rfl
 | true =>
  have hid:=hb.id hq
  have htl:=hb.tlen
  rw [if_neg (by simp),if_pos rfl]
  change (if 0<=e.2.1-1 then (if e.2.1-1<(g.2.1.length:Int) then _ else none) else none)=_
  rw [if_pos (by omega),if_pos (by omega)]
  dsimp only
  have:=JE (Dv (Cn g (e.2.1-1).toNat) g.1 e.2.2.2.1 (g.2.2.2.length:Int) e.2.2.2.2.1 e.2.2.2.2.2).2.1 (Dv (Cn g (e.2.1-1).toNat) g.1 e.2.2.2.1 (g.2.2.2.length:Int) e.2.2.2.2.1 e.2.2.2.2.2).2.2.1 at_
   ((PT g at_ e).1,(PT g at_ e).2.1.set (e.2.1-1).toNat (Dv (Cn g (e.2.1-1).toNat) g.1 e.2.2.2.1 (g.2.2.2.length:Int) e.2.2.2.2.1 e.2.2.2.2.2).1,(PT g at_ e).2.2.1,(PT g at_ e).2.2.2) (by show g.2.2.1.length+_<=_; omega) (by simp only [PT,List.length_append,List.length_cons,List.length_nil]; omega) hb.said h3c.calls
  rw [this,AC]
  unfold F7
  rw [hid,m2,show (((e.2.1-1).toNat:Int)+1-1).toNat=(e.2.1-1).toNat by omega]
  rfl)
theorem AAB {m:AF} {views:List (List Int)} {e:Int} (h:V1 views m):vV m views e=GE m views e:=by
 unfold vV GE
 split
 ·cases hb:m.2.2.2.1 with
  | false=>rfl
  | true =>
   have hv:=(h.view hb).2
   by_cases he:m.2.1=e-1
   ·rw [show (e-2).toNat=(m.2.1-1).toNat by omega,hv,show (m.2.1==e-1)=true by simpa using he]
    rfl
   ·rw [show (m.2.1==e-1)=false by simpa using he]
    rfl
 ·rfl
theorem Yq (at_:Int) (e:CZ) (g:A_) (k:Nat) (hg:SP g k) (hk:k<=1000) (h3:V3 g) (hn:1<=e.2.1/\e.2.1<=6):LI e at_ g=some ((aW g at_ e.2.1).1==0,(aW g at_ e.2.1).2):=eT (by
 have hc:=hg.clen
 have hf:=hg.flen
 have h6:=hg.six
 have hvl:=hg.views.len
 obtain ⟨m1,m2⟩:=hg.mem (e.2.1-1).toNat (by omega)
 have hep:=m1.ep
 have h1:=h3.mem (e.2.1-1).toNat (by omega)
 unfold SG aW
 rw [E_ e.2.1 g hg hn,AC]
 change (if 0<=e.2.1-1 then (if e.2.1-1<(g.2.1.length:Int) then D1 at_ (e.2.1-1) (IntKind.i64.wrap ((Cn g (e.2.1-1).toNat).2.1+1)) g.1 g.2.1 g.2.2.1 g.2.2.2 e else none) else none)=_
 rw [if_pos (by omega),if_pos (by omega),AN (by omega)]
 have key:∀ (n:Nat) (ep:Int),1<=ep->ep+(n:Int)=(g.1.length:Int)+1->D1 at_ (e.2.1-1) ep g.1 g.2.1 g.2.2.1 g.2.2.2 e=some ((Lf g at_ (Cn g (e.2.1-1).toNat) e.2.1 n ep).1==0,(Lf g at_ (Cn g (e.2.1-1).toNat) e.2.1 n ep).2):=by
  intro n
  induction n with
  | zero =>
   intro ep h1 h2
   refine IV ?_
   unfold F0
   rw [if_neg (by simp; omega)]
   rfl
  | succ n ih =>
   intro ep hp1 hp2
   refine IV ?_
   unfold F0 Lf
   have we:IntKind.i64.wrap (ep-1)=ep-1:=AN (by omega)
   have g1:=hg.views.get (i:=(ep-1).toNat) (by omega)
   rw [if_pos (by simp; omega),we,if_pos (by omega),if_pos (by omega),if_pos (by omega),if_pos (by omega)]
   change (if ((g.1.getD (ep-1).toNat []).getD 0 0 != e.2.1)=true then _ else _)=_
   by_cases hq:((g.1.getD (ep-1).toNat []).getD 0 0 != e.2.1)=true
   ·rw [if_pos hq,if_pos hq,AN (by omega)]
    exact ih (ep+1) (by omega) (by omega)
   ·rw [if_neg hq,if_neg hq,if_pos (by omega),if_pos (by omega)]
    change ((Qy (Cn g (e.2.1-1).toNat) g.1 ep).bind _)=_
    rw [pO _ _ _ m1 hg.views,AC,AAB h1]
    cases hb:(GE (Cn g (e.2.1-1).toNat) g.1 ep).2.2 with
    | false=>rfl
    | true =>
     have ha:=bF (e:=ep) m1 hg.views hb
     have hal:=ha.2.2.2
     rw [if_pos rfl,if_pos rfl,if_pos (by omega),if_pos (by omega)]
     dsimp only
     have:=JE (GE (Cn g (e.2.1-1).toNat) g.1 ep).2.1 [] at_ (g.1,g.2.1.set (e.2.1-1).toNat (GE (Cn g (e.2.1-1).toNat) g.1 ep).1,g.2.2.1,g.2.2.2) (by show g.2.2.1.length+_<=_; omega) (by show g.2.2.2.length<=_; omega) Ft h3.calls
     rw [this,AC]
     unfold F7
     rw [ha.2.1,m2,show (((e.2.1-1).toNat:Int)+1-1).toNat=(e.2.1-1).toNat by omega]
     rfl
 by_cases hle:(Cn g (e.2.1-1).toNat).2.1<=(g.1.length:Int)
 ·exact key _ _ (by omega) (by omega)
 ·have e0:((g.1.length:Int)-(Cn g (e.2.1-1).toNat).2.1).toNat=0:=by omega
  rw [e0]
  refine IV ?_
  unfold F0
  rw [if_neg (fun h=>hle (by have:=of_decide_eq_true h; omega))]
  rfl)
def xM (g:A_) (i:Nat) (at_:Int):A_:=F7 (Ns g i)
 (EY (Cn g ((g.2.2.1.getD i D4).2.2.1-1).toNat) g.1 (g.2.2.1.getD i D4)).1 (EY (Cn g ((g.2.2.1.getD i D4).2.2.1-1).toNat) g.1 (g.2.2.1.getD i D4)).2.1 (EY (Cn g ((g.2.2.1.getD i D4).2.2.1-1).toNat) g.1 (g.2.2.1.getD i D4)).2.2 at_
theorem WO (at_:Int) (i:Nat) (g:A_) (k:Nat) (hg:SP g k) (hk:k<=10000) (h3:V3 g) (hi:i<g.2.2.1.length):I5 (i:Int) at_ g=some (xM g i at_):=Z0 (by
 have hc:=hg.clen
 have hf:=hg.flen
 have h6:=hg.six
 have hmem:g.2.2.1.getD i D4∈g.2.2.1:=by rw [Ac hi]; exact Bk _
 have hx:=hg.fly _ hmem
 have hv2:=h3.fly _ hmem
 unfold PG xM
 rw [if_pos (by omega),if_pos (by omega),AW (by omega)]
 change ((Bq g.2.2.1 (i:Int) ((i+1:Nat):Int)).bind fun y1=>((B8 (g.2.2.1.getD i D4).2.2.1 (g.1,g.2.1,y1,g.2.2.2)).bind _))=_
 rw [F_ (by omega) (by omega),AC]
 have hto:=hx.to
 generalize hxx:g.2.2.1.getD i D4=x at *
 obtain ⟨m1,m2⟩:=hg.mem (x.2.2.1-1).toNat (by omega)
 have hho:=aU (x:=x) m1 hg.views
 have hil:=Jk hx.items
 change ((B8 x.2.2.1 (Ns g i)).bind _)=_
 rw [E_ x.2.2.1 (Ns g i) (hg.less i) hto,AC]
 change (if decide (x.2.2.1-1>=0)=true then (if 0<=x.2.2.1-1 then (if x.2.2.1-1<(g.2.1.length:Int) then ((Mm (Cn g (x.2.2.1-1).toNat) g.1 (g.2.2.1.getD (i:Int).toNat D4)).bind _) else none) else none) else _)=_
 rw [Al,hxx,if_pos (by simp; omega),if_pos (by omega),if_pos (by omega),jJ _ _ _ m1 hg.views (by omega),AC]
 have hhi:aa (Cn g (x.2.2.1-1).toNat) g.1 x=EY (Cn g (x.2.2.1-1).toNat) g.1 x:=by
  unfold aa
  rw [if_pos (bC.2 hx),ABR hv2.inst]
 rw [hhi]
 change (if 0<=x.2.2.1-1 then (if x.2.2.1-1<(g.2.1.length:Int) then _ else none) else none)=_
 rw [if_pos (by omega),if_pos (by omega)]
 dsimp only
 have htl:=hho.tlen
 have:=JE (EY (Cn g (x.2.2.1-1).toNat) g.1 x).2.1 (EY (Cn g (x.2.2.1-1).toNat) g.1 x).2.2 at_
  ((Ns g i).1,(Ns g i).2.1.set (x.2.2.1-1).toNat (EY (Cn g (x.2.2.1-1).toNat) g.1 x).1,(Ns g i).2.2.1,(Ns g i).2.2.2) (by
   have:(Ns g i).2.2.1.length<=g.2.2.1.length:=by simp only [Ns,List.length_append,List.length_take,List.length_drop]; omega
   show (Ns g i).2.2.1.length+_<=_; omega) (by show g.2.2.2.length<=_; omega) hho.said h3.calls
 rw [this,AC]
 unfold F7
 rw [hho.id,m2,show (((x.2.2.1-1).toNat:Int)+1-1).toNat=(x.2.2.1-1).toNat by omega])
theorem Yr (at_:Int) (e:CZ) (g:A_) (k:Nat) (hg:SP g k) (hk:k<=1000) (h3:V3 g) (he:PQ e=true):Hi e at_ g=some ((uJ g at_ e).1==0,(uJ g at_ e).2):=dw (by
 have hn:=pa he
 have h6:=hg.six
 have hf:=hg.flen
 unfold SA uJ
 by_cases h1:e.1=1
 ·rw [if_pos (by simpa using h1),if_pos h1,Yp at_ e g k hg hk h3 (by omega)]; rfl
 rw [if_neg (by simpa using h1),if_neg h1]
 by_cases h5:e.1=5
 ·rw [if_pos (by simpa using h5),if_pos h5,Yq at_ e g k hg hk h3 (by omega)]; rfl
 rw [if_neg (by simpa using h5),if_neg h5]
 by_cases h7:e.1=6
 ·obtain ⟨m1,m2⟩:=hg.mem (e.2.1-1).toNat (by omega)
  rw [if_pos (by simpa using h7),if_pos h7,E_ e.2.1 g hg (by omega),AC]
  change (if 0<=e.2.1-1 then (if e.2.1-1<(g.2.1.length:Int) then ((Ta (Cn g (e.2.1-1).toNat)).bind _) else none) else none)=_
  rw [if_pos (by omega),if_pos (by omega),tf,AC]
  change (if 0<=e.2.1-1 then (if e.2.1-1<(g.2.1.length:Int) then _ else none) else none)=_
  rw [if_pos (by omega),if_pos (by omega)]
  unfold F7
  have:((YS (Cn g (e.2.1-1).toNat)).1-1).toNat=(e.2.1-1).toNat:=by
   show ((Cn g (e.2.1-1).toNat).1-1).toNat=_
   rw [m2]; omega
  rw [this,List.append_nil]
  rfl
 rw [if_neg (by simpa using h7),if_neg h7]
 have hm:I3 e at_ g=some ((jC g at_ e).1==0,(jC g at_ e).2):=Zu (by
  unfold PB jC
  by_cases h0:g.2.2.1=[]
  ·rw [if_pos (by rw [h0]; rfl),if_pos h0]; rfl
  have hl:0<g.2.2.1.length:=by
   cases hq:g.2.2.1 with
   | nil=>exact absurd hq h0
   | cons a l=>simp
  have hem:Int.tmod e.2.2.1 (g.2.2.1.length:Int)=e.2.2.1 % (g.2.2.1.length:Int):=Int.tmod_eq_emod_of_nonneg (by omega)
  have hlt:(e.2.2.1 % (g.2.2.1.length:Int)).toNat<g.2.2.1.length:=by
   have h1:=Int.emod_lt_of_pos e.2.2.1 (show (0:Int)<(g.2.2.1.length:Int) by omega)
   have h2:=Int.emod_nonneg e.2.2.1 (show (g.2.2.1.length:Int)≠0 by omega)
   omega
  obtain ⟨i,hi⟩:∃ i:Nat,e.2.2.1 % (g.2.2.1.length:Int)=(i:Int):=⟨(e.2.2.1 % (g.2.2.1.length:Int)).toNat,by
   have h2:=Int.emod_nonneg e.2.2.1 (show (g.2.2.1.length:Int)≠0 by omega)
   omega⟩
  rw [if_neg (by simp only [beq_iff_eq]; omega),if_neg (by omega),if_neg h0,hem,hi]
  rw [hi,Al] at hlt
  simp only [Al]
  by_cases k2:e.1=2
  ·rw [if_pos (by simpa using k2),if_neg (by omega),if_neg (by omega),WO at_ i g k hg (by omega) h3 hlt]
   rfl
  rw [if_neg (by simpa using k2)]
  by_cases k3:e.1=3
  ·rw [if_pos (by simpa using k3),if_neg (by omega),if_pos k3,AW (by omega),F_ (by omega) (by omega)]
   rfl
  have k4:e.1=4:=by omega
  have hmem:g.2.2.1.getD i D4∈g.2.2.1:=by rw [Ac hlt]; exact Bk _
  have hil:=Jk (hg.fly _ hmem).items
  rw [if_neg (by simpa using k3),if_pos (by simpa using k4),if_pos k4,if_pos (by omega),if_pos (by omega)]
  change ((I4 (g.2.2.1.getD i D4)).bind _)=_
  rw [UD _ (by omega),AC,if_pos (by simp; omega)]
  rfl)
 rw [hm]
 rfl)

theorem SS {α:Type} {p r:List α} {v w:α} {i:Nat} (h:p.length=i):(p++v::r).set i w=p++w::r:=by
 subst h
 rw [List.set_append_right _ _ (Nat.le_refl _),Nat.sub_self,List.set_cons_zero]
theorem IE {α:Type} {p r:List α} {v d:α} {i:Nat} (h:p.length=i):(p++v::r).getD i d=v:=by
 subst h
 simp [List.getD]
theorem ADh {k:Int} (h0:0<=k) (h1:k<=9223372036854775807):IntKind.i64.wrap (Int.tdiv k 10)=k / 10:=by
 rw [Int.tdiv_eq_ediv_of_nonneg h0,AN (by omega)]
theorem sU:∀ (n:Nat) (k:Int) (s:ByteArray),0<=k->k<10^n->k<=9223372036854775807->s.size+n<=1000->∃ r,Ht k s=some r
 | 0,k,s,h0,h1,h2,h3=>by
  have:k=0:=by simp at h1; omega
  subst this
  refine ⟨(⟨#[109]⟩:ByteArray)++s,LY ?_⟩
  unfold Hu
  rw [if_neg (by decide),if_pos (by
   have:(⟨#[109]⟩:ByteArray).size=1:=rfl
   omega)]
 | n+1,k,s,h0,h1,h2,h3=>by
  by_cases hk:k>0
  ·have hs:∀ d:Int,(OR ([d]:List Int)).size=1:=fun d=>rfl
   obtain ⟨r,hr⟩:=sU n (k / 10) (OR ([(IntKind.u8.wrap (IntKind.i64.wrap (48+(Int.tmod k 10))))]:List Int)++s) (by omega) (by rw [Int.pow_succ] at h1; omega) (by omega) (by rw [ByteArray.size_append,hs]; omega)
   refine ⟨r,LY ?_⟩
   unfold Hu
   rw [if_pos (by simpa using hk),if_neg (by decide),if_pos (by rw [hs]; omega),if_neg (by decide),ADh h0 h2]
   exact hr
  ·have:k=0:=by omega
   subst this
   refine ⟨(⟨#[109]⟩:ByteArray)++s,LY ?_⟩
   unfold Hu
   rw [if_neg (by decide),if_pos (by
    have:(⟨#[109]⟩:ByteArray).size=1:=rfl
    omega)]
noncomputable def PV (k:Int):ByteArray:=(Aw k).getD U
theorem Ay {k:Int} (h:k<=9223372036854775807):Aw k=some (PV k):=by
 have:∃ r,Aw k=some r:=by
  by_cases h0:k<=0
  ·refine ⟨(⟨#[109,48]⟩:ByteArray),Xv ?_⟩
   unfold Pn
   rw [if_pos (by simpa using h0)]
  ·obtain ⟨r,hr⟩:=sU 19 k ⟨#[]⟩ (by omega) (by omega) h (by decide)
   refine ⟨r,Xv ?_⟩
   unfold Pn
   rw [if_neg (by simpa using h0)]
   exact hr
 obtain ⟨r,hr⟩:=this
 unfold PV
 rw [hr]
 rfl

def NL {α:Type} (M:Int->α->Option (Int×α)) (H:α->Int->Option Int) (w:Nat) (x:α):Prop :=
 ∀ k:Int,0<=k->k+(w:Int)<=1152921504606846976->∃ k' y,M k x=some (k',y)/\k<=k'/\k'<=k+(w:Int)/\H y k=some k'
theorem NL.up {α:Type} {M:Int->α->Option (Int×α)} {H:α->Int->Option Int} {w w':Nat} {x:α} (h:NL M H w x) (hw:w<=w'):NL M H w' x:=fun k h0 h1=>by
 obtain ⟨k',y,a,b,c,d⟩:=h k h0 (by omega)
 exact ⟨k',y,a,b,by omega,d⟩
theorem sV {α:Type} {M:Int->α->Option (Int×α)} {H:α->Int->Option Int} {w:Nat} {LM:Int->Int->List α->Option (Int×List α)} {LH:List α->Int->Int->Option Int}
  (hM0:∀ k (ys:List α),LM k (ys.length:Int) ys=some (k,ys)) (hH0:∀ k (ys:List α),LH ys k (ys.length:Int)=some k)
  (hM:∀ k k' (p:List α) v r y s,p.length+r.length<=4611686018427387904->0<=k->k<=2305843009213693952->M k v=some (k',y)->LM k' ((p.length+1:Nat):Int) (p++y::r)=some s->LM k (p.length:Int) (p++v::r)=some s)
  (hH:∀ k k' (p:List α) v r s,p.length+r.length<=4611686018427387904->0<=k->0<=k'->k<=2305843009213693952->H v k=some k'->LH (p++v::r) k' ((p.length+1:Nat):Int)=some s->LH (p++v::r) k (p.length:Int)=some s) :
  ∀ (r p:List α) (k:Int),(∀ x∈r,NL M H w x)->0<=k->k+(w:Int)*(r.length:Int)<=1152921504606846976->p.length+r.length<=4611686018427387904 ->
   ∃ k' z,LM k (p.length:Int) (p++r)=some (k',p++z)/\z.length=r.length/\k<=k'/\k'<=k+(w:Int)*(r.length:Int)/\LH (p++z) k (p.length:Int)=some k'
 | [],p,k,hx,h0,h1,h2=>⟨k,[],by rw [List.append_nil]; exact hM0 k p,rfl,by omega,by simp,by rw [List.append_nil]; exact hH0 k p⟩
 | v::r,p,k,hx,h0,h1,h2=>by
  simp only [List.length_cons,Int.natCast_add,Int.mul_add] at h1 h2
  have hw0:(0:Int)<=(w:Int)*(r.length:Int):=Int.mul_nonneg (by omega) (by omega)
  obtain ⟨k1,y,a,b,c,d⟩:=hx v (by simp) k h0 (by omega)
  obtain ⟨k',z,e1,e2,e3,e4,e5⟩:=sV hM0 hH0 hM hH r (p++[y]) k1 (fun x h=>hx x (by simp [h])) (by omega) (by omega) (by simp; omega)
  simp only [List.length_append,List.length_cons,List.length_nil,BW,List.cons_append,List.nil_append,Nat.zero_add] at e1 e5
  refine ⟨k',y::z,hM k k1 p v r y _ (by omega) h0 (by omega) a e1,by simp [e2],by omega,by simp only [List.length_cons,Int.natCast_add,Int.mul_add]; omega,hH k k1 p y z k' (by omega) h0 (by omega) (by omega) d e5⟩
theorem NL.of_list {α:Type} {M:Int->α->Option (Int×α)} {H:α->Int->Option Int} {w:Nat} {LM:Int->Int->List α->Option (Int×List α)} {LH:List α->Int->Int->Option Int} {FM:Int->List α->Option (Int×List α)} {FH:List α->Int->Option Int}
  (hM0:∀ k (ys:List α),LM k (ys.length:Int) ys=some (k,ys)) (hH0:∀ k (ys:List α),LH ys k (ys.length:Int)=some k)
  (hM:∀ k k' (p:List α) v r y s,p.length+r.length<=4611686018427387904->0<=k->k<=2305843009213693952->M k v=some (k',y)->LM k' ((p.length+1:Nat):Int) (p++y::r)=some s->LM k (p.length:Int) (p++v::r)=some s)
  (hH:∀ k k' (p:List α) v r s,p.length+r.length<=4611686018427387904->0<=k->0<=k'->k<=2305843009213693952->H v k=some k'->LH (p++v::r) k' ((p.length+1:Nat):Int)=some s->LH (p++v::r) k (p.length:Int)=some s)
  (hf:∀ k xs r,LM k 0 xs=some r->FM k xs=some r) (hg:∀ ys k r,LH ys k 0=some r->FH ys k=some r) {xs:List α} (n:Nat) (hn:xs.length<=n) (hl:xs.length<=4611686018427387904) (hx:∀ x∈xs,NL M H w x) :
  NL FM FH (w*n) xs:=fun k h0 h1=>by
 have hle:w*xs.length<=w*n:=Nat.mul_le_mul (Nat.le_refl _) hn
 have hle2:(w:Int)*(xs.length:Int)=((w*xs.length:Nat):Int):=by push_cast; rfl
 obtain ⟨k',z,e1,e2,e3,e4,e5⟩:=sV hM0 hH0 hM hH xs [] k hx h0 (by omega) (by simp; omega)
 exact ⟨k',z,hf k xs _ e1,e3,by omega,hg z k k' e5⟩
theorem W3 {xs:List Int} (n:Nat) (hn:xs.length<=n) (hl:xs.length<=4611686018427387904):NL C4 Ck (1*n) xs :=
 NL.of_list (M:=fun k _=>some (k+1,k)) (H:=fun v k=>if v=k then some (k+1) else none) (LM:=Hr) (LH:=Hs)
  (fun k ys=>R6 (by unfold LU; rw [if_neg (by simp)]))
  (fun k ys=>R7 (by unfold LV; rw [if_neg (by simp)]))
  (fun k k' p v r y s h1 h2 h3 h4 h5=>R6 (by
   cases h4
   unfold LU
   rw [if_pos (by simp; omega),if_pos (by omega),if_pos (by simp; omega),Al]
   simp only [SS rfl,AW (show p.length<9223372036854775807 by omega),show IntKind.i64.wrap (k+1)=k+1 from AN (by omega)]
   exact h5))
  (fun k k' p v r s h1 h2 h3 h4 h5 h6=>R7 (by
   split at h5
   ·rename_i e
    cases h5
    unfold LV
    rw [if_pos (by simp; omega),if_pos (by omega),if_pos (by simp; omega),Al]
    simp only [IE rfl,AW (show p.length<9223372036854775807 by omega),show IntKind.i64.wrap (k+1)=k+1 from AN (by omega)]
    rw [if_neg (by simp [e])]
    exact h6
   ·cases h5))
  (fun k xs r h=>n9 h) (fun ys k r h=>oA h) n hn hl
  (fun x _ k h0 h1=>⟨k+1,k,rfl,by omega,by omega,by simp⟩)
theorem nE {xs:List (List Int)} (m n:Nat) (hn:xs.length<=n) (hl:xs.length<=4611686018427387904) (hm:∀ x∈xs,x.length<=m/\x.length<=4611686018427387904):NL JX N9 (1*m*n) xs :=
 NL.of_list (M:=C4) (H:=Ck) (LM:=Gu) (LH:=Gx)
  (fun k ys=>QK (by unfold KF; rw [if_neg (by simp)]))
  (fun k ys=>QQ (by unfold KJ; rw [if_neg (by simp)]))
  (fun k k' p v r y s h1 h2 h3 h4 h5=>QK (by
   unfold KF
   rw [if_pos (by simp; omega),if_pos (by omega),if_pos (by simp; omega),Al]
   simp only [IE rfl,h4,AC,SS rfl,AW (show p.length<9223372036854775807 by omega)]
   exact h5))
  (fun k k' p v r s h1 h2 h3 h4 h5 h6=>QQ (by
   unfold KJ
   rw [if_pos (by simp; omega),if_pos (by omega),if_pos (by simp; omega),Al]
   simp only [IE rfl,h5,AC,AW (show p.length<9223372036854775807 by omega)]
   rw [if_neg (by simpa using h3)]
   exact h6))
  (fun k xs r h=>km h) (fun ys k r h=>lK h) n hn hl
  (fun x hx=>W3 m (hm x hx).1 (hm x hx).2)
theorem sW (k:Int) (p:List CZ) (v:CZ) (r:List CZ) (s:Int×List CZ) (h1:p.length+r.length<=4611686018427387904) (h2:0<=k) (h3:k<=2305843009213693952) (h5:DO (k+6) ((p.length+1:Nat):Int) (p++(k,k+1,k+2,k+3,PV (k+4),PV (k+5))::r)=some s):DO k (p.length:Int) (p++v::r)=some s:=PA (by
 unfold I7
 have w1:IntKind.i64.wrap (k+1)=k+1:=AN (by omega)
 have w2:IntKind.i64.wrap (k+1+1)=k+2:=by rw [AN (by omega)]; omega
 have w3:IntKind.i64.wrap (k+2+1)=k+3:=by rw [AN (by omega)]; omega
 have w4:IntKind.i64.wrap (k+3+1)=k+4:=by rw [AN (by omega)]; omega
 have w5:IntKind.i64.wrap (k+4+1)=k+5:=by rw [AN (by omega)]; omega
 have w6:IntKind.i64.wrap (k+5+1)=k+6:=by rw [AN (by omega)]; omega
 have hl:∀ m:CZ,((p.length:Int)<((p++m::r).length:Int)):=fun m=>by simp only [List.length_append,List.length_cons]; omega
 simp only [hl,decide_true,if_true,show (0:Int)<=(p.length:Int) from by omega,Ay (show k+4<=9223372036854775807 by omega),Ay (show k+5<=9223372036854775807 by omega),AC,w1,w2,w3,w4,w5,w6,Al,SS rfl,IE rfl,AW (show p.length<9223372036854775807 by omega)]
 exact h5)
theorem ae:∀ (r p:List CZ) (k:Int),0<=k->k+6*(r.length:Int)<=1152921504606846976->p.length+r.length<=4611686018427387904->∃ z,DO k (p.length:Int) (p++r)=some (k+6*(r.length:Int),z)
 | [],p,k,_,_,_=>⟨p,PA (by
  unfold I7
  rw [if_neg (by simp)]
  simp)⟩
 | v::r,p,k,h0,h1,h2=>by
  simp only [List.length_cons] at h1 h2
  obtain ⟨z,hz⟩:=ae r (p++[(k,k+1,k+2,k+3,PV (k+4),PV (k+5))]) (k+6) (by omega) (by omega) (by simp; omega)
  simp only [List.length_append,List.length_cons,List.length_nil,BW,List.cons_append,List.nil_append,Nat.zero_add] at hz
  refine ⟨z,sW k p v r _ (by omega) h0 (by omega) (hz.trans ?_)⟩
  simp only [List.length_cons]
  congr 2
  omega
theorem jL {xs:List CZ} (n:Nat) (hn:xs.length<=n) (k:Int) (h0:0<=k) (h1:k+6*(n:Int)<=1152921504606846976) (h2:n<=4611686018427387904):∃ k' z,Mh k xs=some (k',z)/\k<=k'/\k'<=k+6*(n:Int):=by
 obtain ⟨z,hz⟩:=ae xs [] k h0 (by omega) (by simp; omega)
 exact ⟨_,z,gw (by unfold Tc; exact hz),by omega,by omega⟩

theorem nF {xs:List Ad} (n:Nat) (hn:xs.length<=n) (hl:xs.length<=4611686018427387904):NL FZ Fa (3*n) xs :=
 NL.of_list (M:=fun k _=>some (k+3,(PV k,PV (k+1),k+2))) (H:=fun v k=>if v=(PV k,PV (k+1),k+2) then some (k+3) else none) (LM:=G0) (LH:=G1)
  (fun k ys=>Qd (by unfold KN; rw [if_neg (by simp)]))
  (fun k ys=>Qe (by unfold KO; rw [if_neg (by simp)]))
  (fun k k' p v r y s h1 h2 h3 h4 h5=>Qd (by
   cases h4
   unfold KN
   have w1:IntKind.i64.wrap (k+1)=k+1:=AN (by omega)
   have w2:IntKind.i64.wrap (k+1+1)=k+2:=by rw [AN (by omega)]; omega
   have w3:IntKind.i64.wrap (k+2+1)=k+3:=by rw [AN (by omega)]; omega
   have hl:∀ m:Ad,((p.length:Int)<((p++m::r).length:Int)):=fun m=>by simp only [List.length_append,List.length_cons]; omega
   simp only [hl,decide_true,if_true,show (0:Int)<=(p.length:Int) from by omega,Ay (show k<=9223372036854775807 by omega),Ay (show k+1<=9223372036854775807 by omega),AC,w1,w2,w3,Al,SS rfl,IE rfl,AW (show p.length<9223372036854775807 by omega)]
   exact h5))
  (fun k k' p v r s h1 h2 h3 h4 h5 h6=>Qe (by
   split at h5
   ·rename_i e
    subst e
    cases h5
    unfold KO
    have w1:IntKind.i64.wrap (k+1)=k+1:=AN (by omega)
    have w2:IntKind.i64.wrap (k+1+1)=k+2:=by rw [AN (by omega)]; omega
    have w3:IntKind.i64.wrap (k+2+1)=k+3:=by rw [AN (by omega)]; omega
    have hl:∀ m:Ad,((p.length:Int)<((p++m::r).length:Int)):=fun m=>by simp only [List.length_append,List.length_cons]; omega
    simp only [hl,decide_true,if_true,show (0:Int)<=(p.length:Int) from by omega,Ay (show k<=9223372036854775807 by omega),Ay (show k+1<=9223372036854775807 by omega),AC,w1,w2,w3,Al,IE rfl,AW (show p.length<9223372036854775807 by omega),bne_self_eq_false,beq_self_eq_true,Bool.not_true,Bool.false_eq_true,if_false]
    exact h6
   ·cases h5))
  (fun k xs r h=>lZ h) (fun ys k r h=>lc h) n hn hl
  (fun x _ k h0 h1=>⟨k+3,_,rfl,by omega,by omega,by simp⟩)
noncomputable def zG (k:Int):Nr:=(k,PV (k+1),PV (k+2),k+3,k+4,k+5,k+6,k+7,PV (k+8))
open Classical in
theorem xN {xs:List Nr} (n:Nat) (hn:xs.length<=n) (hl:xs.length<=4611686018427387904):NL N8 N_ (9*n) xs :=
 NL.of_list (M:=fun k _=>some (k+9,zG k)) (H:=fun v k=>if v=zG k then some (k+9) else none) (LM:=Gw) (LH:=Gy)
  (fun k ys=>QP (by unfold KI; rw [if_neg (by simp)]))
  (fun k ys=>QR (by unfold KK; rw [if_neg (by simp)]))
  (fun k k' p v r y s h1 h2 h3 h4 h5=>QP (by
   cases h4
   unfold KI
   unfold zG at h5
   have w1:IntKind.i64.wrap (k+1)=k+1:=AN (by omega)
   have w2:IntKind.i64.wrap (k+1+1)=k+2:=by rw [AN (by omega)]; omega
   have w3:IntKind.i64.wrap (k+2+1)=k+3:=by rw [AN (by omega)]; omega
   have w4:IntKind.i64.wrap (k+3+1)=k+4:=by rw [AN (by omega)]; omega
   have w5:IntKind.i64.wrap (k+4+1)=k+5:=by rw [AN (by omega)]; omega
   have w6:IntKind.i64.wrap (k+5+1)=k+6:=by rw [AN (by omega)]; omega
   have w7:IntKind.i64.wrap (k+6+1)=k+7:=by rw [AN (by omega)]; omega
   have w8:IntKind.i64.wrap (k+7+1)=k+8:=by rw [AN (by omega)]; omega
   have w9:IntKind.i64.wrap (k+8+1)=k+9:=by rw [AN (by omega)]; omega
   have hl:∀ m:Nr,((p.length:Int)<((p++m::r).length:Int)):=fun m=>by simp only [List.length_append,List.length_cons]; omega
   simp only [hl,decide_true,if_true,show (0:Int)<=(p.length:Int) from by omega,Ay (show k+1<=9223372036854775807 by omega),Ay (show k+2<=9223372036854775807 by omega),Ay (show k+8<=9223372036854775807 by omega),AC,w1,w2,w3,w4,w5,w6,w7,w8,w9,Al,SS rfl,IE rfl,AW (show p.length<9223372036854775807 by omega)]
   exact h5))
  (fun k k' p v r s h1 h2 h3 h4 h5 h6=>QR (by
   split at h5
   ·rename_i e
    subst e
    cases h5
    unfold KK
    unfold zG at h6 ⊢
    have w1:IntKind.i64.wrap (k+1)=k+1:=AN (by omega)
    have w2:IntKind.i64.wrap (k+1+1)=k+2:=by rw [AN (by omega)]; omega
    have w3:IntKind.i64.wrap (k+2+1)=k+3:=by rw [AN (by omega)]; omega
    have w4:IntKind.i64.wrap (k+3+1)=k+4:=by rw [AN (by omega)]; omega
    have w5:IntKind.i64.wrap (k+4+1)=k+5:=by rw [AN (by omega)]; omega
    have w6:IntKind.i64.wrap (k+5+1)=k+6:=by rw [AN (by omega)]; omega
    have w7:IntKind.i64.wrap (k+6+1)=k+7:=by rw [AN (by omega)]; omega
    have w8:IntKind.i64.wrap (k+7+1)=k+8:=by rw [AN (by omega)]; omega
    have w9:IntKind.i64.wrap (k+8+1)=k+9:=by rw [AN (by omega)]; omega
    have hl:∀ m:Nr,((p.length:Int)<((p++m::r).length:Int)):=fun m=>by simp only [List.length_append,List.length_cons]; omega
    simp only [hl,decide_true,if_true,show (0:Int)<=(p.length:Int) from by omega,Ay (show k+1<=9223372036854775807 by omega),Ay (show k+2<=9223372036854775807 by omega),Ay (show k+8<=9223372036854775807 by omega),AC,w1,w2,w3,w4,w5,w6,w7,w8,w9,Al,IE rfl,AW (show p.length<9223372036854775807 by omega),bne_self_eq_false,beq_self_eq_true,Bool.not_true,Bool.false_eq_true,if_false]
    exact h6
   ·cases h5))
  (fun k xs r h=>lI h) (fun ys k r h=>lM h) n hn hl
  (fun x _ k h0 h1=>⟨k+9,_,rfl,by omega,by omega,by simp⟩)
noncomputable def yG (k:Int) (v:Bc):Option (Int×Bc):=(FZ (k+5) v.2.2.2.2.2).bind fun a=>some (a.1,(k,k+1,k+2,k+3,k+4,a.2))
open Classical in
noncomputable def yH (v:Bc) (k:Int):Option Int:=(Fa v.2.2.2.2.2 (k+5)).bind fun a=>if 0<=a/\v=(k,k+1,k+2,k+3,k+4,v.2.2.2.2.2) then some a else none
theorem yI {xs:List Bc} (m n:Nat) (hn:xs.length<=n) (hl:xs.length<=4611686018427387904) (hm:∀ x∈xs,x.2.2.2.2.2.length<=m/\x.2.2.2.2.2.length<=4611686018427387904):NL Pd Pe ((5+3*m)*n) xs :=
 NL.of_list (M:=yG) (H:=yH) (LM:=Hv) (LH:=Hw)
  (fun k ys=>SB (by unfold LZ; rw [if_neg (by simp)]))
  (fun k ys=>SC (by unfold La; rw [if_neg (by simp)]))
  (fun k k' p v r y s h1 h2 h3 h4 h5=>SB (by
   unfold yG at h4
   obtain ⟨a,ha,h4⟩:=Option.bind_eq_some_iff.1 h4
   cases h4
   unfold LZ
   have w1:IntKind.i64.wrap (k+1)=k+1:=AN (by omega)
   have w2:IntKind.i64.wrap (k+1+1)=k+2:=by rw [AN (by omega)]; omega
   have w3:IntKind.i64.wrap (k+2+1)=k+3:=by rw [AN (by omega)]; omega
   have w4:IntKind.i64.wrap (k+3+1)=k+4:=by rw [AN (by omega)]; omega
   have w5:IntKind.i64.wrap (k+4+1)=k+5:=by rw [AN (by omega)]; omega
   have hl:∀ m:Bc,((p.length:Int)<((p++m::r).length:Int)):=fun m=>by simp only [List.length_append,List.length_cons]; omega
   simp only [hl,decide_true,if_true,show (0:Int)<=(p.length:Int) from by omega,ha,AC,w1,w2,w3,w4,w5,Al,SS rfl,IE rfl,AW (show p.length<9223372036854775807 by omega)]
   exact h5))
  (fun k k' p v r s h1 h2 h3 h4 h5 h6=>SC (by
   unfold yH at h5
   obtain ⟨a,ha,h5⟩:=Option.bind_eq_some_iff.1 h5
   split at h5
   ·rename_i e
    cases h5
    obtain ⟨v1,v2,v3,v4,v5,v6⟩:=v
    obtain ⟨e0,e⟩:=e
    cases e
    simp only at ha
    unfold La
    have w1:IntKind.i64.wrap (k+1)=k+1:=AN (by omega)
    have w2:IntKind.i64.wrap (k+1+1)=k+2:=by rw [AN (by omega)]; omega
    have w3:IntKind.i64.wrap (k+2+1)=k+3:=by rw [AN (by omega)]; omega
    have w4:IntKind.i64.wrap (k+3+1)=k+4:=by rw [AN (by omega)]; omega
    have w5:IntKind.i64.wrap (k+4+1)=k+5:=by rw [AN (by omega)]; omega
    have hl:∀ m:Bc,((p.length:Int)<((p++m::r).length:Int)):=fun m=>by simp only [List.length_append,List.length_cons]; omega
    simp only [hl,decide_true,if_true,show (0:Int)<=(p.length:Int) from by omega,AC,w1,w2,w3,w4,w5,Al,IE rfl,ha,AW (show p.length<9223372036854775807 by omega),bne_self_eq_false,beq_self_eq_true,Bool.not_true,Bool.false_eq_true,if_false,show ¬ k'<0 from by omega,decide_false]
    exact h6
   ·cases h5))
  (fun k xs r h=>oG h) (fun ys k r h=>oI h) n hn hl
  (fun x hx k h0 h1=>by
   obtain ⟨k',y,a,b,c,d⟩:=nF m (hm x hx).1 (hm x hx).2 (k+5) (by omega) (by omega)
   refine ⟨k',(k,k+1,k+2,k+3,k+4,y),by unfold yG; rw [a]; rfl,by omega,by omega,?_⟩
   unfold yH
   simp only [d,AC]
   rw [if_pos ⟨by omega,trivial⟩])
noncomputable def yJ (k:Int) (v:AF):Option (Int×AF):=(C4 (k+6) v.2.2.2.2.2.2.1).bind fun a=>(FZ a.1 v.2.2.2.2.2.2.2.1).bind fun b =>
 if 0<=b.1/\b.1<=2305843009213693952 then (C4 (b.1+7) v.2.2.2.2.2.2.2.2.2.2.2.2.2).bind fun c=>some (c.1,(k,k+1,(Int.tmod (k+2) 3==0),(Int.tmod (k+3) 3==0),(Int.tmod (k+4) 3==0),(Int.tmod (k+5) 3==0),a.2,b.2,b.1,b.1+1,b.1+2,b.1+3,(PV (b.1+4),PV (b.1+5),b.1+6),c.2)) else none
open Classical in
noncomputable def yK (v:AF) (k:Int):Option Int:=(Ck v.2.2.2.2.2.2.1 (k+6)).bind fun a=>(Fa v.2.2.2.2.2.2.2.1 a).bind fun b=>(Ck v.2.2.2.2.2.2.2.2.2.2.2.2.2 (b+7)).bind fun c =>
 if (0<=a/\0<=b/\b<=2305843009213693952)/\v=(k,k+1,(Int.tmod (k+2) 3==0),(Int.tmod (k+3) 3==0),(Int.tmod (k+4) 3==0),(Int.tmod (k+5) 3==0),v.2.2.2.2.2.2.1,v.2.2.2.2.2.2.2.1,b,b+1,b+2,b+3,(PV (b+4),PV (b+5),b+6),v.2.2.2.2.2.2.2.2.2.2.2.2.2) then some c else none
theorem jM (b:Bool):(true != MA .bool b b)=false:=by cases b<;>rfl
theorem th {xs:List AF} (a b c n:Nat) (hn:xs.length<=n) (hl:xs.length<=4611686018427387904) (hm:∀ x∈xs,(x.2.2.2.2.2.2.1.length<=a/\x.2.2.2.2.2.2.1.length<=4611686018427387904)/\(x.2.2.2.2.2.2.2.1.length<=b/\x.2.2.2.2.2.2.2.1.length<=4611686018427387904)/\(x.2.2.2.2.2.2.2.2.2.2.2.2.2.length<=c/\x.2.2.2.2.2.2.2.2.2.2.2.2.2.length<=4611686018427387904)):NL LD LE ((13+a+3*b+c)*n) xs :=
 NL.of_list (M:=yJ) (H:=yK) (LM:=Fy) (LH:=Fz)
  (fun k ys=>Na (by unfold IS; rw [if_neg (by simp)]))
  (fun k ys=>Nb (by unfold IT; rw [if_neg (by simp)]))
  (fun k k' p v r y s h1 h2 h3 h4 h5=>Na (by
   unfold yJ at h4
   obtain ⟨q,hq,h4⟩:=Option.bind_eq_some_iff.1 h4
   obtain ⟨u,hu,h4⟩:=Option.bind_eq_some_iff.1 h4
   split at h4
   ·rename_i hb
    obtain ⟨hb0,hb1⟩:=hb
    obtain ⟨z,hz,h4⟩:=Option.bind_eq_some_iff.1 h4
    cases h4
    obtain ⟨q1,q2⟩:=q
    obtain ⟨u1,u2⟩:=u
    obtain ⟨z1,z2⟩:=z
    simp only at hu hz hb0 hb1 h5
    unfold IS
    have w1:IntKind.i64.wrap (k+1)=k+1:=AN (by omega)
    have w2:IntKind.i64.wrap (k+1+1)=k+2:=by rw [AN (by omega)]; omega
    have w3:IntKind.i64.wrap (k+2+1)=k+3:=by rw [AN (by omega)]; omega
    have w4:IntKind.i64.wrap (k+3+1)=k+4:=by rw [AN (by omega)]; omega
    have w5:IntKind.i64.wrap (k+4+1)=k+5:=by rw [AN (by omega)]; omega
    have w6:IntKind.i64.wrap (k+5+1)=k+6:=by rw [AN (by omega)]; omega
    have v1:IntKind.i64.wrap (u1+1)=u1+1:=AN (by omega)
    have v2:IntKind.i64.wrap (u1+1+1)=u1+2:=by rw [AN (by omega)]; omega
    have v3:IntKind.i64.wrap (u1+2+1)=u1+3:=by rw [AN (by omega)]; omega
    have v4:IntKind.i64.wrap (u1+3+1)=u1+4:=by rw [AN (by omega)]; omega
    have v5:IntKind.i64.wrap (u1+4+1)=u1+5:=by rw [AN (by omega)]; omega
    have v6:IntKind.i64.wrap (u1+5+1)=u1+6:=by rw [AN (by omega)]; omega
    have v7:IntKind.i64.wrap (u1+6+1)=u1+7:=by rw [AN (by omega)]; omega
    have hl:∀ m:AF,((p.length:Int)<((p++m::r).length:Int)):=fun m=>by simp only [List.length_append,List.length_cons]; omega
    simp only [hl,decide_true,if_true,show (0:Int)<=(p.length:Int) from by omega,show ¬ (3:Int)=0 from by decide,if_false,hq,hu,hz,Ay (show u1+4<=9223372036854775807 by omega),Ay (show u1+5<=9223372036854775807 by omega),AC,w1,w2,w3,w4,w5,w6,v1,v2,v3,v4,v5,v6,v7,Al,SS rfl,IE rfl,AW (show p.length<9223372036854775807 by omega)]
    exact h5
   ·cases h4))
  (fun k k' p v r s h1 h2 h3 h4 h5 h6=>Nb (by
   unfold yK at h5
   obtain ⟨q,hq,h5⟩:=Option.bind_eq_some_iff.1 h5
   obtain ⟨u,hu,h5⟩:=Option.bind_eq_some_iff.1 h5
   obtain ⟨z,hz,h5⟩:=Option.bind_eq_some_iff.1 h5
   split at h5
   ·rename_i e
    cases h5
    obtain ⟨v1,v2,v3,v4,v5,v6,v7,v8,v9,v10,v11,v12,v13,v14⟩:=v
    obtain ⟨⟨e0,e1,e2⟩,e⟩:=e
    cases e
    simp only at hq hu hz
    unfold IT
    have w1:IntKind.i64.wrap (k+1)=k+1:=AN (by omega)
    have w2:IntKind.i64.wrap (k+1+1)=k+2:=by rw [AN (by omega)]; omega
    have w3:IntKind.i64.wrap (k+2+1)=k+3:=by rw [AN (by omega)]; omega
    have w4:IntKind.i64.wrap (k+3+1)=k+4:=by rw [AN (by omega)]; omega
    have w5:IntKind.i64.wrap (k+4+1)=k+5:=by rw [AN (by omega)]; omega
    have w6:IntKind.i64.wrap (k+5+1)=k+6:=by rw [AN (by omega)]; omega
    have v1:IntKind.i64.wrap (u+1)=u+1:=AN (by omega)
    have v2:IntKind.i64.wrap (u+1+1)=u+2:=by rw [AN (by omega)]; omega
    have v3:IntKind.i64.wrap (u+2+1)=u+3:=by rw [AN (by omega)]; omega
    have v4:IntKind.i64.wrap (u+3+1)=u+4:=by rw [AN (by omega)]; omega
    have v5:IntKind.i64.wrap (u+4+1)=u+5:=by rw [AN (by omega)]; omega
    have v6:IntKind.i64.wrap (u+5+1)=u+6:=by rw [AN (by omega)]; omega
    have v7:IntKind.i64.wrap (u+6+1)=u+7:=by rw [AN (by omega)]; omega
    have hl:∀ m:AF,((p.length:Int)<((p++m::r).length:Int)):=fun m=>by simp only [List.length_append,List.length_cons]; omega
    simp only [hl,decide_true,if_true,show (0:Int)<=(p.length:Int) from by omega,show ¬ (3:Int)=0 from by decide,jM,show ¬ q<0 from by omega,show ¬ u<0 from by omega,show ¬ k'<0 from by omega,decide_false,hq,hu,hz,Ay (show u+4<=9223372036854775807 by omega),Ay (show u+5<=9223372036854775807 by omega),AC,w1,w2,w3,w4,w5,w6,v1,v2,v3,v4,v5,v6,v7,Al,IE rfl,AW (show p.length<9223372036854775807 by omega),bne_self_eq_false,beq_self_eq_true,Bool.not_true,Bool.false_eq_true,if_false]
    exact h6
   ·cases h5))
  (fun k xs r h=>eA h) (fun ys k r h=>eH h) n hn hl
  (fun x hx k h0 h1=>by
   obtain ⟨m1,m2,m3⟩:=hm x hx
   obtain ⟨k1,y1,a1,b1,c1,d1⟩:=W3 a m1.1 m1.2 (k+6) (by omega) (by omega)
   obtain ⟨k2,y2,a2,b2,c2,d2⟩:=nF b m2.1 m2.2 k1 (by omega) (by omega)
   obtain ⟨k3,y3,a3,b3,c3,d3⟩:=W3 c m3.1 m3.2 (k2+7) (by omega) (by omega)
   refine ⟨k3,_,by unfold yJ; rw [a1,AC,a2,AC,if_pos ⟨by omega,by omega⟩,a3,AC],by omega,by omega,?_⟩
   unfold yK
   simp only [d1,d2,d3,AC]
   rw [if_pos ⟨⟨by omega,by omega,by omega⟩,trivial⟩])
structure GSm (g:A_):Prop where
 vs:g.1.length<=1048576/\∀ x∈g.1,x.length<=1048576
 ms:g.2.1.length<=1048576/\∀ x∈g.2.1,x.2.2.2.2.2.2.1.length<=1048576/\x.2.2.2.2.2.2.2.1.length<=1048576/\x.2.2.2.2.2.2.2.2.2.2.2.2.2.length<=1048576
 fs:g.2.2.1.length<=1048576/\∀ x∈g.2.2.1,x.2.2.2.2.2.length<=1048576
 cs:g.2.2.2.length<=1048576
theorem xO {g:A_} (h:GSm g):∃ k y,N6 1 g.1 g.2.1 g.2.2.1 g.2.2.2=some (k,y)/\0<=k/\k<=1125899906842624/\JY y 1=some k:=by
 obtain ⟨k1,y1,a1,b1,c1,d1⟩:=nE (xs:=g.1) 1048576 1048576 h.vs.1 (by have:=h.vs.1; omega) (fun x hx=>⟨h.vs.2 x hx,by have:=h.vs.2 x hx; omega⟩) 1 (by omega) (by omega)
 obtain ⟨k2,y2,a2,b2,c2,d2⟩:=th (xs:=g.2.1) 1048576 1048576 1048576 1048576 h.ms.1 (by have:=h.ms.1; omega) (fun x hx=>by have:=h.ms.2 x hx; omega) k1 (by omega) (by omega)
 obtain ⟨k3,y3,a3,b3,c3,d3⟩:=yI (xs:=g.2.2.1) 1048576 1048576 h.fs.1 (by have:=h.fs.1; omega) (fun x hx=>by have:=h.fs.2 x hx; omega) k2 (by omega) (by omega)
 obtain ⟨k4,y4,a4,b4,c4,d4⟩:=xN (xs:=g.2.2.2) 1048576 h.cs (by have:=h.cs; omega) k3 (by omega) (by omega)
 refine ⟨k4,(y1,y2,y3,y4),ko ?_,by omega,by omega,kp ?_⟩
 ·unfold Vb
  simp only [a1,a2,a3,a4,AC]
 ·unfold Vc
  simp only [d1,d2,d3,d4,AC,show ¬ k1<0 from by omega,show ¬ k2<0 from by omega,show ¬ k3<0 from by omega,show ¬ k4<0 from by omega,decide_false,Bool.false_eq_true,if_false]
theorem vW {m:AF} (h:m.2.2.2.2.2.2.1.length<=1048576/\m.2.2.2.2.2.2.2.1.length<=1048576/\m.2.2.2.2.2.2.2.2.2.2.2.2.2.length<=1048576):AB.small m:=by
 obtain ⟨a,b,c,d,e,f,g,h0,i,j,k,l,n,o⟩:=m
 obtain ⟨h1,h2,h3⟩:=h
 simp only at h1 h2 h3
 simp [Kd.small]
 omega
theorem GSm.small {g:A_} (h:GSm g):Ao.small g :=
 ⟨⟨by have:=h.vs.1; omega,fun a ha=>⟨by have:=h.vs.2 a ha; omega,fun _ _=>trivial⟩⟩,⟨by have:=h.ms.1; omega,fun a ha=>vW (h.ms.2 a ha)⟩,⟨by have:=h.fs.1; omega,fun a ha=>⟨trivial,trivial,trivial,trivial,trivial,by have:=h.fs.2 a ha; omega,fun _ _=>by simp [Kd.small]⟩⟩,by have:=h.cs; omega,fun a ha=>by simp [Kd.small]⟩

theorem xP (x:List (List Int)) (h:x.length<=1000) (ho:∀ a∈x,a.length<=1000):LL x=some x:=fE (by
 have key:=HR (n:=x.length) (P:=fun i=>F5 x (x.length:Int) (i:Int) (x.take i)=some x) (Np (by
  unfold IZ
  rw [if_neg (by simp),List.take_length])) (fun i hi ih=>Np (by
  unfold IZ
  have hb:=ho x[i] (Bk hi)
  simp only [show ((i:Int)<(x.length:Int)) from by omega,decide_true,if_true,show (0:Int)<=(i:Int) from by omega,Al,Ac hi,AW (show i<9223372036854775807 by omega)]
  rw [BZ (by omega),AC,if_pos (by simp; omega),List.take_append_getElem]
  exact ih)) 0 (by omega)
 unfold SN
 exact key)
theorem vX {m:AF} (h:J_ m):KE m=some m:=by
 obtain ⟨h1,h2,h3⟩:=h.lens
 refine cA ?_
 unfold Qi
 rw [BZ (by omega),AC,Aq (by omega),AC,BZ (by omega),AC]
theorem AAC (x:Bc) (h:x.2.2.2.2.2.length<=68719476736):OF x=some x:=mR (by
 unfold V9
 rw [Aq h,AC])
theorem xQ (g:A_) (k:Nat) (hg:SP g k) (hk:k<=10000):JZ g=some g:=kz (by
 have hvl:=hg.views.len
 have hc:=hg.clen
 have hf:=hg.flen
 have h6:=hg.six
 unfold Vd
 rw [xP g.1 (by omega) (fun a ha=>by have:=hg.views.view ha; omega),AC,LN (by omega),AC]
 have key2:Ep g.2.2.1 (g.2.2.1.length:Int) ((0:Nat):Int) g.1 g.2.1 g.2.2.1 g.2.2.2 [] [] [] [] g.1 g.2.1 [] g.2.2.2=some g:=by
  have key':=HR (n:=g.2.2.1.length) (P:=fun i=>Ep g.2.2.1 (g.2.2.1.length:Int) (i:Int) g.1 g.2.1 g.2.2.1 g.2.2.2 [] [] [] [] g.1 g.2.1 (g.2.2.1.take i) g.2.2.2=some g) (QN (by
   unfold KG
   rw [if_neg (by simp),List.take_length])) (fun i hi ih=>QN (by
   unfold KG
   have hm:=Jk (hg.fly _ (Bk hi)).items
   have hz:g.2.2.1.getD i ((0:Int),(0:Int),(0:Int),(0:Int),(0:Int),([]:List Ad))=g.2.2.1[i]:=Ac hi
   simp only [show ((i:Int)<(g.2.2.1.length:Int)) from by omega,decide_true,if_true,show (0:Int)<=(i:Int) from by omega,Al,hz,AW (show i<9223372036854775807 by omega)]
   rw [AAC _ (by omega),AC,if_pos (by simp; omega),List.take_append_getElem]
   exact ih)) 0 (by omega)
  exact key'
 have key0:Er g.2.1 (g.2.1.length:Int) ((0:Nat):Int) g.1 g.2.1 g.2.2.1 g.2.2.2 [] [] [] [] g.1 [] [] g.2.2.2=some g:=by
  have key':=HR (n:=g.2.1.length) (P:=fun i=>Er g.2.1 (g.2.1.length:Int) (i:Int) g.1 g.2.1 g.2.2.1 g.2.2.2 [] [] [] [] g.1 (g.2.1.take i) [] g.2.2.2=some g) (QO (by
   unfold KH
   rw [if_neg (by simp),List.take_length]
   refine bU ?_
   unfold QM
   exact key2)) (fun i hi ih=>QO (by
   unfold KH
   have hm:=(hg.mem i (by omega)).1
   unfold Cn at hm
   rw [Ac hi] at hm
   have hz:g.2.1.getD i ((0:Int),(0:Int),false,false,false,false,([]:List Int),([]:List Ad),(0:Int),(0:Int),(0:Int),(0:Int),(U,U,(0:Int)),([]:List Int))=g.2.1[i]:=Ac hi
   simp only [show ((i:Int)<(g.2.1.length:Int)) from by omega,decide_true,if_true,show (0:Int)<=(i:Int) from by omega,Al,hz,vX hm,AC,AW (show i<9223372036854775807 by omega)]
   rw [if_pos (by simp; omega),List.take_append_getElem]
   exact ih)) 0 (by omega)
  exact key'
 exact key0)
theorem ABT (g:A_) (a:Int) (e:CZ) (he:PQ e=true):(uJ g a e).1=0\/(uJ g a e).1=1:=by
 have hfa:∀ (m:AF) (nd:Int) (n:Nat) (ep:Int),(Lf g a m nd n ep).1=0\/(Lf g a m nd n ep).1=1:=by
  intro m nd n
  induction n with
  | zero=>intro ep; exact .inr rfl
  | succ n ih =>
   intro ep
   unfold Lf
   split
   ·exact ih _
   ·split
    ·exact .inl rfl
    ·exact .inr rfl
 unfold uJ
 split
 ·unfold NJ; split
  ·exact .inl rfl
  ·exact .inr rfl
 ·split
  ·exact hfa _ _ _ _
  ·split
   ·exact .inl rfl
   ·unfold jC
    split
    ·exact .inr rfl
    ·split
     ·exact .inl rfl
     ·split
      ·exact .inl rfl
      ·exact .inl rfl
def ST:A_×List Int×Bool:=(([],[],[],[]),[],false)
def sX (views:List (List Int)) (events:List CZ):A_×List Int×Bool:=((Q2 0 events (Bj views) []).1,(Q2 0 events (Bj views) []).2,true)
open Classical in
noncomputable def jN (views:List (List Int)) (events:List CZ):A_×List Int×Bool:=if DQ views views.length views=true/\events.length<=70/\∀ e∈events,PQ e=true then sX views events else ST
theorem yL {views:List (List Int)} {events:List CZ} (hv:WP views) (hl:events.length<=70) (he:∀ e∈events,PQ e=true) :
  Fn events (events.length:Int) ((0:Nat):Int) [] [] [] [] [] (Bj views).2.1 (Bj views).2.2.1 (Bj views).2.2.2 (Bj views).1 []=some (sX views events):=by
 have hg:=md hv
 have key:=HR (n:=events.length) (P:=fun i=>∀ (g:A_) (cs:List Int),SP g i->V3 g->cs.length=i->Q2 i (events.drop i) g cs=Q2 0 events (Bj views) []->Fn events (events.length:Int) (i:Int) [] [] [] [] [] g.2.1 g.2.2.1 g.2.2.2 g.1 cs=some (sX views events)) (fun g cs hgi h3 hcs hr=>R5 (by
  unfold LR
  rw [if_neg (by simp)]
  change ((JZ g).bind _)=_
  rw [xQ g events.length hgi (by omega),AC]
  rw [List.drop_eq_nil_of_le (Nat.le_refl _)] at hr
  unfold sX
  rw [<- hr]
  rfl)) (fun i hi ih g cs hgi h3 hcs hr=>R5 (by
  unfold LR
  obtain ⟨d2,_⟩:=hgi.event (at_:=(i:Int)) (he _ (Bk hi))
  have hz:events.getD i ((0:Int),(0:Int),(0:Int),(0:Int),U,U)=events[i]:=Ac hi
  simp only [show ((i:Int)<(events.length:Int)) from by omega,decide_true,if_true,show (0:Int)<=(i:Int) from by omega,Al,hz,AW (show i<9223372036854775807 by omega)]
  change ((Hi events[i] (i:Int) g).bind _)=_
  rw [Yr (i:Int) events[i] g i hgi (by omega) h3 (he _ (Bk hi)),AC]
  have hcode:UM ((uJ g (i:Int) events[i]).1==0)=some (uJ g (i:Int) events[i]).1:=tM (by
   unfold cV
   rcases ABT g (i:Int) events[i] (he _ (Bk hi)) with q | q<;>rw [q]<;>rfl)
  dsimp only
  rw [hcode,AC,if_pos (by simp; omega)]
  refine ih _ _ d2 (h3.event hgi (by omega) (he _ (Bk hi))) (by simp; omega) ?_
  rw [Bu hi] at hr
  exact hr)) 0 (by omega) (Bj views) [] hg (V3.new hv) rfl rfl
 exact key
theorem yM {views:List (List Int)} {events:List CZ} (hv:WP views) (hl:events.length<=70) :
  D9 events events (events.length:Int) ((0:Nat):Int) [] [] [] [] [] (Bj views).2.1 (Bj views).2.2.1 (Bj views).2.2.2 (Bj views).1=some (jN views events):=by
 have hx:∀ b:Prop,[Decidable b]->(b↔∀ e∈events,PQ e=true)->jN views events=if b then sX views events else ST:=fun b _ hb=>by
  unfold jN
  by_cases h:b
  ·rw [if_pos h,if_pos ⟨hv.ok,hl,hb.1 h⟩]
  ·rw [if_neg h,if_neg (fun q=>h (hb.2 q.2.2))]
 by_cases he:∀ e∈events,PQ e=true
 ·rw [hx True (by simpa using he),if_pos trivial]
  refine HR (n:=events.length) (P:=fun i=>D9 events events (events.length:Int) (i:Int) [] [] [] [] [] (Bj views).2.1 (Bj views).2.2.1 (Bj views).2.2.2 (Bj views).1=some (sX views events)) (LT (by
   unfold Hp
   rw [if_neg (by simp)]
   refine dh ?_
   unfold R3
   exact yL hv hl he)) (fun i hi ih=>LT (by
   unfold Hp
   have hz:events.getD i ((0:Int),(0:Int),(0:Int),(0:Int),U,U)=events[i]:=Ac hi
   simp only [show ((i:Int)<(events.length:Int)) from by omega,decide_true,if_true,show (0:Int)<=(i:Int) from by omega,Al,hz,AW (show i<9223372036854775807 by omega)]
   rw [T7,he _ (Bk hi),AC,if_neg (by simp)]
   exact ih)) 0 (by omega)
 ·rw [hx False (by simpa using he),if_neg id]
  refine HR (n:=events.length) (P:=fun i=>(∃ e∈events.drop i,PQ e=false)->D9 events events (events.length:Int) (i:Int) [] [] [] [] [] (Bj views).2.1 (Bj views).2.2.1 (Bj views).2.2.2 (Bj views).1=some ST) (fun ⟨e,h,_⟩=>by
   rw [List.drop_eq_nil_of_le (Nat.le_refl _)] at h; cases h) (fun i hi ih ⟨e,h1,h2⟩=>LT (by
   unfold Hp
   have hz:events.getD i ((0:Int),(0:Int),(0:Int),(0:Int),U,U)=events[i]:=Ac hi
   simp only [show ((i:Int)<(events.length:Int)) from by omega,decide_true,if_true,show (0:Int)<=(i:Int) from by omega,Al,hz,AW (show i<9223372036854775807 by omega)]
   rw [T7,AC]
   rw [Bu hi] at h1
   cases hq:PQ events[i] with
   | false=>rw [if_pos (by simp)]; rfl
   | true =>
    rw [if_neg (by simp)]
    refine ih ⟨e,?_,h2⟩
    rcases Ah.1 h1 with h | h
    ·rw [h,hq] at h2; cases h2
    ·exact h)) 0 (by omega) (by
   by_cases hq:∃ e∈events.drop 0,PQ e=false
   ·exact hq
   ·exact absurd (fun e h=>by
     cases hb:PQ e with
     | true=>rfl
     | false=>exact absurd ⟨e,h,hb⟩ hq) he)
theorem jO (views:List (List Int)) (events:List CZ) (h:views.length<=maxLen) (ho:∀ a∈views,a.length<=maxLen):Kw views events=some (jN views events):=ny (by
 unfold Xs
 by_cases hv:DQ views views.length views=true
 ·rw [jK ⟨hv⟩,AC,if_pos (by rfl)]
  by_cases hl:events.length<=70
  ·rw [if_neg (by simp; omega)]
   refine di ?_
   unfold R4
   exact yM ⟨hv⟩ hl
  ·rw [if_pos (by simp; omega)]
   unfold jN
   rw [if_neg (fun q=>hl q.2.1)]
   rfl
 ·have hG:Ky views=some (([],[],[],[]),false):=Xu (by
   unfold Pm
   rw [UA _ h ho,AC,if_pos (by simpa using hv)])
  rw [hG,AC,if_neg (by simp)]
  unfold jN
  rw [if_neg (fun q=>hv q.1)]
  rfl)
theorem jP (views:List (List Int)) (events:List CZ) (h:views.length<=maxLen) (ho:∀ a∈views,a.length<=maxLen) (hl:events.length<=1048576):Kv views events=some (jN views events):=by
 have bad:∀ (i:Nat) (y g:A_),Ch events false (i:Int) y g=some ST:=fun i y g=>Fm (by
  have J2:Fl events false y g=some ST:=R0 (by
   unfold LP
   rw [if_pos (by simp)]
   rfl)
  unfold D8
  split
  ·rw [if_neg (by simp)]; exact J2
  ·exact J2)
 by_cases hc:DQ views views.length views=true/\events.length<=70/\∀ e∈events,PQ e=true
 ·rw [jE ⟨hc.1⟩ hc.2.1 hc.2.2]
  unfold jN
  rw [if_pos hc]
  rfl
 ·have hr:jN views events=ST:=by
   unfold jN
   rw [if_neg hc]
  rw [hr]
  refine Xr ?_
  unfold Pk
  by_cases hv:DQ views views.length views=true
  ·rw [UC ⟨hv⟩,AC]
   by_cases h70:events.length<=70
   ·refine HR (n:=events.length) (P:=fun i=>(∃ e∈events.drop i,PQ e=false)->∀ y g,Ch events true (i:Int) y g=some ST) (fun ⟨e,h,_⟩=>by
     rw [List.drop_eq_nil_of_le (Nat.le_refl _)] at h; cases h) (fun i hi ih ⟨e,h1,h2⟩ y g=>Fm (by
     unfold D8
     rw [if_pos (by simpa using hi),if_pos rfl]
     refine LQ ?_
     unfold Hn
     have hz:events.getD i ((0:Int),(0:Int),(0:Int),(0:Int),U,U)=events[i]:=Ac hi
     rw [if_pos (by simp; omega),if_pos (by omega),if_pos (by omega),Al,hz,T8,AC,AW (show i<9223372036854775807 by omega)]
     rw [Bu hi] at h1
     cases hq:PQ events[i] with
     | false=>exact bad _ _ _
     | true =>
      refine ih ⟨e,?_,h2⟩ _ _
      rcases Ah.1 h1 with h | h
      ·rw [h,hq] at h2; cases h2
      ·exact h)) 0 (by omega) (by
     by_cases hq:∃ e∈events.drop 0,PQ e=false
     ·exact hq
     ·exact absurd ⟨hv,h70,fun e h=>by
       cases hb:PQ e with
       | true=>rfl
       | false=>exact absurd ⟨e,h,hb⟩ hq⟩ hc) _ _
   ·refine Fm ?_
    unfold D8
    rw [if_pos (by simp; omega),if_pos rfl]
    refine LQ ?_
    unfold Hn
    rw [if_neg (by simp; omega)]
    exact bad 1 _ _
  ·have hG:Kx views=some (([],[],[],[]),false):=Xt (by
    unfold Pl
    rw [T_ _ h ho,AC,if_pos (by simpa using hv)])
   rw [hG,AC]
   exact bad 0 _ _
theorem yN (views:List (List Int)) (events:List CZ):GSm (jN views events).1/\(jN views events).2.1.length<=70:=by
 unfold jN
 split
 ·rename_i hc
  obtain ⟨hv,hl,he⟩:=hc
  have hv:WP views:=⟨hv⟩
  obtain ⟨r1,r2,r3⟩:=vR events 0 (Bj views) [] (md hv) (by omega) he
  unfold sX
  generalize Q2 0 events (Bj views) []=q at r1 r2 r3
  obtain ⟨g,cs⟩:=q
  simp only at r1 r2 r3
  simp only
  have h6:=r1.six
  refine ⟨⟨⟨by have:=r1.views.len; omega,fun x hx=>by have:=r1.views.view hx; omega⟩,⟨by omega,fun x hx=>?_⟩,⟨by have:=r1.flen; omega,fun x hx=>by have:=Jk (r1.fly x hx).items; omega⟩,by have:=r1.clen; omega⟩,by simp at r3; omega⟩
  obtain ⟨i,hi,rfl⟩:=DY hx
  have hm:=(r1.mem i (by omega)).1
  unfold Cn at hm
  rw [Ac hi] at hm
  have:=hm.lens
  omega
 ·exact ⟨⟨⟨by simp [ST],by simp [ST]⟩,⟨by simp [ST],by simp [ST]⟩,⟨by simp [ST],by simp [ST]⟩,by simp [ST]⟩,by simp [ST]⟩
theorem sY (x:List CZ) (hx:x.length<=maxLen) (n:Int) {u:Int} (hn:0<=n/\n<=1048576) (hu:IA x n=some u) (h:0<=u):x.length<=1048576:=by
 by_cases h2:IntKind.i64.wrap (n-(x.length:Int))<0
 ·have:IA x n=some (-1):=Xq (by unfold Xp; rw [if_pos (by simpa using h2)])
  rw [hu] at this
  cases this
  omega
 ·have:=wz hx (by omega) h2
  omega
theorem cH (x0) (hx0:Kd.ok (.slice (.slice (.int .i64))) x0) (x1) (hx1:Kd.ok (.slice AO) x1):Me x0 x1=some true:=Wo (by
 unfold Ms
 obtain ⟨r,hr,hl⟩:=i8 x0 hx0.1 (fun a ha=>(hx0.2 a ha).1) 1048576 (by omega)
 obtain ⟨r',hr',hrb⟩:=pA x0 1048576 hx0 (by omega)
 obtain rfl:=Option.some.inj (hr'.symm.trans hr)
 rw [hr,AC]
 by_cases h2:r'<0
 ·rw [if_pos (by simpa using h2)]
 rw [if_neg (by simpa using h2)]
 obtain ⟨hl1,hl2⟩:=hl.resolve_left h2
 obtain ⟨hsm,hb0,hb1⟩:=hrb.resolve_left h2
 obtain ⟨u,hu,hub⟩:=mS x1 r' hx1 (by omega)
 rw [hu,AC]
 by_cases h3:u<0
 ·rw [if_pos (by simpa using h3)]
 rw [if_neg (by simpa using h3)]
 obtain ⟨hsm1,hc0,hc1⟩:=hub.resolve_left h3
 have hel:=sY x1 hx1.1 r' (by omega) hu (by omega)
 have et:=pC x0 hsm
 have en:=i7 x0 hsm
 have ft:=mT x1 hsm1
 have fn:=fG x1 hsm1
 have ev:=YQ x0 hsm
 have ee:=mV x1 hsm1
 have ei:=jO x0 x1 hx0.1 (fun a ha=>(hx0.2 a ha).1)
 have es:=jP x0 x1 hx0.1 (fun a ha=>(hx0.2 a ha).1) hel
 obtain ⟨hb,hcs⟩:=yN x0 x1
 generalize jN x0 x1=mb at ei es hb hcs
 obtain ⟨g,cs,b⟩:=mb
 simp only at hb hcs
 have eq1:=pE g hb.small
 have eq2:=NE cs ⟨by omega,fun _ _=>trivial⟩
 obtain ⟨kg,y,hm,hk0,hk1,hh⟩:=xO hb
 obtain ⟨kc,yc,hmc,hkc0,hkc1,hhc⟩:=W3 70 hcs (by omega) kg hk0 (by omega)
 obtain ⟨kv,z,hmv,hkv,hkv1,_⟩:=nE (xs:=x0) 1048576 1048576 (by omega) (by omega) (fun a ha=>by have:=hl2 a ha; omega) 1 (by omega) (by omega)
 obtain ⟨ke,ze,hme,hke,hke1⟩:=jL (xs:=x1) 1048576 hel kv (by omega) (by omega) (by omega)
 obtain ⟨g1,g2,g3,g4⟩:=g
 obtain ⟨y1,y2,y3,y4⟩:=y
 simp only at hm
 simp only [et,ft,es,AC]
 refine Sc ?_
 unfold J6
 simp only [en,fn,ei,eq1,eq2,AC,jM,Bool.not_true,if_true,Bool.false_eq_true,if_false]
 refine Sb ?_
 unfold Jz
 simp only [et,ft,ev,ee,hmv,hme,eq1,eq2,AC,jM,Bool.not_true,if_true,Bool.false_eq_true,if_false,show ¬ ke<0 from by omega,decide_false]
 refine Sa ?_
 unfold Jy
 simp only [hm,hmc,hh,hhc,et,ft,ei,AC,Bool.false_eq_true,if_false,show ¬ kg<0 from by omega,show ¬ kc<0 from by omega,decide_false,bne_self_eq_false]
 refine SZ ?_
 unfold Jx
 simp only [eq1,eq2,AC,jM,Bool.not_true,if_true,Bool.false_eq_true,if_false]
 refine SY ?_
 unfold Jw
 simp only [hh,hhc,AC,Bool.false_eq_true,if_false,show ¬ kg<0 from by omega,show ¬ kc<0 from by omega,decide_false,bne_self_eq_false])

theorem ABU {P:Program} {c:List Char} {rest:List (List Char)} (h:behindMainWord (wordsSigns P.initOrder.toList)=c::rest) (h1:(c == "gc".toList||c == "spec".toList)=false) (h2:(c == "cut".toList||(c == "finals".toList&&rest.head? == some "cut".toList))=true):P.make=some .cut:=by
 unfold Program.make
 rw [h]
 simp only [h1,h2]
 rfl
theorem ABV {P:Program} {c:List Char} {rest:List (List Char)} (h:behindMainWord (wordsSigns P.initOrder.toList)=c::rest) (h1:((stripLifts liftWords (c::rest)).2.head? == some "cut".toList)=true) (h2:(stripLifts liftWords (c::rest)).1=[])
  (h3:P.laysLater=false) (h4:P.bearsReflect=false) (h5:P.doorFits []=true):P.mayEnter=true:=by
 unfold Program.mayEnter
 rw [h]
 simp only [h1,h2,h3,h4,h5]
 simp
theorem ABW {P:Program} {c:List Char} {rest:List (List Char)} (h:behindMainWord (wordsSigns P.initOrder.toList)=c::rest) (h1:(c == "carried".toList)=false) (h2:(stripLifts liftWords (c::rest)).1=[]):P.liftsFinal=false:=by
 have e:(some c==some "carried".toList)=false:=h1
 unfold Program.liftsFinal Program.headLifts
 rw [h]
 simp only [List.head?_cons,e,h2]
 simp
theorem Li {a b:Bool} (h:a=true) (g:b=true):(a&&b)=true:=by rw [h,g]; rfl
theorem ABX {α:Type} [BEq α] [LawfulBEq α] {a b:α} (h:a=b):(a==b)=true:=by rw [h]; exact beq_self_eq_true b
end Go.Proofs.YtfcgblnlopemkaaGreat.Core

namespace Go.Proofs.YtfcgblnlopemkaaGreat.Core
open Go
set_option maxRecDepth 100000
def ioL:List Nat:=[104,97,114,110,101,115,115,32,49,101,48,98,98,54,54,57,51,102,56,98,97,54,102,53,56,54,48,102,100,57,98,57,56,55,55,48,50,99,98,57,57,51,52,102,98,100,53,54,98,102,56,102,53,102,55,54,55,97,50,99,57,54,53,97,98,52,56,101,98,52,57,49,32,99,117,116,32,97,116,32,108,111,111,112,46,101,120,97,109,112,108,101,47,103,48,48,49,56,48,47,108,97,119,115,46,70,110,69,120,97,99,116,82,117,110,71,114,111,117,112]
def ioC:List Nat:=[99,117,116]
def ioW:List (List Nat):=[[97,116],[108,111,111,112,46,101,120,97,109,112,108,101,47,103,48,48,49,56,48,47,108,97,119,115,46,70,110,69,120,97,99,116,82,117,110,71,114,111,117,112]]
theorem io:Tryz.prog.initOrder.toList=ioL.map Char.ofNat:=(congrArg String.toList (show Tryz.prog.initOrder=String.ofList (ioL.map Char.ofNat) from by kernel_rfl)).trans String.toList_ofList
theorem iow:behindMainWord (wordsSigns Tryz.prog.initOrder.toList)=ioC.map Char.ofNat::ioW.map fun w=>w.map Char.ofNat:=by
 rw [io]
 kernel_rfl
theorem ADq:Tryz.prog.make=some .cut:=ABU iow (by kernel_rfl) (by kernel_rfl)
theorem enters:Tryz.prog.mayEnter=true:=ABV iow (by kernel_rfl) (by kernel_rfl) (by kernel_rfl) (by kernel_rfl) (by kernel_rfl)
theorem ACf:Tryz.prog.liftsFinal=false:=ABW iow (by kernel_rfl) (by kernel_rfl)
theorem xR:laidOutB Tryz.prog=true:=by kernel_rfl
theorem yO:mapsRowed Tryz.prog=true:=by kernel_rfl
theorem ADN:Tryz.prog.stopsHeard=true:=by kernel_rfl
end Go.Proofs.YtfcgblnlopemkaaGreat.Core
