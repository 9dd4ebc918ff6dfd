/- Texts of the proof, packed: part 5. -/
import Derived.Test.YtaedipailemlcaaGreatP3
import Derived.JoinedOf
import Derived.Test.YtaedipailemlcaaGreatRows
import Derived.ProofKit
set_option linter.unusedVariables false
set_option linter.unusedSimpArgs false
namespace Go.Proofs.YtaedipailemlcaaGreat.Core
open Go
set_option linter.unusedVariables false
set_option linter.unusedSimpArgs false
def j9 (x:BW):BW:=if x.1=3 then (x.1,x.2.1,x.2.2.1,x.2.2.2.1,0,x.2.2.2.2.2) else x
def RX (m:AC) (views:List (List Int)) (x:BW):AC×List BW×List Di:=if RR x=true then Fh m views (j9 x) else (m,[],[])
theorem nu (x:BW):(j9 x).2.2.1=x.2.2.1∧(j9 x).2.2.2.1=x.2.2.2.1:=by unfold j9; split<;>exact ⟨rfl,rfl⟩
theorem VU {m:AC} {views:List (List Int)} {x:BW} (h:¬ (x.2.2.1=m.1∧m.2.1≤x.2.2.2.1∧x.2.2.2.1≤(views.length:Int)∧RR x=true)):RX m views x=(m,[],[]):=by
 unfold RX
 split
 ·rename_i hx
  unfold Fh
  rw [if_neg (by
   rw [(nu x).1,(nu x).2]
   simp only [Bool.and_eq_true,beq_iff_eq,decide_eq_true_eq]
   exact fun g=>h ⟨g.1.1.2,g.1.2,g.2,hx⟩)]
 ·rfl
theorem Yv {x:BW} (h:x.1≠3):j9 x=x:=if_neg h
theorem f9 {m:AC} {views:List (List Int)} {x:BW} (hx:nj x) (h1:x.2.2.1=m.1) (h2:m.2.1≤x.2.2.2.1) (h3:x.2.2.2.1≤(views.length:Int)):Fh m views x =
  (if x.2.2.2.1=m.2.1 then aZ m (views.getD (m.2.1-1).toNat []) x
  else if (x.1==1&&(x.2.2.2.1==m.2.1+1)&&m.2.2.2.1&&(views.getD (m.2.1-1).toNat []).contains m.1)=true then (KL m x.2.2.2.1,[(2,m.1,x.2.1,x.2.2.2.1,0,m.2.2.2.2.2.2.2.1)],[])
  else if (x.1==3&&(views.getD (x.2.2.2.1-1).toNat []).contains m.1&&((views.getD (x.2.2.2.1-1).toNat []).getD 0 0 != m.1))=true then
   ((m.1,x.2.2.2.1,false,true,false,false,([]:List Int),x.2.2.2.2.2,(0:Int),(0:Int),(0:Int),(0:Int),(ByteArray.empty,ByteArray.empty,(0:Int)),([]:List Int)),EO m x 4,[])
  else (m,[],[])):=by
 unfold Fh
 rw [if_pos (by rw [Yo.2 hx]; simp [h1,h2,h3])]
theorem Yw {a:AC} {b:List BW} {c:List Di} {r:AC×List BW×List Di} (h:r=(a,b,c)):(b,c,a)=(r.2.1,r.2.2,r.1):=by rw [h]
theorem f_ (m:AC) (views:List (List Int)) (x:BW) (hm:Hf m) (hv:V7 views) (hx:nj x) (h1:x.2.2.1=m.1) (h2:m.2.1≤x.2.2.2.1) (h3:x.2.2.2.1≤(views.length:Int)) :
  IJ views x m=some ((RX m views x).2.1,(RX m views x).2.2,(RX m views x).1):=Wb (by
 have hvl:=hv.len
 have hep:=hm.ep
 have hxe:=hx.ep
 have hxi:=LP hx.items
 obtain ⟨l1,l2,l3⟩:=hm.lens
 have hin:=f9 hx h1 h2 h3
 unfold Ng RX
 rw [if_pos (Yo.2 hx)]
 have hV:=hv.wok (i:=(m.2.1-1).toNat) (by omega)
 generalize hVe:views.getD (m.2.1-1).toNat []=V at hV hin
 have hk:=hx.kind
 by_cases k1:x.1=1
 ·rw [if_pos (by simpa using k1),f8 m views x hm hv (by omega),Option.bind_some,Yv (by omega)]
  congr 1
  apply Yw
  rw [hin]
  unfold nq
  rw [hVe]
  by_cases e:x.2.2.2.1=m.2.1
  ·rw [if_pos e,if_neg (by rw [e]; simp; omega)]
   unfold aZ
   simp [k1]
  ·rw [if_neg e]
   cases hc:(x.2.2.2.1==m.2.1+1&&m.2.2.2.1&&V.contains m.1) with
   | true =>
    rw [if_pos (by rw [k1]; simpa using hc),if_pos rfl]
   | false =>
    rw [if_neg (by rw [k1]; simpa using hc),if_neg (by simp [k1]),if_neg (by simp)]
 rw [if_neg (by simpa using k1)]
 by_cases k2:x.1=2
 ·have J:∀ b:Bool,(b=true→m.2.2.2.1=false)→Cp views b m x=some (if b=true then ((DM V m.1).map (fun v=>(3,m.1,v,m.2.1,0,x.2.2.2.2.2)),[],U9 m V x.2.2.2.2.2) else ([],[],m)):=fun b hb=>Tb (by
   unfold Ka
   cases b with
   | false=>rw [if_neg (by simp),if_neg (by simp)]
   | true =>
    have hs:m.2.2.2.2.2.1=false:=by
     cases hh:m.2.2.2.2.2.1 with
     | false=>rfl
     | true=>have:=(hm.serves hh).1; rw [hb rfl] at this; cases this
    rw [if_pos rfl,if_pos rfl,AW (by omega),if_pos (by omega),if_pos (by omega),hVe,Wz V _ m hV (by omega) hs,Option.bind_some])
  rw [if_pos (by simpa using k2),Yv (by omega)]
  by_cases e:x.2.2.2.1=m.2.1
  ·rw [if_pos (by simpa using e)]
   have ho:Fh m views x=(if (m.2.2.2.2.1&&!m.2.2.2.1)=true then (U9 m V x.2.2.2.2.2,(DM V m.1).map (fun v=>(3,m.1,v,m.2.1,0,x.2.2.2.2.2)),[]) else (m,[],[])):=by
    rw [hin,if_pos e]; unfold aZ; rw [if_pos k2]
   rw [ho]
   cases hl:m.2.2.2.2.1 with
   | false=>rw [if_neg (by simp),J false (by simp),if_neg (by simp),if_neg (by simp)]
   | true =>
    rw [if_pos (by rfl),J _ (by simp)]
    cases hb:m.2.2.2.1 with
    | true=>rw [if_neg (by simp),if_neg (by simp)]
    | false=>rw [if_pos (by rfl),if_pos (by rfl)]
  ·rw [if_neg (by simpa using e),J false (by simp),if_neg (by simp)]
   congr 1
   apply Yw
   rw [hin,if_neg e,if_neg (by simp [k2]),if_neg (by simp [k2])]
 rw [if_neg (by simpa using k2)]
 by_cases k3:x.1=3
 ·have hW:=hv.wok (i:=(x.2.2.2.1-1).toNat) (by omega)
  rw [if_pos (by simpa using k3),AW (by omega),if_pos (by omega),if_pos (by omega)]
  have hx':nj (j9 x):=by
   unfold j9
   rw [if_pos k3]
   exact ⟨hx.kind,hx.frm,hx.to,hx.ep,(show (0:Int)≤0∧(0:Int)≤1000000000 from by decide),hx.items,hx.shape⟩
  have hf:j9 x=(x.1,x.2.1,x.2.2.1,x.2.2.2.1,0,x.2.2.2.2.2):=if_pos k3
  have hin2:=f9 (m:=m) (views:=views) hx' (by rw [hf]; exact h1) (by rw [hf]; exact h2) (by rw [hf]; exact h3)
  rw [hVe] at hin2
  generalize hWe:views.getD (x.2.2.2.1-1).toNat []=Wv at hW
  rw [Yu m Wv x hW (by omega),Option.bind_some]
  congr 1
  apply Yw
  rw [hin2,hf]
  dsimp only
  rw [hWe]
  unfold nt
  by_cases e:x.2.2.2.1=m.2.1
  ·have hVW:Wv=V:=by rw [← hWe,← hVe,e]
   rw [if_pos e]
   unfold aZ
   rw [if_neg (by rw [k3]; decide),if_pos k3,hVW]
   dsimp only
   cases hc:(!V.contains m.1||(V.getD 0 0==m.1)) with
   | true=>simp only [if_true]
   | false =>
    simp only [Bool.false_eq_true,if_false]
    cases hb:m.2.2.2.1<;>cases hf2:m.2.2.1<;>simp [e,EO,ns]
  ·rw [if_neg e,if_neg (by rw [k3]; simp)]
   cases hc:(!Wv.contains m.1||(Wv.getD 0 0==m.1)) with
   | true =>
    rw [if_neg (by
     intro h
     simp only [Bool.and_eq_true,bne_iff_ne,Bool.or_eq_true,Bool.not_eq_true',beq_iff_eq] at h hc
     rcases hc with hc | hc
     ·rw [hc] at h; exact absurd h.1.2 (by simp)
     ·exact h.2 hc),if_pos rfl]
   | false =>
    rw [if_pos (by
     simp only [Bool.or_eq_false_iff,Bool.not_eq_false'] at hc
     rw [k3,hc.1]
     simpa using hc.2),if_neg (by simp),if_pos (Or.inl (by omega))]
    rfl
 rw [if_neg (by simpa using k3),Yv k3]
 by_cases k4:x.1=4
 ·rw [if_pos (by simpa using k4)]
  have J:∀ b:Bool,ER b m x=some (if b=true then ([],[],(m.1,m.2.1,m.2.2.1,m.2.2.2.1,m.2.2.2.2.1,m.2.2.2.1&&(((m.2.2.2.2.2.2.1.filter (· != x.2.1)).length:Int)==0),m.2.2.2.2.2.2.1.filter (· != x.2.1),m.2.2.2.2.2.2.2)) else ([],[],m)):=fun b=>Tc (by
   unfold Kb
   cases b with
   | false=>rw [if_neg (by simp),if_neg (by simp)]
   | true =>
    rw [if_pos rfl,if_pos rfl,Pn _ _ (by omega),Option.bind_some]
    cases hs:m.2.2.2.2.2.1 with
    | true =>
     obtain ⟨q1,q2,q3⟩:=hm.serves hs
     rw [if_neg (by simp),q3,q1]
     rfl
    | false =>
     rw [if_pos rfl]
     cases hq:(((m.2.2.2.2.2.2.1.filter (· != x.2.1)).length:Int)==0) with
     | true=>rw [if_pos rfl,Bool.and_true]
     | false=>rw [if_neg (by simp),Bool.and_false])
  by_cases e:x.2.2.2.1=m.2.1
  ·rw [if_pos (by simpa using e),J]
   have ho:Fh m views x=(if m.2.2.2.2.1=true then
     ((m.1,m.2.1,m.2.2.1,m.2.2.2.1,m.2.2.2.2.1,m.2.2.2.1&&(((m.2.2.2.2.2.2.1.filter (· != x.2.1)).length:Int)==0),m.2.2.2.2.2.2.1.filter (· != x.2.1),m.2.2.2.2.2.2.2),[],[]) else (m,[],[])):=by
    rw [hin,if_pos e]; unfold aZ; rw [if_neg k2,if_neg k3,if_pos k4]
   rw [ho]
   cases hl:m.2.2.2.2.1 with
   | false=>rw [if_neg (by simp),if_neg (by simp)]
   | true=>rw [if_pos rfl,if_pos rfl]
  ·rw [if_neg (by simpa using e),J,if_neg (by simp)]
   congr 1
   apply Yw
   rw [hin,if_neg e,if_neg (by simp [k4]),if_neg (by simp [k4])]
 rw [if_neg (by simpa using k4)]
 have st:x.1=5∨x.1=7→jK m x=((Fh m views x).2.1,(Fh m views x).1)∧(Fh m views x).2.2=[]:=fun hk=>by
  rw [hin]
  unfold jK
  by_cases e:x.2.2.2.1=m.2.1
  ·rw [if_pos e]
   unfold aZ EO
   rw [if_neg k2,if_neg k3,if_neg k4,e]
   cases hb:m.2.2.2.1 with
   | true =>
    rcases hk with hk | hk
    ·rw [if_pos (by simp),if_neg (by omega),if_pos hk,if_pos rfl]
     exact ⟨rfl,rfl⟩
    ·rw [if_pos (by simp),if_pos hk,if_neg (by omega),if_pos hk,if_pos rfl]
     exact ⟨rfl,rfl⟩
   | false =>
    rcases hk with hk | hk
    ·rw [if_neg (by simp),if_pos hk,if_neg (by simp)]
     exact ⟨rfl,rfl⟩
    ·rw [if_neg (by simp),if_neg (by omega),if_pos hk,if_neg (by simp)]
     exact ⟨rfl,rfl⟩
  ·simp [e,k1,k3]
 have sd:∀ op,x.1=6∧op=1∨x.1=8∧op=2→(if (x.2.2.2.1==m.2.1&&m.2.2.2.2.2.2.2.2.2.1==op&&m.2.2.2.2.2.2.2.2.2.2.2.1==x.2.2.2.2.1)=true then ((HQ m x.2.1).2.2,(HQ m x.2.1).1) else ([],m))=((Fh m views x).2.2,(Fh m views x).1)∧(Fh m views x).2.1=[]:=fun op hk=>by
  have ht:(HQ m x.2.1).2.1=[]:=by unfold HQ; split<;>rfl
  rw [hin]
  by_cases e:x.2.2.2.1=m.2.1
  ·rw [if_pos e]
   unfold aZ
   rw [if_neg k2,if_neg k3,if_neg k4,if_neg (show ¬ x.1=5 by omega),if_neg (show ¬ x.1=7 by omega),e]
   have hop:(if x.1=8 then (2:Int) else 1)=op:=by
    rcases hk with ⟨h,h'⟩ | ⟨h,h'⟩
    ·rw [if_neg (by omega),h']
    ·rw [if_pos h,h']
   rw [hop]
   by_cases c1:m.2.2.2.2.2.2.2.2.2.1=op
   ·by_cases c2:m.2.2.2.2.2.2.2.2.2.2.2.1=x.2.2.2.2.1
    ·rw [if_pos (by simp [c1,c2]),if_pos ⟨by omega,c1,c2⟩]
     exact ⟨rfl,ht⟩
    ·simp [c2]
   ·simp [c1]
  ·simp [e,k1,k3]
 have h7:x.1≠7→x.1=5→0<x.2.2.2.2.2.length:=fun _ h5=>by
  have:=hx.shape
  rw [if_neg (by omega),if_pos h5] at this
  omega
 have J2:∀ b:Bool,(b=true↔x.1=5∨x.1=7)→ES x.1 b m x=some ((Fh m views x).2.1,(Fh m views x).2.2,(Fh m views x).1):=fun b hb=>Td (by
  unfold Kc
  cases b with
  | true =>
   have hk5:=hb.1 rfl
   obtain ⟨q1,q2⟩:=st hk5
   rw [if_pos rfl,dG m x l2 (fun h=>h7 h (by omega)),Option.bind_some,q1,q2]
  | false =>
   have hn:¬ (x.1=5∨x.1=7):=fun h=>by have:=hb.2 h; cases this
   rw [if_neg (by simp)]
   by_cases k6:x.1=6
   ·obtain ⟨q1,q2⟩:=sd 1 (.inl ⟨k6,rfl⟩)
    rw [if_pos (by simpa using k6),RW m 1 x hm,Option.bind_some,q1,q2]
   ·obtain ⟨q1,q2⟩:=sd 2 (.inr ⟨by omega,rfl⟩)
    rw [if_neg (by simpa using k6),if_pos (by rw [beq_iff_eq]; omega),RW m 2 x hm,Option.bind_some,q1,q2])
 by_cases k5:x.1=5
 ·rw [if_pos (by simpa using k5),J2 _ (by simp [k5])]
 ·rw [if_neg (by simpa using k5),J2 _ (by simp [k5])])
theorem EP {m:AC} (h:Hf m):Cj m=some true:=by
 obtain ⟨h1,h2,h3⟩:=h.lens
 rw [Wx m (by unfold maxLen; omega) (by unfold maxLen; omega) (by unfold maxLen; omega),lO.2 h]
theorem Yx {views:List (List Int)} (h:V7 views):Gv views=some true:=by
 have:=h.len
 rw [Yl views (by unfold maxLen; omega) (fun a ha=>by have:=(h.view ha).2; unfold maxLen; omega),h.ok]
theorem Gm (m:AC) (views:List (List Int)) (x:BW) (hm:Hf m) (hv:V7 views) (hx:x.2.2.2.2.2.length≤68719476736) :
  FR m views x=some (RX m views x):=fC (by
 have hxm:x.2.2.2.2.2.length≤maxLen:=by unfold maxLen; omega
 unfold US
 rw [hm.icopy,Option.bind_some]
 by_cases c1:x.2.2.1=m.1
 case neg=>rw [if_neg (by simpa using c1),VU (fun h=>c1 h.1)]
 rw [if_pos (by simpa using c1)]
 by_cases c2:x.2.2.2.1<m.2.1
 ·rw [if_neg (by simpa using c2),VU (fun h=>by omega)]
 rw [if_pos (by simpa using c2)]
 by_cases c3:x.2.2.2.1>(views.length:Int)
 ·rw [if_neg (by simpa using c3),VU (fun h=>by omega)]
 rw [if_pos (by simpa using c3),EP hm,Option.bind_some,if_pos (by rfl),Yx hv,Option.bind_some,if_pos (by rfl),dD x hxm,Option.bind_some]
 cases hmo:RR x with
 | false=>rw [if_pos (by rfl),VU (fun h=>by rw [hmo] at h; cases h.2.2.2)]
 | true =>
  rw [if_neg (by simp)]
  have hx':=Yo.1 hmo
  refine Xo ?_
  unfold O9
  have hok:Hf (RX m views x).1:=by
   unfold RX
   rw [if_pos hmo]
   exact (j6 hm hv).mok
  rw [f_ m views x hm hv hx' c1 (by omega) (by omega),Option.bind_some,hok.icopy,Option.bind_some])
end Go.Proofs.YtaedipailemlcaaGreat.Core

namespace Go.Proofs.YtaedipailemlcaaGreat.Core
open Go
set_option linter.unusedVariables false
set_option linter.unusedSimpArgs false
abbrev V_:Type:=Int×ByteArray×ByteArray×Int×Int×Int×Int×Int×ByteArray
abbrev BZ:Type:=List (List Int)×List AC×List BW×List V_
abbrev MY:Type:=Int×Int×Int×Int×ByteArray×ByteArray
def LR:V_:=((0:Int),ByteArray.empty,ByteArray.empty,(0:Int),(0:Int),(0:Int),(0:Int),(0:Int),ByteArray.empty)
def F8:BW:=((0:Int),(0:Int),(0:Int),(0:Int),(0:Int),([]:List AX))
def Cs (g:BZ) (i:Nat):AC:=g.2.1.getD i Iv
structure W8 (g:BZ) (n:Nat):Prop where
 views:V7 g.1
 six:g.2.1.length=6
 mem:∀ i,i<6→Hf (Cs g i)∧(Cs g i).1=(i:Int)+1
 fly:∀ x∈g.2.2.1,nj x
 flen:g.2.2.1.length≤8*n
 clen:g.2.2.2.length≤n
def gA (at_:Int) (s:Di) (c:V_):V_ :=
 (c.1,c.2.1,c.2.2.1,c.2.2.2.1,at_,s.2.2.2.2.2,s.2.1,s.2.2.1,if (c.1==2)=true then s.2.2.2.2.1 else c.2.2.2.2.2.2.2.2)
def VG (at_:Int) (cs:List V_) (s:Di):List V_ :=
 if (decide (s.1≥(cs.length:Int))||decide ((cs.getD s.1.toNat LR).2.2.2.2.1≥0))=true then cs else cs.set s.1.toNat (gA at_ s (cs.getD s.1.toNat LR))
def IE (g:BZ) (n:AC) (told:List BW) (said:List Di) (at_:Int):BZ :=
 (g.1,g.2.1.set (n.1-1).toNat n,g.2.2.1++told,said.foldl (VG at_) g.2.2.2)
theorem mY (at_:Int) (cs:List V_) (s:Di):(VG at_ cs s).length=cs.length:=by unfold VG; split<;>simp
theorem W0 (at_:Int):∀ (said:List Di) (cs:List V_),(said.foldl (VG at_) cs).length=cs.length
 | [],cs=>rfl
 | s::l,cs=>by rw [List.foldl_cons,W0 at_ l,mY]
theorem lY {α:Type} {l:List α} {i:Nat} {a d:α} (h:i<l.length):(l.set i a).getD i d=a:=by simp [List.getD,h]
theorem FD (n:AC) (told:List BW) (said:List Di) (at_:Int) (g:BZ) (hn:1≤n.1∧n.1≤6) (h6:g.2.1.length=6) (hf:g.2.2.1.length+told.length≤68719476736) (hc:g.2.2.2.length≤68719476736) (hs:fw said) :
  D9 n told said at_ g=some (IE g n told said at_):=aR (by
 have hsl:=hs.1
 unfold RH
 rw [AW (show -9223372036854775808≤n.1-1∧n.1-1≤9223372036854775807 by omega)]
 simp only [List.nil_append,List.length_nil,Nat.zero_add]
 rw [if_pos (by omega),if_pos (by omega),if_pos (by omega),if_pos (by omega),if_pos (by omega)]
 have key:=G2 (n:=said.length) (P:=fun i=>∀ (cs:List V_),cs.length≤68719476736→B8 said at_ (i:Int) (g.1,g.2.1.set (n.1-1).toNat n,g.2.2.1++told,cs) n (g.2.1.set (n.1-1).toNat n) (g.2.2.1++told)=some (g.1,g.2.1.set (n.1-1).toNat n,g.2.2.1++told,(said.drop i).foldl (VG at_) cs)) (fun cs hcs=>Ms (by
  unfold Ha
  rw [if_neg (by simp)]
  simp)) (fun i hi ih cs hcs=>Ms (by
  unfold Ha
  have hz:said.getD i ((0:Int),(0:Int),(0:Int),ByteArray.empty,ByteArray.empty,(0:Int))=said[i]:=Ac hi
  have h0:=(hs.2 said[i] (List.getElem_mem hi)).1
  simp only [show ((i:Int)<(said.length:Int)) from by omega,decide_true,if_true,show (0:Int)≤(i:Int) from by omega,Int.toNat_natCast,hz,AR (show i<9223372036854775807 by omega)]
  have hz3:cs.getD said[i].1.toNat ((0:Int),ByteArray.empty,ByteArray.empty,(0:Int),(0:Int),(0:Int),(0:Int),(0:Int),ByteArray.empty)=cs.getD said[i].1.toNat LR:=rfl
  rw [Bd hi,List.foldl_cons,hz3]
  by_cases c1:said[i].1≥(cs.length:Int)
  ·rw [if_pos (by simpa using c1),ih cs hcs]
   have:VG at_ cs said[i]=cs:=by unfold VG; rw [if_pos (by simp [c1])]
   rw [this]
  ·rw [if_neg (by simpa using c1),if_pos (by omega),if_pos (by omega)]
   by_cases c2:(cs.getD said[i].1.toNat LR).2.2.2.2.1≥0
   ·rw [if_pos (show decide ((cs.getD said[i].1.toNat LR).2.2.2.2.1≥0)=true from decide_eq_true c2),ih cs hcs]
    have:VG at_ cs said[i]=cs:=by unfold VG; rw [if_pos (by rw [decide_eq_true c2,Bool.or_true])]
    rw [this]
   ·rw [if_neg (show ¬ decide ((cs.getD said[i].1.toNat LR).2.2.2.2.1≥0)=true from fun h=>c2 (of_decide_eq_true h))]
    have hcl:said[i].1.toNat<cs.length:=by omega
    have e:VG at_ cs said[i]=cs.set said[i].1.toNat (gA at_ said[i] (cs.getD said[i].1.toNat LR)):=by unfold VG; rw [if_neg (by rw [decide_eq_false c1,decide_eq_false c2]; simp)]
    rw [e]
    refine Vi ?_
    unfold Mr
    have hz2:∀ (l:List V_),l.getD said[i].1.toNat ((0:Int),ByteArray.empty,ByteArray.empty,(0:Int),(0:Int),(0:Int),(0:Int),(0:Int),ByteArray.empty)=l.getD said[i].1.toNat LR:=fun l=>rfl
    simp only [List.nil_append,List.length_nil,Nat.zero_add,hz2,lY hcl,List.set_set,List.length_set]
    have hk:∀ r,(if cs.length≤68719476736 then r else (none:Option BZ))=r:=fun r=>if_pos hcs
    rw [if_pos (show cs.length≤68719476736 from hcs),if_pos (show (0:Int)≤said[i].1 from h0),if_pos (show said[i].1<(cs.length:Int) by omega),AR (show i<9223372036854775807 by omega)]
    unfold gA
    by_cases c3:(cs.getD said[i].1.toNat LR).1=2
    ·rw [if_pos (show ((cs.getD said[i].1.toNat LR).1==2)=true by simpa using c3),if_pos (show ((cs.getD said[i].1.toNat LR).1==2)=true by simpa using c3)]
     exact ih _ (by simpa using hcs)
    ·rw [if_neg (show ¬ ((cs.getD said[i].1.toNat LR).1==2)=true by simpa using c3),if_neg (show ¬ ((cs.getD said[i].1.toNat LR).1==2)=true by simpa using c3)]
     exact ih _ (by simpa using hcs))) 0 (by omega) g.2.2.2 hc
 exact key)
theorem nw {g:BZ} {n:AC} {told:List BW} {said:List Di} {at_:Int} {i j:Nat} (h6:g.2.1.length=6) (hj:j<6) (hn:n.1=(i:Int)+1) (hi:i<6):Cs (IE g n told said at_) j=if j=i then n else Cs g j:=by
 unfold Cs IE
 simp only [hn,show ((i:Int)+1-1).toNat=i from by omega]
 by_cases e:j=i
 ·subst e
  rw [if_pos rfl]
  exact lY (by omega)
 ·rw [if_neg e]
  simp [List.getD,List.getElem?_set,Ne.symm e]
theorem W8.member {g:BZ} {k:Nat} (h:W8 g k) {n:AC} {told:List BW} {said:List Di} {at_:Int} {i:Nat} (hi:i<6) (hn:Hf n) (hid:n.1=(i:Int)+1) (ht:∀ y∈told,nj y) (hl:told.length≤4):W8 (IE g n told said at_) (k+1):=by
 refine ⟨h.views,by simp [IE,h.six],fun j hj=>?_,fun x hx=>?_,?_,?_⟩
 ·rw [nw h.six hj hid hi]
  split
  ·rename_i e
   subst e
   exact ⟨hn,hid⟩
  ·exact h.mem j hj
 ·rcases List.mem_append.1 hx with h1 | h1
  ·exact h.fly x h1
  ·exact ht x h1
 ·have:=h.flen
  simp only [IE,List.length_append]
  omega
 ·have:=h.clen
  simp only [IE,W0]
  omega
def Yy (g:BZ) (at_:Int) (e:MY):BZ:=(g.1,g.2.1,g.2.2.1,g.2.2.2++[(e.2.2.2.1,e.2.2.2.2.1,e.2.2.2.2.2,at_,-1,0,0,0,ByteArray.empty)])
def W2 (g:BZ) (at_:Int) (e:MY):Int×BZ :=
 if (GM (Cs g (e.2.1-1).toNat) g.1 e.2.2.2.1 (g.2.2.2.length:Int) e.2.2.2.2.1 e.2.2.2.2.2).2.2.2=true then
  (0,IE (Yy g at_ e) (GM (Cs g (e.2.1-1).toNat) g.1 e.2.2.2.1 (g.2.2.2.length:Int) e.2.2.2.2.1 e.2.2.2.2.2).1 (GM (Cs g (e.2.1-1).toNat) g.1 e.2.2.2.1 (g.2.2.2.length:Int) e.2.2.2.2.1 e.2.2.2.2.2).2.1 (GM (Cs g (e.2.1-1).toNat) g.1 e.2.2.2.1 (g.2.2.2.length:Int) e.2.2.2.2.1 e.2.2.2.2.2).2.2.1 at_)
 else (1,Yy g at_ e)
theorem pH {e:MY} (h:RM e=true):1≤e.1∧e.1≤6∧1≤e.2.1∧e.2.1≤6∧0≤e.2.2.1:=by
 unfold RM at h
 simp only [Bool.and_eq_true,decide_eq_true_eq] at h
 omega
theorem W8.told {g:BZ} {k:Nat} (h:W8 g k):True:=trivial
theorem nx {m n:AC} {l:List BW} (h:Wy m n l):∀ y∈l,nj y:=fun y hy=>(h y hy).1
theorem W3 (at_:Int) (e:MY) (g:BZ) (k:Nat) (hg:W8 g k) (hk:k≤1000) (hn:1≤e.2.1∧e.2.1≤6):MJ at_ e g=some (W2 g at_ e)∧W8 (W2 g at_ e).2 (k+1)∧(W2 g at_ e).2.1=g.1:=by
 have hc:=hg.clen
 have hf:=hg.flen
 have h6:=hg.six
 have wn:IntKind.i64.wrap (e.2.1-1)=e.2.1-1:=AW (by omega)
 have wl:IntKind.i64.wrap (((g.2.2.2.length+1:Nat):Int)-1)=(g.2.2.2.length:Int):=by rw [AW (by omega)]; omega
 obtain ⟨m1,m2⟩:=hg.mem (e.2.1-1).toNat (by omega)
 have hb:=mW (op:=e.2.2.2.1) (call:=(g.2.2.2.length:Int)) (key:=e.2.2.2.2.1) (val:=e.2.2.2.2.2) m1 hg.views
 refine ⟨ct ?_,?_,?_⟩
 ·unfold TO W2
  simp only [List.nil_append,List.length_nil,Nat.zero_add,List.length_append,List.length_cons]
  rw [if_pos (by omega),if_pos (by omega),wn,if_pos (by omega),if_pos (by omega),wl,
   show g.2.1.getD (e.2.1-1).toNat ((0:Int),(0:Int),false,false,false,false,([]:List Int),([]:List AX),(0:Int),(0:Int),(0:Int),(0:Int),(ByteArray.empty,ByteArray.empty,(0:Int)),([]:List Int))=Cs g (e.2.1-1).toNat from rfl,
   dE _ _ _ _ _ _ m1 hg.views,Option.bind_some]
  cases hq:(GM (Cs g (e.2.1-1).toNat) g.1 e.2.2.2.1 (g.2.2.2.length:Int) e.2.2.2.2.1 e.2.2.2.2.2).2.2.2 with
  | false=>rfl
  | true =>
   have hid:=hb.id hq
   have hmo:=hb.mok hq
   have htl:=hb.tlen
   rw [if_neg (by simp),if_pos rfl]
   have:=FD (GM (Cs g (e.2.1-1).toNat) g.1 e.2.2.2.1 (g.2.2.2.length:Int) e.2.2.2.2.1 e.2.2.2.2.2).1 (GM (Cs g (e.2.1-1).toNat) g.1 e.2.2.2.1 (g.2.2.2.length:Int) e.2.2.2.2.1 e.2.2.2.2.2).2.1 (GM (Cs g (e.2.1-1).toNat) g.1 e.2.2.2.1 (g.2.2.2.length:Int) e.2.2.2.2.1 e.2.2.2.2.2).2.2.1 at_ (Yy g at_ e) hmo.id h6 (by show g.2.2.1.length+_≤_; omega) (by simp only [Yy,List.length_append,List.length_cons,List.length_nil]; omega) hb.said
   unfold Yy at this ⊢
   rw [this]
   rfl
 ·unfold W2
  have hgc:∀ (P:BZ→Prop),P (Yy g at_ e)→P (Yy g at_ e):=fun _ h=>h
  split
  ·rename_i hq
   have hid:=hb.id hq
   have hmo:=hb.mok hq
   have htl:=hb.tlen
   have hm:=hg.member (said:=(GM (Cs g (e.2.1-1).toNat) g.1 e.2.2.2.1 (g.2.2.2.length:Int) e.2.2.2.2.1 e.2.2.2.2.2).2.2.1) (at_:=at_) (i:=(e.2.1-1).toNat) (by omega) hmo (by rw [hid,m2]) (nx (hb.told hq)) htl
   exact ⟨hm.views,hm.six,hm.mem,hm.fly,hm.flen,by simp only [IE,W0,Yy,List.length_append,List.length_cons,List.length_nil]; omega⟩
  ·exact ⟨hg.views,hg.six,hg.mem,hg.fly,by have:=hg.flen; show g.2.2.1.length≤_; omega,by simp only [Yy,List.length_append,List.length_cons,List.length_nil]; omega⟩
 ·unfold W2; split<;>rfl
end Go.Proofs.YtaedipailemlcaaGreat.Core

namespace Go.Proofs.YtaedipailemlcaaGreat.Core
open Go
set_option linter.unusedVariables false
set_option linter.unusedSimpArgs false
def ag (g:BZ) (at_:Int) (m:AC) (node:Int):Nat→Int→Int×BZ
 | 0,_=>(1,g)
 | k+1,e=>if ((g.1.getD (e-1).toNat []).getD 0 0 != node)=true then ag g at_ m node k (e+1)
  else if (LQ m g.1 e).2.2=true then (0,IE g (LQ m g.1 e).1 (LQ m g.1 e).2.1 [] at_) else (1,g)
def gC (g:BZ) (at_ node:Int):Int×BZ:=ag g at_ (Cs g (node-1).toNat) node ((g.1.length:Int)-(Cs g (node-1).toNat).2.1).toNat ((Cs g (node-1).toNat).2.1+1)
theorem W8.up {g:BZ} {k:Nat} (h:W8 g k):W8 g (k+1):=⟨h.views,h.six,h.mem,h.fly,by have:=h.flen; omega,by have:=h.clen; omega⟩
theorem W4 (at_ node:Int) (g:BZ) (k:Nat) (hg:W8 g k) (hk:k≤1000) (hn:1≤node∧node≤6):MK at_ node g=some (gC g at_ node)∧W8 (gC g at_ node).2 (k+1)∧(gC g at_ node).2.1=g.1:=by
 have hc:=hg.clen
 have hf:=hg.flen
 have h6:=hg.six
 have hvl:=hg.views.len
 have wn:IntKind.i64.wrap (node-1)=node-1:=AW (by omega)
 obtain ⟨m1,m2⟩:=hg.mem (node-1).toNat (by omega)
 have hep:=m1.ep
 have wm:IntKind.i64.wrap ((Cs g (node-1).toNat).2.1+1)=(Cs g (node-1).toNat).2.1+1:=AW (by omega)
 have key:∀ (j:Nat) (e:Int),e=(g.1.length:Int)+1-(j:Int)→2≤e→Fx at_ node e g (Cs g (node-1).toNat)=some (ag g at_ (Cs g (node-1).toNat) node j e)∧W8 (ag g at_ (Cs g (node-1).toNat) node j e).2 (k+1)∧(ag g at_ (Cs g (node-1).toNat) node j e).2.1=g.1:=by
  intro j
  induction j with
  | zero =>
   intro e he h2
   refine ⟨IX ?_,hg.up,rfl⟩
   unfold Fy
   rw [if_neg (by simp; omega)]
   rfl
  | succ j ih =>
   intro e he h2
   have we:IntKind.i64.wrap (e-1)=e-1:=AW (by omega)
   have we2:IntKind.i64.wrap (e+1)=e+1:=AW (by omega)
   have gv:=hg.views.get (i:=(e-1).toNat) (by omega)
   have ha:=mX (e:=e) m1 hg.views
   obtain ⟨i1,i2,i3⟩:=ih (e+1) (by omega) (by omega)
   unfold ag
   refine ⟨IX ?_,?_,?_⟩
   ·unfold Fy
    rw [if_pos (by simp; omega),we,we2,if_pos (by omega),if_pos (by omega),if_pos (by omega),if_pos (by omega),show (g.1.getD (e-1).toNat ([]:List Int)).getD (0:Int).toNat 0=(g.1.getD (e-1).toNat []).getD 0 0 from rfl]
    by_cases h3:((g.1.getD (e-1).toNat []).getD 0 0 != node)=true
    ·rw [if_pos h3,if_pos h3,i1]
    ·rw [if_neg h3,if_neg h3,dF _ _ _ m1 hg.views,Option.bind_some]
     cases hq:(LQ (Cs g (node-1).toNat) g.1 e).2.2 with
     | false=>rfl
     | true =>
      obtain ⟨a1,a2,a3,a4⟩:=ha hq
      rw [if_neg (by simp),if_pos rfl,FD _ _ _ _ _ a1.id h6 (by omega) (by omega) E3]
      rfl
   ·split
    ·exact i2
    ·split
     ·rename_i hq
      obtain ⟨a1,a2,a3,a4⟩:=ha hq
      exact hg.member (i:=(node-1).toNat) (by omega) a1 (by rw [a2,m2]) (nx a3) a4
     ·exact hg.up
   ·split
    ·exact i3
    ·split<;>rfl
 have hmain:=key ((g.1.length:Int)-(Cs g (node-1).toNat).2.1).toNat ((Cs g (node-1).toNat).2.1+1)
 by_cases hle:(Cs g (node-1).toNat).2.1≤(g.1.length:Int)
 ·obtain ⟨k1,k2,k3⟩:=hmain (by omega) (by omega)
  refine ⟨TP ?_,k2,k3⟩
  unfold MW
  rw [wn,if_pos (by omega),if_pos (by omega),show g.2.1.getD (node-1).toNat ((0:Int),(0:Int),false,false,false,false,([]:List Int),([]:List AX),(0:Int),(0:Int),(0:Int),(0:Int),(ByteArray.empty,ByteArray.empty,(0:Int)),([]:List Int))=Cs g (node-1).toNat from rfl,wm]
  exact k1
 ·have e0:((g.1.length:Int)-(Cs g (node-1).toNat).2.1).toNat=0:=by omega
  unfold gC
  rw [e0]
  refine ⟨TP ?_,hg.up,rfl⟩
  unfold MW
  rw [wn,if_pos (by omega),if_pos (by omega),show g.2.1.getD (node-1).toNat ((0:Int),(0:Int),false,false,false,false,([]:List Int),([]:List AX),(0:Int),(0:Int),(0:Int),(0:Int),(ByteArray.empty,ByteArray.empty,(0:Int)),([]:List Int))=Cs g (node-1).toNat from rfl,wm]
  refine IX ?_
  unfold Fy
  rw [if_neg (fun h=>hle (by have:=of_decide_eq_true h; omega))]
  rfl
def iJ (g:BZ) (i:Nat):BZ:=(g.1,g.2.1,g.2.2.1.take i++g.2.2.1.drop (i+1),g.2.2.2)
def mZ (g:BZ) (at_:Int) (e:MY):Int×BZ :=
 if g.2.2.1=[] then (1,g)
 else if e.1=4 then (0,(g.1,g.2.1,g.2.2.1++[g.2.2.1.getD (e.2.2.1 % (g.2.2.1.length:Int)).toNat F8],g.2.2.2))
 else if e.1=3 then (0,iJ g (e.2.2.1 % (g.2.2.1.length:Int)).toNat)
 else (0,IE (iJ g (e.2.2.1 % (g.2.2.1.length:Int)).toNat)
  (Fh (Cs g ((g.2.2.1.getD (e.2.2.1 % (g.2.2.1.length:Int)).toNat F8).2.2.1-1).toNat) g.1 (g.2.2.1.getD (e.2.2.1 % (g.2.2.1.length:Int)).toNat F8)).1
  (Fh (Cs g ((g.2.2.1.getD (e.2.2.1 % (g.2.2.1.length:Int)).toNat F8).2.2.1-1).toNat) g.1 (g.2.2.1.getD (e.2.2.1 % (g.2.2.1.length:Int)).toNat F8)).2.1
  (Fh (Cs g ((g.2.2.1.getD (e.2.2.1 % (g.2.2.1.length:Int)).toNat F8).2.2.1-1).toNat) g.1 (g.2.2.1.getD (e.2.2.1 % (g.2.2.1.length:Int)).toNat F8)).2.2 at_)
theorem W8.less {g:BZ} {k:Nat} (h:W8 g k) (i:Nat):W8 (iJ g i) k:=by
 refine ⟨h.views,h.six,h.mem,fun x hx=>?_,?_,h.clen⟩
 ·rcases List.mem_append.1 hx with h1 | h1
  ·exact h.fly x (List.mem_of_mem_take h1)
  ·exact h.fly x (List.mem_of_mem_drop h1)
 ·have:=h.flen
  simp only [iJ,List.length_append,List.length_take,List.length_drop]
  omega
theorem ah (at_:Int) (e:MY) (g:BZ) (k:Nat) (hg:W8 g k) (hk:k≤1000) (hn:0≤e.2.2.1):Pv at_ e g=some (mZ g at_ e)∧W8 (mZ g at_ e).2 (k+1)∧(mZ g at_ e).2.1=g.1:=by
 have hc:=hg.clen
 have hf:=hg.flen
 have h6:=hg.six
 have hvl:=hg.views.len
 by_cases h0:g.2.2.1=[]
 ·unfold mZ
  rw [if_pos h0]
  refine ⟨V4 ?_,hg.up,rfl⟩
  unfold P3
  rw [h0,if_pos (by rfl)]
 ·have hl:0<g.2.2.1.length:=List.length_pos_iff.2 h0
  have hm:Int.tmod e.2.2.1 (g.2.2.1.length:Int)=e.2.2.1 % (g.2.2.1.length:Int):=Int.tmod_eq_emod_of_nonneg hn
  have hr0:=Int.emod_nonneg e.2.2.1 (show (g.2.2.1.length:Int)≠0 by omega)
  have hr1:=Int.emod_lt_of_pos e.2.2.1 (show 0<(g.2.2.1.length:Int) by omega)
  generalize hq:e.2.2.1 % (g.2.2.1.length:Int)=q at hm hr0 hr1
  have hx:=hg.fly (g.2.2.1.getD q.toNat F8) (by rw [Ac (show q.toNat<g.2.2.1.length by omega)]; exact List.getElem_mem _)
  have wq:IntKind.i64.wrap (q+1)=q+1:=AW (by omega)
  have hto:=hx.to
  have wt:IntKind.i64.wrap ((g.2.2.1.getD q.toNat F8).2.2.1-1)=(g.2.2.1.getD q.toNat F8).2.2.1-1:=AW (by omega)
  obtain ⟨m1,m2⟩:=hg.mem ((g.2.2.1.getD q.toNat F8).2.2.1-1).toNat (by omega)
  have hh:=j6 (x:=g.2.2.1.getD q.toNat F8) m1 hg.views
  have hless:=hg.less q.toNat
  have hxl:=LP hx.items
  have hz:g.2.2.1.getD q.toNat ((0:Int),(0:Int),(0:Int),(0:Int),(0:Int),([]:List AX))=g.2.2.1.getD q.toNat F8:=rfl
  have hz2:∀ i,g.2.1.getD i ((0:Int),(0:Int),false,false,false,false,([]:List Int),([]:List AX),(0:Int),(0:Int),(0:Int),(0:Int),(ByteArray.empty,ByteArray.empty,(0:Int)),([]:List Int))=Cs g i:=fun i=>rfl
  have e1:(g.2.2.1.take q.toNat).drop (0:Int).toNat=g.2.2.1.take q.toNat:=rfl
  have e2:(g.2.2.1.take (g.2.2.1.length:Int).toNat).drop (q+1).toNat=g.2.2.1.drop (q.toNat+1):=by
   rw [show (g.2.2.1.length:Int).toNat=g.2.2.1.length from by omega,List.take_length,show (q+1).toNat=q.toNat+1 from by omega]
  unfold mZ
  rw [if_neg h0,hq]
  refine ⟨V4 ?_,?_,?_⟩
  ·unfold P3
   rw [if_neg (by simp; exact h0),if_neg (by omega),hm,hz,wq,wt,hz2,e1,e2,if_pos hr0,if_pos hr1]
   simp only [List.nil_append,List.length_nil,Nat.zero_add]
   by_cases h4:e.1=4
   ·rw [if_pos (by simpa using h4),if_pos h4,if_pos (by omega),if_pos (by simp; omega)]
   ·rw [if_neg (by simpa using h4),if_neg h4,if_pos (by omega),if_pos hr0,if_pos (by omega),if_pos (by omega),if_pos (by omega),if_pos (by omega),if_pos (by simp; omega),if_pos (by simp; omega)]
    by_cases h3:e.1=3
    ·rw [if_pos (by simpa using h3),if_pos h3]
     rfl
    ·rw [if_neg (by simpa using h3),if_neg h3,if_pos (by omega),if_pos (by omega),Yn _ _ _ m1 hg.views (by omega),Option.bind_some]
     have htl:=hh.tlen
     have:=FD (Fh (Cs g ((g.2.2.1.getD q.toNat F8).2.2.1-1).toNat) g.1 (g.2.2.1.getD q.toNat F8)).1 (Fh (Cs g ((g.2.2.1.getD q.toNat F8).2.2.1-1).toNat) g.1 (g.2.2.1.getD q.toNat F8)).2.1 (Fh (Cs g ((g.2.2.1.getD q.toNat F8).2.2.1-1).toNat) g.1 (g.2.2.1.getD q.toNat F8)).2.2 at_ (iJ g q.toNat) hh.mok.id h6 (by have:=hless.flen; omega) (by have:=hless.clen; omega) hh.said
     unfold iJ at this ⊢
     rw [this]
     rfl
  ·split
   ·refine ⟨hg.views,hg.six,hg.mem,fun x hx'=>?_,by simp only [List.length_append,List.length_cons,List.length_nil]; omega,by show g.2.2.2.length≤_; omega⟩
    rcases List.mem_append.1 hx' with h1 | h1
    ·exact hg.fly x h1
    ·simp only [List.mem_singleton] at h1; subst h1; exact hx
   ·split
    ·exact hless.up
    ·exact hless.member (i:=((g.2.2.1.getD q.toNat F8).2.2.1-1).toNat) (by omega) hh.mok (by rw [hh.id,m2]) (nx hh.told) hh.tlen
  ·split
   ·rfl
   ·split<;>rfl
def pM (g:BZ) (at_:Int) (e:MY):Int×BZ :=
 if e.1=1 then W2 g at_ e else if e.1=5 then gC g at_ e.2.1
 else if e.1=6 then (0,IE g (Ys (Cs g (e.2.1-1).toNat)) [] [] at_) else mZ g at_ e
theorem MZ (at_:Int) (e:MY) (g:BZ) (k:Nat) (hg:W8 g k) (hk:k≤1000) (he:RM e=true):M5 at_ e g=some (pM g at_ e)∧W8 (pM g at_ e).2 (k+1)∧(pM g at_ e).2.1=g.1:=by
 have hn:=pH he
 have h6:=hg.six
 have hc:=hg.clen
 have hf:=hg.flen
 unfold pM
 by_cases h1:e.1=1
 ·obtain ⟨a,b,c⟩:=W3 at_ e g k hg hk (by omega)
  rw [if_pos h1]
  refine ⟨M9 ?_,b,c⟩
  unfold KC
  rw [if_pos (by simpa using h1),a]
  rfl
 ·rw [if_neg h1]
  by_cases h5:e.1=5
  ·obtain ⟨a,b,c⟩:=W4 at_ e.2.1 g k hg hk (by omega)
   rw [if_pos h5]
   refine ⟨M9 ?_,b,c⟩
   unfold KC
   rw [if_neg (by simpa using h1),if_pos (by simpa using h5),a]
   rfl
  ·rw [if_neg h5]
   by_cases h7:e.1=6
   ·obtain ⟨m1,m2⟩:=hg.mem (e.2.1-1).toNat (by omega)
    rw [if_pos h7]
    refine ⟨M9 ?_,hg.member (i:=(e.2.1-1).toNat) (by omega) m1.fall1 m2 (fun y hy=>by cases hy) (by simp),rfl⟩
    have wn:IntKind.i64.wrap (e.2.1-1)=e.2.1-1:=AW (by omega)
    unfold KC
    rw [if_neg (by simpa using h1),if_neg (by simpa using h5),if_pos (by simpa using h7),wn,if_pos (by omega),if_pos (by omega),
     show g.2.1.getD (e.2.1-1).toNat ((0:Int),(0:Int),false,false,false,false,([]:List Int),([]:List AX),(0:Int),(0:Int),(0:Int),(0:Int),(ByteArray.empty,ByteArray.empty,(0:Int)),([]:List Int))=Cs g (e.2.1-1).toNat from rfl,
     gt,Option.bind_some,FD _ _ _ _ _ m1.fall1.id h6 (by simp; omega) (by omega) E3]
    rfl
   ·obtain ⟨a,b,c⟩:=ah at_ e g k hg hk (by omega)
    rw [if_neg h7]
    refine ⟨M9 ?_,b,c⟩
    unfold KC
    rw [if_neg (by simpa using h1),if_neg (by simpa using h5),if_neg (by simpa using h7),a]
    rfl
end Go.Proofs.YtaedipailemlcaaGreat.Core

namespace Go.Proofs.YtaedipailemlcaaGreat.Core
open Go
set_option linter.unusedVariables false
set_option linter.unusedSimpArgs false
theorem KN (x:List (List Int)) (h:x.length≤1000) (ho:∀ a∈x,a.length≤1000):FA x=some x:=Vh (by
 unfold Mo
 have key:=G2 (n:=x.length) (P:=fun i=>Dv x (i:Int) (x.take i)=some x) (KF (by
  unfold Fw
  rw [if_neg (by simp),List.take_length])) (fun i hi ih=>KF (by
  unfold Fw
  have:=ho x[i] (List.getElem_mem hi)
  simp only [show ((i:Int)<(x.length:Int)) from by omega,decide_true,if_true,show (0:Int)≤(i:Int) from by omega,Int.toNat_natCast,Ac hi,AR (show i<9223372036854775807 by omega),List.nil_append,List.length_nil,Nat.zero_add,List.length_cons,List.length_take]
  rw [if_pos (by omega),if_pos (by omega),List.take_append_getElem]
  exact ih)) 0 (by omega)
 exact key)
theorem To (x:List BW) (h:x.length≤100000) (ho:∀ a∈x,a.2.2.2.2.2.length≤1000):IM x=some x:=Ws (by
 unfold Nw
 have key:=G2 (n:=x.length) (P:=fun i=>Cr x (i:Int) (x.take i)=some x) (Kl (by
  unfold GL
  rw [if_neg (by simp),List.take_length])) (fun i hi ih=>Kl (by
  unfold GL
  have:=ho x[i] (List.getElem_mem hi)
  simp only [show ((i:Int)<(x.length:Int)) from by omega,decide_true,if_true,show (0:Int)≤(i:Int) from by omega,Int.toNat_natCast,Ac hi,AR (show i<9223372036854775807 by omega),List.nil_append,List.length_nil,Nat.zero_add,List.length_cons,List.length_take]
  rw [if_pos (by omega),if_pos (by omega)]
  change Cr x _ (x.take i++[x[i]])=_
  rw [List.take_append_getElem]
  exact ih)) 0 (by omega)
 exact key)
theorem Yz (g:BZ) (k:Nat) (hg:W8 g k) (hk:k≤1000):NZ g=some g:=fc (by
 have hvl:=hg.views.len
 have hc:=hg.clen
 have hf:=hg.flen
 have h6:=hg.six
 unfold Ut
 rw [KN g.1 (by omega) (fun a ha=>by have:=hg.views.view ha; omega),Option.bind_some,To g.2.2.1 (by omega) (fun a ha=>by have:=LP (hg.fly a ha).items; omega),Option.bind_some,if_pos (by simp; omega)]
 have key:∀ (a b c d e:_),Ew ((0:Nat):Int) g.1 g.2.1 g.2.2.1 g.2.2.2 a b c d e [] g.1 g.2.2.1 ([]++g.2.2.2)=some g:=by
  intro a b c d e
  have key':=G2 (n:=g.2.1.length) (P:=fun i=>Ew (i:Int) g.1 g.2.1 g.2.2.1 g.2.2.2 a b c d e (g.2.1.take i) g.1 g.2.2.1 ([]++g.2.2.2)=some g) (Pc (by
   unfold KE
   rw [if_neg (by simp),List.take_length]
   rfl)) (fun i hi ih=>Pc (by
   unfold KE
   have hm:=(hg.mem i (by omega)).1
   unfold Cs at hm
   rw [Ac hi] at hm
   simp only [show ((i:Int)<(g.2.1.length:Int)) from by omega,decide_true,if_true,show (0:Int)≤(i:Int) from by omega,Int.toNat_natCast,Ac hi,hm.copy,Option.bind_some,AR (show i<9223372036854775807 by omega),List.length_take,List.length_cons,List.length_nil]
   rw [if_pos (by omega),List.take_append_getElem]
   exact ih)) 0 (by omega)
  exact key'
 exact key _ _ _ _ _)
def DN (views:List (List Int)):BZ:=(views,[G3 1 views,G3 2 views,G3 3 views,G3 4 views,G3 5 views,G3 6 views],[],[])
theorem ak {views:List (List Int)} (hv:V7 views):W8 (DN views) 0:=by
 refine ⟨hv,rfl,fun i hi=>?_,fun x hx=>(by cases hx),(by simp [DN]),(by simp [DN])⟩
 have h5:i=0∨i=1∨i=2∨i=3∨i=4∨i=5:=by omega
 rcases h5 with rfl | rfl | rfl | rfl | rfl | rfl<;>exact ⟨Hf.first1 (by omega) hv,rfl⟩
theorem KO {views:List (List Int)} (hv:V7 views):H7 views=some (DN views,true):=cp (by
 have hvl:=hv.len
 unfold TM
 rw [E2 hv,Option.bind_some,if_neg (by simp),KN views (by omega) (fun a ha=>by have:=hv.view ha; omega),Option.bind_some]
 have step:∀ (i:Nat) (a:_) (b:_) (c:_) (d:_) (l:List AC) r,1≤i→i≤6→l.length≤6→EL views ((i+1:Nat):Int) a b c d (l++[G3 (i:Int) views]) views=some r→EL views (i:Int) a b c d l views=some r:=by
  intro i a b c d l r h1 h6 hl hr
  refine Nu ?_
  unfold IV
  rw [if_pos (by simp; omega),Vl _ _ (by omega) hv,Option.bind_some,if_pos (by simp; omega),AR (show i<9223372036854775807 by omega)]
  exact hr
 refine step 1 _ _ _ _ _ _ (by omega) (by omega) (by simp) ?_
 refine step 2 _ _ _ _ _ _ (by omega) (by omega) (by simp) ?_
 refine step 3 _ _ _ _ _ _ (by omega) (by omega) (by simp) ?_
 refine step 4 _ _ _ _ _ _ (by omega) (by omega) (by simp) ?_
 refine step 5 _ _ _ _ _ _ (by omega) (by omega) (by simp) ?_
 refine step 6 _ _ _ _ _ _ (by omega) (by omega) (by simp) ?_
 refine Nu ?_
 unfold IV
 rw [if_neg (by decide)]
 rfl)
def SG:Nat→List MY→BZ→List Int→BZ×List Int
 | _,[],g,cs=>(g,cs)
 | n,e::es,g,cs=>SG (n+1) es (pM g (n:Int) e).2 (cs++[(pM g (n:Int) e).1])
theorem jL:∀ (es:List MY) (n:Nat) (g:BZ) (cs:List Int),W8 g n→n+es.length≤70→(∀ e∈es,RM e=true)→W8 (SG n es g cs).1 (n+es.length)∧(SG n es g cs).1.1=g.1∧(SG n es g cs).2.length=cs.length+es.length
 | [],n,g,cs,hg,_,_=>⟨hg,rfl,rfl⟩
 | e::es,n,g,cs,hg,hn,he=>by
  simp only [List.length_cons] at hn
  obtain ⟨_,h2,h3⟩:=MZ (n:Int) e g n hg (by omega) (he e (by simp))
  obtain ⟨h4,h5,h6⟩:=jL es (n+1) _ (cs++[(pM g (n:Int) e).1]) h2 (by omega) (fun x hx=>he x (by simp [hx]))
  refine ⟨?_,h5.trans h3,?_⟩
  ·have:n+(e::es).length=n+1+es.length:=by simp only [List.length_cons]; omega
   rw [this]
   exact h4
  ·simp only [SG,h6,List.length_append,List.length_cons,List.length_nil]
   omega
theorem Y0 {views:List (List Int)} {events:List MY} (hv:V7 views) (hl:events.length≤70) (he:∀ e∈events,RM e=true) :
  MG views events=some ((SG 0 events (DN views) []).1,(SG 0 events (DN views) []).2,true):=cd (by
 have hg:=ak hv
 obtain ⟨r1,r2,r3⟩:=jL events 0 (DN views) [] hg (by omega) he
 unfold TJ
 rw [KO hv,Option.bind_some]
 have L3:∀ y,EH events ((0:Nat):Int) y (DN views) []=some ((SG 0 events (DN views) []).1,(SG 0 events (DN views) []).2,true):=by
  intro y
  have key:=G2 (n:=events.length) (P:=fun i=>∀ (g:BZ) (cs:List Int),W8 g i→cs.length=i→SG i (events.drop i) g cs=SG 0 events (DN views) []→EH events (i:Int) y g cs=some ((SG 0 events (DN views) []).1,(SG 0 events (DN views) []).2,true)) (fun g cs hgi hcs hr=>Np (by
   unfold IS
   rw [if_neg (by simp),Yz g events.length hgi (by omega),Option.bind_some]
   rw [List.drop_eq_nil_of_le (Nat.le_refl _)] at hr
   rw [← hr]
   rfl)) (fun i hi ih g cs hgi hcs hr=>Np (by
   unfold IS
   obtain ⟨d1,d2,_⟩:=MZ (i:Int) events[i] g i hgi (by omega) (he _ (List.getElem_mem hi))
   simp only [show ((i:Int)<(events.length:Int)) from by omega,decide_true,if_true,show (0:Int)≤(i:Int) from by omega,Int.toNat_natCast,Ac hi,d1,Option.bind_some,AR (show i<9223372036854775807 by omega)]
   rw [if_pos (by simp; omega)]
   refine ih _ _ d2 (by simp; omega) ?_
   rw [Bd hi] at hr
   exact hr)) 0 (by omega) (DN views) [] hg rfl rfl
  exact key
 have L0:∀ y,Cz events true ((0:Nat):Int) y (DN views)=some ((SG 0 events (DN views) []).1,(SG 0 events (DN views) []).2,true):=by
  intro y
  have J2:Ft events true y (DN views)=some ((SG 0 events (DN views) []).1,(SG 0 events (DN views) []).2,true):=Wj (by
   unfold No
   rw [if_neg (by simp)]
   exact L3 y)
  refine G2 (n:=events.length) (P:=fun i=>Cz events true (i:Int) y (DN views)=some ((SG 0 events (DN views) []).1,(SG 0 events (DN views) []).2,true)) (Nq (by
   unfold IT
   rw [if_neg (by simp)]
   exact J2)) (fun i hi ih=>Nq (by
   unfold IT
   rw [if_pos (by simpa using hi),if_pos rfl]
   refine Wi ?_
   unfold Nn
   have hz:events.getD i ((0:Int),(0:Int),(0:Int),(0:Int),ByteArray.empty,ByteArray.empty)=events[i]:=Ac hi
   rw [if_pos (by simp; omega),if_pos (by omega),if_pos (by omega),Int.toNat_natCast,hz,Yg,he _ (List.getElem_mem hi),Option.bind_some,AR (show i<9223372036854775807 by omega)]
   exact ih)) 0 (by omega)
 exact L0 _)
theorem W5 (d:E9) (h:ID d):∃ v d',MI d=some (v,d')∧ID d'∧V7 v:=by
 have inner:∀ (m j:Nat),j+m=3→∀ (i:Int) (d:E9) (vs:List (List Int)) (v:List Int),ID d→0≤i→vs.length≤10→v.length≤j→(j=0∨1≤v.length)→(∀ a∈v,1≤a∧a≤6)→v.Nodup →
   ∃ v' d',ni v'∧ID d'∧∀ r,EJ (IntKind.i64.wrap (i+1)) d' (vs++[v'])=some r→EI i (j:Int) d vs v=some r:=by
  intro m
  induction m with
  | zero =>
   intro j hj i d vs v hd hi hvs hv h1 hm hnd
   obtain ⟨y,d1,e1,k1,y0,y1⟩:=AL 3 d hd
   have y1:=y1 (by omega)
   refine ⟨v,d1,⟨by omega,hm,hnd⟩,k1,fun r hr=>Fv ?_⟩
   unfold EK
   have wy:IntKind.i64.wrap (1+y)=1+y:=AW (by omega)
   rw [e1,Option.bind_some,wy,if_neg (by simp; omega),if_pos (by simp; omega)]
   exact hr
  | succ m ih =>
   intro j hj i d vs v hd hi hvs hv h1 hm hnd
   obtain ⟨y,d1,e1,k1,y0,y1⟩:=AL 3 d hd
   have y1:=y1 (by omega)
   have wy:IntKind.i64.wrap (1+y)=1+y:=AW (by omega)
   by_cases hlt:(j:Int)<1+y
   ·obtain ⟨z,d2,e2,k2,z0,z1⟩:=AL 4 d1 k1
    have z1:=z1 (by omega)
    have wz:IntKind.i64.wrap (1+z)=1+z:=AW (by omega)
    by_cases hc:v.contains (1+z)=true
    ·obtain ⟨v',d',w1,w2,w3⟩:=ih (j+1) (by omega) i d2 vs v k2 hi hvs (by omega) (.inr (by
      cases v with
      | nil=>simp at hc
      | cons a v=>simp)) hm hnd
     refine ⟨v',d',w1,w2,fun r hr=>Fv ?_⟩
     unfold EK
     rw [e1,Option.bind_some,wy,if_pos (by simpa using hlt),e2,Option.bind_some,wz,CH v _ (by unfold maxLen; omega),Option.bind_some,hc,if_neg (by simp),AR (show j<9223372036854775807 by omega)]
     exact w3 r hr
    ·have hc':v.contains (1+z)=false:=by simpa using hc
     obtain ⟨v',d',w1,w2,w3⟩:=ih (j+1) (by omega) i d2 vs (v++[1+z]) k2 hi hvs (by simp; omega) (.inr (by simp)) (fun a ha=>by
      rcases List.mem_append.1 ha with h | h
      ·exact hm a h
      ·simp only [List.mem_singleton] at h; omega) (by
      rw [List.nodup_append]
      refine ⟨hnd,by simp,fun a ha b hb e=>?_⟩
      simp only [List.mem_singleton] at hb
      subst hb
      subst e
      rw [List.contains_iff_mem.2 ha] at hc'
      cases hc')
     refine ⟨v',d',w1,w2,fun r hr=>Fv ?_⟩
     unfold EK
     rw [e1,Option.bind_some,wy,if_pos (by simpa using hlt),e2,Option.bind_some,wz,CH v _ (by unfold maxLen; omega),Option.bind_some,hc',if_pos (by rfl),if_pos (by simp; omega),AR (show j<9223372036854775807 by omega)]
     exact w3 r hr
   ·refine ⟨v,d1,⟨by omega,hm,hnd⟩,k1,fun r hr=>Fv ?_⟩
    unfold EK
    rw [e1,Option.bind_some,wy,if_neg (by simpa using hlt),if_pos (by simp; omega)]
    exact hr
 have outer:∀ (m i:Nat),i+m=5→∀ (d:E9) (vs:List (List Int)),ID d→vs.length=i→(∀ v∈vs,ni v)→∃ v' d',EJ (i:Int) d vs=some (v',d')∧ID d'∧V7 v':=by
  have fin:∀ (vs:List (List Int)),1≤vs.length→vs.length≤5→(∀ v∈vs,ni v)→V7 vs:=fun vs h1 h2 h3=>⟨Hu.2 ⟨fun v hv=>lQ.2 (h3 v hv),h1,by omega⟩⟩
  intro m
  induction m with
  | zero =>
   intro i hi d vs hd hl hv
   obtain ⟨y,d1,e1,k1,y0,y1⟩:=AL 5 d hd
   have y1:=y1 (by omega)
   have wy:IntKind.i64.wrap (1+y)=1+y:=AW (by omega)
   refine ⟨vs,d1,IU ?_,k1,fin vs (by omega) (by omega) hv⟩
   unfold Fu
   rw [e1,Option.bind_some,wy,if_neg (by simp; omega)]
  | succ m ih =>
   intro i hi d vs hd hl hv
   obtain ⟨y,d1,e1,k1,y0,y1⟩:=AL 5 d hd
   have y1:=y1 (by omega)
   have wy:IntKind.i64.wrap (1+y)=1+y:=AW (by omega)
   by_cases hlt:(i:Int)<1+y
   ·obtain ⟨v',d2,w1,k2,w3⟩:=inner 3 0 (by omega) (i:Int) d1 vs [] k1 (by omega) (by omega) (by simp) (.inl rfl) (by simp) (by simp)
    obtain ⟨r1,d3,q1,q2,q3⟩:=ih (i+1) (by omega) d2 (vs++[v']) k2 (by simp; omega) (fun v hv'=>by
     rcases List.mem_append.1 hv' with h | h
     ·exact hv v h
     ·simp only [List.mem_singleton] at h; subst h; exact w1)
    refine ⟨r1,d3,IU ?_,q2,q3⟩
    unfold Fu
    rw [e1,Option.bind_some,wy,if_pos (by simpa using hlt)]
    exact w3 _ (by rw [AR (show i<9223372036854775807 by omega)]; exact q1)
   ·have hi1:1≤i:=by omega
    refine ⟨vs,d1,IU ?_,k1,fin vs (by omega) (by omega) hv⟩
    unfold Fu
    rw [e1,Option.bind_some,wy,if_neg (by simpa using hlt)]
 obtain ⟨v,d',e,k,hv⟩:=outer 5 0 (by omega) d [] h rfl (fun v hv=>by cases hv)
 exact ⟨v,d',cn (by unfold TL; exact e),k,hv⟩
end Go.Proofs.YtaedipailemlcaaGreat.Core

namespace Go.Proofs.YtaedipailemlcaaGreat.Core
open Go
set_option linter.unusedVariables false
set_option linter.unusedSimpArgs false
theorem Y1 (d:E9) (g:BZ) (k:Nat) (h:ID d) (hg:W8 g k):∃ e d',NX d g=some (e,d',g)∧ID d'∧RM e=true:=by
 have hvl:=hg.views.len
 have h6:=hg.six
 have ev:∀ (kd nd at_:Int),2≤kd∧kd≤6→1≤nd∧nd≤6→0≤at_→RM (kd,nd,at_,0,ByteArray.empty,ByteArray.empty)=true:=by
  intro kd nd at_ h1 h2 h3
  unfold RM
  simp only [show decide (1≤kd)=true from decide_eq_true (by omega),show decide (kd≤6)=true from decide_eq_true (by omega),show decide (1≤nd)=true from decide_eq_true (by omega),show decide (nd≤6)=true from decide_eq_true (by omega),show decide (0≤at_)=true from decide_eq_true h3,if_neg (show ¬ kd=1 by omega)]
  simp [mR]
 have ev1:∀ (nd at_ op:Int) (key val:ByteArray),1≤nd∧nd≤6→0≤at_→iF op key val=true→RM (1,nd,at_,op,key,val)=true:=by
  intro nd at_ op key val h2 h3 h4
  unfold RM
  simp only [show decide (1≤nd)=true from decide_eq_true (by omega),show decide (nd≤6)=true from decide_eq_true (by omega),show decide (0≤at_)=true from decide_eq_true h3,if_true,h4]
  rfl
 have L3:∀ (m i:Nat),i+m=6→∀ (d:E9) (nd at_ op:Int) (key val:ByteArray) (a b c:_),ID d→1≤nd∧nd≤6→∃ nd' d',Cc (i:Int) d g a (1,nd,at_,op,key,val) b c=some ((1,nd',at_,op,key,val),d',g)∧ID d'∧1≤nd'∧nd'≤6:=by
  intro m
  induction m with
  | zero =>
   intro i hi d nd at_ op key val a b c hd hn
   refine ⟨nd,d,Gf ?_,hd,hn⟩
   unfold Es
   rw [if_neg (by simp; omega)]
  | succ m ih =>
   intro i hi d nd at_ op key val a b c hd hn
   have ws:=AR (show i<9223372036854775807 by omega)
   by_cases hs:(Cs g i).2.2.2.2.2.1=true
   ·obtain ⟨o,d1,e1,k1⟩:=E0 4 d hd
    cases o
    ·obtain ⟨nd',d',e2,k2,n2⟩:=ih (i+1) (by omega) d1 ((i+1:Nat):Int) at_ op key val a b c k1 (by omega)
     refine ⟨nd',d',Gf ?_,k2,n2⟩
     unfold Es
     rw [if_pos (by simp; omega),if_pos (by omega),if_pos (by omega),Int.toNat_natCast,show g.2.1.getD i ((0:Int),(0:Int),false,false,false,false,([]:List Int),([]:List AX),(0:Int),(0:Int),(0:Int),(0:Int),(ByteArray.empty,ByteArray.empty,(0:Int)),([]:List Int))=Cs g i from rfl,if_pos hs,e1,Option.bind_some,if_pos (by rfl),ws]
     exact e2
    ·obtain ⟨nd',d',e2,k2,n2⟩:=ih (i+1) (by omega) d1 nd at_ op key val a b c k1 hn
     refine ⟨nd',d',Gf ?_,k2,n2⟩
     unfold Es
     rw [if_pos (by simp; omega),if_pos (by omega),if_pos (by omega),Int.toNat_natCast,show g.2.1.getD i ((0:Int),(0:Int),false,false,false,false,([]:List Int),([]:List AX),(0:Int),(0:Int),(0:Int),(0:Int),(ByteArray.empty,ByteArray.empty,(0:Int)),([]:List Int))=Cs g i from rfl,if_pos hs,e1,Option.bind_some,if_neg (by simp),ws]
     exact e2
   ·obtain ⟨nd',d',e2,k2,n2⟩:=ih (i+1) (by omega) d nd at_ op key val a b c hd hn
    refine ⟨nd',d',Gf ?_,k2,n2⟩
    unfold Es
    rw [if_pos (by simp; omega),if_pos (by omega),if_pos (by omega),Int.toNat_natCast,show g.2.1.getD i ((0:Int),(0:Int),false,false,false,false,([]:List Int),([]:List AX),(0:Int),(0:Int),(0:Int),(0:Int),(ByteArray.empty,ByteArray.empty,(0:Int)),([]:List Int))=Cs g i from rfl,if_neg hs,ws]
    exact e2
 have L4:∀ (m i:Nat),i+m=6→∀ (d:E9) (kd nd at_:Int) (a:_),ID d→1≤nd∧nd≤6→∃ nd' d',Cd (i:Int) d g a (kd,nd,at_,0,ByteArray.empty,ByteArray.empty)=some ((kd,nd',at_,0,ByteArray.empty,ByteArray.empty),d',g)∧ID d'∧1≤nd'∧nd'≤6:=by
  intro m
  induction m with
  | zero =>
   intro i hi d kd nd at_ a hd hn
   refine ⟨nd,d,Eu ?_,hd,hn⟩
   unfold DW
   rw [if_neg (by simp; omega)]
  | succ m ih =>
   intro i hi d kd nd at_ a hd hn
   have ws:=AR (show i<9223372036854775807 by omega)
   obtain ⟨m1,m2⟩:=hg.mem i (by omega)
   have hep:=m1.ep
   have hz:∀ j,g.2.1.getD j ((0:Int),(0:Int),false,false,false,false,([]:List Int),([]:List AX),(0:Int),(0:Int),(0:Int),(0:Int),(ByteArray.empty,ByteArray.empty,(0:Int)),([]:List Int))=Cs g j:=fun j=>rfl
   obtain ⟨nd0,d0,e0,k0,n0⟩:=ih (i+1) (by omega) d kd nd at_ a hd hn
   by_cases h1:(Cs g i).2.1<(g.1.length:Int)
   ·have gv:=hg.views.get (i:=(Cs g i).2.1.toNat) (by omega)
    by_cases h2:((g.1.getD (Cs g i).2.1.toNat ([]:List Int)).getD (0:Int).toNat 0==(Cs g i).1)=true
    ·obtain ⟨o,d1,e1,k1⟩:=E0 3 d hd
     cases o
     ·obtain ⟨nd',d',e2,k2,n2⟩:=ih (i+1) (by omega) d1 kd (Cs g i).1 at_ a k1 (by omega)
      refine ⟨nd',d',Eu ?_,k2,n2⟩
      unfold DW
      rw [if_pos (by simp; omega),if_pos (by omega),if_pos (by omega),Int.toNat_natCast,hz,if_pos (by simpa using h1),if_pos (by omega),if_pos (by omega),if_pos (by omega),if_pos (by omega),if_pos h2,e1,Option.bind_some,if_pos (by rfl),ws]
      exact e2
     ·obtain ⟨nd',d',e2,k2,n2⟩:=ih (i+1) (by omega) d1 kd nd at_ a k1 hn
      refine ⟨nd',d',Eu ?_,k2,n2⟩
      unfold DW
      rw [if_pos (by simp; omega),if_pos (by omega),if_pos (by omega),Int.toNat_natCast,hz,if_pos (by simpa using h1),if_pos (by omega),if_pos (by omega),if_pos (by omega),if_pos (by omega),if_pos h2,e1,Option.bind_some,if_neg (by simp),ws]
      exact e2
    ·refine ⟨nd0,d0,Eu ?_,k0,n0⟩
     unfold DW
     rw [if_pos (by simp; omega),if_pos (by omega),if_pos (by omega),Int.toNat_natCast,hz,if_pos (by simpa using h1),if_pos (by omega),if_pos (by omega),if_pos (by omega),if_pos (by omega),if_neg h2,ws]
     exact e0
   ·refine ⟨nd0,d0,Eu ?_,k0,n0⟩
    unfold DW
    rw [if_pos (by simp; omega),if_pos (by omega),if_pos (by omega),Int.toNat_natCast,hz,if_neg (by simpa using h1),ws]
    exact e0
 have keyOk:∀ key∈([(⟨#[97]⟩:ByteArray),(⟨#[98]⟩:ByteArray),(⟨#[99]⟩:ByteArray)]:List ByteArray),key.size=1:=by
  intro key hk
  simp only [List.mem_cons,List.mem_nil_iff,or_false] at hk
  rcases hk with rfl | rfl | rfl<;>rfl
 have valOk:∀ v∈([(⟨#[118]⟩:ByteArray),(⟨#[119]⟩:ByteArray),(⟨#[120]⟩:ByteArray),(⟨#[121]⟩:ByteArray)]:List ByteArray),v.size=1:=by
  intro v hk
  simp only [List.mem_cons,List.mem_nil_iff,or_false] at hk
  rcases hk with rfl | rfl | rfl | rfl<;>rfl
 have J2:∀ (d:E9) (a:_) (kd nd at_:Int),ID d→1≤kd∧kd≤6→1≤nd∧nd≤6→0≤at_→∃ e d',Er d g a (kd,nd,at_,0,ByteArray.empty,ByteArray.empty)=some (e,d',g)∧ID d'∧RM e=true:=by
  intro d a kd nd at_ hd hk hn ha
  by_cases h1:kd=1
  ·subst h1
   obtain ⟨op,d1,e1,k1,mem1⟩:=B1 [1,1,2] (by simp) d hd
   obtain ⟨key,d2,e2,k2,mem2⟩:=E1 [(⟨#[97]⟩:ByteArray),(⟨#[98]⟩:ByteArray),(⟨#[99]⟩:ByteArray)] (by simp) d1 k1
   have hkey:=keyOk key mem2
   by_cases ho:op=1
   ·obtain ⟨val,d3,e3,k3,mem3⟩:=E1 [(⟨#[118]⟩:ByteArray),(⟨#[119]⟩:ByteArray),(⟨#[120]⟩:ByteArray),(⟨#[121]⟩:ByteArray)] (by simp) d2 k2
    have hval:=valOk val mem3
    obtain ⟨nd',d',e4,k4,n4⟩:=L3 6 0 (by omega) d3 nd at_ op key val a _ _ k3 hn
    refine ⟨_,d',Gg ?_,k4,ev1 nd' at_ op key val n4 ha (by unfold iF; simp [ho,hkey,hval])⟩
    unfold Et
    rw [if_pos (by simp),e1,Option.bind_some,e2,Option.bind_some,if_pos (by simpa using ho),e3,Option.bind_some]
    exact e4
   ·have ho2:op=2:=by simp at mem1; omega
    obtain ⟨nd',d',e4,k4,n4⟩:=L3 6 0 (by omega) d2 nd at_ op key ByteArray.empty a _ _ k2 hn
    refine ⟨_,d',Gg ?_,k4,ev1 nd' at_ op key ByteArray.empty n4 ha (by unfold iF; simp [ho2,hkey,mR])⟩
    unfold Et
    rw [if_pos (by simp),e1,Option.bind_some,e2,Option.bind_some,if_neg (by simpa using ho)]
    exact e4
  ·by_cases h5:kd=5
   ·obtain ⟨nd',d',e4,k4,n4⟩:=L4 6 0 (by omega) d kd nd at_ a hd hn
    refine ⟨_,d',Gg ?_,k4,ev kd nd' at_ (by omega) n4 ha⟩
    unfold Et
    rw [if_neg (by simpa using h1),if_pos (by simpa using h5)]
    exact e4
   ·refine ⟨_,d,Gg ?_,hd,ev kd nd at_ (by omega) hn ha⟩
    unfold Et
    rw [if_neg (by simpa using h1),if_neg (by simpa using h5)]
 have J1:∀ (d:E9) (a:_) (kd nd at_:Int),ID d→1≤kd∧kd≤6→1≤nd∧nd≤6→0≤at_→∃ e d',Am d g a (kd,nd,at_,0,ByteArray.empty,ByteArray.empty)=some (e,d',g)∧ID d'∧RM e=true:=by
  intro d a kd nd at_ hd hk hn ha
  by_cases h2:kd=2
  ·obtain ⟨o,d1,e1,k1⟩:=E0 2 d hd
   cases o
   ·obtain ⟨e,d',e2,k2,v2⟩:=J2 d1 a kd nd at_ k1 hk hn ha
    refine ⟨e,d',KA ?_,k2,v2⟩
    unfold Gd
    rw [if_pos (by simpa using h2),e1,Option.bind_some,if_neg (by simp)]
    exact e2
   ·obtain ⟨e,d',e2,k2,v2⟩:=J2 d1 a kd nd 0 k1 hk hn (by omega)
    refine ⟨e,d',KA ?_,k2,v2⟩
    unfold Gd
    rw [if_pos (by simpa using h2),e1,Option.bind_some,if_pos (by rfl)]
    exact e2
  ·obtain ⟨e,d',e2,k2,v2⟩:=J2 d a kd nd at_ hd hk hn ha
   refine ⟨e,d',KA ?_,k2,v2⟩
   unfold Gd
   rw [if_neg (by simpa using h2)]
   exact e2
 have six:∀ (d:E9) (a:_) (kd nd at_:Int),ID d→1≤kd∧kd≤6→1≤nd∧nd≤6→0≤at_→∃ e d',(if (kd==6)=true then ((CA 4 d).bind fun y5=>(if (!y5.1)=true then (Am y5.2 g a (1,nd,at_,0,ByteArray.empty,ByteArray.empty)) else (Am y5.2 g a (kd,nd,at_,0,ByteArray.empty,ByteArray.empty)))) else (Am d g a (kd,nd,at_,0,ByteArray.empty,ByteArray.empty)))=some (e,d',g)∧ID d'∧RM e=true:=by
  intro d a kd nd at_ hd hk hn ha
  by_cases h2:kd=6
  ·obtain ⟨o,d1,e1,k1⟩:=E0 4 d hd
   cases o
   ·obtain ⟨e,d',e2,k2,v2⟩:=J1 d1 a 1 nd at_ k1 (by omega) hn ha
    refine ⟨e,d',?_,k2,v2⟩
    rw [if_pos (by simpa using h2),e1,Option.bind_some,if_pos (by rfl)]
    exact e2
   ·obtain ⟨e,d',e2,k2,v2⟩:=J1 d1 a kd nd at_ k1 hk hn ha
    refine ⟨e,d',?_,k2,v2⟩
    rw [if_pos (by simpa using h2),e1,Option.bind_some,if_neg (by simp)]
    exact e2
  ·obtain ⟨e,d',e2,k2,v2⟩:=J1 d a kd nd at_ hd hk hn ha
   refine ⟨e,d',?_,k2,v2⟩
   rw [if_neg (by simpa using h2)]
   exact e2
 obtain ⟨kd,d1,e1,k1,mem1⟩:=B1 [1,1,1,2,2,2,2,2,2,2,2,3,4,5,6] (by simp) d h
 obtain ⟨nd,d2,e2,k2,n0,n1⟩:=AL 4 d1 k1
 obtain ⟨at_,d3,e3,k3,a0,a1⟩:=AL 20 d2 k2
 have n1:=n1 (by omega)
 have wn:IntKind.i64.wrap (1+nd)=1+nd:=AW (by omega)
 have hkd:1≤kd∧kd≤6:=by
  simp only [List.mem_cons,List.mem_nil_iff,or_false] at mem1
  omega
 have fin:∃ e d',J_ d3 g ((0:Int),(0:Int),(0:Int),(0:Int),ByteArray.empty,ByteArray.empty) (kd,1+nd,at_,0,ByteArray.empty,ByteArray.empty)=some (e,d',g)∧ID d'∧RM e=true:=by
  by_cases hf:((g.2.2.1.length:Int)==0)=true
  ·cases hin:(decide (2≤kd)&&decide (kd≤4)) with
   | true =>
    obtain ⟨e,d',e4,k4,v4⟩:=J1 d3 ((0:Int),(0:Int),(0:Int),(0:Int),ByteArray.empty,ByteArray.empty) 1 (1+nd) at_ k3 (by omega) (by omega) a0
    refine ⟨e,d',KB ?_,k4,v4⟩
    unfold Ge
    rw [if_pos hf,Ag,Option.bind_some,if_pos hin,if_neg (show ¬ ((1:Int)==6)=true by decide)]
    exact e4
   | false =>
    obtain ⟨e,d',e4,k4,v4⟩:=six d3 ((0:Int),(0:Int),(0:Int),(0:Int),ByteArray.empty,ByteArray.empty) kd (1+nd) at_ k3 hkd (by omega) a0
    refine ⟨e,d',KB ?_,k4,v4⟩
    unfold Ge
    rw [if_pos hf,Ag,Option.bind_some,if_neg (by rw [hin]; simp)]
    exact e4
  ·obtain ⟨e,d',e4,k4,v4⟩:=six d3 ((0:Int),(0:Int),(0:Int),(0:Int),ByteArray.empty,ByteArray.empty) kd (1+nd) at_ k3 hkd (by omega) a0
   refine ⟨e,d',KB ?_,k4,v4⟩
   unfold Ge
   rw [if_neg hf]
   exact e4
 obtain ⟨e,d',e4,k4,v4⟩:=fin
 refine ⟨e,d',fa ?_,k4,v4⟩
 unfold Ur
 rw [e1,Option.bind_some,e2,Option.bind_some,e3,Option.bind_some,wn]
 exact e4
end Go.Proofs.YtaedipailemlcaaGreat.Core

namespace Go.Proofs.YtaedipailemlcaaGreat.Core
open Go
set_option linter.unusedVariables false
set_option linter.unusedSimpArgs false
theorem Y2 (x:List Int) (d:E9) (hx:x.length≤1048576) (h:ID d):∃ v es d',NU x d=some ((v,es),d')∧ID d'∧V7 v∧es.length≤69∧∀ e∈es,RM e=true:=by
 obtain ⟨v,d1,e1,k1,hv⟩:=W5 d h
 have L:∀ (n:Nat),n≤69→∀ a b,∃ es d',DV (n:Int) ((0:Nat):Int) d1 a b [] v (DN v)=some ((v,es),d')∧ID d'∧es.length≤69∧∀ e∈es,RM e=true:=by
  intro n hn a b
  refine G2 (n:=n) (P:=fun i=>∀ (d:E9) (es:List MY) (g:BZ),ID d→W8 g i→es.length=i→(∀ e∈es,RM e=true)→∃ es' d',DV (n:Int) (i:Int) d a b es v g=some ((v,es'),d')∧ID d'∧es'.length≤69∧∀ e∈es',RM e=true) (fun d es g hd hg hl he=>?_) (fun i hi ih d es g hd hg hl he=>?_) 0 (by omega) d1 [] (DN v) k1 (ak hv) rfl (fun e he=>by cases he)
  ·refine ⟨es,d,PT ?_,hd,by omega,he⟩
   unfold Jx
   rw [if_neg (by simp)]
  ·obtain ⟨e,d2,e2,k2,ke⟩:=Y1 d g i hd hg
   obtain ⟨q1,q2,q3⟩:=MZ (i:Int) e g i hg (by omega) ke
   obtain ⟨es',d3,e3,k3⟩:=ih d2 (es++[e]) (pM g (i:Int) e).2 k2 q2 (by simp; omega) (fun y hy=>by
    rcases List.mem_append.1 hy with hy | hy
    ·exact he y hy
    ·rw [List.mem_singleton.1 hy]; exact ke)
   refine ⟨es',d3,PT ?_,k3⟩
   unfold Jx
   rw [if_pos (by simpa using hi),e2,Option.bind_some]
   dsimp only
   rw [q1,Option.bind_some,if_pos (by simp; omega),AR (by omega)]
   exact e3
 have wq:IntKind.i64.wrap (Int.tdiv (x.length:Int) 4)=((x.length / 4:Nat):Int):=by
  rw [Int.tdiv_eq_ediv_of_nonneg (by omega),AW (by omega)]
  omega
 have wn:IntKind.i64.wrap (20+((x.length / 4:Nat):Int))=((20+x.length / 4:Nat):Int):=by rw [AW (by omega)]; omega
 by_cases hn:20+x.length / 4≤69
 ·obtain ⟨es,d',e,k,k2⟩:=L (20+x.length / 4) hn [] []
  refine ⟨v,es,d',Uk ?_,k,hv,k2⟩
  unfold Nk
  rw [e1,Option.bind_some,KO hv,Option.bind_some,if_neg (by omega),wq,wn,if_neg (by simp; omega)]
  exact e
 ·obtain ⟨es,d',e,k,k2⟩:=L 69 (by omega) [] []
  refine ⟨v,es,d',Uk ?_,k,hv,k2⟩
  unfold Nk
  rw [e1,Option.bind_some,KO hv,Option.bind_some,if_neg (by omega),wq,wn,if_pos (by simp; omega)]
  exact e
theorem W6 (x:List Int) (d:E9) (hx:x.length≤1048576) (h:ID d):∃ g d' n,MF x d=some (g,d')∧ID d'∧W8 g n∧n≤69:=by
 obtain ⟨v,es,d1,e1,k1,hv,hl,he⟩:=Y2 x d hx h
 obtain ⟨r1,r2,r3⟩:=jL es 0 (DN v) [] (ak hv) (by omega) he
 refine ⟨_,d1,0+es.length,cQ ?_,k1,r1,by omega⟩
 unfold TB
 rw [e1,Option.bind_some,Y0 hv (by omega) he,Option.bind_some]
theorem Y3:∃ b,Na 13 65=some b:=by
 have key:=G2 (n:=13) (P:=fun i=>∀ l:List Int,l.length=13→∃ b,Gh 13 65 (i:Int) l=some b) (fun l hl=>⟨_,Pf (by
  unfold KG
  rw [if_neg (by simp)])⟩) (fun i hi ih l hl=>by
  obtain ⟨b,hb⟩:=ih (l.set i 65) (by simpa using hl)
  refine ⟨b,Pf ?_⟩
  unfold KG
  rw [if_pos (by simp; omega),if_pos (by omega),if_pos (by omega),AR (by omega),Int.toNat_natCast]
  exact hb) 0 (by omega) (List.replicate 13 0) (by simp)
 obtain ⟨b,hb⟩:=key
 exact ⟨b,fi (by
  unfold U4
  rw [if_pos (by omega),if_pos (by omega)]
  exact hb)⟩
theorem Y4 (n:Nat) (h:n<1000):∃ b,Nb (n:Int)=some b∧b.size≤100:=by
 have one:∀ y:Int,(Mu ([y]:List Int)).size=1:=fun y=>rfl
 have fig:∀ y:Int,∃ r,Ky y=some r:=fun y=>by
  by_cases hy:y<10
  ·exact ⟨_,RK (by unfold LL; rw [if_pos (by simpa using hy)])⟩
  ·exact ⟨_,RK (by unfold LL; rw [if_neg (by simpa using hy)])⟩
 have L:∀ (k n:Nat) (acc:ByteArray),n<10^k→n<1000→acc.size+k≤100→∃ b,Gi (n:Int) false acc=some b∧b.size≤100:=by
  intro k
  induction k with
  | zero =>
   intro n acc hn hk ha
   have:n=0:=by simpa using hn
   subst this
   refine ⟨acc,KI ?_,by omega⟩
   unfold Gj
   rw [if_neg (by simp),if_neg (by simp)]
  | succ k ih =>
   intro n acc hn hk ha
   by_cases h0:n=0
   ·subst h0
    refine ⟨acc,KI ?_,by omega⟩
    unfold Gj
    rw [if_neg (by simp),if_neg (by simp)]
   ·obtain ⟨r,hr⟩:=fig (Int.tmod (n:Int) 10)
    have hq:n / 10<10^k:=by rw [Nat.pow_succ] at hn; omega
    obtain ⟨b,hb,hs⟩:=ih (n / 10) (Mu ([r]:List Int)++acc) hq (by omega) (by rw [ByteArray.size_append,one]; omega)
    refine ⟨b,KI ?_,hs⟩
    unfold Gj
    rw [if_pos (by simpa using h0),if_neg (by omega),if_neg (by have:=Int.tmod_nonneg (a:=(n:Int)) 10 (by omega); simp; omega)]
    refine Ye ?_
    unfold Ph
    rw [hr,Option.bind_some,if_pos (by rw [one]; omega),if_neg (by omega),Int.tdiv_eq_ediv_of_nonneg (by omega),AW (by omega)]
    exact hb
 by_cases h0:n=0
 ·subst h0
  exact ⟨_,U5 (by unfold Nx; rw [if_pos (by rfl)]),by decide⟩
 ·obtain ⟨b,hb,hs⟩:=L 3 n ⟨#[]⟩ (by omega) h (by decide)
  refine ⟨b,U5 ?_,hs⟩
  unfold Nx
  rw [if_neg (by simpa using h0),show decide ((n:Int)<0)=false from decide_eq_false (by omega)]
  exact hb
theorem Tp (d:E9) (h:ID d):∃ x d',IL d=some (x,d')∧ID d'∧x.length≤100:=by
 obtain ⟨x,d1,e1,k1,hx,hl⟩:=Ny d h
 obtain ⟨v,d2,e2,k2,v0,v1⟩:=AL 16 d1 k1
 suffices g:∃ x' d',IW d=some (x',d')∧ID d'∧x'.length≤100 from by
  obtain ⟨x',d',e,k⟩:=g
  exact ⟨x',d',Wn e,k⟩
 unfold IW
 rw [e1,Option.bind_some,e2,Option.bind_some]
 dsimp only
 by_cases c0:v=0
 ·obtain ⟨a,d3,e3,k3,_⟩:=KK d2 k2
  rw [if_pos (by simpa using c0),e3,Option.bind_some,if_pos (by simp; omega)]
  exact ⟨_,_,rfl,k3,by simp; omega⟩
 rw [if_neg (by simpa using c0)]
 by_cases c1:v=1
 ·rw [if_pos (by simpa using c1)]
  by_cases hp:0<x.length
  ·obtain ⟨a,d3,e3,k3,_⟩:=B1 [0,(-1),1000000000,1000000001] (by simp) d2 k2
   rw [if_pos (by simpa using hp),e3,Option.bind_some,if_pos (by omega),if_pos (by omega)]
   exact ⟨_,_,rfl,k3,by simp; omega⟩
  ·rw [if_neg (by simpa using hp)]
   exact ⟨_,_,rfl,k2,by omega⟩
 rw [if_neg (by simpa using c1)]
 by_cases c2:v=2
 ·rw [if_pos (by simpa using c2)]
  by_cases hp:0<x.length
  ·obtain ⟨b,hb⟩:=Y3
   obtain ⟨a,d3,e3,k3,_⟩:=E1 [(⟨#[]⟩:ByteArray),b] (by simp) d2 k2
   rw [if_pos (by simpa using hp),hb,Option.bind_some,e3,Option.bind_some,if_pos (by omega),if_pos (by omega)]
   exact ⟨_,_,rfl,k3,by simp; omega⟩
  ·rw [if_neg (by simpa using hp)]
   exact ⟨_,_,rfl,k2,by omega⟩
 rw [if_neg (by simpa using c2)]
 by_cases c3:v=3
 ·rw [if_pos (by simpa using c3)]
  have key:=G2 (n:=13) (P:=fun i=>∀ (d:E9) (l:List AX),ID d→l.length≤i→∃ x' d',ET (i:Int) d x l=some (x',d')∧ID d'∧x'.length≤100) (fun d l hd hl=>by
    obtain ⟨y,d3,e3,k3,y0,y1⟩:=AL 2 d hd
    have y1:=y1 (by omega)
    refine ⟨l,d3,GK ?_,k3,by omega⟩
    unfold EU
    rw [e3,Option.bind_some,AW (by omega),if_neg (by simp; omega)])
   (fun i hi ih d l hd hl=>by
    obtain ⟨y,d3,e3,k3,y0,y1⟩:=AL 2 d hd
    have y1:=y1 (by omega)
    by_cases hc:(i:Int)<12+y
    ·obtain ⟨b,hb,hs⟩:=Y4 (10+i) (by omega)
     obtain ⟨x',d4,e4,k4⟩:=ih d3 (l++[((⟨#[109]⟩:ByteArray)++b,(⟨#[]⟩:ByteArray),5)]) k3 (by simp; omega)
     refine ⟨x',d4,GK ?_,k4⟩
     unfold EU
     have w1:IntKind.i64.wrap (10+(i:Int))=((10+i:Nat):Int):=by rw [AW (by omega)]; omega
     rw [e3,Option.bind_some,AW (n:=12+y) (by omega),if_pos (by simpa using hc),w1,hb,Option.bind_some,if_pos (by show 1+b.size≤_; omega),if_pos (by simp; omega),AR (by omega)]
     exact e4
    ·refine ⟨l,d3,GK ?_,k3,by omega⟩
     unfold EU
     rw [e3,Option.bind_some,AW (by omega),if_neg (by simpa using hc)]) 0 (by omega) d2 [] k2 (by simp)
  exact key
 rw [if_neg (by simpa using c3)]
 exact ⟨_,_,rfl,k2,by omega⟩
theorem am (d:E9) (h:ID d):∃ x d',Pu d=some (x,d')∧ID d'∧x.2.2.2.2.2.length≤100:=by
 obtain ⟨v1,d1,e1,k1,_⟩:=AL 8 d h
 obtain ⟨v2,d2,e2,k2,_⟩:=AL 4 d1 k1
 obtain ⟨v3,d3,e3,k3,_⟩:=AL 4 d2 k2
 obtain ⟨v4,d4,e4,k4,_⟩:=AL 4 d3 k3
 obtain ⟨v5,d5,e5,k5,_⟩:=AL 6 d4 k4
 have J1:∀ (a:Int) (b:Bool) (z x:BW),x.2.2.2.2.2.length≤100→∃ x' d',HN a b d5 z x=some (x',d')∧ID d'∧x'.2.2.2.2.2.length≤100:=fun a b z x hx=>by
  cases b with
  | true =>
   obtain ⟨y,d6,e6,k6,_,hl⟩:=Ny d5 k5
   exact ⟨_,_,LK (by unfold HO; rw [if_pos rfl,e6,Option.bind_some]),k6,by show y.length≤100; omega⟩
  | false =>
   by_cases ha:a=5
   ·obtain ⟨y,d6,e6,k6,_⟩:=KK d5 k5
    exact ⟨_,_,LK (by unfold HO; rw [if_neg (by simp),if_pos (by simpa using ha),e6,Option.bind_some]),k6,by show [y].length≤100; simp⟩
   ·exact ⟨_,_,LK (by unfold HO; rw [if_neg (by simp),if_neg (by simpa using ha)]),k5,hx⟩
 have J0:∀ (z x:BW),x.2.2.2.2.2.length≤100→∃ x' d',LI d5 z x=some (x',d')∧ID d'∧x'.2.2.2.2.2.length≤100:=fun z x hx=>by
  by_cases ha:x.1=2
  ·obtain ⟨x',d',e,k⟩:=J1 x.1 (x.1==2) z x hx
   exact ⟨x',d',RF (by unfold LJ; rw [if_pos (by simpa using ha)]; exact e),k⟩
  ·obtain ⟨x',d',e,k⟩:=J1 x.1 (x.1==3) z x hx
   exact ⟨x',d',RF (by unfold LJ; rw [if_neg (by simpa using ha)]; exact e),k⟩
 obtain ⟨x',d',e,k⟩:=J0 F8 (IntKind.i64.wrap (1+v1),IntKind.i64.wrap (1+v2),IntKind.i64.wrap (1+v3),IntKind.i64.wrap (1+v4),v5,[]) (by simp)
 refine ⟨x',d',gm ?_,k⟩
 unfold V3
 rw [e1,Option.bind_some,e2,Option.bind_some,e3,Option.bind_some,e4,Option.bind_some,e5,Option.bind_some]
 exact e
theorem Vm (d:E9) (h:ID d):∃ x d',Kw d=some (x,d')∧ID d'∧x.2.2.2.2.2.length≤100:=by
 obtain ⟨x,d1,e1,k1,hx⟩:=am d h
 obtain ⟨v,d2,e2,k2,v0,v1⟩:=AL 20 d1 k1
 suffices g:∃ x' d',K_ d=some (x',d')∧ID d'∧x'.2.2.2.2.2.length≤100 from by
  obtain ⟨x',d',e,k⟩:=g
  exact ⟨x',d',aB e,k⟩
 unfold K_
 rw [e1,Option.bind_some,e2,Option.bind_some]
 dsimp only
 split
 ·obtain ⟨a,d3,e3,k3,_⟩:=B1 [0,1,2,5,9] (by simp) d2 k2
  rw [e3,Option.bind_some]
  exact ⟨_,_,rfl,k3,hx⟩
 ·split
  ·obtain ⟨a,d3,e3,k3,_⟩:=B1 [0,6,7] (by simp) d2 k2
   rw [e3,Option.bind_some]
   exact ⟨_,_,rfl,k3,hx⟩
  ·split
   ·obtain ⟨a,d3,e3,k3,_⟩:=B1 [0,9,10] (by simp) d2 k2
    rw [e3,Option.bind_some]
    exact ⟨_,_,rfl,k3,hx⟩
   ·split
    ·obtain ⟨a,d3,e3,k3,_⟩:=B1 [(-1),1000000000,1000000001] (by simp) d2 k2
     rw [e3,Option.bind_some]
     exact ⟨_,_,rfl,k3,hx⟩
    ·split
     ·obtain ⟨y,d3,e3,k3,hy⟩:=Tp d2 k2
      rw [e3,Option.bind_some]
      exact ⟨_,_,rfl,k3,hy⟩
     ·exact ⟨_,_,rfl,k2,hx⟩
theorem pI {g:BZ} {k:Nat} (hg:W8 g k) {i:Nat} (hi:i<g.2.2.1.length):(g.2.2.1.getD i F8).2.2.2.2.2.length≤100:=by
 rw [Ac hi]
 have:=LP (hg.fly _ (List.getElem_mem hi)).items
 omega
theorem W7 (g:BZ) (k:Nat) (hg:W8 g k) (m:AC) (d:E9) (h:ID d):∃ x d',F6 g m d=some (x,d')∧ID d'∧x.2.2.2.2.2.length≤100:=by
 obtain ⟨x,d1,e1,k1,hx⟩:=Vm d h
 have J1:∀ (a:Bool) (d:E9) (z x:BW),ID d→x.2.2.2.2.2.length≤100→∃ x' d',IQ a d g m z x=some (x',d')∧ID d'∧x'.2.2.2.2.2.length≤100:=fun a d z x hd hx=>by
  obtain ⟨v,d2,e2,k2,_⟩:=AL 2 d hd
  exact ⟨(x.1,x.2.1,x.2.2.1,IntKind.i64.wrap (m.2.1+v),m.2.2.2.2.2.2.2.2.2.2.2.1,x.2.2.2.2.2),d2,Wa (by unfold Nd; rw [e2,Option.bind_some]),k2,hx⟩
 have J0:∀ (a:Bool) (d:E9) (z x:BW),(a=true→0<g.2.2.1.length)→ID d→x.2.2.2.2.2.length≤100→∃ x' d',Fs a d g m z x=some (x',d')∧ID d'∧x'.2.2.2.2.2.length≤100:=fun a d z x ha hd hx=>by
  cases a with
  | true =>
   have ha:=ha rfl
   obtain ⟨v,d2,e2,k2,v0,v1⟩:=AL (g.2.2.1.length:Int) d hd
   have v1:=v1 (by omega)
   refine ⟨g.2.2.1.getD v.toNat F8,d2,Nf (by unfold IR; rw [if_pos rfl,e2,Option.bind_some,if_pos v0,if_pos v1]; rfl),k2,pI hg (by omega)⟩
  | false =>
   obtain ⟨x',d',e,k⟩:=J1 false d z x hd hx
   exact ⟨x',d',Nf (by unfold IR; rw [if_neg (by simp)]; exact e),k⟩
 by_cases hf:0<g.2.2.1.length
 ·obtain ⟨o,d2,e2,k2⟩:=E0 3 d1 k1
  obtain ⟨x',d',e,k⟩:=J0 (!o) d2 F8 (x.1,x.2.1,m.1,x.2.2.2) (fun _=>hf) k2 hx
  refine ⟨x',d',TC ?_,k⟩
  unfold MT
  rw [e1,Option.bind_some,if_pos (by simpa using hf),e2,Option.bind_some]
  exact e
 ·obtain ⟨x',d',e,k⟩:=J0 false d1 F8 (x.1,x.2.1,m.1,x.2.2.2) (fun h=>by cases h) k1 hx
  refine ⟨x',d',TC ?_,k⟩
  unfold MT
  rw [e1,Option.bind_some,if_neg (by simpa using hf)]
  exact e
theorem N6 (x:List Int) (hx:x.length≤1048576):∃ m v y,Fl x=some (m,v,y)∧Hf m∧V7 v∧y.2.2.2.2.2.length≤100:=by
 obtain ⟨d,e0,k0⟩:=aY x (by unfold maxLen; omega)
 obtain ⟨g,d1,n,e1,k1,hg,hn⟩:=W6 x d hx k0
 have h6:=hg.six
 obtain ⟨v,d2,e2,k2,v0,v1⟩:=AL (g.2.1.length:Int) d1 k1
 have v1:=v1 (by omega)
 obtain ⟨y,d3,e3,k3,hy⟩:=W7 g n hg (Cs g v.toNat) d2 k2
 by_cases hc:1≤y.2.2.1∧y.2.2.1≤6
 ·refine ⟨Cs g (y.2.2.1-1).toNat,g.1,y,Jk ?_,(hg.mem _ (by omega)).1,hg.views,hy⟩
  unfold Fq
  rw [e0,Option.bind_some,e1,Option.bind_some,e2,Option.bind_some,if_pos v0,if_pos v1]
  change ((F6 g (Cs g v.toNat) d2).bind _)=_
  rw [e3,Option.bind_some]
  dsimp only
  rw [Ag,Option.bind_some,if_pos (by rw [h6]; simp; omega),AW (by omega),if_pos (by omega),if_pos (by omega)]
  rfl
 ·refine ⟨Cs g v.toNat,g.1,y,Jk ?_,(hg.mem _ (by omega)).1,hg.views,hy⟩
  unfold Fq
  rw [e0,Option.bind_some,e1,Option.bind_some,e2,Option.bind_some,if_pos v0,if_pos v1]
  change ((F6 g (Cs g v.toNat) d2).bind _)=_
  rw [e3,Option.bind_some]
  dsimp only
  rw [Ag,Option.bind_some,if_neg (by rw [h6]; simp; omega)]
  rfl
end Go.Proofs.YtaedipailemlcaaGreat.Core

namespace Go.Proofs.YtaedipailemlcaaGreat.Core
open Go
set_option linter.unusedVariables false
set_option linter.unusedSimpArgs false
theorem gu (x:List Int):WW x=some (decide ((x.length:Int)>1048576)):=kc rfl
theorem jM (x:List Int) (n:Int) (h:x.length≤maxLen):Ze x n=some (x.contains n):=mQ (by
 have hm:x.length≤9223372036854775807:=h
 have key:=G2 (n:=x.length) (P:=fun i=>M7 x n (i:Int)=some ((x.drop i).contains n)) (Xu (by
  unfold R5
  rw [if_neg (by simp)]
  simp)) (fun i hi ih=>Xu (by
  unfold R5
  simp only [show ((i:Int)<(x.length:Int)) from by omega,decide_true,if_true,show (0:Int)≤(i:Int) from by omega,Int.toNat_natCast,Ac hi,AR (show i<9223372036854775807 by omega)]
  rw [Bd hi,List.contains_cons]
  by_cases e:x[i]=n
  ·rw [if_pos (by simpa using e),e]; simp
  ·rw [if_neg (by simpa using e),ih]
   have:(n==x[i])=false:=by simpa using Ne.symm e
   rw [this,Bool.false_or])) 0 (by omega)
 unfold iE
 exact key)
theorem an {m:AC} (views:List (List Int)) (op call:Int) (key val:ByteArray) (hm:Hf m) (hs:m.2.2.2.2.2.1=false):R1 m views op call key val=some (Iv,[],[],false):=jA (by
 unfold Xv
 have hb:Fn views m=some (false,m):=R6 (by
  unfold Js
  rw [if_neg (by rw [hs]; decide)])
 rw [EP hm,Option.bind_some,if_pos (by rfl),hb,Option.bind_some,if_neg (by simp)]
 rfl)
theorem ma {m:AC} {views:List (List Int)} (hm:Hf m) (hv:V7 views) (he:m.2.1<(views.length:Int)) (hb:m.2.2.2.1=true) (hi:(views.getD (m.2.1-1).toNat []).contains m.1=true) :
  RX m views (1,5,m.1,m.2.1+1,0,[])=(KL m (m.2.1+1),[(2,m.1,5,m.2.1+1,0,m.2.2.2.2.2.2.2.1)],[]):=by
 have hvl:=hv.len
 have hep:=hm.ep
 have hx:nj (1,5,m.1,m.2.1+1,0,[]):=⟨(show (1:Int)≤1∧(1:Int)≤8 from by decide),(show (1:Int)≤5∧(5:Int)≤6 from by decide),hm.id,(by show 1≤m.2.1+1∧m.2.1+1≤9; omega),(show (0:Int)≤0∧(0:Int)≤1000000000 from by decide),rfl,by simp⟩
 unfold RX
 rw [if_pos (Yo.2 hx),Yv (show (1:Int)≠3 from by decide),f9 hx rfl (by show m.2.1≤m.2.1+1; omega) (by show m.2.1+1≤_; omega)]
 dsimp only
 rw [if_neg (by omega),hb,hi,if_pos (by simp)]
theorem aq {m:AC} {views:List (List Int)} {k e:Int} {a:Int} (hm:Hf m) (hv:V7 views) (hb:m.2.2.2.1=false) (hk:k=7∨k=1) (he:e≤m.2.1):(RX m views (k,5,a,e,0,[])).2.1=[]:=by
 unfold RX
 split
 ·rw [Yv (by show k≠3; omega)]
  unfold Fh
  split
  ·rename_i hc
   simp only [Bool.and_eq_true,decide_eq_true_eq] at hc
   have e1:e=m.2.1:=by omega
   rw [if_pos e1]
   unfold aZ
   rcases hk with rfl | rfl
   ·simp [hb]
   ·simp
  ·rfl
 ·rfl
theorem j_ (x) (hx:Kd.ok (.slice (.int .u8)) x):UP x=some true:=fB (by
 unfold UR
 rw [gu,Option.bind_some]
 by_cases hbig:x.length≤1048576
 case neg=>rw [if_pos (by simp; omega)]
 rw [if_neg (by simp; omega)]
 obtain ⟨m,v,y,e,hm,hv,hy⟩:=N6 x hbig
 have hvl:=hv.len
 have hep:=hm.ep
 have w1:IntKind.i64.wrap (m.2.1-1)=m.2.1-1:=AW (by omega)
 have w2:IntKind.i64.wrap (m.2.1+1)=m.2.1+1:=AW (by omega)
 rw [e,Option.bind_some]
 dsimp only
 by_cases c1:m.2.1≥(v.length:Int)
 ·rw [if_pos (by simpa using c1),EP hm]; rfl
 rw [if_neg (by simpa using c1)]
 by_cases c2:m.2.2.2.1=true
 case neg=>rw [if_pos (by simpa using c2),EP hm]; rfl
 rw [if_neg (by simpa using c2),w1,if_pos (by omega),if_pos (by omega),jM _ _ (by have:=(hv.get (i:=(m.2.1-1).toNat) (by omega)).2; unfold maxLen; omega),Option.bind_some]
 cases c3:(v.getD (m.2.1-1).toNat []).contains m.1 with
 | false=>rw [if_pos (by rfl),EP hm]; rfl
 | true =>
  rw [if_neg (by simp)]
  refine Xn ?_
  unfold O7
  have hn:Hf (KL m (m.2.1+1)):=hm.bare (by omega)
  rw [w2,Gm m v _ hm hv (by simp),Option.bind_some,ma hm hv (by omega) c2 c3]
  dsimp only
  have l12:=LP hm.items
  rw [if_neg (by simp),if_pos (by omega),if_pos (by simp),if_neg (by simp),if_pos (by omega),if_pos (by simp)]
  change ((HD m.2.2.2.2.2.2.2.1 m.2.2.2.2.2.2.2.1).bind _)=_
  rw [Tn _ (by unfold maxLen; omega),Option.bind_some,if_neg (by simp),if_neg (by simp [KL]),if_neg (by simp [KL]),if_neg (by simp [KL])]
  refine Xm ?_
  unfold O6
  have hbb:(KL m (m.2.1+1)).2.2.2.1=false:=rfl
  have hbe:(KL m (m.2.1+1)).2.1=m.2.1+1:=rfl
  rw [Gm _ v _ hn hv (by simp),Option.bind_some,Gm _ v _ hn hv (by simp),Option.bind_some,Gm _ v _ hn hv (by simp),Option.bind_some,an v _ _ _ _ hn rfl,Option.bind_some]
  rw [aq hn hv hbb (.inl rfl) (by rw [hbe]; omega),aq hn hv hbb (.inl rfl) (by rw [hbe]; omega),aq hn hv hbb (.inr rfl) (by rw [hbe]; omega)]
  rfl)
end Go.Proofs.YtaedipailemlcaaGreat.Core

namespace Go.Proofs.YtaedipailemlcaaGreat.Core
open Go
theorem ny {P:Program} {c:List Char} {rest:List (List Char)} (h:behindMainWord (wordsSigns P.initOrder.toList)=c::rest) (h1:(c == "gc".toList||c == "spec".toList)=false) (h2:(c == "cut".toList||(c == "finals".toList&&rest.head? == some "cut".toList))=true):P.make=some .cut:=by
 unfold Program.make
 rw [h]
 simp only [h1,h2]
 rfl
theorem nz {P:Program} {c:List Char} {rest:List (List Char)} (h:behindMainWord (wordsSigns P.initOrder.toList)=c::rest) (h1:((stripLifts liftWords (c::rest)).2.head? == some "cut".toList)=true) (h2:(stripLifts liftWords (c::rest)).1=[])
  (h3:P.laysLater=false) (h4:P.bearsReflect=false) (h5:P.doorFits []=true):P.mayEnter=true:=by
 unfold Program.mayEnter
 rw [h]
 simp only [h1,h2,h3,h4,h5]
 simp
theorem n5 {P:Program} {c:List Char} {rest:List (List Char)} (h:behindMainWord (wordsSigns P.initOrder.toList)=c::rest) (h1:(c == "carried".toList)=false) (h2:(stripLifts liftWords (c::rest)).1=[]):P.liftsFinal=false:=by
 have e:(some c==some "carried".toList)=false:=h1
 unfold Program.liftsFinal Program.headLifts
 rw [h]
 simp only [List.head?_cons,e,h2]
 simp
theorem Ic {a b:Bool} (h:a=true) (g:b=true):(a&&b)=true:=by rw [h,g]; rfl
theorem n6 {α:Type} [BEq α] [LawfulBEq α] {a b:α} (h:a=b):(a==b)=true:=by rw [h]; exact beq_self_eq_true b
end Go.Proofs.YtaedipailemlcaaGreat.Core

namespace Go.Proofs.YtaedipailemlcaaGreat.Core
open Go
set_option maxRecDepth 100000
def qq:List Nat:=[104,97,114,110,101,115,115,32,98,50,99,51,48,48,98,97,49,48,99,99,50,54,56,50,57,101,51,51,54,56,98,54,101,51,100,99,99,51,56,98,50,51,98,101,98,50,56,100,50,52,48,100,48,100,102,97,53,53,52,49,102,57,53,54,56,101,56,100,55,48,99,55,32,99,117,116,32,97,116,32,108,111,111,112,46,101,120,97,109,112,108,101,47,103,48,48,49,56,48,47,108,97,119,115,46,70,110,77,101,109,98,101,114,115,32,108,111,111,112,46,101,120,97,109,112,108,101,47,103,48,48,49,56,48,47,108,97,119,115,46,70,110,83,101,97,108,115,32,108,111,111,112,46,101,120,97,109,112,108,101,47,103,48,48,49,56,48,47,108,97,119,115,46,70,110,66,101,103,105,110,115]
def qr:List Nat:=[99,117,116]
def qt:List (List Nat):=[[97,116],[108,111,111,112,46,101,120,97,109,112,108,101,47,103,48,48,49,56,48,47,108,97,119,115,46,70,110,77,101,109,98,101,114,115],[108,111,111,112,46,101,120,97,109,112,108,101,47,103,48,48,49,56,48,47,108,97,119,115,46,70,110,83,101,97,108,115],[108,111,111,112,46,101,120,97,109,112,108,101,47,103,48,48,49,56,48,47,108,97,119,115,46,70,110,66,101,103,105,110,115]]
theorem io:Tryz.prog.initOrder.toList=qq.map Char.ofNat:=(congrArg String.toList (show Tryz.prog.initOrder=String.ofList (qq.map Char.ofNat) from by kernel_rfl)).trans String.toList_ofList
theorem qn:behindMainWord (wordsSigns Tryz.prog.initOrder.toList)=qr.map Char.ofNat::qt.map fun w=>w.map Char.ofNat:=by
 rw [io]
 kernel_rfl
theorem qo:Tryz.prog.make=some .cut:=ny qn (by kernel_rfl) (by kernel_rfl)
theorem qC:Tryz.prog.mayEnter=true:=nz qn (by kernel_rfl) (by kernel_rfl) (by kernel_rfl) (by kernel_rfl) (by kernel_rfl)
theorem pJ:Tryz.prog.liftsFinal=false:=n5 qn (by kernel_rfl) (by kernel_rfl)
theorem kA:laidOutB Tryz.prog=true:=by kernel_rfl
theorem km:mapsRowed Tryz.prog=true:=by kernel_rfl
theorem qD:Tryz.prog.stopsHeard=true:=by kernel_rfl
end Go.Proofs.YtaedipailemlcaaGreat.Core
