/- Each measure, copy and comparison of the laws. Written by a program of this part. -/
import Derived.Test.YtnbfkndicldppaaAll
import Derived.Test.YtnbfkndicldppaaSizes
namespace Go.Proofs.Ytnbfkndicldppaa.Core
open Go
set_option linter.unusedVariables false
set_option linter.unusedSimpArgs false

theorem sz_laws_szCall : SzOk k_Call F_laws_szCall := fun x n hx hn => by
  suffices h : ∃ r, t_laws_szCall  x n = some r ∧ (r < 0 ∨ (Kd.small k_Call x ∧ 0 ≤ r ∧ r ≤ n)) from h.imp fun r h => ⟨f_laws_szCall h.1, h.2⟩
  unfold t_laws_szCall
  obtain ⟨m1, e1, o1⟩ := sz_left (show x.2.1.size ≤ maxLen from hx.2.1) hn
  rw [e1]
  by_cases g1 : m1 < 0
  · exact ⟨-1, by rw [if_pos (by simpa using g1)], .inl (by omega)⟩
  rw [if_neg (by simpa using g1)]
  replace o1 := o1.resolve_left g1
  obtain ⟨m2, e2, o2⟩ := sz_left (show x.2.2.1.size ≤ maxLen from hx.2.2.1) (show (0 : Int) ≤ m1 ∧ m1 ≤ 68719476736 by omega)
  rw [e2]
  by_cases g2 : m2 < 0
  · exact ⟨-1, by rw [if_pos (by simpa using g2)], .inl (by omega)⟩
  rw [if_neg (by simpa using g2)]
  replace o2 := o2.resolve_left g2
  obtain ⟨m3, e3, o3⟩ := sz_left (show x.2.2.2.2.2.2.2.2.size ≤ maxLen from hx.2.2.2.2.2.2.2.2) (show (0 : Int) ≤ m2 ∧ m2 ≤ 68719476736 by omega)
  rw [e3]
  by_cases g3 : m3 < 0
  · exact ⟨-1, by rw [if_pos (by simpa using g3)], .inl (by omega)⟩
  rw [if_neg (by simpa using g3)]
  replace o3 := o3.resolve_left g3
  exact ⟨m3, rfl, .inr ⟨⟨trivial, ⟨trivial, ⟨trivial, ⟨trivial, ⟨trivial, ⟨trivial, ⟨trivial, ⟨trivial, trivial⟩⟩⟩⟩⟩⟩⟩⟩, by omega⟩⟩
theorem sz_laws_szCallS : SzOk (.slice k_Call) F_laws_szCallS := fun x n hx hn => by
  obtain ⟨r, hr, ho⟩ := sz_list sz_laws_szCall hx (L := fun n i => W_laws_szCallS_L0 x n i) (fun n i r h => w_laws_szCallS_L0 h) n hn
  exact ⟨r, f_laws_szCallS hr, ho⟩
theorem to_laws_toCall : ToOk k_Call F_laws_toCall := fun x hx => f_laws_toCall (by
  unfold t_laws_toCall
  simp [eqK])
theorem to_laws_toCallS : ToOk (.slice k_Call) F_laws_toCallS := fun x hx => f_laws_toCallS (to_list to_laws_toCall hx (L := fun i z => W_laws_toCallS_L0 x i z) (fun i z r h => w_laws_toCallS_L0 h))
theorem eq_laws_eqCall : EqOk k_Call F_laws_eqCall := fun x hx => f_laws_eqCall (by
  unfold t_laws_eqCall
  simp [eqK])
theorem eq_laws_eqCallS : EqOk (.slice k_Call) F_laws_eqCallS := fun x hx => f_laws_eqCallS (eq_list eq_laws_eqCall hx (L := fun i => W_laws_eqCallS_L0 x x i) (fun i r h => w_laws_eqCallS_L0 h))
theorem sz_laws_szItem : SzOk k_Item F_laws_szItem := fun x n hx hn => by
  suffices h : ∃ r, t_laws_szItem  x n = some r ∧ (r < 0 ∨ (Kd.small k_Item x ∧ 0 ≤ r ∧ r ≤ n)) from h.imp fun r h => ⟨f_laws_szItem h.1, h.2⟩
  unfold t_laws_szItem
  obtain ⟨m1, e1, o1⟩ := sz_left (show x.1.size ≤ maxLen from hx.1) hn
  rw [e1]
  by_cases g1 : m1 < 0
  · exact ⟨-1, by rw [if_pos (by simpa using g1)], .inl (by omega)⟩
  rw [if_neg (by simpa using g1)]
  replace o1 := o1.resolve_left g1
  obtain ⟨m2, e2, o2⟩ := sz_left (show x.2.1.size ≤ maxLen from hx.2.1) (show (0 : Int) ≤ m1 ∧ m1 ≤ 68719476736 by omega)
  rw [e2]
  by_cases g2 : m2 < 0
  · exact ⟨-1, by rw [if_pos (by simpa using g2)], .inl (by omega)⟩
  rw [if_neg (by simpa using g2)]
  replace o2 := o2.resolve_left g2
  exact ⟨m2, rfl, .inr ⟨⟨trivial, ⟨trivial, trivial⟩⟩, by omega⟩⟩
theorem sz_laws_szItemS : SzOk (.slice k_Item) F_laws_szItemS := fun x n hx hn => by
  obtain ⟨r, hr, ho⟩ := sz_list sz_laws_szItem hx (L := fun n i => W_laws_szItemS_L0 x n i) (fun n i r h => w_laws_szItemS_L0 h) n hn
  exact ⟨r, f_laws_szItemS hr, ho⟩
theorem sz_laws_szMsg : SzOk k_Msg F_laws_szMsg := fun x n hx hn => by
  suffices h : ∃ r, t_laws_szMsg F_laws_szItemS x n = some r ∧ (r < 0 ∨ (Kd.small k_Msg x ∧ 0 ≤ r ∧ r ≤ n)) from h.imp fun r h => ⟨f_laws_szMsg h.1, h.2⟩
  unfold t_laws_szMsg
  obtain ⟨m1, e1, o1⟩ := sz_laws_szItemS x.2.2.2.2.2 n hx.2.2.2.2.2 hn
  rw [e1, Option.bind_some]
  by_cases g1 : m1 < 0
  · exact ⟨-1, by rw [if_pos (by simpa using g1)], .inl (by omega)⟩
  rw [if_neg (by simpa using g1)]
  replace o1 := o1.resolve_left g1
  exact ⟨m1, rfl, .inr ⟨⟨trivial, ⟨trivial, ⟨trivial, ⟨trivial, ⟨trivial, o1.1⟩⟩⟩⟩⟩, by omega⟩⟩
theorem to_laws_toItem : ToOk k_Item F_laws_toItem := fun x hx => f_laws_toItem (by
  unfold t_laws_toItem
  simp [eqK])
theorem to_laws_toItemS : ToOk (.slice k_Item) F_laws_toItemS := fun x hx => f_laws_toItemS (to_list to_laws_toItem hx (L := fun i z => W_laws_toItemS_L0 x i z) (fun i z r h => w_laws_toItemS_L0 h))
theorem to_laws_toMsg : ToOk k_Msg F_laws_toMsg := fun x hx => f_laws_toMsg (by
  unfold t_laws_toMsg
  simp [to_laws_toItemS x.2.2.2.2.2 hx.2.2.2.2.2, eqK])
theorem eq_laws_eqItem : EqOk k_Item F_laws_eqItem := fun x hx => f_laws_eqItem (by
  unfold t_laws_eqItem
  simp [eqK])
theorem eq_laws_eqItemS : EqOk (.slice k_Item) F_laws_eqItemS := fun x hx => f_laws_eqItemS (eq_list eq_laws_eqItem hx (L := fun i => W_laws_eqItemS_L0 x x i) (fun i r h => w_laws_eqItemS_L0 h))
theorem eq_laws_eqMsg : EqOk k_Msg F_laws_eqMsg := fun x hx => f_laws_eqMsg (by
  unfold t_laws_eqMsg
  simp [eq_laws_eqItemS x.2.2.2.2.2 hx.2.2.2.2.2, eqK])
theorem sz_laws_szIntS : SzOk (.slice (.int .i64)) F_laws_szIntS := fun x n hx hn => by
  obtain ⟨r, hr, ho⟩ := sz_flat (e := (.int .i64)) hx.1 (fun _ => trivial) n hn
  exact ⟨r, f_laws_szIntS hr, ho⟩
theorem sz_laws_szTask : SzOk k_Task F_laws_szTask := fun x n hx hn => by
  suffices h : ∃ r, t_laws_szTask F_laws_szItem F_laws_szIntS x n = some r ∧ (r < 0 ∨ (Kd.small k_Task x ∧ 0 ≤ r ∧ r ≤ n)) from h.imp fun r h => ⟨f_laws_szTask h.1, h.2⟩
  unfold t_laws_szTask
  obtain ⟨m1, e1, o1⟩ := sz_laws_szItem x.2.2.2.1 n hx.2.2.2.1 hn
  rw [e1, Option.bind_some]
  by_cases g1 : m1 < 0
  · exact ⟨-1, by rw [if_pos (by simpa using g1)], .inl (by omega)⟩
  rw [if_neg (by simpa using g1)]
  replace o1 := o1.resolve_left g1
  obtain ⟨m2, e2, o2⟩ := sz_laws_szIntS x.2.2.2.2 m1 hx.2.2.2.2 (show (0 : Int) ≤ m1 ∧ m1 ≤ 68719476736 by omega)
  rw [e2, Option.bind_some]
  by_cases g2 : m2 < 0
  · exact ⟨-1, by rw [if_pos (by simpa using g2)], .inl (by omega)⟩
  rw [if_neg (by simpa using g2)]
  replace o2 := o2.resolve_left g2
  exact ⟨m2, rfl, .inr ⟨⟨trivial, ⟨trivial, ⟨trivial, ⟨o1.1, o2.1⟩⟩⟩⟩, by omega⟩⟩
theorem sz_laws_szMember : SzOk k_Member F_laws_szMember := fun x n hx hn => by
  suffices h : ∃ r, t_laws_szMember F_laws_szItemS F_laws_szIntS F_laws_szTask x n = some r ∧ (r < 0 ∨ (Kd.small k_Member x ∧ 0 ≤ r ∧ r ≤ n)) from h.imp fun r h => ⟨f_laws_szMember h.1, h.2⟩
  unfold t_laws_szMember
  obtain ⟨m1, e1, o1⟩ := sz_laws_szIntS x.2.2.2.2.2.2.1 n hx.2.2.2.2.2.2.1 hn
  rw [e1, Option.bind_some]
  by_cases g1 : m1 < 0
  · exact ⟨-1, by rw [if_pos (by simpa using g1)], .inl (by omega)⟩
  rw [if_neg (by simpa using g1)]
  replace o1 := o1.resolve_left g1
  obtain ⟨m2, e2, o2⟩ := sz_laws_szItemS x.2.2.2.2.2.2.2.1 m1 hx.2.2.2.2.2.2.2.1 (show (0 : Int) ≤ m1 ∧ m1 ≤ 68719476736 by omega)
  rw [e2, Option.bind_some]
  by_cases g2 : m2 < 0
  · exact ⟨-1, by rw [if_pos (by simpa using g2)], .inl (by omega)⟩
  rw [if_neg (by simpa using g2)]
  replace o2 := o2.resolve_left g2
  obtain ⟨m3, e3, o3⟩ := sz_laws_szTask x.2.2.2.2.2.2.2.2.2 m2 hx.2.2.2.2.2.2.2.2.2 (show (0 : Int) ≤ m2 ∧ m2 ≤ 68719476736 by omega)
  rw [e3, Option.bind_some]
  by_cases g3 : m3 < 0
  · exact ⟨-1, by rw [if_pos (by simpa using g3)], .inl (by omega)⟩
  rw [if_neg (by simpa using g3)]
  replace o3 := o3.resolve_left g3
  exact ⟨m3, rfl, .inr ⟨⟨trivial, ⟨trivial, ⟨trivial, ⟨trivial, ⟨trivial, ⟨trivial, ⟨o1.1, ⟨o2.1, ⟨trivial, o3.1⟩⟩⟩⟩⟩⟩⟩⟩⟩, by omega⟩⟩
theorem to_laws_toIntS : ToOk (.slice (.int .i64)) F_laws_toIntS := fun x hx => f_laws_toIntS (to_flat hx.1 (L := fun i z => W_laws_toIntS_L0 x i z) (fun i z r h => w_laws_toIntS_L0 h))
theorem to_laws_toTask : ToOk k_Task F_laws_toTask := fun x hx => f_laws_toTask (by
  unfold t_laws_toTask
  simp [to_laws_toItem x.2.2.2.1 hx.2.2.2.1, to_laws_toIntS x.2.2.2.2 hx.2.2.2.2, eqK])
theorem to_laws_toMember : ToOk k_Member F_laws_toMember := fun x hx => f_laws_toMember (by
  unfold t_laws_toMember
  simp [to_laws_toIntS x.2.2.2.2.2.2.1 hx.2.2.2.2.2.2.1, to_laws_toItemS x.2.2.2.2.2.2.2.1 hx.2.2.2.2.2.2.2.1, to_laws_toTask x.2.2.2.2.2.2.2.2.2 hx.2.2.2.2.2.2.2.2.2, eqK])
theorem eq_laws_eqIntS : EqOk (.slice (.int .i64)) F_laws_eqIntS := fun x hx => f_laws_eqIntS (eq_flat (c := fun a b : Int => a != b) (fun a => by simp [eqK]) hx.1 (L := fun i => W_laws_eqIntS_L0 x x i) (fun i r h => w_laws_eqIntS_L0 h))
theorem eq_laws_eqTask : EqOk k_Task F_laws_eqTask := fun x hx => f_laws_eqTask (by
  unfold t_laws_eqTask
  simp [eq_laws_eqItem x.2.2.2.1 hx.2.2.2.1, eq_laws_eqIntS x.2.2.2.2 hx.2.2.2.2, eqK])
theorem eq_laws_eqMember : EqOk k_Member F_laws_eqMember := fun x hx => f_laws_eqMember (by
  unfold t_laws_eqMember
  simp [eq_laws_eqIntS x.2.2.2.2.2.2.1 hx.2.2.2.2.2.2.1, eq_laws_eqItemS x.2.2.2.2.2.2.2.1 hx.2.2.2.2.2.2.2.1, eq_laws_eqTask x.2.2.2.2.2.2.2.2.2 hx.2.2.2.2.2.2.2.2.2, eqK])
theorem sz_laws_szIntSS : SzOk (.slice (.slice (.int .i64))) F_laws_szIntSS := fun x n hx hn => by
  obtain ⟨r, hr, ho⟩ := sz_list sz_laws_szIntS hx (L := fun n i => W_laws_szIntSS_L0 x n i) (fun n i r h => w_laws_szIntSS_L0 h) n hn
  exact ⟨r, f_laws_szIntSS hr, ho⟩
theorem to_laws_toIntSS : ToOk (.slice (.slice (.int .i64))) F_laws_toIntSS := fun x hx => f_laws_toIntSS (to_list to_laws_toIntS hx (L := fun i z => W_laws_toIntSS_L0 x i z) (fun i z r h => w_laws_toIntSS_L0 h))
theorem eq_laws_eqIntSS : EqOk (.slice (.slice (.int .i64))) F_laws_eqIntSS := fun x hx => f_laws_eqIntSS (eq_list eq_laws_eqIntS hx (L := fun i => W_laws_eqIntSS_L0 x x i) (fun i r h => w_laws_eqIntSS_L0 h))
theorem sz_laws_szMemberS : SzOk (.slice k_Member) F_laws_szMemberS := fun x n hx hn => by
  obtain ⟨r, hr, ho⟩ := sz_list sz_laws_szMember hx (L := fun n i => W_laws_szMemberS_L0 x n i) (fun n i r h => w_laws_szMemberS_L0 h) n hn
  exact ⟨r, f_laws_szMemberS hr, ho⟩
theorem sz_laws_szMsgS : SzOk (.slice k_Msg) F_laws_szMsgS := fun x n hx hn => by
  obtain ⟨r, hr, ho⟩ := sz_list sz_laws_szMsg hx (L := fun n i => W_laws_szMsgS_L0 x n i) (fun n i r h => w_laws_szMsgS_L0 h) n hn
  exact ⟨r, f_laws_szMsgS hr, ho⟩
theorem sz_laws_szGroup : SzOk k_Group F_laws_szGroup := fun x n hx hn => by
  suffices h : ∃ r, t_laws_szGroup F_laws_szCallS F_laws_szIntSS F_laws_szMemberS F_laws_szMsgS x n = some r ∧ (r < 0 ∨ (Kd.small k_Group x ∧ 0 ≤ r ∧ r ≤ n)) from h.imp fun r h => ⟨f_laws_szGroup h.1, h.2⟩
  unfold t_laws_szGroup
  obtain ⟨m1, e1, o1⟩ := sz_laws_szIntSS x.1 n hx.1 hn
  rw [e1, Option.bind_some]
  by_cases g1 : m1 < 0
  · exact ⟨-1, by rw [if_pos (by simpa using g1)], .inl (by omega)⟩
  rw [if_neg (by simpa using g1)]
  replace o1 := o1.resolve_left g1
  obtain ⟨m2, e2, o2⟩ := sz_laws_szMemberS x.2.1 m1 hx.2.1 (show (0 : Int) ≤ m1 ∧ m1 ≤ 68719476736 by omega)
  rw [e2, Option.bind_some]
  by_cases g2 : m2 < 0
  · exact ⟨-1, by rw [if_pos (by simpa using g2)], .inl (by omega)⟩
  rw [if_neg (by simpa using g2)]
  replace o2 := o2.resolve_left g2
  obtain ⟨m3, e3, o3⟩ := sz_laws_szMsgS x.2.2.1 m2 hx.2.2.1 (show (0 : Int) ≤ m2 ∧ m2 ≤ 68719476736 by omega)
  rw [e3, Option.bind_some]
  by_cases g3 : m3 < 0
  · exact ⟨-1, by rw [if_pos (by simpa using g3)], .inl (by omega)⟩
  rw [if_neg (by simpa using g3)]
  replace o3 := o3.resolve_left g3
  obtain ⟨m4, e4, o4⟩ := sz_laws_szCallS x.2.2.2 m3 hx.2.2.2 (show (0 : Int) ≤ m3 ∧ m3 ≤ 68719476736 by omega)
  rw [e4, Option.bind_some]
  by_cases g4 : m4 < 0
  · exact ⟨-1, by rw [if_pos (by simpa using g4)], .inl (by omega)⟩
  rw [if_neg (by simpa using g4)]
  replace o4 := o4.resolve_left g4
  exact ⟨m4, rfl, .inr ⟨⟨o1.1, ⟨o2.1, ⟨o3.1, o4.1⟩⟩⟩, by omega⟩⟩
theorem to_laws_toMemberS : ToOk (.slice k_Member) F_laws_toMemberS := fun x hx => f_laws_toMemberS (to_list to_laws_toMember hx (L := fun i z => W_laws_toMemberS_L0 x i z) (fun i z r h => w_laws_toMemberS_L0 h))
theorem to_laws_toMsgS : ToOk (.slice k_Msg) F_laws_toMsgS := fun x hx => f_laws_toMsgS (to_list to_laws_toMsg hx (L := fun i z => W_laws_toMsgS_L0 x i z) (fun i z r h => w_laws_toMsgS_L0 h))
theorem to_laws_toGroup : ToOk k_Group F_laws_toGroup := fun x hx => f_laws_toGroup (by
  unfold t_laws_toGroup
  simp [to_laws_toIntSS x.1 hx.1, to_laws_toMemberS x.2.1 hx.2.1, to_laws_toMsgS x.2.2.1 hx.2.2.1, to_laws_toCallS x.2.2.2 hx.2.2.2, eqK])
theorem eq_laws_eqMemberS : EqOk (.slice k_Member) F_laws_eqMemberS := fun x hx => f_laws_eqMemberS (eq_list eq_laws_eqMember hx (L := fun i => W_laws_eqMemberS_L0 x x i) (fun i r h => w_laws_eqMemberS_L0 h))
theorem eq_laws_eqMsgS : EqOk (.slice k_Msg) F_laws_eqMsgS := fun x hx => f_laws_eqMsgS (eq_list eq_laws_eqMsg hx (L := fun i => W_laws_eqMsgS_L0 x x i) (fun i r h => w_laws_eqMsgS_L0 h))
theorem eq_laws_eqGroup : EqOk k_Group F_laws_eqGroup := fun x hx => f_laws_eqGroup (by
  unfold t_laws_eqGroup
  simp [eq_laws_eqIntSS x.1 hx.1, eq_laws_eqMemberS x.2.1 hx.2.1, eq_laws_eqMsgS x.2.2.1 hx.2.2.1, eq_laws_eqCallS x.2.2.2 hx.2.2.2, eqK])

end Go.Proofs.Ytnbfkndicldppaa.Core
