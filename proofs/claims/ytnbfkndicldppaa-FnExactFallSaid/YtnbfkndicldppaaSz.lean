/- Each measure, copy and comparison of the laws. Written by a program of this part. -/
import Derived.Test.YtnbfkndicldppaaAll
import Derived.Test.YtnbfkndicldppaaSizes
namespace Go.Proofs.Ytnbfkndicldppaa.Core
open Go
set_option linter.unusedVariables false
set_option linter.unusedSimpArgs false

theorem sz_laws_szItem : SzOk k_Item F_laws_szItem := fun x n hx hn => by
  suffices h : ∃ r, t_laws_szItem  x n = some r ∧ (r < 0 ∨ (Kd.small k_Item x ∧ 0 ≤ r ∧ r ≤ n)) from h.imp fun r h => ⟨f_laws_szItem h.1, h.2⟩
  unfold t_laws_szItem
  obtain ⟨m1, e1, o1⟩ := sz_left (show x.1.size ≤ maxLen from hx.1) hn
  rw [e1]
  by_cases g1 : m1 < 0
  · exact ⟨-1, by rw [if_pos (by simpa using g1)], .inl (by omega)⟩
  rw [if_neg (by simpa using g1)]
  replace o1 := o1.resolve_left g1
  obtain ⟨m2, e2, o2⟩ := sz_left (show x.2.1.size ≤ maxLen from hx.2.1) (show (0 : Int) ≤ m1 ∧ m1 ≤ 68719476736 by omega)
  rw [e2]
  by_cases g2 : m2 < 0
  · exact ⟨-1, by rw [if_pos (by simpa using g2)], .inl (by omega)⟩
  rw [if_neg (by simpa using g2)]
  replace o2 := o2.resolve_left g2
  exact ⟨m2, rfl, .inr ⟨⟨trivial, ⟨trivial, trivial⟩⟩, by omega⟩⟩
theorem sz_laws_szItemS : SzOk (.slice k_Item) F_laws_szItemS := fun x n hx hn => by
  obtain ⟨r, hr, ho⟩ := sz_list sz_laws_szItem hx (L := fun n i => W_laws_szItemS_L0 x n i) (fun n i r h => w_laws_szItemS_L0 h) n hn
  exact ⟨r, f_laws_szItemS hr, ho⟩
theorem sz_laws_szIntS : SzOk (.slice (.int .i64)) F_laws_szIntS := fun x n hx hn => by
  obtain ⟨r, hr, ho⟩ := sz_flat (e := (.int .i64)) hx.1 (fun _ => trivial) n hn
  exact ⟨r, f_laws_szIntS hr, ho⟩
theorem sz_laws_szTask : SzOk k_Task F_laws_szTask := fun x n hx hn => by
  suffices h : ∃ r, t_laws_szTask F_laws_szItem F_laws_szIntS x n = some r ∧ (r < 0 ∨ (Kd.small k_Task x ∧ 0 ≤ r ∧ r ≤ n)) from h.imp fun r h => ⟨f_laws_szTask h.1, h.2⟩
  unfold t_laws_szTask
  obtain ⟨m1, e1, o1⟩ := sz_laws_szItem x.2.2.2.1 n hx.2.2.2.1 hn
  rw [e1, Option.bind_some]
  by_cases g1 : m1 < 0
  · exact ⟨-1, by rw [if_pos (by simpa using g1)], .inl (by omega)⟩
  rw [if_neg (by simpa using g1)]
  replace o1 := o1.resolve_left g1
  obtain ⟨m2, e2, o2⟩ := sz_laws_szIntS x.2.2.2.2 m1 hx.2.2.2.2 (show (0 : Int) ≤ m1 ∧ m1 ≤ 68719476736 by omega)
  rw [e2, Option.bind_some]
  by_cases g2 : m2 < 0
  · exact ⟨-1, by rw [if_pos (by simpa using g2)], .inl (by omega)⟩
  rw [if_neg (by simpa using g2)]
  replace o2 := o2.resolve_left g2
  exact ⟨m2, rfl, .inr ⟨⟨trivial, ⟨trivial, ⟨trivial, ⟨o1.1, o2.1⟩⟩⟩⟩, by omega⟩⟩
theorem sz_laws_szMember : SzOk k_Member F_laws_szMember := fun x n hx hn => by
  suffices h : ∃ r, t_laws_szMember F_laws_szItemS F_laws_szIntS F_laws_szTask x n = some r ∧ (r < 0 ∨ (Kd.small k_Member x ∧ 0 ≤ r ∧ r ≤ n)) from h.imp fun r h => ⟨f_laws_szMember h.1, h.2⟩
  unfold t_laws_szMember
  obtain ⟨m1, e1, o1⟩ := sz_laws_szIntS x.2.2.2.2.2.2.1 n hx.2.2.2.2.2.2.1 hn
  rw [e1, Option.bind_some]
  by_cases g1 : m1 < 0
  · exact ⟨-1, by rw [if_pos (by simpa using g1)], .inl (by omega)⟩
  rw [if_neg (by simpa using g1)]
  replace o1 := o1.resolve_left g1
  obtain ⟨m2, e2, o2⟩ := sz_laws_szItemS x.2.2.2.2.2.2.2.1 m1 hx.2.2.2.2.2.2.2.1 (show (0 : Int) ≤ m1 ∧ m1 ≤ 68719476736 by omega)
  rw [e2, Option.bind_some]
  by_cases g2 : m2 < 0
  · exact ⟨-1, by rw [if_pos (by simpa using g2)], .inl (by omega)⟩
  rw [if_neg (by simpa using g2)]
  replace o2 := o2.resolve_left g2
  obtain ⟨m3, e3, o3⟩ := sz_laws_szTask x.2.2.2.2.2.2.2.2.2 m2 hx.2.2.2.2.2.2.2.2.2 (show (0 : Int) ≤ m2 ∧ m2 ≤ 68719476736 by omega)
  rw [e3, Option.bind_some]
  by_cases g3 : m3 < 0
  · exact ⟨-1, by rw [if_pos (by simpa using g3)], .inl (by omega)⟩
  rw [if_neg (by simpa using g3)]
  replace o3 := o3.resolve_left g3
  exact ⟨m3, rfl, .inr ⟨⟨trivial, ⟨trivial, ⟨trivial, ⟨trivial, ⟨trivial, ⟨trivial, ⟨o1.1, ⟨o2.1, ⟨trivial, o3.1⟩⟩⟩⟩⟩⟩⟩⟩⟩, by omega⟩⟩
theorem to_laws_toItem : ToOk k_Item F_laws_toItem := fun x hx => f_laws_toItem (by
  unfold t_laws_toItem
  simp [eqK])
theorem to_laws_toItemS : ToOk (.slice k_Item) F_laws_toItemS := fun x hx => f_laws_toItemS (to_list to_laws_toItem hx (L := fun i z => W_laws_toItemS_L0 x i z) (fun i z r h => w_laws_toItemS_L0 h))
theorem to_laws_toIntS : ToOk (.slice (.int .i64)) F_laws_toIntS := fun x hx => f_laws_toIntS (to_flat hx.1 (L := fun i z => W_laws_toIntS_L0 x i z) (fun i z r h => w_laws_toIntS_L0 h))
theorem to_laws_toTask : ToOk k_Task F_laws_toTask := fun x hx => f_laws_toTask (by
  unfold t_laws_toTask
  simp [to_laws_toItem x.2.2.2.1 hx.2.2.2.1, to_laws_toIntS x.2.2.2.2 hx.2.2.2.2, eqK])
theorem to_laws_toMember : ToOk k_Member F_laws_toMember := fun x hx => f_laws_toMember (by
  unfold t_laws_toMember
  simp [to_laws_toIntS x.2.2.2.2.2.2.1 hx.2.2.2.2.2.2.1, to_laws_toItemS x.2.2.2.2.2.2.2.1 hx.2.2.2.2.2.2.2.1, to_laws_toTask x.2.2.2.2.2.2.2.2.2 hx.2.2.2.2.2.2.2.2.2, eqK])
theorem eq_laws_eqItem : EqOk k_Item F_laws_eqItem := fun x hx => f_laws_eqItem (by
  unfold t_laws_eqItem
  simp [eqK])
theorem eq_laws_eqItemS : EqOk (.slice k_Item) F_laws_eqItemS := fun x hx => f_laws_eqItemS (eq_list eq_laws_eqItem hx (L := fun i => W_laws_eqItemS_L0 x x i) (fun i r h => w_laws_eqItemS_L0 h))
theorem eq_laws_eqIntS : EqOk (.slice (.int .i64)) F_laws_eqIntS := fun x hx => f_laws_eqIntS (eq_flat (c := fun a b : Int => a != b) (fun a => by simp [eqK]) hx.1 (L := fun i => W_laws_eqIntS_L0 x x i) (fun i r h => w_laws_eqIntS_L0 h))
theorem eq_laws_eqTask : EqOk k_Task F_laws_eqTask := fun x hx => f_laws_eqTask (by
  unfold t_laws_eqTask
  simp [eq_laws_eqItem x.2.2.2.1 hx.2.2.2.1, eq_laws_eqIntS x.2.2.2.2 hx.2.2.2.2, eqK])
theorem eq_laws_eqMember : EqOk k_Member F_laws_eqMember := fun x hx => f_laws_eqMember (by
  unfold t_laws_eqMember
  simp [eq_laws_eqIntS x.2.2.2.2.2.2.1 hx.2.2.2.2.2.2.1, eq_laws_eqItemS x.2.2.2.2.2.2.2.1 hx.2.2.2.2.2.2.2.1, eq_laws_eqTask x.2.2.2.2.2.2.2.2.2 hx.2.2.2.2.2.2.2.2.2, eqK])

end Go.Proofs.Ytnbfkndicldppaa.Core
