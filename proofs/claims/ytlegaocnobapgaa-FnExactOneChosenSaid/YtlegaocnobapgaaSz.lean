/- Each measure, copy and comparison of the laws. Written by a program of this part. -/
import Derived.Test.YtlegaocnobapgaaAll
import Derived.Test.YtlegaocnobapgaaSizes
namespace Go.Proofs.Ytlegaocnobapgaa.Core
open Go
set_option linter.unusedVariables false
set_option linter.unusedSimpArgs false

theorem sz15 : SzOk (.pair (.int .i64) (.pair .str (.pair .str (.pair (.int .i64) (.pair (.int .i64) (.pair (.int .i64) (.pair (.int .i64) (.pair (.int .i64) .str)))))))) F15 := fun x n hx hn => by
  suffices h : ∃ r, t15  x n = some r ∧ (r < 0 ∨ (Kd.small (.pair (.int .i64) (.pair .str (.pair .str (.pair (.int .i64) (.pair (.int .i64) (.pair (.int .i64) (.pair (.int .i64) (.pair (.int .i64) .str)))))))) x ∧ 0 ≤ r ∧ r ≤ n)) from h.imp fun r h => ⟨f15 h.1, h.2⟩
  unfold t15
  obtain ⟨m1, e1, o1⟩ := sz_left (show x.2.1.size ≤ maxLen from hx.2.1) hn
  rw [e1]
  by_cases g1 : m1 < 0
  · exact ⟨-1, by rw [if_pos (by simpa using g1)], .inl (by omega)⟩
  rw [if_neg (by simpa using g1)]
  replace o1 := o1.resolve_left g1
  obtain ⟨m2, e2, o2⟩ := sz_left (show x.2.2.1.size ≤ maxLen from hx.2.2.1) (show (0 : Int) ≤ m1 ∧ m1 ≤ 68719476736 by omega)
  rw [e2]
  by_cases g2 : m2 < 0
  · exact ⟨-1, by rw [if_pos (by simpa using g2)], .inl (by omega)⟩
  rw [if_neg (by simpa using g2)]
  replace o2 := o2.resolve_left g2
  obtain ⟨m3, e3, o3⟩ := sz_left (show x.2.2.2.2.2.2.2.2.size ≤ maxLen from hx.2.2.2.2.2.2.2.2) (show (0 : Int) ≤ m2 ∧ m2 ≤ 68719476736 by omega)
  rw [e3]
  by_cases g3 : m3 < 0
  · exact ⟨-1, by rw [if_pos (by simpa using g3)], .inl (by omega)⟩
  rw [if_neg (by simpa using g3)]
  replace o3 := o3.resolve_left g3
  exact ⟨m3, rfl, .inr ⟨⟨trivial, ⟨trivial, ⟨trivial, ⟨trivial, ⟨trivial, ⟨trivial, ⟨trivial, ⟨trivial, trivial⟩⟩⟩⟩⟩⟩⟩⟩, by omega⟩⟩
theorem to17 : ToOk (.pair (.int .i64) (.pair .str (.pair .str (.pair (.int .i64) (.pair (.int .i64) (.pair (.int .i64) (.pair (.int .i64) (.pair (.int .i64) .str)))))))) F17 := fun x hx => f17 (by
  unfold t17
  simp [eqK])
theorem sz19 : SzOk (.pair (.int .i64) (.pair (.int .i64) (.pair (.int .i64) (.pair (.int .i64) (.pair .str .str))))) F19 := fun x n hx hn => by
  suffices h : ∃ r, t19  x n = some r ∧ (r < 0 ∨ (Kd.small (.pair (.int .i64) (.pair (.int .i64) (.pair (.int .i64) (.pair (.int .i64) (.pair .str .str))))) x ∧ 0 ≤ r ∧ r ≤ n)) from h.imp fun r h => ⟨f19 h.1, h.2⟩
  unfold t19
  obtain ⟨m1, e1, o1⟩ := sz_left (show x.2.2.2.2.1.size ≤ maxLen from hx.2.2.2.2.1) hn
  rw [e1]
  by_cases g1 : m1 < 0
  · exact ⟨-1, by rw [if_pos (by simpa using g1)], .inl (by omega)⟩
  rw [if_neg (by simpa using g1)]
  replace o1 := o1.resolve_left g1
  obtain ⟨m2, e2, o2⟩ := sz_left (show x.2.2.2.2.2.size ≤ maxLen from hx.2.2.2.2.2) (show (0 : Int) ≤ m1 ∧ m1 ≤ 68719476736 by omega)
  rw [e2]
  by_cases g2 : m2 < 0
  · exact ⟨-1, by rw [if_pos (by simpa using g2)], .inl (by omega)⟩
  rw [if_neg (by simpa using g2)]
  replace o2 := o2.resolve_left g2
  exact ⟨m2, rfl, .inr ⟨⟨trivial, ⟨trivial, ⟨trivial, ⟨trivial, ⟨trivial, trivial⟩⟩⟩⟩⟩, by omega⟩⟩
theorem to21 : ToOk (.pair (.int .i64) (.pair (.int .i64) (.pair (.int .i64) (.pair (.int .i64) (.pair .str .str))))) F21 := fun x hx => f21 (by
  unfold t21
  simp [eqK])
theorem sz72 : SzOk (.pair .str (.pair .str (.int .i64))) F72 := fun x n hx hn => by
  suffices h : ∃ r, t72  x n = some r ∧ (r < 0 ∨ (Kd.small (.pair .str (.pair .str (.int .i64))) x ∧ 0 ≤ r ∧ r ≤ n)) from h.imp fun r h => ⟨f72 h.1, h.2⟩
  unfold t72
  obtain ⟨m1, e1, o1⟩ := sz_left (show x.1.size ≤ maxLen from hx.1) hn
  rw [e1]
  by_cases g1 : m1 < 0
  · exact ⟨-1, by rw [if_pos (by simpa using g1)], .inl (by omega)⟩
  rw [if_neg (by simpa using g1)]
  replace o1 := o1.resolve_left g1
  obtain ⟨m2, e2, o2⟩ := sz_left (show x.2.1.size ≤ maxLen from hx.2.1) (show (0 : Int) ≤ m1 ∧ m1 ≤ 68719476736 by omega)
  rw [e2]
  by_cases g2 : m2 < 0
  · exact ⟨-1, by rw [if_pos (by simpa using g2)], .inl (by omega)⟩
  rw [if_neg (by simpa using g2)]
  replace o2 := o2.resolve_left g2
  exact ⟨m2, rfl, .inr ⟨⟨trivial, ⟨trivial, trivial⟩⟩, by omega⟩⟩
theorem sz28 : SzOk (.slice (.pair .str (.pair .str (.int .i64)))) F28 := fun x n hx hn => by
  obtain ⟨r, hr, ho⟩ := sz_list sz72 hx (L := fun n i => W28_L0 x n i) (fun n i r h => w28_L0 h) n hn
  exact ⟨r, f28 hr, ho⟩
theorem to73 : ToOk (.pair .str (.pair .str (.int .i64))) F73 := fun x hx => f73 (by
  unfold t73
  simp [eqK])
theorem to30 : ToOk (.slice (.pair .str (.pair .str (.int .i64)))) F30 := fun x hx => f30 (to_list to73 hx (L := fun i z => W30_L0 x i z) (fun i z r h => w30_L0 h))
theorem eq32 : EqOk (.pair .str (.pair .str (.int .i64))) F32 := fun x hx => f32 (by
  unfold t32
  simp [eqK])
theorem eq33 : EqOk (.slice (.pair .str (.pair .str (.int .i64)))) F33 := fun x hx => f33 (eq_list eq32 hx (L := fun i => W33_L0 x x i) (fun i r h => w33_L0 h))
theorem sz75 : SzOk (.slice (.int .i64)) F75 := fun x n hx hn => by
  obtain ⟨r, hr, ho⟩ := sz_flat (e := (.int .i64)) hx.1 (fun _ => trivial) n hn
  exact ⟨r, f75 hr, ho⟩
theorem sz36 : SzOk (.slice (.slice (.int .i64))) F36 := fun x n hx hn => by
  obtain ⟨r, hr, ho⟩ := sz_list sz75 hx (L := fun n i => W36_L0 x n i) (fun n i r h => w36_L0 h) n hn
  exact ⟨r, f36 hr, ho⟩
theorem to77 : ToOk (.slice (.int .i64)) F77 := fun x hx => f77 (to_flat hx.1 (L := fun i z => W77_L0 x i z) (fun i z r h => w77_L0 h))
theorem to38 : ToOk (.slice (.slice (.int .i64))) F38 := fun x hx => f38 (to_list to77 hx (L := fun i z => W38_L0 x i z) (fun i z r h => w38_L0 h))
theorem eq79 : EqOk (.slice (.int .i64)) F79 := fun x hx => f79 (eq_flat (c := fun a b : Int => a != b) (fun a => by simp [eqK]) hx.1 (L := fun i => W79_L0 x x i) (fun i r h => w79_L0 h))
theorem eq40 : EqOk (.slice (.slice (.int .i64))) F40 := fun x hx => f40 (eq_list eq79 hx (L := fun i => W40_L0 x x i) (fun i r h => w40_L0 h))
theorem sz45 : SzOk (.slice (.pair (.int .i64) (.pair .str (.pair .str (.pair (.int .i64) (.pair (.int .i64) (.pair (.int .i64) (.pair (.int .i64) (.pair (.int .i64) .str))))))))) F45 := fun x n hx hn => by
  obtain ⟨r, hr, ho⟩ := sz_list sz15 hx (L := fun n i => W45_L0 x n i) (fun n i r h => w45_L0 h) n hn
  exact ⟨r, f45 hr, ho⟩
theorem to47 : ToOk (.slice (.pair (.int .i64) (.pair .str (.pair .str (.pair (.int .i64) (.pair (.int .i64) (.pair (.int .i64) (.pair (.int .i64) (.pair (.int .i64) .str))))))))) F47 := fun x hx => f47 (to_list to17 hx (L := fun i z => W47_L0 x i z) (fun i z r h => w47_L0 h))
theorem eq84 : EqOk (.pair (.int .i64) (.pair .str (.pair .str (.pair (.int .i64) (.pair (.int .i64) (.pair (.int .i64) (.pair (.int .i64) (.pair (.int .i64) .str)))))))) F84 := fun x hx => f84 (by
  unfold t84
  simp [eqK])
theorem eq49 : EqOk (.slice (.pair (.int .i64) (.pair .str (.pair .str (.pair (.int .i64) (.pair (.int .i64) (.pair (.int .i64) (.pair (.int .i64) (.pair (.int .i64) .str))))))))) F49 := fun x hx => f49 (eq_list eq84 hx (L := fun i => W49_L0 x x i) (fun i r h => w49_L0 h))
theorem sz50 : SzOk (.pair (.int .i64) (.pair (.int .i64) (.pair (.int .i64) (.pair (.int .i64) (.pair (.int .i64) (.slice (.pair .str (.pair .str (.int .i64))))))))) F50 := fun x n hx hn => by
  suffices h : ∃ r, t50 F28 x n = some r ∧ (r < 0 ∨ (Kd.small (.pair (.int .i64) (.pair (.int .i64) (.pair (.int .i64) (.pair (.int .i64) (.pair (.int .i64) (.slice (.pair .str (.pair .str (.int .i64))))))))) x ∧ 0 ≤ r ∧ r ≤ n)) from h.imp fun r h => ⟨f50 h.1, h.2⟩
  unfold t50
  obtain ⟨m1, e1, o1⟩ := sz28 x.2.2.2.2.2 n hx.2.2.2.2.2 hn
  rw [e1, Option.bind_some]
  by_cases g1 : m1 < 0
  · exact ⟨-1, by rw [if_pos (by simpa using g1)], .inl (by omega)⟩
  rw [if_neg (by simpa using g1)]
  replace o1 := o1.resolve_left g1
  exact ⟨m1, rfl, .inr ⟨⟨trivial, ⟨trivial, ⟨trivial, ⟨trivial, ⟨trivial, o1.1⟩⟩⟩⟩⟩, by omega⟩⟩
theorem to52 : ToOk (.pair (.int .i64) (.pair (.int .i64) (.pair (.int .i64) (.pair (.int .i64) (.pair (.int .i64) (.slice (.pair .str (.pair .str (.int .i64))))))))) F52 := fun x hx => f52 (by
  unfold t52
  simp [to30 x.2.2.2.2.2 hx.2.2.2.2.2, eqK])
theorem eq54 : EqOk (.pair (.int .i64) (.pair (.int .i64) (.pair (.int .i64) (.pair (.int .i64) (.pair (.int .i64) (.slice (.pair .str (.pair .str (.int .i64))))))))) F54 := fun x hx => f54 (by
  unfold t54
  simp [eq33 x.2.2.2.2.2 hx.2.2.2.2.2, eqK])
theorem sz87 : SzOk (.pair (.int .i64) (.pair (.int .i64) (.pair (.int .i64) (.pair (.pair .str (.pair .str (.int .i64))) (.slice (.int .i64)))))) F87 := fun x n hx hn => by
  suffices h : ∃ r, t87 F72 F75 x n = some r ∧ (r < 0 ∨ (Kd.small (.pair (.int .i64) (.pair (.int .i64) (.pair (.int .i64) (.pair (.pair .str (.pair .str (.int .i64))) (.slice (.int .i64)))))) x ∧ 0 ≤ r ∧ r ≤ n)) from h.imp fun r h => ⟨f87 h.1, h.2⟩
  unfold t87
  obtain ⟨m1, e1, o1⟩ := sz72 x.2.2.2.1 n hx.2.2.2.1 hn
  rw [e1, Option.bind_some]
  by_cases g1 : m1 < 0
  · exact ⟨-1, by rw [if_pos (by simpa using g1)], .inl (by omega)⟩
  rw [if_neg (by simpa using g1)]
  replace o1 := o1.resolve_left g1
  obtain ⟨m2, e2, o2⟩ := sz75 x.2.2.2.2 m1 hx.2.2.2.2 (show (0 : Int) ≤ m1 ∧ m1 ≤ 68719476736 by omega)
  rw [e2, Option.bind_some]
  by_cases g2 : m2 < 0
  · exact ⟨-1, by rw [if_pos (by simpa using g2)], .inl (by omega)⟩
  rw [if_neg (by simpa using g2)]
  replace o2 := o2.resolve_left g2
  exact ⟨m2, rfl, .inr ⟨⟨trivial, ⟨trivial, ⟨trivial, ⟨o1.1, o2.1⟩⟩⟩⟩, by omega⟩⟩
theorem sz57 : SzOk (.pair (.int .i64) (.pair (.int .i64) (.pair .bool (.pair .bool (.pair .bool (.pair .bool (.pair (.slice (.int .i64)) (.pair (.slice (.pair .str (.pair .str (.int .i64)))) (.pair (.int .i64) (.pair (.int .i64) (.pair (.int .i64) (.pair (.int .i64) (.pair (.pair .str (.pair .str (.int .i64))) (.slice (.int .i64))))))))))))))) F57 := fun x n hx hn => by
  suffices h : ∃ r, t57 F28 F75 F87 x n = some r ∧ (r < 0 ∨ (Kd.small (.pair (.int .i64) (.pair (.int .i64) (.pair .bool (.pair .bool (.pair .bool (.pair .bool (.pair (.slice (.int .i64)) (.pair (.slice (.pair .str (.pair .str (.int .i64)))) (.pair (.int .i64) (.pair (.int .i64) (.pair (.int .i64) (.pair (.int .i64) (.pair (.pair .str (.pair .str (.int .i64))) (.slice (.int .i64))))))))))))))) x ∧ 0 ≤ r ∧ r ≤ n)) from h.imp fun r h => ⟨f57 h.1, h.2⟩
  unfold t57
  obtain ⟨m1, e1, o1⟩ := sz75 x.2.2.2.2.2.2.1 n hx.2.2.2.2.2.2.1 hn
  rw [e1, Option.bind_some]
  by_cases g1 : m1 < 0
  · exact ⟨-1, by rw [if_pos (by simpa using g1)], .inl (by omega)⟩
  rw [if_neg (by simpa using g1)]
  replace o1 := o1.resolve_left g1
  obtain ⟨m2, e2, o2⟩ := sz28 x.2.2.2.2.2.2.2.1 m1 hx.2.2.2.2.2.2.2.1 (show (0 : Int) ≤ m1 ∧ m1 ≤ 68719476736 by omega)
  rw [e2, Option.bind_some]
  by_cases g2 : m2 < 0
  · exact ⟨-1, by rw [if_pos (by simpa using g2)], .inl (by omega)⟩
  rw [if_neg (by simpa using g2)]
  replace o2 := o2.resolve_left g2
  obtain ⟨m3, e3, o3⟩ := sz87 x.2.2.2.2.2.2.2.2.2 m2 hx.2.2.2.2.2.2.2.2.2 (show (0 : Int) ≤ m2 ∧ m2 ≤ 68719476736 by omega)
  rw [e3, Option.bind_some]
  by_cases g3 : m3 < 0
  · exact ⟨-1, by rw [if_pos (by simpa using g3)], .inl (by omega)⟩
  rw [if_neg (by simpa using g3)]
  replace o3 := o3.resolve_left g3
  exact ⟨m3, rfl, .inr ⟨⟨trivial, ⟨trivial, ⟨trivial, ⟨trivial, ⟨trivial, ⟨trivial, ⟨o1.1, ⟨o2.1, ⟨trivial, o3.1⟩⟩⟩⟩⟩⟩⟩⟩⟩, by omega⟩⟩
theorem to90 : ToOk (.pair (.int .i64) (.pair (.int .i64) (.pair (.int .i64) (.pair (.pair .str (.pair .str (.int .i64))) (.slice (.int .i64)))))) F90 := fun x hx => f90 (by
  unfold t90
  simp [to73 x.2.2.2.1 hx.2.2.2.1, to77 x.2.2.2.2 hx.2.2.2.2, eqK])
theorem to59 : ToOk (.pair (.int .i64) (.pair (.int .i64) (.pair .bool (.pair .bool (.pair .bool (.pair .bool (.pair (.slice (.int .i64)) (.pair (.slice (.pair .str (.pair .str (.int .i64)))) (.pair (.int .i64) (.pair (.int .i64) (.pair (.int .i64) (.pair (.int .i64) (.pair (.pair .str (.pair .str (.int .i64))) (.slice (.int .i64))))))))))))))) F59 := fun x hx => f59 (by
  unfold t59
  simp [to77 x.2.2.2.2.2.2.1 hx.2.2.2.2.2.2.1, to30 x.2.2.2.2.2.2.2.1 hx.2.2.2.2.2.2.2.1, to90 x.2.2.2.2.2.2.2.2.2 hx.2.2.2.2.2.2.2.2.2, eqK])
theorem eq93 : EqOk (.pair (.int .i64) (.pair (.int .i64) (.pair (.int .i64) (.pair (.pair .str (.pair .str (.int .i64))) (.slice (.int .i64)))))) F93 := fun x hx => f93 (by
  unfold t93
  simp [eq32 x.2.2.2.1 hx.2.2.2.1, eq79 x.2.2.2.2 hx.2.2.2.2, eqK])
theorem eq61 : EqOk (.pair (.int .i64) (.pair (.int .i64) (.pair .bool (.pair .bool (.pair .bool (.pair .bool (.pair (.slice (.int .i64)) (.pair (.slice (.pair .str (.pair .str (.int .i64)))) (.pair (.int .i64) (.pair (.int .i64) (.pair (.int .i64) (.pair (.int .i64) (.pair (.pair .str (.pair .str (.int .i64))) (.slice (.int .i64))))))))))))))) F61 := fun x hx => f61 (by
  unfold t61
  simp [eq79 x.2.2.2.2.2.2.1 hx.2.2.2.2.2.2.1, eq33 x.2.2.2.2.2.2.2.1 hx.2.2.2.2.2.2.2.1, eq93 x.2.2.2.2.2.2.2.2.2 hx.2.2.2.2.2.2.2.2.2, eqK])
theorem sz114 : SzOk (.pair (.int .i64) (.pair (.int .i64) .str)) F114 := fun x n hx hn => by
  suffices h : ∃ r, t114  x n = some r ∧ (r < 0 ∨ (Kd.small (.pair (.int .i64) (.pair (.int .i64) .str)) x ∧ 0 ≤ r ∧ r ≤ n)) from h.imp fun r h => ⟨f114 h.1, h.2⟩
  unfold t114
  obtain ⟨m1, e1, o1⟩ := sz_left (show x.2.2.size ≤ maxLen from hx.2.2) hn
  rw [e1]
  by_cases g1 : m1 < 0
  · exact ⟨-1, by rw [if_pos (by simpa using g1)], .inl (by omega)⟩
  rw [if_neg (by simpa using g1)]
  replace o1 := o1.resolve_left g1
  exact ⟨m1, rfl, .inr ⟨⟨trivial, ⟨trivial, trivial⟩⟩, by omega⟩⟩
theorem sz94 : SzOk (.slice (.pair (.int .i64) (.pair (.int .i64) .str))) F94 := fun x n hx hn => by
  obtain ⟨r, hr, ho⟩ := sz_list sz114 hx (L := fun n i => W94_L0 x n i) (fun n i r h => w94_L0 h) n hn
  exact ⟨r, f94 hr, ho⟩
theorem sz116 : SzOk (.pair (.int .i64) (.pair (.int .i64) (.pair (.int .i64) (.pair (.int .i64) (.pair (.int .i64) .str))))) F116 := fun x n hx hn => by
  suffices h : ∃ r, t116  x n = some r ∧ (r < 0 ∨ (Kd.small (.pair (.int .i64) (.pair (.int .i64) (.pair (.int .i64) (.pair (.int .i64) (.pair (.int .i64) .str))))) x ∧ 0 ≤ r ∧ r ≤ n)) from h.imp fun r h => ⟨f116 h.1, h.2⟩
  unfold t116
  obtain ⟨m1, e1, o1⟩ := sz_left (show x.2.2.2.2.2.size ≤ maxLen from hx.2.2.2.2.2) hn
  rw [e1]
  by_cases g1 : m1 < 0
  · exact ⟨-1, by rw [if_pos (by simpa using g1)], .inl (by omega)⟩
  rw [if_neg (by simpa using g1)]
  replace o1 := o1.resolve_left g1
  exact ⟨m1, rfl, .inr ⟨⟨trivial, ⟨trivial, ⟨trivial, ⟨trivial, ⟨trivial, trivial⟩⟩⟩⟩⟩, by omega⟩⟩
theorem sz96 : SzOk (.slice (.pair (.int .i64) (.pair (.int .i64) (.pair (.int .i64) (.pair (.int .i64) (.pair (.int .i64) .str)))))) F96 := fun x n hx hn => by
  obtain ⟨r, hr, ho⟩ := sz_list sz116 hx (L := fun n i => W96_L0 x n i) (fun n i r h => w96_L0 h) n hn
  exact ⟨r, f96 hr, ho⟩
theorem sz115 : SzOk (.pair (.int .i64) (.pair (.int .i64) (.pair .str (.pair (.slice (.pair (.int .i64) (.pair (.int .i64) (.pair (.int .i64) (.pair (.int .i64) (.pair (.int .i64) .str)))))) (.pair .bool (.pair (.slice (.int .i64)) .bool)))))) F115 := fun x n hx hn => by
  suffices h : ∃ r, t115 F75 F96 x n = some r ∧ (r < 0 ∨ (Kd.small (.pair (.int .i64) (.pair (.int .i64) (.pair .str (.pair (.slice (.pair (.int .i64) (.pair (.int .i64) (.pair (.int .i64) (.pair (.int .i64) (.pair (.int .i64) .str)))))) (.pair .bool (.pair (.slice (.int .i64)) .bool)))))) x ∧ 0 ≤ r ∧ r ≤ n)) from h.imp fun r h => ⟨f115 h.1, h.2⟩
  unfold t115
  obtain ⟨m1, e1, o1⟩ := sz_left (show x.2.2.1.size ≤ maxLen from hx.2.2.1) hn
  rw [e1]
  by_cases g1 : m1 < 0
  · exact ⟨-1, by rw [if_pos (by simpa using g1)], .inl (by omega)⟩
  rw [if_neg (by simpa using g1)]
  replace o1 := o1.resolve_left g1
  obtain ⟨m2, e2, o2⟩ := sz96 x.2.2.2.1 m1 hx.2.2.2.1 (show (0 : Int) ≤ m1 ∧ m1 ≤ 68719476736 by omega)
  rw [e2, Option.bind_some]
  by_cases g2 : m2 < 0
  · exact ⟨-1, by rw [if_pos (by simpa using g2)], .inl (by omega)⟩
  rw [if_neg (by simpa using g2)]
  replace o2 := o2.resolve_left g2
  obtain ⟨m3, e3, o3⟩ := sz75 x.2.2.2.2.2.1 m2 hx.2.2.2.2.2.1 (show (0 : Int) ≤ m2 ∧ m2 ≤ 68719476736 by omega)
  rw [e3, Option.bind_some]
  by_cases g3 : m3 < 0
  · exact ⟨-1, by rw [if_pos (by simpa using g3)], .inl (by omega)⟩
  rw [if_neg (by simpa using g3)]
  replace o3 := o3.resolve_left g3
  exact ⟨m3, rfl, .inr ⟨⟨trivial, ⟨trivial, ⟨trivial, ⟨o2.1, ⟨trivial, ⟨o3.1, trivial⟩⟩⟩⟩⟩⟩, by omega⟩⟩
theorem sz95 : SzOk (.slice (.pair (.int .i64) (.pair (.int .i64) (.pair .str (.pair (.slice (.pair (.int .i64) (.pair (.int .i64) (.pair (.int .i64) (.pair (.int .i64) (.pair (.int .i64) .str)))))) (.pair .bool (.pair (.slice (.int .i64)) .bool))))))) F95 := fun x n hx hn => by
  obtain ⟨r, hr, ho⟩ := sz_list sz115 hx (L := fun n i => W95_L0 x n i) (fun n i r h => w95_L0 h) n hn
  exact ⟨r, f95 hr, ho⟩
theorem sz97 : SzOk (.slice .str) F97 := fun x n hx hn => by
  obtain ⟨r, hr, ho⟩ := sz_strs hx (L := fun n i => W97_L0 x n i) (fun n i r h => w97_L0 h) n hn
  exact ⟨r, f97 hr, ho⟩
theorem sz62 : SzOk (.pair (.slice (.pair (.int .i64) (.pair (.int .i64) .str))) (.pair (.slice (.pair (.int .i64) (.pair (.int .i64) (.pair .str (.pair (.slice (.pair (.int .i64) (.pair (.int .i64) (.pair (.int .i64) (.pair (.int .i64) (.pair (.int .i64) .str)))))) (.pair .bool (.pair (.slice (.int .i64)) .bool))))))) (.pair (.slice (.pair (.int .i64) (.pair (.int .i64) (.pair (.int .i64) (.pair (.int .i64) (.pair (.int .i64) .str)))))) (.slice .str)))) F62 := fun x n hx hn => by
  suffices h : ∃ r, t62 F94 F95 F96 F97 x n = some r ∧ (r < 0 ∨ (Kd.small (.pair (.slice (.pair (.int .i64) (.pair (.int .i64) .str))) (.pair (.slice (.pair (.int .i64) (.pair (.int .i64) (.pair .str (.pair (.slice (.pair (.int .i64) (.pair (.int .i64) (.pair (.int .i64) (.pair (.int .i64) (.pair (.int .i64) .str)))))) (.pair .bool (.pair (.slice (.int .i64)) .bool))))))) (.pair (.slice (.pair (.int .i64) (.pair (.int .i64) (.pair (.int .i64) (.pair (.int .i64) (.pair (.int .i64) .str)))))) (.slice .str)))) x ∧ 0 ≤ r ∧ r ≤ n)) from h.imp fun r h => ⟨f62 h.1, h.2⟩
  unfold t62
  obtain ⟨m1, e1, o1⟩ := sz94 x.1 n hx.1 hn
  rw [e1, Option.bind_some]
  by_cases g1 : m1 < 0
  · exact ⟨-1, by rw [if_pos (by simpa using g1)], .inl (by omega)⟩
  rw [if_neg (by simpa using g1)]
  replace o1 := o1.resolve_left g1
  obtain ⟨m2, e2, o2⟩ := sz95 x.2.1 m1 hx.2.1 (show (0 : Int) ≤ m1 ∧ m1 ≤ 68719476736 by omega)
  rw [e2, Option.bind_some]
  by_cases g2 : m2 < 0
  · exact ⟨-1, by rw [if_pos (by simpa using g2)], .inl (by omega)⟩
  rw [if_neg (by simpa using g2)]
  replace o2 := o2.resolve_left g2
  obtain ⟨m3, e3, o3⟩ := sz96 x.2.2.1 m2 hx.2.2.1 (show (0 : Int) ≤ m2 ∧ m2 ≤ 68719476736 by omega)
  rw [e3, Option.bind_some]
  by_cases g3 : m3 < 0
  · exact ⟨-1, by rw [if_pos (by simpa using g3)], .inl (by omega)⟩
  rw [if_neg (by simpa using g3)]
  replace o3 := o3.resolve_left g3
  obtain ⟨m4, e4, o4⟩ := sz97 x.2.2.2 m3 hx.2.2.2 (show (0 : Int) ≤ m3 ∧ m3 ≤ 68719476736 by omega)
  rw [e4, Option.bind_some]
  by_cases g4 : m4 < 0
  · exact ⟨-1, by rw [if_pos (by simpa using g4)], .inl (by omega)⟩
  rw [if_neg (by simpa using g4)]
  replace o4 := o4.resolve_left g4
  exact ⟨m4, rfl, .inr ⟨⟨o1.1, ⟨o2.1, ⟨o3.1, o4.1⟩⟩⟩, by omega⟩⟩
theorem to117 : ToOk (.pair (.int .i64) (.pair (.int .i64) .str)) F117 := fun x hx => f117 (by
  unfold t117
  simp [eqK])
theorem to98 : ToOk (.slice (.pair (.int .i64) (.pair (.int .i64) .str))) F98 := fun x hx => f98 (to_list to117 hx (L := fun i z => W98_L0 x i z) (fun i z r h => w98_L0 h))
theorem to119 : ToOk (.pair (.int .i64) (.pair (.int .i64) (.pair (.int .i64) (.pair (.int .i64) (.pair (.int .i64) .str))))) F119 := fun x hx => f119 (by
  unfold t119
  simp [eqK])
theorem to100 : ToOk (.slice (.pair (.int .i64) (.pair (.int .i64) (.pair (.int .i64) (.pair (.int .i64) (.pair (.int .i64) .str)))))) F100 := fun x hx => f100 (to_list to119 hx (L := fun i z => W100_L0 x i z) (fun i z r h => w100_L0 h))
theorem to118 : ToOk (.pair (.int .i64) (.pair (.int .i64) (.pair .str (.pair (.slice (.pair (.int .i64) (.pair (.int .i64) (.pair (.int .i64) (.pair (.int .i64) (.pair (.int .i64) .str)))))) (.pair .bool (.pair (.slice (.int .i64)) .bool)))))) F118 := fun x hx => f118 (by
  unfold t118
  simp [to100 x.2.2.2.1 hx.2.2.2.1, to77 x.2.2.2.2.2.1 hx.2.2.2.2.2.1, eqK])
theorem to99 : ToOk (.slice (.pair (.int .i64) (.pair (.int .i64) (.pair .str (.pair (.slice (.pair (.int .i64) (.pair (.int .i64) (.pair (.int .i64) (.pair (.int .i64) (.pair (.int .i64) .str)))))) (.pair .bool (.pair (.slice (.int .i64)) .bool))))))) F99 := fun x hx => f99 (to_list to118 hx (L := fun i z => W99_L0 x i z) (fun i z r h => w99_L0 h))
theorem to101 : ToOk (.slice .str) F101 := fun x hx => f101 (to_flat hx.1 (L := fun i z => W101_L0 x i z) (fun i z r h => w101_L0 h))
theorem to64 : ToOk (.pair (.slice (.pair (.int .i64) (.pair (.int .i64) .str))) (.pair (.slice (.pair (.int .i64) (.pair (.int .i64) (.pair .str (.pair (.slice (.pair (.int .i64) (.pair (.int .i64) (.pair (.int .i64) (.pair (.int .i64) (.pair (.int .i64) .str)))))) (.pair .bool (.pair (.slice (.int .i64)) .bool))))))) (.pair (.slice (.pair (.int .i64) (.pair (.int .i64) (.pair (.int .i64) (.pair (.int .i64) (.pair (.int .i64) .str)))))) (.slice .str)))) F64 := fun x hx => f64 (by
  unfold t64
  simp [to98 x.1 hx.1, to99 x.2.1 hx.2.1, to100 x.2.2.1 hx.2.2.1, to101 x.2.2.2 hx.2.2.2, eqK])
theorem eq120 : EqOk (.pair (.int .i64) (.pair (.int .i64) .str)) F120 := fun x hx => f120 (by
  unfold t120
  simp [eqK])
theorem eq102 : EqOk (.slice (.pair (.int .i64) (.pair (.int .i64) .str))) F102 := fun x hx => f102 (eq_list eq120 hx (L := fun i => W102_L0 x x i) (fun i r h => w102_L0 h))
theorem eq122 : EqOk (.pair (.int .i64) (.pair (.int .i64) (.pair (.int .i64) (.pair (.int .i64) (.pair (.int .i64) .str))))) F122 := fun x hx => f122 (by
  unfold t122
  simp [eqK])
theorem eq104 : EqOk (.slice (.pair (.int .i64) (.pair (.int .i64) (.pair (.int .i64) (.pair (.int .i64) (.pair (.int .i64) .str)))))) F104 := fun x hx => f104 (eq_list eq122 hx (L := fun i => W104_L0 x x i) (fun i r h => w104_L0 h))
theorem eq121 : EqOk (.pair (.int .i64) (.pair (.int .i64) (.pair .str (.pair (.slice (.pair (.int .i64) (.pair (.int .i64) (.pair (.int .i64) (.pair (.int .i64) (.pair (.int .i64) .str)))))) (.pair .bool (.pair (.slice (.int .i64)) .bool)))))) F121 := fun x hx => f121 (by
  unfold t121
  simp [eq104 x.2.2.2.1 hx.2.2.2.1, eq79 x.2.2.2.2.2.1 hx.2.2.2.2.2.1, eqK])
theorem eq103 : EqOk (.slice (.pair (.int .i64) (.pair (.int .i64) (.pair .str (.pair (.slice (.pair (.int .i64) (.pair (.int .i64) (.pair (.int .i64) (.pair (.int .i64) (.pair (.int .i64) .str)))))) (.pair .bool (.pair (.slice (.int .i64)) .bool))))))) F103 := fun x hx => f103 (eq_list eq121 hx (L := fun i => W103_L0 x x i) (fun i r h => w103_L0 h))
theorem eq105 : EqOk (.slice .str) F105 := fun x hx => f105 (eq_flat (c := fun a b : ByteArray => !(a.toList == b.toList)) (fun a => by simp [eqK]) hx.1 (L := fun i => W105_L0 x x i) (fun i r h => w105_L0 h))
theorem eq65 : EqOk (.pair (.slice (.pair (.int .i64) (.pair (.int .i64) .str))) (.pair (.slice (.pair (.int .i64) (.pair (.int .i64) (.pair .str (.pair (.slice (.pair (.int .i64) (.pair (.int .i64) (.pair (.int .i64) (.pair (.int .i64) (.pair (.int .i64) .str)))))) (.pair .bool (.pair (.slice (.int .i64)) .bool))))))) (.pair (.slice (.pair (.int .i64) (.pair (.int .i64) (.pair (.int .i64) (.pair (.int .i64) (.pair (.int .i64) .str)))))) (.slice .str)))) F65 := fun x hx => f65 (by
  unfold t65
  simp [eq102 x.1 hx.1, eq103 x.2.1 hx.2.1, eq104 x.2.2.1 hx.2.2.1, eq105 x.2.2.2 hx.2.2.2, eqK])

end Go.Proofs.Ytlegaocnobapgaa.Core
