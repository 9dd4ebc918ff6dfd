/- What is drawn from bytes: there is always an answer, and in its bounds. -/
import Derived.Test.YtnbfkndicldppaaStamp
namespace Go.Proofs.Ytnbfkndicldppaa.Core
open Go
set_option linter.unusedVariables false

abbrev TDraw : Type := List Int × Int × Int
/-- A place in the bytes that are drawn from. -/
def dOk (d : TDraw) : Prop := 0 ≤ d.2.1 ∧ d.1.length ≤ maxLen

theorem bitsAnd_255 (a : Int) : 0 ≤ bitsAnd .i64 a 255 ∧ bitsAnd .i64 a 255 ≤ 255 := by
  unfold bitsAnd
  have h : (BitVec.ofInt (IntKind.bits .i64) a &&& BitVec.ofInt (IntKind.bits .i64) 255).toNat ≤ 255 := by
    rw [BitVec.toNat_and]
    refine Nat.le_trans Nat.and_le_right ?_
    decide
  rw [wrap_id (by omega)]
  omega

theorem F_spec_l01Byte_ok (d : TDraw) (h : dOk d) : ∃ b d', F_spec_l01Byte d = some (b, d') ∧ dOk d' ∧ 0 ≤ b ∧ b ≤ 255 := by
  have hm : d.1.length ≤ 9223372036854775807 := h.2
  have hp := h.1
  suffices g : ∃ b d', t_spec_l01Byte d = some (b, d') ∧ dOk d' ∧ 0 ≤ b ∧ b ≤ 255 from g.imp fun b g => g.imp fun d' g => ⟨f_spec_l01Byte g.1, g.2⟩
  unfold t_spec_l01Byte
  rw [if_neg (by omega), if_neg (by omega)]
  by_cases h1 : d.2.1 < (d.1.length : Int)
  · rw [if_pos (by simpa using h1), if_pos hp, if_pos h1]
    refine ⟨_, _, rfl, ⟨?_, h.2⟩, bitsAnd_255 _⟩
    show 0 ≤ IntKind.i64.wrap (d.2.1 + 1)
    rw [wrap_id (by omega)]
    omega
  · rw [if_neg (by simpa using h1)]
    exact ⟨_, _, rfl, h, bitsAnd_255 _⟩

theorem F_spec_l01Below_ok (n : Int) (d : TDraw) (h : dOk d) : ∃ v d', F_spec_l01Below n d = some (v, d') ∧ dOk d' ∧ 0 ≤ v ∧ (0 < n → v < n) := by
  suffices g : ∃ b d', t_spec_l01Below F_spec_l01Byte n d = some (b, d') ∧ dOk d' ∧ 0 ≤ b ∧ (0 < n → b < n) from g.imp fun b g => g.imp fun d' g => ⟨f_spec_l01Below g.1, g.2⟩
  unfold t_spec_l01Below
  by_cases h1 : n ≤ 0
  · exact ⟨0, d, by rw [if_pos (by simpa using h1)], h, by omega, by omega⟩
  · rw [if_neg (by simpa using h1)]
    by_cases h2 : n ≤ 256
    · obtain ⟨b, d1, e1, k1, b0, b1⟩ := F_spec_l01Byte_ok d h
      refine ⟨_, _, by rw [if_pos (by simpa using h2), e1, Option.bind_some, if_neg (by omega)], k1, Int.tmod_nonneg _ b0, fun _ => Int.tmod_lt_of_pos _ (by omega)⟩
    · obtain ⟨b1, d1, e1, k1, b10, b11⟩ := F_spec_l01Byte_ok d h
      obtain ⟨b2, d2, e2, k2, b20, b21⟩ := F_spec_l01Byte_ok d1 k1
      obtain ⟨b3, d3, e3, k3, b30, b31⟩ := F_spec_l01Byte_ok d2 k2
      obtain ⟨b4, d4, e4, k4, b40, b41⟩ := F_spec_l01Byte_ok d3 k3
      refine ⟨_, _, by rw [if_neg (by simpa using h2), e1, Option.bind_some, e2, Option.bind_some, e3, Option.bind_some, e4, Option.bind_some, if_neg (by omega)], k4, Int.tmod_nonneg _ ?_, fun _ => Int.tmod_lt_of_pos _ (by omega)⟩
      rw [wrap_id (n := b1 * 16777216) (by omega), wrap_id (n := b2 * 65536) (by omega), wrap_id (n := b3 * 256) (by omega), wrap_id (n := b1 * 16777216 + b2 * 65536) (by omega), wrap_id (n := b1 * 16777216 + b2 * 65536 + b3 * 256) (by omega), wrap_id (by omega)]
      omega

theorem F_spec_l01New_ok (x : List Int) (h : x.length ≤ maxLen) : ∃ d, F_spec_l01New x = some d ∧ dOk d := by
  have hm : x.length ≤ 9223372036854775807 := h
  have key := down (n := x.length) (P := fun i => ∀ a, ∃ d, W_spec_l01New_L0 x a (i : Int) = some d ∧ dOk d) (fun a => ⟨(x, 0, a), w_spec_l01New_L0 (by
    unfold t_spec_l01New_L0
    rw [if_neg (by simp)]), ⟨Int.le_refl _, h⟩⟩) (fun i hi ih a => by
    by_cases h4 : (i : Int) < 4000
    · obtain ⟨d, e, k⟩ := ih (bitsAnd .i64 (IntKind.i64.wrap ((IntKind.i64.wrap ((IntKind.i64.wrap (a * (131 : Int))) + (IntKind.i64.wrap (x.getD (i : Int).toNat (0 : Int))))) + (7 : Int))) (1073741823 : Int))
      refine ⟨d, w_spec_l01New_L0 ?_, k⟩
      unfold t_spec_l01New_L0
      rw [if_pos (by simpa using hi), if_pos (by simpa using h4)]
      refine w_spec_l01New_J1 ?_
      unfold t_spec_l01New_J1
      rw [if_pos (by omega), if_pos (by omega), wrap_succ (show i < 9223372036854775807 by omega)]
      exact e
    · refine ⟨(x, 0, a), w_spec_l01New_L0 ?_, ⟨Int.le_refl _, h⟩⟩
      unfold t_spec_l01New_L0
      rw [if_pos (by simpa using hi), if_neg (by simpa using h4)]) 0 (by omega)
  obtain ⟨d, e, k⟩ := key (IntKind.i64.wrap ((14301 : Int) + (x.length : Int)))
  exact ⟨d, f_spec_l01New e, k⟩

end Go.Proofs.Ytnbfkndicldppaa.Core
