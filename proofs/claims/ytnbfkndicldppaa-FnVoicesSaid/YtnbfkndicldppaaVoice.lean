/- Voices: what a voice that hears a note comes to; notes that are drawn. -/
import Derived.Test.YtnbfkndicldppaaDrawn
namespace Go.Proofs.Ytnbfkndicldppaa.Core
open Go
set_option linter.unusedVariables false
set_option linter.unusedSimpArgs false

abbrev TVoice : Type := Int × Int × ByteArray
abbrev TNote : Type := Int × Int × Int × Int × Int × ByteArray
def noNote : TNote := ((0 : Int), (0 : Int), (0 : Int), (0 : Int), (0 : Int), ByteArray.empty)
def voiceOk (v : TVoice) : Bool := (decide (0 ≤ v.1) && decide (v.1 ≤ 10000)) && (decide (0 ≤ v.2.1) && decide (v.2.1 ≤ v.1)) && decide ((v.2.2.size : Int) ≤ 40) && (decide (v.2.1 > 0) || v.2.2.toList == (⟨#[]⟩ : ByteArray).toList)
def hearNote (v : TVoice) (m : TNote) : TVoice × TNote × Bool :=
  if voiceOk v = true ∧ (1 ≤ m.2.2.2.1 ∧ m.2.2.2.1 ≤ 10000) ∧ (m.2.2.2.2.2.size : Int) ≤ 40 then
    if m.1 = 1 ∧ m.2.2.2.1 > v.1 then ((m.2.2.2.1, v.2), (2, m.2.2.1, m.2.1, m.2.2.2.1, v.2), true)
    else if m.1 = 3 ∧ m.2.2.2.1 ≥ v.1 then ((m.2.2.2.1, m.2.2.2.1, m.2.2.2.2.2), (4, m.2.2.1, m.2.1, m.2.2.2.1, 0, m.2.2.2.2.2), true)
    else (v, noNote, false)
  else (v, noNote, false)

theorem F_spec_VoiceOk_eq (v : TVoice) : F_spec_VoiceOk v = some (voiceOk v) := f_spec_VoiceOk (by
  unfold t_spec_VoiceOk voiceOk
  simp only [F_spec_l01In_eq, Option.bind_some]
  generalize (decide (0 ≤ v.1) && decide (v.1 ≤ 10000)) = a
  generalize (decide (0 ≤ v.2.1) && decide (v.2.1 ≤ v.1)) = b
  generalize decide ((v.2.2.size : Int) ≤ 40) = c
  generalize decide (v.2.1 > 0) = d
  generalize (v.2.2.toList == (⟨#[]⟩ : ByteArray).toList) = e
  cases a <;> cases b <;> cases c <;> cases d <;> simp)
theorem F_impl_VoiceOk_eq (v : TVoice) : F_impl_VoiceOk v = some (voiceOk v) := f_impl_VoiceOk (by
  have h0 : ∀ b, W_impl_VoiceOk_J0 b v = some (decide (v.2.1 > 0) || v.2.2.toList == (⟨#[]⟩ : ByteArray).toList) := fun b => w_impl_VoiceOk_J0 (by
    unfold t_impl_VoiceOk_J0
    cases decide (v.2.1 > 0) <;> simp)
  unfold t_impl_VoiceOk voiceOk
  simp only [F_impl_inRange_eq, Option.bind_some, h0]
  have e : decide ((v.2.2.size : Int) > 40) = !decide ((v.2.2.size : Int) ≤ 40) := by
    by_cases h : (v.2.2.size : Int) ≤ 40 <;> simp [h]
    omega
  rw [e]
  generalize (decide (0 ≤ v.1) && decide (v.1 ≤ 10000)) = a
  generalize (decide (0 ≤ v.2.1) && decide (v.2.1 ≤ v.1)) = b
  generalize decide ((v.2.2.size : Int) ≤ 40) = c
  generalize (decide (v.2.1 > 0) || v.2.2.toList == (⟨#[]⟩ : ByteArray).toList) = d
  cases a <;> cases b <;> cases c <;> simp)

theorem F_impl_HearNote_eq (v : TVoice) (m : TNote) : F_impl_HearNote v m = some (hearNote v m) := f_impl_HearNote (by
  have h2 : ∀ b a1 a2 a3, W_impl_HearNote_J2 b v m a1 a2 a3 = some (if b = true then ((m.2.2.2.1, m.2.2.2.1, m.2.2.2.2.2), (4, a3.2.1, a3.2.2.1, a3.2.2.2.1, a3.2.2.2.2.1, m.2.2.2.2.2), true) else (v, noNote, false)) := fun b a1 a2 a3 => w_impl_HearNote_J2 (by
    unfold t_impl_HearNote_J2
    cases b <;> rfl)
  have h1 : ∀ b a1 a2 a3, W_impl_HearNote_J1 b v m a1 a2 a3 = some (if b = true then ((m.2.2.2.1, v.2), (2, a3.2.1, a3.2.2.1, a3.2.2.2.1, v.2), true) else if m.1 = 3 ∧ m.2.2.2.1 ≥ v.1 then ((m.2.2.2.1, m.2.2.2.1, m.2.2.2.2.2), (4, a3.2.1, a3.2.2.1, a3.2.2.2.1, a3.2.2.2.2.1, m.2.2.2.2.2), true) else (v, noNote, false)) := fun b a1 a2 a3 => w_impl_HearNote_J1 (by
    unfold t_impl_HearNote_J1
    simp only [h2]
    by_cases e1 : m.1 = 3 <;> by_cases e2 : m.2.2.2.1 ≥ v.1 <;> cases b <;> simp [e1, e2])
  have h0 : ∀ b a1 a2, W_impl_HearNote_J0 b v m a1 a2 = some (if m.1 = 1 ∧ m.2.2.2.1 > v.1 then ((m.2.2.2.1, v.2), (2, m.2.2.1, m.2.1, m.2.2.2.1, v.2), true) else if m.1 = 3 ∧ m.2.2.2.1 ≥ v.1 then ((m.2.2.2.1, m.2.2.2.1, m.2.2.2.2.2), (4, m.2.2.1, m.2.1, m.2.2.2.1, 0, m.2.2.2.2.2), true) else (v, noNote, false)) := fun b a1 a2 => w_impl_HearNote_J0 (by
    unfold t_impl_HearNote_J0
    simp only [h1]
    by_cases e1 : m.1 = 1 <;> by_cases e2 : m.2.2.2.1 > v.1 <;> simp [e1, e2])
  unfold t_impl_HearNote hearNote
  simp only [F_impl_inRange_eq, F_impl_VoiceOk_eq, Option.bind_some, h0]
  by_cases e1 : 1 ≤ m.2.2.2.1 ∧ m.2.2.2.1 ≤ 10000
  · by_cases e2 : (m.2.2.2.2.2.size : Int) ≤ 40
    · cases e3 : voiceOk v <;> simp [e1.1, e1.2, e2, noNote]
    · have e2' : (m.2.2.2.2.2.size : Int) > 40 := by omega
      simp [e1.1, e1.2, e2, e2', noNote]
  · rw [if_neg (by rw [← Bool.decide_and, decide_eq_false e1]; simp), if_neg (fun h => e1 h.2.1)]
    rfl)

theorem F_spec_HearNote_eq (v : TVoice) (m : TNote) : F_spec_HearNote v m = some (hearNote v m) := f_spec_HearNote (by
  have h3 : ∀ b a1 a2, W_spec_HearNote_J3 b v m a1 a2 = some (if b = true then ((m.2.2.2.1, m.2.2.2.1, m.2.2.2.2.2), (4, m.2.2.1, m.2.1, m.2.2.2.1, 0, m.2.2.2.2.2), true) else (v, noNote, false)) := fun b a1 a2 => w_spec_HearNote_J3 (by
    unfold t_spec_HearNote_J3
    cases b <;> rfl)
  have h2 : ∀ b a1 a2, W_spec_HearNote_J2 b v m a1 a2 = some (if m.1 = 3 ∧ m.2.2.2.1 ≥ v.1 then ((m.2.2.2.1, m.2.2.2.1, m.2.2.2.2.2), (4, m.2.2.1, m.2.1, m.2.2.2.1, 0, m.2.2.2.2.2), true) else (v, noNote, false)) := fun b a1 a2 => w_spec_HearNote_J2 (by
    unfold t_spec_HearNote_J2
    simp only [h3]
    by_cases e1 : m.1 = 3 <;> by_cases e2 : m.2.2.2.1 ≥ v.1 <;> simp [e1, e2])
  have h1 : ∀ b a1 a2, W_spec_HearNote_J1 b v m a1 a2 = some (if b = true then ((m.2.2.2.1, v.2), (2, m.2.2.1, m.2.1, m.2.2.2.1, v.2), true) else if m.1 = 3 ∧ m.2.2.2.1 ≥ v.1 then ((m.2.2.2.1, m.2.2.2.1, m.2.2.2.2.2), (4, m.2.2.1, m.2.1, m.2.2.2.1, 0, m.2.2.2.2.2), true) else (v, noNote, false)) := fun b a1 a2 => w_spec_HearNote_J1 (by
    unfold t_spec_HearNote_J1
    simp only [h2]
    cases b <;> simp)
  have h0 : ∀ b a1 a2, W_spec_HearNote_J0 b v m a1 a2 = some (if m.1 = 1 ∧ m.2.2.2.1 > v.1 then ((m.2.2.2.1, v.2), (2, m.2.2.1, m.2.1, m.2.2.2.1, v.2), true) else if m.1 = 3 ∧ m.2.2.2.1 ≥ v.1 then ((m.2.2.2.1, m.2.2.2.1, m.2.2.2.2.2), (4, m.2.2.1, m.2.1, m.2.2.2.1, 0, m.2.2.2.2.2), true) else (v, noNote, false)) := fun b a1 a2 => w_spec_HearNote_J0 (by
    unfold t_spec_HearNote_J0
    simp only [h1]
    by_cases e1 : m.1 = 1 <;> by_cases e2 : m.2.2.2.1 > v.1 <;> simp [e1, e2])
  unfold t_spec_HearNote hearNote
  simp only [F_spec_l01In_eq, F_spec_VoiceOk_eq, Option.bind_some, h0]
  by_cases e1 : 1 ≤ m.2.2.2.1 ∧ m.2.2.2.1 ≤ 10000
  · by_cases e2 : (m.2.2.2.2.2.size : Int) ≤ 40
    · have e2' : ¬ ((40 : Int) < (m.2.2.2.2.2.size : Int)) := by omega
      cases e3 : voiceOk v <;> simp [e1.1, e1.2, e2, e2', noNote]
    · have e2' : (m.2.2.2.2.2.size : Int) > 40 := by omega
      cases e3 : voiceOk v <;> simp [e1.1, e1.2, e2, e2', noNote]
  · have e4 : (decide (1 ≤ m.2.2.2.1) && decide (m.2.2.2.1 ≤ 10000)) = false := by rw [← Bool.decide_and, decide_eq_false e1]
    simp only [e1, e4]
    cases e3 : voiceOk v <;> simp [noNote])

theorem voiceOk_iff (v : TVoice) : voiceOk v = true ↔ (0 ≤ v.1 ∧ v.1 ≤ 10000) ∧ (0 ≤ v.2.1 ∧ v.2.1 ≤ v.1) ∧ (v.2.2.size : Int) ≤ 40 ∧ (v.2.1 > 0 ∨ v.2.2.toList = (⟨#[]⟩ : ByteArray).toList) := by
  simp only [voiceOk, Bool.and_eq_true, decide_eq_true_eq, Bool.or_eq_true, beq_iff_eq, and_assoc]

theorem hearNote_ok (v : TVoice) (m : TNote) (h : voiceOk v = true) : voiceOk (hearNote v m).1 = true ∧ v.1 ≤ (hearNote v m).1.1 ∧ v.2.1 ≤ (hearNote v m).1.2.1 := by
  obtain ⟨⟨a1, a2⟩, ⟨a3, a4⟩, a5, a6⟩ := (voiceOk_iff v).1 h
  unfold hearNote
  split
  · rename_i h1
    obtain ⟨_, ⟨h2, h2'⟩, h3⟩ := h1
    split
    · rename_i h4
      have h4 := h4.2
      refine ⟨(voiceOk_iff _).2 ⟨⟨?_, ?_⟩, ⟨?_, ?_⟩, a5, a6⟩, ?_, Int.le_refl _⟩ <;> simp only <;> omega
    · split
      · rename_i h4 h5
        have h5 := h5.2
        refine ⟨(voiceOk_iff _).2 ⟨⟨?_, ?_⟩, ⟨?_, ?_⟩, h3, .inl ?_⟩, ?_, ?_⟩ <;> simp only <;> omega
      · exact ⟨h, Int.le_refl _, Int.le_refl _⟩
  · exact ⟨h, Int.le_refl _, Int.le_refl _⟩

/- What is drawn. -/
theorem F_spec_l01Pick_ok (x : List ByteArray) (hx : 0 < x.length) (d : TDraw) (h : dOk d) : ∃ v d', F_spec_l01Pick x d = some (v, d') ∧ dOk d' ∧ v ∈ x := by
  obtain ⟨v, d', e, k, v0, v1⟩ := F_spec_l01Below_ok (x.length : Int) d h
  have v1 := v1 (by omega)
  have hv : v.toNat < x.length := by omega
  exact ⟨_, _, f_spec_l01Pick (by unfold t_spec_l01Pick; rw [e, Option.bind_some, if_pos v0, if_pos v1]), k, by rw [getD_at hv]; exact List.getElem_mem hv⟩

def fiveValues : List ByteArray := [(⟨#[120]⟩ : ByteArray), (⟨#[121]⟩ : ByteArray), (⟨#[122]⟩ : ByteArray), (⟨#[49, 44, 50]⟩ : ByteArray), (⟨#[50, 44, 51]⟩ : ByteArray)]
theorem F_spec_l11Value_ok (d : TDraw) (h : dOk d) : ∃ v d', F_spec_l11Value d = some (v, d') ∧ dOk d' ∧ v ∈ fiveValues := by
  obtain ⟨v, d', e, k, hv⟩ := F_spec_l01Pick_ok fiveValues (by decide) d h
  unfold fiveValues at e
  exact ⟨_, _, f_spec_l11Value (by unfold t_spec_l11Value; rw [e]; rfl), k, hv⟩

theorem F_spec_l01Long_ok (n x : Int) (h0 : 0 ≤ n) (h : n ≤ 68719476736) : ∃ s, F_spec_l01Long n x = some s ∧ (s.size : Int) = n := by
  obtain ⟨k, rfl⟩ := Int.eq_ofNat_of_zero_le h0
  have key := down (n := k) (P := fun i => ∀ z : List Int, z.length = k → ∃ s, W_spec_l01Long_L0 (k : Int) x (i : Int) z = some s ∧ (s.size : Int) = (k : Int)) (fun z hz => ⟨bytesOf z, w_spec_l01Long_L0 (by
    unfold t_spec_l01Long_L0
    rw [if_neg (by simp)]), by simp [bytesOf, ByteArray.size, hz]⟩) (fun i hi ih z hz => by
    obtain ⟨s, hs, hl⟩ := ih (z.set i x) (by simpa using hz)
    refine ⟨s, w_spec_l01Long_L0 ?_, hl⟩
    unfold t_spec_l01Long_L0
    rw [if_pos (by simpa using hi), if_pos (by omega), if_pos (by omega), wrap_succ (show i < 9223372036854775807 by omega)]
    simpa using hs) 0 (by omega)
  obtain ⟨s, hs, hl⟩ := key (List.replicate k 0) (by simp)
  exact ⟨s, f_spec_l01Long (by
    unfold t_spec_l01Long
    rw [if_pos (by omega), if_pos (by omega)]
    simpa using hs), hl⟩

theorem F_spec_l11Note_ok (d : TDraw) (h : dOk d) : ∃ v d', F_spec_l11Note d = some (v, d') ∧ dOk d' := by
  have h2 : ∀ (d : TDraw) (a b : TNote), dOk d → ∃ v d', W_spec_l11Note_J2 d a b = some (v, d') ∧ dOk d' := fun d a b h => by
    obtain ⟨x, d1, e1, k1, x0, x1⟩ := F_spec_l01Below_ok 20 d h
    by_cases c0 : x = 0
    · obtain ⟨y, d2, e2, k2, _⟩ := F_spec_l01PickInt_ok [0, 5] (by simp) d1 k1
      exact ⟨_, _, w_spec_l11Note_J2 (by unfold t_spec_l11Note_J2; rw [e1, Option.bind_some, if_pos (by simpa using c0), e2]; rfl), k2⟩
    · by_cases c1 : x = 1
      · obtain ⟨y, d2, e2, k2, _⟩ := F_spec_l01PickInt_ok [0, -1, 10000, 10001] (by simp) d1 k1
        exact ⟨_, _, w_spec_l11Note_J2 (by unfold t_spec_l11Note_J2; rw [e1, Option.bind_some, if_neg (by simpa using c0), if_pos (by simpa using c1), e2]; rfl), k2⟩
      · by_cases c2 : x = 2
        · obtain ⟨y, d2, e2, k2, y0, y1⟩ := F_spec_l01Below_ok 2 d1 k1
          have y1 := y1 (by omega)
          obtain ⟨s, e3, _⟩ := F_spec_l01Long_ok (40 + y) 65 (by omega) (by omega)
          exact ⟨_, _, w_spec_l11Note_J2 (by unfold t_spec_l11Note_J2; rw [e1, Option.bind_some, if_neg (by simpa using c0), if_neg (by simpa using c1), if_pos (by simpa using c2), e2, Option.bind_some, wrap_id (by omega), e3]; rfl), k2⟩
        · exact ⟨_, _, w_spec_l11Note_J2 (by unfold t_spec_l11Note_J2; rw [e1, Option.bind_some, if_neg (by simpa using c0), if_neg (by simpa using c1), if_neg (by simpa using c2)]), k1⟩
  have h1 : ∀ (q : Bool) (d : TDraw) (a b : TNote), dOk d → ∃ v d', W_spec_l11Note_J1 q d a b = some (v, d') ∧ dOk d' := fun q d a b h => by
    cases q
    · obtain ⟨v, d', e, k⟩ := h2 d a b h
      exact ⟨v, d', w_spec_l11Note_J1 (by unfold t_spec_l11Note_J1; rw [if_neg (by simp)]; exact e), k⟩
    · obtain ⟨x, d1, e1, k1, _⟩ := F_spec_l01Below_ok 20 d h
      obtain ⟨y, d2, e2, k2, _⟩ := F_spec_l11Value_ok d1 k1
      obtain ⟨v, d', e, k⟩ := h2 d2 a (b.1, b.2.1, b.2.2.1, b.2.2.2.1, IntKind.i64.wrap (1 + x), y) k2
      exact ⟨v, d', w_spec_l11Note_J1 (by unfold t_spec_l11Note_J1; rw [if_pos rfl, e1, Option.bind_some, e2, Option.bind_some]; exact e), k⟩
  have h0 : ∀ (d : TDraw) (a b : TNote), dOk d → ∃ v d', W_spec_l11Note_J0 d a b = some (v, d') ∧ dOk d' := fun d a b h => by
    by_cases c : b.1 = 2
    · obtain ⟨x, d1, e1, k1⟩ := F_spec_l01Once_ok 2 d h
      obtain ⟨v, d', e, k⟩ := h1 x d1 a b k1
      exact ⟨v, d', w_spec_l11Note_J0 (by unfold t_spec_l11Note_J0; rw [if_pos (by simpa using c), e1, Option.bind_some]; exact e), k⟩
    · obtain ⟨v, d', e, k⟩ := h1 false d a b h
      exact ⟨v, d', w_spec_l11Note_J0 (by unfold t_spec_l11Note_J0; rw [if_neg (by simpa using c)]; exact e), k⟩
  obtain ⟨x1, d1, e1, k1, _⟩ := F_spec_l01Below_ok 4 d h
  obtain ⟨x2, d2, e2, k2, _⟩ := F_spec_l01Below_ok 3 d1 k1
  obtain ⟨x3, d3, e3, k3, _⟩ := F_spec_l01Below_ok 3 d2 k2
  obtain ⟨x4, d4, e4, k4, _⟩ := F_spec_l01Below_ok 40 d3 k3
  by_cases c : IntKind.i64.wrap (1 + x1) ≥ 3
  · obtain ⟨y, d5, e5, k5, _⟩ := F_spec_l11Value_ok d4 k4
    obtain ⟨v, d', e, k⟩ := h0 d5 _ (IntKind.i64.wrap (1 + x1), IntKind.i64.wrap (1 + x2), IntKind.i64.wrap (1 + x3), IntKind.i64.wrap (1 + x4), 0, y) k5
    exact ⟨v, d', f_spec_l11Note (by unfold t_spec_l11Note; rw [e1, Option.bind_some, e2, Option.bind_some, e3, Option.bind_some, e4, Option.bind_some, if_pos (by simpa using c), e5, Option.bind_some]; exact e), k⟩
  · obtain ⟨v, d', e, k⟩ := h0 d4 _ (IntKind.i64.wrap (1 + x1), IntKind.i64.wrap (1 + x2), IntKind.i64.wrap (1 + x3), IntKind.i64.wrap (1 + x4), 0, ByteArray.empty) k4
    exact ⟨v, d', f_spec_l11Note (by unfold t_spec_l11Note; rw [e1, Option.bind_some, e2, Option.bind_some, e3, Option.bind_some, e4, Option.bind_some, if_neg (by simpa using c)]; exact e), k⟩

theorem F_spec_DrawNotes_ok (x : List Int) (h : x.length ≤ maxLen) : ∃ r, F_spec_DrawNotes x = some r ∧ r.length ≤ 14 := by
  obtain ⟨d, e, k⟩ := F_spec_l01New_ok x h
  have key := down (n := 14) (P := fun i => ∀ (d : TDraw) (z : List TNote), dOk d → z.length = i → ∃ r, W_spec_DrawNotes_L0 (i : Int) d z = some r ∧ r.length ≤ 14) (fun d z hd hz => by
    obtain ⟨v, d1, e1, k1, v0, v1⟩ := F_spec_l01Below_ok 14 d hd
    have v1 := v1 (by omega)
    exact ⟨z, w_spec_DrawNotes_L0 (by unfold t_spec_DrawNotes_L0; rw [e1, Option.bind_some, if_neg (by simp; omega)]), by omega⟩) (fun i hi ih d z hd hz => by
    obtain ⟨v, d1, e1, k1, v0, v1⟩ := F_spec_l01Below_ok 14 d hd
    by_cases c : (i : Int) < v
    · obtain ⟨n, d2, e2, k2⟩ := F_spec_l11Note_ok d1 k1
      obtain ⟨r, hr, hl⟩ := ih d2 (z ++ [n]) k2 (by simp [hz])
      exact ⟨r, w_spec_DrawNotes_L0 (by unfold t_spec_DrawNotes_L0; rw [e1, Option.bind_some, if_pos (by simpa using c), e2, Option.bind_some, if_pos (by simp; omega), wrap_succ (show i < 9223372036854775807 by omega)]; exact hr), hl⟩
    · exact ⟨z, w_spec_DrawNotes_L0 (by unfold t_spec_DrawNotes_L0; rw [e1, Option.bind_some, if_neg (by simpa using c)]), by omega⟩) 0 (by omega)
  obtain ⟨r, hr, hl⟩ := key d [] k rfl
  exact ⟨r, f_spec_DrawNotes (by unfold t_spec_DrawNotes; rw [e, Option.bind_some]; exact hr), hl⟩

theorem F_laws_big_eq (x : List Int) : F_laws_big x = some (decide ((x.length : Int) > (1048576 : Int))) := f_laws_big rfl

theorem law_FnVoices (x) (hx : Kd.ok (.slice (.int .u8)) x) : F_laws_FnVoices x = some true := f_laws_FnVoices (by
  have h3 : ∀ v, W_laws_FnVoices_J3 v = some true := fun v => w_laws_FnVoices_J3 (by
    unfold t_laws_FnVoices_J3
    rw [F_impl_HearNote_eq]
    decide +kernel)
  unfold t_laws_FnVoices
  rw [F_laws_big_eq, Option.bind_some]
  split
  · rfl
  · obtain ⟨l, e, hl⟩ := F_spec_DrawNotes_ok x hx.1
    rw [e, Option.bind_some]
    refine down (n := l.length) (P := fun i => ∀ v : TVoice, voiceOk v = true → W_laws_FnVoices_L0 l (i : Int) v = some true) (fun v _ => w_laws_FnVoices_L0 (by
      unfold t_laws_FnVoices_L0
      rw [if_neg (by simp)]
      exact h3 _)) (fun i hi ih v hv => ?_) 0 (by omega) _ (by decide +kernel)
    obtain ⟨g1, g2, g3⟩ := hearNote_ok v (l.getD i noNote) hv
    have hih := ih _ g1
    refine w_laws_FnVoices_L0 ?_
    unfold t_laws_FnVoices_L0
    have hgd : (l.getD (i : Int).toNat ((0 : Int), (0 : Int), (0 : Int), (0 : Int), (0 : Int), ByteArray.empty)) = l.getD i noNote := rfl
    simp only [show ((i : Int) < (l.length : Int)) from by omega, decide_true, if_true, show (0 : Int) ≤ (i : Int) from by omega, hgd, F_impl_HearNote_eq, F_spec_HearNote_eq, F_impl_VoiceOk_eq, Option.bind_some, g1]
    rw [if_pos (by simp [eqK]), if_pos (by simp), if_pos (by simpa using g2), if_neg (by simpa using g3)]
    have e2 : ∀ b a c, W_laws_FnVoices_J2 l (i : Int) (hearNote v (l.getD i noNote)).2.2 b v (hearNote v (l.getD i noNote)).1 (hearNote v (l.getD i noNote)).2.1 a c = some true := fun b a c => w_laws_FnVoices_J2 (by
      unfold t_laws_FnVoices_J2
      simp only [show ((i : Int) < (l.length : Int)) from by omega, decide_true, if_true, show (0 : Int) ≤ (i : Int) from by omega, hgd, wrap_succ (show i < 9223372036854775807 by omega), hih]
      generalize l.getD i noNote = m
      unfold hearNote
      split
      · split
        · rename_i h1 h2
          simp [h2.1]
        · split
          · simp
          · simp
      · simp)
    refine w_laws_FnVoices_J1 ?_
    unfold t_laws_FnVoices_J1
    simp only [e2]
    generalize l.getD i noNote = m
    unfold hearNote
    split
    · split
      · simp
      · split
        · simp
        · simp [eqK]
    · simp [eqK])

end Go.Proofs.Ytnbfkndicldppaa.Core
