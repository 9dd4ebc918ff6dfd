/- Measures, copies and comparisons of all kinds of data: what each loop and each step of them comes to. -/
import Derived.Test.YtnbfkndicldppaaBase
import Derived.Test.YtnbfkndicldppaaRow
namespace Go.Proofs.Ytnbfkndicldppaa.Core
open Go
set_option linter.unusedVariables false

/-- No list in it is longer than what can be laid out. -/
def Kd.small : (K : Kd) → K.T → Prop
  | .slice e, xs => xs.length ≤ 68719476736 ∧ ∀ x ∈ xs, Kd.small e x
  | .pair a b, x => a.small x.1 ∧ b.small x.2
  | .int _, _ => True
  | .bool, _ => True
  | .str, _ => True
  | .own _ _, _ => True
  | .ref _, _ => True
  | .fun _, _ => True
  | .clo _ _, _ => True

def SzOk (K : Kd) (f : K.T → Int → Option Int) : Prop := ∀ x n, K.ok x → 0 ≤ n ∧ n ≤ 68719476736 → ∃ r, f x n = some r ∧ (r < 0 ∨ (K.small x ∧ 0 ≤ r ∧ r ≤ n))
def ToOk (K : Kd) (f : K.T → Option K.T) : Prop := ∀ x, K.small x → f x = some x
def EqOk (K : Kd) (f : K.T → K.T → Option Bool) : Prop := ∀ x, K.small x → f x x = some true

theorem sz_left {k : Nat} (hk : k ≤ maxLen) {n : Int} (hn : 0 ≤ n ∧ n ≤ 68719476736) : ∃ m, IntKind.i64.wrap (n - (k : Int)) = m ∧ (m < 0 ∨ ((k : Int) ≤ n ∧ 0 ≤ m ∧ m ≤ n)) := by
  have : k ≤ 9223372036854775807 := hk
  exact ⟨n - k, wrap_id (by omega), by omega⟩

theorem sz_list {e : Kd} {f : e.T → Int → Option Int} (hf : SzOk e f) {d : e.T} {x : List e.T} (hx : (Kd.slice e).ok x) {L : Int → Int → Option Int}
    (h : ∀ n i r, (if decide (i < (x.length : Int)) = true then (if 0 ≤ i then (if i < (x.length : Int) then ((f (x.getD i.toNat d) n).bind fun y => (if decide (y < (0 : Int)) = true then some (-1 : Int) else L y (IntKind.i64.wrap (i + (1 : Int))))) else none) else none) else some n) = some r → L n i = some r)
    (n : Int) (hn : 0 ≤ n ∧ n ≤ 68719476736) :
    ∃ r, (if decide (IntKind.i64.wrap (n - (x.length : Int)) < (0 : Int)) = true then some (-1 : Int) else L (IntKind.i64.wrap (n - (x.length : Int))) (0 : Int)) = some r ∧ (r < 0 ∨ ((Kd.slice e).small x ∧ 0 ≤ r ∧ r ≤ n)) := by
  have hm : x.length ≤ 9223372036854775807 := hx.1
  obtain ⟨m, em, hmo⟩ := sz_left hx.1 hn
  rw [em]
  by_cases g : m < 0
  · exact ⟨-1, by rw [if_pos (by simpa using g)], .inl (by omega)⟩
  rw [if_neg (by simpa using g)]
  have key := down (n := x.length) (P := fun i => ∀ m : Int, 0 ≤ m → m ≤ n → ∃ r, L m (i : Int) = some r ∧ (r < 0 ∨ ((∀ a ∈ x.drop i, e.small a) ∧ 0 ≤ r ∧ r ≤ n))) (fun m _ _ => ⟨m, h _ _ _ (by
    rw [if_neg (by simp)]), .inr ⟨by simp, by omega⟩⟩) (fun i hi ih m hm0 hmn => by
    obtain ⟨s, hs, hso⟩ := hf x[i] m (hx.2 _ (List.getElem_mem _)) (by omega)
    by_cases h3 : s < 0
    · refine ⟨-1, h _ _ _ ?_, .inl (by omega)⟩
      simp only [show ((i : Int) < (x.length : Int)) from by omega, decide_true, if_true, show (0 : Int) ≤ (i : Int) from by omega, Int.toNat_natCast, getD_at hi, hs, Option.bind_some]
      rw [if_pos (by simpa using h3)]
    · rcases hso with hso | ⟨hsm, hs0, hsn⟩
      · omega
      obtain ⟨r, hr, ho⟩ := ih s (by omega) (by omega)
      refine ⟨r, h _ _ _ ?_, ho.imp id fun ho => ⟨fun a ha => ?_, ho.2⟩⟩
      · simp only [show ((i : Int) < (x.length : Int)) from by omega, decide_true, if_true, show (0 : Int) ≤ (i : Int) from by omega, Int.toNat_natCast, getD_at hi, hs, Option.bind_some, wrap_succ (show i < 9223372036854775807 by omega)]
        rw [if_neg (by simpa using h3)]
        exact hr
      · rw [List.drop_eq_getElem_cons hi] at ha
        rcases List.mem_cons.1 ha with rfl | ha
        · exact hsm
        · exact ho.1 a ha) 0 (by omega)
  rcases hmo with hmo | hmo
  · omega
  obtain ⟨r, hr, ho⟩ := key m (by omega) (by omega)
  exact ⟨r, hr, ho.imp id fun ho => ⟨⟨by omega, by simpa using ho.1⟩, ho.2⟩⟩

/-- The same of a list of strings, each measured in place. -/
theorem sz_strs {x : List ByteArray} (hx : (Kd.slice .str).ok x) {L : Int → Int → Option Int}
    (h : ∀ n i r, (if decide (i < (x.length : Int)) = true then (if 0 ≤ i then (if i < (x.length : Int) then (if decide (IntKind.i64.wrap (n - ((x.getD i.toNat ByteArray.empty).size : Int)) < (0 : Int)) = true then some (-1 : Int) else L (IntKind.i64.wrap (n - ((x.getD i.toNat ByteArray.empty).size : Int))) (IntKind.i64.wrap (i + (1 : Int)))) else none) else none) else some n) = some r → L n i = some r)
    (n : Int) (hn : 0 ≤ n ∧ n ≤ 68719476736) :
    ∃ r, (if decide (IntKind.i64.wrap (n - (x.length : Int)) < (0 : Int)) = true then some (-1 : Int) else L (IntKind.i64.wrap (n - (x.length : Int))) (0 : Int)) = some r ∧ (r < 0 ∨ ((Kd.slice .str).small x ∧ 0 ≤ r ∧ r ≤ n)) := by
  refine sz_list (e := .str) (f := fun s m => some (IntKind.i64.wrap (m - (s.size : Int)))) (fun s m hs hm => ?_) (d := ByteArray.empty) hx (fun n i r hr => h n i r ?_) n hn
  · obtain ⟨k, ek, hk⟩ := sz_left (show s.size ≤ maxLen from hs) hm
    exact ⟨k, congrArg some ek, hk.imp id fun hk => ⟨trivial, hk.2⟩⟩
  · simpa only [Option.bind_some] using hr

theorem sz_flat {e : Kd} {x : List e.T} (hx : x.length ≤ maxLen) (he : ∀ a : e.T, e.small a) (n : Int) (hn : 0 ≤ n ∧ n ≤ 68719476736) :
    ∃ r, (if decide (IntKind.i64.wrap (n - (x.length : Int)) < (0 : Int)) = true then some (-1 : Int) else some (IntKind.i64.wrap (n - (x.length : Int)))) = some r ∧ (r < 0 ∨ ((Kd.slice e).small x ∧ 0 ≤ r ∧ r ≤ n)) := by
  obtain ⟨m, em, hmo⟩ := sz_left hx hn
  rw [em]
  by_cases g : m < 0
  · exact ⟨-1, by rw [if_pos (by simpa using g)], .inl (by omega)⟩
  · rw [if_neg (by simpa using g)]
    exact ⟨m, rfl, .inr ⟨⟨by omega, fun a _ => he a⟩, by omega⟩⟩

/-- A loop that copies a list by copies that are the same. -/
theorem copy_loop' {α : Type} {x : List α} {d : α} {L : Int → List α → Option (List α)} {f : α → Option α} (hf : ∀ a ∈ x, f a = some a) (hn : x.length ≤ 68719476736)
    (h : ∀ i z r, (if decide (i < (x.length : Int)) = true then (if 0 ≤ i then (if i < (x.length : Int) then ((f (x.getD i.toNat d)).bind fun y => (if 0 ≤ i then (if i < (z.length : Int) then (let z2 := z.set i.toNat y; L (IntKind.i64.wrap (i + (1 : Int))) z2) else none) else none)) else none) else none) else some z) = some r → L i z = some r) :
    L 0 (List.replicate x.length d) = some x := by
  have := down (n := x.length) (P := fun i => L (i : Int) (x.take i ++ List.replicate (x.length - i) d) = some x) (by
    refine h _ _ _ ?_
    simp) (fun i hi ih => by
    refine h _ _ _ ?_
    simp only [show ((i : Int) < (x.length : Int)) from by omega, decide_true, if_true, show (0 : Int) ≤ (i : Int) from by omega, Int.toNat_natCast, getD_at hi, hf _ (List.getElem_mem _), Option.bind_some, wrap_succ (show i < 9223372036854775807 by omega)]
    rw [if_pos (by simp; omega), take_set hi]
    exact ih) 0 (by omega)
  simpa using this
theorem same_loop' {α : Type} {x : List α} {d : α} {L : Int → Option Bool} {f : α → α → Option Bool} (hf : ∀ a ∈ x, f a a = some true) (hn : x.length ≤ 68719476736)
    (h : ∀ i r, (if decide (i < (x.length : Int)) = true then (if 0 ≤ i then (if i < (x.length : Int) then (if 0 ≤ i then (if i < (x.length : Int) then ((f (x.getD i.toNat d) (x.getD i.toNat d)).bind fun y => (if (!y) = true then some false else L (IntKind.i64.wrap (i + (1 : Int))))) else none) else none) else none) else none) else some true) = some r → L i = some r) :
    L 0 = some true :=
  down (n := x.length) (P := fun i => L (i : Int) = some true) (by
    refine h _ _ ?_
    simp) (fun i hi ih => by
    refine h _ _ ?_
    simp only [show ((i : Int) < (x.length : Int)) from by omega, decide_true, if_true, show (0 : Int) ≤ (i : Int) from by omega, Int.toNat_natCast, hf _ (getD_at hi ▸ List.getElem_mem _), Option.bind_some, wrap_succ (show i < 9223372036854775807 by omega)]
    simpa using ih) 0 (by omega)

theorem to_list {e : Kd} {f : e.T → Option e.T} (hf : ToOk e f) {d : e.T} {x : List e.T} (hx : (Kd.slice e).small x) {L : Int → List e.T → Option (List e.T)}
    (h : ∀ i z r, (if decide (i < (x.length : Int)) = true then (if 0 ≤ i then (if i < (x.length : Int) then ((f (x.getD i.toNat d)).bind fun y => (if 0 ≤ i then (if i < (z.length : Int) then (let z2 := z.set i.toNat y; L (IntKind.i64.wrap (i + (1 : Int))) z2) else none) else none)) else none) else none) else some z) = some r → L i z = some r) :
    (if 0 ≤ (x.length : Int) then (if (x.length : Int) ≤ 68719476736 then L 0 (List.replicate (x.length : Int).toNat d) else none) else none) = some x := by
  have := hx.1
  rw [if_pos (by omega), if_pos (by omega)]
  exact copy_loop' (fun a ha => hf a (hx.2 a ha)) hx.1 h
theorem to_flat {α : Type} {d : α} {x : List α} (hx : x.length ≤ 68719476736) {L : Int → List α → Option (List α)}
    (h : ∀ i z r, (if decide (i < (x.length : Int)) = true then (if 0 ≤ i then (if i < (x.length : Int) then (if 0 ≤ i then (if i < (z.length : Int) then (let z2 := z.set i.toNat (x.getD i.toNat d); L (IntKind.i64.wrap (i + (1 : Int))) z2) else none) else none) else none) else none) else some z) = some r → L i z = some r) :
    (if 0 ≤ (x.length : Int) then (if (x.length : Int) ≤ 68719476736 then L 0 (List.replicate (x.length : Int).toNat d) else none) else none) = some x := by
  rw [if_pos (by omega), if_pos (by omega)]
  refine copy_loop' (f := fun a => some a) (fun _ _ => rfl) hx (fun i z r hr => h i z r ?_)
  simpa only [Option.bind_some] using hr
theorem eq_list {e : Kd} {f : e.T → e.T → Option Bool} (hf : EqOk e f) {d : e.T} {x : List e.T} (hx : (Kd.slice e).small x) {L : Int → Option Bool}
    (h : ∀ i r, (if decide (i < (x.length : Int)) = true then (if 0 ≤ i then (if i < (x.length : Int) then (if 0 ≤ i then (if i < (x.length : Int) then ((f (x.getD i.toNat d) (x.getD i.toNat d)).bind fun y => (if (!y) = true then some false else L (IntKind.i64.wrap (i + (1 : Int))))) else none) else none) else none) else none) else some true) = some r → L i = some r) :
    (if ((x.length : Int) != (x.length : Int)) = true then some false else L 0) = some true := by
  rw [if_neg (by simp)]
  exact same_loop' (fun a ha => hf a (hx.2 a ha)) hx.1 h
theorem eq_flat {α : Type} {c : α → α → Bool} (hc : ∀ a, c a a = false) {d : α} {x : List α} (hx : x.length ≤ 68719476736) {L : Int → Option Bool}
    (h : ∀ i r, (if decide (i < (x.length : Int)) = true then (if 0 ≤ i then (if i < (x.length : Int) then (if 0 ≤ i then (if i < (x.length : Int) then (if c (x.getD i.toNat d) (x.getD i.toNat d) = true then some false else L (IntKind.i64.wrap (i + (1 : Int)))) else none) else none) else none) else none) else some true) = some r → L i = some r) :
    (if ((x.length : Int) != (x.length : Int)) = true then some false else L 0) = some true := by
  rw [if_neg (by simp)]
  refine same_loop' (d := d) (f := fun a b => some (!c a b)) (fun a _ => by rw [hc]; rfl) hx (fun i r hr => h i r ?_)
  simpa only [Option.bind_some, Bool.not_not] using hr

end Go.Proofs.Ytnbfkndicldppaa.Core
