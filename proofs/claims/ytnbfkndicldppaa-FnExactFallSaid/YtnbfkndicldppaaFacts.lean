/- The closed facts of a row, each by itself; what a program's first words say of how it was made. -/
import Derived.Test.YtnbfkndicldppaaRow
import Derived.JoinedOf
namespace Go.Proofs.Ytnbfkndicldppaa.Core
open Go

theorem make_cut {P : Program} {c : List Char} {rest : List (List Char)} (h : behindMainWord (wordsSigns P.initOrder.toList) = c :: rest) (h1 : (c == "gc".toList || c == "spec".toList) = false) (h2 : (c == "cut".toList || (c == "finals".toList && rest.head? == some "cut".toList)) = true) : P.make = some .cut := by
  unfold Program.make
  rw [h]
  simp only [h1, h2]
  rfl
theorem enter_of {P : Program} {c : List Char} {rest : List (List Char)} (h : behindMainWord (wordsSigns P.initOrder.toList) = c :: rest) (h1 : ((stripLifts liftWords (c :: rest)).2.head? == some "cut".toList) = true) (h2 : (stripLifts liftWords (c :: rest)).1 = [])
    (h3 : P.laysLater = false) (h4 : P.bearsReflect = false) (h5 : P.doorFits [] = true) : P.mayEnter = true := by
  unfold Program.mayEnter
  rw [h]
  simp only [h1, h2, h3, h4, h5]
  simp
theorem final_of {P : Program} {c : List Char} {rest : List (List Char)} (h : behindMainWord (wordsSigns P.initOrder.toList) = c :: rest) (h1 : (c == "carried".toList) = false) (h2 : (stripLifts liftWords (c :: rest)).1 = []) : P.liftsFinal = false := by
  have e : (some c == some "carried".toList) = false := h1
  unfold Program.liftsFinal Program.headLifts
  rw [h]
  simp only [List.head?_cons, e, h2]
  simp
theorem band {a b : Bool} (h : a = true) (g : b = true) : (a && b) = true := by rw [h, g]; rfl
theorem beq_of {α : Type} [BEq α] [LawfulBEq α] {a b : α} (h : a = b) : (a == b) = true := by rw [h]; exact beq_self_eq_true b

end Go.Proofs.Ytnbfkndicldppaa.Core
