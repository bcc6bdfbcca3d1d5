/- Sizes. No condition. -/
import Derived.Test.YtffigokicddekaaMD1
set_option linter.unusedVariables false
set_option linter.unusedSimpArgs false
namespace Go.Proofs.Ytffigokicddekaa.Abs
open Go

/-- what is left of n -/
def left (n sz : Nat) : Int := if sz ≤ n then ((n - sz : Nat) : Int) else -1
theorem left_neg {n s : Nat} (h : left n s < 0) : left n s = -1 := by
  unfold left at *
  split at h
  · omega
  · rename_i h1; rw [if_neg h1]
theorem left_pos {n s : Nat} (h : ¬ left n s < 0) : left n s = ((n - s : Nat) : Int) ∧ s ≤ n := by
  unfold left at *
  split at h
  · rename_i h1; exact ⟨by rw [if_pos h1], h1⟩
  · omega
theorem left_is {n s : Nat} (h : s ≤ n) : left n s = ((n - s : Nat) : Int) := if_pos h
theorem left_no {n s : Nat} (h : n < s) : left n s = -1 := if_neg (by omega)

def sumBy {α : Type} (f : α → Nat) (xs : List α) : Nat := (xs.map f).sum
theorem sumBy_take {α : Type} (f : α → Nat) {xs : List α} {i : Nat} (h : i < xs.length) : sumBy f (xs.take (i + 1)) = sumBy f (xs.take i) + f xs[i] := by
  unfold sumBy
  rw [List.take_succ_eq_append_getElem h, List.map_append, List.sum_append]
  simp only [List.map_cons, List.map_nil, List.sum_cons, List.sum_nil, Nat.add_zero]
theorem sumBy_le {α : Type} (f : α → Nat) (xs : List α) (i : Nat) : sumBy f (xs.take i) ≤ sumBy f xs := by
  unfold sumBy
  conv => rhs; rw [← List.take_append_drop i xs]
  rw [List.map_append, List.sum_append]
  omega
theorem sumBy_get {α : Type} (f : α → Nat) {xs : List α} {i : Nat} (h : i < xs.length) : f xs[i] ≤ sumBy f xs := by
  have h1 := sumBy_take f h
  have h2 := sumBy_le f xs (i + 1)
  omega
theorem sumBy_all {α : Type} (f : α → Nat) (xs : List α) : sumBy f (xs.take xs.length) = sumBy f xs := by rw [List.take_length]

/-- a slice's size: its length and what its parts take -/
def szS {α : Type} (f : α → Nat) (xs : List α) : Nat := xs.length + sumBy f xs

abbrev big : Nat := 1000000000000000

def Entry.sz (a : Entry) : Nat := a.data.size
def Entry.ok (a : Entry) : Prop := a.data.size ≤ big
def Item.sz (a : Item) : Nat := a.entry.sz
def Item.ok (a : Item) : Prop := a.entry.ok
def noSz {α : Type} (_ : α) : Nat := 0
def okS {α : Type} (p : α → Prop) (xs : List α) : Prop := xs.length ≤ big ∧ ∀ a ∈ xs, p a
def noOk {α : Type} (_ : α) : Prop := True
def State.sz (a : State) : Nat := szS Item.sz a.items + a.floors.length
def State.ok (a : State) : Prop := okS Item.ok a.items ∧ a.floors.length ≤ big
def Tree.sz (a : Tree) : Nat := a.leaves.length
def Tree.ok (a : Tree) : Prop := a.leaves.length ≤ big
def Log.sz (a : Log) : Nat := szS State.sz a.list
def Log.ok (a : Log) : Prop := okS State.ok a.list
def Msg.sz (a : Msg) : Nat := a.tree.sz + a.vec.length + a.leaves.length + a.part.sz + a.marks.length
def Msg.ok (a : Msg) : Prop := a.tree.ok ∧ a.vec.length ≤ big ∧ a.leaves.length ≤ big ∧ a.part.ok ∧ a.marks.length ≤ big
end Go.Proofs.Ytffigokicddekaa.Abs
