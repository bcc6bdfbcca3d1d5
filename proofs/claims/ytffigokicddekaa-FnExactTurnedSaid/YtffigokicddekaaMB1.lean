/- Rows of whole numbers, as the walks name them. No condition. -/
import Derived.Test.YtffigokicddekaaMA23
import Derived.Test.YtffigokicddekaaProg
set_option linter.unusedVariables false
set_option linter.unusedSimpArgs false
namespace Go.Proofs.Ytffigokicddekaa.Abs
open Go Go.Proofs
theorem mixed : Try.prog.follows .mixedOrders = true := by kernel_rfl
def ints (xs : List Int) : List (List V) := xs.map fun n => [V.int .i64 n]
@[go_sem] theorem ints_len (xs : List Int) : (ints xs).length = xs.length := by simp [ints]
theorem ints_get {xs : List Int} {i : Nat} {x : Int} (h : xs[i]? = some x) : (ints xs)[i]? = some [V.int .i64 x] := by simp [ints, h]
theorem ints_at {xs : List Int} {i : Nat} (h : i < xs.length) : (ints xs)[i]? = some [V.int .i64 xs[i]] := by simp [ints, h]
@[go_sem] theorem ints_take (xs : List Int) (k : Nat) : (ints xs).take k = ints (xs.take k) := by simp [ints, List.map_take]
@[go_sem] theorem ints_drop (xs : List Int) (k : Nat) : (ints xs).drop k = ints (xs.drop k) := by simp [ints, List.map_drop]
@[go_sem] theorem ints_app (xs ys : List Int) : ints xs ++ ints ys = ints (xs ++ ys) := by simp [ints]
theorem ints_set (xs : List Int) (i : Nat) (y : Int) : (ints xs).set i [V.int .i64 y] = ints (xs.set i y) := by simp [ints, List.map_set]
theorem ints_rep (n : Nat) : List.replicate n [V.int .i64 0] = ints (List.replicate n 0) := by simp [ints]
theorem ints_nil : ints [] = [] := rfl
theorem ints_closed (xs : List Int) : (⟨1, ints xs⟩ : Ob).closed := by
  intro l hl x hx
  simp only [ints, List.mem_map] at hl
  obtain ⟨n, _, rfl⟩ := hl
  simp at hx; subst hx; rfl
theorem ints_flat (xs : List Int) : (⟨1, ints xs⟩ : Ob).flat := by
  intro l hl x hx
  simp only [ints, List.mem_map] at hl
  obtain ⟨n, _, rfl⟩ := hl
  simp at hx; subst hx; rfl
end Go.Proofs.Ytffigokicddekaa.Abs
