/- From a row's arguments to the walk, and from the walk to the row. No condition. -/
import Derived.Test.YtffigokicddekaaMA24
import Derived.WideShapes
import Derived.Carry
set_option linter.unusedVariables false
set_option linter.unusedSimpArgs false
namespace Go.Proofs.Ytffigokicddekaa.Abs
open Go Go.WideShapes Go.RowKit

/-- a value of the type t: a struct's cells together, else its one cell -/
inductive HasV (P : Program) (t : TypeId) : V → Prop where
  | agg (fs : Array Field) (cs : List V) : P.underlying t = some (.struct fs) → HasT P t cs → HasV P t (.agg cs)
  | one (x : V) : (∀ fs, P.underlying t ≠ some (.struct fs)) → HasT P t [x] → HasV P t x

theorem HasT.scalar {P : Program} {t : TypeId} {xs : List V} (h : HasT P t xs) (hn : ∀ fs, P.underlying t ≠ some (.struct fs)) : ∃ x, xs = [x] := by
  cases h
  case struct fs hu _ => exact absurd hu (hn fs)
  all_goals exact ⟨_, rfl⟩

section
variable {H : Type} {enc : TypeId × Value → H} {P : Program} {w : World} {spare : Nat → Bool} {held : Bool}

theorem open_arg {t : TypeId} {v : Value} {d : DataW H} {ps : List MemPlace} {r : Reach} {b0 : Nat} (hok : okT P 20 t = true) (hval : Value.okWide P w r b0 t v) (hd : DataW.Trod enc P w 0 spare held t v d ps) (hw : ∀ n ∈ d.weights P t, n ≤ reachBytes) :
    ∃ x, HasV P t x ∧ VR w (· < w.heap.size) noIds x v := by
  obtain ⟨fuel, hf⟩ := hd
  obtain ⟨xs, h1, h2, h3, h4⟩ := open_cells (F := (· < w.heap.size)) (fun _ h => h) 20 t hok fuel _ d ps hf hw
  have h2 := h2 noIds
  by_cases hs : ∃ fs, P.underlying t = some (.struct fs)
  · obtain ⟨fs, hs⟩ := hs
    obtain ⟨cs, rfl, _⟩ := okWide_struct hs hval
    exact ⟨.agg xs, .agg fs xs hs h1, agg_mk (by simpa [Value.cells] using h2)⟩
  · have hn : ∀ fs, P.underlying t ≠ some (.struct fs) := fun fs h => hs ⟨fs, h⟩
    obtain ⟨x, rfl⟩ := h1.scalar hn
    refine ⟨x, .one x hn h1, ?_⟩
    have hc : v.cells.toList = [v] := by
      have hokt := hok
      simp only [okT] at hokt
      split at hokt
      · rename_i k hu; obtain ⟨n, rfl⟩ := okWide_int hu hval; rfl
      · rename_i hu; obtain ⟨b, rfl⟩ := okWide_bool hu hval; rfl
      · rename_i hu; obtain ⟨s, rfl⟩ := okWide_string hu hval; rfl
      · rename_i e hu; obtain ⟨a, len, cap, rfl⟩ := okWide_slice hu hval; rfl
      · rename_i fs hu; exact absurd hu (hn fs)
      · cases hokt
    rw [hc] at h2
    simpa using h2.2 0 x rfl
end

theorem FS.row {P : Program} {f : FuncId} {xs : List V} {b : Bool} (h : FS P f [] xs (.bool b) []) {w : World} {args : Array Value} (hx : VRs w (· < w.heap.size) noIds xs args.toList) :
    Calls P f args w fun e w' => e = .returned (.bool b) ∧ Below w.heap.size w w' := by
  have hr : Rel (lives []) noIds (· < w.heap.size) w := ⟨fun o ob h => by simp [lives] at h, fun o o' a a' h => by simp [lives] at h, fun o _ => rfl, fun b h => h⟩
  refine (h noIds _ w args hr hx).mono ?_
  rintro e w' ⟨val, β', F', rfl, hv, hA⟩
  cases hv
  exact ⟨rfl, hA.grow.os, hA.grow.tape, hA.grow.output, hA.grow.size, fun k hk => hA.frame k hk fun o h => by simp [noIds] at h⟩

/-- arguments that say more -/
theorem FS.le {P : Program} {f : FuncId} {σ σ' : List Ob} {xs ys : List V} {v : V} (h : FS P f σ ys v σ') (hl : xs.length = ys.length) (hle : ∀ (j : Nat) x y, xs[j]? = some x → ys[j]? = some y → VLe x y) : FS P f σ xs v σ' := by
  intro β F w args hr hx
  refine h β F w args hr ⟨by rw [← hl]; exact hx.1, fun j y hy => ?_⟩
  have hj : j < xs.length := by rw [hl]; exact (List.getElem?_eq_some_iff.1 hy).1
  exact hle j xs[j] y (List.getElem?_eq_getElem hj) hy _ _ _ _ (hx.2 j xs[j] (List.getElem?_eq_getElem hj))

/-! what a type says, type by type -/
section
variable {P : Program} {t e : TypeId} {xs : List V} {x : V}
theorem HasT.int_inv {k : IntKind} (hu : P.underlying t = some (.int k)) (h : HasT P t xs) : ∃ n, xs = [.int k n] ∧ (Lit.int k n).wf = true := by
  cases h with
  | int _ k' n hu' hw => rw [hu] at hu'; cases hu'; exact ⟨n, rfl, hw⟩
  | bool _ b hu' => rw [hu] at hu'; cases hu'
  | str _ s hu' => rw [hu] at hu'; cases hu'
  | fz _ e es hu' => rw [hu] at hu'; cases hu'
  | struct _ fs _ hu' => rw [hu] at hu'; cases hu'
theorem HasT.bool_inv (hu : P.underlying t = some .bool) (h : HasT P t xs) : ∃ b, xs = [.bool b] := by
  cases h with
  | int _ k' n hu' hw => rw [hu] at hu'; cases hu'
  | bool _ b hu' => exact ⟨b, rfl⟩
  | str _ s hu' => rw [hu] at hu'; cases hu'
  | fz _ e es hu' => rw [hu] at hu'; cases hu'
  | struct _ fs _ hu' => rw [hu] at hu'; cases hu'
theorem HasT.str_inv (hu : P.underlying t = some .string) (h : HasT P t xs) : ∃ s : ByteArray, xs = [.str s] ∧ s.size ≤ reachBytes := by
  cases h with
  | int _ k' n hu' hw => rw [hu] at hu'; cases hu'
  | bool _ b hu' => rw [hu] at hu'; cases hu'
  | str _ s hu' hs => exact ⟨s, rfl, hs⟩
  | fz _ e es hu' => rw [hu] at hu'; cases hu'
  | struct _ fs _ hu' => rw [hu] at hu'; cases hu'
theorem HasT.slice_inv (hu : P.underlying t = some (.slice e)) (h : HasT P t xs) : ∃ es, xs = [.fz (P.cellsOf e) es] ∧ (∀ l ∈ es, HasT P e l) ∧ es.length * P.bytesOf e ≤ reachBytes := by
  cases h with
  | int _ k' n hu' hw => rw [hu] at hu'; cases hu'
  | bool _ b hu' => rw [hu] at hu'; cases hu'
  | str _ s hu' hs => rw [hu] at hu'; cases hu'
  | fz _ e' es hu' h1 h2 => rw [hu] at hu'; cases hu'; exact ⟨es, rfl, h1, h2⟩
  | struct _ fs _ hu' => rw [hu] at hu'; cases hu'
theorem HasT.struct_inv {fs : Array Field} (hu : P.underlying t = some (.struct fs)) (h : HasT P t xs) : HasTs P (fs.toList.map (·.type)) xs := by
  cases h with
  | int _ k' n hu' hw => rw [hu] at hu'; cases hu'
  | bool _ b hu' => rw [hu] at hu'; cases hu'
  | str _ s hu' hs => rw [hu] at hu'; cases hu'
  | fz _ e' es hu' h1 h2 => rw [hu] at hu'; cases hu'
  | struct _ fs' _ hu' h1 => rw [hu] at hu'; cases hu'; exact h1
theorem HasTs.nil_inv (h : HasTs P [] xs) : xs = [] := by cases h; rfl
theorem HasTs.cons_inv {ts : List TypeId} (h : HasTs P (t :: ts) xs) : ∃ ys zs, xs = ys ++ zs ∧ HasT P t ys ∧ HasTs P ts zs := by
  cases h with
  | cons _ _ ys zs h1 h2 => exact ⟨ys, zs, rfl, h1, h2⟩
theorem HasV.one_inv (hn : ∀ fs, P.underlying t ≠ some (.struct fs)) (h : HasV P t x) : HasT P t [x] := by
  cases h with
  | agg fs cs hu => exact absurd hu (hn fs)
  | one _ _ h => exact h
theorem HasV.agg_inv {fs : Array Field} (hu : P.underlying t = some (.struct fs)) (h : HasV P t x) : ∃ cs, x = .agg cs ∧ HasTs P (fs.toList.map (·.type)) cs := by
  cases h with
  | agg fs' cs hu' h => exact ⟨cs, rfl, h.struct_inv hu⟩
  | one _ h _ => exact absurd hu (h fs)
end
end Go.Proofs.Ytffigokicddekaa.Abs
