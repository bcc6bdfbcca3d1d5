/- The row FnExactTurned. -/
import Derived.Test.YtffigokicddekaaRows
import Derived.Test.YtffigokicddekaaMA25
import Derived.Test.YtffigokicddekaaMB4
import Derived.ProofKit
import Derived.OpenShut
import Derived.ShutString
import Derived.ChangeOld
set_option linter.unusedVariables false
namespace Go.Proofs.Ytffigokicddekaa.FnExactTurned
open Go Go.Proofs Abs Go.ChangeShapes Go.WideShapes Go.ChangeAt Go.RowKit
theorem own : ownKnob Try.prog.godebug = none := by kernel_rfl
theorem laidOut : laidOutB Try.prog = true := by kernel_rfl
theorem ints_of {es : List (List V)} (h : ∀ l ∈ es, ∃ n, l = [V.int .i64 n]) : ∃ xs, es = ints xs := by
  induction es with
  | nil => exact ⟨[], rfl⟩
  | cons l es ih =>
    obtain ⟨n, rfl⟩ := h l (by simp)
    obtain ⟨xs, rfl⟩ := ih fun l hl => h l (by simp [hl])
    exact ⟨n :: xs, rfl⟩
set_option maxRecDepth 100000 in
theorem lifted (os : Os) (started : os.Started) (H : Type) (enc : TypeId × Value → H) :
    ReturnsInHanded {} Try.checked os 3 .any (Rows.fnExactTurnedSpec.pre6 enc Try.prog Try.f3 Rows.fnExactTurnedRow.domain false) (Rows.fnExactTurnedSpec.post enc Try.prog Try.f3 false true false false) := by
  refine returnsInHanded_of_change_sized (C := Try.checked) own started (by kernel_rfl) Try.func3
    (ChangeSpec.witness6 (enc := enc) (C := Try.checked) false ⟨#[], #[.slice none 0 0, .int .i64 0], []⟩ 8 (by kernel_rfl) (by kernel_rfl) (by kernel_rfl) (by kernel_rfl)) ?_
  intro W base args ds gs before hval0 hW hcnd hsz0 _
  have hsz : (DataW.weightsEach Try.prog (Try.f3.params.toList ++ Rows.fnExactTurnedSpec.plain.varTypes Try.prog) (ds ++ gs)).all (· ≤ reachBytes) = true := hsz0
  have hval : ∀ (j : Nat) t v, Try.f3.params[j]? = some t → args[j]? = some v → Value.okWide Try.prog W .any base t v := hval0
  have hW' := hW
  obtain ⟨p, q, hA0, hV, rfl, hfz, hnd⟩ := hW
  have hA : DataW.TrodAll enc Try.prog W 0 (fun _ => true) true Try.f3.params.toList args.toList ds p := hA0
  rw [Try.params3] at hA hval hsz
  obtain ⟨v0, vs0, d0, ds0, p0, q0, hargs, rfl, rfl, h0, r0⟩ := trodAll_cons hA
  obtain ⟨v1, vs1, d1, ds1, p1, q1, rfl, rfl, rfl, h1, r1⟩ := trodAll_cons r0
  obtain ⟨rfl, rfl, rfl⟩ := trodAll_nil r1
  obtain rfl : args = #[v0, v1] := by cases args; simp_all
  obtain ⟨rfl, rfl⟩ := trodVars_none hV
  have hsz' := List.all_eq_true.1 hsz
  obtain ⟨x0, t0, w0⟩ := open_arg (P := Try.prog) (t := 22) (by kernel_rfl) (hval 0 22 v0 rfl rfl) h0 fun n hn => of_decide_eq_true (hsz' n (DataW.weights_mem_each (j := 0) rfl rfl n hn))
  obtain ⟨x1, t1, w1⟩ := open_arg (P := Try.prog) (t := 3) (by kernel_rfl) (hval 1 3 v1 rfl rfl) h1 fun n hn => of_decide_eq_true (hsz' n (DataW.weights_mem_each (j := 1) rfl rfl n hn))
  have lt0 : ∀ x ∈ p0, x.block < W.heap.size := by obtain ⟨m, hm⟩ := h0; exact DataW.trod_lt m _ _ _ hm
  have lt1 : ∀ x ∈ p1, x.block < W.heap.size := by obtain ⟨m, hm⟩ := h1; exact DataW.trod_lt m _ _ _ hm
  have fs : FS Try.prog 3 [] [x0, x1] (.bool true) [] := by
    obtain ⟨k, hk, _⟩ := (t1.one_inv (fun fs h => by rw [Try.underlying3] at h; cases h)).int_inv Try.underlying3
    simp only [List.cons.injEq, and_true] at hk
    subst hk
    rcases (t0.one_inv (fun fs h => by rw [Try.underlying22] at h; cases h)).slice_inv Try.underlying22 with hx | ⟨es, hx, he, _⟩
    · simp only [List.cons.injEq, and_true] at hx
      subst hx
      refine (exactTurned_ok [] k).le rfl fun j x y h1 h2 => ?_
      cases j with
      | zero => simp at h1 h2; subst h1; subst h2; exact .nl 1
      | succ j =>
        simp only [List.getElem?_cons_succ] at h1 h2
        rw [h1] at h2; cases h2; exact .refl _
    · simp only [List.cons.injEq, and_true] at hx
      subst hx
      have e1 : Try.prog.cellsOf 3 = 1 := by kernel_rfl
      obtain ⟨xs, rfl⟩ := ints_of (fun l hl => by
        obtain ⟨n, h, _⟩ := (he l hl).int_inv Try.underlying3
        exact ⟨n, h⟩)
      rw [e1]
      exact exactTurned_ok xs k
  refine (fs.row (.cons w0 (.cons w1 (.nil _ _ _)))).mono fun e W' ⟨he, bel⟩ => ?_
  subst he
  exact ⟨_, rfl, _, _, _, [], _, [], hW', trodAll_mk1 (shut_bool Try.underlying4 _), (trodAll_cons_mk (Below.trod laidOut (by kernel_rfl) (of_decide_eq_true (by kernel_rfl)) h0 bel lt0) (trodAll_cons_mk (Below.trod laidOut (by kernel_rfl) (of_decide_eq_true (by kernel_rfl)) h1 bel lt1) trodAll_mk0)), rfl, bel.frame _, fun h => by cases h⟩
theorem over : Rows.fnExactTurnedRow.holds Try.pinned (OpenSpec.ofChange Rows.fnExactTurnedSpec) :=
  OpenClaim.holds_of_wide 3 Try.f3 rfl rfl rfl rfl rfl rfl rfl ⟨rfl, rfl, rfl, rfl, rfl⟩ rfl rfl rfl rfl rfl (by kernel_rfl) Try.func3 (by kernel_rfl)
    (of_decide_eq_true (by kernel_rfl)) (by unfold Func.isWrapper; first | (rw [if_pos (by decide +kernel)]; kernel_rfl) | (rw [if_neg (by decide +kernel)]; exact ⟨rfl, rfl⟩))
    (fun os started H enc _ => lifted os started H enc)
theorem proved : Rows.FnExactTurnedSaid := over
end Go.Proofs.Ytffigokicddekaa.FnExactTurned
namespace Go.Proofs.Ytffigokicddekaa
/-- The row. -/
theorem fnExactTurned_holds : Rows.FnExactTurnedSaid := FnExactTurned.proved
end Go.Proofs.Ytffigokicddekaa
