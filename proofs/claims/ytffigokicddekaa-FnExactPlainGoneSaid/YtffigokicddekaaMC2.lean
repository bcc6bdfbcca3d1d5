/- The row FnExactPlainGone. -/
import Derived.Test.YtffigokicddekaaRows
import Derived.Test.YtffigokicddekaaMR0
import Derived.Test.YtffigokicddekaaME8
import Derived.ProofKit
import Derived.OpenShut
import Derived.ShutString
import Derived.ChangeOld
set_option linter.unusedVariables false
namespace Go.Proofs.Ytffigokicddekaa.FnExactPlainGone
open Go Go.Proofs Abs Go.ChangeShapes Go.WideShapes Go.ChangeAt Go.RowKit
theorem own : ownKnob Try.prog.godebug = none := by kernel_rfl
theorem laidOut : laidOutB Try.prog = true := by kernel_rfl
set_option maxRecDepth 100000 in
theorem lifted (os : Os) (started : os.Started) (H : Type) (enc : TypeId × Value → H) :
    ReturnsInHanded {} Try.checked os 5 .any (Rows.fnExactPlainGoneSpec.pre6 enc Try.prog Try.f5 Rows.fnExactPlainGoneRow.domain false) (Rows.fnExactPlainGoneSpec.post enc Try.prog Try.f5 false true false false) := by
  refine returnsInHanded_of_change_sized (C := Try.checked) own started (by kernel_rfl) Try.func5
    (ChangeSpec.witness6 (enc := enc) (C := Try.checked) false ⟨#[], #[.slice none 0 0, .int .i64 0], []⟩ 16 (by kernel_rfl) (by kernel_rfl) (by kernel_rfl) (by kernel_rfl)) ?_
  intro W base args ds gs before hval0 hW hcnd hsz0 _
  have hsz : (DataW.weightsEach Try.prog (Try.f5.params.toList ++ Rows.fnExactPlainGoneSpec.plain.varTypes Try.prog) (ds ++ gs)).all (· ≤ reachBytes) = true := hsz0
  have hval : ∀ (j : Nat) t v, Try.f5.params[j]? = some t → args[j]? = some v → Value.okWide Try.prog W .any base t v := hval0
  have hW' := hW
  obtain ⟨p, q, hA0, hV, rfl, hfz, hnd⟩ := hW
  have hA : DataW.TrodAll enc Try.prog W 0 (fun _ => true) true Try.f5.params.toList args.toList ds p := hA0
  rw [Try.params5] at hA hval hsz
  obtain ⟨v0, vs0, d0, ds0, p0, q0, hargs, rfl, rfl, h0, r0⟩ := trodAll_cons hA
  obtain ⟨v1, vs1, d1, ds1, p1, q1, rfl, rfl, rfl, h1, r1⟩ := trodAll_cons r0
  obtain ⟨rfl, rfl, rfl⟩ := trodAll_nil r1
  obtain rfl : args = #[v0, v1] := by cases args; simp_all
  obtain ⟨rfl, rfl⟩ := trodVars_none hV
  have hsz' := List.all_eq_true.1 hsz
  obtain ⟨x0, t0, w0⟩ := open_arg (P := Try.prog) (t := 33) (by kernel_rfl) (hval 0 33 v0 rfl rfl) h0 fun n hn => of_decide_eq_true (hsz' n (DataW.weights_mem_each (j := 0) rfl rfl n hn))
  obtain ⟨x1, t1, w1⟩ := open_arg (P := Try.prog) (t := 3) (by kernel_rfl) (hval 1 3 v1 rfl rfl) h1 fun n hn => of_decide_eq_true (hsz' n (DataW.weights_mem_each (j := 1) rfl rfl n hn))
  have lt0 : ∀ x ∈ p0, x.block < W.heap.size := by obtain ⟨m, hm⟩ := h0; exact DataW.trod_lt m _ _ _ hm
  have lt1 : ∀ x ∈ p1, x.block < W.heap.size := by obtain ⟨m, hm⟩ := h1; exact DataW.trod_lt m _ _ _ hm
  have fs : FS Try.prog 5 [] [x0, x1] (.bool true) [] := by
    obtain ⟨a0, b0, l0⟩ := StateS_of (t0.one_inv (fun fs h => by rw [Try.underlying33] at h; cases h))
    simp only [List.cons.injEq, and_true] at b0
    subst b0
    obtain ⟨a1, b1, l1⟩ := (t1.one_inv (fun fs h => by rw [Try.underlying3] at h; cases h)).int_inv Try.underlying3
    simp only [List.cons.injEq, and_true] at b1
    subst b1
    exact exactPlainGone_ok a0 a1 l0
  refine (fs.row (.cons w0 (.cons w1 (.nil _ _ _)))).mono fun e W' ⟨he, bel⟩ => ?_
  subst he
  exact ⟨_, rfl, _, _, _, [], _, [], hW', trodAll_mk1 (shut_bool Try.underlying4 _), (trodAll_cons_mk (Below.trod laidOut (by kernel_rfl) (of_decide_eq_true (by kernel_rfl)) h0 bel lt0) (trodAll_cons_mk (Below.trod laidOut (by kernel_rfl) (of_decide_eq_true (by kernel_rfl)) h1 bel lt1) trodAll_mk0)), rfl, bel.frame _, fun h => by cases h⟩
theorem over : Rows.fnExactPlainGoneRow.holds Try.pinned (OpenSpec.ofChange Rows.fnExactPlainGoneSpec) :=
  OpenClaim.holds_of_wide 5 Try.f5 rfl rfl rfl rfl rfl rfl rfl ⟨rfl, rfl, rfl, rfl, rfl⟩ rfl rfl rfl rfl rfl (by kernel_rfl) Try.func5 (by kernel_rfl)
    (of_decide_eq_true (by kernel_rfl)) (by unfold Func.isWrapper; first | (rw [if_pos (by decide +kernel)]; kernel_rfl) | (rw [if_neg (by decide +kernel)]; exact ⟨rfl, rfl⟩))
    (fun os started H enc _ => lifted os started H enc)
theorem proved : Rows.FnExactPlainGoneSaid := over
end Go.Proofs.Ytffigokicddekaa.FnExactPlainGone
namespace Go.Proofs.Ytffigokicddekaa
/-- The row. -/
theorem fnExactPlainGone_holds : Rows.FnExactPlainGoneSaid := FnExactPlainGone.proved
end Go.Proofs.Ytffigokicddekaa
