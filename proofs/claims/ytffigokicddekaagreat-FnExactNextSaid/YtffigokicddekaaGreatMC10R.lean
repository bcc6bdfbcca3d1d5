/- The row FnExactNext. -/
import Derived.Test.YtffigokicddekaaGreatMZ7
import Derived.Test.YtffigokicddekaaGreatRows
import Derived.ProofKit
import Derived.OpenShut
import Derived.ShutString
import Derived.ChangeOld
set_option linter.unusedVariables false
namespace Go.Proofs.YtffigokicddekaaGreat.FnExactNext
open Go Go.Proofs Abs Go.ChangeShapes Go.WideShapes Go.ChangeAt Go.RowKit
theorem own : ownKnob Tryz.prog.godebug = none := by kernel_rfl
theorem laidOut : laidOutB Tryz.prog = true := by kernel_rfl
set_option maxRecDepth 100000 in
theorem lifted (os : Os) (started : os.Started) (H : Type) (enc : TypeId × Value → H) :
    ReturnsInHanded {} Tryz.checked os 5 .any (Rows.fnExactNextSpec.pre6 enc Tryz.prog Tryz.f5 Rows.fnExactNextRow.domain false) (Rows.fnExactNextSpec.post enc Tryz.prog Tryz.f5 false true false false) := by
  refine returnsInHanded_of_change_sized (C := Tryz.checked) own started (by kernel_rfl) Tryz.func5
    (ChangeSpec.witness6 (enc := enc) (C := Tryz.checked) false ⟨#[], #[.agg #[.slice none 0 0, .slice none 0 0, .slice none 0 0], .int .i64 0], []⟩ 16 (by kernel_rfl) (by kernel_rfl) (by kernel_rfl) (by kernel_rfl)) ?_
  intro W base args ds gs before hval0 hW hcnd hsz0 _
  have hsz : (DataW.weightsEach Tryz.prog (Tryz.f5.params.toList ++ Rows.fnExactNextSpec.plain.varTypes Tryz.prog) (ds ++ gs)).all (· ≤ reachBytes) = true := hsz0
  have hval : ∀ (j : Nat) t v, Tryz.f5.params[j]? = some t → args[j]? = some v → Value.okWide Tryz.prog W .any base t v := hval0
  have hW' := hW
  obtain ⟨p, q, hA0, hV, rfl, hfz, hnd⟩ := hW
  have hA : DataW.TrodAll enc Tryz.prog W 0 (fun _ => true) true Tryz.f5.params.toList args.toList ds p := hA0
  rw [Tryz.params5] at hA hval hsz
  obtain ⟨v0, vs0, d0, ds0, p0, q0, hargs, rfl, rfl, h0, r0⟩ := trodAll_cons hA
  obtain ⟨v1, vs1, d1, ds1, p1, q1, rfl, rfl, rfl, h1, r1⟩ := trodAll_cons r0
  obtain ⟨rfl, rfl, rfl⟩ := trodAll_nil r1
  obtain rfl : args = #[v0, v1] := by cases args; simp_all
  obtain ⟨rfl, rfl⟩ := trodVars_none hV
  have hsz' := List.all_eq_true.1 hsz
  obtain ⟨x0, t0, w0⟩ := open_arg (P := Tryz.prog) (t := 62) (by kernel_rfl) (hval 0 62 v0 rfl rfl) h0 fun n hn => of_decide_eq_true (hsz' n (DataW.weights_mem_each (j := 0) rfl rfl n hn))
  obtain ⟨x1, t1, w1⟩ := open_arg (P := Tryz.prog) (t := 3) (by kernel_rfl) (hval 1 3 v1 rfl rfl) h1 fun n hn => of_decide_eq_true (hsz' n (DataW.weights_mem_each (j := 1) rfl rfl n hn))
  have lt0 : ∀ x ∈ p0, x.block < W.heap.size := by obtain ⟨m, hm⟩ := h0; exact DataW.trod_lt m _ _ _ hm
  have lt1 : ∀ x ∈ p1, x.block < W.heap.size := by obtain ⟨m, hm⟩ := h1; exact DataW.trod_lt m _ _ _ hm
  have fs : FS Tryz.prog 5 [] [x0, x1] (.bool true) [] := by
    obtain ⟨a0, b0, l0⟩ : ∃ a : Abs.World, x0 = .agg a.c ∧ Abs.World.ok a := by
      cases t0 with
      | agg fs cs hu h => obtain ⟨a, rfl, k⟩ := World_of h; exact ⟨a, rfl, k⟩
      | one _ h _ => exact absurd Tryz.underlying62 (h _)
    subst b0
    obtain ⟨a1, b1, l1⟩ := (t1.one_inv (fun fs h => by rw [Tryz.underlying3] at h; cases h)).int_inv Tryz.underlying3
    simp only [List.cons.injEq, and_true] at b1
    subst b1
    exact exactNext_ok a0 a1 l0
  refine (fs.row (.cons w0 (.cons w1 (.nil _ _ _)))).mono fun e W' ⟨he, bel⟩ => ?_
  subst he
  exact ⟨_, rfl, _, _, _, [], _, [], hW', trodAll_mk1 (shut_bool Tryz.underlying4 _), (trodAll_cons_mk (Below.trod laidOut (by kernel_rfl) (of_decide_eq_true (by kernel_rfl)) h0 bel lt0) (trodAll_cons_mk (Below.trod laidOut (by kernel_rfl) (of_decide_eq_true (by kernel_rfl)) h1 bel lt1) trodAll_mk0)), rfl, bel.frame _, fun h => by cases h⟩
theorem over : Rows.fnExactNextRow.holds Tryz.pinned (OpenSpec.ofChange Rows.fnExactNextSpec) :=
  OpenClaim.holds_of_wide 5 Tryz.f5 rfl rfl rfl rfl rfl rfl rfl ⟨rfl, rfl, rfl, rfl, rfl⟩ rfl rfl rfl rfl rfl (by kernel_rfl) Tryz.func5 (by kernel_rfl)
    (of_decide_eq_true (by kernel_rfl)) (by unfold Func.isWrapper; first | (rw [if_pos (by decide +kernel)]; kernel_rfl) | (rw [if_neg (by decide +kernel)]; exact ⟨rfl, rfl⟩))
    (fun os started H enc _ => lifted os started H enc)
theorem proved : Rows.FnExactNextSaid := over
end Go.Proofs.YtffigokicddekaaGreat.FnExactNext
namespace Go.Proofs.YtffigokicddekaaGreat
/-- The row. -/
theorem fnExactNext_holds : Rows.FnExactNextSaid := FnExactNext.proved
end Go.Proofs.YtffigokicddekaaGreat
