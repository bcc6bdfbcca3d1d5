/- The row FnExactKept. -/
import Derived.Test.YtffigokicddekaaGreatMZ7
import Derived.Test.YtffigokicddekaaGreatRows
import Derived.ProofKit
import Derived.OpenShut
import Derived.ShutString
import Derived.ChangeOld
set_option linter.unusedVariables false
namespace Go.Proofs.YtffigokicddekaaGreat.FnExactKept
open Go Go.Proofs Abs Go.ChangeShapes Go.WideShapes Go.ChangeAt Go.RowKit
theorem own : ownKnob Tryz.prog.godebug = none := by kernel_rfl
theorem laidOut : laidOutB Tryz.prog = true := by kernel_rfl
set_option maxRecDepth 100000 in
theorem lifted (os : Os) (started : os.Started) (H : Type) (enc : TypeId × Value → H) :
    ReturnsInHanded {} Tryz.checked os 6 .any (Rows.fnExactKeptSpec.pre6 enc Tryz.prog Tryz.f6 Rows.fnExactKeptRow.domain false) (Rows.fnExactKeptSpec.post enc Tryz.prog Tryz.f6 false true false false) := by
  refine returnsInHanded_of_change_sized (C := Tryz.checked) own started (by kernel_rfl) Tryz.func6
    (ChangeSpec.witness6 (enc := enc) (C := Tryz.checked) false ⟨#[], #[.agg #[.slice none 0 0, .slice none 0 0, .slice none 0 0]], []⟩ 16 (by kernel_rfl) (by kernel_rfl) (by kernel_rfl) (by kernel_rfl)) ?_
  intro W base args ds gs before hval0 hW hcnd hsz0 _
  have hsz : (DataW.weightsEach Tryz.prog (Tryz.f6.params.toList ++ Rows.fnExactKeptSpec.plain.varTypes Tryz.prog) (ds ++ gs)).all (· ≤ reachBytes) = true := hsz0
  have hval : ∀ (j : Nat) t v, Tryz.f6.params[j]? = some t → args[j]? = some v → Value.okWide Tryz.prog W .any base t v := hval0
  have hW' := hW
  obtain ⟨p, q, hA0, hV, rfl, hfz, hnd⟩ := hW
  have hA : DataW.TrodAll enc Tryz.prog W 0 (fun _ => true) true Tryz.f6.params.toList args.toList ds p := hA0
  rw [Tryz.params6] at hA hval hsz
  obtain ⟨v0, vs0, d0, ds0, p0, q0, hargs, rfl, rfl, h0, r0⟩ := trodAll_cons hA
  obtain ⟨rfl, rfl, rfl⟩ := trodAll_nil r0
  obtain rfl : args = #[v0] := by cases args; simp_all
  obtain ⟨rfl, rfl⟩ := trodVars_none hV
  have hsz' := List.all_eq_true.1 hsz
  obtain ⟨x0, t0, w0⟩ := open_arg (P := Tryz.prog) (t := 62) (by kernel_rfl) (hval 0 62 v0 rfl rfl) h0 fun n hn => of_decide_eq_true (hsz' n (DataW.weights_mem_each (j := 0) rfl rfl n hn))
  have lt0 : ∀ x ∈ p0, x.block < W.heap.size := by obtain ⟨m, hm⟩ := h0; exact DataW.trod_lt m _ _ _ hm
  have fs : FS Tryz.prog 6 [] [x0] (.bool true) [] := by
    obtain ⟨a0, b0, l0⟩ : ∃ a : Abs.World, x0 = .agg a.c ∧ Abs.World.ok a := by
      cases t0 with
      | agg fs cs hu h => obtain ⟨a, rfl, k⟩ := World_of h; exact ⟨a, rfl, k⟩
      | one _ h _ => exact absurd Tryz.underlying62 (h _)
    subst b0
    exact exactKept_ok a0 l0
  refine (fs.row (.cons w0 (.nil _ _ _))).mono fun e W' ⟨he, bel⟩ => ?_
  subst he
  exact ⟨_, rfl, _, _, _, [], _, [], hW', trodAll_mk1 (shut_bool Tryz.underlying4 _), (trodAll_cons_mk (Below.trod laidOut (by kernel_rfl) (of_decide_eq_true (by kernel_rfl)) h0 bel lt0) trodAll_mk0), rfl, bel.frame _, fun h => by cases h⟩
theorem over : Rows.fnExactKeptRow.holds Tryz.pinned (OpenSpec.ofChange Rows.fnExactKeptSpec) :=
  OpenClaim.holds_of_wide 6 Tryz.f6 rfl rfl rfl rfl rfl rfl rfl ⟨rfl, rfl, rfl, rfl, rfl⟩ rfl rfl rfl rfl rfl (by kernel_rfl) Tryz.func6 (by kernel_rfl)
    (of_decide_eq_true (by kernel_rfl)) (by unfold Func.isWrapper; first | (rw [if_pos (by decide +kernel)]; kernel_rfl) | (rw [if_neg (by decide +kernel)]; exact ⟨rfl, rfl⟩))
    (fun os started H enc _ => lifted os started H enc)
theorem proved : Rows.FnExactKeptSaid := over
end Go.Proofs.YtffigokicddekaaGreat.FnExactKept
namespace Go.Proofs.YtffigokicddekaaGreat
/-- The row. -/
theorem fnExactKept_holds : Rows.FnExactKeptSaid := FnExactKept.proved
end Go.Proofs.YtffigokicddekaaGreat
