/- Ranges, entries and floors of a state, walked in both texts. No condition. -/
import Derived.Test.YtffigokicddekaaME3
set_option linter.unusedVariables false
set_option linter.unusedSimpArgs false
set_option maxRecDepth 10000
namespace Go.Proofs.Ytffigokicddekaa.Abs
open Go Go.Proofs
def R101_0 : List AR := [⟨(some 6), none, 0, (.mov (.k (.bool false)))⟩]
def R101_1 : List AR := [⟨(some 7), none, 0, (.mov (.t 0))⟩, ⟨(some 8), none, 0, (.mov (.t 1))⟩, ⟨(some 9), none, 0, (.bin .geq (.t 7) (.t 8))⟩, ⟨(some 10), none, 0, (.mov (.t 9))⟩, ⟨(some 11), (some (10, true)), 0, (.mov (.t 0))⟩, ⟨(some 12), (some (10, true)), 0, (.mov (.t 2))⟩, ⟨(some 13), (some (10, true)), 0, (.bin .leq (.t 11) (.t 12))⟩, ⟨(some 14), none, 0, (.pick (.t 10) (.t 13) (.k (.bool false)))⟩, ⟨(some 6), none, 0, (.mov (.t 14))⟩]
def A101_0 : AC := (.seq (.reg 0 R101_1) .ret)
def A101 : AC := (.seq (.reg 0 R101_0) A101_0)
def O101 : List AO := [(.mov (.t 6))]
def G101 : Fns := ⟨fun f => false, fun f => 0⟩
noncomputable def X101 : Cx := ⟨Try.prog, G101, drawD, 15, [0, 1, 2, 6]⟩
theorem c101 : (Try.f101.body).bind (compC X101.P X101.Γ X101.D X101.nt) = some A101 := by kernel_rfl
theorem o101 : compRes X101.P Try.f101.results.toList = some O101 := by kernel_rfl
theorem v101 : X101.vs = [0, 1, 2, 6] := rfl
theorem p101 : X101.P = Try.prog := rfl
def R105_0 : List AR := [⟨(some 6), none, 0, (.mov (.k (.bool false)))⟩]
def R105_1 : List AR := [⟨(some 7), none, 0, (.mov (.t 0))⟩, ⟨(some 8), none, 0, (.mov (.t 1))⟩, ⟨(some 9), none, 0, (.bin .geq (.t 7) (.t 8))⟩, ⟨(some 10), none, 0, (.mov (.t 9))⟩, ⟨(some 11), (some (10, true)), 0, (.mov (.t 0))⟩, ⟨(some 12), (some (10, true)), 0, (.mov (.t 2))⟩, ⟨(some 13), (some (10, true)), 0, (.bin .leq (.t 11) (.t 12))⟩, ⟨(some 14), none, 0, (.pick (.t 10) (.t 13) (.k (.bool false)))⟩, ⟨(some 6), none, 0, (.mov (.t 14))⟩]
def A105_0 : AC := (.seq (.reg 0 R105_1) .ret)
def A105 : AC := (.seq (.reg 0 R105_0) A105_0)
def O105 : List AO := [(.mov (.t 6))]
def G105 : Fns := ⟨fun f => false, fun f => 0⟩
noncomputable def X105 : Cx := ⟨Try.prog, G105, drawD, 15, [0, 1, 2, 6]⟩
theorem c105 : (Try.f105.body).bind (compC X105.P X105.Γ X105.D X105.nt) = some A105 := by kernel_rfl
theorem o105 : compRes X105.P Try.f105.results.toList = some O105 := by kernel_rfl
theorem v105 : X105.vs = [0, 1, 2, 6] := rfl
theorem p105 : X105.P = Try.prog := rfl
def R98_0 : List AR := [⟨(some 2), none, 0, (.mov (.k (.bool false)))⟩]
def R98_1 : List AR := [⟨(some 3), none, 0, (.mov (.t 0))⟩, ⟨(some 4), none, 0, (.call false 0 0 101 [(.t 3), (.k (.int .i64 0)), (.k (.int .i64 4))])⟩, ⟨(some 2), none, 0, (.mov (.t 4))⟩]
def A98_0 : AC := (.seq (.reg 0 R98_1) .ret)
def A98 : AC := (.seq (.reg 0 R98_0) A98_0)
def O98 : List AO := [(.mov (.t 2))]
def G98 : Fns := ⟨fun f => false, fun f => 0⟩
noncomputable def X98 : Cx := ⟨Try.prog, G98, drawD, 5, [0, 2]⟩
theorem c98 : (Try.f98.body).bind (compC X98.P X98.Γ X98.D X98.nt) = some A98 := by kernel_rfl
theorem o98 : compRes X98.P Try.f98.results.toList = some O98 := by kernel_rfl
theorem v98 : X98.vs = [0, 2] := rfl
theorem p98 : X98.P = Try.prog := rfl
def R104_0 : List AR := [⟨(some 2), none, 0, (.mov (.k (.bool false)))⟩]
def R104_1 : List AR := [⟨(some 3), none, 0, (.mov (.t 0))⟩, ⟨(some 4), none, 0, (.call false 0 0 105 [(.t 3), (.k (.int .i64 0)), (.k (.int .i64 4))])⟩, ⟨(some 2), none, 0, (.mov (.t 4))⟩]
def A104_0 : AC := (.seq (.reg 0 R104_1) .ret)
def A104 : AC := (.seq (.reg 0 R104_0) A104_0)
def O104 : List AO := [(.mov (.t 2))]
def G104 : Fns := ⟨fun f => false, fun f => 0⟩
noncomputable def X104 : Cx := ⟨Try.prog, G104, drawD, 5, [0, 2]⟩
theorem c104 : (Try.f104.body).bind (compC X104.P X104.Γ X104.D X104.nt) = some A104 := by kernel_rfl
theorem o104 : compRes X104.P Try.f104.results.toList = some O104 := by kernel_rfl
theorem v104 : X104.vs = [0, 2] := rfl
theorem p104 : X104.P = Try.prog := rfl
def R56_0 : List AR := [⟨(some 4), none, 0, (.mov (.k (.int .i64 0)))⟩]
def R56_1 : List AR := [⟨(some 5), none, 0, (.mov (.t 0))⟩, ⟨(some 6), none, 0, (.mov (.t 1))⟩, ⟨(some 7), none, 0, (.bin .gtr (.t 5) (.t 6))⟩]
def R56_2 : List AR := [⟨(some 8), none, 0, (.mov (.t 0))⟩, ⟨(some 4), none, 0, (.mov (.t 8))⟩]
def R56_3 : List AR := [⟨(some 9), none, 0, (.mov (.t 1))⟩, ⟨(some 4), none, 0, (.mov (.t 9))⟩]
def A56_0 : AC := (.seq (.reg 0 R56_3) .ret)
def A56_1 : AC := (.seq (.seq (.reg 0 R56_1) (.cond (.t 7) (.seq (.reg 0 R56_2) .ret) .skip)) A56_0)
def A56 : AC := (.seq (.reg 0 R56_0) A56_1)
def O56 : List AO := [(.mov (.t 4))]
def G56 : Fns := ⟨fun f => false, fun f => 0⟩
noncomputable def X56 : Cx := ⟨Try.prog, G56, drawD, 10, [0, 1, 4, 7]⟩
theorem c56 : (Try.f56.body).bind (compC X56.P X56.Γ X56.D X56.nt) = some A56 := by kernel_rfl
theorem o56 : compRes X56.P Try.f56.results.toList = some O56 := by kernel_rfl
theorem v56 : X56.vs = [0, 1, 4, 7] := rfl
theorem p56 : X56.P = Try.prog := rfl
def R99_0 : List AR := [⟨(some 1), none, 0, (.box 0 5 (.t 0))⟩, ⟨(some 2), none, 0, (.mov (.k (.bool false)))⟩]
def R99_1 : List AR := [⟨(some 3), none, 0, (.faddr 0 (.t 1))⟩, ⟨(some 4), none, 0, (.load 1 false (.t 3))⟩, ⟨(some 5), none, 0, (.call false 0 0 101 [(.t 4), (.k (.int .i64 1)), (.k (.int .i64 1000))])⟩, ⟨(some 6), none, 0, (.mov (.t 5))⟩, ⟨(some 7), (some (6, true)), 0, (.faddr 1 (.t 1))⟩, ⟨(some 8), (some (6, true)), 0, (.load 1 false (.t 7))⟩, ⟨(some 9), (some (6, true)), 0, (.call false 0 0 101 [(.t 8), (.k (.int .i64 0)), (.k (.int .i64 1))])⟩, ⟨(some 10), none, 0, (.pick (.t 6) (.t 9) (.k (.bool false)))⟩, ⟨(some 11), none, 0, (.mov (.t 10))⟩, ⟨(some 12), (some (11, true)), 0, (.faddr 2 (.t 1))⟩, ⟨(some 13), (some (11, true)), 0, (.load 1 false (.t 12))⟩, ⟨(some 14), (some (11, true)), 0, (.call false 0 0 101 [(.t 13), (.k (.int .i64 0)), (.k (.int .i64 100000))])⟩, ⟨(some 15), none, 0, (.pick (.t 11) (.t 14) (.k (.bool false)))⟩, ⟨(some 16), none, 0, (.mov (.t 15))⟩, ⟨(some 17), (some (16, true)), 0, (.faddr 3 (.t 1))⟩, ⟨(some 18), (some (16, true)), 0, (.load 1 false (.t 17))⟩, ⟨(some 19), (some (16, true)), 0, (.call false 0 0 101 [(.t 18), (.k (.int .i64 0)), (.k (.int .i64 1000))])⟩, ⟨(some 20), none, 0, (.pick (.t 16) (.t 19) (.k (.bool false)))⟩, ⟨(some 21), none, 0, (.mov (.t 20))⟩, ⟨(some 22), (some (21, true)), 0, (.faddr 4 (.t 1))⟩, ⟨(some 23), (some (21, true)), 0, (.load 1 false (.t 22))⟩, ⟨(some 24), (some (21, true)), 0, (.slen (.t 23))⟩, ⟨(some 25), (some (21, true)), 0, (.bin .leq (.t 24) (.k (.int .i64 8)))⟩, ⟨(some 26), none, 0, (.pick (.t 21) (.t 25) (.k (.bool false)))⟩, ⟨(some 2), none, 0, (.mov (.t 26))⟩]
def A99_0 : AC := (.seq (.reg 0 R99_1) .ret)
def A99 : AC := (.seq (.reg 1 R99_0) A99_0)
def O99 : List AO := [(.mov (.t 2))]
def G99 : Fns := ⟨fun f => false, fun f => 0⟩
noncomputable def X99 : Cx := ⟨Try.prog, G99, drawD, 27, [0, 1, 2]⟩
theorem c99 : (Try.f99.body).bind (compC X99.P X99.Γ X99.D X99.nt) = some A99 := by kernel_rfl
theorem o99 : compRes X99.P Try.f99.results.toList = some O99 := by kernel_rfl
theorem v99 : X99.vs = [0, 1, 2] := rfl
theorem p99 : X99.P = Try.prog := rfl
def R106_0 : List AR := [⟨(some 1), none, 0, (.box 0 5 (.t 0))⟩, ⟨(some 2), none, 0, (.mov (.k (.bool false)))⟩]
def R106_1 : List AR := [⟨(some 3), none, 0, (.faddr 0 (.t 1))⟩, ⟨(some 4), none, 0, (.load 1 false (.t 3))⟩, ⟨(some 5), none, 0, (.call false 0 0 105 [(.t 4), (.k (.int .i64 1)), (.k (.int .i64 1000))])⟩, ⟨(some 6), none, 0, (.mov (.t 5))⟩, ⟨(some 7), (some (6, true)), 0, (.faddr 1 (.t 1))⟩, ⟨(some 8), (some (6, true)), 0, (.load 1 false (.t 7))⟩, ⟨(some 9), (some (6, true)), 0, (.call false 0 0 105 [(.t 8), (.k (.int .i64 0)), (.k (.int .i64 1))])⟩, ⟨(some 10), none, 0, (.pick (.t 6) (.t 9) (.k (.bool false)))⟩, ⟨(some 11), none, 0, (.mov (.t 10))⟩, ⟨(some 12), (some (11, true)), 0, (.faddr 2 (.t 1))⟩, ⟨(some 13), (some (11, true)), 0, (.load 1 false (.t 12))⟩, ⟨(some 14), (some (11, true)), 0, (.call false 0 0 105 [(.t 13), (.k (.int .i64 0)), (.k (.int .i64 100000))])⟩, ⟨(some 15), none, 0, (.pick (.t 11) (.t 14) (.k (.bool false)))⟩, ⟨(some 16), none, 0, (.mov (.t 15))⟩, ⟨(some 17), (some (16, true)), 0, (.faddr 3 (.t 1))⟩, ⟨(some 18), (some (16, true)), 0, (.load 1 false (.t 17))⟩, ⟨(some 19), (some (16, true)), 0, (.call false 0 0 105 [(.t 18), (.k (.int .i64 0)), (.k (.int .i64 1000))])⟩, ⟨(some 20), none, 0, (.pick (.t 16) (.t 19) (.k (.bool false)))⟩, ⟨(some 21), none, 0, (.mov (.t 20))⟩, ⟨(some 22), (some (21, true)), 0, (.faddr 4 (.t 1))⟩, ⟨(some 23), (some (21, true)), 0, (.load 1 false (.t 22))⟩, ⟨(some 24), (some (21, true)), 0, (.slen (.t 23))⟩, ⟨(some 25), (some (21, true)), 0, (.bin .leq (.t 24) (.k (.int .i64 8)))⟩, ⟨(some 26), none, 0, (.pick (.t 21) (.t 25) (.k (.bool false)))⟩, ⟨(some 2), none, 0, (.mov (.t 26))⟩]
def A106_0 : AC := (.seq (.reg 0 R106_1) .ret)
def A106 : AC := (.seq (.reg 1 R106_0) A106_0)
def O106 : List AO := [(.mov (.t 2))]
def G106 : Fns := ⟨fun f => false, fun f => 0⟩
noncomputable def X106 : Cx := ⟨Try.prog, G106, drawD, 27, [0, 1, 2]⟩
theorem c106 : (Try.f106.body).bind (compC X106.P X106.Γ X106.D X106.nt) = some A106 := by kernel_rfl
theorem o106 : compRes X106.P Try.f106.results.toList = some O106 := by kernel_rfl
theorem v106 : X106.vs = [0, 1, 2] := rfl
theorem p106 : X106.P = Try.prog := rfl
theorem l1In_ok (x lo hi : Int) : FS Try.prog 101 [] [.int .i64 x, .int .i64 lo, .int .i64 hi] (.bool (decide (lo ≤ x ∧ x ≤ hi))) [] := by
  refine FS.of (X := X101) (ac := A101) (os := O101) Try.func101 (by rfl) (by rfl) (by kernel_rfl) o101 (Nat.le_of_ble_eq_true rfl) ?_
  show AWP X101 A101 (Ends X101.vs O101 0 _ _) [.int .i64 x, .int .i64 lo, .int .i64 hi, .tup []] []
  obtain ⟨Q, hQ⟩ : ∃ Q, Q = Ends X101.vs O101 0 (.bool (decide (lo ≤ x ∧ x ≤ hi))) [] := ⟨_, rfl⟩
  rw [← hQ]
  refine awp_sr ?_
  simp only [go_sem, R101_0, v101, p101, Nat.reduceEqDiff, Nat.reduceAdd, Nat.reduceLeDiff, Nat.reduceMul, Nat.reduceSub, Nat.reduceLT]
  refine awp_sr ?_
  simp only [go_sem, R101_1, v101, p101, Nat.reduceEqDiff, Nat.reduceAdd, Nat.reduceLeDiff, Nat.reduceMul, Nat.reduceSub, Nat.reduceLT]
  refine selP_if rfl (fun h => ?_) (fun h => ?_)
  · simp only [go_sem, v101, p101, Nat.reduceEqDiff, Nat.reduceAdd, Nat.reduceLeDiff, Nat.reduceMul, Nat.reduceSub, Nat.reduceLT, h, decide_true]
    refine awp_ret ?_
    try simp only [go_sem]
    rw [hQ]
    exact Ends.is (.inl rfl) rfl (congrArg V.bool (by simp [h])) rfl
  · simp only [go_sem, v101, p101, Nat.reduceEqDiff, Nat.reduceAdd, Nat.reduceLeDiff, Nat.reduceMul, Nat.reduceSub, Nat.reduceLT, h, decide_false]
    refine awp_ret ?_
    try simp only [go_sem]
    rw [hQ]
    exact Ends.is (.inl rfl) rfl (congrArg V.bool (by simp [h])) rfl
theorem within_ok (x lo hi : Int) : FS Try.prog 105 [] [.int .i64 x, .int .i64 lo, .int .i64 hi] (.bool (decide (lo ≤ x ∧ x ≤ hi))) [] := by
  refine FS.of (X := X105) (ac := A105) (os := O105) Try.func105 (by rfl) (by rfl) (by kernel_rfl) o105 (Nat.le_of_ble_eq_true rfl) ?_
  show AWP X105 A105 (Ends X105.vs O105 0 _ _) [.int .i64 x, .int .i64 lo, .int .i64 hi, .tup []] []
  obtain ⟨Q, hQ⟩ : ∃ Q, Q = Ends X105.vs O105 0 (.bool (decide (lo ≤ x ∧ x ≤ hi))) [] := ⟨_, rfl⟩
  rw [← hQ]
  refine awp_sr ?_
  simp only [go_sem, R105_0, v105, p105, Nat.reduceEqDiff, Nat.reduceAdd, Nat.reduceLeDiff, Nat.reduceMul, Nat.reduceSub, Nat.reduceLT]
  refine awp_sr ?_
  simp only [go_sem, R105_1, v105, p105, Nat.reduceEqDiff, Nat.reduceAdd, Nat.reduceLeDiff, Nat.reduceMul, Nat.reduceSub, Nat.reduceLT]
  refine selP_if rfl (fun h => ?_) (fun h => ?_)
  · simp only [go_sem, v105, p105, Nat.reduceEqDiff, Nat.reduceAdd, Nat.reduceLeDiff, Nat.reduceMul, Nat.reduceSub, Nat.reduceLT, h, decide_true]
    refine awp_ret ?_
    try simp only [go_sem]
    rw [hQ]
    exact Ends.is (.inl rfl) rfl (congrArg V.bool (by simp [h])) rfl
  · simp only [go_sem, v105, p105, Nat.reduceEqDiff, Nat.reduceAdd, Nat.reduceLeDiff, Nat.reduceMul, Nat.reduceSub, Nat.reduceLT, h, decide_false]
    refine awp_ret ?_
    try simp only [go_sem]
    rw [hQ]
    exact Ends.is (.inl rfl) rfl (congrArg V.bool (by simp [h])) rfl
theorem l3Node_ok (x : Int) : FS Try.prog 98 [] [.int .i64 x] (.bool (decide (0 ≤ x ∧ x ≤ 4))) [] := by
  refine FS.of (X := X98) (ac := A98) (os := O98) Try.func98 (by rfl) (by rfl) (by kernel_rfl) o98 (Nat.le_of_ble_eq_true rfl) ?_
  show AWP X98 A98 (Ends X98.vs O98 0 _ _) [.int .i64 x, .tup []] []
  obtain ⟨Q, hQ⟩ : ∃ Q, Q = Ends X98.vs O98 0 (.bool (decide (0 ≤ x ∧ x ≤ 4))) [] := ⟨_, rfl⟩
  rw [← hQ]
  refine awp_sr ?_
  simp only [go_sem, R98_0, v98, p98, Nat.reduceEqDiff, Nat.reduceAdd, Nat.reduceLeDiff, Nat.reduceMul, Nat.reduceSub, Nat.reduceLT]
  refine awp_sr ?_
  simp only [go_sem, R98_1, v98, p98, Nat.reduceEqDiff, Nat.reduceAdd, Nat.reduceLeDiff, Nat.reduceMul, Nat.reduceSub, Nat.reduceLT]
  refine run_see (l1In_ok x 0 4) false (Views.refl rfl) rfl (fun j hj => by omega) (fun h => by cases h) ?_
  simp only [go_sem, v98, p98, Nat.reduceEqDiff, Nat.reduceAdd, Nat.reduceLeDiff, Nat.reduceMul, Nat.reduceSub, Nat.reduceLT]
  refine awp_ret ?_
  try simp only [go_sem]
  rw [hQ]
  exact Ends.is (.inl rfl) rfl rfl rfl
theorem isNode_ok (x : Int) : FS Try.prog 104 [] [.int .i64 x] (.bool (decide (0 ≤ x ∧ x ≤ 4))) [] := by
  refine FS.of (X := X104) (ac := A104) (os := O104) Try.func104 (by rfl) (by rfl) (by kernel_rfl) o104 (Nat.le_of_ble_eq_true rfl) ?_
  show AWP X104 A104 (Ends X104.vs O104 0 _ _) [.int .i64 x, .tup []] []
  obtain ⟨Q, hQ⟩ : ∃ Q, Q = Ends X104.vs O104 0 (.bool (decide (0 ≤ x ∧ x ≤ 4))) [] := ⟨_, rfl⟩
  rw [← hQ]
  refine awp_sr ?_
  simp only [go_sem, R104_0, v104, p104, Nat.reduceEqDiff, Nat.reduceAdd, Nat.reduceLeDiff, Nat.reduceMul, Nat.reduceSub, Nat.reduceLT]
  refine awp_sr ?_
  simp only [go_sem, R104_1, v104, p104, Nat.reduceEqDiff, Nat.reduceAdd, Nat.reduceLeDiff, Nat.reduceMul, Nat.reduceSub, Nat.reduceLT]
  refine run_see (within_ok x 0 4) false (Views.refl rfl) rfl (fun j hj => by omega) (fun h => by cases h) ?_
  simp only [go_sem, v104, p104, Nat.reduceEqDiff, Nat.reduceAdd, Nat.reduceLeDiff, Nat.reduceMul, Nat.reduceSub, Nat.reduceLT]
  refine awp_ret ?_
  try simp only [go_sem]
  rw [hQ]
  exact Ends.is (.inl rfl) rfl rfl rfl
theorem l1Max_ok (x y : Int) : FS Try.prog 56 [] [.int .i64 x, .int .i64 y] (.int .i64 (if y > x then y else x)) [] := by
  refine FS.of (X := X56) (ac := A56) (os := O56) Try.func56 (by rfl) (by rfl) (by kernel_rfl) o56 (Nat.le_of_ble_eq_true rfl) ?_
  show AWP X56 A56 (Ends X56.vs O56 0 _ _) [.int .i64 x, .int .i64 y, .tup [], .tup []] []
  obtain ⟨Q, hQ⟩ : ∃ Q, Q = Ends X56.vs O56 0 (.int .i64 (if y > x then y else x)) [] := ⟨_, rfl⟩
  rw [← hQ]
  refine awp_sr ?_
  simp only [go_sem, R56_0, v56, p56, Nat.reduceEqDiff, Nat.reduceAdd, Nat.reduceLeDiff, Nat.reduceMul, Nat.reduceSub, Nat.reduceLT]
  refine awp_sr2 ?_
  simp only [go_sem, R56_1, v56, p56, Nat.reduceEqDiff, Nat.reduceAdd, Nat.reduceLeDiff, Nat.reduceMul, Nat.reduceSub, Nat.reduceLT]
  refine awp_if rfl ?_ ?_
  · intro h
    refine awp_sr ?_
    simp only [go_sem, R56_2, v56, p56, Nat.reduceEqDiff, Nat.reduceAdd, Nat.reduceLeDiff, Nat.reduceMul, Nat.reduceSub, Nat.reduceLT]
    refine awp_ret ?_
    try simp only [go_sem]
    rw [hQ]
    exact Ends.is (.inl rfl) rfl (congrArg (V.int .i64) (by rw [if_neg]; omega)) rfl
  intro h
  refine awp_skip ?_
  simp only [go_sem]
  refine awp_sr ?_
  simp only [go_sem, R56_3, v56, p56, Nat.reduceEqDiff, Nat.reduceAdd, Nat.reduceLeDiff, Nat.reduceMul, Nat.reduceSub, Nat.reduceLT]
  refine awp_ret ?_
  try simp only [go_sem]
  rw [hQ]
  refine Ends.is (.inl rfl) rfl (congrArg (V.int .i64) ?_) rfl
  split <;> omega
/-- a right entry -/
def Entry.Right (a : Entry) : Prop := (1 ≤ a.inc ∧ a.inc ≤ 1000) ∧ (0 ≤ a.rank ∧ a.rank ≤ 1) ∧ (0 ≤ a.beat ∧ a.beat ≤ 100000) ∧ (0 ≤ a.ver ∧ a.ver ≤ 1000) ∧ (a.data.size : Int) ≤ 8
instance (a : Entry) : Decidable a.Right := by unfold Entry.Right; exact inferInstance
theorem specEntryOk_ok (a : Entry) : FS Try.prog 99 [] [.agg a.c] (.bool (decide a.Right)) [] := by
  refine FS.of (X := X99) (ac := A99) (os := O99) Try.func99 (by rfl) (by rfl) (by kernel_rfl) o99 (Nat.le_of_ble_eq_true rfl) ?_
  show AWP X99 A99 (Ends X99.vs O99 0 _ _) [.agg a.c, .tup [], .tup []] []
  obtain ⟨Q, hQ⟩ : ∃ Q, Q = Ends X99.vs O99 0 (.bool (decide a.Right)) [] := ⟨_, rfl⟩
  rw [← hQ]
  have fin : ∀ L σ q, look X99.vs L 2 = .bool q → q = decide a.Right → Q .ret L σ := by
    intro L σ q h1 h2
    rw [hQ]
    refine Ends.is (.inl rfl) (rs := [.bool q]) (by simp only [go_sem, O99, h1]) ?_ rfl
    simp [packV, h2]
  refine awp_sr ?_
  simp only [go_sem, R99_0, v99, p99, Nat.reduceEqDiff, Nat.reduceAdd, Nat.reduceLeDiff, Nat.reduceMul, Nat.reduceSub, Nat.reduceLT, Entry.c]
  refine awp_sr ?_
  simp only [go_sem, R99_1, v99, p99, Nat.reduceEqDiff, Nat.reduceAdd, Nat.reduceLeDiff, Nat.reduceMul, Nat.reduceSub, Nat.reduceLT]
  refine run_see (l1In_ok a.inc 1 1000) false (Views.refl rfl) rfl (fun j hj => by omega) (fun h => by cases h) ?_
  by_cases h1 : 1 ≤ a.inc ∧ a.inc ≤ 1000
  · simp only [go_sem, v99, p99, Nat.reduceEqDiff, Nat.reduceAdd, Nat.reduceLeDiff, Nat.reduceMul, Nat.reduceSub, Nat.reduceLT, decide_eq_true h1]
    refine run_see (l1In_ok a.rank 0 1) false (Views.refl rfl) rfl (fun j hj => by omega) (fun h => by cases h) ?_
    by_cases h2 : 0 ≤ a.rank ∧ a.rank ≤ 1
    · simp only [go_sem, v99, p99, Nat.reduceEqDiff, Nat.reduceAdd, Nat.reduceLeDiff, Nat.reduceMul, Nat.reduceSub, Nat.reduceLT, decide_eq_true h2]
      refine run_see (l1In_ok a.beat 0 100000) false (Views.refl rfl) rfl (fun j hj => by omega) (fun h => by cases h) ?_
      by_cases h3 : 0 ≤ a.beat ∧ a.beat ≤ 100000
      · simp only [go_sem, v99, p99, Nat.reduceEqDiff, Nat.reduceAdd, Nat.reduceLeDiff, Nat.reduceMul, Nat.reduceSub, Nat.reduceLT, decide_eq_true h3]
        refine run_see (l1In_ok a.ver 0 1000) false (Views.refl rfl) rfl (fun j hj => by omega) (fun h => by cases h) ?_
        by_cases h4 : 0 ≤ a.ver ∧ a.ver ≤ 1000
        · simp only [go_sem, v99, p99, Nat.reduceEqDiff, Nat.reduceAdd, Nat.reduceLeDiff, Nat.reduceMul, Nat.reduceSub, Nat.reduceLT, decide_eq_true h4]
          refine awp_ret ?_
          try simp only [go_sem]
          refine fin _ _ _ rfl ?_
          by_cases h5 : (a.data.size : Int) ≤ 8
          · have hr : a.Right := ⟨h1, h2, h3, h4, h5⟩
            rw [decide_eq_true h5, decide_eq_true hr]
          · have hr : ¬ a.Right := fun e => h5 e.2.2.2.2
            rw [decide_eq_false h5, decide_eq_false hr]
        · simp only [go_sem, v99, p99, Nat.reduceEqDiff, Nat.reduceAdd, Nat.reduceLeDiff, Nat.reduceMul, Nat.reduceSub, Nat.reduceLT, decide_eq_false h4]
          refine awp_ret ?_
          try simp only [go_sem]
          exact fin _ _ _ rfl (decide_eq_false (fun e : a.Right => h4 e.2.2.2.1)).symm
      · simp only [go_sem, v99, p99, Nat.reduceEqDiff, Nat.reduceAdd, Nat.reduceLeDiff, Nat.reduceMul, Nat.reduceSub, Nat.reduceLT, decide_eq_false h3]
        refine awp_ret ?_
        try simp only [go_sem]
        exact fin _ _ _ rfl (decide_eq_false (fun e : a.Right => h3 e.2.2.1)).symm
    · simp only [go_sem, v99, p99, Nat.reduceEqDiff, Nat.reduceAdd, Nat.reduceLeDiff, Nat.reduceMul, Nat.reduceSub, Nat.reduceLT, decide_eq_false h2]
      refine awp_ret ?_
      try simp only [go_sem]
      exact fin _ _ _ rfl (decide_eq_false (fun e : a.Right => h2 e.2.1)).symm
  · simp only [go_sem, v99, p99, Nat.reduceEqDiff, Nat.reduceAdd, Nat.reduceLeDiff, Nat.reduceMul, Nat.reduceSub, Nat.reduceLT, decide_eq_false h1]
    refine awp_ret ?_
    try simp only [go_sem]
    exact fin _ _ _ rfl (decide_eq_false (fun e : a.Right => h1 e.1)).symm
theorem implEntryOk_ok (a : Entry) : FS Try.prog 106 [] [.agg a.c] (.bool (decide a.Right)) [] := by
  refine FS.of (X := X106) (ac := A106) (os := O106) Try.func106 (by rfl) (by rfl) (by kernel_rfl) o106 (Nat.le_of_ble_eq_true rfl) ?_
  show AWP X106 A106 (Ends X106.vs O106 0 _ _) [.agg a.c, .tup [], .tup []] []
  obtain ⟨Q, hQ⟩ : ∃ Q, Q = Ends X106.vs O106 0 (.bool (decide a.Right)) [] := ⟨_, rfl⟩
  rw [← hQ]
  have fin : ∀ L σ q, look X106.vs L 2 = .bool q → q = decide a.Right → Q .ret L σ := by
    intro L σ q h1 h2
    rw [hQ]
    refine Ends.is (.inl rfl) (rs := [.bool q]) (by simp only [go_sem, O106, h1]) ?_ rfl
    simp [packV, h2]
  refine awp_sr ?_
  simp only [go_sem, R106_0, v106, p106, Nat.reduceEqDiff, Nat.reduceAdd, Nat.reduceLeDiff, Nat.reduceMul, Nat.reduceSub, Nat.reduceLT, Entry.c]
  refine awp_sr ?_
  simp only [go_sem, R106_1, v106, p106, Nat.reduceEqDiff, Nat.reduceAdd, Nat.reduceLeDiff, Nat.reduceMul, Nat.reduceSub, Nat.reduceLT]
  refine run_see (within_ok a.inc 1 1000) false (Views.refl rfl) rfl (fun j hj => by omega) (fun h => by cases h) ?_
  by_cases h1 : 1 ≤ a.inc ∧ a.inc ≤ 1000
  · simp only [go_sem, v106, p106, Nat.reduceEqDiff, Nat.reduceAdd, Nat.reduceLeDiff, Nat.reduceMul, Nat.reduceSub, Nat.reduceLT, decide_eq_true h1]
    refine run_see (within_ok a.rank 0 1) false (Views.refl rfl) rfl (fun j hj => by omega) (fun h => by cases h) ?_
    by_cases h2 : 0 ≤ a.rank ∧ a.rank ≤ 1
    · simp only [go_sem, v106, p106, Nat.reduceEqDiff, Nat.reduceAdd, Nat.reduceLeDiff, Nat.reduceMul, Nat.reduceSub, Nat.reduceLT, decide_eq_true h2]
      refine run_see (within_ok a.beat 0 100000) false (Views.refl rfl) rfl (fun j hj => by omega) (fun h => by cases h) ?_
      by_cases h3 : 0 ≤ a.beat ∧ a.beat ≤ 100000
      · simp only [go_sem, v106, p106, Nat.reduceEqDiff, Nat.reduceAdd, Nat.reduceLeDiff, Nat.reduceMul, Nat.reduceSub, Nat.reduceLT, decide_eq_true h3]
        refine run_see (within_ok a.ver 0 1000) false (Views.refl rfl) rfl (fun j hj => by omega) (fun h => by cases h) ?_
        by_cases h4 : 0 ≤ a.ver ∧ a.ver ≤ 1000
        · simp only [go_sem, v106, p106, Nat.reduceEqDiff, Nat.reduceAdd, Nat.reduceLeDiff, Nat.reduceMul, Nat.reduceSub, Nat.reduceLT, decide_eq_true h4]
          refine awp_ret ?_
          try simp only [go_sem]
          refine fin _ _ _ rfl ?_
          by_cases h5 : (a.data.size : Int) ≤ 8
          · have hr : a.Right := ⟨h1, h2, h3, h4, h5⟩
            rw [decide_eq_true h5, decide_eq_true hr]
          · have hr : ¬ a.Right := fun e => h5 e.2.2.2.2
            rw [decide_eq_false h5, decide_eq_false hr]
        · simp only [go_sem, v106, p106, Nat.reduceEqDiff, Nat.reduceAdd, Nat.reduceLeDiff, Nat.reduceMul, Nat.reduceSub, Nat.reduceLT, decide_eq_false h4]
          refine awp_ret ?_
          try simp only [go_sem]
          exact fin _ _ _ rfl (decide_eq_false (fun e : a.Right => h4 e.2.2.2.1)).symm
      · simp only [go_sem, v106, p106, Nat.reduceEqDiff, Nat.reduceAdd, Nat.reduceLeDiff, Nat.reduceMul, Nat.reduceSub, Nat.reduceLT, decide_eq_false h3]
        refine awp_ret ?_
        try simp only [go_sem]
        exact fin _ _ _ rfl (decide_eq_false (fun e : a.Right => h3 e.2.2.1)).symm
    · simp only [go_sem, v106, p106, Nat.reduceEqDiff, Nat.reduceAdd, Nat.reduceLeDiff, Nat.reduceMul, Nat.reduceSub, Nat.reduceLT, decide_eq_false h2]
      refine awp_ret ?_
      try simp only [go_sem]
      exact fin _ _ _ rfl (decide_eq_false (fun e : a.Right => h2 e.2.1)).symm
  · simp only [go_sem, v106, p106, Nat.reduceEqDiff, Nat.reduceAdd, Nat.reduceLeDiff, Nat.reduceMul, Nat.reduceSub, Nat.reduceLT, decide_eq_false h1]
    refine awp_ret ?_
    try simp only [go_sem]
    exact fin _ _ _ rfl (decide_eq_false (fun e : a.Right => h1 e.1)).symm
end Go.Proofs.Ytffigokicddekaa.Abs
