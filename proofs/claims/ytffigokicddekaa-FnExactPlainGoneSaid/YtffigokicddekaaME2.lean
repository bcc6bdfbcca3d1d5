/- Copies, sizes and equality, walked: items, floors. No condition. -/
import Derived.Test.YtffigokicddekaaME1
set_option linter.unusedVariables false
set_option linter.unusedSimpArgs false
set_option maxRecDepth 10000
namespace Go.Proofs.Ytffigokicddekaa.Abs
open Go Go.Proofs
def R102_0 : List AR := [⟨(some 2), none, 0, (.mov (.k .nl))⟩]
def R102_1 : List AR := [⟨(some 5), none, 0, (.mov (.t 0))⟩, ⟨(some 6), none, 0, (.len (.t 5))⟩, ⟨(some 7), none, 0, (.mks 0 6 56 [(.int .i64 0), (.int .i64 0), (.int .i64 0), (.int .i64 0), (.int .i64 0), (.str ⟨⟨[]⟩⟩)] (.t 6) (.t 6))⟩, ⟨(some 3), none, 0, (.mov (.t 7))⟩]
def R102_2 : List AR := [⟨(some 4), none, 0, (.mov (.k (.int .i64 0)))⟩]
def R102_3 : List AR := [⟨(some 8), none, 0, (.mov (.t 4))⟩, ⟨(some 9), none, 0, (.mov (.t 0))⟩, ⟨(some 10), none, 0, (.len (.t 9))⟩, ⟨(some 11), none, 0, (.bin .lss (.t 8) (.t 10))⟩]
def R102_4 : List AR := [⟨(some 14), none, 0, (.mov (.t 3))⟩, ⟨(some 15), none, 0, (.mov (.t 4))⟩, ⟨(some 16), none, 0, (.mov (.t 0))⟩, ⟨(some 17), none, 0, (.mov (.t 4))⟩, ⟨(some 18), none, 0, (.iaddr 6 (.t 16) (.t 17))⟩, ⟨(some 19), none, 0, (.load 6 true (.t 18))⟩, ⟨(some 20), none, 0, (.call false 0 0 143 [(.t 19)])⟩, ⟨(some 21), none, 0, (.iaddr 6 (.t 14) (.t 15))⟩, ⟨none, none, 0, (.store 6 (.t 21) (.t 20))⟩]
def R102_5 : List AR := [⟨(some 12), none, 0, (.mov (.t 4))⟩, ⟨(some 13), none, 0, (.bin .add (.t 12) (.k (.int .i64 1)))⟩, ⟨(some 4), none, 0, (.mov (.t 13))⟩]
def A102_0 : AC := (.seq (.block 1 (.reg 0 R102_4)) (.reg 0 R102_5))
def L102_0 : AC := (.seq (.seq (.reg 0 R102_3) (.cond (.t 11) .skip (.exit 0))) A102_0)
def R102_6 : List AR := [⟨(some 22), none, 0, (.mov (.t 3))⟩, ⟨(some 2), none, 0, (.mov (.t 22))⟩]
def A102_1 : AC := (.seq (.reg 0 R102_6) .ret)
def A102_2 : AC := (.seq (.seq (.reg 0 R102_2) (.block 0 (.loop L102_0))) A102_1)
def A102_3 : AC := (.seq (.reg 1 R102_1) A102_2)
def A102 : AC := (.seq (.reg 0 R102_0) A102_3)
def O102 : List AO := [(.mov (.t 2))]
def G102 : Fns := ⟨fun f => false, fun f => 0⟩
noncomputable def X102 : Cx := ⟨Try.prog, G102, drawD, 23, [0, 2, 3, 4, 11]⟩
theorem c102 : (Try.f102.body).bind (compC X102.P X102.Γ X102.D X102.nt) = some A102 := by kernel_rfl
theorem o102 : compRes X102.P Try.f102.results.toList = some O102 := by kernel_rfl
theorem v102 : X102.vs = [0, 2, 3, 4, 11] := rfl
theorem p102 : X102.P = Try.prog := rfl
def R96_0 : List AR := [⟨(some 4), none, 0, (.mov (.k (.int .i64 0)))⟩]
def R96_1 : List AR := [⟨(some 6), none, 0, (.mov (.t 1))⟩, ⟨(some 7), none, 0, (.mov (.t 0))⟩, ⟨(some 8), none, 0, (.len (.t 7))⟩, ⟨(some 9), none, 0, (.bin .sub (.t 6) (.t 8))⟩, ⟨(some 1), none, 0, (.mov (.t 9))⟩]
def R96_2 : List AR := [⟨(some 10), none, 0, (.mov (.t 1))⟩, ⟨(some 11), none, 0, (.bin .lss (.t 10) (.k (.int .i64 0)))⟩]
def R96_3 : List AR := [⟨(some 4), none, 0, (.mov (.k (.int .i64 (-1))))⟩]
def R96_4 : List AR := [⟨(some 5), none, 0, (.mov (.k (.int .i64 0)))⟩]
def R96_5 : List AR := [⟨(some 12), none, 0, (.mov (.t 5))⟩, ⟨(some 13), none, 0, (.mov (.t 0))⟩, ⟨(some 14), none, 0, (.len (.t 13))⟩, ⟨(some 15), none, 0, (.bin .lss (.t 12) (.t 14))⟩]
def R96_6 : List AR := [⟨(some 18), none, 0, (.mov (.t 0))⟩, ⟨(some 19), none, 0, (.mov (.t 5))⟩, ⟨(some 20), none, 0, (.iaddr 6 (.t 18) (.t 19))⟩, ⟨(some 21), none, 0, (.load 6 true (.t 20))⟩, ⟨(some 22), none, 0, (.mov (.t 1))⟩, ⟨(some 23), none, 0, (.call false 0 0 142 [(.t 21), (.t 22)])⟩, ⟨(some 1), none, 0, (.mov (.t 23))⟩]
def R96_7 : List AR := [⟨(some 24), none, 0, (.mov (.t 1))⟩, ⟨(some 25), none, 0, (.bin .lss (.t 24) (.k (.int .i64 0)))⟩]
def R96_8 : List AR := [⟨(some 4), none, 0, (.mov (.k (.int .i64 (-1))))⟩]
def A96_0 : AC := (.seq (.reg 0 R96_7) (.cond (.t 25) (.seq (.reg 0 R96_8) .ret) .skip))
def R96_9 : List AR := [⟨(some 16), none, 0, (.mov (.t 5))⟩, ⟨(some 17), none, 0, (.bin .add (.t 16) (.k (.int .i64 1)))⟩, ⟨(some 5), none, 0, (.mov (.t 17))⟩]
def A96_1 : AC := (.seq (.block 1 (.seq (.reg 0 R96_6) A96_0)) (.reg 0 R96_9))
def L96_0 : AC := (.seq (.seq (.reg 0 R96_5) (.cond (.t 15) .skip (.exit 0))) A96_1)
def R96_10 : List AR := [⟨(some 26), none, 0, (.mov (.t 1))⟩, ⟨(some 4), none, 0, (.mov (.t 26))⟩]
def A96_2 : AC := (.seq (.reg 0 R96_10) .ret)
def A96_3 : AC := (.seq (.seq (.reg 0 R96_4) (.block 0 (.loop L96_0))) A96_2)
def A96_4 : AC := (.seq (.seq (.reg 0 R96_2) (.cond (.t 11) (.seq (.reg 0 R96_3) .ret) .skip)) A96_3)
def A96_5 : AC := (.seq (.reg 0 R96_1) A96_4)
def A96 : AC := (.seq (.reg 0 R96_0) A96_5)
def O96 : List AO := [(.mov (.t 4))]
def G96 : Fns := ⟨fun f => false, fun f => 0⟩
noncomputable def X96 : Cx := ⟨Try.prog, G96, drawD, 27, [0, 1, 4, 5, 11, 15, 25]⟩
theorem c96 : (Try.f96.body).bind (compC X96.P X96.Γ X96.D X96.nt) = some A96 := by kernel_rfl
theorem o96 : compRes X96.P Try.f96.results.toList = some O96 := by kernel_rfl
theorem v96 : X96.vs = [0, 1, 4, 5, 11, 15, 25] := rfl
theorem p96 : X96.P = Try.prog := rfl
def R97_0 : List AR := [⟨(some 4), none, 0, (.mov (.k (.int .i64 0)))⟩]
def R97_1 : List AR := [⟨(some 5), none, 0, (.mov (.t 1))⟩, ⟨(some 6), none, 0, (.mov (.t 0))⟩, ⟨(some 7), none, 0, (.len (.t 6))⟩, ⟨(some 8), none, 0, (.bin .sub (.t 5) (.t 7))⟩, ⟨(some 1), none, 0, (.mov (.t 8))⟩]
def R97_2 : List AR := [⟨(some 9), none, 0, (.mov (.t 1))⟩, ⟨(some 10), none, 0, (.bin .lss (.t 9) (.k (.int .i64 0)))⟩]
def R97_3 : List AR := [⟨(some 4), none, 0, (.mov (.k (.int .i64 (-1))))⟩]
def R97_4 : List AR := [⟨(some 11), none, 0, (.mov (.t 1))⟩, ⟨(some 4), none, 0, (.mov (.t 11))⟩]
def A97_0 : AC := (.seq (.reg 0 R97_4) .ret)
def A97_1 : AC := (.seq (.seq (.reg 0 R97_2) (.cond (.t 10) (.seq (.reg 0 R97_3) .ret) .skip)) A97_0)
def A97_2 : AC := (.seq (.reg 0 R97_1) A97_1)
def A97 : AC := (.seq (.reg 0 R97_0) A97_2)
def O97 : List AO := [(.mov (.t 4))]
def G97 : Fns := ⟨fun f => false, fun f => 0⟩
noncomputable def X97 : Cx := ⟨Try.prog, G97, drawD, 12, [0, 1, 4, 10]⟩
theorem c97 : (Try.f97.body).bind (compC X97.P X97.Γ X97.D X97.nt) = some A97 := by kernel_rfl
theorem o97 : compRes X97.P Try.f97.results.toList = some O97 := by kernel_rfl
theorem v97 : X97.vs = [0, 1, 4, 10] := rfl
theorem p97 : X97.P = Try.prog := rfl
def R30_0 : List AR := [⟨(some 4), none, 0, (.mov (.k (.bool false)))⟩]
def R30_1 : List AR := [⟨(some 6), none, 0, (.mov (.t 0))⟩, ⟨(some 7), none, 0, (.len (.t 6))⟩, ⟨(some 8), none, 0, (.mov (.t 1))⟩, ⟨(some 9), none, 0, (.len (.t 8))⟩, ⟨(some 10), none, 0, (.bin .neq (.t 7) (.t 9))⟩]
def R30_2 : List AR := [⟨(some 4), none, 0, (.mov (.k (.bool false)))⟩]
def R30_3 : List AR := [⟨(some 5), none, 0, (.mov (.k (.int .i64 0)))⟩]
def R30_4 : List AR := [⟨(some 11), none, 0, (.mov (.t 5))⟩, ⟨(some 12), none, 0, (.mov (.t 0))⟩, ⟨(some 13), none, 0, (.len (.t 12))⟩, ⟨(some 14), none, 0, (.bin .lss (.t 11) (.t 13))⟩]
def R30_5 : List AR := [⟨(some 17), none, 0, (.mov (.t 0))⟩, ⟨(some 18), none, 0, (.mov (.t 5))⟩, ⟨(some 19), none, 0, (.iaddr 6 (.t 17) (.t 18))⟩, ⟨(some 20), none, 0, (.load 6 true (.t 19))⟩, ⟨(some 21), none, 0, (.mov (.t 1))⟩, ⟨(some 22), none, 0, (.mov (.t 5))⟩, ⟨(some 23), none, 0, (.iaddr 6 (.t 21) (.t 22))⟩, ⟨(some 24), none, 0, (.load 6 true (.t 23))⟩, ⟨(some 25), none, 0, (.call false 0 0 63 [(.t 20), (.t 24)])⟩, ⟨(some 26), none, 0, (.not (.t 25))⟩]
def R30_6 : List AR := [⟨(some 4), none, 0, (.mov (.k (.bool false)))⟩]
def R30_7 : List AR := [⟨(some 15), none, 0, (.mov (.t 5))⟩, ⟨(some 16), none, 0, (.bin .add (.t 15) (.k (.int .i64 1)))⟩, ⟨(some 5), none, 0, (.mov (.t 16))⟩]
def A30_0 : AC := (.seq (.block 1 (.seq (.draw 0 R30_5) (.cond (.t 26) (.seq (.reg 0 R30_6) .ret) .skip))) (.reg 0 R30_7))
def L30_0 : AC := (.seq (.seq (.reg 0 R30_4) (.cond (.t 14) .skip (.exit 0))) A30_0)
def R30_8 : List AR := [⟨(some 4), none, 0, (.mov (.k (.bool true)))⟩]
def A30_1 : AC := (.seq (.reg 0 R30_8) .ret)
def A30_2 : AC := (.seq (.seq (.reg 0 R30_3) (.block 0 (.loop L30_0))) A30_1)
def A30_3 : AC := (.seq (.seq (.reg 0 R30_1) (.cond (.t 10) (.seq (.reg 0 R30_2) .ret) .skip)) A30_2)
def A30 : AC := (.seq (.reg 0 R30_0) A30_3)
def O30 : List AO := [(.mov (.t 4))]
def G30 : Fns := ⟨fun f => false, fun f => 0⟩
noncomputable def X30 : Cx := ⟨Try.prog, G30, drawD, 27, [0, 1, 4, 5, 10, 14, 26]⟩
theorem c30 : (Try.f30.body).bind (compC X30.P X30.Γ X30.D X30.nt) = some A30 := by kernel_rfl
theorem o30 : compRes X30.P Try.f30.results.toList = some O30 := by kernel_rfl
theorem v30 : X30.vs = [0, 1, 4, 5, 10, 14, 26] := rfl
theorem p30 : X30.P = Try.prog := rfl
theorem toItemS_ok (xs : List Item) (h : szS Item.sz xs ≤ 1048576) : FS Try.prog 102 [] [.fz 6 (rw_ Item.c xs)] (.fz 6 (rw_ Item.c xs)) [] := by
  have hx : xs.length ≤ 1048576 := by unfold szS at h; omega
  refine FS.of (X := X102) (ac := A102) (os := O102) Try.func102 (by rfl) (by rfl) (by kernel_rfl) o102 (Nat.le_of_ble_eq_true rfl) ?_
  show AWP X102 A102 (Ends X102.vs O102 0 _ _) [.fz 6 (rw_ Item.c xs), .tup [], .tup [], .tup [], .tup []] []
  obtain ⟨Q, hQ⟩ : ∃ Q, Q = Ends X102.vs O102 0 (.fz 6 (rw_ Item.c xs)) [] := ⟨_, rfl⟩
  rw [← hQ]
  refine awp_sr ?_
  simp only [go_sem, R102_0, v102, p102, Nat.reduceEqDiff, Nat.reduceAdd, Nat.reduceLeDiff, Nat.reduceMul, Nat.reduceSub, Nat.reduceLT]
  refine awp_sr ?_
  simp only [go_sem, R102_1, v102, p102, Nat.reduceEqDiff, Nat.reduceAdd, Nat.reduceLeDiff, Nat.reduceMul, Nat.reduceSub, Nat.reduceLT]
  refine ⟨by omega, ?_⟩
  refine awp_sr2 ?_
  simp only [go_sem, R102_2, v102, p102, Nat.reduceEqDiff, Nat.reduceAdd, Nat.reduceLeDiff, Nat.reduceMul, Nat.reduceSub, Nat.reduceLT]
  refine awp_for (fun m L σ => ∃ i x11 ys, m = xs.length - i ∧ i ≤ xs.length ∧ ys.length = xs.length ∧ ys.take i = xs.take i ∧ L = [.fz 6 (rw_ Item.c xs), .nl, .sl 0 6 0 xs.length, .int .i64 (i : Nat), x11] ∧ σ = [.live ⟨6, rw_ Item.c ys⟩]) xs.length
    ⟨0, _, List.replicate xs.length Item.zero, rfl, Nat.zero_le _, by simp, by simp, rfl, congrArg (fun r => [Slot.live ⟨6, r⟩]) (rw_rep Item.c xs.length Item.zero)⟩ ?_
  rintro m L σ ⟨i, x11, ys, rfl, hi, hl, ht, rfl, rfl⟩
  refine awp_sr2 ?_
  simp only [go_sem, R102_3, v102, p102, Nat.reduceEqDiff, Nat.reduceAdd, Nat.reduceLeDiff, Nat.reduceMul, Nat.reduceSub, Nat.reduceLT]
  refine awp_if rfl ?_ ?_
  · intro h1
    have h1 : i < xs.length := by omega
    have h2 : i < ys.length := by omega
    refine awp_skip ?_
    simp only [go_sem]
    refine awp_seq (awp_block ?_)
    refine awp_reg ?_
    simp only [go_sem, R102_4, v102, p102, Nat.reduceEqDiff, Nat.reduceAdd, Nat.reduceLeDiff, Nat.reduceMul, Nat.reduceSub, Nat.reduceLT, rw_at _ h1, Item.c]
    refine run_see (toItem_ok xs[i]) false (Views.refl rfl) rfl (fun j hj => by omega) (fun h => by cases h) ?_
    simp only [go_sem, v102, p102, Nat.reduceEqDiff, Nat.reduceAdd, Nat.reduceLeDiff, Nat.reduceMul, Nat.reduceSub, Nat.reduceLT, rw_at _ h2, Item.c]
    refine ⟨by omega, ?_⟩
    refine awp_reg ?_
    simp only [go_sem, R102_5, v102, p102, Nat.reduceEqDiff, Nat.reduceAdd, Nat.reduceLeDiff, Nat.reduceMul, Nat.reduceSub, Nat.reduceLT, wrap_succ (i := i) (by omega)]
    refine ⟨xs.length - (i + 1), by omega, i + 1, _, ys.set i xs[i], rfl, by omega, by simpa using hl, ?_, rfl, congrArg (fun r => [Slot.live ⟨6, r⟩]) (rw_set Item.c ys i xs[i])⟩
    rw [List.take_succ_eq_append_getElem h1, List.take_succ_eq_append_getElem (by simpa using h2), List.take_set_of_le (Nat.le_refl _), ht]
    simp
  · intro h1
    refine awp_exit ?_
    simp only [go_sem]
    refine awp_sr ?_
    simp only [go_sem, R102_6, v102, p102, Nat.reduceEqDiff, Nat.reduceAdd, Nat.reduceLeDiff, Nat.reduceMul, Nat.reduceSub, Nat.reduceLT]
    refine awp_ret ?_
    try simp only [go_sem]
    have : i = xs.length := by omega
    subst this
    rw [List.take_length, ← hl, List.take_length] at ht
    subst ht
    rw [hQ]
    exact Ends.frzSl (.inl rfl) rfl rfl (by simp [rw_]) (rw_closed Item.c_closed _)
theorem szItemS_ok (xs : List Item) (n : Nat) (hn : n ≤ 1048576) (ha : okS Item.ok xs) : FS Try.prog 96 [] [.fz 6 (rw_ Item.c xs), .int .i64 n] (.int .i64 (left n (szS Item.sz xs))) [] := by
  refine FS.of (X := X96) (ac := A96) (os := O96) Try.func96 (by rfl) (by rfl) (by kernel_rfl) o96 (Nat.le_of_ble_eq_true rfl) ?_
  show AWP X96 A96 (Ends X96.vs O96 0 _ _) [.fz 6 (rw_ Item.c xs), .int .i64 n, .tup [], .tup [], .tup [], .tup [], .tup []] []
  obtain ⟨Q, hQ⟩ : ∃ Q, Q = Ends X96.vs O96 0 (.int .i64 (left n (szS Item.sz xs))) [] := ⟨_, rfl⟩
  rw [← hQ]
  obtain ⟨ha1, ha2⟩ := ha
  have ha1 : xs.length ≤ 1000000000000000 := ha1
  refine awp_sr ?_
  simp only [go_sem, R96_0, v96, p96, Nat.reduceEqDiff, Nat.reduceAdd, Nat.reduceLeDiff, Nat.reduceMul, Nat.reduceSub, Nat.reduceLT]
  refine awp_sr ?_
  simp only [go_sem, R96_1, v96, p96, Nat.reduceEqDiff, Nat.reduceAdd, Nat.reduceLeDiff, Nat.reduceMul, Nat.reduceSub, Nat.reduceLT, wrap_i64 (n := (n : Int) - xs.length) (by omega) (by omega)]
  refine awp_sr2 ?_
  simp only [go_sem, R96_2, v96, p96, Nat.reduceEqDiff, Nat.reduceAdd, Nat.reduceLeDiff, Nat.reduceMul, Nat.reduceSub, Nat.reduceLT]
  refine awp_if rfl ?_ ?_
  · intro h
    refine awp_sr ?_
    simp only [go_sem, R96_3, v96, p96, Nat.reduceEqDiff, Nat.reduceAdd, Nat.reduceLeDiff, Nat.reduceMul, Nat.reduceSub, Nat.reduceLT]
    refine awp_ret ?_
    try simp only [go_sem]
    rw [hQ]
    exact Ends.is (.inl rfl) rfl (congrArg (V.int .i64) (left_no (by unfold szS; omega)).symm) rfl
  intro h
  have h0 : xs.length ≤ n := by omega
  refine awp_skip ?_
  simp only [go_sem]
  refine awp_sr2 ?_
  simp only [go_sem, R96_4, v96, p96, Nat.reduceEqDiff, Nat.reduceAdd, Nat.reduceLeDiff, Nat.reduceMul, Nat.reduceSub, Nat.reduceLT]
  refine awp_for (fun m L σ => ∃ i x11 x15 x25, m = xs.length - i ∧ i ≤ xs.length ∧ xs.length + sumBy Item.sz (xs.take i) ≤ n ∧ L = [.fz 6 (rw_ Item.c xs), .int .i64 ((n - (xs.length + sumBy Item.sz (xs.take i)) : Nat) : Int), .int .i64 0, .int .i64 (i : Nat), x11, x15, x25]) xs.length
    ⟨0, _, _, _, rfl, Nat.zero_le _, by simpa [sumBy] using h0, by rw [show ((n : Int) - xs.length) = ((n - (xs.length + sumBy Item.sz (xs.take 0)) : Nat) : Int) by simp [sumBy]; omega]; rfl⟩ ?_
  rintro m L σ ⟨i, x11, x15, x25, rfl, hi, hs, rfl⟩
  refine awp_sr2 ?_
  simp only [go_sem, R96_5, v96, p96, Nat.reduceEqDiff, Nat.reduceAdd, Nat.reduceLeDiff, Nat.reduceMul, Nat.reduceSub, Nat.reduceLT]
  refine awp_if rfl ?_ ?_
  · intro h1
    have h1 : i < xs.length := by omega
    refine awp_skip ?_
    simp only [go_sem]
    refine awp_seq (awp_block ?_)
    refine awp_sr ?_
    simp only [go_sem, R96_6, v96, p96, Nat.reduceEqDiff, Nat.reduceAdd, Nat.reduceLeDiff, Nat.reduceMul, Nat.reduceSub, Nat.reduceLT, rw_at _ h1, Item.c]
    refine run_see (szItem_ok xs[i] (n - (xs.length + sumBy Item.sz (xs.take i))) (by omega) (ha2 _ (List.getElem_mem h1))) false (Views.refl rfl) rfl (fun j hj => by omega) (fun h => by cases h) ?_
    simp only [go_sem, v96, p96, Nat.reduceEqDiff, Nat.reduceAdd, Nat.reduceLeDiff, Nat.reduceMul, Nat.reduceSub, Nat.reduceLT]
    have e1 := sumBy_take Item.sz h1
    have e2 := sumBy_le Item.sz xs (i + 1)
    refine awp_sr ?_
    simp only [go_sem, R96_7, v96, p96, Nat.reduceEqDiff, Nat.reduceAdd, Nat.reduceLeDiff, Nat.reduceMul, Nat.reduceSub, Nat.reduceLT]
    refine awp_if rfl ?_ ?_
    · intro h2
      refine awp_sr ?_
      simp only [go_sem, R96_8, v96, p96, Nat.reduceEqDiff, Nat.reduceAdd, Nat.reduceLeDiff, Nat.reduceMul, Nat.reduceSub, Nat.reduceLT]
      refine awp_ret ?_
      try simp only [go_sem]
      rw [hQ]
      refine Ends.is (.inl rfl) rfl (congrArg (V.int .i64) (left_no ?_).symm) rfl
      have : ¬ Item.sz xs[i] ≤ n - (xs.length + sumBy Item.sz (xs.take i)) := fun e => by rw [left_is e] at h2; omega
      unfold szS; omega
    · intro h2
      obtain ⟨e3, e4⟩ := left_pos h2
      refine awp_skip ?_
      simp only [go_sem]
      refine awp_reg ?_
      simp only [go_sem, R96_9, v96, p96, Nat.reduceEqDiff, Nat.reduceAdd, Nat.reduceLeDiff, Nat.reduceMul, Nat.reduceSub, Nat.reduceLT, wrap_succ (i := i) (by omega)]
      rw [e3, show (n - (xs.length + sumBy Item.sz (xs.take i)) - Item.sz xs[i] : Nat) = n - (xs.length + sumBy Item.sz (xs.take (i + 1))) by omega]
      exact ⟨xs.length - (i + 1), by omega, i + 1, _, _, _, rfl, by omega, by omega, rfl⟩
  · intro h1
    refine awp_exit ?_
    simp only [go_sem]
    refine awp_sr ?_
    simp only [go_sem, R96_10, v96, p96, Nat.reduceEqDiff, Nat.reduceAdd, Nat.reduceLeDiff, Nat.reduceMul, Nat.reduceSub, Nat.reduceLT]
    refine awp_ret ?_
    try simp only [go_sem]
    have : i = xs.length := by omega
    subst this
    rw [hQ]
    refine Ends.is (.inl rfl) rfl (congrArg (V.int .i64) ?_) rfl
    rw [left_is (by unfold szS; rw [List.take_length] at hs; omega), List.take_length]
    rfl
theorem szFloorS_ok (xs : List Floor) (n : Nat) (hn : n ≤ 1048576) (ha : xs.length ≤ big) : FS Try.prog 97 [] [.fz 2 (rw_ Floor.c xs), .int .i64 n] (.int .i64 (left n xs.length)) [] := by
  refine FS.of (X := X97) (ac := A97) (os := O97) Try.func97 (by rfl) (by rfl) (by kernel_rfl) o97 (Nat.le_of_ble_eq_true rfl) ?_
  show AWP X97 A97 (Ends X97.vs O97 0 _ _) [.fz 2 (rw_ Floor.c xs), .int .i64 n, .tup [], .tup []] []
  obtain ⟨Q, hQ⟩ : ∃ Q, Q = Ends X97.vs O97 0 (.int .i64 (left n xs.length)) [] := ⟨_, rfl⟩
  rw [← hQ]
  have ha : xs.length ≤ 1000000000000000 := ha
  refine awp_sr ?_
  simp only [go_sem, R97_0, v97, p97, Nat.reduceEqDiff, Nat.reduceAdd, Nat.reduceLeDiff, Nat.reduceMul, Nat.reduceSub, Nat.reduceLT]
  refine awp_sr ?_
  simp only [go_sem, R97_1, v97, p97, Nat.reduceEqDiff, Nat.reduceAdd, Nat.reduceLeDiff, Nat.reduceMul, Nat.reduceSub, Nat.reduceLT, wrap_i64 (n := (n : Int) - xs.length) (by omega) (by omega)]
  refine awp_sr2 ?_
  simp only [go_sem, R97_2, v97, p97, Nat.reduceEqDiff, Nat.reduceAdd, Nat.reduceLeDiff, Nat.reduceMul, Nat.reduceSub, Nat.reduceLT]
  refine awp_if rfl ?_ ?_
  · intro h
    refine awp_sr ?_
    simp only [go_sem, R97_3, v97, p97, Nat.reduceEqDiff, Nat.reduceAdd, Nat.reduceLeDiff, Nat.reduceMul, Nat.reduceSub, Nat.reduceLT]
    refine awp_ret ?_
    try simp only [go_sem]
    rw [hQ]
    exact Ends.is (.inl rfl) rfl (congrArg (V.int .i64) (left_no (by omega)).symm) rfl
  intro h
  refine awp_skip ?_
  simp only [go_sem]
  refine awp_sr ?_
  simp only [go_sem, R97_4, v97, p97, Nat.reduceEqDiff, Nat.reduceAdd, Nat.reduceLeDiff, Nat.reduceMul, Nat.reduceSub, Nat.reduceLT]
  refine awp_ret ?_
  try simp only [go_sem]
  rw [hQ]
  exact Ends.is (.inl rfl) rfl (congrArg (V.int .i64) (by rw [left_is (by omega)]; omega)) rfl
theorem eqItem_ok (a b : Item) : FS Try.prog 63 [] [.agg a.c, .agg b.c] (.bool (decide (a = b))) [] := by
  refine FS.of (X := X63) (ac := A63) (os := O63) Try.func63 (by rfl) (by rfl) (by kernel_rfl) o63 (Nat.le_of_ble_eq_true rfl) ?_
  show AWP X63 A63 (Ends X63.vs O63 0 _ _) [.agg a.c, .agg b.c, .tup [], .tup [], .tup [], .tup [], .tup []] []
  obtain ⟨Q, hQ⟩ : ∃ Q, Q = Ends X63.vs O63 0 (.bool (decide (a = b))) [] := ⟨_, rfl⟩
  rw [← hQ]
  have fin : ∀ L σ q, look X63.vs L 4 = .bool q → q = decide (a = b) → Q .ret L σ := by
    intro L σ q h1 h2
    rw [hQ]
    refine Ends.is (.inl rfl) (rs := [.bool q]) (by simp only [go_sem, O63, h1]) ?_ rfl
    simp [packV, h2]
  refine awp_sr ?_
  simp only [go_sem, R63_0, v63, p63, Nat.reduceEqDiff, Nat.reduceAdd, Nat.reduceLeDiff, Nat.reduceMul, Nat.reduceSub, Nat.reduceLT, Item.c]
  refine awp_sr2 ?_
  simp only [go_sem, R63_1, v63, p63, Nat.reduceEqDiff, Nat.reduceAdd, Nat.reduceLeDiff, Nat.reduceMul, Nat.reduceSub, Nat.reduceLT]
  refine awp_if rfl ?_ ?_
  · intro h
    refine awp_sr ?_
    simp only [go_sem, R63_2, v63, p63, Nat.reduceEqDiff, Nat.reduceAdd, Nat.reduceLeDiff, Nat.reduceMul, Nat.reduceSub, Nat.reduceLT]
    refine awp_ret ?_
    try simp only [go_sem]
    exact fin _ _ _ rfl (decide_eq_false fun e => h (by rw [e])).symm
  intro h1
  refine awp_skip ?_
  simp only [go_sem]
  refine awp_sr2 ?_
  simp only [go_sem, R63_3, v63, p63, Nat.reduceEqDiff, Nat.reduceAdd, Nat.reduceLeDiff, Nat.reduceMul, Nat.reduceSub, Nat.reduceLT]
  refine run_see (eqEntry_ok a.entry b.entry) false (Views.refl rfl) rfl (fun j hj => by omega) (fun h => by cases h) ?_
  simp only [go_sem, v63, p63, Nat.reduceEqDiff, Nat.reduceAdd, Nat.reduceLeDiff, Nat.reduceMul, Nat.reduceSub, Nat.reduceLT]
  refine awp_if' rfl ?_ ?_
  · intro h
    refine awp_sr ?_
    simp only [go_sem, R63_4, v63, p63, Nat.reduceEqDiff, Nat.reduceAdd, Nat.reduceLeDiff, Nat.reduceMul, Nat.reduceSub, Nat.reduceLT]
    refine awp_ret ?_
    try simp only [go_sem]
    exact fin _ _ _ rfl (decide_eq_false fun e => h (by rw [e])).symm
  intro h2
  refine awp_skip ?_
  simp only [go_sem]
  refine awp_sr ?_
  simp only [go_sem, R63_5, v63, p63, Nat.reduceEqDiff, Nat.reduceAdd, Nat.reduceLeDiff, Nat.reduceMul, Nat.reduceSub, Nat.reduceLT]
  refine awp_ret ?_
  try simp only [go_sem]
  refine fin _ _ _ rfl (decide_eq_true ?_).symm
  cases a; cases b
  simp at h1 h2
  simp [h1, h2]
theorem eqItemS_ok (xs ys : List Item) (hx : xs.length ≤ 1000000000) : FS Try.prog 30 [] [.fz 6 (rw_ Item.c xs), .fz 6 (rw_ Item.c ys)] (.bool (decide (xs = ys))) [] := by
  refine FS.of (X := X30) (ac := A30) (os := O30) Try.func30 (by rfl) (by rfl) (by kernel_rfl) o30 (Nat.le_of_ble_eq_true rfl) ?_
  show AWP X30 A30 (Ends X30.vs O30 0 _ _) [.fz 6 (rw_ Item.c xs), .fz 6 (rw_ Item.c ys), .tup [], .tup [], .tup [], .tup [], .tup []] []
  obtain ⟨Q, hQ⟩ : ∃ Q, Q = Ends X30.vs O30 0 (.bool (decide (xs = ys))) [] := ⟨_, rfl⟩
  rw [← hQ]
  have fin : ∀ L σ b, look X30.vs L 4 = .bool b → b = decide (xs = ys) → Q .ret L σ := by
    intro L σ b h1 h2
    rw [hQ]
    refine Ends.is (.inl rfl) (rs := [.bool b]) (by simp only [go_sem, O30, h1]) ?_ rfl
    simp [packV, h2]
  refine awp_sr ?_
  simp only [go_sem, R30_0, v30, p30, Nat.reduceEqDiff, Nat.reduceAdd, Nat.reduceLeDiff, Nat.reduceMul, Nat.reduceSub, Nat.reduceLT]
  refine awp_sr2 ?_
  simp only [go_sem, R30_1, v30, p30, Nat.reduceEqDiff, Nat.reduceAdd, Nat.reduceLeDiff, Nat.reduceMul, Nat.reduceSub, Nat.reduceLT]
  refine awp_if rfl ?_ ?_
  · intro h
    refine awp_sr ?_
    simp only [go_sem, R30_2, v30, p30, Nat.reduceEqDiff, Nat.reduceAdd, Nat.reduceLeDiff, Nat.reduceMul, Nat.reduceSub, Nat.reduceLT]
    refine awp_ret ?_
    try simp only [go_sem]
    refine fin _ _ false rfl ?_
    symm; simp; intro e; subst e; exact h rfl
  intro hne
  have hl : xs.length = ys.length := by omega
  refine awp_skip ?_
  simp only [go_sem]
  refine awp_sr2 ?_
  simp only [go_sem, R30_3, v30, p30, Nat.reduceEqDiff, Nat.reduceAdd, Nat.reduceLeDiff, Nat.reduceMul, Nat.reduceSub, Nat.reduceLT]
  refine awp_for (fun m L σ => ∃ i x10 x14 x25, m = xs.length - i ∧ i ≤ xs.length ∧ xs.take i = ys.take i ∧ L = [.fz 6 (rw_ Item.c xs), .fz 6 (rw_ Item.c ys), .bool false, .int .i64 (i : Nat), x10, x14, x25]) xs.length ⟨0, _, _, _, rfl, Nat.zero_le _, by simp, rfl⟩ ?_
  rintro m L σ ⟨i, x10, x14, x25, rfl, hi, ht, rfl⟩
  refine awp_sr2 ?_
  simp only [go_sem, R30_4, v30, p30, Nat.reduceEqDiff, Nat.reduceAdd, Nat.reduceLeDiff, Nat.reduceMul, Nat.reduceSub, Nat.reduceLT]
  refine awp_if rfl ?_ ?_
  · intro h1
    have h1 : i < xs.length := by omega
    have h2 : i < ys.length := by omega
    refine awp_skip ?_
    simp only [go_sem]
    refine awp_seq (awp_block ?_)
    refine awp_sd mixed rfl (by rfl) ?_
    simp only [go_sem, R30_5, v30, p30, Nat.reduceEqDiff, Nat.reduceAdd, Nat.reduceLeDiff, Nat.reduceMul, Nat.reduceSub, Nat.reduceLT, rw_at _ h1, rw_at _ h2, Item.c]
    refine run_see (eqItem_ok xs[i] ys[i]) false (Views.refl rfl) rfl (fun j hj => by omega) (fun h => by cases h) ?_
    simp only [go_sem, v30, p30, Nat.reduceEqDiff, Nat.reduceAdd, Nat.reduceLeDiff, Nat.reduceMul, Nat.reduceSub, Nat.reduceLT]
    refine awp_if' rfl ?_ ?_
    · intro h3
      refine awp_sr ?_
      simp only [go_sem, R30_6, v30, p30, Nat.reduceEqDiff, Nat.reduceAdd, Nat.reduceLeDiff, Nat.reduceMul, Nat.reduceSub, Nat.reduceLT]
      refine awp_ret ?_
      try simp only [go_sem]
      refine fin _ _ false rfl ?_
      symm; simp; intro e; subst e; exact h3 rfl
    · intro h3
      refine awp_skip ?_
      simp only [go_sem]
      refine awp_reg ?_
      simp only [go_sem, R30_7, v30, p30, Nat.reduceEqDiff, Nat.reduceAdd, Nat.reduceLeDiff, Nat.reduceMul, Nat.reduceSub, Nat.reduceLT, wrap_succ (i := i) (by omega)]
      refine ⟨xs.length - (i + 1), by omega, i + 1, _, _, _, rfl, by omega, ?_, rfl⟩
      rw [List.take_succ_eq_append_getElem h1, List.take_succ_eq_append_getElem h2, ht, h3]
  · intro h1
    refine awp_exit ?_
    simp only [go_sem]
    refine awp_sr ?_
    simp only [go_sem, R30_8, v30, p30, Nat.reduceEqDiff, Nat.reduceAdd, Nat.reduceLeDiff, Nat.reduceMul, Nat.reduceSub, Nat.reduceLT]
    refine awp_ret ?_
    try simp only [go_sem]
    refine fin _ _ true rfl ?_
    have : i = xs.length := by omega
    subst this
    rw [List.take_length, hl, List.take_length] at ht
    simp [ht]
end Go.Proofs.Ytffigokicddekaa.Abs
