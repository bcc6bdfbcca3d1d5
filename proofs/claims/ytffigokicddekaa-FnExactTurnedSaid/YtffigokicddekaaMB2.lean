/- Rows of whole numbers: copied, turned, marked, looked through. No condition. -/
import Derived.Test.YtffigokicddekaaMB1
set_option linter.unusedVariables false
set_option linter.unusedSimpArgs false
set_option maxRecDepth 10000
namespace Go.Proofs.Ytffigokicddekaa.Abs
open Go Go.Proofs
def R46_0 : List AR := [⟨(some 2), none, 0, (.mov (.k .nl))⟩]
def R46_1 : List AR := [⟨(some 3), none, 0, (.bslice 0 1 0 [(.int .i64 0)] [])⟩, ⟨(some 4), none, 0, (.mov (.t 0))⟩, ⟨(some 5), none, 0, (.app 1 1 8 (.t 3) (.t 4))⟩, ⟨(some 2), none, 0, (.mov (.t 5))⟩]
def A46_0 : AC := (.seq (.reg 2 R46_1) .ret)
def A46 : AC := (.seq (.reg 0 R46_0) A46_0)
def O46 : List AO := [(.mov (.t 2))]
def G46 : Fns := ⟨fun f => false, fun f => 0⟩
noncomputable def X46 : Cx := ⟨Try.prog, G46, drawD, 6, [0, 2]⟩
theorem c46 : (Try.f46.body).bind (compC X46.P X46.Γ X46.D X46.nt) = some A46 := by kernel_rfl
theorem o46 : compRes X46.P Try.f46.results.toList = some O46 := by kernel_rfl
theorem v46 : X46.vs = [0, 2] := rfl
theorem p46 : X46.P = Try.prog := rfl
def R10_0 : List AR := [⟨(some 4), none, 0, (.mov (.k .nl))⟩]
def R10_1 : List AR := [⟨(some 8), none, 0, (.bslice 0 1 0 [(.int .i64 0)] [])⟩, ⟨(some 5), none, 0, (.mov (.t 8))⟩]
def R10_2 : List AR := [⟨(some 9), none, 0, (.mov (.t 0))⟩, ⟨(some 10), none, 0, (.len (.t 9))⟩, ⟨(some 6), none, 0, (.mov (.t 10))⟩]
def R10_3 : List AR := [⟨(some 11), none, 0, (.mov (.t 6))⟩, ⟨(some 12), none, 0, (.bin .eql (.t 11) (.k (.int .i64 0)))⟩]
def R10_4 : List AR := [⟨(some 13), none, 0, (.mov (.t 5))⟩, ⟨(some 4), none, 0, (.mov (.t 13))⟩]
def R10_5 : List AR := [⟨(some 14), none, 0, (.mov (.t 1))⟩, ⟨(some 15), none, 0, (.mov (.t 6))⟩, ⟨(some 16), none, 0, (.bin .rem (.t 14) (.t 15))⟩, ⟨(some 7), none, 0, (.mov (.t 16))⟩]
def R10_6 : List AR := [⟨(some 17), none, 0, (.mov (.t 7))⟩, ⟨(some 18), none, 0, (.bin .lss (.t 17) (.k (.int .i64 0)))⟩]
def R10_7 : List AR := [⟨(some 19), none, 0, (.mov (.t 7))⟩, ⟨(some 20), none, 0, (.mov (.t 6))⟩, ⟨(some 21), none, 0, (.bin .add (.t 19) (.t 20))⟩, ⟨(some 7), none, 0, (.mov (.t 21))⟩]
def R10_8 : List AR := [⟨(some 22), none, 0, (.mov (.t 5))⟩, ⟨(some 23), none, 0, (.mov (.t 0))⟩, ⟨(some 24), none, 0, (.mov (.t 7))⟩, ⟨(some 25), none, 0, (.slice 1 (.t 23) (some (.t 24)) none)⟩, ⟨(some 26), none, 0, (.app 0 1 8 (.t 22) (.t 25))⟩, ⟨(some 5), none, 0, (.mov (.t 26))⟩]
def R10_9 : List AR := [⟨(some 27), none, 0, (.mov (.t 5))⟩, ⟨(some 28), none, 0, (.mov (.t 0))⟩, ⟨(some 29), none, 0, (.mov (.t 7))⟩, ⟨(some 30), none, 0, (.slice 1 (.t 28) none (some (.t 29)))⟩, ⟨(some 31), none, 0, (.app 0 1 8 (.t 27) (.t 30))⟩, ⟨(some 4), none, 0, (.mov (.t 31))⟩]
def A10_0 : AC := (.seq (.reg 1 R10_9) .ret)
def A10_1 : AC := (.seq (.reg 1 R10_8) A10_0)
def A10_2 : AC := (.seq (.seq (.reg 0 R10_6) (.cond (.t 18) (.reg 0 R10_7) .skip)) A10_1)
def A10_3 : AC := (.seq (.reg 0 R10_5) A10_2)
def A10_4 : AC := (.seq (.seq (.reg 0 R10_3) (.cond (.t 12) (.seq (.reg 0 R10_4) .ret) .skip)) A10_3)
def A10_5 : AC := (.seq (.reg 0 R10_2) A10_4)
def A10_6 : AC := (.seq (.reg 1 R10_1) A10_5)
def A10 : AC := (.seq (.reg 0 R10_0) A10_6)
def O10 : List AO := [(.mov (.t 4))]
def G10 : Fns := ⟨fun f => false, fun f => 0⟩
noncomputable def X10 : Cx := ⟨Try.prog, G10, drawD, 32, [0, 1, 4, 5, 6, 7, 12, 18]⟩
theorem c10 : (Try.f10.body).bind (compC X10.P X10.Γ X10.D X10.nt) = some A10 := by kernel_rfl
theorem o10 : compRes X10.P Try.f10.results.toList = some O10 := by kernel_rfl
theorem v10 : X10.vs = [0, 1, 4, 5, 6, 7, 12, 18] := rfl
theorem p10 : X10.P = Try.prog := rfl
def R11_0 : List AR := [⟨(some 2), none, 0, (.mov (.k .nl))⟩]
def R11_1 : List AR := [⟨(some 5), none, 0, (.mov (.t 0))⟩, ⟨(some 6), none, 0, (.len (.t 5))⟩, ⟨(some 7), none, 0, (.mks 0 1 8 [(.int .i64 0)] (.t 6) (.t 6))⟩, ⟨(some 3), none, 0, (.mov (.t 7))⟩]
def R11_2 : List AR := [⟨(some 4), none, 0, (.mov (.k (.int .i64 0)))⟩]
def R11_3 : List AR := [⟨(some 8), none, 0, (.mov (.t 4))⟩, ⟨(some 9), none, 0, (.mov (.t 0))⟩, ⟨(some 10), none, 0, (.len (.t 9))⟩, ⟨(some 11), none, 0, (.bin .lss (.t 8) (.t 10))⟩]
def R11_4 : List AR := [⟨(some 14), none, 0, (.mov (.t 3))⟩, ⟨(some 15), none, 0, (.mov (.t 4))⟩, ⟨(some 16), none, 0, (.mov (.t 0))⟩, ⟨(some 17), none, 0, (.mov (.t 4))⟩, ⟨(some 18), none, 0, (.iaddr 1 (.t 16) (.t 17))⟩, ⟨(some 19), none, 0, (.load 1 false (.t 18))⟩, ⟨(some 20), none, 0, (.iaddr 1 (.t 14) (.t 15))⟩, ⟨none, none, 0, (.store 1 (.t 20) (.t 19))⟩]
def R11_5 : List AR := [⟨(some 12), none, 0, (.mov (.t 4))⟩, ⟨(some 13), none, 0, (.bin .add (.t 12) (.k (.int .i64 1)))⟩, ⟨(some 4), none, 0, (.mov (.t 13))⟩]
def A11_0 : AC := (.seq (.block 1 (.reg 0 R11_4)) (.reg 0 R11_5))
def L11_0 : AC := (.seq (.seq (.reg 0 R11_3) (.cond (.t 11) .skip (.exit 0))) A11_0)
def R11_6 : List AR := [⟨(some 21), none, 0, (.mov (.t 3))⟩, ⟨(some 2), none, 0, (.mov (.t 21))⟩]
def A11_1 : AC := (.seq (.reg 0 R11_6) .ret)
def A11_2 : AC := (.seq (.seq (.reg 0 R11_2) (.block 0 (.loop L11_0))) A11_1)
def A11_3 : AC := (.seq (.reg 1 R11_1) A11_2)
def A11 : AC := (.seq (.reg 0 R11_0) A11_3)
def O11 : List AO := [(.mov (.t 2))]
def G11 : Fns := ⟨fun f => false, fun f => 0⟩
noncomputable def X11 : Cx := ⟨Try.prog, G11, drawD, 22, [0, 2, 3, 4, 11]⟩
theorem c11 : (Try.f11.body).bind (compC X11.P X11.Γ X11.D X11.nt) = some A11 := by kernel_rfl
theorem o11 : compRes X11.P Try.f11.results.toList = some O11 := by kernel_rfl
theorem v11 : X11.vs = [0, 2, 3, 4, 11] := rfl
theorem p11 : X11.P = Try.prog := rfl
def R13_0 : List AR := [⟨(some 4), none, 0, (.mov (.k (.bool false)))⟩]
def R13_1 : List AR := [⟨(some 6), none, 0, (.mov (.t 0))⟩, ⟨(some 7), none, 0, (.len (.t 6))⟩, ⟨(some 8), none, 0, (.mov (.t 1))⟩, ⟨(some 9), none, 0, (.len (.t 8))⟩, ⟨(some 10), none, 0, (.bin .neq (.t 7) (.t 9))⟩]
def R13_2 : List AR := [⟨(some 4), none, 0, (.mov (.k (.bool false)))⟩]
def R13_3 : List AR := [⟨(some 5), none, 0, (.mov (.k (.int .i64 0)))⟩]
def R13_4 : List AR := [⟨(some 11), none, 0, (.mov (.t 5))⟩, ⟨(some 12), none, 0, (.mov (.t 0))⟩, ⟨(some 13), none, 0, (.len (.t 12))⟩, ⟨(some 14), none, 0, (.bin .lss (.t 11) (.t 13))⟩]
def R13_5 : List AR := [⟨(some 17), none, 0, (.mov (.t 0))⟩, ⟨(some 18), none, 0, (.mov (.t 5))⟩, ⟨(some 19), none, 0, (.iaddr 1 (.t 17) (.t 18))⟩, ⟨(some 20), none, 0, (.load 1 false (.t 19))⟩, ⟨(some 21), none, 0, (.mov (.t 1))⟩, ⟨(some 22), none, 0, (.mov (.t 5))⟩, ⟨(some 23), none, 0, (.iaddr 1 (.t 21) (.t 22))⟩, ⟨(some 24), none, 0, (.load 1 false (.t 23))⟩, ⟨(some 25), none, 0, (.bin .neq (.t 20) (.t 24))⟩]
def R13_6 : List AR := [⟨(some 4), none, 0, (.mov (.k (.bool false)))⟩]
def R13_7 : List AR := [⟨(some 15), none, 0, (.mov (.t 5))⟩, ⟨(some 16), none, 0, (.bin .add (.t 15) (.k (.int .i64 1)))⟩, ⟨(some 5), none, 0, (.mov (.t 16))⟩]
def A13_0 : AC := (.seq (.block 1 (.seq (.draw 0 R13_5) (.cond (.t 25) (.seq (.reg 0 R13_6) .ret) .skip))) (.reg 0 R13_7))
def L13_0 : AC := (.seq (.seq (.reg 0 R13_4) (.cond (.t 14) .skip (.exit 0))) A13_0)
def R13_8 : List AR := [⟨(some 4), none, 0, (.mov (.k (.bool true)))⟩]
def A13_1 : AC := (.seq (.reg 0 R13_8) .ret)
def A13_2 : AC := (.seq (.seq (.reg 0 R13_3) (.block 0 (.loop L13_0))) A13_1)
def A13_3 : AC := (.seq (.seq (.reg 0 R13_1) (.cond (.t 10) (.seq (.reg 0 R13_2) .ret) .skip)) A13_2)
def A13 : AC := (.seq (.reg 0 R13_0) A13_3)
def O13 : List AO := [(.mov (.t 4))]
def G13 : Fns := ⟨fun f => false, fun f => 0⟩
noncomputable def X13 : Cx := ⟨Try.prog, G13, drawD, 26, [0, 1, 4, 5, 10, 14, 25]⟩
theorem c13 : (Try.f13.body).bind (compC X13.P X13.Γ X13.D X13.nt) = some A13 := by kernel_rfl
theorem o13 : compRes X13.P Try.f13.results.toList = some O13 := by kernel_rfl
theorem v13 : X13.vs = [0, 1, 4, 5, 10, 14, 25] := rfl
theorem p13 : X13.P = Try.prog := rfl
def R14_0 : List AR := [⟨(some 4), none, 0, (.mov (.k (.int .i64 0)))⟩]
def R14_1 : List AR := [⟨(some 5), none, 0, (.mov (.k (.int .i64 0)))⟩]
def R14_2 : List AR := [⟨(some 6), none, 0, (.mov (.t 5))⟩, ⟨(some 7), none, 0, (.mov (.t 0))⟩, ⟨(some 8), none, 0, (.len (.t 7))⟩, ⟨(some 9), none, 0, (.bin .lss (.t 6) (.t 8))⟩]
def R14_3 : List AR := [⟨(some 12), none, 0, (.mov (.t 0))⟩, ⟨(some 13), none, 0, (.mov (.t 5))⟩, ⟨(some 14), none, 0, (.mov (.t 1))⟩, ⟨(some 15), none, 0, (.iaddr 1 (.t 12) (.t 13))⟩, ⟨none, none, 0, (.store 1 (.t 15) (.t 14))⟩]
def R14_4 : List AR := [⟨(some 16), none, 0, (.mov (.t 1))⟩, ⟨(some 17), none, 0, (.bin .add (.t 16) (.k (.int .i64 1)))⟩, ⟨(some 1), none, 0, (.mov (.t 17))⟩]
def R14_5 : List AR := [⟨(some 10), none, 0, (.mov (.t 5))⟩, ⟨(some 11), none, 0, (.bin .add (.t 10) (.k (.int .i64 1)))⟩, ⟨(some 5), none, 0, (.mov (.t 11))⟩]
def A14_0 : AC := (.seq (.block 1 (.seq (.reg 0 R14_3) (.reg 0 R14_4))) (.reg 0 R14_5))
def L14_0 : AC := (.seq (.seq (.reg 0 R14_2) (.cond (.t 9) .skip (.exit 0))) A14_0)
def R14_6 : List AR := [⟨(some 18), none, 0, (.mov (.t 1))⟩, ⟨(some 4), none, 0, (.mov (.t 18))⟩]
def A14_1 : AC := (.seq (.reg 0 R14_6) .ret)
def A14_2 : AC := (.seq (.seq (.reg 0 R14_1) (.block 0 (.loop L14_0))) A14_1)
def A14 : AC := (.seq (.reg 0 R14_0) A14_2)
def O14 : List AO := [(.mov (.t 4))]
def G14 : Fns := ⟨fun f => f == 14, fun f => 0⟩
noncomputable def X14 : Cx := ⟨Try.prog, G14, drawD, 19, [0, 1, 4, 5, 9]⟩
theorem c14 : (Try.f14.body).bind (compC X14.P X14.Γ X14.D X14.nt) = some A14 := by kernel_rfl
theorem o14 : compRes X14.P Try.f14.results.toList = some O14 := by kernel_rfl
theorem v14 : X14.vs = [0, 1, 4, 5, 9] := rfl
theorem p14 : X14.P = Try.prog := rfl
def R15_0 : List AR := [⟨(some 4), none, 0, (.mov (.k (.int .i64 0)))⟩]
def R15_1 : List AR := [⟨(some 5), none, 0, (.mov (.k (.int .i64 0)))⟩]
def R15_2 : List AR := [⟨(some 6), none, 0, (.mov (.t 5))⟩, ⟨(some 7), none, 0, (.mov (.t 0))⟩, ⟨(some 8), none, 0, (.len (.t 7))⟩, ⟨(some 9), none, 0, (.bin .lss (.t 6) (.t 8))⟩]
def R15_3 : List AR := [⟨(some 12), none, 0, (.mov (.t 0))⟩, ⟨(some 13), none, 0, (.mov (.t 5))⟩, ⟨(some 14), none, 0, (.iaddr 1 (.t 12) (.t 13))⟩, ⟨(some 15), none, 0, (.load 1 false (.t 14))⟩, ⟨(some 16), none, 0, (.mov (.t 1))⟩, ⟨(some 17), none, 0, (.bin .neq (.t 15) (.t 16))⟩]
def R15_4 : List AR := [⟨(some 4), none, 0, (.mov (.k (.int .i64 (-1))))⟩]
def R15_5 : List AR := [⟨(some 18), none, 0, (.mov (.t 1))⟩, ⟨(some 19), none, 0, (.bin .add (.t 18) (.k (.int .i64 1)))⟩, ⟨(some 1), none, 0, (.mov (.t 19))⟩]
def R15_6 : List AR := [⟨(some 10), none, 0, (.mov (.t 5))⟩, ⟨(some 11), none, 0, (.bin .add (.t 10) (.k (.int .i64 1)))⟩, ⟨(some 5), none, 0, (.mov (.t 11))⟩]
def A15_0 : AC := (.seq (.block 1 (.seq (.seq (.reg 0 R15_3) (.cond (.t 17) (.seq (.reg 0 R15_4) .ret) .skip)) (.reg 0 R15_5))) (.reg 0 R15_6))
def L15_0 : AC := (.seq (.seq (.reg 0 R15_2) (.cond (.t 9) .skip (.exit 0))) A15_0)
def R15_7 : List AR := [⟨(some 20), none, 0, (.mov (.t 1))⟩, ⟨(some 4), none, 0, (.mov (.t 20))⟩]
def A15_1 : AC := (.seq (.reg 0 R15_7) .ret)
def A15_2 : AC := (.seq (.seq (.reg 0 R15_1) (.block 0 (.loop L15_0))) A15_1)
def A15 : AC := (.seq (.reg 0 R15_0) A15_2)
def O15 : List AO := [(.mov (.t 4))]
def G15 : Fns := ⟨fun f => false, fun f => 0⟩
noncomputable def X15 : Cx := ⟨Try.prog, G15, drawD, 21, [0, 1, 4, 5, 9, 17]⟩
theorem c15 : (Try.f15.body).bind (compC X15.P X15.Γ X15.D X15.nt) = some A15 := by kernel_rfl
theorem o15 : compRes X15.P Try.f15.results.toList = some O15 := by kernel_rfl
theorem v15 : X15.vs = [0, 1, 4, 5, 9, 17] := rfl
theorem p15 : X15.P = Try.prog := rfl
theorem copyInts_ok (xs : List Int) (hx : xs.length ≤ 1000000000) : FS Try.prog 46 [] [.fz 1 (ints xs)] (.sl 0 1 0 xs.length) [⟨1, ints xs⟩] := by
  refine FS.of (X := X46) (ac := A46) (os := O46) Try.func46 (by rfl) (by rfl) (by kernel_rfl) o46 (Nat.le_of_ble_eq_true rfl) ?_
  show AWP X46 A46 (Ends X46.vs O46 0 _ _) [.fz 1 (ints xs), .tup []] []
  obtain ⟨Q, hQ⟩ : ∃ Q, Q = Ends X46.vs O46 0 (.sl 0 1 0 xs.length) [⟨1, ints xs⟩] := ⟨_, rfl⟩
  rw [← hQ]
  refine awp_sr ?_
  simp only [go_sem, R46_0, v46, p46, Nat.reduceEqDiff, Nat.reduceAdd, Nat.reduceLeDiff, Nat.reduceMul, Nat.reduceSub, Nat.reduceLT]
  refine awp_sr ?_
  simp only [go_sem, R46_1, v46, p46, Nat.reduceEqDiff, Nat.reduceAdd, Nat.reduceLeDiff, Nat.reduceMul, Nat.reduceSub, Nat.reduceLT]
  refine ⟨by omega, ?_⟩
  refine awp_ret ?_
  try simp only [go_sem]
  rw [hQ]
  exact Ends.own1 (.inl rfl) rfl (o := 1) rfl rfl (by simp [V.ids]) (ints_closed xs)
theorem toInts_ok (xs : List Int) (hx : xs.length ≤ 1000000000) : FS Try.prog 11 [] [.fz 1 (ints xs)] (.fz 1 (ints xs)) [] := by
  refine FS.of (X := X11) (ac := A11) (os := O11) Try.func11 (by rfl) (by rfl) (by kernel_rfl) o11 (Nat.le_of_ble_eq_true rfl) ?_
  show AWP X11 A11 (Ends X11.vs O11 0 _ _) [.fz 1 (ints xs), .tup [], .tup [], .tup [], .tup []] []
  obtain ⟨Q, hQ⟩ : ∃ Q, Q = Ends X11.vs O11 0 (.fz 1 (ints xs)) [] := ⟨_, rfl⟩
  rw [← hQ]
  refine awp_sr ?_
  simp only [go_sem, R11_0, v11, p11, Nat.reduceEqDiff, Nat.reduceAdd, Nat.reduceLeDiff, Nat.reduceMul, Nat.reduceSub, Nat.reduceLT]
  refine awp_sr ?_
  simp only [go_sem, R11_1, v11, p11, Nat.reduceEqDiff, Nat.reduceAdd, Nat.reduceLeDiff, Nat.reduceMul, Nat.reduceSub, Nat.reduceLT]
  refine ⟨by omega, ?_⟩
  refine awp_sr2 ?_
  simp only [go_sem, R11_2, v11, p11, Nat.reduceEqDiff, Nat.reduceAdd, Nat.reduceLeDiff, Nat.reduceMul, Nat.reduceSub, Nat.reduceLT]
  refine awp_for (fun m L σ => ∃ i x11 ys, m = xs.length - i ∧ i ≤ xs.length ∧ ys.length = xs.length ∧ ys.take i = xs.take i ∧ L = [.fz 1 (ints xs), .nl, .sl 0 1 0 xs.length, .int .i64 (i : Nat), x11] ∧ σ = [.live ⟨1, ints ys⟩]) xs.length
    ⟨0, _, List.replicate xs.length 0, rfl, Nat.zero_le _, by simp, by simp, rfl, by rw [ints_rep]⟩ ?_
  rintro m L σ ⟨i, x11, ys, rfl, hi, hl, ht, rfl, rfl⟩
  refine awp_sr2 ?_
  simp only [go_sem, R11_3, v11, p11, Nat.reduceEqDiff, Nat.reduceAdd, Nat.reduceLeDiff, Nat.reduceMul, Nat.reduceSub, Nat.reduceLT]
  refine awp_if rfl ?_ ?_
  · intro h1
    have h1 : i < xs.length := by omega
    have h2 : i < ys.length := by omega
    refine awp_skip ?_
    simp only [go_sem]
    refine awp_seq (awp_block ?_)
    refine awp_reg ?_
    simp only [go_sem, R11_4, v11, p11, Nat.reduceEqDiff, Nat.reduceAdd, Nat.reduceLeDiff, Nat.reduceMul, Nat.reduceSub, Nat.reduceLT, ints_at h1, ints_at h2]
    refine ⟨by omega, ?_⟩
    refine awp_reg ?_
    simp only [go_sem, R11_5, v11, p11, Nat.reduceEqDiff, Nat.reduceAdd, Nat.reduceLeDiff, Nat.reduceMul, Nat.reduceSub, Nat.reduceLT, wrap_succ (i := i) (by omega)]
    rw [ints_set]
    refine ⟨xs.length - (i + 1), by omega, i + 1, _, _, rfl, by omega, by simpa using hl, ?_, rfl, rfl⟩
    rw [List.take_succ_eq_append_getElem h1, List.take_succ_eq_append_getElem (by simpa using h2), List.take_set_of_le (Nat.le_refl _), ht]
    simp
  · intro h1
    refine awp_exit ?_
    simp only [go_sem]
    refine awp_sr ?_
    simp only [go_sem, R11_6, v11, p11, Nat.reduceEqDiff, Nat.reduceAdd, Nat.reduceLeDiff, Nat.reduceMul, Nat.reduceSub, Nat.reduceLT]
    refine awp_ret ?_
    try simp only [go_sem]
    have : i = xs.length := by omega
    subst this
    rw [List.take_length, ← hl, List.take_length] at ht
    subst ht
    rw [hQ]
    exact Ends.frzSl (.inl rfl) rfl rfl (by simp [ints_len]) (ints_closed _)
theorem toInts_own (xs : List Int) (hx : xs.length ≤ 1000000000) : FS Try.prog 11 [] [.fz 1 (ints xs)] (.sl 0 1 0 xs.length) [⟨1, ints xs⟩] := by
  refine FS.of (X := X11) (ac := A11) (os := O11) Try.func11 (by rfl) (by rfl) (by kernel_rfl) o11 (Nat.le_of_ble_eq_true rfl) ?_
  show AWP X11 A11 (Ends X11.vs O11 0 _ _) [.fz 1 (ints xs), .tup [], .tup [], .tup [], .tup []] []
  obtain ⟨Q, hQ⟩ : ∃ Q, Q = Ends X11.vs O11 0 (.sl 0 1 0 xs.length) [⟨1, ints xs⟩] := ⟨_, rfl⟩
  rw [← hQ]
  refine awp_sr ?_
  simp only [go_sem, R11_0, v11, p11, Nat.reduceEqDiff, Nat.reduceAdd, Nat.reduceLeDiff, Nat.reduceMul, Nat.reduceSub, Nat.reduceLT]
  refine awp_sr ?_
  simp only [go_sem, R11_1, v11, p11, Nat.reduceEqDiff, Nat.reduceAdd, Nat.reduceLeDiff, Nat.reduceMul, Nat.reduceSub, Nat.reduceLT]
  refine ⟨by omega, ?_⟩
  refine awp_sr2 ?_
  simp only [go_sem, R11_2, v11, p11, Nat.reduceEqDiff, Nat.reduceAdd, Nat.reduceLeDiff, Nat.reduceMul, Nat.reduceSub, Nat.reduceLT]
  refine awp_for (fun m L σ => ∃ i x11 ys, m = xs.length - i ∧ i ≤ xs.length ∧ ys.length = xs.length ∧ ys.take i = xs.take i ∧ L = [.fz 1 (ints xs), .nl, .sl 0 1 0 xs.length, .int .i64 (i : Nat), x11] ∧ σ = [.live ⟨1, ints ys⟩]) xs.length
    ⟨0, _, List.replicate xs.length 0, rfl, Nat.zero_le _, by simp, by simp, rfl, by rw [ints_rep]⟩ ?_
  rintro m L σ ⟨i, x11, ys, rfl, hi, hl, ht, rfl, rfl⟩
  refine awp_sr2 ?_
  simp only [go_sem, R11_3, v11, p11, Nat.reduceEqDiff, Nat.reduceAdd, Nat.reduceLeDiff, Nat.reduceMul, Nat.reduceSub, Nat.reduceLT]
  refine awp_if rfl ?_ ?_
  · intro h1
    have h1 : i < xs.length := by omega
    have h2 : i < ys.length := by omega
    refine awp_skip ?_
    simp only [go_sem]
    refine awp_seq (awp_block ?_)
    refine awp_reg ?_
    simp only [go_sem, R11_4, v11, p11, Nat.reduceEqDiff, Nat.reduceAdd, Nat.reduceLeDiff, Nat.reduceMul, Nat.reduceSub, Nat.reduceLT, ints_at h1, ints_at h2]
    refine ⟨by omega, ?_⟩
    refine awp_reg ?_
    simp only [go_sem, R11_5, v11, p11, Nat.reduceEqDiff, Nat.reduceAdd, Nat.reduceLeDiff, Nat.reduceMul, Nat.reduceSub, Nat.reduceLT, wrap_succ (i := i) (by omega)]
    rw [ints_set]
    refine ⟨xs.length - (i + 1), by omega, i + 1, _, _, rfl, by omega, by simpa using hl, ?_, rfl, rfl⟩
    rw [List.take_succ_eq_append_getElem h1, List.take_succ_eq_append_getElem (by simpa using h2), List.take_set_of_le (Nat.le_refl _), ht]
    simp
  · intro h1
    refine awp_exit ?_
    simp only [go_sem]
    refine awp_sr ?_
    simp only [go_sem, R11_6, v11, p11, Nat.reduceEqDiff, Nat.reduceAdd, Nat.reduceLeDiff, Nat.reduceMul, Nat.reduceSub, Nat.reduceLT]
    refine awp_ret ?_
    try simp only [go_sem]
    have : i = xs.length := by omega
    subst this
    rw [List.take_length, ← hl, List.take_length] at ht
    subst ht
    rw [hQ]
    exact Ends.own1 (.inl rfl) rfl (o := 0) rfl rfl (by simp [V.ids]) (ints_closed _)
/-- n, n + 1, .. -/
def seqI (n : Int) (k : Nat) : List Int := (List.range k).map fun i : Nat => n + (i : Int)
theorem seqI_len (n : Int) (k : Nat) : (seqI n k).length = k := by simp [seqI]
theorem seqI_succ (n : Int) (k : Nat) : seqI n (k + 1) = seqI n k ++ [n + (k : Int)] := by simp [seqI, List.range_succ]
theorem markInts_nil (n : Int) : FS Try.prog 14 [] [.nl, .int .i64 n] (.int .i64 n) [] := by
  refine FS.of (X := X14) (ac := A14) (os := O14) Try.func14 (by rfl) (by rfl) (by kernel_rfl) o14 (Nat.le_of_ble_eq_true rfl) ?_
  show AWP X14 A14 (Ends X14.vs O14 0 _ _) [.nl, .int .i64 n, .tup [], .tup [], .tup []] []
  obtain ⟨Q, hQ⟩ : ∃ Q, Q = Ends X14.vs O14 0 (.int .i64 n) [] := ⟨_, rfl⟩
  rw [← hQ]
  refine awp_sr ?_
  simp only [go_sem, R14_0, v14, p14, Nat.reduceEqDiff, Nat.reduceAdd, Nat.reduceLeDiff, Nat.reduceMul, Nat.reduceSub, Nat.reduceLT]
  refine awp_sr2 ?_
  simp only [go_sem, R14_1, v14, p14, Nat.reduceEqDiff, Nat.reduceAdd, Nat.reduceLeDiff, Nat.reduceMul, Nat.reduceSub, Nat.reduceLT]
  refine awp_for (fun m L σ => ∃ x9, L = [.nl, .int .i64 n, .int .i64 0, .int .i64 0, x9]) 0 ⟨_, rfl⟩ ?_
  rintro m L σ ⟨x9, rfl⟩
  refine awp_sr2 ?_
  simp only [go_sem, R14_2, v14, p14, Nat.reduceEqDiff, Nat.reduceAdd, Nat.reduceLeDiff, Nat.reduceMul, Nat.reduceSub, Nat.reduceLT]
  refine awp_if rfl (fun h => absurd h (by simp)) ?_
  intro h1
  refine awp_exit ?_
  simp only [go_sem]
  refine awp_sr ?_
  simp only [go_sem, R14_6, v14, p14, Nat.reduceEqDiff, Nat.reduceAdd, Nat.reduceLeDiff, Nat.reduceMul, Nat.reduceSub, Nat.reduceLT]
  refine awp_ret ?_
  try simp only [go_sem]
  rw [hQ]
  exact Ends.plain (.inl rfl) rfl (.refl _) rfl
theorem markInts_ok (xs : List Int) (n : Nat) (hx : xs.length ≤ 1000000000) (hn : n ≤ 1000000000) : FS Try.prog 14 [⟨1, ints xs⟩] [.sl 0 1 0 xs.length, .int .i64 n] (.int .i64 ((n + xs.length : Nat) : Int)) [⟨1, ints (seqI n xs.length)⟩] := by
  refine FS.of (X := X14) (ac := A14) (os := O14) Try.func14 (by rfl) (by rfl) (by kernel_rfl) o14 (Nat.le_of_ble_eq_true rfl) ?_
  show AWP X14 A14 (Ends X14.vs O14 1 _ _) [.sl 0 1 0 xs.length, .int .i64 n, .tup [], .tup [], .tup []] [.live ⟨1, ints xs⟩]
  obtain ⟨Q, hQ⟩ : ∃ Q, Q = Ends X14.vs O14 1 (.int .i64 ((n + xs.length : Nat) : Int)) [⟨1, ints (seqI n xs.length)⟩] := ⟨_, rfl⟩
  rw [← hQ]
  refine awp_sr ?_
  simp only [go_sem, R14_0, v14, p14, Nat.reduceEqDiff, Nat.reduceAdd, Nat.reduceLeDiff, Nat.reduceMul, Nat.reduceSub, Nat.reduceLT]
  refine awp_sr2 ?_
  simp only [go_sem, R14_1, v14, p14, Nat.reduceEqDiff, Nat.reduceAdd, Nat.reduceLeDiff, Nat.reduceMul, Nat.reduceSub, Nat.reduceLT]
  refine awp_for (fun m L σ => ∃ i x9 ys, m = xs.length - i ∧ i ≤ xs.length ∧ ys.length = xs.length ∧ ys.take i = seqI n i ∧ L = [.sl 0 1 0 xs.length, .int .i64 ((n + i : Nat) : Int), .int .i64 0, .int .i64 (i : Nat), x9] ∧ σ = [.live ⟨1, ints ys⟩]) xs.length
    ⟨0, _, xs, rfl, Nat.zero_le _, rfl, by simp [seqI], rfl, rfl⟩ ?_
  rintro m L σ ⟨i, x9, ys, rfl, hi, hl, ht, rfl, rfl⟩
  refine awp_sr2 ?_
  simp only [go_sem, R14_2, v14, p14, Nat.reduceEqDiff, Nat.reduceAdd, Nat.reduceLeDiff, Nat.reduceMul, Nat.reduceSub, Nat.reduceLT]
  refine awp_if rfl ?_ ?_
  · intro h1
    have h1 : i < xs.length := by omega
    have h2 : i < ys.length := by omega
    refine awp_skip ?_
    simp only [go_sem]
    refine awp_seq (awp_block ?_)
    refine awp_sr ?_
    simp only [go_sem, R14_3, v14, p14, Nat.reduceEqDiff, Nat.reduceAdd, Nat.reduceLeDiff, Nat.reduceMul, Nat.reduceSub, Nat.reduceLT, ints_at h2]
    refine ⟨by omega, ?_⟩
    refine awp_reg ?_
    simp only [go_sem, R14_4, v14, p14, Nat.reduceEqDiff, Nat.reduceAdd, Nat.reduceLeDiff, Nat.reduceMul, Nat.reduceSub, Nat.reduceLT, wrap_succ (i := n + i) (by omega)]
    refine awp_reg ?_
    simp only [go_sem, R14_5, v14, p14, Nat.reduceEqDiff, Nat.reduceAdd, Nat.reduceLeDiff, Nat.reduceMul, Nat.reduceSub, Nat.reduceLT, wrap_succ (i := i) (by omega)]
    rw [ints_set]
    refine ⟨xs.length - (i + 1), by omega, i + 1, _, _, rfl, by omega, by simpa using hl, ?_, rfl, rfl⟩
    rw [List.take_succ_eq_append_getElem (by simpa using h2), List.take_set_of_le (Nat.le_refl _), ht, seqI_succ]
    simp
  · intro h1
    refine awp_exit ?_
    simp only [go_sem]
    refine awp_sr ?_
    simp only [go_sem, R14_6, v14, p14, Nat.reduceEqDiff, Nat.reduceAdd, Nat.reduceLeDiff, Nat.reduceMul, Nat.reduceSub, Nat.reduceLT]
    refine awp_ret ?_
    try simp only [go_sem]
    have : i = xs.length := by omega
    subst this
    rw [← hl, List.take_length, hl] at ht
    subst ht
    rw [hQ]
    exact Ends.keep (σo := [⟨1, ints (seqI n xs.length)⟩]) (.inl rfl) rfl (.refl _) rfl (fun k ob hk => by
      cases k with
      | zero => simpa using hk
      | succ k => simp at hk) (by simpa using ints_closed _)
/-- what a look through marked numbers answers -/
def heldI (n : Nat) (xs : List Int) : Int := if xs = seqI n xs.length then ((n + xs.length : Nat) : Int) else -1
theorem heldInts_ok (xs : List Int) (n : Nat) (hx : xs.length ≤ 1000000000) (hn : n ≤ 1000000000) : FS Try.prog 15 [] [.fz 1 (ints xs), .int .i64 n] (.int .i64 (heldI n xs)) [] := by
  refine FS.of (X := X15) (ac := A15) (os := O15) Try.func15 (by rfl) (by rfl) (by kernel_rfl) o15 (Nat.le_of_ble_eq_true rfl) ?_
  show AWP X15 A15 (Ends X15.vs O15 0 _ _) [.fz 1 (ints xs), .int .i64 n, .tup [], .tup [], .tup [], .tup []] []
  obtain ⟨Q, hQ⟩ : ∃ Q, Q = Ends X15.vs O15 0 (.int .i64 (heldI n xs)) [] := ⟨_, rfl⟩
  rw [← hQ]
  refine awp_sr ?_
  simp only [go_sem, R15_0, v15, p15, Nat.reduceEqDiff, Nat.reduceAdd, Nat.reduceLeDiff, Nat.reduceMul, Nat.reduceSub, Nat.reduceLT]
  refine awp_sr2 ?_
  simp only [go_sem, R15_1, v15, p15, Nat.reduceEqDiff, Nat.reduceAdd, Nat.reduceLeDiff, Nat.reduceMul, Nat.reduceSub, Nat.reduceLT]
  refine awp_for (fun m L σ => ∃ i x9 x17, m = xs.length - i ∧ i ≤ xs.length ∧ xs.take i = seqI n i ∧ L = [.fz 1 (ints xs), .int .i64 ((n + i : Nat) : Int), .int .i64 0, .int .i64 (i : Nat), x9, x17]) xs.length
    ⟨0, _, _, rfl, Nat.zero_le _, by simp [seqI], rfl⟩ ?_
  rintro m L σ ⟨i, x9, x17, rfl, hi, ht, rfl⟩
  refine awp_sr2 ?_
  simp only [go_sem, R15_2, v15, p15, Nat.reduceEqDiff, Nat.reduceAdd, Nat.reduceLeDiff, Nat.reduceMul, Nat.reduceSub, Nat.reduceLT]
  refine awp_if rfl ?_ ?_
  · intro h1
    have h1 : i < xs.length := by omega
    refine awp_skip ?_
    simp only [go_sem]
    refine awp_seq (awp_block ?_)
    refine awp_sr2 ?_
    simp only [go_sem, R15_3, v15, p15, Nat.reduceEqDiff, Nat.reduceAdd, Nat.reduceLeDiff, Nat.reduceMul, Nat.reduceSub, Nat.reduceLT, ints_at h1]
    refine awp_if rfl ?_ ?_
    · intro h2
      refine awp_sr ?_
      simp only [go_sem, R15_4, v15, p15, Nat.reduceEqDiff, Nat.reduceAdd, Nat.reduceLeDiff, Nat.reduceMul, Nat.reduceSub, Nat.reduceLT]
      refine awp_ret ?_
      try simp only [go_sem]
      rw [hQ]
      refine Ends.plain (.inl rfl) rfl ?_ rfl
      have : heldI n xs = -1 := by
        unfold heldI
        rw [if_neg]
        intro e
        apply h2
        have h3 : xs[i]? = (seqI n xs.length)[i]? := by rw [← e]
        simp [seqI, h1] at h3
        rw [h3]; simp
      rw [this]; exact .refl _
    · intro h2
      refine awp_skip ?_
      simp only [go_sem]
      refine awp_reg ?_
      simp only [go_sem, R15_5, v15, p15, Nat.reduceEqDiff, Nat.reduceAdd, Nat.reduceLeDiff, Nat.reduceMul, Nat.reduceSub, Nat.reduceLT, wrap_succ (i := n + i) (by omega)]
      refine awp_reg ?_
      simp only [go_sem, R15_6, v15, p15, Nat.reduceEqDiff, Nat.reduceAdd, Nat.reduceLeDiff, Nat.reduceMul, Nat.reduceSub, Nat.reduceLT, wrap_succ (i := i) (by omega)]
      refine ⟨xs.length - (i + 1), by omega, i + 1, _, _, rfl, by omega, ?_, rfl⟩
      rw [List.take_succ_eq_append_getElem h1, ht, seqI_succ]
      simp at h2
      rw [h2]
  · intro h1
    refine awp_exit ?_
    simp only [go_sem]
    refine awp_sr ?_
    simp only [go_sem, R15_7, v15, p15, Nat.reduceEqDiff, Nat.reduceAdd, Nat.reduceLeDiff, Nat.reduceMul, Nat.reduceSub, Nat.reduceLT]
    refine awp_ret ?_
    try simp only [go_sem]
    have : i = xs.length := by omega
    subst this
    rw [hQ]
    refine Ends.plain (.inl rfl) rfl ?_ rfl
    rw [List.take_length] at ht
    have : heldI n xs = ((n + xs.length : Nat) : Int) := by unfold heldI; rw [if_pos ht]
    rw [this]; exact .refl _
theorem eqInts_ok (xs ys : List Int) (hx : xs.length < 9000000000000000000) : FS Try.prog 13 [] [.fz 1 (ints xs), .fz 1 (ints ys)] (.bool (decide (xs = ys))) [] := by
  refine FS.of (X := X13) (ac := A13) (os := O13) Try.func13 (by rfl) (by rfl) (by kernel_rfl) o13 (Nat.le_of_ble_eq_true rfl) ?_
  show AWP X13 A13 (Ends X13.vs O13 0 _ _) [.fz 1 (ints xs), .fz 1 (ints ys), .tup [], .tup [], .tup [], .tup [], .tup []] []
  obtain ⟨Q, hQ⟩ : ∃ Q, Q = Ends X13.vs O13 0 (.bool (decide (xs = ys))) [] := ⟨_, rfl⟩
  rw [← hQ]
  have fin : ∀ e L σ b, (e = .ret ∨ e = .normal) → look X13.vs L 4 = .bool b → b = decide (xs = ys) → Q e L σ := by
    intro e L σ b he hl hb
    rw [hQ]; refine Ends.plain he (rs := [.bool b]) ?_ ?_ rfl
    · simp only [go_sem, O13, hl]
    · rw [hb]; exact .refl _
  refine awp_sr ?_
  simp only [go_sem, R13_0, v13, Nat.reduceEqDiff, Nat.reduceAdd, Nat.reduceLeDiff]
  refine awp_sr2 ?_
  simp only [go_sem, R13_1, v13, Nat.reduceEqDiff, Nat.reduceAdd, Nat.reduceLeDiff]
  refine awp_if rfl ?_ ?_
  · intro h
    refine awp_sr ?_
    simp only [go_sem, R13_2, v13, p13, Nat.reduceEqDiff, Nat.reduceAdd, Nat.reduceLeDiff]
    refine awp_ret (fin _ _ _ false (.inl rfl) rfl ?_)
    symm; simp; intro e; subst e; exact h rfl
  · intro h
    have hl : xs.length = ys.length := by omega
    refine awp_skip ?_
    simp only [go_sem]
    refine awp_sr2 ?_
    simp only [go_sem, R13_3, v13, p13, Nat.reduceEqDiff, Nat.reduceAdd, Nat.reduceLeDiff]
    refine awp_for (fun n L σ => ∃ i x10 x14 x25, n = xs.length - i ∧ i ≤ xs.length ∧ xs.take i = ys.take i ∧ L = [.fz 1 (ints xs), .fz 1 (ints ys), .bool false, .int .i64 (i : Nat), x10, x14, x25]) xs.length ⟨0, _, _, _, rfl, Nat.zero_le _, by simp, rfl⟩ ?_
    rintro n L σ ⟨i, x10, x14, x25, rfl, hi, ht, rfl⟩
    refine awp_sr2 ?_
    simp only [go_sem, R13_4, v13, p13, Nat.reduceEqDiff, Nat.reduceAdd, Nat.reduceLeDiff]
    refine awp_if rfl ?_ ?_
    · intro h1
      have h1 : i < xs.length := by omega
      have h2 : i < ys.length := by omega
      refine awp_skip ?_
      simp only [go_sem]
      refine awp_seq (awp_block ?_)
      refine awp_sd mixed rfl (by rfl) ?_
      simp only [go_sem, R13_5, v13, p13, Nat.reduceEqDiff, Nat.reduceAdd, Nat.reduceLeDiff, ints_get (List.getElem?_eq_getElem h1), ints_get (List.getElem?_eq_getElem h2)]
      refine awp_if rfl ?_ ?_
      · intro h3
        refine awp_sr ?_
        simp only [go_sem, R13_6, v13, p13, Nat.reduceEqDiff, Nat.reduceAdd, Nat.reduceLeDiff]
        refine awp_ret ?_
        simp only [go_sem]
        refine fin _ _ _ false (.inl rfl) rfl ?_
        symm; simp; intro e; subst e; exact h3 rfl
      · intro h3
        refine awp_skip ?_
        simp only [go_sem]
        refine awp_reg ?_
        simp only [go_sem, R13_7, v13, p13, Nat.reduceEqDiff, Nat.reduceAdd, Nat.reduceLeDiff, wrap_succ (i := i) (by omega)]
        refine ⟨xs.length - (i + 1), by omega, i + 1, _, _, _, rfl, by omega, ?_, rfl⟩
        rw [List.take_succ_eq_append_getElem h1, List.take_succ_eq_append_getElem h2, ht]
        simp at h3
        rw [h3]
    · intro h1
      refine awp_exit ?_
      simp only [go_sem]
      refine awp_sr ?_
      simp only [go_sem, R13_8, v13, p13, Nat.reduceEqDiff, Nat.reduceAdd, Nat.reduceLeDiff]
      refine awp_ret (fin _ _ _ true (.inl rfl) rfl ?_)
      have : i = xs.length := by omega
      subst this
      rw [List.take_length, hl, List.take_length] at ht
      simp [ht]
end Go.Proofs.Ytffigokicddekaa.Abs
