/- Rows of whole numbers: copied, turned, marked, looked through. No condition. -/
import Derived.Test.YtffigokicddekaaMC41
set_option linter.unusedVariables false
set_option linter.unusedSimpArgs false
set_option maxRecDepth 10000
namespace Go.Proofs.Ytffigokicddekaa.Abs
open Go Go.Proofs
def R46_0 : List AR := [⟨(some 2), none, 0, (.mov (.k .nl))⟩]
def R46_1 : List AR := [⟨(some 3), none, 0, (.bslice 0 1 0 [(.int .i64 0)] [])⟩, ⟨(some 4), none, 0, (.mov (.t 0))⟩, ⟨(some 5), none, 0, (.app 1 1 8 (.t 3) (.t 4))⟩, ⟨(some 2), none, 0, (.mov (.t 5))⟩]
def A46_0 : AC := (.seq (.reg 2 R46_1) .ret)
def A46 : AC := (.seq (.reg 0 R46_0) A46_0)
def O46 : List AO := [(.mov (.t 2))]
def G46 : Fns := ⟨fun f => false, fun f => 0, false⟩
noncomputable def X46 : Cx := ⟨Try.prog, G46, drawD, 6, [0, 2]⟩
theorem c46 : (Try.f46.body).bind (compC X46.P X46.Γ X46.D X46.nt) = some A46 := by kernel_rfl
theorem o46 : compRes X46.P Try.f46.results.toList = some O46 := by kernel_rfl
theorem v46 : X46.vs = [0, 2] := rfl
theorem p46 : X46.P = Try.prog := rfl
def R10_0 : List AR := [⟨(some 4), none, 0, (.mov (.k .nl))⟩]
def R10_1 : List AR := [⟨(some 8), none, 0, (.bslice 0 1 0 [(.int .i64 0)] [])⟩, ⟨(some 5), none, 0, (.mov (.t 8))⟩]
def R10_2 : List AR := [⟨(some 9), none, 0, (.mov (.t 0))⟩, ⟨(some 10), none, 0, (.len (.t 9))⟩, ⟨(some 6), none, 0, (.mov (.t 10))⟩]
def R10_3 : List AR := [⟨(some 11), none, 0, (.mov (.t 6))⟩, ⟨(some 12), none, 0, (.bin .eql (.t 11) (.k (.int .i64 0)))⟩]
def R10_4 : List AR := [⟨(some 13), none, 0, (.mov (.t 5))⟩, ⟨(some 4), none, 0, (.mov (.t 13))⟩]
def R10_5 : List AR := [⟨(some 14), none, 0, (.mov (.t 1))⟩, ⟨(some 15), none, 0, (.mov (.t 6))⟩, ⟨(some 16), none, 0, (.bin .rem (.t 14) (.t 15))⟩, ⟨(some 7), none, 0, (.mov (.t 16))⟩]
def R10_6 : List AR := [⟨(some 17), none, 0, (.mov (.t 7))⟩, ⟨(some 18), none, 0, (.bin .lss (.t 17) (.k (.int .i64 0)))⟩]
def R10_7 : List AR := [⟨(some 19), none, 0, (.mov (.t 7))⟩, ⟨(some 20), none, 0, (.mov (.t 6))⟩, ⟨(some 21), none, 0, (.bin .add (.t 19) (.t 20))⟩, ⟨(some 7), none, 0, (.mov (.t 21))⟩]
def R10_8 : List AR := [⟨(some 22), none, 0, (.mov (.t 5))⟩, ⟨(some 23), none, 0, (.mov (.t 0))⟩, ⟨(some 24), none, 0, (.mov (.t 7))⟩, ⟨(some 25), none, 0, (.slice 1 (.t 23) (some (.t 24)) none)⟩, ⟨(some 26), none, 0, (.app 0 1 8 (.t 22) (.t 25))⟩, ⟨(some 5), none, 0, (.mov (.t 26))⟩]
def R10_9 : List AR := [⟨(some 27), none, 0, (.mov (.t 5))⟩, ⟨(some 28), none, 0, (.mov (.t 0))⟩, ⟨(some 29), none, 0, (.mov (.t 7))⟩, ⟨(some 30), none, 0, (.slice 1 (.t 28) none (some (.t 29)))⟩, ⟨(some 31), none, 0, (.app 0 1 8 (.t 27) (.t 30))⟩, ⟨(some 4), none, 0, (.mov (.t 31))⟩]
def A10_0 : AC := (.seq (.reg 1 R10_9) .ret)
def A10_1 : AC := (.seq (.reg 1 R10_8) A10_0)
def A10_2 : AC := (.seq (.seq (.reg 0 R10_6) (.cond (.t 18) (.reg 0 R10_7) .skip)) A10_1)
def A10_3 : AC := (.seq (.reg 0 R10_5) A10_2)
def A10_4 : AC := (.seq (.seq (.reg 0 R10_3) (.cond (.t 12) (.seq (.reg 0 R10_4) .ret) .skip)) A10_3)
def A10_5 : AC := (.seq (.reg 0 R10_2) A10_4)
def A10_6 : AC := (.seq (.reg 1 R10_1) A10_5)
def A10 : AC := (.seq (.reg 0 R10_0) A10_6)
def O10 : List AO := [(.mov (.t 4))]
def G10 : Fns := ⟨fun f => false, fun f => 0, false⟩
noncomputable def X10 : Cx := ⟨Try.prog, G10, drawD, 32, [0, 1, 4, 5, 6, 7, 12, 18]⟩
theorem c10 : (Try.f10.body).bind (compC X10.P X10.Γ X10.D X10.nt) = some A10 := by kernel_rfl
theorem o10 : compRes X10.P Try.f10.results.toList = some O10 := by kernel_rfl
theorem v10 : X10.vs = [0, 1, 4, 5, 6, 7, 12, 18] := rfl
theorem p10 : X10.P = Try.prog := rfl
def R11_0 : List AR := [⟨(some 2), none, 0, (.mov (.k .nl))⟩]
def R11_1 : List AR := [⟨(some 5), none, 0, (.mov (.t 0))⟩, ⟨(some 6), none, 0, (.len (.t 5))⟩, ⟨(some 7), none, 0, (.mks 0 1 8 [(.int .i64 0)] (.t 6) (.t 6))⟩, ⟨(some 3), none, 0, (.mov (.t 7))⟩]
def R11_2 : List AR := [⟨(some 4), none, 0, (.mov (.k (.int .i64 0)))⟩]
def R11_3 : List AR := [⟨(some 8), none, 0, (.mov (.t 4))⟩, ⟨(some 9), none, 0, (.mov (.t 0))⟩, ⟨(some 10), none, 0, (.len (.t 9))⟩, ⟨(some 11), none, 0, (.bin .lss (.t 8) (.t 10))⟩]
def R11_4 : List AR := [⟨(some 14), none, 0, (.mov (.t 3))⟩, ⟨(some 15), none, 0, (.mov (.t 4))⟩, ⟨(some 16), none, 0, (.mov (.t 0))⟩, ⟨(some 17), none, 0, (.mov (.t 4))⟩, ⟨(some 18), none, 0, (.iaddr 1 (.t 16) (.t 17))⟩, ⟨(some 19), none, 0, (.load 1 false (.t 18))⟩, ⟨(some 20), none, 0, (.iaddr 1 (.t 14) (.t 15))⟩, ⟨none, none, 0, (.store 1 (.t 20) (.t 19))⟩]
def R11_5 : List AR := [⟨(some 12), none, 0, (.mov (.t 4))⟩, ⟨(some 13), none, 0, (.bin .add (.t 12) (.k (.int .i64 1)))⟩, ⟨(some 4), none, 0, (.mov (.t 13))⟩]
def A11_0 : AC := (.seq (.block 1 (.reg 0 R11_4)) (.reg 0 R11_5))
def L11_0 : AC := (.seq (.seq (.reg 0 R11_3) (.cond (.t 11) .skip (.exit 0))) A11_0)
def R11_6 : List AR := [⟨(some 21), none, 0, (.mov (.t 3))⟩, ⟨(some 2), none, 0, (.mov (.t 21))⟩]
def A11_1 : AC := (.seq (.reg 0 R11_6) .ret)
def A11_2 : AC := (.seq (.seq (.reg 0 R11_2) (.block 0 (.loop L11_0))) A11_1)
def A11_3 : AC := (.seq (.reg 1 R11_1) A11_2)
def A11 : AC := (.seq (.reg 0 R11_0) A11_3)
def O11 : List AO := [(.mov (.t 2))]
def G11 : Fns := ⟨fun f => false, fun f => 0, false⟩
noncomputable def X11 : Cx := ⟨Try.prog, G11, drawD, 22, [0, 2, 3, 4, 11]⟩
theorem c11 : (Try.f11.body).bind (compC X11.P X11.Γ X11.D X11.nt) = some A11 := by kernel_rfl
theorem o11 : compRes X11.P Try.f11.results.toList = some O11 := by kernel_rfl
theorem v11 : X11.vs = [0, 2, 3, 4, 11] := rfl
theorem p11 : X11.P = Try.prog := rfl
def R13_0 : List AR := [⟨(some 4), none, 0, (.mov (.k (.bool false)))⟩]
def R13_1 : List AR := [⟨(some 6), none, 0, (.mov (.t 0))⟩, ⟨(some 7), none, 0, (.len (.t 6))⟩, ⟨(some 8), none, 0, (.mov (.t 1))⟩, ⟨(some 9), none, 0, (.len (.t 8))⟩, ⟨(some 10), none, 0, (.bin .neq (.t 7) (.t 9))⟩]
def R13_2 : List AR := [⟨(some 4), none, 0, (.mov (.k (.bool false)))⟩]
def R13_3 : List AR := [⟨(some 5), none, 0, (.mov (.k (.int .i64 0)))⟩]
def R13_4 : List AR := [⟨(some 11), none, 0, (.mov (.t 5))⟩, ⟨(some 12), none, 0, (.mov (.t 0))⟩, ⟨(some 13), none, 0, (.len (.t 12))⟩, ⟨(some 14), none, 0, (.bin .lss (.t 11) (.t 13))⟩]
def R13_5 : List AR := [⟨(some 17), none, 0, (.mov (.t 0))⟩, ⟨(some 18), none, 0, (.mov (.t 5))⟩, ⟨(some 19), none, 0, (.iaddr 1 (.t 17) (.t 18))⟩, ⟨(some 20), none, 0, (.load 1 false (.t 19))⟩, ⟨(some 21), none, 0, (.mov (.t 1))⟩, ⟨(some 22), none, 0, (.mov (.t 5))⟩, ⟨(some 23), none, 0, (.iaddr 1 (.t 21) (.t 22))⟩, ⟨(some 24), none, 0, (.load 1 false (.t 23))⟩, ⟨(some 25), none, 0, (.bin .neq (.t 20) (.t 24))⟩]
def R13_6 : List AR := [⟨(some 4), none, 0, (.mov (.k (.bool false)))⟩]
def R13_7 : List AR := [⟨(some 15), none, 0, (.mov (.t 5))⟩, ⟨(some 16), none, 0, (.bin .add (.t 15) (.k (.int .i64 1)))⟩, ⟨(some 5), none, 0, (.mov (.t 16))⟩]
def A13_0 : AC := (.seq (.block 1 (.seq (.draw 0 R13_5) (.cond (.t 25) (.seq (.reg 0 R13_6) .ret) .skip))) (.reg 0 R13_7))
def L13_0 : AC := (.seq (.seq (.reg 0 R13_4) (.cond (.t 14) .skip (.exit 0))) A13_0)
def R13_8 : List AR := [⟨(some 4), none, 0, (.mov (.k (.bool true)))⟩]
def A13_1 : AC := (.seq (.reg 0 R13_8) .ret)
def A13_2 : AC := (.seq (.seq (.reg 0 R13_3) (.block 0 (.loop L13_0))) A13_1)
def A13_3 : AC := (.seq (.seq (.reg 0 R13_1) (.cond (.t 10) (.seq (.reg 0 R13_2) .ret) .skip)) A13_2)
def A13 : AC := (.seq (.reg 0 R13_0) A13_3)
def O13 : List AO := [(.mov (.t 4))]
def G13 : Fns := ⟨fun f => false, fun f => 0, false⟩
noncomputable def X13 : Cx := ⟨Try.prog, G13, drawD, 26, [0, 1, 4, 5, 10, 14, 25]⟩
theorem c13 : (Try.f13.body).bind (compC X13.P X13.Γ X13.D X13.nt) = some A13 := by kernel_rfl
theorem o13 : compRes X13.P Try.f13.results.toList = some O13 := by kernel_rfl
theorem v13 : X13.vs = [0, 1, 4, 5, 10, 14, 25] := rfl
theorem p13 : X13.P = Try.prog := rfl
def R14_0 : List AR := [⟨(some 4), none, 0, (.mov (.k (.int .i64 0)))⟩]
def R14_1 : List AR := [⟨(some 5), none, 0, (.mov (.k (.int .i64 0)))⟩]
def R14_2 : List AR := [⟨(some 6), none, 0, (.mov (.t 5))⟩, ⟨(some 7), none, 0, (.mov (.t 0))⟩, ⟨(some 8), none, 0, (.len (.t 7))⟩, ⟨(some 9), none, 0, (.bin .lss (.t 6) (.t 8))⟩]
def R14_3 : List AR := [⟨(some 12), none, 0, (.mov (.t 0))⟩, ⟨(some 13), none, 0, (.mov (.t 5))⟩, ⟨(some 14), none, 0, (.mov (.t 1))⟩, ⟨(some 15), none, 0, (.iaddr 1 (.t 12) (.t 13))⟩, ⟨none, none, 0, (.store 1 (.t 15) (.t 14))⟩]
def R14_4 : List AR := [⟨(some 16), none, 0, (.mov (.t 1))⟩, ⟨(some 17), none, 0, (.bin .add (.t 16) (.k (.int .i64 1)))⟩, ⟨(some 1), none, 0, (.mov (.t 17))⟩]
def R14_5 : List AR := [⟨(some 10), none, 0, (.mov (.t 5))⟩, ⟨(some 11), none, 0, (.bin .add (.t 10) (.k (.int .i64 1)))⟩, ⟨(some 5), none, 0, (.mov (.t 11))⟩]
def A14_0 : AC := (.seq (.block 1 (.seq (.reg 0 R14_3) (.reg 0 R14_4))) (.reg 0 R14_5))
def L14_0 : AC := (.seq (.seq (.reg 0 R14_2) (.cond (.t 9) .skip (.exit 0))) A14_0)
def R14_6 : List AR := [⟨(some 18), none, 0, (.mov (.t 1))⟩, ⟨(some 4), none, 0, (.mov (.t 18))⟩]
def A14_1 : AC := (.seq (.reg 0 R14_6) .ret)
def A14_2 : AC := (.seq (.seq (.reg 0 R14_1) (.block 0 (.loop L14_0))) A14_1)
def A14 : AC := (.seq (.reg 0 R14_0) A14_2)
def O14 : List AO := [(.mov (.t 4))]
def G14 : Fns := ⟨fun f => f == 14, fun f => 0, false⟩
noncomputable def X14 : Cx := ⟨Try.prog, G14, drawD, 19, [0, 1, 4, 5, 9]⟩
theorem c14 : (Try.f14.body).bind (compC X14.P X14.Γ X14.D X14.nt) = some A14 := by kernel_rfl
theorem o14 : compRes X14.P Try.f14.results.toList = some O14 := by kernel_rfl
theorem v14 : X14.vs = [0, 1, 4, 5, 9] := rfl
theorem p14 : X14.P = Try.prog := rfl
def R15_0 : List AR := [⟨(some 4), none, 0, (.mov (.k (.int .i64 0)))⟩]
def R15_1 : List AR := [⟨(some 5), none, 0, (.mov (.k (.int .i64 0)))⟩]
def R15_2 : List AR := [⟨(some 6), none, 0, (.mov (.t 5))⟩, ⟨(some 7), none, 0, (.mov (.t 0))⟩, ⟨(some 8), none, 0, (.len (.t 7))⟩, ⟨(some 9), none, 0, (.bin .lss (.t 6) (.t 8))⟩]
def R15_3 : List AR := [⟨(some 12), none, 0, (.mov (.t 0))⟩, ⟨(some 13), none, 0, (.mov (.t 5))⟩, ⟨(some 14), none, 0, (.iaddr 1 (.t 12) (.t 13))⟩, ⟨(some 15), none, 0, (.load 1 false (.t 14))⟩, ⟨(some 16), none, 0, (.mov (.t 1))⟩, ⟨(some 17), none, 0, (.bin .neq (.t 15) (.t 16))⟩]
def R15_4 : List AR := [⟨(some 4), none, 0, (.mov (.k (.int .i64 (-1))))⟩]
def R15_5 : List AR := [⟨(some 18), none, 0, (.mov (.t 1))⟩, ⟨(some 19), none, 0, (.bin .add (.t 18) (.k (.int .i64 1)))⟩, ⟨(some 1), none, 0, (.mov (.t 19))⟩]
def R15_6 : List AR := [⟨(some 10), none, 0, (.mov (.t 5))⟩, ⟨(some 11), none, 0, (.bin .add (.t 10) (.k (.int .i64 1)))⟩, ⟨(some 5), none, 0, (.mov (.t 11))⟩]
def A15_0 : AC := (.seq (.block 1 (.seq (.seq (.reg 0 R15_3) (.cond (.t 17) (.seq (.reg 0 R15_4) .ret) .skip)) (.reg 0 R15_5))) (.reg 0 R15_6))
def L15_0 : AC := (.seq (.seq (.reg 0 R15_2) (.cond (.t 9) .skip (.exit 0))) A15_0)
def R15_7 : List AR := [⟨(some 20), none, 0, (.mov (.t 1))⟩, ⟨(some 4), none, 0, (.mov (.t 20))⟩]
def A15_1 : AC := (.seq (.reg 0 R15_7) .ret)
def A15_2 : AC := (.seq (.seq (.reg 0 R15_1) (.block 0 (.loop L15_0))) A15_1)
def A15 : AC := (.seq (.reg 0 R15_0) A15_2)
def O15 : List AO := [(.mov (.t 4))]
def G15 : Fns := ⟨fun f => false, fun f => 0, false⟩
noncomputable def X15 : Cx := ⟨Try.prog, G15, drawD, 21, [0, 1, 4, 5, 9, 17]⟩
theorem c15 : (Try.f15.body).bind (compC X15.P X15.Γ X15.D X15.nt) = some A15 := by kernel_rfl
theorem o15 : compRes X15.P Try.f15.results.toList = some O15 := by kernel_rfl
theorem v15 : X15.vs = [0, 1, 4, 5, 9, 17] := rfl
theorem p15 : X15.P = Try.prog := rfl
theorem copyInts_ok (xs : List Int) (hx : xs.length ≤ 1000000000) : FS Try.prog 46 [] [.fz 1 (ints xs)] (.sl 0 1 0 xs.length) [⟨1, ints xs⟩] := by
  refine FS.of (X := X46) (ac := A46) (os := O46) Try.func46 (by rfl) (by rfl) (by kernel_rfl) o46 (Nat.le_of_ble_eq_true rfl) ?_
  show AWP X46 A46 (Ends X46.vs O46 0 _ _) [.fz 1 (ints xs), .tup []] []
  obtain ⟨Q, hQ⟩ : ∃ Q, Q = Ends X46.vs O46 0 (.sl 0 1 0 xs.length) [⟨1, ints xs⟩] := ⟨_, rfl⟩
  rw [← hQ]
  refine awp_sr ?_
  simp only [go_sem, R46_0, v46, p46]
  refine awp_sr ?_
  simp only [go_sem, R46_1, v46, p46]
  refine ⟨by omega, ?_⟩
  refine awp_ret ?_
  try simp only [go_sem]
  rw [hQ]
  exact Ends.own1 (.inl rfl) rfl (o := 1) rfl rfl (by simp [V.ids]) (ints_closed xs)
theorem toInts_ok (xs : List Int) (hx : xs.length ≤ 1000000000) : FS Try.prog 11 [] [.fz 1 (ints xs)] (.fz 1 (ints xs)) [] := by
  refine FS.of (X := X11) (ac := A11) (os := O11) Try.func11 (by rfl) (by rfl) (by kernel_rfl) o11 (Nat.le_of_ble_eq_true rfl) ?_
  show AWP X11 A11 (Ends X11.vs O11 0 _ _) [.fz 1 (ints xs), .tup [], .tup [], .tup [], .tup []] []
  obtain ⟨Q, hQ⟩ : ∃ Q, Q = Ends X11.vs O11 0 (.fz 1 (ints xs)) [] := ⟨_, rfl⟩
  rw [← hQ]
  refine awp_sr ?_
  simp only [go_sem, R11_0, v11, p11]
  refine awp_sr ?_
  simp only [go_sem, R11_1, v11, p11]
  refine ⟨by omega, ?_⟩
  refine awp_sr2 ?_
  simp only [go_sem, R11_2, v11, p11]
  refine awp_for (fun m L σ => ∃ i x11 ys, m = xs.length - i ∧ i ≤ xs.length ∧ ys.length = xs.length ∧ ys.take i = xs.take i ∧ L = [.fz 1 (ints xs), .nl, .sl 0 1 0 xs.length, .int .i64 (i : Nat), x11] ∧ σ = [.live ⟨1, ints ys⟩]) xs.length
    ⟨0, _, List.replicate xs.length 0, rfl, Nat.zero_le _, by simp, by simp, rfl, by rw [ints_rep]⟩ ?_
  rintro m L σ ⟨i, x11, ys, rfl, hi, hl, ht, rfl, rfl⟩
  refine awp_sr2 ?_
  simp only [go_sem, R11_3, v11, p11]
  refine awp_if rfl ?_ ?_
  · intro h1
    have h1 : i < xs.length := by omega
    have h2 : i < ys.length := by omega
    refine awp_skip ?_
    simp only [go_sem]
    refine awp_seq (awp_block ?_)
    refine awp_reg ?_
    simp only [go_sem, R11_4, v11, p11, ints_at h1, ints_at h2]
    refine ⟨by omega, ?_⟩
    refine awp_reg ?_
    simp only [go_sem, R11_5, v11, p11, wrap_succ (i := i) (by omega)]
    rw [ints_set]
    refine ⟨xs.length - (i + 1), by omega, i + 1, _, _, rfl, by omega, by simpa using hl, ?_, rfl, rfl⟩
    rw [List.take_succ_eq_append_getElem h1, List.take_succ_eq_append_getElem (by simpa using h2), List.take_set_of_le (Nat.le_refl _), ht]
    simp
  · intro h1
    refine awp_exit ?_
    simp only [go_sem]
    refine awp_sr ?_
    simp only [go_sem, R11_6, v11, p11]
    refine awp_ret ?_
    try simp only [go_sem]
    have : i = xs.length := by omega
    subst this
    rw [List.take_length, ← hl, List.take_length] at ht
    subst ht
    rw [hQ]
    exact Ends.frzSl (.inl rfl) rfl rfl (by simp [ints_len]) (ints_closed _)
theorem toInts_own (xs : List Int) (hx : xs.length ≤ 1000000000) : FS Try.prog 11 [] [.fz 1 (ints xs)] (.sl 0 1 0 xs.length) [⟨1, ints xs⟩] := by
  refine FS.of (X := X11) (ac := A11) (os := O11) Try.func11 (by rfl) (by rfl) (by kernel_rfl) o11 (Nat.le_of_ble_eq_true rfl) ?_
  show AWP X11 A11 (Ends X11.vs O11 0 _ _) [.fz 1 (ints xs), .tup [], .tup [], .tup [], .tup []] []
  obtain ⟨Q, hQ⟩ : ∃ Q, Q = Ends X11.vs O11 0 (.sl 0 1 0 xs.length) [⟨1, ints xs⟩] := ⟨_, rfl⟩
  rw [← hQ]
  refine awp_sr ?_
  simp only [go_sem, R11_0, v11, p11]
  refine awp_sr ?_
  simp only [go_sem, R11_1, v11, p11]
  refine ⟨by omega, ?_⟩
  refine awp_sr2 ?_
  simp only [go_sem, R11_2, v11, p11]
  refine awp_for (fun m L σ => ∃ i x11 ys, m = xs.length - i ∧ i ≤ xs.length ∧ ys.length = xs.length ∧ ys.take i = xs.take i ∧ L = [.fz 1 (ints xs), .nl, .sl 0 1 0 xs.length, .int .i64 (i : Nat), x11] ∧ σ = [.live ⟨1, ints ys⟩]) xs.length
    ⟨0, _, List.replicate xs.length 0, rfl, Nat.zero_le _, by simp, by simp, rfl, by rw [ints_rep]⟩ ?_
  rintro m L σ ⟨i, x11, ys, rfl, hi, hl, ht, rfl, rfl⟩
  refine awp_sr2 ?_
  simp only [go_sem, R11_3, v11, p11]
  refine awp_if rfl ?_ ?_
  · intro h1
    have h1 : i < xs.length := by omega
    have h2 : i < ys.length := by omega
    refine awp_skip ?_
    simp only [go_sem]
    refine awp_seq (awp_block ?_)
    refine awp_reg ?_
    simp only [go_sem, R11_4, v11, p11, ints_at h1, ints_at h2]
    refine ⟨by omega, ?_⟩
    refine awp_reg ?_
    simp only [go_sem, R11_5, v11, p11, wrap_succ (i := i) (by omega)]
    rw [ints_set]
    refine ⟨xs.length - (i + 1), by omega, i + 1, _, _, rfl, by omega, by simpa using hl, ?_, rfl, rfl⟩
    rw [List.take_succ_eq_append_getElem h1, List.take_succ_eq_append_getElem (by simpa using h2), List.take_set_of_le (Nat.le_refl _), ht]
    simp
  · intro h1
    refine awp_exit ?_
    simp only [go_sem]
    refine awp_sr ?_
    simp only [go_sem, R11_6, v11, p11]
    refine awp_ret ?_
    try simp only [go_sem]
    have : i = xs.length := by omega
    subst this
    rw [List.take_length, ← hl, List.take_length] at ht
    subst ht
    rw [hQ]
    exact Ends.own1 (.inl rfl) rfl (o := 0) rfl rfl (by simp [V.ids]) (ints_closed _)
/-- n, n + 1, .. -/
def seqI (n : Int) (k : Nat) : List Int := (List.range k).map fun i : Nat => n + (i : Int)
theorem seqI_len (n : Int) (k : Nat) : (seqI n k).length = k := by simp [seqI]
theorem seqI_succ (n : Int) (k : Nat) : seqI n (k + 1) = seqI n k ++ [n + (k : Int)] := by simp [seqI, List.range_succ]
theorem markInts_nil (n : Int) : FS Try.prog 14 [] [.nl, .int .i64 n] (.int .i64 n) [] := by
  refine FS.of (X := X14) (ac := A14) (os := O14) Try.func14 (by rfl) (by rfl) (by kernel_rfl) o14 (Nat.le_of_ble_eq_true rfl) ?_
  show AWP X14 A14 (Ends X14.vs O14 0 _ _) [.nl, .int .i64 n, .tup [], .tup [], .tup []] []
  obtain ⟨Q, hQ⟩ : ∃ Q, Q = Ends X14.vs O14 0 (.int .i64 n) [] := ⟨_, rfl⟩
  rw [← hQ]
  refine awp_sr ?_
  simp only [go_sem, R14_0, v14, p14]
  refine awp_sr2 ?_
  simp only [go_sem, R14_1, v14, p14]
  refine awp_for (fun m L σ => ∃ x9, L = [.nl, .int .i64 n, .int .i64 0, .int .i64 0, x9]) 0 ⟨_, rfl⟩ ?_
  rintro m L σ ⟨x9, rfl⟩
  refine awp_sr2 ?_
  simp only [go_sem, R14_2, v14, p14]
  refine awp_if rfl (fun h => absurd h (by simp)) ?_
  intro h1
  refine awp_exit ?_
  simp only [go_sem]
  refine awp_sr ?_
  simp only [go_sem, R14_6, v14, p14]
  refine awp_ret ?_
  try simp only [go_sem]
  rw [hQ]
  exact Ends.plain (.inl rfl) rfl (.refl _) rfl
theorem markInts_ok (xs : List Int) (n : Nat) (hx : xs.length ≤ 1000000000) (hn : n ≤ 1000000000) : FS Try.prog 14 [⟨1, ints xs⟩] [.sl 0 1 0 xs.length, .int .i64 n] (.int .i64 ((n + xs.length : Nat) : Int)) [⟨1, ints (seqI n xs.length)⟩] := by
  refine FS.of (X := X14) (ac := A14) (os := O14) Try.func14 (by rfl) (by rfl) (by kernel_rfl) o14 (Nat.le_of_ble_eq_true rfl) ?_
  show AWP X14 A14 (Ends X14.vs O14 1 _ _) [.sl 0 1 0 xs.length, .int .i64 n, .tup [], .tup [], .tup []] [.live ⟨1, ints xs⟩]
  obtain ⟨Q, hQ⟩ : ∃ Q, Q = Ends X14.vs O14 1 (.int .i64 ((n + xs.length : Nat) : Int)) [⟨1, ints (seqI n xs.length)⟩] := ⟨_, rfl⟩
  rw [← hQ]
  refine awp_sr ?_
  simp only [go_sem, R14_0, v14, p14]
  refine awp_sr2 ?_
  simp only [go_sem, R14_1, v14, p14]
  refine awp_for (fun m L σ => ∃ i x9 ys, m = xs.length - i ∧ i ≤ xs.length ∧ ys.length = xs.length ∧ ys.take i = seqI n i ∧ L = [.sl 0 1 0 xs.length, .int .i64 ((n + i : Nat) : Int), .int .i64 0, .int .i64 (i : Nat), x9] ∧ σ = [.live ⟨1, ints ys⟩]) xs.length
    ⟨0, _, xs, rfl, Nat.zero_le _, rfl, by simp [seqI], rfl, rfl⟩ ?_
  rintro m L σ ⟨i, x9, ys, rfl, hi, hl, ht, rfl, rfl⟩
  refine awp_sr2 ?_
  simp only [go_sem, R14_2, v14, p14]
  refine awp_if rfl ?_ ?_
  · intro h1
    have h1 : i < xs.length := by omega
    have h2 : i < ys.length := by omega
    refine awp_skip ?_
    simp only [go_sem]
    refine awp_seq (awp_block ?_)
    refine awp_sr ?_
    simp only [go_sem, R14_3, v14, p14, ints_at h2]
    refine ⟨by omega, ?_⟩
    refine awp_reg ?_
    simp only [go_sem, R14_4, v14, p14, wrap_succ (i := n + i) (by omega)]
    refine awp_reg ?_
    simp only [go_sem, R14_5, v14, p14, wrap_succ (i := i) (by omega)]
    rw [ints_set]
    refine ⟨xs.length - (i + 1), by omega, i + 1, _, _, rfl, by omega, by simpa using hl, ?_, rfl, rfl⟩
    rw [List.take_succ_eq_append_getElem (by simpa using h2), List.take_set_of_le (Nat.le_refl _), ht, seqI_succ]
    simp
  · intro h1
    refine awp_exit ?_
    simp only [go_sem]
    refine awp_sr ?_
    simp only [go_sem, R14_6, v14, p14]
    refine awp_ret ?_
    try simp only [go_sem]
    have : i = xs.length := by omega
    subst this
    rw [← hl, List.take_length, hl] at ht
    subst ht
    rw [hQ]
    exact Ends.keep (σo := [⟨1, ints (seqI n xs.length)⟩]) (.inl rfl) rfl (.refl _) rfl (fun k ob hk => by
      cases k with
      | zero => simpa using hk
      | succ k => simp at hk) (by simpa using ints_closed _)
/-- what a look through marked numbers answers -/
def heldI (n : Nat) (xs : List Int) : Int := if xs = seqI n xs.length then ((n + xs.length : Nat) : Int) else -1
theorem heldInts_ok (xs : List Int) (n : Nat) (hx : xs.length ≤ 1000000000) (hn : n ≤ 1000000000) : FS Try.prog 15 [] [.fz 1 (ints xs), .int .i64 n] (.int .i64 (heldI n xs)) [] := by
  refine FS.of (X := X15) (ac := A15) (os := O15) Try.func15 (by rfl) (by rfl) (by kernel_rfl) o15 (Nat.le_of_ble_eq_true rfl) ?_
  show AWP X15 A15 (Ends X15.vs O15 0 _ _) [.fz 1 (ints xs), .int .i64 n, .tup [], .tup [], .tup [], .tup []] []
  obtain ⟨Q, hQ⟩ : ∃ Q, Q = Ends X15.vs O15 0 (.int .i64 (heldI n xs)) [] := ⟨_, rfl⟩
  rw [← hQ]
  refine awp_sr ?_
  simp only [go_sem, R15_0, v15, p15]
  refine awp_sr2 ?_
  simp only [go_sem, R15_1, v15, p15]
  refine awp_for (fun m L σ => ∃ i x9 x17, m = xs.length - i ∧ i ≤ xs.length ∧ xs.take i = seqI n i ∧ L = [.fz 1 (ints xs), .int .i64 ((n + i : Nat) : Int), .int .i64 0, .int .i64 (i : Nat), x9, x17]) xs.length
    ⟨0, _, _, rfl, Nat.zero_le _, by simp [seqI], rfl⟩ ?_
  rintro m L σ ⟨i, x9, x17, rfl, hi, ht, rfl⟩
  refine awp_sr2 ?_
  simp only [go_sem, R15_2, v15, p15]
  refine awp_if rfl ?_ ?_
  · intro h1
    have h1 : i < xs.length := by omega
    refine awp_skip ?_
    simp only [go_sem]
    refine awp_seq (awp_block ?_)
    refine awp_sr2 ?_
    simp only [go_sem, R15_3, v15, p15, ints_at h1]
    refine awp_if rfl ?_ ?_
    · intro h2
      refine awp_sr ?_
      simp only [go_sem, R15_4, v15, p15]
      refine awp_ret ?_
      try simp only [go_sem]
      rw [hQ]
      refine Ends.plain (.inl rfl) rfl ?_ rfl
      have : heldI n xs = -1 := by
        unfold heldI
        rw [if_neg]
        intro e
        apply h2
        have h3 : xs[i]? = (seqI n xs.length)[i]? := by rw [← e]
        simp [seqI, h1] at h3
        rw [h3]; simp
      rw [this]; exact .refl _
    · intro h2
      refine awp_skip ?_
      simp only [go_sem]
      refine awp_reg ?_
      simp only [go_sem, R15_5, v15, p15, wrap_succ (i := n + i) (by omega)]
      refine awp_reg ?_
      simp only [go_sem, R15_6, v15, p15, wrap_succ (i := i) (by omega)]
      refine ⟨xs.length - (i + 1), by omega, i + 1, _, _, rfl, by omega, ?_, rfl⟩
      rw [List.take_succ_eq_append_getElem h1, ht, seqI_succ]
      simp at h2
      rw [h2]
  · intro h1
    refine awp_exit ?_
    simp only [go_sem]
    refine awp_sr ?_
    simp only [go_sem, R15_7, v15, p15]
    refine awp_ret ?_
    try simp only [go_sem]
    have : i = xs.length := by omega
    subst this
    rw [hQ]
    refine Ends.plain (.inl rfl) rfl ?_ rfl
    rw [List.take_length] at ht
    have : heldI n xs = ((n + xs.length : Nat) : Int) := by unfold heldI; rw [if_pos ht]
    rw [this]; exact .refl _
theorem eqInts_ok (xs ys : List Int) (hx : xs.length < 9000000000000000000) : FS Try.prog 13 [] [.fz 1 (ints xs), .fz 1 (ints ys)] (.bool (decide (xs = ys))) [] := by
  refine FS.of (X := X13) (ac := A13) (os := O13) Try.func13 (by rfl) (by rfl) (by kernel_rfl) o13 (Nat.le_of_ble_eq_true rfl) ?_
  show AWP X13 A13 (Ends X13.vs O13 0 _ _) [.fz 1 (ints xs), .fz 1 (ints ys), .tup [], .tup [], .tup [], .tup [], .tup []] []
  obtain ⟨Q, hQ⟩ : ∃ Q, Q = Ends X13.vs O13 0 (.bool (decide (xs = ys))) [] := ⟨_, rfl⟩
  rw [← hQ]
  have fin : ∀ e L σ b, (e = .ret ∨ e = .normal) → look X13.vs L 4 = .bool b → b = decide (xs = ys) → Q e L σ := by
    intro e L σ b he hl hb
    rw [hQ]; refine Ends.plain he (rs := [.bool b]) ?_ ?_ rfl
    · simp only [go_sem, O13, hl]
    · rw [hb]; exact .refl _
  refine awp_sr ?_
  simp only [go_sem, R13_0, v13, Nat.reduceEqDiff, Nat.reduceAdd, Nat.reduceLeDiff]
  refine awp_sr2 ?_
  simp only [go_sem, R13_1, v13, Nat.reduceEqDiff, Nat.reduceAdd, Nat.reduceLeDiff]
  refine awp_if rfl ?_ ?_
  · intro h
    refine awp_sr ?_
    simp only [go_sem, R13_2, v13, p13, Nat.reduceEqDiff, Nat.reduceAdd, Nat.reduceLeDiff]
    refine awp_ret (fin _ _ _ false (.inl rfl) rfl ?_)
    symm; simp; intro e; subst e; exact h rfl
  · intro h
    have hl : xs.length = ys.length := by omega
    refine awp_skip ?_
    simp only [go_sem]
    refine awp_sr2 ?_
    simp only [go_sem, R13_3, v13, p13, Nat.reduceEqDiff, Nat.reduceAdd, Nat.reduceLeDiff]
    refine awp_for (fun n L σ => ∃ i x10 x14 x25, n = xs.length - i ∧ i ≤ xs.length ∧ xs.take i = ys.take i ∧ L = [.fz 1 (ints xs), .fz 1 (ints ys), .bool false, .int .i64 (i : Nat), x10, x14, x25]) xs.length ⟨0, _, _, _, rfl, Nat.zero_le _, by simp, rfl⟩ ?_
    rintro n L σ ⟨i, x10, x14, x25, rfl, hi, ht, rfl⟩
    refine awp_sr2 ?_
    simp only [go_sem, R13_4, v13, p13, Nat.reduceEqDiff, Nat.reduceAdd, Nat.reduceLeDiff]
    refine awp_if rfl ?_ ?_
    · intro h1
      have h1 : i < xs.length := by omega
      have h2 : i < ys.length := by omega
      refine awp_skip ?_
      simp only [go_sem]
      refine awp_seq (awp_block ?_)
      refine awp_sd mixed rfl (by rfl) ?_
      simp only [go_sem, R13_5, v13, p13, Nat.reduceEqDiff, Nat.reduceAdd, Nat.reduceLeDiff, ints_get (List.getElem?_eq_getElem h1), ints_get (List.getElem?_eq_getElem h2)]
      refine awp_if rfl ?_ ?_
      · intro h3
        refine awp_sr ?_
        simp only [go_sem, R13_6, v13, p13, Nat.reduceEqDiff, Nat.reduceAdd, Nat.reduceLeDiff]
        refine awp_ret ?_
        simp only [go_sem]
        refine fin _ _ _ false (.inl rfl) rfl ?_
        symm; simp; intro e; subst e; exact h3 rfl
      · intro h3
        refine awp_skip ?_
        simp only [go_sem]
        refine awp_reg ?_
        simp only [go_sem, R13_7, v13, p13, Nat.reduceEqDiff, Nat.reduceAdd, Nat.reduceLeDiff, wrap_succ (i := i) (by omega)]
        refine ⟨xs.length - (i + 1), by omega, i + 1, _, _, _, rfl, by omega, ?_, rfl⟩
        rw [List.take_succ_eq_append_getElem h1, List.take_succ_eq_append_getElem h2, ht]
        simp at h3
        rw [h3]
    · intro h1
      refine awp_exit ?_
      simp only [go_sem]
      refine awp_sr ?_
      simp only [go_sem, R13_8, v13, p13, Nat.reduceEqDiff, Nat.reduceAdd, Nat.reduceLeDiff]
      refine awp_ret (fin _ _ _ true (.inl rfl) rfl ?_)
      have : i = xs.length := by omega
      subst this
      rw [List.take_length, hl, List.take_length] at ht
      simp [ht]
end Go.Proofs.Ytffigokicddekaa.Abs
/- Copies, sizes and equality, walked: an entry, an item. No condition. -/
set_option linter.unusedVariables false
set_option linter.unusedSimpArgs false
set_option maxRecDepth 10000
namespace Go.Proofs.Ytffigokicddekaa.Abs
open Go Go.Proofs
def R170_0 : List AR := [⟨(some 1), none, 0, (.box 0 5 (.t 0))⟩, ⟨(some 2), none, 0, (.alloc 1 5 [(.int .i64 0), (.int .i64 0), (.int .i64 0), (.int .i64 0), (.str ⟨⟨[]⟩⟩)])⟩]
def R170_1 : List AR := [⟨(some 3), none, 0, (.alloc 0 5 [(.int .i64 0), (.int .i64 0), (.int .i64 0), (.int .i64 0), (.str ⟨⟨[]⟩⟩)])⟩]
def R170_2 : List AR := [⟨(some 4), none, 0, (.faddr 0 (.t 1))⟩, ⟨(some 5), none, 0, (.load 1 false (.t 4))⟩, ⟨(some 6), none, 0, (.faddr 0 (.t 3))⟩, ⟨none, none, 0, (.store 1 (.t 6) (.t 5))⟩]
def R170_3 : List AR := [⟨(some 7), none, 0, (.faddr 1 (.t 1))⟩, ⟨(some 8), none, 0, (.load 1 false (.t 7))⟩, ⟨(some 9), none, 0, (.faddr 1 (.t 3))⟩, ⟨none, none, 0, (.store 1 (.t 9) (.t 8))⟩]
def R170_4 : List AR := [⟨(some 10), none, 0, (.faddr 2 (.t 1))⟩, ⟨(some 11), none, 0, (.load 1 false (.t 10))⟩, ⟨(some 12), none, 0, (.faddr 2 (.t 3))⟩, ⟨none, none, 0, (.store 1 (.t 12) (.t 11))⟩]
def R170_5 : List AR := [⟨(some 13), none, 0, (.faddr 3 (.t 1))⟩, ⟨(some 14), none, 0, (.load 1 false (.t 13))⟩, ⟨(some 15), none, 0, (.faddr 3 (.t 3))⟩, ⟨none, none, 0, (.store 1 (.t 15) (.t 14))⟩]
def R170_6 : List AR := [⟨(some 16), none, 0, (.faddr 4 (.t 1))⟩, ⟨(some 17), none, 0, (.load 1 false (.t 16))⟩, ⟨(some 18), none, 0, (.faddr 4 (.t 3))⟩, ⟨none, none, 0, (.store 1 (.t 18) (.t 17))⟩]
def R170_7 : List AR := [⟨(some 19), none, 0, (.load 5 true (.t 3))⟩, ⟨none, none, 0, (.store 5 (.t 2) (.t 19))⟩]
def A170_0 : AC := (.seq (.reg 0 R170_7) .ret)
def A170_1 : AC := (.seq (.reg 0 R170_6) A170_0)
def A170_2 : AC := (.seq (.reg 0 R170_5) A170_1)
def A170_3 : AC := (.seq (.reg 0 R170_4) A170_2)
def A170_4 : AC := (.seq (.reg 0 R170_3) A170_3)
def A170_5 : AC := (.seq (.reg 0 R170_2) A170_4)
def A170_6 : AC := (.seq (.reg 1 R170_1) A170_5)
def A170 : AC := (.seq (.reg 2 R170_0) A170_6)
def O170 : List AO := [(.load 5 true (.t 2))]
def G170 : Fns := ⟨fun f => false, fun f => 0, false⟩
noncomputable def X170 : Cx := ⟨Try.prog, G170, drawD, 20, [0, 1, 2, 3]⟩
theorem c170 : (Try.f170.body).bind (compC X170.P X170.Γ X170.D X170.nt) = some A170 := by kernel_rfl
theorem o170 : compRes X170.P Try.f170.results.toList = some O170 := by kernel_rfl
theorem v170 : X170.vs = [0, 1, 2, 3] := rfl
theorem p170 : X170.P = Try.prog := rfl
def R143_0 : List AR := [⟨(some 1), none, 0, (.box 0 6 (.t 0))⟩, ⟨(some 2), none, 0, (.alloc 1 6 [(.int .i64 0), (.int .i64 0), (.int .i64 0), (.int .i64 0), (.int .i64 0), (.str ⟨⟨[]⟩⟩)])⟩]
def R143_1 : List AR := [⟨(some 3), none, 0, (.alloc 0 6 [(.int .i64 0), (.int .i64 0), (.int .i64 0), (.int .i64 0), (.int .i64 0), (.str ⟨⟨[]⟩⟩)])⟩]
def R143_2 : List AR := [⟨(some 4), none, 0, (.faddr 0 (.t 1))⟩, ⟨(some 5), none, 0, (.load 1 false (.t 4))⟩, ⟨(some 6), none, 0, (.faddr 0 (.t 3))⟩, ⟨none, none, 0, (.store 1 (.t 6) (.t 5))⟩]
def R143_3 : List AR := [⟨(some 7), none, 0, (.faddr 1 (.t 1))⟩, ⟨(some 8), none, 0, (.load 5 true (.t 7))⟩, ⟨(some 9), none, 0, (.call false 0 0 170 [(.t 8)])⟩, ⟨(some 10), none, 0, (.faddr 1 (.t 3))⟩, ⟨none, none, 0, (.store 5 (.t 10) (.t 9))⟩]
def R143_4 : List AR := [⟨(some 11), none, 0, (.load 6 true (.t 3))⟩, ⟨none, none, 0, (.store 6 (.t 2) (.t 11))⟩]
def A143_0 : AC := (.seq (.reg 0 R143_4) .ret)
def A143_1 : AC := (.seq (.reg 0 R143_3) A143_0)
def A143_2 : AC := (.seq (.reg 0 R143_2) A143_1)
def A143_3 : AC := (.seq (.reg 1 R143_1) A143_2)
def A143 : AC := (.seq (.reg 2 R143_0) A143_3)
def O143 : List AO := [(.load 6 true (.t 2))]
def G143 : Fns := ⟨fun f => false, fun f => 0, false⟩
noncomputable def X143 : Cx := ⟨Try.prog, G143, drawD, 12, [0, 1, 2, 3]⟩
theorem c143 : (Try.f143.body).bind (compC X143.P X143.Γ X143.D X143.nt) = some A143 := by kernel_rfl
theorem o143 : compRes X143.P Try.f143.results.toList = some O143 := by kernel_rfl
theorem v143 : X143.vs = [0, 1, 2, 3] := rfl
theorem p143 : X143.P = Try.prog := rfl
def R169_0 : List AR := [⟨(some 2), none, 0, (.box 0 5 (.t 0))⟩, ⟨(some 4), none, 0, (.mov (.k (.int .i64 0)))⟩]
def R169_1 : List AR := [⟨(some 5), none, 0, (.mov (.t 1))⟩, ⟨(some 6), none, 0, (.faddr 4 (.t 2))⟩, ⟨(some 7), none, 0, (.load 1 false (.t 6))⟩, ⟨(some 8), none, 0, (.slen (.t 7))⟩, ⟨(some 9), none, 0, (.bin .sub (.t 5) (.t 8))⟩, ⟨(some 1), none, 0, (.mov (.t 9))⟩]
def R169_2 : List AR := [⟨(some 10), none, 0, (.mov (.t 1))⟩, ⟨(some 11), none, 0, (.bin .lss (.t 10) (.k (.int .i64 0)))⟩]
def R169_3 : List AR := [⟨(some 4), none, 0, (.mov (.k (.int .i64 (-1))))⟩]
def R169_4 : List AR := [⟨(some 12), none, 0, (.mov (.t 1))⟩, ⟨(some 4), none, 0, (.mov (.t 12))⟩]
def A169_0 : AC := (.seq (.reg 0 R169_4) .ret)
def A169_1 : AC := (.seq (.seq (.reg 0 R169_2) (.cond (.t 11) (.seq (.reg 0 R169_3) .ret) .skip)) A169_0)
def A169_2 : AC := (.seq (.reg 0 R169_1) A169_1)
def A169 : AC := (.seq (.reg 1 R169_0) A169_2)
def O169 : List AO := [(.mov (.t 4))]
def G169 : Fns := ⟨fun f => false, fun f => 0, false⟩
noncomputable def X169 : Cx := ⟨Try.prog, G169, drawD, 13, [0, 1, 2, 4, 11]⟩
theorem c169 : (Try.f169.body).bind (compC X169.P X169.Γ X169.D X169.nt) = some A169 := by kernel_rfl
theorem o169 : compRes X169.P Try.f169.results.toList = some O169 := by kernel_rfl
theorem v169 : X169.vs = [0, 1, 2, 4, 11] := rfl
theorem p169 : X169.P = Try.prog := rfl
def R142_0 : List AR := [⟨(some 2), none, 0, (.box 0 6 (.t 0))⟩, ⟨(some 4), none, 0, (.mov (.k (.int .i64 0)))⟩]
def R142_1 : List AR := [⟨(some 5), none, 0, (.faddr 1 (.t 2))⟩, ⟨(some 6), none, 0, (.load 5 true (.t 5))⟩, ⟨(some 7), none, 0, (.mov (.t 1))⟩, ⟨(some 8), none, 0, (.call false 0 0 169 [(.t 6), (.t 7)])⟩, ⟨(some 1), none, 0, (.mov (.t 8))⟩]
def R142_2 : List AR := [⟨(some 9), none, 0, (.mov (.t 1))⟩, ⟨(some 10), none, 0, (.bin .lss (.t 9) (.k (.int .i64 0)))⟩]
def R142_3 : List AR := [⟨(some 4), none, 0, (.mov (.k (.int .i64 (-1))))⟩]
def R142_4 : List AR := [⟨(some 11), none, 0, (.mov (.t 1))⟩, ⟨(some 4), none, 0, (.mov (.t 11))⟩]
def A142_0 : AC := (.seq (.reg 0 R142_4) .ret)
def A142_1 : AC := (.seq (.seq (.reg 0 R142_2) (.cond (.t 10) (.seq (.reg 0 R142_3) .ret) .skip)) A142_0)
def A142_2 : AC := (.seq (.reg 0 R142_1) A142_1)
def A142 : AC := (.seq (.reg 1 R142_0) A142_2)
def O142 : List AO := [(.mov (.t 4))]
def G142 : Fns := ⟨fun f => false, fun f => 0, false⟩
noncomputable def X142 : Cx := ⟨Try.prog, G142, drawD, 12, [0, 1, 2, 4, 10]⟩
theorem c142 : (Try.f142.body).bind (compC X142.P X142.Γ X142.D X142.nt) = some A142 := by kernel_rfl
theorem o142 : compRes X142.P Try.f142.results.toList = some O142 := by kernel_rfl
theorem v142 : X142.vs = [0, 1, 2, 4, 10] := rfl
theorem p142 : X142.P = Try.prog := rfl
def R111_0 : List AR := [⟨(some 2), none, 0, (.box 0 5 (.t 0))⟩, ⟨(some 3), none, 0, (.box 1 5 (.t 1))⟩, ⟨(some 4), none, 0, (.mov (.k (.bool false)))⟩]
def R111_1 : List AR := [⟨(some 5), none, 0, (.faddr 0 (.t 2))⟩, ⟨(some 6), none, 0, (.load 1 false (.t 5))⟩, ⟨(some 7), none, 0, (.faddr 0 (.t 3))⟩, ⟨(some 8), none, 0, (.load 1 false (.t 7))⟩, ⟨(some 9), none, 0, (.bin .neq (.t 6) (.t 8))⟩]
def R111_2 : List AR := [⟨(some 4), none, 0, (.mov (.k (.bool false)))⟩]
def R111_3 : List AR := [⟨(some 10), none, 0, (.faddr 1 (.t 2))⟩, ⟨(some 11), none, 0, (.load 1 false (.t 10))⟩, ⟨(some 12), none, 0, (.faddr 1 (.t 3))⟩, ⟨(some 13), none, 0, (.load 1 false (.t 12))⟩, ⟨(some 14), none, 0, (.bin .neq (.t 11) (.t 13))⟩]
def R111_4 : List AR := [⟨(some 4), none, 0, (.mov (.k (.bool false)))⟩]
def R111_5 : List AR := [⟨(some 15), none, 0, (.faddr 2 (.t 2))⟩, ⟨(some 16), none, 0, (.load 1 false (.t 15))⟩, ⟨(some 17), none, 0, (.faddr 2 (.t 3))⟩, ⟨(some 18), none, 0, (.load 1 false (.t 17))⟩, ⟨(some 19), none, 0, (.bin .neq (.t 16) (.t 18))⟩]
def R111_6 : List AR := [⟨(some 4), none, 0, (.mov (.k (.bool false)))⟩]
def R111_7 : List AR := [⟨(some 20), none, 0, (.faddr 3 (.t 2))⟩, ⟨(some 21), none, 0, (.load 1 false (.t 20))⟩, ⟨(some 22), none, 0, (.faddr 3 (.t 3))⟩, ⟨(some 23), none, 0, (.load 1 false (.t 22))⟩, ⟨(some 24), none, 0, (.bin .neq (.t 21) (.t 23))⟩]
def R111_8 : List AR := [⟨(some 4), none, 0, (.mov (.k (.bool false)))⟩]
def R111_9 : List AR := [⟨(some 25), none, 0, (.faddr 4 (.t 2))⟩, ⟨(some 26), none, 0, (.load 1 false (.t 25))⟩, ⟨(some 27), none, 0, (.faddr 4 (.t 3))⟩, ⟨(some 28), none, 0, (.load 1 false (.t 27))⟩, ⟨(some 29), none, 0, (.bin .neq (.t 26) (.t 28))⟩]
def R111_10 : List AR := [⟨(some 4), none, 0, (.mov (.k (.bool false)))⟩]
def R111_11 : List AR := [⟨(some 4), none, 0, (.mov (.k (.bool true)))⟩]
def A111_0 : AC := (.seq (.reg 0 R111_11) .ret)
def A111_1 : AC := (.seq (.seq (.reg 0 R111_9) (.cond (.t 29) (.seq (.reg 0 R111_10) .ret) .skip)) A111_0)
def A111_2 : AC := (.seq (.seq (.reg 0 R111_7) (.cond (.t 24) (.seq (.reg 0 R111_8) .ret) .skip)) A111_1)
def A111_3 : AC := (.seq (.seq (.reg 0 R111_5) (.cond (.t 19) (.seq (.reg 0 R111_6) .ret) .skip)) A111_2)
def A111_4 : AC := (.seq (.seq (.reg 0 R111_3) (.cond (.t 14) (.seq (.reg 0 R111_4) .ret) .skip)) A111_3)
def A111_5 : AC := (.seq (.seq (.reg 0 R111_1) (.cond (.t 9) (.seq (.reg 0 R111_2) .ret) .skip)) A111_4)
def A111 : AC := (.seq (.reg 2 R111_0) A111_5)
def O111 : List AO := [(.mov (.t 4))]
def G111 : Fns := ⟨fun f => false, fun f => 0, false⟩
noncomputable def X111 : Cx := ⟨Try.prog, G111, drawD, 30, [0, 1, 2, 3, 4, 9, 14, 19, 24, 29]⟩
theorem c111 : (Try.f111.body).bind (compC X111.P X111.Γ X111.D X111.nt) = some A111 := by kernel_rfl
theorem o111 : compRes X111.P Try.f111.results.toList = some O111 := by kernel_rfl
theorem v111 : X111.vs = [0, 1, 2, 3, 4, 9, 14, 19, 24, 29] := rfl
theorem p111 : X111.P = Try.prog := rfl
def R63_0 : List AR := [⟨(some 2), none, 0, (.box 0 6 (.t 0))⟩, ⟨(some 3), none, 0, (.box 1 6 (.t 1))⟩, ⟨(some 4), none, 0, (.mov (.k (.bool false)))⟩]
def R63_1 : List AR := [⟨(some 5), none, 0, (.faddr 0 (.t 2))⟩, ⟨(some 6), none, 0, (.load 1 false (.t 5))⟩, ⟨(some 7), none, 0, (.faddr 0 (.t 3))⟩, ⟨(some 8), none, 0, (.load 1 false (.t 7))⟩, ⟨(some 9), none, 0, (.bin .neq (.t 6) (.t 8))⟩]
def R63_2 : List AR := [⟨(some 4), none, 0, (.mov (.k (.bool false)))⟩]
def R63_3 : List AR := [⟨(some 10), none, 0, (.faddr 1 (.t 2))⟩, ⟨(some 11), none, 0, (.load 5 true (.t 10))⟩, ⟨(some 12), none, 0, (.faddr 1 (.t 3))⟩, ⟨(some 13), none, 0, (.load 5 true (.t 12))⟩, ⟨(some 14), none, 0, (.call false 0 0 111 [(.t 11), (.t 13)])⟩, ⟨(some 15), none, 0, (.not (.t 14))⟩]
def R63_4 : List AR := [⟨(some 4), none, 0, (.mov (.k (.bool false)))⟩]
def R63_5 : List AR := [⟨(some 4), none, 0, (.mov (.k (.bool true)))⟩]
def A63_0 : AC := (.seq (.reg 0 R63_5) .ret)
def A63_1 : AC := (.seq (.seq (.reg 0 R63_3) (.cond (.t 15) (.seq (.reg 0 R63_4) .ret) .skip)) A63_0)
def A63_2 : AC := (.seq (.seq (.reg 0 R63_1) (.cond (.t 9) (.seq (.reg 0 R63_2) .ret) .skip)) A63_1)
def A63 : AC := (.seq (.reg 2 R63_0) A63_2)
def O63 : List AO := [(.mov (.t 4))]
def G63 : Fns := ⟨fun f => false, fun f => 0, false⟩
noncomputable def X63 : Cx := ⟨Try.prog, G63, drawD, 16, [0, 1, 2, 3, 4, 9, 15]⟩
theorem c63 : (Try.f63.body).bind (compC X63.P X63.Γ X63.D X63.nt) = some A63 := by kernel_rfl
theorem o63 : compRes X63.P Try.f63.results.toList = some O63 := by kernel_rfl
theorem v63 : X63.vs = [0, 1, 2, 3, 4, 9, 15] := rfl
theorem p63 : X63.P = Try.prog := rfl
theorem toEntry_ok (a : Entry) : FS Try.prog 170 [] [.agg a.c] (.agg a.c) [] := by
  refine FS.of (X := X170) (ac := A170) (os := O170) Try.func170 (by rfl) (by rfl) (by kernel_rfl) o170 (Nat.le_of_ble_eq_true rfl) ?_
  show AWP X170 A170 (Ends X170.vs O170 0 _ _) [.agg a.c, .tup [], .tup [], .tup []] []
  obtain ⟨Q, hQ⟩ : ∃ Q, Q = Ends X170.vs O170 0 (.agg a.c) [] := ⟨_, rfl⟩
  rw [← hQ]
  refine awp_sr ?_
  simp only [go_sem, R170_0, v170, p170, Entry.c]
  refine awp_sr ?_
  simp only [go_sem, R170_1, v170, p170]
  refine awp_sr ?_
  simp only [go_sem, R170_2, v170, p170]
  refine awp_sr ?_
  simp only [go_sem, R170_3, v170, p170]
  refine awp_sr ?_
  simp only [go_sem, R170_4, v170, p170]
  refine awp_sr ?_
  simp only [go_sem, R170_5, v170, p170]
  refine awp_sr ?_
  simp only [go_sem, R170_6, v170, p170]
  refine awp_sr ?_
  simp only [go_sem, R170_7, v170, p170]
  refine awp_ret ?_
  try simp only [go_sem]
  rw [hQ]
  exact Ends.plain (.inl rfl) rfl (.refl _) rfl
theorem toItem_ok (a : Item) : FS Try.prog 143 [] [.agg a.c] (.agg a.c) [] := by
  refine FS.of (X := X143) (ac := A143) (os := O143) Try.func143 (by rfl) (by rfl) (by kernel_rfl) o143 (Nat.le_of_ble_eq_true rfl) ?_
  show AWP X143 A143 (Ends X143.vs O143 0 _ _) [.agg a.c, .tup [], .tup [], .tup []] []
  obtain ⟨Q, hQ⟩ : ∃ Q, Q = Ends X143.vs O143 0 (.agg a.c) [] := ⟨_, rfl⟩
  rw [← hQ]
  refine awp_sr ?_
  simp only [go_sem, R143_0, v143, p143, Item.c]
  refine awp_sr ?_
  simp only [go_sem, R143_1, v143, p143]
  refine awp_sr ?_
  simp only [go_sem, R143_2, v143, p143]
  refine awp_sr ?_
  simp only [go_sem, R143_3, v143, p143]
  refine run_see (toEntry_ok a.entry) false (Views.refl rfl) rfl (fun j hj => by omega) (fun h => by cases h) ?_
  simp only [go_sem, v143, p143, Entry.c]
  refine awp_sr ?_
  simp only [go_sem, R143_4, v143, p143]
  refine awp_ret ?_
  try simp only [go_sem]
  rw [hQ]
  exact Ends.plain (.inl rfl) rfl (.refl _) rfl
theorem szEntry_ok (a : Entry) (n : Nat) (hn : n ≤ 1048576) (ha : a.data.size ≤ 1000000000000000) : FS Try.prog 169 [] [.agg a.c, .int .i64 n] (.int .i64 (left n a.sz)) [] := by
  refine FS.of (X := X169) (ac := A169) (os := O169) Try.func169 (by rfl) (by rfl) (by kernel_rfl) o169 (Nat.le_of_ble_eq_true rfl) ?_
  show AWP X169 A169 (Ends X169.vs O169 0 _ _) [.agg a.c, .int .i64 n, .tup [], .tup [], .tup []] []
  obtain ⟨Q, hQ⟩ : ∃ Q, Q = Ends X169.vs O169 0 (.int .i64 (left n a.sz)) [] := ⟨_, rfl⟩
  rw [← hQ]
  refine awp_sr ?_
  simp only [go_sem, R169_0, v169, p169, Entry.c]
  refine awp_sr ?_
  simp only [go_sem, R169_1, v169, p169, wrap_i64 (n := (n : Int) - a.data.size) (by omega) (by omega)]
  refine awp_sr2 ?_
  simp only [go_sem, R169_2, v169, p169]
  refine awp_if rfl ?_ ?_
  · intro h
    refine awp_sr ?_
    simp only [go_sem, R169_3, v169, p169]
    refine awp_ret ?_
    try simp only [go_sem]
    rw [hQ]
    refine Ends.plain (.inl rfl) rfl ?_ rfl
    rw [left, if_neg (by simp only [Entry.sz]; omega)]
    exact .refl _
  · intro h
    refine awp_skip ?_
    simp only [go_sem]
    refine awp_sr ?_
    simp only [go_sem, R169_4, v169, p169]
    refine awp_ret ?_
    try simp only [go_sem]
    rw [hQ]
    refine Ends.plain (.inl rfl) rfl ?_ rfl
    rw [left, if_pos (by simp only [Entry.sz]; omega), show ((n - a.sz : Nat) : Int) = n - a.data.size by simp only [Entry.sz]; omega]
    exact .refl _
theorem szItem_ok (a : Item) (n : Nat) (hn : n ≤ 1048576) (ha : a.entry.data.size ≤ 1000000000000000) : FS Try.prog 142 [] [.agg a.c, .int .i64 n] (.int .i64 (left n a.sz)) [] := by
  refine FS.of (X := X142) (ac := A142) (os := O142) Try.func142 (by rfl) (by rfl) (by kernel_rfl) o142 (Nat.le_of_ble_eq_true rfl) ?_
  show AWP X142 A142 (Ends X142.vs O142 0 _ _) [.agg a.c, .int .i64 n, .tup [], .tup [], .tup []] []
  obtain ⟨Q, hQ⟩ : ∃ Q, Q = Ends X142.vs O142 0 (.int .i64 (left n a.sz)) [] := ⟨_, rfl⟩
  rw [← hQ]
  refine awp_sr ?_
  simp only [go_sem, R142_0, v142, p142, Item.c]
  refine awp_sr ?_
  simp only [go_sem, R142_1, v142, p142]
  refine run_see (szEntry_ok a.entry n hn ha) false (Views.refl rfl) rfl (fun j hj => by omega) (fun h => by cases h) ?_
  simp only [go_sem, v142, p142]
  refine awp_sr2 ?_
  simp only [go_sem, R142_2, v142, p142]
  refine awp_if rfl ?_ ?_
  · intro h
    refine awp_sr ?_
    simp only [go_sem, R142_3, v142, p142]
    refine awp_ret ?_
    try simp only [go_sem]
    rw [hQ]
    exact Ends.is (.inl rfl) rfl (congrArg (V.int .i64) (left_neg (s := a.sz) h).symm) rfl
  · intro h
    refine awp_skip ?_
    simp only [go_sem]
    refine awp_sr ?_
    simp only [go_sem, R142_4, v142, p142]
    refine awp_ret ?_
    try simp only [go_sem]
    rw [hQ]
    exact Ends.plain (.inl rfl) rfl (.refl _) rfl
theorem eqEntry_ok (a b : Entry) : FS Try.prog 111 [] [.agg a.c, .agg b.c] (.bool (decide (a = b))) [] := by
  refine FS.of (X := X111) (ac := A111) (os := O111) Try.func111 (by rfl) (by rfl) (by kernel_rfl) o111 (Nat.le_of_ble_eq_true rfl) ?_
  show AWP X111 A111 (Ends X111.vs O111 0 _ _) [.agg a.c, .agg b.c, .tup [], .tup [], .tup [], .tup [], .tup [], .tup [], .tup [], .tup []] []
  obtain ⟨Q, hQ⟩ : ∃ Q, Q = Ends X111.vs O111 0 (.bool (decide (a = b))) [] := ⟨_, rfl⟩
  rw [← hQ]
  have no : ∀ L σ, look X111.vs L 4 = .bool false → a ≠ b → Q .ret L σ := by
    intro L σ h1 h2
    rw [hQ]
    refine Ends.is (.inl rfl) (rs := [.bool false]) (by simp only [go_sem, O111, h1]) ?_ rfl
    simp [packV, h2]
  refine awp_sr ?_
  simp only [go_sem, R111_0, v111, p111, Entry.c]
  refine awp_sr2 ?_
  simp only [go_sem, R111_1, v111, p111]
  refine awp_if rfl ?_ ?_
  · intro h
    refine awp_sr ?_
    simp only [go_sem, R111_2, v111, p111]
    refine awp_ret ?_
    try simp only [go_sem]
    exact no _ _ rfl fun e => h (by rw [e])
  intro h1
  refine awp_skip ?_
  simp only [go_sem]
  refine awp_sr2 ?_
  simp only [go_sem, R111_3, v111, p111]
  refine awp_if rfl ?_ ?_
  · intro h
    refine awp_sr ?_
    simp only [go_sem, R111_4, v111, p111]
    refine awp_ret ?_
    try simp only [go_sem]
    exact no _ _ rfl fun e => h (by rw [e])
  intro h2
  refine awp_skip ?_
  simp only [go_sem]
  refine awp_sr2 ?_
  simp only [go_sem, R111_5, v111, p111]
  refine awp_if rfl ?_ ?_
  · intro h
    refine awp_sr ?_
    simp only [go_sem, R111_6, v111, p111]
    refine awp_ret ?_
    try simp only [go_sem]
    exact no _ _ rfl fun e => h (by rw [e])
  intro h3
  refine awp_skip ?_
  simp only [go_sem]
  refine awp_sr2 ?_
  simp only [go_sem, R111_7, v111, p111]
  refine awp_if rfl ?_ ?_
  · intro h
    refine awp_sr ?_
    simp only [go_sem, R111_8, v111, p111]
    refine awp_ret ?_
    try simp only [go_sem]
    exact no _ _ rfl fun e => h (by rw [e])
  intro h4
  refine awp_skip ?_
  simp only [go_sem]
  refine awp_sr2 ?_
  simp only [go_sem, R111_9, v111, p111]
  refine awp_if rfl ?_ ?_
  · intro h
    refine awp_sr ?_
    simp only [go_sem, R111_10, v111, p111]
    refine awp_ret ?_
    try simp only [go_sem]
    exact no _ _ rfl fun e => h (by rw [e])
  intro h5
  refine awp_skip ?_
  simp only [go_sem]
  refine awp_sr ?_
  simp only [go_sem, R111_11, v111, p111]
  refine awp_ret ?_
  try simp only [go_sem]
  rw [hQ]
  refine Ends.is (.inl rfl) rfl ?_ rfl
  have : a = b := by
    cases a; cases b
    simp at h1 h2 h3 h4 h5
    simp [h1, h2, h3, h4, h5]
  rw [decide_eq_true this]
  rfl
end Go.Proofs.Ytffigokicddekaa.Abs
/- Copies, sizes and equality, walked: items, floors. No condition. -/
set_option linter.unusedVariables false
set_option linter.unusedSimpArgs false
set_option maxRecDepth 10000
namespace Go.Proofs.Ytffigokicddekaa.Abs
open Go Go.Proofs
def R102_0 : List AR := [⟨(some 2), none, 0, (.mov (.k .nl))⟩]
def R102_1 : List AR := [⟨(some 5), none, 0, (.mov (.t 0))⟩, ⟨(some 6), none, 0, (.len (.t 5))⟩, ⟨(some 7), none, 0, (.mks 0 6 56 [(.int .i64 0), (.int .i64 0), (.int .i64 0), (.int .i64 0), (.int .i64 0), (.str ⟨⟨[]⟩⟩)] (.t 6) (.t 6))⟩, ⟨(some 3), none, 0, (.mov (.t 7))⟩]
def R102_2 : List AR := [⟨(some 4), none, 0, (.mov (.k (.int .i64 0)))⟩]
def R102_3 : List AR := [⟨(some 8), none, 0, (.mov (.t 4))⟩, ⟨(some 9), none, 0, (.mov (.t 0))⟩, ⟨(some 10), none, 0, (.len (.t 9))⟩, ⟨(some 11), none, 0, (.bin .lss (.t 8) (.t 10))⟩]
def R102_4 : List AR := [⟨(some 14), none, 0, (.mov (.t 3))⟩, ⟨(some 15), none, 0, (.mov (.t 4))⟩, ⟨(some 16), none, 0, (.mov (.t 0))⟩, ⟨(some 17), none, 0, (.mov (.t 4))⟩, ⟨(some 18), none, 0, (.iaddr 6 (.t 16) (.t 17))⟩, ⟨(some 19), none, 0, (.load 6 true (.t 18))⟩, ⟨(some 20), none, 0, (.call false 0 0 143 [(.t 19)])⟩, ⟨(some 21), none, 0, (.iaddr 6 (.t 14) (.t 15))⟩, ⟨none, none, 0, (.store 6 (.t 21) (.t 20))⟩]
def R102_5 : List AR := [⟨(some 12), none, 0, (.mov (.t 4))⟩, ⟨(some 13), none, 0, (.bin .add (.t 12) (.k (.int .i64 1)))⟩, ⟨(some 4), none, 0, (.mov (.t 13))⟩]
def A102_0 : AC := (.seq (.block 1 (.reg 0 R102_4)) (.reg 0 R102_5))
def L102_0 : AC := (.seq (.seq (.reg 0 R102_3) (.cond (.t 11) .skip (.exit 0))) A102_0)
def R102_6 : List AR := [⟨(some 22), none, 0, (.mov (.t 3))⟩, ⟨(some 2), none, 0, (.mov (.t 22))⟩]
def A102_1 : AC := (.seq (.reg 0 R102_6) .ret)
def A102_2 : AC := (.seq (.seq (.reg 0 R102_2) (.block 0 (.loop L102_0))) A102_1)
def A102_3 : AC := (.seq (.reg 1 R102_1) A102_2)
def A102 : AC := (.seq (.reg 0 R102_0) A102_3)
def O102 : List AO := [(.mov (.t 2))]
def G102 : Fns := ⟨fun f => false, fun f => 0, false⟩
noncomputable def X102 : Cx := ⟨Try.prog, G102, drawD, 23, [0, 2, 3, 4, 11]⟩
theorem c102 : (Try.f102.body).bind (compC X102.P X102.Γ X102.D X102.nt) = some A102 := by kernel_rfl
theorem o102 : compRes X102.P Try.f102.results.toList = some O102 := by kernel_rfl
theorem v102 : X102.vs = [0, 2, 3, 4, 11] := rfl
theorem p102 : X102.P = Try.prog := rfl
def R96_0 : List AR := [⟨(some 4), none, 0, (.mov (.k (.int .i64 0)))⟩]
def R96_1 : List AR := [⟨(some 6), none, 0, (.mov (.t 1))⟩, ⟨(some 7), none, 0, (.mov (.t 0))⟩, ⟨(some 8), none, 0, (.len (.t 7))⟩, ⟨(some 9), none, 0, (.bin .sub (.t 6) (.t 8))⟩, ⟨(some 1), none, 0, (.mov (.t 9))⟩]
def R96_2 : List AR := [⟨(some 10), none, 0, (.mov (.t 1))⟩, ⟨(some 11), none, 0, (.bin .lss (.t 10) (.k (.int .i64 0)))⟩]
def R96_3 : List AR := [⟨(some 4), none, 0, (.mov (.k (.int .i64 (-1))))⟩]
def R96_4 : List AR := [⟨(some 5), none, 0, (.mov (.k (.int .i64 0)))⟩]
def R96_5 : List AR := [⟨(some 12), none, 0, (.mov (.t 5))⟩, ⟨(some 13), none, 0, (.mov (.t 0))⟩, ⟨(some 14), none, 0, (.len (.t 13))⟩, ⟨(some 15), none, 0, (.bin .lss (.t 12) (.t 14))⟩]
def R96_6 : List AR := [⟨(some 18), none, 0, (.mov (.t 0))⟩, ⟨(some 19), none, 0, (.mov (.t 5))⟩, ⟨(some 20), none, 0, (.iaddr 6 (.t 18) (.t 19))⟩, ⟨(some 21), none, 0, (.load 6 true (.t 20))⟩, ⟨(some 22), none, 0, (.mov (.t 1))⟩, ⟨(some 23), none, 0, (.call false 0 0 142 [(.t 21), (.t 22)])⟩, ⟨(some 1), none, 0, (.mov (.t 23))⟩]
def R96_7 : List AR := [⟨(some 24), none, 0, (.mov (.t 1))⟩, ⟨(some 25), none, 0, (.bin .lss (.t 24) (.k (.int .i64 0)))⟩]
def R96_8 : List AR := [⟨(some 4), none, 0, (.mov (.k (.int .i64 (-1))))⟩]
def A96_0 : AC := (.seq (.reg 0 R96_7) (.cond (.t 25) (.seq (.reg 0 R96_8) .ret) .skip))
def R96_9 : List AR := [⟨(some 16), none, 0, (.mov (.t 5))⟩, ⟨(some 17), none, 0, (.bin .add (.t 16) (.k (.int .i64 1)))⟩, ⟨(some 5), none, 0, (.mov (.t 17))⟩]
def A96_1 : AC := (.seq (.block 1 (.seq (.reg 0 R96_6) A96_0)) (.reg 0 R96_9))
def L96_0 : AC := (.seq (.seq (.reg 0 R96_5) (.cond (.t 15) .skip (.exit 0))) A96_1)
def R96_10 : List AR := [⟨(some 26), none, 0, (.mov (.t 1))⟩, ⟨(some 4), none, 0, (.mov (.t 26))⟩]
def A96_2 : AC := (.seq (.reg 0 R96_10) .ret)
def A96_3 : AC := (.seq (.seq (.reg 0 R96_4) (.block 0 (.loop L96_0))) A96_2)
def A96_4 : AC := (.seq (.seq (.reg 0 R96_2) (.cond (.t 11) (.seq (.reg 0 R96_3) .ret) .skip)) A96_3)
def A96_5 : AC := (.seq (.reg 0 R96_1) A96_4)
def A96 : AC := (.seq (.reg 0 R96_0) A96_5)
def O96 : List AO := [(.mov (.t 4))]
def G96 : Fns := ⟨fun f => false, fun f => 0, false⟩
noncomputable def X96 : Cx := ⟨Try.prog, G96, drawD, 27, [0, 1, 4, 5, 11, 15, 25]⟩
theorem c96 : (Try.f96.body).bind (compC X96.P X96.Γ X96.D X96.nt) = some A96 := by kernel_rfl
theorem o96 : compRes X96.P Try.f96.results.toList = some O96 := by kernel_rfl
theorem v96 : X96.vs = [0, 1, 4, 5, 11, 15, 25] := rfl
theorem p96 : X96.P = Try.prog := rfl
def R97_0 : List AR := [⟨(some 4), none, 0, (.mov (.k (.int .i64 0)))⟩]
def R97_1 : List AR := [⟨(some 5), none, 0, (.mov (.t 1))⟩, ⟨(some 6), none, 0, (.mov (.t 0))⟩, ⟨(some 7), none, 0, (.len (.t 6))⟩, ⟨(some 8), none, 0, (.bin .sub (.t 5) (.t 7))⟩, ⟨(some 1), none, 0, (.mov (.t 8))⟩]
def R97_2 : List AR := [⟨(some 9), none, 0, (.mov (.t 1))⟩, ⟨(some 10), none, 0, (.bin .lss (.t 9) (.k (.int .i64 0)))⟩]
def R97_3 : List AR := [⟨(some 4), none, 0, (.mov (.k (.int .i64 (-1))))⟩]
def R97_4 : List AR := [⟨(some 11), none, 0, (.mov (.t 1))⟩, ⟨(some 4), none, 0, (.mov (.t 11))⟩]
def A97_0 : AC := (.seq (.reg 0 R97_4) .ret)
def A97_1 : AC := (.seq (.seq (.reg 0 R97_2) (.cond (.t 10) (.seq (.reg 0 R97_3) .ret) .skip)) A97_0)
def A97_2 : AC := (.seq (.reg 0 R97_1) A97_1)
def A97 : AC := (.seq (.reg 0 R97_0) A97_2)
def O97 : List AO := [(.mov (.t 4))]
def G97 : Fns := ⟨fun f => false, fun f => 0, false⟩
noncomputable def X97 : Cx := ⟨Try.prog, G97, drawD, 12, [0, 1, 4, 10]⟩
theorem c97 : (Try.f97.body).bind (compC X97.P X97.Γ X97.D X97.nt) = some A97 := by kernel_rfl
theorem o97 : compRes X97.P Try.f97.results.toList = some O97 := by kernel_rfl
theorem v97 : X97.vs = [0, 1, 4, 10] := rfl
theorem p97 : X97.P = Try.prog := rfl
def R30_0 : List AR := [⟨(some 4), none, 0, (.mov (.k (.bool false)))⟩]
def R30_1 : List AR := [⟨(some 6), none, 0, (.mov (.t 0))⟩, ⟨(some 7), none, 0, (.len (.t 6))⟩, ⟨(some 8), none, 0, (.mov (.t 1))⟩, ⟨(some 9), none, 0, (.len (.t 8))⟩, ⟨(some 10), none, 0, (.bin .neq (.t 7) (.t 9))⟩]
def R30_2 : List AR := [⟨(some 4), none, 0, (.mov (.k (.bool false)))⟩]
def R30_3 : List AR := [⟨(some 5), none, 0, (.mov (.k (.int .i64 0)))⟩]
def R30_4 : List AR := [⟨(some 11), none, 0, (.mov (.t 5))⟩, ⟨(some 12), none, 0, (.mov (.t 0))⟩, ⟨(some 13), none, 0, (.len (.t 12))⟩, ⟨(some 14), none, 0, (.bin .lss (.t 11) (.t 13))⟩]
def R30_5 : List AR := [⟨(some 17), none, 0, (.mov (.t 0))⟩, ⟨(some 18), none, 0, (.mov (.t 5))⟩, ⟨(some 19), none, 0, (.iaddr 6 (.t 17) (.t 18))⟩, ⟨(some 20), none, 0, (.load 6 true (.t 19))⟩, ⟨(some 21), none, 0, (.mov (.t 1))⟩, ⟨(some 22), none, 0, (.mov (.t 5))⟩, ⟨(some 23), none, 0, (.iaddr 6 (.t 21) (.t 22))⟩, ⟨(some 24), none, 0, (.load 6 true (.t 23))⟩, ⟨(some 25), none, 0, (.call false 0 0 63 [(.t 20), (.t 24)])⟩, ⟨(some 26), none, 0, (.not (.t 25))⟩]
def R30_6 : List AR := [⟨(some 4), none, 0, (.mov (.k (.bool false)))⟩]
def R30_7 : List AR := [⟨(some 15), none, 0, (.mov (.t 5))⟩, ⟨(some 16), none, 0, (.bin .add (.t 15) (.k (.int .i64 1)))⟩, ⟨(some 5), none, 0, (.mov (.t 16))⟩]
def A30_0 : AC := (.seq (.block 1 (.seq (.draw 0 R30_5) (.cond (.t 26) (.seq (.reg 0 R30_6) .ret) .skip))) (.reg 0 R30_7))
def L30_0 : AC := (.seq (.seq (.reg 0 R30_4) (.cond (.t 14) .skip (.exit 0))) A30_0)
def R30_8 : List AR := [⟨(some 4), none, 0, (.mov (.k (.bool true)))⟩]
def A30_1 : AC := (.seq (.reg 0 R30_8) .ret)
def A30_2 : AC := (.seq (.seq (.reg 0 R30_3) (.block 0 (.loop L30_0))) A30_1)
def A30_3 : AC := (.seq (.seq (.reg 0 R30_1) (.cond (.t 10) (.seq (.reg 0 R30_2) .ret) .skip)) A30_2)
def A30 : AC := (.seq (.reg 0 R30_0) A30_3)
def O30 : List AO := [(.mov (.t 4))]
def G30 : Fns := ⟨fun f => false, fun f => 0, false⟩
noncomputable def X30 : Cx := ⟨Try.prog, G30, drawD, 27, [0, 1, 4, 5, 10, 14, 26]⟩
theorem c30 : (Try.f30.body).bind (compC X30.P X30.Γ X30.D X30.nt) = some A30 := by kernel_rfl
theorem o30 : compRes X30.P Try.f30.results.toList = some O30 := by kernel_rfl
theorem v30 : X30.vs = [0, 1, 4, 5, 10, 14, 26] := rfl
theorem p30 : X30.P = Try.prog := rfl
theorem toItemS_ok (xs : List Item) (h : szS Item.sz xs ≤ 1048576) : FS Try.prog 102 [] [.fz 6 (rw_ Item.c xs)] (.fz 6 (rw_ Item.c xs)) [] := by
  have hx : xs.length ≤ 1048576 := by unfold szS at h; omega
  refine FS.of (X := X102) (ac := A102) (os := O102) Try.func102 (by rfl) (by rfl) (by kernel_rfl) o102 (Nat.le_of_ble_eq_true rfl) ?_
  show AWP X102 A102 (Ends X102.vs O102 0 _ _) [.fz 6 (rw_ Item.c xs), .tup [], .tup [], .tup [], .tup []] []
  obtain ⟨Q, hQ⟩ : ∃ Q, Q = Ends X102.vs O102 0 (.fz 6 (rw_ Item.c xs)) [] := ⟨_, rfl⟩
  rw [← hQ]
  refine awp_sr ?_
  simp only [go_sem, R102_0, v102, p102]
  refine awp_sr ?_
  simp only [go_sem, R102_1, v102, p102]
  refine ⟨by omega, ?_⟩
  refine awp_sr2 ?_
  simp only [go_sem, R102_2, v102, p102]
  refine awp_for (fun m L σ => ∃ i x11 ys, m = xs.length - i ∧ i ≤ xs.length ∧ ys.length = xs.length ∧ ys.take i = xs.take i ∧ L = [.fz 6 (rw_ Item.c xs), .nl, .sl 0 6 0 xs.length, .int .i64 (i : Nat), x11] ∧ σ = [.live ⟨6, rw_ Item.c ys⟩]) xs.length
    ⟨0, _, List.replicate xs.length Item.zero, rfl, Nat.zero_le _, by simp, by simp, rfl, congrArg (fun r => [Slot.live ⟨6, r⟩]) (rw_rep Item.c xs.length Item.zero)⟩ ?_
  rintro m L σ ⟨i, x11, ys, rfl, hi, hl, ht, rfl, rfl⟩
  refine awp_sr2 ?_
  simp only [go_sem, R102_3, v102, p102]
  refine awp_if rfl ?_ ?_
  · intro h1
    have h1 : i < xs.length := by omega
    have h2 : i < ys.length := by omega
    refine awp_skip ?_
    simp only [go_sem]
    refine awp_seq (awp_block ?_)
    refine awp_reg ?_
    simp only [go_sem, R102_4, v102, p102, rw_at _ h1, Item.c]
    refine run_see (toItem_ok xs[i]) false (Views.refl rfl) rfl (fun j hj => by omega) (fun h => by cases h) ?_
    simp only [go_sem, v102, p102, rw_at _ h2, Item.c]
    refine ⟨by omega, ?_⟩
    refine awp_reg ?_
    simp only [go_sem, R102_5, v102, p102, wrap_succ (i := i) (by omega)]
    refine ⟨xs.length - (i + 1), by omega, i + 1, _, ys.set i xs[i], rfl, by omega, by simpa using hl, ?_, rfl, congrArg (fun r => [Slot.live ⟨6, r⟩]) (rw_set Item.c ys i xs[i])⟩
    rw [List.take_succ_eq_append_getElem h1, List.take_succ_eq_append_getElem (by simpa using h2), List.take_set_of_le (Nat.le_refl _), ht]
    simp
  · intro h1
    refine awp_exit ?_
    simp only [go_sem]
    refine awp_sr ?_
    simp only [go_sem, R102_6, v102, p102]
    refine awp_ret ?_
    try simp only [go_sem]
    have : i = xs.length := by omega
    subst this
    rw [List.take_length, ← hl, List.take_length] at ht
    subst ht
    rw [hQ]
    exact Ends.frzSl (.inl rfl) rfl rfl (by simp [rw_]) (rw_closed Item.c_closed _)
theorem szItemS_ok (xs : List Item) (n : Nat) (hn : n ≤ 1048576) (ha : okS Item.ok xs) : FS Try.prog 96 [] [.fz 6 (rw_ Item.c xs), .int .i64 n] (.int .i64 (left n (szS Item.sz xs))) [] := by
  refine FS.of (X := X96) (ac := A96) (os := O96) Try.func96 (by rfl) (by rfl) (by kernel_rfl) o96 (Nat.le_of_ble_eq_true rfl) ?_
  show AWP X96 A96 (Ends X96.vs O96 0 _ _) [.fz 6 (rw_ Item.c xs), .int .i64 n, .tup [], .tup [], .tup [], .tup [], .tup []] []
  obtain ⟨Q, hQ⟩ : ∃ Q, Q = Ends X96.vs O96 0 (.int .i64 (left n (szS Item.sz xs))) [] := ⟨_, rfl⟩
  rw [← hQ]
  obtain ⟨ha1, ha2⟩ := ha
  have ha1 : xs.length ≤ 1000000000000000 := ha1
  refine awp_sr ?_
  simp only [go_sem, R96_0, v96, p96]
  refine awp_sr ?_
  simp only [go_sem, R96_1, v96, p96, wrap_i64 (n := (n : Int) - xs.length) (by omega) (by omega)]
  refine awp_sr2 ?_
  simp only [go_sem, R96_2, v96, p96]
  refine awp_if rfl ?_ ?_
  · intro h
    refine awp_sr ?_
    simp only [go_sem, R96_3, v96, p96]
    refine awp_ret ?_
    try simp only [go_sem]
    rw [hQ]
    exact Ends.is (.inl rfl) rfl (congrArg (V.int .i64) (left_no (by unfold szS; omega)).symm) rfl
  intro h
  have h0 : xs.length ≤ n := by omega
  refine awp_skip ?_
  simp only [go_sem]
  refine awp_sr2 ?_
  simp only [go_sem, R96_4, v96, p96]
  refine awp_for (fun m L σ => ∃ i x11 x15 x25, m = xs.length - i ∧ i ≤ xs.length ∧ xs.length + sumBy Item.sz (xs.take i) ≤ n ∧ L = [.fz 6 (rw_ Item.c xs), .int .i64 ((n - (xs.length + sumBy Item.sz (xs.take i)) : Nat) : Int), .int .i64 0, .int .i64 (i : Nat), x11, x15, x25]) xs.length
    ⟨0, _, _, _, rfl, Nat.zero_le _, by simpa [sumBy] using h0, by rw [show ((n : Int) - xs.length) = ((n - (xs.length + sumBy Item.sz (xs.take 0)) : Nat) : Int) by simp [sumBy]; omega]; rfl⟩ ?_
  rintro m L σ ⟨i, x11, x15, x25, rfl, hi, hs, rfl⟩
  refine awp_sr2 ?_
  simp only [go_sem, R96_5, v96, p96]
  refine awp_if rfl ?_ ?_
  · intro h1
    have h1 : i < xs.length := by omega
    refine awp_skip ?_
    simp only [go_sem]
    refine awp_seq (awp_block ?_)
    refine awp_sr ?_
    simp only [go_sem, R96_6, v96, p96, rw_at _ h1, Item.c]
    refine run_see (szItem_ok xs[i] (n - (xs.length + sumBy Item.sz (xs.take i))) (by omega) (ha2 _ (List.getElem_mem h1))) false (Views.refl rfl) rfl (fun j hj => by omega) (fun h => by cases h) ?_
    simp only [go_sem, v96, p96]
    have e1 := sumBy_take Item.sz h1
    have e2 := sumBy_le Item.sz xs (i + 1)
    refine awp_sr ?_
    simp only [go_sem, R96_7, v96, p96]
    refine awp_if rfl ?_ ?_
    · intro h2
      refine awp_sr ?_
      simp only [go_sem, R96_8, v96, p96]
      refine awp_ret ?_
      try simp only [go_sem]
      rw [hQ]
      refine Ends.is (.inl rfl) rfl (congrArg (V.int .i64) (left_no ?_).symm) rfl
      have : ¬ Item.sz xs[i] ≤ n - (xs.length + sumBy Item.sz (xs.take i)) := fun e => by rw [left_is e] at h2; omega
      unfold szS; omega
    · intro h2
      obtain ⟨e3, e4⟩ := left_pos h2
      refine awp_skip ?_
      simp only [go_sem]
      refine awp_reg ?_
      simp only [go_sem, R96_9, v96, p96, wrap_succ (i := i) (by omega)]
      rw [e3, show (n - (xs.length + sumBy Item.sz (xs.take i)) - Item.sz xs[i] : Nat) = n - (xs.length + sumBy Item.sz (xs.take (i + 1))) by omega]
      exact ⟨xs.length - (i + 1), by omega, i + 1, _, _, _, rfl, by omega, by omega, rfl⟩
  · intro h1
    refine awp_exit ?_
    simp only [go_sem]
    refine awp_sr ?_
    simp only [go_sem, R96_10, v96, p96]
    refine awp_ret ?_
    try simp only [go_sem]
    have : i = xs.length := by omega
    subst this
    rw [hQ]
    refine Ends.is (.inl rfl) rfl (congrArg (V.int .i64) ?_) rfl
    rw [left_is (by unfold szS; rw [List.take_length] at hs; omega), List.take_length]
    rfl
theorem szFloorS_ok (xs : List Floor) (n : Nat) (hn : n ≤ 1048576) (ha : xs.length ≤ big) : FS Try.prog 97 [] [.fz 2 (rw_ Floor.c xs), .int .i64 n] (.int .i64 (left n xs.length)) [] := by
  refine FS.of (X := X97) (ac := A97) (os := O97) Try.func97 (by rfl) (by rfl) (by kernel_rfl) o97 (Nat.le_of_ble_eq_true rfl) ?_
  show AWP X97 A97 (Ends X97.vs O97 0 _ _) [.fz 2 (rw_ Floor.c xs), .int .i64 n, .tup [], .tup []] []
  obtain ⟨Q, hQ⟩ : ∃ Q, Q = Ends X97.vs O97 0 (.int .i64 (left n xs.length)) [] := ⟨_, rfl⟩
  rw [← hQ]
  have ha : xs.length ≤ 1000000000000000 := ha
  refine awp_sr ?_
  simp only [go_sem, R97_0, v97, p97]
  refine awp_sr ?_
  simp only [go_sem, R97_1, v97, p97, wrap_i64 (n := (n : Int) - xs.length) (by omega) (by omega)]
  refine awp_sr2 ?_
  simp only [go_sem, R97_2, v97, p97]
  refine awp_if rfl ?_ ?_
  · intro h
    refine awp_sr ?_
    simp only [go_sem, R97_3, v97, p97]
    refine awp_ret ?_
    try simp only [go_sem]
    rw [hQ]
    exact Ends.is (.inl rfl) rfl (congrArg (V.int .i64) (left_no (by omega)).symm) rfl
  intro h
  refine awp_skip ?_
  simp only [go_sem]
  refine awp_sr ?_
  simp only [go_sem, R97_4, v97, p97]
  refine awp_ret ?_
  try simp only [go_sem]
  rw [hQ]
  exact Ends.is (.inl rfl) rfl (congrArg (V.int .i64) (by rw [left_is (by omega)]; omega)) rfl
theorem eqItem_ok (a b : Item) : FS Try.prog 63 [] [.agg a.c, .agg b.c] (.bool (decide (a = b))) [] := by
  refine FS.of (X := X63) (ac := A63) (os := O63) Try.func63 (by rfl) (by rfl) (by kernel_rfl) o63 (Nat.le_of_ble_eq_true rfl) ?_
  show AWP X63 A63 (Ends X63.vs O63 0 _ _) [.agg a.c, .agg b.c, .tup [], .tup [], .tup [], .tup [], .tup []] []
  obtain ⟨Q, hQ⟩ : ∃ Q, Q = Ends X63.vs O63 0 (.bool (decide (a = b))) [] := ⟨_, rfl⟩
  rw [← hQ]
  have fin : ∀ L σ q, look X63.vs L 4 = .bool q → q = decide (a = b) → Q .ret L σ := by
    intro L σ q h1 h2
    rw [hQ]
    refine Ends.is (.inl rfl) (rs := [.bool q]) (by simp only [go_sem, O63, h1]) ?_ rfl
    simp [packV, h2]
  refine awp_sr ?_
  simp only [go_sem, R63_0, v63, p63, Item.c]
  refine awp_sr2 ?_
  simp only [go_sem, R63_1, v63, p63]
  refine awp_if rfl ?_ ?_
  · intro h
    refine awp_sr ?_
    simp only [go_sem, R63_2, v63, p63]
    refine awp_ret ?_
    try simp only [go_sem]
    exact fin _ _ _ rfl (decide_eq_false fun e => h (by rw [e])).symm
  intro h1
  refine awp_skip ?_
  simp only [go_sem]
  refine awp_sr2 ?_
  simp only [go_sem, R63_3, v63, p63]
  refine run_see (eqEntry_ok a.entry b.entry) false (Views.refl rfl) rfl (fun j hj => by omega) (fun h => by cases h) ?_
  simp only [go_sem, v63, p63]
  refine awp_if' rfl ?_ ?_
  · intro h
    refine awp_sr ?_
    simp only [go_sem, R63_4, v63, p63]
    refine awp_ret ?_
    try simp only [go_sem]
    exact fin _ _ _ rfl (decide_eq_false fun e => h (by rw [e])).symm
  intro h2
  refine awp_skip ?_
  simp only [go_sem]
  refine awp_sr ?_
  simp only [go_sem, R63_5, v63, p63]
  refine awp_ret ?_
  try simp only [go_sem]
  refine fin _ _ _ rfl (decide_eq_true ?_).symm
  cases a; cases b
  simp at h1 h2
  simp [h1, h2]
theorem eqItemS_ok (xs ys : List Item) (hx : xs.length ≤ 1000000000) : FS Try.prog 30 [] [.fz 6 (rw_ Item.c xs), .fz 6 (rw_ Item.c ys)] (.bool (decide (xs = ys))) [] := by
  refine FS.of (X := X30) (ac := A30) (os := O30) Try.func30 (by rfl) (by rfl) (by kernel_rfl) o30 (Nat.le_of_ble_eq_true rfl) ?_
  show AWP X30 A30 (Ends X30.vs O30 0 _ _) [.fz 6 (rw_ Item.c xs), .fz 6 (rw_ Item.c ys), .tup [], .tup [], .tup [], .tup [], .tup []] []
  obtain ⟨Q, hQ⟩ : ∃ Q, Q = Ends X30.vs O30 0 (.bool (decide (xs = ys))) [] := ⟨_, rfl⟩
  rw [← hQ]
  have fin : ∀ L σ b, look X30.vs L 4 = .bool b → b = decide (xs = ys) → Q .ret L σ := by
    intro L σ b h1 h2
    rw [hQ]
    refine Ends.is (.inl rfl) (rs := [.bool b]) (by simp only [go_sem, O30, h1]) ?_ rfl
    simp [packV, h2]
  refine awp_sr ?_
  simp only [go_sem, R30_0, v30, p30]
  refine awp_sr2 ?_
  simp only [go_sem, R30_1, v30, p30]
  refine awp_if rfl ?_ ?_
  · intro h
    refine awp_sr ?_
    simp only [go_sem, R30_2, v30, p30]
    refine awp_ret ?_
    try simp only [go_sem]
    refine fin _ _ false rfl ?_
    symm; simp; intro e; subst e; exact h rfl
  intro hne
  have hl : xs.length = ys.length := by omega
  refine awp_skip ?_
  simp only [go_sem]
  refine awp_sr2 ?_
  simp only [go_sem, R30_3, v30, p30]
  refine awp_for (fun m L σ => ∃ i x10 x14 x25, m = xs.length - i ∧ i ≤ xs.length ∧ xs.take i = ys.take i ∧ L = [.fz 6 (rw_ Item.c xs), .fz 6 (rw_ Item.c ys), .bool false, .int .i64 (i : Nat), x10, x14, x25]) xs.length ⟨0, _, _, _, rfl, Nat.zero_le _, by simp, rfl⟩ ?_
  rintro m L σ ⟨i, x10, x14, x25, rfl, hi, ht, rfl⟩
  refine awp_sr2 ?_
  simp only [go_sem, R30_4, v30, p30]
  refine awp_if rfl ?_ ?_
  · intro h1
    have h1 : i < xs.length := by omega
    have h2 : i < ys.length := by omega
    refine awp_skip ?_
    simp only [go_sem]
    refine awp_seq (awp_block ?_)
    refine awp_sd mixed rfl (by rfl) ?_
    simp only [go_sem, R30_5, v30, p30, rw_at _ h1, rw_at _ h2, Item.c]
    refine run_see (eqItem_ok xs[i] ys[i]) false (Views.refl rfl) rfl (fun j hj => by omega) (fun h => by cases h) ?_
    simp only [go_sem, v30, p30]
    refine awp_if' rfl ?_ ?_
    · intro h3
      refine awp_sr ?_
      simp only [go_sem, R30_6, v30, p30]
      refine awp_ret ?_
      try simp only [go_sem]
      refine fin _ _ false rfl ?_
      symm; simp; intro e; subst e; exact h3 rfl
    · intro h3
      refine awp_skip ?_
      simp only [go_sem]
      refine awp_reg ?_
      simp only [go_sem, R30_7, v30, p30, wrap_succ (i := i) (by omega)]
      refine ⟨xs.length - (i + 1), by omega, i + 1, _, _, _, rfl, by omega, ?_, rfl⟩
      rw [List.take_succ_eq_append_getElem h1, List.take_succ_eq_append_getElem h2, ht, h3]
  · intro h1
    refine awp_exit ?_
    simp only [go_sem]
    refine awp_sr ?_
    simp only [go_sem, R30_8, v30, p30]
    refine awp_ret ?_
    try simp only [go_sem]
    refine fin _ _ true rfl ?_
    have : i = xs.length := by omega
    subst this
    rw [List.take_length, hl, List.take_length] at ht
    simp [ht]
end Go.Proofs.Ytffigokicddekaa.Abs
/- Copies, sizes and equality, walked: floors, states. No condition. -/
set_option linter.unusedVariables false
set_option linter.unusedSimpArgs false
set_option maxRecDepth 10000
namespace Go.Proofs.Ytffigokicddekaa.Abs
open Go Go.Proofs
def R144_0 : List AR := [⟨(some 1), none, 0, (.box 0 2 (.t 0))⟩, ⟨(some 2), none, 0, (.alloc 1 2 [(.int .i64 0), (.int .i64 0)])⟩]
def R144_1 : List AR := [⟨(some 3), none, 0, (.alloc 0 2 [(.int .i64 0), (.int .i64 0)])⟩]
def R144_2 : List AR := [⟨(some 4), none, 0, (.faddr 0 (.t 1))⟩, ⟨(some 5), none, 0, (.load 1 false (.t 4))⟩, ⟨(some 6), none, 0, (.faddr 0 (.t 3))⟩, ⟨none, none, 0, (.store 1 (.t 6) (.t 5))⟩]
def R144_3 : List AR := [⟨(some 7), none, 0, (.faddr 1 (.t 1))⟩, ⟨(some 8), none, 0, (.load 1 false (.t 7))⟩, ⟨(some 9), none, 0, (.faddr 1 (.t 3))⟩, ⟨none, none, 0, (.store 1 (.t 9) (.t 8))⟩]
def R144_4 : List AR := [⟨(some 10), none, 0, (.load 2 true (.t 3))⟩, ⟨none, none, 0, (.store 2 (.t 2) (.t 10))⟩]
def A144_0 : AC := (.seq (.reg 0 R144_4) .ret)
def A144_1 : AC := (.seq (.reg 0 R144_3) A144_0)
def A144_2 : AC := (.seq (.reg 0 R144_2) A144_1)
def A144_3 : AC := (.seq (.reg 1 R144_1) A144_2)
def A144 : AC := (.seq (.reg 2 R144_0) A144_3)
def O144 : List AO := [(.load 2 true (.t 2))]
def G144 : Fns := ⟨fun f => false, fun f => 0, false⟩
noncomputable def X144 : Cx := ⟨Try.prog, G144, drawD, 11, [0, 1, 2, 3]⟩
theorem c144 : (Try.f144.body).bind (compC X144.P X144.Γ X144.D X144.nt) = some A144 := by kernel_rfl
theorem o144 : compRes X144.P Try.f144.results.toList = some O144 := by kernel_rfl
theorem v144 : X144.vs = [0, 1, 2, 3] := rfl
theorem p144 : X144.P = Try.prog := rfl
def R103_0 : List AR := [⟨(some 2), none, 0, (.mov (.k .nl))⟩]
def R103_1 : List AR := [⟨(some 5), none, 0, (.mov (.t 0))⟩, ⟨(some 6), none, 0, (.len (.t 5))⟩, ⟨(some 7), none, 0, (.mks 0 2 16 [(.int .i64 0), (.int .i64 0)] (.t 6) (.t 6))⟩, ⟨(some 3), none, 0, (.mov (.t 7))⟩]
def R103_2 : List AR := [⟨(some 4), none, 0, (.mov (.k (.int .i64 0)))⟩]
def R103_3 : List AR := [⟨(some 8), none, 0, (.mov (.t 4))⟩, ⟨(some 9), none, 0, (.mov (.t 0))⟩, ⟨(some 10), none, 0, (.len (.t 9))⟩, ⟨(some 11), none, 0, (.bin .lss (.t 8) (.t 10))⟩]
def R103_4 : List AR := [⟨(some 14), none, 0, (.mov (.t 3))⟩, ⟨(some 15), none, 0, (.mov (.t 4))⟩, ⟨(some 16), none, 0, (.mov (.t 0))⟩, ⟨(some 17), none, 0, (.mov (.t 4))⟩, ⟨(some 18), none, 0, (.iaddr 2 (.t 16) (.t 17))⟩, ⟨(some 19), none, 0, (.load 2 true (.t 18))⟩, ⟨(some 20), none, 0, (.call false 0 0 144 [(.t 19)])⟩, ⟨(some 21), none, 0, (.iaddr 2 (.t 14) (.t 15))⟩, ⟨none, none, 0, (.store 2 (.t 21) (.t 20))⟩]
def R103_5 : List AR := [⟨(some 12), none, 0, (.mov (.t 4))⟩, ⟨(some 13), none, 0, (.bin .add (.t 12) (.k (.int .i64 1)))⟩, ⟨(some 4), none, 0, (.mov (.t 13))⟩]
def A103_0 : AC := (.seq (.block 1 (.reg 0 R103_4)) (.reg 0 R103_5))
def L103_0 : AC := (.seq (.seq (.reg 0 R103_3) (.cond (.t 11) .skip (.exit 0))) A103_0)
def R103_6 : List AR := [⟨(some 22), none, 0, (.mov (.t 3))⟩, ⟨(some 2), none, 0, (.mov (.t 22))⟩]
def A103_1 : AC := (.seq (.reg 0 R103_6) .ret)
def A103_2 : AC := (.seq (.seq (.reg 0 R103_2) (.block 0 (.loop L103_0))) A103_1)
def A103_3 : AC := (.seq (.reg 1 R103_1) A103_2)
def A103 : AC := (.seq (.reg 0 R103_0) A103_3)
def O103 : List AO := [(.mov (.t 2))]
def G103 : Fns := ⟨fun f => false, fun f => 0, false⟩
noncomputable def X103 : Cx := ⟨Try.prog, G103, drawD, 23, [0, 2, 3, 4, 11]⟩
theorem c103 : (Try.f103.body).bind (compC X103.P X103.Γ X103.D X103.nt) = some A103 := by kernel_rfl
theorem o103 : compRes X103.P Try.f103.results.toList = some O103 := by kernel_rfl
theorem v103 : X103.vs = [0, 2, 3, 4, 11] := rfl
theorem p103 : X103.P = Try.prog := rfl
def R145_0 : List AR := [⟨(some 2), none, 0, (.box 0 2 (.t 0))⟩, ⟨(some 3), none, 0, (.box 1 2 (.t 1))⟩, ⟨(some 4), none, 0, (.mov (.k (.bool false)))⟩]
def R145_1 : List AR := [⟨(some 5), none, 0, (.faddr 0 (.t 2))⟩, ⟨(some 6), none, 0, (.load 1 false (.t 5))⟩, ⟨(some 7), none, 0, (.faddr 0 (.t 3))⟩, ⟨(some 8), none, 0, (.load 1 false (.t 7))⟩, ⟨(some 9), none, 0, (.bin .neq (.t 6) (.t 8))⟩]
def R145_2 : List AR := [⟨(some 4), none, 0, (.mov (.k (.bool false)))⟩]
def R145_3 : List AR := [⟨(some 10), none, 0, (.faddr 1 (.t 2))⟩, ⟨(some 11), none, 0, (.load 1 false (.t 10))⟩, ⟨(some 12), none, 0, (.faddr 1 (.t 3))⟩, ⟨(some 13), none, 0, (.load 1 false (.t 12))⟩, ⟨(some 14), none, 0, (.bin .neq (.t 11) (.t 13))⟩]
def R145_4 : List AR := [⟨(some 4), none, 0, (.mov (.k (.bool false)))⟩]
def R145_5 : List AR := [⟨(some 4), none, 0, (.mov (.k (.bool true)))⟩]
def A145_0 : AC := (.seq (.reg 0 R145_5) .ret)
def A145_1 : AC := (.seq (.seq (.reg 0 R145_3) (.cond (.t 14) (.seq (.reg 0 R145_4) .ret) .skip)) A145_0)
def A145_2 : AC := (.seq (.seq (.reg 0 R145_1) (.cond (.t 9) (.seq (.reg 0 R145_2) .ret) .skip)) A145_1)
def A145 : AC := (.seq (.reg 2 R145_0) A145_2)
def O145 : List AO := [(.mov (.t 4))]
def G145 : Fns := ⟨fun f => false, fun f => 0, false⟩
noncomputable def X145 : Cx := ⟨Try.prog, G145, drawD, 15, [0, 1, 2, 3, 4, 9, 14]⟩
theorem c145 : (Try.f145.body).bind (compC X145.P X145.Γ X145.D X145.nt) = some A145 := by kernel_rfl
theorem o145 : compRes X145.P Try.f145.results.toList = some O145 := by kernel_rfl
theorem v145 : X145.vs = [0, 1, 2, 3, 4, 9, 14] := rfl
theorem p145 : X145.P = Try.prog := rfl
def R108_0 : List AR := [⟨(some 4), none, 0, (.mov (.k (.bool false)))⟩]
def R108_1 : List AR := [⟨(some 6), none, 0, (.mov (.t 0))⟩, ⟨(some 7), none, 0, (.len (.t 6))⟩, ⟨(some 8), none, 0, (.mov (.t 1))⟩, ⟨(some 9), none, 0, (.len (.t 8))⟩, ⟨(some 10), none, 0, (.bin .neq (.t 7) (.t 9))⟩]
def R108_2 : List AR := [⟨(some 4), none, 0, (.mov (.k (.bool false)))⟩]
def R108_3 : List AR := [⟨(some 5), none, 0, (.mov (.k (.int .i64 0)))⟩]
def R108_4 : List AR := [⟨(some 11), none, 0, (.mov (.t 5))⟩, ⟨(some 12), none, 0, (.mov (.t 0))⟩, ⟨(some 13), none, 0, (.len (.t 12))⟩, ⟨(some 14), none, 0, (.bin .lss (.t 11) (.t 13))⟩]
def R108_5 : List AR := [⟨(some 17), none, 0, (.mov (.t 0))⟩, ⟨(some 18), none, 0, (.mov (.t 5))⟩, ⟨(some 19), none, 0, (.iaddr 2 (.t 17) (.t 18))⟩, ⟨(some 20), none, 0, (.load 2 true (.t 19))⟩, ⟨(some 21), none, 0, (.mov (.t 1))⟩, ⟨(some 22), none, 0, (.mov (.t 5))⟩, ⟨(some 23), none, 0, (.iaddr 2 (.t 21) (.t 22))⟩, ⟨(some 24), none, 0, (.load 2 true (.t 23))⟩, ⟨(some 25), none, 0, (.call false 0 0 145 [(.t 20), (.t 24)])⟩, ⟨(some 26), none, 0, (.not (.t 25))⟩]
def R108_6 : List AR := [⟨(some 4), none, 0, (.mov (.k (.bool false)))⟩]
def R108_7 : List AR := [⟨(some 15), none, 0, (.mov (.t 5))⟩, ⟨(some 16), none, 0, (.bin .add (.t 15) (.k (.int .i64 1)))⟩, ⟨(some 5), none, 0, (.mov (.t 16))⟩]
def A108_0 : AC := (.seq (.block 1 (.seq (.draw 0 R108_5) (.cond (.t 26) (.seq (.reg 0 R108_6) .ret) .skip))) (.reg 0 R108_7))
def L108_0 : AC := (.seq (.seq (.reg 0 R108_4) (.cond (.t 14) .skip (.exit 0))) A108_0)
def R108_8 : List AR := [⟨(some 4), none, 0, (.mov (.k (.bool true)))⟩]
def A108_1 : AC := (.seq (.reg 0 R108_8) .ret)
def A108_2 : AC := (.seq (.seq (.reg 0 R108_3) (.block 0 (.loop L108_0))) A108_1)
def A108_3 : AC := (.seq (.seq (.reg 0 R108_1) (.cond (.t 10) (.seq (.reg 0 R108_2) .ret) .skip)) A108_2)
def A108 : AC := (.seq (.reg 0 R108_0) A108_3)
def O108 : List AO := [(.mov (.t 4))]
def G108 : Fns := ⟨fun f => false, fun f => 0, false⟩
noncomputable def X108 : Cx := ⟨Try.prog, G108, drawD, 27, [0, 1, 4, 5, 10, 14, 26]⟩
theorem c108 : (Try.f108.body).bind (compC X108.P X108.Γ X108.D X108.nt) = some A108 := by kernel_rfl
theorem o108 : compRes X108.P Try.f108.results.toList = some O108 := by kernel_rfl
theorem v108 : X108.vs = [0, 1, 4, 5, 10, 14, 26] := rfl
theorem p108 : X108.P = Try.prog := rfl
def R57_0 : List AR := [⟨(some 1), none, 0, (.box 0 2 (.t 0))⟩, ⟨(some 2), none, 0, (.alloc 1 2 [.nl, .nl])⟩]
def R57_1 : List AR := [⟨(some 3), none, 0, (.alloc 0 2 [.nl, .nl])⟩]
def R57_2 : List AR := [⟨(some 4), none, 0, (.faddr 0 (.t 1))⟩, ⟨(some 5), none, 0, (.load 1 false (.t 4))⟩, ⟨(some 6), none, 0, (.call false 0 0 102 [(.t 5)])⟩, ⟨(some 7), none, 0, (.faddr 0 (.t 3))⟩, ⟨none, none, 0, (.store 1 (.t 7) (.t 6))⟩]
def R57_3 : List AR := [⟨(some 8), none, 0, (.faddr 1 (.t 1))⟩, ⟨(some 9), none, 0, (.load 1 false (.t 8))⟩, ⟨(some 10), none, 0, (.call false 0 0 103 [(.t 9)])⟩, ⟨(some 11), none, 0, (.faddr 1 (.t 3))⟩, ⟨none, none, 0, (.store 1 (.t 11) (.t 10))⟩]
def R57_4 : List AR := [⟨(some 12), none, 0, (.load 2 true (.t 3))⟩, ⟨none, none, 0, (.store 2 (.t 2) (.t 12))⟩]
def A57_0 : AC := (.seq (.reg 0 R57_4) .ret)
def A57_1 : AC := (.seq (.reg 0 R57_3) A57_0)
def A57_2 : AC := (.seq (.reg 0 R57_2) A57_1)
def A57_3 : AC := (.seq (.reg 1 R57_1) A57_2)
def A57 : AC := (.seq (.reg 2 R57_0) A57_3)
def O57 : List AO := [(.load 2 true (.t 2))]
def G57 : Fns := ⟨fun f => false, fun f => 0, false⟩
noncomputable def X57 : Cx := ⟨Try.prog, G57, drawD, 13, [0, 1, 2, 3]⟩
theorem c57 : (Try.f57.body).bind (compC X57.P X57.Γ X57.D X57.nt) = some A57 := by kernel_rfl
theorem o57 : compRes X57.P Try.f57.results.toList = some O57 := by kernel_rfl
theorem v57 : X57.vs = [0, 1, 2, 3] := rfl
theorem p57 : X57.P = Try.prog := rfl
def R53_0 : List AR := [⟨(some 2), none, 0, (.box 0 2 (.t 0))⟩, ⟨(some 4), none, 0, (.mov (.k (.int .i64 0)))⟩]
def R53_1 : List AR := [⟨(some 5), none, 0, (.faddr 0 (.t 2))⟩, ⟨(some 6), none, 0, (.load 1 false (.t 5))⟩, ⟨(some 7), none, 0, (.mov (.t 1))⟩, ⟨(some 8), none, 0, (.call false 0 0 96 [(.t 6), (.t 7)])⟩, ⟨(some 1), none, 0, (.mov (.t 8))⟩]
def R53_2 : List AR := [⟨(some 9), none, 0, (.mov (.t 1))⟩, ⟨(some 10), none, 0, (.bin .lss (.t 9) (.k (.int .i64 0)))⟩]
def R53_3 : List AR := [⟨(some 4), none, 0, (.mov (.k (.int .i64 (-1))))⟩]
def R53_4 : List AR := [⟨(some 11), none, 0, (.faddr 1 (.t 2))⟩, ⟨(some 12), none, 0, (.load 1 false (.t 11))⟩, ⟨(some 13), none, 0, (.mov (.t 1))⟩, ⟨(some 14), none, 0, (.call false 0 0 97 [(.t 12), (.t 13)])⟩, ⟨(some 1), none, 0, (.mov (.t 14))⟩]
def R53_5 : List AR := [⟨(some 15), none, 0, (.mov (.t 1))⟩, ⟨(some 16), none, 0, (.bin .lss (.t 15) (.k (.int .i64 0)))⟩]
def R53_6 : List AR := [⟨(some 4), none, 0, (.mov (.k (.int .i64 (-1))))⟩]
def R53_7 : List AR := [⟨(some 17), none, 0, (.mov (.t 1))⟩, ⟨(some 4), none, 0, (.mov (.t 17))⟩]
def A53_0 : AC := (.seq (.reg 0 R53_7) .ret)
def A53_1 : AC := (.seq (.seq (.reg 0 R53_5) (.cond (.t 16) (.seq (.reg 0 R53_6) .ret) .skip)) A53_0)
def A53_2 : AC := (.seq (.reg 0 R53_4) A53_1)
def A53_3 : AC := (.seq (.seq (.reg 0 R53_2) (.cond (.t 10) (.seq (.reg 0 R53_3) .ret) .skip)) A53_2)
def A53_4 : AC := (.seq (.reg 0 R53_1) A53_3)
def A53 : AC := (.seq (.reg 1 R53_0) A53_4)
def O53 : List AO := [(.mov (.t 4))]
def G53 : Fns := ⟨fun f => false, fun f => 0, false⟩
noncomputable def X53 : Cx := ⟨Try.prog, G53, drawD, 18, [0, 1, 2, 4, 10, 16]⟩
theorem c53 : (Try.f53.body).bind (compC X53.P X53.Γ X53.D X53.nt) = some A53 := by kernel_rfl
theorem o53 : compRes X53.P Try.f53.results.toList = some O53 := by kernel_rfl
theorem v53 : X53.vs = [0, 1, 2, 4, 10, 16] := rfl
theorem p53 : X53.P = Try.prog := rfl
def R60_0 : List AR := [⟨(some 2), none, 0, (.box 0 2 (.t 0))⟩, ⟨(some 3), none, 0, (.box 1 2 (.t 1))⟩, ⟨(some 4), none, 0, (.mov (.k (.bool false)))⟩]
def R60_1 : List AR := [⟨(some 5), none, 0, (.faddr 0 (.t 2))⟩, ⟨(some 6), none, 0, (.load 1 false (.t 5))⟩, ⟨(some 7), none, 0, (.faddr 0 (.t 3))⟩, ⟨(some 8), none, 0, (.load 1 false (.t 7))⟩, ⟨(some 9), none, 0, (.call false 0 0 30 [(.t 6), (.t 8)])⟩, ⟨(some 10), none, 0, (.not (.t 9))⟩]
def R60_2 : List AR := [⟨(some 4), none, 0, (.mov (.k (.bool false)))⟩]
def R60_3 : List AR := [⟨(some 11), none, 0, (.faddr 1 (.t 2))⟩, ⟨(some 12), none, 0, (.load 1 false (.t 11))⟩, ⟨(some 13), none, 0, (.faddr 1 (.t 3))⟩, ⟨(some 14), none, 0, (.load 1 false (.t 13))⟩, ⟨(some 15), none, 0, (.call false 0 0 108 [(.t 12), (.t 14)])⟩, ⟨(some 16), none, 0, (.not (.t 15))⟩]
def R60_4 : List AR := [⟨(some 4), none, 0, (.mov (.k (.bool false)))⟩]
def R60_5 : List AR := [⟨(some 4), none, 0, (.mov (.k (.bool true)))⟩]
def A60_0 : AC := (.seq (.reg 0 R60_5) .ret)
def A60_1 : AC := (.seq (.seq (.reg 0 R60_3) (.cond (.t 16) (.seq (.reg 0 R60_4) .ret) .skip)) A60_0)
def A60_2 : AC := (.seq (.seq (.reg 0 R60_1) (.cond (.t 10) (.seq (.reg 0 R60_2) .ret) .skip)) A60_1)
def A60 : AC := (.seq (.reg 2 R60_0) A60_2)
def O60 : List AO := [(.mov (.t 4))]
def G60 : Fns := ⟨fun f => false, fun f => 0, false⟩
noncomputable def X60 : Cx := ⟨Try.prog, G60, drawD, 17, [0, 1, 2, 3, 4, 10, 16]⟩
theorem c60 : (Try.f60.body).bind (compC X60.P X60.Γ X60.D X60.nt) = some A60 := by kernel_rfl
theorem o60 : compRes X60.P Try.f60.results.toList = some O60 := by kernel_rfl
theorem v60 : X60.vs = [0, 1, 2, 3, 4, 10, 16] := rfl
theorem p60 : X60.P = Try.prog := rfl
def R25_0 : List AR := [⟨(some 2), none, 0, (.mov (.k .nl))⟩]
def R25_1 : List AR := [⟨(some 5), none, 0, (.mov (.t 0))⟩, ⟨(some 6), none, 0, (.len (.t 5))⟩, ⟨(some 7), none, 0, (.mks 0 2 48 [.nl, .nl] (.t 6) (.t 6))⟩, ⟨(some 3), none, 0, (.mov (.t 7))⟩]
def R25_2 : List AR := [⟨(some 4), none, 0, (.mov (.k (.int .i64 0)))⟩]
def R25_3 : List AR := [⟨(some 8), none, 0, (.mov (.t 4))⟩, ⟨(some 9), none, 0, (.mov (.t 0))⟩, ⟨(some 10), none, 0, (.len (.t 9))⟩, ⟨(some 11), none, 0, (.bin .lss (.t 8) (.t 10))⟩]
def R25_4 : List AR := [⟨(some 14), none, 0, (.mov (.t 3))⟩, ⟨(some 15), none, 0, (.mov (.t 4))⟩, ⟨(some 16), none, 0, (.mov (.t 0))⟩, ⟨(some 17), none, 0, (.mov (.t 4))⟩, ⟨(some 18), none, 0, (.iaddr 2 (.t 16) (.t 17))⟩, ⟨(some 19), none, 0, (.load 2 true (.t 18))⟩, ⟨(some 20), none, 0, (.call false 0 0 57 [(.t 19)])⟩, ⟨(some 21), none, 0, (.iaddr 2 (.t 14) (.t 15))⟩, ⟨none, none, 0, (.store 2 (.t 21) (.t 20))⟩]
def R25_5 : List AR := [⟨(some 12), none, 0, (.mov (.t 4))⟩, ⟨(some 13), none, 0, (.bin .add (.t 12) (.k (.int .i64 1)))⟩, ⟨(some 4), none, 0, (.mov (.t 13))⟩]
def A25_0 : AC := (.seq (.block 1 (.reg 0 R25_4)) (.reg 0 R25_5))
def L25_0 : AC := (.seq (.seq (.reg 0 R25_3) (.cond (.t 11) .skip (.exit 0))) A25_0)
def R25_6 : List AR := [⟨(some 22), none, 0, (.mov (.t 3))⟩, ⟨(some 2), none, 0, (.mov (.t 22))⟩]
def A25_1 : AC := (.seq (.reg 0 R25_6) .ret)
def A25_2 : AC := (.seq (.seq (.reg 0 R25_2) (.block 0 (.loop L25_0))) A25_1)
def A25_3 : AC := (.seq (.reg 1 R25_1) A25_2)
def A25 : AC := (.seq (.reg 0 R25_0) A25_3)
def O25 : List AO := [(.mov (.t 2))]
def G25 : Fns := ⟨fun f => false, fun f => 0, false⟩
noncomputable def X25 : Cx := ⟨Try.prog, G25, drawD, 23, [0, 2, 3, 4, 11]⟩
theorem c25 : (Try.f25.body).bind (compC X25.P X25.Γ X25.D X25.nt) = some A25 := by kernel_rfl
theorem o25 : compRes X25.P Try.f25.results.toList = some O25 := by kernel_rfl
theorem v25 : X25.vs = [0, 2, 3, 4, 11] := rfl
theorem p25 : X25.P = Try.prog := rfl
def R23_0 : List AR := [⟨(some 4), none, 0, (.mov (.k (.int .i64 0)))⟩]
def R23_1 : List AR := [⟨(some 6), none, 0, (.mov (.t 1))⟩, ⟨(some 7), none, 0, (.mov (.t 0))⟩, ⟨(some 8), none, 0, (.len (.t 7))⟩, ⟨(some 9), none, 0, (.bin .sub (.t 6) (.t 8))⟩, ⟨(some 1), none, 0, (.mov (.t 9))⟩]
def R23_2 : List AR := [⟨(some 10), none, 0, (.mov (.t 1))⟩, ⟨(some 11), none, 0, (.bin .lss (.t 10) (.k (.int .i64 0)))⟩]
def R23_3 : List AR := [⟨(some 4), none, 0, (.mov (.k (.int .i64 (-1))))⟩]
def R23_4 : List AR := [⟨(some 5), none, 0, (.mov (.k (.int .i64 0)))⟩]
def R23_5 : List AR := [⟨(some 12), none, 0, (.mov (.t 5))⟩, ⟨(some 13), none, 0, (.mov (.t 0))⟩, ⟨(some 14), none, 0, (.len (.t 13))⟩, ⟨(some 15), none, 0, (.bin .lss (.t 12) (.t 14))⟩]
def R23_6 : List AR := [⟨(some 18), none, 0, (.mov (.t 0))⟩, ⟨(some 19), none, 0, (.mov (.t 5))⟩, ⟨(some 20), none, 0, (.iaddr 2 (.t 18) (.t 19))⟩, ⟨(some 21), none, 0, (.load 2 true (.t 20))⟩, ⟨(some 22), none, 0, (.mov (.t 1))⟩, ⟨(some 23), none, 0, (.call false 0 0 53 [(.t 21), (.t 22)])⟩, ⟨(some 1), none, 0, (.mov (.t 23))⟩]
def R23_7 : List AR := [⟨(some 24), none, 0, (.mov (.t 1))⟩, ⟨(some 25), none, 0, (.bin .lss (.t 24) (.k (.int .i64 0)))⟩]
def R23_8 : List AR := [⟨(some 4), none, 0, (.mov (.k (.int .i64 (-1))))⟩]
def A23_0 : AC := (.seq (.reg 0 R23_7) (.cond (.t 25) (.seq (.reg 0 R23_8) .ret) .skip))
def R23_9 : List AR := [⟨(some 16), none, 0, (.mov (.t 5))⟩, ⟨(some 17), none, 0, (.bin .add (.t 16) (.k (.int .i64 1)))⟩, ⟨(some 5), none, 0, (.mov (.t 17))⟩]
def A23_1 : AC := (.seq (.block 1 (.seq (.reg 0 R23_6) A23_0)) (.reg 0 R23_9))
def L23_0 : AC := (.seq (.seq (.reg 0 R23_5) (.cond (.t 15) .skip (.exit 0))) A23_1)
def R23_10 : List AR := [⟨(some 26), none, 0, (.mov (.t 1))⟩, ⟨(some 4), none, 0, (.mov (.t 26))⟩]
def A23_2 : AC := (.seq (.reg 0 R23_10) .ret)
def A23_3 : AC := (.seq (.seq (.reg 0 R23_4) (.block 0 (.loop L23_0))) A23_2)
def A23_4 : AC := (.seq (.seq (.reg 0 R23_2) (.cond (.t 11) (.seq (.reg 0 R23_3) .ret) .skip)) A23_3)
def A23_5 : AC := (.seq (.reg 0 R23_1) A23_4)
def A23 : AC := (.seq (.reg 0 R23_0) A23_5)
def O23 : List AO := [(.mov (.t 4))]
def G23 : Fns := ⟨fun f => false, fun f => 0, false⟩
noncomputable def X23 : Cx := ⟨Try.prog, G23, drawD, 27, [0, 1, 4, 5, 11, 15, 25]⟩
theorem c23 : (Try.f23.body).bind (compC X23.P X23.Γ X23.D X23.nt) = some A23 := by kernel_rfl
theorem o23 : compRes X23.P Try.f23.results.toList = some O23 := by kernel_rfl
theorem v23 : X23.vs = [0, 1, 4, 5, 11, 15, 25] := rfl
theorem p23 : X23.P = Try.prog := rfl
def R27_0 : List AR := [⟨(some 4), none, 0, (.mov (.k (.bool false)))⟩]
def R27_1 : List AR := [⟨(some 6), none, 0, (.mov (.t 0))⟩, ⟨(some 7), none, 0, (.len (.t 6))⟩, ⟨(some 8), none, 0, (.mov (.t 1))⟩, ⟨(some 9), none, 0, (.len (.t 8))⟩, ⟨(some 10), none, 0, (.bin .neq (.t 7) (.t 9))⟩]
def R27_2 : List AR := [⟨(some 4), none, 0, (.mov (.k (.bool false)))⟩]
def R27_3 : List AR := [⟨(some 5), none, 0, (.mov (.k (.int .i64 0)))⟩]
def R27_4 : List AR := [⟨(some 11), none, 0, (.mov (.t 5))⟩, ⟨(some 12), none, 0, (.mov (.t 0))⟩, ⟨(some 13), none, 0, (.len (.t 12))⟩, ⟨(some 14), none, 0, (.bin .lss (.t 11) (.t 13))⟩]
def R27_5 : List AR := [⟨(some 17), none, 0, (.mov (.t 0))⟩, ⟨(some 18), none, 0, (.mov (.t 5))⟩, ⟨(some 19), none, 0, (.iaddr 2 (.t 17) (.t 18))⟩, ⟨(some 20), none, 0, (.load 2 true (.t 19))⟩, ⟨(some 21), none, 0, (.mov (.t 1))⟩, ⟨(some 22), none, 0, (.mov (.t 5))⟩, ⟨(some 23), none, 0, (.iaddr 2 (.t 21) (.t 22))⟩, ⟨(some 24), none, 0, (.load 2 true (.t 23))⟩, ⟨(some 25), none, 0, (.call false 0 0 60 [(.t 20), (.t 24)])⟩, ⟨(some 26), none, 0, (.not (.t 25))⟩]
def R27_6 : List AR := [⟨(some 4), none, 0, (.mov (.k (.bool false)))⟩]
def R27_7 : List AR := [⟨(some 15), none, 0, (.mov (.t 5))⟩, ⟨(some 16), none, 0, (.bin .add (.t 15) (.k (.int .i64 1)))⟩, ⟨(some 5), none, 0, (.mov (.t 16))⟩]
def A27_0 : AC := (.seq (.block 1 (.seq (.draw 0 R27_5) (.cond (.t 26) (.seq (.reg 0 R27_6) .ret) .skip))) (.reg 0 R27_7))
def L27_0 : AC := (.seq (.seq (.reg 0 R27_4) (.cond (.t 14) .skip (.exit 0))) A27_0)
def R27_8 : List AR := [⟨(some 4), none, 0, (.mov (.k (.bool true)))⟩]
def A27_1 : AC := (.seq (.reg 0 R27_8) .ret)
def A27_2 : AC := (.seq (.seq (.reg 0 R27_3) (.block 0 (.loop L27_0))) A27_1)
def A27_3 : AC := (.seq (.seq (.reg 0 R27_1) (.cond (.t 10) (.seq (.reg 0 R27_2) .ret) .skip)) A27_2)
def A27 : AC := (.seq (.reg 0 R27_0) A27_3)
def O27 : List AO := [(.mov (.t 4))]
def G27 : Fns := ⟨fun f => false, fun f => 0, false⟩
noncomputable def X27 : Cx := ⟨Try.prog, G27, drawD, 27, [0, 1, 4, 5, 10, 14, 26]⟩
theorem c27 : (Try.f27.body).bind (compC X27.P X27.Γ X27.D X27.nt) = some A27 := by kernel_rfl
theorem o27 : compRes X27.P Try.f27.results.toList = some O27 := by kernel_rfl
theorem v27 : X27.vs = [0, 1, 4, 5, 10, 14, 26] := rfl
theorem p27 : X27.P = Try.prog := rfl
theorem toFloor_ok (a : Floor) : FS Try.prog 144 [] [.agg a.c] (.agg a.c) [] := by
  refine FS.of (X := X144) (ac := A144) (os := O144) Try.func144 (by rfl) (by rfl) (by kernel_rfl) o144 (Nat.le_of_ble_eq_true rfl) ?_
  show AWP X144 A144 (Ends X144.vs O144 0 _ _) [.agg a.c, .tup [], .tup [], .tup []] []
  obtain ⟨Q, hQ⟩ : ∃ Q, Q = Ends X144.vs O144 0 (.agg a.c) [] := ⟨_, rfl⟩
  rw [← hQ]
  refine awp_sr ?_
  simp only [go_sem, R144_0, v144, p144, Floor.c]
  refine awp_sr ?_
  simp only [go_sem, R144_1, v144, p144]
  refine awp_sr ?_
  simp only [go_sem, R144_2, v144, p144]
  refine awp_sr ?_
  simp only [go_sem, R144_3, v144, p144]
  refine awp_sr ?_
  simp only [go_sem, R144_4, v144, p144]
  refine awp_ret ?_
  try simp only [go_sem]
  rw [hQ]
  exact Ends.plain (.inl rfl) rfl (.refl _) rfl
theorem toFloorS_ok (xs : List Floor) (h : xs.length ≤ 1048576) : FS Try.prog 103 [] [.fz 2 (rw_ Floor.c xs)] (.fz 2 (rw_ Floor.c xs)) [] := by
  have hx : xs.length ≤ 1048576 := by exact h
  refine FS.of (X := X103) (ac := A103) (os := O103) Try.func103 (by rfl) (by rfl) (by kernel_rfl) o103 (Nat.le_of_ble_eq_true rfl) ?_
  show AWP X103 A103 (Ends X103.vs O103 0 _ _) [.fz 2 (rw_ Floor.c xs), .tup [], .tup [], .tup [], .tup []] []
  obtain ⟨Q, hQ⟩ : ∃ Q, Q = Ends X103.vs O103 0 (.fz 2 (rw_ Floor.c xs)) [] := ⟨_, rfl⟩
  rw [← hQ]
  refine awp_sr ?_
  simp only [go_sem, R103_0, v103, p103]
  refine awp_sr ?_
  simp only [go_sem, R103_1, v103, p103]
  refine ⟨by omega, ?_⟩
  refine awp_sr2 ?_
  simp only [go_sem, R103_2, v103, p103]
  refine awp_for (fun m L σ => ∃ i x11 ys, m = xs.length - i ∧ i ≤ xs.length ∧ ys.length = xs.length ∧ ys.take i = xs.take i ∧ L = [.fz 2 (rw_ Floor.c xs), .nl, .sl 0 2 0 xs.length, .int .i64 (i : Nat), x11] ∧ σ = [.live ⟨2, rw_ Floor.c ys⟩]) xs.length
    ⟨0, _, List.replicate xs.length Floor.zero, rfl, Nat.zero_le _, by simp, by simp, rfl, congrArg (fun r => [Slot.live ⟨2, r⟩]) (rw_rep Floor.c xs.length Floor.zero)⟩ ?_
  rintro m L σ ⟨i, x11, ys, rfl, hi, hl, ht, rfl, rfl⟩
  refine awp_sr2 ?_
  simp only [go_sem, R103_3, v103, p103]
  refine awp_if rfl ?_ ?_
  · intro h1
    have h1 : i < xs.length := by omega
    have h2 : i < ys.length := by omega
    refine awp_skip ?_
    simp only [go_sem]
    refine awp_seq (awp_block ?_)
    refine awp_reg ?_
    simp only [go_sem, R103_4, v103, p103, rw_at _ h1, Floor.c]
    refine run_see (toFloor_ok xs[i]) false (Views.refl rfl) rfl (fun j hj => by omega) (fun h => by cases h) ?_
    simp only [go_sem, v103, p103, rw_at _ h2, Floor.c]
    refine ⟨by omega, ?_⟩
    refine awp_reg ?_
    simp only [go_sem, R103_5, v103, p103, wrap_succ (i := i) (by omega)]
    refine ⟨xs.length - (i + 1), by omega, i + 1, _, ys.set i xs[i], rfl, by omega, by simpa using hl, ?_, rfl, congrArg (fun r => [Slot.live ⟨2, r⟩]) (rw_set Floor.c ys i xs[i])⟩
    rw [List.take_succ_eq_append_getElem h1, List.take_succ_eq_append_getElem (by simpa using h2), List.take_set_of_le (Nat.le_refl _), ht]
    simp
  · intro h1
    refine awp_exit ?_
    simp only [go_sem]
    refine awp_sr ?_
    simp only [go_sem, R103_6, v103, p103]
    refine awp_ret ?_
    try simp only [go_sem]
    have : i = xs.length := by omega
    subst this
    rw [List.take_length, ← hl, List.take_length] at ht
    subst ht
    rw [hQ]
    exact Ends.frzSl (.inl rfl) rfl rfl (by simp [rw_]) (rw_closed Floor.c_closed _)
theorem eqFloor_ok (a b : Floor) : FS Try.prog 145 [] [.agg a.c, .agg b.c] (.bool (decide (a = b))) [] := by
  refine FS.of (X := X145) (ac := A145) (os := O145) Try.func145 (by rfl) (by rfl) (by kernel_rfl) o145 (Nat.le_of_ble_eq_true rfl) ?_
  show AWP X145 A145 (Ends X145.vs O145 0 _ _) [.agg a.c, .agg b.c, .tup [], .tup [], .tup [], .tup [], .tup []] []
  obtain ⟨Q, hQ⟩ : ∃ Q, Q = Ends X145.vs O145 0 (.bool (decide (a = b))) [] := ⟨_, rfl⟩
  rw [← hQ]
  have fin : ∀ L σ q, look X145.vs L 4 = .bool q → q = decide (a = b) → Q .ret L σ := by
    intro L σ q h1 h2
    rw [hQ]
    refine Ends.is (.inl rfl) (rs := [.bool q]) (by simp only [go_sem, O145, h1]) ?_ rfl
    simp [packV, h2]
  refine awp_sr ?_
  simp only [go_sem, R145_0, v145, p145, Floor.c]
  refine awp_sr2 ?_
  simp only [go_sem, R145_1, v145, p145]
  refine awp_if rfl ?_ ?_
  · intro h
    refine awp_sr ?_
    simp only [go_sem, R145_2, v145, p145]
    refine awp_ret ?_
    try simp only [go_sem]
    exact fin _ _ _ rfl (decide_eq_false fun e => h (by rw [e])).symm
  intro h0
  refine awp_skip ?_
  simp only [go_sem]
  refine awp_sr2 ?_
  simp only [go_sem, R145_3, v145, p145]
  refine awp_if rfl ?_ ?_
  · intro h
    refine awp_sr ?_
    simp only [go_sem, R145_4, v145, p145]
    refine awp_ret ?_
    try simp only [go_sem]
    exact fin _ _ _ rfl (decide_eq_false fun e => h (by rw [e])).symm
  intro h1
  refine awp_skip ?_
  simp only [go_sem]
  refine awp_sr ?_
  simp only [go_sem, R145_5, v145, p145]
  refine awp_ret ?_
  try simp only [go_sem]
  refine fin _ _ _ rfl (decide_eq_true ?_).symm
  cases a; cases b
  simp at h0 h1
  simp [h0, h1]
theorem eqFloorS_ok (xs ys : List Floor) (hx : xs.length ≤ 1000000000) : FS Try.prog 108 [] [.fz 2 (rw_ Floor.c xs), .fz 2 (rw_ Floor.c ys)] (.bool (decide (xs = ys))) [] := by
  refine FS.of (X := X108) (ac := A108) (os := O108) Try.func108 (by rfl) (by rfl) (by kernel_rfl) o108 (Nat.le_of_ble_eq_true rfl) ?_
  show AWP X108 A108 (Ends X108.vs O108 0 _ _) [.fz 2 (rw_ Floor.c xs), .fz 2 (rw_ Floor.c ys), .tup [], .tup [], .tup [], .tup [], .tup []] []
  obtain ⟨Q, hQ⟩ : ∃ Q, Q = Ends X108.vs O108 0 (.bool (decide (xs = ys))) [] := ⟨_, rfl⟩
  rw [← hQ]
  have fin : ∀ L σ b, look X108.vs L 4 = .bool b → b = decide (xs = ys) → Q .ret L σ := by
    intro L σ b h1 h2
    rw [hQ]
    refine Ends.is (.inl rfl) (rs := [.bool b]) (by simp only [go_sem, O108, h1]) ?_ rfl
    simp [packV, h2]
  refine awp_sr ?_
  simp only [go_sem, R108_0, v108, p108]
  refine awp_sr2 ?_
  simp only [go_sem, R108_1, v108, p108]
  refine awp_if rfl ?_ ?_
  · intro h
    refine awp_sr ?_
    simp only [go_sem, R108_2, v108, p108]
    refine awp_ret ?_
    try simp only [go_sem]
    refine fin _ _ false rfl ?_
    symm; simp; intro e; subst e; exact h rfl
  intro hne
  have hl : xs.length = ys.length := by omega
  refine awp_skip ?_
  simp only [go_sem]
  refine awp_sr2 ?_
  simp only [go_sem, R108_3, v108, p108]
  refine awp_for (fun m L σ => ∃ i x10 x14 x25, m = xs.length - i ∧ i ≤ xs.length ∧ xs.take i = ys.take i ∧ L = [.fz 2 (rw_ Floor.c xs), .fz 2 (rw_ Floor.c ys), .bool false, .int .i64 (i : Nat), x10, x14, x25]) xs.length ⟨0, _, _, _, rfl, Nat.zero_le _, by simp, rfl⟩ ?_
  rintro m L σ ⟨i, x10, x14, x25, rfl, hi, ht, rfl⟩
  refine awp_sr2 ?_
  simp only [go_sem, R108_4, v108, p108]
  refine awp_if rfl ?_ ?_
  · intro h1
    have h1 : i < xs.length := by omega
    have h2 : i < ys.length := by omega
    refine awp_skip ?_
    simp only [go_sem]
    refine awp_seq (awp_block ?_)
    refine awp_sd mixed rfl (by rfl) ?_
    simp only [go_sem, R108_5, v108, p108, rw_at _ h1, rw_at _ h2, Floor.c]
    refine run_see (eqFloor_ok xs[i] ys[i]) false (Views.refl rfl) rfl (fun j hj => by omega) (fun h => by cases h) ?_
    simp only [go_sem, v108, p108]
    refine awp_if' rfl ?_ ?_
    · intro h3
      refine awp_sr ?_
      simp only [go_sem, R108_6, v108, p108]
      refine awp_ret ?_
      try simp only [go_sem]
      refine fin _ _ false rfl ?_
      symm; simp; intro e; subst e; exact h3 rfl
    · intro h3
      refine awp_skip ?_
      simp only [go_sem]
      refine awp_reg ?_
      simp only [go_sem, R108_7, v108, p108, wrap_succ (i := i) (by omega)]
      refine ⟨xs.length - (i + 1), by omega, i + 1, _, _, _, rfl, by omega, ?_, rfl⟩
      rw [List.take_succ_eq_append_getElem h1, List.take_succ_eq_append_getElem h2, ht, h3]
  · intro h1
    refine awp_exit ?_
    simp only [go_sem]
    refine awp_sr ?_
    simp only [go_sem, R108_8, v108, p108]
    refine awp_ret ?_
    try simp only [go_sem]
    refine fin _ _ true rfl ?_
    have : i = xs.length := by omega
    subst this
    rw [List.take_length, hl, List.take_length] at ht
    simp [ht]
theorem toState_ok (a : State) (h : a.sz ≤ 1048576) : FS Try.prog 57 [] [.agg a.c] (.agg a.c) [] := by
  have hh : szS Item.sz a.items + a.floors.length ≤ 1048576 := h
  have hl : a.items.length + sumBy Item.sz a.items + a.floors.length ≤ 1048576 := hh
  refine FS.of (X := X57) (ac := A57) (os := O57) Try.func57 (by rfl) (by rfl) (by kernel_rfl) o57 (Nat.le_of_ble_eq_true rfl) ?_
  show AWP X57 A57 (Ends X57.vs O57 0 _ _) [.agg a.c, .tup [], .tup [], .tup []] []
  obtain ⟨Q, hQ⟩ : ∃ Q, Q = Ends X57.vs O57 0 (.agg a.c) [] := ⟨_, rfl⟩
  rw [← hQ]
  refine awp_sr ?_
  simp only [go_sem, R57_0, v57, p57, State.c]
  refine awp_sr ?_
  simp only [go_sem, R57_1, v57, p57]
  refine awp_sr ?_
  simp only [go_sem, R57_2, v57, p57]
  refine run_see (toItemS_ok a.items (by omega)) false (Views.refl rfl) rfl (fun j hj => by omega) (fun h => by cases h) ?_
  simp only [go_sem, v57, p57]
  refine awp_sr ?_
  simp only [go_sem, R57_3, v57, p57]
  refine run_see (toFloorS_ok a.floors (by omega)) false (Views.refl rfl) rfl (fun j hj => by omega) (fun h => by cases h) ?_
  simp only [go_sem, v57, p57]
  refine awp_sr ?_
  simp only [go_sem, R57_4, v57, p57]
  refine awp_ret ?_
  try simp only [go_sem]
  rw [hQ]
  exact Ends.plain (.inl rfl) rfl (.refl _) rfl
theorem szState_ok (a : State) (n : Nat) (hn : n ≤ 1048576) (ha : a.ok) : FS Try.prog 53 [] [.agg a.c, .int .i64 n] (.int .i64 (left n a.sz)) [] := by
  refine FS.of (X := X53) (ac := A53) (os := O53) Try.func53 (by rfl) (by rfl) (by kernel_rfl) o53 (Nat.le_of_ble_eq_true rfl) ?_
  show AWP X53 A53 (Ends X53.vs O53 0 _ _) [.agg a.c, .int .i64 n, .tup [], .tup [], .tup [], .tup []] []
  obtain ⟨Q, hQ⟩ : ∃ Q, Q = Ends X53.vs O53 0 (.int .i64 (left n a.sz)) [] := ⟨_, rfl⟩
  rw [← hQ]
  obtain ⟨p1, p2⟩ := ha
  have tot : a.sz = szS Item.sz a.items + a.floors.length := rfl
  refine awp_sr ?_
  simp only [go_sem, R53_0, v53, p53, State.c]
  refine awp_sr ?_
  simp only [go_sem, R53_1, v53, p53]
  refine run_see (szItemS_ok a.items n (by omega) p1) false (Views.refl rfl) rfl (fun j hj => by omega) (fun h => by cases h) ?_
  simp only [go_sem, v53, p53]
  refine awp_sr2 ?_
  simp only [go_sem, R53_2, v53, p53]
  refine awp_if rfl ?_ ?_
  · intro h
    refine awp_sr ?_
    simp only [go_sem, R53_3, v53, p53]
    refine awp_ret ?_
    try simp only [go_sem]
    rw [hQ]
    refine Ends.is (.inl rfl) rfl (congrArg (V.int .i64) (left_no ?_).symm) rfl
    have : ¬ szS Item.sz a.items ≤ n := fun e => by rw [left_is e] at h; omega
    omega
  intro h0
  obtain ⟨e0, g0⟩ := left_pos h0
  rw [e0]
  refine awp_skip ?_
  simp only [go_sem]
  refine awp_sr ?_
  simp only [go_sem, R53_4, v53, p53]
  refine run_see (szFloorS_ok a.floors (n - szS Item.sz a.items) (by omega) p2) false (Views.refl rfl) rfl (fun j hj => by omega) (fun h => by cases h) ?_
  simp only [go_sem, v53, p53]
  refine awp_sr2 ?_
  simp only [go_sem, R53_5, v53, p53]
  refine awp_if rfl ?_ ?_
  · intro h
    refine awp_sr ?_
    simp only [go_sem, R53_6, v53, p53]
    refine awp_ret ?_
    try simp only [go_sem]
    rw [hQ]
    refine Ends.is (.inl rfl) rfl (congrArg (V.int .i64) (left_no ?_).symm) rfl
    have : ¬ a.floors.length ≤ (n - szS Item.sz a.items) := fun e => by rw [left_is e] at h; omega
    omega
  intro h1
  obtain ⟨e1, g1⟩ := left_pos h1
  rw [e1]
  refine awp_skip ?_
  simp only [go_sem]
  refine awp_sr ?_
  simp only [go_sem, R53_7, v53, p53]
  refine awp_ret ?_
  try simp only [go_sem]
  rw [hQ]
  refine Ends.is (.inl rfl) rfl (congrArg (V.int .i64) ?_) rfl
  rw [left_is (by omega)]
  omega
theorem eqState_ok (a b : State) (h : a.sz ≤ 1048576) : FS Try.prog 60 [] [.agg a.c, .agg b.c] (.bool (decide (a = b))) [] := by
  have hh : szS Item.sz a.items + a.floors.length ≤ 1048576 := h
  have hl : a.items.length + sumBy Item.sz a.items + a.floors.length ≤ 1048576 := hh
  refine FS.of (X := X60) (ac := A60) (os := O60) Try.func60 (by rfl) (by rfl) (by kernel_rfl) o60 (Nat.le_of_ble_eq_true rfl) ?_
  show AWP X60 A60 (Ends X60.vs O60 0 _ _) [.agg a.c, .agg b.c, .tup [], .tup [], .tup [], .tup [], .tup []] []
  obtain ⟨Q, hQ⟩ : ∃ Q, Q = Ends X60.vs O60 0 (.bool (decide (a = b))) [] := ⟨_, rfl⟩
  rw [← hQ]
  have fin : ∀ L σ q, look X60.vs L 4 = .bool q → q = decide (a = b) → Q .ret L σ := by
    intro L σ q h1 h2
    rw [hQ]
    refine Ends.is (.inl rfl) (rs := [.bool q]) (by simp only [go_sem, O60, h1]) ?_ rfl
    simp [packV, h2]
  refine awp_sr ?_
  simp only [go_sem, R60_0, v60, p60, State.c]
  refine awp_sr2 ?_
  simp only [go_sem, R60_1, v60, p60]
  refine run_see (eqItemS_ok a.items b.items (by omega)) false (Views.refl rfl) rfl (fun j hj => by omega) (fun h => by cases h) ?_
  simp only [go_sem, v60, p60]
  refine awp_if' rfl ?_ ?_
  · intro h
    refine awp_sr ?_
    simp only [go_sem, R60_2, v60, p60]
    refine awp_ret ?_
    try simp only [go_sem]
    exact fin _ _ _ rfl (decide_eq_false fun e => h (by rw [e])).symm
  intro h0
  refine awp_skip ?_
  simp only [go_sem]
  refine awp_sr2 ?_
  simp only [go_sem, R60_3, v60, p60]
  refine run_see (eqFloorS_ok a.floors b.floors (by omega)) false (Views.refl rfl) rfl (fun j hj => by omega) (fun h => by cases h) ?_
  simp only [go_sem, v60, p60]
  refine awp_if' rfl ?_ ?_
  · intro h
    refine awp_sr ?_
    simp only [go_sem, R60_4, v60, p60]
    refine awp_ret ?_
    try simp only [go_sem]
    exact fin _ _ _ rfl (decide_eq_false fun e => h (by rw [e])).symm
  intro h1
  refine awp_skip ?_
  simp only [go_sem]
  refine awp_sr ?_
  simp only [go_sem, R60_5, v60, p60]
  refine awp_ret ?_
  try simp only [go_sem]
  refine fin _ _ _ rfl (decide_eq_true ?_).symm
  cases a; cases b
  simp at h0 h1
  simp [h0, h1]
theorem toStateS_ok (xs : List State) (h : szS State.sz xs ≤ 1048576) : FS Try.prog 25 [] [.fz 2 (rw_ State.c xs)] (.fz 2 (rw_ State.c xs)) [] := by
  have hx : xs.length ≤ 1048576 := by unfold szS at h; omega
  refine FS.of (X := X25) (ac := A25) (os := O25) Try.func25 (by rfl) (by rfl) (by kernel_rfl) o25 (Nat.le_of_ble_eq_true rfl) ?_
  show AWP X25 A25 (Ends X25.vs O25 0 _ _) [.fz 2 (rw_ State.c xs), .tup [], .tup [], .tup [], .tup []] []
  obtain ⟨Q, hQ⟩ : ∃ Q, Q = Ends X25.vs O25 0 (.fz 2 (rw_ State.c xs)) [] := ⟨_, rfl⟩
  rw [← hQ]
  refine awp_sr ?_
  simp only [go_sem, R25_0, v25, p25]
  refine awp_sr ?_
  simp only [go_sem, R25_1, v25, p25]
  refine ⟨by omega, ?_⟩
  refine awp_obj ⟨2, List.replicate xs.length State.zero.c⟩ (o := 0) rfl (ObLe.rep rfl fun j u v h1 h2 => ?_) ?_
  · cases j with
    | zero => simp at h1; simp [State.zero, State.c, rw_] at h2; subst h1; subst h2; exact .nl 6
    | succ j =>
      cases j with
      | zero => simp at h1; simp [State.zero, State.c, rw_] at h2; subst h1; subst h2; exact .nl 2
      | succ j =>
        simp at h1
  show AWP X25 _ _ _ [.live ⟨2, List.replicate xs.length State.zero.c⟩]
  refine awp_sr2 ?_
  simp only [go_sem, R25_2, v25, p25]
  refine awp_for (fun m L σ => ∃ i x11 ys, m = xs.length - i ∧ i ≤ xs.length ∧ ys.length = xs.length ∧ ys.take i = xs.take i ∧ L = [.fz 2 (rw_ State.c xs), .nl, .sl 0 2 0 xs.length, .int .i64 (i : Nat), x11] ∧ σ = [.live ⟨2, rw_ State.c ys⟩]) xs.length
    ⟨0, _, List.replicate xs.length State.zero, rfl, Nat.zero_le _, by simp, by simp, rfl, congrArg (fun r => [Slot.live ⟨2, r⟩]) (rw_rep State.c xs.length State.zero)⟩ ?_
  rintro m L σ ⟨i, x11, ys, rfl, hi, hl, ht, rfl, rfl⟩
  refine awp_sr2 ?_
  simp only [go_sem, R25_3, v25, p25]
  refine awp_if rfl ?_ ?_
  · intro h1
    have h1 : i < xs.length := by omega
    have h2 : i < ys.length := by omega
    refine awp_skip ?_
    simp only [go_sem]
    refine awp_seq (awp_block ?_)
    refine awp_reg ?_
    simp only [go_sem, R25_4, v25, p25, rw_at _ h1, State.c]
    refine run_see (toState_ok xs[i] (by have := sumBy_get State.sz h1; unfold szS at h; omega)) false (Views.refl rfl) rfl (fun j hj => by omega) (fun h => by cases h) ?_
    simp only [go_sem, v25, p25, rw_at _ h2, State.c]
    refine ⟨by omega, ?_⟩
    refine awp_reg ?_
    simp only [go_sem, R25_5, v25, p25, wrap_succ (i := i) (by omega)]
    refine ⟨xs.length - (i + 1), by omega, i + 1, _, ys.set i xs[i], rfl, by omega, by simpa using hl, ?_, rfl, congrArg (fun r => [Slot.live ⟨2, r⟩]) (rw_set State.c ys i xs[i])⟩
    rw [List.take_succ_eq_append_getElem h1, List.take_succ_eq_append_getElem (by simpa using h2), List.take_set_of_le (Nat.le_refl _), ht]
    simp
  · intro h1
    refine awp_exit ?_
    simp only [go_sem]
    refine awp_sr ?_
    simp only [go_sem, R25_6, v25, p25]
    refine awp_ret ?_
    try simp only [go_sem]
    have : i = xs.length := by omega
    subst this
    rw [List.take_length, ← hl, List.take_length] at ht
    subst ht
    rw [hQ]
    exact Ends.frzSl (.inl rfl) rfl rfl (by simp [rw_]) (rw_closed State.c_closed _)
theorem szStateS_ok (xs : List State) (n : Nat) (hn : n ≤ 1048576) (ha : okS State.ok xs) : FS Try.prog 23 [] [.fz 2 (rw_ State.c xs), .int .i64 n] (.int .i64 (left n (szS State.sz xs))) [] := by
  refine FS.of (X := X23) (ac := A23) (os := O23) Try.func23 (by rfl) (by rfl) (by kernel_rfl) o23 (Nat.le_of_ble_eq_true rfl) ?_
  show AWP X23 A23 (Ends X23.vs O23 0 _ _) [.fz 2 (rw_ State.c xs), .int .i64 n, .tup [], .tup [], .tup [], .tup [], .tup []] []
  obtain ⟨Q, hQ⟩ : ∃ Q, Q = Ends X23.vs O23 0 (.int .i64 (left n (szS State.sz xs))) [] := ⟨_, rfl⟩
  rw [← hQ]
  obtain ⟨ha1, ha2⟩ := ha
  have ha1 : xs.length ≤ 1000000000000000 := ha1
  refine awp_sr ?_
  simp only [go_sem, R23_0, v23, p23]
  refine awp_sr ?_
  simp only [go_sem, R23_1, v23, p23, wrap_i64 (n := (n : Int) - xs.length) (by omega) (by omega)]
  refine awp_sr2 ?_
  simp only [go_sem, R23_2, v23, p23]
  refine awp_if rfl ?_ ?_
  · intro h
    refine awp_sr ?_
    simp only [go_sem, R23_3, v23, p23]
    refine awp_ret ?_
    try simp only [go_sem]
    rw [hQ]
    exact Ends.is (.inl rfl) rfl (congrArg (V.int .i64) (left_no (by unfold szS; omega)).symm) rfl
  intro h
  have h0 : xs.length ≤ n := by omega
  refine awp_skip ?_
  simp only [go_sem]
  refine awp_sr2 ?_
  simp only [go_sem, R23_4, v23, p23]
  refine awp_for (fun m L σ => ∃ i x11 x15 x25, m = xs.length - i ∧ i ≤ xs.length ∧ xs.length + sumBy State.sz (xs.take i) ≤ n ∧ L = [.fz 2 (rw_ State.c xs), .int .i64 ((n - (xs.length + sumBy State.sz (xs.take i)) : Nat) : Int), .int .i64 0, .int .i64 (i : Nat), x11, x15, x25]) xs.length
    ⟨0, _, _, _, rfl, Nat.zero_le _, by simpa [sumBy] using h0, by rw [show ((n : Int) - xs.length) = ((n - (xs.length + sumBy State.sz (xs.take 0)) : Nat) : Int) by simp [sumBy]; omega]; rfl⟩ ?_
  rintro m L σ ⟨i, x11, x15, x25, rfl, hi, hs, rfl⟩
  refine awp_sr2 ?_
  simp only [go_sem, R23_5, v23, p23]
  refine awp_if rfl ?_ ?_
  · intro h1
    have h1 : i < xs.length := by omega
    refine awp_skip ?_
    simp only [go_sem]
    refine awp_seq (awp_block ?_)
    refine awp_sr ?_
    simp only [go_sem, R23_6, v23, p23, rw_at _ h1, State.c]
    refine run_see (szState_ok xs[i] (n - (xs.length + sumBy State.sz (xs.take i))) (by omega) (ha2 _ (List.getElem_mem h1))) false (Views.refl rfl) rfl (fun j hj => by omega) (fun h => by cases h) ?_
    simp only [go_sem, v23, p23]
    have e1 := sumBy_take State.sz h1
    have e2 := sumBy_le State.sz xs (i + 1)
    refine awp_sr ?_
    simp only [go_sem, R23_7, v23, p23]
    refine awp_if rfl ?_ ?_
    · intro h2
      refine awp_sr ?_
      simp only [go_sem, R23_8, v23, p23]
      refine awp_ret ?_
      try simp only [go_sem]
      rw [hQ]
      refine Ends.is (.inl rfl) rfl (congrArg (V.int .i64) (left_no ?_).symm) rfl
      have : ¬ State.sz xs[i] ≤ n - (xs.length + sumBy State.sz (xs.take i)) := fun e => by rw [left_is e] at h2; omega
      unfold szS; omega
    · intro h2
      obtain ⟨e3, e4⟩ := left_pos h2
      refine awp_skip ?_
      simp only [go_sem]
      refine awp_reg ?_
      simp only [go_sem, R23_9, v23, p23, wrap_succ (i := i) (by omega)]
      rw [e3, show (n - (xs.length + sumBy State.sz (xs.take i)) - State.sz xs[i] : Nat) = n - (xs.length + sumBy State.sz (xs.take (i + 1))) by omega]
      exact ⟨xs.length - (i + 1), by omega, i + 1, _, _, _, rfl, by omega, by omega, rfl⟩
  · intro h1
    refine awp_exit ?_
    simp only [go_sem]
    refine awp_sr ?_
    simp only [go_sem, R23_10, v23, p23]
    refine awp_ret ?_
    try simp only [go_sem]
    have : i = xs.length := by omega
    subst this
    rw [hQ]
    refine Ends.is (.inl rfl) rfl (congrArg (V.int .i64) ?_) rfl
    rw [left_is (by unfold szS; rw [List.take_length] at hs; omega), List.take_length]
    rfl
theorem eqStateS_ok (xs ys : List State) (hx : xs.length ≤ 1000000000) (h : szS State.sz xs ≤ 1048576) : FS Try.prog 27 [] [.fz 2 (rw_ State.c xs), .fz 2 (rw_ State.c ys)] (.bool (decide (xs = ys))) [] := by
  refine FS.of (X := X27) (ac := A27) (os := O27) Try.func27 (by rfl) (by rfl) (by kernel_rfl) o27 (Nat.le_of_ble_eq_true rfl) ?_
  show AWP X27 A27 (Ends X27.vs O27 0 _ _) [.fz 2 (rw_ State.c xs), .fz 2 (rw_ State.c ys), .tup [], .tup [], .tup [], .tup [], .tup []] []
  obtain ⟨Q, hQ⟩ : ∃ Q, Q = Ends X27.vs O27 0 (.bool (decide (xs = ys))) [] := ⟨_, rfl⟩
  rw [← hQ]
  have fin : ∀ L σ b, look X27.vs L 4 = .bool b → b = decide (xs = ys) → Q .ret L σ := by
    intro L σ b h1 h2
    rw [hQ]
    refine Ends.is (.inl rfl) (rs := [.bool b]) (by simp only [go_sem, O27, h1]) ?_ rfl
    simp [packV, h2]
  refine awp_sr ?_
  simp only [go_sem, R27_0, v27, p27]
  refine awp_sr2 ?_
  simp only [go_sem, R27_1, v27, p27]
  refine awp_if rfl ?_ ?_
  · intro h
    refine awp_sr ?_
    simp only [go_sem, R27_2, v27, p27]
    refine awp_ret ?_
    try simp only [go_sem]
    refine fin _ _ false rfl ?_
    symm; simp; intro e; subst e; exact h rfl
  intro hne
  have hl : xs.length = ys.length := by omega
  refine awp_skip ?_
  simp only [go_sem]
  refine awp_sr2 ?_
  simp only [go_sem, R27_3, v27, p27]
  refine awp_for (fun m L σ => ∃ i x10 x14 x25, m = xs.length - i ∧ i ≤ xs.length ∧ xs.take i = ys.take i ∧ L = [.fz 2 (rw_ State.c xs), .fz 2 (rw_ State.c ys), .bool false, .int .i64 (i : Nat), x10, x14, x25]) xs.length ⟨0, _, _, _, rfl, Nat.zero_le _, by simp, rfl⟩ ?_
  rintro m L σ ⟨i, x10, x14, x25, rfl, hi, ht, rfl⟩
  refine awp_sr2 ?_
  simp only [go_sem, R27_4, v27, p27]
  refine awp_if rfl ?_ ?_
  · intro h1
    have h1 : i < xs.length := by omega
    have h2 : i < ys.length := by omega
    refine awp_skip ?_
    simp only [go_sem]
    refine awp_seq (awp_block ?_)
    refine awp_sd mixed rfl (by rfl) ?_
    simp only [go_sem, R27_5, v27, p27, rw_at _ h1, rw_at _ h2, State.c]
    refine run_see (eqState_ok xs[i] ys[i] (by have := sumBy_get State.sz h1; have h : xs.length + sumBy State.sz xs ≤ 1048576 := h; omega)) false (Views.refl rfl) rfl (fun j hj => by omega) (fun h => by cases h) ?_
    simp only [go_sem, v27, p27]
    refine awp_if' rfl ?_ ?_
    · intro h3
      refine awp_sr ?_
      simp only [go_sem, R27_6, v27, p27]
      refine awp_ret ?_
      try simp only [go_sem]
      refine fin _ _ false rfl ?_
      symm; simp; intro e; subst e; exact h3 rfl
    · intro h3
      refine awp_skip ?_
      simp only [go_sem]
      refine awp_reg ?_
      simp only [go_sem, R27_7, v27, p27, wrap_succ (i := i) (by omega)]
      refine ⟨xs.length - (i + 1), by omega, i + 1, _, _, _, rfl, by omega, ?_, rfl⟩
      rw [List.take_succ_eq_append_getElem h1, List.take_succ_eq_append_getElem h2, ht, h3]
  · intro h1
    refine awp_exit ?_
    simp only [go_sem]
    refine awp_sr ?_
    simp only [go_sem, R27_8, v27, p27]
    refine awp_ret ?_
    try simp only [go_sem]
    refine fin _ _ true rfl ?_
    have : i = xs.length := by omega
    subst this
    rw [List.take_length, hl, List.take_length] at ht
    simp [ht]
end Go.Proofs.Ytffigokicddekaa.Abs
/- Ranges, entries and floors of a state, walked in both texts. No condition. -/
set_option linter.unusedVariables false
set_option linter.unusedSimpArgs false
set_option maxRecDepth 10000
namespace Go.Proofs.Ytffigokicddekaa.Abs
open Go Go.Proofs
def R101_0 : List AR := [⟨(some 6), none, 0, (.mov (.k (.bool false)))⟩]
def R101_1 : List AR := [⟨(some 7), none, 0, (.mov (.t 0))⟩, ⟨(some 8), none, 0, (.mov (.t 1))⟩, ⟨(some 9), none, 0, (.bin .geq (.t 7) (.t 8))⟩, ⟨(some 10), none, 0, (.mov (.t 9))⟩, ⟨(some 11), (some (10, true)), 0, (.mov (.t 0))⟩, ⟨(some 12), (some (10, true)), 0, (.mov (.t 2))⟩, ⟨(some 13), (some (10, true)), 0, (.bin .leq (.t 11) (.t 12))⟩, ⟨(some 14), none, 0, (.pick (.t 10) (.t 13) (.k (.bool false)))⟩, ⟨(some 6), none, 0, (.mov (.t 14))⟩]
def A101_0 : AC := (.seq (.reg 0 R101_1) .ret)
def A101 : AC := (.seq (.reg 0 R101_0) A101_0)
def O101 : List AO := [(.mov (.t 6))]
def G101 : Fns := ⟨fun f => false, fun f => 0, false⟩
noncomputable def X101 : Cx := ⟨Try.prog, G101, drawD, 15, [0, 1, 2, 6]⟩
theorem c101 : (Try.f101.body).bind (compC X101.P X101.Γ X101.D X101.nt) = some A101 := by kernel_rfl
theorem o101 : compRes X101.P Try.f101.results.toList = some O101 := by kernel_rfl
theorem v101 : X101.vs = [0, 1, 2, 6] := rfl
theorem p101 : X101.P = Try.prog := rfl
def R105_0 : List AR := [⟨(some 6), none, 0, (.mov (.k (.bool false)))⟩]
def R105_1 : List AR := [⟨(some 7), none, 0, (.mov (.t 0))⟩, ⟨(some 8), none, 0, (.mov (.t 1))⟩, ⟨(some 9), none, 0, (.bin .geq (.t 7) (.t 8))⟩, ⟨(some 10), none, 0, (.mov (.t 9))⟩, ⟨(some 11), (some (10, true)), 0, (.mov (.t 0))⟩, ⟨(some 12), (some (10, true)), 0, (.mov (.t 2))⟩, ⟨(some 13), (some (10, true)), 0, (.bin .leq (.t 11) (.t 12))⟩, ⟨(some 14), none, 0, (.pick (.t 10) (.t 13) (.k (.bool false)))⟩, ⟨(some 6), none, 0, (.mov (.t 14))⟩]
def A105_0 : AC := (.seq (.reg 0 R105_1) .ret)
def A105 : AC := (.seq (.reg 0 R105_0) A105_0)
def O105 : List AO := [(.mov (.t 6))]
def G105 : Fns := ⟨fun f => false, fun f => 0, false⟩
noncomputable def X105 : Cx := ⟨Try.prog, G105, drawD, 15, [0, 1, 2, 6]⟩
theorem c105 : (Try.f105.body).bind (compC X105.P X105.Γ X105.D X105.nt) = some A105 := by kernel_rfl
theorem o105 : compRes X105.P Try.f105.results.toList = some O105 := by kernel_rfl
theorem v105 : X105.vs = [0, 1, 2, 6] := rfl
theorem p105 : X105.P = Try.prog := rfl
def R98_0 : List AR := [⟨(some 2), none, 0, (.mov (.k (.bool false)))⟩]
def R98_1 : List AR := [⟨(some 3), none, 0, (.mov (.t 0))⟩, ⟨(some 4), none, 0, (.call false 0 0 101 [(.t 3), (.k (.int .i64 0)), (.k (.int .i64 4))])⟩, ⟨(some 2), none, 0, (.mov (.t 4))⟩]
def A98_0 : AC := (.seq (.reg 0 R98_1) .ret)
def A98 : AC := (.seq (.reg 0 R98_0) A98_0)
def O98 : List AO := [(.mov (.t 2))]
def G98 : Fns := ⟨fun f => false, fun f => 0, false⟩
noncomputable def X98 : Cx := ⟨Try.prog, G98, drawD, 5, [0, 2]⟩
theorem c98 : (Try.f98.body).bind (compC X98.P X98.Γ X98.D X98.nt) = some A98 := by kernel_rfl
theorem o98 : compRes X98.P Try.f98.results.toList = some O98 := by kernel_rfl
theorem v98 : X98.vs = [0, 2] := rfl
theorem p98 : X98.P = Try.prog := rfl
def R104_0 : List AR := [⟨(some 2), none, 0, (.mov (.k (.bool false)))⟩]
def R104_1 : List AR := [⟨(some 3), none, 0, (.mov (.t 0))⟩, ⟨(some 4), none, 0, (.call false 0 0 105 [(.t 3), (.k (.int .i64 0)), (.k (.int .i64 4))])⟩, ⟨(some 2), none, 0, (.mov (.t 4))⟩]
def A104_0 : AC := (.seq (.reg 0 R104_1) .ret)
def A104 : AC := (.seq (.reg 0 R104_0) A104_0)
def O104 : List AO := [(.mov (.t 2))]
def G104 : Fns := ⟨fun f => false, fun f => 0, false⟩
noncomputable def X104 : Cx := ⟨Try.prog, G104, drawD, 5, [0, 2]⟩
theorem c104 : (Try.f104.body).bind (compC X104.P X104.Γ X104.D X104.nt) = some A104 := by kernel_rfl
theorem o104 : compRes X104.P Try.f104.results.toList = some O104 := by kernel_rfl
theorem v104 : X104.vs = [0, 2] := rfl
theorem p104 : X104.P = Try.prog := rfl
def R56_0 : List AR := [⟨(some 4), none, 0, (.mov (.k (.int .i64 0)))⟩]
def R56_1 : List AR := [⟨(some 5), none, 0, (.mov (.t 0))⟩, ⟨(some 6), none, 0, (.mov (.t 1))⟩, ⟨(some 7), none, 0, (.bin .gtr (.t 5) (.t 6))⟩]
def R56_2 : List AR := [⟨(some 8), none, 0, (.mov (.t 0))⟩, ⟨(some 4), none, 0, (.mov (.t 8))⟩]
def R56_3 : List AR := [⟨(some 9), none, 0, (.mov (.t 1))⟩, ⟨(some 4), none, 0, (.mov (.t 9))⟩]
def A56_0 : AC := (.seq (.reg 0 R56_3) .ret)
def A56_1 : AC := (.seq (.seq (.reg 0 R56_1) (.cond (.t 7) (.seq (.reg 0 R56_2) .ret) .skip)) A56_0)
def A56 : AC := (.seq (.reg 0 R56_0) A56_1)
def O56 : List AO := [(.mov (.t 4))]
def G56 : Fns := ⟨fun f => false, fun f => 0, false⟩
noncomputable def X56 : Cx := ⟨Try.prog, G56, drawD, 10, [0, 1, 4, 7]⟩
theorem c56 : (Try.f56.body).bind (compC X56.P X56.Γ X56.D X56.nt) = some A56 := by kernel_rfl
theorem o56 : compRes X56.P Try.f56.results.toList = some O56 := by kernel_rfl
theorem v56 : X56.vs = [0, 1, 4, 7] := rfl
theorem p56 : X56.P = Try.prog := rfl
def R99_0 : List AR := [⟨(some 1), none, 0, (.box 0 5 (.t 0))⟩, ⟨(some 2), none, 0, (.mov (.k (.bool false)))⟩]
def R99_1 : List AR := [⟨(some 3), none, 0, (.faddr 0 (.t 1))⟩, ⟨(some 4), none, 0, (.load 1 false (.t 3))⟩, ⟨(some 5), none, 0, (.call false 0 0 101 [(.t 4), (.k (.int .i64 1)), (.k (.int .i64 1000))])⟩, ⟨(some 6), none, 0, (.mov (.t 5))⟩, ⟨(some 7), (some (6, true)), 0, (.faddr 1 (.t 1))⟩, ⟨(some 8), (some (6, true)), 0, (.load 1 false (.t 7))⟩, ⟨(some 9), (some (6, true)), 0, (.call false 0 0 101 [(.t 8), (.k (.int .i64 0)), (.k (.int .i64 1))])⟩, ⟨(some 10), none, 0, (.pick (.t 6) (.t 9) (.k (.bool false)))⟩, ⟨(some 11), none, 0, (.mov (.t 10))⟩, ⟨(some 12), (some (11, true)), 0, (.faddr 2 (.t 1))⟩, ⟨(some 13), (some (11, true)), 0, (.load 1 false (.t 12))⟩, ⟨(some 14), (some (11, true)), 0, (.call false 0 0 101 [(.t 13), (.k (.int .i64 0)), (.k (.int .i64 100000))])⟩, ⟨(some 15), none, 0, (.pick (.t 11) (.t 14) (.k (.bool false)))⟩, ⟨(some 16), none, 0, (.mov (.t 15))⟩, ⟨(some 17), (some (16, true)), 0, (.faddr 3 (.t 1))⟩, ⟨(some 18), (some (16, true)), 0, (.load 1 false (.t 17))⟩, ⟨(some 19), (some (16, true)), 0, (.call false 0 0 101 [(.t 18), (.k (.int .i64 0)), (.k (.int .i64 1000))])⟩, ⟨(some 20), none, 0, (.pick (.t 16) (.t 19) (.k (.bool false)))⟩, ⟨(some 21), none, 0, (.mov (.t 20))⟩, ⟨(some 22), (some (21, true)), 0, (.faddr 4 (.t 1))⟩, ⟨(some 23), (some (21, true)), 0, (.load 1 false (.t 22))⟩, ⟨(some 24), (some (21, true)), 0, (.slen (.t 23))⟩, ⟨(some 25), (some (21, true)), 0, (.bin .leq (.t 24) (.k (.int .i64 8)))⟩, ⟨(some 26), none, 0, (.pick (.t 21) (.t 25) (.k (.bool false)))⟩, ⟨(some 2), none, 0, (.mov (.t 26))⟩]
def A99_0 : AC := (.seq (.reg 0 R99_1) .ret)
def A99 : AC := (.seq (.reg 1 R99_0) A99_0)
def O99 : List AO := [(.mov (.t 2))]
def G99 : Fns := ⟨fun f => false, fun f => 0, false⟩
noncomputable def X99 : Cx := ⟨Try.prog, G99, drawD, 27, [0, 1, 2]⟩
theorem c99 : (Try.f99.body).bind (compC X99.P X99.Γ X99.D X99.nt) = some A99 := by kernel_rfl
theorem o99 : compRes X99.P Try.f99.results.toList = some O99 := by kernel_rfl
theorem v99 : X99.vs = [0, 1, 2] := rfl
theorem p99 : X99.P = Try.prog := rfl
def R106_0 : List AR := [⟨(some 1), none, 0, (.box 0 5 (.t 0))⟩, ⟨(some 2), none, 0, (.mov (.k (.bool false)))⟩]
def R106_1 : List AR := [⟨(some 3), none, 0, (.faddr 0 (.t 1))⟩, ⟨(some 4), none, 0, (.load 1 false (.t 3))⟩, ⟨(some 5), none, 0, (.call false 0 0 105 [(.t 4), (.k (.int .i64 1)), (.k (.int .i64 1000))])⟩, ⟨(some 6), none, 0, (.mov (.t 5))⟩, ⟨(some 7), (some (6, true)), 0, (.faddr 1 (.t 1))⟩, ⟨(some 8), (some (6, true)), 0, (.load 1 false (.t 7))⟩, ⟨(some 9), (some (6, true)), 0, (.call false 0 0 105 [(.t 8), (.k (.int .i64 0)), (.k (.int .i64 1))])⟩, ⟨(some 10), none, 0, (.pick (.t 6) (.t 9) (.k (.bool false)))⟩, ⟨(some 11), none, 0, (.mov (.t 10))⟩, ⟨(some 12), (some (11, true)), 0, (.faddr 2 (.t 1))⟩, ⟨(some 13), (some (11, true)), 0, (.load 1 false (.t 12))⟩, ⟨(some 14), (some (11, true)), 0, (.call false 0 0 105 [(.t 13), (.k (.int .i64 0)), (.k (.int .i64 100000))])⟩, ⟨(some 15), none, 0, (.pick (.t 11) (.t 14) (.k (.bool false)))⟩, ⟨(some 16), none, 0, (.mov (.t 15))⟩, ⟨(some 17), (some (16, true)), 0, (.faddr 3 (.t 1))⟩, ⟨(some 18), (some (16, true)), 0, (.load 1 false (.t 17))⟩, ⟨(some 19), (some (16, true)), 0, (.call false 0 0 105 [(.t 18), (.k (.int .i64 0)), (.k (.int .i64 1000))])⟩, ⟨(some 20), none, 0, (.pick (.t 16) (.t 19) (.k (.bool false)))⟩, ⟨(some 21), none, 0, (.mov (.t 20))⟩, ⟨(some 22), (some (21, true)), 0, (.faddr 4 (.t 1))⟩, ⟨(some 23), (some (21, true)), 0, (.load 1 false (.t 22))⟩, ⟨(some 24), (some (21, true)), 0, (.slen (.t 23))⟩, ⟨(some 25), (some (21, true)), 0, (.bin .leq (.t 24) (.k (.int .i64 8)))⟩, ⟨(some 26), none, 0, (.pick (.t 21) (.t 25) (.k (.bool false)))⟩, ⟨(some 2), none, 0, (.mov (.t 26))⟩]
def A106_0 : AC := (.seq (.reg 0 R106_1) .ret)
def A106 : AC := (.seq (.reg 1 R106_0) A106_0)
def O106 : List AO := [(.mov (.t 2))]
def G106 : Fns := ⟨fun f => false, fun f => 0, false⟩
noncomputable def X106 : Cx := ⟨Try.prog, G106, drawD, 27, [0, 1, 2]⟩
theorem c106 : (Try.f106.body).bind (compC X106.P X106.Γ X106.D X106.nt) = some A106 := by kernel_rfl
theorem o106 : compRes X106.P Try.f106.results.toList = some O106 := by kernel_rfl
theorem v106 : X106.vs = [0, 1, 2] := rfl
theorem p106 : X106.P = Try.prog := rfl
theorem l1In_ok (x lo hi : Int) : FS Try.prog 101 [] [.int .i64 x, .int .i64 lo, .int .i64 hi] (.bool (decide (lo ≤ x ∧ x ≤ hi))) [] := by
  refine FS.of (X := X101) (ac := A101) (os := O101) Try.func101 (by rfl) (by rfl) (by kernel_rfl) o101 (Nat.le_of_ble_eq_true rfl) ?_
  show AWP X101 A101 (Ends X101.vs O101 0 _ _) [.int .i64 x, .int .i64 lo, .int .i64 hi, .tup []] []
  obtain ⟨Q, hQ⟩ : ∃ Q, Q = Ends X101.vs O101 0 (.bool (decide (lo ≤ x ∧ x ≤ hi))) [] := ⟨_, rfl⟩
  rw [← hQ]
  refine awp_sr ?_
  simp only [go_sem, R101_0, v101, p101]
  refine awp_sr ?_
  simp only [go_sem, R101_1, v101, p101]
  refine selP_if rfl (fun h => ?_) (fun h => ?_)
  · simp only [go_sem, v101, p101, h, decide_true]
    refine awp_ret ?_
    try simp only [go_sem]
    rw [hQ]
    exact Ends.is (.inl rfl) rfl (congrArg V.bool (by simp [h])) rfl
  · simp only [go_sem, v101, p101, h, decide_false]
    refine awp_ret ?_
    try simp only [go_sem]
    rw [hQ]
    exact Ends.is (.inl rfl) rfl (congrArg V.bool (by simp [h])) rfl
theorem within_ok (x lo hi : Int) : FS Try.prog 105 [] [.int .i64 x, .int .i64 lo, .int .i64 hi] (.bool (decide (lo ≤ x ∧ x ≤ hi))) [] := by
  refine FS.of (X := X105) (ac := A105) (os := O105) Try.func105 (by rfl) (by rfl) (by kernel_rfl) o105 (Nat.le_of_ble_eq_true rfl) ?_
  show AWP X105 A105 (Ends X105.vs O105 0 _ _) [.int .i64 x, .int .i64 lo, .int .i64 hi, .tup []] []
  obtain ⟨Q, hQ⟩ : ∃ Q, Q = Ends X105.vs O105 0 (.bool (decide (lo ≤ x ∧ x ≤ hi))) [] := ⟨_, rfl⟩
  rw [← hQ]
  refine awp_sr ?_
  simp only [go_sem, R105_0, v105, p105]
  refine awp_sr ?_
  simp only [go_sem, R105_1, v105, p105]
  refine selP_if rfl (fun h => ?_) (fun h => ?_)
  · simp only [go_sem, v105, p105, h, decide_true]
    refine awp_ret ?_
    try simp only [go_sem]
    rw [hQ]
    exact Ends.is (.inl rfl) rfl (congrArg V.bool (by simp [h])) rfl
  · simp only [go_sem, v105, p105, h, decide_false]
    refine awp_ret ?_
    try simp only [go_sem]
    rw [hQ]
    exact Ends.is (.inl rfl) rfl (congrArg V.bool (by simp [h])) rfl
theorem l3Node_ok (x : Int) : FS Try.prog 98 [] [.int .i64 x] (.bool (decide (0 ≤ x ∧ x ≤ 4))) [] := by
  refine FS.of (X := X98) (ac := A98) (os := O98) Try.func98 (by rfl) (by rfl) (by kernel_rfl) o98 (Nat.le_of_ble_eq_true rfl) ?_
  show AWP X98 A98 (Ends X98.vs O98 0 _ _) [.int .i64 x, .tup []] []
  obtain ⟨Q, hQ⟩ : ∃ Q, Q = Ends X98.vs O98 0 (.bool (decide (0 ≤ x ∧ x ≤ 4))) [] := ⟨_, rfl⟩
  rw [← hQ]
  refine awp_sr ?_
  simp only [go_sem, R98_0, v98, p98]
  refine awp_sr ?_
  simp only [go_sem, R98_1, v98, p98]
  refine run_see (l1In_ok x 0 4) false (Views.refl rfl) rfl (fun j hj => by omega) (fun h => by cases h) ?_
  simp only [go_sem, v98, p98]
  refine awp_ret ?_
  try simp only [go_sem]
  rw [hQ]
  exact Ends.is (.inl rfl) rfl rfl rfl
theorem isNode_ok (x : Int) : FS Try.prog 104 [] [.int .i64 x] (.bool (decide (0 ≤ x ∧ x ≤ 4))) [] := by
  refine FS.of (X := X104) (ac := A104) (os := O104) Try.func104 (by rfl) (by rfl) (by kernel_rfl) o104 (Nat.le_of_ble_eq_true rfl) ?_
  show AWP X104 A104 (Ends X104.vs O104 0 _ _) [.int .i64 x, .tup []] []
  obtain ⟨Q, hQ⟩ : ∃ Q, Q = Ends X104.vs O104 0 (.bool (decide (0 ≤ x ∧ x ≤ 4))) [] := ⟨_, rfl⟩
  rw [← hQ]
  refine awp_sr ?_
  simp only [go_sem, R104_0, v104, p104]
  refine awp_sr ?_
  simp only [go_sem, R104_1, v104, p104]
  refine run_see (within_ok x 0 4) false (Views.refl rfl) rfl (fun j hj => by omega) (fun h => by cases h) ?_
  simp only [go_sem, v104, p104]
  refine awp_ret ?_
  try simp only [go_sem]
  rw [hQ]
  exact Ends.is (.inl rfl) rfl rfl rfl
theorem l1Max_ok (x y : Int) : FS Try.prog 56 [] [.int .i64 x, .int .i64 y] (.int .i64 (if y > x then y else x)) [] := by
  refine FS.of (X := X56) (ac := A56) (os := O56) Try.func56 (by rfl) (by rfl) (by kernel_rfl) o56 (Nat.le_of_ble_eq_true rfl) ?_
  show AWP X56 A56 (Ends X56.vs O56 0 _ _) [.int .i64 x, .int .i64 y, .tup [], .tup []] []
  obtain ⟨Q, hQ⟩ : ∃ Q, Q = Ends X56.vs O56 0 (.int .i64 (if y > x then y else x)) [] := ⟨_, rfl⟩
  rw [← hQ]
  refine awp_sr ?_
  simp only [go_sem, R56_0, v56, p56]
  refine awp_sr2 ?_
  simp only [go_sem, R56_1, v56, p56]
  refine awp_if rfl ?_ ?_
  · intro h
    refine awp_sr ?_
    simp only [go_sem, R56_2, v56, p56]
    refine awp_ret ?_
    try simp only [go_sem]
    rw [hQ]
    exact Ends.is (.inl rfl) rfl (congrArg (V.int .i64) (by rw [if_neg]; omega)) rfl
  intro h
  refine awp_skip ?_
  simp only [go_sem]
  refine awp_sr ?_
  simp only [go_sem, R56_3, v56, p56]
  refine awp_ret ?_
  try simp only [go_sem]
  rw [hQ]
  refine Ends.is (.inl rfl) rfl (congrArg (V.int .i64) ?_) rfl
  split <;> omega
/-- a right entry -/
def Entry.Right (a : Entry) : Prop := (1 ≤ a.inc ∧ a.inc ≤ 1000) ∧ (0 ≤ a.rank ∧ a.rank ≤ 1) ∧ (0 ≤ a.beat ∧ a.beat ≤ 100000) ∧ (0 ≤ a.ver ∧ a.ver ≤ 1000) ∧ (a.data.size : Int) ≤ 8
instance (a : Entry) : Decidable a.Right := by unfold Entry.Right; exact inferInstance
theorem specEntryOk_ok (a : Entry) : FS Try.prog 99 [] [.agg a.c] (.bool (decide a.Right)) [] := by
  refine FS.of (X := X99) (ac := A99) (os := O99) Try.func99 (by rfl) (by rfl) (by kernel_rfl) o99 (Nat.le_of_ble_eq_true rfl) ?_
  show AWP X99 A99 (Ends X99.vs O99 0 _ _) [.agg a.c, .tup [], .tup []] []
  obtain ⟨Q, hQ⟩ : ∃ Q, Q = Ends X99.vs O99 0 (.bool (decide a.Right)) [] := ⟨_, rfl⟩
  rw [← hQ]
  have fin : ∀ L σ q, look X99.vs L 2 = .bool q → q = decide a.Right → Q .ret L σ := by
    intro L σ q h1 h2
    rw [hQ]
    refine Ends.is (.inl rfl) (rs := [.bool q]) (by simp only [go_sem, O99, h1]) ?_ rfl
    simp [packV, h2]
  refine awp_sr ?_
  simp only [go_sem, R99_0, v99, p99, Entry.c]
  refine awp_sr ?_
  simp only [go_sem, R99_1, v99, p99]
  refine run_see (l1In_ok a.inc 1 1000) false (Views.refl rfl) rfl (fun j hj => by omega) (fun h => by cases h) ?_
  by_cases h1 : 1 ≤ a.inc ∧ a.inc ≤ 1000
  · simp only [go_sem, v99, p99, decide_eq_true h1]
    refine run_see (l1In_ok a.rank 0 1) false (Views.refl rfl) rfl (fun j hj => by omega) (fun h => by cases h) ?_
    by_cases h2 : 0 ≤ a.rank ∧ a.rank ≤ 1
    · simp only [go_sem, v99, p99, decide_eq_true h2]
      refine run_see (l1In_ok a.beat 0 100000) false (Views.refl rfl) rfl (fun j hj => by omega) (fun h => by cases h) ?_
      by_cases h3 : 0 ≤ a.beat ∧ a.beat ≤ 100000
      · simp only [go_sem, v99, p99, decide_eq_true h3]
        refine run_see (l1In_ok a.ver 0 1000) false (Views.refl rfl) rfl (fun j hj => by omega) (fun h => by cases h) ?_
        by_cases h4 : 0 ≤ a.ver ∧ a.ver ≤ 1000
        · simp only [go_sem, v99, p99, decide_eq_true h4]
          refine awp_ret ?_
          try simp only [go_sem]
          refine fin _ _ _ rfl ?_
          by_cases h5 : (a.data.size : Int) ≤ 8
          · have hr : a.Right := ⟨h1, h2, h3, h4, h5⟩
            rw [decide_eq_true h5, decide_eq_true hr]
          · have hr : ¬ a.Right := fun e => h5 e.2.2.2.2
            rw [decide_eq_false h5, decide_eq_false hr]
        · simp only [go_sem, v99, p99, decide_eq_false h4]
          refine awp_ret ?_
          try simp only [go_sem]
          exact fin _ _ _ rfl (decide_eq_false (fun e : a.Right => h4 e.2.2.2.1)).symm
      · simp only [go_sem, v99, p99, decide_eq_false h3]
        refine awp_ret ?_
        try simp only [go_sem]
        exact fin _ _ _ rfl (decide_eq_false (fun e : a.Right => h3 e.2.2.1)).symm
    · simp only [go_sem, v99, p99, decide_eq_false h2]
      refine awp_ret ?_
      try simp only [go_sem]
      exact fin _ _ _ rfl (decide_eq_false (fun e : a.Right => h2 e.2.1)).symm
  · simp only [go_sem, v99, p99, decide_eq_false h1]
    refine awp_ret ?_
    try simp only [go_sem]
    exact fin _ _ _ rfl (decide_eq_false (fun e : a.Right => h1 e.1)).symm
theorem implEntryOk_ok (a : Entry) : FS Try.prog 106 [] [.agg a.c] (.bool (decide a.Right)) [] := by
  refine FS.of (X := X106) (ac := A106) (os := O106) Try.func106 (by rfl) (by rfl) (by kernel_rfl) o106 (Nat.le_of_ble_eq_true rfl) ?_
  show AWP X106 A106 (Ends X106.vs O106 0 _ _) [.agg a.c, .tup [], .tup []] []
  obtain ⟨Q, hQ⟩ : ∃ Q, Q = Ends X106.vs O106 0 (.bool (decide a.Right)) [] := ⟨_, rfl⟩
  rw [← hQ]
  have fin : ∀ L σ q, look X106.vs L 2 = .bool q → q = decide a.Right → Q .ret L σ := by
    intro L σ q h1 h2
    rw [hQ]
    refine Ends.is (.inl rfl) (rs := [.bool q]) (by simp only [go_sem, O106, h1]) ?_ rfl
    simp [packV, h2]
  refine awp_sr ?_
  simp only [go_sem, R106_0, v106, p106, Entry.c]
  refine awp_sr ?_
  simp only [go_sem, R106_1, v106, p106]
  refine run_see (within_ok a.inc 1 1000) false (Views.refl rfl) rfl (fun j hj => by omega) (fun h => by cases h) ?_
  by_cases h1 : 1 ≤ a.inc ∧ a.inc ≤ 1000
  · simp only [go_sem, v106, p106, decide_eq_true h1]
    refine run_see (within_ok a.rank 0 1) false (Views.refl rfl) rfl (fun j hj => by omega) (fun h => by cases h) ?_
    by_cases h2 : 0 ≤ a.rank ∧ a.rank ≤ 1
    · simp only [go_sem, v106, p106, decide_eq_true h2]
      refine run_see (within_ok a.beat 0 100000) false (Views.refl rfl) rfl (fun j hj => by omega) (fun h => by cases h) ?_
      by_cases h3 : 0 ≤ a.beat ∧ a.beat ≤ 100000
      · simp only [go_sem, v106, p106, decide_eq_true h3]
        refine run_see (within_ok a.ver 0 1000) false (Views.refl rfl) rfl (fun j hj => by omega) (fun h => by cases h) ?_
        by_cases h4 : 0 ≤ a.ver ∧ a.ver ≤ 1000
        · simp only [go_sem, v106, p106, decide_eq_true h4]
          refine awp_ret ?_
          try simp only [go_sem]
          refine fin _ _ _ rfl ?_
          by_cases h5 : (a.data.size : Int) ≤ 8
          · have hr : a.Right := ⟨h1, h2, h3, h4, h5⟩
            rw [decide_eq_true h5, decide_eq_true hr]
          · have hr : ¬ a.Right := fun e => h5 e.2.2.2.2
            rw [decide_eq_false h5, decide_eq_false hr]
        · simp only [go_sem, v106, p106, decide_eq_false h4]
          refine awp_ret ?_
          try simp only [go_sem]
          exact fin _ _ _ rfl (decide_eq_false (fun e : a.Right => h4 e.2.2.2.1)).symm
      · simp only [go_sem, v106, p106, decide_eq_false h3]
        refine awp_ret ?_
        try simp only [go_sem]
        exact fin _ _ _ rfl (decide_eq_false (fun e : a.Right => h3 e.2.2.1)).symm
    · simp only [go_sem, v106, p106, decide_eq_false h2]
      refine awp_ret ?_
      try simp only [go_sem]
      exact fin _ _ _ rfl (decide_eq_false (fun e : a.Right => h2 e.2.1)).symm
  · simp only [go_sem, v106, p106, decide_eq_false h1]
    refine awp_ret ?_
    try simp only [go_sem]
    exact fin _ _ _ rfl (decide_eq_false (fun e : a.Right => h1 e.1)).symm
end Go.Proofs.Ytffigokicddekaa.Abs
/- Rows of whole numbers: copies, sizes, equality, under the words of the structures. No condition. -/
set_option linter.unusedVariables false
set_option linter.unusedSimpArgs false
set_option maxRecDepth 10000
namespace Go.Proofs.Ytffigokicddekaa.Abs
open Go Go.Proofs
theorem ints_rw (xs : List Int) : ints xs = rw_ intC xs := rfl
theorem toIntS_ok (xs : List Int) (h : xs.length ≤ 1048576) : FS Try.prog 11 [] [.fz 1 (rw_ intC xs)] (.fz 1 (rw_ intC xs)) [] := toInts_ok xs (by omega)
theorem eqIntS_ok (xs ys : List Int) (h : xs.length ≤ 1000000000) : FS Try.prog 13 [] [.fz 1 (rw_ intC xs), .fz 1 (rw_ intC ys)] (.bool (decide (xs = ys))) [] := eqInts_ok xs ys (by omega)
def R67_0 : List AR := [⟨(some 4), none, 0, (.mov (.k (.int .i64 0)))⟩]
def R67_1 : List AR := [⟨(some 5), none, 0, (.mov (.t 1))⟩, ⟨(some 6), none, 0, (.mov (.t 0))⟩, ⟨(some 7), none, 0, (.len (.t 6))⟩, ⟨(some 8), none, 0, (.bin .sub (.t 5) (.t 7))⟩, ⟨(some 1), none, 0, (.mov (.t 8))⟩]
def R67_2 : List AR := [⟨(some 9), none, 0, (.mov (.t 1))⟩, ⟨(some 10), none, 0, (.bin .lss (.t 9) (.k (.int .i64 0)))⟩]
def R67_3 : List AR := [⟨(some 4), none, 0, (.mov (.k (.int .i64 (-1))))⟩]
def R67_4 : List AR := [⟨(some 11), none, 0, (.mov (.t 1))⟩, ⟨(some 4), none, 0, (.mov (.t 11))⟩]
def A67_0 : AC := (.seq (.reg 0 R67_4) .ret)
def A67_1 : AC := (.seq (.seq (.reg 0 R67_2) (.cond (.t 10) (.seq (.reg 0 R67_3) .ret) .skip)) A67_0)
def A67_2 : AC := (.seq (.reg 0 R67_1) A67_1)
def A67 : AC := (.seq (.reg 0 R67_0) A67_2)
def O67 : List AO := [(.mov (.t 4))]
def G67 : Fns := ⟨fun f => false, fun f => 0, false⟩
noncomputable def X67 : Cx := ⟨Try.prog, G67, drawD, 12, [0, 1, 4, 10]⟩
theorem c67 : (Try.f67.body).bind (compC X67.P X67.Γ X67.D X67.nt) = some A67 := by kernel_rfl
theorem o67 : compRes X67.P Try.f67.results.toList = some O67 := by kernel_rfl
theorem v67 : X67.vs = [0, 1, 4, 10] := rfl
theorem p67 : X67.P = Try.prog := rfl
theorem szIntS_ok (xs : List Int) (n : Nat) (hn : n ≤ 1048576) (ha : xs.length ≤ big) : FS Try.prog 67 [] [.fz 1 (rw_ intC xs), .int .i64 n] (.int .i64 (left n xs.length)) [] := by
  refine FS.of (X := X67) (ac := A67) (os := O67) Try.func67 (by rfl) (by rfl) (by kernel_rfl) o67 (Nat.le_of_ble_eq_true rfl) ?_
  show AWP X67 A67 (Ends X67.vs O67 0 _ _) [.fz 1 (rw_ intC xs), .int .i64 n, .tup [], .tup []] []
  obtain ⟨Q, hQ⟩ : ∃ Q, Q = Ends X67.vs O67 0 (.int .i64 (left n xs.length)) [] := ⟨_, rfl⟩
  rw [← hQ]
  have ha : xs.length ≤ 1000000000000000 := ha
  refine awp_sr ?_
  simp only [go_sem, R67_0, v67, p67]
  refine awp_sr ?_
  simp only [go_sem, R67_1, v67, p67, wrap_i64 (n := (n : Int) - xs.length) (by omega) (by omega)]
  refine awp_sr2 ?_
  simp only [go_sem, R67_2, v67, p67]
  refine awp_if rfl ?_ ?_
  · intro h
    refine awp_sr ?_
    simp only [go_sem, R67_3, v67, p67]
    refine awp_ret ?_
    try simp only [go_sem]
    rw [hQ]
    exact Ends.is (.inl rfl) rfl (congrArg (V.int .i64) (left_no (by omega)).symm) rfl
  intro h
  refine awp_skip ?_
  simp only [go_sem]
  refine awp_sr ?_
  simp only [go_sem, R67_4, v67, p67]
  refine awp_ret ?_
  try simp only [go_sem]
  rw [hQ]
  exact Ends.is (.inl rfl) rfl (congrArg (V.int .i64) (by rw [left_is (by omega)]; omega)) rfl
end Go.Proofs.Ytffigokicddekaa.Abs
/- Copies, sizes and equality, walked: Tree, Mark, MarkS, Msg. No condition. -/
set_option linter.unusedVariables false
set_option linter.unusedSimpArgs false
set_option maxRecDepth 10000
namespace Go.Proofs.Ytffigokicddekaa.Abs
open Go Go.Proofs
def R70_0 : List AR := [⟨(some 1), none, 0, (.box 0 2 (.t 0))⟩, ⟨(some 2), none, 0, (.alloc 1 2 [.nl, (.int .i64 0)])⟩]
def R70_1 : List AR := [⟨(some 3), none, 0, (.alloc 0 2 [.nl, (.int .i64 0)])⟩]
def R70_2 : List AR := [⟨(some 4), none, 0, (.faddr 0 (.t 1))⟩, ⟨(some 5), none, 0, (.load 1 false (.t 4))⟩, ⟨(some 6), none, 0, (.call false 0 0 11 [(.t 5)])⟩, ⟨(some 7), none, 0, (.faddr 0 (.t 3))⟩, ⟨none, none, 0, (.store 1 (.t 7) (.t 6))⟩]
def R70_3 : List AR := [⟨(some 8), none, 0, (.faddr 1 (.t 1))⟩, ⟨(some 9), none, 0, (.load 1 false (.t 8))⟩, ⟨(some 10), none, 0, (.faddr 1 (.t 3))⟩, ⟨none, none, 0, (.store 1 (.t 10) (.t 9))⟩]
def R70_4 : List AR := [⟨(some 11), none, 0, (.load 2 true (.t 3))⟩, ⟨none, none, 0, (.store 2 (.t 2) (.t 11))⟩]
def A70_0 : AC := (.seq (.reg 0 R70_4) .ret)
def A70_1 : AC := (.seq (.reg 0 R70_3) A70_0)
def A70_2 : AC := (.seq (.reg 0 R70_2) A70_1)
def A70_3 : AC := (.seq (.reg 1 R70_1) A70_2)
def A70 : AC := (.seq (.reg 2 R70_0) A70_3)
def O70 : List AO := [(.load 2 true (.t 2))]
def G70 : Fns := ⟨fun f => false, fun f => 0, false⟩
noncomputable def X70 : Cx := ⟨Try.prog, G70, drawD, 12, [0, 1, 2, 3]⟩
theorem c70 : (Try.f70.body).bind (compC X70.P X70.Γ X70.D X70.nt) = some A70 := by kernel_rfl
theorem o70 : compRes X70.P Try.f70.results.toList = some O70 := by kernel_rfl
theorem v70 : X70.vs = [0, 1, 2, 3] := rfl
theorem p70 : X70.P = Try.prog := rfl
def R73_0 : List AR := [⟨(some 2), none, 0, (.box 0 2 (.t 0))⟩, ⟨(some 3), none, 0, (.box 1 2 (.t 1))⟩, ⟨(some 4), none, 0, (.mov (.k (.bool false)))⟩]
def R73_1 : List AR := [⟨(some 5), none, 0, (.faddr 0 (.t 2))⟩, ⟨(some 6), none, 0, (.load 1 false (.t 5))⟩, ⟨(some 7), none, 0, (.faddr 0 (.t 3))⟩, ⟨(some 8), none, 0, (.load 1 false (.t 7))⟩, ⟨(some 9), none, 0, (.call false 0 0 13 [(.t 6), (.t 8)])⟩, ⟨(some 10), none, 0, (.not (.t 9))⟩]
def R73_2 : List AR := [⟨(some 4), none, 0, (.mov (.k (.bool false)))⟩]
def R73_3 : List AR := [⟨(some 11), none, 0, (.faddr 1 (.t 2))⟩, ⟨(some 12), none, 0, (.load 1 false (.t 11))⟩, ⟨(some 13), none, 0, (.faddr 1 (.t 3))⟩, ⟨(some 14), none, 0, (.load 1 false (.t 13))⟩, ⟨(some 15), none, 0, (.bin .neq (.t 12) (.t 14))⟩]
def R73_4 : List AR := [⟨(some 4), none, 0, (.mov (.k (.bool false)))⟩]
def R73_5 : List AR := [⟨(some 4), none, 0, (.mov (.k (.bool true)))⟩]
def A73_0 : AC := (.seq (.reg 0 R73_5) .ret)
def A73_1 : AC := (.seq (.seq (.reg 0 R73_3) (.cond (.t 15) (.seq (.reg 0 R73_4) .ret) .skip)) A73_0)
def A73_2 : AC := (.seq (.seq (.reg 0 R73_1) (.cond (.t 10) (.seq (.reg 0 R73_2) .ret) .skip)) A73_1)
def A73 : AC := (.seq (.reg 2 R73_0) A73_2)
def O73 : List AO := [(.mov (.t 4))]
def G73 : Fns := ⟨fun f => false, fun f => 0, false⟩
noncomputable def X73 : Cx := ⟨Try.prog, G73, drawD, 16, [0, 1, 2, 3, 4, 10, 15]⟩
theorem c73 : (Try.f73.body).bind (compC X73.P X73.Γ X73.D X73.nt) = some A73 := by kernel_rfl
theorem o73 : compRes X73.P Try.f73.results.toList = some O73 := by kernel_rfl
theorem v73 : X73.vs = [0, 1, 2, 3, 4, 10, 15] := rfl
theorem p73 : X73.P = Try.prog := rfl
def R66_0 : List AR := [⟨(some 2), none, 0, (.box 0 2 (.t 0))⟩, ⟨(some 4), none, 0, (.mov (.k (.int .i64 0)))⟩]
def R66_1 : List AR := [⟨(some 5), none, 0, (.faddr 0 (.t 2))⟩, ⟨(some 6), none, 0, (.load 1 false (.t 5))⟩, ⟨(some 7), none, 0, (.mov (.t 1))⟩, ⟨(some 8), none, 0, (.call false 0 0 67 [(.t 6), (.t 7)])⟩, ⟨(some 1), none, 0, (.mov (.t 8))⟩]
def R66_2 : List AR := [⟨(some 9), none, 0, (.mov (.t 1))⟩, ⟨(some 10), none, 0, (.bin .lss (.t 9) (.k (.int .i64 0)))⟩]
def R66_3 : List AR := [⟨(some 4), none, 0, (.mov (.k (.int .i64 (-1))))⟩]
def R66_4 : List AR := [⟨(some 11), none, 0, (.mov (.t 1))⟩, ⟨(some 4), none, 0, (.mov (.t 11))⟩]
def A66_0 : AC := (.seq (.reg 0 R66_4) .ret)
def A66_1 : AC := (.seq (.seq (.reg 0 R66_2) (.cond (.t 10) (.seq (.reg 0 R66_3) .ret) .skip)) A66_0)
def A66_2 : AC := (.seq (.reg 0 R66_1) A66_1)
def A66 : AC := (.seq (.reg 1 R66_0) A66_2)
def O66 : List AO := [(.mov (.t 4))]
def G66 : Fns := ⟨fun f => false, fun f => 0, false⟩
noncomputable def X66 : Cx := ⟨Try.prog, G66, drawD, 12, [0, 1, 2, 4, 10]⟩
theorem c66 : (Try.f66.body).bind (compC X66.P X66.Γ X66.D X66.nt) = some A66 := by kernel_rfl
theorem o66 : compRes X66.P Try.f66.results.toList = some O66 := by kernel_rfl
theorem v66 : X66.vs = [0, 1, 2, 4, 10] := rfl
theorem p66 : X66.P = Try.prog := rfl
def R115_0 : List AR := [⟨(some 1), none, 0, (.box 0 2 (.t 0))⟩, ⟨(some 2), none, 0, (.alloc 1 2 [(.int .i64 0), (.int .i64 0)])⟩]
def R115_1 : List AR := [⟨(some 3), none, 0, (.alloc 0 2 [(.int .i64 0), (.int .i64 0)])⟩]
def R115_2 : List AR := [⟨(some 4), none, 0, (.faddr 0 (.t 1))⟩, ⟨(some 5), none, 0, (.load 1 false (.t 4))⟩, ⟨(some 6), none, 0, (.faddr 0 (.t 3))⟩, ⟨none, none, 0, (.store 1 (.t 6) (.t 5))⟩]
def R115_3 : List AR := [⟨(some 7), none, 0, (.faddr 1 (.t 1))⟩, ⟨(some 8), none, 0, (.load 1 false (.t 7))⟩, ⟨(some 9), none, 0, (.faddr 1 (.t 3))⟩, ⟨none, none, 0, (.store 1 (.t 9) (.t 8))⟩]
def R115_4 : List AR := [⟨(some 10), none, 0, (.load 2 true (.t 3))⟩, ⟨none, none, 0, (.store 2 (.t 2) (.t 10))⟩]
def A115_0 : AC := (.seq (.reg 0 R115_4) .ret)
def A115_1 : AC := (.seq (.reg 0 R115_3) A115_0)
def A115_2 : AC := (.seq (.reg 0 R115_2) A115_1)
def A115_3 : AC := (.seq (.reg 1 R115_1) A115_2)
def A115 : AC := (.seq (.reg 2 R115_0) A115_3)
def O115 : List AO := [(.load 2 true (.t 2))]
def G115 : Fns := ⟨fun f => false, fun f => 0, false⟩
noncomputable def X115 : Cx := ⟨Try.prog, G115, drawD, 11, [0, 1, 2, 3]⟩
theorem c115 : (Try.f115.body).bind (compC X115.P X115.Γ X115.D X115.nt) = some A115 := by kernel_rfl
theorem o115 : compRes X115.P Try.f115.results.toList = some O115 := by kernel_rfl
theorem v115 : X115.vs = [0, 1, 2, 3] := rfl
theorem p115 : X115.P = Try.prog := rfl
def R121_0 : List AR := [⟨(some 2), none, 0, (.box 0 2 (.t 0))⟩, ⟨(some 3), none, 0, (.box 1 2 (.t 1))⟩, ⟨(some 4), none, 0, (.mov (.k (.bool false)))⟩]
def R121_1 : List AR := [⟨(some 5), none, 0, (.faddr 0 (.t 2))⟩, ⟨(some 6), none, 0, (.load 1 false (.t 5))⟩, ⟨(some 7), none, 0, (.faddr 0 (.t 3))⟩, ⟨(some 8), none, 0, (.load 1 false (.t 7))⟩, ⟨(some 9), none, 0, (.bin .neq (.t 6) (.t 8))⟩]
def R121_2 : List AR := [⟨(some 4), none, 0, (.mov (.k (.bool false)))⟩]
def R121_3 : List AR := [⟨(some 10), none, 0, (.faddr 1 (.t 2))⟩, ⟨(some 11), none, 0, (.load 1 false (.t 10))⟩, ⟨(some 12), none, 0, (.faddr 1 (.t 3))⟩, ⟨(some 13), none, 0, (.load 1 false (.t 12))⟩, ⟨(some 14), none, 0, (.bin .neq (.t 11) (.t 13))⟩]
def R121_4 : List AR := [⟨(some 4), none, 0, (.mov (.k (.bool false)))⟩]
def R121_5 : List AR := [⟨(some 4), none, 0, (.mov (.k (.bool true)))⟩]
def A121_0 : AC := (.seq (.reg 0 R121_5) .ret)
def A121_1 : AC := (.seq (.seq (.reg 0 R121_3) (.cond (.t 14) (.seq (.reg 0 R121_4) .ret) .skip)) A121_0)
def A121_2 : AC := (.seq (.seq (.reg 0 R121_1) (.cond (.t 9) (.seq (.reg 0 R121_2) .ret) .skip)) A121_1)
def A121 : AC := (.seq (.reg 2 R121_0) A121_2)
def O121 : List AO := [(.mov (.t 4))]
def G121 : Fns := ⟨fun f => false, fun f => 0, false⟩
noncomputable def X121 : Cx := ⟨Try.prog, G121, drawD, 15, [0, 1, 2, 3, 4, 9, 14]⟩
theorem c121 : (Try.f121.body).bind (compC X121.P X121.Γ X121.D X121.nt) = some A121 := by kernel_rfl
theorem o121 : compRes X121.P Try.f121.results.toList = some O121 := by kernel_rfl
theorem v121 : X121.vs = [0, 1, 2, 3, 4, 9, 14] := rfl
theorem p121 : X121.P = Try.prog := rfl
def R71_0 : List AR := [⟨(some 2), none, 0, (.mov (.k .nl))⟩]
def R71_1 : List AR := [⟨(some 5), none, 0, (.mov (.t 0))⟩, ⟨(some 6), none, 0, (.len (.t 5))⟩, ⟨(some 7), none, 0, (.mks 0 2 16 [(.int .i64 0), (.int .i64 0)] (.t 6) (.t 6))⟩, ⟨(some 3), none, 0, (.mov (.t 7))⟩]
def R71_2 : List AR := [⟨(some 4), none, 0, (.mov (.k (.int .i64 0)))⟩]
def R71_3 : List AR := [⟨(some 8), none, 0, (.mov (.t 4))⟩, ⟨(some 9), none, 0, (.mov (.t 0))⟩, ⟨(some 10), none, 0, (.len (.t 9))⟩, ⟨(some 11), none, 0, (.bin .lss (.t 8) (.t 10))⟩]
def R71_4 : List AR := [⟨(some 14), none, 0, (.mov (.t 3))⟩, ⟨(some 15), none, 0, (.mov (.t 4))⟩, ⟨(some 16), none, 0, (.mov (.t 0))⟩, ⟨(some 17), none, 0, (.mov (.t 4))⟩, ⟨(some 18), none, 0, (.iaddr 2 (.t 16) (.t 17))⟩, ⟨(some 19), none, 0, (.load 2 true (.t 18))⟩, ⟨(some 20), none, 0, (.call false 0 0 115 [(.t 19)])⟩, ⟨(some 21), none, 0, (.iaddr 2 (.t 14) (.t 15))⟩, ⟨none, none, 0, (.store 2 (.t 21) (.t 20))⟩]
def R71_5 : List AR := [⟨(some 12), none, 0, (.mov (.t 4))⟩, ⟨(some 13), none, 0, (.bin .add (.t 12) (.k (.int .i64 1)))⟩, ⟨(some 4), none, 0, (.mov (.t 13))⟩]
def A71_0 : AC := (.seq (.block 1 (.reg 0 R71_4)) (.reg 0 R71_5))
def L71_0 : AC := (.seq (.seq (.reg 0 R71_3) (.cond (.t 11) .skip (.exit 0))) A71_0)
def R71_6 : List AR := [⟨(some 22), none, 0, (.mov (.t 3))⟩, ⟨(some 2), none, 0, (.mov (.t 22))⟩]
def A71_1 : AC := (.seq (.reg 0 R71_6) .ret)
def A71_2 : AC := (.seq (.seq (.reg 0 R71_2) (.block 0 (.loop L71_0))) A71_1)
def A71_3 : AC := (.seq (.reg 1 R71_1) A71_2)
def A71 : AC := (.seq (.reg 0 R71_0) A71_3)
def O71 : List AO := [(.mov (.t 2))]
def G71 : Fns := ⟨fun f => false, fun f => 0, false⟩
noncomputable def X71 : Cx := ⟨Try.prog, G71, drawD, 23, [0, 2, 3, 4, 11]⟩
theorem c71 : (Try.f71.body).bind (compC X71.P X71.Γ X71.D X71.nt) = some A71 := by kernel_rfl
theorem o71 : compRes X71.P Try.f71.results.toList = some O71 := by kernel_rfl
theorem v71 : X71.vs = [0, 2, 3, 4, 11] := rfl
theorem p71 : X71.P = Try.prog := rfl
def R74_0 : List AR := [⟨(some 4), none, 0, (.mov (.k (.bool false)))⟩]
def R74_1 : List AR := [⟨(some 6), none, 0, (.mov (.t 0))⟩, ⟨(some 7), none, 0, (.len (.t 6))⟩, ⟨(some 8), none, 0, (.mov (.t 1))⟩, ⟨(some 9), none, 0, (.len (.t 8))⟩, ⟨(some 10), none, 0, (.bin .neq (.t 7) (.t 9))⟩]
def R74_2 : List AR := [⟨(some 4), none, 0, (.mov (.k (.bool false)))⟩]
def R74_3 : List AR := [⟨(some 5), none, 0, (.mov (.k (.int .i64 0)))⟩]
def R74_4 : List AR := [⟨(some 11), none, 0, (.mov (.t 5))⟩, ⟨(some 12), none, 0, (.mov (.t 0))⟩, ⟨(some 13), none, 0, (.len (.t 12))⟩, ⟨(some 14), none, 0, (.bin .lss (.t 11) (.t 13))⟩]
def R74_5 : List AR := [⟨(some 17), none, 0, (.mov (.t 0))⟩, ⟨(some 18), none, 0, (.mov (.t 5))⟩, ⟨(some 19), none, 0, (.iaddr 2 (.t 17) (.t 18))⟩, ⟨(some 20), none, 0, (.load 2 true (.t 19))⟩, ⟨(some 21), none, 0, (.mov (.t 1))⟩, ⟨(some 22), none, 0, (.mov (.t 5))⟩, ⟨(some 23), none, 0, (.iaddr 2 (.t 21) (.t 22))⟩, ⟨(some 24), none, 0, (.load 2 true (.t 23))⟩, ⟨(some 25), none, 0, (.call false 0 0 121 [(.t 20), (.t 24)])⟩, ⟨(some 26), none, 0, (.not (.t 25))⟩]
def R74_6 : List AR := [⟨(some 4), none, 0, (.mov (.k (.bool false)))⟩]
def R74_7 : List AR := [⟨(some 15), none, 0, (.mov (.t 5))⟩, ⟨(some 16), none, 0, (.bin .add (.t 15) (.k (.int .i64 1)))⟩, ⟨(some 5), none, 0, (.mov (.t 16))⟩]
def A74_0 : AC := (.seq (.block 1 (.seq (.draw 0 R74_5) (.cond (.t 26) (.seq (.reg 0 R74_6) .ret) .skip))) (.reg 0 R74_7))
def L74_0 : AC := (.seq (.seq (.reg 0 R74_4) (.cond (.t 14) .skip (.exit 0))) A74_0)
def R74_8 : List AR := [⟨(some 4), none, 0, (.mov (.k (.bool true)))⟩]
def A74_1 : AC := (.seq (.reg 0 R74_8) .ret)
def A74_2 : AC := (.seq (.seq (.reg 0 R74_3) (.block 0 (.loop L74_0))) A74_1)
def A74_3 : AC := (.seq (.seq (.reg 0 R74_1) (.cond (.t 10) (.seq (.reg 0 R74_2) .ret) .skip)) A74_2)
def A74 : AC := (.seq (.reg 0 R74_0) A74_3)
def O74 : List AO := [(.mov (.t 4))]
def G74 : Fns := ⟨fun f => false, fun f => 0, false⟩
noncomputable def X74 : Cx := ⟨Try.prog, G74, drawD, 27, [0, 1, 4, 5, 10, 14, 26]⟩
theorem c74 : (Try.f74.body).bind (compC X74.P X74.Γ X74.D X74.nt) = some A74 := by kernel_rfl
theorem o74 : compRes X74.P Try.f74.results.toList = some O74 := by kernel_rfl
theorem v74 : X74.vs = [0, 1, 4, 5, 10, 14, 26] := rfl
theorem p74 : X74.P = Try.prog := rfl
def R68_0 : List AR := [⟨(some 4), none, 0, (.mov (.k (.int .i64 0)))⟩]
def R68_1 : List AR := [⟨(some 5), none, 0, (.mov (.t 1))⟩, ⟨(some 6), none, 0, (.mov (.t 0))⟩, ⟨(some 7), none, 0, (.len (.t 6))⟩, ⟨(some 8), none, 0, (.bin .sub (.t 5) (.t 7))⟩, ⟨(some 1), none, 0, (.mov (.t 8))⟩]
def R68_2 : List AR := [⟨(some 9), none, 0, (.mov (.t 1))⟩, ⟨(some 10), none, 0, (.bin .lss (.t 9) (.k (.int .i64 0)))⟩]
def R68_3 : List AR := [⟨(some 4), none, 0, (.mov (.k (.int .i64 (-1))))⟩]
def R68_4 : List AR := [⟨(some 11), none, 0, (.mov (.t 1))⟩, ⟨(some 4), none, 0, (.mov (.t 11))⟩]
def A68_0 : AC := (.seq (.reg 0 R68_4) .ret)
def A68_1 : AC := (.seq (.seq (.reg 0 R68_2) (.cond (.t 10) (.seq (.reg 0 R68_3) .ret) .skip)) A68_0)
def A68_2 : AC := (.seq (.reg 0 R68_1) A68_1)
def A68 : AC := (.seq (.reg 0 R68_0) A68_2)
def O68 : List AO := [(.mov (.t 4))]
def G68 : Fns := ⟨fun f => false, fun f => 0, false⟩
noncomputable def X68 : Cx := ⟨Try.prog, G68, drawD, 12, [0, 1, 4, 10]⟩
theorem c68 : (Try.f68.body).bind (compC X68.P X68.Γ X68.D X68.nt) = some A68 := by kernel_rfl
theorem o68 : compRes X68.P Try.f68.results.toList = some O68 := by kernel_rfl
theorem v68 : X68.vs = [0, 1, 4, 10] := rfl
theorem p68 : X68.P = Try.prog := rfl
def R36_0 : List AR := [⟨(some 1), none, 0, (.box 0 12 (.t 0))⟩, ⟨(some 2), none, 0, (.alloc 1 12 [(.int .i64 0), (.int .i64 0), (.int .i64 0), (.int .i64 0), (.int .i64 0), .nl, (.int .i64 0), .nl, .nl, .nl, .nl, .nl])⟩]
def R36_1 : List AR := [⟨(some 3), none, 0, (.alloc 0 12 [(.int .i64 0), (.int .i64 0), (.int .i64 0), (.int .i64 0), (.int .i64 0), .nl, (.int .i64 0), .nl, .nl, .nl, .nl, .nl])⟩]
def R36_2 : List AR := [⟨(some 4), none, 0, (.faddr 0 (.t 1))⟩, ⟨(some 5), none, 0, (.load 1 false (.t 4))⟩, ⟨(some 6), none, 0, (.faddr 0 (.t 3))⟩, ⟨none, none, 0, (.store 1 (.t 6) (.t 5))⟩]
def R36_3 : List AR := [⟨(some 7), none, 0, (.faddr 1 (.t 1))⟩, ⟨(some 8), none, 0, (.load 1 false (.t 7))⟩, ⟨(some 9), none, 0, (.faddr 1 (.t 3))⟩, ⟨none, none, 0, (.store 1 (.t 9) (.t 8))⟩]
def R36_4 : List AR := [⟨(some 10), none, 0, (.faddr 2 (.t 1))⟩, ⟨(some 11), none, 0, (.load 1 false (.t 10))⟩, ⟨(some 12), none, 0, (.faddr 2 (.t 3))⟩, ⟨none, none, 0, (.store 1 (.t 12) (.t 11))⟩]
def R36_5 : List AR := [⟨(some 13), none, 0, (.faddr 3 (.t 1))⟩, ⟨(some 14), none, 0, (.load 1 false (.t 13))⟩, ⟨(some 15), none, 0, (.faddr 3 (.t 3))⟩, ⟨none, none, 0, (.store 1 (.t 15) (.t 14))⟩]
def R36_6 : List AR := [⟨(some 16), none, 0, (.faddr 4 (.t 1))⟩, ⟨(some 17), none, 0, (.load 1 false (.t 16))⟩, ⟨(some 18), none, 0, (.faddr 4 (.t 3))⟩, ⟨none, none, 0, (.store 1 (.t 18) (.t 17))⟩]
def R36_7 : List AR := [⟨(some 19), none, 0, (.faddr 5 (.t 1))⟩, ⟨(some 20), none, 0, (.load 2 true (.t 19))⟩, ⟨(some 21), none, 0, (.call false 0 0 70 [(.t 20)])⟩, ⟨(some 22), none, 0, (.faddr 5 (.t 3))⟩, ⟨none, none, 0, (.store 2 (.t 22) (.t 21))⟩]
def R36_8 : List AR := [⟨(some 23), none, 0, (.faddr 7 (.t 1))⟩, ⟨(some 24), none, 0, (.load 1 false (.t 23))⟩, ⟨(some 25), none, 0, (.call false 0 0 11 [(.t 24)])⟩, ⟨(some 26), none, 0, (.faddr 7 (.t 3))⟩, ⟨none, none, 0, (.store 1 (.t 26) (.t 25))⟩]
def R36_9 : List AR := [⟨(some 27), none, 0, (.faddr 8 (.t 1))⟩, ⟨(some 28), none, 0, (.load 1 false (.t 27))⟩, ⟨(some 29), none, 0, (.call false 0 0 11 [(.t 28)])⟩, ⟨(some 30), none, 0, (.faddr 8 (.t 3))⟩, ⟨none, none, 0, (.store 1 (.t 30) (.t 29))⟩]
def R36_10 : List AR := [⟨(some 31), none, 0, (.faddr 9 (.t 1))⟩, ⟨(some 32), none, 0, (.load 2 true (.t 31))⟩, ⟨(some 33), none, 0, (.call false 0 0 57 [(.t 32)])⟩, ⟨(some 34), none, 0, (.faddr 9 (.t 3))⟩, ⟨none, none, 0, (.store 2 (.t 34) (.t 33))⟩]
def R36_11 : List AR := [⟨(some 35), none, 0, (.faddr 11 (.t 1))⟩, ⟨(some 36), none, 0, (.load 1 false (.t 35))⟩, ⟨(some 37), none, 0, (.call false 0 0 71 [(.t 36)])⟩, ⟨(some 38), none, 0, (.faddr 11 (.t 3))⟩, ⟨none, none, 0, (.store 1 (.t 38) (.t 37))⟩]
def R36_12 : List AR := [⟨(some 39), none, 0, (.load 12 true (.t 3))⟩, ⟨none, none, 0, (.store 12 (.t 2) (.t 39))⟩]
def A36_0 : AC := (.seq (.reg 0 R36_12) .ret)
def A36_1 : AC := (.seq (.reg 0 R36_11) A36_0)
def A36_2 : AC := (.seq (.reg 0 R36_10) A36_1)
def A36_3 : AC := (.seq (.reg 0 R36_9) A36_2)
def A36_4 : AC := (.seq (.reg 0 R36_8) A36_3)
def A36_5 : AC := (.seq (.reg 0 R36_7) A36_4)
def A36_6 : AC := (.seq (.reg 0 R36_6) A36_5)
def A36_7 : AC := (.seq (.reg 0 R36_5) A36_6)
def A36_8 : AC := (.seq (.reg 0 R36_4) A36_7)
def A36_9 : AC := (.seq (.reg 0 R36_3) A36_8)
def A36_10 : AC := (.seq (.reg 0 R36_2) A36_9)
def A36_11 : AC := (.seq (.reg 1 R36_1) A36_10)
def A36 : AC := (.seq (.reg 2 R36_0) A36_11)
def O36 : List AO := [(.load 12 true (.t 2))]
def G36 : Fns := ⟨fun f => false, fun f => 0, false⟩
noncomputable def X36 : Cx := ⟨Try.prog, G36, drawD, 40, [0, 1, 2, 3]⟩
theorem c36 : (Try.f36.body).bind (compC X36.P X36.Γ X36.D X36.nt) = some A36 := by kernel_rfl
theorem o36 : compRes X36.P Try.f36.results.toList = some O36 := by kernel_rfl
theorem v36 : X36.vs = [0, 1, 2, 3] := rfl
theorem p36 : X36.P = Try.prog := rfl
def R38_0 : List AR := [⟨(some 2), none, 0, (.box 0 12 (.t 0))⟩, ⟨(some 3), none, 0, (.box 1 12 (.t 1))⟩, ⟨(some 4), none, 0, (.mov (.k (.bool false)))⟩]
def R38_1 : List AR := [⟨(some 5), none, 0, (.faddr 0 (.t 2))⟩, ⟨(some 6), none, 0, (.load 1 false (.t 5))⟩, ⟨(some 7), none, 0, (.faddr 0 (.t 3))⟩, ⟨(some 8), none, 0, (.load 1 false (.t 7))⟩, ⟨(some 9), none, 0, (.bin .neq (.t 6) (.t 8))⟩]
def R38_2 : List AR := [⟨(some 4), none, 0, (.mov (.k (.bool false)))⟩]
def R38_3 : List AR := [⟨(some 10), none, 0, (.faddr 1 (.t 2))⟩, ⟨(some 11), none, 0, (.load 1 false (.t 10))⟩, ⟨(some 12), none, 0, (.faddr 1 (.t 3))⟩, ⟨(some 13), none, 0, (.load 1 false (.t 12))⟩, ⟨(some 14), none, 0, (.bin .neq (.t 11) (.t 13))⟩]
def R38_4 : List AR := [⟨(some 4), none, 0, (.mov (.k (.bool false)))⟩]
def R38_5 : List AR := [⟨(some 15), none, 0, (.faddr 2 (.t 2))⟩, ⟨(some 16), none, 0, (.load 1 false (.t 15))⟩, ⟨(some 17), none, 0, (.faddr 2 (.t 3))⟩, ⟨(some 18), none, 0, (.load 1 false (.t 17))⟩, ⟨(some 19), none, 0, (.bin .neq (.t 16) (.t 18))⟩]
def R38_6 : List AR := [⟨(some 4), none, 0, (.mov (.k (.bool false)))⟩]
def R38_7 : List AR := [⟨(some 20), none, 0, (.faddr 3 (.t 2))⟩, ⟨(some 21), none, 0, (.load 1 false (.t 20))⟩, ⟨(some 22), none, 0, (.faddr 3 (.t 3))⟩, ⟨(some 23), none, 0, (.load 1 false (.t 22))⟩, ⟨(some 24), none, 0, (.bin .neq (.t 21) (.t 23))⟩]
def R38_8 : List AR := [⟨(some 4), none, 0, (.mov (.k (.bool false)))⟩]
def R38_9 : List AR := [⟨(some 25), none, 0, (.faddr 4 (.t 2))⟩, ⟨(some 26), none, 0, (.load 1 false (.t 25))⟩, ⟨(some 27), none, 0, (.faddr 4 (.t 3))⟩, ⟨(some 28), none, 0, (.load 1 false (.t 27))⟩, ⟨(some 29), none, 0, (.bin .neq (.t 26) (.t 28))⟩]
def R38_10 : List AR := [⟨(some 4), none, 0, (.mov (.k (.bool false)))⟩]
def R38_11 : List AR := [⟨(some 30), none, 0, (.faddr 5 (.t 2))⟩, ⟨(some 31), none, 0, (.load 2 true (.t 30))⟩, ⟨(some 32), none, 0, (.faddr 5 (.t 3))⟩, ⟨(some 33), none, 0, (.load 2 true (.t 32))⟩, ⟨(some 34), none, 0, (.call false 0 0 73 [(.t 31), (.t 33)])⟩, ⟨(some 35), none, 0, (.not (.t 34))⟩]
def R38_12 : List AR := [⟨(some 4), none, 0, (.mov (.k (.bool false)))⟩]
def R38_13 : List AR := [⟨(some 36), none, 0, (.faddr 7 (.t 2))⟩, ⟨(some 37), none, 0, (.load 1 false (.t 36))⟩, ⟨(some 38), none, 0, (.faddr 7 (.t 3))⟩, ⟨(some 39), none, 0, (.load 1 false (.t 38))⟩, ⟨(some 40), none, 0, (.call false 0 0 13 [(.t 37), (.t 39)])⟩, ⟨(some 41), none, 0, (.not (.t 40))⟩]
def R38_14 : List AR := [⟨(some 4), none, 0, (.mov (.k (.bool false)))⟩]
def R38_15 : List AR := [⟨(some 42), none, 0, (.faddr 8 (.t 2))⟩, ⟨(some 43), none, 0, (.load 1 false (.t 42))⟩, ⟨(some 44), none, 0, (.faddr 8 (.t 3))⟩, ⟨(some 45), none, 0, (.load 1 false (.t 44))⟩, ⟨(some 46), none, 0, (.call false 0 0 13 [(.t 43), (.t 45)])⟩, ⟨(some 47), none, 0, (.not (.t 46))⟩]
def R38_16 : List AR := [⟨(some 4), none, 0, (.mov (.k (.bool false)))⟩]
def R38_17 : List AR := [⟨(some 48), none, 0, (.faddr 9 (.t 2))⟩, ⟨(some 49), none, 0, (.load 2 true (.t 48))⟩, ⟨(some 50), none, 0, (.faddr 9 (.t 3))⟩, ⟨(some 51), none, 0, (.load 2 true (.t 50))⟩, ⟨(some 52), none, 0, (.call false 0 0 60 [(.t 49), (.t 51)])⟩, ⟨(some 53), none, 0, (.not (.t 52))⟩]
def R38_18 : List AR := [⟨(some 4), none, 0, (.mov (.k (.bool false)))⟩]
def R38_19 : List AR := [⟨(some 54), none, 0, (.faddr 11 (.t 2))⟩, ⟨(some 55), none, 0, (.load 1 false (.t 54))⟩, ⟨(some 56), none, 0, (.faddr 11 (.t 3))⟩, ⟨(some 57), none, 0, (.load 1 false (.t 56))⟩, ⟨(some 58), none, 0, (.call false 0 0 74 [(.t 55), (.t 57)])⟩, ⟨(some 59), none, 0, (.not (.t 58))⟩]
def R38_20 : List AR := [⟨(some 4), none, 0, (.mov (.k (.bool false)))⟩]
def R38_21 : List AR := [⟨(some 4), none, 0, (.mov (.k (.bool true)))⟩]
def A38_0 : AC := (.seq (.reg 0 R38_21) .ret)
def A38_1 : AC := (.seq (.seq (.reg 0 R38_19) (.cond (.t 59) (.seq (.reg 0 R38_20) .ret) .skip)) A38_0)
def A38_2 : AC := (.seq (.seq (.reg 0 R38_17) (.cond (.t 53) (.seq (.reg 0 R38_18) .ret) .skip)) A38_1)
def A38_3 : AC := (.seq (.seq (.reg 0 R38_15) (.cond (.t 47) (.seq (.reg 0 R38_16) .ret) .skip)) A38_2)
def A38_4 : AC := (.seq (.seq (.reg 0 R38_13) (.cond (.t 41) (.seq (.reg 0 R38_14) .ret) .skip)) A38_3)
def A38_5 : AC := (.seq (.seq (.reg 0 R38_11) (.cond (.t 35) (.seq (.reg 0 R38_12) .ret) .skip)) A38_4)
def A38_6 : AC := (.seq (.seq (.reg 0 R38_9) (.cond (.t 29) (.seq (.reg 0 R38_10) .ret) .skip)) A38_5)
def A38_7 : AC := (.seq (.seq (.reg 0 R38_7) (.cond (.t 24) (.seq (.reg 0 R38_8) .ret) .skip)) A38_6)
def A38_8 : AC := (.seq (.seq (.reg 0 R38_5) (.cond (.t 19) (.seq (.reg 0 R38_6) .ret) .skip)) A38_7)
def A38_9 : AC := (.seq (.seq (.reg 0 R38_3) (.cond (.t 14) (.seq (.reg 0 R38_4) .ret) .skip)) A38_8)
def A38_10 : AC := (.seq (.seq (.reg 0 R38_1) (.cond (.t 9) (.seq (.reg 0 R38_2) .ret) .skip)) A38_9)
def A38 : AC := (.seq (.reg 2 R38_0) A38_10)
def O38 : List AO := [(.mov (.t 4))]
def G38 : Fns := ⟨fun f => false, fun f => 0, false⟩
noncomputable def X38 : Cx := ⟨Try.prog, G38, drawD, 60, [0, 1, 2, 3, 4, 9, 14, 19, 24, 29, 35, 41, 47, 53, 59]⟩
theorem c38 : (Try.f38.body).bind (compC X38.P X38.Γ X38.D X38.nt) = some A38 := by kernel_rfl
theorem o38 : compRes X38.P Try.f38.results.toList = some O38 := by kernel_rfl
theorem v38 : X38.vs = [0, 1, 2, 3, 4, 9, 14, 19, 24, 29, 35, 41, 47, 53, 59] := rfl
theorem p38 : X38.P = Try.prog := rfl
def R34_0 : List AR := [⟨(some 2), none, 0, (.box 0 12 (.t 0))⟩, ⟨(some 4), none, 0, (.mov (.k (.int .i64 0)))⟩]
def R34_1 : List AR := [⟨(some 5), none, 0, (.faddr 5 (.t 2))⟩, ⟨(some 6), none, 0, (.load 2 true (.t 5))⟩, ⟨(some 7), none, 0, (.mov (.t 1))⟩, ⟨(some 8), none, 0, (.call false 0 0 66 [(.t 6), (.t 7)])⟩, ⟨(some 1), none, 0, (.mov (.t 8))⟩]
def R34_2 : List AR := [⟨(some 9), none, 0, (.mov (.t 1))⟩, ⟨(some 10), none, 0, (.bin .lss (.t 9) (.k (.int .i64 0)))⟩]
def R34_3 : List AR := [⟨(some 4), none, 0, (.mov (.k (.int .i64 (-1))))⟩]
def R34_4 : List AR := [⟨(some 11), none, 0, (.faddr 7 (.t 2))⟩, ⟨(some 12), none, 0, (.load 1 false (.t 11))⟩, ⟨(some 13), none, 0, (.mov (.t 1))⟩, ⟨(some 14), none, 0, (.call false 0 0 67 [(.t 12), (.t 13)])⟩, ⟨(some 1), none, 0, (.mov (.t 14))⟩]
def R34_5 : List AR := [⟨(some 15), none, 0, (.mov (.t 1))⟩, ⟨(some 16), none, 0, (.bin .lss (.t 15) (.k (.int .i64 0)))⟩]
def R34_6 : List AR := [⟨(some 4), none, 0, (.mov (.k (.int .i64 (-1))))⟩]
def R34_7 : List AR := [⟨(some 17), none, 0, (.faddr 8 (.t 2))⟩, ⟨(some 18), none, 0, (.load 1 false (.t 17))⟩, ⟨(some 19), none, 0, (.mov (.t 1))⟩, ⟨(some 20), none, 0, (.call false 0 0 67 [(.t 18), (.t 19)])⟩, ⟨(some 1), none, 0, (.mov (.t 20))⟩]
def R34_8 : List AR := [⟨(some 21), none, 0, (.mov (.t 1))⟩, ⟨(some 22), none, 0, (.bin .lss (.t 21) (.k (.int .i64 0)))⟩]
def R34_9 : List AR := [⟨(some 4), none, 0, (.mov (.k (.int .i64 (-1))))⟩]
def R34_10 : List AR := [⟨(some 23), none, 0, (.faddr 9 (.t 2))⟩, ⟨(some 24), none, 0, (.load 2 true (.t 23))⟩, ⟨(some 25), none, 0, (.mov (.t 1))⟩, ⟨(some 26), none, 0, (.call false 0 0 53 [(.t 24), (.t 25)])⟩, ⟨(some 1), none, 0, (.mov (.t 26))⟩]
def R34_11 : List AR := [⟨(some 27), none, 0, (.mov (.t 1))⟩, ⟨(some 28), none, 0, (.bin .lss (.t 27) (.k (.int .i64 0)))⟩]
def R34_12 : List AR := [⟨(some 4), none, 0, (.mov (.k (.int .i64 (-1))))⟩]
def R34_13 : List AR := [⟨(some 29), none, 0, (.faddr 11 (.t 2))⟩, ⟨(some 30), none, 0, (.load 1 false (.t 29))⟩, ⟨(some 31), none, 0, (.mov (.t 1))⟩, ⟨(some 32), none, 0, (.call false 0 0 68 [(.t 30), (.t 31)])⟩, ⟨(some 1), none, 0, (.mov (.t 32))⟩]
def R34_14 : List AR := [⟨(some 33), none, 0, (.mov (.t 1))⟩, ⟨(some 34), none, 0, (.bin .lss (.t 33) (.k (.int .i64 0)))⟩]
def R34_15 : List AR := [⟨(some 4), none, 0, (.mov (.k (.int .i64 (-1))))⟩]
def R34_16 : List AR := [⟨(some 35), none, 0, (.mov (.t 1))⟩, ⟨(some 4), none, 0, (.mov (.t 35))⟩]
def A34_0 : AC := (.seq (.reg 0 R34_16) .ret)
def A34_1 : AC := (.seq (.seq (.reg 0 R34_14) (.cond (.t 34) (.seq (.reg 0 R34_15) .ret) .skip)) A34_0)
def A34_2 : AC := (.seq (.reg 0 R34_13) A34_1)
def A34_3 : AC := (.seq (.seq (.reg 0 R34_11) (.cond (.t 28) (.seq (.reg 0 R34_12) .ret) .skip)) A34_2)
def A34_4 : AC := (.seq (.reg 0 R34_10) A34_3)
def A34_5 : AC := (.seq (.seq (.reg 0 R34_8) (.cond (.t 22) (.seq (.reg 0 R34_9) .ret) .skip)) A34_4)
def A34_6 : AC := (.seq (.reg 0 R34_7) A34_5)
def A34_7 : AC := (.seq (.seq (.reg 0 R34_5) (.cond (.t 16) (.seq (.reg 0 R34_6) .ret) .skip)) A34_6)
def A34_8 : AC := (.seq (.reg 0 R34_4) A34_7)
def A34_9 : AC := (.seq (.seq (.reg 0 R34_2) (.cond (.t 10) (.seq (.reg 0 R34_3) .ret) .skip)) A34_8)
def A34_10 : AC := (.seq (.reg 0 R34_1) A34_9)
def A34 : AC := (.seq (.reg 1 R34_0) A34_10)
def O34 : List AO := [(.mov (.t 4))]
def G34 : Fns := ⟨fun f => false, fun f => 0, false⟩
noncomputable def X34 : Cx := ⟨Try.prog, G34, drawD, 36, [0, 1, 2, 4, 10, 16, 22, 28, 34]⟩
theorem c34 : (Try.f34.body).bind (compC X34.P X34.Γ X34.D X34.nt) = some A34 := by kernel_rfl
theorem o34 : compRes X34.P Try.f34.results.toList = some O34 := by kernel_rfl
theorem v34 : X34.vs = [0, 1, 2, 4, 10, 16, 22, 28, 34] := rfl
theorem p34 : X34.P = Try.prog := rfl
theorem toTree_ok (a : Tree) (h : a.sz ≤ 1048576) : FS Try.prog 70 [] [.agg a.c] (.agg a.c) [] := by
  have hl : a.leaves.length ≤ 1048576 := h
  refine FS.of (X := X70) (ac := A70) (os := O70) Try.func70 (by rfl) (by rfl) (by kernel_rfl) o70 (Nat.le_of_ble_eq_true rfl) ?_
  show AWP X70 A70 (Ends X70.vs O70 0 _ _) [.agg a.c, .tup [], .tup [], .tup []] []
  obtain ⟨Q, hQ⟩ : ∃ Q, Q = Ends X70.vs O70 0 (.agg a.c) [] := ⟨_, rfl⟩
  rw [← hQ]
  refine awp_sr ?_
  simp only [go_sem, R70_0, v70, p70, Tree.c]
  refine awp_sr ?_
  simp only [go_sem, R70_1, v70, p70]
  refine awp_sr ?_
  simp only [go_sem, R70_2, v70, p70]
  refine run_see (toIntS_ok a.leaves (by omega)) false (Views.refl rfl) rfl (fun j hj => by omega) (fun h => by cases h) ?_
  simp only [go_sem, v70, p70]
  refine awp_sr ?_
  simp only [go_sem, R70_3, v70, p70]
  refine awp_sr ?_
  simp only [go_sem, R70_4, v70, p70]
  refine awp_ret ?_
  try simp only [go_sem]
  rw [hQ]
  exact Ends.plain (.inl rfl) rfl (.refl _) rfl
theorem eqTree_ok (a b : Tree) (h : a.sz ≤ 1048576) : FS Try.prog 73 [] [.agg a.c, .agg b.c] (.bool (decide (a = b))) [] := by
  have hl : a.leaves.length ≤ 1048576 := h
  refine FS.of (X := X73) (ac := A73) (os := O73) Try.func73 (by rfl) (by rfl) (by kernel_rfl) o73 (Nat.le_of_ble_eq_true rfl) ?_
  show AWP X73 A73 (Ends X73.vs O73 0 _ _) [.agg a.c, .agg b.c, .tup [], .tup [], .tup [], .tup [], .tup []] []
  obtain ⟨Q, hQ⟩ : ∃ Q, Q = Ends X73.vs O73 0 (.bool (decide (a = b))) [] := ⟨_, rfl⟩
  rw [← hQ]
  have fin : ∀ L σ q, look X73.vs L 4 = .bool q → q = decide (a = b) → Q .ret L σ := by
    intro L σ q h1 h2
    rw [hQ]
    refine Ends.is (.inl rfl) (rs := [.bool q]) (by simp only [go_sem, O73, h1]) ?_ rfl
    simp [packV, h2]
  refine awp_sr ?_
  simp only [go_sem, R73_0, v73, p73, Tree.c]
  refine awp_sr2 ?_
  simp only [go_sem, R73_1, v73, p73]
  refine run_see (eqIntS_ok a.leaves b.leaves (by omega)) false (Views.refl rfl) rfl (fun j hj => by omega) (fun h => by cases h) ?_
  simp only [go_sem, v73, p73]
  refine awp_if' rfl ?_ ?_
  · intro h
    refine awp_sr ?_
    simp only [go_sem, R73_2, v73, p73]
    refine awp_ret ?_
    try simp only [go_sem]
    exact fin _ _ _ rfl (decide_eq_false fun e => h (by rw [e])).symm
  intro h0
  refine awp_skip ?_
  simp only [go_sem]
  refine awp_sr2 ?_
  simp only [go_sem, R73_3, v73, p73]
  refine awp_if rfl ?_ ?_
  · intro h
    refine awp_sr ?_
    simp only [go_sem, R73_4, v73, p73]
    refine awp_ret ?_
    try simp only [go_sem]
    exact fin _ _ _ rfl (decide_eq_false fun e => h (by rw [e])).symm
  intro h1
  refine awp_skip ?_
  simp only [go_sem]
  refine awp_sr ?_
  simp only [go_sem, R73_5, v73, p73]
  refine awp_ret ?_
  try simp only [go_sem]
  refine fin _ _ _ rfl (decide_eq_true ?_).symm
  cases a; cases b
  simp at h0 h1
  simp [h0, h1]
theorem szTree_ok (a : Tree) (n : Nat) (hn : n ≤ 1048576) (ha : a.ok) : FS Try.prog 66 [] [.agg a.c, .int .i64 n] (.int .i64 (left n a.sz)) [] := by
  refine FS.of (X := X66) (ac := A66) (os := O66) Try.func66 (by rfl) (by rfl) (by kernel_rfl) o66 (Nat.le_of_ble_eq_true rfl) ?_
  show AWP X66 A66 (Ends X66.vs O66 0 _ _) [.agg a.c, .int .i64 n, .tup [], .tup [], .tup []] []
  obtain ⟨Q, hQ⟩ : ∃ Q, Q = Ends X66.vs O66 0 (.int .i64 (left n a.sz)) [] := ⟨_, rfl⟩
  rw [← hQ]
  have p0 := ha
  have tot : a.sz = a.leaves.length := rfl
  refine awp_sr ?_
  simp only [go_sem, R66_0, v66, p66, Tree.c]
  refine awp_sr ?_
  simp only [go_sem, R66_1, v66, p66]
  refine run_see (szIntS_ok a.leaves n (by omega) p0) false (Views.refl rfl) rfl (fun j hj => by omega) (fun h => by cases h) ?_
  simp only [go_sem, v66, p66]
  refine awp_sr2 ?_
  simp only [go_sem, R66_2, v66, p66]
  refine awp_if rfl ?_ ?_
  · intro h
    refine awp_sr ?_
    simp only [go_sem, R66_3, v66, p66]
    refine awp_ret ?_
    try simp only [go_sem]
    rw [hQ]
    refine Ends.is (.inl rfl) rfl (congrArg (V.int .i64) (left_no ?_).symm) rfl
    have : ¬ a.leaves.length ≤ n := fun e => by rw [left_is e] at h; omega
    omega
  intro h0
  obtain ⟨e0, g0⟩ := left_pos h0
  rw [e0]
  refine awp_skip ?_
  simp only [go_sem]
  refine awp_sr ?_
  simp only [go_sem, R66_4, v66, p66]
  refine awp_ret ?_
  try simp only [go_sem]
  rw [hQ]
  refine Ends.is (.inl rfl) rfl (congrArg (V.int .i64) ?_) rfl
  rw [left_is (by omega)]
  omega
theorem toMark_ok (a : Mark) : FS Try.prog 115 [] [.agg a.c] (.agg a.c) [] := by
  refine FS.of (X := X115) (ac := A115) (os := O115) Try.func115 (by rfl) (by rfl) (by kernel_rfl) o115 (Nat.le_of_ble_eq_true rfl) ?_
  show AWP X115 A115 (Ends X115.vs O115 0 _ _) [.agg a.c, .tup [], .tup [], .tup []] []
  obtain ⟨Q, hQ⟩ : ∃ Q, Q = Ends X115.vs O115 0 (.agg a.c) [] := ⟨_, rfl⟩
  rw [← hQ]
  refine awp_sr ?_
  simp only [go_sem, R115_0, v115, p115, Mark.c]
  refine awp_sr ?_
  simp only [go_sem, R115_1, v115, p115]
  refine awp_sr ?_
  simp only [go_sem, R115_2, v115, p115]
  refine awp_sr ?_
  simp only [go_sem, R115_3, v115, p115]
  refine awp_sr ?_
  simp only [go_sem, R115_4, v115, p115]
  refine awp_ret ?_
  try simp only [go_sem]
  rw [hQ]
  exact Ends.plain (.inl rfl) rfl (.refl _) rfl
theorem eqMark_ok (a b : Mark) : FS Try.prog 121 [] [.agg a.c, .agg b.c] (.bool (decide (a = b))) [] := by
  refine FS.of (X := X121) (ac := A121) (os := O121) Try.func121 (by rfl) (by rfl) (by kernel_rfl) o121 (Nat.le_of_ble_eq_true rfl) ?_
  show AWP X121 A121 (Ends X121.vs O121 0 _ _) [.agg a.c, .agg b.c, .tup [], .tup [], .tup [], .tup [], .tup []] []
  obtain ⟨Q, hQ⟩ : ∃ Q, Q = Ends X121.vs O121 0 (.bool (decide (a = b))) [] := ⟨_, rfl⟩
  rw [← hQ]
  have fin : ∀ L σ q, look X121.vs L 4 = .bool q → q = decide (a = b) → Q .ret L σ := by
    intro L σ q h1 h2
    rw [hQ]
    refine Ends.is (.inl rfl) (rs := [.bool q]) (by simp only [go_sem, O121, h1]) ?_ rfl
    simp [packV, h2]
  refine awp_sr ?_
  simp only [go_sem, R121_0, v121, p121, Mark.c]
  refine awp_sr2 ?_
  simp only [go_sem, R121_1, v121, p121]
  refine awp_if rfl ?_ ?_
  · intro h
    refine awp_sr ?_
    simp only [go_sem, R121_2, v121, p121]
    refine awp_ret ?_
    try simp only [go_sem]
    exact fin _ _ _ rfl (decide_eq_false fun e => h (by rw [e])).symm
  intro h0
  refine awp_skip ?_
  simp only [go_sem]
  refine awp_sr2 ?_
  simp only [go_sem, R121_3, v121, p121]
  refine awp_if rfl ?_ ?_
  · intro h
    refine awp_sr ?_
    simp only [go_sem, R121_4, v121, p121]
    refine awp_ret ?_
    try simp only [go_sem]
    exact fin _ _ _ rfl (decide_eq_false fun e => h (by rw [e])).symm
  intro h1
  refine awp_skip ?_
  simp only [go_sem]
  refine awp_sr ?_
  simp only [go_sem, R121_5, v121, p121]
  refine awp_ret ?_
  try simp only [go_sem]
  refine fin _ _ _ rfl (decide_eq_true ?_).symm
  cases a; cases b
  simp at h0 h1
  simp [h0, h1]
theorem toMarkS_ok (xs : List Mark) (h : xs.length ≤ 1048576) : FS Try.prog 71 [] [.fz 2 (rw_ Mark.c xs)] (.fz 2 (rw_ Mark.c xs)) [] := by
  have hx : xs.length ≤ 1048576 := by exact h
  refine FS.of (X := X71) (ac := A71) (os := O71) Try.func71 (by rfl) (by rfl) (by kernel_rfl) o71 (Nat.le_of_ble_eq_true rfl) ?_
  show AWP X71 A71 (Ends X71.vs O71 0 _ _) [.fz 2 (rw_ Mark.c xs), .tup [], .tup [], .tup [], .tup []] []
  obtain ⟨Q, hQ⟩ : ∃ Q, Q = Ends X71.vs O71 0 (.fz 2 (rw_ Mark.c xs)) [] := ⟨_, rfl⟩
  rw [← hQ]
  refine awp_sr ?_
  simp only [go_sem, R71_0, v71, p71]
  refine awp_sr ?_
  simp only [go_sem, R71_1, v71, p71]
  refine ⟨by omega, ?_⟩
  refine awp_sr2 ?_
  simp only [go_sem, R71_2, v71, p71]
  refine awp_for (fun m L σ => ∃ i x11 ys, m = xs.length - i ∧ i ≤ xs.length ∧ ys.length = xs.length ∧ ys.take i = xs.take i ∧ L = [.fz 2 (rw_ Mark.c xs), .nl, .sl 0 2 0 xs.length, .int .i64 (i : Nat), x11] ∧ σ = [.live ⟨2, rw_ Mark.c ys⟩]) xs.length
    ⟨0, _, List.replicate xs.length Mark.zero, rfl, Nat.zero_le _, by simp, by simp, rfl, congrArg (fun r => [Slot.live ⟨2, r⟩]) (rw_rep Mark.c xs.length Mark.zero)⟩ ?_
  rintro m L σ ⟨i, x11, ys, rfl, hi, hl, ht, rfl, rfl⟩
  refine awp_sr2 ?_
  simp only [go_sem, R71_3, v71, p71]
  refine awp_if rfl ?_ ?_
  · intro h1
    have h1 : i < xs.length := by omega
    have h2 : i < ys.length := by omega
    refine awp_skip ?_
    simp only [go_sem]
    refine awp_seq (awp_block ?_)
    refine awp_reg ?_
    simp only [go_sem, R71_4, v71, p71, rw_at _ h1, Mark.c]
    refine run_see (toMark_ok xs[i]) false (Views.refl rfl) rfl (fun j hj => by omega) (fun h => by cases h) ?_
    simp only [go_sem, v71, p71, rw_at _ h2, Mark.c]
    refine ⟨by omega, ?_⟩
    refine awp_reg ?_
    simp only [go_sem, R71_5, v71, p71, wrap_succ (i := i) (by omega)]
    refine ⟨xs.length - (i + 1), by omega, i + 1, _, ys.set i xs[i], rfl, by omega, by simpa using hl, ?_, rfl, congrArg (fun r => [Slot.live ⟨2, r⟩]) (rw_set Mark.c ys i xs[i])⟩
    rw [List.take_succ_eq_append_getElem h1, List.take_succ_eq_append_getElem (by simpa using h2), List.take_set_of_le (Nat.le_refl _), ht]
    simp
  · intro h1
    refine awp_exit ?_
    simp only [go_sem]
    refine awp_sr ?_
    simp only [go_sem, R71_6, v71, p71]
    refine awp_ret ?_
    try simp only [go_sem]
    have : i = xs.length := by omega
    subst this
    rw [List.take_length, ← hl, List.take_length] at ht
    subst ht
    rw [hQ]
    exact Ends.frzSl (.inl rfl) rfl rfl (by simp [rw_]) (rw_closed Mark.c_closed _)
theorem szMarkS_ok (xs : List Mark) (n : Nat) (hn : n ≤ 1048576) (ha : xs.length ≤ big) : FS Try.prog 68 [] [.fz 2 (rw_ Mark.c xs), .int .i64 n] (.int .i64 (left n xs.length)) [] := by
  refine FS.of (X := X68) (ac := A68) (os := O68) Try.func68 (by rfl) (by rfl) (by kernel_rfl) o68 (Nat.le_of_ble_eq_true rfl) ?_
  show AWP X68 A68 (Ends X68.vs O68 0 _ _) [.fz 2 (rw_ Mark.c xs), .int .i64 n, .tup [], .tup []] []
  obtain ⟨Q, hQ⟩ : ∃ Q, Q = Ends X68.vs O68 0 (.int .i64 (left n xs.length)) [] := ⟨_, rfl⟩
  rw [← hQ]
  have ha : xs.length ≤ 1000000000000000 := ha
  refine awp_sr ?_
  simp only [go_sem, R68_0, v68, p68]
  refine awp_sr ?_
  simp only [go_sem, R68_1, v68, p68, wrap_i64 (n := (n : Int) - xs.length) (by omega) (by omega)]
  refine awp_sr2 ?_
  simp only [go_sem, R68_2, v68, p68]
  refine awp_if rfl ?_ ?_
  · intro h
    refine awp_sr ?_
    simp only [go_sem, R68_3, v68, p68]
    refine awp_ret ?_
    try simp only [go_sem]
    rw [hQ]
    exact Ends.is (.inl rfl) rfl (congrArg (V.int .i64) (left_no (by omega)).symm) rfl
  intro h
  refine awp_skip ?_
  simp only [go_sem]
  refine awp_sr ?_
  simp only [go_sem, R68_4, v68, p68]
  refine awp_ret ?_
  try simp only [go_sem]
  rw [hQ]
  exact Ends.is (.inl rfl) rfl (congrArg (V.int .i64) (by rw [left_is (by omega)]; omega)) rfl
theorem eqMarkS_ok (xs ys : List Mark) (hx : xs.length ≤ 1000000000) : FS Try.prog 74 [] [.fz 2 (rw_ Mark.c xs), .fz 2 (rw_ Mark.c ys)] (.bool (decide (xs = ys))) [] := by
  refine FS.of (X := X74) (ac := A74) (os := O74) Try.func74 (by rfl) (by rfl) (by kernel_rfl) o74 (Nat.le_of_ble_eq_true rfl) ?_
  show AWP X74 A74 (Ends X74.vs O74 0 _ _) [.fz 2 (rw_ Mark.c xs), .fz 2 (rw_ Mark.c ys), .tup [], .tup [], .tup [], .tup [], .tup []] []
  obtain ⟨Q, hQ⟩ : ∃ Q, Q = Ends X74.vs O74 0 (.bool (decide (xs = ys))) [] := ⟨_, rfl⟩
  rw [← hQ]
  have fin : ∀ L σ b, look X74.vs L 4 = .bool b → b = decide (xs = ys) → Q .ret L σ := by
    intro L σ b h1 h2
    rw [hQ]
    refine Ends.is (.inl rfl) (rs := [.bool b]) (by simp only [go_sem, O74, h1]) ?_ rfl
    simp [packV, h2]
  refine awp_sr ?_
  simp only [go_sem, R74_0, v74, p74]
  refine awp_sr2 ?_
  simp only [go_sem, R74_1, v74, p74]
  refine awp_if rfl ?_ ?_
  · intro h
    refine awp_sr ?_
    simp only [go_sem, R74_2, v74, p74]
    refine awp_ret ?_
    try simp only [go_sem]
    refine fin _ _ false rfl ?_
    symm; simp; intro e; subst e; exact h rfl
  intro hne
  have hl : xs.length = ys.length := by omega
  refine awp_skip ?_
  simp only [go_sem]
  refine awp_sr2 ?_
  simp only [go_sem, R74_3, v74, p74]
  refine awp_for (fun m L σ => ∃ i x10 x14 x25, m = xs.length - i ∧ i ≤ xs.length ∧ xs.take i = ys.take i ∧ L = [.fz 2 (rw_ Mark.c xs), .fz 2 (rw_ Mark.c ys), .bool false, .int .i64 (i : Nat), x10, x14, x25]) xs.length ⟨0, _, _, _, rfl, Nat.zero_le _, by simp, rfl⟩ ?_
  rintro m L σ ⟨i, x10, x14, x25, rfl, hi, ht, rfl⟩
  refine awp_sr2 ?_
  simp only [go_sem, R74_4, v74, p74]
  refine awp_if rfl ?_ ?_
  · intro h1
    have h1 : i < xs.length := by omega
    have h2 : i < ys.length := by omega
    refine awp_skip ?_
    simp only [go_sem]
    refine awp_seq (awp_block ?_)
    refine awp_sd mixed rfl (by rfl) ?_
    simp only [go_sem, R74_5, v74, p74, rw_at _ h1, rw_at _ h2, Mark.c]
    refine run_see (eqMark_ok xs[i] ys[i]) false (Views.refl rfl) rfl (fun j hj => by omega) (fun h => by cases h) ?_
    simp only [go_sem, v74, p74]
    refine awp_if' rfl ?_ ?_
    · intro h3
      refine awp_sr ?_
      simp only [go_sem, R74_6, v74, p74]
      refine awp_ret ?_
      try simp only [go_sem]
      refine fin _ _ false rfl ?_
      symm; simp; intro e; subst e; exact h3 rfl
    · intro h3
      refine awp_skip ?_
      simp only [go_sem]
      refine awp_reg ?_
      simp only [go_sem, R74_7, v74, p74, wrap_succ (i := i) (by omega)]
      refine ⟨xs.length - (i + 1), by omega, i + 1, _, _, _, rfl, by omega, ?_, rfl⟩
      rw [List.take_succ_eq_append_getElem h1, List.take_succ_eq_append_getElem h2, ht, h3]
  · intro h1
    refine awp_exit ?_
    simp only [go_sem]
    refine awp_sr ?_
    simp only [go_sem, R74_8, v74, p74]
    refine awp_ret ?_
    try simp only [go_sem]
    refine fin _ _ true rfl ?_
    have : i = xs.length := by omega
    subst this
    rw [List.take_length, hl, List.take_length] at ht
    simp [ht]
theorem toMsg_ok (a : Msg) (h : a.sz ≤ 1048576) : FS Try.prog 36 [] [.agg a.c] (.agg a.c) [] := by
  have hl : a.tree.sz + a.vec.length + a.leaves.length + a.part.sz + a.marks.length ≤ 1048576 := h
  refine FS.of (X := X36) (ac := A36) (os := O36) Try.func36 (by rfl) (by rfl) (by kernel_rfl) o36 (Nat.le_of_ble_eq_true rfl) ?_
  show AWP X36 A36 (Ends X36.vs O36 0 _ _) [.agg a.c, .tup [], .tup [], .tup []] []
  obtain ⟨Q, hQ⟩ : ∃ Q, Q = Ends X36.vs O36 0 (.agg a.c) [] := ⟨_, rfl⟩
  rw [← hQ]
  refine awp_sr ?_
  simp only [go_sem, R36_0, v36, p36, Msg.c]
  refine awp_sr ?_
  simp only [go_sem, R36_1, v36, p36]
  refine awp_sr ?_
  simp only [go_sem, R36_2, v36, p36]
  refine awp_sr ?_
  simp only [go_sem, R36_3, v36, p36]
  refine awp_sr ?_
  simp only [go_sem, R36_4, v36, p36]
  refine awp_sr ?_
  simp only [go_sem, R36_5, v36, p36]
  refine awp_sr ?_
  simp only [go_sem, R36_6, v36, p36]
  refine awp_sr ?_
  simp only [go_sem, R36_7, v36, p36]
  refine run_see (toTree_ok a.tree (by omega)) false (Views.refl rfl) rfl (fun j hj => by omega) (fun h => by cases h) ?_
  simp only [go_sem, v36, p36, Tree.c]
  refine awp_sr ?_
  simp only [go_sem, R36_8, v36, p36]
  refine run_see (toIntS_ok a.vec (by omega)) false (Views.refl rfl) rfl (fun j hj => by omega) (fun h => by cases h) ?_
  simp only [go_sem, v36, p36]
  refine awp_sr ?_
  simp only [go_sem, R36_9, v36, p36]
  refine run_see (toIntS_ok a.leaves (by omega)) false (Views.refl rfl) rfl (fun j hj => by omega) (fun h => by cases h) ?_
  simp only [go_sem, v36, p36]
  refine awp_sr ?_
  simp only [go_sem, R36_10, v36, p36]
  refine run_see (toState_ok a.part (by omega)) false (Views.refl rfl) rfl (fun j hj => by omega) (fun h => by cases h) ?_
  simp only [go_sem, v36, p36, State.c]
  refine awp_sr ?_
  simp only [go_sem, R36_11, v36, p36]
  refine run_see (toMarkS_ok a.marks (by omega)) false (Views.refl rfl) rfl (fun j hj => by omega) (fun h => by cases h) ?_
  simp only [go_sem, v36, p36]
  refine awp_sr ?_
  simp only [go_sem, R36_12, v36, p36]
  refine awp_ret ?_
  try simp only [go_sem]
  rw [hQ]
  exact Ends.plain (.inl rfl) rfl (.refl _) rfl
theorem eqMsg_ok (a b : Msg) (h : a.sz ≤ 1048576) : FS Try.prog 38 [] [.agg a.c, .agg b.c] (.bool (decide (a = b))) [] := by
  have hl : a.tree.sz + a.vec.length + a.leaves.length + a.part.sz + a.marks.length ≤ 1048576 := h
  refine FS.of (X := X38) (ac := A38) (os := O38) Try.func38 (by rfl) (by rfl) (by kernel_rfl) o38 (Nat.le_of_ble_eq_true rfl) ?_
  show AWP X38 A38 (Ends X38.vs O38 0 _ _) [.agg a.c, .agg b.c, .tup [], .tup [], .tup [], .tup [], .tup [], .tup [], .tup [], .tup [], .tup [], .tup [], .tup [], .tup [], .tup []] []
  obtain ⟨Q, hQ⟩ : ∃ Q, Q = Ends X38.vs O38 0 (.bool (decide (a = b))) [] := ⟨_, rfl⟩
  rw [← hQ]
  have fin : ∀ L σ q, look X38.vs L 4 = .bool q → q = decide (a = b) → Q .ret L σ := by
    intro L σ q h1 h2
    rw [hQ]
    refine Ends.is (.inl rfl) (rs := [.bool q]) (by simp only [go_sem, O38, h1]) ?_ rfl
    simp [packV, h2]
  refine awp_sr ?_
  simp only [go_sem, R38_0, v38, p38, Msg.c]
  refine awp_sr2 ?_
  simp only [go_sem, R38_1, v38, p38]
  refine awp_if rfl ?_ ?_
  · intro h
    refine awp_sr ?_
    simp only [go_sem, R38_2, v38, p38]
    refine awp_ret ?_
    try simp only [go_sem]
    exact fin _ _ _ rfl (decide_eq_false fun e => h (by rw [e])).symm
  intro h0
  refine awp_skip ?_
  simp only [go_sem]
  refine awp_sr2 ?_
  simp only [go_sem, R38_3, v38, p38]
  refine awp_if rfl ?_ ?_
  · intro h
    refine awp_sr ?_
    simp only [go_sem, R38_4, v38, p38]
    refine awp_ret ?_
    try simp only [go_sem]
    exact fin _ _ _ rfl (decide_eq_false fun e => h (by rw [e])).symm
  intro h1
  refine awp_skip ?_
  simp only [go_sem]
  refine awp_sr2 ?_
  simp only [go_sem, R38_5, v38, p38]
  refine awp_if rfl ?_ ?_
  · intro h
    refine awp_sr ?_
    simp only [go_sem, R38_6, v38, p38]
    refine awp_ret ?_
    try simp only [go_sem]
    exact fin _ _ _ rfl (decide_eq_false fun e => h (by rw [e])).symm
  intro h2
  refine awp_skip ?_
  simp only [go_sem]
  refine awp_sr2 ?_
  simp only [go_sem, R38_7, v38, p38]
  refine awp_if rfl ?_ ?_
  · intro h
    refine awp_sr ?_
    simp only [go_sem, R38_8, v38, p38]
    refine awp_ret ?_
    try simp only [go_sem]
    exact fin _ _ _ rfl (decide_eq_false fun e => h (by rw [e])).symm
  intro h3
  refine awp_skip ?_
  simp only [go_sem]
  refine awp_sr2 ?_
  simp only [go_sem, R38_9, v38, p38]
  refine awp_if rfl ?_ ?_
  · intro h
    refine awp_sr ?_
    simp only [go_sem, R38_10, v38, p38]
    refine awp_ret ?_
    try simp only [go_sem]
    exact fin _ _ _ rfl (decide_eq_false fun e => h (by rw [e])).symm
  intro h4
  refine awp_skip ?_
  simp only [go_sem]
  refine awp_sr2 ?_
  simp only [go_sem, R38_11, v38, p38]
  refine run_see (eqTree_ok a.tree b.tree (by omega)) false (Views.refl rfl) rfl (fun j hj => by omega) (fun h => by cases h) ?_
  simp only [go_sem, v38, p38]
  refine awp_if' rfl ?_ ?_
  · intro h
    refine awp_sr ?_
    simp only [go_sem, R38_12, v38, p38]
    refine awp_ret ?_
    try simp only [go_sem]
    exact fin _ _ _ rfl (decide_eq_false fun e => h (by rw [e])).symm
  intro h5
  refine awp_skip ?_
  simp only [go_sem]
  refine awp_sr2 ?_
  simp only [go_sem, R38_13, v38, p38]
  refine run_see (eqIntS_ok a.vec b.vec (by omega)) false (Views.refl rfl) rfl (fun j hj => by omega) (fun h => by cases h) ?_
  simp only [go_sem, v38, p38]
  refine awp_if' rfl ?_ ?_
  · intro h
    refine awp_sr ?_
    simp only [go_sem, R38_14, v38, p38]
    refine awp_ret ?_
    try simp only [go_sem]
    exact fin _ _ _ rfl (decide_eq_false fun e => h (by rw [e])).symm
  intro h6
  refine awp_skip ?_
  simp only [go_sem]
  refine awp_sr2 ?_
  simp only [go_sem, R38_15, v38, p38]
  refine run_see (eqIntS_ok a.leaves b.leaves (by omega)) false (Views.refl rfl) rfl (fun j hj => by omega) (fun h => by cases h) ?_
  simp only [go_sem, v38, p38]
  refine awp_if' rfl ?_ ?_
  · intro h
    refine awp_sr ?_
    simp only [go_sem, R38_16, v38, p38]
    refine awp_ret ?_
    try simp only [go_sem]
    exact fin _ _ _ rfl (decide_eq_false fun e => h (by rw [e])).symm
  intro h7
  refine awp_skip ?_
  simp only [go_sem]
  refine awp_sr2 ?_
  simp only [go_sem, R38_17, v38, p38]
  refine run_see (eqState_ok a.part b.part (by omega)) false (Views.refl rfl) rfl (fun j hj => by omega) (fun h => by cases h) ?_
  simp only [go_sem, v38, p38]
  refine awp_if' rfl ?_ ?_
  · intro h
    refine awp_sr ?_
    simp only [go_sem, R38_18, v38, p38]
    refine awp_ret ?_
    try simp only [go_sem]
    exact fin _ _ _ rfl (decide_eq_false fun e => h (by rw [e])).symm
  intro h8
  refine awp_skip ?_
  simp only [go_sem]
  refine awp_sr2 ?_
  simp only [go_sem, R38_19, v38, p38]
  refine run_see (eqMarkS_ok a.marks b.marks (by omega)) false (Views.refl rfl) rfl (fun j hj => by omega) (fun h => by cases h) ?_
  simp only [go_sem, v38, p38]
  refine awp_if' rfl ?_ ?_
  · intro h
    refine awp_sr ?_
    simp only [go_sem, R38_20, v38, p38]
    refine awp_ret ?_
    try simp only [go_sem]
    exact fin _ _ _ rfl (decide_eq_false fun e => h (by rw [e])).symm
  intro h9
  refine awp_skip ?_
  simp only [go_sem]
  refine awp_sr ?_
  simp only [go_sem, R38_21, v38, p38]
  refine awp_ret ?_
  try simp only [go_sem]
  refine fin _ _ _ rfl (decide_eq_true ?_).symm
  cases a; cases b
  simp at h0 h1 h2 h3 h4 h5 h6 h7 h8 h9
  simp [h0, h1, h2, h3, h4, h5, h6, h7, h8, h9]
theorem szMsg_ok (a : Msg) (n : Nat) (hn : n ≤ 1048576) (ha : a.ok) : FS Try.prog 34 [] [.agg a.c, .int .i64 n] (.int .i64 (left n a.sz)) [] := by
  refine FS.of (X := X34) (ac := A34) (os := O34) Try.func34 (by rfl) (by rfl) (by kernel_rfl) o34 (Nat.le_of_ble_eq_true rfl) ?_
  show AWP X34 A34 (Ends X34.vs O34 0 _ _) [.agg a.c, .int .i64 n, .tup [], .tup [], .tup [], .tup [], .tup [], .tup [], .tup []] []
  obtain ⟨Q, hQ⟩ : ∃ Q, Q = Ends X34.vs O34 0 (.int .i64 (left n a.sz)) [] := ⟨_, rfl⟩
  rw [← hQ]
  obtain ⟨p0, p1, p2, p3, p4⟩ := ha
  have tot : a.sz = a.tree.sz + a.vec.length + a.leaves.length + a.part.sz + a.marks.length := rfl
  refine awp_sr ?_
  simp only [go_sem, R34_0, v34, p34, Msg.c]
  refine awp_sr ?_
  simp only [go_sem, R34_1, v34, p34]
  refine run_see (szTree_ok a.tree n (by omega) p0) false (Views.refl rfl) rfl (fun j hj => by omega) (fun h => by cases h) ?_
  simp only [go_sem, v34, p34]
  refine awp_sr2 ?_
  simp only [go_sem, R34_2, v34, p34]
  refine awp_if rfl ?_ ?_
  · intro h
    refine awp_sr ?_
    simp only [go_sem, R34_3, v34, p34]
    refine awp_ret ?_
    try simp only [go_sem]
    rw [hQ]
    refine Ends.is (.inl rfl) rfl (congrArg (V.int .i64) (left_no ?_).symm) rfl
    have : ¬ a.tree.sz ≤ n := fun e => by rw [left_is e] at h; omega
    omega
  intro h0
  obtain ⟨e0, g0⟩ := left_pos h0
  rw [e0]
  refine awp_skip ?_
  simp only [go_sem]
  refine awp_sr ?_
  simp only [go_sem, R34_4, v34, p34]
  refine run_see (szIntS_ok a.vec (n - a.tree.sz) (by omega) p1) false (Views.refl rfl) rfl (fun j hj => by omega) (fun h => by cases h) ?_
  simp only [go_sem, v34, p34]
  refine awp_sr2 ?_
  simp only [go_sem, R34_5, v34, p34]
  refine awp_if rfl ?_ ?_
  · intro h
    refine awp_sr ?_
    simp only [go_sem, R34_6, v34, p34]
    refine awp_ret ?_
    try simp only [go_sem]
    rw [hQ]
    refine Ends.is (.inl rfl) rfl (congrArg (V.int .i64) (left_no ?_).symm) rfl
    have : ¬ a.vec.length ≤ (n - a.tree.sz) := fun e => by rw [left_is e] at h; omega
    omega
  intro h1
  obtain ⟨e1, g1⟩ := left_pos h1
  rw [e1]
  refine awp_skip ?_
  simp only [go_sem]
  refine awp_sr ?_
  simp only [go_sem, R34_7, v34, p34]
  refine run_see (szIntS_ok a.leaves ((n - a.tree.sz) - a.vec.length) (by omega) p2) false (Views.refl rfl) rfl (fun j hj => by omega) (fun h => by cases h) ?_
  simp only [go_sem, v34, p34]
  refine awp_sr2 ?_
  simp only [go_sem, R34_8, v34, p34]
  refine awp_if rfl ?_ ?_
  · intro h
    refine awp_sr ?_
    simp only [go_sem, R34_9, v34, p34]
    refine awp_ret ?_
    try simp only [go_sem]
    rw [hQ]
    refine Ends.is (.inl rfl) rfl (congrArg (V.int .i64) (left_no ?_).symm) rfl
    have : ¬ a.leaves.length ≤ ((n - a.tree.sz) - a.vec.length) := fun e => by rw [left_is e] at h; omega
    omega
  intro h2
  obtain ⟨e2, g2⟩ := left_pos h2
  rw [e2]
  refine awp_skip ?_
  simp only [go_sem]
  refine awp_sr ?_
  simp only [go_sem, R34_10, v34, p34]
  refine run_see (szState_ok a.part (((n - a.tree.sz) - a.vec.length) - a.leaves.length) (by omega) p3) false (Views.refl rfl) rfl (fun j hj => by omega) (fun h => by cases h) ?_
  simp only [go_sem, v34, p34]
  refine awp_sr2 ?_
  simp only [go_sem, R34_11, v34, p34]
  refine awp_if rfl ?_ ?_
  · intro h
    refine awp_sr ?_
    simp only [go_sem, R34_12, v34, p34]
    refine awp_ret ?_
    try simp only [go_sem]
    rw [hQ]
    refine Ends.is (.inl rfl) rfl (congrArg (V.int .i64) (left_no ?_).symm) rfl
    have : ¬ a.part.sz ≤ (((n - a.tree.sz) - a.vec.length) - a.leaves.length) := fun e => by rw [left_is e] at h; omega
    omega
  intro h3
  obtain ⟨e3, g3⟩ := left_pos h3
  rw [e3]
  refine awp_skip ?_
  simp only [go_sem]
  refine awp_sr ?_
  simp only [go_sem, R34_13, v34, p34]
  refine run_see (szMarkS_ok a.marks ((((n - a.tree.sz) - a.vec.length) - a.leaves.length) - a.part.sz) (by omega) p4) false (Views.refl rfl) rfl (fun j hj => by omega) (fun h => by cases h) ?_
  simp only [go_sem, v34, p34]
  refine awp_sr2 ?_
  simp only [go_sem, R34_14, v34, p34]
  refine awp_if rfl ?_ ?_
  · intro h
    refine awp_sr ?_
    simp only [go_sem, R34_15, v34, p34]
    refine awp_ret ?_
    try simp only [go_sem]
    rw [hQ]
    refine Ends.is (.inl rfl) rfl (congrArg (V.int .i64) (left_no ?_).symm) rfl
    have : ¬ a.marks.length ≤ ((((n - a.tree.sz) - a.vec.length) - a.leaves.length) - a.part.sz) := fun e => by rw [left_is e] at h; omega
    omega
  intro h4
  obtain ⟨e4, g4⟩ := left_pos h4
  rw [e4]
  refine awp_skip ?_
  simp only [go_sem]
  refine awp_sr ?_
  simp only [go_sem, R34_16, v34, p34]
  refine awp_ret ?_
  try simp only [go_sem]
  rw [hQ]
  refine Ends.is (.inl rfl) rfl (congrArg (V.int .i64) ?_) rfl
  rw [left_is (by omega)]
  omega
end Go.Proofs.Ytffigokicddekaa.Abs
