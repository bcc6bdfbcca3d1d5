/- An order turned, in both texts. No condition. -/
import Derived.Test.YtffigokicddekaaMB2
set_option linter.unusedVariables false
set_option linter.unusedSimpArgs false
set_option maxRecDepth 10000
namespace Go.Proofs.Ytffigokicddekaa.Abs
open Go Go.Proofs
def R12_0 : List AR := [⟨(some 4), none, 0, (.mov (.k .nl))⟩]
def R12_1 : List AR := [⟨(some 6), none, 0, (.mov (.t 0))⟩, ⟨(some 7), none, 0, (.len (.t 6))⟩, ⟨(some 5), none, 0, (.mov (.t 7))⟩]
def R12_2 : List AR := [⟨(some 8), none, 0, (.mov (.t 5))⟩, ⟨(some 9), none, 0, (.bin .eql (.t 8) (.k (.int .i64 0)))⟩]
def R12_3 : List AR := [⟨(some 4), none, 0, (.mov (.k .nl))⟩]
def R12_4 : List AR := [⟨(some 10), none, 0, (.mov (.t 1))⟩, ⟨(some 11), none, 0, (.mov (.t 5))⟩, ⟨(some 12), none, 0, (.bin .rem (.t 10) (.t 11))⟩, ⟨(some 13), none, 0, (.mov (.t 5))⟩, ⟨(some 14), none, 0, (.bin .add (.t 12) (.t 13))⟩, ⟨(some 15), none, 0, (.mov (.t 5))⟩, ⟨(some 16), none, 0, (.bin .rem (.t 14) (.t 15))⟩, ⟨(some 1), none, 0, (.mov (.t 16))⟩]
def R12_5 : List AR := [⟨(some 17), none, 0, (.mov (.t 0))⟩, ⟨(some 18), none, 0, (.mov (.t 1))⟩, ⟨(some 19), none, 0, (.slice 1 (.t 17) (some (.t 18)) none)⟩, ⟨(some 20), none, 0, (.call false 0 1 46 [(.t 19)])⟩, ⟨(some 21), none, 0, (.mov (.t 0))⟩, ⟨(some 22), none, 0, (.mov (.t 1))⟩, ⟨(some 23), none, 0, (.slice 1 (.t 21) none (some (.t 22)))⟩, ⟨(some 24), none, 0, (.app 1 1 8 (.t 20) (.t 23))⟩, ⟨(some 4), none, 0, (.mov (.t 24))⟩]
def A12_0 : AC := (.seq (.draw 2 R12_5) .ret)
def A12_1 : AC := (.seq (.reg 0 R12_4) A12_0)
def A12_2 : AC := (.seq (.seq (.reg 0 R12_2) (.cond (.t 9) (.seq (.reg 0 R12_3) .ret) .skip)) A12_1)
def A12_3 : AC := (.seq (.reg 0 R12_1) A12_2)
def A12 : AC := (.seq (.reg 0 R12_0) A12_3)
def O12 : List AO := [(.mov (.t 4))]
def G12 : Fns := ⟨fun f => false, fun f => if f = 46 then 1 else 0⟩
noncomputable def X12 : Cx := ⟨Try.prog, G12, drawD, 25, [0, 1, 4, 5, 9]⟩
theorem c12 : (Try.f12.body).bind (compC X12.P X12.Γ X12.D X12.nt) = some A12 := by kernel_rfl
theorem o12 : compRes X12.P Try.f12.results.toList = some O12 := by kernel_rfl
theorem v12 : X12.vs = [0, 1, 4, 5, 9] := rfl
theorem p12 : X12.P = Try.prog := rfl
def turnAt (n : Nat) (k : Int) : Nat := (k % (n : Int)).toNat
def rot (xs : List Int) (k : Int) : List Int := xs.drop (turnAt xs.length k) ++ xs.take (turnAt xs.length k)
theorem turnAt_lt {n : Nat} {k : Int} (h : 0 < n) : turnAt n k < n ∧ ((turnAt n k : Nat) : Int) = k % (n : Int) := by
  have h1 := Int.emod_nonneg k (b := (n : Int)) (by omega)
  have h2 := Int.emod_lt_of_pos k (b := (n : Int)) (by omega)
  unfold turnAt
  omega
theorem rot_len {xs : List Int} {k : Int} : (rot xs k).length = xs.length := by
  unfold rot
  rcases Nat.eq_zero_or_pos xs.length with h | h
  · simp; omega
  · have := (turnAt_lt (k := k) h).1
    simp; omega
theorem tmod_cases {n : Nat} {k : Int} (h : 0 < n) : k.tmod n = k % (n : Int) ∨ (k.tmod n = k % (n : Int) - n ∧ 0 < k % (n : Int)) := by
  have h1 := Int.emod_nonneg k (b := (n : Int)) (by omega)
  rw [Int.tmod_eq_emod]
  split
  · left; omega
  · rename_i hc
    right
    refine ⟨by simp, ?_⟩
    have : k % (n : Int) ≠ 0 := fun e => hc (.inr (Int.dvd_of_emod_eq_zero e))
    omega
theorem specTurned_ok (xs : List Int) (k : Int) (hx : xs.length ≤ 1000000000) : FS Try.prog 10 [] [.fz 1 (ints xs), .int .i64 k] (.fz 1 (ints (rot xs k))) [] := by
  refine FS.of (X := X10) (ac := A10) (os := O10) Try.func10 (by rfl) (by rfl) (by kernel_rfl) o10 (Nat.le_of_ble_eq_true rfl) ?_
  show AWP X10 A10 (Ends X10.vs O10 0 _ _) [.fz 1 (ints xs), .int .i64 k, .tup [], .tup [], .tup [], .tup [], .tup [], .tup []] []
  obtain ⟨Q, hQ⟩ : ∃ Q, Q = Ends X10.vs O10 0 (.fz 1 (ints (rot xs k))) [] := ⟨_, rfl⟩
  rw [← hQ]
  refine awp_sr ?_
  simp only [go_sem, R10_0, v10, p10, Nat.reduceEqDiff, Nat.reduceAdd, Nat.reduceLeDiff, Nat.reduceMul, Nat.reduceSub, Nat.reduceLT]
  refine awp_sr ?_
  simp only [go_sem, R10_1, v10, p10, Nat.reduceEqDiff, Nat.reduceAdd, Nat.reduceLeDiff, Nat.reduceMul, Nat.reduceSub, Nat.reduceLT]
  refine awp_sr ?_
  simp only [go_sem, R10_2, v10, p10, Nat.reduceEqDiff, Nat.reduceAdd, Nat.reduceLeDiff, Nat.reduceMul, Nat.reduceSub, Nat.reduceLT]
  refine awp_sr2 ?_
  simp only [go_sem, R10_3, v10, p10, Nat.reduceEqDiff, Nat.reduceAdd, Nat.reduceLeDiff, Nat.reduceMul, Nat.reduceSub, Nat.reduceLT]
  refine awp_if rfl ?_ ?_
  · intro h1
    have h1 : xs.length = 0 := by omega
    have h1 : xs = [] := List.eq_nil_of_length_eq_zero h1
    subst h1
    rw [show rot [] k = [] from by simp [rot]] at hQ
    refine awp_sr ?_
    simp only [go_sem, R10_4, v10, p10, Nat.reduceEqDiff, Nat.reduceAdd, Nat.reduceLeDiff, Nat.reduceMul, Nat.reduceSub, Nat.reduceLT]
    refine awp_ret ?_
    try simp only [go_sem]
    rw [hQ]
    exact Ends.frzSl (.inl rfl) rfl rfl rfl (ints_closed [])
  · intro h1
    have h1 : 0 < xs.length := by omega
    obtain ⟨t1, t2⟩ := turnAt_lt (k := k) h1
    have tail : ∀ x0 x6 x12 x18, AWP X10 A10_1 Q [.fz 1 (ints xs), x0, .nl, .sl 0 1 0 0, x6, .int .i64 (turnAt xs.length k : Nat), x12, x18] [.live ⟨1, []⟩] := by
      intro x0 x6 x12 x18
      refine awp_sr ?_
      simp only [go_sem, R10_8, v10, p10, Nat.reduceEqDiff, Nat.reduceAdd, Nat.reduceLeDiff, Nat.reduceMul, Nat.reduceSub, Nat.reduceLT]
      refine ⟨by omega, by simp; omega, ?_⟩
      refine awp_sr ?_
      simp only [go_sem, R10_9, v10, p10, Nat.reduceEqDiff, Nat.reduceAdd, Nat.reduceLeDiff, Nat.reduceMul, Nat.reduceSub, Nat.reduceLT]
      refine ⟨by omega, by simp; omega, ?_⟩
      refine awp_ret ?_
      try simp only [go_sem]
      rw [hQ]
      exact Ends.frzSl (.inl rfl) rfl rfl (by simp [ints_len, rot]) (ints_closed _)
    refine awp_skip ?_
    simp only [go_sem]
    refine awp_sr ?_
    simp only [go_sem, R10_5, v10, p10, Nat.reduceEqDiff, Nat.reduceAdd, Nat.reduceLeDiff, Nat.reduceMul, Nat.reduceSub, Nat.reduceLT]
    refine ⟨by omega, ?_⟩
    refine awp_sr2 ?_
    simp only [go_sem, R10_6, v10, p10, Nat.reduceEqDiff, Nat.reduceAdd, Nat.reduceLeDiff, Nat.reduceMul, Nat.reduceSub, Nat.reduceLT]
    refine awp_if rfl ?_ ?_
    · intro h2
      refine awp_reg ?_
      simp only [go_sem, R10_7, v10, p10, Nat.reduceEqDiff, Nat.reduceAdd, Nat.reduceLeDiff, Nat.reduceMul, Nat.reduceSub, Nat.reduceLT]
      have hc := tmod_cases (k := k) h1
      rw [wrap_i64 (by omega) (by omega), show k.tmod xs.length + xs.length = (turnAt xs.length k : Nat) by have := tmod_cases (k := k) h1; omega]
      exact tail _ _ _ _
    · intro h2
      refine awp_skip ?_
      simp only [go_sem]
      rw [show k.tmod xs.length = (turnAt xs.length k : Nat) by have := tmod_cases (k := k) h1; omega]
      exact tail _ _ _ _
theorem implTurned_nil (k : Int) : FS Try.prog 12 [] [.fz 1 [], .int .i64 k] .nl [] := by
  refine FS.of (X := X12) (ac := A12) (os := O12) Try.func12 (by rfl) (by rfl) (by kernel_rfl) o12 (Nat.le_of_ble_eq_true rfl) ?_
  show AWP X12 A12 (Ends X12.vs O12 0 _ _) [.fz 1 [], .int .i64 k, .tup [], .tup [], .tup []] []
  obtain ⟨Q, hQ⟩ : ∃ Q, Q = Ends X12.vs O12 0 (.nl) [] := ⟨_, rfl⟩
  rw [← hQ]
  refine awp_sr ?_
  simp only [go_sem, R12_0, v12, p12, Nat.reduceEqDiff, Nat.reduceAdd, Nat.reduceLeDiff, Nat.reduceMul, Nat.reduceSub, Nat.reduceLT]
  refine awp_sr ?_
  simp only [go_sem, R12_1, v12, p12, Nat.reduceEqDiff, Nat.reduceAdd, Nat.reduceLeDiff, Nat.reduceMul, Nat.reduceSub, Nat.reduceLT]
  refine awp_sr2 ?_
  simp only [go_sem, R12_2, v12, p12, Nat.reduceEqDiff, Nat.reduceAdd, Nat.reduceLeDiff, Nat.reduceMul, Nat.reduceSub, Nat.reduceLT]
  refine awp_if rfl ?_ (fun h => absurd rfl h)
  intro h1
  refine awp_sr ?_
  simp only [go_sem, R12_3, v12, p12, Nat.reduceEqDiff, Nat.reduceAdd, Nat.reduceLeDiff, Nat.reduceMul, Nat.reduceSub, Nat.reduceLT]
  refine awp_ret ?_
  try simp only [go_sem]
  rw [hQ]
  exact Ends.plain (.inl rfl) rfl (.refl _) rfl
theorem implTurned_ok (xs : List Int) (k : Int) (hx : xs.length ≤ 1000000000) (h0 : 0 < xs.length) : FS Try.prog 12 [] [.fz 1 (ints xs), .int .i64 k] (.sl 0 1 0 xs.length) [⟨1, ints (rot xs k)⟩] := by
  refine FS.of (X := X12) (ac := A12) (os := O12) Try.func12 (by rfl) (by rfl) (by kernel_rfl) o12 (Nat.le_of_ble_eq_true rfl) ?_
  show AWP X12 A12 (Ends X12.vs O12 0 _ _) [.fz 1 (ints xs), .int .i64 k, .tup [], .tup [], .tup []] []
  obtain ⟨Q, hQ⟩ : ∃ Q, Q = Ends X12.vs O12 0 (.sl 0 1 0 xs.length) [⟨1, ints (rot xs k)⟩] := ⟨_, rfl⟩
  rw [← hQ]
  obtain ⟨t1, t2⟩ := turnAt_lt (k := k) h0
  refine awp_sr ?_
  simp only [go_sem, R12_0, v12, p12, Nat.reduceEqDiff, Nat.reduceAdd, Nat.reduceLeDiff, Nat.reduceMul, Nat.reduceSub, Nat.reduceLT]
  refine awp_sr ?_
  simp only [go_sem, R12_1, v12, p12, Nat.reduceEqDiff, Nat.reduceAdd, Nat.reduceLeDiff, Nat.reduceMul, Nat.reduceSub, Nat.reduceLT]
  refine awp_sr2 ?_
  simp only [go_sem, R12_2, v12, p12, Nat.reduceEqDiff, Nat.reduceAdd, Nat.reduceLeDiff, Nat.reduceMul, Nat.reduceSub, Nat.reduceLT]
  refine awp_if rfl (fun h => absurd h (by omega)) ?_
  intro h1
  refine awp_skip ?_
  simp only [go_sem]
  refine awp_sr ?_
  simp only [go_sem, R12_4, v12, p12, Nat.reduceEqDiff, Nat.reduceAdd, Nat.reduceLeDiff, Nat.reduceMul, Nat.reduceSub, Nat.reduceLT]
  refine ⟨by omega, ?_⟩
  have hc := tmod_cases (k := k) h0
  have e1 : (IntKind.i64.wrap (k.tmod xs.length + xs.length)).tmod xs.length = (turnAt xs.length k : Nat) := by
    rw [wrap_i64 (by omega) (by omega), Int.tmod_eq_emod_of_nonneg (by omega), Int.add_emod_right, t2]
    rcases hc with hc | ⟨hc, _⟩
    · rw [hc, Int.emod_emod_of_dvd _ (Int.dvd_refl _)]
    · rw [hc, Int.sub_emod_right, Int.emod_emod_of_dvd _ (Int.dvd_refl _)]
  rw [e1]
  refine ⟨by omega, ?_⟩
  refine awp_sd mixed rfl (by rfl) ?_
  simp only [go_sem, R12_5, v12, p12, Nat.reduceEqDiff, Nat.reduceAdd, Nat.reduceLeDiff, Nat.reduceMul, Nat.reduceSub, Nat.reduceLT]
  refine ⟨by omega, run_new (copyInts_ok (xs.drop (turnAt xs.length k)) (by simp; omega)) false (Views.refl rfl) rfl (ints_closed _) (by simp [V.ids]) (fun h => by cases h) ?_⟩
  simp only [go_sem, v12, p12, Nat.reduceEqDiff, Nat.reduceAdd, Nat.reduceLeDiff, Nat.reduceMul, Nat.reduceSub, Nat.reduceLT, V.ren]
  refine ⟨by omega, by simp; omega, ?_⟩
  refine awp_ret ?_
  try simp only [go_sem]
  rw [hQ]
  exact Ends.own1 (.inl rfl) rfl (o := 1) rfl (by simp [V.ren, packV, look, v12, Opd.ev]; omega) (by simp [V.ids]) (ints_closed _)
end Go.Proofs.Ytffigokicddekaa.Abs
