/- Rows of whole numbers: copied, turned, marked, looked through. No condition. -/
import Derived.Test.YtffigokicddekaaGreatMZ1
set_option linter.unusedVariables false
set_option linter.unusedSimpArgs false
set_option maxRecDepth 10000
namespace Go.Proofs.YtffigokicddekaaGreat.Abs
open Go Go.Proofs
def R140_0 : List AR := [⟨(some 2), none, 0, (.mov (.k .nl))⟩]
def R140_1 : List AR := [⟨(some 3), none, 0, (.bslice 0 1 0 [(.int .i64 0)] [])⟩, ⟨(some 4), none, 0, (.mov (.t 0))⟩, ⟨(some 5), none, 0, (.app 1 1 8 (.t 3) (.t 4))⟩, ⟨(some 2), none, 0, (.mov (.t 5))⟩]
def A140_0 : AC := (.seq (.reg 2 R140_1) .ret)
def A140 : AC := (.seq (.reg 0 R140_0) A140_0)
def O140 : List AO := [(.mov (.t 2))]
def G140 : Fns := ⟨fun f => false, fun f => 0, false⟩
noncomputable def X140 : Cx := ⟨Tryz.prog, G140, drawD, 6, [0, 2]⟩
theorem c140 : (Tryz.f140.body).bind (compC X140.P X140.Γ X140.D X140.nt) = some A140 := by kernel_rfl
theorem o140 : compRes X140.P Tryz.f140.results.toList = some O140 := by kernel_rfl
theorem v140 : X140.vs = [0, 2] := rfl
theorem p140 : X140.P = Tryz.prog := rfl
def R176_0 : List AR := [⟨(some 2), none, 0, (.mov (.k .nl))⟩]
def R176_1 : List AR := [⟨(some 5), none, 0, (.mov (.t 0))⟩, ⟨(some 6), none, 0, (.len (.t 5))⟩, ⟨(some 7), none, 0, (.mks 0 1 8 [(.int .i64 0)] (.t 6) (.t 6))⟩, ⟨(some 3), none, 0, (.mov (.t 7))⟩]
def R176_2 : List AR := [⟨(some 4), none, 0, (.mov (.k (.int .i64 0)))⟩]
def R176_3 : List AR := [⟨(some 8), none, 0, (.mov (.t 4))⟩, ⟨(some 9), none, 0, (.mov (.t 0))⟩, ⟨(some 10), none, 0, (.len (.t 9))⟩, ⟨(some 11), none, 0, (.bin .lss (.t 8) (.t 10))⟩]
def R176_4 : List AR := [⟨(some 14), none, 0, (.mov (.t 3))⟩, ⟨(some 15), none, 0, (.mov (.t 4))⟩, ⟨(some 16), none, 0, (.mov (.t 0))⟩, ⟨(some 17), none, 0, (.mov (.t 4))⟩, ⟨(some 18), none, 0, (.iaddr 1 (.t 16) (.t 17))⟩, ⟨(some 19), none, 0, (.load 1 false (.t 18))⟩, ⟨(some 20), none, 0, (.iaddr 1 (.t 14) (.t 15))⟩, ⟨none, none, 0, (.store 1 (.t 20) (.t 19))⟩]
def R176_5 : List AR := [⟨(some 12), none, 0, (.mov (.t 4))⟩, ⟨(some 13), none, 0, (.bin .add (.t 12) (.k (.int .i64 1)))⟩, ⟨(some 4), none, 0, (.mov (.t 13))⟩]
def A176_0 : AC := (.seq (.block 1 (.reg 0 R176_4)) (.reg 0 R176_5))
def L176_0 : AC := (.seq (.seq (.reg 0 R176_3) (.cond (.t 11) .skip (.exit 0))) A176_0)
def R176_6 : List AR := [⟨(some 21), none, 0, (.mov (.t 3))⟩, ⟨(some 2), none, 0, (.mov (.t 21))⟩]
def A176_1 : AC := (.seq (.reg 0 R176_6) .ret)
def A176_2 : AC := (.seq (.seq (.reg 0 R176_2) (.block 0 (.loop L176_0))) A176_1)
def A176_3 : AC := (.seq (.reg 1 R176_1) A176_2)
def A176 : AC := (.seq (.reg 0 R176_0) A176_3)
def O176 : List AO := [(.mov (.t 2))]
def G176 : Fns := ⟨fun f => false, fun f => 0, false⟩
noncomputable def X176 : Cx := ⟨Tryz.prog, G176, drawD, 22, [0, 2, 3, 4, 11]⟩
theorem c176 : (Tryz.f176.body).bind (compC X176.P X176.Γ X176.D X176.nt) = some A176 := by kernel_rfl
theorem o176 : compRes X176.P Tryz.f176.results.toList = some O176 := by kernel_rfl
theorem v176 : X176.vs = [0, 2, 3, 4, 11] := rfl
theorem p176 : X176.P = Tryz.prog := rfl
def R184_0 : List AR := [⟨(some 4), none, 0, (.mov (.k (.bool false)))⟩]
def R184_1 : List AR := [⟨(some 6), none, 0, (.mov (.t 0))⟩, ⟨(some 7), none, 0, (.len (.t 6))⟩, ⟨(some 8), none, 0, (.mov (.t 1))⟩, ⟨(some 9), none, 0, (.len (.t 8))⟩, ⟨(some 10), none, 0, (.bin .neq (.t 7) (.t 9))⟩]
def R184_2 : List AR := [⟨(some 4), none, 0, (.mov (.k (.bool false)))⟩]
def R184_3 : List AR := [⟨(some 5), none, 0, (.mov (.k (.int .i64 0)))⟩]
def R184_4 : List AR := [⟨(some 11), none, 0, (.mov (.t 5))⟩, ⟨(some 12), none, 0, (.mov (.t 0))⟩, ⟨(some 13), none, 0, (.len (.t 12))⟩, ⟨(some 14), none, 0, (.bin .lss (.t 11) (.t 13))⟩]
def R184_5 : List AR := [⟨(some 17), none, 0, (.mov (.t 0))⟩, ⟨(some 18), none, 0, (.mov (.t 5))⟩, ⟨(some 19), none, 0, (.iaddr 1 (.t 17) (.t 18))⟩, ⟨(some 20), none, 0, (.load 1 false (.t 19))⟩, ⟨(some 21), none, 0, (.mov (.t 1))⟩, ⟨(some 22), none, 0, (.mov (.t 5))⟩, ⟨(some 23), none, 0, (.iaddr 1 (.t 21) (.t 22))⟩, ⟨(some 24), none, 0, (.load 1 false (.t 23))⟩, ⟨(some 25), none, 0, (.bin .neq (.t 20) (.t 24))⟩]
def R184_6 : List AR := [⟨(some 4), none, 0, (.mov (.k (.bool false)))⟩]
def R184_7 : List AR := [⟨(some 15), none, 0, (.mov (.t 5))⟩, ⟨(some 16), none, 0, (.bin .add (.t 15) (.k (.int .i64 1)))⟩, ⟨(some 5), none, 0, (.mov (.t 16))⟩]
def A184_0 : AC := (.seq (.block 1 (.seq (.draw 0 R184_5) (.cond (.t 25) (.seq (.reg 0 R184_6) .ret) .skip))) (.reg 0 R184_7))
def L184_0 : AC := (.seq (.seq (.reg 0 R184_4) (.cond (.t 14) .skip (.exit 0))) A184_0)
def R184_8 : List AR := [⟨(some 4), none, 0, (.mov (.k (.bool true)))⟩]
def A184_1 : AC := (.seq (.reg 0 R184_8) .ret)
def A184_2 : AC := (.seq (.seq (.reg 0 R184_3) (.block 0 (.loop L184_0))) A184_1)
def A184_3 : AC := (.seq (.seq (.reg 0 R184_1) (.cond (.t 10) (.seq (.reg 0 R184_2) .ret) .skip)) A184_2)
def A184 : AC := (.seq (.reg 0 R184_0) A184_3)
def O184 : List AO := [(.mov (.t 4))]
def G184 : Fns := ⟨fun f => false, fun f => 0, false⟩
noncomputable def X184 : Cx := ⟨Tryz.prog, G184, drawD, 26, [0, 1, 4, 5, 10, 14, 25]⟩
theorem c184 : (Tryz.f184.body).bind (compC X184.P X184.Γ X184.D X184.nt) = some A184 := by kernel_rfl
theorem o184 : compRes X184.P Tryz.f184.results.toList = some O184 := by kernel_rfl
theorem v184 : X184.vs = [0, 1, 4, 5, 10, 14, 25] := rfl
theorem p184 : X184.P = Tryz.prog := rfl
theorem copyInts_ok (xs : List Int) (hx : xs.length ≤ 1000000000) : FS Tryz.prog 140 [] [.fz 1 (ints xs)] (.sl 0 1 0 xs.length) [⟨1, ints xs⟩] := by
  refine FS.of (X := X140) (ac := A140) (os := O140) Tryz.func140 (by rfl) (by rfl) (by kernel_rfl) o140 (Nat.le_of_ble_eq_true rfl) ?_
  show AWP X140 A140 (Ends X140.vs O140 0 _ _) [.fz 1 (ints xs), .tup []] []
  obtain ⟨Q, hQ⟩ : ∃ Q, Q = Ends X140.vs O140 0 (.sl 0 1 0 xs.length) [⟨1, ints xs⟩] := ⟨_, rfl⟩
  rw [← hQ]
  refine awp_sr ?_
  simp only [go_sem, R140_0, v140, p140]
  refine awp_sr ?_
  simp only [go_sem, R140_1, v140, p140]
  refine ⟨by omega, ?_⟩
  refine awp_ret ?_
  try simp only [go_sem]
  rw [hQ]
  exact Ends.own1 (.inl rfl) rfl (o := 1) rfl rfl (by simp [V.ids]) (ints_closed xs)
theorem toInts_ok (xs : List Int) (hx : xs.length ≤ 1000000000) : FS Tryz.prog 176 [] [.fz 1 (ints xs)] (.fz 1 (ints xs)) [] := by
  refine FS.of (X := X176) (ac := A176) (os := O176) Tryz.func176 (by rfl) (by rfl) (by kernel_rfl) o176 (Nat.le_of_ble_eq_true rfl) ?_
  show AWP X176 A176 (Ends X176.vs O176 0 _ _) [.fz 1 (ints xs), .tup [], .tup [], .tup [], .tup []] []
  obtain ⟨Q, hQ⟩ : ∃ Q, Q = Ends X176.vs O176 0 (.fz 1 (ints xs)) [] := ⟨_, rfl⟩
  rw [← hQ]
  refine awp_sr ?_
  simp only [go_sem, R176_0, v176, p176]
  refine awp_sr ?_
  simp only [go_sem, R176_1, v176, p176]
  refine ⟨by omega, ?_⟩
  refine awp_sr2 ?_
  simp only [go_sem, R176_2, v176, p176]
  refine awp_for (fun m L σ => ∃ i x11 ys, m = xs.length - i ∧ i ≤ xs.length ∧ ys.length = xs.length ∧ ys.take i = xs.take i ∧ L = [.fz 1 (ints xs), .nl, .sl 0 1 0 xs.length, .int .i64 (i : Nat), x11] ∧ σ = [.live ⟨1, ints ys⟩]) xs.length
    ⟨0, _, List.replicate xs.length 0, rfl, Nat.zero_le _, by simp, by simp, rfl, by rw [ints_rep]⟩ ?_
  rintro m L σ ⟨i, x11, ys, rfl, hi, hl, ht, rfl, rfl⟩
  refine awp_sr2 ?_
  simp only [go_sem, R176_3, v176, p176]
  refine awp_if rfl ?_ ?_
  · intro h1
    have h1 : i < xs.length := by omega
    have h2 : i < ys.length := by omega
    refine awp_skip ?_
    simp only [go_sem]
    refine awp_seq (awp_block ?_)
    refine awp_reg ?_
    simp only [go_sem, R176_4, v176, p176, ints_at h1, ints_at h2]
    refine ⟨by omega, ?_⟩
    refine awp_reg ?_
    simp only [go_sem, R176_5, v176, p176, wrap_succ (i := i) (by omega)]
    rw [ints_set]
    refine ⟨xs.length - (i + 1), by omega, i + 1, _, _, rfl, by omega, by simpa using hl, ?_, rfl, rfl⟩
    rw [List.take_succ_eq_append_getElem h1, List.take_succ_eq_append_getElem (by simpa using h2), List.take_set_of_le (Nat.le_refl _), ht]
    simp
  · intro h1
    refine awp_exit ?_
    simp only [go_sem]
    refine awp_sr ?_
    simp only [go_sem, R176_6, v176, p176]
    refine awp_ret ?_
    try simp only [go_sem]
    have : i = xs.length := by omega
    subst this
    rw [List.take_length, ← hl, List.take_length] at ht
    subst ht
    rw [hQ]
    exact Ends.frzSl (.inl rfl) rfl rfl (by simp [ints_len]) (ints_closed _)
theorem toInts_own (xs : List Int) (hx : xs.length ≤ 1000000000) : FS Tryz.prog 176 [] [.fz 1 (ints xs)] (.sl 0 1 0 xs.length) [⟨1, ints xs⟩] := by
  refine FS.of (X := X176) (ac := A176) (os := O176) Tryz.func176 (by rfl) (by rfl) (by kernel_rfl) o176 (Nat.le_of_ble_eq_true rfl) ?_
  show AWP X176 A176 (Ends X176.vs O176 0 _ _) [.fz 1 (ints xs), .tup [], .tup [], .tup [], .tup []] []
  obtain ⟨Q, hQ⟩ : ∃ Q, Q = Ends X176.vs O176 0 (.sl 0 1 0 xs.length) [⟨1, ints xs⟩] := ⟨_, rfl⟩
  rw [← hQ]
  refine awp_sr ?_
  simp only [go_sem, R176_0, v176, p176]
  refine awp_sr ?_
  simp only [go_sem, R176_1, v176, p176]
  refine ⟨by omega, ?_⟩
  refine awp_sr2 ?_
  simp only [go_sem, R176_2, v176, p176]
  refine awp_for (fun m L σ => ∃ i x11 ys, m = xs.length - i ∧ i ≤ xs.length ∧ ys.length = xs.length ∧ ys.take i = xs.take i ∧ L = [.fz 1 (ints xs), .nl, .sl 0 1 0 xs.length, .int .i64 (i : Nat), x11] ∧ σ = [.live ⟨1, ints ys⟩]) xs.length
    ⟨0, _, List.replicate xs.length 0, rfl, Nat.zero_le _, by simp, by simp, rfl, by rw [ints_rep]⟩ ?_
  rintro m L σ ⟨i, x11, ys, rfl, hi, hl, ht, rfl, rfl⟩
  refine awp_sr2 ?_
  simp only [go_sem, R176_3, v176, p176]
  refine awp_if rfl ?_ ?_
  · intro h1
    have h1 : i < xs.length := by omega
    have h2 : i < ys.length := by omega
    refine awp_skip ?_
    simp only [go_sem]
    refine awp_seq (awp_block ?_)
    refine awp_reg ?_
    simp only [go_sem, R176_4, v176, p176, ints_at h1, ints_at h2]
    refine ⟨by omega, ?_⟩
    refine awp_reg ?_
    simp only [go_sem, R176_5, v176, p176, wrap_succ (i := i) (by omega)]
    rw [ints_set]
    refine ⟨xs.length - (i + 1), by omega, i + 1, _, _, rfl, by omega, by simpa using hl, ?_, rfl, rfl⟩
    rw [List.take_succ_eq_append_getElem h1, List.take_succ_eq_append_getElem (by simpa using h2), List.take_set_of_le (Nat.le_refl _), ht]
    simp
  · intro h1
    refine awp_exit ?_
    simp only [go_sem]
    refine awp_sr ?_
    simp only [go_sem, R176_6, v176, p176]
    refine awp_ret ?_
    try simp only [go_sem]
    have : i = xs.length := by omega
    subst this
    rw [List.take_length, ← hl, List.take_length] at ht
    subst ht
    rw [hQ]
    exact Ends.own1 (.inl rfl) rfl (o := 0) rfl rfl (by simp [V.ids]) (ints_closed _)
/-- n, n + 1, .. -/
def seqI (n : Int) (k : Nat) : List Int := (List.range k).map fun i : Nat => n + (i : Int)
theorem seqI_len (n : Int) (k : Nat) : (seqI n k).length = k := by simp [seqI]
theorem seqI_succ (n : Int) (k : Nat) : seqI n (k + 1) = seqI n k ++ [n + (k : Int)] := by simp [seqI, List.range_succ]
-- not in this seat: laws.markIntS
-- not in this seat: laws.markIntS
/-- what a look through marked numbers answers -/
def heldI (n : Nat) (xs : List Int) : Int := if xs = seqI n xs.length then ((n + xs.length : Nat) : Int) else -1
-- not in this seat: laws.heldIntS
theorem eqInts_ok (xs ys : List Int) (hx : xs.length < 9000000000000000000) : FS Tryz.prog 184 [] [.fz 1 (ints xs), .fz 1 (ints ys)] (.bool (decide (xs = ys))) [] := by
  refine FS.of (X := X184) (ac := A184) (os := O184) Tryz.func184 (by rfl) (by rfl) (by kernel_rfl) o184 (Nat.le_of_ble_eq_true rfl) ?_
  show AWP X184 A184 (Ends X184.vs O184 0 _ _) [.fz 1 (ints xs), .fz 1 (ints ys), .tup [], .tup [], .tup [], .tup [], .tup []] []
  obtain ⟨Q, hQ⟩ : ∃ Q, Q = Ends X184.vs O184 0 (.bool (decide (xs = ys))) [] := ⟨_, rfl⟩
  rw [← hQ]
  have fin : ∀ e L σ b, (e = .ret ∨ e = .normal) → look X184.vs L 4 = .bool b → b = decide (xs = ys) → Q e L σ := by
    intro e L σ b he hl hb
    rw [hQ]; refine Ends.plain he (rs := [.bool b]) ?_ ?_ rfl
    · simp only [go_sem, O184, hl]
    · rw [hb]; exact .refl _
  refine awp_sr ?_
  simp only [go_sem, R184_0, v184, Nat.reduceEqDiff, Nat.reduceAdd, Nat.reduceLeDiff]
  refine awp_sr2 ?_
  simp only [go_sem, R184_1, v184, Nat.reduceEqDiff, Nat.reduceAdd, Nat.reduceLeDiff]
  refine awp_if rfl ?_ ?_
  · intro h
    refine awp_sr ?_
    simp only [go_sem, R184_2, v184, p184, Nat.reduceEqDiff, Nat.reduceAdd, Nat.reduceLeDiff]
    refine awp_ret (fin _ _ _ false (.inl rfl) rfl ?_)
    symm; simp; intro e; subst e; exact h rfl
  · intro h
    have hl : xs.length = ys.length := by omega
    refine awp_skip ?_
    simp only [go_sem]
    refine awp_sr2 ?_
    simp only [go_sem, R184_3, v184, p184, Nat.reduceEqDiff, Nat.reduceAdd, Nat.reduceLeDiff]
    refine awp_for (fun n L σ => ∃ i x10 x14 x25, n = xs.length - i ∧ i ≤ xs.length ∧ xs.take i = ys.take i ∧ L = [.fz 1 (ints xs), .fz 1 (ints ys), .bool false, .int .i64 (i : Nat), x10, x14, x25]) xs.length ⟨0, _, _, _, rfl, Nat.zero_le _, by simp, rfl⟩ ?_
    rintro n L σ ⟨i, x10, x14, x25, rfl, hi, ht, rfl⟩
    refine awp_sr2 ?_
    simp only [go_sem, R184_4, v184, p184, Nat.reduceEqDiff, Nat.reduceAdd, Nat.reduceLeDiff]
    refine awp_if rfl ?_ ?_
    · intro h1
      have h1 : i < xs.length := by omega
      have h2 : i < ys.length := by omega
      refine awp_skip ?_
      simp only [go_sem]
      refine awp_seq (awp_block ?_)
      refine awp_sd mixed rfl (by rfl) ?_
      simp only [go_sem, R184_5, v184, p184, Nat.reduceEqDiff, Nat.reduceAdd, Nat.reduceLeDiff, ints_get (List.getElem?_eq_getElem h1), ints_get (List.getElem?_eq_getElem h2)]
      refine awp_if rfl ?_ ?_
      · intro h3
        refine awp_sr ?_
        simp only [go_sem, R184_6, v184, p184, Nat.reduceEqDiff, Nat.reduceAdd, Nat.reduceLeDiff]
        refine awp_ret ?_
        simp only [go_sem]
        refine fin _ _ _ false (.inl rfl) rfl ?_
        symm; simp; intro e; subst e; exact h3 rfl
      · intro h3
        refine awp_skip ?_
        simp only [go_sem]
        refine awp_reg ?_
        simp only [go_sem, R184_7, v184, p184, Nat.reduceEqDiff, Nat.reduceAdd, Nat.reduceLeDiff, wrap_succ (i := i) (by omega)]
        refine ⟨xs.length - (i + 1), by omega, i + 1, _, _, _, rfl, by omega, ?_, rfl⟩
        rw [List.take_succ_eq_append_getElem h1, List.take_succ_eq_append_getElem h2, ht]
        simp at h3
        rw [h3]
    · intro h1
      refine awp_exit ?_
      simp only [go_sem]
      refine awp_sr ?_
      simp only [go_sem, R184_8, v184, p184, Nat.reduceEqDiff, Nat.reduceAdd, Nat.reduceLeDiff]
      refine awp_ret (fin _ _ _ true (.inl rfl) rfl ?_)
      have : i = xs.length := by omega
      subst this
      rw [List.take_length, hl, List.take_length] at ht
      simp [ht]
end Go.Proofs.YtffigokicddekaaGreat.Abs
/- Copies, sizes and equality, walked: an entry, an item. No condition. -/
set_option linter.unusedVariables false
set_option linter.unusedSimpArgs false
set_option maxRecDepth 10000
namespace Go.Proofs.YtffigokicddekaaGreat.Abs
open Go Go.Proofs
def R251_0 : List AR := [⟨(some 1), none, 0, (.box 0 5 (.t 0))⟩, ⟨(some 2), none, 0, (.alloc 1 5 [(.int .i64 0), (.int .i64 0), (.int .i64 0), (.int .i64 0), (.str ⟨⟨[]⟩⟩)])⟩]
def R251_1 : List AR := [⟨(some 3), none, 0, (.alloc 0 5 [(.int .i64 0), (.int .i64 0), (.int .i64 0), (.int .i64 0), (.str ⟨⟨[]⟩⟩)])⟩]
def R251_2 : List AR := [⟨(some 4), none, 0, (.faddr 0 (.t 1))⟩, ⟨(some 5), none, 0, (.load 1 false (.t 4))⟩, ⟨(some 6), none, 0, (.faddr 0 (.t 3))⟩, ⟨none, none, 0, (.store 1 (.t 6) (.t 5))⟩]
def R251_3 : List AR := [⟨(some 7), none, 0, (.faddr 1 (.t 1))⟩, ⟨(some 8), none, 0, (.load 1 false (.t 7))⟩, ⟨(some 9), none, 0, (.faddr 1 (.t 3))⟩, ⟨none, none, 0, (.store 1 (.t 9) (.t 8))⟩]
def R251_4 : List AR := [⟨(some 10), none, 0, (.faddr 2 (.t 1))⟩, ⟨(some 11), none, 0, (.load 1 false (.t 10))⟩, ⟨(some 12), none, 0, (.faddr 2 (.t 3))⟩, ⟨none, none, 0, (.store 1 (.t 12) (.t 11))⟩]
def R251_5 : List AR := [⟨(some 13), none, 0, (.faddr 3 (.t 1))⟩, ⟨(some 14), none, 0, (.load 1 false (.t 13))⟩, ⟨(some 15), none, 0, (.faddr 3 (.t 3))⟩, ⟨none, none, 0, (.store 1 (.t 15) (.t 14))⟩]
def R251_6 : List AR := [⟨(some 16), none, 0, (.faddr 4 (.t 1))⟩, ⟨(some 17), none, 0, (.load 1 false (.t 16))⟩, ⟨(some 18), none, 0, (.faddr 4 (.t 3))⟩, ⟨none, none, 0, (.store 1 (.t 18) (.t 17))⟩]
def R251_7 : List AR := [⟨(some 19), none, 0, (.load 5 true (.t 3))⟩, ⟨none, none, 0, (.store 5 (.t 2) (.t 19))⟩]
def A251_0 : AC := (.seq (.reg 0 R251_7) .ret)
def A251_1 : AC := (.seq (.reg 0 R251_6) A251_0)
def A251_2 : AC := (.seq (.reg 0 R251_5) A251_1)
def A251_3 : AC := (.seq (.reg 0 R251_4) A251_2)
def A251_4 : AC := (.seq (.reg 0 R251_3) A251_3)
def A251_5 : AC := (.seq (.reg 0 R251_2) A251_4)
def A251_6 : AC := (.seq (.reg 1 R251_1) A251_5)
def A251 : AC := (.seq (.reg 2 R251_0) A251_6)
def O251 : List AO := [(.load 5 true (.t 2))]
def G251 : Fns := ⟨fun f => false, fun f => 0, false⟩
noncomputable def X251 : Cx := ⟨Tryz.prog, G251, drawD, 20, [0, 1, 2, 3]⟩
theorem c251 : (Tryz.f251.body).bind (compC X251.P X251.Γ X251.D X251.nt) = some A251 := by kernel_rfl
theorem o251 : compRes X251.P Tryz.f251.results.toList = some O251 := by kernel_rfl
theorem v251 : X251.vs = [0, 1, 2, 3] := rfl
theorem p251 : X251.P = Tryz.prog := rfl
def R237_0 : List AR := [⟨(some 1), none, 0, (.box 0 6 (.t 0))⟩, ⟨(some 2), none, 0, (.alloc 1 6 [(.int .i64 0), (.int .i64 0), (.int .i64 0), (.int .i64 0), (.int .i64 0), (.str ⟨⟨[]⟩⟩)])⟩]
def R237_1 : List AR := [⟨(some 3), none, 0, (.alloc 0 6 [(.int .i64 0), (.int .i64 0), (.int .i64 0), (.int .i64 0), (.int .i64 0), (.str ⟨⟨[]⟩⟩)])⟩]
def R237_2 : List AR := [⟨(some 4), none, 0, (.faddr 0 (.t 1))⟩, ⟨(some 5), none, 0, (.load 1 false (.t 4))⟩, ⟨(some 6), none, 0, (.faddr 0 (.t 3))⟩, ⟨none, none, 0, (.store 1 (.t 6) (.t 5))⟩]
def R237_3 : List AR := [⟨(some 7), none, 0, (.faddr 1 (.t 1))⟩, ⟨(some 8), none, 0, (.load 5 true (.t 7))⟩, ⟨(some 9), none, 0, (.call false 0 0 251 [(.t 8)])⟩, ⟨(some 10), none, 0, (.faddr 1 (.t 3))⟩, ⟨none, none, 0, (.store 5 (.t 10) (.t 9))⟩]
def R237_4 : List AR := [⟨(some 11), none, 0, (.load 6 true (.t 3))⟩, ⟨none, none, 0, (.store 6 (.t 2) (.t 11))⟩]
def A237_0 : AC := (.seq (.reg 0 R237_4) .ret)
def A237_1 : AC := (.seq (.reg 0 R237_3) A237_0)
def A237_2 : AC := (.seq (.reg 0 R237_2) A237_1)
def A237_3 : AC := (.seq (.reg 1 R237_1) A237_2)
def A237 : AC := (.seq (.reg 2 R237_0) A237_3)
def O237 : List AO := [(.load 6 true (.t 2))]
def G237 : Fns := ⟨fun f => false, fun f => 0, false⟩
noncomputable def X237 : Cx := ⟨Tryz.prog, G237, drawD, 12, [0, 1, 2, 3]⟩
theorem c237 : (Tryz.f237.body).bind (compC X237.P X237.Γ X237.D X237.nt) = some A237 := by kernel_rfl
theorem o237 : compRes X237.P Tryz.f237.results.toList = some O237 := by kernel_rfl
theorem v237 : X237.vs = [0, 1, 2, 3] := rfl
theorem p237 : X237.P = Tryz.prog := rfl
def R250_0 : List AR := [⟨(some 2), none, 0, (.box 0 5 (.t 0))⟩, ⟨(some 4), none, 0, (.mov (.k (.int .i64 0)))⟩]
def R250_1 : List AR := [⟨(some 5), none, 0, (.mov (.t 1))⟩, ⟨(some 6), none, 0, (.faddr 4 (.t 2))⟩, ⟨(some 7), none, 0, (.load 1 false (.t 6))⟩, ⟨(some 8), none, 0, (.slen (.t 7))⟩, ⟨(some 9), none, 0, (.bin .sub (.t 5) (.t 8))⟩, ⟨(some 1), none, 0, (.mov (.t 9))⟩]
def R250_2 : List AR := [⟨(some 10), none, 0, (.mov (.t 1))⟩, ⟨(some 11), none, 0, (.bin .lss (.t 10) (.k (.int .i64 0)))⟩]
def R250_3 : List AR := [⟨(some 4), none, 0, (.mov (.k (.int .i64 (-1))))⟩]
def R250_4 : List AR := [⟨(some 12), none, 0, (.mov (.t 1))⟩, ⟨(some 4), none, 0, (.mov (.t 12))⟩]
def A250_0 : AC := (.seq (.reg 0 R250_4) .ret)
def A250_1 : AC := (.seq (.seq (.reg 0 R250_2) (.cond (.t 11) (.seq (.reg 0 R250_3) .ret) .skip)) A250_0)
def A250_2 : AC := (.seq (.reg 0 R250_1) A250_1)
def A250 : AC := (.seq (.reg 1 R250_0) A250_2)
def O250 : List AO := [(.mov (.t 4))]
def G250 : Fns := ⟨fun f => false, fun f => 0, false⟩
noncomputable def X250 : Cx := ⟨Tryz.prog, G250, drawD, 13, [0, 1, 2, 4, 11]⟩
theorem c250 : (Tryz.f250.body).bind (compC X250.P X250.Γ X250.D X250.nt) = some A250 := by kernel_rfl
theorem o250 : compRes X250.P Tryz.f250.results.toList = some O250 := by kernel_rfl
theorem v250 : X250.vs = [0, 1, 2, 4, 11] := rfl
theorem p250 : X250.P = Tryz.prog := rfl
def R236_0 : List AR := [⟨(some 2), none, 0, (.box 0 6 (.t 0))⟩, ⟨(some 4), none, 0, (.mov (.k (.int .i64 0)))⟩]
def R236_1 : List AR := [⟨(some 5), none, 0, (.faddr 1 (.t 2))⟩, ⟨(some 6), none, 0, (.load 5 true (.t 5))⟩, ⟨(some 7), none, 0, (.mov (.t 1))⟩, ⟨(some 8), none, 0, (.call false 0 0 250 [(.t 6), (.t 7)])⟩, ⟨(some 1), none, 0, (.mov (.t 8))⟩]
def R236_2 : List AR := [⟨(some 9), none, 0, (.mov (.t 1))⟩, ⟨(some 10), none, 0, (.bin .lss (.t 9) (.k (.int .i64 0)))⟩]
def R236_3 : List AR := [⟨(some 4), none, 0, (.mov (.k (.int .i64 (-1))))⟩]
def R236_4 : List AR := [⟨(some 11), none, 0, (.mov (.t 1))⟩, ⟨(some 4), none, 0, (.mov (.t 11))⟩]
def A236_0 : AC := (.seq (.reg 0 R236_4) .ret)
def A236_1 : AC := (.seq (.seq (.reg 0 R236_2) (.cond (.t 10) (.seq (.reg 0 R236_3) .ret) .skip)) A236_0)
def A236_2 : AC := (.seq (.reg 0 R236_1) A236_1)
def A236 : AC := (.seq (.reg 1 R236_0) A236_2)
def O236 : List AO := [(.mov (.t 4))]
def G236 : Fns := ⟨fun f => false, fun f => 0, false⟩
noncomputable def X236 : Cx := ⟨Tryz.prog, G236, drawD, 12, [0, 1, 2, 4, 10]⟩
theorem c236 : (Tryz.f236.body).bind (compC X236.P X236.Γ X236.D X236.nt) = some A236 := by kernel_rfl
theorem o236 : compRes X236.P Tryz.f236.results.toList = some O236 := by kernel_rfl
theorem v236 : X236.vs = [0, 1, 2, 4, 10] := rfl
theorem p236 : X236.P = Tryz.prog := rfl
def R252_0 : List AR := [⟨(some 2), none, 0, (.box 0 5 (.t 0))⟩, ⟨(some 3), none, 0, (.box 1 5 (.t 1))⟩, ⟨(some 4), none, 0, (.mov (.k (.bool false)))⟩]
def R252_1 : List AR := [⟨(some 5), none, 0, (.faddr 0 (.t 2))⟩, ⟨(some 6), none, 0, (.load 1 false (.t 5))⟩, ⟨(some 7), none, 0, (.faddr 0 (.t 3))⟩, ⟨(some 8), none, 0, (.load 1 false (.t 7))⟩, ⟨(some 9), none, 0, (.bin .neq (.t 6) (.t 8))⟩]
def R252_2 : List AR := [⟨(some 4), none, 0, (.mov (.k (.bool false)))⟩]
def R252_3 : List AR := [⟨(some 10), none, 0, (.faddr 1 (.t 2))⟩, ⟨(some 11), none, 0, (.load 1 false (.t 10))⟩, ⟨(some 12), none, 0, (.faddr 1 (.t 3))⟩, ⟨(some 13), none, 0, (.load 1 false (.t 12))⟩, ⟨(some 14), none, 0, (.bin .neq (.t 11) (.t 13))⟩]
def R252_4 : List AR := [⟨(some 4), none, 0, (.mov (.k (.bool false)))⟩]
def R252_5 : List AR := [⟨(some 15), none, 0, (.faddr 2 (.t 2))⟩, ⟨(some 16), none, 0, (.load 1 false (.t 15))⟩, ⟨(some 17), none, 0, (.faddr 2 (.t 3))⟩, ⟨(some 18), none, 0, (.load 1 false (.t 17))⟩, ⟨(some 19), none, 0, (.bin .neq (.t 16) (.t 18))⟩]
def R252_6 : List AR := [⟨(some 4), none, 0, (.mov (.k (.bool false)))⟩]
def R252_7 : List AR := [⟨(some 20), none, 0, (.faddr 3 (.t 2))⟩, ⟨(some 21), none, 0, (.load 1 false (.t 20))⟩, ⟨(some 22), none, 0, (.faddr 3 (.t 3))⟩, ⟨(some 23), none, 0, (.load 1 false (.t 22))⟩, ⟨(some 24), none, 0, (.bin .neq (.t 21) (.t 23))⟩]
def R252_8 : List AR := [⟨(some 4), none, 0, (.mov (.k (.bool false)))⟩]
def R252_9 : List AR := [⟨(some 25), none, 0, (.faddr 4 (.t 2))⟩, ⟨(some 26), none, 0, (.load 1 false (.t 25))⟩, ⟨(some 27), none, 0, (.faddr 4 (.t 3))⟩, ⟨(some 28), none, 0, (.load 1 false (.t 27))⟩, ⟨(some 29), none, 0, (.bin .neq (.t 26) (.t 28))⟩]
def R252_10 : List AR := [⟨(some 4), none, 0, (.mov (.k (.bool false)))⟩]
def R252_11 : List AR := [⟨(some 4), none, 0, (.mov (.k (.bool true)))⟩]
def A252_0 : AC := (.seq (.reg 0 R252_11) .ret)
def A252_1 : AC := (.seq (.seq (.reg 0 R252_9) (.cond (.t 29) (.seq (.reg 0 R252_10) .ret) .skip)) A252_0)
def A252_2 : AC := (.seq (.seq (.reg 0 R252_7) (.cond (.t 24) (.seq (.reg 0 R252_8) .ret) .skip)) A252_1)
def A252_3 : AC := (.seq (.seq (.reg 0 R252_5) (.cond (.t 19) (.seq (.reg 0 R252_6) .ret) .skip)) A252_2)
def A252_4 : AC := (.seq (.seq (.reg 0 R252_3) (.cond (.t 14) (.seq (.reg 0 R252_4) .ret) .skip)) A252_3)
def A252_5 : AC := (.seq (.seq (.reg 0 R252_1) (.cond (.t 9) (.seq (.reg 0 R252_2) .ret) .skip)) A252_4)
def A252 : AC := (.seq (.reg 2 R252_0) A252_5)
def O252 : List AO := [(.mov (.t 4))]
def G252 : Fns := ⟨fun f => false, fun f => 0, false⟩
noncomputable def X252 : Cx := ⟨Tryz.prog, G252, drawD, 30, [0, 1, 2, 3, 4, 9, 14, 19, 24, 29]⟩
theorem c252 : (Tryz.f252.body).bind (compC X252.P X252.Γ X252.D X252.nt) = some A252 := by kernel_rfl
theorem o252 : compRes X252.P Tryz.f252.results.toList = some O252 := by kernel_rfl
theorem v252 : X252.vs = [0, 1, 2, 3, 4, 9, 14, 19, 24, 29] := rfl
theorem p252 : X252.P = Tryz.prog := rfl
def R239_0 : List AR := [⟨(some 2), none, 0, (.box 0 6 (.t 0))⟩, ⟨(some 3), none, 0, (.box 1 6 (.t 1))⟩, ⟨(some 4), none, 0, (.mov (.k (.bool false)))⟩]
def R239_1 : List AR := [⟨(some 5), none, 0, (.faddr 0 (.t 2))⟩, ⟨(some 6), none, 0, (.load 1 false (.t 5))⟩, ⟨(some 7), none, 0, (.faddr 0 (.t 3))⟩, ⟨(some 8), none, 0, (.load 1 false (.t 7))⟩, ⟨(some 9), none, 0, (.bin .neq (.t 6) (.t 8))⟩]
def R239_2 : List AR := [⟨(some 4), none, 0, (.mov (.k (.bool false)))⟩]
def R239_3 : List AR := [⟨(some 10), none, 0, (.faddr 1 (.t 2))⟩, ⟨(some 11), none, 0, (.load 5 true (.t 10))⟩, ⟨(some 12), none, 0, (.faddr 1 (.t 3))⟩, ⟨(some 13), none, 0, (.load 5 true (.t 12))⟩, ⟨(some 14), none, 0, (.call false 0 0 252 [(.t 11), (.t 13)])⟩, ⟨(some 15), none, 0, (.not (.t 14))⟩]
def R239_4 : List AR := [⟨(some 4), none, 0, (.mov (.k (.bool false)))⟩]
def R239_5 : List AR := [⟨(some 4), none, 0, (.mov (.k (.bool true)))⟩]
def A239_0 : AC := (.seq (.reg 0 R239_5) .ret)
def A239_1 : AC := (.seq (.seq (.reg 0 R239_3) (.cond (.t 15) (.seq (.reg 0 R239_4) .ret) .skip)) A239_0)
def A239_2 : AC := (.seq (.seq (.reg 0 R239_1) (.cond (.t 9) (.seq (.reg 0 R239_2) .ret) .skip)) A239_1)
def A239 : AC := (.seq (.reg 2 R239_0) A239_2)
def O239 : List AO := [(.mov (.t 4))]
def G239 : Fns := ⟨fun f => false, fun f => 0, false⟩
noncomputable def X239 : Cx := ⟨Tryz.prog, G239, drawD, 16, [0, 1, 2, 3, 4, 9, 15]⟩
theorem c239 : (Tryz.f239.body).bind (compC X239.P X239.Γ X239.D X239.nt) = some A239 := by kernel_rfl
theorem o239 : compRes X239.P Tryz.f239.results.toList = some O239 := by kernel_rfl
theorem v239 : X239.vs = [0, 1, 2, 3, 4, 9, 15] := rfl
theorem p239 : X239.P = Tryz.prog := rfl
theorem toEntry_ok (a : Entry) : FS Tryz.prog 251 [] [.agg a.c] (.agg a.c) [] := by
  refine FS.of (X := X251) (ac := A251) (os := O251) Tryz.func251 (by rfl) (by rfl) (by kernel_rfl) o251 (Nat.le_of_ble_eq_true rfl) ?_
  show AWP X251 A251 (Ends X251.vs O251 0 _ _) [.agg a.c, .tup [], .tup [], .tup []] []
  obtain ⟨Q, hQ⟩ : ∃ Q, Q = Ends X251.vs O251 0 (.agg a.c) [] := ⟨_, rfl⟩
  rw [← hQ]
  refine awp_sr ?_
  simp only [go_sem, R251_0, v251, p251, Entry.c]
  refine awp_sr ?_
  simp only [go_sem, R251_1, v251, p251]
  refine awp_sr ?_
  simp only [go_sem, R251_2, v251, p251]
  refine awp_sr ?_
  simp only [go_sem, R251_3, v251, p251]
  refine awp_sr ?_
  simp only [go_sem, R251_4, v251, p251]
  refine awp_sr ?_
  simp only [go_sem, R251_5, v251, p251]
  refine awp_sr ?_
  simp only [go_sem, R251_6, v251, p251]
  refine awp_sr ?_
  simp only [go_sem, R251_7, v251, p251]
  refine awp_ret ?_
  try simp only [go_sem]
  rw [hQ]
  exact Ends.plain (.inl rfl) rfl (.refl _) rfl
theorem toItem_ok (a : Item) : FS Tryz.prog 237 [] [.agg a.c] (.agg a.c) [] := by
  refine FS.of (X := X237) (ac := A237) (os := O237) Tryz.func237 (by rfl) (by rfl) (by kernel_rfl) o237 (Nat.le_of_ble_eq_true rfl) ?_
  show AWP X237 A237 (Ends X237.vs O237 0 _ _) [.agg a.c, .tup [], .tup [], .tup []] []
  obtain ⟨Q, hQ⟩ : ∃ Q, Q = Ends X237.vs O237 0 (.agg a.c) [] := ⟨_, rfl⟩
  rw [← hQ]
  refine awp_sr ?_
  simp only [go_sem, R237_0, v237, p237, Item.c]
  refine awp_sr ?_
  simp only [go_sem, R237_1, v237, p237]
  refine awp_sr ?_
  simp only [go_sem, R237_2, v237, p237]
  refine awp_sr ?_
  simp only [go_sem, R237_3, v237, p237]
  refine run_see (toEntry_ok a.entry) false (Views.refl rfl) rfl (fun j hj => by omega) (fun h => by cases h) ?_
  simp only [go_sem, v237, p237, Entry.c]
  refine awp_sr ?_
  simp only [go_sem, R237_4, v237, p237]
  refine awp_ret ?_
  try simp only [go_sem]
  rw [hQ]
  exact Ends.plain (.inl rfl) rfl (.refl _) rfl
theorem szEntry_ok (a : Entry) (n : Nat) (hn : n ≤ 1048576) (ha : a.data.size ≤ 1000000000000000) : FS Tryz.prog 250 [] [.agg a.c, .int .i64 n] (.int .i64 (left n a.sz)) [] := by
  refine FS.of (X := X250) (ac := A250) (os := O250) Tryz.func250 (by rfl) (by rfl) (by kernel_rfl) o250 (Nat.le_of_ble_eq_true rfl) ?_
  show AWP X250 A250 (Ends X250.vs O250 0 _ _) [.agg a.c, .int .i64 n, .tup [], .tup [], .tup []] []
  obtain ⟨Q, hQ⟩ : ∃ Q, Q = Ends X250.vs O250 0 (.int .i64 (left n a.sz)) [] := ⟨_, rfl⟩
  rw [← hQ]
  refine awp_sr ?_
  simp only [go_sem, R250_0, v250, p250, Entry.c]
  refine awp_sr ?_
  simp only [go_sem, R250_1, v250, p250, wrap_i64 (n := (n : Int) - a.data.size) (by omega) (by omega)]
  refine awp_sr2 ?_
  simp only [go_sem, R250_2, v250, p250]
  refine awp_if rfl ?_ ?_
  · intro h
    refine awp_sr ?_
    simp only [go_sem, R250_3, v250, p250]
    refine awp_ret ?_
    try simp only [go_sem]
    rw [hQ]
    refine Ends.plain (.inl rfl) rfl ?_ rfl
    rw [left, if_neg (by simp only [Entry.sz]; omega)]
    exact .refl _
  · intro h
    refine awp_skip ?_
    simp only [go_sem]
    refine awp_sr ?_
    simp only [go_sem, R250_4, v250, p250]
    refine awp_ret ?_
    try simp only [go_sem]
    rw [hQ]
    refine Ends.plain (.inl rfl) rfl ?_ rfl
    rw [left, if_pos (by simp only [Entry.sz]; omega), show ((n - a.sz : Nat) : Int) = n - a.data.size by simp only [Entry.sz]; omega]
    exact .refl _
theorem szItem_ok (a : Item) (n : Nat) (hn : n ≤ 1048576) (ha : a.entry.data.size ≤ 1000000000000000) : FS Tryz.prog 236 [] [.agg a.c, .int .i64 n] (.int .i64 (left n a.sz)) [] := by
  refine FS.of (X := X236) (ac := A236) (os := O236) Tryz.func236 (by rfl) (by rfl) (by kernel_rfl) o236 (Nat.le_of_ble_eq_true rfl) ?_
  show AWP X236 A236 (Ends X236.vs O236 0 _ _) [.agg a.c, .int .i64 n, .tup [], .tup [], .tup []] []
  obtain ⟨Q, hQ⟩ : ∃ Q, Q = Ends X236.vs O236 0 (.int .i64 (left n a.sz)) [] := ⟨_, rfl⟩
  rw [← hQ]
  refine awp_sr ?_
  simp only [go_sem, R236_0, v236, p236, Item.c]
  refine awp_sr ?_
  simp only [go_sem, R236_1, v236, p236]
  refine run_see (szEntry_ok a.entry n hn ha) false (Views.refl rfl) rfl (fun j hj => by omega) (fun h => by cases h) ?_
  simp only [go_sem, v236, p236]
  refine awp_sr2 ?_
  simp only [go_sem, R236_2, v236, p236]
  refine awp_if rfl ?_ ?_
  · intro h
    refine awp_sr ?_
    simp only [go_sem, R236_3, v236, p236]
    refine awp_ret ?_
    try simp only [go_sem]
    rw [hQ]
    exact Ends.is (.inl rfl) rfl (congrArg (V.int .i64) (left_neg (s := a.sz) h).symm) rfl
  · intro h
    refine awp_skip ?_
    simp only [go_sem]
    refine awp_sr ?_
    simp only [go_sem, R236_4, v236, p236]
    refine awp_ret ?_
    try simp only [go_sem]
    rw [hQ]
    exact Ends.plain (.inl rfl) rfl (.refl _) rfl
theorem eqEntry_ok (a b : Entry) : FS Tryz.prog 252 [] [.agg a.c, .agg b.c] (.bool (decide (a = b))) [] := by
  refine FS.of (X := X252) (ac := A252) (os := O252) Tryz.func252 (by rfl) (by rfl) (by kernel_rfl) o252 (Nat.le_of_ble_eq_true rfl) ?_
  show AWP X252 A252 (Ends X252.vs O252 0 _ _) [.agg a.c, .agg b.c, .tup [], .tup [], .tup [], .tup [], .tup [], .tup [], .tup [], .tup []] []
  obtain ⟨Q, hQ⟩ : ∃ Q, Q = Ends X252.vs O252 0 (.bool (decide (a = b))) [] := ⟨_, rfl⟩
  rw [← hQ]
  have no : ∀ L σ, look X252.vs L 4 = .bool false → a ≠ b → Q .ret L σ := by
    intro L σ h1 h2
    rw [hQ]
    refine Ends.is (.inl rfl) (rs := [.bool false]) (by simp only [go_sem, O252, h1]) ?_ rfl
    simp [packV, h2]
  refine awp_sr ?_
  simp only [go_sem, R252_0, v252, p252, Entry.c]
  refine awp_sr2 ?_
  simp only [go_sem, R252_1, v252, p252]
  refine awp_if rfl ?_ ?_
  · intro h
    refine awp_sr ?_
    simp only [go_sem, R252_2, v252, p252]
    refine awp_ret ?_
    try simp only [go_sem]
    exact no _ _ rfl fun e => h (by rw [e])
  intro h1
  refine awp_skip ?_
  simp only [go_sem]
  refine awp_sr2 ?_
  simp only [go_sem, R252_3, v252, p252]
  refine awp_if rfl ?_ ?_
  · intro h
    refine awp_sr ?_
    simp only [go_sem, R252_4, v252, p252]
    refine awp_ret ?_
    try simp only [go_sem]
    exact no _ _ rfl fun e => h (by rw [e])
  intro h2
  refine awp_skip ?_
  simp only [go_sem]
  refine awp_sr2 ?_
  simp only [go_sem, R252_5, v252, p252]
  refine awp_if rfl ?_ ?_
  · intro h
    refine awp_sr ?_
    simp only [go_sem, R252_6, v252, p252]
    refine awp_ret ?_
    try simp only [go_sem]
    exact no _ _ rfl fun e => h (by rw [e])
  intro h3
  refine awp_skip ?_
  simp only [go_sem]
  refine awp_sr2 ?_
  simp only [go_sem, R252_7, v252, p252]
  refine awp_if rfl ?_ ?_
  · intro h
    refine awp_sr ?_
    simp only [go_sem, R252_8, v252, p252]
    refine awp_ret ?_
    try simp only [go_sem]
    exact no _ _ rfl fun e => h (by rw [e])
  intro h4
  refine awp_skip ?_
  simp only [go_sem]
  refine awp_sr2 ?_
  simp only [go_sem, R252_9, v252, p252]
  refine awp_if rfl ?_ ?_
  · intro h
    refine awp_sr ?_
    simp only [go_sem, R252_10, v252, p252]
    refine awp_ret ?_
    try simp only [go_sem]
    exact no _ _ rfl fun e => h (by rw [e])
  intro h5
  refine awp_skip ?_
  simp only [go_sem]
  refine awp_sr ?_
  simp only [go_sem, R252_11, v252, p252]
  refine awp_ret ?_
  try simp only [go_sem]
  rw [hQ]
  refine Ends.is (.inl rfl) rfl ?_ rfl
  have : a = b := by
    cases a; cases b
    simp at h1 h2 h3 h4 h5
    simp [h1, h2, h3, h4, h5]
  rw [decide_eq_true this]
  rfl
end Go.Proofs.YtffigokicddekaaGreat.Abs
/- Copies, sizes and equality, walked: items, floors. No condition. -/
set_option linter.unusedVariables false
set_option linter.unusedSimpArgs false
set_option maxRecDepth 10000
namespace Go.Proofs.YtffigokicddekaaGreat.Abs
open Go Go.Proofs
def R210_0 : List AR := [⟨(some 2), none, 0, (.mov (.k .nl))⟩]
def R210_1 : List AR := [⟨(some 5), none, 0, (.mov (.t 0))⟩, ⟨(some 6), none, 0, (.len (.t 5))⟩, ⟨(some 7), none, 0, (.mks 0 6 56 [(.int .i64 0), (.int .i64 0), (.int .i64 0), (.int .i64 0), (.int .i64 0), (.str ⟨⟨[]⟩⟩)] (.t 6) (.t 6))⟩, ⟨(some 3), none, 0, (.mov (.t 7))⟩]
def R210_2 : List AR := [⟨(some 4), none, 0, (.mov (.k (.int .i64 0)))⟩]
def R210_3 : List AR := [⟨(some 8), none, 0, (.mov (.t 4))⟩, ⟨(some 9), none, 0, (.mov (.t 0))⟩, ⟨(some 10), none, 0, (.len (.t 9))⟩, ⟨(some 11), none, 0, (.bin .lss (.t 8) (.t 10))⟩]
def R210_4 : List AR := [⟨(some 14), none, 0, (.mov (.t 3))⟩, ⟨(some 15), none, 0, (.mov (.t 4))⟩, ⟨(some 16), none, 0, (.mov (.t 0))⟩, ⟨(some 17), none, 0, (.mov (.t 4))⟩, ⟨(some 18), none, 0, (.iaddr 6 (.t 16) (.t 17))⟩, ⟨(some 19), none, 0, (.load 6 true (.t 18))⟩, ⟨(some 20), none, 0, (.call false 0 0 237 [(.t 19)])⟩, ⟨(some 21), none, 0, (.iaddr 6 (.t 14) (.t 15))⟩, ⟨none, none, 0, (.store 6 (.t 21) (.t 20))⟩]
def R210_5 : List AR := [⟨(some 12), none, 0, (.mov (.t 4))⟩, ⟨(some 13), none, 0, (.bin .add (.t 12) (.k (.int .i64 1)))⟩, ⟨(some 4), none, 0, (.mov (.t 13))⟩]
def A210_0 : AC := (.seq (.block 1 (.reg 0 R210_4)) (.reg 0 R210_5))
def L210_0 : AC := (.seq (.seq (.reg 0 R210_3) (.cond (.t 11) .skip (.exit 0))) A210_0)
def R210_6 : List AR := [⟨(some 22), none, 0, (.mov (.t 3))⟩, ⟨(some 2), none, 0, (.mov (.t 22))⟩]
def A210_1 : AC := (.seq (.reg 0 R210_6) .ret)
def A210_2 : AC := (.seq (.seq (.reg 0 R210_2) (.block 0 (.loop L210_0))) A210_1)
def A210_3 : AC := (.seq (.reg 1 R210_1) A210_2)
def A210 : AC := (.seq (.reg 0 R210_0) A210_3)
def O210 : List AO := [(.mov (.t 2))]
def G210 : Fns := ⟨fun f => false, fun f => 0, false⟩
noncomputable def X210 : Cx := ⟨Tryz.prog, G210, drawD, 23, [0, 2, 3, 4, 11]⟩
theorem c210 : (Tryz.f210.body).bind (compC X210.P X210.Γ X210.D X210.nt) = some A210 := by kernel_rfl
theorem o210 : compRes X210.P Tryz.f210.results.toList = some O210 := by kernel_rfl
theorem v210 : X210.vs = [0, 2, 3, 4, 11] := rfl
theorem p210 : X210.P = Tryz.prog := rfl
def R207_0 : List AR := [⟨(some 4), none, 0, (.mov (.k (.int .i64 0)))⟩]
def R207_1 : List AR := [⟨(some 6), none, 0, (.mov (.t 1))⟩, ⟨(some 7), none, 0, (.mov (.t 0))⟩, ⟨(some 8), none, 0, (.len (.t 7))⟩, ⟨(some 9), none, 0, (.bin .sub (.t 6) (.t 8))⟩, ⟨(some 1), none, 0, (.mov (.t 9))⟩]
def R207_2 : List AR := [⟨(some 10), none, 0, (.mov (.t 1))⟩, ⟨(some 11), none, 0, (.bin .lss (.t 10) (.k (.int .i64 0)))⟩]
def R207_3 : List AR := [⟨(some 4), none, 0, (.mov (.k (.int .i64 (-1))))⟩]
def R207_4 : List AR := [⟨(some 5), none, 0, (.mov (.k (.int .i64 0)))⟩]
def R207_5 : List AR := [⟨(some 12), none, 0, (.mov (.t 5))⟩, ⟨(some 13), none, 0, (.mov (.t 0))⟩, ⟨(some 14), none, 0, (.len (.t 13))⟩, ⟨(some 15), none, 0, (.bin .lss (.t 12) (.t 14))⟩]
def R207_6 : List AR := [⟨(some 18), none, 0, (.mov (.t 0))⟩, ⟨(some 19), none, 0, (.mov (.t 5))⟩, ⟨(some 20), none, 0, (.iaddr 6 (.t 18) (.t 19))⟩, ⟨(some 21), none, 0, (.load 6 true (.t 20))⟩, ⟨(some 22), none, 0, (.mov (.t 1))⟩, ⟨(some 23), none, 0, (.call false 0 0 236 [(.t 21), (.t 22)])⟩, ⟨(some 1), none, 0, (.mov (.t 23))⟩]
def R207_7 : List AR := [⟨(some 24), none, 0, (.mov (.t 1))⟩, ⟨(some 25), none, 0, (.bin .lss (.t 24) (.k (.int .i64 0)))⟩]
def R207_8 : List AR := [⟨(some 4), none, 0, (.mov (.k (.int .i64 (-1))))⟩]
def A207_0 : AC := (.seq (.reg 0 R207_7) (.cond (.t 25) (.seq (.reg 0 R207_8) .ret) .skip))
def R207_9 : List AR := [⟨(some 16), none, 0, (.mov (.t 5))⟩, ⟨(some 17), none, 0, (.bin .add (.t 16) (.k (.int .i64 1)))⟩, ⟨(some 5), none, 0, (.mov (.t 17))⟩]
def A207_1 : AC := (.seq (.block 1 (.seq (.reg 0 R207_6) A207_0)) (.reg 0 R207_9))
def L207_0 : AC := (.seq (.seq (.reg 0 R207_5) (.cond (.t 15) .skip (.exit 0))) A207_1)
def R207_10 : List AR := [⟨(some 26), none, 0, (.mov (.t 1))⟩, ⟨(some 4), none, 0, (.mov (.t 26))⟩]
def A207_2 : AC := (.seq (.reg 0 R207_10) .ret)
def A207_3 : AC := (.seq (.seq (.reg 0 R207_4) (.block 0 (.loop L207_0))) A207_2)
def A207_4 : AC := (.seq (.seq (.reg 0 R207_2) (.cond (.t 11) (.seq (.reg 0 R207_3) .ret) .skip)) A207_3)
def A207_5 : AC := (.seq (.reg 0 R207_1) A207_4)
def A207 : AC := (.seq (.reg 0 R207_0) A207_5)
def O207 : List AO := [(.mov (.t 4))]
def G207 : Fns := ⟨fun f => false, fun f => 0, false⟩
noncomputable def X207 : Cx := ⟨Tryz.prog, G207, drawD, 27, [0, 1, 4, 5, 11, 15, 25]⟩
theorem c207 : (Tryz.f207.body).bind (compC X207.P X207.Γ X207.D X207.nt) = some A207 := by kernel_rfl
theorem o207 : compRes X207.P Tryz.f207.results.toList = some O207 := by kernel_rfl
theorem v207 : X207.vs = [0, 1, 4, 5, 11, 15, 25] := rfl
theorem p207 : X207.P = Tryz.prog := rfl
def R208_0 : List AR := [⟨(some 4), none, 0, (.mov (.k (.int .i64 0)))⟩]
def R208_1 : List AR := [⟨(some 5), none, 0, (.mov (.t 1))⟩, ⟨(some 6), none, 0, (.mov (.t 0))⟩, ⟨(some 7), none, 0, (.len (.t 6))⟩, ⟨(some 8), none, 0, (.bin .sub (.t 5) (.t 7))⟩, ⟨(some 1), none, 0, (.mov (.t 8))⟩]
def R208_2 : List AR := [⟨(some 9), none, 0, (.mov (.t 1))⟩, ⟨(some 10), none, 0, (.bin .lss (.t 9) (.k (.int .i64 0)))⟩]
def R208_3 : List AR := [⟨(some 4), none, 0, (.mov (.k (.int .i64 (-1))))⟩]
def R208_4 : List AR := [⟨(some 11), none, 0, (.mov (.t 1))⟩, ⟨(some 4), none, 0, (.mov (.t 11))⟩]
def A208_0 : AC := (.seq (.reg 0 R208_4) .ret)
def A208_1 : AC := (.seq (.seq (.reg 0 R208_2) (.cond (.t 10) (.seq (.reg 0 R208_3) .ret) .skip)) A208_0)
def A208_2 : AC := (.seq (.reg 0 R208_1) A208_1)
def A208 : AC := (.seq (.reg 0 R208_0) A208_2)
def O208 : List AO := [(.mov (.t 4))]
def G208 : Fns := ⟨fun f => false, fun f => 0, false⟩
noncomputable def X208 : Cx := ⟨Tryz.prog, G208, drawD, 12, [0, 1, 4, 10]⟩
theorem c208 : (Tryz.f208.body).bind (compC X208.P X208.Γ X208.D X208.nt) = some A208 := by kernel_rfl
theorem o208 : compRes X208.P Tryz.f208.results.toList = some O208 := by kernel_rfl
theorem v208 : X208.vs = [0, 1, 4, 10] := rfl
theorem p208 : X208.P = Tryz.prog := rfl
def R215_0 : List AR := [⟨(some 4), none, 0, (.mov (.k (.bool false)))⟩]
def R215_1 : List AR := [⟨(some 6), none, 0, (.mov (.t 0))⟩, ⟨(some 7), none, 0, (.len (.t 6))⟩, ⟨(some 8), none, 0, (.mov (.t 1))⟩, ⟨(some 9), none, 0, (.len (.t 8))⟩, ⟨(some 10), none, 0, (.bin .neq (.t 7) (.t 9))⟩]
def R215_2 : List AR := [⟨(some 4), none, 0, (.mov (.k (.bool false)))⟩]
def R215_3 : List AR := [⟨(some 5), none, 0, (.mov (.k (.int .i64 0)))⟩]
def R215_4 : List AR := [⟨(some 11), none, 0, (.mov (.t 5))⟩, ⟨(some 12), none, 0, (.mov (.t 0))⟩, ⟨(some 13), none, 0, (.len (.t 12))⟩, ⟨(some 14), none, 0, (.bin .lss (.t 11) (.t 13))⟩]
def R215_5 : List AR := [⟨(some 17), none, 0, (.mov (.t 0))⟩, ⟨(some 18), none, 0, (.mov (.t 5))⟩, ⟨(some 19), none, 0, (.iaddr 6 (.t 17) (.t 18))⟩, ⟨(some 20), none, 0, (.load 6 true (.t 19))⟩, ⟨(some 21), none, 0, (.mov (.t 1))⟩, ⟨(some 22), none, 0, (.mov (.t 5))⟩, ⟨(some 23), none, 0, (.iaddr 6 (.t 21) (.t 22))⟩, ⟨(some 24), none, 0, (.load 6 true (.t 23))⟩, ⟨(some 25), none, 0, (.call false 0 0 239 [(.t 20), (.t 24)])⟩, ⟨(some 26), none, 0, (.not (.t 25))⟩]
def R215_6 : List AR := [⟨(some 4), none, 0, (.mov (.k (.bool false)))⟩]
def R215_7 : List AR := [⟨(some 15), none, 0, (.mov (.t 5))⟩, ⟨(some 16), none, 0, (.bin .add (.t 15) (.k (.int .i64 1)))⟩, ⟨(some 5), none, 0, (.mov (.t 16))⟩]
def A215_0 : AC := (.seq (.block 1 (.seq (.draw 0 R215_5) (.cond (.t 26) (.seq (.reg 0 R215_6) .ret) .skip))) (.reg 0 R215_7))
def L215_0 : AC := (.seq (.seq (.reg 0 R215_4) (.cond (.t 14) .skip (.exit 0))) A215_0)
def R215_8 : List AR := [⟨(some 4), none, 0, (.mov (.k (.bool true)))⟩]
def A215_1 : AC := (.seq (.reg 0 R215_8) .ret)
def A215_2 : AC := (.seq (.seq (.reg 0 R215_3) (.block 0 (.loop L215_0))) A215_1)
def A215_3 : AC := (.seq (.seq (.reg 0 R215_1) (.cond (.t 10) (.seq (.reg 0 R215_2) .ret) .skip)) A215_2)
def A215 : AC := (.seq (.reg 0 R215_0) A215_3)
def O215 : List AO := [(.mov (.t 4))]
def G215 : Fns := ⟨fun f => false, fun f => 0, false⟩
noncomputable def X215 : Cx := ⟨Tryz.prog, G215, drawD, 27, [0, 1, 4, 5, 10, 14, 26]⟩
theorem c215 : (Tryz.f215.body).bind (compC X215.P X215.Γ X215.D X215.nt) = some A215 := by kernel_rfl
theorem o215 : compRes X215.P Tryz.f215.results.toList = some O215 := by kernel_rfl
theorem v215 : X215.vs = [0, 1, 4, 5, 10, 14, 26] := rfl
theorem p215 : X215.P = Tryz.prog := rfl
theorem toItemS_ok (xs : List Item) (h : szS Item.sz xs ≤ 1048576) : FS Tryz.prog 210 [] [.fz 6 (rw_ Item.c xs)] (.fz 6 (rw_ Item.c xs)) [] := by
  have hx : xs.length ≤ 1048576 := by unfold szS at h; omega
  refine FS.of (X := X210) (ac := A210) (os := O210) Tryz.func210 (by rfl) (by rfl) (by kernel_rfl) o210 (Nat.le_of_ble_eq_true rfl) ?_
  show AWP X210 A210 (Ends X210.vs O210 0 _ _) [.fz 6 (rw_ Item.c xs), .tup [], .tup [], .tup [], .tup []] []
  obtain ⟨Q, hQ⟩ : ∃ Q, Q = Ends X210.vs O210 0 (.fz 6 (rw_ Item.c xs)) [] := ⟨_, rfl⟩
  rw [← hQ]
  refine awp_sr ?_
  simp only [go_sem, R210_0, v210, p210]
  refine awp_sr ?_
  simp only [go_sem, R210_1, v210, p210]
  refine ⟨by omega, ?_⟩
  refine awp_sr2 ?_
  simp only [go_sem, R210_2, v210, p210]
  refine awp_for (fun m L σ => ∃ i x11 ys, m = xs.length - i ∧ i ≤ xs.length ∧ ys.length = xs.length ∧ ys.take i = xs.take i ∧ L = [.fz 6 (rw_ Item.c xs), .nl, .sl 0 6 0 xs.length, .int .i64 (i : Nat), x11] ∧ σ = [.live ⟨6, rw_ Item.c ys⟩]) xs.length
    ⟨0, _, List.replicate xs.length Item.zero, rfl, Nat.zero_le _, by simp, by simp, rfl, congrArg (fun r => [Slot.live ⟨6, r⟩]) (rw_rep Item.c xs.length Item.zero)⟩ ?_
  rintro m L σ ⟨i, x11, ys, rfl, hi, hl, ht, rfl, rfl⟩
  refine awp_sr2 ?_
  simp only [go_sem, R210_3, v210, p210]
  refine awp_if rfl ?_ ?_
  · intro h1
    have h1 : i < xs.length := by omega
    have h2 : i < ys.length := by omega
    refine awp_skip ?_
    simp only [go_sem]
    refine awp_seq (awp_block ?_)
    refine awp_reg ?_
    simp only [go_sem, R210_4, v210, p210, rw_at _ h1, Item.c]
    refine run_see (toItem_ok xs[i]) false (Views.refl rfl) rfl (fun j hj => by omega) (fun h => by cases h) ?_
    simp only [go_sem, v210, p210, rw_at _ h2, Item.c]
    refine ⟨by omega, ?_⟩
    refine awp_reg ?_
    simp only [go_sem, R210_5, v210, p210, wrap_succ (i := i) (by omega)]
    refine ⟨xs.length - (i + 1), by omega, i + 1, _, ys.set i xs[i], rfl, by omega, by simpa using hl, ?_, rfl, congrArg (fun r => [Slot.live ⟨6, r⟩]) (rw_set Item.c ys i xs[i])⟩
    rw [List.take_succ_eq_append_getElem h1, List.take_succ_eq_append_getElem (by simpa using h2), List.take_set_of_le (Nat.le_refl _), ht]
    simp
  · intro h1
    refine awp_exit ?_
    simp only [go_sem]
    refine awp_sr ?_
    simp only [go_sem, R210_6, v210, p210]
    refine awp_ret ?_
    try simp only [go_sem]
    have : i = xs.length := by omega
    subst this
    rw [List.take_length, ← hl, List.take_length] at ht
    subst ht
    rw [hQ]
    exact Ends.frzSl (.inl rfl) rfl rfl (by simp [rw_]) (rw_closed Item.c_closed _)
theorem szItemS_ok (xs : List Item) (n : Nat) (hn : n ≤ 1048576) (ha : okS Item.ok xs) : FS Tryz.prog 207 [] [.fz 6 (rw_ Item.c xs), .int .i64 n] (.int .i64 (left n (szS Item.sz xs))) [] := by
  refine FS.of (X := X207) (ac := A207) (os := O207) Tryz.func207 (by rfl) (by rfl) (by kernel_rfl) o207 (Nat.le_of_ble_eq_true rfl) ?_
  show AWP X207 A207 (Ends X207.vs O207 0 _ _) [.fz 6 (rw_ Item.c xs), .int .i64 n, .tup [], .tup [], .tup [], .tup [], .tup []] []
  obtain ⟨Q, hQ⟩ : ∃ Q, Q = Ends X207.vs O207 0 (.int .i64 (left n (szS Item.sz xs))) [] := ⟨_, rfl⟩
  rw [← hQ]
  obtain ⟨ha1, ha2⟩ := ha
  have ha1 : xs.length ≤ 1000000000000000 := ha1
  refine awp_sr ?_
  simp only [go_sem, R207_0, v207, p207]
  refine awp_sr ?_
  simp only [go_sem, R207_1, v207, p207, wrap_i64 (n := (n : Int) - xs.length) (by omega) (by omega)]
  refine awp_sr2 ?_
  simp only [go_sem, R207_2, v207, p207]
  refine awp_if rfl ?_ ?_
  · intro h
    refine awp_sr ?_
    simp only [go_sem, R207_3, v207, p207]
    refine awp_ret ?_
    try simp only [go_sem]
    rw [hQ]
    exact Ends.is (.inl rfl) rfl (congrArg (V.int .i64) (left_no (by unfold szS; omega)).symm) rfl
  intro h
  have h0 : xs.length ≤ n := by omega
  refine awp_skip ?_
  simp only [go_sem]
  refine awp_sr2 ?_
  simp only [go_sem, R207_4, v207, p207]
  refine awp_for (fun m L σ => ∃ i x11 x15 x25, m = xs.length - i ∧ i ≤ xs.length ∧ xs.length + sumBy Item.sz (xs.take i) ≤ n ∧ L = [.fz 6 (rw_ Item.c xs), .int .i64 ((n - (xs.length + sumBy Item.sz (xs.take i)) : Nat) : Int), .int .i64 0, .int .i64 (i : Nat), x11, x15, x25]) xs.length
    ⟨0, _, _, _, rfl, Nat.zero_le _, by simpa [sumBy] using h0, by rw [show ((n : Int) - xs.length) = ((n - (xs.length + sumBy Item.sz (xs.take 0)) : Nat) : Int) by simp [sumBy]; omega]; rfl⟩ ?_
  rintro m L σ ⟨i, x11, x15, x25, rfl, hi, hs, rfl⟩
  refine awp_sr2 ?_
  simp only [go_sem, R207_5, v207, p207]
  refine awp_if rfl ?_ ?_
  · intro h1
    have h1 : i < xs.length := by omega
    refine awp_skip ?_
    simp only [go_sem]
    refine awp_seq (awp_block ?_)
    refine awp_sr ?_
    simp only [go_sem, R207_6, v207, p207, rw_at _ h1, Item.c]
    refine run_see (szItem_ok xs[i] (n - (xs.length + sumBy Item.sz (xs.take i))) (by omega) (ha2 _ (List.getElem_mem h1))) false (Views.refl rfl) rfl (fun j hj => by omega) (fun h => by cases h) ?_
    simp only [go_sem, v207, p207]
    have e1 := sumBy_take Item.sz h1
    have e2 := sumBy_le Item.sz xs (i + 1)
    refine awp_sr ?_
    simp only [go_sem, R207_7, v207, p207]
    refine awp_if rfl ?_ ?_
    · intro h2
      refine awp_sr ?_
      simp only [go_sem, R207_8, v207, p207]
      refine awp_ret ?_
      try simp only [go_sem]
      rw [hQ]
      refine Ends.is (.inl rfl) rfl (congrArg (V.int .i64) (left_no ?_).symm) rfl
      have : ¬ Item.sz xs[i] ≤ n - (xs.length + sumBy Item.sz (xs.take i)) := fun e => by rw [left_is e] at h2; omega
      unfold szS; omega
    · intro h2
      obtain ⟨e3, e4⟩ := left_pos h2
      refine awp_skip ?_
      simp only [go_sem]
      refine awp_reg ?_
      simp only [go_sem, R207_9, v207, p207, wrap_succ (i := i) (by omega)]
      rw [e3, show (n - (xs.length + sumBy Item.sz (xs.take i)) - Item.sz xs[i] : Nat) = n - (xs.length + sumBy Item.sz (xs.take (i + 1))) by omega]
      exact ⟨xs.length - (i + 1), by omega, i + 1, _, _, _, rfl, by omega, by omega, rfl⟩
  · intro h1
    refine awp_exit ?_
    simp only [go_sem]
    refine awp_sr ?_
    simp only [go_sem, R207_10, v207, p207]
    refine awp_ret ?_
    try simp only [go_sem]
    have : i = xs.length := by omega
    subst this
    rw [hQ]
    refine Ends.is (.inl rfl) rfl (congrArg (V.int .i64) ?_) rfl
    rw [left_is (by unfold szS; rw [List.take_length] at hs; omega), List.take_length]
    rfl
theorem szFloorS_ok (xs : List Floor) (n : Nat) (hn : n ≤ 1048576) (ha : xs.length ≤ big) : FS Tryz.prog 208 [] [.fz 2 (rw_ Floor.c xs), .int .i64 n] (.int .i64 (left n xs.length)) [] := by
  refine FS.of (X := X208) (ac := A208) (os := O208) Tryz.func208 (by rfl) (by rfl) (by kernel_rfl) o208 (Nat.le_of_ble_eq_true rfl) ?_
  show AWP X208 A208 (Ends X208.vs O208 0 _ _) [.fz 2 (rw_ Floor.c xs), .int .i64 n, .tup [], .tup []] []
  obtain ⟨Q, hQ⟩ : ∃ Q, Q = Ends X208.vs O208 0 (.int .i64 (left n xs.length)) [] := ⟨_, rfl⟩
  rw [← hQ]
  have ha : xs.length ≤ 1000000000000000 := ha
  refine awp_sr ?_
  simp only [go_sem, R208_0, v208, p208]
  refine awp_sr ?_
  simp only [go_sem, R208_1, v208, p208, wrap_i64 (n := (n : Int) - xs.length) (by omega) (by omega)]
  refine awp_sr2 ?_
  simp only [go_sem, R208_2, v208, p208]
  refine awp_if rfl ?_ ?_
  · intro h
    refine awp_sr ?_
    simp only [go_sem, R208_3, v208, p208]
    refine awp_ret ?_
    try simp only [go_sem]
    rw [hQ]
    exact Ends.is (.inl rfl) rfl (congrArg (V.int .i64) (left_no (by omega)).symm) rfl
  intro h
  refine awp_skip ?_
  simp only [go_sem]
  refine awp_sr ?_
  simp only [go_sem, R208_4, v208, p208]
  refine awp_ret ?_
  try simp only [go_sem]
  rw [hQ]
  exact Ends.is (.inl rfl) rfl (congrArg (V.int .i64) (by rw [left_is (by omega)]; omega)) rfl
theorem eqItem_ok (a b : Item) : FS Tryz.prog 239 [] [.agg a.c, .agg b.c] (.bool (decide (a = b))) [] := by
  refine FS.of (X := X239) (ac := A239) (os := O239) Tryz.func239 (by rfl) (by rfl) (by kernel_rfl) o239 (Nat.le_of_ble_eq_true rfl) ?_
  show AWP X239 A239 (Ends X239.vs O239 0 _ _) [.agg a.c, .agg b.c, .tup [], .tup [], .tup [], .tup [], .tup []] []
  obtain ⟨Q, hQ⟩ : ∃ Q, Q = Ends X239.vs O239 0 (.bool (decide (a = b))) [] := ⟨_, rfl⟩
  rw [← hQ]
  have fin : ∀ L σ q, look X239.vs L 4 = .bool q → q = decide (a = b) → Q .ret L σ := by
    intro L σ q h1 h2
    rw [hQ]
    refine Ends.is (.inl rfl) (rs := [.bool q]) (by simp only [go_sem, O239, h1]) ?_ rfl
    simp [packV, h2]
  refine awp_sr ?_
  simp only [go_sem, R239_0, v239, p239, Item.c]
  refine awp_sr2 ?_
  simp only [go_sem, R239_1, v239, p239]
  refine awp_if rfl ?_ ?_
  · intro h
    refine awp_sr ?_
    simp only [go_sem, R239_2, v239, p239]
    refine awp_ret ?_
    try simp only [go_sem]
    exact fin _ _ _ rfl (decide_eq_false fun e => h (by rw [e])).symm
  intro h1
  refine awp_skip ?_
  simp only [go_sem]
  refine awp_sr2 ?_
  simp only [go_sem, R239_3, v239, p239]
  refine run_see (eqEntry_ok a.entry b.entry) false (Views.refl rfl) rfl (fun j hj => by omega) (fun h => by cases h) ?_
  simp only [go_sem, v239, p239]
  refine awp_if' rfl ?_ ?_
  · intro h
    refine awp_sr ?_
    simp only [go_sem, R239_4, v239, p239]
    refine awp_ret ?_
    try simp only [go_sem]
    exact fin _ _ _ rfl (decide_eq_false fun e => h (by rw [e])).symm
  intro h2
  refine awp_skip ?_
  simp only [go_sem]
  refine awp_sr ?_
  simp only [go_sem, R239_5, v239, p239]
  refine awp_ret ?_
  try simp only [go_sem]
  refine fin _ _ _ rfl (decide_eq_true ?_).symm
  cases a; cases b
  simp at h1 h2
  simp [h1, h2]
theorem eqItemS_ok (xs ys : List Item) (hx : xs.length ≤ 1000000000) : FS Tryz.prog 215 [] [.fz 6 (rw_ Item.c xs), .fz 6 (rw_ Item.c ys)] (.bool (decide (xs = ys))) [] := by
  refine FS.of (X := X215) (ac := A215) (os := O215) Tryz.func215 (by rfl) (by rfl) (by kernel_rfl) o215 (Nat.le_of_ble_eq_true rfl) ?_
  show AWP X215 A215 (Ends X215.vs O215 0 _ _) [.fz 6 (rw_ Item.c xs), .fz 6 (rw_ Item.c ys), .tup [], .tup [], .tup [], .tup [], .tup []] []
  obtain ⟨Q, hQ⟩ : ∃ Q, Q = Ends X215.vs O215 0 (.bool (decide (xs = ys))) [] := ⟨_, rfl⟩
  rw [← hQ]
  have fin : ∀ L σ b, look X215.vs L 4 = .bool b → b = decide (xs = ys) → Q .ret L σ := by
    intro L σ b h1 h2
    rw [hQ]
    refine Ends.is (.inl rfl) (rs := [.bool b]) (by simp only [go_sem, O215, h1]) ?_ rfl
    simp [packV, h2]
  refine awp_sr ?_
  simp only [go_sem, R215_0, v215, p215]
  refine awp_sr2 ?_
  simp only [go_sem, R215_1, v215, p215]
  refine awp_if rfl ?_ ?_
  · intro h
    refine awp_sr ?_
    simp only [go_sem, R215_2, v215, p215]
    refine awp_ret ?_
    try simp only [go_sem]
    refine fin _ _ false rfl ?_
    symm; simp; intro e; subst e; exact h rfl
  intro hne
  have hl : xs.length = ys.length := by omega
  refine awp_skip ?_
  simp only [go_sem]
  refine awp_sr2 ?_
  simp only [go_sem, R215_3, v215, p215]
  refine awp_for (fun m L σ => ∃ i x10 x14 x25, m = xs.length - i ∧ i ≤ xs.length ∧ xs.take i = ys.take i ∧ L = [.fz 6 (rw_ Item.c xs), .fz 6 (rw_ Item.c ys), .bool false, .int .i64 (i : Nat), x10, x14, x25]) xs.length ⟨0, _, _, _, rfl, Nat.zero_le _, by simp, rfl⟩ ?_
  rintro m L σ ⟨i, x10, x14, x25, rfl, hi, ht, rfl⟩
  refine awp_sr2 ?_
  simp only [go_sem, R215_4, v215, p215]
  refine awp_if rfl ?_ ?_
  · intro h1
    have h1 : i < xs.length := by omega
    have h2 : i < ys.length := by omega
    refine awp_skip ?_
    simp only [go_sem]
    refine awp_seq (awp_block ?_)
    refine awp_sd mixed rfl (by rfl) ?_
    simp only [go_sem, R215_5, v215, p215, rw_at _ h1, rw_at _ h2, Item.c]
    refine run_see (eqItem_ok xs[i] ys[i]) false (Views.refl rfl) rfl (fun j hj => by omega) (fun h => by cases h) ?_
    simp only [go_sem, v215, p215]
    refine awp_if' rfl ?_ ?_
    · intro h3
      refine awp_sr ?_
      simp only [go_sem, R215_6, v215, p215]
      refine awp_ret ?_
      try simp only [go_sem]
      refine fin _ _ false rfl ?_
      symm; simp; intro e; subst e; exact h3 rfl
    · intro h3
      refine awp_skip ?_
      simp only [go_sem]
      refine awp_reg ?_
      simp only [go_sem, R215_7, v215, p215, wrap_succ (i := i) (by omega)]
      refine ⟨xs.length - (i + 1), by omega, i + 1, _, _, _, rfl, by omega, ?_, rfl⟩
      rw [List.take_succ_eq_append_getElem h1, List.take_succ_eq_append_getElem h2, ht, h3]
  · intro h1
    refine awp_exit ?_
    simp only [go_sem]
    refine awp_sr ?_
    simp only [go_sem, R215_8, v215, p215]
    refine awp_ret ?_
    try simp only [go_sem]
    refine fin _ _ true rfl ?_
    have : i = xs.length := by omega
    subst this
    rw [List.take_length, hl, List.take_length] at ht
    simp [ht]
end Go.Proofs.YtffigokicddekaaGreat.Abs
/- Copies, sizes and equality, walked: floors, states. No condition. -/
set_option linter.unusedVariables false
set_option linter.unusedSimpArgs false
set_option maxRecDepth 10000
namespace Go.Proofs.YtffigokicddekaaGreat.Abs
open Go Go.Proofs
def R238_0 : List AR := [⟨(some 1), none, 0, (.box 0 2 (.t 0))⟩, ⟨(some 2), none, 0, (.alloc 1 2 [(.int .i64 0), (.int .i64 0)])⟩]
def R238_1 : List AR := [⟨(some 3), none, 0, (.alloc 0 2 [(.int .i64 0), (.int .i64 0)])⟩]
def R238_2 : List AR := [⟨(some 4), none, 0, (.faddr 0 (.t 1))⟩, ⟨(some 5), none, 0, (.load 1 false (.t 4))⟩, ⟨(some 6), none, 0, (.faddr 0 (.t 3))⟩, ⟨none, none, 0, (.store 1 (.t 6) (.t 5))⟩]
def R238_3 : List AR := [⟨(some 7), none, 0, (.faddr 1 (.t 1))⟩, ⟨(some 8), none, 0, (.load 1 false (.t 7))⟩, ⟨(some 9), none, 0, (.faddr 1 (.t 3))⟩, ⟨none, none, 0, (.store 1 (.t 9) (.t 8))⟩]
def R238_4 : List AR := [⟨(some 10), none, 0, (.load 2 true (.t 3))⟩, ⟨none, none, 0, (.store 2 (.t 2) (.t 10))⟩]
def A238_0 : AC := (.seq (.reg 0 R238_4) .ret)
def A238_1 : AC := (.seq (.reg 0 R238_3) A238_0)
def A238_2 : AC := (.seq (.reg 0 R238_2) A238_1)
def A238_3 : AC := (.seq (.reg 1 R238_1) A238_2)
def A238 : AC := (.seq (.reg 2 R238_0) A238_3)
def O238 : List AO := [(.load 2 true (.t 2))]
def G238 : Fns := ⟨fun f => false, fun f => 0, false⟩
noncomputable def X238 : Cx := ⟨Tryz.prog, G238, drawD, 11, [0, 1, 2, 3]⟩
theorem c238 : (Tryz.f238.body).bind (compC X238.P X238.Γ X238.D X238.nt) = some A238 := by kernel_rfl
theorem o238 : compRes X238.P Tryz.f238.results.toList = some O238 := by kernel_rfl
theorem v238 : X238.vs = [0, 1, 2, 3] := rfl
theorem p238 : X238.P = Tryz.prog := rfl
def R211_0 : List AR := [⟨(some 2), none, 0, (.mov (.k .nl))⟩]
def R211_1 : List AR := [⟨(some 5), none, 0, (.mov (.t 0))⟩, ⟨(some 6), none, 0, (.len (.t 5))⟩, ⟨(some 7), none, 0, (.mks 0 2 16 [(.int .i64 0), (.int .i64 0)] (.t 6) (.t 6))⟩, ⟨(some 3), none, 0, (.mov (.t 7))⟩]
def R211_2 : List AR := [⟨(some 4), none, 0, (.mov (.k (.int .i64 0)))⟩]
def R211_3 : List AR := [⟨(some 8), none, 0, (.mov (.t 4))⟩, ⟨(some 9), none, 0, (.mov (.t 0))⟩, ⟨(some 10), none, 0, (.len (.t 9))⟩, ⟨(some 11), none, 0, (.bin .lss (.t 8) (.t 10))⟩]
def R211_4 : List AR := [⟨(some 14), none, 0, (.mov (.t 3))⟩, ⟨(some 15), none, 0, (.mov (.t 4))⟩, ⟨(some 16), none, 0, (.mov (.t 0))⟩, ⟨(some 17), none, 0, (.mov (.t 4))⟩, ⟨(some 18), none, 0, (.iaddr 2 (.t 16) (.t 17))⟩, ⟨(some 19), none, 0, (.load 2 true (.t 18))⟩, ⟨(some 20), none, 0, (.call false 0 0 238 [(.t 19)])⟩, ⟨(some 21), none, 0, (.iaddr 2 (.t 14) (.t 15))⟩, ⟨none, none, 0, (.store 2 (.t 21) (.t 20))⟩]
def R211_5 : List AR := [⟨(some 12), none, 0, (.mov (.t 4))⟩, ⟨(some 13), none, 0, (.bin .add (.t 12) (.k (.int .i64 1)))⟩, ⟨(some 4), none, 0, (.mov (.t 13))⟩]
def A211_0 : AC := (.seq (.block 1 (.reg 0 R211_4)) (.reg 0 R211_5))
def L211_0 : AC := (.seq (.seq (.reg 0 R211_3) (.cond (.t 11) .skip (.exit 0))) A211_0)
def R211_6 : List AR := [⟨(some 22), none, 0, (.mov (.t 3))⟩, ⟨(some 2), none, 0, (.mov (.t 22))⟩]
def A211_1 : AC := (.seq (.reg 0 R211_6) .ret)
def A211_2 : AC := (.seq (.seq (.reg 0 R211_2) (.block 0 (.loop L211_0))) A211_1)
def A211_3 : AC := (.seq (.reg 1 R211_1) A211_2)
def A211 : AC := (.seq (.reg 0 R211_0) A211_3)
def O211 : List AO := [(.mov (.t 2))]
def G211 : Fns := ⟨fun f => false, fun f => 0, false⟩
noncomputable def X211 : Cx := ⟨Tryz.prog, G211, drawD, 23, [0, 2, 3, 4, 11]⟩
theorem c211 : (Tryz.f211.body).bind (compC X211.P X211.Γ X211.D X211.nt) = some A211 := by kernel_rfl
theorem o211 : compRes X211.P Tryz.f211.results.toList = some O211 := by kernel_rfl
theorem v211 : X211.vs = [0, 2, 3, 4, 11] := rfl
theorem p211 : X211.P = Tryz.prog := rfl
def R240_0 : List AR := [⟨(some 2), none, 0, (.box 0 2 (.t 0))⟩, ⟨(some 3), none, 0, (.box 1 2 (.t 1))⟩, ⟨(some 4), none, 0, (.mov (.k (.bool false)))⟩]
def R240_1 : List AR := [⟨(some 5), none, 0, (.faddr 0 (.t 2))⟩, ⟨(some 6), none, 0, (.load 1 false (.t 5))⟩, ⟨(some 7), none, 0, (.faddr 0 (.t 3))⟩, ⟨(some 8), none, 0, (.load 1 false (.t 7))⟩, ⟨(some 9), none, 0, (.bin .neq (.t 6) (.t 8))⟩]
def R240_2 : List AR := [⟨(some 4), none, 0, (.mov (.k (.bool false)))⟩]
def R240_3 : List AR := [⟨(some 10), none, 0, (.faddr 1 (.t 2))⟩, ⟨(some 11), none, 0, (.load 1 false (.t 10))⟩, ⟨(some 12), none, 0, (.faddr 1 (.t 3))⟩, ⟨(some 13), none, 0, (.load 1 false (.t 12))⟩, ⟨(some 14), none, 0, (.bin .neq (.t 11) (.t 13))⟩]
def R240_4 : List AR := [⟨(some 4), none, 0, (.mov (.k (.bool false)))⟩]
def R240_5 : List AR := [⟨(some 4), none, 0, (.mov (.k (.bool true)))⟩]
def A240_0 : AC := (.seq (.reg 0 R240_5) .ret)
def A240_1 : AC := (.seq (.seq (.reg 0 R240_3) (.cond (.t 14) (.seq (.reg 0 R240_4) .ret) .skip)) A240_0)
def A240_2 : AC := (.seq (.seq (.reg 0 R240_1) (.cond (.t 9) (.seq (.reg 0 R240_2) .ret) .skip)) A240_1)
def A240 : AC := (.seq (.reg 2 R240_0) A240_2)
def O240 : List AO := [(.mov (.t 4))]
def G240 : Fns := ⟨fun f => false, fun f => 0, false⟩
noncomputable def X240 : Cx := ⟨Tryz.prog, G240, drawD, 15, [0, 1, 2, 3, 4, 9, 14]⟩
theorem c240 : (Tryz.f240.body).bind (compC X240.P X240.Γ X240.D X240.nt) = some A240 := by kernel_rfl
theorem o240 : compRes X240.P Tryz.f240.results.toList = some O240 := by kernel_rfl
theorem v240 : X240.vs = [0, 1, 2, 3, 4, 9, 14] := rfl
theorem p240 : X240.P = Tryz.prog := rfl
def R216_0 : List AR := [⟨(some 4), none, 0, (.mov (.k (.bool false)))⟩]
def R216_1 : List AR := [⟨(some 6), none, 0, (.mov (.t 0))⟩, ⟨(some 7), none, 0, (.len (.t 6))⟩, ⟨(some 8), none, 0, (.mov (.t 1))⟩, ⟨(some 9), none, 0, (.len (.t 8))⟩, ⟨(some 10), none, 0, (.bin .neq (.t 7) (.t 9))⟩]
def R216_2 : List AR := [⟨(some 4), none, 0, (.mov (.k (.bool false)))⟩]
def R216_3 : List AR := [⟨(some 5), none, 0, (.mov (.k (.int .i64 0)))⟩]
def R216_4 : List AR := [⟨(some 11), none, 0, (.mov (.t 5))⟩, ⟨(some 12), none, 0, (.mov (.t 0))⟩, ⟨(some 13), none, 0, (.len (.t 12))⟩, ⟨(some 14), none, 0, (.bin .lss (.t 11) (.t 13))⟩]
def R216_5 : List AR := [⟨(some 17), none, 0, (.mov (.t 0))⟩, ⟨(some 18), none, 0, (.mov (.t 5))⟩, ⟨(some 19), none, 0, (.iaddr 2 (.t 17) (.t 18))⟩, ⟨(some 20), none, 0, (.load 2 true (.t 19))⟩, ⟨(some 21), none, 0, (.mov (.t 1))⟩, ⟨(some 22), none, 0, (.mov (.t 5))⟩, ⟨(some 23), none, 0, (.iaddr 2 (.t 21) (.t 22))⟩, ⟨(some 24), none, 0, (.load 2 true (.t 23))⟩, ⟨(some 25), none, 0, (.call false 0 0 240 [(.t 20), (.t 24)])⟩, ⟨(some 26), none, 0, (.not (.t 25))⟩]
def R216_6 : List AR := [⟨(some 4), none, 0, (.mov (.k (.bool false)))⟩]
def R216_7 : List AR := [⟨(some 15), none, 0, (.mov (.t 5))⟩, ⟨(some 16), none, 0, (.bin .add (.t 15) (.k (.int .i64 1)))⟩, ⟨(some 5), none, 0, (.mov (.t 16))⟩]
def A216_0 : AC := (.seq (.block 1 (.seq (.draw 0 R216_5) (.cond (.t 26) (.seq (.reg 0 R216_6) .ret) .skip))) (.reg 0 R216_7))
def L216_0 : AC := (.seq (.seq (.reg 0 R216_4) (.cond (.t 14) .skip (.exit 0))) A216_0)
def R216_8 : List AR := [⟨(some 4), none, 0, (.mov (.k (.bool true)))⟩]
def A216_1 : AC := (.seq (.reg 0 R216_8) .ret)
def A216_2 : AC := (.seq (.seq (.reg 0 R216_3) (.block 0 (.loop L216_0))) A216_1)
def A216_3 : AC := (.seq (.seq (.reg 0 R216_1) (.cond (.t 10) (.seq (.reg 0 R216_2) .ret) .skip)) A216_2)
def A216 : AC := (.seq (.reg 0 R216_0) A216_3)
def O216 : List AO := [(.mov (.t 4))]
def G216 : Fns := ⟨fun f => false, fun f => 0, false⟩
noncomputable def X216 : Cx := ⟨Tryz.prog, G216, drawD, 27, [0, 1, 4, 5, 10, 14, 26]⟩
theorem c216 : (Tryz.f216.body).bind (compC X216.P X216.Γ X216.D X216.nt) = some A216 := by kernel_rfl
theorem o216 : compRes X216.P Tryz.f216.results.toList = some O216 := by kernel_rfl
theorem v216 : X216.vs = [0, 1, 4, 5, 10, 14, 26] := rfl
theorem p216 : X216.P = Tryz.prog := rfl
def R173_0 : List AR := [⟨(some 1), none, 0, (.box 0 2 (.t 0))⟩, ⟨(some 2), none, 0, (.alloc 1 2 [.nl, .nl])⟩]
def R173_1 : List AR := [⟨(some 3), none, 0, (.alloc 0 2 [.nl, .nl])⟩]
def R173_2 : List AR := [⟨(some 4), none, 0, (.faddr 0 (.t 1))⟩, ⟨(some 5), none, 0, (.load 1 false (.t 4))⟩, ⟨(some 6), none, 0, (.call false 0 0 210 [(.t 5)])⟩, ⟨(some 7), none, 0, (.faddr 0 (.t 3))⟩, ⟨none, none, 0, (.store 1 (.t 7) (.t 6))⟩]
def R173_3 : List AR := [⟨(some 8), none, 0, (.faddr 1 (.t 1))⟩, ⟨(some 9), none, 0, (.load 1 false (.t 8))⟩, ⟨(some 10), none, 0, (.call false 0 0 211 [(.t 9)])⟩, ⟨(some 11), none, 0, (.faddr 1 (.t 3))⟩, ⟨none, none, 0, (.store 1 (.t 11) (.t 10))⟩]
def R173_4 : List AR := [⟨(some 12), none, 0, (.load 2 true (.t 3))⟩, ⟨none, none, 0, (.store 2 (.t 2) (.t 12))⟩]
def A173_0 : AC := (.seq (.reg 0 R173_4) .ret)
def A173_1 : AC := (.seq (.reg 0 R173_3) A173_0)
def A173_2 : AC := (.seq (.reg 0 R173_2) A173_1)
def A173_3 : AC := (.seq (.reg 1 R173_1) A173_2)
def A173 : AC := (.seq (.reg 2 R173_0) A173_3)
def O173 : List AO := [(.load 2 true (.t 2))]
def G173 : Fns := ⟨fun f => false, fun f => 0, false⟩
noncomputable def X173 : Cx := ⟨Tryz.prog, G173, drawD, 13, [0, 1, 2, 3]⟩
theorem c173 : (Tryz.f173.body).bind (compC X173.P X173.Γ X173.D X173.nt) = some A173 := by kernel_rfl
theorem o173 : compRes X173.P Tryz.f173.results.toList = some O173 := by kernel_rfl
theorem v173 : X173.vs = [0, 1, 2, 3] := rfl
theorem p173 : X173.P = Tryz.prog := rfl
def R165_0 : List AR := [⟨(some 2), none, 0, (.box 0 2 (.t 0))⟩, ⟨(some 4), none, 0, (.mov (.k (.int .i64 0)))⟩]
def R165_1 : List AR := [⟨(some 5), none, 0, (.faddr 0 (.t 2))⟩, ⟨(some 6), none, 0, (.load 1 false (.t 5))⟩, ⟨(some 7), none, 0, (.mov (.t 1))⟩, ⟨(some 8), none, 0, (.call false 0 0 207 [(.t 6), (.t 7)])⟩, ⟨(some 1), none, 0, (.mov (.t 8))⟩]
def R165_2 : List AR := [⟨(some 9), none, 0, (.mov (.t 1))⟩, ⟨(some 10), none, 0, (.bin .lss (.t 9) (.k (.int .i64 0)))⟩]
def R165_3 : List AR := [⟨(some 4), none, 0, (.mov (.k (.int .i64 (-1))))⟩]
def R165_4 : List AR := [⟨(some 11), none, 0, (.faddr 1 (.t 2))⟩, ⟨(some 12), none, 0, (.load 1 false (.t 11))⟩, ⟨(some 13), none, 0, (.mov (.t 1))⟩, ⟨(some 14), none, 0, (.call false 0 0 208 [(.t 12), (.t 13)])⟩, ⟨(some 1), none, 0, (.mov (.t 14))⟩]
def R165_5 : List AR := [⟨(some 15), none, 0, (.mov (.t 1))⟩, ⟨(some 16), none, 0, (.bin .lss (.t 15) (.k (.int .i64 0)))⟩]
def R165_6 : List AR := [⟨(some 4), none, 0, (.mov (.k (.int .i64 (-1))))⟩]
def R165_7 : List AR := [⟨(some 17), none, 0, (.mov (.t 1))⟩, ⟨(some 4), none, 0, (.mov (.t 17))⟩]
def A165_0 : AC := (.seq (.reg 0 R165_7) .ret)
def A165_1 : AC := (.seq (.seq (.reg 0 R165_5) (.cond (.t 16) (.seq (.reg 0 R165_6) .ret) .skip)) A165_0)
def A165_2 : AC := (.seq (.reg 0 R165_4) A165_1)
def A165_3 : AC := (.seq (.seq (.reg 0 R165_2) (.cond (.t 10) (.seq (.reg 0 R165_3) .ret) .skip)) A165_2)
def A165_4 : AC := (.seq (.reg 0 R165_1) A165_3)
def A165 : AC := (.seq (.reg 1 R165_0) A165_4)
def O165 : List AO := [(.mov (.t 4))]
def G165 : Fns := ⟨fun f => false, fun f => 0, false⟩
noncomputable def X165 : Cx := ⟨Tryz.prog, G165, drawD, 18, [0, 1, 2, 4, 10, 16]⟩
theorem c165 : (Tryz.f165.body).bind (compC X165.P X165.Γ X165.D X165.nt) = some A165 := by kernel_rfl
theorem o165 : compRes X165.P Tryz.f165.results.toList = some O165 := by kernel_rfl
theorem v165 : X165.vs = [0, 1, 2, 4, 10, 16] := rfl
theorem p165 : X165.P = Tryz.prog := rfl
def R181_0 : List AR := [⟨(some 2), none, 0, (.box 0 2 (.t 0))⟩, ⟨(some 3), none, 0, (.box 1 2 (.t 1))⟩, ⟨(some 4), none, 0, (.mov (.k (.bool false)))⟩]
def R181_1 : List AR := [⟨(some 5), none, 0, (.faddr 0 (.t 2))⟩, ⟨(some 6), none, 0, (.load 1 false (.t 5))⟩, ⟨(some 7), none, 0, (.faddr 0 (.t 3))⟩, ⟨(some 8), none, 0, (.load 1 false (.t 7))⟩, ⟨(some 9), none, 0, (.call false 0 0 215 [(.t 6), (.t 8)])⟩, ⟨(some 10), none, 0, (.not (.t 9))⟩]
def R181_2 : List AR := [⟨(some 4), none, 0, (.mov (.k (.bool false)))⟩]
def R181_3 : List AR := [⟨(some 11), none, 0, (.faddr 1 (.t 2))⟩, ⟨(some 12), none, 0, (.load 1 false (.t 11))⟩, ⟨(some 13), none, 0, (.faddr 1 (.t 3))⟩, ⟨(some 14), none, 0, (.load 1 false (.t 13))⟩, ⟨(some 15), none, 0, (.call false 0 0 216 [(.t 12), (.t 14)])⟩, ⟨(some 16), none, 0, (.not (.t 15))⟩]
def R181_4 : List AR := [⟨(some 4), none, 0, (.mov (.k (.bool false)))⟩]
def R181_5 : List AR := [⟨(some 4), none, 0, (.mov (.k (.bool true)))⟩]
def A181_0 : AC := (.seq (.reg 0 R181_5) .ret)
def A181_1 : AC := (.seq (.seq (.reg 0 R181_3) (.cond (.t 16) (.seq (.reg 0 R181_4) .ret) .skip)) A181_0)
def A181_2 : AC := (.seq (.seq (.reg 0 R181_1) (.cond (.t 10) (.seq (.reg 0 R181_2) .ret) .skip)) A181_1)
def A181 : AC := (.seq (.reg 2 R181_0) A181_2)
def O181 : List AO := [(.mov (.t 4))]
def G181 : Fns := ⟨fun f => false, fun f => 0, false⟩
noncomputable def X181 : Cx := ⟨Tryz.prog, G181, drawD, 17, [0, 1, 2, 3, 4, 10, 16]⟩
theorem c181 : (Tryz.f181.body).bind (compC X181.P X181.Γ X181.D X181.nt) = some A181 := by kernel_rfl
theorem o181 : compRes X181.P Tryz.f181.results.toList = some O181 := by kernel_rfl
theorem v181 : X181.vs = [0, 1, 2, 3, 4, 10, 16] := rfl
theorem p181 : X181.P = Tryz.prog := rfl
def R212_0 : List AR := [⟨(some 2), none, 0, (.mov (.k .nl))⟩]
def R212_1 : List AR := [⟨(some 5), none, 0, (.mov (.t 0))⟩, ⟨(some 6), none, 0, (.len (.t 5))⟩, ⟨(some 7), none, 0, (.mks 0 2 48 [.nl, .nl] (.t 6) (.t 6))⟩, ⟨(some 3), none, 0, (.mov (.t 7))⟩]
def R212_2 : List AR := [⟨(some 4), none, 0, (.mov (.k (.int .i64 0)))⟩]
def R212_3 : List AR := [⟨(some 8), none, 0, (.mov (.t 4))⟩, ⟨(some 9), none, 0, (.mov (.t 0))⟩, ⟨(some 10), none, 0, (.len (.t 9))⟩, ⟨(some 11), none, 0, (.bin .lss (.t 8) (.t 10))⟩]
def R212_4 : List AR := [⟨(some 14), none, 0, (.mov (.t 3))⟩, ⟨(some 15), none, 0, (.mov (.t 4))⟩, ⟨(some 16), none, 0, (.mov (.t 0))⟩, ⟨(some 17), none, 0, (.mov (.t 4))⟩, ⟨(some 18), none, 0, (.iaddr 2 (.t 16) (.t 17))⟩, ⟨(some 19), none, 0, (.load 2 true (.t 18))⟩, ⟨(some 20), none, 0, (.call false 0 0 173 [(.t 19)])⟩, ⟨(some 21), none, 0, (.iaddr 2 (.t 14) (.t 15))⟩, ⟨none, none, 0, (.store 2 (.t 21) (.t 20))⟩]
def R212_5 : List AR := [⟨(some 12), none, 0, (.mov (.t 4))⟩, ⟨(some 13), none, 0, (.bin .add (.t 12) (.k (.int .i64 1)))⟩, ⟨(some 4), none, 0, (.mov (.t 13))⟩]
def A212_0 : AC := (.seq (.block 1 (.reg 0 R212_4)) (.reg 0 R212_5))
def L212_0 : AC := (.seq (.seq (.reg 0 R212_3) (.cond (.t 11) .skip (.exit 0))) A212_0)
def R212_6 : List AR := [⟨(some 22), none, 0, (.mov (.t 3))⟩, ⟨(some 2), none, 0, (.mov (.t 22))⟩]
def A212_1 : AC := (.seq (.reg 0 R212_6) .ret)
def A212_2 : AC := (.seq (.seq (.reg 0 R212_2) (.block 0 (.loop L212_0))) A212_1)
def A212_3 : AC := (.seq (.reg 1 R212_1) A212_2)
def A212 : AC := (.seq (.reg 0 R212_0) A212_3)
def O212 : List AO := [(.mov (.t 2))]
def G212 : Fns := ⟨fun f => false, fun f => 0, false⟩
noncomputable def X212 : Cx := ⟨Tryz.prog, G212, drawD, 23, [0, 2, 3, 4, 11]⟩
theorem c212 : (Tryz.f212.body).bind (compC X212.P X212.Γ X212.D X212.nt) = some A212 := by kernel_rfl
theorem o212 : compRes X212.P Tryz.f212.results.toList = some O212 := by kernel_rfl
theorem v212 : X212.vs = [0, 2, 3, 4, 11] := rfl
theorem p212 : X212.P = Tryz.prog := rfl
def R209_0 : List AR := [⟨(some 4), none, 0, (.mov (.k (.int .i64 0)))⟩]
def R209_1 : List AR := [⟨(some 6), none, 0, (.mov (.t 1))⟩, ⟨(some 7), none, 0, (.mov (.t 0))⟩, ⟨(some 8), none, 0, (.len (.t 7))⟩, ⟨(some 9), none, 0, (.bin .sub (.t 6) (.t 8))⟩, ⟨(some 1), none, 0, (.mov (.t 9))⟩]
def R209_2 : List AR := [⟨(some 10), none, 0, (.mov (.t 1))⟩, ⟨(some 11), none, 0, (.bin .lss (.t 10) (.k (.int .i64 0)))⟩]
def R209_3 : List AR := [⟨(some 4), none, 0, (.mov (.k (.int .i64 (-1))))⟩]
def R209_4 : List AR := [⟨(some 5), none, 0, (.mov (.k (.int .i64 0)))⟩]
def R209_5 : List AR := [⟨(some 12), none, 0, (.mov (.t 5))⟩, ⟨(some 13), none, 0, (.mov (.t 0))⟩, ⟨(some 14), none, 0, (.len (.t 13))⟩, ⟨(some 15), none, 0, (.bin .lss (.t 12) (.t 14))⟩]
def R209_6 : List AR := [⟨(some 18), none, 0, (.mov (.t 0))⟩, ⟨(some 19), none, 0, (.mov (.t 5))⟩, ⟨(some 20), none, 0, (.iaddr 2 (.t 18) (.t 19))⟩, ⟨(some 21), none, 0, (.load 2 true (.t 20))⟩, ⟨(some 22), none, 0, (.mov (.t 1))⟩, ⟨(some 23), none, 0, (.call false 0 0 165 [(.t 21), (.t 22)])⟩, ⟨(some 1), none, 0, (.mov (.t 23))⟩]
def R209_7 : List AR := [⟨(some 24), none, 0, (.mov (.t 1))⟩, ⟨(some 25), none, 0, (.bin .lss (.t 24) (.k (.int .i64 0)))⟩]
def R209_8 : List AR := [⟨(some 4), none, 0, (.mov (.k (.int .i64 (-1))))⟩]
def A209_0 : AC := (.seq (.reg 0 R209_7) (.cond (.t 25) (.seq (.reg 0 R209_8) .ret) .skip))
def R209_9 : List AR := [⟨(some 16), none, 0, (.mov (.t 5))⟩, ⟨(some 17), none, 0, (.bin .add (.t 16) (.k (.int .i64 1)))⟩, ⟨(some 5), none, 0, (.mov (.t 17))⟩]
def A209_1 : AC := (.seq (.block 1 (.seq (.reg 0 R209_6) A209_0)) (.reg 0 R209_9))
def L209_0 : AC := (.seq (.seq (.reg 0 R209_5) (.cond (.t 15) .skip (.exit 0))) A209_1)
def R209_10 : List AR := [⟨(some 26), none, 0, (.mov (.t 1))⟩, ⟨(some 4), none, 0, (.mov (.t 26))⟩]
def A209_2 : AC := (.seq (.reg 0 R209_10) .ret)
def A209_3 : AC := (.seq (.seq (.reg 0 R209_4) (.block 0 (.loop L209_0))) A209_2)
def A209_4 : AC := (.seq (.seq (.reg 0 R209_2) (.cond (.t 11) (.seq (.reg 0 R209_3) .ret) .skip)) A209_3)
def A209_5 : AC := (.seq (.reg 0 R209_1) A209_4)
def A209 : AC := (.seq (.reg 0 R209_0) A209_5)
def O209 : List AO := [(.mov (.t 4))]
def G209 : Fns := ⟨fun f => false, fun f => 0, false⟩
noncomputable def X209 : Cx := ⟨Tryz.prog, G209, drawD, 27, [0, 1, 4, 5, 11, 15, 25]⟩
theorem c209 : (Tryz.f209.body).bind (compC X209.P X209.Γ X209.D X209.nt) = some A209 := by kernel_rfl
theorem o209 : compRes X209.P Tryz.f209.results.toList = some O209 := by kernel_rfl
theorem v209 : X209.vs = [0, 1, 4, 5, 11, 15, 25] := rfl
theorem p209 : X209.P = Tryz.prog := rfl
def R217_0 : List AR := [⟨(some 4), none, 0, (.mov (.k (.bool false)))⟩]
def R217_1 : List AR := [⟨(some 6), none, 0, (.mov (.t 0))⟩, ⟨(some 7), none, 0, (.len (.t 6))⟩, ⟨(some 8), none, 0, (.mov (.t 1))⟩, ⟨(some 9), none, 0, (.len (.t 8))⟩, ⟨(some 10), none, 0, (.bin .neq (.t 7) (.t 9))⟩]
def R217_2 : List AR := [⟨(some 4), none, 0, (.mov (.k (.bool false)))⟩]
def R217_3 : List AR := [⟨(some 5), none, 0, (.mov (.k (.int .i64 0)))⟩]
def R217_4 : List AR := [⟨(some 11), none, 0, (.mov (.t 5))⟩, ⟨(some 12), none, 0, (.mov (.t 0))⟩, ⟨(some 13), none, 0, (.len (.t 12))⟩, ⟨(some 14), none, 0, (.bin .lss (.t 11) (.t 13))⟩]
def R217_5 : List AR := [⟨(some 17), none, 0, (.mov (.t 0))⟩, ⟨(some 18), none, 0, (.mov (.t 5))⟩, ⟨(some 19), none, 0, (.iaddr 2 (.t 17) (.t 18))⟩, ⟨(some 20), none, 0, (.load 2 true (.t 19))⟩, ⟨(some 21), none, 0, (.mov (.t 1))⟩, ⟨(some 22), none, 0, (.mov (.t 5))⟩, ⟨(some 23), none, 0, (.iaddr 2 (.t 21) (.t 22))⟩, ⟨(some 24), none, 0, (.load 2 true (.t 23))⟩, ⟨(some 25), none, 0, (.call false 0 0 181 [(.t 20), (.t 24)])⟩, ⟨(some 26), none, 0, (.not (.t 25))⟩]
def R217_6 : List AR := [⟨(some 4), none, 0, (.mov (.k (.bool false)))⟩]
def R217_7 : List AR := [⟨(some 15), none, 0, (.mov (.t 5))⟩, ⟨(some 16), none, 0, (.bin .add (.t 15) (.k (.int .i64 1)))⟩, ⟨(some 5), none, 0, (.mov (.t 16))⟩]
def A217_0 : AC := (.seq (.block 1 (.seq (.draw 0 R217_5) (.cond (.t 26) (.seq (.reg 0 R217_6) .ret) .skip))) (.reg 0 R217_7))
def L217_0 : AC := (.seq (.seq (.reg 0 R217_4) (.cond (.t 14) .skip (.exit 0))) A217_0)
def R217_8 : List AR := [⟨(some 4), none, 0, (.mov (.k (.bool true)))⟩]
def A217_1 : AC := (.seq (.reg 0 R217_8) .ret)
def A217_2 : AC := (.seq (.seq (.reg 0 R217_3) (.block 0 (.loop L217_0))) A217_1)
def A217_3 : AC := (.seq (.seq (.reg 0 R217_1) (.cond (.t 10) (.seq (.reg 0 R217_2) .ret) .skip)) A217_2)
def A217 : AC := (.seq (.reg 0 R217_0) A217_3)
def O217 : List AO := [(.mov (.t 4))]
def G217 : Fns := ⟨fun f => false, fun f => 0, false⟩
noncomputable def X217 : Cx := ⟨Tryz.prog, G217, drawD, 27, [0, 1, 4, 5, 10, 14, 26]⟩
theorem c217 : (Tryz.f217.body).bind (compC X217.P X217.Γ X217.D X217.nt) = some A217 := by kernel_rfl
theorem o217 : compRes X217.P Tryz.f217.results.toList = some O217 := by kernel_rfl
theorem v217 : X217.vs = [0, 1, 4, 5, 10, 14, 26] := rfl
theorem p217 : X217.P = Tryz.prog := rfl
theorem toFloor_ok (a : Floor) : FS Tryz.prog 238 [] [.agg a.c] (.agg a.c) [] := by
  refine FS.of (X := X238) (ac := A238) (os := O238) Tryz.func238 (by rfl) (by rfl) (by kernel_rfl) o238 (Nat.le_of_ble_eq_true rfl) ?_
  show AWP X238 A238 (Ends X238.vs O238 0 _ _) [.agg a.c, .tup [], .tup [], .tup []] []
  obtain ⟨Q, hQ⟩ : ∃ Q, Q = Ends X238.vs O238 0 (.agg a.c) [] := ⟨_, rfl⟩
  rw [← hQ]
  refine awp_sr ?_
  simp only [go_sem, R238_0, v238, p238, Floor.c]
  refine awp_sr ?_
  simp only [go_sem, R238_1, v238, p238]
  refine awp_sr ?_
  simp only [go_sem, R238_2, v238, p238]
  refine awp_sr ?_
  simp only [go_sem, R238_3, v238, p238]
  refine awp_sr ?_
  simp only [go_sem, R238_4, v238, p238]
  refine awp_ret ?_
  try simp only [go_sem]
  rw [hQ]
  exact Ends.plain (.inl rfl) rfl (.refl _) rfl
theorem toFloorS_ok (xs : List Floor) (h : xs.length ≤ 1048576) : FS Tryz.prog 211 [] [.fz 2 (rw_ Floor.c xs)] (.fz 2 (rw_ Floor.c xs)) [] := by
  have hx : xs.length ≤ 1048576 := by exact h
  refine FS.of (X := X211) (ac := A211) (os := O211) Tryz.func211 (by rfl) (by rfl) (by kernel_rfl) o211 (Nat.le_of_ble_eq_true rfl) ?_
  show AWP X211 A211 (Ends X211.vs O211 0 _ _) [.fz 2 (rw_ Floor.c xs), .tup [], .tup [], .tup [], .tup []] []
  obtain ⟨Q, hQ⟩ : ∃ Q, Q = Ends X211.vs O211 0 (.fz 2 (rw_ Floor.c xs)) [] := ⟨_, rfl⟩
  rw [← hQ]
  refine awp_sr ?_
  simp only [go_sem, R211_0, v211, p211]
  refine awp_sr ?_
  simp only [go_sem, R211_1, v211, p211]
  refine ⟨by omega, ?_⟩
  refine awp_sr2 ?_
  simp only [go_sem, R211_2, v211, p211]
  refine awp_for (fun m L σ => ∃ i x11 ys, m = xs.length - i ∧ i ≤ xs.length ∧ ys.length = xs.length ∧ ys.take i = xs.take i ∧ L = [.fz 2 (rw_ Floor.c xs), .nl, .sl 0 2 0 xs.length, .int .i64 (i : Nat), x11] ∧ σ = [.live ⟨2, rw_ Floor.c ys⟩]) xs.length
    ⟨0, _, List.replicate xs.length Floor.zero, rfl, Nat.zero_le _, by simp, by simp, rfl, congrArg (fun r => [Slot.live ⟨2, r⟩]) (rw_rep Floor.c xs.length Floor.zero)⟩ ?_
  rintro m L σ ⟨i, x11, ys, rfl, hi, hl, ht, rfl, rfl⟩
  refine awp_sr2 ?_
  simp only [go_sem, R211_3, v211, p211]
  refine awp_if rfl ?_ ?_
  · intro h1
    have h1 : i < xs.length := by omega
    have h2 : i < ys.length := by omega
    refine awp_skip ?_
    simp only [go_sem]
    refine awp_seq (awp_block ?_)
    refine awp_reg ?_
    simp only [go_sem, R211_4, v211, p211, rw_at _ h1, Floor.c]
    refine run_see (toFloor_ok xs[i]) false (Views.refl rfl) rfl (fun j hj => by omega) (fun h => by cases h) ?_
    simp only [go_sem, v211, p211, rw_at _ h2, Floor.c]
    refine ⟨by omega, ?_⟩
    refine awp_reg ?_
    simp only [go_sem, R211_5, v211, p211, wrap_succ (i := i) (by omega)]
    refine ⟨xs.length - (i + 1), by omega, i + 1, _, ys.set i xs[i], rfl, by omega, by simpa using hl, ?_, rfl, congrArg (fun r => [Slot.live ⟨2, r⟩]) (rw_set Floor.c ys i xs[i])⟩
    rw [List.take_succ_eq_append_getElem h1, List.take_succ_eq_append_getElem (by simpa using h2), List.take_set_of_le (Nat.le_refl _), ht]
    simp
  · intro h1
    refine awp_exit ?_
    simp only [go_sem]
    refine awp_sr ?_
    simp only [go_sem, R211_6, v211, p211]
    refine awp_ret ?_
    try simp only [go_sem]
    have : i = xs.length := by omega
    subst this
    rw [List.take_length, ← hl, List.take_length] at ht
    subst ht
    rw [hQ]
    exact Ends.frzSl (.inl rfl) rfl rfl (by simp [rw_]) (rw_closed Floor.c_closed _)
theorem eqFloor_ok (a b : Floor) : FS Tryz.prog 240 [] [.agg a.c, .agg b.c] (.bool (decide (a = b))) [] := by
  refine FS.of (X := X240) (ac := A240) (os := O240) Tryz.func240 (by rfl) (by rfl) (by kernel_rfl) o240 (Nat.le_of_ble_eq_true rfl) ?_
  show AWP X240 A240 (Ends X240.vs O240 0 _ _) [.agg a.c, .agg b.c, .tup [], .tup [], .tup [], .tup [], .tup []] []
  obtain ⟨Q, hQ⟩ : ∃ Q, Q = Ends X240.vs O240 0 (.bool (decide (a = b))) [] := ⟨_, rfl⟩
  rw [← hQ]
  have fin : ∀ L σ q, look X240.vs L 4 = .bool q → q = decide (a = b) → Q .ret L σ := by
    intro L σ q h1 h2
    rw [hQ]
    refine Ends.is (.inl rfl) (rs := [.bool q]) (by simp only [go_sem, O240, h1]) ?_ rfl
    simp [packV, h2]
  refine awp_sr ?_
  simp only [go_sem, R240_0, v240, p240, Floor.c]
  refine awp_sr2 ?_
  simp only [go_sem, R240_1, v240, p240]
  refine awp_if rfl ?_ ?_
  · intro h
    refine awp_sr ?_
    simp only [go_sem, R240_2, v240, p240]
    refine awp_ret ?_
    try simp only [go_sem]
    exact fin _ _ _ rfl (decide_eq_false fun e => h (by rw [e])).symm
  intro h0
  refine awp_skip ?_
  simp only [go_sem]
  refine awp_sr2 ?_
  simp only [go_sem, R240_3, v240, p240]
  refine awp_if rfl ?_ ?_
  · intro h
    refine awp_sr ?_
    simp only [go_sem, R240_4, v240, p240]
    refine awp_ret ?_
    try simp only [go_sem]
    exact fin _ _ _ rfl (decide_eq_false fun e => h (by rw [e])).symm
  intro h1
  refine awp_skip ?_
  simp only [go_sem]
  refine awp_sr ?_
  simp only [go_sem, R240_5, v240, p240]
  refine awp_ret ?_
  try simp only [go_sem]
  refine fin _ _ _ rfl (decide_eq_true ?_).symm
  cases a; cases b
  simp at h0 h1
  simp [h0, h1]
theorem eqFloorS_ok (xs ys : List Floor) (hx : xs.length ≤ 1000000000) : FS Tryz.prog 216 [] [.fz 2 (rw_ Floor.c xs), .fz 2 (rw_ Floor.c ys)] (.bool (decide (xs = ys))) [] := by
  refine FS.of (X := X216) (ac := A216) (os := O216) Tryz.func216 (by rfl) (by rfl) (by kernel_rfl) o216 (Nat.le_of_ble_eq_true rfl) ?_
  show AWP X216 A216 (Ends X216.vs O216 0 _ _) [.fz 2 (rw_ Floor.c xs), .fz 2 (rw_ Floor.c ys), .tup [], .tup [], .tup [], .tup [], .tup []] []
  obtain ⟨Q, hQ⟩ : ∃ Q, Q = Ends X216.vs O216 0 (.bool (decide (xs = ys))) [] := ⟨_, rfl⟩
  rw [← hQ]
  have fin : ∀ L σ b, look X216.vs L 4 = .bool b → b = decide (xs = ys) → Q .ret L σ := by
    intro L σ b h1 h2
    rw [hQ]
    refine Ends.is (.inl rfl) (rs := [.bool b]) (by simp only [go_sem, O216, h1]) ?_ rfl
    simp [packV, h2]
  refine awp_sr ?_
  simp only [go_sem, R216_0, v216, p216]
  refine awp_sr2 ?_
  simp only [go_sem, R216_1, v216, p216]
  refine awp_if rfl ?_ ?_
  · intro h
    refine awp_sr ?_
    simp only [go_sem, R216_2, v216, p216]
    refine awp_ret ?_
    try simp only [go_sem]
    refine fin _ _ false rfl ?_
    symm; simp; intro e; subst e; exact h rfl
  intro hne
  have hl : xs.length = ys.length := by omega
  refine awp_skip ?_
  simp only [go_sem]
  refine awp_sr2 ?_
  simp only [go_sem, R216_3, v216, p216]
  refine awp_for (fun m L σ => ∃ i x10 x14 x25, m = xs.length - i ∧ i ≤ xs.length ∧ xs.take i = ys.take i ∧ L = [.fz 2 (rw_ Floor.c xs), .fz 2 (rw_ Floor.c ys), .bool false, .int .i64 (i : Nat), x10, x14, x25]) xs.length ⟨0, _, _, _, rfl, Nat.zero_le _, by simp, rfl⟩ ?_
  rintro m L σ ⟨i, x10, x14, x25, rfl, hi, ht, rfl⟩
  refine awp_sr2 ?_
  simp only [go_sem, R216_4, v216, p216]
  refine awp_if rfl ?_ ?_
  · intro h1
    have h1 : i < xs.length := by omega
    have h2 : i < ys.length := by omega
    refine awp_skip ?_
    simp only [go_sem]
    refine awp_seq (awp_block ?_)
    refine awp_sd mixed rfl (by rfl) ?_
    simp only [go_sem, R216_5, v216, p216, rw_at _ h1, rw_at _ h2, Floor.c]
    refine run_see (eqFloor_ok xs[i] ys[i]) false (Views.refl rfl) rfl (fun j hj => by omega) (fun h => by cases h) ?_
    simp only [go_sem, v216, p216]
    refine awp_if' rfl ?_ ?_
    · intro h3
      refine awp_sr ?_
      simp only [go_sem, R216_6, v216, p216]
      refine awp_ret ?_
      try simp only [go_sem]
      refine fin _ _ false rfl ?_
      symm; simp; intro e; subst e; exact h3 rfl
    · intro h3
      refine awp_skip ?_
      simp only [go_sem]
      refine awp_reg ?_
      simp only [go_sem, R216_7, v216, p216, wrap_succ (i := i) (by omega)]
      refine ⟨xs.length - (i + 1), by omega, i + 1, _, _, _, rfl, by omega, ?_, rfl⟩
      rw [List.take_succ_eq_append_getElem h1, List.take_succ_eq_append_getElem h2, ht, h3]
  · intro h1
    refine awp_exit ?_
    simp only [go_sem]
    refine awp_sr ?_
    simp only [go_sem, R216_8, v216, p216]
    refine awp_ret ?_
    try simp only [go_sem]
    refine fin _ _ true rfl ?_
    have : i = xs.length := by omega
    subst this
    rw [List.take_length, hl, List.take_length] at ht
    simp [ht]
theorem toState_ok (a : State) (h : a.sz ≤ 1048576) : FS Tryz.prog 173 [] [.agg a.c] (.agg a.c) [] := by
  have hh : szS Item.sz a.items + a.floors.length ≤ 1048576 := h
  have hl : a.items.length + sumBy Item.sz a.items + a.floors.length ≤ 1048576 := hh
  refine FS.of (X := X173) (ac := A173) (os := O173) Tryz.func173 (by rfl) (by rfl) (by kernel_rfl) o173 (Nat.le_of_ble_eq_true rfl) ?_
  show AWP X173 A173 (Ends X173.vs O173 0 _ _) [.agg a.c, .tup [], .tup [], .tup []] []
  obtain ⟨Q, hQ⟩ : ∃ Q, Q = Ends X173.vs O173 0 (.agg a.c) [] := ⟨_, rfl⟩
  rw [← hQ]
  refine awp_sr ?_
  simp only [go_sem, R173_0, v173, p173, State.c]
  refine awp_sr ?_
  simp only [go_sem, R173_1, v173, p173]
  refine awp_sr ?_
  simp only [go_sem, R173_2, v173, p173]
  refine run_see (toItemS_ok a.items (by omega)) false (Views.refl rfl) rfl (fun j hj => by omega) (fun h => by cases h) ?_
  simp only [go_sem, v173, p173]
  refine awp_sr ?_
  simp only [go_sem, R173_3, v173, p173]
  refine run_see (toFloorS_ok a.floors (by omega)) false (Views.refl rfl) rfl (fun j hj => by omega) (fun h => by cases h) ?_
  simp only [go_sem, v173, p173]
  refine awp_sr ?_
  simp only [go_sem, R173_4, v173, p173]
  refine awp_ret ?_
  try simp only [go_sem]
  rw [hQ]
  exact Ends.plain (.inl rfl) rfl (.refl _) rfl
theorem szState_ok (a : State) (n : Nat) (hn : n ≤ 1048576) (ha : a.ok) : FS Tryz.prog 165 [] [.agg a.c, .int .i64 n] (.int .i64 (left n a.sz)) [] := by
  refine FS.of (X := X165) (ac := A165) (os := O165) Tryz.func165 (by rfl) (by rfl) (by kernel_rfl) o165 (Nat.le_of_ble_eq_true rfl) ?_
  show AWP X165 A165 (Ends X165.vs O165 0 _ _) [.agg a.c, .int .i64 n, .tup [], .tup [], .tup [], .tup []] []
  obtain ⟨Q, hQ⟩ : ∃ Q, Q = Ends X165.vs O165 0 (.int .i64 (left n a.sz)) [] := ⟨_, rfl⟩
  rw [← hQ]
  obtain ⟨p1, p2⟩ := ha
  have tot : a.sz = szS Item.sz a.items + a.floors.length := rfl
  refine awp_sr ?_
  simp only [go_sem, R165_0, v165, p165, State.c]
  refine awp_sr ?_
  simp only [go_sem, R165_1, v165, p165]
  refine run_see (szItemS_ok a.items n (by omega) p1) false (Views.refl rfl) rfl (fun j hj => by omega) (fun h => by cases h) ?_
  simp only [go_sem, v165, p165]
  refine awp_sr2 ?_
  simp only [go_sem, R165_2, v165, p165]
  refine awp_if rfl ?_ ?_
  · intro h
    refine awp_sr ?_
    simp only [go_sem, R165_3, v165, p165]
    refine awp_ret ?_
    try simp only [go_sem]
    rw [hQ]
    refine Ends.is (.inl rfl) rfl (congrArg (V.int .i64) (left_no ?_).symm) rfl
    have : ¬ szS Item.sz a.items ≤ n := fun e => by rw [left_is e] at h; omega
    omega
  intro h0
  obtain ⟨e0, g0⟩ := left_pos h0
  rw [e0]
  refine awp_skip ?_
  simp only [go_sem]
  refine awp_sr ?_
  simp only [go_sem, R165_4, v165, p165]
  refine run_see (szFloorS_ok a.floors (n - szS Item.sz a.items) (by omega) p2) false (Views.refl rfl) rfl (fun j hj => by omega) (fun h => by cases h) ?_
  simp only [go_sem, v165, p165]
  refine awp_sr2 ?_
  simp only [go_sem, R165_5, v165, p165]
  refine awp_if rfl ?_ ?_
  · intro h
    refine awp_sr ?_
    simp only [go_sem, R165_6, v165, p165]
    refine awp_ret ?_
    try simp only [go_sem]
    rw [hQ]
    refine Ends.is (.inl rfl) rfl (congrArg (V.int .i64) (left_no ?_).symm) rfl
    have : ¬ a.floors.length ≤ (n - szS Item.sz a.items) := fun e => by rw [left_is e] at h; omega
    omega
  intro h1
  obtain ⟨e1, g1⟩ := left_pos h1
  rw [e1]
  refine awp_skip ?_
  simp only [go_sem]
  refine awp_sr ?_
  simp only [go_sem, R165_7, v165, p165]
  refine awp_ret ?_
  try simp only [go_sem]
  rw [hQ]
  refine Ends.is (.inl rfl) rfl (congrArg (V.int .i64) ?_) rfl
  rw [left_is (by omega)]
  omega
theorem eqState_ok (a b : State) (h : a.sz ≤ 1048576) : FS Tryz.prog 181 [] [.agg a.c, .agg b.c] (.bool (decide (a = b))) [] := by
  have hh : szS Item.sz a.items + a.floors.length ≤ 1048576 := h
  have hl : a.items.length + sumBy Item.sz a.items + a.floors.length ≤ 1048576 := hh
  refine FS.of (X := X181) (ac := A181) (os := O181) Tryz.func181 (by rfl) (by rfl) (by kernel_rfl) o181 (Nat.le_of_ble_eq_true rfl) ?_
  show AWP X181 A181 (Ends X181.vs O181 0 _ _) [.agg a.c, .agg b.c, .tup [], .tup [], .tup [], .tup [], .tup []] []
  obtain ⟨Q, hQ⟩ : ∃ Q, Q = Ends X181.vs O181 0 (.bool (decide (a = b))) [] := ⟨_, rfl⟩
  rw [← hQ]
  have fin : ∀ L σ q, look X181.vs L 4 = .bool q → q = decide (a = b) → Q .ret L σ := by
    intro L σ q h1 h2
    rw [hQ]
    refine Ends.is (.inl rfl) (rs := [.bool q]) (by simp only [go_sem, O181, h1]) ?_ rfl
    simp [packV, h2]
  refine awp_sr ?_
  simp only [go_sem, R181_0, v181, p181, State.c]
  refine awp_sr2 ?_
  simp only [go_sem, R181_1, v181, p181]
  refine run_see (eqItemS_ok a.items b.items (by omega)) false (Views.refl rfl) rfl (fun j hj => by omega) (fun h => by cases h) ?_
  simp only [go_sem, v181, p181]
  refine awp_if' rfl ?_ ?_
  · intro h
    refine awp_sr ?_
    simp only [go_sem, R181_2, v181, p181]
    refine awp_ret ?_
    try simp only [go_sem]
    exact fin _ _ _ rfl (decide_eq_false fun e => h (by rw [e])).symm
  intro h0
  refine awp_skip ?_
  simp only [go_sem]
  refine awp_sr2 ?_
  simp only [go_sem, R181_3, v181, p181]
  refine run_see (eqFloorS_ok a.floors b.floors (by omega)) false (Views.refl rfl) rfl (fun j hj => by omega) (fun h => by cases h) ?_
  simp only [go_sem, v181, p181]
  refine awp_if' rfl ?_ ?_
  · intro h
    refine awp_sr ?_
    simp only [go_sem, R181_4, v181, p181]
    refine awp_ret ?_
    try simp only [go_sem]
    exact fin _ _ _ rfl (decide_eq_false fun e => h (by rw [e])).symm
  intro h1
  refine awp_skip ?_
  simp only [go_sem]
  refine awp_sr ?_
  simp only [go_sem, R181_5, v181, p181]
  refine awp_ret ?_
  try simp only [go_sem]
  refine fin _ _ _ rfl (decide_eq_true ?_).symm
  cases a; cases b
  simp at h0 h1
  simp [h0, h1]
theorem toStateS_ok (xs : List State) (h : szS State.sz xs ≤ 1048576) : FS Tryz.prog 212 [] [.fz 2 (rw_ State.c xs)] (.fz 2 (rw_ State.c xs)) [] := by
  have hx : xs.length ≤ 1048576 := by unfold szS at h; omega
  refine FS.of (X := X212) (ac := A212) (os := O212) Tryz.func212 (by rfl) (by rfl) (by kernel_rfl) o212 (Nat.le_of_ble_eq_true rfl) ?_
  show AWP X212 A212 (Ends X212.vs O212 0 _ _) [.fz 2 (rw_ State.c xs), .tup [], .tup [], .tup [], .tup []] []
  obtain ⟨Q, hQ⟩ : ∃ Q, Q = Ends X212.vs O212 0 (.fz 2 (rw_ State.c xs)) [] := ⟨_, rfl⟩
  rw [← hQ]
  refine awp_sr ?_
  simp only [go_sem, R212_0, v212, p212]
  refine awp_sr ?_
  simp only [go_sem, R212_1, v212, p212]
  refine ⟨by omega, ?_⟩
  refine awp_obj ⟨2, List.replicate xs.length State.zero.c⟩ (o := 0) rfl (ObLe.rep rfl fun j u v h1 h2 => ?_) ?_
  · cases j with
    | zero => simp at h1; simp [State.zero, State.c, rw_] at h2; subst h1; subst h2; exact .nl 6
    | succ j =>
      cases j with
      | zero => simp at h1; simp [State.zero, State.c, rw_] at h2; subst h1; subst h2; exact .nl 2
      | succ j =>
        simp at h1
  show AWP X212 _ _ _ [.live ⟨2, List.replicate xs.length State.zero.c⟩]
  refine awp_sr2 ?_
  simp only [go_sem, R212_2, v212, p212]
  refine awp_for (fun m L σ => ∃ i x11 ys, m = xs.length - i ∧ i ≤ xs.length ∧ ys.length = xs.length ∧ ys.take i = xs.take i ∧ L = [.fz 2 (rw_ State.c xs), .nl, .sl 0 2 0 xs.length, .int .i64 (i : Nat), x11] ∧ σ = [.live ⟨2, rw_ State.c ys⟩]) xs.length
    ⟨0, _, List.replicate xs.length State.zero, rfl, Nat.zero_le _, by simp, by simp, rfl, congrArg (fun r => [Slot.live ⟨2, r⟩]) (rw_rep State.c xs.length State.zero)⟩ ?_
  rintro m L σ ⟨i, x11, ys, rfl, hi, hl, ht, rfl, rfl⟩
  refine awp_sr2 ?_
  simp only [go_sem, R212_3, v212, p212]
  refine awp_if rfl ?_ ?_
  · intro h1
    have h1 : i < xs.length := by omega
    have h2 : i < ys.length := by omega
    refine awp_skip ?_
    simp only [go_sem]
    refine awp_seq (awp_block ?_)
    refine awp_reg ?_
    simp only [go_sem, R212_4, v212, p212, rw_at _ h1, State.c]
    refine run_see (toState_ok xs[i] (by have := sumBy_get State.sz h1; unfold szS at h; omega)) false (Views.refl rfl) rfl (fun j hj => by omega) (fun h => by cases h) ?_
    simp only [go_sem, v212, p212, rw_at _ h2, State.c]
    refine ⟨by omega, ?_⟩
    refine awp_reg ?_
    simp only [go_sem, R212_5, v212, p212, wrap_succ (i := i) (by omega)]
    refine ⟨xs.length - (i + 1), by omega, i + 1, _, ys.set i xs[i], rfl, by omega, by simpa using hl, ?_, rfl, congrArg (fun r => [Slot.live ⟨2, r⟩]) (rw_set State.c ys i xs[i])⟩
    rw [List.take_succ_eq_append_getElem h1, List.take_succ_eq_append_getElem (by simpa using h2), List.take_set_of_le (Nat.le_refl _), ht]
    simp
  · intro h1
    refine awp_exit ?_
    simp only [go_sem]
    refine awp_sr ?_
    simp only [go_sem, R212_6, v212, p212]
    refine awp_ret ?_
    try simp only [go_sem]
    have : i = xs.length := by omega
    subst this
    rw [List.take_length, ← hl, List.take_length] at ht
    subst ht
    rw [hQ]
    exact Ends.frzSl (.inl rfl) rfl rfl (by simp [rw_]) (rw_closed State.c_closed _)
theorem szStateS_ok (xs : List State) (n : Nat) (hn : n ≤ 1048576) (ha : okS State.ok xs) : FS Tryz.prog 209 [] [.fz 2 (rw_ State.c xs), .int .i64 n] (.int .i64 (left n (szS State.sz xs))) [] := by
  refine FS.of (X := X209) (ac := A209) (os := O209) Tryz.func209 (by rfl) (by rfl) (by kernel_rfl) o209 (Nat.le_of_ble_eq_true rfl) ?_
  show AWP X209 A209 (Ends X209.vs O209 0 _ _) [.fz 2 (rw_ State.c xs), .int .i64 n, .tup [], .tup [], .tup [], .tup [], .tup []] []
  obtain ⟨Q, hQ⟩ : ∃ Q, Q = Ends X209.vs O209 0 (.int .i64 (left n (szS State.sz xs))) [] := ⟨_, rfl⟩
  rw [← hQ]
  obtain ⟨ha1, ha2⟩ := ha
  have ha1 : xs.length ≤ 1000000000000000 := ha1
  refine awp_sr ?_
  simp only [go_sem, R209_0, v209, p209]
  refine awp_sr ?_
  simp only [go_sem, R209_1, v209, p209, wrap_i64 (n := (n : Int) - xs.length) (by omega) (by omega)]
  refine awp_sr2 ?_
  simp only [go_sem, R209_2, v209, p209]
  refine awp_if rfl ?_ ?_
  · intro h
    refine awp_sr ?_
    simp only [go_sem, R209_3, v209, p209]
    refine awp_ret ?_
    try simp only [go_sem]
    rw [hQ]
    exact Ends.is (.inl rfl) rfl (congrArg (V.int .i64) (left_no (by unfold szS; omega)).symm) rfl
  intro h
  have h0 : xs.length ≤ n := by omega
  refine awp_skip ?_
  simp only [go_sem]
  refine awp_sr2 ?_
  simp only [go_sem, R209_4, v209, p209]
  refine awp_for (fun m L σ => ∃ i x11 x15 x25, m = xs.length - i ∧ i ≤ xs.length ∧ xs.length + sumBy State.sz (xs.take i) ≤ n ∧ L = [.fz 2 (rw_ State.c xs), .int .i64 ((n - (xs.length + sumBy State.sz (xs.take i)) : Nat) : Int), .int .i64 0, .int .i64 (i : Nat), x11, x15, x25]) xs.length
    ⟨0, _, _, _, rfl, Nat.zero_le _, by simpa [sumBy] using h0, by rw [show ((n : Int) - xs.length) = ((n - (xs.length + sumBy State.sz (xs.take 0)) : Nat) : Int) by simp [sumBy]; omega]; rfl⟩ ?_
  rintro m L σ ⟨i, x11, x15, x25, rfl, hi, hs, rfl⟩
  refine awp_sr2 ?_
  simp only [go_sem, R209_5, v209, p209]
  refine awp_if rfl ?_ ?_
  · intro h1
    have h1 : i < xs.length := by omega
    refine awp_skip ?_
    simp only [go_sem]
    refine awp_seq (awp_block ?_)
    refine awp_sr ?_
    simp only [go_sem, R209_6, v209, p209, rw_at _ h1, State.c]
    refine run_see (szState_ok xs[i] (n - (xs.length + sumBy State.sz (xs.take i))) (by omega) (ha2 _ (List.getElem_mem h1))) false (Views.refl rfl) rfl (fun j hj => by omega) (fun h => by cases h) ?_
    simp only [go_sem, v209, p209]
    have e1 := sumBy_take State.sz h1
    have e2 := sumBy_le State.sz xs (i + 1)
    refine awp_sr ?_
    simp only [go_sem, R209_7, v209, p209]
    refine awp_if rfl ?_ ?_
    · intro h2
      refine awp_sr ?_
      simp only [go_sem, R209_8, v209, p209]
      refine awp_ret ?_
      try simp only [go_sem]
      rw [hQ]
      refine Ends.is (.inl rfl) rfl (congrArg (V.int .i64) (left_no ?_).symm) rfl
      have : ¬ State.sz xs[i] ≤ n - (xs.length + sumBy State.sz (xs.take i)) := fun e => by rw [left_is e] at h2; omega
      unfold szS; omega
    · intro h2
      obtain ⟨e3, e4⟩ := left_pos h2
      refine awp_skip ?_
      simp only [go_sem]
      refine awp_reg ?_
      simp only [go_sem, R209_9, v209, p209, wrap_succ (i := i) (by omega)]
      rw [e3, show (n - (xs.length + sumBy State.sz (xs.take i)) - State.sz xs[i] : Nat) = n - (xs.length + sumBy State.sz (xs.take (i + 1))) by omega]
      exact ⟨xs.length - (i + 1), by omega, i + 1, _, _, _, rfl, by omega, by omega, rfl⟩
  · intro h1
    refine awp_exit ?_
    simp only [go_sem]
    refine awp_sr ?_
    simp only [go_sem, R209_10, v209, p209]
    refine awp_ret ?_
    try simp only [go_sem]
    have : i = xs.length := by omega
    subst this
    rw [hQ]
    refine Ends.is (.inl rfl) rfl (congrArg (V.int .i64) ?_) rfl
    rw [left_is (by unfold szS; rw [List.take_length] at hs; omega), List.take_length]
    rfl
theorem eqStateS_ok (xs ys : List State) (hx : xs.length ≤ 1000000000) (h : szS State.sz xs ≤ 1048576) : FS Tryz.prog 217 [] [.fz 2 (rw_ State.c xs), .fz 2 (rw_ State.c ys)] (.bool (decide (xs = ys))) [] := by
  refine FS.of (X := X217) (ac := A217) (os := O217) Tryz.func217 (by rfl) (by rfl) (by kernel_rfl) o217 (Nat.le_of_ble_eq_true rfl) ?_
  show AWP X217 A217 (Ends X217.vs O217 0 _ _) [.fz 2 (rw_ State.c xs), .fz 2 (rw_ State.c ys), .tup [], .tup [], .tup [], .tup [], .tup []] []
  obtain ⟨Q, hQ⟩ : ∃ Q, Q = Ends X217.vs O217 0 (.bool (decide (xs = ys))) [] := ⟨_, rfl⟩
  rw [← hQ]
  have fin : ∀ L σ b, look X217.vs L 4 = .bool b → b = decide (xs = ys) → Q .ret L σ := by
    intro L σ b h1 h2
    rw [hQ]
    refine Ends.is (.inl rfl) (rs := [.bool b]) (by simp only [go_sem, O217, h1]) ?_ rfl
    simp [packV, h2]
  refine awp_sr ?_
  simp only [go_sem, R217_0, v217, p217]
  refine awp_sr2 ?_
  simp only [go_sem, R217_1, v217, p217]
  refine awp_if rfl ?_ ?_
  · intro h
    refine awp_sr ?_
    simp only [go_sem, R217_2, v217, p217]
    refine awp_ret ?_
    try simp only [go_sem]
    refine fin _ _ false rfl ?_
    symm; simp; intro e; subst e; exact h rfl
  intro hne
  have hl : xs.length = ys.length := by omega
  refine awp_skip ?_
  simp only [go_sem]
  refine awp_sr2 ?_
  simp only [go_sem, R217_3, v217, p217]
  refine awp_for (fun m L σ => ∃ i x10 x14 x25, m = xs.length - i ∧ i ≤ xs.length ∧ xs.take i = ys.take i ∧ L = [.fz 2 (rw_ State.c xs), .fz 2 (rw_ State.c ys), .bool false, .int .i64 (i : Nat), x10, x14, x25]) xs.length ⟨0, _, _, _, rfl, Nat.zero_le _, by simp, rfl⟩ ?_
  rintro m L σ ⟨i, x10, x14, x25, rfl, hi, ht, rfl⟩
  refine awp_sr2 ?_
  simp only [go_sem, R217_4, v217, p217]
  refine awp_if rfl ?_ ?_
  · intro h1
    have h1 : i < xs.length := by omega
    have h2 : i < ys.length := by omega
    refine awp_skip ?_
    simp only [go_sem]
    refine awp_seq (awp_block ?_)
    refine awp_sd mixed rfl (by rfl) ?_
    simp only [go_sem, R217_5, v217, p217, rw_at _ h1, rw_at _ h2, State.c]
    refine run_see (eqState_ok xs[i] ys[i] (by have := sumBy_get State.sz h1; have h : xs.length + sumBy State.sz xs ≤ 1048576 := h; omega)) false (Views.refl rfl) rfl (fun j hj => by omega) (fun h => by cases h) ?_
    simp only [go_sem, v217, p217]
    refine awp_if' rfl ?_ ?_
    · intro h3
      refine awp_sr ?_
      simp only [go_sem, R217_6, v217, p217]
      refine awp_ret ?_
      try simp only [go_sem]
      refine fin _ _ false rfl ?_
      symm; simp; intro e; subst e; exact h3 rfl
    · intro h3
      refine awp_skip ?_
      simp only [go_sem]
      refine awp_reg ?_
      simp only [go_sem, R217_7, v217, p217, wrap_succ (i := i) (by omega)]
      refine ⟨xs.length - (i + 1), by omega, i + 1, _, _, _, rfl, by omega, ?_, rfl⟩
      rw [List.take_succ_eq_append_getElem h1, List.take_succ_eq_append_getElem h2, ht, h3]
  · intro h1
    refine awp_exit ?_
    simp only [go_sem]
    refine awp_sr ?_
    simp only [go_sem, R217_8, v217, p217]
    refine awp_ret ?_
    try simp only [go_sem]
    refine fin _ _ true rfl ?_
    have : i = xs.length := by omega
    subst this
    rw [List.take_length, hl, List.take_length] at ht
    simp [ht]
end Go.Proofs.YtffigokicddekaaGreat.Abs
/- Ranges, entries and floors of a state, walked in both texts. No condition. -/
set_option linter.unusedVariables false
set_option linter.unusedSimpArgs false
set_option maxRecDepth 10000
namespace Go.Proofs.YtffigokicddekaaGreat.Abs
open Go Go.Proofs
def R52_0 : List AR := [⟨(some 6), none, 0, (.mov (.k (.bool false)))⟩]
def R52_1 : List AR := [⟨(some 7), none, 0, (.mov (.t 0))⟩, ⟨(some 8), none, 0, (.mov (.t 1))⟩, ⟨(some 9), none, 0, (.bin .geq (.t 7) (.t 8))⟩, ⟨(some 10), none, 0, (.mov (.t 9))⟩, ⟨(some 11), (some (10, true)), 0, (.mov (.t 0))⟩, ⟨(some 12), (some (10, true)), 0, (.mov (.t 2))⟩, ⟨(some 13), (some (10, true)), 0, (.bin .leq (.t 11) (.t 12))⟩, ⟨(some 14), none, 0, (.pick (.t 10) (.t 13) (.k (.bool false)))⟩, ⟨(some 6), none, 0, (.mov (.t 14))⟩]
def A52_0 : AC := (.seq (.reg 0 R52_1) .ret)
def A52 : AC := (.seq (.reg 0 R52_0) A52_0)
def O52 : List AO := [(.mov (.t 6))]
def G52 : Fns := ⟨fun f => false, fun f => 0, false⟩
noncomputable def X52 : Cx := ⟨Tryz.prog, G52, drawD, 15, [0, 1, 2, 6]⟩
theorem c52 : (Tryz.f52.body).bind (compC X52.P X52.Γ X52.D X52.nt) = some A52 := by kernel_rfl
theorem o52 : compRes X52.P Tryz.f52.results.toList = some O52 := by kernel_rfl
theorem v52 : X52.vs = [0, 1, 2, 6] := rfl
theorem p52 : X52.P = Tryz.prog := rfl
def R49_0 : List AR := [⟨(some 6), none, 0, (.mov (.k (.bool false)))⟩]
def R49_1 : List AR := [⟨(some 7), none, 0, (.mov (.t 0))⟩, ⟨(some 8), none, 0, (.mov (.t 1))⟩, ⟨(some 9), none, 0, (.bin .geq (.t 7) (.t 8))⟩, ⟨(some 10), none, 0, (.mov (.t 9))⟩, ⟨(some 11), (some (10, true)), 0, (.mov (.t 0))⟩, ⟨(some 12), (some (10, true)), 0, (.mov (.t 2))⟩, ⟨(some 13), (some (10, true)), 0, (.bin .leq (.t 11) (.t 12))⟩, ⟨(some 14), none, 0, (.pick (.t 10) (.t 13) (.k (.bool false)))⟩, ⟨(some 6), none, 0, (.mov (.t 14))⟩]
def A49_0 : AC := (.seq (.reg 0 R49_1) .ret)
def A49 : AC := (.seq (.reg 0 R49_0) A49_0)
def O49 : List AO := [(.mov (.t 6))]
def G49 : Fns := ⟨fun f => false, fun f => 0, false⟩
noncomputable def X49 : Cx := ⟨Tryz.prog, G49, drawD, 15, [0, 1, 2, 6]⟩
theorem c49 : (Tryz.f49.body).bind (compC X49.P X49.Γ X49.D X49.nt) = some A49 := by kernel_rfl
theorem o49 : compRes X49.P Tryz.f49.results.toList = some O49 := by kernel_rfl
theorem v49 : X49.vs = [0, 1, 2, 6] := rfl
theorem p49 : X49.P = Tryz.prog := rfl
def R146_0 : List AR := [⟨(some 2), none, 0, (.mov (.k (.bool false)))⟩]
def R146_1 : List AR := [⟨(some 3), none, 0, (.mov (.t 0))⟩, ⟨(some 4), none, 0, (.call false 0 0 52 [(.t 3), (.k (.int .i64 0)), (.k (.int .i64 4))])⟩, ⟨(some 2), none, 0, (.mov (.t 4))⟩]
def A146_0 : AC := (.seq (.reg 0 R146_1) .ret)
def A146 : AC := (.seq (.reg 0 R146_0) A146_0)
def O146 : List AO := [(.mov (.t 2))]
def G146 : Fns := ⟨fun f => false, fun f => 0, false⟩
noncomputable def X146 : Cx := ⟨Tryz.prog, G146, drawD, 5, [0, 2]⟩
theorem c146 : (Tryz.f146.body).bind (compC X146.P X146.Γ X146.D X146.nt) = some A146 := by kernel_rfl
theorem o146 : compRes X146.P Tryz.f146.results.toList = some O146 := by kernel_rfl
theorem v146 : X146.vs = [0, 2] := rfl
theorem p146 : X146.P = Tryz.prog := rfl
def R118_0 : List AR := [⟨(some 2), none, 0, (.mov (.k (.bool false)))⟩]
def R118_1 : List AR := [⟨(some 3), none, 0, (.mov (.t 0))⟩, ⟨(some 4), none, 0, (.call false 0 0 49 [(.t 3), (.k (.int .i64 0)), (.k (.int .i64 4))])⟩, ⟨(some 2), none, 0, (.mov (.t 4))⟩]
def A118_0 : AC := (.seq (.reg 0 R118_1) .ret)
def A118 : AC := (.seq (.reg 0 R118_0) A118_0)
def O118 : List AO := [(.mov (.t 2))]
def G118 : Fns := ⟨fun f => false, fun f => 0, false⟩
noncomputable def X118 : Cx := ⟨Tryz.prog, G118, drawD, 5, [0, 2]⟩
theorem c118 : (Tryz.f118.body).bind (compC X118.P X118.Γ X118.D X118.nt) = some A118 := by kernel_rfl
theorem o118 : compRes X118.P Tryz.f118.results.toList = some O118 := by kernel_rfl
theorem v118 : X118.vs = [0, 2] := rfl
theorem p118 : X118.P = Tryz.prog := rfl
def R225_0 : List AR := [⟨(some 4), none, 0, (.mov (.k (.int .i64 0)))⟩]
def R225_1 : List AR := [⟨(some 5), none, 0, (.mov (.t 0))⟩, ⟨(some 6), none, 0, (.mov (.t 1))⟩, ⟨(some 7), none, 0, (.bin .gtr (.t 5) (.t 6))⟩]
def R225_2 : List AR := [⟨(some 8), none, 0, (.mov (.t 0))⟩, ⟨(some 4), none, 0, (.mov (.t 8))⟩]
def R225_3 : List AR := [⟨(some 9), none, 0, (.mov (.t 1))⟩, ⟨(some 4), none, 0, (.mov (.t 9))⟩]
def A225_0 : AC := (.seq (.reg 0 R225_3) .ret)
def A225_1 : AC := (.seq (.seq (.reg 0 R225_1) (.cond (.t 7) (.seq (.reg 0 R225_2) .ret) .skip)) A225_0)
def A225 : AC := (.seq (.reg 0 R225_0) A225_1)
def O225 : List AO := [(.mov (.t 4))]
def G225 : Fns := ⟨fun f => false, fun f => 0, false⟩
noncomputable def X225 : Cx := ⟨Tryz.prog, G225, drawD, 10, [0, 1, 4, 7]⟩
theorem c225 : (Tryz.f225.body).bind (compC X225.P X225.Γ X225.D X225.nt) = some A225 := by kernel_rfl
theorem o225 : compRes X225.P Tryz.f225.results.toList = some O225 := by kernel_rfl
theorem v225 : X225.vs = [0, 1, 4, 7] := rfl
theorem p225 : X225.P = Tryz.prog := rfl
def R147_0 : List AR := [⟨(some 1), none, 0, (.box 0 5 (.t 0))⟩, ⟨(some 2), none, 0, (.mov (.k (.bool false)))⟩]
def R147_1 : List AR := [⟨(some 3), none, 0, (.faddr 0 (.t 1))⟩, ⟨(some 4), none, 0, (.load 1 false (.t 3))⟩, ⟨(some 5), none, 0, (.call false 0 0 52 [(.t 4), (.k (.int .i64 1)), (.k (.int .i64 1000))])⟩, ⟨(some 6), none, 0, (.mov (.t 5))⟩, ⟨(some 7), (some (6, true)), 0, (.faddr 1 (.t 1))⟩, ⟨(some 8), (some (6, true)), 0, (.load 1 false (.t 7))⟩, ⟨(some 9), (some (6, true)), 0, (.call false 0 0 52 [(.t 8), (.k (.int .i64 0)), (.k (.int .i64 1))])⟩, ⟨(some 10), none, 0, (.pick (.t 6) (.t 9) (.k (.bool false)))⟩, ⟨(some 11), none, 0, (.mov (.t 10))⟩, ⟨(some 12), (some (11, true)), 0, (.faddr 2 (.t 1))⟩, ⟨(some 13), (some (11, true)), 0, (.load 1 false (.t 12))⟩, ⟨(some 14), (some (11, true)), 0, (.call false 0 0 52 [(.t 13), (.k (.int .i64 0)), (.k (.int .i64 100000))])⟩, ⟨(some 15), none, 0, (.pick (.t 11) (.t 14) (.k (.bool false)))⟩, ⟨(some 16), none, 0, (.mov (.t 15))⟩, ⟨(some 17), (some (16, true)), 0, (.faddr 3 (.t 1))⟩, ⟨(some 18), (some (16, true)), 0, (.load 1 false (.t 17))⟩, ⟨(some 19), (some (16, true)), 0, (.call false 0 0 52 [(.t 18), (.k (.int .i64 0)), (.k (.int .i64 1000))])⟩, ⟨(some 20), none, 0, (.pick (.t 16) (.t 19) (.k (.bool false)))⟩, ⟨(some 21), none, 0, (.mov (.t 20))⟩, ⟨(some 22), (some (21, true)), 0, (.faddr 4 (.t 1))⟩, ⟨(some 23), (some (21, true)), 0, (.load 1 false (.t 22))⟩, ⟨(some 24), (some (21, true)), 0, (.slen (.t 23))⟩, ⟨(some 25), (some (21, true)), 0, (.bin .leq (.t 24) (.k (.int .i64 8)))⟩, ⟨(some 26), none, 0, (.pick (.t 21) (.t 25) (.k (.bool false)))⟩, ⟨(some 2), none, 0, (.mov (.t 26))⟩]
def A147_0 : AC := (.seq (.reg 0 R147_1) .ret)
def A147 : AC := (.seq (.reg 1 R147_0) A147_0)
def O147 : List AO := [(.mov (.t 2))]
def G147 : Fns := ⟨fun f => false, fun f => 0, false⟩
noncomputable def X147 : Cx := ⟨Tryz.prog, G147, drawD, 27, [0, 1, 2]⟩
theorem c147 : (Tryz.f147.body).bind (compC X147.P X147.Γ X147.D X147.nt) = some A147 := by kernel_rfl
theorem o147 : compRes X147.P Tryz.f147.results.toList = some O147 := by kernel_rfl
theorem v147 : X147.vs = [0, 1, 2] := rfl
theorem p147 : X147.P = Tryz.prog := rfl
def R119_0 : List AR := [⟨(some 1), none, 0, (.box 0 5 (.t 0))⟩, ⟨(some 2), none, 0, (.mov (.k (.bool false)))⟩]
def R119_1 : List AR := [⟨(some 3), none, 0, (.faddr 0 (.t 1))⟩, ⟨(some 4), none, 0, (.load 1 false (.t 3))⟩, ⟨(some 5), none, 0, (.call false 0 0 49 [(.t 4), (.k (.int .i64 1)), (.k (.int .i64 1000))])⟩, ⟨(some 6), none, 0, (.mov (.t 5))⟩, ⟨(some 7), (some (6, true)), 0, (.faddr 1 (.t 1))⟩, ⟨(some 8), (some (6, true)), 0, (.load 1 false (.t 7))⟩, ⟨(some 9), (some (6, true)), 0, (.call false 0 0 49 [(.t 8), (.k (.int .i64 0)), (.k (.int .i64 1))])⟩, ⟨(some 10), none, 0, (.pick (.t 6) (.t 9) (.k (.bool false)))⟩, ⟨(some 11), none, 0, (.mov (.t 10))⟩, ⟨(some 12), (some (11, true)), 0, (.faddr 2 (.t 1))⟩, ⟨(some 13), (some (11, true)), 0, (.load 1 false (.t 12))⟩, ⟨(some 14), (some (11, true)), 0, (.call false 0 0 49 [(.t 13), (.k (.int .i64 0)), (.k (.int .i64 100000))])⟩, ⟨(some 15), none, 0, (.pick (.t 11) (.t 14) (.k (.bool false)))⟩, ⟨(some 16), none, 0, (.mov (.t 15))⟩, ⟨(some 17), (some (16, true)), 0, (.faddr 3 (.t 1))⟩, ⟨(some 18), (some (16, true)), 0, (.load 1 false (.t 17))⟩, ⟨(some 19), (some (16, true)), 0, (.call false 0 0 49 [(.t 18), (.k (.int .i64 0)), (.k (.int .i64 1000))])⟩, ⟨(some 20), none, 0, (.pick (.t 16) (.t 19) (.k (.bool false)))⟩, ⟨(some 21), none, 0, (.mov (.t 20))⟩, ⟨(some 22), (some (21, true)), 0, (.faddr 4 (.t 1))⟩, ⟨(some 23), (some (21, true)), 0, (.load 1 false (.t 22))⟩, ⟨(some 24), (some (21, true)), 0, (.slen (.t 23))⟩, ⟨(some 25), (some (21, true)), 0, (.bin .leq (.t 24) (.k (.int .i64 8)))⟩, ⟨(some 26), none, 0, (.pick (.t 21) (.t 25) (.k (.bool false)))⟩, ⟨(some 2), none, 0, (.mov (.t 26))⟩]
def A119_0 : AC := (.seq (.reg 0 R119_1) .ret)
def A119 : AC := (.seq (.reg 1 R119_0) A119_0)
def O119 : List AO := [(.mov (.t 2))]
def G119 : Fns := ⟨fun f => false, fun f => 0, false⟩
noncomputable def X119 : Cx := ⟨Tryz.prog, G119, drawD, 27, [0, 1, 2]⟩
theorem c119 : (Tryz.f119.body).bind (compC X119.P X119.Γ X119.D X119.nt) = some A119 := by kernel_rfl
theorem o119 : compRes X119.P Tryz.f119.results.toList = some O119 := by kernel_rfl
theorem v119 : X119.vs = [0, 1, 2] := rfl
theorem p119 : X119.P = Tryz.prog := rfl
theorem l1In_ok (x lo hi : Int) : FS Tryz.prog 52 [] [.int .i64 x, .int .i64 lo, .int .i64 hi] (.bool (decide (lo ≤ x ∧ x ≤ hi))) [] := by
  refine FS.of (X := X52) (ac := A52) (os := O52) Tryz.func52 (by rfl) (by rfl) (by kernel_rfl) o52 (Nat.le_of_ble_eq_true rfl) ?_
  show AWP X52 A52 (Ends X52.vs O52 0 _ _) [.int .i64 x, .int .i64 lo, .int .i64 hi, .tup []] []
  obtain ⟨Q, hQ⟩ : ∃ Q, Q = Ends X52.vs O52 0 (.bool (decide (lo ≤ x ∧ x ≤ hi))) [] := ⟨_, rfl⟩
  rw [← hQ]
  refine awp_sr ?_
  simp only [go_sem, R52_0, v52, p52]
  refine awp_sr ?_
  simp only [go_sem, R52_1, v52, p52]
  refine selP_if rfl (fun h => ?_) (fun h => ?_)
  · simp only [go_sem, v52, p52, h, decide_true]
    refine awp_ret ?_
    try simp only [go_sem]
    rw [hQ]
    exact Ends.is (.inl rfl) rfl (congrArg V.bool (by simp [h])) rfl
  · simp only [go_sem, v52, p52, h, decide_false]
    refine awp_ret ?_
    try simp only [go_sem]
    rw [hQ]
    exact Ends.is (.inl rfl) rfl (congrArg V.bool (by simp [h])) rfl
theorem within_ok (x lo hi : Int) : FS Tryz.prog 49 [] [.int .i64 x, .int .i64 lo, .int .i64 hi] (.bool (decide (lo ≤ x ∧ x ≤ hi))) [] := by
  refine FS.of (X := X49) (ac := A49) (os := O49) Tryz.func49 (by rfl) (by rfl) (by kernel_rfl) o49 (Nat.le_of_ble_eq_true rfl) ?_
  show AWP X49 A49 (Ends X49.vs O49 0 _ _) [.int .i64 x, .int .i64 lo, .int .i64 hi, .tup []] []
  obtain ⟨Q, hQ⟩ : ∃ Q, Q = Ends X49.vs O49 0 (.bool (decide (lo ≤ x ∧ x ≤ hi))) [] := ⟨_, rfl⟩
  rw [← hQ]
  refine awp_sr ?_
  simp only [go_sem, R49_0, v49, p49]
  refine awp_sr ?_
  simp only [go_sem, R49_1, v49, p49]
  refine selP_if rfl (fun h => ?_) (fun h => ?_)
  · simp only [go_sem, v49, p49, h, decide_true]
    refine awp_ret ?_
    try simp only [go_sem]
    rw [hQ]
    exact Ends.is (.inl rfl) rfl (congrArg V.bool (by simp [h])) rfl
  · simp only [go_sem, v49, p49, h, decide_false]
    refine awp_ret ?_
    try simp only [go_sem]
    rw [hQ]
    exact Ends.is (.inl rfl) rfl (congrArg V.bool (by simp [h])) rfl
theorem l3Node_ok (x : Int) : FS Tryz.prog 146 [] [.int .i64 x] (.bool (decide (0 ≤ x ∧ x ≤ 4))) [] := by
  refine FS.of (X := X146) (ac := A146) (os := O146) Tryz.func146 (by rfl) (by rfl) (by kernel_rfl) o146 (Nat.le_of_ble_eq_true rfl) ?_
  show AWP X146 A146 (Ends X146.vs O146 0 _ _) [.int .i64 x, .tup []] []
  obtain ⟨Q, hQ⟩ : ∃ Q, Q = Ends X146.vs O146 0 (.bool (decide (0 ≤ x ∧ x ≤ 4))) [] := ⟨_, rfl⟩
  rw [← hQ]
  refine awp_sr ?_
  simp only [go_sem, R146_0, v146, p146]
  refine awp_sr ?_
  simp only [go_sem, R146_1, v146, p146]
  refine run_see (l1In_ok x 0 4) false (Views.refl rfl) rfl (fun j hj => by omega) (fun h => by cases h) ?_
  simp only [go_sem, v146, p146]
  refine awp_ret ?_
  try simp only [go_sem]
  rw [hQ]
  exact Ends.is (.inl rfl) rfl rfl rfl
theorem isNode_ok (x : Int) : FS Tryz.prog 118 [] [.int .i64 x] (.bool (decide (0 ≤ x ∧ x ≤ 4))) [] := by
  refine FS.of (X := X118) (ac := A118) (os := O118) Tryz.func118 (by rfl) (by rfl) (by kernel_rfl) o118 (Nat.le_of_ble_eq_true rfl) ?_
  show AWP X118 A118 (Ends X118.vs O118 0 _ _) [.int .i64 x, .tup []] []
  obtain ⟨Q, hQ⟩ : ∃ Q, Q = Ends X118.vs O118 0 (.bool (decide (0 ≤ x ∧ x ≤ 4))) [] := ⟨_, rfl⟩
  rw [← hQ]
  refine awp_sr ?_
  simp only [go_sem, R118_0, v118, p118]
  refine awp_sr ?_
  simp only [go_sem, R118_1, v118, p118]
  refine run_see (within_ok x 0 4) false (Views.refl rfl) rfl (fun j hj => by omega) (fun h => by cases h) ?_
  simp only [go_sem, v118, p118]
  refine awp_ret ?_
  try simp only [go_sem]
  rw [hQ]
  exact Ends.is (.inl rfl) rfl rfl rfl
theorem l1Max_ok (x y : Int) : FS Tryz.prog 225 [] [.int .i64 x, .int .i64 y] (.int .i64 (if y > x then y else x)) [] := by
  refine FS.of (X := X225) (ac := A225) (os := O225) Tryz.func225 (by rfl) (by rfl) (by kernel_rfl) o225 (Nat.le_of_ble_eq_true rfl) ?_
  show AWP X225 A225 (Ends X225.vs O225 0 _ _) [.int .i64 x, .int .i64 y, .tup [], .tup []] []
  obtain ⟨Q, hQ⟩ : ∃ Q, Q = Ends X225.vs O225 0 (.int .i64 (if y > x then y else x)) [] := ⟨_, rfl⟩
  rw [← hQ]
  refine awp_sr ?_
  simp only [go_sem, R225_0, v225, p225]
  refine awp_sr2 ?_
  simp only [go_sem, R225_1, v225, p225]
  refine awp_if rfl ?_ ?_
  · intro h
    refine awp_sr ?_
    simp only [go_sem, R225_2, v225, p225]
    refine awp_ret ?_
    try simp only [go_sem]
    rw [hQ]
    exact Ends.is (.inl rfl) rfl (congrArg (V.int .i64) (by rw [if_neg]; omega)) rfl
  intro h
  refine awp_skip ?_
  simp only [go_sem]
  refine awp_sr ?_
  simp only [go_sem, R225_3, v225, p225]
  refine awp_ret ?_
  try simp only [go_sem]
  rw [hQ]
  refine Ends.is (.inl rfl) rfl (congrArg (V.int .i64) ?_) rfl
  split <;> omega
/-- a right entry -/
def Entry.Right (a : Entry) : Prop := (1 ≤ a.inc ∧ a.inc ≤ 1000) ∧ (0 ≤ a.rank ∧ a.rank ≤ 1) ∧ (0 ≤ a.beat ∧ a.beat ≤ 100000) ∧ (0 ≤ a.ver ∧ a.ver ≤ 1000) ∧ (a.data.size : Int) ≤ 8
instance (a : Entry) : Decidable a.Right := by unfold Entry.Right; exact inferInstance
theorem specEntryOk_ok (a : Entry) : FS Tryz.prog 147 [] [.agg a.c] (.bool (decide a.Right)) [] := by
  refine FS.of (X := X147) (ac := A147) (os := O147) Tryz.func147 (by rfl) (by rfl) (by kernel_rfl) o147 (Nat.le_of_ble_eq_true rfl) ?_
  show AWP X147 A147 (Ends X147.vs O147 0 _ _) [.agg a.c, .tup [], .tup []] []
  obtain ⟨Q, hQ⟩ : ∃ Q, Q = Ends X147.vs O147 0 (.bool (decide a.Right)) [] := ⟨_, rfl⟩
  rw [← hQ]
  have fin : ∀ L σ q, look X147.vs L 2 = .bool q → q = decide a.Right → Q .ret L σ := by
    intro L σ q h1 h2
    rw [hQ]
    refine Ends.is (.inl rfl) (rs := [.bool q]) (by simp only [go_sem, O147, h1]) ?_ rfl
    simp [packV, h2]
  refine awp_sr ?_
  simp only [go_sem, R147_0, v147, p147, Entry.c]
  refine awp_sr ?_
  simp only [go_sem, R147_1, v147, p147]
  refine run_see (l1In_ok a.inc 1 1000) false (Views.refl rfl) rfl (fun j hj => by omega) (fun h => by cases h) ?_
  by_cases h1 : 1 ≤ a.inc ∧ a.inc ≤ 1000
  · simp only [go_sem, v147, p147, decide_eq_true h1]
    refine run_see (l1In_ok a.rank 0 1) false (Views.refl rfl) rfl (fun j hj => by omega) (fun h => by cases h) ?_
    by_cases h2 : 0 ≤ a.rank ∧ a.rank ≤ 1
    · simp only [go_sem, v147, p147, decide_eq_true h2]
      refine run_see (l1In_ok a.beat 0 100000) false (Views.refl rfl) rfl (fun j hj => by omega) (fun h => by cases h) ?_
      by_cases h3 : 0 ≤ a.beat ∧ a.beat ≤ 100000
      · simp only [go_sem, v147, p147, decide_eq_true h3]
        refine run_see (l1In_ok a.ver 0 1000) false (Views.refl rfl) rfl (fun j hj => by omega) (fun h => by cases h) ?_
        by_cases h4 : 0 ≤ a.ver ∧ a.ver ≤ 1000
        · simp only [go_sem, v147, p147, decide_eq_true h4]
          refine awp_ret ?_
          try simp only [go_sem]
          refine fin _ _ _ rfl ?_
          by_cases h5 : (a.data.size : Int) ≤ 8
          · have hr : a.Right := ⟨h1, h2, h3, h4, h5⟩
            rw [decide_eq_true h5, decide_eq_true hr]
          · have hr : ¬ a.Right := fun e => h5 e.2.2.2.2
            rw [decide_eq_false h5, decide_eq_false hr]
        · simp only [go_sem, v147, p147, decide_eq_false h4]
          refine awp_ret ?_
          try simp only [go_sem]
          exact fin _ _ _ rfl (decide_eq_false (fun e : a.Right => h4 e.2.2.2.1)).symm
      · simp only [go_sem, v147, p147, decide_eq_false h3]
        refine awp_ret ?_
        try simp only [go_sem]
        exact fin _ _ _ rfl (decide_eq_false (fun e : a.Right => h3 e.2.2.1)).symm
    · simp only [go_sem, v147, p147, decide_eq_false h2]
      refine awp_ret ?_
      try simp only [go_sem]
      exact fin _ _ _ rfl (decide_eq_false (fun e : a.Right => h2 e.2.1)).symm
  · simp only [go_sem, v147, p147, decide_eq_false h1]
    refine awp_ret ?_
    try simp only [go_sem]
    exact fin _ _ _ rfl (decide_eq_false (fun e : a.Right => h1 e.1)).symm
theorem implEntryOk_ok (a : Entry) : FS Tryz.prog 119 [] [.agg a.c] (.bool (decide a.Right)) [] := by
  refine FS.of (X := X119) (ac := A119) (os := O119) Tryz.func119 (by rfl) (by rfl) (by kernel_rfl) o119 (Nat.le_of_ble_eq_true rfl) ?_
  show AWP X119 A119 (Ends X119.vs O119 0 _ _) [.agg a.c, .tup [], .tup []] []
  obtain ⟨Q, hQ⟩ : ∃ Q, Q = Ends X119.vs O119 0 (.bool (decide a.Right)) [] := ⟨_, rfl⟩
  rw [← hQ]
  have fin : ∀ L σ q, look X119.vs L 2 = .bool q → q = decide a.Right → Q .ret L σ := by
    intro L σ q h1 h2
    rw [hQ]
    refine Ends.is (.inl rfl) (rs := [.bool q]) (by simp only [go_sem, O119, h1]) ?_ rfl
    simp [packV, h2]
  refine awp_sr ?_
  simp only [go_sem, R119_0, v119, p119, Entry.c]
  refine awp_sr ?_
  simp only [go_sem, R119_1, v119, p119]
  refine run_see (within_ok a.inc 1 1000) false (Views.refl rfl) rfl (fun j hj => by omega) (fun h => by cases h) ?_
  by_cases h1 : 1 ≤ a.inc ∧ a.inc ≤ 1000
  · simp only [go_sem, v119, p119, decide_eq_true h1]
    refine run_see (within_ok a.rank 0 1) false (Views.refl rfl) rfl (fun j hj => by omega) (fun h => by cases h) ?_
    by_cases h2 : 0 ≤ a.rank ∧ a.rank ≤ 1
    · simp only [go_sem, v119, p119, decide_eq_true h2]
      refine run_see (within_ok a.beat 0 100000) false (Views.refl rfl) rfl (fun j hj => by omega) (fun h => by cases h) ?_
      by_cases h3 : 0 ≤ a.beat ∧ a.beat ≤ 100000
      · simp only [go_sem, v119, p119, decide_eq_true h3]
        refine run_see (within_ok a.ver 0 1000) false (Views.refl rfl) rfl (fun j hj => by omega) (fun h => by cases h) ?_
        by_cases h4 : 0 ≤ a.ver ∧ a.ver ≤ 1000
        · simp only [go_sem, v119, p119, decide_eq_true h4]
          refine awp_ret ?_
          try simp only [go_sem]
          refine fin _ _ _ rfl ?_
          by_cases h5 : (a.data.size : Int) ≤ 8
          · have hr : a.Right := ⟨h1, h2, h3, h4, h5⟩
            rw [decide_eq_true h5, decide_eq_true hr]
          · have hr : ¬ a.Right := fun e => h5 e.2.2.2.2
            rw [decide_eq_false h5, decide_eq_false hr]
        · simp only [go_sem, v119, p119, decide_eq_false h4]
          refine awp_ret ?_
          try simp only [go_sem]
          exact fin _ _ _ rfl (decide_eq_false (fun e : a.Right => h4 e.2.2.2.1)).symm
      · simp only [go_sem, v119, p119, decide_eq_false h3]
        refine awp_ret ?_
        try simp only [go_sem]
        exact fin _ _ _ rfl (decide_eq_false (fun e : a.Right => h3 e.2.2.1)).symm
    · simp only [go_sem, v119, p119, decide_eq_false h2]
      refine awp_ret ?_
      try simp only [go_sem]
      exact fin _ _ _ rfl (decide_eq_false (fun e : a.Right => h2 e.2.1)).symm
  · simp only [go_sem, v119, p119, decide_eq_false h1]
    refine awp_ret ?_
    try simp only [go_sem]
    exact fin _ _ _ rfl (decide_eq_false (fun e : a.Right => h1 e.1)).symm
end Go.Proofs.YtffigokicddekaaGreat.Abs
/- Rows of whole numbers: copies, sizes, equality, under the words of the structures. No condition. -/
set_option linter.unusedVariables false
set_option linter.unusedSimpArgs false
set_option maxRecDepth 10000
namespace Go.Proofs.YtffigokicddekaaGreat.Abs
open Go Go.Proofs
theorem ints_rw (xs : List Int) : ints xs = rw_ intC xs := rfl
theorem toIntS_ok (xs : List Int) (h : xs.length ≤ 1048576) : FS Tryz.prog 176 [] [.fz 1 (rw_ intC xs)] (.fz 1 (rw_ intC xs)) [] := toInts_ok xs (by omega)
theorem eqIntS_ok (xs ys : List Int) (h : xs.length ≤ 1000000000) : FS Tryz.prog 184 [] [.fz 1 (rw_ intC xs), .fz 1 (rw_ intC ys)] (.bool (decide (xs = ys))) [] := eqInts_ok xs ys (by omega)
def R168_0 : List AR := [⟨(some 4), none, 0, (.mov (.k (.int .i64 0)))⟩]
def R168_1 : List AR := [⟨(some 5), none, 0, (.mov (.t 1))⟩, ⟨(some 6), none, 0, (.mov (.t 0))⟩, ⟨(some 7), none, 0, (.len (.t 6))⟩, ⟨(some 8), none, 0, (.bin .sub (.t 5) (.t 7))⟩, ⟨(some 1), none, 0, (.mov (.t 8))⟩]
def R168_2 : List AR := [⟨(some 9), none, 0, (.mov (.t 1))⟩, ⟨(some 10), none, 0, (.bin .lss (.t 9) (.k (.int .i64 0)))⟩]
def R168_3 : List AR := [⟨(some 4), none, 0, (.mov (.k (.int .i64 (-1))))⟩]
def R168_4 : List AR := [⟨(some 11), none, 0, (.mov (.t 1))⟩, ⟨(some 4), none, 0, (.mov (.t 11))⟩]
def A168_0 : AC := (.seq (.reg 0 R168_4) .ret)
def A168_1 : AC := (.seq (.seq (.reg 0 R168_2) (.cond (.t 10) (.seq (.reg 0 R168_3) .ret) .skip)) A168_0)
def A168_2 : AC := (.seq (.reg 0 R168_1) A168_1)
def A168 : AC := (.seq (.reg 0 R168_0) A168_2)
def O168 : List AO := [(.mov (.t 4))]
def G168 : Fns := ⟨fun f => false, fun f => 0, false⟩
noncomputable def X168 : Cx := ⟨Tryz.prog, G168, drawD, 12, [0, 1, 4, 10]⟩
theorem c168 : (Tryz.f168.body).bind (compC X168.P X168.Γ X168.D X168.nt) = some A168 := by kernel_rfl
theorem o168 : compRes X168.P Tryz.f168.results.toList = some O168 := by kernel_rfl
theorem v168 : X168.vs = [0, 1, 4, 10] := rfl
theorem p168 : X168.P = Tryz.prog := rfl
theorem szIntS_ok (xs : List Int) (n : Nat) (hn : n ≤ 1048576) (ha : xs.length ≤ big) : FS Tryz.prog 168 [] [.fz 1 (rw_ intC xs), .int .i64 n] (.int .i64 (left n xs.length)) [] := by
  refine FS.of (X := X168) (ac := A168) (os := O168) Tryz.func168 (by rfl) (by rfl) (by kernel_rfl) o168 (Nat.le_of_ble_eq_true rfl) ?_
  show AWP X168 A168 (Ends X168.vs O168 0 _ _) [.fz 1 (rw_ intC xs), .int .i64 n, .tup [], .tup []] []
  obtain ⟨Q, hQ⟩ : ∃ Q, Q = Ends X168.vs O168 0 (.int .i64 (left n xs.length)) [] := ⟨_, rfl⟩
  rw [← hQ]
  have ha : xs.length ≤ 1000000000000000 := ha
  refine awp_sr ?_
  simp only [go_sem, R168_0, v168, p168]
  refine awp_sr ?_
  simp only [go_sem, R168_1, v168, p168, wrap_i64 (n := (n : Int) - xs.length) (by omega) (by omega)]
  refine awp_sr2 ?_
  simp only [go_sem, R168_2, v168, p168]
  refine awp_if rfl ?_ ?_
  · intro h
    refine awp_sr ?_
    simp only [go_sem, R168_3, v168, p168]
    refine awp_ret ?_
    try simp only [go_sem]
    rw [hQ]
    exact Ends.is (.inl rfl) rfl (congrArg (V.int .i64) (left_no (by omega)).symm) rfl
  intro h
  refine awp_skip ?_
  simp only [go_sem]
  refine awp_sr ?_
  simp only [go_sem, R168_4, v168, p168]
  refine awp_ret ?_
  try simp only [go_sem]
  rw [hQ]
  exact Ends.is (.inl rfl) rfl (congrArg (V.int .i64) (by rw [left_is (by omega)]; omega)) rfl
end Go.Proofs.YtffigokicddekaaGreat.Abs
/- Copies, sizes and equality, walked: Tree, Mark, MarkS, Msg. No condition. -/
set_option linter.unusedVariables false
set_option linter.unusedSimpArgs false
set_option maxRecDepth 10000
namespace Go.Proofs.YtffigokicddekaaGreat.Abs
open Go Go.Proofs
def R174_0 : List AR := [⟨(some 1), none, 0, (.box 0 2 (.t 0))⟩, ⟨(some 2), none, 0, (.alloc 1 2 [.nl, (.int .i64 0)])⟩]
def R174_1 : List AR := [⟨(some 3), none, 0, (.alloc 0 2 [.nl, (.int .i64 0)])⟩]
def R174_2 : List AR := [⟨(some 4), none, 0, (.faddr 0 (.t 1))⟩, ⟨(some 5), none, 0, (.load 1 false (.t 4))⟩, ⟨(some 6), none, 0, (.call false 0 0 176 [(.t 5)])⟩, ⟨(some 7), none, 0, (.faddr 0 (.t 3))⟩, ⟨none, none, 0, (.store 1 (.t 7) (.t 6))⟩]
def R174_3 : List AR := [⟨(some 8), none, 0, (.faddr 1 (.t 1))⟩, ⟨(some 9), none, 0, (.load 1 false (.t 8))⟩, ⟨(some 10), none, 0, (.faddr 1 (.t 3))⟩, ⟨none, none, 0, (.store 1 (.t 10) (.t 9))⟩]
def R174_4 : List AR := [⟨(some 11), none, 0, (.load 2 true (.t 3))⟩, ⟨none, none, 0, (.store 2 (.t 2) (.t 11))⟩]
def A174_0 : AC := (.seq (.reg 0 R174_4) .ret)
def A174_1 : AC := (.seq (.reg 0 R174_3) A174_0)
def A174_2 : AC := (.seq (.reg 0 R174_2) A174_1)
def A174_3 : AC := (.seq (.reg 1 R174_1) A174_2)
def A174 : AC := (.seq (.reg 2 R174_0) A174_3)
def O174 : List AO := [(.load 2 true (.t 2))]
def G174 : Fns := ⟨fun f => false, fun f => 0, false⟩
noncomputable def X174 : Cx := ⟨Tryz.prog, G174, drawD, 12, [0, 1, 2, 3]⟩
theorem c174 : (Tryz.f174.body).bind (compC X174.P X174.Γ X174.D X174.nt) = some A174 := by kernel_rfl
theorem o174 : compRes X174.P Tryz.f174.results.toList = some O174 := by kernel_rfl
theorem v174 : X174.vs = [0, 1, 2, 3] := rfl
theorem p174 : X174.P = Tryz.prog := rfl
def R182_0 : List AR := [⟨(some 2), none, 0, (.box 0 2 (.t 0))⟩, ⟨(some 3), none, 0, (.box 1 2 (.t 1))⟩, ⟨(some 4), none, 0, (.mov (.k (.bool false)))⟩]
def R182_1 : List AR := [⟨(some 5), none, 0, (.faddr 0 (.t 2))⟩, ⟨(some 6), none, 0, (.load 1 false (.t 5))⟩, ⟨(some 7), none, 0, (.faddr 0 (.t 3))⟩, ⟨(some 8), none, 0, (.load 1 false (.t 7))⟩, ⟨(some 9), none, 0, (.call false 0 0 184 [(.t 6), (.t 8)])⟩, ⟨(some 10), none, 0, (.not (.t 9))⟩]
def R182_2 : List AR := [⟨(some 4), none, 0, (.mov (.k (.bool false)))⟩]
def R182_3 : List AR := [⟨(some 11), none, 0, (.faddr 1 (.t 2))⟩, ⟨(some 12), none, 0, (.load 1 false (.t 11))⟩, ⟨(some 13), none, 0, (.faddr 1 (.t 3))⟩, ⟨(some 14), none, 0, (.load 1 false (.t 13))⟩, ⟨(some 15), none, 0, (.bin .neq (.t 12) (.t 14))⟩]
def R182_4 : List AR := [⟨(some 4), none, 0, (.mov (.k (.bool false)))⟩]
def R182_5 : List AR := [⟨(some 4), none, 0, (.mov (.k (.bool true)))⟩]
def A182_0 : AC := (.seq (.reg 0 R182_5) .ret)
def A182_1 : AC := (.seq (.seq (.reg 0 R182_3) (.cond (.t 15) (.seq (.reg 0 R182_4) .ret) .skip)) A182_0)
def A182_2 : AC := (.seq (.seq (.reg 0 R182_1) (.cond (.t 10) (.seq (.reg 0 R182_2) .ret) .skip)) A182_1)
def A182 : AC := (.seq (.reg 2 R182_0) A182_2)
def O182 : List AO := [(.mov (.t 4))]
def G182 : Fns := ⟨fun f => false, fun f => 0, false⟩
noncomputable def X182 : Cx := ⟨Tryz.prog, G182, drawD, 16, [0, 1, 2, 3, 4, 10, 15]⟩
theorem c182 : (Tryz.f182.body).bind (compC X182.P X182.Γ X182.D X182.nt) = some A182 := by kernel_rfl
theorem o182 : compRes X182.P Tryz.f182.results.toList = some O182 := by kernel_rfl
theorem v182 : X182.vs = [0, 1, 2, 3, 4, 10, 15] := rfl
theorem p182 : X182.P = Tryz.prog := rfl
def R166_0 : List AR := [⟨(some 2), none, 0, (.box 0 2 (.t 0))⟩, ⟨(some 4), none, 0, (.mov (.k (.int .i64 0)))⟩]
def R166_1 : List AR := [⟨(some 5), none, 0, (.faddr 0 (.t 2))⟩, ⟨(some 6), none, 0, (.load 1 false (.t 5))⟩, ⟨(some 7), none, 0, (.mov (.t 1))⟩, ⟨(some 8), none, 0, (.call false 0 0 168 [(.t 6), (.t 7)])⟩, ⟨(some 1), none, 0, (.mov (.t 8))⟩]
def R166_2 : List AR := [⟨(some 9), none, 0, (.mov (.t 1))⟩, ⟨(some 10), none, 0, (.bin .lss (.t 9) (.k (.int .i64 0)))⟩]
def R166_3 : List AR := [⟨(some 4), none, 0, (.mov (.k (.int .i64 (-1))))⟩]
def R166_4 : List AR := [⟨(some 11), none, 0, (.mov (.t 1))⟩, ⟨(some 4), none, 0, (.mov (.t 11))⟩]
def A166_0 : AC := (.seq (.reg 0 R166_4) .ret)
def A166_1 : AC := (.seq (.seq (.reg 0 R166_2) (.cond (.t 10) (.seq (.reg 0 R166_3) .ret) .skip)) A166_0)
def A166_2 : AC := (.seq (.reg 0 R166_1) A166_1)
def A166 : AC := (.seq (.reg 1 R166_0) A166_2)
def O166 : List AO := [(.mov (.t 4))]
def G166 : Fns := ⟨fun f => false, fun f => 0, false⟩
noncomputable def X166 : Cx := ⟨Tryz.prog, G166, drawD, 12, [0, 1, 2, 4, 10]⟩
theorem c166 : (Tryz.f166.body).bind (compC X166.P X166.Γ X166.D X166.nt) = some A166 := by kernel_rfl
theorem o166 : compRes X166.P Tryz.f166.results.toList = some O166 := by kernel_rfl
theorem v166 : X166.vs = [0, 1, 2, 4, 10] := rfl
theorem p166 : X166.P = Tryz.prog := rfl
theorem toTree_ok (a : Tree) (h : a.sz ≤ 1048576) : FS Tryz.prog 174 [] [.agg a.c] (.agg a.c) [] := by
  have hl : a.leaves.length ≤ 1048576 := h
  refine FS.of (X := X174) (ac := A174) (os := O174) Tryz.func174 (by rfl) (by rfl) (by kernel_rfl) o174 (Nat.le_of_ble_eq_true rfl) ?_
  show AWP X174 A174 (Ends X174.vs O174 0 _ _) [.agg a.c, .tup [], .tup [], .tup []] []
  obtain ⟨Q, hQ⟩ : ∃ Q, Q = Ends X174.vs O174 0 (.agg a.c) [] := ⟨_, rfl⟩
  rw [← hQ]
  refine awp_sr ?_
  simp only [go_sem, R174_0, v174, p174, Tree.c]
  refine awp_sr ?_
  simp only [go_sem, R174_1, v174, p174]
  refine awp_sr ?_
  simp only [go_sem, R174_2, v174, p174]
  refine run_see (toIntS_ok a.leaves (by omega)) false (Views.refl rfl) rfl (fun j hj => by omega) (fun h => by cases h) ?_
  simp only [go_sem, v174, p174]
  refine awp_sr ?_
  simp only [go_sem, R174_3, v174, p174]
  refine awp_sr ?_
  simp only [go_sem, R174_4, v174, p174]
  refine awp_ret ?_
  try simp only [go_sem]
  rw [hQ]
  exact Ends.plain (.inl rfl) rfl (.refl _) rfl
theorem eqTree_ok (a b : Tree) (h : a.sz ≤ 1048576) : FS Tryz.prog 182 [] [.agg a.c, .agg b.c] (.bool (decide (a = b))) [] := by
  have hl : a.leaves.length ≤ 1048576 := h
  refine FS.of (X := X182) (ac := A182) (os := O182) Tryz.func182 (by rfl) (by rfl) (by kernel_rfl) o182 (Nat.le_of_ble_eq_true rfl) ?_
  show AWP X182 A182 (Ends X182.vs O182 0 _ _) [.agg a.c, .agg b.c, .tup [], .tup [], .tup [], .tup [], .tup []] []
  obtain ⟨Q, hQ⟩ : ∃ Q, Q = Ends X182.vs O182 0 (.bool (decide (a = b))) [] := ⟨_, rfl⟩
  rw [← hQ]
  have fin : ∀ L σ q, look X182.vs L 4 = .bool q → q = decide (a = b) → Q .ret L σ := by
    intro L σ q h1 h2
    rw [hQ]
    refine Ends.is (.inl rfl) (rs := [.bool q]) (by simp only [go_sem, O182, h1]) ?_ rfl
    simp [packV, h2]
  refine awp_sr ?_
  simp only [go_sem, R182_0, v182, p182, Tree.c]
  refine awp_sr2 ?_
  simp only [go_sem, R182_1, v182, p182]
  refine run_see (eqIntS_ok a.leaves b.leaves (by omega)) false (Views.refl rfl) rfl (fun j hj => by omega) (fun h => by cases h) ?_
  simp only [go_sem, v182, p182]
  refine awp_if' rfl ?_ ?_
  · intro h
    refine awp_sr ?_
    simp only [go_sem, R182_2, v182, p182]
    refine awp_ret ?_
    try simp only [go_sem]
    exact fin _ _ _ rfl (decide_eq_false fun e => h (by rw [e])).symm
  intro h0
  refine awp_skip ?_
  simp only [go_sem]
  refine awp_sr2 ?_
  simp only [go_sem, R182_3, v182, p182]
  refine awp_if rfl ?_ ?_
  · intro h
    refine awp_sr ?_
    simp only [go_sem, R182_4, v182, p182]
    refine awp_ret ?_
    try simp only [go_sem]
    exact fin _ _ _ rfl (decide_eq_false fun e => h (by rw [e])).symm
  intro h1
  refine awp_skip ?_
  simp only [go_sem]
  refine awp_sr ?_
  simp only [go_sem, R182_5, v182, p182]
  refine awp_ret ?_
  try simp only [go_sem]
  refine fin _ _ _ rfl (decide_eq_true ?_).symm
  cases a; cases b
  simp at h0 h1
  simp [h0, h1]
theorem szTree_ok (a : Tree) (n : Nat) (hn : n ≤ 1048576) (ha : a.ok) : FS Tryz.prog 166 [] [.agg a.c, .int .i64 n] (.int .i64 (left n a.sz)) [] := by
  refine FS.of (X := X166) (ac := A166) (os := O166) Tryz.func166 (by rfl) (by rfl) (by kernel_rfl) o166 (Nat.le_of_ble_eq_true rfl) ?_
  show AWP X166 A166 (Ends X166.vs O166 0 _ _) [.agg a.c, .int .i64 n, .tup [], .tup [], .tup []] []
  obtain ⟨Q, hQ⟩ : ∃ Q, Q = Ends X166.vs O166 0 (.int .i64 (left n a.sz)) [] := ⟨_, rfl⟩
  rw [← hQ]
  have p0 := ha
  have tot : a.sz = a.leaves.length := rfl
  refine awp_sr ?_
  simp only [go_sem, R166_0, v166, p166, Tree.c]
  refine awp_sr ?_
  simp only [go_sem, R166_1, v166, p166]
  refine run_see (szIntS_ok a.leaves n (by omega) p0) false (Views.refl rfl) rfl (fun j hj => by omega) (fun h => by cases h) ?_
  simp only [go_sem, v166, p166]
  refine awp_sr2 ?_
  simp only [go_sem, R166_2, v166, p166]
  refine awp_if rfl ?_ ?_
  · intro h
    refine awp_sr ?_
    simp only [go_sem, R166_3, v166, p166]
    refine awp_ret ?_
    try simp only [go_sem]
    rw [hQ]
    refine Ends.is (.inl rfl) rfl (congrArg (V.int .i64) (left_no ?_).symm) rfl
    have : ¬ a.leaves.length ≤ n := fun e => by rw [left_is e] at h; omega
    omega
  intro h0
  obtain ⟨e0, g0⟩ := left_pos h0
  rw [e0]
  refine awp_skip ?_
  simp only [go_sem]
  refine awp_sr ?_
  simp only [go_sem, R166_4, v166, p166]
  refine awp_ret ?_
  try simp only [go_sem]
  rw [hQ]
  refine Ends.is (.inl rfl) rfl (congrArg (V.int .i64) ?_) rfl
  rw [left_is (by omega)]
  omega
-- not in this seat: laws.toMark
-- not in this seat: laws.eqMark
-- not in this seat: laws.toMarkS
-- not in this seat: laws.szMarkS
-- not in this seat: laws.eqMarkS
-- not in this seat: laws.toMsg
-- not in this seat: laws.eqMsg
-- not in this seat: laws.szMsg
end Go.Proofs.YtffigokicddekaaGreat.Abs
