/- An entry and a floor looked up, walked in both texts. No condition. -/
import Derived.Test.YtffigokicddekaaME4
set_option linter.unusedVariables false
set_option linter.unusedSimpArgs false
set_option maxRecDepth 10000
namespace Go.Proofs.Ytffigokicddekaa.Abs
open Go Go.Proofs
def R100_0 : List AR := [⟨(some 2), none, 0, (.box 0 2 (.t 0))⟩, ⟨(some 4), none, 0, (.mov (.k (.int .i64 0)))⟩]
def R100_1 : List AR := [⟨(some 5), none, 0, (.mov (.k (.int .i64 0)))⟩]
def R100_2 : List AR := [⟨(some 6), none, 0, (.mov (.t 5))⟩, ⟨(some 7), none, 0, (.faddr 1 (.t 2))⟩, ⟨(some 8), none, 0, (.load 1 false (.t 7))⟩, ⟨(some 9), none, 0, (.len (.t 8))⟩, ⟨(some 10), none, 0, (.bin .lss (.t 6) (.t 9))⟩]
def R100_3 : List AR := [⟨(some 13), none, 0, (.faddr 1 (.t 2))⟩, ⟨(some 14), none, 0, (.load 1 false (.t 13))⟩, ⟨(some 15), none, 0, (.mov (.t 5))⟩, ⟨(some 16), none, 0, (.iaddr 2 (.t 14) (.t 15))⟩, ⟨(some 17), none, 0, (.faddr 0 (.t 16))⟩, ⟨(some 18), none, 0, (.load 1 false (.t 17))⟩, ⟨(some 19), none, 0, (.mov (.t 1))⟩, ⟨(some 20), none, 0, (.bin .eql (.t 18) (.t 19))⟩]
def R100_4 : List AR := [⟨(some 21), none, 0, (.faddr 1 (.t 2))⟩, ⟨(some 22), none, 0, (.load 1 false (.t 21))⟩, ⟨(some 23), none, 0, (.mov (.t 5))⟩, ⟨(some 24), none, 0, (.iaddr 2 (.t 22) (.t 23))⟩, ⟨(some 25), none, 0, (.faddr 1 (.t 24))⟩, ⟨(some 26), none, 0, (.load 1 false (.t 25))⟩, ⟨(some 4), none, 0, (.mov (.t 26))⟩]
def R100_5 : List AR := [⟨(some 11), none, 0, (.mov (.t 5))⟩, ⟨(some 12), none, 0, (.bin .add (.t 11) (.k (.int .i64 1)))⟩, ⟨(some 5), none, 0, (.mov (.t 12))⟩]
def A100_0 : AC := (.seq (.block 1 (.seq (.reg 0 R100_3) (.cond (.t 20) (.seq (.reg 0 R100_4) .ret) .skip))) (.reg 0 R100_5))
def L100_0 : AC := (.seq (.seq (.reg 0 R100_2) (.cond (.t 10) .skip (.exit 0))) A100_0)
def R100_6 : List AR := [⟨(some 4), none, 0, (.mov (.k (.int .i64 0)))⟩]
def A100_1 : AC := (.seq (.reg 0 R100_6) .ret)
def A100_2 : AC := (.seq (.seq (.reg 0 R100_1) (.block 0 (.loop L100_0))) A100_1)
def A100 : AC := (.seq (.reg 1 R100_0) A100_2)
def O100 : List AO := [(.mov (.t 4))]
def G100 : Fns := ⟨fun f => false, fun f => 0⟩
noncomputable def X100 : Cx := ⟨Try.prog, G100, drawD, 27, [0, 1, 2, 4, 5, 10, 20]⟩
theorem c100 : (Try.f100.body).bind (compC X100.P X100.Γ X100.D X100.nt) = some A100 := by kernel_rfl
theorem o100 : compRes X100.P Try.f100.results.toList = some O100 := by kernel_rfl
theorem v100 : X100.vs = [0, 1, 2, 4, 5, 10, 20] := rfl
theorem p100 : X100.P = Try.prog := rfl
def R107_0 : List AR := [⟨(some 2), none, 0, (.box 0 2 (.t 0))⟩, ⟨(some 4), none, 0, (.mov (.k (.int .i64 0)))⟩]
def R107_1 : List AR := [⟨(some 7), none, 0, (.faddr 1 (.t 2))⟩, ⟨(some 8), none, 0, (.load 1 false (.t 7))⟩, ⟨(some 9), none, 0, (.len (.t 8))⟩, ⟨(some 10), none, 0, (.mov (.k (.int .i64 0)))⟩]
def R107_2 : List AR := [⟨(some 11), none, 0, (.bin .lss (.t 10) (.t 9))⟩]
def R107_3 : List AR := [⟨(some 12), none, 0, (.iaddr 2 (.t 8) (.t 10))⟩, ⟨(some 13), none, 0, (.load 2 true (.t 12))⟩, ⟨(some 6), none, 0, (.alloc 0 2 [(.int .i64 0), (.int .i64 0)])⟩, ⟨none, none, 0, (.store 2 (.t 6) (.t 13))⟩]
def R107_4 : List AR := [⟨(some 14), none, 0, (.faddr 0 (.t 6))⟩, ⟨(some 15), none, 0, (.load 1 false (.t 14))⟩, ⟨(some 16), none, 0, (.mov (.t 1))⟩, ⟨(some 17), none, 0, (.bin .eql (.t 15) (.t 16))⟩]
def R107_5 : List AR := [⟨(some 18), none, 0, (.faddr 1 (.t 6))⟩, ⟨(some 19), none, 0, (.load 1 false (.t 18))⟩, ⟨(some 4), none, 0, (.mov (.t 19))⟩]
def A107_0 : AC := (.seq (.reg 0 R107_4) (.cond (.t 17) (.seq (.reg 0 R107_5) .ret) .skip))
def R107_6 : List AR := [⟨(some 20), none, 0, (.bin .add (.t 10) (.k (.int .i64 1)))⟩, ⟨(some 10), none, 0, (.mov (.t 20))⟩]
def A107_1 : AC := (.seq (.block 1 (.seq (.reg 1 R107_3) A107_0)) (.reg 0 R107_6))
def A107_2 : AC := (.seq (.cond (.t 11) .skip (.exit 0)) A107_1)
def L107_0 : AC := (.seq (.reg 0 R107_2) A107_2)
def R107_7 : List AR := [⟨(some 4), none, 0, (.mov (.k (.int .i64 0)))⟩]
def A107_3 : AC := (.seq (.reg 0 R107_7) .ret)
def A107_4 : AC := (.seq (.seq (.reg 0 R107_1) (.block 0 (.loop L107_0))) A107_3)
def A107 : AC := (.seq (.reg 1 R107_0) A107_4)
def O107 : List AO := [(.mov (.t 4))]
def G107 : Fns := ⟨fun f => false, fun f => 0⟩
noncomputable def X107 : Cx := ⟨Try.prog, G107, drawD, 21, [0, 1, 2, 4, 6, 8, 9, 10, 11, 17]⟩
theorem c107 : (Try.f107.body).bind (compC X107.P X107.Γ X107.D X107.nt) = some A107 := by kernel_rfl
theorem o107 : compRes X107.P Try.f107.results.toList = some O107 := by kernel_rfl
theorem v107 : X107.vs = [0, 1, 2, 4, 6, 8, 9, 10, 11, 17] := rfl
theorem p107 : X107.P = Try.prog := rfl
def floorL : List Floor → Int → Int
  | [], _ => 0
  | f :: fs, id => if f.id = id then f.inc else floorL fs id
def floorOf (s : State) (id : Int) : Int := floorL s.floors id
theorem floorL_at {xs : List Floor} {i : Nat} (h : i < xs.length) (id : Int) : floorL (xs.drop i) id = if xs[i].id = id then xs[i].inc else floorL (xs.drop (i + 1)) id := by
  rw [List.drop_eq_getElem_cons h]; rfl
theorem specFloorOf_ok (a : State) (id : Int) (h : a.floors.length ≤ 1000000000) : FS Try.prog 100 [] [.agg a.c, .int .i64 id] (.int .i64 (floorOf a id)) [] := by
  refine FS.of (X := X100) (ac := A100) (os := O100) Try.func100 (by rfl) (by rfl) (by kernel_rfl) o100 (Nat.le_of_ble_eq_true rfl) ?_
  show AWP X100 A100 (Ends X100.vs O100 0 _ _) [.agg a.c, .int .i64 id, .tup [], .tup [], .tup [], .tup [], .tup []] []
  obtain ⟨Q, hQ⟩ : ∃ Q, Q = Ends X100.vs O100 0 (.int .i64 (floorOf a id)) [] := ⟨_, rfl⟩
  rw [← hQ]
  have fin : ∀ L σ n, look X100.vs L 4 = .int .i64 n → n = floorOf a id → Q .ret L σ := by
    intro L σ n h1 h2
    rw [hQ]
    refine Ends.is (.inl rfl) (rs := [.int .i64 n]) (by simp only [go_sem, O100, h1]) ?_ rfl
    simp [packV, h2]
  refine awp_sr ?_
  simp only [go_sem, R100_0, v100, p100, Nat.reduceEqDiff, Nat.reduceAdd, Nat.reduceLeDiff, Nat.reduceMul, Nat.reduceSub, Nat.reduceLT, State.c]
  refine awp_sr2 ?_
  simp only [go_sem, R100_1, v100, p100, Nat.reduceEqDiff, Nat.reduceAdd, Nat.reduceLeDiff, Nat.reduceMul, Nat.reduceSub, Nat.reduceLT]
  refine awp_for (fun m L σ => ∃ i x10 x20, m = a.floors.length - i ∧ i ≤ a.floors.length ∧ floorOf a id = floorL (a.floors.drop i) id ∧ L = [.agg a.c, .int .i64 id, .ptr 0 2 0 0, .int .i64 0, .int .i64 (i : Nat), x10, x20] ∧ σ = [.live ⟨2, [a.c]⟩]) a.floors.length
    ⟨0, _, _, rfl, Nat.zero_le _, rfl, rfl, rfl⟩ ?_
  rintro n L σ ⟨i, x10, x20, rfl, hi, he, rfl, rfl⟩
  refine awp_sr2 ?_
  simp only [go_sem, R100_2, v100, p100, Nat.reduceEqDiff, Nat.reduceAdd, Nat.reduceLeDiff, Nat.reduceMul, Nat.reduceSub, Nat.reduceLT, State.c]
  refine awp_if rfl ?_ ?_
  · intro h1
    have h1 : i < a.floors.length := by omega
    have e1 := floorL_at h1 id
    refine awp_skip ?_
    simp only [go_sem]
    refine awp_seq (awp_block ?_)
    refine awp_sr ?_
    simp only [go_sem, R100_3, v100, p100, Nat.reduceEqDiff, Nat.reduceAdd, Nat.reduceLeDiff, Nat.reduceMul, Nat.reduceSub, Nat.reduceLT, rw_at _ h1, Floor.c]
    refine awp_if rfl ?_ ?_
    · intro h2
      refine awp_sr ?_
      simp only [go_sem, R100_4, v100, p100, Nat.reduceEqDiff, Nat.reduceAdd, Nat.reduceLeDiff, Nat.reduceMul, Nat.reduceSub, Nat.reduceLT, rw_at _ h1, Floor.c]
      refine awp_ret ?_
      try simp only [go_sem]
      exact fin _ _ _ rfl (by rw [he, e1, if_pos h2])
    · intro h2
      refine awp_skip ?_
      simp only [go_sem]
      refine awp_reg ?_
      simp only [go_sem, R100_5, v100, p100, Nat.reduceEqDiff, Nat.reduceAdd, Nat.reduceLeDiff, Nat.reduceMul, Nat.reduceSub, Nat.reduceLT, wrap_succ (i := i) (by omega)]
      exact ⟨a.floors.length - (i + 1), by omega, i + 1, _, _, rfl, by omega, by rw [he, e1, if_neg h2], rfl⟩
  · intro h1
    refine awp_exit ?_
    simp only [go_sem]
    refine awp_sr ?_
    simp only [go_sem, R100_6, v100, p100, Nat.reduceEqDiff, Nat.reduceAdd, Nat.reduceLeDiff, Nat.reduceMul, Nat.reduceSub, Nat.reduceLT]
    refine awp_ret ?_
    try simp only [go_sem]
    exact fin _ _ _ rfl (by rw [he, List.drop_eq_nil_of_le (by omega)]; rfl)
theorem implFloorOf_ok (a : State) (id : Int) (h : a.floors.length ≤ 1000000000) : FS Try.prog 107 [] [.agg a.c, .int .i64 id] (.int .i64 (floorOf a id)) [] := by
  refine FS.of (X := X107) (ac := A107) (os := O107) Try.func107 (by rfl) (by rfl) (by kernel_rfl) o107 (Nat.le_of_ble_eq_true rfl) ?_
  show AWP X107 A107 (Ends X107.vs O107 0 _ _) [.agg a.c, .int .i64 id, .tup [], .tup [], .tup [], .tup [], .tup [], .tup [], .tup [], .tup []] []
  obtain ⟨Q, hQ⟩ : ∃ Q, Q = Ends X107.vs O107 0 (.int .i64 (floorOf a id)) [] := ⟨_, rfl⟩
  rw [← hQ]
  have fin : ∀ L σ n, look X107.vs L 4 = .int .i64 n → n = floorOf a id → Q .ret L σ := by
    intro L σ n h1 h2
    rw [hQ]
    refine Ends.is (.inl rfl) (rs := [.int .i64 n]) (by simp only [go_sem, O107, h1]) ?_ rfl
    simp [packV, h2]
  refine awp_sr ?_
  simp only [go_sem, R107_0, v107, p107, Nat.reduceEqDiff, Nat.reduceAdd, Nat.reduceLeDiff, Nat.reduceMul, Nat.reduceSub, Nat.reduceLT, State.c]
  refine awp_sr2 ?_
  simp only [go_sem, R107_1, v107, p107, Nat.reduceEqDiff, Nat.reduceAdd, Nat.reduceLeDiff, Nat.reduceMul, Nat.reduceSub, Nat.reduceLT]
  refine awp_for (fun m L σ => ∃ i x6 x11 x17, m = a.floors.length - i ∧ i ≤ a.floors.length ∧ floorOf a id = floorL (a.floors.drop i) id ∧ L = [.agg a.c, .int .i64 id, .ptr 0 2 0 0, .int .i64 0, x6, .fz 2 (rw_ Floor.c a.floors), .int .i64 a.floors.length, .int .i64 (i : Nat), x11, x17]) a.floors.length
    ⟨0, _, _, _, rfl, Nat.zero_le _, rfl, rfl⟩ ?_
  rintro n L σ ⟨i, x6, x11, x17, rfl, hi, he, rfl⟩
  refine awp_sr ?_
  simp only [go_sem, R107_2, v107, p107, Nat.reduceEqDiff, Nat.reduceAdd, Nat.reduceLeDiff, Nat.reduceMul, Nat.reduceSub, Nat.reduceLT]
  refine awp_seq ?_
  refine awp_if rfl ?_ ?_
  · intro h1
    have h1 : i < a.floors.length := by omega
    have e1 := floorL_at h1 id
    refine awp_skip ?_
    simp only [go_sem]
    refine awp_seq (awp_block ?_)
    refine awp_sr ?_
    simp only [go_sem, R107_3, v107, p107, Nat.reduceEqDiff, Nat.reduceAdd, Nat.reduceLeDiff, Nat.reduceMul, Nat.reduceSub, Nat.reduceLT, rw_at _ h1, Floor.c]
    refine awp_sr ?_
    simp only [go_sem, R107_4, v107, p107, Nat.reduceEqDiff, Nat.reduceAdd, Nat.reduceLeDiff, Nat.reduceMul, Nat.reduceSub, Nat.reduceLT]
    refine awp_if rfl ?_ ?_
    · intro h2
      refine awp_sr ?_
      simp only [go_sem, R107_5, v107, p107, Nat.reduceEqDiff, Nat.reduceAdd, Nat.reduceLeDiff, Nat.reduceMul, Nat.reduceSub, Nat.reduceLT]
      refine awp_ret ?_
      try simp only [go_sem]
      exact fin _ _ _ rfl (by rw [he, e1, if_pos h2])
    · intro h2
      refine awp_skip ?_
      simp only [go_sem]
      refine awp_reg ?_
      simp only [go_sem, R107_6, v107, p107, Nat.reduceEqDiff, Nat.reduceAdd, Nat.reduceLeDiff, Nat.reduceMul, Nat.reduceSub, Nat.reduceLT, wrap_succ (i := i) (by omega)]
      exact ⟨a.floors.length - (i + 1), by omega, i + 1, _, _, _, rfl, by omega, by rw [he, e1, if_neg h2], rfl⟩
  · intro h1
    refine awp_exit ?_
    simp only [go_sem]
    refine awp_sr ?_
    simp only [go_sem, R107_7, v107, p107, Nat.reduceEqDiff, Nat.reduceAdd, Nat.reduceLeDiff, Nat.reduceMul, Nat.reduceSub, Nat.reduceLT]
    refine awp_ret ?_
    try simp only [go_sem]
    exact fin _ _ _ rfl (by rw [he, List.drop_eq_nil_of_le (by omega)]; rfl)
end Go.Proofs.Ytffigokicddekaa.Abs
