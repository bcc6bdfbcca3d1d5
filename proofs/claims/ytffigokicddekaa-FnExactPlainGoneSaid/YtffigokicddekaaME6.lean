/- An entry looked up, walked in both texts. No condition. -/
import Derived.Test.YtffigokicddekaaME5
set_option linter.unusedVariables false
set_option linter.unusedSimpArgs false
set_option maxRecDepth 10000
namespace Go.Proofs.Ytffigokicddekaa.Abs
open Go Go.Proofs
def R54_0 : List AR := [⟨(some 2), none, 0, (.box 0 2 (.t 0))⟩, ⟨(some 4), none, 0, (.alloc 1 5 [(.int .i64 0), (.int .i64 0), (.int .i64 0), (.int .i64 0), (.str ⟨⟨[]⟩⟩)])⟩, ⟨(some 5), none, 0, (.mov (.k (.bool false)))⟩]
def R54_1 : List AR := [⟨(some 6), none, 0, (.mov (.k (.int .i64 0)))⟩]
def R54_2 : List AR := [⟨(some 7), none, 0, (.mov (.t 6))⟩, ⟨(some 8), none, 0, (.faddr 0 (.t 2))⟩, ⟨(some 9), none, 0, (.load 1 false (.t 8))⟩, ⟨(some 10), none, 0, (.len (.t 9))⟩, ⟨(some 11), none, 0, (.bin .lss (.t 7) (.t 10))⟩]
def R54_3 : List AR := [⟨(some 14), none, 0, (.faddr 0 (.t 2))⟩, ⟨(some 15), none, 0, (.load 1 false (.t 14))⟩, ⟨(some 16), none, 0, (.mov (.t 6))⟩, ⟨(some 17), none, 0, (.iaddr 6 (.t 15) (.t 16))⟩, ⟨(some 18), none, 0, (.faddr 0 (.t 17))⟩, ⟨(some 19), none, 0, (.load 1 false (.t 18))⟩, ⟨(some 20), none, 0, (.mov (.t 1))⟩, ⟨(some 21), none, 0, (.bin .eql (.t 19) (.t 20))⟩]
def R54_4 : List AR := [⟨(some 22), none, 0, (.faddr 0 (.t 2))⟩, ⟨(some 23), none, 0, (.load 1 false (.t 22))⟩, ⟨(some 24), none, 0, (.mov (.t 6))⟩, ⟨(some 25), none, 0, (.iaddr 6 (.t 23) (.t 24))⟩, ⟨(some 26), none, 0, (.faddr 1 (.t 25))⟩, ⟨(some 27), none, 0, (.load 5 true (.t 26))⟩, ⟨none, none, 0, (.store 5 (.t 4) (.t 27))⟩, ⟨(some 5), none, 0, (.mov (.k (.bool true)))⟩]
def R54_5 : List AR := [⟨(some 12), none, 0, (.mov (.t 6))⟩, ⟨(some 13), none, 0, (.bin .add (.t 12) (.k (.int .i64 1)))⟩, ⟨(some 6), none, 0, (.mov (.t 13))⟩]
def A54_0 : AC := (.seq (.block 1 (.seq (.reg 0 R54_3) (.cond (.t 21) (.seq (.reg 0 R54_4) .ret) .skip))) (.reg 0 R54_5))
def L54_0 : AC := (.seq (.seq (.reg 0 R54_2) (.cond (.t 11) .skip (.exit 0))) A54_0)
def R54_6 : List AR := [⟨(some 28), none, 0, (.build [(.int .i64 0), (.int .i64 0), (.int .i64 0), (.int .i64 0), (.str ⟨⟨[]⟩⟩)] [])⟩, ⟨none, none, 0, (.store 5 (.t 4) (.t 28))⟩, ⟨(some 5), none, 0, (.mov (.k (.bool false)))⟩]
def A54_1 : AC := (.seq (.reg 0 R54_6) .ret)
def A54_2 : AC := (.seq (.seq (.reg 0 R54_1) (.block 0 (.loop L54_0))) A54_1)
def A54 : AC := (.seq (.reg 2 R54_0) A54_2)
def O54 : List AO := [(.load 5 true (.t 4)), (.mov (.t 5))]
def G54 : Fns := ⟨fun f => false, fun f => 0⟩
noncomputable def X54 : Cx := ⟨Try.prog, G54, drawD, 29, [0, 1, 2, 4, 5, 6, 11, 21]⟩
theorem c54 : (Try.f54.body).bind (compC X54.P X54.Γ X54.D X54.nt) = some A54 := by kernel_rfl
theorem o54 : compRes X54.P Try.f54.results.toList = some O54 := by kernel_rfl
theorem v54 : X54.vs = [0, 1, 2, 4, 5, 6, 11, 21] := rfl
theorem p54 : X54.P = Try.prog := rfl
def R58_0 : List AR := [⟨(some 2), none, 0, (.box 0 2 (.t 0))⟩, ⟨(some 4), none, 0, (.alloc 1 5 [(.int .i64 0), (.int .i64 0), (.int .i64 0), (.int .i64 0), (.str ⟨⟨[]⟩⟩)])⟩, ⟨(some 5), none, 0, (.mov (.k (.bool false)))⟩]
def R58_1 : List AR := [⟨(some 8), none, 0, (.faddr 0 (.t 2))⟩, ⟨(some 9), none, 0, (.load 1 false (.t 8))⟩, ⟨(some 10), none, 0, (.len (.t 9))⟩, ⟨(some 11), none, 0, (.mov (.k (.int .i64 0)))⟩]
def R58_2 : List AR := [⟨(some 12), none, 0, (.bin .lss (.t 11) (.t 10))⟩]
def R58_3 : List AR := [⟨(some 13), none, 0, (.iaddr 6 (.t 9) (.t 11))⟩, ⟨(some 14), none, 0, (.load 6 true (.t 13))⟩, ⟨(some 7), none, 0, (.alloc 0 6 [(.int .i64 0), (.int .i64 0), (.int .i64 0), (.int .i64 0), (.int .i64 0), (.str ⟨⟨[]⟩⟩)])⟩, ⟨none, none, 0, (.store 6 (.t 7) (.t 14))⟩]
def R58_4 : List AR := [⟨(some 15), none, 0, (.faddr 0 (.t 7))⟩, ⟨(some 16), none, 0, (.load 1 false (.t 15))⟩, ⟨(some 17), none, 0, (.mov (.t 1))⟩, ⟨(some 18), none, 0, (.bin .eql (.t 16) (.t 17))⟩]
def R58_5 : List AR := [⟨(some 19), none, 0, (.faddr 1 (.t 7))⟩, ⟨(some 20), none, 0, (.load 5 true (.t 19))⟩, ⟨none, none, 0, (.store 5 (.t 4) (.t 20))⟩, ⟨(some 5), none, 0, (.mov (.k (.bool true)))⟩]
def A58_0 : AC := (.seq (.reg 0 R58_4) (.cond (.t 18) (.seq (.reg 0 R58_5) .ret) .skip))
def R58_6 : List AR := [⟨(some 21), none, 0, (.bin .add (.t 11) (.k (.int .i64 1)))⟩, ⟨(some 11), none, 0, (.mov (.t 21))⟩]
def A58_1 : AC := (.seq (.block 1 (.seq (.reg 1 R58_3) A58_0)) (.reg 0 R58_6))
def A58_2 : AC := (.seq (.cond (.t 12) .skip (.exit 0)) A58_1)
def L58_0 : AC := (.seq (.reg 0 R58_2) A58_2)
def R58_7 : List AR := [⟨(some 22), none, 0, (.build [(.int .i64 0), (.int .i64 0), (.int .i64 0), (.int .i64 0), (.str ⟨⟨[]⟩⟩)] [])⟩, ⟨none, none, 0, (.store 5 (.t 4) (.t 22))⟩, ⟨(some 5), none, 0, (.mov (.k (.bool false)))⟩]
def A58_3 : AC := (.seq (.reg 0 R58_7) .ret)
def A58_4 : AC := (.seq (.seq (.reg 0 R58_1) (.block 0 (.loop L58_0))) A58_3)
def A58 : AC := (.seq (.reg 2 R58_0) A58_4)
def O58 : List AO := [(.load 5 true (.t 4)), (.mov (.t 5))]
def G58 : Fns := ⟨fun f => false, fun f => 0⟩
noncomputable def X58 : Cx := ⟨Try.prog, G58, drawD, 23, [0, 1, 2, 4, 5, 7, 9, 10, 11, 12, 18]⟩
theorem c58 : (Try.f58.body).bind (compC X58.P X58.Γ X58.D X58.nt) = some A58 := by kernel_rfl
theorem o58 : compRes X58.P Try.f58.results.toList = some O58 := by kernel_rfl
theorem v58 : X58.vs = [0, 1, 2, 4, 5, 7, 9, 10, 11, 12, 18] := rfl
theorem p58 : X58.P = Try.prog := rfl
def entryL : List Item → Int → Entry × Bool
  | [], _ => (Entry.zero, false)
  | x :: xs, id => if x.id = id then (x.entry, true) else entryL xs id
def entryOf (s : State) (id : Int) : Entry × Bool := entryL s.items id
theorem entryL_at {xs : List Item} {i : Nat} (h : i < xs.length) (id : Int) : entryL (xs.drop i) id = if xs[i].id = id then (xs[i].entry, true) else entryL (xs.drop (i + 1)) id := by
  rw [List.drop_eq_getElem_cons h]; rfl
def entryV (p : Entry × Bool) : V := .tup [.agg p.1.c, .bool p.2]
theorem specEntryOf_ok (a : State) (id : Int) (h : a.items.length ≤ 1000000000) : FS Try.prog 54 [] [.agg a.c, .int .i64 id] (entryV (entryOf a id)) [] := by
  refine FS.of (X := X54) (ac := A54) (os := O54) Try.func54 (by rfl) (by rfl) (by kernel_rfl) o54 (Nat.le_of_ble_eq_true rfl) ?_
  show AWP X54 A54 (Ends X54.vs O54 0 _ _) [.agg a.c, .int .i64 id, .tup [], .tup [], .tup [], .tup [], .tup [], .tup []] []
  obtain ⟨Q, hQ⟩ : ∃ Q, Q = Ends X54.vs O54 0 (entryV (entryOf a id)) [] := ⟨_, rfl⟩
  rw [← hQ]
  have fin : ∀ L σ p, resVs O54 (look X54.vs L) σ = some [.agg p.1.c, .bool p.2] → p = entryOf a id → Q .ret L σ := by
    intro L σ p h1 h2
    rw [hQ]
    exact Ends.is (.inl rfl) h1 (by rw [← h2]; rfl) rfl
  refine awp_sr ?_
  simp only [go_sem, R54_0, v54, p54, Nat.reduceEqDiff, Nat.reduceAdd, Nat.reduceLeDiff, Nat.reduceMul, Nat.reduceSub, Nat.reduceLT, State.c]
  refine awp_sr2 ?_
  simp only [go_sem, R54_1, v54, p54, Nat.reduceEqDiff, Nat.reduceAdd, Nat.reduceLeDiff, Nat.reduceMul, Nat.reduceSub, Nat.reduceLT]
  refine awp_for (fun m L σ => ∃ i x11 x21, m = a.items.length - i ∧ i ≤ a.items.length ∧ entryOf a id = entryL (a.items.drop i) id ∧ L = [.agg a.c, .int .i64 id, .ptr 0 2 0 0, .ptr 1 5 0 0, .bool false, .int .i64 (i : Nat), x11, x21] ∧ σ = [.live ⟨2, [a.c]⟩, .live ⟨5, [Entry.zero.c]⟩]) a.items.length
    ⟨0, _, _, rfl, Nat.zero_le _, rfl, rfl, rfl⟩ ?_
  rintro n L σ ⟨i, x11, x21, rfl, hi, he, rfl, rfl⟩
  refine awp_sr2 ?_
  simp only [go_sem, R54_2, v54, p54, Nat.reduceEqDiff, Nat.reduceAdd, Nat.reduceLeDiff, Nat.reduceMul, Nat.reduceSub, Nat.reduceLT, State.c]
  refine awp_if rfl ?_ ?_
  · intro h1
    have h1 : i < a.items.length := by omega
    have e1 := entryL_at h1 id
    refine awp_skip ?_
    simp only [go_sem]
    refine awp_seq (awp_block ?_)
    refine awp_sr ?_
    simp only [go_sem, R54_3, v54, p54, Nat.reduceEqDiff, Nat.reduceAdd, Nat.reduceLeDiff, Nat.reduceMul, Nat.reduceSub, Nat.reduceLT, rw_at _ h1, Item.c]
    refine awp_if rfl ?_ ?_
    · intro h2
      refine awp_sr ?_
      simp only [go_sem, R54_4, v54, p54, Nat.reduceEqDiff, Nat.reduceAdd, Nat.reduceLeDiff, Nat.reduceMul, Nat.reduceSub, Nat.reduceLT, rw_at _ h1, Item.c, Entry.c, Entry.zero]
      refine awp_ret ?_
      try simp only [go_sem]
      exact fin _ _ (a.items[i].entry, true) rfl (by rw [he, e1, if_pos h2])
    · intro h2
      refine awp_skip ?_
      simp only [go_sem]
      refine awp_reg ?_
      simp only [go_sem, R54_5, v54, p54, Nat.reduceEqDiff, Nat.reduceAdd, Nat.reduceLeDiff, Nat.reduceMul, Nat.reduceSub, Nat.reduceLT, wrap_succ (i := i) (by omega)]
      exact ⟨a.items.length - (i + 1), by omega, i + 1, _, _, rfl, by omega, by rw [he, e1, if_neg h2], rfl⟩
  · intro h1
    refine awp_exit ?_
    simp only [go_sem]
    refine awp_sr ?_
    simp only [go_sem, R54_6, v54, p54, Nat.reduceEqDiff, Nat.reduceAdd, Nat.reduceLeDiff, Nat.reduceMul, Nat.reduceSub, Nat.reduceLT, Entry.c, Entry.zero]
    refine awp_ret ?_
    try simp only [go_sem]
    exact fin _ _ (Entry.zero, false) rfl (by rw [he, List.drop_eq_nil_of_le (by omega)]; rfl)
theorem implEntryOf_ok (a : State) (id : Int) (h : a.items.length ≤ 1000000000) : FS Try.prog 58 [] [.agg a.c, .int .i64 id] (entryV (entryOf a id)) [] := by
  refine FS.of (X := X58) (ac := A58) (os := O58) Try.func58 (by rfl) (by rfl) (by kernel_rfl) o58 (Nat.le_of_ble_eq_true rfl) ?_
  show AWP X58 A58 (Ends X58.vs O58 0 _ _) [.agg a.c, .int .i64 id, .tup [], .tup [], .tup [], .tup [], .tup [], .tup [], .tup [], .tup [], .tup []] []
  obtain ⟨Q, hQ⟩ : ∃ Q, Q = Ends X58.vs O58 0 (entryV (entryOf a id)) [] := ⟨_, rfl⟩
  rw [← hQ]
  have fin : ∀ L σ p, resVs O58 (look X58.vs L) σ = some [.agg p.1.c, .bool p.2] → p = entryOf a id → Q .ret L σ := by
    intro L σ p h1 h2
    rw [hQ]
    exact Ends.is (.inl rfl) h1 (by rw [← h2]; rfl) rfl
  refine awp_sr ?_
  simp only [go_sem, R58_0, v58, p58, Nat.reduceEqDiff, Nat.reduceAdd, Nat.reduceLeDiff, Nat.reduceMul, Nat.reduceSub, Nat.reduceLT, State.c]
  refine awp_sr2 ?_
  simp only [go_sem, R58_1, v58, p58, Nat.reduceEqDiff, Nat.reduceAdd, Nat.reduceLeDiff, Nat.reduceMul, Nat.reduceSub, Nat.reduceLT]
  refine awp_for (fun m L σ => ∃ i x7 x12 x18 rest, m = a.items.length - i ∧ i ≤ a.items.length ∧ entryOf a id = entryL (a.items.drop i) id ∧ L = [.agg a.c, .int .i64 id, .ptr 0 2 0 0, .ptr 1 5 0 0, .bool false, x7, .fz 6 (rw_ Item.c a.items), .int .i64 a.items.length, .int .i64 (i : Nat), x12, x18] ∧ σ = .live ⟨2, [a.c]⟩ :: .live ⟨5, [Entry.zero.c]⟩ :: rest) a.items.length
    ⟨0, _, _, _, _, rfl, Nat.zero_le _, rfl, rfl, rfl⟩ ?_
  rintro n L σ ⟨i, x7, x12, x18, rest, rfl, hi, he, rfl, rfl⟩
  refine awp_sr ?_
  simp only [go_sem, R58_2, v58, p58, Nat.reduceEqDiff, Nat.reduceAdd, Nat.reduceLeDiff, Nat.reduceMul, Nat.reduceSub, Nat.reduceLT]
  refine awp_seq ?_
  refine awp_if rfl ?_ ?_
  · intro h1
    have h1 : i < a.items.length := by omega
    have e1 := entryL_at h1 id
    refine awp_skip ?_
    simp only [go_sem]
    refine awp_seq (awp_block ?_)
    refine awp_sr ?_
    simp only [go_sem, R58_3, v58, p58, Nat.reduceEqDiff, Nat.reduceAdd, Nat.reduceLeDiff, Nat.reduceMul, Nat.reduceSub, Nat.reduceLT, rw_at _ h1, Item.c]
    refine awp_sr ?_
    simp only [go_sem, R58_4, v58, p58, Nat.reduceEqDiff, Nat.reduceAdd, Nat.reduceLeDiff, Nat.reduceMul, Nat.reduceSub, Nat.reduceLT]
    refine awp_if rfl ?_ ?_
    · intro h2
      refine awp_sr ?_
      simp only [go_sem, R58_5, v58, p58, Nat.reduceEqDiff, Nat.reduceAdd, Nat.reduceLeDiff, Nat.reduceMul, Nat.reduceSub, Nat.reduceLT, Entry.c, Entry.zero]
      refine awp_ret ?_
      try simp only [go_sem]
      exact fin _ _ (a.items[i].entry, true) rfl (by rw [he, e1, if_pos h2])
    · intro h2
      refine awp_skip ?_
      simp only [go_sem]
      refine awp_reg ?_
      simp only [go_sem, R58_6, v58, p58, Nat.reduceEqDiff, Nat.reduceAdd, Nat.reduceLeDiff, Nat.reduceMul, Nat.reduceSub, Nat.reduceLT, wrap_succ (i := i) (by omega)]
      exact ⟨a.items.length - (i + 1), by omega, i + 1, _, _, _, _, rfl, by omega, by rw [he, e1, if_neg h2], rfl, rfl⟩
  · intro h1
    refine awp_exit ?_
    simp only [go_sem]
    refine awp_sr ?_
    simp only [go_sem, R58_7, v58, p58, Nat.reduceEqDiff, Nat.reduceAdd, Nat.reduceLeDiff, Nat.reduceMul, Nat.reduceSub, Nat.reduceLT, Entry.c, Entry.zero]
    refine awp_ret ?_
    try simp only [go_sem]
    exact fin _ _ (Entry.zero, false) rfl (by rw [he, List.drop_eq_nil_of_le (by omega)]; rfl)
end Go.Proofs.Ytffigokicddekaa.Abs
