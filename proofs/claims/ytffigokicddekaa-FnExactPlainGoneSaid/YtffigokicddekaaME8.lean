/- What has gone, walked in both texts, and the law. No condition. -/
import Derived.Test.YtffigokicddekaaME7
set_option linter.unusedVariables false
set_option linter.unusedSimpArgs false
set_option maxRecDepth 10000
namespace Go.Proofs.Ytffigokicddekaa.Abs
open Go Go.Proofs
def R24_0 : List AR := [⟨(some 4), none, 0, (.mov (.k (.int .i64 0)))⟩]
def R24_1 : List AR := [⟨(some 5), none, 0, (.mov (.k (.int .i64 0)))⟩]
def R24_2 : List AR := [⟨(some 6), none, 0, (.mov (.k (.int .i64 0)))⟩]
def R24_3 : List AR := [⟨(some 9), none, 0, (.mov (.t 6))⟩, ⟨(some 10), none, 0, (.mov (.t 0))⟩, ⟨(some 11), none, 0, (.len (.t 10))⟩, ⟨(some 12), none, 0, (.bin .lss (.t 9) (.t 11))⟩]
def R24_4 : List AR := [⟨(some 16), none, 0, (.mov (.t 0))⟩, ⟨(some 17), none, 0, (.mov (.t 6))⟩, ⟨(some 18), none, 0, (.iaddr 2 (.t 16) (.t 17))⟩, ⟨(some 19), none, 0, (.load 2 true (.t 18))⟩, ⟨(some 20), none, 0, (.mov (.t 1))⟩, ⟨(some 21), none, 0, (.call false 0 0 54 [(.t 19), (.t 20)])⟩, ⟨(some 15), none, 0, (.mov (.t 21))⟩, ⟨(some 22), none, 0, (.ext (.t 15) 0)⟩, ⟨(some 23), none, 0, (.ext (.t 15) 1)⟩, ⟨(some 7), none, 0, (.alloc 0 5 [(.int .i64 0), (.int .i64 0), (.int .i64 0), (.int .i64 0), (.str ⟨⟨[]⟩⟩)])⟩, ⟨none, none, 0, (.store 5 (.t 7) (.t 22))⟩, ⟨(some 8), none, 0, (.mov (.t 23))⟩]
def R24_5 : List AR := [⟨(some 24), none, 0, (.mov (.t 8))⟩, ⟨(some 25), none, 0, (.mov (.t 24))⟩, ⟨(some 26), (some (25, true)), 0, (.mov (.t 0))⟩, ⟨(some 27), (some (25, true)), 0, (.mov (.t 6))⟩, ⟨(some 28), (some (25, true)), 0, (.iaddr 2 (.t 26) (.t 27))⟩, ⟨(some 29), (some (25, true)), 0, (.load 2 true (.t 28))⟩, ⟨(some 30), (some (25, true)), 0, (.call false 0 0 55 [(.t 29)])⟩, ⟨(some 31), none, 0, (.pick (.t 25) (.t 30) (.k (.bool false)))⟩, ⟨(some 32), none, 0, (.mov (.t 31))⟩, ⟨(some 33), (some (32, true)), 0, (.faddr 1 (.t 7))⟩, ⟨(some 34), (some (32, true)), 0, (.load 1 false (.t 33))⟩, ⟨(some 35), (some (32, true)), 0, (.bin .eql (.t 34) (.k (.int .i64 1)))⟩, ⟨(some 36), none, 0, (.pick (.t 32) (.t 35) (.k (.bool false)))⟩]
def R24_6 : List AR := [⟨(some 37), none, 0, (.mov (.t 5))⟩, ⟨(some 38), none, 0, (.faddr 0 (.t 7))⟩, ⟨(some 39), none, 0, (.load 1 false (.t 38))⟩, ⟨(some 40), none, 0, (.call false 0 0 56 [(.t 37), (.t 39)])⟩, ⟨(some 5), none, 0, (.mov (.t 40))⟩]
def A24_0 : AC := (.seq (.reg 0 R24_5) (.cond (.t 36) (.reg 0 R24_6) .skip))
def R24_7 : List AR := [⟨(some 13), none, 0, (.mov (.t 6))⟩, ⟨(some 14), none, 0, (.bin .add (.t 13) (.k (.int .i64 1)))⟩, ⟨(some 6), none, 0, (.mov (.t 14))⟩]
def A24_1 : AC := (.seq (.block 1 (.seq (.reg 1 R24_4) A24_0)) (.reg 0 R24_7))
def L24_0 : AC := (.seq (.seq (.reg 0 R24_3) (.cond (.t 12) .skip (.exit 0))) A24_1)
def R24_8 : List AR := [⟨(some 41), none, 0, (.mov (.t 5))⟩, ⟨(some 4), none, 0, (.mov (.t 41))⟩]
def A24_2 : AC := (.seq (.reg 0 R24_8) .ret)
def A24_3 : AC := (.seq (.seq (.reg 0 R24_2) (.block 0 (.loop L24_0))) A24_2)
def A24_4 : AC := (.seq (.reg 0 R24_1) A24_3)
def A24 : AC := (.seq (.reg 0 R24_0) A24_4)
def O24 : List AO := [(.mov (.t 4))]
def G24 : Fns := ⟨fun f => false, fun f => 0⟩
noncomputable def X24 : Cx := ⟨Try.prog, G24, drawD, 42, [0, 1, 4, 5, 6, 7, 8, 12, 36]⟩
theorem c24 : (Try.f24.body).bind (compC X24.P X24.Γ X24.D X24.nt) = some A24 := by kernel_rfl
theorem o24 : compRes X24.P Try.f24.results.toList = some O24 := by kernel_rfl
theorem v24 : X24.vs = [0, 1, 4, 5, 6, 7, 8, 12, 36] := rfl
theorem p24 : X24.P = Try.prog := rfl
def R26_0 : List AR := [⟨(some 4), none, 0, (.mov (.k (.int .i64 0)))⟩]
def R26_1 : List AR := [⟨(some 5), none, 0, (.mov (.k (.int .i64 0)))⟩]
def R26_2 : List AR := [⟨(some 10), none, 0, (.mov (.t 0))⟩, ⟨(some 11), none, 0, (.len (.t 10))⟩, ⟨(some 12), none, 0, (.mov (.k (.int .i64 0)))⟩]
def R26_3 : List AR := [⟨(some 13), none, 0, (.bin .lss (.t 12) (.t 11))⟩]
def R26_4 : List AR := [⟨(some 14), none, 0, (.iaddr 2 (.t 10) (.t 12))⟩, ⟨(some 15), none, 0, (.load 2 true (.t 14))⟩, ⟨(some 7), none, 0, (.alloc 0 2 [.nl, .nl])⟩, ⟨none, none, 0, (.store 2 (.t 7) (.t 15))⟩]
def R26_5 : List AR := [⟨(some 17), none, 0, (.load 2 true (.t 7))⟩, ⟨(some 18), none, 0, (.mov (.t 1))⟩, ⟨(some 19), none, 0, (.call false 0 0 58 [(.t 17), (.t 18)])⟩, ⟨(some 16), none, 0, (.mov (.t 19))⟩, ⟨(some 20), none, 0, (.ext (.t 16) 0)⟩, ⟨(some 21), none, 0, (.ext (.t 16) 1)⟩, ⟨(some 8), none, 0, (.alloc 0 5 [(.int .i64 0), (.int .i64 0), (.int .i64 0), (.int .i64 0), (.str ⟨⟨[]⟩⟩)])⟩, ⟨none, none, 0, (.store 5 (.t 8) (.t 20))⟩, ⟨(some 9), none, 0, (.mov (.t 21))⟩]
def R26_6 : List AR := [⟨(some 22), none, 0, (.mov (.t 9))⟩, ⟨(some 23), none, 0, (.mov (.t 22))⟩, ⟨(some 24), (some (23, true)), 0, (.load 2 true (.t 7))⟩, ⟨(some 25), (some (23, true)), 0, (.call false 0 0 59 [(.t 24)])⟩, ⟨(some 26), none, 0, (.pick (.t 23) (.t 25) (.k (.bool false)))⟩, ⟨(some 27), none, 0, (.mov (.t 26))⟩, ⟨(some 28), (some (27, true)), 0, (.faddr 1 (.t 8))⟩, ⟨(some 29), (some (27, true)), 0, (.load 1 false (.t 28))⟩, ⟨(some 30), (some (27, true)), 0, (.bin .eql (.t 29) (.k (.int .i64 1)))⟩, ⟨(some 31), none, 0, (.pick (.t 27) (.t 30) (.k (.bool false)))⟩]
def R26_7 : List AR := [⟨(some 32), none, 0, (.mov (.t 5))⟩, ⟨(some 33), none, 0, (.faddr 0 (.t 8))⟩, ⟨(some 34), none, 0, (.load 1 false (.t 33))⟩, ⟨(some 35), none, 0, (.max [(.t 32), (.t 34)])⟩, ⟨(some 5), none, 0, (.mov (.t 35))⟩]
def A26_0 : AC := (.seq (.reg 0 R26_6) (.cond (.t 31) (.reg 0 R26_7) .skip))
def A26_1 : AC := (.seq (.reg 1 R26_5) A26_0)
def R26_8 : List AR := [⟨(some 36), none, 0, (.bin .add (.t 12) (.k (.int .i64 1)))⟩, ⟨(some 12), none, 0, (.mov (.t 36))⟩]
def A26_2 : AC := (.seq (.block 1 (.seq (.reg 1 R26_4) A26_1)) (.reg 0 R26_8))
def A26_3 : AC := (.seq (.cond (.t 13) .skip (.exit 0)) A26_2)
def L26_0 : AC := (.seq (.reg 0 R26_3) A26_3)
def R26_9 : List AR := [⟨(some 37), none, 0, (.mov (.t 5))⟩, ⟨(some 4), none, 0, (.mov (.t 37))⟩]
def A26_4 : AC := (.seq (.reg 0 R26_9) .ret)
def A26_5 : AC := (.seq (.seq (.reg 0 R26_2) (.block 0 (.loop L26_0))) A26_4)
def A26_6 : AC := (.seq (.reg 0 R26_1) A26_5)
def A26 : AC := (.seq (.reg 0 R26_0) A26_6)
def O26 : List AO := [(.mov (.t 4))]
def G26 : Fns := ⟨fun f => false, fun f => 0⟩
noncomputable def X26 : Cx := ⟨Try.prog, G26, drawD, 38, [0, 1, 4, 5, 7, 8, 9, 10, 11, 12, 13, 31]⟩
theorem c26 : (Try.f26.body).bind (compC X26.P X26.Γ X26.D X26.nt) = some A26 := by kernel_rfl
theorem o26 : compRes X26.P Try.f26.results.toList = some O26 := by kernel_rfl
theorem v26 : X26.vs = [0, 1, 4, 5, 7, 8, 9, 10, 11, 12, 13, 31] := rfl
theorem p26 : X26.P = Try.prog := rfl
def goneP (id : Int) (s : State) : Prop := (entryOf s id).2 = true ∧ s.Right ∧ (entryOf s id).1.rank = 1
noncomputable instance (id : Int) (s : State) : Decidable (goneP id s) := Classical.propDecidable _
noncomputable def goneF (id : Int) (n : Int) (s : State) : Int := if goneP id s then (if (entryOf s id).1.inc > n then (entryOf s id).1.inc else n) else n
theorem goneF_if {id : Int} {s : State} (h : goneP id s) (n : Int) : goneF id n s = if (entryOf s id).1.inc > n then (entryOf s id).1.inc else n := by unfold goneF; rw [if_pos h]
theorem goneF_no {id : Int} {s : State} (h : ¬ goneP id s) (n : Int) : goneF id n s = n := by unfold goneF; rw [if_neg h]
noncomputable def plainGone (parts : List State) (id : Int) : Int := parts.foldl (goneF id) 0
theorem fold_take {α β : Type} (f : β → α → β) (b : β) {xs : List α} {i : Nat} (h : i < xs.length) : (xs.take (i + 1)).foldl f b = f ((xs.take i).foldl f b) xs[i] := by
  rw [List.take_succ_eq_append_getElem h, List.foldl_append]; rfl
theorem size_of {a : State} {xs : List State} {n : Nat} (h : szS State.sz xs ≤ n) {i : Nat} (h1 : i < xs.length) : a.sz ≤ n → xs[i].sz ≤ n := by
  have := sumBy_get State.sz h1
  unfold szS at h
  omega
theorem State.items_le (a : State) : a.items.length ≤ a.sz := by unfold State.sz szS; omega
theorem State.floors_le (a : State) : a.floors.length ≤ a.sz := by unfold State.sz szS; omega
theorem specPlainGone_ok (xs : List State) (id : Int) (h : szS State.sz xs ≤ 1048576) : FS Try.prog 24 [] [.fz 2 (rw_ State.c xs), .int .i64 id] (.int .i64 (plainGone xs id)) [] := by
  refine FS.of (X := X24) (ac := A24) (os := O24) Try.func24 (by rfl) (by rfl) (by kernel_rfl) o24 (Nat.le_of_ble_eq_true rfl) ?_
  show AWP X24 A24 (Ends X24.vs O24 0 _ _) [.fz 2 (rw_ State.c xs), .int .i64 id, .tup [], .tup [], .tup [], .tup [], .tup [], .tup [], .tup []] []
  obtain ⟨Q, hQ⟩ : ∃ Q, Q = Ends X24.vs O24 0 (.int .i64 (plainGone xs id)) [] := ⟨_, rfl⟩
  rw [← hQ]
  have hx : xs.length ≤ 1048576 := by unfold szS at h; omega
  have fin : ∀ L σ v, resVs O24 (look X24.vs L) σ = some [v] → v = (.int .i64 (plainGone xs id)) → Q .ret L σ := by
    intro L σ v h1 h2
    rw [hQ]
    exact Ends.is (.inl rfl) h1 (by simp only [packV, h2]) rfl
  refine awp_sr ?_
  simp only [go_sem, R24_0, v24, p24, Nat.reduceEqDiff, Nat.reduceAdd, Nat.reduceLeDiff, Nat.reduceMul, Nat.reduceSub, Nat.reduceLT]
  refine awp_sr ?_
  simp only [go_sem, R24_1, v24, p24, Nat.reduceEqDiff, Nat.reduceAdd, Nat.reduceLeDiff, Nat.reduceMul, Nat.reduceSub, Nat.reduceLT]
  refine awp_sr2 ?_
  simp only [go_sem, R24_2, v24, p24, Nat.reduceEqDiff, Nat.reduceAdd, Nat.reduceLeDiff, Nat.reduceMul, Nat.reduceSub, Nat.reduceLT]
  obtain ⟨I, hI⟩ : ∃ I : Nat → List V → Store → Prop, I = fun m L σ => ∃ i rest y4 y7 y8 y12 y36, m = xs.length - i ∧ i ≤ xs.length ∧ (True) ∧ L = [.fz 2 (rw_ State.c xs), .int .i64 id, y4, .int .i64 ((xs.take i).foldl (goneF id) 0), .int .i64 (i : Nat), y7, y8, y12, y36] ∧ σ = rest := ⟨_, rfl⟩
  refine awp_for I xs.length ?_ ?_
  · rw [hI]; refine ⟨0, _, _, _, _, _, _, rfl, Nat.zero_le _, ?_, rfl, rfl⟩
    trivial
  intro m L σ hIn
  rw [hI] at hIn
  obtain ⟨i, rest, y4, y7, y8, y12, y36, rfl, hi, hP, rfl, rfl⟩ := hIn
  refine awp_sr2 ?_
  simp only [go_sem, R24_3, v24, p24, Nat.reduceEqDiff, Nat.reduceAdd, Nat.reduceLeDiff, Nat.reduceMul, Nat.reduceSub, Nat.reduceLT]
  refine awp_if rfl ?_ ?_
  · intro h1
    have h1 : i < xs.length := by omega
    have hs : xs[i].sz ≤ 1048576 := size_of (a := xs[i]) h h1 (by have := sumBy_get State.sz h1; unfold szS at h; omega)
    have hs2 := State.items_le xs[i]
    refine awp_skip ?_
    simp only [go_sem]
    refine awp_seq (awp_block ?_)
    refine awp_sr ?_
    simp only [go_sem, R24_4, v24, p24, Nat.reduceEqDiff, Nat.reduceAdd, Nat.reduceLeDiff, Nat.reduceMul, Nat.reduceSub, Nat.reduceLT, rw_at _ h1, State.c]
    refine run_see (specEntryOf_ok xs[i] id (by omega)) false (Views.refl rfl) rfl (fun j hj => by omega) (fun h => by cases h) ?_
    simp only [go_sem, v24, p24, Nat.reduceEqDiff, Nat.reduceAdd, Nat.reduceLeDiff, Nat.reduceMul, Nat.reduceSub, Nat.reduceLT, entryV, Entry.c]
    obtain ⟨K1, hK1⟩ : ∃ K : List V → Store → Prop, K = fun L σ => ∃ q rest y4 y8 y12, L = [.fz 2 (rw_ State.c xs), .int .i64 id, y4, .int .i64 ((xs.take i).foldl (goneF id) 0), .int .i64 (i : Nat), .ptr rest.length 5 0 0, y8, y12, .bool q] ∧ σ = rest ++ [.live ⟨5, [(entryOf xs[i] id).1.c]⟩] ∧ q = decide (goneP id xs[i]) := ⟨_, rfl⟩
    refine awp_srK (K1) ?_ ?_
    · simp only [go_sem, R24_5, v24, p24, Nat.reduceEqDiff, Nat.reduceAdd, Nat.reduceLeDiff, Nat.reduceMul, Nat.reduceSub, Nat.reduceLT]
      repeat' first
        | (refine selP_if rfl (fun h => ?_) (fun h => ?_) <;> simp only [go_sem, v24, p24, Nat.reduceEqDiff, Nat.reduceAdd, Nat.reduceLeDiff, Nat.reduceMul, Nat.reduceSub, Nat.reduceLT, decide_true, decide_false, not_true_eq_false, not_false_eq_true, h, rw_at _ h1, State.c])
        | (refine selP_ifn rfl (fun h => ?_) (fun h => ?_) <;> simp only [go_sem, v24, p24, Nat.reduceEqDiff, Nat.reduceAdd, Nat.reduceLeDiff, Nat.reduceMul, Nat.reduceSub, Nat.reduceLT, decide_true, decide_false, not_true_eq_false, not_false_eq_true, h, rw_at _ h1, State.c])
        | (refine selN_if rfl (fun h => ?_) (fun h => ?_) <;> simp only [go_sem, v24, p24, Nat.reduceEqDiff, Nat.reduceAdd, Nat.reduceLeDiff, Nat.reduceMul, Nat.reduceSub, Nat.reduceLT, decide_true, decide_false, not_true_eq_false, not_false_eq_true, h, rw_at _ h1, State.c])
        | (refine selN_ifn rfl (fun h => ?_) (fun h => ?_) <;> simp only [go_sem, v24, p24, Nat.reduceEqDiff, Nat.reduceAdd, Nat.reduceLeDiff, Nat.reduceMul, Nat.reduceSub, Nat.reduceLT, decide_true, decide_false, not_true_eq_false, not_false_eq_true, h, rw_at _ h1, State.c])
        | (refine selB_if rfl (fun h => ?_) (fun h => ?_) <;> simp only [go_sem, v24, p24, Nat.reduceEqDiff, Nat.reduceAdd, Nat.reduceLeDiff, Nat.reduceMul, Nat.reduceSub, Nat.reduceLT, decide_true, decide_false, not_true_eq_false, not_false_eq_true, h, rw_at _ h1, State.c])
        | (refine selB_ifn rfl (fun h => ?_) (fun h => ?_) <;> simp only [go_sem, v24, p24, Nat.reduceEqDiff, Nat.reduceAdd, Nat.reduceLeDiff, Nat.reduceMul, Nat.reduceSub, Nat.reduceLT, decide_true, decide_false, not_true_eq_false, not_false_eq_true, h, rw_at _ h1, State.c])
        | (refine run_see (specStateOk_ok xs[i] hs) false (Views.refl rfl) rfl (fun j hj => by omega) (fun h => by cases h) ?_; simp only [go_sem, v24, p24, Nat.reduceEqDiff, Nat.reduceAdd, Nat.reduceLeDiff, Nat.reduceMul, Nat.reduceSub, Nat.reduceLT, decide_true, decide_false, not_true_eq_false, not_false_eq_true, rw_at _ h1, State.c])
      all_goals rw [hK1]
      all_goals refine ⟨_, _, _, _, _, rfl, rfl, ?_⟩
      all_goals grind [goneP]
    intro L σ hq
    rw [hK1] at hq
    obtain ⟨q, rest, y4, y8, y12, rfl, rfl, hq⟩ := hq
    subst hq
    have e1 := fold_take (goneF id) 0 h1
    obtain ⟨K2, hK2⟩ : ∃ K : List V → Store → Prop, K = fun L σ => ∃ rest y4 y7 y8 y12 y36, L = [.fz 2 (rw_ State.c xs), .int .i64 id, y4, .int .i64 ((xs.take (i + 1)).foldl (goneF id) 0), .int .i64 (i : Nat), y7, y8, y12, y36] ∧ σ = rest ∧ True := ⟨_, rfl⟩
    refine awp_K K2 ?_ ?_
    · refine awp_if rfl ?_ ?_
      · intro h2
        refine awp_reg ?_
        simp only [go_sem, R24_6, v24, p24, Nat.reduceEqDiff, Nat.reduceAdd, Nat.reduceLeDiff, Nat.reduceMul, Nat.reduceSub, Nat.reduceLT, Entry.c]
        refine run_see (l1Max_ok _ _) false (Views.refl rfl) rfl (fun j hj => by omega) (fun h => by cases h) ?_
        simp only [go_sem, v24, p24, Nat.reduceEqDiff, Nat.reduceAdd, Nat.reduceLeDiff, Nat.reduceMul, Nat.reduceSub, Nat.reduceLT]
        rw [← goneF_if h2, ← e1]
        rw [hK2]
        refine ⟨_, _, _, _, _, _, rfl, rfl, ?_⟩
        trivial
      · intro h2
        refine awp_skip ?_
        simp only [go_sem]
        rw [goneF_no h2] at e1
        rw [← e1]
        rw [hK2]
        refine ⟨_, _, _, _, _, _, rfl, rfl, ?_⟩
        trivial
    · intro L σ hq
      rw [hK2] at hq
      obtain ⟨rest, y4, y7, y8, y12, y36, rfl, rfl, hq⟩ := hq
      simp only [go_sem, v24, p24, Nat.reduceEqDiff, Nat.reduceAdd, Nat.reduceLeDiff, Nat.reduceMul, Nat.reduceSub, Nat.reduceLT]
      refine awp_reg ?_
      simp only [go_sem, R24_7, v24, p24, Nat.reduceEqDiff, Nat.reduceAdd, Nat.reduceLeDiff, Nat.reduceMul, Nat.reduceSub, Nat.reduceLT, wrap_succ (i := i) (by omega)]
      refine ⟨xs.length - (i + 1), by omega, ?_⟩
      rw [hI]
      refine ⟨i + 1, _, _, _, _, _, _, rfl, by omega, ?_, rfl, rfl⟩
      trivial
  · intro h1
    refine awp_exit ?_
    simp only [go_sem]
    refine awp_sr ?_
    simp only [go_sem, R24_8, v24, p24, Nat.reduceEqDiff, Nat.reduceAdd, Nat.reduceLeDiff, Nat.reduceMul, Nat.reduceSub, Nat.reduceLT]
    refine awp_ret ?_
    try simp only [go_sem]
    have : i = xs.length := by omega
    subst this
    rw [List.take_length]
    exact fin _ _ _ rfl rfl
theorem implPlainGone_ok (xs : List State) (id : Int) (h : szS State.sz xs ≤ 1048576) : FS Try.prog 26 [] [.fz 2 (rw_ State.c xs), .int .i64 id] (.int .i64 (plainGone xs id)) [] := by
  refine FS.of (X := X26) (ac := A26) (os := O26) Try.func26 (by rfl) (by rfl) (by kernel_rfl) o26 (Nat.le_of_ble_eq_true rfl) ?_
  show AWP X26 A26 (Ends X26.vs O26 0 _ _) [.fz 2 (rw_ State.c xs), .int .i64 id, .tup [], .tup [], .tup [], .tup [], .tup [], .tup [], .tup [], .tup [], .tup [], .tup []] []
  obtain ⟨Q, hQ⟩ : ∃ Q, Q = Ends X26.vs O26 0 (.int .i64 (plainGone xs id)) [] := ⟨_, rfl⟩
  rw [← hQ]
  have hx : xs.length ≤ 1048576 := by unfold szS at h; omega
  have fin : ∀ L σ v, resVs O26 (look X26.vs L) σ = some [v] → v = (.int .i64 (plainGone xs id)) → Q .ret L σ := by
    intro L σ v h1 h2
    rw [hQ]
    exact Ends.is (.inl rfl) h1 (by simp only [packV, h2]) rfl
  refine awp_sr ?_
  simp only [go_sem, R26_0, v26, p26, Nat.reduceEqDiff, Nat.reduceAdd, Nat.reduceLeDiff, Nat.reduceMul, Nat.reduceSub, Nat.reduceLT]
  refine awp_sr ?_
  simp only [go_sem, R26_1, v26, p26, Nat.reduceEqDiff, Nat.reduceAdd, Nat.reduceLeDiff, Nat.reduceMul, Nat.reduceSub, Nat.reduceLT]
  refine awp_sr2 ?_
  simp only [go_sem, R26_2, v26, p26, Nat.reduceEqDiff, Nat.reduceAdd, Nat.reduceLeDiff, Nat.reduceMul, Nat.reduceSub, Nat.reduceLT]
  obtain ⟨I, hI⟩ : ∃ I : Nat → List V → Store → Prop, I = fun m L σ => ∃ i rest y4 y7 y8 y9 y13 y31, m = xs.length - i ∧ i ≤ xs.length ∧ (True) ∧ L = [.fz 2 (rw_ State.c xs), .int .i64 id, y4, .int .i64 ((xs.take i).foldl (goneF id) 0), y7, y8, y9, .fz 2 (rw_ State.c xs), .int .i64 (xs.length : Nat), .int .i64 (i : Nat), y13, y31] ∧ σ = rest := ⟨_, rfl⟩
  refine awp_for I xs.length ?_ ?_
  · rw [hI]; refine ⟨0, _, _, _, _, _, _, _, rfl, Nat.zero_le _, ?_, rfl, rfl⟩
    trivial
  intro m L σ hIn
  rw [hI] at hIn
  obtain ⟨i, rest, y4, y7, y8, y9, y13, y31, rfl, hi, hP, rfl, rfl⟩ := hIn
  refine awp_sr ?_
  simp only [go_sem, R26_3, v26, p26, Nat.reduceEqDiff, Nat.reduceAdd, Nat.reduceLeDiff, Nat.reduceMul, Nat.reduceSub, Nat.reduceLT]
  refine awp_seq ?_
  refine awp_if rfl ?_ ?_
  · intro h1
    have h1 : i < xs.length := by omega
    have hs : xs[i].sz ≤ 1048576 := size_of (a := xs[i]) h h1 (by have := sumBy_get State.sz h1; unfold szS at h; omega)
    have hs2 := State.items_le xs[i]
    refine awp_skip ?_
    simp only [go_sem]
    refine awp_seq (awp_block ?_)
    refine awp_sr ?_
    simp only [go_sem, R26_4, v26, p26, Nat.reduceEqDiff, Nat.reduceAdd, Nat.reduceLeDiff, Nat.reduceMul, Nat.reduceSub, Nat.reduceLT, rw_at _ h1, State.c]
    refine awp_sr ?_
    simp only [go_sem, R26_5, v26, p26, Nat.reduceEqDiff, Nat.reduceAdd, Nat.reduceLeDiff, Nat.reduceMul, Nat.reduceSub, Nat.reduceLT, State.c]
    refine run_see (implEntryOf_ok xs[i] id (by omega)) false (Views.refl rfl) rfl (fun j hj => by omega) (fun h => by cases h) ?_
    simp only [go_sem, v26, p26, Nat.reduceEqDiff, Nat.reduceAdd, Nat.reduceLeDiff, Nat.reduceMul, Nat.reduceSub, Nat.reduceLT, entryV, Entry.c]
    obtain ⟨K3, hK3⟩ : ∃ K : List V → Store → Prop, K = fun L σ => ∃ q rest y4 y7 y9 y13, L = [.fz 2 (rw_ State.c xs), .int .i64 id, y4, .int .i64 ((xs.take i).foldl (goneF id) 0), y7, .ptr (rest.length + 1) 5 0 0, y9, .fz 2 (rw_ State.c xs), .int .i64 (xs.length : Nat), .int .i64 (i : Nat), y13, .bool q] ∧ σ = rest ++ [.live ⟨2, [xs[i].c]⟩, .live ⟨5, [(entryOf xs[i] id).1.c]⟩] ∧ q = decide (goneP id xs[i]) := ⟨_, rfl⟩
    refine awp_srK (K3) ?_ ?_
    · simp only [go_sem, R26_6, v26, p26, Nat.reduceEqDiff, Nat.reduceAdd, Nat.reduceLeDiff, Nat.reduceMul, Nat.reduceSub, Nat.reduceLT]
      repeat' first
        | (refine selP_if rfl (fun h => ?_) (fun h => ?_) <;> simp only [go_sem, v26, p26, Nat.reduceEqDiff, Nat.reduceAdd, Nat.reduceLeDiff, Nat.reduceMul, Nat.reduceSub, Nat.reduceLT, decide_true, decide_false, not_true_eq_false, not_false_eq_true, h, rw_at _ h1, State.c])
        | (refine selP_ifn rfl (fun h => ?_) (fun h => ?_) <;> simp only [go_sem, v26, p26, Nat.reduceEqDiff, Nat.reduceAdd, Nat.reduceLeDiff, Nat.reduceMul, Nat.reduceSub, Nat.reduceLT, decide_true, decide_false, not_true_eq_false, not_false_eq_true, h, rw_at _ h1, State.c])
        | (refine selN_if rfl (fun h => ?_) (fun h => ?_) <;> simp only [go_sem, v26, p26, Nat.reduceEqDiff, Nat.reduceAdd, Nat.reduceLeDiff, Nat.reduceMul, Nat.reduceSub, Nat.reduceLT, decide_true, decide_false, not_true_eq_false, not_false_eq_true, h, rw_at _ h1, State.c])
        | (refine selN_ifn rfl (fun h => ?_) (fun h => ?_) <;> simp only [go_sem, v26, p26, Nat.reduceEqDiff, Nat.reduceAdd, Nat.reduceLeDiff, Nat.reduceMul, Nat.reduceSub, Nat.reduceLT, decide_true, decide_false, not_true_eq_false, not_false_eq_true, h, rw_at _ h1, State.c])
        | (refine selB_if rfl (fun h => ?_) (fun h => ?_) <;> simp only [go_sem, v26, p26, Nat.reduceEqDiff, Nat.reduceAdd, Nat.reduceLeDiff, Nat.reduceMul, Nat.reduceSub, Nat.reduceLT, decide_true, decide_false, not_true_eq_false, not_false_eq_true, h, rw_at _ h1, State.c])
        | (refine selB_ifn rfl (fun h => ?_) (fun h => ?_) <;> simp only [go_sem, v26, p26, Nat.reduceEqDiff, Nat.reduceAdd, Nat.reduceLeDiff, Nat.reduceMul, Nat.reduceSub, Nat.reduceLT, decide_true, decide_false, not_true_eq_false, not_false_eq_true, h, rw_at _ h1, State.c])
        | (refine run_see (implStateOk_ok xs[i] hs) false (Views.refl rfl) rfl (fun j hj => by omega) (fun h => by cases h) ?_; simp only [go_sem, v26, p26, Nat.reduceEqDiff, Nat.reduceAdd, Nat.reduceLeDiff, Nat.reduceMul, Nat.reduceSub, Nat.reduceLT, decide_true, decide_false, not_true_eq_false, not_false_eq_true, rw_at _ h1, State.c])
      all_goals rw [hK3]
      all_goals refine ⟨_, _, _, _, _, _, rfl, rfl, ?_⟩
      all_goals grind [goneP]
    intro L σ hq
    rw [hK3] at hq
    obtain ⟨q, rest, y4, y7, y9, y13, rfl, rfl, hq⟩ := hq
    subst hq
    have e1 := fold_take (goneF id) 0 h1
    obtain ⟨K4, hK4⟩ : ∃ K : List V → Store → Prop, K = fun L σ => ∃ rest y4 y7 y8 y9 y13 y31, L = [.fz 2 (rw_ State.c xs), .int .i64 id, y4, .int .i64 ((xs.take (i + 1)).foldl (goneF id) 0), y7, y8, y9, .fz 2 (rw_ State.c xs), .int .i64 (xs.length : Nat), .int .i64 (i : Nat), y13, y31] ∧ σ = rest ∧ True := ⟨_, rfl⟩
    refine awp_K K4 ?_ ?_
    · refine awp_if rfl ?_ ?_
      · intro h2
        refine awp_reg ?_
        simp only [go_sem, R26_7, v26, p26, Nat.reduceEqDiff, Nat.reduceAdd, Nat.reduceLeDiff, Nat.reduceMul, Nat.reduceSub, Nat.reduceLT, Entry.c]
        rw [← goneF_if h2, ← e1]
        rw [hK4]
        refine ⟨_, _, _, _, _, _, _, rfl, rfl, ?_⟩
        trivial
      · intro h2
        refine awp_skip ?_
        simp only [go_sem]
        rw [goneF_no h2] at e1
        rw [← e1]
        rw [hK4]
        refine ⟨_, _, _, _, _, _, _, rfl, rfl, ?_⟩
        trivial
    · intro L σ hq
      rw [hK4] at hq
      obtain ⟨rest, y4, y7, y8, y9, y13, y31, rfl, rfl, hq⟩ := hq
      simp only [go_sem, v26, p26, Nat.reduceEqDiff, Nat.reduceAdd, Nat.reduceLeDiff, Nat.reduceMul, Nat.reduceSub, Nat.reduceLT]
      refine awp_reg ?_
      simp only [go_sem, R26_8, v26, p26, Nat.reduceEqDiff, Nat.reduceAdd, Nat.reduceLeDiff, Nat.reduceMul, Nat.reduceSub, Nat.reduceLT, wrap_succ (i := i) (by omega)]
      refine ⟨xs.length - (i + 1), by omega, ?_⟩
      rw [hI]
      refine ⟨i + 1, _, _, _, _, _, _, _, rfl, by omega, ?_, rfl, rfl⟩
      trivial
  · intro h1
    refine awp_exit ?_
    simp only [go_sem]
    refine awp_sr ?_
    simp only [go_sem, R26_9, v26, p26, Nat.reduceEqDiff, Nat.reduceAdd, Nat.reduceLeDiff, Nat.reduceMul, Nat.reduceSub, Nat.reduceLT]
    refine awp_ret ?_
    try simp only [go_sem]
    have : i = xs.length := by omega
    subst this
    rw [List.take_length]
    exact fin _ _ _ rfl rfl
def R5_0 : List AR := [⟨(some 4), none, 0, (.mov (.k (.bool false)))⟩]
def R5_1 : List AR := [⟨(some 5), none, 0, (.mov (.k (.int .i64 1048576)))⟩]
def R5_2 : List AR := [⟨(some 9), none, 0, (.mov (.t 0))⟩, ⟨(some 10), none, 0, (.mov (.t 5))⟩, ⟨(some 11), none, 0, (.call false 0 0 23 [(.t 9), (.t 10)])⟩, ⟨(some 5), none, 0, (.mov (.t 11))⟩]
def R5_3 : List AR := [⟨(some 12), none, 0, (.mov (.t 5))⟩, ⟨(some 13), none, 0, (.bin .lss (.t 12) (.k (.int .i64 0)))⟩]
def R5_4 : List AR := [⟨(some 4), none, 0, (.mov (.k (.bool true)))⟩]
def R5_5 : List AR := [⟨(some 14), none, 0, (.mov (.t 0))⟩, ⟨(some 15), none, 0, (.call false 0 0 25 [(.t 14)])⟩, ⟨(some 16), none, 0, (.mov (.t 1))⟩, ⟨(some 17), none, 0, (.call false 0 0 24 [(.t 15), (.t 16)])⟩, ⟨(some 6), none, 0, (.mov (.t 17))⟩]
def R5_6 : List AR := [⟨(some 18), none, 0, (.mov (.t 0))⟩, ⟨(some 19), none, 0, (.call false 0 0 25 [(.t 18)])⟩, ⟨(some 7), none, 0, (.mov (.t 19))⟩]
def R5_7 : List AR := [⟨(some 20), none, 0, (.mov (.t 7))⟩, ⟨(some 21), none, 0, (.mov (.t 1))⟩, ⟨(some 22), none, 0, (.call false 0 0 26 [(.t 20), (.t 21)])⟩, ⟨(some 8), none, 0, (.mov (.t 22))⟩]
def R5_8 : List AR := [⟨(some 23), none, 0, (.mov (.t 8))⟩, ⟨(some 24), none, 0, (.mov (.t 6))⟩, ⟨(some 25), none, 0, (.bin .neq (.t 23) (.t 24))⟩]
def R5_9 : List AR := [⟨(some 4), none, 0, (.mov (.k (.bool false)))⟩]
def R5_10 : List AR := [⟨(some 26), none, 0, (.mov (.t 7))⟩, ⟨(some 27), none, 0, (.mov (.t 0))⟩, ⟨(some 28), none, 0, (.call false 0 0 25 [(.t 27)])⟩, ⟨(some 29), none, 0, (.call false 0 0 27 [(.t 26), (.t 28)])⟩, ⟨(some 30), none, 0, (.not (.t 29))⟩]
def R5_11 : List AR := [⟨(some 4), none, 0, (.mov (.k (.bool false)))⟩]
def R5_12 : List AR := [⟨(some 4), none, 0, (.mov (.k (.bool true)))⟩]
def A5_0 : AC := (.seq (.reg 0 R5_12) .ret)
def A5_1 : AC := (.seq (.seq (.reg 0 R5_10) (.cond (.t 30) (.seq (.reg 0 R5_11) .ret) .skip)) A5_0)
def A5_2 : AC := (.seq (.seq (.reg 0 R5_8) (.cond (.t 25) (.seq (.reg 0 R5_9) .ret) .skip)) A5_1)
def A5_3 : AC := (.seq (.reg 0 R5_7) A5_2)
def A5_4 : AC := (.seq (.reg 0 R5_6) A5_3)
def A5_5 : AC := (.seq (.reg 0 R5_5) A5_4)
def A5_6 : AC := (.seq (.seq (.reg 0 R5_3) (.cond (.t 13) (.seq (.reg 0 R5_4) .ret) .skip)) A5_5)
def A5_7 : AC := (.seq (.reg 0 R5_2) A5_6)
def A5_8 : AC := (.seq (.reg 0 R5_1) A5_7)
def A5 : AC := (.seq (.reg 0 R5_0) A5_8)
def O5 : List AO := [(.mov (.t 4))]
def G5 : Fns := ⟨fun f => false, fun f => 0⟩
noncomputable def X5 : Cx := ⟨Try.prog, G5, drawD, 31, [0, 1, 4, 5, 6, 7, 8, 13, 25, 30]⟩
theorem c5 : (Try.f5.body).bind (compC X5.P X5.Γ X5.D X5.nt) = some A5 := by kernel_rfl
theorem o5 : compRes X5.P Try.f5.results.toList = some O5 := by kernel_rfl
theorem v5 : X5.vs = [0, 1, 4, 5, 6, 7, 8, 13, 25, 30] := rfl
theorem p5 : X5.P = Try.prog := rfl
theorem exactPlainGone_ok (xs : List State) (id : Int) (ha : okS State.ok xs) : FS Try.prog 5 [] [.fz 2 (rw_ State.c xs), .int .i64 id] (.bool true) [] := by
  refine FS.of (X := X5) (ac := A5) (os := O5) Try.func5 (by rfl) (by rfl) (by kernel_rfl) o5 (Nat.le_of_ble_eq_true rfl) ?_
  show AWP X5 A5 (Ends X5.vs O5 0 _ _) [.fz 2 (rw_ State.c xs), .int .i64 id, .tup [], .tup [], .tup [], .tup [], .tup [], .tup [], .tup [], .tup []] []
  obtain ⟨Q, hQ⟩ : ∃ Q, Q = Ends X5.vs O5 0 (.bool true) [] := ⟨_, rfl⟩
  rw [← hQ]
  have fin : ∀ L σ v, resVs O5 (look X5.vs L) σ = some [v] → v = (.bool true) → Q .ret L σ := by
    intro L σ v h1 h2
    rw [hQ]
    exact Ends.is (.inl rfl) h1 (by simp only [packV, h2]) rfl
  refine awp_sr ?_
  simp only [go_sem, R5_0, v5, p5, Nat.reduceEqDiff, Nat.reduceAdd, Nat.reduceLeDiff, Nat.reduceMul, Nat.reduceSub, Nat.reduceLT]
  refine awp_sr ?_
  simp only [go_sem, R5_1, v5, p5, Nat.reduceEqDiff, Nat.reduceAdd, Nat.reduceLeDiff, Nat.reduceMul, Nat.reduceSub, Nat.reduceLT]
  refine awp_sr ?_
  simp only [go_sem, R5_2, v5, p5, Nat.reduceEqDiff, Nat.reduceAdd, Nat.reduceLeDiff, Nat.reduceMul, Nat.reduceSub, Nat.reduceLT]
  refine run_see (szStateS_ok xs 1048576 (Nat.le_refl _) ha) false (Views.refl rfl) rfl (fun j hj => by omega) (fun h => by cases h) ?_
  simp only [go_sem, v5, p5, Nat.reduceEqDiff, Nat.reduceAdd, Nat.reduceLeDiff, Nat.reduceMul, Nat.reduceSub, Nat.reduceLT]
  refine awp_sr2 ?_
  simp only [go_sem, R5_3, v5, p5, Nat.reduceEqDiff, Nat.reduceAdd, Nat.reduceLeDiff, Nat.reduceMul, Nat.reduceSub, Nat.reduceLT]
  refine awp_if rfl ?_ ?_
  · intro h1
    refine awp_sr ?_
    simp only [go_sem, R5_4, v5, p5, Nat.reduceEqDiff, Nat.reduceAdd, Nat.reduceLeDiff, Nat.reduceMul, Nat.reduceSub, Nat.reduceLT]
    refine awp_ret ?_
    try simp only [go_sem]
    exact fin _ _ _ rfl rfl
  intro h1
  obtain ⟨-, h2⟩ := left_pos h1
  have hl : xs.length ≤ 1048576 := by unfold szS at h2; omega
  refine awp_skip ?_
  simp only [go_sem]
  refine awp_sr ?_
  simp only [go_sem, R5_5, v5, p5, Nat.reduceEqDiff, Nat.reduceAdd, Nat.reduceLeDiff, Nat.reduceMul, Nat.reduceSub, Nat.reduceLT]
  refine run_see (toStateS_ok xs h2) false (Views.refl rfl) rfl (fun j hj => by omega) (fun h => by cases h) ?_
  simp only [go_sem, v5, p5, Nat.reduceEqDiff, Nat.reduceAdd, Nat.reduceLeDiff, Nat.reduceMul, Nat.reduceSub, Nat.reduceLT]
  refine run_see (specPlainGone_ok xs id h2) false (Views.refl rfl) rfl (fun j hj => by omega) (fun h => by cases h) ?_
  simp only [go_sem, v5, p5, Nat.reduceEqDiff, Nat.reduceAdd, Nat.reduceLeDiff, Nat.reduceMul, Nat.reduceSub, Nat.reduceLT]
  refine awp_sr ?_
  simp only [go_sem, R5_6, v5, p5, Nat.reduceEqDiff, Nat.reduceAdd, Nat.reduceLeDiff, Nat.reduceMul, Nat.reduceSub, Nat.reduceLT]
  refine run_see (toStateS_ok xs h2) false (Views.refl rfl) rfl (fun j hj => by omega) (fun h => by cases h) ?_
  simp only [go_sem, v5, p5, Nat.reduceEqDiff, Nat.reduceAdd, Nat.reduceLeDiff, Nat.reduceMul, Nat.reduceSub, Nat.reduceLT]
  refine awp_sr ?_
  simp only [go_sem, R5_7, v5, p5, Nat.reduceEqDiff, Nat.reduceAdd, Nat.reduceLeDiff, Nat.reduceMul, Nat.reduceSub, Nat.reduceLT]
  refine run_see (implPlainGone_ok xs id h2) false (Views.refl rfl) rfl (fun j hj => by omega) (fun h => by cases h) ?_
  simp only [go_sem, v5, p5, Nat.reduceEqDiff, Nat.reduceAdd, Nat.reduceLeDiff, Nat.reduceMul, Nat.reduceSub, Nat.reduceLT]
  refine awp_sr2 ?_
  simp only [go_sem, R5_8, v5, p5, Nat.reduceEqDiff, Nat.reduceAdd, Nat.reduceLeDiff, Nat.reduceMul, Nat.reduceSub, Nat.reduceLT]
  refine awp_if rfl ?_ ?_
  · intro h3; exact absurd rfl h3
  intro h3
  refine awp_skip ?_
  simp only [go_sem]
  refine awp_sr2 ?_
  simp only [go_sem, R5_10, v5, p5, Nat.reduceEqDiff, Nat.reduceAdd, Nat.reduceLeDiff, Nat.reduceMul, Nat.reduceSub, Nat.reduceLT]
  refine run_see (toStateS_ok xs h2) false (Views.refl rfl) rfl (fun j hj => by omega) (fun h => by cases h) ?_
  simp only [go_sem, v5, p5, Nat.reduceEqDiff, Nat.reduceAdd, Nat.reduceLeDiff, Nat.reduceMul, Nat.reduceSub, Nat.reduceLT]
  refine run_see (eqStateS_ok xs xs (by omega) h2) false (Views.refl rfl) rfl (fun j hj => by omega) (fun h => by cases h) ?_
  simp only [go_sem, v5, p5, Nat.reduceEqDiff, Nat.reduceAdd, Nat.reduceLeDiff, Nat.reduceMul, Nat.reduceSub, Nat.reduceLT]
  refine awp_no rfl ?_
  refine awp_skip ?_
  simp only [go_sem]
  refine awp_sr ?_
  simp only [go_sem, R5_12, v5, p5, Nat.reduceEqDiff, Nat.reduceAdd, Nat.reduceLeDiff, Nat.reduceMul, Nat.reduceSub, Nat.reduceLT]
  refine awp_ret ?_
  try simp only [go_sem]
  exact fin _ _ _ rfl rfl
end Go.Proofs.Ytffigokicddekaa.Abs
