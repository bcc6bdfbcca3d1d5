/- The law FnExactTurned, walked. No condition. -/
import Derived.Test.YtffigokicddekaaMB3
set_option linter.unusedVariables false
set_option linter.unusedSimpArgs false
set_option maxRecDepth 10000
namespace Go.Proofs.Ytffigokicddekaa.Abs
open Go Go.Proofs
def R3_0 : List AR := [⟨(some 4), none, 0, (.mov (.k (.bool false)))⟩]
def R3_1 : List AR := [⟨(some 12), none, 0, (.mov (.t 0))⟩, ⟨(some 13), none, 0, (.len (.t 12))⟩, ⟨(some 14), none, 0, (.bin .gtr (.t 13) (.k (.int .i64 1048576)))⟩]
def R3_2 : List AR := [⟨(some 4), none, 0, (.mov (.k (.bool true)))⟩]
def R3_3 : List AR := [⟨(some 15), none, 0, (.mov (.t 0))⟩, ⟨(some 16), none, 0, (.call false 0 1 11 [(.t 15)])⟩, ⟨(some 17), none, 0, (.mov (.t 1))⟩, ⟨(some 18), none, 0, (.call false 1 0 10 [(.t 16), (.t 17)])⟩, ⟨(some 5), none, 0, (.mov (.t 18))⟩]
def R3_4 : List AR := [⟨(some 19), none, 0, (.mov (.t 0))⟩, ⟨(some 20), none, 0, (.call false 0 1 11 [(.t 19)])⟩, ⟨(some 6), none, 0, (.mov (.t 20))⟩]
def R3_5 : List AR := [⟨(some 21), none, 0, (.mov (.t 6))⟩, ⟨(some 22), none, 0, (.mov (.t 1))⟩, ⟨(some 23), none, 0, (.call false 0 1 12 [(.t 21), (.t 22)])⟩, ⟨(some 7), none, 0, (.mov (.t 23))⟩]
def R3_6 : List AR := [⟨(some 24), none, 0, (.mov (.t 7))⟩, ⟨(some 25), none, 0, (.mov (.t 5))⟩, ⟨(some 26), none, 0, (.call false 0 0 13 [(.t 24), (.t 25)])⟩, ⟨(some 27), none, 0, (.not (.t 26))⟩]
def R3_7 : List AR := [⟨(some 4), none, 0, (.mov (.k (.bool false)))⟩]
def R3_8 : List AR := [⟨(some 28), none, 0, (.mov (.t 6))⟩, ⟨(some 29), none, 0, (.mov (.t 0))⟩, ⟨(some 30), none, 0, (.call false 0 1 11 [(.t 29)])⟩, ⟨(some 31), none, 0, (.call false 1 0 13 [(.t 28), (.t 30)])⟩, ⟨(some 32), none, 0, (.not (.t 31))⟩]
def R3_9 : List AR := [⟨(some 4), none, 0, (.mov (.k (.bool false)))⟩]
def R3_10 : List AR := [⟨(some 8), none, 0, (.mov (.k (.int .i64 1)))⟩]
def R3_11 : List AR := [⟨(some 33), none, 0, (.mov (.t 6))⟩, ⟨(some 34), none, 0, (.mov (.t 8))⟩, ⟨(some 35), none, 0, (.call true 0 0 14 [(.t 33), (.t 34)])⟩, ⟨(some 8), none, 0, (.mov (.t 35))⟩]
def R3_12 : List AR := [⟨(some 36), none, 0, (.mov (.t 8))⟩, ⟨(some 37), none, 0, (.bin .lss (.t 36) (.k (.int .i64 0)))⟩, ⟨(some 38), none, 0, (.mov (.t 37))⟩, ⟨(some 39), (some (38, false)), 0, (.mov (.t 7))⟩, ⟨(some 40), (some (38, false)), 0, (.mov (.t 5))⟩, ⟨(some 41), (some (38, false)), 0, (.call false 0 0 13 [(.t 39), (.t 40)])⟩, ⟨(some 42), (some (38, false)), 0, (.not (.t 41))⟩, ⟨(some 43), none, 0, (.pick (.t 38) (.k (.bool true)) (.t 42))⟩]
def R3_13 : List AR := [⟨(some 4), none, 0, (.mov (.k (.bool false)))⟩]
def R3_14 : List AR := [⟨(some 9), none, 0, (.mov (.k (.int .i64 1)))⟩]
def R3_15 : List AR := [⟨(some 44), none, 0, (.mov (.t 7))⟩, ⟨(some 45), none, 0, (.mov (.t 9))⟩, ⟨(some 46), none, 0, (.call true 0 0 14 [(.t 44), (.t 45)])⟩, ⟨(some 9), none, 0, (.mov (.t 46))⟩]
def R3_16 : List AR := [⟨(some 10), none, 0, (.mov (.k (.int .i64 1)))⟩]
def R3_17 : List AR := [⟨(some 47), none, 0, (.mov (.t 7))⟩, ⟨(some 48), none, 0, (.mov (.t 10))⟩, ⟨(some 49), none, 0, (.call false 0 0 15 [(.t 47), (.t 48)])⟩, ⟨(some 10), none, 0, (.mov (.t 49))⟩]
def R3_18 : List AR := [⟨(some 50), none, 0, (.mov (.t 10))⟩, ⟨(some 51), none, 0, (.bin .lss (.t 50) (.k (.int .i64 0)))⟩]
def R3_19 : List AR := [⟨(some 4), none, 0, (.mov (.k (.bool false)))⟩]
def R3_20 : List AR := [⟨(some 52), none, 0, (.mov (.t 10))⟩, ⟨(some 53), none, 0, (.mov (.t 9))⟩, ⟨(some 54), none, 0, (.bin .neq (.t 52) (.t 53))⟩]
def R3_21 : List AR := [⟨(some 4), none, 0, (.mov (.k (.bool false)))⟩]
def R3_22 : List AR := [⟨(some 55), none, 0, (.mov (.t 0))⟩, ⟨(some 56), none, 0, (.call false 0 1 11 [(.t 55)])⟩, ⟨(some 57), none, 0, (.mov (.t 1))⟩, ⟨(some 58), none, 0, (.call false 1 1 12 [(.t 56), (.t 57)])⟩, ⟨(some 11), none, 0, (.mov (.t 58))⟩]
def R3_23 : List AR := [⟨(some 59), none, 0, (.mov (.t 11))⟩, ⟨(some 60), none, 0, (.mov (.t 5))⟩, ⟨(some 61), none, 0, (.call false 0 0 13 [(.t 59), (.t 60)])⟩, ⟨(some 62), none, 0, (.not (.t 61))⟩]
def R3_24 : List AR := [⟨(some 4), none, 0, (.mov (.k (.bool false)))⟩]
def R3_25 : List AR := [⟨(some 10), none, 0, (.mov (.k (.int .i64 1)))⟩]
def R3_26 : List AR := [⟨(some 63), none, 0, (.mov (.t 7))⟩, ⟨(some 64), none, 0, (.mov (.t 10))⟩, ⟨(some 65), none, 0, (.call false 0 0 15 [(.t 63), (.t 64)])⟩, ⟨(some 10), none, 0, (.mov (.t 65))⟩]
def R3_27 : List AR := [⟨(some 66), none, 0, (.mov (.t 10))⟩, ⟨(some 67), none, 0, (.bin .lss (.t 66) (.k (.int .i64 0)))⟩]
def R3_28 : List AR := [⟨(some 4), none, 0, (.mov (.k (.bool false)))⟩]
def R3_29 : List AR := [⟨(some 68), none, 0, (.mov (.t 10))⟩, ⟨(some 69), none, 0, (.mov (.t 9))⟩, ⟨(some 70), none, 0, (.bin .neq (.t 68) (.t 69))⟩]
def R3_30 : List AR := [⟨(some 4), none, 0, (.mov (.k (.bool false)))⟩]
def R3_31 : List AR := [⟨(some 4), none, 0, (.mov (.k (.bool true)))⟩]
def A3_0 : AC := (.seq (.reg 0 R3_31) .ret)
def A3_1 : AC := (.seq (.seq (.reg 0 R3_29) (.cond (.t 70) (.seq (.reg 0 R3_30) .ret) .skip)) A3_0)
def A3_2 : AC := (.seq (.seq (.reg 0 R3_27) (.cond (.t 67) (.seq (.reg 0 R3_28) .ret) .skip)) A3_1)
def A3_3 : AC := (.seq (.reg 0 R3_26) A3_2)
def A3_4 : AC := (.seq (.reg 0 R3_25) A3_3)
def A3_5 : AC := (.seq (.seq (.reg 0 R3_23) (.cond (.t 62) (.seq (.reg 0 R3_24) .ret) .skip)) A3_4)
def A3_6 : AC := (.seq (.reg 2 R3_22) A3_5)
def A3_7 : AC := (.seq (.seq (.reg 0 R3_20) (.cond (.t 54) (.seq (.reg 0 R3_21) .ret) .skip)) A3_6)
def A3_8 : AC := (.seq (.seq (.reg 0 R3_18) (.cond (.t 51) (.seq (.reg 0 R3_19) .ret) .skip)) A3_7)
def A3_9 : AC := (.seq (.reg 0 R3_17) A3_8)
def A3_10 : AC := (.seq (.reg 0 R3_16) A3_9)
def A3_11 : AC := (.seq (.reg 0 R3_15) A3_10)
def A3_12 : AC := (.seq (.reg 0 R3_14) A3_11)
def A3_13 : AC := (.seq (.seq (.reg 0 R3_12) (.cond (.t 43) (.seq (.reg 0 R3_13) .ret) .skip)) A3_12)
def A3_14 : AC := (.seq (.reg 0 R3_11) A3_13)
def A3_15 : AC := (.seq (.reg 0 R3_10) A3_14)
def A3_16 : AC := (.seq (.seq (.reg 1 R3_8) (.cond (.t 32) (.seq (.reg 0 R3_9) .ret) .skip)) A3_15)
def A3_17 : AC := (.seq (.seq (.reg 0 R3_6) (.cond (.t 27) (.seq (.reg 0 R3_7) .ret) .skip)) A3_16)
def A3_18 : AC := (.seq (.reg 1 R3_5) A3_17)
def A3_19 : AC := (.seq (.reg 1 R3_4) A3_18)
def A3_20 : AC := (.seq (.reg 1 R3_3) A3_19)
def A3_21 : AC := (.seq (.seq (.reg 0 R3_1) (.cond (.t 14) (.seq (.reg 0 R3_2) .ret) .skip)) A3_20)
def A3 : AC := (.seq (.reg 0 R3_0) A3_21)
def O3 : List AO := [(.mov (.t 4))]
def G3 : Fns := ⟨fun f => f == 14, fun f => if f = 12 then 1 else if f = 11 then 1 else 0⟩
noncomputable def X3 : Cx := ⟨Try.prog, G3, drawD, 71, [0, 1, 4, 5, 6, 7, 8, 9, 10, 11, 14, 27, 32, 43, 51, 54, 62, 67, 70]⟩
theorem c3 : (Try.f3.body).bind (compC X3.P X3.Γ X3.D X3.nt) = some A3 := by kernel_rfl
theorem o3 : compRes X3.P Try.f3.results.toList = some O3 := by kernel_rfl
theorem v3 : X3.vs = [0, 1, 4, 5, 6, 7, 8, 9, 10, 11, 14, 27, 32, 43, 51, 54, 62, 67, 70] := rfl
theorem p3 : X3.P = Try.prog := rfl
theorem eqInts_same (xs : List Int) (hx : xs.length < 9000000000000000000) : FS Try.prog 13 [] [.fz 1 (ints xs), .fz 1 (ints xs)] (.bool true) [] := by
  have := eqInts_ok xs xs hx
  rw [decide_eq_true rfl] at this
  exact this
theorem heldInts_same (n : Nat) (k : Nat) (hx : k ≤ 1000000000) (hn : n ≤ 1000000000) : FS Try.prog 15 [] [.fz 1 (ints (seqI n k)), .int .i64 n] (.int .i64 ((n + k : Nat) : Int)) [] := by
  have := heldInts_ok (seqI n k) n (by rw [seqI_len]; exact hx) hn
  unfold heldI at this
  rw [if_pos (by rw [seqI_len]), seqI_len] at this
  exact this
theorem exactTurned_nil (k : Int) : FS Try.prog 3 [] [.fz 1 (ints []), .int .i64 k] (.bool true) [] := by
  refine FS.of (X := X3) (ac := A3) (os := O3) Try.func3 (by rfl) (by rfl) (by kernel_rfl) o3 (Nat.le_of_ble_eq_true rfl) ?_
  show AWP X3 A3 (Ends X3.vs O3 0 _ _) [.fz 1 (ints []), .int .i64 k, .tup [], .tup [], .tup [], .tup [], .tup [], .tup [], .tup [], .tup [], .tup [], .tup [], .tup [], .tup [], .tup [], .tup [], .tup [], .tup [], .tup []] []
  obtain ⟨Q, hQ⟩ : ∃ Q, Q = Ends X3.vs O3 0 (.bool true) [] := ⟨_, rfl⟩
  rw [← hQ]
  refine awp_sr ?_
  simp only [go_sem, R3_0, v3, p3, Nat.reduceEqDiff, Nat.reduceAdd, Nat.reduceLeDiff, Nat.reduceMul, Nat.reduceSub, Nat.reduceLT]
  refine awp_sr2 ?_
  simp only [go_sem, R3_1, v3, p3, Nat.reduceEqDiff, Nat.reduceAdd, Nat.reduceLeDiff, Nat.reduceMul, Nat.reduceSub, Nat.reduceLT]
  refine awp_if rfl ?_ ?_
  · intro h1
    refine awp_sr ?_
    simp only [go_sem, R3_2, v3, p3, Nat.reduceEqDiff, Nat.reduceAdd, Nat.reduceLeDiff, Nat.reduceMul, Nat.reduceSub, Nat.reduceLT]
    refine awp_ret ?_
    try simp only [go_sem]
    rw [hQ]
    exact Ends.plain (.inl rfl) rfl (.refl _) rfl
  intro h1
  refine awp_skip ?_
  simp only [go_sem]
  refine awp_sr ?_
  simp only [go_sem, R3_3, v3, p3, Nat.reduceEqDiff, Nat.reduceAdd, Nat.reduceLeDiff, Nat.reduceMul, Nat.reduceSub, Nat.reduceLT]
  refine run_see (toInts_ok [] (by simp)) false (Views.refl rfl) rfl (fun j hj => by
    cases j with
    | zero => rfl
    | succ j => omega) (fun h => by cases h) ?_
  simp only [go_sem, v3, p3, Nat.reduceEqDiff, Nat.reduceAdd, Nat.reduceLeDiff, Nat.reduceMul, Nat.reduceSub, Nat.reduceLT]
  refine run_see (specTurned_ok [] k (by simp)) false (Views.refl rfl) rfl (fun j hj => by omega) (fun h => by cases h) ?_
  simp only [go_sem, v3, p3, Nat.reduceEqDiff, Nat.reduceAdd, Nat.reduceLeDiff, Nat.reduceMul, Nat.reduceSub, Nat.reduceLT]
  refine awp_sr ?_
  simp only [go_sem, R3_4, v3, p3, Nat.reduceEqDiff, Nat.reduceAdd, Nat.reduceLeDiff, Nat.reduceMul, Nat.reduceSub, Nat.reduceLT]
  refine run_new (toInts_own [] (by simp)) false (Views.refl rfl) rfl (ints_closed _) (by simp [V.ids]) (fun h => by cases h) ?_
  simp only [go_sem, v3, p3, Nat.reduceEqDiff, Nat.reduceAdd, Nat.reduceLeDiff, Nat.reduceMul, Nat.reduceSub, Nat.reduceLT, V.ren]
  have hr : rot [] k = [] := by simp [rot]
  rw [hr]
  have nil : ∀ (σ : Store), View σ [] true .nl (.fz 1 (ints [])) := fun σ => .same _ _ _ rfl (.nl 1)
  have see6 : ∀ (σ : Store) (o : Nat) (ys : List Int), σ[o]? = some (.live ⟨1, ints ys⟩) → ys.length = 0 → View σ [] true (.sl o 1 0 0) (.fz 1 (ints ys)) := fun σ o ys h1 h2 => View.row (by simp) h1 (by rw [ints_len, h2]) (ints_closed _)
  have same : ∀ (σ : Store) (x : V), x.closed = true → View σ [] true x x := fun σ x h => .same _ _ _ h (.refl _)
  refine awp_sr ?_
  simp only [go_sem, R3_5, v3, p3, Nat.reduceEqDiff, Nat.reduceAdd, Nat.reduceLeDiff, Nat.reduceMul, Nat.reduceSub, Nat.reduceLT]
  refine run_see (implTurned_nil k) true (.cons (see6 _ 1 [] rfl rfl) (.cons (same _ _ rfl) .nil)) rfl (fun j hj => by
    cases j with
    | zero => rfl
    | succ j => omega) (fun _ => rfl) ?_
  simp only [go_sem, v3, p3, Nat.reduceEqDiff, Nat.reduceAdd, Nat.reduceLeDiff, Nat.reduceMul, Nat.reduceSub, Nat.reduceLT, V.ren]
  refine awp_sr2 ?_
  simp only [go_sem, R3_6, v3, p3, Nat.reduceEqDiff, Nat.reduceAdd, Nat.reduceLeDiff, Nat.reduceMul, Nat.reduceSub, Nat.reduceLT]
  refine run_see (eqInts_same [] (by simp)) true (.cons (nil _) (.cons (same _ _ rfl) .nil)) rfl (fun j hj => by omega) (fun _ => rfl) ?_
  simp only [go_sem, v3, p3, Nat.reduceEqDiff, Nat.reduceAdd, Nat.reduceLeDiff, Nat.reduceMul, Nat.reduceSub, Nat.reduceLT]
  refine awp_no rfl ?_
  refine awp_skip ?_
  simp only [go_sem]
  refine awp_sr2 ?_
  simp only [go_sem, R3_8, v3, p3, Nat.reduceEqDiff, Nat.reduceAdd, Nat.reduceLeDiff, Nat.reduceMul, Nat.reduceSub, Nat.reduceLT]
  refine run_see (toInts_ok [] (by simp)) false (Views.refl rfl) rfl (fun j hj => by
    cases j with
    | zero => rfl
    | succ j => omega) (fun h => by cases h) ?_
  simp only [go_sem, v3, p3, Nat.reduceEqDiff, Nat.reduceAdd, Nat.reduceLeDiff, Nat.reduceMul, Nat.reduceSub, Nat.reduceLT]
  refine run_see (eqInts_same [] (by simp)) true (.cons (see6 _ 1 _ rfl rfl) (.cons (same _ _ rfl) .nil)) rfl (fun j hj => by omega) (fun _ => rfl) ?_
  simp only [go_sem, v3, p3, Nat.reduceEqDiff, Nat.reduceAdd, Nat.reduceLeDiff, Nat.reduceMul, Nat.reduceSub, Nat.reduceLT]
  refine awp_no rfl ?_
  refine awp_skip ?_
  simp only [go_sem]
  refine awp_sr ?_
  simp only [go_sem, R3_10, v3, p3, Nat.reduceEqDiff, Nat.reduceAdd, Nat.reduceLeDiff, Nat.reduceMul, Nat.reduceSub, Nat.reduceLT]
  refine awp_sr ?_
  simp only [go_sem, R3_11, v3, p3, Nat.reduceEqDiff, Nat.reduceAdd, Nat.reduceLeDiff, Nat.reduceMul, Nat.reduceSub, Nat.reduceLT]
  refine run_turn (markInts_ok [] 1 (by simp) (by omega)) false (.cons (.sl _ 1 0 _ _ _ rfl) (.cons (.same _ _ _ rfl (.refl _)) .nil)) (o := 1) rfl (by simp [V.idsL, V.ids, Opd.ev, upd]) rfl (ints_closed _) (ints_closed _) (fun j hj => by omega) (fun h => by cases h) ?_
  simp only [go_sem, v3, p3, Nat.reduceEqDiff, Nat.reduceAdd, Nat.reduceLeDiff, Nat.reduceMul, Nat.reduceSub, Nat.reduceLT]
  refine awp_sr2 ?_
  simp only [go_sem, R3_12, v3, p3, Nat.reduceEqDiff, Nat.reduceAdd, Nat.reduceLeDiff, Nat.reduceMul, Nat.reduceSub, Nat.reduceLT]
  refine run_see (eqInts_same [] (by simp)) true (.cons (nil _) (.cons (same _ _ rfl) .nil)) rfl (fun j hj => by omega) (fun _ => rfl) ?_
  simp only [go_sem, v3, p3, Nat.reduceEqDiff, Nat.reduceAdd, Nat.reduceLeDiff, Nat.reduceMul, Nat.reduceSub, Nat.reduceLT]
  refine awp_no rfl ?_
  refine awp_skip ?_
  simp only [go_sem]
  refine awp_sr ?_
  simp only [go_sem, R3_14, v3, p3, Nat.reduceEqDiff, Nat.reduceAdd, Nat.reduceLeDiff, Nat.reduceMul, Nat.reduceSub, Nat.reduceLT]
  refine awp_sr ?_
  simp only [go_sem, R3_15, v3, p3, Nat.reduceEqDiff, Nat.reduceAdd, Nat.reduceLeDiff, Nat.reduceMul, Nat.reduceSub, Nat.reduceLT]
  refine run_see (markInts_nil 1) false (Views.refl rfl) rfl (fun j hj => by omega) (fun h => by cases h) ?_
  simp only [go_sem, v3, p3, Nat.reduceEqDiff, Nat.reduceAdd, Nat.reduceLeDiff, Nat.reduceMul, Nat.reduceSub, Nat.reduceLT]
  refine awp_sr ?_
  simp only [go_sem, R3_16, v3, p3, Nat.reduceEqDiff, Nat.reduceAdd, Nat.reduceLeDiff, Nat.reduceMul, Nat.reduceSub, Nat.reduceLT]
  refine awp_sr ?_
  simp only [go_sem, R3_17, v3, p3, Nat.reduceEqDiff, Nat.reduceAdd, Nat.reduceLeDiff, Nat.reduceMul, Nat.reduceSub, Nat.reduceLT]
  refine run_see (heldInts_same 1 0 (by omega) (by simp)) true (.cons (nil _) (.cons (same _ _ rfl) .nil)) rfl (fun j hj => by omega) (fun _ => rfl) ?_
  simp only [go_sem, v3, p3, Nat.reduceEqDiff, Nat.reduceAdd, Nat.reduceLeDiff, Nat.reduceMul, Nat.reduceSub, Nat.reduceLT]
  refine awp_sr2 ?_
  simp only [go_sem, R3_18, v3, p3, Nat.reduceEqDiff, Nat.reduceAdd, Nat.reduceLeDiff, Nat.reduceMul, Nat.reduceSub, Nat.reduceLT]
  refine awp_no rfl ?_
  refine awp_skip ?_
  simp only [go_sem]
  refine awp_sr2 ?_
  simp only [go_sem, R3_20, v3, p3, Nat.reduceEqDiff, Nat.reduceAdd, Nat.reduceLeDiff, Nat.reduceMul, Nat.reduceSub, Nat.reduceLT, ne_eq, not_true_eq_false]
  refine awp_no rfl ?_
  refine awp_skip ?_
  simp only [go_sem]
  refine awp_sr ?_
  simp only [go_sem, R3_22, v3, p3, Nat.reduceEqDiff, Nat.reduceAdd, Nat.reduceLeDiff, Nat.reduceMul, Nat.reduceSub, Nat.reduceLT]
  refine run_see (toInts_ok [] (by simp)) false (Views.refl rfl) rfl (fun j hj => by
    cases j with
    | zero => rfl
    | succ j => omega) (fun h => by cases h) ?_
  simp only [go_sem, v3, p3, Nat.reduceEqDiff, Nat.reduceAdd, Nat.reduceLeDiff, Nat.reduceMul, Nat.reduceSub, Nat.reduceLT]
  refine run_see (implTurned_nil k) false (Views.refl rfl) rfl (fun j hj => by
    cases j with
    | zero => rfl
    | succ j => omega) (fun h => by cases h) ?_
  simp only [go_sem, v3, p3, Nat.reduceEqDiff, Nat.reduceAdd, Nat.reduceLeDiff, Nat.reduceMul, Nat.reduceSub, Nat.reduceLT, V.ren]
  refine awp_sr2 ?_
  simp only [go_sem, R3_23, v3, p3, Nat.reduceEqDiff, Nat.reduceAdd, Nat.reduceLeDiff, Nat.reduceMul, Nat.reduceSub, Nat.reduceLT]
  refine run_see (eqInts_same [] (by simp)) true (.cons (nil _) (.cons (same _ _ rfl) .nil)) rfl (fun j hj => by omega) (fun _ => rfl) ?_
  simp only [go_sem, v3, p3, Nat.reduceEqDiff, Nat.reduceAdd, Nat.reduceLeDiff, Nat.reduceMul, Nat.reduceSub, Nat.reduceLT]
  refine awp_no rfl ?_
  refine awp_skip ?_
  simp only [go_sem]
  refine awp_sr ?_
  simp only [go_sem, R3_25, v3, p3, Nat.reduceEqDiff, Nat.reduceAdd, Nat.reduceLeDiff, Nat.reduceMul, Nat.reduceSub, Nat.reduceLT]
  refine awp_sr ?_
  simp only [go_sem, R3_26, v3, p3, Nat.reduceEqDiff, Nat.reduceAdd, Nat.reduceLeDiff, Nat.reduceMul, Nat.reduceSub, Nat.reduceLT]
  refine run_see (heldInts_same 1 0 (by omega) (by simp)) true (.cons (nil _) (.cons (same _ _ rfl) .nil)) rfl (fun j hj => by omega) (fun _ => rfl) ?_
  simp only [go_sem, v3, p3, Nat.reduceEqDiff, Nat.reduceAdd, Nat.reduceLeDiff, Nat.reduceMul, Nat.reduceSub, Nat.reduceLT]
  refine awp_sr2 ?_
  simp only [go_sem, R3_27, v3, p3, Nat.reduceEqDiff, Nat.reduceAdd, Nat.reduceLeDiff, Nat.reduceMul, Nat.reduceSub, Nat.reduceLT]
  refine awp_no rfl ?_
  refine awp_skip ?_
  simp only [go_sem]
  refine awp_sr2 ?_
  simp only [go_sem, R3_29, v3, p3, Nat.reduceEqDiff, Nat.reduceAdd, Nat.reduceLeDiff, Nat.reduceMul, Nat.reduceSub, Nat.reduceLT, ne_eq, not_true_eq_false]
  refine awp_no rfl ?_
  refine awp_skip ?_
  simp only [go_sem]
  refine awp_sr ?_
  simp only [go_sem, R3_31, v3, p3, Nat.reduceEqDiff, Nat.reduceAdd, Nat.reduceLeDiff, Nat.reduceMul, Nat.reduceSub, Nat.reduceLT]
  refine awp_ret ?_
  try simp only [go_sem]
  rw [hQ]
  exact Ends.plain (.inl rfl) rfl (.refl _) rfl
theorem exactTurned_ok (xs : List Int) (k : Int) : FS Try.prog 3 [] [.fz 1 (ints xs), .int .i64 k] (.bool true) [] := by
  rcases Nat.eq_zero_or_pos xs.length with h0 | h0
  · have : xs = [] := List.eq_nil_of_length_eq_zero h0
    subst this
    exact exactTurned_nil k
  refine FS.of (X := X3) (ac := A3) (os := O3) Try.func3 (by rfl) (by rfl) (by kernel_rfl) o3 (Nat.le_of_ble_eq_true rfl) ?_
  show AWP X3 A3 (Ends X3.vs O3 0 _ _) [.fz 1 (ints xs), .int .i64 k, .tup [], .tup [], .tup [], .tup [], .tup [], .tup [], .tup [], .tup [], .tup [], .tup [], .tup [], .tup [], .tup [], .tup [], .tup [], .tup [], .tup []] []
  obtain ⟨Q, hQ⟩ : ∃ Q, Q = Ends X3.vs O3 0 (.bool true) [] := ⟨_, rfl⟩
  rw [← hQ]
  refine awp_sr ?_
  simp only [go_sem, R3_0, v3, p3, Nat.reduceEqDiff, Nat.reduceAdd, Nat.reduceLeDiff, Nat.reduceMul, Nat.reduceSub, Nat.reduceLT]
  refine awp_sr2 ?_
  simp only [go_sem, R3_1, v3, p3, Nat.reduceEqDiff, Nat.reduceAdd, Nat.reduceLeDiff, Nat.reduceMul, Nat.reduceSub, Nat.reduceLT]
  refine awp_if rfl ?_ ?_
  · intro h1
    refine awp_sr ?_
    simp only [go_sem, R3_2, v3, p3, Nat.reduceEqDiff, Nat.reduceAdd, Nat.reduceLeDiff, Nat.reduceMul, Nat.reduceSub, Nat.reduceLT]
    refine awp_ret ?_
    try simp only [go_sem]
    rw [hQ]
    exact Ends.plain (.inl rfl) rfl (.refl _) rfl
  intro h1
  have hx : xs.length ≤ 1048576 := by omega
  refine awp_skip ?_
  simp only [go_sem]
  refine awp_sr ?_
  simp only [go_sem, R3_3, v3, p3, Nat.reduceEqDiff, Nat.reduceAdd, Nat.reduceLeDiff, Nat.reduceMul, Nat.reduceSub, Nat.reduceLT]
  refine run_see (toInts_ok xs (by omega)) false (Views.refl rfl) rfl (fun j hj => by
    cases j with
    | zero => rfl
    | succ j => omega) (fun h => by cases h) ?_
  simp only [go_sem, v3, p3, Nat.reduceEqDiff, Nat.reduceAdd, Nat.reduceLeDiff, Nat.reduceMul, Nat.reduceSub, Nat.reduceLT]
  refine run_see (specTurned_ok xs k (by omega)) false (Views.refl rfl) rfl (fun j hj => by omega) (fun h => by cases h) ?_
  simp only [go_sem, v3, p3, Nat.reduceEqDiff, Nat.reduceAdd, Nat.reduceLeDiff, Nat.reduceMul, Nat.reduceSub, Nat.reduceLT]
  refine awp_sr ?_
  simp only [go_sem, R3_4, v3, p3, Nat.reduceEqDiff, Nat.reduceAdd, Nat.reduceLeDiff, Nat.reduceMul, Nat.reduceSub, Nat.reduceLT]
  refine run_new (toInts_own xs (by omega)) false (Views.refl rfl) rfl (ints_closed _) (by simp [V.ids]) (fun h => by cases h) ?_
  simp only [go_sem, v3, p3, Nat.reduceEqDiff, Nat.reduceAdd, Nat.reduceLeDiff, Nat.reduceMul, Nat.reduceSub, Nat.reduceLT, V.ren]
  have hr : (rot xs k).length = xs.length := rot_len
  have hs : (seqI 1 xs.length).length = xs.length := seqI_len _ _
  have see6 : ∀ (σ : Store) (o : Nat) (ys : List Int), σ[o]? = some (.live ⟨1, ints ys⟩) → ys.length = xs.length → View σ [] true (.sl o 1 0 xs.length) (.fz 1 (ints ys)) := fun σ o ys h1 h2 => View.row (by simp) h1 (by rw [ints_len, h2]) (ints_closed _)
  have same : ∀ (σ : Store) (x : V), x.closed = true → View σ [] true x x := fun σ x h => .same _ _ _ h (.refl _)
  refine awp_sr ?_
  simp only [go_sem, R3_5, v3, p3, Nat.reduceEqDiff, Nat.reduceAdd, Nat.reduceLeDiff, Nat.reduceMul, Nat.reduceSub, Nat.reduceLT]
  refine run_new (implTurned_ok xs k (by omega) h0) true (.cons (see6 _ 1 xs rfl rfl) (.cons (same _ _ rfl) .nil)) rfl (ints_closed _) (by simp [V.ids]) (fun _ => ⟨rfl, ints_flat _⟩) ?_
  simp only [go_sem, v3, p3, Nat.reduceEqDiff, Nat.reduceAdd, Nat.reduceLeDiff, Nat.reduceMul, Nat.reduceSub, Nat.reduceLT, V.ren]
  refine awp_sr2 ?_
  simp only [go_sem, R3_6, v3, p3, Nat.reduceEqDiff, Nat.reduceAdd, Nat.reduceLeDiff, Nat.reduceMul, Nat.reduceSub, Nat.reduceLT]
  refine run_see (eqInts_same (rot xs k) (by omega)) true (.cons (see6 _ 2 _ rfl hr) (.cons (same _ _ rfl) .nil)) rfl (fun j hj => by omega) (fun _ => rfl) ?_
  simp only [go_sem, v3, p3, Nat.reduceEqDiff, Nat.reduceAdd, Nat.reduceLeDiff, Nat.reduceMul, Nat.reduceSub, Nat.reduceLT]
  refine awp_no rfl ?_
  refine awp_skip ?_
  simp only [go_sem]
  refine awp_sr2 ?_
  simp only [go_sem, R3_8, v3, p3, Nat.reduceEqDiff, Nat.reduceAdd, Nat.reduceLeDiff, Nat.reduceMul, Nat.reduceSub, Nat.reduceLT]
  refine run_see (toInts_ok xs (by omega)) false (Views.refl rfl) rfl (fun j hj => by
    cases j with
    | zero => rfl
    | succ j => omega) (fun h => by cases h) ?_
  simp only [go_sem, v3, p3, Nat.reduceEqDiff, Nat.reduceAdd, Nat.reduceLeDiff, Nat.reduceMul, Nat.reduceSub, Nat.reduceLT]
  refine run_see (eqInts_same xs (by omega)) true (.cons (see6 _ 1 _ rfl rfl) (.cons (same _ _ rfl) .nil)) rfl (fun j hj => by omega) (fun _ => rfl) ?_
  simp only [go_sem, v3, p3, Nat.reduceEqDiff, Nat.reduceAdd, Nat.reduceLeDiff, Nat.reduceMul, Nat.reduceSub, Nat.reduceLT]
  refine awp_no rfl ?_
  refine awp_skip ?_
  simp only [go_sem]
  refine awp_sr ?_
  simp only [go_sem, R3_10, v3, p3, Nat.reduceEqDiff, Nat.reduceAdd, Nat.reduceLeDiff, Nat.reduceMul, Nat.reduceSub, Nat.reduceLT]
  refine awp_sr ?_
  simp only [go_sem, R3_11, v3, p3, Nat.reduceEqDiff, Nat.reduceAdd, Nat.reduceLeDiff, Nat.reduceMul, Nat.reduceSub, Nat.reduceLT]
  refine run_turn (markInts_ok xs 1 (by omega) (by omega)) false (.cons (.sl _ 1 0 _ _ _ rfl) (.cons (.same _ _ _ rfl (.refl _)) .nil)) (o := 1) rfl (by simp [V.idsL, V.ids, Opd.ev, upd]) rfl (ints_closed _) (ints_closed _) (fun j hj => by omega) (fun h => by cases h) ?_
  simp only [go_sem, v3, p3, Nat.reduceEqDiff, Nat.reduceAdd, Nat.reduceLeDiff, Nat.reduceMul, Nat.reduceSub, Nat.reduceLT]
  refine awp_sr2 ?_
  simp only [go_sem, R3_12, v3, p3, Nat.reduceEqDiff, Nat.reduceAdd, Nat.reduceLeDiff, Nat.reduceMul, Nat.reduceSub, Nat.reduceLT]
  refine run_see (eqInts_same (rot xs k) (by omega)) true (.cons (see6 _ 2 _ rfl hr) (.cons (same _ _ rfl) .nil)) rfl (fun j hj => by omega) (fun _ => rfl) ?_
  simp only [go_sem, v3, p3, Nat.reduceEqDiff, Nat.reduceAdd, Nat.reduceLeDiff, Nat.reduceMul, Nat.reduceSub, Nat.reduceLT]
  refine awp_no rfl ?_
  refine awp_skip ?_
  simp only [go_sem]
  refine awp_sr ?_
  simp only [go_sem, R3_14, v3, p3, Nat.reduceEqDiff, Nat.reduceAdd, Nat.reduceLeDiff, Nat.reduceMul, Nat.reduceSub, Nat.reduceLT]
  refine awp_sr ?_
  simp only [go_sem, R3_15, v3, p3, Nat.reduceEqDiff, Nat.reduceAdd, Nat.reduceLeDiff, Nat.reduceMul, Nat.reduceSub, Nat.reduceLT]
  refine run_turn (markInts_ok (rot xs k) 1 (by omega) (by omega)) false (.cons (by rw [hr]; exact .sl _ 2 0 _ _ _ rfl) (.cons (.same _ _ _ rfl (.refl _)) .nil)) (o := 2) rfl (by simp [V.idsL, V.ids, Opd.ev, upd]) rfl (ints_closed _) (ints_closed _) (fun j hj => by omega) (fun h => by cases h) ?_
  simp only [go_sem, v3, p3, Nat.reduceEqDiff, Nat.reduceAdd, Nat.reduceLeDiff, Nat.reduceMul, Nat.reduceSub, Nat.reduceLT, hr]
  refine awp_sr ?_
  simp only [go_sem, R3_16, v3, p3, Nat.reduceEqDiff, Nat.reduceAdd, Nat.reduceLeDiff, Nat.reduceMul, Nat.reduceSub, Nat.reduceLT]
  refine awp_sr ?_
  simp only [go_sem, R3_17, v3, p3, Nat.reduceEqDiff, Nat.reduceAdd, Nat.reduceLeDiff, Nat.reduceMul, Nat.reduceSub, Nat.reduceLT]
  refine run_see (heldInts_same 1 xs.length (by omega) (by omega)) true (.cons (see6 _ 2 _ rfl hs) (.cons (same _ _ rfl) .nil)) rfl (fun j hj => by omega) (fun _ => rfl) ?_
  simp only [go_sem, v3, p3, Nat.reduceEqDiff, Nat.reduceAdd, Nat.reduceLeDiff, Nat.reduceMul, Nat.reduceSub, Nat.reduceLT]
  refine awp_sr2 ?_
  simp only [go_sem, R3_18, v3, p3, Nat.reduceEqDiff, Nat.reduceAdd, Nat.reduceLeDiff, Nat.reduceMul, Nat.reduceSub, Nat.reduceLT]
  refine awp_no rfl ?_
  refine awp_skip ?_
  simp only [go_sem]
  refine awp_sr2 ?_
  simp only [go_sem, R3_20, v3, p3, Nat.reduceEqDiff, Nat.reduceAdd, Nat.reduceLeDiff, Nat.reduceMul, Nat.reduceSub, Nat.reduceLT, ne_eq, not_true_eq_false]
  refine awp_no rfl ?_
  refine awp_skip ?_
  simp only [go_sem]
  refine awp_sr ?_
  simp only [go_sem, R3_22, v3, p3, Nat.reduceEqDiff, Nat.reduceAdd, Nat.reduceLeDiff, Nat.reduceMul, Nat.reduceSub, Nat.reduceLT]
  refine run_see (toInts_ok xs (by omega)) false (Views.refl rfl) rfl (fun j hj => by
    cases j with
    | zero => rfl
    | succ j => omega) (fun h => by cases h) ?_
  simp only [go_sem, v3, p3, Nat.reduceEqDiff, Nat.reduceAdd, Nat.reduceLeDiff, Nat.reduceMul, Nat.reduceSub, Nat.reduceLT]
  refine run_new (implTurned_ok xs k (by omega) h0) false (Views.refl rfl) rfl (ints_closed _) (by simp [V.ids]) (fun h => by cases h) ?_
  simp only [go_sem, v3, p3, Nat.reduceEqDiff, Nat.reduceAdd, Nat.reduceLeDiff, Nat.reduceMul, Nat.reduceSub, Nat.reduceLT, V.ren]
  refine awp_sr2 ?_
  simp only [go_sem, R3_23, v3, p3, Nat.reduceEqDiff, Nat.reduceAdd, Nat.reduceLeDiff, Nat.reduceMul, Nat.reduceSub, Nat.reduceLT]
  refine run_see (eqInts_same (rot xs k) (by omega)) true (.cons (see6 _ 5 _ rfl hr) (.cons (same _ _ rfl) .nil)) rfl (fun j hj => by omega) (fun _ => rfl) ?_
  simp only [go_sem, v3, p3, Nat.reduceEqDiff, Nat.reduceAdd, Nat.reduceLeDiff, Nat.reduceMul, Nat.reduceSub, Nat.reduceLT]
  refine awp_no rfl ?_
  refine awp_skip ?_
  simp only [go_sem]
  refine awp_sr ?_
  simp only [go_sem, R3_25, v3, p3, Nat.reduceEqDiff, Nat.reduceAdd, Nat.reduceLeDiff, Nat.reduceMul, Nat.reduceSub, Nat.reduceLT]
  refine awp_sr ?_
  simp only [go_sem, R3_26, v3, p3, Nat.reduceEqDiff, Nat.reduceAdd, Nat.reduceLeDiff, Nat.reduceMul, Nat.reduceSub, Nat.reduceLT]
  refine run_see (heldInts_same 1 xs.length (by omega) (by omega)) true (.cons (see6 _ 2 _ rfl hs) (.cons (same _ _ rfl) .nil)) rfl (fun j hj => by omega) (fun _ => rfl) ?_
  simp only [go_sem, v3, p3, Nat.reduceEqDiff, Nat.reduceAdd, Nat.reduceLeDiff, Nat.reduceMul, Nat.reduceSub, Nat.reduceLT]
  refine awp_sr2 ?_
  simp only [go_sem, R3_27, v3, p3, Nat.reduceEqDiff, Nat.reduceAdd, Nat.reduceLeDiff, Nat.reduceMul, Nat.reduceSub, Nat.reduceLT]
  refine awp_no rfl ?_
  refine awp_skip ?_
  simp only [go_sem]
  refine awp_sr2 ?_
  simp only [go_sem, R3_29, v3, p3, Nat.reduceEqDiff, Nat.reduceAdd, Nat.reduceLeDiff, Nat.reduceMul, Nat.reduceSub, Nat.reduceLT, ne_eq, not_true_eq_false]
  refine awp_no rfl ?_
  refine awp_skip ?_
  simp only [go_sem]
  refine awp_sr ?_
  simp only [go_sem, R3_31, v3, p3, Nat.reduceEqDiff, Nat.reduceAdd, Nat.reduceLeDiff, Nat.reduceMul, Nat.reduceSub, Nat.reduceLT]
  refine awp_ret ?_
  try simp only [go_sem]
  rw [hQ]
  exact Ends.plain (.inl rfl) rfl (.refl _) rfl
end Go.Proofs.Ytffigokicddekaa.Abs
