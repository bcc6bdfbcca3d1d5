/- Copies, sizes and equality, walked: an entry, an item. No condition. -/
import Derived.Test.YtffigokicddekaaMM0
set_option linter.unusedVariables false
set_option linter.unusedSimpArgs false
set_option maxRecDepth 10000
namespace Go.Proofs.Ytffigokicddekaa.Abs
open Go Go.Proofs
def R170_0 : List AR := [⟨(some 1), none, 0, (.box 0 5 (.t 0))⟩, ⟨(some 2), none, 0, (.alloc 1 5 [(.int .i64 0), (.int .i64 0), (.int .i64 0), (.int .i64 0), (.str ⟨⟨[]⟩⟩)])⟩]
def R170_1 : List AR := [⟨(some 3), none, 0, (.alloc 0 5 [(.int .i64 0), (.int .i64 0), (.int .i64 0), (.int .i64 0), (.str ⟨⟨[]⟩⟩)])⟩]
def R170_2 : List AR := [⟨(some 4), none, 0, (.faddr 0 (.t 1))⟩, ⟨(some 5), none, 0, (.load 1 false (.t 4))⟩, ⟨(some 6), none, 0, (.faddr 0 (.t 3))⟩, ⟨none, none, 0, (.store 1 (.t 6) (.t 5))⟩]
def R170_3 : List AR := [⟨(some 7), none, 0, (.faddr 1 (.t 1))⟩, ⟨(some 8), none, 0, (.load 1 false (.t 7))⟩, ⟨(some 9), none, 0, (.faddr 1 (.t 3))⟩, ⟨none, none, 0, (.store 1 (.t 9) (.t 8))⟩]
def R170_4 : List AR := [⟨(some 10), none, 0, (.faddr 2 (.t 1))⟩, ⟨(some 11), none, 0, (.load 1 false (.t 10))⟩, ⟨(some 12), none, 0, (.faddr 2 (.t 3))⟩, ⟨none, none, 0, (.store 1 (.t 12) (.t 11))⟩]
def R170_5 : List AR := [⟨(some 13), none, 0, (.faddr 3 (.t 1))⟩, ⟨(some 14), none, 0, (.load 1 false (.t 13))⟩, ⟨(some 15), none, 0, (.faddr 3 (.t 3))⟩, ⟨none, none, 0, (.store 1 (.t 15) (.t 14))⟩]
def R170_6 : List AR := [⟨(some 16), none, 0, (.faddr 4 (.t 1))⟩, ⟨(some 17), none, 0, (.load 1 false (.t 16))⟩, ⟨(some 18), none, 0, (.faddr 4 (.t 3))⟩, ⟨none, none, 0, (.store 1 (.t 18) (.t 17))⟩]
def R170_7 : List AR := [⟨(some 19), none, 0, (.load 5 true (.t 3))⟩, ⟨none, none, 0, (.store 5 (.t 2) (.t 19))⟩]
def A170_0 : AC := (.seq (.reg 0 R170_7) .ret)
def A170_1 : AC := (.seq (.reg 0 R170_6) A170_0)
def A170_2 : AC := (.seq (.reg 0 R170_5) A170_1)
def A170_3 : AC := (.seq (.reg 0 R170_4) A170_2)
def A170_4 : AC := (.seq (.reg 0 R170_3) A170_3)
def A170_5 : AC := (.seq (.reg 0 R170_2) A170_4)
def A170_6 : AC := (.seq (.reg 1 R170_1) A170_5)
def A170 : AC := (.seq (.reg 2 R170_0) A170_6)
def O170 : List AO := [(.load 5 true (.t 2))]
def G170 : Fns := ⟨fun f => false, fun f => 0⟩
noncomputable def X170 : Cx := ⟨Try.prog, G170, drawD, 20, [0, 1, 2, 3]⟩
theorem c170 : (Try.f170.body).bind (compC X170.P X170.Γ X170.D X170.nt) = some A170 := by kernel_rfl
theorem o170 : compRes X170.P Try.f170.results.toList = some O170 := by kernel_rfl
theorem v170 : X170.vs = [0, 1, 2, 3] := rfl
theorem p170 : X170.P = Try.prog := rfl
def R143_0 : List AR := [⟨(some 1), none, 0, (.box 0 6 (.t 0))⟩, ⟨(some 2), none, 0, (.alloc 1 6 [(.int .i64 0), (.int .i64 0), (.int .i64 0), (.int .i64 0), (.int .i64 0), (.str ⟨⟨[]⟩⟩)])⟩]
def R143_1 : List AR := [⟨(some 3), none, 0, (.alloc 0 6 [(.int .i64 0), (.int .i64 0), (.int .i64 0), (.int .i64 0), (.int .i64 0), (.str ⟨⟨[]⟩⟩)])⟩]
def R143_2 : List AR := [⟨(some 4), none, 0, (.faddr 0 (.t 1))⟩, ⟨(some 5), none, 0, (.load 1 false (.t 4))⟩, ⟨(some 6), none, 0, (.faddr 0 (.t 3))⟩, ⟨none, none, 0, (.store 1 (.t 6) (.t 5))⟩]
def R143_3 : List AR := [⟨(some 7), none, 0, (.faddr 1 (.t 1))⟩, ⟨(some 8), none, 0, (.load 5 true (.t 7))⟩, ⟨(some 9), none, 0, (.call false 0 0 170 [(.t 8)])⟩, ⟨(some 10), none, 0, (.faddr 1 (.t 3))⟩, ⟨none, none, 0, (.store 5 (.t 10) (.t 9))⟩]
def R143_4 : List AR := [⟨(some 11), none, 0, (.load 6 true (.t 3))⟩, ⟨none, none, 0, (.store 6 (.t 2) (.t 11))⟩]
def A143_0 : AC := (.seq (.reg 0 R143_4) .ret)
def A143_1 : AC := (.seq (.reg 0 R143_3) A143_0)
def A143_2 : AC := (.seq (.reg 0 R143_2) A143_1)
def A143_3 : AC := (.seq (.reg 1 R143_1) A143_2)
def A143 : AC := (.seq (.reg 2 R143_0) A143_3)
def O143 : List AO := [(.load 6 true (.t 2))]
def G143 : Fns := ⟨fun f => false, fun f => 0⟩
noncomputable def X143 : Cx := ⟨Try.prog, G143, drawD, 12, [0, 1, 2, 3]⟩
theorem c143 : (Try.f143.body).bind (compC X143.P X143.Γ X143.D X143.nt) = some A143 := by kernel_rfl
theorem o143 : compRes X143.P Try.f143.results.toList = some O143 := by kernel_rfl
theorem v143 : X143.vs = [0, 1, 2, 3] := rfl
theorem p143 : X143.P = Try.prog := rfl
def R169_0 : List AR := [⟨(some 2), none, 0, (.box 0 5 (.t 0))⟩, ⟨(some 4), none, 0, (.mov (.k (.int .i64 0)))⟩]
def R169_1 : List AR := [⟨(some 5), none, 0, (.mov (.t 1))⟩, ⟨(some 6), none, 0, (.faddr 4 (.t 2))⟩, ⟨(some 7), none, 0, (.load 1 false (.t 6))⟩, ⟨(some 8), none, 0, (.slen (.t 7))⟩, ⟨(some 9), none, 0, (.bin .sub (.t 5) (.t 8))⟩, ⟨(some 1), none, 0, (.mov (.t 9))⟩]
def R169_2 : List AR := [⟨(some 10), none, 0, (.mov (.t 1))⟩, ⟨(some 11), none, 0, (.bin .lss (.t 10) (.k (.int .i64 0)))⟩]
def R169_3 : List AR := [⟨(some 4), none, 0, (.mov (.k (.int .i64 (-1))))⟩]
def R169_4 : List AR := [⟨(some 12), none, 0, (.mov (.t 1))⟩, ⟨(some 4), none, 0, (.mov (.t 12))⟩]
def A169_0 : AC := (.seq (.reg 0 R169_4) .ret)
def A169_1 : AC := (.seq (.seq (.reg 0 R169_2) (.cond (.t 11) (.seq (.reg 0 R169_3) .ret) .skip)) A169_0)
def A169_2 : AC := (.seq (.reg 0 R169_1) A169_1)
def A169 : AC := (.seq (.reg 1 R169_0) A169_2)
def O169 : List AO := [(.mov (.t 4))]
def G169 : Fns := ⟨fun f => false, fun f => 0⟩
noncomputable def X169 : Cx := ⟨Try.prog, G169, drawD, 13, [0, 1, 2, 4, 11]⟩
theorem c169 : (Try.f169.body).bind (compC X169.P X169.Γ X169.D X169.nt) = some A169 := by kernel_rfl
theorem o169 : compRes X169.P Try.f169.results.toList = some O169 := by kernel_rfl
theorem v169 : X169.vs = [0, 1, 2, 4, 11] := rfl
theorem p169 : X169.P = Try.prog := rfl
def R142_0 : List AR := [⟨(some 2), none, 0, (.box 0 6 (.t 0))⟩, ⟨(some 4), none, 0, (.mov (.k (.int .i64 0)))⟩]
def R142_1 : List AR := [⟨(some 5), none, 0, (.faddr 1 (.t 2))⟩, ⟨(some 6), none, 0, (.load 5 true (.t 5))⟩, ⟨(some 7), none, 0, (.mov (.t 1))⟩, ⟨(some 8), none, 0, (.call false 0 0 169 [(.t 6), (.t 7)])⟩, ⟨(some 1), none, 0, (.mov (.t 8))⟩]
def R142_2 : List AR := [⟨(some 9), none, 0, (.mov (.t 1))⟩, ⟨(some 10), none, 0, (.bin .lss (.t 9) (.k (.int .i64 0)))⟩]
def R142_3 : List AR := [⟨(some 4), none, 0, (.mov (.k (.int .i64 (-1))))⟩]
def R142_4 : List AR := [⟨(some 11), none, 0, (.mov (.t 1))⟩, ⟨(some 4), none, 0, (.mov (.t 11))⟩]
def A142_0 : AC := (.seq (.reg 0 R142_4) .ret)
def A142_1 : AC := (.seq (.seq (.reg 0 R142_2) (.cond (.t 10) (.seq (.reg 0 R142_3) .ret) .skip)) A142_0)
def A142_2 : AC := (.seq (.reg 0 R142_1) A142_1)
def A142 : AC := (.seq (.reg 1 R142_0) A142_2)
def O142 : List AO := [(.mov (.t 4))]
def G142 : Fns := ⟨fun f => false, fun f => 0⟩
noncomputable def X142 : Cx := ⟨Try.prog, G142, drawD, 12, [0, 1, 2, 4, 10]⟩
theorem c142 : (Try.f142.body).bind (compC X142.P X142.Γ X142.D X142.nt) = some A142 := by kernel_rfl
theorem o142 : compRes X142.P Try.f142.results.toList = some O142 := by kernel_rfl
theorem v142 : X142.vs = [0, 1, 2, 4, 10] := rfl
theorem p142 : X142.P = Try.prog := rfl
def R111_0 : List AR := [⟨(some 2), none, 0, (.box 0 5 (.t 0))⟩, ⟨(some 3), none, 0, (.box 1 5 (.t 1))⟩, ⟨(some 4), none, 0, (.mov (.k (.bool false)))⟩]
def R111_1 : List AR := [⟨(some 5), none, 0, (.faddr 0 (.t 2))⟩, ⟨(some 6), none, 0, (.load 1 false (.t 5))⟩, ⟨(some 7), none, 0, (.faddr 0 (.t 3))⟩, ⟨(some 8), none, 0, (.load 1 false (.t 7))⟩, ⟨(some 9), none, 0, (.bin .neq (.t 6) (.t 8))⟩]
def R111_2 : List AR := [⟨(some 4), none, 0, (.mov (.k (.bool false)))⟩]
def R111_3 : List AR := [⟨(some 10), none, 0, (.faddr 1 (.t 2))⟩, ⟨(some 11), none, 0, (.load 1 false (.t 10))⟩, ⟨(some 12), none, 0, (.faddr 1 (.t 3))⟩, ⟨(some 13), none, 0, (.load 1 false (.t 12))⟩, ⟨(some 14), none, 0, (.bin .neq (.t 11) (.t 13))⟩]
def R111_4 : List AR := [⟨(some 4), none, 0, (.mov (.k (.bool false)))⟩]
def R111_5 : List AR := [⟨(some 15), none, 0, (.faddr 2 (.t 2))⟩, ⟨(some 16), none, 0, (.load 1 false (.t 15))⟩, ⟨(some 17), none, 0, (.faddr 2 (.t 3))⟩, ⟨(some 18), none, 0, (.load 1 false (.t 17))⟩, ⟨(some 19), none, 0, (.bin .neq (.t 16) (.t 18))⟩]
def R111_6 : List AR := [⟨(some 4), none, 0, (.mov (.k (.bool false)))⟩]
def R111_7 : List AR := [⟨(some 20), none, 0, (.faddr 3 (.t 2))⟩, ⟨(some 21), none, 0, (.load 1 false (.t 20))⟩, ⟨(some 22), none, 0, (.faddr 3 (.t 3))⟩, ⟨(some 23), none, 0, (.load 1 false (.t 22))⟩, ⟨(some 24), none, 0, (.bin .neq (.t 21) (.t 23))⟩]
def R111_8 : List AR := [⟨(some 4), none, 0, (.mov (.k (.bool false)))⟩]
def R111_9 : List AR := [⟨(some 25), none, 0, (.faddr 4 (.t 2))⟩, ⟨(some 26), none, 0, (.load 1 false (.t 25))⟩, ⟨(some 27), none, 0, (.faddr 4 (.t 3))⟩, ⟨(some 28), none, 0, (.load 1 false (.t 27))⟩, ⟨(some 29), none, 0, (.bin .neq (.t 26) (.t 28))⟩]
def R111_10 : List AR := [⟨(some 4), none, 0, (.mov (.k (.bool false)))⟩]
def R111_11 : List AR := [⟨(some 4), none, 0, (.mov (.k (.bool true)))⟩]
def A111_0 : AC := (.seq (.reg 0 R111_11) .ret)
def A111_1 : AC := (.seq (.seq (.reg 0 R111_9) (.cond (.t 29) (.seq (.reg 0 R111_10) .ret) .skip)) A111_0)
def A111_2 : AC := (.seq (.seq (.reg 0 R111_7) (.cond (.t 24) (.seq (.reg 0 R111_8) .ret) .skip)) A111_1)
def A111_3 : AC := (.seq (.seq (.reg 0 R111_5) (.cond (.t 19) (.seq (.reg 0 R111_6) .ret) .skip)) A111_2)
def A111_4 : AC := (.seq (.seq (.reg 0 R111_3) (.cond (.t 14) (.seq (.reg 0 R111_4) .ret) .skip)) A111_3)
def A111_5 : AC := (.seq (.seq (.reg 0 R111_1) (.cond (.t 9) (.seq (.reg 0 R111_2) .ret) .skip)) A111_4)
def A111 : AC := (.seq (.reg 2 R111_0) A111_5)
def O111 : List AO := [(.mov (.t 4))]
def G111 : Fns := ⟨fun f => false, fun f => 0⟩
noncomputable def X111 : Cx := ⟨Try.prog, G111, drawD, 30, [0, 1, 2, 3, 4, 9, 14, 19, 24, 29]⟩
theorem c111 : (Try.f111.body).bind (compC X111.P X111.Γ X111.D X111.nt) = some A111 := by kernel_rfl
theorem o111 : compRes X111.P Try.f111.results.toList = some O111 := by kernel_rfl
theorem v111 : X111.vs = [0, 1, 2, 3, 4, 9, 14, 19, 24, 29] := rfl
theorem p111 : X111.P = Try.prog := rfl
def R63_0 : List AR := [⟨(some 2), none, 0, (.box 0 6 (.t 0))⟩, ⟨(some 3), none, 0, (.box 1 6 (.t 1))⟩, ⟨(some 4), none, 0, (.mov (.k (.bool false)))⟩]
def R63_1 : List AR := [⟨(some 5), none, 0, (.faddr 0 (.t 2))⟩, ⟨(some 6), none, 0, (.load 1 false (.t 5))⟩, ⟨(some 7), none, 0, (.faddr 0 (.t 3))⟩, ⟨(some 8), none, 0, (.load 1 false (.t 7))⟩, ⟨(some 9), none, 0, (.bin .neq (.t 6) (.t 8))⟩]
def R63_2 : List AR := [⟨(some 4), none, 0, (.mov (.k (.bool false)))⟩]
def R63_3 : List AR := [⟨(some 10), none, 0, (.faddr 1 (.t 2))⟩, ⟨(some 11), none, 0, (.load 5 true (.t 10))⟩, ⟨(some 12), none, 0, (.faddr 1 (.t 3))⟩, ⟨(some 13), none, 0, (.load 5 true (.t 12))⟩, ⟨(some 14), none, 0, (.call false 0 0 111 [(.t 11), (.t 13)])⟩, ⟨(some 15), none, 0, (.not (.t 14))⟩]
def R63_4 : List AR := [⟨(some 4), none, 0, (.mov (.k (.bool false)))⟩]
def R63_5 : List AR := [⟨(some 4), none, 0, (.mov (.k (.bool true)))⟩]
def A63_0 : AC := (.seq (.reg 0 R63_5) .ret)
def A63_1 : AC := (.seq (.seq (.reg 0 R63_3) (.cond (.t 15) (.seq (.reg 0 R63_4) .ret) .skip)) A63_0)
def A63_2 : AC := (.seq (.seq (.reg 0 R63_1) (.cond (.t 9) (.seq (.reg 0 R63_2) .ret) .skip)) A63_1)
def A63 : AC := (.seq (.reg 2 R63_0) A63_2)
def O63 : List AO := [(.mov (.t 4))]
def G63 : Fns := ⟨fun f => false, fun f => 0⟩
noncomputable def X63 : Cx := ⟨Try.prog, G63, drawD, 16, [0, 1, 2, 3, 4, 9, 15]⟩
theorem c63 : (Try.f63.body).bind (compC X63.P X63.Γ X63.D X63.nt) = some A63 := by kernel_rfl
theorem o63 : compRes X63.P Try.f63.results.toList = some O63 := by kernel_rfl
theorem v63 : X63.vs = [0, 1, 2, 3, 4, 9, 15] := rfl
theorem p63 : X63.P = Try.prog := rfl
theorem toEntry_ok (a : Entry) : FS Try.prog 170 [] [.agg a.c] (.agg a.c) [] := by
  refine FS.of (X := X170) (ac := A170) (os := O170) Try.func170 (by rfl) (by rfl) (by kernel_rfl) o170 (Nat.le_of_ble_eq_true rfl) ?_
  show AWP X170 A170 (Ends X170.vs O170 0 _ _) [.agg a.c, .tup [], .tup [], .tup []] []
  obtain ⟨Q, hQ⟩ : ∃ Q, Q = Ends X170.vs O170 0 (.agg a.c) [] := ⟨_, rfl⟩
  rw [← hQ]
  refine awp_sr ?_
  simp only [go_sem, R170_0, v170, p170, Nat.reduceEqDiff, Nat.reduceAdd, Nat.reduceLeDiff, Nat.reduceMul, Nat.reduceSub, Nat.reduceLT, Entry.c]
  refine awp_sr ?_
  simp only [go_sem, R170_1, v170, p170, Nat.reduceEqDiff, Nat.reduceAdd, Nat.reduceLeDiff, Nat.reduceMul, Nat.reduceSub, Nat.reduceLT]
  refine awp_sr ?_
  simp only [go_sem, R170_2, v170, p170, Nat.reduceEqDiff, Nat.reduceAdd, Nat.reduceLeDiff, Nat.reduceMul, Nat.reduceSub, Nat.reduceLT]
  refine awp_sr ?_
  simp only [go_sem, R170_3, v170, p170, Nat.reduceEqDiff, Nat.reduceAdd, Nat.reduceLeDiff, Nat.reduceMul, Nat.reduceSub, Nat.reduceLT]
  refine awp_sr ?_
  simp only [go_sem, R170_4, v170, p170, Nat.reduceEqDiff, Nat.reduceAdd, Nat.reduceLeDiff, Nat.reduceMul, Nat.reduceSub, Nat.reduceLT]
  refine awp_sr ?_
  simp only [go_sem, R170_5, v170, p170, Nat.reduceEqDiff, Nat.reduceAdd, Nat.reduceLeDiff, Nat.reduceMul, Nat.reduceSub, Nat.reduceLT]
  refine awp_sr ?_
  simp only [go_sem, R170_6, v170, p170, Nat.reduceEqDiff, Nat.reduceAdd, Nat.reduceLeDiff, Nat.reduceMul, Nat.reduceSub, Nat.reduceLT]
  refine awp_sr ?_
  simp only [go_sem, R170_7, v170, p170, Nat.reduceEqDiff, Nat.reduceAdd, Nat.reduceLeDiff, Nat.reduceMul, Nat.reduceSub, Nat.reduceLT]
  refine awp_ret ?_
  try simp only [go_sem]
  rw [hQ]
  exact Ends.plain (.inl rfl) rfl (.refl _) rfl
theorem toItem_ok (a : Item) : FS Try.prog 143 [] [.agg a.c] (.agg a.c) [] := by
  refine FS.of (X := X143) (ac := A143) (os := O143) Try.func143 (by rfl) (by rfl) (by kernel_rfl) o143 (Nat.le_of_ble_eq_true rfl) ?_
  show AWP X143 A143 (Ends X143.vs O143 0 _ _) [.agg a.c, .tup [], .tup [], .tup []] []
  obtain ⟨Q, hQ⟩ : ∃ Q, Q = Ends X143.vs O143 0 (.agg a.c) [] := ⟨_, rfl⟩
  rw [← hQ]
  refine awp_sr ?_
  simp only [go_sem, R143_0, v143, p143, Nat.reduceEqDiff, Nat.reduceAdd, Nat.reduceLeDiff, Nat.reduceMul, Nat.reduceSub, Nat.reduceLT, Item.c]
  refine awp_sr ?_
  simp only [go_sem, R143_1, v143, p143, Nat.reduceEqDiff, Nat.reduceAdd, Nat.reduceLeDiff, Nat.reduceMul, Nat.reduceSub, Nat.reduceLT]
  refine awp_sr ?_
  simp only [go_sem, R143_2, v143, p143, Nat.reduceEqDiff, Nat.reduceAdd, Nat.reduceLeDiff, Nat.reduceMul, Nat.reduceSub, Nat.reduceLT]
  refine awp_sr ?_
  simp only [go_sem, R143_3, v143, p143, Nat.reduceEqDiff, Nat.reduceAdd, Nat.reduceLeDiff, Nat.reduceMul, Nat.reduceSub, Nat.reduceLT]
  refine run_see (toEntry_ok a.entry) false (Views.refl rfl) rfl (fun j hj => by omega) (fun h => by cases h) ?_
  simp only [go_sem, v143, p143, Nat.reduceEqDiff, Nat.reduceAdd, Nat.reduceLeDiff, Nat.reduceMul, Nat.reduceSub, Nat.reduceLT, Entry.c]
  refine awp_sr ?_
  simp only [go_sem, R143_4, v143, p143, Nat.reduceEqDiff, Nat.reduceAdd, Nat.reduceLeDiff, Nat.reduceMul, Nat.reduceSub, Nat.reduceLT]
  refine awp_ret ?_
  try simp only [go_sem]
  rw [hQ]
  exact Ends.plain (.inl rfl) rfl (.refl _) rfl
theorem szEntry_ok (a : Entry) (n : Nat) (hn : n ≤ 1048576) (ha : a.data.size ≤ 1000000000000000) : FS Try.prog 169 [] [.agg a.c, .int .i64 n] (.int .i64 (left n a.sz)) [] := by
  refine FS.of (X := X169) (ac := A169) (os := O169) Try.func169 (by rfl) (by rfl) (by kernel_rfl) o169 (Nat.le_of_ble_eq_true rfl) ?_
  show AWP X169 A169 (Ends X169.vs O169 0 _ _) [.agg a.c, .int .i64 n, .tup [], .tup [], .tup []] []
  obtain ⟨Q, hQ⟩ : ∃ Q, Q = Ends X169.vs O169 0 (.int .i64 (left n a.sz)) [] := ⟨_, rfl⟩
  rw [← hQ]
  refine awp_sr ?_
  simp only [go_sem, R169_0, v169, p169, Nat.reduceEqDiff, Nat.reduceAdd, Nat.reduceLeDiff, Nat.reduceMul, Nat.reduceSub, Nat.reduceLT, Entry.c]
  refine awp_sr ?_
  simp only [go_sem, R169_1, v169, p169, Nat.reduceEqDiff, Nat.reduceAdd, Nat.reduceLeDiff, Nat.reduceMul, Nat.reduceSub, Nat.reduceLT, wrap_i64 (n := (n : Int) - a.data.size) (by omega) (by omega)]
  refine awp_sr2 ?_
  simp only [go_sem, R169_2, v169, p169, Nat.reduceEqDiff, Nat.reduceAdd, Nat.reduceLeDiff, Nat.reduceMul, Nat.reduceSub, Nat.reduceLT]
  refine awp_if rfl ?_ ?_
  · intro h
    refine awp_sr ?_
    simp only [go_sem, R169_3, v169, p169, Nat.reduceEqDiff, Nat.reduceAdd, Nat.reduceLeDiff, Nat.reduceMul, Nat.reduceSub, Nat.reduceLT]
    refine awp_ret ?_
    try simp only [go_sem]
    rw [hQ]
    refine Ends.plain (.inl rfl) rfl ?_ rfl
    rw [left, if_neg (by simp only [Entry.sz]; omega)]
    exact .refl _
  · intro h
    refine awp_skip ?_
    simp only [go_sem]
    refine awp_sr ?_
    simp only [go_sem, R169_4, v169, p169, Nat.reduceEqDiff, Nat.reduceAdd, Nat.reduceLeDiff, Nat.reduceMul, Nat.reduceSub, Nat.reduceLT]
    refine awp_ret ?_
    try simp only [go_sem]
    rw [hQ]
    refine Ends.plain (.inl rfl) rfl ?_ rfl
    rw [left, if_pos (by simp only [Entry.sz]; omega), show ((n - a.sz : Nat) : Int) = n - a.data.size by simp only [Entry.sz]; omega]
    exact .refl _
theorem szItem_ok (a : Item) (n : Nat) (hn : n ≤ 1048576) (ha : a.entry.data.size ≤ 1000000000000000) : FS Try.prog 142 [] [.agg a.c, .int .i64 n] (.int .i64 (left n a.sz)) [] := by
  refine FS.of (X := X142) (ac := A142) (os := O142) Try.func142 (by rfl) (by rfl) (by kernel_rfl) o142 (Nat.le_of_ble_eq_true rfl) ?_
  show AWP X142 A142 (Ends X142.vs O142 0 _ _) [.agg a.c, .int .i64 n, .tup [], .tup [], .tup []] []
  obtain ⟨Q, hQ⟩ : ∃ Q, Q = Ends X142.vs O142 0 (.int .i64 (left n a.sz)) [] := ⟨_, rfl⟩
  rw [← hQ]
  refine awp_sr ?_
  simp only [go_sem, R142_0, v142, p142, Nat.reduceEqDiff, Nat.reduceAdd, Nat.reduceLeDiff, Nat.reduceMul, Nat.reduceSub, Nat.reduceLT, Item.c]
  refine awp_sr ?_
  simp only [go_sem, R142_1, v142, p142, Nat.reduceEqDiff, Nat.reduceAdd, Nat.reduceLeDiff, Nat.reduceMul, Nat.reduceSub, Nat.reduceLT]
  refine run_see (szEntry_ok a.entry n hn ha) false (Views.refl rfl) rfl (fun j hj => by omega) (fun h => by cases h) ?_
  simp only [go_sem, v142, p142, Nat.reduceEqDiff, Nat.reduceAdd, Nat.reduceLeDiff, Nat.reduceMul, Nat.reduceSub, Nat.reduceLT]
  refine awp_sr2 ?_
  simp only [go_sem, R142_2, v142, p142, Nat.reduceEqDiff, Nat.reduceAdd, Nat.reduceLeDiff, Nat.reduceMul, Nat.reduceSub, Nat.reduceLT]
  refine awp_if rfl ?_ ?_
  · intro h
    refine awp_sr ?_
    simp only [go_sem, R142_3, v142, p142, Nat.reduceEqDiff, Nat.reduceAdd, Nat.reduceLeDiff, Nat.reduceMul, Nat.reduceSub, Nat.reduceLT]
    refine awp_ret ?_
    try simp only [go_sem]
    rw [hQ]
    exact Ends.is (.inl rfl) rfl (congrArg (V.int .i64) (left_neg (s := a.sz) h).symm) rfl
  · intro h
    refine awp_skip ?_
    simp only [go_sem]
    refine awp_sr ?_
    simp only [go_sem, R142_4, v142, p142, Nat.reduceEqDiff, Nat.reduceAdd, Nat.reduceLeDiff, Nat.reduceMul, Nat.reduceSub, Nat.reduceLT]
    refine awp_ret ?_
    try simp only [go_sem]
    rw [hQ]
    exact Ends.plain (.inl rfl) rfl (.refl _) rfl
theorem eqEntry_ok (a b : Entry) : FS Try.prog 111 [] [.agg a.c, .agg b.c] (.bool (decide (a = b))) [] := by
  refine FS.of (X := X111) (ac := A111) (os := O111) Try.func111 (by rfl) (by rfl) (by kernel_rfl) o111 (Nat.le_of_ble_eq_true rfl) ?_
  show AWP X111 A111 (Ends X111.vs O111 0 _ _) [.agg a.c, .agg b.c, .tup [], .tup [], .tup [], .tup [], .tup [], .tup [], .tup [], .tup []] []
  obtain ⟨Q, hQ⟩ : ∃ Q, Q = Ends X111.vs O111 0 (.bool (decide (a = b))) [] := ⟨_, rfl⟩
  rw [← hQ]
  have no : ∀ L σ, look X111.vs L 4 = .bool false → a ≠ b → Q .ret L σ := by
    intro L σ h1 h2
    rw [hQ]
    refine Ends.is (.inl rfl) (rs := [.bool false]) (by simp only [go_sem, O111, h1]) ?_ rfl
    simp [packV, h2]
  refine awp_sr ?_
  simp only [go_sem, R111_0, v111, p111, Nat.reduceEqDiff, Nat.reduceAdd, Nat.reduceLeDiff, Nat.reduceMul, Nat.reduceSub, Nat.reduceLT, Entry.c]
  refine awp_sr2 ?_
  simp only [go_sem, R111_1, v111, p111, Nat.reduceEqDiff, Nat.reduceAdd, Nat.reduceLeDiff, Nat.reduceMul, Nat.reduceSub, Nat.reduceLT]
  refine awp_if rfl ?_ ?_
  · intro h
    refine awp_sr ?_
    simp only [go_sem, R111_2, v111, p111, Nat.reduceEqDiff, Nat.reduceAdd, Nat.reduceLeDiff, Nat.reduceMul, Nat.reduceSub, Nat.reduceLT]
    refine awp_ret ?_
    try simp only [go_sem]
    exact no _ _ rfl fun e => h (by rw [e])
  intro h1
  refine awp_skip ?_
  simp only [go_sem]
  refine awp_sr2 ?_
  simp only [go_sem, R111_3, v111, p111, Nat.reduceEqDiff, Nat.reduceAdd, Nat.reduceLeDiff, Nat.reduceMul, Nat.reduceSub, Nat.reduceLT]
  refine awp_if rfl ?_ ?_
  · intro h
    refine awp_sr ?_
    simp only [go_sem, R111_4, v111, p111, Nat.reduceEqDiff, Nat.reduceAdd, Nat.reduceLeDiff, Nat.reduceMul, Nat.reduceSub, Nat.reduceLT]
    refine awp_ret ?_
    try simp only [go_sem]
    exact no _ _ rfl fun e => h (by rw [e])
  intro h2
  refine awp_skip ?_
  simp only [go_sem]
  refine awp_sr2 ?_
  simp only [go_sem, R111_5, v111, p111, Nat.reduceEqDiff, Nat.reduceAdd, Nat.reduceLeDiff, Nat.reduceMul, Nat.reduceSub, Nat.reduceLT]
  refine awp_if rfl ?_ ?_
  · intro h
    refine awp_sr ?_
    simp only [go_sem, R111_6, v111, p111, Nat.reduceEqDiff, Nat.reduceAdd, Nat.reduceLeDiff, Nat.reduceMul, Nat.reduceSub, Nat.reduceLT]
    refine awp_ret ?_
    try simp only [go_sem]
    exact no _ _ rfl fun e => h (by rw [e])
  intro h3
  refine awp_skip ?_
  simp only [go_sem]
  refine awp_sr2 ?_
  simp only [go_sem, R111_7, v111, p111, Nat.reduceEqDiff, Nat.reduceAdd, Nat.reduceLeDiff, Nat.reduceMul, Nat.reduceSub, Nat.reduceLT]
  refine awp_if rfl ?_ ?_
  · intro h
    refine awp_sr ?_
    simp only [go_sem, R111_8, v111, p111, Nat.reduceEqDiff, Nat.reduceAdd, Nat.reduceLeDiff, Nat.reduceMul, Nat.reduceSub, Nat.reduceLT]
    refine awp_ret ?_
    try simp only [go_sem]
    exact no _ _ rfl fun e => h (by rw [e])
  intro h4
  refine awp_skip ?_
  simp only [go_sem]
  refine awp_sr2 ?_
  simp only [go_sem, R111_9, v111, p111, Nat.reduceEqDiff, Nat.reduceAdd, Nat.reduceLeDiff, Nat.reduceMul, Nat.reduceSub, Nat.reduceLT]
  refine awp_if rfl ?_ ?_
  · intro h
    refine awp_sr ?_
    simp only [go_sem, R111_10, v111, p111, Nat.reduceEqDiff, Nat.reduceAdd, Nat.reduceLeDiff, Nat.reduceMul, Nat.reduceSub, Nat.reduceLT]
    refine awp_ret ?_
    try simp only [go_sem]
    exact no _ _ rfl fun e => h (by rw [e])
  intro h5
  refine awp_skip ?_
  simp only [go_sem]
  refine awp_sr ?_
  simp only [go_sem, R111_11, v111, p111, Nat.reduceEqDiff, Nat.reduceAdd, Nat.reduceLeDiff, Nat.reduceMul, Nat.reduceSub, Nat.reduceLT]
  refine awp_ret ?_
  try simp only [go_sem]
  rw [hQ]
  refine Ends.is (.inl rfl) rfl ?_ rfl
  have : a = b := by
    cases a; cases b
    simp at h1 h2 h3 h4 h5
    simp [h1, h2, h3, h4, h5]
  rw [decide_eq_true this]
  rfl
end Go.Proofs.Ytffigokicddekaa.Abs
