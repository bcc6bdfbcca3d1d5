/- What a right node is, walked in both texts. No condition. -/
import Derived.Test.YtffigokicddekaaMC45
set_option linter.unusedVariables false
set_option linter.unusedSimpArgs false
set_option maxRecDepth 10000
namespace Go.Proofs.Ytffigokicddekaa.Abs
open Go Go.Proofs
def R79_0 : List AR := [⟨(some 1), none, 0, (.box 0 19 (.t 0))⟩, ⟨(some 2), none, 0, (.mov (.k (.bool false)))⟩]
def R79_1 : List AR := [⟨(some 6), none, 0, (.faddr 1 (.t 1))⟩, ⟨(some 7), none, 0, (.load 1 false (.t 6))⟩, ⟨(some 8), none, 0, (.call false 0 0 101 [(.t 7), (.k (.int .i64 1)), (.k (.int .i64 5))])⟩, ⟨(some 9), none, 0, (.not (.t 8))⟩, ⟨(some 10), none, 0, (.mov (.t 9))⟩, ⟨(some 11), (some (10, false)), 0, (.faddr 0 (.t 1))⟩, ⟨(some 12), (some (10, false)), 0, (.load 1 false (.t 11))⟩, ⟨(some 13), (some (10, false)), 0, (.faddr 1 (.t 1))⟩, ⟨(some 14), (some (10, false)), 0, (.load 1 false (.t 13))⟩, ⟨(some 15), (some (10, false)), 0, (.bin .sub (.t 14) (.k (.int .i64 1)))⟩, ⟨(some 16), (some (10, false)), 0, (.call false 0 0 101 [(.t 12), (.k (.int .i64 0)), (.t 15)])⟩, ⟨(some 17), (some (10, false)), 0, (.not (.t 16))⟩, ⟨(some 18), none, 0, (.pick (.t 10) (.k (.bool true)) (.t 17))⟩, ⟨(some 19), none, 0, (.mov (.t 18))⟩, ⟨(some 20), (some (19, false)), 0, (.faddr 2 (.t 1))⟩, ⟨(some 21), (some (19, false)), 0, (.load 2 true (.t 20))⟩, ⟨(some 22), (some (19, false)), 0, (.call false 0 0 55 [(.t 21)])⟩, ⟨(some 23), (some (19, false)), 0, (.not (.t 22))⟩, ⟨(some 24), none, 0, (.pick (.t 19) (.k (.bool true)) (.t 23))⟩, ⟨(some 25), none, 0, (.mov (.t 24))⟩, ⟨(some 26), (some (25, false)), 0, (.faddr 4 (.t 1))⟩, ⟨(some 27), (some (25, false)), 0, (.load 2 true (.t 26))⟩, ⟨(some 28), (some (25, false)), 0, (.faddr 2 (.t 1))⟩, ⟨(some 29), (some (25, false)), 0, (.load 2 true (.t 28))⟩, ⟨(some 30), (some (25, false)), 0, (.call false 0 0 123 [(.t 29)])⟩, ⟨(some 31), (some (25, false)), 0, (.call false 0 0 122 [(.t 27), (.t 30)])⟩, ⟨(some 32), (some (25, false)), 0, (.not (.t 31))⟩, ⟨(some 33), none, 0, (.pick (.t 25) (.k (.bool true)) (.t 32))⟩, ⟨(some 34), none, 0, (.mov (.t 33))⟩, ⟨(some 35), (some (34, false)), 0, (.faddr 6 (.t 1))⟩, ⟨(some 36), (some (34, false)), 0, (.load 3 true (.t 35))⟩, ⟨(some 37), (some (34, false)), 0, (.call false 0 0 124 [(.t 36)])⟩, ⟨(some 38), (some (34, false)), 0, (.not (.t 37))⟩, ⟨(some 39), none, 0, (.pick (.t 34) (.k (.bool true)) (.t 38))⟩]
def R79_2 : List AR := [⟨(some 2), none, 0, (.mov (.k (.bool false)))⟩]
def R79_3 : List AR := [⟨(some 40), none, 0, (.faddr 9 (.t 1))⟩, ⟨(some 41), none, 0, (.load 1 false (.t 40))⟩, ⟨(some 42), none, 0, (.faddr 1 (.t 1))⟩, ⟨(some 43), none, 0, (.load 1 false (.t 42))⟩, ⟨(some 44), none, 0, (.call false 0 0 125 [(.t 41), (.t 43)])⟩, ⟨(some 45), none, 0, (.not (.t 44))⟩, ⟨(some 46), none, 0, (.mov (.t 45))⟩, ⟨(some 47), (some (46, false)), 0, (.faddr 10 (.t 1))⟩, ⟨(some 48), (some (46, false)), 0, (.load 1 false (.t 47))⟩, ⟨(some 49), (some (46, false)), 0, (.faddr 1 (.t 1))⟩, ⟨(some 50), (some (46, false)), 0, (.load 1 false (.t 49))⟩, ⟨(some 51), (some (46, false)), 0, (.call false 0 0 125 [(.t 48), (.t 50)])⟩, ⟨(some 52), (some (46, false)), 0, (.not (.t 51))⟩, ⟨(some 53), none, 0, (.pick (.t 46) (.k (.bool true)) (.t 52))⟩, ⟨(some 54), none, 0, (.mov (.t 53))⟩, ⟨(some 55), (some (54, false)), 0, (.faddr 9 (.t 1))⟩, ⟨(some 56), (some (54, false)), 0, (.load 1 false (.t 55))⟩, ⟨(some 57), (some (54, false)), 0, (.faddr 0 (.t 1))⟩, ⟨(some 58), (some (54, false)), 0, (.load 1 false (.t 57))⟩, ⟨(some 59), (some (54, false)), 0, (.iaddr 1 (.t 56) (.t 58))⟩, ⟨(some 60), (some (54, false)), 0, (.load 1 false (.t 59))⟩, ⟨(some 61), (some (54, false)), 0, (.faddr 6 (.t 1))⟩, ⟨(some 62), (some (54, false)), 0, (.load 3 true (.t 61))⟩, ⟨(some 63), (some (54, false)), 0, (.call false 0 0 91 [(.t 62)])⟩, ⟨(some 64), (some (54, false)), 0, (.bin .neq (.t 60) (.t 63))⟩, ⟨(some 65), none, 0, (.pick (.t 54) (.k (.bool true)) (.t 64))⟩, ⟨(some 66), none, 0, (.mov (.t 65))⟩, ⟨(some 67), (some (66, false)), 0, (.faddr 11 (.t 1))⟩, ⟨(some 68), (some (66, false)), 0, (.load 1 false (.t 67))⟩, ⟨(some 69), (some (66, false)), 0, (.faddr 1 (.t 1))⟩, ⟨(some 70), (some (66, false)), 0, (.load 1 false (.t 69))⟩, ⟨(some 71), (some (66, false)), 0, (.call false 0 0 126 [(.t 68), (.t 70)])⟩, ⟨(some 72), (some (66, false)), 0, (.not (.t 71))⟩, ⟨(some 73), none, 0, (.pick (.t 66) (.k (.bool true)) (.t 72))⟩]
def R79_4 : List AR := [⟨(some 2), none, 0, (.mov (.k (.bool false)))⟩]
def R79_5 : List AR := [⟨(some 3), none, 0, (.mov (.k (.int .i64 0)))⟩]
def R79_6 : List AR := [⟨(some 74), none, 0, (.mov (.t 3))⟩, ⟨(some 75), none, 0, (.faddr 1 (.t 1))⟩, ⟨(some 76), none, 0, (.load 1 false (.t 75))⟩, ⟨(some 77), none, 0, (.bin .lss (.t 74) (.t 76))⟩]
def R79_7 : List AR := [⟨(some 80), none, 0, (.faddr 10 (.t 1))⟩, ⟨(some 81), none, 0, (.load 1 false (.t 80))⟩, ⟨(some 82), none, 0, (.mov (.t 3))⟩, ⟨(some 83), none, 0, (.iaddr 1 (.t 81) (.t 82))⟩, ⟨(some 84), none, 0, (.load 1 false (.t 83))⟩, ⟨(some 85), none, 0, (.faddr 6 (.t 1))⟩, ⟨(some 86), none, 0, (.load 3 true (.t 85))⟩, ⟨(some 87), none, 0, (.call false 0 0 91 [(.t 86)])⟩, ⟨(some 88), none, 0, (.bin .gtr (.t 84) (.t 87))⟩]
def R79_8 : List AR := [⟨(some 2), none, 0, (.mov (.k (.bool false)))⟩]
def R79_9 : List AR := [⟨(some 78), none, 0, (.mov (.t 3))⟩, ⟨(some 79), none, 0, (.bin .add (.t 78) (.k (.int .i64 1)))⟩, ⟨(some 3), none, 0, (.mov (.t 79))⟩]
def A79_0 : AC := (.seq (.block 1 (.seq (.draw 0 R79_7) (.cond (.t 88) (.seq (.reg 0 R79_8) .ret) .skip))) (.reg 0 R79_9))
def L79_0 : AC := (.seq (.seq (.reg 0 R79_6) (.cond (.t 77) .skip (.exit 0))) A79_0)
def R79_10 : List AR := [⟨(some 89), none, 0, (.faddr 12 (.t 1))⟩, ⟨(some 90), none, 0, (.load 1 false (.t 89))⟩, ⟨(some 91), none, 0, (.call false 0 0 101 [(.t 90), (.k (.int .i64 0)), (.k (.int .i64 100000))])⟩, ⟨(some 92), none, 0, (.not (.t 91))⟩, ⟨(some 93), none, 0, (.mov (.t 92))⟩, ⟨(some 94), (some (93, false)), 0, (.faddr 17 (.t 1))⟩, ⟨(some 95), (some (93, false)), 0, (.load 1 false (.t 94))⟩, ⟨(some 96), (some (93, false)), 0, (.call false 0 0 101 [(.t 95), (.k (.int .i64 0)), (.k (.int .i64 100000))])⟩, ⟨(some 97), (some (93, false)), 0, (.not (.t 96))⟩, ⟨(some 98), none, 0, (.pick (.t 93) (.k (.bool true)) (.t 97))⟩, ⟨(some 99), none, 0, (.mov (.t 98))⟩, ⟨(some 100), (some (99, false)), 0, (.faddr 13 (.t 1))⟩, ⟨(some 101), (some (99, false)), 0, (.load 1 false (.t 100))⟩, ⟨(some 102), (some (99, false)), 0, (.call false 0 0 101 [(.t 101), (.k (.int .i64 1)), (.k (.int .i64 4))])⟩, ⟨(some 103), (some (99, false)), 0, (.not (.t 102))⟩, ⟨(some 104), none, 0, (.pick (.t 99) (.k (.bool true)) (.t 103))⟩, ⟨(some 105), none, 0, (.mov (.t 104))⟩, ⟨(some 106), (some (105, false)), 0, (.faddr 15 (.t 1))⟩, ⟨(some 107), (some (105, false)), 0, (.load 1 false (.t 106))⟩, ⟨(some 108), (some (105, false)), 0, (.call false 0 0 101 [(.t 107), (.k (.int .i64 1)), (.k (.int .i64 20))])⟩, ⟨(some 109), (some (105, false)), 0, (.not (.t 108))⟩, ⟨(some 110), none, 0, (.pick (.t 105) (.k (.bool true)) (.t 109))⟩, ⟨(some 111), none, 0, (.mov (.t 110))⟩, ⟨(some 112), (some (111, false)), 0, (.faddr 16 (.t 1))⟩, ⟨(some 113), (some (111, false)), 0, (.load 1 false (.t 112))⟩, ⟨(some 114), (some (111, false)), 0, (.call false 0 0 101 [(.t 113), (.k (.int .i64 1)), (.k (.int .i64 50))])⟩, ⟨(some 115), (some (111, false)), 0, (.not (.t 114))⟩, ⟨(some 116), none, 0, (.pick (.t 111) (.k (.bool true)) (.t 115))⟩, ⟨(some 117), none, 0, (.mov (.t 116))⟩, ⟨(some 118), (some (117, false)), 0, (.faddr 18 (.t 1))⟩, ⟨(some 119), (some (117, false)), 0, (.load 1 false (.t 118))⟩, ⟨(some 120), (some (117, false)), 0, (.len (.t 119))⟩, ⟨(some 121), (some (117, false)), 0, (.bin .neq (.t 120) (.k (.int .i64 5)))⟩, ⟨(some 122), none, 0, (.pick (.t 117) (.k (.bool true)) (.t 121))⟩]
def R79_11 : List AR := [⟨(some 2), none, 0, (.mov (.k (.bool false)))⟩]
def R79_12 : List AR := [⟨(some 4), none, 0, (.mov (.k (.int .i64 0)))⟩]
def R79_13 : List AR := [⟨(some 123), none, 0, (.mov (.t 4))⟩, ⟨(some 124), none, 0, (.bin .lss (.t 123) (.k (.int .i64 5)))⟩]
def R79_14 : List AR := [⟨(some 127), none, 0, (.faddr 18 (.t 1))⟩, ⟨(some 128), none, 0, (.load 1 false (.t 127))⟩, ⟨(some 129), none, 0, (.mov (.t 4))⟩, ⟨(some 130), none, 0, (.iaddr 3 (.t 128) (.t 129))⟩, ⟨(some 131), none, 0, (.load 3 true (.t 130))⟩, ⟨(some 5), none, 0, (.alloc 0 3 [(.int .i64 0), (.int .i64 0), (.int .i64 0)])⟩, ⟨none, none, 0, (.store 3 (.t 5) (.t 131))⟩]
def R79_15 : List AR := [⟨(some 132), none, 0, (.faddr 0 (.t 5))⟩, ⟨(some 133), none, 0, (.load 1 false (.t 132))⟩, ⟨(some 134), none, 0, (.call false 0 0 101 [(.t 133), (.k (.int .i64 0)), (.k (.int .i64 1000))])⟩, ⟨(some 135), none, 0, (.not (.t 134))⟩, ⟨(some 136), none, 0, (.mov (.t 135))⟩, ⟨(some 137), (some (136, false)), 0, (.faddr 1 (.t 5))⟩, ⟨(some 138), (some (136, false)), 0, (.load 1 false (.t 137))⟩, ⟨(some 139), (some (136, false)), 0, (.call false 0 0 101 [(.t 138), (.k (.int .i64 0)), (.k (.int .i64 100000))])⟩, ⟨(some 140), (some (136, false)), 0, (.not (.t 139))⟩, ⟨(some 141), none, 0, (.pick (.t 136) (.k (.bool true)) (.t 140))⟩, ⟨(some 142), none, 0, (.mov (.t 141))⟩, ⟨(some 143), (some (142, false)), 0, (.faddr 2 (.t 5))⟩, ⟨(some 144), (some (142, false)), 0, (.load 1 false (.t 143))⟩, ⟨(some 145), (some (142, false)), 0, (.faddr 17 (.t 1))⟩, ⟨(some 146), (some (142, false)), 0, (.load 1 false (.t 145))⟩, ⟨(some 147), (some (142, false)), 0, (.call false 0 0 101 [(.t 144), (.k (.int .i64 0)), (.t 146)])⟩, ⟨(some 148), (some (142, false)), 0, (.not (.t 147))⟩, ⟨(some 149), none, 0, (.pick (.t 142) (.k (.bool true)) (.t 148))⟩]
def R79_16 : List AR := [⟨(some 2), none, 0, (.mov (.k (.bool false)))⟩]
def A79_1 : AC := (.seq (.reg 0 R79_15) (.cond (.t 149) (.seq (.reg 0 R79_16) .ret) .skip))
def R79_17 : List AR := [⟨(some 125), none, 0, (.mov (.t 4))⟩, ⟨(some 126), none, 0, (.bin .add (.t 125) (.k (.int .i64 1)))⟩, ⟨(some 4), none, 0, (.mov (.t 126))⟩]
def A79_2 : AC := (.seq (.block 3 (.seq (.reg 1 R79_14) A79_1)) (.reg 0 R79_17))
def L79_1 : AC := (.seq (.seq (.reg 0 R79_13) (.cond (.t 124) .skip (.exit 2))) A79_2)
def R79_18 : List AR := [⟨(some 150), none, 0, (.load 19 true (.t 1))⟩, ⟨(some 151), none, 0, (.call false 0 0 127 [(.t 150)])⟩, ⟨(some 2), none, 0, (.mov (.t 151))⟩]
def A79_3 : AC := (.seq (.reg 0 R79_18) .ret)
def A79_4 : AC := (.seq (.seq (.reg 0 R79_12) (.block 2 (.loop L79_1))) A79_3)
def A79_5 : AC := (.seq (.seq (.reg 0 R79_10) (.cond (.t 122) (.seq (.reg 0 R79_11) .ret) .skip)) A79_4)
def A79_6 : AC := (.seq (.seq (.reg 0 R79_5) (.block 0 (.loop L79_0))) A79_5)
def A79_7 : AC := (.seq (.seq (.draw 0 R79_3) (.cond (.t 73) (.seq (.reg 0 R79_4) .ret) .skip)) A79_6)
def A79_8 : AC := (.seq (.seq (.draw 0 R79_1) (.cond (.t 39) (.seq (.reg 0 R79_2) .ret) .skip)) A79_7)
def A79 : AC := (.seq (.reg 1 R79_0) A79_8)
def O79 : List AO := [(.mov (.t 2))]
def G79 : Fns := ⟨fun f => false, fun f => 0, false⟩
noncomputable def X79 : Cx := ⟨Try.prog, G79, drawD, 152, [0, 1, 2, 3, 4, 5, 39, 73, 77, 88, 122, 124, 149]⟩
theorem c79 : (Try.f79.body).bind (compC X79.P X79.Γ X79.D X79.nt) = some A79 := by kernel_rfl
theorem o79 : compRes X79.P Try.f79.results.toList = some O79 := by kernel_rfl
theorem v79 : X79.vs = [0, 1, 2, 3, 4, 5, 39, 73, 77, 88, 122, 124, 149] := rfl
theorem p79 : X79.P = Try.prog := rfl
set_option maxHeartbeats 8000000 in
theorem specNodeOk_ok (n : Node) (h0 : n.sz ≤ 1048576) : FS Try.prog 79 [] [.agg n.c] (.bool (decide n.Right)) [] := by
  refine FS.of (X := X79) (ac := A79) (os := O79) Try.func79 (by rfl) (by rfl) (by kernel_rfl) o79 (Nat.le_of_ble_eq_true rfl) ?_
  show AWP X79 A79 (Ends X79.vs O79 0 _ _) [.agg n.c, .tup [], .tup [], .tup [], .tup [], .tup [], .tup [], .tup [], .tup [], .tup [], .tup [], .tup [], .tup []] []
  obtain ⟨Q, hQ⟩ : ∃ Q, Q = Ends X79.vs O79 0 (.bool (decide n.Right)) [] := ⟨_, rfl⟩
  rw [← hQ]
  have h := Node.small h0
  have fin : ∀ L σ vV, resVs O79 (look X79.vs L) σ = some [vV] → vV = (.bool (decide n.Right)) → Q .ret L σ := by
    intro L σ vV h1 h2
    rw [hQ]
    exact Ends.is (.inl rfl) h1 (by simp only [packV, h2]) rfl
  refine awp_sr ?_
  simp only [go_sem, R79_0, v79, p79, Node.c]
  refine (fun G : AWP X79 _ _ _ [.live ⟨19, [n.c]⟩] => G) ?_
  obtain ⟨K1, hK1⟩ : ∃ K : List V → Store → Prop, K = fun L σ => ∃ q y0 y2 y3 y4 y5 y73 y77 y88 y122 y124 y149, L = [y0, .ptr 0 19 0 0, y2, y3, y4, y5, .bool q, y73, y77, y88, y122, y124, y149] ∧ σ = [.live ⟨19, [n.c]⟩] ∧ q = !decide (n.A ∧ n.log.Right) := ⟨_, rfl⟩
  refine awp_sd2K (K1) mixed rfl (by rfl) ?_ ?_
  · simp only [go_sem, R79_1, v79, p79, Node.c]
    refine run_see (l1In_ok _ _ _) false (Views.refl rfl) rfl (fun j hj => by first | omega | ((have hj0 : j = 0 := by omega); subst hj0; first | rfl | (simp only [Nat.add_zero, app_get, app_getk, sapp_get, sapp_getk, Nat.add_assoc, Nat.reduceAdd, List.getElem?_cons_zero, List.getElem?_cons_succ]; done) | simp)) (fun h => by cases h) ?_
    simp only [go_sem, v79, p79]
    by_cases b1 : 1 ≤ n.n ∧ n.n ≤ 5
    · simp only [go_sem, v79, p79, eq_true b1, Node.c, wrap_i64 (n := n.n - 1) (by omega) (by omega)]
      refine run_see (l1In_ok _ _ _) false (Views.refl rfl) rfl (fun j hj => by first | omega | ((have hj0 : j = 0 := by omega); subst hj0; first | rfl | (simp only [Nat.add_zero, app_get, app_getk, sapp_get, sapp_getk, Nat.add_assoc, Nat.reduceAdd, List.getElem?_cons_zero, List.getElem?_cons_succ]; done) | simp)) (fun h => by cases h) ?_
      simp only [go_sem, v79, p79]
      by_cases b2 : 0 ≤ n.id ∧ n.id ≤ n.n - 1
      · simp only [go_sem, v79, p79, eq_true b2, Node.c]
        refine run_see (specStateOk_ok n.state h.st) false (Views.refl rfl) rfl (fun j hj => by first | omega | ((have hj0 : j = 0 := by omega); subst hj0; first | rfl | (simp only [Nat.add_zero, app_get, app_getk, sapp_get, sapp_getk, Nat.add_assoc, Nat.reduceAdd, List.getElem?_cons_zero, List.getElem?_cons_succ]; done) | simp)) (fun h => by cases h) ?_
        simp only [go_sem, v79, p79]
        by_cases b3 : n.state.Right
        · simp only [go_sem, v79, p79, eq_true b3, Node.c]
          refine run_see (specTreeOf_ok n.state h.st) false (Views.refl rfl) rfl (fun j hj => by first | omega | ((have hj0 : j = 0 := by omega); subst hj0; first | rfl | (simp only [Nat.add_zero, app_get, app_getk, sapp_get, sapp_getk, Nat.add_assoc, Nat.reduceAdd, List.getElem?_cons_zero, List.getElem?_cons_succ]; done) | simp)) (fun h => by cases h) ?_
          simp only [go_sem, v79, p79]
          refine run_see (specL11Tree_ok n.tree (treeOf n.state) h.tr) false (Views.refl rfl) rfl (fun j hj => by first | omega | ((have hj0 : j = 0 := by omega); subst hj0; first | rfl | (simp only [Nat.add_zero, app_get, app_getk, sapp_get, sapp_getk, Nat.add_assoc, Nat.reduceAdd, List.getElem?_cons_zero, List.getElem?_cons_succ]; done) | simp)) (fun h => by cases h) ?_
          simp only [go_sem, v79, p79]
          by_cases b4 : n.tree = treeOf n.state
          · simp only [go_sem, v79, p79, eq_true b4, Node.c]
            refine run_see (specLogOk_ok n.log h.lg) false (Views.refl rfl) rfl (fun j hj => by first | omega | ((have hj0 : j = 0 := by omega); subst hj0; first | rfl | (simp only [Nat.add_zero, app_get, app_getk, sapp_get, sapp_getk, Nat.add_assoc, Nat.reduceAdd, List.getElem?_cons_zero, List.getElem?_cons_succ]; done) | simp)) (fun h => by cases h) ?_
            simp only [go_sem, v79, p79]
            rw [hK1]
            refine ⟨_, _, _, _, _, _, _, _, _, _, _, _, rfl, rfl, ?_⟩
            grind [Node.A]
          · simp only [go_sem, v79, p79, eq_false b4, Node.c]
            rw [hK1]
            refine ⟨_, _, _, _, _, _, _, _, _, _, _, _, rfl, rfl, ?_⟩
            grind [Node.A]
        · simp only [go_sem, v79, p79, eq_false b3, Node.c]
          rw [hK1]
          refine ⟨_, _, _, _, _, _, _, _, _, _, _, _, rfl, rfl, ?_⟩
          grind [Node.A]
      · simp only [go_sem, v79, p79, eq_false b2, Node.c]
        rw [hK1]
        refine ⟨_, _, _, _, _, _, _, _, _, _, _, _, rfl, rfl, ?_⟩
        grind [Node.A]
    · simp only [go_sem, v79, p79, eq_false b1, Node.c]
      rw [hK1]
      refine ⟨_, _, _, _, _, _, _, _, _, _, _, _, rfl, rfl, ?_⟩
      grind [Node.A]
  intro L σ hq
  rw [hK1] at hq
  obtain ⟨q, y0, y2, y3, y4, y5, y73, y77, y88, y122, y124, y149, rfl, rfl, hq⟩ := hq
  subst hq
  refine awp_if' rfl ?_ ?_
  · intro h1
    refine awp_sr ?_
    simp only [go_sem, R79_2, v79, p79]
    refine awp_ret ?_
    try simp only [go_sem]
    exact fin _ _ (.bool false) rfl (congrArg V.bool (decide_eq_false fun e => h1 ⟨e.a, e.l⟩)).symm
  intro h1
  obtain ⟨⟨a1, a2, a3, a4⟩, a5⟩ := id h1
  refine awp_skip ?_
  simp only [go_sem]
  obtain ⟨K2, hK2⟩ : ∃ K : List V → Store → Prop, K = fun L σ => ∃ q y0 y2 y3 y4 y5 y39 y77 y88 y122 y124 y149, L = [y0, .ptr 0 19 0 0, y2, y3, y4, y5, y39, .bool q, y77, y88, y122, y124, y149] ∧ σ = [.live ⟨19, [n.c]⟩] ∧ q = !decide (n.B ∧ tableR n.seen n.n) := ⟨_, rfl⟩
  refine awp_sd2K (K2) mixed rfl (by rfl) ?_ ?_
  · simp only [go_sem, R79_3, v79, p79, Node.c]
    refine run_see (specVecOk_ok n.got n.n h.gt) false (Views.refl rfl) rfl (fun j hj => by first | omega | ((have hj0 : j = 0 := by omega); subst hj0; first | rfl | (simp only [Nat.add_zero, app_get, app_getk, sapp_get, sapp_getk, Nat.add_assoc, Nat.reduceAdd, List.getElem?_cons_zero, List.getElem?_cons_succ]; done) | simp)) (fun h => by cases h) ?_
    simp only [go_sem, v79, p79]
    by_cases b1 : vecR n.got n.n
    · have hid : n.id.toNat < n.got.length := by have := b1.2.1; omega
      have hg := getD_at hid
      have hid0 : 0 ≤ n.id := a2.1
      simp only [go_sem, v79, p79, eq_true b1, Node.c]
      refine run_see (specVecOk_ok n.acked n.n h.ak) false (Views.refl rfl) rfl (fun j hj => by first | omega | ((have hj0 : j = 0 := by omega); subst hj0; first | rfl | (simp only [Nat.add_zero, app_get, app_getk, sapp_get, sapp_getk, Nat.add_assoc, Nat.reduceAdd, List.getElem?_cons_zero, List.getElem?_cons_succ]; done) | simp)) (fun h => by cases h) ?_
      simp only [go_sem, v79, p79]
      by_cases b2 : vecR n.acked n.n
      · simp only [go_sem, v79, p79, eq_true b2, Node.c, rw_at _ hid, intC, eq_true hid0]
        refine run_see (specLogSeq_ok n.log h.lg) false (Views.refl rfl) rfl (fun j hj => by first | omega | ((have hj0 : j = 0 := by omega); subst hj0; first | rfl | (simp only [Nat.add_zero, app_get, app_getk, sapp_get, sapp_getk, Nat.add_assoc, Nat.reduceAdd, List.getElem?_cons_zero, List.getElem?_cons_succ]; done) | simp)) (fun h => by cases h) ?_
        simp only [go_sem, v79, p79]
        by_cases b3 : n.got[n.id.toNat] = logSeq n.log
        · simp only [go_sem, v79, p79, eq_true b3, Node.c, ne_eq]
          refine run_see (specTableOk_ok n.seen n.n h.sn) false (Views.refl rfl) rfl (fun j hj => by first | omega | ((have hj0 : j = 0 := by omega); subst hj0; first | rfl | (simp only [Nat.add_zero, app_get, app_getk, sapp_get, sapp_getk, Nat.add_assoc, Nat.reduceAdd, List.getElem?_cons_zero, List.getElem?_cons_succ]; done) | simp)) (fun h => by cases h) ?_
          simp only [go_sem, v79, p79]
          rw [hK2]
          refine ⟨_, _, _, _, _, _, _, _, _, _, _, _, rfl, rfl, ?_⟩
          grind [Node.B]
        · simp only [go_sem, v79, p79, eq_false b3, Node.c, ne_eq]
          rw [hK2]
          refine ⟨_, _, _, _, _, _, _, _, _, _, _, _, rfl, rfl, ?_⟩
          grind [Node.B]
      · simp only [go_sem, v79, p79, eq_false b2, Node.c]
        rw [hK2]
        refine ⟨_, _, _, _, _, _, _, _, _, _, _, _, rfl, rfl, ?_⟩
        grind [Node.B]
    · simp only [go_sem, v79, p79, eq_false b1, Node.c]
      rw [hK2]
      refine ⟨_, _, _, _, _, _, _, _, _, _, _, _, rfl, rfl, ?_⟩
      grind [Node.B]
  intro L σ hq
  rw [hK2] at hq
  obtain ⟨q, y0, y2, y3, y4, y5, y39, y77, y88, y122, y124, y149, rfl, rfl, hq⟩ := hq
  subst hq
  refine awp_if' rfl ?_ ?_
  · intro h2
    refine awp_sr ?_
    simp only [go_sem, R79_4, v79, p79]
    refine awp_ret ?_
    try simp only [go_sem]
    exact fin _ _ (.bool false) rfl (congrArg V.bool (decide_eq_false fun e => h2 ⟨e.b, e.t⟩)).symm
  intro h2
  have hak : (n.acked.length : Int) = n.n := h2.1.2.1.2.1
  refine awp_skip ?_
  simp only [go_sem]
  refine awp_sr2 ?_
  simp only [go_sem, R79_5, v79, p79]
  obtain ⟨I, hI⟩ : ∃ I : Nat → List V → Store → Prop, I = fun mM L σ => ∃ i rest y0 y2 y4 y5 y39 y73 y77 y88 y122 y124 y149, mM = n.acked.length - i ∧ i ≤ n.acked.length ∧ (∀ j x, j < i → n.acked[j]? = some x → x ≤ logSeq n.log) ∧ L = [y0, .ptr 0 19 0 0, y2, .int .i64 (i : Nat), y4, y5, y39, y73, y77, y88, y122, y124, y149] ∧ σ = .live ⟨19, [n.c]⟩ :: rest := ⟨_, rfl⟩
  first | refine awp_for I n.acked.length ?_ ?_ | refine awp_seq (awp_for I n.acked.length ?_ ?_)
  · rw [hI]; refine ⟨0, _, _, _, _, _, _, _, _, _, _, _, _, rfl, Nat.zero_le _, ?_, rfl, rfl⟩
    intro j x h; omega
  intro mM L σ hIn
  rw [hI] at hIn
  obtain ⟨i, rest, y0, y2, y4, y5, y39, y73, y77, y88, y122, y124, y149, rfl, hi, hP, rfl, rfl⟩ := hIn
  refine awp_sr2 ?_
  simp only [go_sem, R79_6, v79, p79, Node.c]
  refine awp_if rfl ?_ ?_
  · intro h3
    have h3 : i < n.acked.length := by omega
    refine awp_skip ?_
    simp only [go_sem]
    first | refine awp_block ?_ | refine awp_seq (awp_block ?_)
    refine awp_sd mixed rfl (by rfl) ?_
    simp only [go_sem, R79_7, v79, p79, Node.c, rw_at _ h3, intC]
    refine run_see (specLogSeq_ok n.log h.lg) false (Views.refl rfl) rfl (fun j hj => by first | omega | ((have hj0 : j = 0 := by omega); subst hj0; first | rfl | (simp only [Nat.add_zero, app_get, app_getk, sapp_get, sapp_getk, Nat.add_assoc, Nat.reduceAdd, List.getElem?_cons_zero, List.getElem?_cons_succ]; done) | simp)) (fun h => by cases h) ?_
    simp only [go_sem, v79, p79]
    refine awp_if rfl ?_ ?_
    · intro h4
      refine awp_sr ?_
      simp only [go_sem, R79_8, v79, p79]
      refine awp_ret ?_
      try simp only [go_sem]
      exact fin _ _ (.bool false) rfl (congrArg V.bool (decide_eq_false fun e => by have := e.c i _ (List.getElem?_eq_getElem h3); omega)).symm
    · intro h4
      refine awp_skip ?_
      simp only [go_sem]
      refine awp_reg ?_
      simp only [go_sem, R79_9, v79, p79, wrap_succ (i := i) (by omega)]
      refine ⟨n.acked.length - (i + 1), by omega, ?_⟩
      rw [hI]
      refine ⟨i + 1, _, _, _, _, _, _, _, _, _, _, _, _, rfl, by omega, ?_, rfl, rfl⟩
      exact upto_succ (p := fun _ x => x ≤ logSeq n.log) hP h3 (by omega)
  intro h3
  refine awp_exit ?_
  simp only [go_sem]
  have hc : n.C := upto_all (p := fun _ x => x ≤ logSeq n.log) hP (by omega)
  clear hI hP
  obtain ⟨K3, hK3⟩ : ∃ K : List V → Store → Prop, K = fun L σ => ∃ q rest y0 y2 y3 y4 y5 y39 y73 y77 y88 y124 y149, L = [y0, .ptr 0 19 0 0, y2, y3, y4, y5, y39, y73, y77, y88, .bool q, y124, y149] ∧ σ = .live ⟨19, [n.c]⟩ :: rest ∧ q = !decide (n.D ∧ n.rises.length = 5) := ⟨_, rfl⟩
  refine awp_sr2K (K3) ?_ ?_
  · simp only [go_sem, R79_10, v79, p79, Node.c]
    repeat' first
      | (refine selP_if rfl (fun hG => ?_) (fun hG => ?_) <;> first | simp only [go_sem, v79, p79, eq_false hG, Node.c] | simp only [go_sem, v79, p79, eq_true hG, Node.c])
      | (refine selP_ifn rfl (fun hG => ?_) (fun hG => ?_) <;> first | simp only [go_sem, v79, p79, eq_false hG, Node.c] | simp only [go_sem, v79, p79, eq_true hG, Node.c])
      | (refine selN_if rfl (fun hG => ?_) (fun hG => ?_) <;> first | simp only [go_sem, v79, p79, eq_false hG, Node.c] | simp only [go_sem, v79, p79, eq_true hG, Node.c])
      | (refine selN_ifn rfl (fun hG => ?_) (fun hG => ?_) <;> first | simp only [go_sem, v79, p79, eq_false hG, Node.c] | simp only [go_sem, v79, p79, eq_true hG, Node.c])
      | (refine selB_if rfl (fun hG => ?_) (fun hG => ?_) <;> simp only [go_sem, v79, p79, hG, Node.c])
      | (refine selB_ifn rfl (fun hG => ?_) (fun hG => ?_) <;> simp only [go_sem, v79, p79, hG, Node.c])
      | (refine run_see (l1In_ok _ _ _) false (Views.refl rfl) rfl (fun j hj => by omega) (fun h => by cases h) ?_; simp only [go_sem, v79, p79, Node.c])
    all_goals rw [hK3]
    all_goals refine ⟨_, _, _, _, _, _, _, _, _, _, _, _, _, rfl, rfl, ?_⟩
    all_goals grind [Node.D]
  intro L σ hq
  rw [hK3] at hq
  obtain ⟨q, rest, y0, y2, y3, y4, y5, y39, y73, y77, y88, y124, y149, rfl, rfl, hq⟩ := hq
  subst hq
  refine awp_if' rfl ?_ ?_
  · intro h4
    refine awp_sr ?_
    simp only [go_sem, R79_11, v79, p79]
    refine awp_ret ?_
    try simp only [go_sem]
    exact fin _ _ (.bool false) rfl (congrArg V.bool (decide_eq_false fun e => h4 ⟨e.d, e.r.1⟩)).symm
  intro h4
  have hr5 := h4.2
  refine awp_skip ?_
  simp only [go_sem]
  refine awp_sr2 ?_
  simp only [go_sem, R79_12, v79, p79]
  obtain ⟨J, hJ⟩ : ∃ J : Nat → List V → Store → Prop, J = fun mM L σ => ∃ i rest y0 y2 y3 y5 y39 y73 y77 y88 y122 y124 y149, mM = n.rises.length - i ∧ i ≤ n.rises.length ∧ (∀ j x, j < i → n.rises[j]? = some x → riseP n.clock j x) ∧ L = [y0, .ptr 0 19 0 0, y2, y3, .int .i64 (i : Nat), y5, y39, y73, y77, y88, y122, y124, y149] ∧ σ = .live ⟨19, [n.c]⟩ :: rest := ⟨_, rfl⟩
  first | refine awp_for J n.rises.length ?_ ?_ | refine awp_seq (awp_for J n.rises.length ?_ ?_)
  · rw [hJ]; refine ⟨0, _, _, _, _, _, _, _, _, _, _, _, _, rfl, Nat.zero_le _, ?_, rfl, rfl⟩
    intro j x h; omega
  intro mM L σ hIn
  rw [hJ] at hIn
  obtain ⟨i, rest, y0, y2, y3, y5, y39, y73, y77, y88, y122, y124, y149, rfl, hi, hP, rfl, rfl⟩ := hIn
  refine awp_sr2 ?_
  simp only [go_sem, R79_13, v79, p79]
  refine awp_if rfl ?_ ?_
  · intro h5
    have h5 : i < n.rises.length := by omega
    refine awp_skip ?_
    simp only [go_sem]
    refine awp_seq (awp_block ?_)
    refine awp_sr ?_
    simp only [go_sem, R79_14, v79, p79, Node.c, rw_at _ h5, Rise.c]
    obtain ⟨K4, hK4⟩ : ∃ K : List V → Store → Prop, K = fun L σ => ∃ q rest y0 y2 y3 y5 y39 y73 y77 y88 y122 y124, L = [y0, .ptr 0 19 0 0, y2, y3, .int .i64 (i : Nat), y5, y39, y73, y77, y88, y122, y124, .bool q] ∧ σ = .live ⟨19, [n.c]⟩ :: rest ∧ q = !decide (riseP n.clock i n.rises[i]) := ⟨_, rfl⟩
    refine awp_srK (K4) ?_ ?_
    · simp only [go_sem, R79_15, v79, p79, Node.c, Rise.c]
      repeat' first
        | (refine selP_if rfl (fun hG => ?_) (fun hG => ?_) <;> first | simp only [go_sem, v79, p79, eq_false hG, Node.c, Rise.c] | simp only [go_sem, v79, p79, eq_true hG, Node.c, Rise.c])
        | (refine selP_ifn rfl (fun hG => ?_) (fun hG => ?_) <;> first | simp only [go_sem, v79, p79, eq_false hG, Node.c, Rise.c] | simp only [go_sem, v79, p79, eq_true hG, Node.c, Rise.c])
        | (refine selN_if rfl (fun hG => ?_) (fun hG => ?_) <;> first | simp only [go_sem, v79, p79, eq_false hG, Node.c, Rise.c] | simp only [go_sem, v79, p79, eq_true hG, Node.c, Rise.c])
        | (refine selN_ifn rfl (fun hG => ?_) (fun hG => ?_) <;> first | simp only [go_sem, v79, p79, eq_false hG, Node.c, Rise.c] | simp only [go_sem, v79, p79, eq_true hG, Node.c, Rise.c])
        | (refine selB_if rfl (fun hG => ?_) (fun hG => ?_) <;> simp only [go_sem, v79, p79, hG, Node.c, Rise.c])
        | (refine selB_ifn rfl (fun hG => ?_) (fun hG => ?_) <;> simp only [go_sem, v79, p79, hG, Node.c, Rise.c])
        | (refine run_see (l1In_ok _ _ _) false (Views.refl rfl) rfl (fun j hj => by omega) (fun h => by cases h) ?_; simp only [go_sem, v79, p79, Node.c, Rise.c])
      all_goals rw [hK4]
      all_goals refine ⟨_, _, _, _, _, _, _, _, _, _, _, _, rfl, rfl, ?_⟩
      all_goals grind [riseP]
    intro L σ hq
    rw [hK4] at hq
    obtain ⟨q, rest, y0, y2, y3, y5, y39, y73, y77, y88, y122, y124, rfl, rfl, hq⟩ := hq
    subst hq
    refine awp_if' rfl ?_ ?_
    · intro h6
      refine awp_sr ?_
      simp only [go_sem, R79_16, v79, p79]
      refine awp_ret ?_
      try simp only [go_sem]
      exact fin _ _ (.bool false) rfl (congrArg V.bool (decide_eq_false fun e => h6 (e.r.2 i _ (List.getElem?_eq_getElem h5)))).symm
    · intro h6
      refine awp_skip ?_
      simp only [go_sem]
      refine awp_reg ?_
      simp only [go_sem, R79_17, v79, p79, wrap_succ (i := i) (by omega)]
      refine ⟨n.rises.length - (i + 1), by omega, ?_⟩
      rw [hJ]
      refine ⟨i + 1, _, _, _, _, _, _, _, _, _, _, _, _, rfl, by omega, ?_, rfl, rfl⟩
      exact upto_succ hP h5 h6
  intro h5
  refine awp_exit ?_
  simp only [go_sem]
  have hr : risesR n := ⟨hr5, upto_all hP (by omega)⟩
  have key : n.Right ↔ sessR n := ⟨fun e => e.s, fun e => ⟨⟨a1, a2, a3, a4⟩, a5, h2.1, h2.2, hc, h4.1, hr, e⟩⟩
  refine awp_sr ?_
  simp only [go_sem, R79_18, v79, p79, Node.c]
  refine run_see (specL11Sess_ok n h.ss a1) false (Views.refl rfl) rfl (fun j hj => by first | omega | ((have hj0 : j = 0 := by omega); subst hj0; first | rfl | (simp only [Nat.add_zero, app_get, app_getk, sapp_get, sapp_getk, Nat.add_assoc, Nat.reduceAdd, List.getElem?_cons_zero, List.getElem?_cons_succ]; done) | simp)) (fun h => by cases h) ?_
  simp only [go_sem, v79, p79]
  refine awp_ret ?_
  try simp only [go_sem]
  refine fin _ _ _ rfl (congrArg V.bool ?_)
  grind
end Go.Proofs.Ytffigokicddekaa.Abs
/- What a right node is, walked in the program. No condition. -/
set_option linter.unusedVariables false
set_option linter.unusedSimpArgs false
set_option maxRecDepth 10000
namespace Go.Proofs.Ytffigokicddekaa.Abs
open Go Go.Proofs
def R85_0 : List AR := [⟨(some 1), none, 0, (.box 0 19 (.t 0))⟩, ⟨(some 2), none, 0, (.mov (.k (.bool false)))⟩]
def R85_1 : List AR := [⟨(some 4), none, 0, (.faddr 1 (.t 1))⟩, ⟨(some 5), none, 0, (.load 1 false (.t 4))⟩, ⟨(some 6), none, 0, (.call false 0 0 105 [(.t 5), (.k (.int .i64 1)), (.k (.int .i64 5))])⟩, ⟨(some 7), none, 0, (.not (.t 6))⟩, ⟨(some 8), none, 0, (.mov (.t 7))⟩, ⟨(some 9), (some (8, false)), 0, (.faddr 0 (.t 1))⟩, ⟨(some 10), (some (8, false)), 0, (.load 1 false (.t 9))⟩, ⟨(some 11), (some (8, false)), 0, (.faddr 1 (.t 1))⟩, ⟨(some 12), (some (8, false)), 0, (.load 1 false (.t 11))⟩, ⟨(some 13), (some (8, false)), 0, (.bin .sub (.t 12) (.k (.int .i64 1)))⟩, ⟨(some 14), (some (8, false)), 0, (.call false 0 0 105 [(.t 10), (.k (.int .i64 0)), (.t 13)])⟩, ⟨(some 15), (some (8, false)), 0, (.not (.t 14))⟩, ⟨(some 16), none, 0, (.pick (.t 8) (.k (.bool true)) (.t 15))⟩, ⟨(some 17), none, 0, (.mov (.t 16))⟩, ⟨(some 18), (some (17, false)), 0, (.faddr 2 (.t 1))⟩, ⟨(some 19), (some (17, false)), 0, (.load 2 true (.t 18))⟩, ⟨(some 20), (some (17, false)), 0, (.call false 0 0 59 [(.t 19)])⟩, ⟨(some 21), (some (17, false)), 0, (.not (.t 20))⟩, ⟨(some 22), none, 0, (.pick (.t 17) (.k (.bool true)) (.t 21))⟩, ⟨(some 23), none, 0, (.mov (.t 22))⟩, ⟨(some 24), (some (23, false)), 0, (.faddr 4 (.t 1))⟩, ⟨(some 25), (some (23, false)), 0, (.load 2 true (.t 24))⟩, ⟨(some 26), (some (23, false)), 0, (.faddr 2 (.t 1))⟩, ⟨(some 27), (some (23, false)), 0, (.load 2 true (.t 26))⟩, ⟨(some 28), (some (23, false)), 0, (.call false 0 0 132 [(.t 27)])⟩, ⟨(some 29), (some (23, false)), 0, (.call false 0 0 131 [(.t 25), (.t 28)])⟩, ⟨(some 30), (some (23, false)), 0, (.not (.t 29))⟩, ⟨(some 31), none, 0, (.pick (.t 23) (.k (.bool true)) (.t 30))⟩]
def R85_2 : List AR := [⟨(some 2), none, 0, (.mov (.k (.bool false)))⟩]
def R85_3 : List AR := [⟨(some 32), none, 0, (.faddr 6 (.t 1))⟩, ⟨(some 33), none, 0, (.load 3 true (.t 32))⟩, ⟨(some 34), none, 0, (.call false 0 0 93 [(.t 33)])⟩, ⟨(some 3), none, 0, (.mov (.t 34))⟩]
def R85_4 : List AR := [⟨(some 35), none, 0, (.faddr 6 (.t 1))⟩, ⟨(some 36), none, 0, (.load 3 true (.t 35))⟩, ⟨(some 37), none, 0, (.call false 0 0 133 [(.t 36)])⟩, ⟨(some 38), none, 0, (.not (.t 37))⟩, ⟨(some 39), none, 0, (.mov (.t 38))⟩, ⟨(some 40), (some (39, false)), 0, (.faddr 9 (.t 1))⟩, ⟨(some 41), (some (39, false)), 0, (.load 1 false (.t 40))⟩, ⟨(some 42), (some (39, false)), 0, (.faddr 1 (.t 1))⟩, ⟨(some 43), (some (39, false)), 0, (.load 1 false (.t 42))⟩, ⟨(some 44), (some (39, false)), 0, (.call false 0 0 134 [(.t 41), (.t 43)])⟩, ⟨(some 45), (some (39, false)), 0, (.not (.t 44))⟩, ⟨(some 46), none, 0, (.pick (.t 39) (.k (.bool true)) (.t 45))⟩, ⟨(some 47), none, 0, (.mov (.t 46))⟩, ⟨(some 48), (some (47, false)), 0, (.faddr 10 (.t 1))⟩, ⟨(some 49), (some (47, false)), 0, (.load 1 false (.t 48))⟩, ⟨(some 50), (some (47, false)), 0, (.faddr 1 (.t 1))⟩, ⟨(some 51), (some (47, false)), 0, (.load 1 false (.t 50))⟩, ⟨(some 52), (some (47, false)), 0, (.call false 0 0 134 [(.t 49), (.t 51)])⟩, ⟨(some 53), (some (47, false)), 0, (.not (.t 52))⟩, ⟨(some 54), none, 0, (.pick (.t 47) (.k (.bool true)) (.t 53))⟩, ⟨(some 55), none, 0, (.mov (.t 54))⟩, ⟨(some 56), (some (55, false)), 0, (.faddr 9 (.t 1))⟩, ⟨(some 57), (some (55, false)), 0, (.load 1 false (.t 56))⟩, ⟨(some 58), (some (55, false)), 0, (.faddr 0 (.t 1))⟩, ⟨(some 59), (some (55, false)), 0, (.load 1 false (.t 58))⟩, ⟨(some 60), (some (55, false)), 0, (.iaddr 1 (.t 57) (.t 59))⟩, ⟨(some 61), (some (55, false)), 0, (.load 1 false (.t 60))⟩, ⟨(some 62), (some (55, false)), 0, (.mov (.t 3))⟩, ⟨(some 63), (some (55, false)), 0, (.bin .neq (.t 61) (.t 62))⟩, ⟨(some 64), none, 0, (.pick (.t 55) (.k (.bool true)) (.t 63))⟩, ⟨(some 65), none, 0, (.mov (.t 64))⟩, ⟨(some 66), (some (65, false)), 0, (.faddr 10 (.t 1))⟩, ⟨(some 67), (some (65, false)), 0, (.load 1 false (.t 66))⟩, ⟨(some 68), (some (65, false)), 0, (.call false 0 0 135 [(.t 67)])⟩, ⟨(some 69), (some (65, false)), 0, (.mov (.t 3))⟩, ⟨(some 70), (some (65, false)), 0, (.bin .gtr (.t 68) (.t 69))⟩, ⟨(some 71), none, 0, (.pick (.t 65) (.k (.bool true)) (.t 70))⟩]
def R85_5 : List AR := [⟨(some 2), none, 0, (.mov (.k (.bool false)))⟩]
def R85_6 : List AR := [⟨(some 72), none, 0, (.faddr 11 (.t 1))⟩, ⟨(some 73), none, 0, (.load 1 false (.t 72))⟩, ⟨(some 74), none, 0, (.faddr 1 (.t 1))⟩, ⟨(some 75), none, 0, (.load 1 false (.t 74))⟩, ⟨(some 76), none, 0, (.call false 0 0 136 [(.t 73), (.t 75)])⟩, ⟨(some 77), none, 0, (.not (.t 76))⟩, ⟨(some 78), none, 0, (.mov (.t 77))⟩, ⟨(some 79), (some (78, false)), 0, (.faddr 12 (.t 1))⟩, ⟨(some 80), (some (78, false)), 0, (.load 1 false (.t 79))⟩, ⟨(some 81), (some (78, false)), 0, (.call false 0 0 105 [(.t 80), (.k (.int .i64 0)), (.k (.int .i64 100000))])⟩, ⟨(some 82), (some (78, false)), 0, (.not (.t 81))⟩, ⟨(some 83), none, 0, (.pick (.t 78) (.k (.bool true)) (.t 82))⟩, ⟨(some 84), none, 0, (.mov (.t 83))⟩, ⟨(some 85), (some (84, false)), 0, (.faddr 17 (.t 1))⟩, ⟨(some 86), (some (84, false)), 0, (.load 1 false (.t 85))⟩, ⟨(some 87), (some (84, false)), 0, (.call false 0 0 105 [(.t 86), (.k (.int .i64 0)), (.k (.int .i64 100000))])⟩, ⟨(some 88), (some (84, false)), 0, (.not (.t 87))⟩, ⟨(some 89), none, 0, (.pick (.t 84) (.k (.bool true)) (.t 88))⟩]
def R85_7 : List AR := [⟨(some 2), none, 0, (.mov (.k (.bool false)))⟩]
def R85_8 : List AR := [⟨(some 90), none, 0, (.faddr 15 (.t 1))⟩, ⟨(some 91), none, 0, (.load 1 false (.t 90))⟩, ⟨(some 92), none, 0, (.call false 0 0 105 [(.t 91), (.k (.int .i64 1)), (.k (.int .i64 20))])⟩, ⟨(some 93), none, 0, (.mov (.t 92))⟩, ⟨(some 94), (some (93, true)), 0, (.faddr 16 (.t 1))⟩, ⟨(some 95), (some (93, true)), 0, (.load 1 false (.t 94))⟩, ⟨(some 96), (some (93, true)), 0, (.call false 0 0 105 [(.t 95), (.k (.int .i64 1)), (.k (.int .i64 50))])⟩, ⟨(some 97), none, 0, (.pick (.t 93) (.t 96) (.k (.bool false)))⟩, ⟨(some 98), none, 0, (.mov (.t 97))⟩, ⟨(some 99), (some (98, true)), 0, (.load 19 true (.t 1))⟩, ⟨(some 100), (some (98, true)), 0, (.call false 0 0 137 [(.t 99)])⟩, ⟨(some 101), none, 0, (.pick (.t 98) (.t 100) (.k (.bool false)))⟩, ⟨(some 102), none, 0, (.mov (.t 101))⟩, ⟨(some 103), (some (102, true)), 0, (.load 19 true (.t 1))⟩, ⟨(some 104), (some (102, true)), 0, (.call false 0 0 138 [(.t 103)])⟩, ⟨(some 105), none, 0, (.pick (.t 102) (.t 104) (.k (.bool false)))⟩, ⟨(some 2), none, 0, (.mov (.t 105))⟩]
def A85_0 : AC := (.seq (.reg 0 R85_8) .ret)
def A85_1 : AC := (.seq (.seq (.reg 0 R85_6) (.cond (.t 89) (.seq (.reg 0 R85_7) .ret) .skip)) A85_0)
def A85_2 : AC := (.seq (.seq (.reg 0 R85_4) (.cond (.t 71) (.seq (.reg 0 R85_5) .ret) .skip)) A85_1)
def A85_3 : AC := (.seq (.reg 0 R85_3) A85_2)
def A85_4 : AC := (.seq (.seq (.draw 0 R85_1) (.cond (.t 31) (.seq (.reg 0 R85_2) .ret) .skip)) A85_3)
def A85 : AC := (.seq (.reg 1 R85_0) A85_4)
def O85 : List AO := [(.mov (.t 2))]
def G85 : Fns := ⟨fun f => false, fun f => 0, false⟩
noncomputable def X85 : Cx := ⟨Try.prog, G85, drawD, 106, [0, 1, 2, 3, 31, 71, 89]⟩
theorem c85 : (Try.f85.body).bind (compC X85.P X85.Γ X85.D X85.nt) = some A85 := by kernel_rfl
theorem o85 : compRes X85.P Try.f85.results.toList = some O85 := by kernel_rfl
theorem v85 : X85.vs = [0, 1, 2, 3, 31, 71, 89] := rfl
theorem p85 : X85.P = Try.prog := rfl
noncomputable instance (n : Node) : Decidable (tableR n.seen n.n ∧ (0 ≤ n.num ∧ n.num ≤ 100000) ∧ (0 ≤ n.clock ∧ n.clock ≤ 100000)) := Classical.propDecidable _
set_option maxHeartbeats 8000000 in
theorem implNodeOk_ok (n : Node) (h0 : n.sz ≤ 1048576) : FS Try.prog 85 [] [.agg n.c] (.bool (decide n.Right)) [] := by
  refine FS.of (X := X85) (ac := A85) (os := O85) Try.func85 (by rfl) (by rfl) (by kernel_rfl) o85 (Nat.le_of_ble_eq_true rfl) ?_
  show AWP X85 A85 (Ends X85.vs O85 0 _ _) [.agg n.c, .tup [], .tup [], .tup [], .tup [], .tup [], .tup []] []
  obtain ⟨Q, hQ⟩ : ∃ Q, Q = Ends X85.vs O85 0 (.bool (decide n.Right)) [] := ⟨_, rfl⟩
  rw [← hQ]
  have h := Node.small h0
  have fin : ∀ L σ vV, resVs O85 (look X85.vs L) σ = some [vV] → vV = (.bool (decide n.Right)) → Q .ret L σ := by
    intro L σ vV h1 h2
    rw [hQ]
    exact Ends.is (.inl rfl) h1 (by simp only [packV, h2]) rfl
  refine awp_sr ?_
  simp only [go_sem, R85_0, v85, p85, Node.c]
  refine (fun G : AWP X85 _ _ _ [.live ⟨19, [n.c]⟩] => G) ?_
  obtain ⟨K1, hK1⟩ : ∃ K : List V → Store → Prop, K = fun L σ => ∃ q y0 y2 y3 y71 y89, L = [y0, .ptr 0 19 0 0, y2, y3, .bool q, y71, y89] ∧ σ = [.live ⟨19, [n.c]⟩] ∧ q = !decide n.A := ⟨_, rfl⟩
  refine awp_sd2K (K1) mixed rfl (by rfl) ?_ ?_
  · simp only [go_sem, R85_1, v85, p85, Node.c]
    refine run_see (within_ok _ _ _) false (Views.refl rfl) rfl (fun j hj => by first | omega | ((have hj0 : j = 0 := by omega); subst hj0; first | rfl | (simp only [Nat.add_zero, app_get, app_getk, sapp_get, sapp_getk, Nat.add_assoc, Nat.reduceAdd, List.getElem?_cons_zero, List.getElem?_cons_succ]; done) | simp)) (fun h => by cases h) ?_
    simp only [go_sem, v85, p85]
    by_cases b1 : 1 ≤ n.n ∧ n.n ≤ 5
    · simp only [go_sem, v85, p85, eq_true b1, Node.c, wrap_i64 (n := n.n - 1) (by omega) (by omega)]
      refine run_see (within_ok _ _ _) false (Views.refl rfl) rfl (fun j hj => by first | omega | ((have hj0 : j = 0 := by omega); subst hj0; first | rfl | (simp only [Nat.add_zero, app_get, app_getk, sapp_get, sapp_getk, Nat.add_assoc, Nat.reduceAdd, List.getElem?_cons_zero, List.getElem?_cons_succ]; done) | simp)) (fun h => by cases h) ?_
      simp only [go_sem, v85, p85]
      by_cases b2 : 0 ≤ n.id ∧ n.id ≤ n.n - 1
      · simp only [go_sem, v85, p85, eq_true b2, Node.c]
        refine run_see (implStateOk_ok n.state h.st) false (Views.refl rfl) rfl (fun j hj => by first | omega | ((have hj0 : j = 0 := by omega); subst hj0; first | rfl | (simp only [Nat.add_zero, app_get, app_getk, sapp_get, sapp_getk, Nat.add_assoc, Nat.reduceAdd, List.getElem?_cons_zero, List.getElem?_cons_succ]; done) | simp)) (fun h => by cases h) ?_
        simp only [go_sem, v85, p85]
        by_cases b3 : n.state.Right
        · simp only [go_sem, v85, p85, eq_true b3, Node.c]
          refine run_see (implTreeOf_ok n.state h.st) false (Views.refl rfl) rfl (fun j hj => by first | omega | ((have hj0 : j = 0 := by omega); subst hj0; first | rfl | (simp only [Nat.add_zero, app_get, app_getk, sapp_get, sapp_getk, Nat.add_assoc, Nat.reduceAdd, List.getElem?_cons_zero, List.getElem?_cons_succ]; done) | simp)) (fun h => by cases h) ?_
          simp only [go_sem, v85, p85]
          refine run_see (implTreeSame_ok n.tree (treeOf n.state) h.tr) false (Views.refl rfl) rfl (fun j hj => by first | omega | ((have hj0 : j = 0 := by omega); subst hj0; first | rfl | (simp only [Nat.add_zero, app_get, app_getk, sapp_get, sapp_getk, Nat.add_assoc, Nat.reduceAdd, List.getElem?_cons_zero, List.getElem?_cons_succ]; done) | simp)) (fun h => by cases h) ?_
          simp only [go_sem, v85, p85]
          rw [hK1]
          refine ⟨_, _, _, _, _, _, rfl, rfl, ?_⟩
          grind [Node.A]
        · simp only [go_sem, v85, p85, eq_false b3, Node.c]
          rw [hK1]
          refine ⟨_, _, _, _, _, _, rfl, rfl, ?_⟩
          grind [Node.A]
      · simp only [go_sem, v85, p85, eq_false b2, Node.c]
        rw [hK1]
        refine ⟨_, _, _, _, _, _, rfl, rfl, ?_⟩
        grind [Node.A]
    · simp only [go_sem, v85, p85, eq_false b1, Node.c]
      rw [hK1]
      refine ⟨_, _, _, _, _, _, rfl, rfl, ?_⟩
      grind [Node.A]
  intro L σ hq
  rw [hK1] at hq
  obtain ⟨q, y0, y2, y3, y71, y89, rfl, rfl, hq⟩ := hq
  subst hq
  refine awp_if' rfl ?_ ?_
  · intro h1
    refine awp_sr ?_
    simp only [go_sem, R85_2, v85, p85]
    refine awp_ret ?_
    try simp only [go_sem]
    exact fin _ _ (.bool false) rfl (congrArg V.bool (decide_eq_false fun e => h1 e.a)).symm
  intro h1
  obtain ⟨a1, a2, a3, a4⟩ := id h1
  refine awp_skip ?_
  simp only [go_sem]
  refine awp_sr ?_
  simp only [go_sem, R85_3, v85, p85, Node.c]
  refine run_see (implLogSeq_ok n.log h.lg) false (Views.refl rfl) rfl (fun j hj => by first | omega | ((have hj0 : j = 0 := by omega); subst hj0; first | rfl | (simp only [Nat.add_zero, app_get, app_getk, sapp_get, sapp_getk, Nat.add_assoc, Nat.reduceAdd, List.getElem?_cons_zero, List.getElem?_cons_succ]; done) | simp)) (fun h => by cases h) ?_
  simp only [go_sem, v85, p85]
  obtain ⟨K2, hK2⟩ : ∃ K : List V → Store → Prop, K = fun L σ => ∃ q y0 y2 y3 y31 y89, L = [y0, .ptr 0 19 0 0, y2, y3, y31, .bool q, y89] ∧ σ = [.live ⟨19, [n.c]⟩] ∧ q = !decide (n.log.Right ∧ n.B ∧ n.C) := ⟨_, rfl⟩
  refine awp_sr2K (K2) ?_ ?_
  · simp only [go_sem, R85_4, v85, p85, Node.c]
    refine run_see (implLogOk_ok n.log h.lg) false (Views.refl rfl) rfl (fun j hj => by first | omega | ((have hj0 : j = 0 := by omega); subst hj0; first | rfl | (simp only [Nat.add_zero, app_get, app_getk, sapp_get, sapp_getk, Nat.add_assoc, Nat.reduceAdd, List.getElem?_cons_zero, List.getElem?_cons_succ]; done) | simp)) (fun h => by cases h) ?_
    simp only [go_sem, v85, p85]
    by_cases b0 : n.log.Right
    · simp only [go_sem, v85, p85, eq_true b0, Node.c]
      refine run_see (implVecOk_ok n.got n.n h.gt) false (Views.refl rfl) rfl (fun j hj => by first | omega | ((have hj0 : j = 0 := by omega); subst hj0; first | rfl | (simp only [Nat.add_zero, app_get, app_getk, sapp_get, sapp_getk, Nat.add_assoc, Nat.reduceAdd, List.getElem?_cons_zero, List.getElem?_cons_succ]; done) | simp)) (fun h => by cases h) ?_
      simp only [go_sem, v85, p85]
      by_cases b1 : vecR n.got n.n
      · have hid : n.id.toNat < n.got.length := by have := b1.2.1; omega
        have hg := getD_at hid
        have hid0 : 0 ≤ n.id := a2.1
        simp only [go_sem, v85, p85, eq_true b1, Node.c]
        refine run_see (implVecOk_ok n.acked n.n h.ak) false (Views.refl rfl) rfl (fun j hj => by first | omega | ((have hj0 : j = 0 := by omega); subst hj0; first | rfl | (simp only [Nat.add_zero, app_get, app_getk, sapp_get, sapp_getk, Nat.add_assoc, Nat.reduceAdd, List.getElem?_cons_zero, List.getElem?_cons_succ]; done) | simp)) (fun h => by cases h) ?_
        simp only [go_sem, v85, p85]
        by_cases b2 : vecR n.acked n.n
        · have hpos : 0 < n.acked.length := by have := b2.2.1; omega
          have hmx := maxI_le hpos (logSeq n.log)
          have hcc : n.C ↔ ∀ x ∈ n.acked, x ≤ logSeq n.log := by
            unfold Node.C
            constructor
            · intro e x hx
              obtain ⟨j, hj⟩ := List.mem_iff_getElem?.1 hx
              exact e j x hj
            · intro e j x hj
              exact e x (List.mem_of_getElem? hj)
          simp only [go_sem, v85, p85, eq_true b2, Node.c, rw_at _ hid, intC, eq_true hid0]
          by_cases b3 : n.got[n.id.toNat] = logSeq n.log
          · simp only [go_sem, v85, p85, eq_true b3, Node.c, ne_eq]
            refine run_see (slicesMax_ok n.acked h.ak hpos) false (Views.refl rfl) rfl (fun j hj => by first | omega | ((have hj0 : j = 0 := by omega); subst hj0; first | rfl | (simp only [Nat.add_zero, app_get, app_getk, sapp_get, sapp_getk, Nat.add_assoc, Nat.reduceAdd, List.getElem?_cons_zero, List.getElem?_cons_succ]; done) | simp)) (fun h => by cases h) ?_
            simp only [go_sem, v85, p85]
            rw [hK2]
            refine ⟨_, _, _, _, _, _, rfl, rfl, ?_⟩
            grind [Node.B]
          · simp only [go_sem, v85, p85, eq_false b3, Node.c, ne_eq]
            rw [hK2]
            refine ⟨_, _, _, _, _, _, rfl, rfl, ?_⟩
            grind [Node.B]
        · simp only [go_sem, v85, p85, eq_false b2, Node.c]
          rw [hK2]
          refine ⟨_, _, _, _, _, _, rfl, rfl, ?_⟩
          grind [Node.B]
      · simp only [go_sem, v85, p85, eq_false b1, Node.c]
        rw [hK2]
        refine ⟨_, _, _, _, _, _, rfl, rfl, ?_⟩
        grind [Node.B]
    · simp only [go_sem, v85, p85, eq_false b0, Node.c]
      rw [hK2]
      refine ⟨_, _, _, _, _, _, rfl, rfl, ?_⟩
      grind [Node.B]
  intro L σ hq
  rw [hK2] at hq
  obtain ⟨q, y0, y2, y3, y31, y89, rfl, rfl, hq⟩ := hq
  subst hq
  refine awp_if' rfl ?_ ?_
  · intro h2
    refine awp_sr ?_
    simp only [go_sem, R85_5, v85, p85]
    refine awp_ret ?_
    try simp only [go_sem]
    exact fin _ _ (.bool false) rfl (congrArg V.bool (decide_eq_false fun e => h2 ⟨e.l, e.b, e.c⟩)).symm
  intro h2
  refine awp_skip ?_
  simp only [go_sem]
  obtain ⟨K3, hK3⟩ : ∃ K : List V → Store → Prop, K = fun L σ => ∃ q y0 y2 y3 y31 y71, L = [y0, .ptr 0 19 0 0, y2, y3, y31, y71, .bool q] ∧ σ = [.live ⟨19, [n.c]⟩] ∧ q = !decide (tableR n.seen n.n ∧ (0 ≤ n.num ∧ n.num ≤ 100000) ∧ (0 ≤ n.clock ∧ n.clock ≤ 100000)) := ⟨_, rfl⟩
  refine awp_sr2K (K3) ?_ ?_
  · simp only [go_sem, R85_6, v85, p85, Node.c]
    repeat' first
      | (refine selP_if rfl (fun hG => ?_) (fun hG => ?_) <;> first | simp only [go_sem, v85, p85, eq_false hG, Node.c] | simp only [go_sem, v85, p85, eq_true hG, Node.c])
      | (refine selP_ifn rfl (fun hG => ?_) (fun hG => ?_) <;> first | simp only [go_sem, v85, p85, eq_false hG, Node.c] | simp only [go_sem, v85, p85, eq_true hG, Node.c])
      | (refine selN_if rfl (fun hG => ?_) (fun hG => ?_) <;> first | simp only [go_sem, v85, p85, eq_false hG, Node.c] | simp only [go_sem, v85, p85, eq_true hG, Node.c])
      | (refine selN_ifn rfl (fun hG => ?_) (fun hG => ?_) <;> first | simp only [go_sem, v85, p85, eq_false hG, Node.c] | simp only [go_sem, v85, p85, eq_true hG, Node.c])
      | (refine selB_if rfl (fun hG => ?_) (fun hG => ?_) <;> simp only [go_sem, v85, p85, hG, Node.c])
      | (refine selB_ifn rfl (fun hG => ?_) (fun hG => ?_) <;> simp only [go_sem, v85, p85, hG, Node.c])
      | (refine run_see (implTableOk_ok n.seen n.n h.sn) false (Views.refl rfl) rfl (fun j hj => by omega) (fun h => by cases h) ?_; simp only [go_sem, v85, p85, Node.c])
      | (refine run_see (within_ok _ _ _) false (Views.refl rfl) rfl (fun j hj => by omega) (fun h => by cases h) ?_; simp only [go_sem, v85, p85, Node.c])
    all_goals rw [hK3]
    all_goals refine ⟨_, _, _, _, _, _, rfl, rfl, ?_⟩
    all_goals grind
  intro L σ hq
  rw [hK3] at hq
  obtain ⟨q, y0, y2, y3, y31, y71, rfl, rfl, hq⟩ := hq
  subst hq
  refine awp_if' rfl ?_ ?_
  · intro h3
    refine awp_sr ?_
    simp only [go_sem, R85_7, v85, p85]
    refine awp_ret ?_
    try simp only [go_sem]
    exact fin _ _ (.bool false) rfl (congrArg V.bool (decide_eq_false fun e => h3 ⟨e.t, e.d.1, e.d.2.1⟩)).symm
  intro h3
  have key : n.Right ↔ (1 ≤ n.wait ∧ n.wait ≤ 20) ∧ (1 ≤ n.limit ∧ n.limit ≤ 50) ∧ ((1 ≤ n.slots ∧ n.slots ≤ 4) ∧ sessR n) ∧ risesR n :=
    ⟨fun e => ⟨e.d.2.2.2.1, e.d.2.2.2.2, ⟨e.d.2.2.1, e.s⟩, e.r⟩, fun e => ⟨h1, h2.1, h2.2.1, h3.1, h2.2.2, ⟨h3.2.1, h3.2.2, e.2.2.1.1, e.1, e.2.1⟩, e.2.2.2, e.2.2.1.2⟩⟩
  refine awp_skip ?_
  simp only [go_sem]
  obtain ⟨K4, hK4⟩ : ∃ K : List V → Store → Prop, K = fun L σ => ∃ q y0 y1 y3 y31 y71 y89, L = [y0, y1, .bool q, y3, y31, y71, y89] ∧ σ = [.live ⟨19, [n.c]⟩] ∧ q = decide n.Right := ⟨_, rfl⟩
  refine awp_srK (K4) ?_ ?_
  · simp only [go_sem, R85_8, v85, p85, Node.c]
    repeat' first
      | (refine selP_if rfl (fun hG => ?_) (fun hG => ?_) <;> first | simp only [go_sem, v85, p85, eq_false hG, Node.c] | simp only [go_sem, v85, p85, eq_true hG, Node.c])
      | (refine selP_ifn rfl (fun hG => ?_) (fun hG => ?_) <;> first | simp only [go_sem, v85, p85, eq_false hG, Node.c] | simp only [go_sem, v85, p85, eq_true hG, Node.c])
      | (refine selN_if rfl (fun hG => ?_) (fun hG => ?_) <;> first | simp only [go_sem, v85, p85, eq_false hG, Node.c] | simp only [go_sem, v85, p85, eq_true hG, Node.c])
      | (refine selN_ifn rfl (fun hG => ?_) (fun hG => ?_) <;> first | simp only [go_sem, v85, p85, eq_false hG, Node.c] | simp only [go_sem, v85, p85, eq_true hG, Node.c])
      | (refine selB_if rfl (fun hG => ?_) (fun hG => ?_) <;> simp only [go_sem, v85, p85, hG, Node.c])
      | (refine selB_ifn rfl (fun hG => ?_) (fun hG => ?_) <;> simp only [go_sem, v85, p85, hG, Node.c])
      | (refine run_see (within_ok _ _ _) false (Views.refl rfl) rfl (fun j hj => by omega) (fun h => by cases h) ?_; simp only [go_sem, v85, p85, Node.c])
      | (refine run_see (implSessOk_ok n h.ss a1) false (Views.refl rfl) rfl (fun j hj => by omega) (fun h => by cases h) ?_; simp only [go_sem, v85, p85, Node.c])
      | (refine run_see (risesOk_ok n h.rs) false (Views.refl rfl) rfl (fun j hj => by omega) (fun h => by cases h) ?_; simp only [go_sem, v85, p85, Node.c])
    all_goals rw [hK4]
    all_goals refine ⟨_, _, _, _, _, _, _, rfl, rfl, ?_⟩
    all_goals grind
  intro L σ hq
  rw [hK4] at hq
  obtain ⟨q, y0, y1, y3, y31, y71, y89, rfl, rfl, hq⟩ := hq
  subst hq
  refine awp_ret ?_
  try simp only [go_sem]
  exact fin _ _ _ rfl rfl
end Go.Proofs.Ytffigokicddekaa.Abs
/- A log's size, and how far a log is safe; walked in both texts; the laws. No condition. -/
set_option linter.unusedVariables false
set_option linter.unusedSimpArgs false
set_option maxRecDepth 10000
namespace Go.Proofs.Ytffigokicddekaa.Abs
open Go Go.Proofs
def R40_0 : List AR := [⟨(some 1), none, 0, (.box 0 19 (.t 0))⟩, ⟨(some 2), none, 0, (.mov (.k (.int .i64 0)))⟩]
def R40_1 : List AR := [⟨(some 3), none, 0, (.mov (.k (.int .i64 0)))⟩]
def R40_2 : List AR := [⟨(some 5), none, 0, (.load 19 true (.t 1))⟩, ⟨(some 6), none, 0, (.call false 0 0 79 [(.t 5)])⟩, ⟨(some 7), none, 0, (.not (.t 6))⟩]
def R40_3 : List AR := [⟨(some 8), none, 0, (.mov (.t 3))⟩, ⟨(some 2), none, 0, (.mov (.t 8))⟩]
def R40_4 : List AR := [⟨(some 4), none, 0, (.mov (.k (.int .i64 0)))⟩]
def R40_5 : List AR := [⟨(some 9), none, 0, (.mov (.t 4))⟩, ⟨(some 10), none, 0, (.faddr 6 (.t 1))⟩, ⟨(some 11), none, 0, (.faddr 2 (.t 10))⟩, ⟨(some 12), none, 0, (.load 1 false (.t 11))⟩, ⟨(some 13), none, 0, (.len (.t 12))⟩, ⟨(some 14), none, 0, (.bin .lss (.t 9) (.t 13))⟩]
def R40_6 : List AR := [⟨(some 17), none, 0, (.mov (.t 3))⟩, ⟨(some 18), none, 0, (.faddr 6 (.t 1))⟩, ⟨(some 19), none, 0, (.faddr 2 (.t 18))⟩, ⟨(some 20), none, 0, (.load 1 false (.t 19))⟩, ⟨(some 21), none, 0, (.mov (.t 4))⟩, ⟨(some 22), none, 0, (.iaddr 2 (.t 20) (.t 21))⟩, ⟨(some 23), none, 0, (.load 2 true (.t 22))⟩, ⟨(some 24), none, 0, (.call false 0 0 80 [(.t 23)])⟩, ⟨(some 25), none, 0, (.len (.t 24))⟩, ⟨(some 26), none, 0, (.bin .add (.t 17) (.t 25))⟩, ⟨(some 3), none, 0, (.mov (.t 26))⟩]
def R40_7 : List AR := [⟨(some 15), none, 0, (.mov (.t 4))⟩, ⟨(some 16), none, 0, (.bin .add (.t 15) (.k (.int .i64 1)))⟩, ⟨(some 4), none, 0, (.mov (.t 16))⟩]
def A40_0 : AC := (.seq (.block 1 (.reg 0 R40_6)) (.reg 0 R40_7))
def L40_0 : AC := (.seq (.seq (.reg 0 R40_5) (.cond (.t 14) .skip (.exit 0))) A40_0)
def R40_8 : List AR := [⟨(some 27), none, 0, (.mov (.t 3))⟩, ⟨(some 2), none, 0, (.mov (.t 27))⟩]
def A40_1 : AC := (.seq (.reg 0 R40_8) .ret)
def A40_2 : AC := (.seq (.seq (.reg 0 R40_4) (.block 0 (.loop L40_0))) A40_1)
def A40_3 : AC := (.seq (.seq (.reg 0 R40_2) (.cond (.t 7) (.seq (.reg 0 R40_3) .ret) .skip)) A40_2)
def A40_4 : AC := (.seq (.reg 0 R40_1) A40_3)
def A40 : AC := (.seq (.reg 1 R40_0) A40_4)
def O40 : List AO := [(.mov (.t 2))]
def G40 : Fns := ⟨fun f => false, fun f => 0, false⟩
noncomputable def X40 : Cx := ⟨Try.prog, G40, drawD, 28, [0, 1, 2, 3, 4, 7, 14]⟩
theorem c40 : (Try.f40.body).bind (compC X40.P X40.Γ X40.D X40.nt) = some A40 := by kernel_rfl
theorem o40 : compRes X40.P Try.f40.results.toList = some O40 := by kernel_rfl
theorem v40 : X40.vs = [0, 1, 2, 3, 4, 7, 14] := rfl
theorem p40 : X40.P = Try.prog := rfl
def R42_0 : List AR := [⟨(some 1), none, 0, (.box 0 19 (.t 0))⟩, ⟨(some 2), none, 0, (.mov (.k (.int .i64 0)))⟩]
def R42_1 : List AR := [⟨(some 3), none, 0, (.mov (.k (.int .i64 0)))⟩]
def R42_2 : List AR := [⟨(some 6), none, 0, (.load 19 true (.t 1))⟩, ⟨(some 7), none, 0, (.call false 0 0 85 [(.t 6)])⟩, ⟨(some 8), none, 0, (.not (.t 7))⟩]
def R42_3 : List AR := [⟨(some 9), none, 0, (.mov (.t 3))⟩, ⟨(some 2), none, 0, (.mov (.t 9))⟩]
def R42_4 : List AR := [⟨(some 10), none, 0, (.faddr 6 (.t 1))⟩, ⟨(some 11), none, 0, (.faddr 2 (.t 10))⟩, ⟨(some 12), none, 0, (.load 1 false (.t 11))⟩, ⟨(some 13), none, 0, (.len (.t 12))⟩, ⟨(some 14), none, 0, (.mov (.k (.int .i64 0)))⟩]
def R42_5 : List AR := [⟨(some 15), none, 0, (.bin .lss (.t 14) (.t 13))⟩]
def R42_6 : List AR := [⟨(some 16), none, 0, (.iaddr 2 (.t 12) (.t 14))⟩, ⟨(some 17), none, 0, (.load 2 true (.t 16))⟩, ⟨(some 5), none, 0, (.alloc 0 2 [.nl, .nl])⟩, ⟨none, none, 0, (.store 2 (.t 5) (.t 17))⟩]
def R42_7 : List AR := [⟨(some 18), none, 0, (.mov (.t 3))⟩, ⟨(some 19), none, 0, (.load 2 true (.t 5))⟩, ⟨(some 20), none, 0, (.call false 0 0 86 [(.t 19)])⟩, ⟨(some 21), none, 0, (.len (.t 20))⟩, ⟨(some 22), none, 0, (.bin .add (.t 18) (.t 21))⟩, ⟨(some 3), none, 0, (.mov (.t 22))⟩]
def R42_8 : List AR := [⟨(some 23), none, 0, (.bin .add (.t 14) (.k (.int .i64 1)))⟩, ⟨(some 14), none, 0, (.mov (.t 23))⟩]
def A42_0 : AC := (.seq (.block 1 (.seq (.reg 1 R42_6) (.reg 0 R42_7))) (.reg 0 R42_8))
def A42_1 : AC := (.seq (.cond (.t 15) .skip (.exit 0)) A42_0)
def L42_0 : AC := (.seq (.reg 0 R42_5) A42_1)
def R42_9 : List AR := [⟨(some 24), none, 0, (.mov (.t 3))⟩, ⟨(some 2), none, 0, (.mov (.t 24))⟩]
def A42_2 : AC := (.seq (.reg 0 R42_9) .ret)
def A42_3 : AC := (.seq (.seq (.reg 0 R42_4) (.block 0 (.loop L42_0))) A42_2)
def A42_4 : AC := (.seq (.seq (.reg 0 R42_2) (.cond (.t 8) (.seq (.reg 0 R42_3) .ret) .skip)) A42_3)
def A42_5 : AC := (.seq (.reg 0 R42_1) A42_4)
def A42 : AC := (.seq (.reg 1 R42_0) A42_5)
def O42 : List AO := [(.mov (.t 2))]
def G42 : Fns := ⟨fun f => false, fun f => 0, false⟩
noncomputable def X42 : Cx := ⟨Try.prog, G42, drawD, 25, [0, 1, 2, 3, 5, 8, 12, 13, 14, 15]⟩
theorem c42 : (Try.f42.body).bind (compC X42.P X42.Γ X42.D X42.nt) = some A42 := by kernel_rfl
theorem o42 : compRes X42.P Try.f42.results.toList = some O42 := by kernel_rfl
theorem v42 : X42.vs = [0, 1, 2, 3, 5, 8, 12, 13, 14, 15] := rfl
theorem p42 : X42.P = Try.prog := rfl
def R92_0 : List AR := [⟨(some 4), none, 0, (.mov (.k (.int .i64 0)))⟩]
def R92_1 : List AR := [⟨(some 5), none, 0, (.mov (.t 0))⟩, ⟨(some 6), none, 0, (.mov (.t 1))⟩, ⟨(some 7), none, 0, (.bin .lss (.t 5) (.t 6))⟩]
def R92_2 : List AR := [⟨(some 8), none, 0, (.mov (.t 0))⟩, ⟨(some 4), none, 0, (.mov (.t 8))⟩]
def R92_3 : List AR := [⟨(some 9), none, 0, (.mov (.t 1))⟩, ⟨(some 4), none, 0, (.mov (.t 9))⟩]
def A92_0 : AC := (.seq (.reg 0 R92_3) .ret)
def A92_1 : AC := (.seq (.seq (.reg 0 R92_1) (.cond (.t 7) (.seq (.reg 0 R92_2) .ret) .skip)) A92_0)
def A92 : AC := (.seq (.reg 0 R92_0) A92_1)
def O92 : List AO := [(.mov (.t 4))]
def G92 : Fns := ⟨fun f => false, fun f => 0, false⟩
noncomputable def X92 : Cx := ⟨Try.prog, G92, drawD, 10, [0, 1, 4, 7]⟩
theorem c92 : (Try.f92.body).bind (compC X92.P X92.Γ X92.D X92.nt) = some A92 := by kernel_rfl
theorem o92 : compRes X92.P Try.f92.results.toList = some O92 := by kernel_rfl
theorem v92 : X92.vs = [0, 1, 4, 7] := rfl
theorem p92 : X92.P = Try.prog := rfl
def R44_0 : List AR := [⟨(some 1), none, 0, (.box 0 19 (.t 0))⟩, ⟨(some 2), none, 0, (.mov (.k (.int .i64 0)))⟩]
def R44_1 : List AR := [⟨(some 5), none, 0, (.load 19 true (.t 1))⟩, ⟨(some 6), none, 0, (.call false 0 0 79 [(.t 5)])⟩, ⟨(some 7), none, 0, (.not (.t 6))⟩]
def R44_2 : List AR := [⟨(some 2), none, 0, (.mov (.k (.int .i64 0)))⟩]
def R44_3 : List AR := [⟨(some 8), none, 0, (.faddr 6 (.t 1))⟩, ⟨(some 9), none, 0, (.load 3 true (.t 8))⟩, ⟨(some 10), none, 0, (.call false 0 0 91 [(.t 9)])⟩, ⟨(some 3), none, 0, (.mov (.t 10))⟩]
def R44_4 : List AR := [⟨(some 4), none, 0, (.mov (.k (.int .i64 0)))⟩]
def R44_5 : List AR := [⟨(some 11), none, 0, (.mov (.t 4))⟩, ⟨(some 12), none, 0, (.faddr 1 (.t 1))⟩, ⟨(some 13), none, 0, (.load 1 false (.t 12))⟩, ⟨(some 14), none, 0, (.bin .lss (.t 11) (.t 13))⟩]
def R44_6 : List AR := [⟨(some 17), none, 0, (.mov (.t 4))⟩, ⟨(some 18), none, 0, (.faddr 0 (.t 1))⟩, ⟨(some 19), none, 0, (.load 1 false (.t 18))⟩, ⟨(some 20), none, 0, (.bin .neq (.t 17) (.t 19))⟩]
def R44_7 : List AR := [⟨(some 21), none, 0, (.mov (.t 3))⟩, ⟨(some 22), none, 0, (.faddr 10 (.t 1))⟩, ⟨(some 23), none, 0, (.load 1 false (.t 22))⟩, ⟨(some 24), none, 0, (.mov (.t 4))⟩, ⟨(some 25), none, 0, (.iaddr 1 (.t 23) (.t 24))⟩, ⟨(some 26), none, 0, (.load 1 false (.t 25))⟩, ⟨(some 27), none, 0, (.call false 0 0 92 [(.t 21), (.t 26)])⟩, ⟨(some 3), none, 0, (.mov (.t 27))⟩]
def R44_8 : List AR := [⟨(some 15), none, 0, (.mov (.t 4))⟩, ⟨(some 16), none, 0, (.bin .add (.t 15) (.k (.int .i64 1)))⟩, ⟨(some 4), none, 0, (.mov (.t 16))⟩]
def A44_0 : AC := (.seq (.block 1 (.seq (.reg 0 R44_6) (.cond (.t 20) (.reg 0 R44_7) .skip))) (.reg 0 R44_8))
def L44_0 : AC := (.seq (.seq (.reg 0 R44_5) (.cond (.t 14) .skip (.exit 0))) A44_0)
def R44_9 : List AR := [⟨(some 28), none, 0, (.mov (.t 3))⟩, ⟨(some 2), none, 0, (.mov (.t 28))⟩]
def A44_1 : AC := (.seq (.reg 0 R44_9) .ret)
def A44_2 : AC := (.seq (.seq (.reg 0 R44_4) (.block 0 (.loop L44_0))) A44_1)
def A44_3 : AC := (.seq (.reg 0 R44_3) A44_2)
def A44_4 : AC := (.seq (.seq (.reg 0 R44_1) (.cond (.t 7) (.seq (.reg 0 R44_2) .ret) .skip)) A44_3)
def A44 : AC := (.seq (.reg 1 R44_0) A44_4)
def O44 : List AO := [(.mov (.t 2))]
def G44 : Fns := ⟨fun f => false, fun f => 0, false⟩
noncomputable def X44 : Cx := ⟨Try.prog, G44, drawD, 29, [0, 1, 2, 3, 4, 7, 14, 20]⟩
theorem c44 : (Try.f44.body).bind (compC X44.P X44.Γ X44.D X44.nt) = some A44 := by kernel_rfl
theorem o44 : compRes X44.P Try.f44.results.toList = some O44 := by kernel_rfl
theorem v44 : X44.vs = [0, 1, 2, 3, 4, 7, 14, 20] := rfl
theorem p44 : X44.P = Try.prog := rfl
def R45_0 : List AR := [⟨(some 1), none, 0, (.box 0 19 (.t 0))⟩, ⟨(some 2), none, 0, (.mov (.k (.int .i64 0)))⟩]
def R45_1 : List AR := [⟨(some 6), none, 0, (.load 19 true (.t 1))⟩, ⟨(some 7), none, 0, (.call false 0 0 85 [(.t 6)])⟩, ⟨(some 8), none, 0, (.not (.t 7))⟩]
def R45_2 : List AR := [⟨(some 2), none, 0, (.mov (.k (.int .i64 0)))⟩]
def R45_3 : List AR := [⟨(some 9), none, 0, (.faddr 6 (.t 1))⟩, ⟨(some 10), none, 0, (.load 3 true (.t 9))⟩, ⟨(some 11), none, 0, (.call false 0 0 93 [(.t 10)])⟩, ⟨(some 3), none, 0, (.mov (.t 11))⟩]
def R45_4 : List AR := [⟨(some 12), none, 0, (.faddr 10 (.t 1))⟩, ⟨(some 13), none, 0, (.load 1 false (.t 12))⟩, ⟨(some 14), none, 0, (.len (.t 13))⟩, ⟨(some 15), none, 0, (.mov (.k (.int .i64 0)))⟩]
def R45_5 : List AR := [⟨(some 16), none, 0, (.bin .lss (.t 15) (.t 14))⟩]
def R45_6 : List AR := [⟨(some 17), none, 0, (.mov (.t 15))⟩, ⟨(some 18), none, 0, (.iaddr 1 (.t 13) (.t 15))⟩, ⟨(some 19), none, 0, (.load 1 false (.t 18))⟩, ⟨(some 4), none, 0, (.mov (.t 17))⟩, ⟨(some 5), none, 0, (.mov (.t 19))⟩]
def R45_7 : List AR := [⟨(some 20), none, 0, (.mov (.t 4))⟩, ⟨(some 21), none, 0, (.faddr 0 (.t 1))⟩, ⟨(some 22), none, 0, (.load 1 false (.t 21))⟩, ⟨(some 23), none, 0, (.bin .neq (.t 20) (.t 22))⟩]
def R45_8 : List AR := [⟨(some 24), none, 0, (.mov (.t 3))⟩, ⟨(some 25), none, 0, (.mov (.t 5))⟩, ⟨(some 26), none, 0, (.min [(.t 24), (.t 25)])⟩, ⟨(some 3), none, 0, (.mov (.t 26))⟩]
def A45_0 : AC := (.seq (.reg 0 R45_7) (.cond (.t 23) (.reg 0 R45_8) .skip))
def R45_9 : List AR := [⟨(some 27), none, 0, (.bin .add (.t 15) (.k (.int .i64 1)))⟩, ⟨(some 15), none, 0, (.mov (.t 27))⟩]
def A45_1 : AC := (.seq (.block 1 (.seq (.reg 0 R45_6) A45_0)) (.reg 0 R45_9))
def A45_2 : AC := (.seq (.cond (.t 16) .skip (.exit 0)) A45_1)
def L45_0 : AC := (.seq (.reg 0 R45_5) A45_2)
def R45_10 : List AR := [⟨(some 28), none, 0, (.mov (.t 3))⟩, ⟨(some 2), none, 0, (.mov (.t 28))⟩]
def A45_3 : AC := (.seq (.reg 0 R45_10) .ret)
def A45_4 : AC := (.seq (.seq (.reg 0 R45_4) (.block 0 (.loop L45_0))) A45_3)
def A45_5 : AC := (.seq (.reg 0 R45_3) A45_4)
def A45_6 : AC := (.seq (.seq (.reg 0 R45_1) (.cond (.t 8) (.seq (.reg 0 R45_2) .ret) .skip)) A45_5)
def A45 : AC := (.seq (.reg 1 R45_0) A45_6)
def O45 : List AO := [(.mov (.t 2))]
def G45 : Fns := ⟨fun f => false, fun f => 0, false⟩
noncomputable def X45 : Cx := ⟨Try.prog, G45, drawD, 29, [0, 1, 2, 3, 4, 5, 8, 13, 14, 15, 16, 23]⟩
theorem c45 : (Try.f45.body).bind (compC X45.P X45.Γ X45.D X45.nt) = some A45 := by kernel_rfl
theorem o45 : compRes X45.P Try.f45.results.toList = some O45 := by kernel_rfl
theorem v45 : X45.vs = [0, 1, 2, 3, 4, 5, 8, 13, 14, 15, 16, 23] := rfl
theorem p45 : X45.P = Try.prog := rfl
noncomputable def addB (k : Nat) (s : State) : Nat := k + (sBytes s).length
noncomputable def logSize (n : Node) : Nat := if n.Right then n.log.list.foldl addB 0 else 0
theorem sBytes_len {s : State} (h : s.sz ≤ 1048576) : (sBytes s).length ≤ 100000000 := by
  unfold sBytes
  split
  · rename_i hr; exact stateB_len1 (hr.fit h)
  · simp
theorem addB_len : ∀ {ss : List State} {k : Nat}, (∀ s ∈ ss, s.sz ≤ 1048576) → ss.foldl addB k ≤ k + ss.length * 100000000
  | [], k, _ => by simp
  | s :: ss, k, h => by
    have h1 := sBytes_len (h s (by simp))
    have h2 := addB_len (ss := ss) (k := addB k s) fun x hx => h x (by simp [hx])
    simp only [List.foldl_cons, List.length_cons]
    unfold addB at h2 ⊢
    omega
theorem log_all {l : Log} (h : l.sz ≤ 1048576) : ∀ s ∈ l.list, s.sz ≤ 1048576 := by
  intro s hs
  obtain ⟨i, hi⟩ := List.mem_iff_getElem?.1 hs
  obtain ⟨h1, rfl⟩ := List.getElem?_eq_some_iff.1 hi
  exact log_at h h1
theorem log_len {l : Log} (h : l.sz ≤ 1048576) : l.list.length ≤ 1048576 := by
  have : l.list.length + sumBy State.sz l.list ≤ 1048576 := h
  omega
set_option maxHeartbeats 1000000 in
theorem specLogSize_ok (n : Node) (h : n.sz ≤ 1048576) : FS Try.prog 40 [] [.agg n.c] (.int .i64 (logSize n : Nat)) [] := by
  refine FS.of (X := X40) (ac := A40) (os := O40) Try.func40 (by rfl) (by rfl) (by kernel_rfl) o40 (Nat.le_of_ble_eq_true rfl) ?_
  show AWP X40 A40 (Ends X40.vs O40 0 _ _) [.agg n.c, .tup [], .tup [], .tup [], .tup [], .tup [], .tup []] []
  obtain ⟨Q, hQ⟩ : ∃ Q, Q = Ends X40.vs O40 0 (.int .i64 (logSize n : Nat)) [] := ⟨_, rfl⟩
  rw [← hQ]
  have hs := Node.small h
  have hll := log_len hs.lg
  have fin : ∀ L σ vV, resVs O40 (look X40.vs L) σ = some [vV] → vV = (.int .i64 (logSize n : Nat)) → Q .ret L σ := by
    intro L σ vV h1 h2
    rw [hQ]
    exact Ends.is (.inl rfl) h1 (by simp only [packV, h2]) rfl
  refine awp_sr ?_
  simp only [go_sem, R40_0, v40, p40, Node.c]
  refine awp_sr ?_
  simp only [go_sem, R40_1, v40, p40]
  refine awp_sr2 ?_
  simp only [go_sem, R40_2, v40, p40]
  refine run_see (specNodeOk_ok n h) false (Views.refl rfl) rfl (fun j hj => by first | omega | ((have hj0 : j = 0 := by omega); subst hj0; first | rfl | (simp only [Nat.add_zero, app_get, app_getk, sapp_get, sapp_getk, Nat.add_assoc, Nat.reduceAdd, List.getElem?_cons_zero, List.getElem?_cons_succ]; done) | simp)) (fun h => by cases h) ?_
  simp only [go_sem, v40, p40]
  refine awp_if' rfl ?_ ?_
  · intro h1
    refine awp_sr ?_
    simp only [go_sem, R40_3, v40, p40]
    refine awp_ret ?_
    try simp only [go_sem]
    exact fin _ _ (.int .i64 0) rfl (congrArg (V.int .i64) (by unfold logSize; rw [if_neg h1]; rfl))
  intro h1
  refine awp_skip ?_
  simp only [go_sem]
  refine awp_sr2 ?_
  simp only [go_sem, R40_4, v40, p40]
  obtain ⟨I, hI⟩ : ∃ I : Nat → List V → Store → Prop, I = fun mM L σ => ∃ i rest y0 y2 y7 y14, mM = n.log.list.length - i ∧ i ≤ n.log.list.length ∧ (True) ∧ L = [y0, .ptr 0 19 0 0, y2, .int .i64 (((n.log.list.take i).foldl addB 0 : Nat) : Int), .int .i64 (i : Nat), y7, y14] ∧ σ = .live ⟨19, [n.c]⟩ :: rest := ⟨_, rfl⟩
  first | refine awp_for I n.log.list.length ?_ ?_ | refine awp_seq (awp_for I n.log.list.length ?_ ?_)
  · rw [hI]; refine ⟨0, _, _, _, _, _, rfl, Nat.zero_le _, ?_, rfl, rfl⟩
    trivial
  intro mM L σ hIn
  rw [hI] at hIn
  obtain ⟨i, rest, y0, y2, y7, y14, rfl, hi, hP, rfl, rfl⟩ := hIn
  refine awp_sr2 ?_
  simp only [go_sem, R40_5, v40, p40, Node.c]
  refine awp_if rfl ?_ ?_
  · intro h2
    have h2 : i < n.log.list.length := by omega
    have e1 := fold_take addB 0 h2
    have e2 := addB_len (ss := n.log.list.take i) (k := 0) fun s hs' => log_all hs.lg s (List.mem_of_mem_take hs')
    have e3 : (n.log.list.take i).length ≤ 1048576 := by simp; omega
    have e4 := sBytes_len (log_at hs.lg h2)
    refine awp_skip ?_
    simp only [go_sem]
    first | refine awp_block ?_ | refine awp_seq (awp_block ?_)
    refine awp_reg ?_
    simp only [go_sem, R40_6, v40, p40, Node.c, rw_at _ h2, State.c]
    refine run_see (specStateBytes_fz n.log.list[i] (log_at hs.lg h2)) false (Views.refl rfl) rfl (fun j hj => by first | omega | ((have hj0 : j = 0 := by omega); subst hj0; first | rfl | (simp only [Nat.add_zero, app_get, app_getk, sapp_get, sapp_getk, Nat.add_assoc, Nat.reduceAdd, List.getElem?_cons_zero, List.getElem?_cons_succ]; done) | simp)) (fun h => by cases h) ?_
    simp only [go_sem, v40, p40]
    rw [wrap_i64 (by omega) (by omega), show ((((n.log.list.take i).foldl addB 0 : Nat) : Int) + ((sBytes n.log.list[i]).length : Int)) = (((n.log.list.take (i + 1)).foldl addB 0 : Nat) : Int) by rw [e1]; unfold addB; omega]
    refine awp_reg ?_
    simp only [go_sem, R40_7, v40, p40, wrap_succ (i := i) (by omega)]
    refine ⟨n.log.list.length - (i + 1), by omega, ?_⟩
    rw [hI]
    refine ⟨i + 1, _, _, _, _, _, rfl, by omega, ?_, rfl, rfl⟩
    trivial
  · intro h2
    refine awp_exit ?_
    simp only [go_sem]
    have : i = n.log.list.length := by omega
    subst this
    refine awp_sr ?_
    simp only [go_sem, R40_8, v40, p40]
    refine awp_ret ?_
    try simp only [go_sem]
    exact fin _ _ _ rfl (congrArg (V.int .i64) (by unfold logSize; rw [if_pos h1]))
set_option maxHeartbeats 1000000 in
theorem implLogSize_ok (n : Node) (h : n.sz ≤ 1048576) : FS Try.prog 42 [] [.agg n.c] (.int .i64 (logSize n : Nat)) [] := by
  refine FS.of (X := X42) (ac := A42) (os := O42) Try.func42 (by rfl) (by rfl) (by kernel_rfl) o42 (Nat.le_of_ble_eq_true rfl) ?_
  show AWP X42 A42 (Ends X42.vs O42 0 _ _) [.agg n.c, .tup [], .tup [], .tup [], .tup [], .tup [], .tup [], .tup [], .tup [], .tup []] []
  obtain ⟨Q, hQ⟩ : ∃ Q, Q = Ends X42.vs O42 0 (.int .i64 (logSize n : Nat)) [] := ⟨_, rfl⟩
  rw [← hQ]
  have hs := Node.small h
  have hll := log_len hs.lg
  have fin : ∀ L σ vV, resVs O42 (look X42.vs L) σ = some [vV] → vV = (.int .i64 (logSize n : Nat)) → Q .ret L σ := by
    intro L σ vV h1 h2
    rw [hQ]
    exact Ends.is (.inl rfl) h1 (by simp only [packV, h2]) rfl
  refine awp_sr ?_
  simp only [go_sem, R42_0, v42, p42, Node.c]
  refine awp_sr ?_
  simp only [go_sem, R42_1, v42, p42]
  refine awp_sr2 ?_
  simp only [go_sem, R42_2, v42, p42]
  refine run_see (implNodeOk_ok n h) false (Views.refl rfl) rfl (fun j hj => by first | omega | ((have hj0 : j = 0 := by omega); subst hj0; first | rfl | (simp only [Nat.add_zero, app_get, app_getk, sapp_get, sapp_getk, Nat.add_assoc, Nat.reduceAdd, List.getElem?_cons_zero, List.getElem?_cons_succ]; done) | simp)) (fun h => by cases h) ?_
  simp only [go_sem, v42, p42]
  refine awp_if' rfl ?_ ?_
  · intro h1
    refine awp_sr ?_
    simp only [go_sem, R42_3, v42, p42]
    refine awp_ret ?_
    try simp only [go_sem]
    exact fin _ _ (.int .i64 0) rfl (congrArg (V.int .i64) (by unfold logSize; rw [if_neg h1]; rfl))
  intro h1
  refine awp_skip ?_
  simp only [go_sem]
  refine awp_sr2 ?_
  simp only [go_sem, R42_4, v42, p42, Node.c]
  obtain ⟨I, hI⟩ : ∃ I : Nat → List V → Store → Prop, I = fun mM L σ => ∃ i rest y0 y1 y2 y5 y8 y15, mM = n.log.list.length - i ∧ i ≤ n.log.list.length ∧ (True) ∧ L = [y0, y1, y2, .int .i64 (((n.log.list.take i).foldl addB 0 : Nat) : Int), y5, y8, .fz 2 (rw_ State.c n.log.list), .int .i64 (n.log.list.length : Nat), .int .i64 (i : Nat), y15] ∧ σ = rest := ⟨_, rfl⟩
  first | refine awp_for I n.log.list.length ?_ ?_ | refine awp_seq (awp_for I n.log.list.length ?_ ?_)
  · rw [hI]; refine ⟨0, _, _, _, _, _, _, _, rfl, Nat.zero_le _, ?_, rfl, rfl⟩
    trivial
  intro mM L σ hIn
  rw [hI] at hIn
  obtain ⟨i, rest, y0, y1, y2, y5, y8, y15, rfl, hi, hP, rfl, rfl⟩ := hIn
  refine awp_sr ?_
  simp only [go_sem, R42_5, v42, p42]
  refine awp_seq ?_
  refine awp_if rfl ?_ ?_
  · intro h2
    have h2 : i < n.log.list.length := by omega
    have e1 := fold_take addB 0 h2
    have e2 := addB_len (ss := n.log.list.take i) (k := 0) fun s hs' => log_all hs.lg s (List.mem_of_mem_take hs')
    have e3 : (n.log.list.take i).length ≤ 1048576 := by simp; omega
    have e4 := sBytes_len (log_at hs.lg h2)
    refine awp_skip ?_
    simp only [go_sem]
    first | refine awp_block ?_ | refine awp_seq (awp_block ?_)
    refine awp_sr ?_
    simp only [go_sem, R42_6, v42, p42, rw_at _ h2, State.c]
    refine awp_reg ?_
    simp only [go_sem, R42_7, v42, p42]
    refine run_see (implStateBytes_ok n.log.list[i] (log_at hs.lg h2)) false (Views.refl rfl) rfl (fun j hj => by first | omega | ((have hj0 : j = 0 := by omega); subst hj0; first | rfl | (simp only [Nat.add_zero, app_get, app_getk, sapp_get, sapp_getk, Nat.add_assoc, Nat.reduceAdd, List.getElem?_cons_zero, List.getElem?_cons_succ]; done) | simp)) (fun h => by cases h) ?_
    simp only [go_sem, v42, p42]
    rw [wrap_i64 (by omega) (by omega), show ((((n.log.list.take i).foldl addB 0 : Nat) : Int) + ((sBytes n.log.list[i]).length : Int)) = (((n.log.list.take (i + 1)).foldl addB 0 : Nat) : Int) by rw [e1]; unfold addB; omega]
    refine awp_reg ?_
    simp only [go_sem, R42_8, v42, p42, wrap_succ (i := i) (by omega)]
    refine ⟨n.log.list.length - (i + 1), by omega, ?_⟩
    rw [hI]
    refine ⟨i + 1, _, _, _, _, _, _, _, rfl, by omega, ?_, rfl, rfl⟩
    trivial
  · intro h2
    refine awp_exit ?_
    simp only [go_sem]
    have : i = n.log.list.length := by omega
    subst this
    refine awp_sr ?_
    simp only [go_sem, R42_9, v42, p42]
    refine awp_ret ?_
    try simp only [go_sem]
    exact fin _ _ _ rfl (congrArg (V.int .i64) (by unfold logSize; rw [if_pos h1]))
def mn (x y : Int) : Int := if y < x then y else x
theorem l1Min_ok (x y : Int) : FS Try.prog 92 [] [.int .i64 x, .int .i64 y] (.int .i64 (mn x y)) [] := by
  refine FS.of (X := X92) (ac := A92) (os := O92) Try.func92 (by rfl) (by rfl) (by kernel_rfl) o92 (Nat.le_of_ble_eq_true rfl) ?_
  show AWP X92 A92 (Ends X92.vs O92 0 _ _) [.int .i64 x, .int .i64 y, .tup [], .tup []] []
  obtain ⟨Q, hQ⟩ : ∃ Q, Q = Ends X92.vs O92 0 (.int .i64 (mn x y)) [] := ⟨_, rfl⟩
  rw [← hQ]
  have fin : ∀ L σ vV, resVs O92 (look X92.vs L) σ = some [vV] → vV = (.int .i64 (mn x y)) → Q .ret L σ := by
    intro L σ vV h1 h2
    rw [hQ]
    exact Ends.is (.inl rfl) h1 (by simp only [packV, h2]) rfl
  refine awp_sr ?_
  simp only [go_sem, R92_0, v92, p92]
  refine awp_sr2 ?_
  simp only [go_sem, R92_1, v92, p92]
  refine awp_if rfl ?_ ?_
  · intro h
    refine awp_sr ?_
    simp only [go_sem, R92_2, v92, p92]
    refine awp_ret ?_
    try simp only [go_sem]
    exact fin _ _ _ rfl (congrArg (V.int .i64) (by unfold mn; rw [if_neg]; omega))
  intro h
  refine awp_skip ?_
  simp only [go_sem]
  refine awp_sr ?_
  simp only [go_sem, R92_3, v92, p92]
  refine awp_ret ?_
  try simp only [go_sem]
  refine fin _ _ _ rfl (congrArg (V.int .i64) ?_)
  unfold mn
  split <;> omega
/-- the least of those behind k, but for that at id -/
def leastL (id : Int) : List Int → Nat → Int → Int
  | [], _, m => m
  | y :: ys, k, m => leastL id ys (k + 1) (if (k : Int) ≠ id then mn m y else m)
theorem leastL_at {xs : List Int} {i : Nat} (h : i < xs.length) (id : Int) (m : Int) : leastL id (xs.drop i) i m = leastL id (xs.drop (i + 1)) (i + 1) (if (i : Int) ≠ id then mn m xs[i] else m) := by
  rw [List.drop_eq_getElem_cons h]; rfl
noncomputable def safeOf (n : Node) : Int := if n.Right then leastL n.id n.acked 0 (logSeq n.log) else 0
set_option maxHeartbeats 1000000 in
theorem specSafe_ok (n : Node) (h : n.sz ≤ 1048576) : FS Try.prog 44 [] [.agg n.c] (.int .i64 (safeOf n)) [] := by
  refine FS.of (X := X44) (ac := A44) (os := O44) Try.func44 (by rfl) (by rfl) (by kernel_rfl) o44 (Nat.le_of_ble_eq_true rfl) ?_
  show AWP X44 A44 (Ends X44.vs O44 0 _ _) [.agg n.c, .tup [], .tup [], .tup [], .tup [], .tup [], .tup [], .tup []] []
  obtain ⟨Q, hQ⟩ : ∃ Q, Q = Ends X44.vs O44 0 (.int .i64 (safeOf n)) [] := ⟨_, rfl⟩
  rw [← hQ]
  have hs := Node.small h
  have fin : ∀ L σ vV, resVs O44 (look X44.vs L) σ = some [vV] → vV = (.int .i64 (safeOf n)) → Q .ret L σ := by
    intro L σ vV h1 h2
    rw [hQ]
    exact Ends.is (.inl rfl) h1 (by simp only [packV, h2]) rfl
  refine awp_sr ?_
  simp only [go_sem, R44_0, v44, p44, Node.c]
  refine awp_sr2 ?_
  simp only [go_sem, R44_1, v44, p44]
  refine run_see (specNodeOk_ok n h) false (Views.refl rfl) rfl (fun j hj => by first | omega | ((have hj0 : j = 0 := by omega); subst hj0; first | rfl | (simp only [Nat.add_zero, app_get, app_getk, sapp_get, sapp_getk, Nat.add_assoc, Nat.reduceAdd, List.getElem?_cons_zero, List.getElem?_cons_succ]; done) | simp)) (fun h => by cases h) ?_
  simp only [go_sem, v44, p44]
  refine awp_if' rfl ?_ ?_
  · intro h1
    refine awp_sr ?_
    simp only [go_sem, R44_2, v44, p44]
    refine awp_ret ?_
    try simp only [go_sem]
    exact fin _ _ (.int .i64 0) rfl (congrArg (V.int .i64) (if_neg h1).symm)
  intro h1
  have hak : (n.acked.length : Int) = n.n := h1.b.2.1.2.1
  have hk := hs.ak
  refine awp_skip ?_
  simp only [go_sem]
  refine awp_sr ?_
  simp only [go_sem, R44_3, v44, p44, Node.c]
  refine run_see (specLogSeq_ok n.log hs.lg) false (Views.refl rfl) rfl (fun j hj => by first | omega | ((have hj0 : j = 0 := by omega); subst hj0; first | rfl | (simp only [Nat.add_zero, app_get, app_getk, sapp_get, sapp_getk, Nat.add_assoc, Nat.reduceAdd, List.getElem?_cons_zero, List.getElem?_cons_succ]; done) | simp)) (fun h => by cases h) ?_
  simp only [go_sem, v44, p44]
  refine awp_sr2 ?_
  simp only [go_sem, R44_4, v44, p44]
  obtain ⟨I, hI⟩ : ∃ I : Nat → List V → Store → Prop, I = fun mM L σ => ∃ i m rest y0 y2 y7 y14 y20, n.acked.length - i = mM ∧ (i ≤ n.acked.length ∧ safeOf n = leastL n.id (n.acked.drop i) i m) ∧ L = [y0, .ptr 0 19 0 0, y2, .int .i64 m, .int .i64 (i : Nat), y7, y14, y20] ∧ σ = .live ⟨19, [n.c]⟩ :: rest := ⟨_, rfl⟩
  first | refine awp_for I (n.acked.length) ?_ ?_ | refine awp_seq (awp_for I (n.acked.length) ?_ ?_)
  · rw [hI]
    refine ⟨0, _, _, _, _, _, _, _, rfl, ?_, rfl, rfl⟩
    exact ⟨Nat.zero_le _, if_pos h1⟩
  intro mM L σ hIn
  rw [hI] at hIn
  obtain ⟨i, m, rest, y0, y2, y7, y14, y20, rfl, hP, rfl, rfl⟩ := hIn
  obtain ⟨hi, he⟩ := hP
  refine awp_sr2 ?_
  simp only [go_sem, R44_5, v44, p44, Node.c]
  refine awp_if rfl ?_ ?_
  · intro h2
    have h2 : i < n.acked.length := by omega
    have e1 := leastL_at h2 n.id m
    refine awp_skip ?_
    simp only [go_sem]
    refine awp_seq (awp_block ?_)
    refine awp_sr ?_
    simp only [go_sem, R44_6, v44, p44, Node.c]
    obtain ⟨K1, hK1⟩ : ∃ K : List V → Store → Prop, K = fun L σ => ∃ rest y0 y2 y7 y14 y20, L = [y0, .ptr 0 19 0 0, y2, .int .i64 (if (i : Int) ≠ n.id then mn m n.acked[i] else m), .int .i64 (i : Nat), y7, y14, y20] ∧ σ = .live ⟨19, [n.c]⟩ :: rest ∧ True := ⟨_, rfl⟩
    refine awp_K K1 ?_ ?_
    · refine awp_if rfl ?_ ?_
      · intro h3
        refine awp_reg ?_
        simp only [go_sem, R44_7, v44, p44, Node.c, rw_at _ h2, intC]
        refine run_see (l1Min_ok _ _) false (Views.refl rfl) rfl (fun j hj => by first | omega | ((have hj0 : j = 0 := by omega); subst hj0; first | rfl | (simp only [Nat.add_zero, app_get, app_getk, sapp_get, sapp_getk, Nat.add_assoc, Nat.reduceAdd, List.getElem?_cons_zero, List.getElem?_cons_succ]; done) | simp)) (fun h => by cases h) ?_
        simp only [go_sem, v44, p44]
        rw [← if_pos (c := (i : Int) ≠ n.id) (t := mn m n.acked[i]) (e := m) h3]
        rw [hK1]
        refine ⟨_, _, _, _, _, _, rfl, rfl, ?_⟩
        trivial
      · intro h3
        refine awp_skip ?_
        simp only [go_sem]
        rw [show (V.int .i64 m) = .int .i64 (if (i : Int) ≠ n.id then mn m n.acked[i] else m) by rw [if_neg h3]]
        rw [hK1]
        refine ⟨_, _, _, _, _, _, rfl, rfl, ?_⟩
        trivial
    · intro L σ hq
      rw [hK1] at hq
      obtain ⟨rest, y0, y2, y7, y14, y20, rfl, rfl, hq⟩ := hq
      simp only [go_sem, v44, p44]
      refine awp_reg ?_
      simp only [go_sem, R44_8, v44, p44, wrap_succ (i := i) (by omega)]
      refine ⟨n.acked.length - (i + 1), ?_, ?_⟩
      rotate_left
      rw [hI]
      refine ⟨i + 1, _, _, _, _, _, _, _, rfl, ?_, rfl, rfl⟩
      · exact ⟨by omega, by rw [he, e1]⟩
      · omega
  · intro h2
    refine awp_exit ?_
    simp only [go_sem]
    refine awp_sr ?_
    simp only [go_sem, R44_9, v44, p44]
    refine awp_ret ?_
    try simp only [go_sem]
    exact fin _ _ _ rfl (congrArg (V.int .i64) (by rw [he, List.drop_eq_nil_of_le (by omega)]; rfl))
set_option maxHeartbeats 1000000 in
theorem implSafe_ok (n : Node) (h : n.sz ≤ 1048576) : FS Try.prog 45 [] [.agg n.c] (.int .i64 (safeOf n)) [] := by
  refine FS.of (X := X45) (ac := A45) (os := O45) Try.func45 (by rfl) (by rfl) (by kernel_rfl) o45 (Nat.le_of_ble_eq_true rfl) ?_
  show AWP X45 A45 (Ends X45.vs O45 0 _ _) [.agg n.c, .tup [], .tup [], .tup [], .tup [], .tup [], .tup [], .tup [], .tup [], .tup [], .tup [], .tup []] []
  obtain ⟨Q, hQ⟩ : ∃ Q, Q = Ends X45.vs O45 0 (.int .i64 (safeOf n)) [] := ⟨_, rfl⟩
  rw [← hQ]
  have hs := Node.small h
  have fin : ∀ L σ vV, resVs O45 (look X45.vs L) σ = some [vV] → vV = (.int .i64 (safeOf n)) → Q .ret L σ := by
    intro L σ vV h1 h2
    rw [hQ]
    exact Ends.is (.inl rfl) h1 (by simp only [packV, h2]) rfl
  refine awp_sr ?_
  simp only [go_sem, R45_0, v45, p45, Node.c]
  refine awp_sr2 ?_
  simp only [go_sem, R45_1, v45, p45]
  refine run_see (implNodeOk_ok n h) false (Views.refl rfl) rfl (fun j hj => by first | omega | ((have hj0 : j = 0 := by omega); subst hj0; first | rfl | (simp only [Nat.add_zero, app_get, app_getk, sapp_get, sapp_getk, Nat.add_assoc, Nat.reduceAdd, List.getElem?_cons_zero, List.getElem?_cons_succ]; done) | simp)) (fun h => by cases h) ?_
  simp only [go_sem, v45, p45]
  refine awp_if' rfl ?_ ?_
  · intro h1
    refine awp_sr ?_
    simp only [go_sem, R45_2, v45, p45]
    refine awp_ret ?_
    try simp only [go_sem]
    exact fin _ _ (.int .i64 0) rfl (congrArg (V.int .i64) (if_neg h1).symm)
  intro h1
  have hk := hs.ak
  refine awp_skip ?_
  simp only [go_sem]
  refine awp_sr ?_
  simp only [go_sem, R45_3, v45, p45, Node.c]
  refine run_see (implLogSeq_ok n.log hs.lg) false (Views.refl rfl) rfl (fun j hj => by first | omega | ((have hj0 : j = 0 := by omega); subst hj0; first | rfl | (simp only [Nat.add_zero, app_get, app_getk, sapp_get, sapp_getk, Nat.add_assoc, Nat.reduceAdd, List.getElem?_cons_zero, List.getElem?_cons_succ]; done) | simp)) (fun h => by cases h) ?_
  simp only [go_sem, v45, p45]
  refine awp_sr2 ?_
  simp only [go_sem, R45_4, v45, p45, Node.c]
  obtain ⟨I, hI⟩ : ∃ I : Nat → List V → Store → Prop, I = fun mM L σ => ∃ i m rest y0 y2 y4 y5 y8 y16 y23, n.acked.length - i = mM ∧ (i ≤ n.acked.length ∧ safeOf n = leastL n.id (n.acked.drop i) i m) ∧ L = [y0, .ptr 0 19 0 0, y2, .int .i64 m, y4, y5, y8, .fz 1 (rw_ intC n.acked), .int .i64 (n.acked.length : Nat), .int .i64 (i : Nat), y16, y23] ∧ σ = .live ⟨19, [n.c]⟩ :: rest := ⟨_, rfl⟩
  first | refine awp_for I (n.acked.length) ?_ ?_ | refine awp_seq (awp_for I (n.acked.length) ?_ ?_)
  · rw [hI]
    refine ⟨0, _, _, _, _, _, _, _, _, _, rfl, ?_, rfl, rfl⟩
    exact ⟨Nat.zero_le _, if_pos h1⟩
  intro mM L σ hIn
  rw [hI] at hIn
  obtain ⟨i, m, rest, y0, y2, y4, y5, y8, y16, y23, rfl, hP, rfl, rfl⟩ := hIn
  obtain ⟨hi, he⟩ := hP
  refine awp_sr ?_
  simp only [go_sem, R45_5, v45, p45]
  refine awp_seq ?_
  refine awp_if rfl ?_ ?_
  · intro h2
    have h2 : i < n.acked.length := by omega
    have e1 := leastL_at h2 n.id m
    refine awp_skip ?_
    simp only [go_sem]
    refine awp_seq (awp_block ?_)
    refine awp_sr ?_
    simp only [go_sem, R45_6, v45, p45, rw_at _ h2, intC]
    refine awp_sr ?_
    simp only [go_sem, R45_7, v45, p45, Node.c]
    obtain ⟨K2, hK2⟩ : ∃ K : List V → Store → Prop, K = fun L σ => ∃ rest y0 y2 y4 y5 y8 y16 y23, L = [y0, .ptr 0 19 0 0, y2, .int .i64 (if (i : Int) ≠ n.id then mn m n.acked[i] else m), y4, y5, y8, .fz 1 (rw_ intC n.acked), .int .i64 (n.acked.length : Nat), .int .i64 (i : Nat), y16, y23] ∧ σ = .live ⟨19, [n.c]⟩ :: rest ∧ True := ⟨_, rfl⟩
    refine awp_K K2 ?_ ?_
    · refine awp_if rfl ?_ ?_
      · intro h3
        refine awp_reg ?_
        simp only [go_sem, R45_8, v45, p45]
        rw [show (if n.acked[i] < m then n.acked[i] else m) = (if (i : Int) ≠ n.id then mn m n.acked[i] else m) by rw [if_pos h3]; rfl]
        rw [hK2]
        refine ⟨_, _, _, _, _, _, _, _, rfl, rfl, ?_⟩
        trivial
      · intro h3
        refine awp_skip ?_
        simp only [go_sem]
        rw [show (V.int .i64 m) = .int .i64 (if (i : Int) ≠ n.id then mn m n.acked[i] else m) by rw [if_neg h3]]
        rw [hK2]
        refine ⟨_, _, _, _, _, _, _, _, rfl, rfl, ?_⟩
        trivial
    · intro L σ hq
      rw [hK2] at hq
      obtain ⟨rest, y0, y2, y4, y5, y8, y16, y23, rfl, rfl, hq⟩ := hq
      simp only [go_sem, v45, p45]
      refine awp_reg ?_
      simp only [go_sem, R45_9, v45, p45, wrap_succ (i := i) (by omega)]
      refine ⟨n.acked.length - (i + 1), ?_, ?_⟩
      rotate_left
      rw [hI]
      refine ⟨i + 1, _, _, _, _, _, _, _, _, _, rfl, ?_, rfl, rfl⟩
      · exact ⟨by omega, by rw [he, e1]⟩
      · omega
  · intro h2
    refine awp_exit ?_
    simp only [go_sem]
    refine awp_sr ?_
    simp only [go_sem, R45_10, v45, p45]
    refine awp_ret ?_
    try simp only [go_sem]
    exact fin _ _ _ rfl (congrArg (V.int .i64) (by rw [he, List.drop_eq_nil_of_le (by omega)]; rfl))
def R8_0 : List AR := [⟨(some 1), none, 0, (.box 0 19 (.t 0))⟩, ⟨(some 2), none, 0, (.mov (.k (.bool false)))⟩]
def R8_1 : List AR := [⟨(some 3), none, 0, (.mov (.k (.int .i64 1048576)))⟩]
def R8_2 : List AR := [⟨(some 7), none, 0, (.load 19 true (.t 1))⟩, ⟨(some 8), none, 0, (.mov (.t 3))⟩, ⟨(some 9), none, 0, (.call false 0 0 39 [(.t 7), (.t 8)])⟩, ⟨(some 3), none, 0, (.mov (.t 9))⟩]
def R8_3 : List AR := [⟨(some 10), none, 0, (.mov (.t 3))⟩, ⟨(some 11), none, 0, (.bin .lss (.t 10) (.k (.int .i64 0)))⟩]
def R8_4 : List AR := [⟨(some 2), none, 0, (.mov (.k (.bool true)))⟩]
def R8_5 : List AR := [⟨(some 12), none, 0, (.load 19 true (.t 1))⟩, ⟨(some 13), none, 0, (.call false 0 0 41 [(.t 12)])⟩, ⟨(some 14), none, 0, (.call false 0 0 40 [(.t 13)])⟩, ⟨(some 4), none, 0, (.mov (.t 14))⟩]
def R8_6 : List AR := [⟨(some 15), none, 0, (.load 19 true (.t 1))⟩, ⟨(some 16), none, 0, (.call false 0 0 41 [(.t 15)])⟩, ⟨(some 5), none, 0, (.alloc 0 19 [(.int .i64 0), (.int .i64 0), .nl, .nl, .nl, (.int .i64 0), (.int .i64 0), (.int .i64 0), .nl, .nl, .nl, .nl, (.int .i64 0), (.int .i64 0), .nl, (.int .i64 0), (.int .i64 0), (.int .i64 0), .nl])⟩, ⟨none, none, 0, (.store 19 (.t 5) (.t 16))⟩]
def R8_7 : List AR := [⟨(some 17), none, 0, (.load 19 true (.t 5))⟩, ⟨(some 18), none, 0, (.call false 0 0 42 [(.t 17)])⟩, ⟨(some 6), none, 0, (.mov (.t 18))⟩]
def R8_8 : List AR := [⟨(some 19), none, 0, (.mov (.t 6))⟩, ⟨(some 20), none, 0, (.mov (.t 4))⟩, ⟨(some 21), none, 0, (.bin .neq (.t 19) (.t 20))⟩]
def R8_9 : List AR := [⟨(some 2), none, 0, (.mov (.k (.bool false)))⟩]
def R8_10 : List AR := [⟨(some 22), none, 0, (.load 19 true (.t 5))⟩, ⟨(some 23), none, 0, (.load 19 true (.t 1))⟩, ⟨(some 24), none, 0, (.call false 0 0 41 [(.t 23)])⟩, ⟨(some 25), none, 0, (.call false 0 0 43 [(.t 22), (.t 24)])⟩, ⟨(some 26), none, 0, (.not (.t 25))⟩]
def R8_11 : List AR := [⟨(some 2), none, 0, (.mov (.k (.bool false)))⟩]
def R8_12 : List AR := [⟨(some 2), none, 0, (.mov (.k (.bool true)))⟩]
def A8_0 : AC := (.seq (.reg 0 R8_12) .ret)
def A8_1 : AC := (.seq (.seq (.draw 0 R8_10) (.cond (.t 26) (.seq (.reg 0 R8_11) .ret) .skip)) A8_0)
def A8_2 : AC := (.seq (.seq (.reg 0 R8_8) (.cond (.t 21) (.seq (.reg 0 R8_9) .ret) .skip)) A8_1)
def A8_3 : AC := (.seq (.reg 0 R8_7) A8_2)
def A8_4 : AC := (.seq (.reg 1 R8_6) A8_3)
def A8_5 : AC := (.seq (.reg 0 R8_5) A8_4)
def A8_6 : AC := (.seq (.seq (.reg 0 R8_3) (.cond (.t 11) (.seq (.reg 0 R8_4) .ret) .skip)) A8_5)
def A8_7 : AC := (.seq (.reg 0 R8_2) A8_6)
def A8_8 : AC := (.seq (.reg 0 R8_1) A8_7)
def A8 : AC := (.seq (.reg 1 R8_0) A8_8)
def O8 : List AO := [(.mov (.t 2))]
def G8 : Fns := ⟨fun f => false, fun f => 0, false⟩
noncomputable def X8 : Cx := ⟨Try.prog, G8, drawD, 27, [0, 1, 2, 3, 4, 5, 6, 11, 21, 26]⟩
theorem c8 : (Try.f8.body).bind (compC X8.P X8.Γ X8.D X8.nt) = some A8 := by kernel_rfl
theorem o8 : compRes X8.P Try.f8.results.toList = some O8 := by kernel_rfl
theorem v8 : X8.vs = [0, 1, 2, 3, 4, 5, 6, 11, 21, 26] := rfl
theorem p8 : X8.P = Try.prog := rfl
theorem exactLogSize_ok (a : Node) (ha : a.ok) : FS Try.prog 8 [] [.agg a.c] (.bool true) [] := by
  refine FS.of (X := X8) (ac := A8) (os := O8) Try.func8 (by rfl) (by rfl) (by kernel_rfl) o8 (Nat.le_of_ble_eq_true rfl) ?_
  show AWP X8 A8 (Ends X8.vs O8 0 _ _) [.agg a.c, .tup [], .tup [], .tup [], .tup [], .tup [], .tup [], .tup [], .tup [], .tup []] []
  obtain ⟨Q, hQ⟩ : ∃ Q, Q = Ends X8.vs O8 0 (.bool true) [] := ⟨_, rfl⟩
  rw [← hQ]
  have fin : ∀ L σ vV, resVs O8 (look X8.vs L) σ = some [vV] → vV = (.bool true) → Q .ret L σ := by
    intro L σ vV h1 h2
    rw [hQ]
    exact Ends.is (.inl rfl) h1 (by simp only [packV, h2]) rfl
  refine awp_sr ?_
  simp only [go_sem, R8_0, v8, p8, Node.c]
  refine awp_sr ?_
  simp only [go_sem, R8_1, v8, p8]
  refine awp_sr ?_
  simp only [go_sem, R8_2, v8, p8, Node.c]
  refine run_see (szNode_ok a 1048576 (Nat.le_refl _) ha) false (Views.refl rfl) rfl (fun j hj => by first | omega | ((have hj0 : j = 0 := by omega); subst hj0; first | rfl | (simp only [Nat.add_zero, app_get, app_getk, sapp_get, sapp_getk, Nat.add_assoc, Nat.reduceAdd, List.getElem?_cons_zero, List.getElem?_cons_succ]; done) | simp)) (fun h => by cases h) ?_
  simp only [go_sem, v8, p8]
  refine awp_sr2 ?_
  simp only [go_sem, R8_3, v8, p8]
  refine awp_if rfl ?_ ?_
  · intro h1
    refine awp_sr ?_
    simp only [go_sem, R8_4, v8, p8]
    refine awp_ret ?_
    try simp only [go_sem]
    exact fin _ _ _ rfl rfl
  intro h1
  obtain ⟨-, h⟩ := left_pos h1
  refine awp_skip ?_
  simp only [go_sem]
  refine awp_sr ?_
  simp only [go_sem, R8_5, v8, p8, Node.c]
  refine run_see (toNode_ok a h) false (Views.refl rfl) rfl (fun j hj => by first | omega | ((have hj0 : j = 0 := by omega); subst hj0; first | rfl | (simp only [Nat.add_zero, app_get, app_getk, sapp_get, sapp_getk, Nat.add_assoc, Nat.reduceAdd, List.getElem?_cons_zero, List.getElem?_cons_succ]; done) | simp)) (fun h => by cases h) ?_
  simp only [go_sem, v8, p8]
  refine run_see (specLogSize_ok a  h) false (Views.refl rfl) rfl (fun j hj => by first | omega | ((have hj0 : j = 0 := by omega); subst hj0; first | rfl | (simp only [Nat.add_zero, app_get, app_getk, sapp_get, sapp_getk, Nat.add_assoc, Nat.reduceAdd, List.getElem?_cons_zero, List.getElem?_cons_succ]; done) | simp)) (fun h => by cases h) ?_
  simp only [go_sem, v8, p8]
  refine awp_sr ?_
  simp only [go_sem, R8_6, v8, p8, Node.c]
  refine run_see (toNode_ok a h) false (Views.refl rfl) rfl (fun j hj => by first | omega | ((have hj0 : j = 0 := by omega); subst hj0; first | rfl | (simp only [Nat.add_zero, app_get, app_getk, sapp_get, sapp_getk, Nat.add_assoc, Nat.reduceAdd, List.getElem?_cons_zero, List.getElem?_cons_succ]; done) | simp)) (fun h => by cases h) ?_
  simp only [go_sem, v8, p8, Node.c]
  refine awp_sr ?_
  simp only [go_sem, R8_7, v8, p8, Node.c]
  refine run_see (implLogSize_ok a  h) false (Views.refl rfl) rfl (fun j hj => by first | omega | ((have hj0 : j = 0 := by omega); subst hj0; first | rfl | (simp only [Nat.add_zero, app_get, app_getk, sapp_get, sapp_getk, Nat.add_assoc, Nat.reduceAdd, List.getElem?_cons_zero, List.getElem?_cons_succ]; done) | simp)) (fun h => by cases h) ?_
  simp only [go_sem, v8, p8]
  refine awp_sr2 ?_
  simp only [go_sem, R8_8, v8, p8]
  refine awp_if rfl ?_ ?_
  · intro h3; exact absurd rfl h3
  intro h3
  refine awp_skip ?_
  simp only [go_sem]
  refine awp_sd2 mixed rfl (by rfl) ?_
  simp only [go_sem, R8_10, v8, p8, Node.c]
  refine run_see (toNode_ok a h) false (Views.refl rfl) rfl (fun j hj => by first | omega | ((have hj0 : j = 0 := by omega); subst hj0; first | rfl | (simp only [Nat.add_zero, app_get, app_getk, sapp_get, sapp_getk, Nat.add_assoc, Nat.reduceAdd, List.getElem?_cons_zero, List.getElem?_cons_succ]; done) | simp)) (fun h => by cases h) ?_
  simp only [go_sem, v8, p8, Node.c]
  refine run_see (eqNode_ok a a h) false (Views.refl rfl) rfl (fun j hj => by first | omega | ((have hj0 : j = 0 := by omega); subst hj0; first | rfl | (simp only [Nat.add_zero, app_get, app_getk, sapp_get, sapp_getk, Nat.add_assoc, Nat.reduceAdd, List.getElem?_cons_zero, List.getElem?_cons_succ]; done) | simp)) (fun h => by cases h) ?_
  simp only [go_sem, v8, p8]
  refine awp_no rfl ?_
  refine awp_skip ?_
  simp only [go_sem]
  refine awp_sr ?_
  simp only [go_sem, R8_12, v8, p8]
  refine awp_ret ?_
  try simp only [go_sem]
  exact fin _ _ _ rfl rfl
def R9_0 : List AR := [⟨(some 1), none, 0, (.box 0 19 (.t 0))⟩, ⟨(some 2), none, 0, (.mov (.k (.bool false)))⟩]
def R9_1 : List AR := [⟨(some 3), none, 0, (.mov (.k (.int .i64 1048576)))⟩]
def R9_2 : List AR := [⟨(some 7), none, 0, (.load 19 true (.t 1))⟩, ⟨(some 8), none, 0, (.mov (.t 3))⟩, ⟨(some 9), none, 0, (.call false 0 0 39 [(.t 7), (.t 8)])⟩, ⟨(some 3), none, 0, (.mov (.t 9))⟩]
def R9_3 : List AR := [⟨(some 10), none, 0, (.mov (.t 3))⟩, ⟨(some 11), none, 0, (.bin .lss (.t 10) (.k (.int .i64 0)))⟩]
def R9_4 : List AR := [⟨(some 2), none, 0, (.mov (.k (.bool true)))⟩]
def R9_5 : List AR := [⟨(some 12), none, 0, (.load 19 true (.t 1))⟩, ⟨(some 13), none, 0, (.call false 0 0 41 [(.t 12)])⟩, ⟨(some 14), none, 0, (.call false 0 0 44 [(.t 13)])⟩, ⟨(some 4), none, 0, (.mov (.t 14))⟩]
def R9_6 : List AR := [⟨(some 15), none, 0, (.load 19 true (.t 1))⟩, ⟨(some 16), none, 0, (.call false 0 0 41 [(.t 15)])⟩, ⟨(some 5), none, 0, (.alloc 0 19 [(.int .i64 0), (.int .i64 0), .nl, .nl, .nl, (.int .i64 0), (.int .i64 0), (.int .i64 0), .nl, .nl, .nl, .nl, (.int .i64 0), (.int .i64 0), .nl, (.int .i64 0), (.int .i64 0), (.int .i64 0), .nl])⟩, ⟨none, none, 0, (.store 19 (.t 5) (.t 16))⟩]
def R9_7 : List AR := [⟨(some 17), none, 0, (.load 19 true (.t 5))⟩, ⟨(some 18), none, 0, (.call false 0 0 45 [(.t 17)])⟩, ⟨(some 6), none, 0, (.mov (.t 18))⟩]
def R9_8 : List AR := [⟨(some 19), none, 0, (.mov (.t 6))⟩, ⟨(some 20), none, 0, (.mov (.t 4))⟩, ⟨(some 21), none, 0, (.bin .neq (.t 19) (.t 20))⟩]
def R9_9 : List AR := [⟨(some 2), none, 0, (.mov (.k (.bool false)))⟩]
def R9_10 : List AR := [⟨(some 22), none, 0, (.load 19 true (.t 5))⟩, ⟨(some 23), none, 0, (.load 19 true (.t 1))⟩, ⟨(some 24), none, 0, (.call false 0 0 41 [(.t 23)])⟩, ⟨(some 25), none, 0, (.call false 0 0 43 [(.t 22), (.t 24)])⟩, ⟨(some 26), none, 0, (.not (.t 25))⟩]
def R9_11 : List AR := [⟨(some 2), none, 0, (.mov (.k (.bool false)))⟩]
def R9_12 : List AR := [⟨(some 2), none, 0, (.mov (.k (.bool true)))⟩]
def A9_0 : AC := (.seq (.reg 0 R9_12) .ret)
def A9_1 : AC := (.seq (.seq (.draw 0 R9_10) (.cond (.t 26) (.seq (.reg 0 R9_11) .ret) .skip)) A9_0)
def A9_2 : AC := (.seq (.seq (.reg 0 R9_8) (.cond (.t 21) (.seq (.reg 0 R9_9) .ret) .skip)) A9_1)
def A9_3 : AC := (.seq (.reg 0 R9_7) A9_2)
def A9_4 : AC := (.seq (.reg 1 R9_6) A9_3)
def A9_5 : AC := (.seq (.reg 0 R9_5) A9_4)
def A9_6 : AC := (.seq (.seq (.reg 0 R9_3) (.cond (.t 11) (.seq (.reg 0 R9_4) .ret) .skip)) A9_5)
def A9_7 : AC := (.seq (.reg 0 R9_2) A9_6)
def A9_8 : AC := (.seq (.reg 0 R9_1) A9_7)
def A9 : AC := (.seq (.reg 1 R9_0) A9_8)
def O9 : List AO := [(.mov (.t 2))]
def G9 : Fns := ⟨fun f => false, fun f => 0, false⟩
noncomputable def X9 : Cx := ⟨Try.prog, G9, drawD, 27, [0, 1, 2, 3, 4, 5, 6, 11, 21, 26]⟩
theorem c9 : (Try.f9.body).bind (compC X9.P X9.Γ X9.D X9.nt) = some A9 := by kernel_rfl
theorem o9 : compRes X9.P Try.f9.results.toList = some O9 := by kernel_rfl
theorem v9 : X9.vs = [0, 1, 2, 3, 4, 5, 6, 11, 21, 26] := rfl
theorem p9 : X9.P = Try.prog := rfl
theorem exactSafe_ok (a : Node) (ha : a.ok) : FS Try.prog 9 [] [.agg a.c] (.bool true) [] := by
  refine FS.of (X := X9) (ac := A9) (os := O9) Try.func9 (by rfl) (by rfl) (by kernel_rfl) o9 (Nat.le_of_ble_eq_true rfl) ?_
  show AWP X9 A9 (Ends X9.vs O9 0 _ _) [.agg a.c, .tup [], .tup [], .tup [], .tup [], .tup [], .tup [], .tup [], .tup [], .tup []] []
  obtain ⟨Q, hQ⟩ : ∃ Q, Q = Ends X9.vs O9 0 (.bool true) [] := ⟨_, rfl⟩
  rw [← hQ]
  have fin : ∀ L σ vV, resVs O9 (look X9.vs L) σ = some [vV] → vV = (.bool true) → Q .ret L σ := by
    intro L σ vV h1 h2
    rw [hQ]
    exact Ends.is (.inl rfl) h1 (by simp only [packV, h2]) rfl
  refine awp_sr ?_
  simp only [go_sem, R9_0, v9, p9, Node.c]
  refine awp_sr ?_
  simp only [go_sem, R9_1, v9, p9]
  refine awp_sr ?_
  simp only [go_sem, R9_2, v9, p9, Node.c]
  refine run_see (szNode_ok a 1048576 (Nat.le_refl _) ha) false (Views.refl rfl) rfl (fun j hj => by first | omega | ((have hj0 : j = 0 := by omega); subst hj0; first | rfl | (simp only [Nat.add_zero, app_get, app_getk, sapp_get, sapp_getk, Nat.add_assoc, Nat.reduceAdd, List.getElem?_cons_zero, List.getElem?_cons_succ]; done) | simp)) (fun h => by cases h) ?_
  simp only [go_sem, v9, p9]
  refine awp_sr2 ?_
  simp only [go_sem, R9_3, v9, p9]
  refine awp_if rfl ?_ ?_
  · intro h1
    refine awp_sr ?_
    simp only [go_sem, R9_4, v9, p9]
    refine awp_ret ?_
    try simp only [go_sem]
    exact fin _ _ _ rfl rfl
  intro h1
  obtain ⟨-, h⟩ := left_pos h1
  refine awp_skip ?_
  simp only [go_sem]
  refine awp_sr ?_
  simp only [go_sem, R9_5, v9, p9, Node.c]
  refine run_see (toNode_ok a h) false (Views.refl rfl) rfl (fun j hj => by first | omega | ((have hj0 : j = 0 := by omega); subst hj0; first | rfl | (simp only [Nat.add_zero, app_get, app_getk, sapp_get, sapp_getk, Nat.add_assoc, Nat.reduceAdd, List.getElem?_cons_zero, List.getElem?_cons_succ]; done) | simp)) (fun h => by cases h) ?_
  simp only [go_sem, v9, p9]
  refine run_see (specSafe_ok a  h) false (Views.refl rfl) rfl (fun j hj => by first | omega | ((have hj0 : j = 0 := by omega); subst hj0; first | rfl | (simp only [Nat.add_zero, app_get, app_getk, sapp_get, sapp_getk, Nat.add_assoc, Nat.reduceAdd, List.getElem?_cons_zero, List.getElem?_cons_succ]; done) | simp)) (fun h => by cases h) ?_
  simp only [go_sem, v9, p9]
  refine awp_sr ?_
  simp only [go_sem, R9_6, v9, p9, Node.c]
  refine run_see (toNode_ok a h) false (Views.refl rfl) rfl (fun j hj => by first | omega | ((have hj0 : j = 0 := by omega); subst hj0; first | rfl | (simp only [Nat.add_zero, app_get, app_getk, sapp_get, sapp_getk, Nat.add_assoc, Nat.reduceAdd, List.getElem?_cons_zero, List.getElem?_cons_succ]; done) | simp)) (fun h => by cases h) ?_
  simp only [go_sem, v9, p9, Node.c]
  refine awp_sr ?_
  simp only [go_sem, R9_7, v9, p9, Node.c]
  refine run_see (implSafe_ok a  h) false (Views.refl rfl) rfl (fun j hj => by first | omega | ((have hj0 : j = 0 := by omega); subst hj0; first | rfl | (simp only [Nat.add_zero, app_get, app_getk, sapp_get, sapp_getk, Nat.add_assoc, Nat.reduceAdd, List.getElem?_cons_zero, List.getElem?_cons_succ]; done) | simp)) (fun h => by cases h) ?_
  simp only [go_sem, v9, p9]
  refine awp_sr2 ?_
  simp only [go_sem, R9_8, v9, p9]
  refine awp_if rfl ?_ ?_
  · intro h3; exact absurd rfl h3
  intro h3
  refine awp_skip ?_
  simp only [go_sem]
  refine awp_sd2 mixed rfl (by rfl) ?_
  simp only [go_sem, R9_10, v9, p9, Node.c]
  refine run_see (toNode_ok a h) false (Views.refl rfl) rfl (fun j hj => by first | omega | ((have hj0 : j = 0 := by omega); subst hj0; first | rfl | (simp only [Nat.add_zero, app_get, app_getk, sapp_get, sapp_getk, Nat.add_assoc, Nat.reduceAdd, List.getElem?_cons_zero, List.getElem?_cons_succ]; done) | simp)) (fun h => by cases h) ?_
  simp only [go_sem, v9, p9, Node.c]
  refine run_see (eqNode_ok a a h) false (Views.refl rfl) rfl (fun j hj => by first | omega | ((have hj0 : j = 0 := by omega); subst hj0; first | rfl | (simp only [Nat.add_zero, app_get, app_getk, sapp_get, sapp_getk, Nat.add_assoc, Nat.reduceAdd, List.getElem?_cons_zero, List.getElem?_cons_succ]; done) | simp)) (fun h => by cases h) ?_
  simp only [go_sem, v9, p9]
  refine awp_no rfl ?_
  refine awp_skip ?_
  simp only [go_sem]
  refine awp_sr ?_
  simp only [go_sem, R9_12, v9, p9]
  refine awp_ret ?_
  try simp only [go_sem]
  exact fin _ _ _ rfl rfl
end Go.Proofs.Ytffigokicddekaa.Abs
