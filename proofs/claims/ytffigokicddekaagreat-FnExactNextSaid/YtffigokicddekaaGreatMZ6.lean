/- What a right node is, walked in both texts. No condition. -/
import Derived.Test.YtffigokicddekaaGreatMZ5
set_option linter.unusedVariables false
set_option linter.unusedSimpArgs false
set_option maxRecDepth 10000
namespace Go.Proofs.YtffigokicddekaaGreat.Abs
open Go Go.Proofs
def R43_0 : List AR := [⟨(some 1), none, 0, (.box 0 19 (.t 0))⟩, ⟨(some 2), none, 0, (.mov (.k (.bool false)))⟩]
def R43_1 : List AR := [⟨(some 6), none, 0, (.faddr 1 (.t 1))⟩, ⟨(some 7), none, 0, (.load 1 false (.t 6))⟩, ⟨(some 8), none, 0, (.call false 0 0 52 [(.t 7), (.k (.int .i64 1)), (.k (.int .i64 5))])⟩, ⟨(some 9), none, 0, (.not (.t 8))⟩, ⟨(some 10), none, 0, (.mov (.t 9))⟩, ⟨(some 11), (some (10, false)), 0, (.faddr 0 (.t 1))⟩, ⟨(some 12), (some (10, false)), 0, (.load 1 false (.t 11))⟩, ⟨(some 13), (some (10, false)), 0, (.faddr 1 (.t 1))⟩, ⟨(some 14), (some (10, false)), 0, (.load 1 false (.t 13))⟩, ⟨(some 15), (some (10, false)), 0, (.bin .sub (.t 14) (.k (.int .i64 1)))⟩, ⟨(some 16), (some (10, false)), 0, (.call false 0 0 52 [(.t 12), (.k (.int .i64 0)), (.t 15)])⟩, ⟨(some 17), (some (10, false)), 0, (.not (.t 16))⟩, ⟨(some 18), none, 0, (.pick (.t 10) (.k (.bool true)) (.t 17))⟩, ⟨(some 19), none, 0, (.mov (.t 18))⟩, ⟨(some 20), (some (19, false)), 0, (.faddr 2 (.t 1))⟩, ⟨(some 21), (some (19, false)), 0, (.load 2 true (.t 20))⟩, ⟨(some 22), (some (19, false)), 0, (.call false 0 0 94 [(.t 21)])⟩, ⟨(some 23), (some (19, false)), 0, (.not (.t 22))⟩, ⟨(some 24), none, 0, (.pick (.t 19) (.k (.bool true)) (.t 23))⟩, ⟨(some 25), none, 0, (.mov (.t 24))⟩, ⟨(some 26), (some (25, false)), 0, (.faddr 4 (.t 1))⟩, ⟨(some 27), (some (25, false)), 0, (.load 2 true (.t 26))⟩, ⟨(some 28), (some (25, false)), 0, (.faddr 2 (.t 1))⟩, ⟨(some 29), (some (25, false)), 0, (.load 2 true (.t 28))⟩, ⟨(some 30), (some (25, false)), 0, (.call false 0 0 53 [(.t 29)])⟩, ⟨(some 31), (some (25, false)), 0, (.call false 0 0 88 [(.t 27), (.t 30)])⟩, ⟨(some 32), (some (25, false)), 0, (.not (.t 31))⟩, ⟨(some 33), none, 0, (.pick (.t 25) (.k (.bool true)) (.t 32))⟩, ⟨(some 34), none, 0, (.mov (.t 33))⟩, ⟨(some 35), (some (34, false)), 0, (.faddr 6 (.t 1))⟩, ⟨(some 36), (some (34, false)), 0, (.load 3 true (.t 35))⟩, ⟨(some 37), (some (34, false)), 0, (.call false 0 0 95 [(.t 36)])⟩, ⟨(some 38), (some (34, false)), 0, (.not (.t 37))⟩, ⟨(some 39), none, 0, (.pick (.t 34) (.k (.bool true)) (.t 38))⟩]
def R43_2 : List AR := [⟨(some 2), none, 0, (.mov (.k (.bool false)))⟩]
def R43_3 : List AR := [⟨(some 40), none, 0, (.faddr 9 (.t 1))⟩, ⟨(some 41), none, 0, (.load 1 false (.t 40))⟩, ⟨(some 42), none, 0, (.faddr 1 (.t 1))⟩, ⟨(some 43), none, 0, (.load 1 false (.t 42))⟩, ⟨(some 44), none, 0, (.call false 0 0 96 [(.t 41), (.t 43)])⟩, ⟨(some 45), none, 0, (.not (.t 44))⟩, ⟨(some 46), none, 0, (.mov (.t 45))⟩, ⟨(some 47), (some (46, false)), 0, (.faddr 10 (.t 1))⟩, ⟨(some 48), (some (46, false)), 0, (.load 1 false (.t 47))⟩, ⟨(some 49), (some (46, false)), 0, (.faddr 1 (.t 1))⟩, ⟨(some 50), (some (46, false)), 0, (.load 1 false (.t 49))⟩, ⟨(some 51), (some (46, false)), 0, (.call false 0 0 96 [(.t 48), (.t 50)])⟩, ⟨(some 52), (some (46, false)), 0, (.not (.t 51))⟩, ⟨(some 53), none, 0, (.pick (.t 46) (.k (.bool true)) (.t 52))⟩, ⟨(some 54), none, 0, (.mov (.t 53))⟩, ⟨(some 55), (some (54, false)), 0, (.faddr 9 (.t 1))⟩, ⟨(some 56), (some (54, false)), 0, (.load 1 false (.t 55))⟩, ⟨(some 57), (some (54, false)), 0, (.faddr 0 (.t 1))⟩, ⟨(some 58), (some (54, false)), 0, (.load 1 false (.t 57))⟩, ⟨(some 59), (some (54, false)), 0, (.iaddr 1 (.t 56) (.t 58))⟩, ⟨(some 60), (some (54, false)), 0, (.load 1 false (.t 59))⟩, ⟨(some 61), (some (54, false)), 0, (.faddr 6 (.t 1))⟩, ⟨(some 62), (some (54, false)), 0, (.load 3 true (.t 61))⟩, ⟨(some 63), (some (54, false)), 0, (.call false 0 0 76 [(.t 62)])⟩, ⟨(some 64), (some (54, false)), 0, (.bin .neq (.t 60) (.t 63))⟩, ⟨(some 65), none, 0, (.pick (.t 54) (.k (.bool true)) (.t 64))⟩, ⟨(some 66), none, 0, (.mov (.t 65))⟩, ⟨(some 67), (some (66, false)), 0, (.faddr 11 (.t 1))⟩, ⟨(some 68), (some (66, false)), 0, (.load 1 false (.t 67))⟩, ⟨(some 69), (some (66, false)), 0, (.faddr 1 (.t 1))⟩, ⟨(some 70), (some (66, false)), 0, (.load 1 false (.t 69))⟩, ⟨(some 71), (some (66, false)), 0, (.call false 0 0 97 [(.t 68), (.t 70)])⟩, ⟨(some 72), (some (66, false)), 0, (.not (.t 71))⟩, ⟨(some 73), none, 0, (.pick (.t 66) (.k (.bool true)) (.t 72))⟩]
def R43_4 : List AR := [⟨(some 2), none, 0, (.mov (.k (.bool false)))⟩]
def R43_5 : List AR := [⟨(some 3), none, 0, (.mov (.k (.int .i64 0)))⟩]
def R43_6 : List AR := [⟨(some 74), none, 0, (.mov (.t 3))⟩, ⟨(some 75), none, 0, (.faddr 1 (.t 1))⟩, ⟨(some 76), none, 0, (.load 1 false (.t 75))⟩, ⟨(some 77), none, 0, (.bin .lss (.t 74) (.t 76))⟩]
def R43_7 : List AR := [⟨(some 80), none, 0, (.faddr 10 (.t 1))⟩, ⟨(some 81), none, 0, (.load 1 false (.t 80))⟩, ⟨(some 82), none, 0, (.mov (.t 3))⟩, ⟨(some 83), none, 0, (.iaddr 1 (.t 81) (.t 82))⟩, ⟨(some 84), none, 0, (.load 1 false (.t 83))⟩, ⟨(some 85), none, 0, (.faddr 6 (.t 1))⟩, ⟨(some 86), none, 0, (.load 3 true (.t 85))⟩, ⟨(some 87), none, 0, (.call false 0 0 76 [(.t 86)])⟩, ⟨(some 88), none, 0, (.bin .gtr (.t 84) (.t 87))⟩]
def R43_8 : List AR := [⟨(some 2), none, 0, (.mov (.k (.bool false)))⟩]
def R43_9 : List AR := [⟨(some 78), none, 0, (.mov (.t 3))⟩, ⟨(some 79), none, 0, (.bin .add (.t 78) (.k (.int .i64 1)))⟩, ⟨(some 3), none, 0, (.mov (.t 79))⟩]
def A43_0 : AC := (.seq (.block 1 (.seq (.draw 0 R43_7) (.cond (.t 88) (.seq (.reg 0 R43_8) .ret) .skip))) (.reg 0 R43_9))
def L43_0 : AC := (.seq (.seq (.reg 0 R43_6) (.cond (.t 77) .skip (.exit 0))) A43_0)
def R43_10 : List AR := [⟨(some 89), none, 0, (.faddr 12 (.t 1))⟩, ⟨(some 90), none, 0, (.load 1 false (.t 89))⟩, ⟨(some 91), none, 0, (.call false 0 0 52 [(.t 90), (.k (.int .i64 0)), (.k (.int .i64 100000))])⟩, ⟨(some 92), none, 0, (.not (.t 91))⟩, ⟨(some 93), none, 0, (.mov (.t 92))⟩, ⟨(some 94), (some (93, false)), 0, (.faddr 17 (.t 1))⟩, ⟨(some 95), (some (93, false)), 0, (.load 1 false (.t 94))⟩, ⟨(some 96), (some (93, false)), 0, (.call false 0 0 52 [(.t 95), (.k (.int .i64 0)), (.k (.int .i64 100000))])⟩, ⟨(some 97), (some (93, false)), 0, (.not (.t 96))⟩, ⟨(some 98), none, 0, (.pick (.t 93) (.k (.bool true)) (.t 97))⟩, ⟨(some 99), none, 0, (.mov (.t 98))⟩, ⟨(some 100), (some (99, false)), 0, (.faddr 13 (.t 1))⟩, ⟨(some 101), (some (99, false)), 0, (.load 1 false (.t 100))⟩, ⟨(some 102), (some (99, false)), 0, (.call false 0 0 52 [(.t 101), (.k (.int .i64 1)), (.k (.int .i64 4))])⟩, ⟨(some 103), (some (99, false)), 0, (.not (.t 102))⟩, ⟨(some 104), none, 0, (.pick (.t 99) (.k (.bool true)) (.t 103))⟩, ⟨(some 105), none, 0, (.mov (.t 104))⟩, ⟨(some 106), (some (105, false)), 0, (.faddr 15 (.t 1))⟩, ⟨(some 107), (some (105, false)), 0, (.load 1 false (.t 106))⟩, ⟨(some 108), (some (105, false)), 0, (.call false 0 0 52 [(.t 107), (.k (.int .i64 1)), (.k (.int .i64 20))])⟩, ⟨(some 109), (some (105, false)), 0, (.not (.t 108))⟩, ⟨(some 110), none, 0, (.pick (.t 105) (.k (.bool true)) (.t 109))⟩, ⟨(some 111), none, 0, (.mov (.t 110))⟩, ⟨(some 112), (some (111, false)), 0, (.faddr 16 (.t 1))⟩, ⟨(some 113), (some (111, false)), 0, (.load 1 false (.t 112))⟩, ⟨(some 114), (some (111, false)), 0, (.call false 0 0 52 [(.t 113), (.k (.int .i64 1)), (.k (.int .i64 50))])⟩, ⟨(some 115), (some (111, false)), 0, (.not (.t 114))⟩, ⟨(some 116), none, 0, (.pick (.t 111) (.k (.bool true)) (.t 115))⟩, ⟨(some 117), none, 0, (.mov (.t 116))⟩, ⟨(some 118), (some (117, false)), 0, (.faddr 18 (.t 1))⟩, ⟨(some 119), (some (117, false)), 0, (.load 1 false (.t 118))⟩, ⟨(some 120), (some (117, false)), 0, (.len (.t 119))⟩, ⟨(some 121), (some (117, false)), 0, (.bin .neq (.t 120) (.k (.int .i64 5)))⟩, ⟨(some 122), none, 0, (.pick (.t 117) (.k (.bool true)) (.t 121))⟩]
def R43_11 : List AR := [⟨(some 2), none, 0, (.mov (.k (.bool false)))⟩]
def R43_12 : List AR := [⟨(some 4), none, 0, (.mov (.k (.int .i64 0)))⟩]
def R43_13 : List AR := [⟨(some 123), none, 0, (.mov (.t 4))⟩, ⟨(some 124), none, 0, (.bin .lss (.t 123) (.k (.int .i64 5)))⟩]
def R43_14 : List AR := [⟨(some 127), none, 0, (.faddr 18 (.t 1))⟩, ⟨(some 128), none, 0, (.load 1 false (.t 127))⟩, ⟨(some 129), none, 0, (.mov (.t 4))⟩, ⟨(some 130), none, 0, (.iaddr 3 (.t 128) (.t 129))⟩, ⟨(some 131), none, 0, (.load 3 true (.t 130))⟩, ⟨(some 5), none, 0, (.alloc 0 3 [(.int .i64 0), (.int .i64 0), (.int .i64 0)])⟩, ⟨none, none, 0, (.store 3 (.t 5) (.t 131))⟩]
def R43_15 : List AR := [⟨(some 132), none, 0, (.faddr 0 (.t 5))⟩, ⟨(some 133), none, 0, (.load 1 false (.t 132))⟩, ⟨(some 134), none, 0, (.call false 0 0 52 [(.t 133), (.k (.int .i64 0)), (.k (.int .i64 1000))])⟩, ⟨(some 135), none, 0, (.not (.t 134))⟩, ⟨(some 136), none, 0, (.mov (.t 135))⟩, ⟨(some 137), (some (136, false)), 0, (.faddr 1 (.t 5))⟩, ⟨(some 138), (some (136, false)), 0, (.load 1 false (.t 137))⟩, ⟨(some 139), (some (136, false)), 0, (.call false 0 0 52 [(.t 138), (.k (.int .i64 0)), (.k (.int .i64 100000))])⟩, ⟨(some 140), (some (136, false)), 0, (.not (.t 139))⟩, ⟨(some 141), none, 0, (.pick (.t 136) (.k (.bool true)) (.t 140))⟩, ⟨(some 142), none, 0, (.mov (.t 141))⟩, ⟨(some 143), (some (142, false)), 0, (.faddr 2 (.t 5))⟩, ⟨(some 144), (some (142, false)), 0, (.load 1 false (.t 143))⟩, ⟨(some 145), (some (142, false)), 0, (.faddr 17 (.t 1))⟩, ⟨(some 146), (some (142, false)), 0, (.load 1 false (.t 145))⟩, ⟨(some 147), (some (142, false)), 0, (.call false 0 0 52 [(.t 144), (.k (.int .i64 0)), (.t 146)])⟩, ⟨(some 148), (some (142, false)), 0, (.not (.t 147))⟩, ⟨(some 149), none, 0, (.pick (.t 142) (.k (.bool true)) (.t 148))⟩]
def R43_16 : List AR := [⟨(some 2), none, 0, (.mov (.k (.bool false)))⟩]
def A43_1 : AC := (.seq (.reg 0 R43_15) (.cond (.t 149) (.seq (.reg 0 R43_16) .ret) .skip))
def R43_17 : List AR := [⟨(some 125), none, 0, (.mov (.t 4))⟩, ⟨(some 126), none, 0, (.bin .add (.t 125) (.k (.int .i64 1)))⟩, ⟨(some 4), none, 0, (.mov (.t 126))⟩]
def A43_2 : AC := (.seq (.block 3 (.seq (.reg 1 R43_14) A43_1)) (.reg 0 R43_17))
def L43_1 : AC := (.seq (.seq (.reg 0 R43_13) (.cond (.t 124) .skip (.exit 2))) A43_2)
def R43_18 : List AR := [⟨(some 150), none, 0, (.load 19 true (.t 1))⟩, ⟨(some 151), none, 0, (.call false 0 0 98 [(.t 150)])⟩, ⟨(some 2), none, 0, (.mov (.t 151))⟩]
def A43_3 : AC := (.seq (.reg 0 R43_18) .ret)
def A43_4 : AC := (.seq (.seq (.reg 0 R43_12) (.block 2 (.loop L43_1))) A43_3)
def A43_5 : AC := (.seq (.seq (.reg 0 R43_10) (.cond (.t 122) (.seq (.reg 0 R43_11) .ret) .skip)) A43_4)
def A43_6 : AC := (.seq (.seq (.reg 0 R43_5) (.block 0 (.loop L43_0))) A43_5)
def A43_7 : AC := (.seq (.seq (.draw 0 R43_3) (.cond (.t 73) (.seq (.reg 0 R43_4) .ret) .skip)) A43_6)
def A43_8 : AC := (.seq (.seq (.draw 0 R43_1) (.cond (.t 39) (.seq (.reg 0 R43_2) .ret) .skip)) A43_7)
def A43 : AC := (.seq (.reg 1 R43_0) A43_8)
def O43 : List AO := [(.mov (.t 2))]
def G43 : Fns := ⟨fun f => false, fun f => 0, false⟩
noncomputable def X43 : Cx := ⟨Tryz.prog, G43, drawD, 152, [0, 1, 2, 3, 4, 5, 39, 73, 77, 88, 122, 124, 149]⟩
theorem c43 : (Tryz.f43.body).bind (compC X43.P X43.Γ X43.D X43.nt) = some A43 := by kernel_rfl
theorem o43 : compRes X43.P Tryz.f43.results.toList = some O43 := by kernel_rfl
theorem v43 : X43.vs = [0, 1, 2, 3, 4, 5, 39, 73, 77, 88, 122, 124, 149] := rfl
theorem p43 : X43.P = Tryz.prog := rfl
set_option maxHeartbeats 8000000 in
theorem specNodeOk_ok (n : Node) (h0 : n.sz ≤ 1048576) : FS Tryz.prog 43 [] [.agg n.c] (.bool (decide n.Right)) [] := by
  refine FS.of (X := X43) (ac := A43) (os := O43) Tryz.func43 (by rfl) (by rfl) (by kernel_rfl) o43 (Nat.le_of_ble_eq_true rfl) ?_
  show AWP X43 A43 (Ends X43.vs O43 0 _ _) [.agg n.c, .tup [], .tup [], .tup [], .tup [], .tup [], .tup [], .tup [], .tup [], .tup [], .tup [], .tup [], .tup []] []
  obtain ⟨Q, hQ⟩ : ∃ Q, Q = Ends X43.vs O43 0 (.bool (decide n.Right)) [] := ⟨_, rfl⟩
  rw [← hQ]
  have h := Node.small h0
  have fin : ∀ L σ vV, resVs O43 (look X43.vs L) σ = some [vV] → vV = (.bool (decide n.Right)) → Q .ret L σ := by
    intro L σ vV h1 h2
    rw [hQ]
    exact Ends.is (.inl rfl) h1 (by simp only [packV, h2]) rfl
  refine awp_sr ?_
  simp only [go_sem, R43_0, v43, p43, Node.c]
  refine (fun G : AWP X43 _ _ _ [.live ⟨19, [n.c]⟩] => G) ?_
  obtain ⟨K1, hK1⟩ : ∃ K : List V → Store → Prop, K = fun L σ => ∃ q y0 y2 y3 y4 y5 y73 y77 y88 y122 y124 y149, L = [y0, .ptr 0 19 0 0, y2, y3, y4, y5, .bool q, y73, y77, y88, y122, y124, y149] ∧ σ = [.live ⟨19, [n.c]⟩] ∧ q = !decide (n.A ∧ n.log.Right) := ⟨_, rfl⟩
  refine awp_sd2K (K1) mixed rfl (by rfl) ?_ ?_
  · simp only [go_sem, R43_1, v43, p43, Node.c]
    refine run_see (l1In_ok _ _ _) false (Views.refl rfl) rfl (fun j hj => by first | omega | ((have hj0 : j = 0 := by omega); subst hj0; first | rfl | (simp only [Nat.add_zero, app_get, app_getk, sapp_get, sapp_getk, Nat.add_assoc, Nat.reduceAdd, List.getElem?_cons_zero, List.getElem?_cons_succ]; done) | simp)) (fun h => by cases h) ?_
    simp only [go_sem, v43, p43]
    by_cases b1 : 1 ≤ n.n ∧ n.n ≤ 5
    · simp only [go_sem, v43, p43, eq_true b1, Node.c, wrap_i64 (n := n.n - 1) (by omega) (by omega)]
      refine run_see (l1In_ok _ _ _) false (Views.refl rfl) rfl (fun j hj => by first | omega | ((have hj0 : j = 0 := by omega); subst hj0; first | rfl | (simp only [Nat.add_zero, app_get, app_getk, sapp_get, sapp_getk, Nat.add_assoc, Nat.reduceAdd, List.getElem?_cons_zero, List.getElem?_cons_succ]; done) | simp)) (fun h => by cases h) ?_
      simp only [go_sem, v43, p43]
      by_cases b2 : 0 ≤ n.id ∧ n.id ≤ n.n - 1
      · simp only [go_sem, v43, p43, eq_true b2, Node.c]
        refine run_see (specStateOk_ok n.state h.st) false (Views.refl rfl) rfl (fun j hj => by first | omega | ((have hj0 : j = 0 := by omega); subst hj0; first | rfl | (simp only [Nat.add_zero, app_get, app_getk, sapp_get, sapp_getk, Nat.add_assoc, Nat.reduceAdd, List.getElem?_cons_zero, List.getElem?_cons_succ]; done) | simp)) (fun h => by cases h) ?_
        simp only [go_sem, v43, p43]
        by_cases b3 : n.state.Right
        · simp only [go_sem, v43, p43, eq_true b3, Node.c]
          refine run_see (specTreeOf_ok n.state h.st) false (Views.refl rfl) rfl (fun j hj => by first | omega | ((have hj0 : j = 0 := by omega); subst hj0; first | rfl | (simp only [Nat.add_zero, app_get, app_getk, sapp_get, sapp_getk, Nat.add_assoc, Nat.reduceAdd, List.getElem?_cons_zero, List.getElem?_cons_succ]; done) | simp)) (fun h => by cases h) ?_
          simp only [go_sem, v43, p43]
          refine run_see (specL11Tree_ok n.tree (treeOf n.state) h.tr) false (Views.refl rfl) rfl (fun j hj => by first | omega | ((have hj0 : j = 0 := by omega); subst hj0; first | rfl | (simp only [Nat.add_zero, app_get, app_getk, sapp_get, sapp_getk, Nat.add_assoc, Nat.reduceAdd, List.getElem?_cons_zero, List.getElem?_cons_succ]; done) | simp)) (fun h => by cases h) ?_
          simp only [go_sem, v43, p43]
          by_cases b4 : n.tree = treeOf n.state
          · simp only [go_sem, v43, p43, eq_true b4, Node.c]
            refine run_see (specLogOk_ok n.log h.lg) false (Views.refl rfl) rfl (fun j hj => by first | omega | ((have hj0 : j = 0 := by omega); subst hj0; first | rfl | (simp only [Nat.add_zero, app_get, app_getk, sapp_get, sapp_getk, Nat.add_assoc, Nat.reduceAdd, List.getElem?_cons_zero, List.getElem?_cons_succ]; done) | simp)) (fun h => by cases h) ?_
            simp only [go_sem, v43, p43]
            rw [hK1]
            refine ⟨_, _, _, _, _, _, _, _, _, _, _, _, rfl, rfl, ?_⟩
            grind [Node.A]
          · simp only [go_sem, v43, p43, eq_false b4, Node.c]
            rw [hK1]
            refine ⟨_, _, _, _, _, _, _, _, _, _, _, _, rfl, rfl, ?_⟩
            grind [Node.A]
        · simp only [go_sem, v43, p43, eq_false b3, Node.c]
          rw [hK1]
          refine ⟨_, _, _, _, _, _, _, _, _, _, _, _, rfl, rfl, ?_⟩
          grind [Node.A]
      · simp only [go_sem, v43, p43, eq_false b2, Node.c]
        rw [hK1]
        refine ⟨_, _, _, _, _, _, _, _, _, _, _, _, rfl, rfl, ?_⟩
        grind [Node.A]
    · simp only [go_sem, v43, p43, eq_false b1, Node.c]
      rw [hK1]
      refine ⟨_, _, _, _, _, _, _, _, _, _, _, _, rfl, rfl, ?_⟩
      grind [Node.A]
  intro L σ hq
  rw [hK1] at hq
  obtain ⟨q, y0, y2, y3, y4, y5, y73, y77, y88, y122, y124, y149, rfl, rfl, hq⟩ := hq
  subst hq
  refine awp_if' rfl ?_ ?_
  · intro h1
    refine awp_sr ?_
    simp only [go_sem, R43_2, v43, p43]
    refine awp_ret ?_
    try simp only [go_sem]
    exact fin _ _ (.bool false) rfl (congrArg V.bool (decide_eq_false fun e => h1 ⟨e.a, e.l⟩)).symm
  intro h1
  obtain ⟨⟨a1, a2, a3, a4⟩, a5⟩ := id h1
  refine awp_skip ?_
  simp only [go_sem]
  obtain ⟨K2, hK2⟩ : ∃ K : List V → Store → Prop, K = fun L σ => ∃ q y0 y2 y3 y4 y5 y39 y77 y88 y122 y124 y149, L = [y0, .ptr 0 19 0 0, y2, y3, y4, y5, y39, .bool q, y77, y88, y122, y124, y149] ∧ σ = [.live ⟨19, [n.c]⟩] ∧ q = !decide (n.B ∧ tableR n.seen n.n) := ⟨_, rfl⟩
  refine awp_sd2K (K2) mixed rfl (by rfl) ?_ ?_
  · simp only [go_sem, R43_3, v43, p43, Node.c]
    refine run_see (specVecOk_ok n.got n.n h.gt) false (Views.refl rfl) rfl (fun j hj => by first | omega | ((have hj0 : j = 0 := by omega); subst hj0; first | rfl | (simp only [Nat.add_zero, app_get, app_getk, sapp_get, sapp_getk, Nat.add_assoc, Nat.reduceAdd, List.getElem?_cons_zero, List.getElem?_cons_succ]; done) | simp)) (fun h => by cases h) ?_
    simp only [go_sem, v43, p43]
    by_cases b1 : vecR n.got n.n
    · have hid : n.id.toNat < n.got.length := by have := b1.2.1; omega
      have hg := getD_at hid
      have hid0 : 0 ≤ n.id := a2.1
      simp only [go_sem, v43, p43, eq_true b1, Node.c]
      refine run_see (specVecOk_ok n.acked n.n h.ak) false (Views.refl rfl) rfl (fun j hj => by first | omega | ((have hj0 : j = 0 := by omega); subst hj0; first | rfl | (simp only [Nat.add_zero, app_get, app_getk, sapp_get, sapp_getk, Nat.add_assoc, Nat.reduceAdd, List.getElem?_cons_zero, List.getElem?_cons_succ]; done) | simp)) (fun h => by cases h) ?_
      simp only [go_sem, v43, p43]
      by_cases b2 : vecR n.acked n.n
      · simp only [go_sem, v43, p43, eq_true b2, Node.c, rw_at _ hid, intC, eq_true hid0]
        refine run_see (specLogSeq_ok n.log h.lg) false (Views.refl rfl) rfl (fun j hj => by first | omega | ((have hj0 : j = 0 := by omega); subst hj0; first | rfl | (simp only [Nat.add_zero, app_get, app_getk, sapp_get, sapp_getk, Nat.add_assoc, Nat.reduceAdd, List.getElem?_cons_zero, List.getElem?_cons_succ]; done) | simp)) (fun h => by cases h) ?_
        simp only [go_sem, v43, p43]
        by_cases b3 : n.got[n.id.toNat] = logSeq n.log
        · simp only [go_sem, v43, p43, eq_true b3, Node.c, ne_eq]
          refine run_see (specTableOk_ok n.seen n.n h.sn) false (Views.refl rfl) rfl (fun j hj => by first | omega | ((have hj0 : j = 0 := by omega); subst hj0; first | rfl | (simp only [Nat.add_zero, app_get, app_getk, sapp_get, sapp_getk, Nat.add_assoc, Nat.reduceAdd, List.getElem?_cons_zero, List.getElem?_cons_succ]; done) | simp)) (fun h => by cases h) ?_
          simp only [go_sem, v43, p43]
          rw [hK2]
          refine ⟨_, _, _, _, _, _, _, _, _, _, _, _, rfl, rfl, ?_⟩
          grind [Node.B]
        · simp only [go_sem, v43, p43, eq_false b3, Node.c, ne_eq]
          rw [hK2]
          refine ⟨_, _, _, _, _, _, _, _, _, _, _, _, rfl, rfl, ?_⟩
          grind [Node.B]
      · simp only [go_sem, v43, p43, eq_false b2, Node.c]
        rw [hK2]
        refine ⟨_, _, _, _, _, _, _, _, _, _, _, _, rfl, rfl, ?_⟩
        grind [Node.B]
    · simp only [go_sem, v43, p43, eq_false b1, Node.c]
      rw [hK2]
      refine ⟨_, _, _, _, _, _, _, _, _, _, _, _, rfl, rfl, ?_⟩
      grind [Node.B]
  intro L σ hq
  rw [hK2] at hq
  obtain ⟨q, y0, y2, y3, y4, y5, y39, y77, y88, y122, y124, y149, rfl, rfl, hq⟩ := hq
  subst hq
  refine awp_if' rfl ?_ ?_
  · intro h2
    refine awp_sr ?_
    simp only [go_sem, R43_4, v43, p43]
    refine awp_ret ?_
    try simp only [go_sem]
    exact fin _ _ (.bool false) rfl (congrArg V.bool (decide_eq_false fun e => h2 ⟨e.b, e.t⟩)).symm
  intro h2
  have hak : (n.acked.length : Int) = n.n := h2.1.2.1.2.1
  refine awp_skip ?_
  simp only [go_sem]
  refine awp_sr2 ?_
  simp only [go_sem, R43_5, v43, p43]
  obtain ⟨I, hI⟩ : ∃ I : Nat → List V → Store → Prop, I = fun mM L σ => ∃ i rest y0 y2 y4 y5 y39 y73 y77 y88 y122 y124 y149, mM = n.acked.length - i ∧ i ≤ n.acked.length ∧ (∀ j x, j < i → n.acked[j]? = some x → x ≤ logSeq n.log) ∧ L = [y0, .ptr 0 19 0 0, y2, .int .i64 (i : Nat), y4, y5, y39, y73, y77, y88, y122, y124, y149] ∧ σ = .live ⟨19, [n.c]⟩ :: rest := ⟨_, rfl⟩
  first | refine awp_for I n.acked.length ?_ ?_ | refine awp_seq (awp_for I n.acked.length ?_ ?_)
  · rw [hI]; refine ⟨0, _, _, _, _, _, _, _, _, _, _, _, _, rfl, Nat.zero_le _, ?_, rfl, rfl⟩
    intro j x h; omega
  intro mM L σ hIn
  rw [hI] at hIn
  obtain ⟨i, rest, y0, y2, y4, y5, y39, y73, y77, y88, y122, y124, y149, rfl, hi, hP, rfl, rfl⟩ := hIn
  refine awp_sr2 ?_
  simp only [go_sem, R43_6, v43, p43, Node.c]
  refine awp_if rfl ?_ ?_
  · intro h3
    have h3 : i < n.acked.length := by omega
    refine awp_skip ?_
    simp only [go_sem]
    first | refine awp_block ?_ | refine awp_seq (awp_block ?_)
    refine awp_sd mixed rfl (by rfl) ?_
    simp only [go_sem, R43_7, v43, p43, Node.c, rw_at _ h3, intC]
    refine run_see (specLogSeq_ok n.log h.lg) false (Views.refl rfl) rfl (fun j hj => by first | omega | ((have hj0 : j = 0 := by omega); subst hj0; first | rfl | (simp only [Nat.add_zero, app_get, app_getk, sapp_get, sapp_getk, Nat.add_assoc, Nat.reduceAdd, List.getElem?_cons_zero, List.getElem?_cons_succ]; done) | simp)) (fun h => by cases h) ?_
    simp only [go_sem, v43, p43]
    refine awp_if rfl ?_ ?_
    · intro h4
      refine awp_sr ?_
      simp only [go_sem, R43_8, v43, p43]
      refine awp_ret ?_
      try simp only [go_sem]
      exact fin _ _ (.bool false) rfl (congrArg V.bool (decide_eq_false fun e => by have := e.c i _ (List.getElem?_eq_getElem h3); omega)).symm
    · intro h4
      refine awp_skip ?_
      simp only [go_sem]
      refine awp_reg ?_
      simp only [go_sem, R43_9, v43, p43, wrap_succ (i := i) (by omega)]
      refine ⟨n.acked.length - (i + 1), by omega, ?_⟩
      rw [hI]
      refine ⟨i + 1, _, _, _, _, _, _, _, _, _, _, _, _, rfl, by omega, ?_, rfl, rfl⟩
      exact upto_succ (p := fun _ x => x ≤ logSeq n.log) hP h3 (by omega)
  intro h3
  refine awp_exit ?_
  simp only [go_sem]
  have hc : n.C := upto_all (p := fun _ x => x ≤ logSeq n.log) hP (by omega)
  clear hI hP
  obtain ⟨K3, hK3⟩ : ∃ K : List V → Store → Prop, K = fun L σ => ∃ q rest y0 y2 y3 y4 y5 y39 y73 y77 y88 y124 y149, L = [y0, .ptr 0 19 0 0, y2, y3, y4, y5, y39, y73, y77, y88, .bool q, y124, y149] ∧ σ = .live ⟨19, [n.c]⟩ :: rest ∧ q = !decide (n.D ∧ n.rises.length = 5) := ⟨_, rfl⟩
  refine awp_sr2K (K3) ?_ ?_
  · simp only [go_sem, R43_10, v43, p43, Node.c]
    repeat' first
      | (refine selP_if rfl (fun hG => ?_) (fun hG => ?_) <;> first | simp only [go_sem, v43, p43, eq_false hG, Node.c] | simp only [go_sem, v43, p43, eq_true hG, Node.c])
      | (refine selP_ifn rfl (fun hG => ?_) (fun hG => ?_) <;> first | simp only [go_sem, v43, p43, eq_false hG, Node.c] | simp only [go_sem, v43, p43, eq_true hG, Node.c])
      | (refine selN_if rfl (fun hG => ?_) (fun hG => ?_) <;> first | simp only [go_sem, v43, p43, eq_false hG, Node.c] | simp only [go_sem, v43, p43, eq_true hG, Node.c])
      | (refine selN_ifn rfl (fun hG => ?_) (fun hG => ?_) <;> first | simp only [go_sem, v43, p43, eq_false hG, Node.c] | simp only [go_sem, v43, p43, eq_true hG, Node.c])
      | (refine selB_if rfl (fun hG => ?_) (fun hG => ?_) <;> simp only [go_sem, v43, p43, hG, Node.c])
      | (refine selB_ifn rfl (fun hG => ?_) (fun hG => ?_) <;> simp only [go_sem, v43, p43, hG, Node.c])
      | (refine run_see (l1In_ok _ _ _) false (Views.refl rfl) rfl (fun j hj => by omega) (fun h => by cases h) ?_; simp only [go_sem, v43, p43, Node.c])
    all_goals rw [hK3]
    all_goals refine ⟨_, _, _, _, _, _, _, _, _, _, _, _, _, rfl, rfl, ?_⟩
    all_goals grind [Node.D]
  intro L σ hq
  rw [hK3] at hq
  obtain ⟨q, rest, y0, y2, y3, y4, y5, y39, y73, y77, y88, y124, y149, rfl, rfl, hq⟩ := hq
  subst hq
  refine awp_if' rfl ?_ ?_
  · intro h4
    refine awp_sr ?_
    simp only [go_sem, R43_11, v43, p43]
    refine awp_ret ?_
    try simp only [go_sem]
    exact fin _ _ (.bool false) rfl (congrArg V.bool (decide_eq_false fun e => h4 ⟨e.d, e.r.1⟩)).symm
  intro h4
  have hr5 := h4.2
  refine awp_skip ?_
  simp only [go_sem]
  refine awp_sr2 ?_
  simp only [go_sem, R43_12, v43, p43]
  obtain ⟨J, hJ⟩ : ∃ J : Nat → List V → Store → Prop, J = fun mM L σ => ∃ i rest y0 y2 y3 y5 y39 y73 y77 y88 y122 y124 y149, mM = n.rises.length - i ∧ i ≤ n.rises.length ∧ (∀ j x, j < i → n.rises[j]? = some x → riseP n.clock j x) ∧ L = [y0, .ptr 0 19 0 0, y2, y3, .int .i64 (i : Nat), y5, y39, y73, y77, y88, y122, y124, y149] ∧ σ = .live ⟨19, [n.c]⟩ :: rest := ⟨_, rfl⟩
  first | refine awp_for J n.rises.length ?_ ?_ | refine awp_seq (awp_for J n.rises.length ?_ ?_)
  · rw [hJ]; refine ⟨0, _, _, _, _, _, _, _, _, _, _, _, _, rfl, Nat.zero_le _, ?_, rfl, rfl⟩
    intro j x h; omega
  intro mM L σ hIn
  rw [hJ] at hIn
  obtain ⟨i, rest, y0, y2, y3, y5, y39, y73, y77, y88, y122, y124, y149, rfl, hi, hP, rfl, rfl⟩ := hIn
  refine awp_sr2 ?_
  simp only [go_sem, R43_13, v43, p43]
  refine awp_if rfl ?_ ?_
  · intro h5
    have h5 : i < n.rises.length := by omega
    refine awp_skip ?_
    simp only [go_sem]
    refine awp_seq (awp_block ?_)
    refine awp_sr ?_
    simp only [go_sem, R43_14, v43, p43, Node.c, rw_at _ h5, Rise.c]
    obtain ⟨K4, hK4⟩ : ∃ K : List V → Store → Prop, K = fun L σ => ∃ q rest y0 y2 y3 y5 y39 y73 y77 y88 y122 y124, L = [y0, .ptr 0 19 0 0, y2, y3, .int .i64 (i : Nat), y5, y39, y73, y77, y88, y122, y124, .bool q] ∧ σ = .live ⟨19, [n.c]⟩ :: rest ∧ q = !decide (riseP n.clock i n.rises[i]) := ⟨_, rfl⟩
    refine awp_srK (K4) ?_ ?_
    · simp only [go_sem, R43_15, v43, p43, Node.c, Rise.c]
      repeat' first
        | (refine selP_if rfl (fun hG => ?_) (fun hG => ?_) <;> first | simp only [go_sem, v43, p43, eq_false hG, Node.c, Rise.c] | simp only [go_sem, v43, p43, eq_true hG, Node.c, Rise.c])
        | (refine selP_ifn rfl (fun hG => ?_) (fun hG => ?_) <;> first | simp only [go_sem, v43, p43, eq_false hG, Node.c, Rise.c] | simp only [go_sem, v43, p43, eq_true hG, Node.c, Rise.c])
        | (refine selN_if rfl (fun hG => ?_) (fun hG => ?_) <;> first | simp only [go_sem, v43, p43, eq_false hG, Node.c, Rise.c] | simp only [go_sem, v43, p43, eq_true hG, Node.c, Rise.c])
        | (refine selN_ifn rfl (fun hG => ?_) (fun hG => ?_) <;> first | simp only [go_sem, v43, p43, eq_false hG, Node.c, Rise.c] | simp only [go_sem, v43, p43, eq_true hG, Node.c, Rise.c])
        | (refine selB_if rfl (fun hG => ?_) (fun hG => ?_) <;> simp only [go_sem, v43, p43, hG, Node.c, Rise.c])
        | (refine selB_ifn rfl (fun hG => ?_) (fun hG => ?_) <;> simp only [go_sem, v43, p43, hG, Node.c, Rise.c])
        | (refine run_see (l1In_ok _ _ _) false (Views.refl rfl) rfl (fun j hj => by omega) (fun h => by cases h) ?_; simp only [go_sem, v43, p43, Node.c, Rise.c])
      all_goals rw [hK4]
      all_goals refine ⟨_, _, _, _, _, _, _, _, _, _, _, _, rfl, rfl, ?_⟩
      all_goals grind [riseP]
    intro L σ hq
    rw [hK4] at hq
    obtain ⟨q, rest, y0, y2, y3, y5, y39, y73, y77, y88, y122, y124, rfl, rfl, hq⟩ := hq
    subst hq
    refine awp_if' rfl ?_ ?_
    · intro h6
      refine awp_sr ?_
      simp only [go_sem, R43_16, v43, p43]
      refine awp_ret ?_
      try simp only [go_sem]
      exact fin _ _ (.bool false) rfl (congrArg V.bool (decide_eq_false fun e => h6 (e.r.2 i _ (List.getElem?_eq_getElem h5)))).symm
    · intro h6
      refine awp_skip ?_
      simp only [go_sem]
      refine awp_reg ?_
      simp only [go_sem, R43_17, v43, p43, wrap_succ (i := i) (by omega)]
      refine ⟨n.rises.length - (i + 1), by omega, ?_⟩
      rw [hJ]
      refine ⟨i + 1, _, _, _, _, _, _, _, _, _, _, _, _, rfl, by omega, ?_, rfl, rfl⟩
      exact upto_succ hP h5 h6
  intro h5
  refine awp_exit ?_
  simp only [go_sem]
  have hr : risesR n := ⟨hr5, upto_all hP (by omega)⟩
  have key : n.Right ↔ sessR n := ⟨fun e => e.s, fun e => ⟨⟨a1, a2, a3, a4⟩, a5, h2.1, h2.2, hc, h4.1, hr, e⟩⟩
  refine awp_sr ?_
  simp only [go_sem, R43_18, v43, p43, Node.c]
  refine run_see (specL11Sess_ok n h.ss a1) false (Views.refl rfl) rfl (fun j hj => by first | omega | ((have hj0 : j = 0 := by omega); subst hj0; first | rfl | (simp only [Nat.add_zero, app_get, app_getk, sapp_get, sapp_getk, Nat.add_assoc, Nat.reduceAdd, List.getElem?_cons_zero, List.getElem?_cons_succ]; done) | simp)) (fun h => by cases h) ?_
  simp only [go_sem, v43, p43]
  refine awp_ret ?_
  try simp only [go_sem]
  refine fin _ _ _ rfl (congrArg V.bool ?_)
  grind
end Go.Proofs.YtffigokicddekaaGreat.Abs
/- What a right node is, walked in the program. No condition. -/
set_option linter.unusedVariables false
set_option linter.unusedSimpArgs false
set_option maxRecDepth 10000
namespace Go.Proofs.YtffigokicddekaaGreat.Abs
open Go Go.Proofs
def R20_0 : List AR := [⟨(some 1), none, 0, (.box 0 19 (.t 0))⟩, ⟨(some 2), none, 0, (.mov (.k (.bool false)))⟩]
def R20_1 : List AR := [⟨(some 4), none, 0, (.faddr 1 (.t 1))⟩, ⟨(some 5), none, 0, (.load 1 false (.t 4))⟩, ⟨(some 6), none, 0, (.call false 0 0 49 [(.t 5), (.k (.int .i64 1)), (.k (.int .i64 5))])⟩, ⟨(some 7), none, 0, (.not (.t 6))⟩, ⟨(some 8), none, 0, (.mov (.t 7))⟩, ⟨(some 9), (some (8, false)), 0, (.faddr 0 (.t 1))⟩, ⟨(some 10), (some (8, false)), 0, (.load 1 false (.t 9))⟩, ⟨(some 11), (some (8, false)), 0, (.faddr 1 (.t 1))⟩, ⟨(some 12), (some (8, false)), 0, (.load 1 false (.t 11))⟩, ⟨(some 13), (some (8, false)), 0, (.bin .sub (.t 12) (.k (.int .i64 1)))⟩, ⟨(some 14), (some (8, false)), 0, (.call false 0 0 49 [(.t 10), (.k (.int .i64 0)), (.t 13)])⟩, ⟨(some 15), (some (8, false)), 0, (.not (.t 14))⟩, ⟨(some 16), none, 0, (.pick (.t 8) (.k (.bool true)) (.t 15))⟩, ⟨(some 17), none, 0, (.mov (.t 16))⟩, ⟨(some 18), (some (17, false)), 0, (.faddr 2 (.t 1))⟩, ⟨(some 19), (some (17, false)), 0, (.load 2 true (.t 18))⟩, ⟨(some 20), (some (17, false)), 0, (.call false 0 0 63 [(.t 19)])⟩, ⟨(some 21), (some (17, false)), 0, (.not (.t 20))⟩, ⟨(some 22), none, 0, (.pick (.t 17) (.k (.bool true)) (.t 21))⟩, ⟨(some 23), none, 0, (.mov (.t 22))⟩, ⟨(some 24), (some (23, false)), 0, (.faddr 4 (.t 1))⟩, ⟨(some 25), (some (23, false)), 0, (.load 2 true (.t 24))⟩, ⟨(some 26), (some (23, false)), 0, (.faddr 2 (.t 1))⟩, ⟨(some 27), (some (23, false)), 0, (.load 2 true (.t 26))⟩, ⟨(some 28), (some (23, false)), 0, (.call false 0 0 50 [(.t 27)])⟩, ⟨(some 29), (some (23, false)), 0, (.call false 0 0 64 [(.t 25), (.t 28)])⟩, ⟨(some 30), (some (23, false)), 0, (.not (.t 29))⟩, ⟨(some 31), none, 0, (.pick (.t 23) (.k (.bool true)) (.t 30))⟩]
def R20_2 : List AR := [⟨(some 2), none, 0, (.mov (.k (.bool false)))⟩]
def R20_3 : List AR := [⟨(some 32), none, 0, (.faddr 6 (.t 1))⟩, ⟨(some 33), none, 0, (.load 3 true (.t 32))⟩, ⟨(some 34), none, 0, (.call false 0 0 22 [(.t 33)])⟩, ⟨(some 3), none, 0, (.mov (.t 34))⟩]
def R20_4 : List AR := [⟨(some 35), none, 0, (.faddr 6 (.t 1))⟩, ⟨(some 36), none, 0, (.load 3 true (.t 35))⟩, ⟨(some 37), none, 0, (.call false 0 0 65 [(.t 36)])⟩, ⟨(some 38), none, 0, (.not (.t 37))⟩, ⟨(some 39), none, 0, (.mov (.t 38))⟩, ⟨(some 40), (some (39, false)), 0, (.faddr 9 (.t 1))⟩, ⟨(some 41), (some (39, false)), 0, (.load 1 false (.t 40))⟩, ⟨(some 42), (some (39, false)), 0, (.faddr 1 (.t 1))⟩, ⟨(some 43), (some (39, false)), 0, (.load 1 false (.t 42))⟩, ⟨(some 44), (some (39, false)), 0, (.call false 0 0 66 [(.t 41), (.t 43)])⟩, ⟨(some 45), (some (39, false)), 0, (.not (.t 44))⟩, ⟨(some 46), none, 0, (.pick (.t 39) (.k (.bool true)) (.t 45))⟩, ⟨(some 47), none, 0, (.mov (.t 46))⟩, ⟨(some 48), (some (47, false)), 0, (.faddr 10 (.t 1))⟩, ⟨(some 49), (some (47, false)), 0, (.load 1 false (.t 48))⟩, ⟨(some 50), (some (47, false)), 0, (.faddr 1 (.t 1))⟩, ⟨(some 51), (some (47, false)), 0, (.load 1 false (.t 50))⟩, ⟨(some 52), (some (47, false)), 0, (.call false 0 0 66 [(.t 49), (.t 51)])⟩, ⟨(some 53), (some (47, false)), 0, (.not (.t 52))⟩, ⟨(some 54), none, 0, (.pick (.t 47) (.k (.bool true)) (.t 53))⟩, ⟨(some 55), none, 0, (.mov (.t 54))⟩, ⟨(some 56), (some (55, false)), 0, (.faddr 9 (.t 1))⟩, ⟨(some 57), (some (55, false)), 0, (.load 1 false (.t 56))⟩, ⟨(some 58), (some (55, false)), 0, (.faddr 0 (.t 1))⟩, ⟨(some 59), (some (55, false)), 0, (.load 1 false (.t 58))⟩, ⟨(some 60), (some (55, false)), 0, (.iaddr 1 (.t 57) (.t 59))⟩, ⟨(some 61), (some (55, false)), 0, (.load 1 false (.t 60))⟩, ⟨(some 62), (some (55, false)), 0, (.mov (.t 3))⟩, ⟨(some 63), (some (55, false)), 0, (.bin .neq (.t 61) (.t 62))⟩, ⟨(some 64), none, 0, (.pick (.t 55) (.k (.bool true)) (.t 63))⟩, ⟨(some 65), none, 0, (.mov (.t 64))⟩, ⟨(some 66), (some (65, false)), 0, (.faddr 10 (.t 1))⟩, ⟨(some 67), (some (65, false)), 0, (.load 1 false (.t 66))⟩, ⟨(some 68), (some (65, false)), 0, (.call false 0 0 67 [(.t 67)])⟩, ⟨(some 69), (some (65, false)), 0, (.mov (.t 3))⟩, ⟨(some 70), (some (65, false)), 0, (.bin .gtr (.t 68) (.t 69))⟩, ⟨(some 71), none, 0, (.pick (.t 65) (.k (.bool true)) (.t 70))⟩]
def R20_5 : List AR := [⟨(some 2), none, 0, (.mov (.k (.bool false)))⟩]
def R20_6 : List AR := [⟨(some 72), none, 0, (.faddr 11 (.t 1))⟩, ⟨(some 73), none, 0, (.load 1 false (.t 72))⟩, ⟨(some 74), none, 0, (.faddr 1 (.t 1))⟩, ⟨(some 75), none, 0, (.load 1 false (.t 74))⟩, ⟨(some 76), none, 0, (.call false 0 0 68 [(.t 73), (.t 75)])⟩, ⟨(some 77), none, 0, (.not (.t 76))⟩, ⟨(some 78), none, 0, (.mov (.t 77))⟩, ⟨(some 79), (some (78, false)), 0, (.faddr 12 (.t 1))⟩, ⟨(some 80), (some (78, false)), 0, (.load 1 false (.t 79))⟩, ⟨(some 81), (some (78, false)), 0, (.call false 0 0 49 [(.t 80), (.k (.int .i64 0)), (.k (.int .i64 100000))])⟩, ⟨(some 82), (some (78, false)), 0, (.not (.t 81))⟩, ⟨(some 83), none, 0, (.pick (.t 78) (.k (.bool true)) (.t 82))⟩, ⟨(some 84), none, 0, (.mov (.t 83))⟩, ⟨(some 85), (some (84, false)), 0, (.faddr 17 (.t 1))⟩, ⟨(some 86), (some (84, false)), 0, (.load 1 false (.t 85))⟩, ⟨(some 87), (some (84, false)), 0, (.call false 0 0 49 [(.t 86), (.k (.int .i64 0)), (.k (.int .i64 100000))])⟩, ⟨(some 88), (some (84, false)), 0, (.not (.t 87))⟩, ⟨(some 89), none, 0, (.pick (.t 84) (.k (.bool true)) (.t 88))⟩]
def R20_7 : List AR := [⟨(some 2), none, 0, (.mov (.k (.bool false)))⟩]
def R20_8 : List AR := [⟨(some 90), none, 0, (.faddr 15 (.t 1))⟩, ⟨(some 91), none, 0, (.load 1 false (.t 90))⟩, ⟨(some 92), none, 0, (.call false 0 0 49 [(.t 91), (.k (.int .i64 1)), (.k (.int .i64 20))])⟩, ⟨(some 93), none, 0, (.mov (.t 92))⟩, ⟨(some 94), (some (93, true)), 0, (.faddr 16 (.t 1))⟩, ⟨(some 95), (some (93, true)), 0, (.load 1 false (.t 94))⟩, ⟨(some 96), (some (93, true)), 0, (.call false 0 0 49 [(.t 95), (.k (.int .i64 1)), (.k (.int .i64 50))])⟩, ⟨(some 97), none, 0, (.pick (.t 93) (.t 96) (.k (.bool false)))⟩, ⟨(some 98), none, 0, (.mov (.t 97))⟩, ⟨(some 99), (some (98, true)), 0, (.load 19 true (.t 1))⟩, ⟨(some 100), (some (98, true)), 0, (.call false 0 0 69 [(.t 99)])⟩, ⟨(some 101), none, 0, (.pick (.t 98) (.t 100) (.k (.bool false)))⟩, ⟨(some 102), none, 0, (.mov (.t 101))⟩, ⟨(some 103), (some (102, true)), 0, (.load 19 true (.t 1))⟩, ⟨(some 104), (some (102, true)), 0, (.call false 0 0 70 [(.t 103)])⟩, ⟨(some 105), none, 0, (.pick (.t 102) (.t 104) (.k (.bool false)))⟩, ⟨(some 2), none, 0, (.mov (.t 105))⟩]
def A20_0 : AC := (.seq (.reg 0 R20_8) .ret)
def A20_1 : AC := (.seq (.seq (.reg 0 R20_6) (.cond (.t 89) (.seq (.reg 0 R20_7) .ret) .skip)) A20_0)
def A20_2 : AC := (.seq (.seq (.reg 0 R20_4) (.cond (.t 71) (.seq (.reg 0 R20_5) .ret) .skip)) A20_1)
def A20_3 : AC := (.seq (.reg 0 R20_3) A20_2)
def A20_4 : AC := (.seq (.seq (.draw 0 R20_1) (.cond (.t 31) (.seq (.reg 0 R20_2) .ret) .skip)) A20_3)
def A20 : AC := (.seq (.reg 1 R20_0) A20_4)
def O20 : List AO := [(.mov (.t 2))]
def G20 : Fns := ⟨fun f => false, fun f => 0, false⟩
noncomputable def X20 : Cx := ⟨Tryz.prog, G20, drawD, 106, [0, 1, 2, 3, 31, 71, 89]⟩
theorem c20 : (Tryz.f20.body).bind (compC X20.P X20.Γ X20.D X20.nt) = some A20 := by kernel_rfl
theorem o20 : compRes X20.P Tryz.f20.results.toList = some O20 := by kernel_rfl
theorem v20 : X20.vs = [0, 1, 2, 3, 31, 71, 89] := rfl
theorem p20 : X20.P = Tryz.prog := rfl
noncomputable instance (n : Node) : Decidable (tableR n.seen n.n ∧ (0 ≤ n.num ∧ n.num ≤ 100000) ∧ (0 ≤ n.clock ∧ n.clock ≤ 100000)) := Classical.propDecidable _
set_option maxHeartbeats 8000000 in
theorem implNodeOk_ok (n : Node) (h0 : n.sz ≤ 1048576) : FS Tryz.prog 20 [] [.agg n.c] (.bool (decide n.Right)) [] := by
  refine FS.of (X := X20) (ac := A20) (os := O20) Tryz.func20 (by rfl) (by rfl) (by kernel_rfl) o20 (Nat.le_of_ble_eq_true rfl) ?_
  show AWP X20 A20 (Ends X20.vs O20 0 _ _) [.agg n.c, .tup [], .tup [], .tup [], .tup [], .tup [], .tup []] []
  obtain ⟨Q, hQ⟩ : ∃ Q, Q = Ends X20.vs O20 0 (.bool (decide n.Right)) [] := ⟨_, rfl⟩
  rw [← hQ]
  have h := Node.small h0
  have fin : ∀ L σ vV, resVs O20 (look X20.vs L) σ = some [vV] → vV = (.bool (decide n.Right)) → Q .ret L σ := by
    intro L σ vV h1 h2
    rw [hQ]
    exact Ends.is (.inl rfl) h1 (by simp only [packV, h2]) rfl
  refine awp_sr ?_
  simp only [go_sem, R20_0, v20, p20, Node.c]
  refine (fun G : AWP X20 _ _ _ [.live ⟨19, [n.c]⟩] => G) ?_
  obtain ⟨K1, hK1⟩ : ∃ K : List V → Store → Prop, K = fun L σ => ∃ q y0 y2 y3 y71 y89, L = [y0, .ptr 0 19 0 0, y2, y3, .bool q, y71, y89] ∧ σ = [.live ⟨19, [n.c]⟩] ∧ q = !decide n.A := ⟨_, rfl⟩
  refine awp_sd2K (K1) mixed rfl (by rfl) ?_ ?_
  · simp only [go_sem, R20_1, v20, p20, Node.c]
    refine run_see (within_ok _ _ _) false (Views.refl rfl) rfl (fun j hj => by first | omega | ((have hj0 : j = 0 := by omega); subst hj0; first | rfl | (simp only [Nat.add_zero, app_get, app_getk, sapp_get, sapp_getk, Nat.add_assoc, Nat.reduceAdd, List.getElem?_cons_zero, List.getElem?_cons_succ]; done) | simp)) (fun h => by cases h) ?_
    simp only [go_sem, v20, p20]
    by_cases b1 : 1 ≤ n.n ∧ n.n ≤ 5
    · simp only [go_sem, v20, p20, eq_true b1, Node.c, wrap_i64 (n := n.n - 1) (by omega) (by omega)]
      refine run_see (within_ok _ _ _) false (Views.refl rfl) rfl (fun j hj => by first | omega | ((have hj0 : j = 0 := by omega); subst hj0; first | rfl | (simp only [Nat.add_zero, app_get, app_getk, sapp_get, sapp_getk, Nat.add_assoc, Nat.reduceAdd, List.getElem?_cons_zero, List.getElem?_cons_succ]; done) | simp)) (fun h => by cases h) ?_
      simp only [go_sem, v20, p20]
      by_cases b2 : 0 ≤ n.id ∧ n.id ≤ n.n - 1
      · simp only [go_sem, v20, p20, eq_true b2, Node.c]
        refine run_see (implStateOk_ok n.state h.st) false (Views.refl rfl) rfl (fun j hj => by first | omega | ((have hj0 : j = 0 := by omega); subst hj0; first | rfl | (simp only [Nat.add_zero, app_get, app_getk, sapp_get, sapp_getk, Nat.add_assoc, Nat.reduceAdd, List.getElem?_cons_zero, List.getElem?_cons_succ]; done) | simp)) (fun h => by cases h) ?_
        simp only [go_sem, v20, p20]
        by_cases b3 : n.state.Right
        · simp only [go_sem, v20, p20, eq_true b3, Node.c]
          refine run_see (implTreeOf_ok n.state h.st) false (Views.refl rfl) rfl (fun j hj => by first | omega | ((have hj0 : j = 0 := by omega); subst hj0; first | rfl | (simp only [Nat.add_zero, app_get, app_getk, sapp_get, sapp_getk, Nat.add_assoc, Nat.reduceAdd, List.getElem?_cons_zero, List.getElem?_cons_succ]; done) | simp)) (fun h => by cases h) ?_
          simp only [go_sem, v20, p20]
          refine run_see (implTreeSame_ok n.tree (treeOf n.state) h.tr) false (Views.refl rfl) rfl (fun j hj => by first | omega | ((have hj0 : j = 0 := by omega); subst hj0; first | rfl | (simp only [Nat.add_zero, app_get, app_getk, sapp_get, sapp_getk, Nat.add_assoc, Nat.reduceAdd, List.getElem?_cons_zero, List.getElem?_cons_succ]; done) | simp)) (fun h => by cases h) ?_
          simp only [go_sem, v20, p20]
          rw [hK1]
          refine ⟨_, _, _, _, _, _, rfl, rfl, ?_⟩
          grind [Node.A]
        · simp only [go_sem, v20, p20, eq_false b3, Node.c]
          rw [hK1]
          refine ⟨_, _, _, _, _, _, rfl, rfl, ?_⟩
          grind [Node.A]
      · simp only [go_sem, v20, p20, eq_false b2, Node.c]
        rw [hK1]
        refine ⟨_, _, _, _, _, _, rfl, rfl, ?_⟩
        grind [Node.A]
    · simp only [go_sem, v20, p20, eq_false b1, Node.c]
      rw [hK1]
      refine ⟨_, _, _, _, _, _, rfl, rfl, ?_⟩
      grind [Node.A]
  intro L σ hq
  rw [hK1] at hq
  obtain ⟨q, y0, y2, y3, y71, y89, rfl, rfl, hq⟩ := hq
  subst hq
  refine awp_if' rfl ?_ ?_
  · intro h1
    refine awp_sr ?_
    simp only [go_sem, R20_2, v20, p20]
    refine awp_ret ?_
    try simp only [go_sem]
    exact fin _ _ (.bool false) rfl (congrArg V.bool (decide_eq_false fun e => h1 e.a)).symm
  intro h1
  obtain ⟨a1, a2, a3, a4⟩ := id h1
  refine awp_skip ?_
  simp only [go_sem]
  refine awp_sr ?_
  simp only [go_sem, R20_3, v20, p20, Node.c]
  refine run_see (implLogSeq_ok n.log h.lg) false (Views.refl rfl) rfl (fun j hj => by first | omega | ((have hj0 : j = 0 := by omega); subst hj0; first | rfl | (simp only [Nat.add_zero, app_get, app_getk, sapp_get, sapp_getk, Nat.add_assoc, Nat.reduceAdd, List.getElem?_cons_zero, List.getElem?_cons_succ]; done) | simp)) (fun h => by cases h) ?_
  simp only [go_sem, v20, p20]
  obtain ⟨K2, hK2⟩ : ∃ K : List V → Store → Prop, K = fun L σ => ∃ q y0 y2 y3 y31 y89, L = [y0, .ptr 0 19 0 0, y2, y3, y31, .bool q, y89] ∧ σ = [.live ⟨19, [n.c]⟩] ∧ q = !decide (n.log.Right ∧ n.B ∧ n.C) := ⟨_, rfl⟩
  refine awp_sr2K (K2) ?_ ?_
  · simp only [go_sem, R20_4, v20, p20, Node.c]
    refine run_see (implLogOk_ok n.log h.lg) false (Views.refl rfl) rfl (fun j hj => by first | omega | ((have hj0 : j = 0 := by omega); subst hj0; first | rfl | (simp only [Nat.add_zero, app_get, app_getk, sapp_get, sapp_getk, Nat.add_assoc, Nat.reduceAdd, List.getElem?_cons_zero, List.getElem?_cons_succ]; done) | simp)) (fun h => by cases h) ?_
    simp only [go_sem, v20, p20]
    by_cases b0 : n.log.Right
    · simp only [go_sem, v20, p20, eq_true b0, Node.c]
      refine run_see (implVecOk_ok n.got n.n h.gt) false (Views.refl rfl) rfl (fun j hj => by first | omega | ((have hj0 : j = 0 := by omega); subst hj0; first | rfl | (simp only [Nat.add_zero, app_get, app_getk, sapp_get, sapp_getk, Nat.add_assoc, Nat.reduceAdd, List.getElem?_cons_zero, List.getElem?_cons_succ]; done) | simp)) (fun h => by cases h) ?_
      simp only [go_sem, v20, p20]
      by_cases b1 : vecR n.got n.n
      · have hid : n.id.toNat < n.got.length := by have := b1.2.1; omega
        have hg := getD_at hid
        have hid0 : 0 ≤ n.id := a2.1
        simp only [go_sem, v20, p20, eq_true b1, Node.c]
        refine run_see (implVecOk_ok n.acked n.n h.ak) false (Views.refl rfl) rfl (fun j hj => by first | omega | ((have hj0 : j = 0 := by omega); subst hj0; first | rfl | (simp only [Nat.add_zero, app_get, app_getk, sapp_get, sapp_getk, Nat.add_assoc, Nat.reduceAdd, List.getElem?_cons_zero, List.getElem?_cons_succ]; done) | simp)) (fun h => by cases h) ?_
        simp only [go_sem, v20, p20]
        by_cases b2 : vecR n.acked n.n
        · have hpos : 0 < n.acked.length := by have := b2.2.1; omega
          have hmx := maxI_le hpos (logSeq n.log)
          have hcc : n.C ↔ ∀ x ∈ n.acked, x ≤ logSeq n.log := by
            unfold Node.C
            constructor
            · intro e x hx
              obtain ⟨j, hj⟩ := List.mem_iff_getElem?.1 hx
              exact e j x hj
            · intro e j x hj
              exact e x (List.mem_of_getElem? hj)
          simp only [go_sem, v20, p20, eq_true b2, Node.c, rw_at _ hid, intC, eq_true hid0]
          by_cases b3 : n.got[n.id.toNat] = logSeq n.log
          · simp only [go_sem, v20, p20, eq_true b3, Node.c, ne_eq]
            refine run_see (slicesMax_ok n.acked h.ak hpos) false (Views.refl rfl) rfl (fun j hj => by first | omega | ((have hj0 : j = 0 := by omega); subst hj0; first | rfl | (simp only [Nat.add_zero, app_get, app_getk, sapp_get, sapp_getk, Nat.add_assoc, Nat.reduceAdd, List.getElem?_cons_zero, List.getElem?_cons_succ]; done) | simp)) (fun h => by cases h) ?_
            simp only [go_sem, v20, p20]
            rw [hK2]
            refine ⟨_, _, _, _, _, _, rfl, rfl, ?_⟩
            grind [Node.B]
          · simp only [go_sem, v20, p20, eq_false b3, Node.c, ne_eq]
            rw [hK2]
            refine ⟨_, _, _, _, _, _, rfl, rfl, ?_⟩
            grind [Node.B]
        · simp only [go_sem, v20, p20, eq_false b2, Node.c]
          rw [hK2]
          refine ⟨_, _, _, _, _, _, rfl, rfl, ?_⟩
          grind [Node.B]
      · simp only [go_sem, v20, p20, eq_false b1, Node.c]
        rw [hK2]
        refine ⟨_, _, _, _, _, _, rfl, rfl, ?_⟩
        grind [Node.B]
    · simp only [go_sem, v20, p20, eq_false b0, Node.c]
      rw [hK2]
      refine ⟨_, _, _, _, _, _, rfl, rfl, ?_⟩
      grind [Node.B]
  intro L σ hq
  rw [hK2] at hq
  obtain ⟨q, y0, y2, y3, y31, y89, rfl, rfl, hq⟩ := hq
  subst hq
  refine awp_if' rfl ?_ ?_
  · intro h2
    refine awp_sr ?_
    simp only [go_sem, R20_5, v20, p20]
    refine awp_ret ?_
    try simp only [go_sem]
    exact fin _ _ (.bool false) rfl (congrArg V.bool (decide_eq_false fun e => h2 ⟨e.l, e.b, e.c⟩)).symm
  intro h2
  refine awp_skip ?_
  simp only [go_sem]
  obtain ⟨K3, hK3⟩ : ∃ K : List V → Store → Prop, K = fun L σ => ∃ q y0 y2 y3 y31 y71, L = [y0, .ptr 0 19 0 0, y2, y3, y31, y71, .bool q] ∧ σ = [.live ⟨19, [n.c]⟩] ∧ q = !decide (tableR n.seen n.n ∧ (0 ≤ n.num ∧ n.num ≤ 100000) ∧ (0 ≤ n.clock ∧ n.clock ≤ 100000)) := ⟨_, rfl⟩
  refine awp_sr2K (K3) ?_ ?_
  · simp only [go_sem, R20_6, v20, p20, Node.c]
    repeat' first
      | (refine selP_if rfl (fun hG => ?_) (fun hG => ?_) <;> first | simp only [go_sem, v20, p20, eq_false hG, Node.c] | simp only [go_sem, v20, p20, eq_true hG, Node.c])
      | (refine selP_ifn rfl (fun hG => ?_) (fun hG => ?_) <;> first | simp only [go_sem, v20, p20, eq_false hG, Node.c] | simp only [go_sem, v20, p20, eq_true hG, Node.c])
      | (refine selN_if rfl (fun hG => ?_) (fun hG => ?_) <;> first | simp only [go_sem, v20, p20, eq_false hG, Node.c] | simp only [go_sem, v20, p20, eq_true hG, Node.c])
      | (refine selN_ifn rfl (fun hG => ?_) (fun hG => ?_) <;> first | simp only [go_sem, v20, p20, eq_false hG, Node.c] | simp only [go_sem, v20, p20, eq_true hG, Node.c])
      | (refine selB_if rfl (fun hG => ?_) (fun hG => ?_) <;> simp only [go_sem, v20, p20, hG, Node.c])
      | (refine selB_ifn rfl (fun hG => ?_) (fun hG => ?_) <;> simp only [go_sem, v20, p20, hG, Node.c])
      | (refine run_see (implTableOk_ok n.seen n.n h.sn) false (Views.refl rfl) rfl (fun j hj => by omega) (fun h => by cases h) ?_; simp only [go_sem, v20, p20, Node.c])
      | (refine run_see (within_ok _ _ _) false (Views.refl rfl) rfl (fun j hj => by omega) (fun h => by cases h) ?_; simp only [go_sem, v20, p20, Node.c])
    all_goals rw [hK3]
    all_goals refine ⟨_, _, _, _, _, _, rfl, rfl, ?_⟩
    all_goals grind
  intro L σ hq
  rw [hK3] at hq
  obtain ⟨q, y0, y2, y3, y31, y71, rfl, rfl, hq⟩ := hq
  subst hq
  refine awp_if' rfl ?_ ?_
  · intro h3
    refine awp_sr ?_
    simp only [go_sem, R20_7, v20, p20]
    refine awp_ret ?_
    try simp only [go_sem]
    exact fin _ _ (.bool false) rfl (congrArg V.bool (decide_eq_false fun e => h3 ⟨e.t, e.d.1, e.d.2.1⟩)).symm
  intro h3
  have key : n.Right ↔ (1 ≤ n.wait ∧ n.wait ≤ 20) ∧ (1 ≤ n.limit ∧ n.limit ≤ 50) ∧ ((1 ≤ n.slots ∧ n.slots ≤ 4) ∧ sessR n) ∧ risesR n :=
    ⟨fun e => ⟨e.d.2.2.2.1, e.d.2.2.2.2, ⟨e.d.2.2.1, e.s⟩, e.r⟩, fun e => ⟨h1, h2.1, h2.2.1, h3.1, h2.2.2, ⟨h3.2.1, h3.2.2, e.2.2.1.1, e.1, e.2.1⟩, e.2.2.2, e.2.2.1.2⟩⟩
  refine awp_skip ?_
  simp only [go_sem]
  obtain ⟨K4, hK4⟩ : ∃ K : List V → Store → Prop, K = fun L σ => ∃ q y0 y1 y3 y31 y71 y89, L = [y0, y1, .bool q, y3, y31, y71, y89] ∧ σ = [.live ⟨19, [n.c]⟩] ∧ q = decide n.Right := ⟨_, rfl⟩
  refine awp_srK (K4) ?_ ?_
  · simp only [go_sem, R20_8, v20, p20, Node.c]
    repeat' first
      | (refine selP_if rfl (fun hG => ?_) (fun hG => ?_) <;> first | simp only [go_sem, v20, p20, eq_false hG, Node.c] | simp only [go_sem, v20, p20, eq_true hG, Node.c])
      | (refine selP_ifn rfl (fun hG => ?_) (fun hG => ?_) <;> first | simp only [go_sem, v20, p20, eq_false hG, Node.c] | simp only [go_sem, v20, p20, eq_true hG, Node.c])
      | (refine selN_if rfl (fun hG => ?_) (fun hG => ?_) <;> first | simp only [go_sem, v20, p20, eq_false hG, Node.c] | simp only [go_sem, v20, p20, eq_true hG, Node.c])
      | (refine selN_ifn rfl (fun hG => ?_) (fun hG => ?_) <;> first | simp only [go_sem, v20, p20, eq_false hG, Node.c] | simp only [go_sem, v20, p20, eq_true hG, Node.c])
      | (refine selB_if rfl (fun hG => ?_) (fun hG => ?_) <;> simp only [go_sem, v20, p20, hG, Node.c])
      | (refine selB_ifn rfl (fun hG => ?_) (fun hG => ?_) <;> simp only [go_sem, v20, p20, hG, Node.c])
      | (refine run_see (within_ok _ _ _) false (Views.refl rfl) rfl (fun j hj => by omega) (fun h => by cases h) ?_; simp only [go_sem, v20, p20, Node.c])
      | (refine run_see (implSessOk_ok n h.ss a1) false (Views.refl rfl) rfl (fun j hj => by omega) (fun h => by cases h) ?_; simp only [go_sem, v20, p20, Node.c])
      | (refine run_see (risesOk_ok n h.rs) false (Views.refl rfl) rfl (fun j hj => by omega) (fun h => by cases h) ?_; simp only [go_sem, v20, p20, Node.c])
    all_goals rw [hK4]
    all_goals refine ⟨_, _, _, _, _, _, _, rfl, rfl, ?_⟩
    all_goals grind
  intro L σ hq
  rw [hK4] at hq
  obtain ⟨q, y0, y1, y3, y31, y71, y89, rfl, rfl, hq⟩ := hq
  subst hq
  refine awp_ret ?_
  try simp only [go_sem]
  exact fin _ _ _ rfl rfl
end Go.Proofs.YtffigokicddekaaGreat.Abs
/- What a right world is, walked in both texts. No condition. -/
set_option linter.unusedVariables false
set_option linter.unusedSimpArgs false
set_option maxRecDepth 10000
namespace Go.Proofs.YtffigokicddekaaGreat.Abs
open Go Go.Proofs
def R56_0 : List AR := [⟨(some 1), none, 0, (.box 0 3 (.t 0))⟩, ⟨(some 2), none, 0, (.mov (.k (.bool false)))⟩]
def R56_1 : List AR := [⟨(some 7), none, 0, (.faddr 0 (.t 1))⟩, ⟨(some 8), none, 0, (.load 1 false (.t 7))⟩, ⟨(some 9), none, 0, (.len (.t 8))⟩, ⟨(some 3), none, 0, (.mov (.t 9))⟩]
def R56_2 : List AR := [⟨(some 10), none, 0, (.mov (.t 3))⟩, ⟨(some 11), none, 0, (.call false 0 0 52 [(.t 10), (.k (.int .i64 1)), (.k (.int .i64 5))])⟩, ⟨(some 12), none, 0, (.not (.t 11))⟩, ⟨(some 13), none, 0, (.mov (.t 12))⟩, ⟨(some 14), (some (13, false)), 0, (.faddr 1 (.t 1))⟩, ⟨(some 15), (some (13, false)), 0, (.load 1 false (.t 14))⟩, ⟨(some 16), (some (13, false)), 0, (.len (.t 15))⟩, ⟨(some 17), (some (13, false)), 0, (.bin .gtr (.t 16) (.k (.int .i64 12)))⟩, ⟨(some 18), none, 0, (.pick (.t 13) (.k (.bool true)) (.t 17))⟩, ⟨(some 19), none, 0, (.mov (.t 18))⟩, ⟨(some 20), (some (19, false)), 0, (.faddr 2 (.t 1))⟩, ⟨(some 21), (some (19, false)), 0, (.load 1 false (.t 20))⟩, ⟨(some 22), (some (19, false)), 0, (.len (.t 21))⟩, ⟨(some 23), (some (19, false)), 0, (.bin .gtr (.t 22) (.k (.int .i64 40)))⟩, ⟨(some 24), none, 0, (.pick (.t 19) (.k (.bool true)) (.t 23))⟩]
def R56_3 : List AR := [⟨(some 2), none, 0, (.mov (.k (.bool false)))⟩]
def R56_4 : List AR := [⟨(some 4), none, 0, (.mov (.k (.int .i64 0)))⟩]
def R56_5 : List AR := [⟨(some 25), none, 0, (.mov (.t 4))⟩, ⟨(some 26), none, 0, (.mov (.t 3))⟩, ⟨(some 27), none, 0, (.bin .lss (.t 25) (.t 26))⟩]
def R56_6 : List AR := [⟨(some 30), none, 0, (.faddr 0 (.t 1))⟩, ⟨(some 31), none, 0, (.load 1 false (.t 30))⟩, ⟨(some 32), none, 0, (.mov (.t 4))⟩, ⟨(some 33), none, 0, (.iaddr 19 (.t 31) (.t 32))⟩, ⟨(some 34), none, 0, (.load 19 true (.t 33))⟩, ⟨(some 35), none, 0, (.call false 0 0 43 [(.t 34)])⟩, ⟨(some 36), none, 0, (.not (.t 35))⟩, ⟨(some 37), none, 0, (.mov (.t 36))⟩, ⟨(some 38), (some (37, false)), 0, (.faddr 0 (.t 1))⟩, ⟨(some 39), (some (37, false)), 0, (.load 1 false (.t 38))⟩, ⟨(some 40), (some (37, false)), 0, (.mov (.t 4))⟩, ⟨(some 41), (some (37, false)), 0, (.iaddr 19 (.t 39) (.t 40))⟩, ⟨(some 42), (some (37, false)), 0, (.faddr 1 (.t 41))⟩, ⟨(some 43), (some (37, false)), 0, (.load 1 false (.t 42))⟩, ⟨(some 44), (some (37, false)), 0, (.mov (.t 3))⟩, ⟨(some 45), (some (37, false)), 0, (.bin .neq (.t 43) (.t 44))⟩, ⟨(some 46), none, 0, (.pick (.t 37) (.k (.bool true)) (.t 45))⟩, ⟨(some 47), none, 0, (.mov (.t 46))⟩, ⟨(some 48), (some (47, false)), 0, (.faddr 0 (.t 1))⟩, ⟨(some 49), (some (47, false)), 0, (.load 1 false (.t 48))⟩, ⟨(some 50), (some (47, false)), 0, (.mov (.t 4))⟩, ⟨(some 51), (some (47, false)), 0, (.iaddr 19 (.t 49) (.t 50))⟩, ⟨(some 52), (some (47, false)), 0, (.faddr 0 (.t 51))⟩, ⟨(some 53), (some (47, false)), 0, (.load 1 false (.t 52))⟩, ⟨(some 54), (some (47, false)), 0, (.mov (.t 4))⟩, ⟨(some 55), (some (47, false)), 0, (.bin .neq (.t 53) (.t 54))⟩, ⟨(some 56), none, 0, (.pick (.t 47) (.k (.bool true)) (.t 55))⟩]
def R56_7 : List AR := [⟨(some 2), none, 0, (.mov (.k (.bool false)))⟩]
def R56_8 : List AR := [⟨(some 28), none, 0, (.mov (.t 4))⟩, ⟨(some 29), none, 0, (.bin .add (.t 28) (.k (.int .i64 1)))⟩, ⟨(some 4), none, 0, (.mov (.t 29))⟩]
def A56_0 : AC := (.seq (.block 1 (.seq (.reg 0 R56_6) (.cond (.t 56) (.seq (.reg 0 R56_7) .ret) .skip))) (.reg 0 R56_8))
def L56_0 : AC := (.seq (.seq (.reg 0 R56_5) (.cond (.t 27) .skip (.exit 0))) A56_0)
def R56_9 : List AR := [⟨(some 5), none, 0, (.mov (.k (.int .i64 0)))⟩]
def R56_10 : List AR := [⟨(some 57), none, 0, (.mov (.t 5))⟩, ⟨(some 58), none, 0, (.faddr 1 (.t 1))⟩, ⟨(some 59), none, 0, (.load 1 false (.t 58))⟩, ⟨(some 60), none, 0, (.len (.t 59))⟩, ⟨(some 61), none, 0, (.bin .lss (.t 57) (.t 60))⟩]
def R56_11 : List AR := [⟨(some 64), none, 0, (.faddr 1 (.t 1))⟩, ⟨(some 65), none, 0, (.load 1 false (.t 64))⟩, ⟨(some 66), none, 0, (.mov (.t 5))⟩, ⟨(some 67), none, 0, (.iaddr 3 (.t 65) (.t 66))⟩, ⟨(some 68), none, 0, (.faddr 0 (.t 67))⟩, ⟨(some 69), none, 0, (.load 1 false (.t 68))⟩, ⟨(some 70), none, 0, (.mov (.t 3))⟩, ⟨(some 71), none, 0, (.bin .sub (.t 70) (.k (.int .i64 1)))⟩, ⟨(some 72), none, 0, (.call false 0 0 52 [(.t 69), (.k (.int .i64 0)), (.t 71)])⟩, ⟨(some 73), none, 0, (.not (.t 72))⟩]
def R56_12 : List AR := [⟨(some 2), none, 0, (.mov (.k (.bool false)))⟩]
def R56_13 : List AR := [⟨(some 62), none, 0, (.mov (.t 5))⟩, ⟨(some 63), none, 0, (.bin .add (.t 62) (.k (.int .i64 1)))⟩, ⟨(some 5), none, 0, (.mov (.t 63))⟩]
def A56_1 : AC := (.seq (.block 3 (.seq (.reg 0 R56_11) (.cond (.t 73) (.seq (.reg 0 R56_12) .ret) .skip))) (.reg 0 R56_13))
def L56_1 : AC := (.seq (.seq (.reg 0 R56_10) (.cond (.t 61) .skip (.exit 2))) A56_1)
def R56_14 : List AR := [⟨(some 6), none, 0, (.mov (.k (.int .i64 0)))⟩]
def R56_15 : List AR := [⟨(some 74), none, 0, (.mov (.t 6))⟩, ⟨(some 75), none, 0, (.faddr 2 (.t 1))⟩, ⟨(some 76), none, 0, (.load 1 false (.t 75))⟩, ⟨(some 77), none, 0, (.len (.t 76))⟩, ⟨(some 78), none, 0, (.bin .lss (.t 74) (.t 77))⟩]
def R56_16 : List AR := [⟨(some 81), none, 0, (.faddr 2 (.t 1))⟩, ⟨(some 82), none, 0, (.load 1 false (.t 81))⟩, ⟨(some 83), none, 0, (.mov (.t 6))⟩, ⟨(some 84), none, 0, (.iaddr 3 (.t 82) (.t 83))⟩, ⟨(some 85), none, 0, (.faddr 0 (.t 84))⟩, ⟨(some 86), none, 0, (.load 1 false (.t 85))⟩, ⟨(some 87), none, 0, (.mov (.t 3))⟩, ⟨(some 88), none, 0, (.bin .sub (.t 87) (.k (.int .i64 1)))⟩, ⟨(some 89), none, 0, (.call false 0 0 52 [(.t 86), (.k (.int .i64 0)), (.t 88)])⟩, ⟨(some 90), none, 0, (.not (.t 89))⟩, ⟨(some 91), none, 0, (.mov (.t 90))⟩, ⟨(some 92), (some (91, false)), 0, (.faddr 2 (.t 1))⟩, ⟨(some 93), (some (91, false)), 0, (.load 1 false (.t 92))⟩, ⟨(some 94), (some (91, false)), 0, (.mov (.t 6))⟩, ⟨(some 95), (some (91, false)), 0, (.iaddr 3 (.t 93) (.t 94))⟩, ⟨(some 96), (some (91, false)), 0, (.faddr 1 (.t 95))⟩, ⟨(some 97), (some (91, false)), 0, (.load 2 true (.t 96))⟩, ⟨(some 98), (some (91, false)), 0, (.call false 0 0 94 [(.t 97)])⟩, ⟨(some 99), (some (91, false)), 0, (.not (.t 98))⟩, ⟨(some 100), none, 0, (.pick (.t 91) (.k (.bool true)) (.t 99))⟩]
def R56_17 : List AR := [⟨(some 2), none, 0, (.mov (.k (.bool false)))⟩]
def R56_18 : List AR := [⟨(some 79), none, 0, (.mov (.t 6))⟩, ⟨(some 80), none, 0, (.bin .add (.t 79) (.k (.int .i64 1)))⟩, ⟨(some 6), none, 0, (.mov (.t 80))⟩]
def A56_2 : AC := (.seq (.block 5 (.seq (.reg 0 R56_16) (.cond (.t 100) (.seq (.reg 0 R56_17) .ret) .skip))) (.reg 0 R56_18))
def L56_2 : AC := (.seq (.seq (.reg 0 R56_15) (.cond (.t 78) .skip (.exit 4))) A56_2)
def R56_19 : List AR := [⟨(some 2), none, 0, (.mov (.k (.bool true)))⟩]
def A56_3 : AC := (.seq (.reg 0 R56_19) .ret)
def A56_4 : AC := (.seq (.seq (.reg 0 R56_14) (.block 4 (.loop L56_2))) A56_3)
def A56_5 : AC := (.seq (.seq (.reg 0 R56_9) (.block 2 (.loop L56_1))) A56_4)
def A56_6 : AC := (.seq (.seq (.reg 0 R56_4) (.block 0 (.loop L56_0))) A56_5)
def A56_7 : AC := (.seq (.seq (.reg 0 R56_2) (.cond (.t 24) (.seq (.reg 0 R56_3) .ret) .skip)) A56_6)
def A56_8 : AC := (.seq (.reg 0 R56_1) A56_7)
def A56 : AC := (.seq (.reg 1 R56_0) A56_8)
def O56 : List AO := [(.mov (.t 2))]
def G56 : Fns := ⟨fun f => false, fun f => 0, false⟩
noncomputable def X56 : Cx := ⟨Tryz.prog, G56, drawD, 101, [0, 1, 2, 3, 4, 5, 6, 24, 27, 56, 61, 73, 78, 100]⟩
theorem c56 : (Tryz.f56.body).bind (compC X56.P X56.Γ X56.D X56.nt) = some A56 := by kernel_rfl
theorem o56 : compRes X56.P Tryz.f56.results.toList = some O56 := by kernel_rfl
theorem v56 : X56.vs = [0, 1, 2, 3, 4, 5, 6, 24, 27, 56, 61, 73, 78, 100] := rfl
theorem p56 : X56.P = Tryz.prog := rfl
def R80_0 : List AR := [⟨(some 2), none, 0, (.box 0 3 (.t 0))⟩, ⟨(some 4), none, 0, (.mov (.k (.bool false)))⟩]
def R80_1 : List AR := [⟨(some 5), none, 0, (.mov (.t 1))⟩, ⟨(some 6), none, 0, (.faddr 0 (.t 2))⟩, ⟨(some 7), none, 0, (.load 1 false (.t 6))⟩, ⟨(some 8), none, 0, (.len (.t 7))⟩, ⟨(some 9), none, 0, (.bin .sub (.t 8) (.k (.int .i64 1)))⟩, ⟨(some 10), none, 0, (.call false 0 0 49 [(.t 5), (.k (.int .i64 0)), (.t 9)])⟩, ⟨(some 4), none, 0, (.mov (.t 10))⟩]
def A80_0 : AC := (.seq (.reg 0 R80_1) .ret)
def A80 : AC := (.seq (.reg 1 R80_0) A80_0)
def O80 : List AO := [(.mov (.t 4))]
def G80 : Fns := ⟨fun f => false, fun f => 0, false⟩
noncomputable def X80 : Cx := ⟨Tryz.prog, G80, drawD, 11, [0, 1, 2, 4]⟩
theorem c80 : (Tryz.f80.body).bind (compC X80.P X80.Γ X80.D X80.nt) = some A80 := by kernel_rfl
theorem o80 : compRes X80.P Tryz.f80.results.toList = some O80 := by kernel_rfl
theorem v80 : X80.vs = [0, 1, 2, 4] := rfl
theorem p80 : X80.P = Tryz.prog := rfl
def R55_0 : List AR := [⟨(some 1), none, 0, (.box 0 3 (.t 0))⟩, ⟨(some 2), none, 0, (.mov (.k (.bool false)))⟩]
def R55_1 : List AR := [⟨(some 9), none, 0, (.faddr 0 (.t 1))⟩, ⟨(some 10), none, 0, (.load 1 false (.t 9))⟩, ⟨(some 11), none, 0, (.len (.t 10))⟩, ⟨(some 12), none, 0, (.call false 0 0 49 [(.t 11), (.k (.int .i64 1)), (.k (.int .i64 5))])⟩, ⟨(some 13), none, 0, (.not (.t 12))⟩, ⟨(some 14), none, 0, (.mov (.t 13))⟩, ⟨(some 15), (some (14, false)), 0, (.faddr 1 (.t 1))⟩, ⟨(some 16), (some (14, false)), 0, (.load 1 false (.t 15))⟩, ⟨(some 17), (some (14, false)), 0, (.len (.t 16))⟩, ⟨(some 18), (some (14, false)), 0, (.bin .gtr (.t 17) (.k (.int .i64 12)))⟩, ⟨(some 19), none, 0, (.pick (.t 14) (.k (.bool true)) (.t 18))⟩, ⟨(some 20), none, 0, (.mov (.t 19))⟩, ⟨(some 21), (some (20, false)), 0, (.faddr 2 (.t 1))⟩, ⟨(some 22), (some (20, false)), 0, (.load 1 false (.t 21))⟩, ⟨(some 23), (some (20, false)), 0, (.len (.t 22))⟩, ⟨(some 24), (some (20, false)), 0, (.bin .gtr (.t 23) (.k (.int .i64 40)))⟩, ⟨(some 25), none, 0, (.pick (.t 20) (.k (.bool true)) (.t 24))⟩]
def R55_2 : List AR := [⟨(some 2), none, 0, (.mov (.k (.bool false)))⟩]
def R55_3 : List AR := [⟨(some 26), none, 0, (.faddr 0 (.t 1))⟩, ⟨(some 27), none, 0, (.load 1 false (.t 26))⟩, ⟨(some 28), none, 0, (.len (.t 27))⟩, ⟨(some 29), none, 0, (.mov (.k (.int .i64 0)))⟩]
def R55_4 : List AR := [⟨(some 30), none, 0, (.bin .lss (.t 29) (.t 28))⟩]
def R55_5 : List AR := [⟨(some 31), none, 0, (.mov (.t 29))⟩, ⟨(some 32), none, 0, (.iaddr 19 (.t 27) (.t 29))⟩, ⟨(some 33), none, 0, (.load 19 true (.t 32))⟩, ⟨(some 4), none, 0, (.alloc 0 19 [(.int .i64 0), (.int .i64 0), .nl, .nl, .nl, (.int .i64 0), (.int .i64 0), (.int .i64 0), .nl, .nl, .nl, .nl, (.int .i64 0), (.int .i64 0), .nl, (.int .i64 0), (.int .i64 0), (.int .i64 0), .nl])⟩, ⟨(some 3), none, 0, (.mov (.t 31))⟩, ⟨none, none, 0, (.store 19 (.t 4) (.t 33))⟩]
def R55_6 : List AR := [⟨(some 34), none, 0, (.load 19 true (.t 4))⟩, ⟨(some 35), none, 0, (.call false 0 0 20 [(.t 34)])⟩, ⟨(some 36), none, 0, (.not (.t 35))⟩, ⟨(some 37), none, 0, (.mov (.t 36))⟩, ⟨(some 38), (some (37, false)), 0, (.faddr 1 (.t 4))⟩, ⟨(some 39), (some (37, false)), 0, (.load 1 false (.t 38))⟩, ⟨(some 40), (some (37, false)), 0, (.faddr 0 (.t 1))⟩, ⟨(some 41), (some (37, false)), 0, (.load 1 false (.t 40))⟩, ⟨(some 42), (some (37, false)), 0, (.len (.t 41))⟩, ⟨(some 43), (some (37, false)), 0, (.bin .neq (.t 39) (.t 42))⟩, ⟨(some 44), none, 0, (.pick (.t 37) (.k (.bool true)) (.t 43))⟩, ⟨(some 45), none, 0, (.mov (.t 44))⟩, ⟨(some 46), (some (45, false)), 0, (.faddr 0 (.t 4))⟩, ⟨(some 47), (some (45, false)), 0, (.load 1 false (.t 46))⟩, ⟨(some 48), (some (45, false)), 0, (.mov (.t 3))⟩, ⟨(some 49), (some (45, false)), 0, (.bin .neq (.t 47) (.t 48))⟩, ⟨(some 50), none, 0, (.pick (.t 45) (.k (.bool true)) (.t 49))⟩]
def R55_7 : List AR := [⟨(some 2), none, 0, (.mov (.k (.bool false)))⟩]
def A55_0 : AC := (.seq (.reg 0 R55_6) (.cond (.t 50) (.seq (.reg 0 R55_7) .ret) .skip))
def R55_8 : List AR := [⟨(some 51), none, 0, (.bin .add (.t 29) (.k (.int .i64 1)))⟩, ⟨(some 29), none, 0, (.mov (.t 51))⟩]
def A55_1 : AC := (.seq (.block 1 (.seq (.reg 1 R55_5) A55_0)) (.reg 0 R55_8))
def A55_2 : AC := (.seq (.cond (.t 30) .skip (.exit 0)) A55_1)
def L55_0 : AC := (.seq (.reg 0 R55_4) A55_2)
def R55_9 : List AR := [⟨(some 52), none, 0, (.faddr 1 (.t 1))⟩, ⟨(some 53), none, 0, (.load 1 false (.t 52))⟩, ⟨(some 54), none, 0, (.len (.t 53))⟩, ⟨(some 55), none, 0, (.mov (.k (.int .i64 0)))⟩]
def R55_10 : List AR := [⟨(some 56), none, 0, (.bin .lss (.t 55) (.t 54))⟩]
def R55_11 : List AR := [⟨(some 57), none, 0, (.iaddr 3 (.t 53) (.t 55))⟩, ⟨(some 58), none, 0, (.load 3 true (.t 57))⟩, ⟨(some 6), none, 0, (.alloc 0 3 [(.int .i64 0), .nl, (.bool false)])⟩, ⟨none, none, 0, (.store 3 (.t 6) (.t 58))⟩]
def R55_12 : List AR := [⟨(some 59), none, 0, (.load 3 true (.t 1))⟩, ⟨(some 60), none, 0, (.faddr 0 (.t 6))⟩, ⟨(some 61), none, 0, (.load 1 false (.t 60))⟩, ⟨(some 62), none, 0, (.call false 0 0 80 [(.t 59), (.t 61)])⟩, ⟨(some 63), none, 0, (.not (.t 62))⟩]
def R55_13 : List AR := [⟨(some 2), none, 0, (.mov (.k (.bool false)))⟩]
def A55_3 : AC := (.seq (.reg 0 R55_12) (.cond (.t 63) (.seq (.reg 0 R55_13) .ret) .skip))
def R55_14 : List AR := [⟨(some 64), none, 0, (.bin .add (.t 55) (.k (.int .i64 1)))⟩, ⟨(some 55), none, 0, (.mov (.t 64))⟩]
def A55_4 : AC := (.seq (.block 3 (.seq (.reg 1 R55_11) A55_3)) (.reg 0 R55_14))
def A55_5 : AC := (.seq (.cond (.t 56) .skip (.exit 2)) A55_4)
def L55_1 : AC := (.seq (.reg 0 R55_10) A55_5)
def R55_15 : List AR := [⟨(some 65), none, 0, (.faddr 2 (.t 1))⟩, ⟨(some 66), none, 0, (.load 1 false (.t 65))⟩, ⟨(some 67), none, 0, (.len (.t 66))⟩, ⟨(some 68), none, 0, (.mov (.k (.int .i64 0)))⟩]
def R55_16 : List AR := [⟨(some 69), none, 0, (.bin .lss (.t 68) (.t 67))⟩]
def R55_17 : List AR := [⟨(some 70), none, 0, (.iaddr 3 (.t 66) (.t 68))⟩, ⟨(some 71), none, 0, (.load 3 true (.t 70))⟩, ⟨(some 8), none, 0, (.alloc 0 3 [(.int .i64 0), .nl, .nl])⟩, ⟨none, none, 0, (.store 3 (.t 8) (.t 71))⟩]
def R55_18 : List AR := [⟨(some 72), none, 0, (.load 3 true (.t 1))⟩, ⟨(some 73), none, 0, (.faddr 0 (.t 8))⟩, ⟨(some 74), none, 0, (.load 1 false (.t 73))⟩, ⟨(some 75), none, 0, (.call false 0 0 80 [(.t 72), (.t 74)])⟩, ⟨(some 76), none, 0, (.not (.t 75))⟩, ⟨(some 77), none, 0, (.mov (.t 76))⟩, ⟨(some 78), (some (77, false)), 0, (.faddr 1 (.t 8))⟩, ⟨(some 79), (some (77, false)), 0, (.load 2 true (.t 78))⟩, ⟨(some 80), (some (77, false)), 0, (.call false 0 0 63 [(.t 79)])⟩, ⟨(some 81), (some (77, false)), 0, (.not (.t 80))⟩, ⟨(some 82), none, 0, (.pick (.t 77) (.k (.bool true)) (.t 81))⟩]
def R55_19 : List AR := [⟨(some 2), none, 0, (.mov (.k (.bool false)))⟩]
def A55_6 : AC := (.seq (.reg 0 R55_18) (.cond (.t 82) (.seq (.reg 0 R55_19) .ret) .skip))
def R55_20 : List AR := [⟨(some 83), none, 0, (.bin .add (.t 68) (.k (.int .i64 1)))⟩, ⟨(some 68), none, 0, (.mov (.t 83))⟩]
def A55_7 : AC := (.seq (.block 5 (.seq (.reg 1 R55_17) A55_6)) (.reg 0 R55_20))
def A55_8 : AC := (.seq (.cond (.t 69) .skip (.exit 4)) A55_7)
def L55_2 : AC := (.seq (.reg 0 R55_16) A55_8)
def R55_21 : List AR := [⟨(some 2), none, 0, (.mov (.k (.bool true)))⟩]
def A55_9 : AC := (.seq (.reg 0 R55_21) .ret)
def A55_10 : AC := (.seq (.seq (.reg 0 R55_15) (.block 4 (.loop L55_2))) A55_9)
def A55_11 : AC := (.seq (.seq (.reg 0 R55_9) (.block 2 (.loop L55_1))) A55_10)
def A55_12 : AC := (.seq (.seq (.reg 0 R55_3) (.block 0 (.loop L55_0))) A55_11)
def A55_13 : AC := (.seq (.seq (.reg 0 R55_1) (.cond (.t 25) (.seq (.reg 0 R55_2) .ret) .skip)) A55_12)
def A55 : AC := (.seq (.reg 1 R55_0) A55_13)
def O55 : List AO := [(.mov (.t 2))]
def G55 : Fns := ⟨fun f => false, fun f => 0, false⟩
noncomputable def X55 : Cx := ⟨Tryz.prog, G55, drawD, 84, [0, 1, 2, 3, 4, 6, 8, 25, 27, 28, 29, 30, 50, 53, 54, 55, 56, 63, 66, 67, 68, 69, 82]⟩
theorem c55 : (Tryz.f55.body).bind (compC X55.P X55.Γ X55.D X55.nt) = some A55 := by kernel_rfl
theorem o55 : compRes X55.P Tryz.f55.results.toList = some O55 := by kernel_rfl
theorem v55 : X55.vs = [0, 1, 2, 3, 4, 6, 8, 25, 27, 28, 29, 30, 50, 53, 54, 55, 56, 63, 66, 67, 68, 69, 82] := rfl
theorem p55 : X55.P = Tryz.prog := rfl
def World.A (w : World) : Prop := (1 ≤ w.nodes.length ∧ w.nodes.length ≤ 5) ∧ w.net.length ≤ 12 ∧ w.said.length ≤ 40
def nodeP (w : World) (i : Nat) (x : Node) : Prop := x.Right ∧ x.n = (w.nodes.length : Int) ∧ x.id = (i : Int)
def toP (w : World) (k : Int) : Prop := 0 ≤ k ∧ k ≤ (w.nodes.length : Int) - 1
def saidP (w : World) (x : Said) : Prop := toP w x.node ∧ x.part.Right
structure World.Right (w : World) : Prop where
  a : w.A
  b : ∀ (i : Nat) (x : Node), w.nodes[i]? = some x → nodeP w i x
  c : ∀ (i : Nat) (x : Pack), w.net[i]? = some x → toP w x.to
  d : ∀ (i : Nat) (x : Said), w.said[i]? = some x → saidP w x
structure World.Small (w : World) : Prop where
  ln : w.nodes.length ≤ 1048576
  lp : w.net.length ≤ 1048576
  ls : w.said.length ≤ 1048576
  nodes : ∀ i (h : i < w.nodes.length), w.nodes[i].sz ≤ 1048576
  said : ∀ i (h : i < w.said.length), w.said[i].part.sz ≤ 1048576
theorem World.small {w : World} (h : w.sz ≤ 1048576) : w.Small := by
  have hl : szS Node.sz w.nodes + szS Pack.sz w.net + szS Said.sz w.said ≤ 1048576 := h
  have h1 := szS_len Node.sz w.nodes
  have h2 := szS_len Pack.sz w.net
  have h3 := szS_len Said.sz w.said
  refine ⟨by omega, by omega, by omega, fun i hi => ?_, fun i hi => ?_⟩
  · have := sumBy_get Node.sz hi; unfold szS at hl; omega
  · have := sumBy_get Said.sz hi
    have e : w.said[i].sz = w.said[i].part.sz := rfl
    unfold szS at hl; omega
noncomputable instance (w : World) : Decidable w.A := Classical.propDecidable _
noncomputable instance (w : World) : Decidable w.Right := Classical.propDecidable _
noncomputable instance (w : World) (i : Nat) (x : Node) : Decidable (nodeP w i x) := Classical.propDecidable _
noncomputable instance (w : World) (x : Said) : Decidable (saidP w x) := Classical.propDecidable _
instance (w : World) (k : Int) : Decidable (toP w k) := inferInstanceAs (Decidable (_ ∧ _))
set_option maxHeartbeats 4000000 in
theorem specWorldOk_ok (w : World) (h : w.sz ≤ 1048576) : FS Tryz.prog 56 [] [.agg w.c] (.bool (decide w.Right)) [] := by
  refine FS.of (X := X56) (ac := A56) (os := O56) Tryz.func56 (by rfl) (by rfl) (by kernel_rfl) o56 (Nat.le_of_ble_eq_true rfl) ?_
  show AWP X56 A56 (Ends X56.vs O56 0 _ _) [.agg w.c, .tup [], .tup [], .tup [], .tup [], .tup [], .tup [], .tup [], .tup [], .tup [], .tup [], .tup [], .tup [], .tup []] []
  obtain ⟨Q, hQ⟩ : ∃ Q, Q = Ends X56.vs O56 0 (.bool (decide w.Right)) [] := ⟨_, rfl⟩
  rw [← hQ]
  have hs := World.small h
  have ln := hs.ln
  have fin : ∀ L σ vV, resVs O56 (look X56.vs L) σ = some [vV] → vV = (.bool (decide w.Right)) → Q .ret L σ := by
    intro L σ vV h1 h2
    rw [hQ]
    exact Ends.is (.inl rfl) h1 (by simp only [packV, h2]) rfl
  refine awp_sr ?_
  simp only [go_sem, R56_0, v56, p56, World.c]
  refine (fun G : AWP X56 _ _ _ [.live ⟨3, [w.c]⟩] => G) ?_
  refine awp_sr ?_
  simp only [go_sem, R56_1, v56, p56, World.c]
  obtain ⟨K1, hK1⟩ : ∃ K : List V → Store → Prop, K = fun L σ => ∃ q y0 y2 y4 y5 y6 y27 y56 y61 y73 y78 y100, L = [y0, .ptr 0 3 0 0, y2, .int .i64 (w.nodes.length : Nat), y4, y5, y6, .bool q, y27, y56, y61, y73, y78, y100] ∧ σ = [.live ⟨3, [w.c]⟩] ∧ q = !decide w.A := ⟨_, rfl⟩
  refine awp_sr2K (K1) ?_ ?_
  · simp only [go_sem, R56_2, v56, p56, World.c]
    repeat' first
      | (refine selP_if rfl (fun hG => ?_) (fun hG => ?_) <;> first | simp only [go_sem, v56, p56, eq_false hG, World.c] | simp only [go_sem, v56, p56, eq_true hG, World.c])
      | (refine selP_ifn rfl (fun hG => ?_) (fun hG => ?_) <;> first | simp only [go_sem, v56, p56, eq_false hG, World.c] | simp only [go_sem, v56, p56, eq_true hG, World.c])
      | (refine selN_if rfl (fun hG => ?_) (fun hG => ?_) <;> first | simp only [go_sem, v56, p56, eq_false hG, World.c] | simp only [go_sem, v56, p56, eq_true hG, World.c])
      | (refine selN_ifn rfl (fun hG => ?_) (fun hG => ?_) <;> first | simp only [go_sem, v56, p56, eq_false hG, World.c] | simp only [go_sem, v56, p56, eq_true hG, World.c])
      | (refine selB_if rfl (fun hG => ?_) (fun hG => ?_) <;> simp only [go_sem, v56, p56, hG, World.c])
      | (refine selB_ifn rfl (fun hG => ?_) (fun hG => ?_) <;> simp only [go_sem, v56, p56, hG, World.c])
      | (refine run_see (l1In_ok _ _ _) false (Views.refl rfl) rfl (fun j hj => by omega) (fun h => by cases h) ?_; simp only [go_sem, v56, p56, World.c])
    all_goals rw [hK1]
    all_goals refine ⟨_, _, _, _, _, _, _, _, _, _, _, _, rfl, rfl, ?_⟩
    all_goals grind [World.A]
  intro L σ hq
  rw [hK1] at hq
  obtain ⟨q, y0, y2, y4, y5, y6, y27, y56, y61, y73, y78, y100, rfl, rfl, hq⟩ := hq
  subst hq
  refine awp_if' rfl ?_ ?_
  · intro h1
    refine awp_sr ?_
    simp only [go_sem, R56_3, v56, p56]
    refine awp_ret ?_
    try simp only [go_sem]
    exact fin _ _ (.bool false) rfl (congrArg V.bool (decide_eq_false fun e => h1 e.a)).symm
  intro h1
  obtain ⟨⟨a1, a2⟩, a3, a4⟩ := id h1
  refine awp_skip ?_
  simp only [go_sem]
  refine awp_sr2 ?_
  simp only [go_sem, R56_4, v56, p56]
  obtain ⟨I, hI⟩ : ∃ I : Nat → List V → Store → Prop, I = fun mM L σ => ∃ i rest y0 y2 y5 y6 y24 y27 y56 y61 y73 y78 y100, mM = w.nodes.length - i ∧ i ≤ w.nodes.length ∧ (∀ j x, j < i → w.nodes[j]? = some x → nodeP w j x) ∧ L = [y0, .ptr 0 3 0 0, y2, .int .i64 (w.nodes.length : Nat), .int .i64 (i : Nat), y5, y6, y24, y27, y56, y61, y73, y78, y100] ∧ σ = .live ⟨3, [w.c]⟩ :: rest := ⟨_, rfl⟩
  first | refine awp_for I w.nodes.length ?_ ?_ | refine awp_seq (awp_for I w.nodes.length ?_ ?_)
  · rw [hI]; refine ⟨0, _, _, _, _, _, _, _, _, _, _, _, _, rfl, Nat.zero_le _, ?_, rfl, rfl⟩
    intro j x h; omega
  intro mM L σ hIn
  rw [hI] at hIn
  obtain ⟨i, rest, y0, y2, y5, y6, y24, y27, y56, y61, y73, y78, y100, rfl, hi, hP, rfl, rfl⟩ := hIn
  refine awp_sr2 ?_
  simp only [go_sem, R56_5, v56, p56]
  refine awp_if rfl ?_ ?_
  · intro h2
    have h2 : i < w.nodes.length := by omega
    have hn := hs.nodes i h2
    have no : ¬ nodeP w i w.nodes[i] → ¬ w.Right := fun e k => e (k.b i _ (List.getElem?_eq_getElem h2))
    refine awp_skip ?_
    simp only [go_sem]
    first | refine awp_block ?_ | refine awp_seq (awp_block ?_)
    obtain ⟨K2, hK2⟩ : ∃ K : List V → Store → Prop, K = fun L σ => ∃ q y0 y2 y5 y6 y24 y27 y61 y73 y78 y100, L = [y0, .ptr 0 3 0 0, y2, .int .i64 (w.nodes.length : Nat), .int .i64 (i : Nat), y5, y6, y24, y27, .bool q, y61, y73, y78, y100] ∧ σ = .live ⟨3, [w.c]⟩ :: rest ∧ q = !decide (nodeP w i w.nodes[i]) := ⟨_, rfl⟩
    refine awp_srK (K2) ?_ ?_
    · simp only [go_sem, R56_6, v56, p56, World.c, rw_at _ h2, Node.c]
      refine run_see (specNodeOk_ok w.nodes[i] hn) false (Views.refl rfl) rfl (fun j hj => by first | omega | ((have hj0 : j = 0 := by omega); subst hj0; first | rfl | (simp only [Nat.add_zero, app_get, app_getk, sapp_get, sapp_getk, Nat.add_assoc, Nat.reduceAdd, List.getElem?_cons_zero, List.getElem?_cons_succ]; done) | simp)) (fun h => by cases h) ?_
      simp only [go_sem, v56, p56]
      by_cases b1 : w.nodes[i].Right
      · simp only [go_sem, v56, p56, eq_true b1, World.c, rw_at _ h2, Node.c]
        by_cases b2 : w.nodes[i].n = (w.nodes.length : Int)
        · simp only [go_sem, v56, p56, eq_true b2, ne_eq, World.c, rw_at _ h2, Node.c]
          rw [hK2]
          refine ⟨_, _, _, _, _, _, _, _, _, _, _, rfl, rfl, ?_⟩
          grind [nodeP]
        · simp only [go_sem, v56, p56, eq_false b2, ne_eq, World.c, rw_at _ h2, Node.c]
          rw [hK2]
          refine ⟨_, _, _, _, _, _, _, _, _, _, _, rfl, rfl, ?_⟩
          grind [nodeP]
      · simp only [go_sem, v56, p56, eq_false b1, World.c, rw_at _ h2, Node.c]
        rw [hK2]
        refine ⟨_, _, _, _, _, _, _, _, _, _, _, rfl, rfl, ?_⟩
        grind [nodeP]
    intro L σ hq
    rw [hK2] at hq
    obtain ⟨q, y0, y2, y5, y6, y24, y27, y61, y73, y78, y100, rfl, rfl, hq⟩ := hq
    subst hq
    refine awp_if' rfl ?_ ?_
    · intro h3
      refine awp_sr ?_
      simp only [go_sem, R56_7, v56, p56]
      refine awp_ret ?_
      try simp only [go_sem]
      exact fin _ _ (.bool false) rfl (congrArg V.bool (decide_eq_false (no h3))).symm
    intro h3
    refine awp_skip ?_
    simp only [go_sem]
    refine awp_reg ?_
    simp only [go_sem, R56_8, v56, p56, wrap_succ (i := i) (by omega)]
    refine ⟨w.nodes.length - (i + 1), by omega, ?_⟩
    rw [hI]
    refine ⟨i + 1, _, _, _, _, _, _, _, _, _, _, _, _, rfl, by omega, ?_, rfl, rfl⟩
    exact upto_succ hP h2 h3
  intro h2
  have all1 := upto_all hP (by omega)
  clear hP hi
  refine awp_exit ?_
  simp only [go_sem]
  refine awp_sr2 ?_
  simp only [go_sem, R56_9, v56, p56]
  obtain ⟨J, hJ⟩ : ∃ J : Nat → List V → Store → Prop, J = fun mM L σ => ∃ k rest y0 y2 y4 y6 y24 y27 y56 y61 y73 y78 y100, mM = w.net.length - k ∧ k ≤ w.net.length ∧ (∀ (j : Nat) (x : Pack), j < k → w.net[j]? = some x → toP w x.to) ∧ L = [y0, .ptr 0 3 0 0, y2, .int .i64 (w.nodes.length : Nat), y4, .int .i64 (k : Nat), y6, y24, y27, y56, y61, y73, y78, y100] ∧ σ = .live ⟨3, [w.c]⟩ :: rest := ⟨_, rfl⟩
  first | refine awp_for J w.net.length ?_ ?_ | refine awp_seq (awp_for J w.net.length ?_ ?_)
  · rw [hJ]; refine ⟨0, _, _, _, _, _, _, _, _, _, _, _, _, rfl, Nat.zero_le _, ?_, rfl, rfl⟩
    intro j x h; omega
  intro mM L σ hIn
  rw [hJ] at hIn
  obtain ⟨k, rest, y0, y2, y4, y6, y24, y27, y56, y61, y73, y78, y100, rfl, hi, hP, rfl, rfl⟩ := hIn
  refine awp_sr2 ?_
  simp only [go_sem, R56_10, v56, p56, World.c]
  refine awp_if rfl ?_ ?_
  · intro h2
    have h2 : k < w.net.length := by omega
    have no : ¬ toP w w.net[k].to → ¬ w.Right := fun e r => e (r.c k _ (List.getElem?_eq_getElem h2))
    refine awp_skip ?_
    simp only [go_sem]
    first | refine awp_block ?_ | refine awp_seq (awp_block ?_)
    refine awp_sr ?_
    simp only [go_sem, R56_11, v56, p56, World.c, rw_at _ h2, Pack.c, wrap_i64 (n := (w.nodes.length : Int) - 1) (by omega) (by omega)]
    refine run_see (l1In_ok _ _ _) false (Views.refl rfl) rfl (fun j hj => by first | omega | ((have hj0 : j = 0 := by omega); subst hj0; first | rfl | (simp only [Nat.add_zero, app_get, app_getk, sapp_get, sapp_getk, Nat.add_assoc, Nat.reduceAdd, List.getElem?_cons_zero, List.getElem?_cons_succ]; done) | simp)) (fun h => by cases h) ?_
    simp only [go_sem, v56, p56]
    refine awp_if' rfl ?_ ?_
    · intro h3
      refine awp_sr ?_
      simp only [go_sem, R56_12, v56, p56]
      refine awp_ret ?_
      try simp only [go_sem]
      exact fin _ _ (.bool false) rfl (congrArg V.bool (decide_eq_false (no h3))).symm
    intro h3
    refine awp_skip ?_
    simp only [go_sem]
    refine awp_reg ?_
    simp only [go_sem, R56_13, v56, p56, wrap_succ (i := k) (by omega)]
    refine ⟨w.net.length - (k + 1), by omega, ?_⟩
    rw [hJ]
    refine ⟨k + 1, _, _, _, _, _, _, _, _, _, _, _, _, rfl, by omega, ?_, rfl, rfl⟩
    exact upto_succ (p := fun _ (x : Pack) => toP w x.to) hP h2 h3
  intro h2
  have all2 := upto_all (p := fun _ (x : Pack) => toP w x.to) hP (by omega)
  clear hP hi
  refine awp_exit ?_
  simp only [go_sem]
  refine awp_sr2 ?_
  simp only [go_sem, R56_14, v56, p56]
  obtain ⟨K, hK⟩ : ∃ K : Nat → List V → Store → Prop, K = fun mM L σ => ∃ m rest y0 y2 y4 y5 y24 y27 y56 y61 y73 y78 y100, mM = w.said.length - m ∧ m ≤ w.said.length ∧ (∀ j x, j < m → w.said[j]? = some x → saidP w x) ∧ L = [y0, .ptr 0 3 0 0, y2, .int .i64 (w.nodes.length : Nat), y4, y5, .int .i64 (m : Nat), y24, y27, y56, y61, y73, y78, y100] ∧ σ = .live ⟨3, [w.c]⟩ :: rest := ⟨_, rfl⟩
  first | refine awp_for K w.said.length ?_ ?_ | refine awp_seq (awp_for K w.said.length ?_ ?_)
  · rw [hK]; refine ⟨0, _, _, _, _, _, _, _, _, _, _, _, _, rfl, Nat.zero_le _, ?_, rfl, rfl⟩
    intro j x h; omega
  intro mM L σ hIn
  rw [hK] at hIn
  obtain ⟨m, rest, y0, y2, y4, y5, y24, y27, y56, y61, y73, y78, y100, rfl, hi, hP, rfl, rfl⟩ := hIn
  refine awp_sr2 ?_
  simp only [go_sem, R56_15, v56, p56, World.c]
  refine awp_if rfl ?_ ?_
  · intro h2
    have h2 : m < w.said.length := by omega
    have hn := hs.said m h2
    have no : ¬ saidP w w.said[m] → ¬ w.Right := fun e r => e (r.d m _ (List.getElem?_eq_getElem h2))
    refine awp_skip ?_
    simp only [go_sem]
    first | refine awp_block ?_ | refine awp_seq (awp_block ?_)
    obtain ⟨K3, hK3⟩ : ∃ K : List V → Store → Prop, K = fun L σ => ∃ q y0 y2 y4 y5 y24 y27 y56 y61 y73 y78, L = [y0, .ptr 0 3 0 0, y2, .int .i64 (w.nodes.length : Nat), y4, y5, .int .i64 (m : Nat), y24, y27, y56, y61, y73, y78, .bool q] ∧ σ = .live ⟨3, [w.c]⟩ :: rest ∧ q = !decide (saidP w w.said[m]) := ⟨_, rfl⟩
    refine awp_srK (K3) ?_ ?_
    · simp only [go_sem, R56_16, v56, p56, World.c, rw_at _ h2, Said.c, wrap_i64 (n := (w.nodes.length : Int) - 1) (by omega) (by omega)]
      repeat' first
        | (refine selP_if rfl (fun hG => ?_) (fun hG => ?_) <;> first | simp only [go_sem, v56, p56, eq_false hG, World.c, rw_at _ h2, Said.c, wrap_i64 (n := (w.nodes.length : Int) - 1) (by omega) (by omega)] | simp only [go_sem, v56, p56, eq_true hG, World.c, rw_at _ h2, Said.c, wrap_i64 (n := (w.nodes.length : Int) - 1) (by omega) (by omega)])
        | (refine selP_ifn rfl (fun hG => ?_) (fun hG => ?_) <;> first | simp only [go_sem, v56, p56, eq_false hG, World.c, rw_at _ h2, Said.c, wrap_i64 (n := (w.nodes.length : Int) - 1) (by omega) (by omega)] | simp only [go_sem, v56, p56, eq_true hG, World.c, rw_at _ h2, Said.c, wrap_i64 (n := (w.nodes.length : Int) - 1) (by omega) (by omega)])
        | (refine selN_if rfl (fun hG => ?_) (fun hG => ?_) <;> first | simp only [go_sem, v56, p56, eq_false hG, World.c, rw_at _ h2, Said.c, wrap_i64 (n := (w.nodes.length : Int) - 1) (by omega) (by omega)] | simp only [go_sem, v56, p56, eq_true hG, World.c, rw_at _ h2, Said.c, wrap_i64 (n := (w.nodes.length : Int) - 1) (by omega) (by omega)])
        | (refine selN_ifn rfl (fun hG => ?_) (fun hG => ?_) <;> first | simp only [go_sem, v56, p56, eq_false hG, World.c, rw_at _ h2, Said.c, wrap_i64 (n := (w.nodes.length : Int) - 1) (by omega) (by omega)] | simp only [go_sem, v56, p56, eq_true hG, World.c, rw_at _ h2, Said.c, wrap_i64 (n := (w.nodes.length : Int) - 1) (by omega) (by omega)])
        | (refine selB_if rfl (fun hG => ?_) (fun hG => ?_) <;> simp only [go_sem, v56, p56, hG, World.c, rw_at _ h2, Said.c, wrap_i64 (n := (w.nodes.length : Int) - 1) (by omega) (by omega)])
        | (refine selB_ifn rfl (fun hG => ?_) (fun hG => ?_) <;> simp only [go_sem, v56, p56, hG, World.c, rw_at _ h2, Said.c, wrap_i64 (n := (w.nodes.length : Int) - 1) (by omega) (by omega)])
        | (refine run_see (l1In_ok _ _ _) false (Views.refl rfl) rfl (fun j hj => by omega) (fun h => by cases h) ?_; simp only [go_sem, v56, p56, World.c, rw_at _ h2, Said.c, wrap_i64 (n := (w.nodes.length : Int) - 1) (by omega) (by omega)])
        | (refine run_see (specStateOk_ok w.said[m].part hn) false (Views.refl rfl) rfl (fun j hj => by omega) (fun h => by cases h) ?_; simp only [go_sem, v56, p56, World.c, rw_at _ h2, Said.c, wrap_i64 (n := (w.nodes.length : Int) - 1) (by omega) (by omega)])
      all_goals rw [hK3]
      all_goals refine ⟨_, _, _, _, _, _, _, _, _, _, _, rfl, rfl, ?_⟩
      all_goals grind [saidP, toP]
    intro L σ hq
    rw [hK3] at hq
    obtain ⟨q, y0, y2, y4, y5, y24, y27, y56, y61, y73, y78, rfl, rfl, hq⟩ := hq
    subst hq
    refine awp_if' rfl ?_ ?_
    · intro h3
      refine awp_sr ?_
      simp only [go_sem, R56_17, v56, p56]
      refine awp_ret ?_
      try simp only [go_sem]
      exact fin _ _ (.bool false) rfl (congrArg V.bool (decide_eq_false (no h3))).symm
    intro h3
    refine awp_skip ?_
    simp only [go_sem]
    refine awp_reg ?_
    simp only [go_sem, R56_18, v56, p56, wrap_succ (i := m) (by omega)]
    refine ⟨w.said.length - (m + 1), by omega, ?_⟩
    rw [hK]
    refine ⟨m + 1, _, _, _, _, _, _, _, _, _, _, _, _, rfl, by omega, ?_, rfl, rfl⟩
    exact upto_succ (p := fun _ x => saidP w x) hP h2 h3
  intro h2
  have all3 := upto_all (p := fun _ x => saidP w x) hP (by omega)
  refine awp_exit ?_
  simp only [go_sem]
  refine awp_sr ?_
  simp only [go_sem, R56_19, v56, p56]
  refine awp_ret ?_
  try simp only [go_sem]
  exact fin _ _ (.bool true) rfl (congrArg V.bool (decide_eq_true (show w.Right from ⟨h1, all1, all2, all3⟩))).symm
theorem hasNode_ok (w : World) (k : Int) (h : w.nodes.length ≤ 1048576) : FS Tryz.prog 80 [] [.agg w.c, .int .i64 k] (.bool (decide (toP w k))) [] := by
  refine FS.of (X := X80) (ac := A80) (os := O80) Tryz.func80 (by rfl) (by rfl) (by kernel_rfl) o80 (Nat.le_of_ble_eq_true rfl) ?_
  show AWP X80 A80 (Ends X80.vs O80 0 _ _) [.agg w.c, .int .i64 k, .tup [], .tup []] []
  obtain ⟨Q, hQ⟩ : ∃ Q, Q = Ends X80.vs O80 0 (.bool (decide (toP w k))) [] := ⟨_, rfl⟩
  rw [← hQ]
  have fin : ∀ L σ vV, resVs O80 (look X80.vs L) σ = some [vV] → vV = (.bool (decide (toP w k))) → Q .ret L σ := by
    intro L σ vV h1 h2
    rw [hQ]
    exact Ends.is (.inl rfl) h1 (by simp only [packV, h2]) rfl
  refine awp_sr ?_
  simp only [go_sem, R80_0, v80, p80, World.c]
  refine awp_sr ?_
  simp only [go_sem, R80_1, v80, p80, World.c, wrap_i64 (n := (w.nodes.length : Int) - 1) (by omega) (by omega)]
  refine run_see (within_ok _ _ _) false (Views.refl rfl) rfl (fun j hj => by first | omega | ((have hj0 : j = 0 := by omega); subst hj0; first | rfl | (simp only [Nat.add_zero, app_get, app_getk, sapp_get, sapp_getk, Nat.add_assoc, Nat.reduceAdd, List.getElem?_cons_zero, List.getElem?_cons_succ]; done) | simp)) (fun h => by cases h) ?_
  simp only [go_sem, v80, p80]
  refine awp_ret ?_
  try simp only [go_sem]
  exact fin _ _ _ rfl rfl
set_option maxHeartbeats 4000000 in
theorem implWorldOk_ok (w : World) (h : w.sz ≤ 1048576) : FS Tryz.prog 55 [] [.agg w.c] (.bool (decide w.Right)) [] := by
  refine FS.of (X := X55) (ac := A55) (os := O55) Tryz.func55 (by rfl) (by rfl) (by kernel_rfl) o55 (Nat.le_of_ble_eq_true rfl) ?_
  show AWP X55 A55 (Ends X55.vs O55 0 _ _) [.agg w.c, .tup [], .tup [], .tup [], .tup [], .tup [], .tup [], .tup [], .tup [], .tup [], .tup [], .tup [], .tup [], .tup [], .tup [], .tup [], .tup [], .tup [], .tup [], .tup [], .tup [], .tup [], .tup []] []
  obtain ⟨Q, hQ⟩ : ∃ Q, Q = Ends X55.vs O55 0 (.bool (decide w.Right)) [] := ⟨_, rfl⟩
  rw [← hQ]
  have hs := World.small h
  have ln := hs.ln
  have fin : ∀ L σ vV, resVs O55 (look X55.vs L) σ = some [vV] → vV = (.bool (decide w.Right)) → Q .ret L σ := by
    intro L σ vV h1 h2
    rw [hQ]
    exact Ends.is (.inl rfl) h1 (by simp only [packV, h2]) rfl
  refine awp_sr ?_
  simp only [go_sem, R55_0, v55, p55, World.c]
  refine (fun G : AWP X55 _ _ _ [.live ⟨3, [w.c]⟩] => G) ?_
  obtain ⟨K4, hK4⟩ : ∃ K : List V → Store → Prop, K = fun L σ => ∃ q y0 y2 y3 y4 y6 y8 y27 y28 y29 y30 y50 y53 y54 y55 y56 y63 y66 y67 y68 y69 y82, L = [y0, .ptr 0 3 0 0, y2, y3, y4, y6, y8, .bool q, y27, y28, y29, y30, y50, y53, y54, y55, y56, y63, y66, y67, y68, y69, y82] ∧ σ = [.live ⟨3, [w.c]⟩] ∧ q = !decide w.A := ⟨_, rfl⟩
  refine awp_sr2K (K4) ?_ ?_
  · simp only [go_sem, R55_1, v55, p55, World.c]
    repeat' first
      | (refine selP_if rfl (fun hG => ?_) (fun hG => ?_) <;> first | simp only [go_sem, v55, p55, eq_false hG, World.c] | simp only [go_sem, v55, p55, eq_true hG, World.c])
      | (refine selP_ifn rfl (fun hG => ?_) (fun hG => ?_) <;> first | simp only [go_sem, v55, p55, eq_false hG, World.c] | simp only [go_sem, v55, p55, eq_true hG, World.c])
      | (refine selN_if rfl (fun hG => ?_) (fun hG => ?_) <;> first | simp only [go_sem, v55, p55, eq_false hG, World.c] | simp only [go_sem, v55, p55, eq_true hG, World.c])
      | (refine selN_ifn rfl (fun hG => ?_) (fun hG => ?_) <;> first | simp only [go_sem, v55, p55, eq_false hG, World.c] | simp only [go_sem, v55, p55, eq_true hG, World.c])
      | (refine selB_if rfl (fun hG => ?_) (fun hG => ?_) <;> simp only [go_sem, v55, p55, hG, World.c])
      | (refine selB_ifn rfl (fun hG => ?_) (fun hG => ?_) <;> simp only [go_sem, v55, p55, hG, World.c])
      | (refine run_see (within_ok _ _ _) false (Views.refl rfl) rfl (fun j hj => by omega) (fun h => by cases h) ?_; simp only [go_sem, v55, p55, World.c])
    all_goals rw [hK4]
    all_goals refine ⟨_, _, _, _, _, _, _, _, _, _, _, _, _, _, _, _, _, _, _, _, _, _, rfl, rfl, ?_⟩
    all_goals grind [World.A]
  intro L σ hq
  rw [hK4] at hq
  obtain ⟨q, y0, y2, y3, y4, y6, y8, y27, y28, y29, y30, y50, y53, y54, y55, y56, y63, y66, y67, y68, y69, y82, rfl, rfl, hq⟩ := hq
  subst hq
  refine awp_if' rfl ?_ ?_
  · intro h1
    refine awp_sr ?_
    simp only [go_sem, R55_2, v55, p55]
    refine awp_ret ?_
    try simp only [go_sem]
    exact fin _ _ (.bool false) rfl (congrArg V.bool (decide_eq_false fun e => h1 e.a)).symm
  intro h1
  obtain ⟨⟨a1, a2⟩, a3, a4⟩ := id h1
  refine awp_skip ?_
  simp only [go_sem]
  refine awp_sr2 ?_
  simp only [go_sem, R55_3, v55, p55, World.c]
  obtain ⟨I, hI⟩ : ∃ I : Nat → List V → Store → Prop, I = fun mM L σ => ∃ i rest y0 y2 y3 y4 y6 y8 y25 y30 y50 y53 y54 y55 y56 y63 y66 y67 y68 y69 y82, mM = w.nodes.length - i ∧ i ≤ w.nodes.length ∧ (∀ j x, j < i → w.nodes[j]? = some x → nodeP w j x) ∧ L = [y0, .ptr 0 3 0 0, y2, y3, y4, y6, y8, y25, .fz 19 (rw_ Node.c w.nodes), .int .i64 (w.nodes.length : Nat), .int .i64 (i : Nat), y30, y50, y53, y54, y55, y56, y63, y66, y67, y68, y69, y82] ∧ σ = .live ⟨3, [w.c]⟩ :: rest := ⟨_, rfl⟩
  first | refine awp_for I w.nodes.length ?_ ?_ | refine awp_seq (awp_for I w.nodes.length ?_ ?_)
  · rw [hI]; refine ⟨0, _, _, _, _, _, _, _, _, _, _, _, _, _, _, _, _, _, _, _, _, rfl, Nat.zero_le _, ?_, rfl, rfl⟩
    intro j x h; omega
  intro mM L σ hIn
  rw [hI] at hIn
  obtain ⟨i, rest, y0, y2, y3, y4, y6, y8, y25, y30, y50, y53, y54, y55, y56, y63, y66, y67, y68, y69, y82, rfl, hi, hP, rfl, rfl⟩ := hIn
  refine awp_sr ?_
  simp only [go_sem, R55_4, v55, p55]
  refine awp_seq ?_
  refine awp_if rfl ?_ ?_
  · intro h2
    have h2 : i < w.nodes.length := by omega
    have hn := hs.nodes i h2
    have no : ¬ nodeP w i w.nodes[i] → ¬ w.Right := fun e k => e (k.b i _ (List.getElem?_eq_getElem h2))
    refine awp_skip ?_
    simp only [go_sem]
    first | refine awp_block ?_ | refine awp_seq (awp_block ?_)
    refine awp_sr ?_
    simp only [go_sem, R55_5, v55, p55, rw_at _ h2, Node.c]
    refine (fun G : AWP X55 _ _ _ (.live ⟨3, [w.c]⟩ :: (rest ++ [.live ⟨19, [w.nodes[i].c]⟩])) => G) ?_
    obtain ⟨K5, hK5⟩ : ∃ K : List V → Store → Prop, K = fun L σ => ∃ q y0 y2 y3 y4 y6 y8 y25 y30 y53 y54 y55 y56 y63 y66 y67 y68 y69 y82, L = [y0, .ptr 0 3 0 0, y2, y3, y4, y6, y8, y25, .fz 19 (rw_ Node.c w.nodes), .int .i64 (w.nodes.length : Nat), .int .i64 (i : Nat), y30, .bool q, y53, y54, y55, y56, y63, y66, y67, y68, y69, y82] ∧ σ = .live ⟨3, [w.c]⟩ :: (rest ++ [.live ⟨19, [w.nodes[i].c]⟩]) ∧ q = !decide (nodeP w i w.nodes[i]) := ⟨_, rfl⟩
    refine awp_srK (K5) ?_ ?_
    · simp only [go_sem, R55_6, v55, p55, World.c, Node.c]
      refine run_see (implNodeOk_ok w.nodes[i] hn) false (Views.refl rfl) rfl (fun j hj => by first | omega | ((have hj0 : j = 0 := by omega); subst hj0; first | rfl | (simp only [Nat.add_zero, app_get, app_getk, sapp_get, sapp_getk, Nat.add_assoc, Nat.reduceAdd, List.getElem?_cons_zero, List.getElem?_cons_succ]; done) | simp)) (fun h => by cases h) ?_
      simp only [go_sem, v55, p55]
      by_cases b1 : w.nodes[i].Right
      · simp only [go_sem, v55, p55, eq_true b1, World.c, Node.c]
        by_cases b2 : w.nodes[i].n = (w.nodes.length : Int)
        · simp only [go_sem, v55, p55, eq_true b2, ne_eq, World.c, Node.c]
          rw [hK5]
          refine ⟨_, _, _, _, _, _, _, _, _, _, _, _, _, _, _, _, _, _, _, rfl, rfl, ?_⟩
          grind [nodeP]
        · simp only [go_sem, v55, p55, eq_false b2, ne_eq, World.c, Node.c]
          rw [hK5]
          refine ⟨_, _, _, _, _, _, _, _, _, _, _, _, _, _, _, _, _, _, _, rfl, rfl, ?_⟩
          grind [nodeP]
      · simp only [go_sem, v55, p55, eq_false b1, World.c, Node.c]
        rw [hK5]
        refine ⟨_, _, _, _, _, _, _, _, _, _, _, _, _, _, _, _, _, _, _, rfl, rfl, ?_⟩
        grind [nodeP]
    intro L σ hq
    rw [hK5] at hq
    obtain ⟨q, y0, y2, y3, y4, y6, y8, y25, y30, y53, y54, y55, y56, y63, y66, y67, y68, y69, y82, rfl, rfl, hq⟩ := hq
    subst hq
    refine awp_if' rfl ?_ ?_
    · intro h3
      refine awp_sr ?_
      simp only [go_sem, R55_7, v55, p55]
      refine awp_ret ?_
      try simp only [go_sem]
      exact fin _ _ (.bool false) rfl (congrArg V.bool (decide_eq_false (no h3))).symm
    intro h3
    refine awp_skip ?_
    simp only [go_sem]
    refine awp_reg ?_
    simp only [go_sem, R55_8, v55, p55, wrap_succ (i := i) (by omega)]
    refine ⟨w.nodes.length - (i + 1), by omega, ?_⟩
    rw [hI]
    refine ⟨i + 1, _, _, _, _, _, _, _, _, _, _, _, _, _, _, _, _, _, _, _, _, rfl, by omega, ?_, rfl, rfl⟩
    exact upto_succ hP h2 h3
  intro h2
  have all1 := upto_all hP (by omega)
  clear hP hi
  refine awp_exit ?_
  simp only [go_sem]
  refine awp_sr2 ?_
  simp only [go_sem, R55_9, v55, p55, World.c]
  obtain ⟨J, hJ⟩ : ∃ J : Nat → List V → Store → Prop, J = fun mM L σ => ∃ k rest y0 y2 y3 y4 y6 y8 y25 y27 y28 y29 y30 y50 y56 y63 y66 y67 y68 y69 y82, mM = w.net.length - k ∧ k ≤ w.net.length ∧ (∀ (j : Nat) (x : Pack), j < k → w.net[j]? = some x → toP w x.to) ∧ L = [y0, .ptr 0 3 0 0, y2, y3, y4, y6, y8, y25, y27, y28, y29, y30, y50, .fz 3 (rw_ Pack.c w.net), .int .i64 (w.net.length : Nat), .int .i64 (k : Nat), y56, y63, y66, y67, y68, y69, y82] ∧ σ = .live ⟨3, [w.c]⟩ :: rest := ⟨_, rfl⟩
  first | refine awp_for J w.net.length ?_ ?_ | refine awp_seq (awp_for J w.net.length ?_ ?_)
  · rw [hJ]; refine ⟨0, _, _, _, _, _, _, _, _, _, _, _, _, _, _, _, _, _, _, _, _, rfl, Nat.zero_le _, ?_, rfl, rfl⟩
    intro j x h; omega
  intro mM L σ hIn
  rw [hJ] at hIn
  obtain ⟨k, rest, y0, y2, y3, y4, y6, y8, y25, y27, y28, y29, y30, y50, y56, y63, y66, y67, y68, y69, y82, rfl, hi, hP, rfl, rfl⟩ := hIn
  refine awp_sr ?_
  simp only [go_sem, R55_10, v55, p55]
  refine awp_seq ?_
  refine awp_if rfl ?_ ?_
  · intro h2
    have h2 : k < w.net.length := by omega
    have no : ¬ toP w w.net[k].to → ¬ w.Right := fun e r => e (r.c k _ (List.getElem?_eq_getElem h2))
    refine awp_skip ?_
    simp only [go_sem]
    first | refine awp_block ?_ | refine awp_seq (awp_block ?_)
    refine awp_sr ?_
    simp only [go_sem, R55_11, v55, p55, rw_at _ h2, Pack.c]
    refine awp_sr ?_
    simp only [go_sem, R55_12, v55, p55, World.c]
    refine run_see (hasNode_ok w _ ln) false (Views.refl rfl) rfl (fun j hj => by first | omega | ((have hj0 : j = 0 := by omega); subst hj0; first | rfl | (simp only [Nat.add_zero, app_get, app_getk, sapp_get, sapp_getk, Nat.add_assoc, Nat.reduceAdd, List.getElem?_cons_zero, List.getElem?_cons_succ]; done) | simp)) (fun h => by cases h) ?_
    simp only [go_sem, v55, p55]
    refine awp_if' rfl ?_ ?_
    · intro h3
      refine awp_sr ?_
      simp only [go_sem, R55_13, v55, p55]
      refine awp_ret ?_
      try simp only [go_sem]
      exact fin _ _ (.bool false) rfl (congrArg V.bool (decide_eq_false (no h3))).symm
    intro h3
    refine awp_skip ?_
    simp only [go_sem]
    refine awp_reg ?_
    simp only [go_sem, R55_14, v55, p55, wrap_succ (i := k) (by omega)]
    refine ⟨w.net.length - (k + 1), by omega, ?_⟩
    rw [hJ]
    refine ⟨k + 1, _, _, _, _, _, _, _, _, _, _, _, _, _, _, _, _, _, _, _, _, rfl, by omega, ?_, rfl, rfl⟩
    exact upto_succ (p := fun _ (x : Pack) => toP w x.to) hP h2 h3
  intro h2
  have all2 := upto_all (p := fun _ (x : Pack) => toP w x.to) hP (by omega)
  clear hP hi
  refine awp_exit ?_
  simp only [go_sem]
  refine awp_sr2 ?_
  simp only [go_sem, R55_15, v55, p55, World.c]
  obtain ⟨K, hK⟩ : ∃ K : Nat → List V → Store → Prop, K = fun mM L σ => ∃ m rest y0 y2 y3 y4 y6 y8 y25 y27 y28 y29 y30 y50 y53 y54 y55 y56 y63 y69 y82, mM = w.said.length - m ∧ m ≤ w.said.length ∧ (∀ j x, j < m → w.said[j]? = some x → saidP w x) ∧ L = [y0, .ptr 0 3 0 0, y2, y3, y4, y6, y8, y25, y27, y28, y29, y30, y50, y53, y54, y55, y56, y63, .fz 3 (rw_ Said.c w.said), .int .i64 (w.said.length : Nat), .int .i64 (m : Nat), y69, y82] ∧ σ = .live ⟨3, [w.c]⟩ :: rest := ⟨_, rfl⟩
  first | refine awp_for K w.said.length ?_ ?_ | refine awp_seq (awp_for K w.said.length ?_ ?_)
  · rw [hK]; refine ⟨0, _, _, _, _, _, _, _, _, _, _, _, _, _, _, _, _, _, _, _, _, rfl, Nat.zero_le _, ?_, rfl, rfl⟩
    intro j x h; omega
  intro mM L σ hIn
  rw [hK] at hIn
  obtain ⟨m, rest, y0, y2, y3, y4, y6, y8, y25, y27, y28, y29, y30, y50, y53, y54, y55, y56, y63, y69, y82, rfl, hi, hP, rfl, rfl⟩ := hIn
  refine awp_sr ?_
  simp only [go_sem, R55_16, v55, p55]
  refine awp_seq ?_
  refine awp_if rfl ?_ ?_
  · intro h2
    have h2 : m < w.said.length := by omega
    have hn := hs.said m h2
    have no : ¬ saidP w w.said[m] → ¬ w.Right := fun e r => e (r.d m _ (List.getElem?_eq_getElem h2))
    refine awp_skip ?_
    simp only [go_sem]
    first | refine awp_block ?_ | refine awp_seq (awp_block ?_)
    refine awp_sr ?_
    simp only [go_sem, R55_17, v55, p55, rw_at _ h2, Said.c]
    refine (fun G : AWP X55 _ _ _ (.live ⟨3, [w.c]⟩ :: (rest ++ [.live ⟨3, [w.said[m].c]⟩])) => G) ?_
    obtain ⟨K6, hK6⟩ : ∃ K : List V → Store → Prop, K = fun L σ => ∃ q y0 y2 y3 y4 y6 y8 y25 y27 y28 y29 y30 y50 y53 y54 y55 y56 y63 y69, L = [y0, .ptr 0 3 0 0, y2, y3, y4, y6, y8, y25, y27, y28, y29, y30, y50, y53, y54, y55, y56, y63, .fz 3 (rw_ Said.c w.said), .int .i64 (w.said.length : Nat), .int .i64 (m : Nat), y69, .bool q] ∧ σ = .live ⟨3, [w.c]⟩ :: (rest ++ [.live ⟨3, [w.said[m].c]⟩]) ∧ q = !decide (saidP w w.said[m]) := ⟨_, rfl⟩
    refine awp_srK (K6) ?_ ?_
    · simp only [go_sem, R55_18, v55, p55, World.c, Said.c]
      repeat' first
        | (refine selP_if rfl (fun hG => ?_) (fun hG => ?_) <;> first | simp only [go_sem, v55, p55, eq_false hG, World.c, Said.c] | simp only [go_sem, v55, p55, eq_true hG, World.c, Said.c])
        | (refine selP_ifn rfl (fun hG => ?_) (fun hG => ?_) <;> first | simp only [go_sem, v55, p55, eq_false hG, World.c, Said.c] | simp only [go_sem, v55, p55, eq_true hG, World.c, Said.c])
        | (refine selN_if rfl (fun hG => ?_) (fun hG => ?_) <;> first | simp only [go_sem, v55, p55, eq_false hG, World.c, Said.c] | simp only [go_sem, v55, p55, eq_true hG, World.c, Said.c])
        | (refine selN_ifn rfl (fun hG => ?_) (fun hG => ?_) <;> first | simp only [go_sem, v55, p55, eq_false hG, World.c, Said.c] | simp only [go_sem, v55, p55, eq_true hG, World.c, Said.c])
        | (refine selB_if rfl (fun hG => ?_) (fun hG => ?_) <;> simp only [go_sem, v55, p55, hG, World.c, Said.c])
        | (refine selB_ifn rfl (fun hG => ?_) (fun hG => ?_) <;> simp only [go_sem, v55, p55, hG, World.c, Said.c])
        | (refine run_see (hasNode_ok w _ ln) false (Views.refl rfl) rfl (fun j hj => by omega) (fun h => by cases h) ?_; simp only [go_sem, v55, p55, World.c, Said.c])
        | (refine run_see (implStateOk_ok w.said[m].part hn) false (Views.refl rfl) rfl (fun j hj => by omega) (fun h => by cases h) ?_; simp only [go_sem, v55, p55, World.c, Said.c])
      all_goals rw [hK6]
      all_goals refine ⟨_, _, _, _, _, _, _, _, _, _, _, _, _, _, _, _, _, _, _, rfl, rfl, ?_⟩
      all_goals grind [saidP]
    intro L σ hq
    rw [hK6] at hq
    obtain ⟨q, y0, y2, y3, y4, y6, y8, y25, y27, y28, y29, y30, y50, y53, y54, y55, y56, y63, y69, rfl, rfl, hq⟩ := hq
    subst hq
    refine awp_if' rfl ?_ ?_
    · intro h3
      refine awp_sr ?_
      simp only [go_sem, R55_19, v55, p55]
      refine awp_ret ?_
      try simp only [go_sem]
      exact fin _ _ (.bool false) rfl (congrArg V.bool (decide_eq_false (no h3))).symm
    intro h3
    refine awp_skip ?_
    simp only [go_sem]
    refine awp_reg ?_
    simp only [go_sem, R55_20, v55, p55, wrap_succ (i := m) (by omega)]
    refine ⟨w.said.length - (m + 1), by omega, ?_⟩
    rw [hK]
    refine ⟨m + 1, _, _, _, _, _, _, _, _, _, _, _, _, _, _, _, _, _, _, _, _, rfl, by omega, ?_, rfl, rfl⟩
    exact upto_succ (p := fun _ x => saidP w x) hP h2 h3
  intro h2
  have all3 := upto_all (p := fun _ x => saidP w x) hP (by omega)
  refine awp_exit ?_
  simp only [go_sem]
  refine awp_sr ?_
  simp only [go_sem, R55_21, v55, p55]
  refine awp_ret ?_
  try simp only [go_sem]
  exact fin _ _ (.bool true) rfl (congrArg V.bool (decide_eq_true (show w.Right from ⟨h1, all1, all2, all3⟩))).symm
end Go.Proofs.YtffigokicddekaaGreat.Abs
