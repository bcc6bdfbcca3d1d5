/- How far one node is behind another, in both texts; the law. No condition. -/
import Derived.Test.YtffigokicddekaaGreatMZ6
set_option linter.unusedVariables false
set_option linter.unusedSimpArgs false
set_option maxRecDepth 10000
namespace Go.Proofs.YtffigokicddekaaGreat.Abs
open Go Go.Proofs
def R75_0 : List AR := [⟨(some 3), none, 0, (.box 0 3 (.t 0))⟩, ⟨(some 6), none, 0, (.mov (.k (.bool false)))⟩]
def R75_1 : List AR := [⟨(some 7), none, 0, (.load 3 true (.t 3))⟩, ⟨(some 8), none, 0, (.call false 0 0 56 [(.t 7)])⟩, ⟨(some 9), none, 0, (.mov (.t 8))⟩, ⟨(some 10), (some (9, true)), 0, (.mov (.t 1))⟩, ⟨(some 11), (some (9, true)), 0, (.faddr 0 (.t 3))⟩, ⟨(some 12), (some (9, true)), 0, (.load 1 false (.t 11))⟩, ⟨(some 13), (some (9, true)), 0, (.len (.t 12))⟩, ⟨(some 14), (some (9, true)), 0, (.bin .sub (.t 13) (.k (.int .i64 1)))⟩, ⟨(some 15), (some (9, true)), 0, (.call false 0 0 52 [(.t 10), (.k (.int .i64 0)), (.t 14)])⟩, ⟨(some 16), none, 0, (.pick (.t 9) (.t 15) (.k (.bool false)))⟩, ⟨(some 17), none, 0, (.mov (.t 16))⟩, ⟨(some 18), (some (17, true)), 0, (.mov (.t 2))⟩, ⟨(some 19), (some (17, true)), 0, (.faddr 0 (.t 3))⟩, ⟨(some 20), (some (17, true)), 0, (.load 1 false (.t 19))⟩, ⟨(some 21), (some (17, true)), 0, (.len (.t 20))⟩, ⟨(some 22), (some (17, true)), 0, (.bin .sub (.t 21) (.k (.int .i64 1)))⟩, ⟨(some 23), (some (17, true)), 0, (.call false 0 0 52 [(.t 18), (.k (.int .i64 0)), (.t 22)])⟩, ⟨(some 24), none, 0, (.pick (.t 17) (.t 23) (.k (.bool false)))⟩, ⟨(some 25), none, 0, (.mov (.t 24))⟩, ⟨(some 26), (some (25, true)), 0, (.mov (.t 1))⟩, ⟨(some 27), (some (25, true)), 0, (.mov (.t 2))⟩, ⟨(some 28), (some (25, true)), 0, (.bin .neq (.t 26) (.t 27))⟩, ⟨(some 29), none, 0, (.pick (.t 25) (.t 28) (.k (.bool false)))⟩, ⟨(some 6), none, 0, (.mov (.t 29))⟩]
def A75_0 : AC := (.seq (.reg 0 R75_1) .ret)
def A75 : AC := (.seq (.reg 1 R75_0) A75_0)
def O75 : List AO := [(.mov (.t 6))]
def G75 : Fns := ⟨fun f => false, fun f => 0, false⟩
noncomputable def X75 : Cx := ⟨Tryz.prog, G75, drawD, 30, [0, 1, 2, 3, 6]⟩
theorem c75 : (Tryz.f75.body).bind (compC X75.P X75.Γ X75.D X75.nt) = some A75 := by kernel_rfl
theorem o75 : compRes X75.P Tryz.f75.results.toList = some O75 := by kernel_rfl
theorem v75 : X75.vs = [0, 1, 2, 3, 6] := rfl
theorem p75 : X75.P = Tryz.prog := rfl
def R26_0 : List AR := [⟨(some 3), none, 0, (.box 0 3 (.t 0))⟩, ⟨(some 6), none, 0, (.mov (.k (.int .i64 0)))⟩]
def R26_1 : List AR := [⟨(some 7), none, 0, (.load 3 true (.t 3))⟩, ⟨(some 8), none, 0, (.mov (.t 1))⟩, ⟨(some 9), none, 0, (.mov (.t 2))⟩, ⟨(some 10), none, 0, (.call false 0 0 75 [(.t 7), (.t 8), (.t 9)])⟩, ⟨(some 11), none, 0, (.not (.t 10))⟩]
def R26_2 : List AR := [⟨(some 6), none, 0, (.mov (.k (.int .i64 (-1))))⟩]
def R26_3 : List AR := [⟨(some 12), none, 0, (.faddr 0 (.t 3))⟩, ⟨(some 13), none, 0, (.load 1 false (.t 12))⟩, ⟨(some 14), none, 0, (.mov (.t 1))⟩, ⟨(some 15), none, 0, (.iaddr 19 (.t 13) (.t 14))⟩, ⟨(some 16), none, 0, (.faddr 6 (.t 15))⟩, ⟨(some 17), none, 0, (.load 3 true (.t 16))⟩, ⟨(some 18), none, 0, (.call false 0 0 76 [(.t 17)])⟩, ⟨(some 19), none, 0, (.faddr 0 (.t 3))⟩, ⟨(some 20), none, 0, (.load 1 false (.t 19))⟩, ⟨(some 21), none, 0, (.mov (.t 1))⟩, ⟨(some 22), none, 0, (.iaddr 19 (.t 20) (.t 21))⟩, ⟨(some 23), none, 0, (.faddr 10 (.t 22))⟩, ⟨(some 24), none, 0, (.load 1 false (.t 23))⟩, ⟨(some 25), none, 0, (.mov (.t 2))⟩, ⟨(some 26), none, 0, (.iaddr 1 (.t 24) (.t 25))⟩, ⟨(some 27), none, 0, (.load 1 false (.t 26))⟩, ⟨(some 28), none, 0, (.bin .sub (.t 18) (.t 27))⟩, ⟨(some 6), none, 0, (.mov (.t 28))⟩]
def A26_0 : AC := (.seq (.draw 0 R26_3) .ret)
def A26_1 : AC := (.seq (.seq (.reg 0 R26_1) (.cond (.t 11) (.seq (.reg 0 R26_2) .ret) .skip)) A26_0)
def A26 : AC := (.seq (.reg 1 R26_0) A26_1)
def O26 : List AO := [(.mov (.t 6))]
def G26 : Fns := ⟨fun f => false, fun f => 0, false⟩
noncomputable def X26 : Cx := ⟨Tryz.prog, G26, drawD, 29, [0, 1, 2, 3, 6, 11]⟩
theorem c26 : (Tryz.f26.body).bind (compC X26.P X26.Γ X26.D X26.nt) = some A26 := by kernel_rfl
theorem o26 : compRes X26.P Tryz.f26.results.toList = some O26 := by kernel_rfl
theorem v26 : X26.vs = [0, 1, 2, 3, 6, 11] := rfl
theorem p26 : X26.P = Tryz.prog := rfl
def R28_0 : List AR := [⟨(some 3), none, 0, (.box 0 3 (.t 0))⟩, ⟨(some 6), none, 0, (.mov (.k (.int .i64 0)))⟩]
def R28_1 : List AR := [⟨(some 7), none, 0, (.load 3 true (.t 3))⟩, ⟨(some 8), none, 0, (.call false 0 0 55 [(.t 7)])⟩, ⟨(some 9), none, 0, (.not (.t 8))⟩, ⟨(some 10), none, 0, (.mov (.t 9))⟩, ⟨(some 11), (some (10, false)), 0, (.load 3 true (.t 3))⟩, ⟨(some 12), (some (10, false)), 0, (.mov (.t 1))⟩, ⟨(some 13), (some (10, false)), 0, (.call false 0 0 80 [(.t 11), (.t 12)])⟩, ⟨(some 14), (some (10, false)), 0, (.not (.t 13))⟩, ⟨(some 15), none, 0, (.pick (.t 10) (.k (.bool true)) (.t 14))⟩, ⟨(some 16), none, 0, (.mov (.t 15))⟩, ⟨(some 17), (some (16, false)), 0, (.load 3 true (.t 3))⟩, ⟨(some 18), (some (16, false)), 0, (.mov (.t 2))⟩, ⟨(some 19), (some (16, false)), 0, (.call false 0 0 80 [(.t 17), (.t 18)])⟩, ⟨(some 20), (some (16, false)), 0, (.not (.t 19))⟩, ⟨(some 21), none, 0, (.pick (.t 16) (.k (.bool true)) (.t 20))⟩, ⟨(some 22), none, 0, (.mov (.t 21))⟩, ⟨(some 23), (some (22, false)), 0, (.mov (.t 1))⟩, ⟨(some 24), (some (22, false)), 0, (.mov (.t 2))⟩, ⟨(some 25), (some (22, false)), 0, (.bin .eql (.t 23) (.t 24))⟩, ⟨(some 26), none, 0, (.pick (.t 22) (.k (.bool true)) (.t 25))⟩]
def R28_2 : List AR := [⟨(some 6), none, 0, (.mov (.k (.int .i64 (-1))))⟩]
def R28_3 : List AR := [⟨(some 27), none, 0, (.faddr 0 (.t 3))⟩, ⟨(some 28), none, 0, (.load 1 false (.t 27))⟩, ⟨(some 29), none, 0, (.mov (.t 1))⟩, ⟨(some 30), none, 0, (.iaddr 19 (.t 28) (.t 29))⟩, ⟨(some 31), none, 0, (.faddr 6 (.t 30))⟩, ⟨(some 32), none, 0, (.load 3 true (.t 31))⟩, ⟨(some 33), none, 0, (.call false 0 0 22 [(.t 32)])⟩, ⟨(some 34), none, 0, (.faddr 0 (.t 3))⟩, ⟨(some 35), none, 0, (.load 1 false (.t 34))⟩, ⟨(some 36), none, 0, (.mov (.t 1))⟩, ⟨(some 37), none, 0, (.iaddr 19 (.t 35) (.t 36))⟩, ⟨(some 38), none, 0, (.faddr 10 (.t 37))⟩, ⟨(some 39), none, 0, (.load 1 false (.t 38))⟩, ⟨(some 40), none, 0, (.mov (.t 2))⟩, ⟨(some 41), none, 0, (.iaddr 1 (.t 39) (.t 40))⟩, ⟨(some 42), none, 0, (.load 1 false (.t 41))⟩, ⟨(some 43), none, 0, (.bin .sub (.t 33) (.t 42))⟩, ⟨(some 6), none, 0, (.mov (.t 43))⟩]
def A28_0 : AC := (.seq (.draw 0 R28_3) .ret)
def A28_1 : AC := (.seq (.seq (.reg 0 R28_1) (.cond (.t 26) (.seq (.reg 0 R28_2) .ret) .skip)) A28_0)
def A28 : AC := (.seq (.reg 1 R28_0) A28_1)
def O28 : List AO := [(.mov (.t 6))]
def G28 : Fns := ⟨fun f => false, fun f => 0, false⟩
noncomputable def X28 : Cx := ⟨Tryz.prog, G28, drawD, 44, [0, 1, 2, 3, 6, 26]⟩
theorem c28 : (Tryz.f28.body).bind (compC X28.P X28.Γ X28.D X28.nt) = some A28 := by kernel_rfl
theorem o28 : compRes X28.P Tryz.f28.results.toList = some O28 := by kernel_rfl
theorem v28 : X28.vs = [0, 1, 2, 3, 6, 26] := rfl
theorem p28 : X28.P = Tryz.prog := rfl
def twoR (w : World) (p q : Int) : Prop := w.Right ∧ toP w p ∧ toP w q ∧ p ≠ q
noncomputable instance (w : World) (p q : Int) : Decidable (twoR w p q) := Classical.propDecidable _
/-- node p of a right world -/
def nodeAt (w : World) (p : Int) : Node := w.nodes.getD p.toNat Node.zero
theorem nodeAt_eq {w : World} {p : Int} (h : p.toNat < w.nodes.length) : nodeAt w p = w.nodes[p.toNat] := by simp [nodeAt, h]
noncomputable def lagOf (w : World) (p q : Int) : Int := if twoR w p q then IntKind.wrap .i64 (logSeq (nodeAt w p).log - (nodeAt w p).acked.getD q.toNat 0) else -1
theorem specTwo_ok (w : World) (p q : Int) (h : w.sz ≤ 1048576) : FS Tryz.prog 75 [] [.agg w.c, .int .i64 p, .int .i64 q] (.bool (decide (twoR w p q))) [] := by
  refine FS.of (X := X75) (ac := A75) (os := O75) Tryz.func75 (by rfl) (by rfl) (by kernel_rfl) o75 (Nat.le_of_ble_eq_true rfl) ?_
  show AWP X75 A75 (Ends X75.vs O75 0 _ _) [.agg w.c, .int .i64 p, .int .i64 q, .tup [], .tup []] []
  obtain ⟨Q, hQ⟩ : ∃ Q, Q = Ends X75.vs O75 0 (.bool (decide (twoR w p q))) [] := ⟨_, rfl⟩
  rw [← hQ]
  have hs := World.small h
  have ln := hs.ln
  have fin : ∀ L σ vV, resVs O75 (look X75.vs L) σ = some [vV] → vV = (.bool (decide (twoR w p q))) → Q .ret L σ := by
    intro L σ vV h1 h2
    rw [hQ]
    exact Ends.is (.inl rfl) h1 (by simp only [packV, h2]) rfl
  refine awp_sr ?_
  simp only [go_sem, R75_0, v75, p75, World.c]
  refine (fun G : AWP X75 _ _ _ [.live ⟨3, [w.c]⟩] => G) ?_
  obtain ⟨K1, hK1⟩ : ∃ K : List V → Store → Prop, K = fun L σ => ∃ r y0 y1 y2 y3, L = [y0, y1, y2, y3, .bool r] ∧ σ = [.live ⟨3, [w.c]⟩] ∧ r = decide (twoR w p q) := ⟨_, rfl⟩
  refine awp_srK (K1) ?_ ?_
  · simp only [go_sem, R75_1, v75, p75, World.c]
    refine run_see (specWorldOk_ok w h) false (Views.refl rfl) rfl (fun j hj => by first | omega | ((have hj0 : j = 0 := by omega); subst hj0; first | rfl | (simp only [Nat.add_zero, app_get, app_getk, sapp_get, sapp_getk, Nat.add_assoc, Nat.reduceAdd, List.getElem?_cons_zero, List.getElem?_cons_succ]; done) | simp)) (fun h => by cases h) ?_
    simp only [go_sem, v75, p75]
    by_cases b1 : w.Right
    · simp only [go_sem, v75, p75, eq_true b1, World.c, wrap_i64 (n := (w.nodes.length : Int) - 1) (by omega) (by omega)]
      refine run_see (l1In_ok _ _ _) false (Views.refl rfl) rfl (fun j hj => by first | omega | ((have hj0 : j = 0 := by omega); subst hj0; first | rfl | (simp only [Nat.add_zero, app_get, app_getk, sapp_get, sapp_getk, Nat.add_assoc, Nat.reduceAdd, List.getElem?_cons_zero, List.getElem?_cons_succ]; done) | simp)) (fun h => by cases h) ?_
      simp only [go_sem, v75, p75]
      by_cases b2 : 0 ≤ p ∧ p ≤ (w.nodes.length : Int) - 1
      · simp only [go_sem, v75, p75, eq_true b2, World.c, wrap_i64 (n := (w.nodes.length : Int) - 1) (by omega) (by omega)]
        refine run_see (l1In_ok _ _ _) false (Views.refl rfl) rfl (fun j hj => by first | omega | ((have hj0 : j = 0 := by omega); subst hj0; first | rfl | (simp only [Nat.add_zero, app_get, app_getk, sapp_get, sapp_getk, Nat.add_assoc, Nat.reduceAdd, List.getElem?_cons_zero, List.getElem?_cons_succ]; done) | simp)) (fun h => by cases h) ?_
        simp only [go_sem, v75, p75]
        by_cases b3 : 0 ≤ q ∧ q ≤ (w.nodes.length : Int) - 1
        · simp only [go_sem, v75, p75, eq_true b3, World.c]
          rw [hK1]
          refine ⟨_, _, _, _, _, rfl, rfl, ?_⟩
          grind [twoR, toP]
        · simp only [go_sem, v75, p75, eq_false b3, World.c]
          rw [hK1]
          refine ⟨_, _, _, _, _, rfl, rfl, ?_⟩
          grind [twoR, toP]
      · simp only [go_sem, v75, p75, eq_false b2, World.c]
        rw [hK1]
        refine ⟨_, _, _, _, _, rfl, rfl, ?_⟩
        grind [twoR, toP]
    · simp only [go_sem, v75, p75, eq_false b1, World.c]
      rw [hK1]
      refine ⟨_, _, _, _, _, rfl, rfl, ?_⟩
      grind [twoR, toP]
  intro L σ hq
  rw [hK1] at hq
  obtain ⟨r, y0, y1, y2, y3, rfl, rfl, hq⟩ := hq
  subst hq
  refine awp_ret ?_
  try simp only [go_sem]
  exact fin _ _ _ rfl rfl
theorem two_facts {w : World} {p q : Int} (hs : w.Small) (h : twoR w p q) : ∃ hp : p.toNat < w.nodes.length, 0 ≤ p ∧ 0 ≤ q ∧ q.toNat < w.nodes[p.toNat].acked.length ∧ w.nodes[p.toNat].log.sz ≤ 1048576 ∧ lagOf w p q = IntKind.wrap .i64 (logSeq w.nodes[p.toNat].log - w.nodes[p.toNat].acked.getD q.toNat 0) := by
  obtain ⟨hr, ⟨p1, p2⟩, ⟨q1, q2⟩, -⟩ := id h
  have hp : p.toNat < w.nodes.length := by omega
  have hn := hr.b _ _ (List.getElem?_eq_getElem hp)
  have hak : (w.nodes[p.toNat].acked.length : Int) = w.nodes[p.toNat].n := hn.1.b.2.1.2.1
  have e := hn.2.1
  refine ⟨hp, p1, q1, by omega, (Node.small (hs.nodes _ hp)).lg, ?_⟩
  unfold lagOf
  rw [if_pos h, nodeAt_eq hp]
set_option maxHeartbeats 1000000 in
theorem specLag_ok (w : World) (p q : Int) (h : w.sz ≤ 1048576) : FS Tryz.prog 26 [] [.agg w.c, .int .i64 p, .int .i64 q] (.int .i64 (lagOf w p q)) [] := by
  refine FS.of (X := X26) (ac := A26) (os := O26) Tryz.func26 (by rfl) (by rfl) (by kernel_rfl) o26 (Nat.le_of_ble_eq_true rfl) ?_
  show AWP X26 A26 (Ends X26.vs O26 0 _ _) [.agg w.c, .int .i64 p, .int .i64 q, .tup [], .tup [], .tup []] []
  obtain ⟨Q, hQ⟩ : ∃ Q, Q = Ends X26.vs O26 0 (.int .i64 (lagOf w p q)) [] := ⟨_, rfl⟩
  rw [← hQ]
  have hs := World.small h
  have fin : ∀ L σ vV, resVs O26 (look X26.vs L) σ = some [vV] → vV = (.int .i64 (lagOf w p q)) → Q .ret L σ := by
    intro L σ vV h1 h2
    rw [hQ]
    exact Ends.is (.inl rfl) h1 (by simp only [packV, h2]) rfl
  refine awp_sr ?_
  simp only [go_sem, R26_0, v26, p26, World.c]
  refine awp_sr2 ?_
  simp only [go_sem, R26_1, v26, p26]
  refine run_see (specTwo_ok w p q h) false (Views.refl rfl) rfl (fun j hj => by first | omega | ((have hj0 : j = 0 := by omega); subst hj0; first | rfl | (simp only [Nat.add_zero, app_get, app_getk, sapp_get, sapp_getk, Nat.add_assoc, Nat.reduceAdd, List.getElem?_cons_zero, List.getElem?_cons_succ]; done) | simp)) (fun h => by cases h) ?_
  simp only [go_sem, v26, p26]
  refine awp_if' rfl ?_ ?_
  · intro h1
    refine awp_sr ?_
    simp only [go_sem, R26_2, v26, p26]
    refine awp_ret ?_
    try simp only [go_sem]
    exact fin _ _ (.int .i64 (-1)) rfl (congrArg (V.int .i64) (if_neg h1).symm)
  intro h1
  obtain ⟨hp, p1, q1, hq, hlg, hlag⟩ := two_facts hs h1
  refine awp_skip ?_
  simp only [go_sem]
  refine awp_sd mixed rfl (by rfl) ?_
  simp only [go_sem, R26_3, v26, p26, World.c, rw_at _ hp, Node.c, eq_true p1]
  refine run_see (specLogSeq_ok w.nodes[p.toNat].log hlg) false (Views.refl rfl) rfl (fun j hj => by first | omega | ((have hj0 : j = 0 := by omega); subst hj0; first | rfl | (simp only [Nat.add_zero, app_get, app_getk, sapp_get, sapp_getk, Nat.add_assoc, Nat.reduceAdd, List.getElem?_cons_zero, List.getElem?_cons_succ]; done) | simp)) (fun h => by cases h) ?_
  simp only [go_sem, v26, p26, World.c, rw_at _ hp, Node.c, eq_true p1, rw_at _ hq, intC, eq_true q1]
  refine awp_ret ?_
  try simp only [go_sem]
  refine fin _ _ _ rfl (congrArg (V.int .i64) ?_)
  rw [hlag, getD_at hq]
set_option maxHeartbeats 1000000 in
theorem implLag_ok (w : World) (p q : Int) (h : w.sz ≤ 1048576) : FS Tryz.prog 28 [] [.agg w.c, .int .i64 p, .int .i64 q] (.int .i64 (lagOf w p q)) [] := by
  refine FS.of (X := X28) (ac := A28) (os := O28) Tryz.func28 (by rfl) (by rfl) (by kernel_rfl) o28 (Nat.le_of_ble_eq_true rfl) ?_
  show AWP X28 A28 (Ends X28.vs O28 0 _ _) [.agg w.c, .int .i64 p, .int .i64 q, .tup [], .tup [], .tup []] []
  obtain ⟨Q, hQ⟩ : ∃ Q, Q = Ends X28.vs O28 0 (.int .i64 (lagOf w p q)) [] := ⟨_, rfl⟩
  rw [← hQ]
  have hs := World.small h
  have ln := hs.ln
  have fin : ∀ L σ vV, resVs O28 (look X28.vs L) σ = some [vV] → vV = (.int .i64 (lagOf w p q)) → Q .ret L σ := by
    intro L σ vV h1 h2
    rw [hQ]
    exact Ends.is (.inl rfl) h1 (by simp only [packV, h2]) rfl
  refine awp_sr ?_
  simp only [go_sem, R28_0, v28, p28, World.c]
  refine (fun G : AWP X28 _ _ _ [.live ⟨3, [w.c]⟩] => G) ?_
  obtain ⟨K2, hK2⟩ : ∃ K : List V → Store → Prop, K = fun L σ => ∃ r y0 y6, L = [y0, .int .i64 p, .int .i64 q, .ptr 0 3 0 0, y6, .bool r] ∧ σ = [.live ⟨3, [w.c]⟩] ∧ r = !decide (twoR w p q) := ⟨_, rfl⟩
  refine awp_sr2K (K2) ?_ ?_
  · simp only [go_sem, R28_1, v28, p28, World.c]
    refine run_see (implWorldOk_ok w h) false (Views.refl rfl) rfl (fun j hj => by first | omega | ((have hj0 : j = 0 := by omega); subst hj0; first | rfl | (simp only [Nat.add_zero, app_get, app_getk, sapp_get, sapp_getk, Nat.add_assoc, Nat.reduceAdd, List.getElem?_cons_zero, List.getElem?_cons_succ]; done) | simp)) (fun h => by cases h) ?_
    simp only [go_sem, v28, p28]
    by_cases b1 : w.Right
    · simp only [go_sem, v28, p28, eq_true b1, World.c]
      refine run_see (hasNode_ok w p ln) false (Views.refl rfl) rfl (fun j hj => by first | omega | ((have hj0 : j = 0 := by omega); subst hj0; first | rfl | (simp only [Nat.add_zero, app_get, app_getk, sapp_get, sapp_getk, Nat.add_assoc, Nat.reduceAdd, List.getElem?_cons_zero, List.getElem?_cons_succ]; done) | simp)) (fun h => by cases h) ?_
      simp only [go_sem, v28, p28]
      by_cases b2 : toP w p
      · simp only [go_sem, v28, p28, eq_true b2, World.c]
        refine run_see (hasNode_ok w q ln) false (Views.refl rfl) rfl (fun j hj => by first | omega | ((have hj0 : j = 0 := by omega); subst hj0; first | rfl | (simp only [Nat.add_zero, app_get, app_getk, sapp_get, sapp_getk, Nat.add_assoc, Nat.reduceAdd, List.getElem?_cons_zero, List.getElem?_cons_succ]; done) | simp)) (fun h => by cases h) ?_
        simp only [go_sem, v28, p28]
        by_cases b3 : toP w q
        · simp only [go_sem, v28, p28, eq_true b3, World.c]
          rw [hK2]
          refine ⟨_, _, _, rfl, rfl, ?_⟩
          grind [twoR]
        · simp only [go_sem, v28, p28, eq_false b3, World.c]
          rw [hK2]
          refine ⟨_, _, _, rfl, rfl, ?_⟩
          grind [twoR]
      · simp only [go_sem, v28, p28, eq_false b2, World.c]
        rw [hK2]
        refine ⟨_, _, _, rfl, rfl, ?_⟩
        grind [twoR]
    · simp only [go_sem, v28, p28, eq_false b1, World.c]
      rw [hK2]
      refine ⟨_, _, _, rfl, rfl, ?_⟩
      grind [twoR]
  intro L σ hq
  rw [hK2] at hq
  obtain ⟨r, y0, y6, rfl, rfl, hq⟩ := hq
  subst hq
  refine awp_if' rfl ?_ ?_
  · intro h1
    refine awp_sr ?_
    simp only [go_sem, R28_2, v28, p28]
    refine awp_ret ?_
    try simp only [go_sem]
    exact fin _ _ (.int .i64 (-1)) rfl (congrArg (V.int .i64) (if_neg h1).symm)
  intro h1
  obtain ⟨hp, p1, q1, hq, hlg, hlag⟩ := two_facts hs h1
  refine awp_skip ?_
  simp only [go_sem]
  refine awp_sd mixed rfl (by rfl) ?_
  simp only [go_sem, R28_3, v28, p28, World.c, rw_at _ hp, Node.c, eq_true p1]
  refine run_see (implLogSeq_ok w.nodes[p.toNat].log hlg) false (Views.refl rfl) rfl (fun j hj => by first | omega | ((have hj0 : j = 0 := by omega); subst hj0; first | rfl | (simp only [Nat.add_zero, app_get, app_getk, sapp_get, sapp_getk, Nat.add_assoc, Nat.reduceAdd, List.getElem?_cons_zero, List.getElem?_cons_succ]; done) | simp)) (fun h => by cases h) ?_
  simp only [go_sem, v28, p28, World.c, rw_at _ hp, Node.c, eq_true p1, rw_at _ hq, intC, eq_true q1]
  refine awp_ret ?_
  try simp only [go_sem]
  refine fin _ _ _ rfl (congrArg (V.int .i64) ?_)
  rw [hlag, getD_at hq]
def R4_0 : List AR := [⟨(some 3), none, 0, (.box 0 3 (.t 0))⟩, ⟨(some 6), none, 0, (.mov (.k (.bool false)))⟩]
def R4_1 : List AR := [⟨(some 7), none, 0, (.mov (.k (.int .i64 1048576)))⟩]
def R4_2 : List AR := [⟨(some 11), none, 0, (.load 3 true (.t 3))⟩, ⟨(some 12), none, 0, (.mov (.t 7))⟩, ⟨(some 13), none, 0, (.call false 0 0 25 [(.t 11), (.t 12)])⟩, ⟨(some 7), none, 0, (.mov (.t 13))⟩]
def R4_3 : List AR := [⟨(some 14), none, 0, (.mov (.t 7))⟩, ⟨(some 15), none, 0, (.bin .lss (.t 14) (.k (.int .i64 0)))⟩]
def R4_4 : List AR := [⟨(some 6), none, 0, (.mov (.k (.bool true)))⟩]
def R4_5 : List AR := [⟨(some 16), none, 0, (.load 3 true (.t 3))⟩, ⟨(some 17), none, 0, (.call false 0 0 27 [(.t 16)])⟩, ⟨(some 18), none, 0, (.mov (.t 1))⟩, ⟨(some 19), none, 0, (.mov (.t 2))⟩, ⟨(some 20), none, 0, (.call false 0 0 26 [(.t 17), (.t 18), (.t 19)])⟩, ⟨(some 8), none, 0, (.mov (.t 20))⟩]
def R4_6 : List AR := [⟨(some 21), none, 0, (.load 3 true (.t 3))⟩, ⟨(some 22), none, 0, (.call false 0 0 27 [(.t 21)])⟩, ⟨(some 9), none, 0, (.alloc 0 3 [.nl, .nl, .nl])⟩, ⟨none, none, 0, (.store 3 (.t 9) (.t 22))⟩]
def R4_7 : List AR := [⟨(some 23), none, 0, (.load 3 true (.t 9))⟩, ⟨(some 24), none, 0, (.mov (.t 1))⟩, ⟨(some 25), none, 0, (.mov (.t 2))⟩, ⟨(some 26), none, 0, (.call false 0 0 28 [(.t 23), (.t 24), (.t 25)])⟩, ⟨(some 10), none, 0, (.mov (.t 26))⟩]
def R4_8 : List AR := [⟨(some 27), none, 0, (.mov (.t 10))⟩, ⟨(some 28), none, 0, (.mov (.t 8))⟩, ⟨(some 29), none, 0, (.bin .neq (.t 27) (.t 28))⟩]
def R4_9 : List AR := [⟨(some 6), none, 0, (.mov (.k (.bool false)))⟩]
def R4_10 : List AR := [⟨(some 30), none, 0, (.load 3 true (.t 9))⟩, ⟨(some 31), none, 0, (.load 3 true (.t 3))⟩, ⟨(some 32), none, 0, (.call false 0 0 27 [(.t 31)])⟩, ⟨(some 33), none, 0, (.call false 0 0 29 [(.t 30), (.t 32)])⟩, ⟨(some 34), none, 0, (.not (.t 33))⟩]
def R4_11 : List AR := [⟨(some 6), none, 0, (.mov (.k (.bool false)))⟩]
def R4_12 : List AR := [⟨(some 6), none, 0, (.mov (.k (.bool true)))⟩]
def A4_0 : AC := (.seq (.reg 0 R4_12) .ret)
def A4_1 : AC := (.seq (.seq (.draw 0 R4_10) (.cond (.t 34) (.seq (.reg 0 R4_11) .ret) .skip)) A4_0)
def A4_2 : AC := (.seq (.seq (.reg 0 R4_8) (.cond (.t 29) (.seq (.reg 0 R4_9) .ret) .skip)) A4_1)
def A4_3 : AC := (.seq (.reg 0 R4_7) A4_2)
def A4_4 : AC := (.seq (.reg 1 R4_6) A4_3)
def A4_5 : AC := (.seq (.reg 0 R4_5) A4_4)
def A4_6 : AC := (.seq (.seq (.reg 0 R4_3) (.cond (.t 15) (.seq (.reg 0 R4_4) .ret) .skip)) A4_5)
def A4_7 : AC := (.seq (.reg 0 R4_2) A4_6)
def A4_8 : AC := (.seq (.reg 0 R4_1) A4_7)
def A4 : AC := (.seq (.reg 1 R4_0) A4_8)
def O4 : List AO := [(.mov (.t 6))]
def G4 : Fns := ⟨fun f => false, fun f => 0, false⟩
noncomputable def X4 : Cx := ⟨Tryz.prog, G4, drawD, 35, [0, 1, 2, 3, 6, 7, 8, 9, 10, 15, 29, 34]⟩
theorem c4 : (Tryz.f4.body).bind (compC X4.P X4.Γ X4.D X4.nt) = some A4 := by kernel_rfl
theorem o4 : compRes X4.P Tryz.f4.results.toList = some O4 := by kernel_rfl
theorem v4 : X4.vs = [0, 1, 2, 3, 6, 7, 8, 9, 10, 15, 29, 34] := rfl
theorem p4 : X4.P = Tryz.prog := rfl
theorem exactLag_ok (a : World) (p q : Int) (ha : a.ok) : FS Tryz.prog 4 [] [.agg a.c, .int .i64 p, .int .i64 q] (.bool true) [] := by
  refine FS.of (X := X4) (ac := A4) (os := O4) Tryz.func4 (by rfl) (by rfl) (by kernel_rfl) o4 (Nat.le_of_ble_eq_true rfl) ?_
  show AWP X4 A4 (Ends X4.vs O4 0 _ _) [.agg a.c, .int .i64 p, .int .i64 q, .tup [], .tup [], .tup [], .tup [], .tup [], .tup [], .tup [], .tup [], .tup []] []
  obtain ⟨Q, hQ⟩ : ∃ Q, Q = Ends X4.vs O4 0 (.bool true) [] := ⟨_, rfl⟩
  rw [← hQ]
  have fin : ∀ L σ vV, resVs O4 (look X4.vs L) σ = some [vV] → vV = (.bool true) → Q .ret L σ := by
    intro L σ vV h1 h2
    rw [hQ]
    exact Ends.is (.inl rfl) h1 (by simp only [packV, h2]) rfl
  refine awp_sr ?_
  simp only [go_sem, R4_0, v4, p4, World.c]
  refine awp_sr ?_
  simp only [go_sem, R4_1, v4, p4]
  refine awp_sr ?_
  simp only [go_sem, R4_2, v4, p4, World.c]
  refine run_see (szWorld_ok a 1048576 (Nat.le_refl _) ha) false (Views.refl rfl) rfl (fun j hj => by first | omega | ((have hj0 : j = 0 := by omega); subst hj0; first | rfl | (simp only [Nat.add_zero, app_get, app_getk, sapp_get, sapp_getk, Nat.add_assoc, Nat.reduceAdd, List.getElem?_cons_zero, List.getElem?_cons_succ]; done) | simp)) (fun h => by cases h) ?_
  simp only [go_sem, v4, p4]
  refine awp_sr2 ?_
  simp only [go_sem, R4_3, v4, p4]
  refine awp_if rfl ?_ ?_
  · intro h1
    refine awp_sr ?_
    simp only [go_sem, R4_4, v4, p4]
    refine awp_ret ?_
    try simp only [go_sem]
    exact fin _ _ _ rfl rfl
  intro h1
  obtain ⟨-, h⟩ := left_pos h1
  refine awp_skip ?_
  simp only [go_sem]
  refine awp_sr ?_
  simp only [go_sem, R4_5, v4, p4, World.c]
  refine run_see (toWorld_ok a h) false (Views.refl rfl) rfl (fun j hj => by first | omega | ((have hj0 : j = 0 := by omega); subst hj0; first | rfl | (simp only [Nat.add_zero, app_get, app_getk, sapp_get, sapp_getk, Nat.add_assoc, Nat.reduceAdd, List.getElem?_cons_zero, List.getElem?_cons_succ]; done) | simp)) (fun h => by cases h) ?_
  simp only [go_sem, v4, p4]
  refine run_see (specLag_ok a p q h) false (Views.refl rfl) rfl (fun j hj => by first | omega | ((have hj0 : j = 0 := by omega); subst hj0; first | rfl | (simp only [Nat.add_zero, app_get, app_getk, sapp_get, sapp_getk, Nat.add_assoc, Nat.reduceAdd, List.getElem?_cons_zero, List.getElem?_cons_succ]; done) | simp)) (fun h => by cases h) ?_
  simp only [go_sem, v4, p4]
  refine awp_sr ?_
  simp only [go_sem, R4_6, v4, p4, World.c]
  refine run_see (toWorld_ok a h) false (Views.refl rfl) rfl (fun j hj => by first | omega | ((have hj0 : j = 0 := by omega); subst hj0; first | rfl | (simp only [Nat.add_zero, app_get, app_getk, sapp_get, sapp_getk, Nat.add_assoc, Nat.reduceAdd, List.getElem?_cons_zero, List.getElem?_cons_succ]; done) | simp)) (fun h => by cases h) ?_
  simp only [go_sem, v4, p4, World.c]
  refine awp_sr ?_
  simp only [go_sem, R4_7, v4, p4, World.c]
  refine run_see (implLag_ok a p q h) false (Views.refl rfl) rfl (fun j hj => by first | omega | ((have hj0 : j = 0 := by omega); subst hj0; first | rfl | (simp only [Nat.add_zero, app_get, app_getk, sapp_get, sapp_getk, Nat.add_assoc, Nat.reduceAdd, List.getElem?_cons_zero, List.getElem?_cons_succ]; done) | simp)) (fun h => by cases h) ?_
  simp only [go_sem, v4, p4]
  refine awp_sr2 ?_
  simp only [go_sem, R4_8, v4, p4]
  refine awp_if rfl ?_ ?_
  · intro h3; exact absurd rfl h3
  intro h3
  refine awp_skip ?_
  simp only [go_sem]
  refine awp_sd2 mixed rfl (by rfl) ?_
  simp only [go_sem, R4_10, v4, p4, World.c]
  refine run_see (toWorld_ok a h) false (Views.refl rfl) rfl (fun j hj => by first | omega | ((have hj0 : j = 0 := by omega); subst hj0; first | rfl | (simp only [Nat.add_zero, app_get, app_getk, sapp_get, sapp_getk, Nat.add_assoc, Nat.reduceAdd, List.getElem?_cons_zero, List.getElem?_cons_succ]; done) | simp)) (fun h => by cases h) ?_
  simp only [go_sem, v4, p4, World.c]
  refine run_see (eqWorld_ok a a h) false (Views.refl rfl) rfl (fun j hj => by first | omega | ((have hj0 : j = 0 := by omega); subst hj0; first | rfl | (simp only [Nat.add_zero, app_get, app_getk, sapp_get, sapp_getk, Nat.add_assoc, Nat.reduceAdd, List.getElem?_cons_zero, List.getElem?_cons_succ]; done) | simp)) (fun h => by cases h) ?_
  simp only [go_sem, v4, p4]
  refine awp_no rfl ?_
  refine awp_skip ?_
  simp only [go_sem]
  refine awp_sr ?_
  simp only [go_sem, R4_12, v4, p4]
  refine awp_ret ?_
  try simp only [go_sem]
  exact fin _ _ _ rfl rfl
end Go.Proofs.YtffigokicddekaaGreat.Abs
/- Whether a node is behind another's log, in both texts; the law. No condition. -/
set_option linter.unusedVariables false
set_option linter.unusedSimpArgs false
set_option maxRecDepth 10000
namespace Go.Proofs.YtffigokicddekaaGreat.Abs
open Go Go.Proofs
def R36_0 : List AR := [⟨(some 3), none, 0, (.box 0 3 (.t 0))⟩, ⟨(some 6), none, 0, (.mov (.k (.bool false)))⟩]
def R36_1 : List AR := [⟨(some 8), none, 0, (.load 3 true (.t 3))⟩, ⟨(some 9), none, 0, (.mov (.t 1))⟩, ⟨(some 10), none, 0, (.mov (.t 2))⟩, ⟨(some 11), none, 0, (.call false 0 0 26 [(.t 8), (.t 9), (.t 10)])⟩, ⟨(some 7), none, 0, (.mov (.t 11))⟩]
def R36_2 : List AR := [⟨(some 12), none, 0, (.mov (.t 7))⟩, ⟨(some 13), none, 0, (.bin .geq (.t 12) (.k (.int .i64 0)))⟩, ⟨(some 14), none, 0, (.mov (.t 13))⟩, ⟨(some 15), (some (14, true)), 0, (.mov (.t 7))⟩, ⟨(some 16), (some (14, true)), 0, (.faddr 0 (.t 3))⟩, ⟨(some 17), (some (14, true)), 0, (.load 1 false (.t 16))⟩, ⟨(some 18), (some (14, true)), 0, (.mov (.t 1))⟩, ⟨(some 19), (some (14, true)), 0, (.iaddr 19 (.t 17) (.t 18))⟩, ⟨(some 20), (some (14, true)), 0, (.faddr 6 (.t 19))⟩, ⟨(some 21), (some (14, true)), 0, (.faddr 2 (.t 20))⟩, ⟨(some 22), (some (14, true)), 0, (.load 1 false (.t 21))⟩, ⟨(some 23), (some (14, true)), 0, (.len (.t 22))⟩, ⟨(some 24), (some (14, true)), 0, (.bin .gtr (.t 15) (.t 23))⟩, ⟨(some 25), none, 0, (.pick (.t 14) (.t 24) (.k (.bool false)))⟩, ⟨(some 6), none, 0, (.mov (.t 25))⟩]
def A36_0 : AC := (.seq (.reg 0 R36_2) .ret)
def A36_1 : AC := (.seq (.reg 0 R36_1) A36_0)
def A36 : AC := (.seq (.reg 1 R36_0) A36_1)
def O36 : List AO := [(.mov (.t 6))]
def G36 : Fns := ⟨fun f => false, fun f => 0, false⟩
noncomputable def X36 : Cx := ⟨Tryz.prog, G36, drawD, 26, [0, 1, 2, 3, 6, 7]⟩
theorem c36 : (Tryz.f36.body).bind (compC X36.P X36.Γ X36.D X36.nt) = some A36 := by kernel_rfl
theorem o36 : compRes X36.P Tryz.f36.results.toList = some O36 := by kernel_rfl
theorem v36 : X36.vs = [0, 1, 2, 3, 6, 7] := rfl
theorem p36 : X36.P = Tryz.prog := rfl
def R37_0 : List AR := [⟨(some 3), none, 0, (.box 0 3 (.t 0))⟩, ⟨(some 6), none, 0, (.mov (.k (.bool false)))⟩]
def R37_1 : List AR := [⟨(some 8), none, 0, (.load 3 true (.t 3))⟩, ⟨(some 9), none, 0, (.mov (.t 1))⟩, ⟨(some 10), none, 0, (.mov (.t 2))⟩, ⟨(some 11), none, 0, (.call false 0 0 28 [(.t 8), (.t 9), (.t 10)])⟩, ⟨(some 7), none, 0, (.mov (.t 11))⟩]
def R37_2 : List AR := [⟨(some 12), none, 0, (.mov (.t 7))⟩, ⟨(some 13), none, 0, (.bin .geq (.t 12) (.k (.int .i64 0)))⟩, ⟨(some 14), none, 0, (.mov (.t 13))⟩, ⟨(some 15), (some (14, true)), 0, (.mov (.t 7))⟩, ⟨(some 16), (some (14, true)), 0, (.faddr 0 (.t 3))⟩, ⟨(some 17), (some (14, true)), 0, (.load 1 false (.t 16))⟩, ⟨(some 18), (some (14, true)), 0, (.mov (.t 1))⟩, ⟨(some 19), (some (14, true)), 0, (.iaddr 19 (.t 17) (.t 18))⟩, ⟨(some 20), (some (14, true)), 0, (.faddr 6 (.t 19))⟩, ⟨(some 21), (some (14, true)), 0, (.faddr 2 (.t 20))⟩, ⟨(some 22), (some (14, true)), 0, (.load 1 false (.t 21))⟩, ⟨(some 23), (some (14, true)), 0, (.len (.t 22))⟩, ⟨(some 24), (some (14, true)), 0, (.bin .gtr (.t 15) (.t 23))⟩, ⟨(some 25), none, 0, (.pick (.t 14) (.t 24) (.k (.bool false)))⟩, ⟨(some 6), none, 0, (.mov (.t 25))⟩]
def A37_0 : AC := (.seq (.reg 0 R37_2) .ret)
def A37_1 : AC := (.seq (.reg 0 R37_1) A37_0)
def A37 : AC := (.seq (.reg 1 R37_0) A37_1)
def O37 : List AO := [(.mov (.t 6))]
def G37 : Fns := ⟨fun f => false, fun f => 0, false⟩
noncomputable def X37 : Cx := ⟨Tryz.prog, G37, drawD, 26, [0, 1, 2, 3, 6, 7]⟩
theorem c37 : (Tryz.f37.body).bind (compC X37.P X37.Γ X37.D X37.nt) = some A37 := by kernel_rfl
theorem o37 : compRes X37.P Tryz.f37.results.toList = some O37 := by kernel_rfl
theorem v37 : X37.vs = [0, 1, 2, 3, 6, 7] := rfl
theorem p37 : X37.P = Tryz.prog := rfl
def behindR (w : World) (p q : Int) : Prop := 0 ≤ lagOf w p q ∧ ((nodeAt w p).log.list.length : Int) < lagOf w p q
noncomputable instance (w : World) (p q : Int) : Decidable (behindR w p q) := Classical.propDecidable _
theorem lag_two {w : World} {p q : Int} (h : 0 ≤ lagOf w p q) : twoR w p q := by
  by_cases h1 : twoR w p q
  · exact h1
  · unfold lagOf at h
    rw [if_neg h1] at h
    omega
set_option maxHeartbeats 1000000 in
theorem specBehind_ok (w : World) (p q : Int) (h : w.sz ≤ 1048576) : FS Tryz.prog 36 [] [.agg w.c, .int .i64 p, .int .i64 q] (.bool (decide (behindR w p q))) [] := by
  refine FS.of (X := X36) (ac := A36) (os := O36) Tryz.func36 (by rfl) (by rfl) (by kernel_rfl) o36 (Nat.le_of_ble_eq_true rfl) ?_
  show AWP X36 A36 (Ends X36.vs O36 0 _ _) [.agg w.c, .int .i64 p, .int .i64 q, .tup [], .tup [], .tup []] []
  obtain ⟨Q, hQ⟩ : ∃ Q, Q = Ends X36.vs O36 0 (.bool (decide (behindR w p q))) [] := ⟨_, rfl⟩
  rw [← hQ]
  have hs := World.small h
  have fin : ∀ L σ vV, resVs O36 (look X36.vs L) σ = some [vV] → vV = (.bool (decide (behindR w p q))) → Q .ret L σ := by
    intro L σ vV h1 h2
    rw [hQ]
    exact Ends.is (.inl rfl) h1 (by simp only [packV, h2]) rfl
  refine awp_sr ?_
  simp only [go_sem, R36_0, v36, p36, World.c]
  refine (fun G : AWP X36 _ _ _ [.live ⟨3, [w.c]⟩] => G) ?_
  refine awp_sr ?_
  simp only [go_sem, R36_1, v36, p36, World.c]
  refine run_see (specLag_ok w p q h) false (Views.refl rfl) rfl (fun j hj => by first | omega | ((have hj0 : j = 0 := by omega); subst hj0; first | rfl | (simp only [Nat.add_zero, app_get, app_getk, sapp_get, sapp_getk, Nat.add_assoc, Nat.reduceAdd, List.getElem?_cons_zero, List.getElem?_cons_succ]; done) | simp)) (fun h => by cases h) ?_
  simp only [go_sem, v36, p36]
  obtain ⟨K1, hK1⟩ : ∃ K : List V → Store → Prop, K = fun L σ => ∃ r y0 y1 y2 y3 y7, L = [y0, y1, y2, y3, .bool r, y7] ∧ σ = [.live ⟨3, [w.c]⟩] ∧ r = decide (behindR w p q) := ⟨_, rfl⟩
  refine awp_srK (K1) ?_ ?_
  · simp only [go_sem, R36_2, v36, p36, World.c]
    by_cases b1 : 0 ≤ lagOf w p q
    · obtain ⟨hp, p1, q1, hq, hlg, hlag⟩ := two_facts hs (lag_two b1)
      simp only [go_sem, v36, p36, eq_true b1, World.c, rw_at _ hp, Node.c, eq_true p1]
      rw [hK1]
      refine ⟨_, _, _, _, _, _, rfl, rfl, ?_⟩
      exact decide_eq_decide.2 (by unfold behindR; rw [nodeAt_eq hp]; omega)
    · simp only [go_sem, v36, p36, eq_false b1, World.c]
      rw [hK1]
      refine ⟨_, _, _, _, _, _, rfl, rfl, ?_⟩
      grind [behindR]
  intro L σ hq
  rw [hK1] at hq
  obtain ⟨r, y0, y1, y2, y3, y7, rfl, rfl, hq⟩ := hq
  subst hq
  refine awp_ret ?_
  try simp only [go_sem]
  exact fin _ _ _ rfl rfl
set_option maxHeartbeats 1000000 in
theorem implBehind_ok (w : World) (p q : Int) (h : w.sz ≤ 1048576) : FS Tryz.prog 37 [] [.agg w.c, .int .i64 p, .int .i64 q] (.bool (decide (behindR w p q))) [] := by
  refine FS.of (X := X37) (ac := A37) (os := O37) Tryz.func37 (by rfl) (by rfl) (by kernel_rfl) o37 (Nat.le_of_ble_eq_true rfl) ?_
  show AWP X37 A37 (Ends X37.vs O37 0 _ _) [.agg w.c, .int .i64 p, .int .i64 q, .tup [], .tup [], .tup []] []
  obtain ⟨Q, hQ⟩ : ∃ Q, Q = Ends X37.vs O37 0 (.bool (decide (behindR w p q))) [] := ⟨_, rfl⟩
  rw [← hQ]
  have hs := World.small h
  have fin : ∀ L σ vV, resVs O37 (look X37.vs L) σ = some [vV] → vV = (.bool (decide (behindR w p q))) → Q .ret L σ := by
    intro L σ vV h1 h2
    rw [hQ]
    exact Ends.is (.inl rfl) h1 (by simp only [packV, h2]) rfl
  refine awp_sr ?_
  simp only [go_sem, R37_0, v37, p37, World.c]
  refine (fun G : AWP X37 _ _ _ [.live ⟨3, [w.c]⟩] => G) ?_
  refine awp_sr ?_
  simp only [go_sem, R37_1, v37, p37, World.c]
  refine run_see (implLag_ok w p q h) false (Views.refl rfl) rfl (fun j hj => by first | omega | ((have hj0 : j = 0 := by omega); subst hj0; first | rfl | (simp only [Nat.add_zero, app_get, app_getk, sapp_get, sapp_getk, Nat.add_assoc, Nat.reduceAdd, List.getElem?_cons_zero, List.getElem?_cons_succ]; done) | simp)) (fun h => by cases h) ?_
  simp only [go_sem, v37, p37]
  obtain ⟨K2, hK2⟩ : ∃ K : List V → Store → Prop, K = fun L σ => ∃ r y0 y1 y2 y3 y7, L = [y0, y1, y2, y3, .bool r, y7] ∧ σ = [.live ⟨3, [w.c]⟩] ∧ r = decide (behindR w p q) := ⟨_, rfl⟩
  refine awp_srK (K2) ?_ ?_
  · simp only [go_sem, R37_2, v37, p37, World.c]
    by_cases b1 : 0 ≤ lagOf w p q
    · obtain ⟨hp, p1, q1, hq, hlg, hlag⟩ := two_facts hs (lag_two b1)
      simp only [go_sem, v37, p37, eq_true b1, World.c, rw_at _ hp, Node.c, eq_true p1]
      rw [hK2]
      refine ⟨_, _, _, _, _, _, rfl, rfl, ?_⟩
      exact decide_eq_decide.2 (by unfold behindR; rw [nodeAt_eq hp]; omega)
    · simp only [go_sem, v37, p37, eq_false b1, World.c]
      rw [hK2]
      refine ⟨_, _, _, _, _, _, rfl, rfl, ?_⟩
      grind [behindR]
  intro L σ hq
  rw [hK2] at hq
  obtain ⟨r, y0, y1, y2, y3, y7, rfl, rfl, hq⟩ := hq
  subst hq
  refine awp_ret ?_
  try simp only [go_sem]
  exact fin _ _ _ rfl rfl
def R8_0 : List AR := [⟨(some 3), none, 0, (.box 0 3 (.t 0))⟩, ⟨(some 6), none, 0, (.mov (.k (.bool false)))⟩]
def R8_1 : List AR := [⟨(some 7), none, 0, (.mov (.k (.int .i64 1048576)))⟩]
def R8_2 : List AR := [⟨(some 11), none, 0, (.load 3 true (.t 3))⟩, ⟨(some 12), none, 0, (.mov (.t 7))⟩, ⟨(some 13), none, 0, (.call false 0 0 25 [(.t 11), (.t 12)])⟩, ⟨(some 7), none, 0, (.mov (.t 13))⟩]
def R8_3 : List AR := [⟨(some 14), none, 0, (.mov (.t 7))⟩, ⟨(some 15), none, 0, (.bin .lss (.t 14) (.k (.int .i64 0)))⟩]
def R8_4 : List AR := [⟨(some 6), none, 0, (.mov (.k (.bool true)))⟩]
def R8_5 : List AR := [⟨(some 16), none, 0, (.load 3 true (.t 3))⟩, ⟨(some 17), none, 0, (.call false 0 0 27 [(.t 16)])⟩, ⟨(some 18), none, 0, (.mov (.t 1))⟩, ⟨(some 19), none, 0, (.mov (.t 2))⟩, ⟨(some 20), none, 0, (.call false 0 0 36 [(.t 17), (.t 18), (.t 19)])⟩, ⟨(some 8), none, 0, (.mov (.t 20))⟩]
def R8_6 : List AR := [⟨(some 21), none, 0, (.load 3 true (.t 3))⟩, ⟨(some 22), none, 0, (.call false 0 0 27 [(.t 21)])⟩, ⟨(some 9), none, 0, (.alloc 0 3 [.nl, .nl, .nl])⟩, ⟨none, none, 0, (.store 3 (.t 9) (.t 22))⟩]
def R8_7 : List AR := [⟨(some 23), none, 0, (.load 3 true (.t 9))⟩, ⟨(some 24), none, 0, (.mov (.t 1))⟩, ⟨(some 25), none, 0, (.mov (.t 2))⟩, ⟨(some 26), none, 0, (.call false 0 0 37 [(.t 23), (.t 24), (.t 25)])⟩, ⟨(some 10), none, 0, (.mov (.t 26))⟩]
def R8_8 : List AR := [⟨(some 27), none, 0, (.mov (.t 10))⟩, ⟨(some 28), none, 0, (.mov (.t 8))⟩, ⟨(some 29), none, 0, (.beq true (.t 27) (.t 28))⟩]
def R8_9 : List AR := [⟨(some 6), none, 0, (.mov (.k (.bool false)))⟩]
def R8_10 : List AR := [⟨(some 30), none, 0, (.load 3 true (.t 9))⟩, ⟨(some 31), none, 0, (.load 3 true (.t 3))⟩, ⟨(some 32), none, 0, (.call false 0 0 27 [(.t 31)])⟩, ⟨(some 33), none, 0, (.call false 0 0 29 [(.t 30), (.t 32)])⟩, ⟨(some 34), none, 0, (.not (.t 33))⟩]
def R8_11 : List AR := [⟨(some 6), none, 0, (.mov (.k (.bool false)))⟩]
def R8_12 : List AR := [⟨(some 6), none, 0, (.mov (.k (.bool true)))⟩]
def A8_0 : AC := (.seq (.reg 0 R8_12) .ret)
def A8_1 : AC := (.seq (.seq (.draw 0 R8_10) (.cond (.t 34) (.seq (.reg 0 R8_11) .ret) .skip)) A8_0)
def A8_2 : AC := (.seq (.seq (.reg 0 R8_8) (.cond (.t 29) (.seq (.reg 0 R8_9) .ret) .skip)) A8_1)
def A8_3 : AC := (.seq (.reg 0 R8_7) A8_2)
def A8_4 : AC := (.seq (.reg 1 R8_6) A8_3)
def A8_5 : AC := (.seq (.reg 0 R8_5) A8_4)
def A8_6 : AC := (.seq (.seq (.reg 0 R8_3) (.cond (.t 15) (.seq (.reg 0 R8_4) .ret) .skip)) A8_5)
def A8_7 : AC := (.seq (.reg 0 R8_2) A8_6)
def A8_8 : AC := (.seq (.reg 0 R8_1) A8_7)
def A8 : AC := (.seq (.reg 1 R8_0) A8_8)
def O8 : List AO := [(.mov (.t 6))]
def G8 : Fns := ⟨fun f => false, fun f => 0, false⟩
noncomputable def X8 : Cx := ⟨Tryz.prog, G8, drawD, 35, [0, 1, 2, 3, 6, 7, 8, 9, 10, 15, 29, 34]⟩
theorem c8 : (Tryz.f8.body).bind (compC X8.P X8.Γ X8.D X8.nt) = some A8 := by kernel_rfl
theorem o8 : compRes X8.P Tryz.f8.results.toList = some O8 := by kernel_rfl
theorem v8 : X8.vs = [0, 1, 2, 3, 6, 7, 8, 9, 10, 15, 29, 34] := rfl
theorem p8 : X8.P = Tryz.prog := rfl
theorem exactBehind_ok (a : World) (p q : Int) (ha : a.ok) : FS Tryz.prog 8 [] [.agg a.c, .int .i64 p, .int .i64 q] (.bool true) [] := by
  refine FS.of (X := X8) (ac := A8) (os := O8) Tryz.func8 (by rfl) (by rfl) (by kernel_rfl) o8 (Nat.le_of_ble_eq_true rfl) ?_
  show AWP X8 A8 (Ends X8.vs O8 0 _ _) [.agg a.c, .int .i64 p, .int .i64 q, .tup [], .tup [], .tup [], .tup [], .tup [], .tup [], .tup [], .tup [], .tup []] []
  obtain ⟨Q, hQ⟩ : ∃ Q, Q = Ends X8.vs O8 0 (.bool true) [] := ⟨_, rfl⟩
  rw [← hQ]
  have fin : ∀ L σ vV, resVs O8 (look X8.vs L) σ = some [vV] → vV = (.bool true) → Q .ret L σ := by
    intro L σ vV h1 h2
    rw [hQ]
    exact Ends.is (.inl rfl) h1 (by simp only [packV, h2]) rfl
  refine awp_sr ?_
  simp only [go_sem, R8_0, v8, p8, World.c]
  refine awp_sr ?_
  simp only [go_sem, R8_1, v8, p8]
  refine awp_sr ?_
  simp only [go_sem, R8_2, v8, p8, World.c]
  refine run_see (szWorld_ok a 1048576 (Nat.le_refl _) ha) false (Views.refl rfl) rfl (fun j hj => by first | omega | ((have hj0 : j = 0 := by omega); subst hj0; first | rfl | (simp only [Nat.add_zero, app_get, app_getk, sapp_get, sapp_getk, Nat.add_assoc, Nat.reduceAdd, List.getElem?_cons_zero, List.getElem?_cons_succ]; done) | simp)) (fun h => by cases h) ?_
  simp only [go_sem, v8, p8]
  refine awp_sr2 ?_
  simp only [go_sem, R8_3, v8, p8]
  refine awp_if rfl ?_ ?_
  · intro h1
    refine awp_sr ?_
    simp only [go_sem, R8_4, v8, p8]
    refine awp_ret ?_
    try simp only [go_sem]
    exact fin _ _ _ rfl rfl
  intro h1
  obtain ⟨-, h⟩ := left_pos h1
  refine awp_skip ?_
  simp only [go_sem]
  refine awp_sr ?_
  simp only [go_sem, R8_5, v8, p8, World.c]
  refine run_see (toWorld_ok a h) false (Views.refl rfl) rfl (fun j hj => by first | omega | ((have hj0 : j = 0 := by omega); subst hj0; first | rfl | (simp only [Nat.add_zero, app_get, app_getk, sapp_get, sapp_getk, Nat.add_assoc, Nat.reduceAdd, List.getElem?_cons_zero, List.getElem?_cons_succ]; done) | simp)) (fun h => by cases h) ?_
  simp only [go_sem, v8, p8]
  refine run_see (specBehind_ok a p q h) false (Views.refl rfl) rfl (fun j hj => by first | omega | ((have hj0 : j = 0 := by omega); subst hj0; first | rfl | (simp only [Nat.add_zero, app_get, app_getk, sapp_get, sapp_getk, Nat.add_assoc, Nat.reduceAdd, List.getElem?_cons_zero, List.getElem?_cons_succ]; done) | simp)) (fun h => by cases h) ?_
  simp only [go_sem, v8, p8]
  refine awp_sr ?_
  simp only [go_sem, R8_6, v8, p8, World.c]
  refine run_see (toWorld_ok a h) false (Views.refl rfl) rfl (fun j hj => by first | omega | ((have hj0 : j = 0 := by omega); subst hj0; first | rfl | (simp only [Nat.add_zero, app_get, app_getk, sapp_get, sapp_getk, Nat.add_assoc, Nat.reduceAdd, List.getElem?_cons_zero, List.getElem?_cons_succ]; done) | simp)) (fun h => by cases h) ?_
  simp only [go_sem, v8, p8, World.c]
  refine awp_sr ?_
  simp only [go_sem, R8_7, v8, p8, World.c]
  refine run_see (implBehind_ok a p q h) false (Views.refl rfl) rfl (fun j hj => by first | omega | ((have hj0 : j = 0 := by omega); subst hj0; first | rfl | (simp only [Nat.add_zero, app_get, app_getk, sapp_get, sapp_getk, Nat.add_assoc, Nat.reduceAdd, List.getElem?_cons_zero, List.getElem?_cons_succ]; done) | simp)) (fun h => by cases h) ?_
  simp only [go_sem, v8, p8]
  refine awp_sr2 ?_
  simp only [go_sem, R8_8, v8, p8]
  refine awp_no rfl ?_
  refine awp_skip ?_
  simp only [go_sem]
  refine awp_sd2 mixed rfl (by rfl) ?_
  simp only [go_sem, R8_10, v8, p8, World.c]
  refine run_see (toWorld_ok a h) false (Views.refl rfl) rfl (fun j hj => by first | omega | ((have hj0 : j = 0 := by omega); subst hj0; first | rfl | (simp only [Nat.add_zero, app_get, app_getk, sapp_get, sapp_getk, Nat.add_assoc, Nat.reduceAdd, List.getElem?_cons_zero, List.getElem?_cons_succ]; done) | simp)) (fun h => by cases h) ?_
  simp only [go_sem, v8, p8, World.c]
  refine run_see (eqWorld_ok a a h) false (Views.refl rfl) rfl (fun j hj => by first | omega | ((have hj0 : j = 0 := by omega); subst hj0; first | rfl | (simp only [Nat.add_zero, app_get, app_getk, sapp_get, sapp_getk, Nat.add_assoc, Nat.reduceAdd, List.getElem?_cons_zero, List.getElem?_cons_succ]; done) | simp)) (fun h => by cases h) ?_
  simp only [go_sem, v8, p8]
  refine awp_no rfl ?_
  refine awp_skip ?_
  simp only [go_sem]
  refine awp_sr ?_
  simp only [go_sem, R8_12, v8, p8]
  refine awp_ret ?_
  try simp only [go_sem]
  exact fin _ _ _ rfl rfl
end Go.Proofs.YtffigokicddekaaGreat.Abs
/- The bytes under way, in both texts; the law. No condition. -/
set_option linter.unusedVariables false
set_option linter.unusedSimpArgs false
set_option maxRecDepth 10000
namespace Go.Proofs.YtffigokicddekaaGreat.Abs
open Go Go.Proofs
def R34_0 : List AR := [⟨(some 1), none, 0, (.box 0 3 (.t 0))⟩, ⟨(some 2), none, 0, (.mov (.k (.int .i64 0)))⟩]
def R34_1 : List AR := [⟨(some 3), none, 0, (.mov (.k (.int .i64 0)))⟩]
def R34_2 : List AR := [⟨(some 5), none, 0, (.load 3 true (.t 1))⟩, ⟨(some 6), none, 0, (.call false 0 0 56 [(.t 5)])⟩, ⟨(some 7), none, 0, (.not (.t 6))⟩]
def R34_3 : List AR := [⟨(some 8), none, 0, (.mov (.t 3))⟩, ⟨(some 2), none, 0, (.mov (.t 8))⟩]
def R34_4 : List AR := [⟨(some 4), none, 0, (.mov (.k (.int .i64 0)))⟩]
def R34_5 : List AR := [⟨(some 9), none, 0, (.mov (.t 4))⟩, ⟨(some 10), none, 0, (.faddr 1 (.t 1))⟩, ⟨(some 11), none, 0, (.load 1 false (.t 10))⟩, ⟨(some 12), none, 0, (.len (.t 11))⟩, ⟨(some 13), none, 0, (.bin .lss (.t 9) (.t 12))⟩]
def R34_6 : List AR := [⟨(some 16), none, 0, (.mov (.t 3))⟩, ⟨(some 17), none, 0, (.faddr 1 (.t 1))⟩, ⟨(some 18), none, 0, (.load 1 false (.t 17))⟩, ⟨(some 19), none, 0, (.mov (.t 4))⟩, ⟨(some 20), none, 0, (.iaddr 3 (.t 18) (.t 19))⟩, ⟨(some 21), none, 0, (.faddr 1 (.t 20))⟩, ⟨(some 22), none, 0, (.load 1 false (.t 21))⟩, ⟨(some 23), none, 0, (.len (.t 22))⟩, ⟨(some 24), none, 0, (.bin .add (.t 16) (.t 23))⟩, ⟨(some 3), none, 0, (.mov (.t 24))⟩]
def R34_7 : List AR := [⟨(some 14), none, 0, (.mov (.t 4))⟩, ⟨(some 15), none, 0, (.bin .add (.t 14) (.k (.int .i64 1)))⟩, ⟨(some 4), none, 0, (.mov (.t 15))⟩]
def A34_0 : AC := (.seq (.block 1 (.reg 0 R34_6)) (.reg 0 R34_7))
def L34_0 : AC := (.seq (.seq (.reg 0 R34_5) (.cond (.t 13) .skip (.exit 0))) A34_0)
def R34_8 : List AR := [⟨(some 25), none, 0, (.mov (.t 3))⟩, ⟨(some 2), none, 0, (.mov (.t 25))⟩]
def A34_1 : AC := (.seq (.reg 0 R34_8) .ret)
def A34_2 : AC := (.seq (.seq (.reg 0 R34_4) (.block 0 (.loop L34_0))) A34_1)
def A34_3 : AC := (.seq (.seq (.reg 0 R34_2) (.cond (.t 7) (.seq (.reg 0 R34_3) .ret) .skip)) A34_2)
def A34_4 : AC := (.seq (.reg 0 R34_1) A34_3)
def A34 : AC := (.seq (.reg 1 R34_0) A34_4)
def O34 : List AO := [(.mov (.t 2))]
def G34 : Fns := ⟨fun f => false, fun f => 0, false⟩
noncomputable def X34 : Cx := ⟨Tryz.prog, G34, drawD, 26, [0, 1, 2, 3, 4, 7, 13]⟩
theorem c34 : (Tryz.f34.body).bind (compC X34.P X34.Γ X34.D X34.nt) = some A34 := by kernel_rfl
theorem o34 : compRes X34.P Tryz.f34.results.toList = some O34 := by kernel_rfl
theorem v34 : X34.vs = [0, 1, 2, 3, 4, 7, 13] := rfl
theorem p34 : X34.P = Tryz.prog := rfl
def R35_0 : List AR := [⟨(some 1), none, 0, (.box 0 3 (.t 0))⟩, ⟨(some 2), none, 0, (.mov (.k (.int .i64 0)))⟩]
def R35_1 : List AR := [⟨(some 3), none, 0, (.mov (.k (.int .i64 0)))⟩]
def R35_2 : List AR := [⟨(some 6), none, 0, (.load 3 true (.t 1))⟩, ⟨(some 7), none, 0, (.call false 0 0 55 [(.t 6)])⟩, ⟨(some 8), none, 0, (.not (.t 7))⟩]
def R35_3 : List AR := [⟨(some 9), none, 0, (.mov (.t 3))⟩, ⟨(some 2), none, 0, (.mov (.t 9))⟩]
def R35_4 : List AR := [⟨(some 10), none, 0, (.faddr 1 (.t 1))⟩, ⟨(some 11), none, 0, (.load 1 false (.t 10))⟩, ⟨(some 12), none, 0, (.len (.t 11))⟩, ⟨(some 13), none, 0, (.mov (.k (.int .i64 0)))⟩]
def R35_5 : List AR := [⟨(some 14), none, 0, (.bin .lss (.t 13) (.t 12))⟩]
def R35_6 : List AR := [⟨(some 15), none, 0, (.iaddr 3 (.t 11) (.t 13))⟩, ⟨(some 16), none, 0, (.load 3 true (.t 15))⟩, ⟨(some 5), none, 0, (.alloc 0 3 [(.int .i64 0), .nl, (.bool false)])⟩, ⟨none, none, 0, (.store 3 (.t 5) (.t 16))⟩]
def R35_7 : List AR := [⟨(some 17), none, 0, (.mov (.t 3))⟩, ⟨(some 18), none, 0, (.faddr 1 (.t 5))⟩, ⟨(some 19), none, 0, (.load 1 false (.t 18))⟩, ⟨(some 20), none, 0, (.len (.t 19))⟩, ⟨(some 21), none, 0, (.bin .add (.t 17) (.t 20))⟩, ⟨(some 3), none, 0, (.mov (.t 21))⟩]
def R35_8 : List AR := [⟨(some 22), none, 0, (.bin .add (.t 13) (.k (.int .i64 1)))⟩, ⟨(some 13), none, 0, (.mov (.t 22))⟩]
def A35_0 : AC := (.seq (.block 1 (.seq (.reg 1 R35_6) (.reg 0 R35_7))) (.reg 0 R35_8))
def A35_1 : AC := (.seq (.cond (.t 14) .skip (.exit 0)) A35_0)
def L35_0 : AC := (.seq (.reg 0 R35_5) A35_1)
def R35_9 : List AR := [⟨(some 23), none, 0, (.mov (.t 3))⟩, ⟨(some 2), none, 0, (.mov (.t 23))⟩]
def A35_2 : AC := (.seq (.reg 0 R35_9) .ret)
def A35_3 : AC := (.seq (.seq (.reg 0 R35_4) (.block 0 (.loop L35_0))) A35_2)
def A35_4 : AC := (.seq (.seq (.reg 0 R35_2) (.cond (.t 8) (.seq (.reg 0 R35_3) .ret) .skip)) A35_3)
def A35_5 : AC := (.seq (.reg 0 R35_1) A35_4)
def A35 : AC := (.seq (.reg 1 R35_0) A35_5)
def O35 : List AO := [(.mov (.t 2))]
def G35 : Fns := ⟨fun f => false, fun f => 0, false⟩
noncomputable def X35 : Cx := ⟨Tryz.prog, G35, drawD, 24, [0, 1, 2, 3, 5, 8, 11, 12, 13, 14]⟩
theorem c35 : (Tryz.f35.body).bind (compC X35.P X35.Γ X35.D X35.nt) = some A35 := by kernel_rfl
theorem o35 : compRes X35.P Tryz.f35.results.toList = some O35 := by kernel_rfl
theorem v35 : X35.vs = [0, 1, 2, 3, 5, 8, 11, 12, 13, 14] := rfl
theorem p35 : X35.P = Tryz.prog := rfl
def addP (k : Nat) (p : Pack) : Nat := k + p.bytes.length
noncomputable def netSize (w : World) : Nat := if w.Right then w.net.foldl addP 0 else 0
theorem addP_len : ∀ {ps : List Pack} {k : Nat}, (∀ p ∈ ps, p.bytes.length ≤ 1048576) → ps.foldl addP k ≤ k + ps.length * 1048576
  | [], k, _ => by simp
  | p :: ps, k, h => by
    have h1 := h p (by simp)
    have h2 := addP_len (ps := ps) (k := addP k p) fun x hx => h x (by simp [hx])
    simp only [List.foldl_cons, List.length_cons]
    unfold addP at h2 ⊢
    omega
theorem net_all {w : World} (h : w.sz ≤ 1048576) : ∀ p ∈ w.net, p.bytes.length ≤ 1048576 := by
  have hl : szS Node.sz w.nodes + szS Pack.sz w.net + szS Said.sz w.said ≤ 1048576 := h
  intro p hp
  obtain ⟨i, hi⟩ := List.mem_iff_getElem?.1 hp
  obtain ⟨h1, rfl⟩ := List.getElem?_eq_some_iff.1 hi
  have := sumBy_get Pack.sz h1
  have e : w.net[i].sz = w.net[i].bytes.length := rfl
  unfold szS at hl
  omega
set_option maxHeartbeats 1000000 in
theorem specNetSize_ok (w : World) (h : w.sz ≤ 1048576) : FS Tryz.prog 34 [] [.agg w.c] (.int .i64 (netSize w : Nat)) [] := by
  refine FS.of (X := X34) (ac := A34) (os := O34) Tryz.func34 (by rfl) (by rfl) (by kernel_rfl) o34 (Nat.le_of_ble_eq_true rfl) ?_
  show AWP X34 A34 (Ends X34.vs O34 0 _ _) [.agg w.c, .tup [], .tup [], .tup [], .tup [], .tup [], .tup []] []
  obtain ⟨Q, hQ⟩ : ∃ Q, Q = Ends X34.vs O34 0 (.int .i64 (netSize w : Nat)) [] := ⟨_, rfl⟩
  rw [← hQ]
  have hs := World.small h
  have hp := hs.lp
  have fin : ∀ L σ vV, resVs O34 (look X34.vs L) σ = some [vV] → vV = (.int .i64 (netSize w : Nat)) → Q .ret L σ := by
    intro L σ vV h1 h2
    rw [hQ]
    exact Ends.is (.inl rfl) h1 (by simp only [packV, h2]) rfl
  refine awp_sr ?_
  simp only [go_sem, R34_0, v34, p34, World.c]
  refine (fun G : AWP X34 _ _ _ [.live ⟨3, [w.c]⟩] => G) ?_
  refine awp_sr ?_
  simp only [go_sem, R34_1, v34, p34]
  refine awp_sr2 ?_
  simp only [go_sem, R34_2, v34, p34, World.c]
  refine run_see (specWorldOk_ok w h) false (Views.refl rfl) rfl (fun j hj => by first | omega | ((have hj0 : j = 0 := by omega); subst hj0; first | rfl | (simp only [Nat.add_zero, app_get, app_getk, sapp_get, sapp_getk, Nat.add_assoc, Nat.reduceAdd, List.getElem?_cons_zero, List.getElem?_cons_succ]; done) | simp)) (fun h => by cases h) ?_
  simp only [go_sem, v34, p34]
  refine awp_if' rfl ?_ ?_
  · intro h1
    refine awp_sr ?_
    simp only [go_sem, R34_3, v34, p34]
    refine awp_ret ?_
    try simp only [go_sem]
    exact fin _ _ (.int .i64 0) rfl (congrArg (V.int .i64) (by unfold netSize; rw [if_neg h1]; rfl))
  intro h1
  refine awp_skip ?_
  simp only [go_sem]
  refine awp_sr2 ?_
  simp only [go_sem, R34_4, v34, p34]
  obtain ⟨I, hI⟩ : ∃ I : Nat → List V → Store → Prop, I = fun mM L σ => ∃ i rest y0 y2 y7 y13, mM = w.net.length - i ∧ i ≤ w.net.length ∧ (True) ∧ L = [y0, .ptr 0 3 0 0, y2, .int .i64 (((w.net.take i).foldl addP 0 : Nat) : Int), .int .i64 (i : Nat), y7, y13] ∧ σ = .live ⟨3, [w.c]⟩ :: rest := ⟨_, rfl⟩
  first | refine awp_for I w.net.length ?_ ?_ | refine awp_seq (awp_for I w.net.length ?_ ?_)
  · rw [hI]; refine ⟨0, _, _, _, _, _, rfl, Nat.zero_le _, ?_, rfl, rfl⟩
    trivial
  intro mM L σ hIn
  rw [hI] at hIn
  obtain ⟨i, rest, y0, y2, y7, y13, rfl, hi, hP, rfl, rfl⟩ := hIn
  refine awp_sr2 ?_
  simp only [go_sem, R34_5, v34, p34, World.c]
  refine awp_if rfl ?_ ?_
  · intro h2
    have h2 : i < w.net.length := by omega
    have e1 := fold_take addP 0 h2
    have e2 := addP_len (ps := w.net.take i) (k := 0) fun s hs' => net_all h s (List.mem_of_mem_take hs')
    have e3 : (w.net.take i).length ≤ 1048576 := by simp; omega
    have e4 := net_all h _ (List.getElem_mem h2)
    refine awp_skip ?_
    simp only [go_sem]
    first | refine awp_block ?_ | refine awp_seq (awp_block ?_)
    refine awp_reg ?_
    simp only [go_sem, R34_6, v34, p34, World.c, rw_at _ h2, Pack.c, wrap_i64 (n := (((w.net.take i).foldl addP 0 : Nat) : Int) + (w.net[i].bytes.length : Int)) (by omega) (by omega)]
    rw [show ((((w.net.take i).foldl addP 0 : Nat) : Int) + (w.net[i].bytes.length : Int)) = (((w.net.take (i + 1)).foldl addP 0 : Nat) : Int) by rw [e1]; unfold addP; omega]
    refine awp_reg ?_
    simp only [go_sem, R34_7, v34, p34, wrap_succ (i := i) (by omega)]
    refine ⟨w.net.length - (i + 1), by omega, ?_⟩
    rw [hI]
    refine ⟨i + 1, _, _, _, _, _, rfl, by omega, ?_, rfl, rfl⟩
    trivial
  · intro h2
    refine awp_exit ?_
    simp only [go_sem]
    have : i = w.net.length := by omega
    subst this
    refine awp_sr ?_
    simp only [go_sem, R34_8, v34, p34]
    refine awp_ret ?_
    try simp only [go_sem]
    exact fin _ _ _ rfl (congrArg (V.int .i64) (by unfold netSize; rw [if_pos h1]))
set_option maxHeartbeats 1000000 in
theorem implNetSize_ok (w : World) (h : w.sz ≤ 1048576) : FS Tryz.prog 35 [] [.agg w.c] (.int .i64 (netSize w : Nat)) [] := by
  refine FS.of (X := X35) (ac := A35) (os := O35) Tryz.func35 (by rfl) (by rfl) (by kernel_rfl) o35 (Nat.le_of_ble_eq_true rfl) ?_
  show AWP X35 A35 (Ends X35.vs O35 0 _ _) [.agg w.c, .tup [], .tup [], .tup [], .tup [], .tup [], .tup [], .tup [], .tup [], .tup []] []
  obtain ⟨Q, hQ⟩ : ∃ Q, Q = Ends X35.vs O35 0 (.int .i64 (netSize w : Nat)) [] := ⟨_, rfl⟩
  rw [← hQ]
  have hs := World.small h
  have hp := hs.lp
  have fin : ∀ L σ vV, resVs O35 (look X35.vs L) σ = some [vV] → vV = (.int .i64 (netSize w : Nat)) → Q .ret L σ := by
    intro L σ vV h1 h2
    rw [hQ]
    exact Ends.is (.inl rfl) h1 (by simp only [packV, h2]) rfl
  refine awp_sr ?_
  simp only [go_sem, R35_0, v35, p35, World.c]
  refine (fun G : AWP X35 _ _ _ [.live ⟨3, [w.c]⟩] => G) ?_
  refine awp_sr ?_
  simp only [go_sem, R35_1, v35, p35]
  refine awp_sr2 ?_
  simp only [go_sem, R35_2, v35, p35, World.c]
  refine run_see (implWorldOk_ok w h) false (Views.refl rfl) rfl (fun j hj => by first | omega | ((have hj0 : j = 0 := by omega); subst hj0; first | rfl | (simp only [Nat.add_zero, app_get, app_getk, sapp_get, sapp_getk, Nat.add_assoc, Nat.reduceAdd, List.getElem?_cons_zero, List.getElem?_cons_succ]; done) | simp)) (fun h => by cases h) ?_
  simp only [go_sem, v35, p35]
  refine awp_if' rfl ?_ ?_
  · intro h1
    refine awp_sr ?_
    simp only [go_sem, R35_3, v35, p35]
    refine awp_ret ?_
    try simp only [go_sem]
    exact fin _ _ (.int .i64 0) rfl (congrArg (V.int .i64) (by unfold netSize; rw [if_neg h1]; rfl))
  intro h1
  refine awp_skip ?_
  simp only [go_sem]
  refine awp_sr2 ?_
  simp only [go_sem, R35_4, v35, p35, World.c]
  obtain ⟨I, hI⟩ : ∃ I : Nat → List V → Store → Prop, I = fun mM L σ => ∃ i rest y0 y2 y5 y8 y14, mM = w.net.length - i ∧ i ≤ w.net.length ∧ (True) ∧ L = [y0, .ptr 0 3 0 0, y2, .int .i64 (((w.net.take i).foldl addP 0 : Nat) : Int), y5, y8, .fz 3 (rw_ Pack.c w.net), .int .i64 (w.net.length : Nat), .int .i64 (i : Nat), y14] ∧ σ = .live ⟨3, [w.c]⟩ :: rest := ⟨_, rfl⟩
  first | refine awp_for I w.net.length ?_ ?_ | refine awp_seq (awp_for I w.net.length ?_ ?_)
  · rw [hI]; refine ⟨0, _, _, _, _, _, _, rfl, Nat.zero_le _, ?_, rfl, rfl⟩
    trivial
  intro mM L σ hIn
  rw [hI] at hIn
  obtain ⟨i, rest, y0, y2, y5, y8, y14, rfl, hi, hP, rfl, rfl⟩ := hIn
  refine awp_sr ?_
  simp only [go_sem, R35_5, v35, p35]
  refine awp_seq ?_
  refine awp_if rfl ?_ ?_
  · intro h2
    have h2 : i < w.net.length := by omega
    have e1 := fold_take addP 0 h2
    have e2 := addP_len (ps := w.net.take i) (k := 0) fun s hs' => net_all h s (List.mem_of_mem_take hs')
    have e3 : (w.net.take i).length ≤ 1048576 := by simp; omega
    have e4 := net_all h _ (List.getElem_mem h2)
    refine awp_skip ?_
    simp only [go_sem]
    first | refine awp_block ?_ | refine awp_seq (awp_block ?_)
    refine awp_sr ?_
    simp only [go_sem, R35_6, v35, p35, rw_at _ h2, Pack.c]
    refine awp_reg ?_
    simp only [go_sem, R35_7, v35, p35, wrap_i64 (n := (((w.net.take i).foldl addP 0 : Nat) : Int) + (w.net[i].bytes.length : Int)) (by omega) (by omega)]
    rw [show ((((w.net.take i).foldl addP 0 : Nat) : Int) + (w.net[i].bytes.length : Int)) = (((w.net.take (i + 1)).foldl addP 0 : Nat) : Int) by rw [e1]; unfold addP; omega]
    refine awp_reg ?_
    simp only [go_sem, R35_8, v35, p35, wrap_succ (i := i) (by omega)]
    refine ⟨w.net.length - (i + 1), by omega, ?_⟩
    rw [hI]
    refine ⟨i + 1, _, _, _, _, _, _, rfl, by omega, ?_, rfl, rfl⟩
    trivial
  · intro h2
    refine awp_exit ?_
    simp only [go_sem]
    have : i = w.net.length := by omega
    subst this
    refine awp_sr ?_
    simp only [go_sem, R35_9, v35, p35]
    refine awp_ret ?_
    try simp only [go_sem]
    exact fin _ _ _ rfl (congrArg (V.int .i64) (by unfold netSize; rw [if_pos h1]))
def R7_0 : List AR := [⟨(some 1), none, 0, (.box 0 3 (.t 0))⟩, ⟨(some 2), none, 0, (.mov (.k (.bool false)))⟩]
def R7_1 : List AR := [⟨(some 3), none, 0, (.mov (.k (.int .i64 1048576)))⟩]
def R7_2 : List AR := [⟨(some 7), none, 0, (.load 3 true (.t 1))⟩, ⟨(some 8), none, 0, (.mov (.t 3))⟩, ⟨(some 9), none, 0, (.call false 0 0 25 [(.t 7), (.t 8)])⟩, ⟨(some 3), none, 0, (.mov (.t 9))⟩]
def R7_3 : List AR := [⟨(some 10), none, 0, (.mov (.t 3))⟩, ⟨(some 11), none, 0, (.bin .lss (.t 10) (.k (.int .i64 0)))⟩]
def R7_4 : List AR := [⟨(some 2), none, 0, (.mov (.k (.bool true)))⟩]
def R7_5 : List AR := [⟨(some 12), none, 0, (.load 3 true (.t 1))⟩, ⟨(some 13), none, 0, (.call false 0 0 27 [(.t 12)])⟩, ⟨(some 14), none, 0, (.call false 0 0 34 [(.t 13)])⟩, ⟨(some 4), none, 0, (.mov (.t 14))⟩]
def R7_6 : List AR := [⟨(some 15), none, 0, (.load 3 true (.t 1))⟩, ⟨(some 16), none, 0, (.call false 0 0 27 [(.t 15)])⟩, ⟨(some 5), none, 0, (.alloc 0 3 [.nl, .nl, .nl])⟩, ⟨none, none, 0, (.store 3 (.t 5) (.t 16))⟩]
def R7_7 : List AR := [⟨(some 17), none, 0, (.load 3 true (.t 5))⟩, ⟨(some 18), none, 0, (.call false 0 0 35 [(.t 17)])⟩, ⟨(some 6), none, 0, (.mov (.t 18))⟩]
def R7_8 : List AR := [⟨(some 19), none, 0, (.mov (.t 6))⟩, ⟨(some 20), none, 0, (.mov (.t 4))⟩, ⟨(some 21), none, 0, (.bin .neq (.t 19) (.t 20))⟩]
def R7_9 : List AR := [⟨(some 2), none, 0, (.mov (.k (.bool false)))⟩]
def R7_10 : List AR := [⟨(some 22), none, 0, (.load 3 true (.t 5))⟩, ⟨(some 23), none, 0, (.load 3 true (.t 1))⟩, ⟨(some 24), none, 0, (.call false 0 0 27 [(.t 23)])⟩, ⟨(some 25), none, 0, (.call false 0 0 29 [(.t 22), (.t 24)])⟩, ⟨(some 26), none, 0, (.not (.t 25))⟩]
def R7_11 : List AR := [⟨(some 2), none, 0, (.mov (.k (.bool false)))⟩]
def R7_12 : List AR := [⟨(some 2), none, 0, (.mov (.k (.bool true)))⟩]
def A7_0 : AC := (.seq (.reg 0 R7_12) .ret)
def A7_1 : AC := (.seq (.seq (.draw 0 R7_10) (.cond (.t 26) (.seq (.reg 0 R7_11) .ret) .skip)) A7_0)
def A7_2 : AC := (.seq (.seq (.reg 0 R7_8) (.cond (.t 21) (.seq (.reg 0 R7_9) .ret) .skip)) A7_1)
def A7_3 : AC := (.seq (.reg 0 R7_7) A7_2)
def A7_4 : AC := (.seq (.reg 1 R7_6) A7_3)
def A7_5 : AC := (.seq (.reg 0 R7_5) A7_4)
def A7_6 : AC := (.seq (.seq (.reg 0 R7_3) (.cond (.t 11) (.seq (.reg 0 R7_4) .ret) .skip)) A7_5)
def A7_7 : AC := (.seq (.reg 0 R7_2) A7_6)
def A7_8 : AC := (.seq (.reg 0 R7_1) A7_7)
def A7 : AC := (.seq (.reg 1 R7_0) A7_8)
def O7 : List AO := [(.mov (.t 2))]
def G7 : Fns := ⟨fun f => false, fun f => 0, false⟩
noncomputable def X7 : Cx := ⟨Tryz.prog, G7, drawD, 27, [0, 1, 2, 3, 4, 5, 6, 11, 21, 26]⟩
theorem c7 : (Tryz.f7.body).bind (compC X7.P X7.Γ X7.D X7.nt) = some A7 := by kernel_rfl
theorem o7 : compRes X7.P Tryz.f7.results.toList = some O7 := by kernel_rfl
theorem v7 : X7.vs = [0, 1, 2, 3, 4, 5, 6, 11, 21, 26] := rfl
theorem p7 : X7.P = Tryz.prog := rfl
theorem exactNetSize_ok (a : World) (ha : a.ok) : FS Tryz.prog 7 [] [.agg a.c] (.bool true) [] := by
  refine FS.of (X := X7) (ac := A7) (os := O7) Tryz.func7 (by rfl) (by rfl) (by kernel_rfl) o7 (Nat.le_of_ble_eq_true rfl) ?_
  show AWP X7 A7 (Ends X7.vs O7 0 _ _) [.agg a.c, .tup [], .tup [], .tup [], .tup [], .tup [], .tup [], .tup [], .tup [], .tup []] []
  obtain ⟨Q, hQ⟩ : ∃ Q, Q = Ends X7.vs O7 0 (.bool true) [] := ⟨_, rfl⟩
  rw [← hQ]
  have fin : ∀ L σ vV, resVs O7 (look X7.vs L) σ = some [vV] → vV = (.bool true) → Q .ret L σ := by
    intro L σ vV h1 h2
    rw [hQ]
    exact Ends.is (.inl rfl) h1 (by simp only [packV, h2]) rfl
  refine awp_sr ?_
  simp only [go_sem, R7_0, v7, p7, World.c]
  refine awp_sr ?_
  simp only [go_sem, R7_1, v7, p7]
  refine awp_sr ?_
  simp only [go_sem, R7_2, v7, p7, World.c]
  refine run_see (szWorld_ok a 1048576 (Nat.le_refl _) ha) false (Views.refl rfl) rfl (fun j hj => by first | omega | ((have hj0 : j = 0 := by omega); subst hj0; first | rfl | (simp only [Nat.add_zero, app_get, app_getk, sapp_get, sapp_getk, Nat.add_assoc, Nat.reduceAdd, List.getElem?_cons_zero, List.getElem?_cons_succ]; done) | simp)) (fun h => by cases h) ?_
  simp only [go_sem, v7, p7]
  refine awp_sr2 ?_
  simp only [go_sem, R7_3, v7, p7]
  refine awp_if rfl ?_ ?_
  · intro h1
    refine awp_sr ?_
    simp only [go_sem, R7_4, v7, p7]
    refine awp_ret ?_
    try simp only [go_sem]
    exact fin _ _ _ rfl rfl
  intro h1
  obtain ⟨-, h⟩ := left_pos h1
  refine awp_skip ?_
  simp only [go_sem]
  refine awp_sr ?_
  simp only [go_sem, R7_5, v7, p7, World.c]
  refine run_see (toWorld_ok a h) false (Views.refl rfl) rfl (fun j hj => by first | omega | ((have hj0 : j = 0 := by omega); subst hj0; first | rfl | (simp only [Nat.add_zero, app_get, app_getk, sapp_get, sapp_getk, Nat.add_assoc, Nat.reduceAdd, List.getElem?_cons_zero, List.getElem?_cons_succ]; done) | simp)) (fun h => by cases h) ?_
  simp only [go_sem, v7, p7]
  refine run_see (specNetSize_ok a  h) false (Views.refl rfl) rfl (fun j hj => by first | omega | ((have hj0 : j = 0 := by omega); subst hj0; first | rfl | (simp only [Nat.add_zero, app_get, app_getk, sapp_get, sapp_getk, Nat.add_assoc, Nat.reduceAdd, List.getElem?_cons_zero, List.getElem?_cons_succ]; done) | simp)) (fun h => by cases h) ?_
  simp only [go_sem, v7, p7]
  refine awp_sr ?_
  simp only [go_sem, R7_6, v7, p7, World.c]
  refine run_see (toWorld_ok a h) false (Views.refl rfl) rfl (fun j hj => by first | omega | ((have hj0 : j = 0 := by omega); subst hj0; first | rfl | (simp only [Nat.add_zero, app_get, app_getk, sapp_get, sapp_getk, Nat.add_assoc, Nat.reduceAdd, List.getElem?_cons_zero, List.getElem?_cons_succ]; done) | simp)) (fun h => by cases h) ?_
  simp only [go_sem, v7, p7, World.c]
  refine awp_sr ?_
  simp only [go_sem, R7_7, v7, p7, World.c]
  refine run_see (implNetSize_ok a  h) false (Views.refl rfl) rfl (fun j hj => by first | omega | ((have hj0 : j = 0 := by omega); subst hj0; first | rfl | (simp only [Nat.add_zero, app_get, app_getk, sapp_get, sapp_getk, Nat.add_assoc, Nat.reduceAdd, List.getElem?_cons_zero, List.getElem?_cons_succ]; done) | simp)) (fun h => by cases h) ?_
  simp only [go_sem, v7, p7]
  refine awp_sr2 ?_
  simp only [go_sem, R7_8, v7, p7]
  refine awp_if rfl ?_ ?_
  · intro h3; exact absurd rfl h3
  intro h3
  refine awp_skip ?_
  simp only [go_sem]
  refine awp_sd2 mixed rfl (by rfl) ?_
  simp only [go_sem, R7_10, v7, p7, World.c]
  refine run_see (toWorld_ok a h) false (Views.refl rfl) rfl (fun j hj => by first | omega | ((have hj0 : j = 0 := by omega); subst hj0; first | rfl | (simp only [Nat.add_zero, app_get, app_getk, sapp_get, sapp_getk, Nat.add_assoc, Nat.reduceAdd, List.getElem?_cons_zero, List.getElem?_cons_succ]; done) | simp)) (fun h => by cases h) ?_
  simp only [go_sem, v7, p7, World.c]
  refine run_see (eqWorld_ok a a h) false (Views.refl rfl) rfl (fun j hj => by first | omega | ((have hj0 : j = 0 := by omega); subst hj0; first | rfl | (simp only [Nat.add_zero, app_get, app_getk, sapp_get, sapp_getk, Nat.add_assoc, Nat.reduceAdd, List.getElem?_cons_zero, List.getElem?_cons_succ]; done) | simp)) (fun h => by cases h) ?_
  simp only [go_sem, v7, p7]
  refine awp_no rfl ?_
  refine awp_skip ?_
  simp only [go_sem]
  refine awp_sr ?_
  simp only [go_sem, R7_12, v7, p7]
  refine awp_ret ?_
  try simp only [go_sem]
  exact fin _ _ _ rfl rfl
end Go.Proofs.YtffigokicddekaaGreat.Abs
/- What the logs keep, in both texts; the law. No condition. -/
set_option linter.unusedVariables false
set_option linter.unusedSimpArgs false
set_option maxRecDepth 10000
namespace Go.Proofs.YtffigokicddekaaGreat.Abs
open Go Go.Proofs
def R32_0 : List AR := [⟨(some 1), none, 0, (.box 0 3 (.t 0))⟩, ⟨(some 2), none, 0, (.mov (.k (.int .i64 0)))⟩]
def R32_1 : List AR := [⟨(some 3), none, 0, (.mov (.k (.int .i64 0)))⟩]
def R32_2 : List AR := [⟨(some 4), none, 0, (.mov (.k (.int .i64 0)))⟩]
def R32_3 : List AR := [⟨(some 5), none, 0, (.mov (.t 4))⟩, ⟨(some 6), none, 0, (.faddr 0 (.t 1))⟩, ⟨(some 7), none, 0, (.load 1 false (.t 6))⟩, ⟨(some 8), none, 0, (.len (.t 7))⟩, ⟨(some 9), none, 0, (.bin .lss (.t 5) (.t 8))⟩, ⟨(some 10), none, 0, (.mov (.t 9))⟩, ⟨(some 11), (some (10, true)), 0, (.load 3 true (.t 1))⟩, ⟨(some 12), (some (10, true)), 0, (.call false 0 0 56 [(.t 11)])⟩, ⟨(some 13), none, 0, (.pick (.t 10) (.t 12) (.k (.bool false)))⟩]
def R32_4 : List AR := [⟨(some 16), none, 0, (.mov (.t 3))⟩, ⟨(some 17), none, 0, (.faddr 0 (.t 1))⟩, ⟨(some 18), none, 0, (.load 1 false (.t 17))⟩, ⟨(some 19), none, 0, (.mov (.t 4))⟩, ⟨(some 20), none, 0, (.iaddr 19 (.t 18) (.t 19))⟩, ⟨(some 21), none, 0, (.faddr 6 (.t 20))⟩, ⟨(some 22), none, 0, (.faddr 2 (.t 21))⟩, ⟨(some 23), none, 0, (.load 1 false (.t 22))⟩, ⟨(some 24), none, 0, (.len (.t 23))⟩, ⟨(some 25), none, 0, (.bin .add (.t 16) (.t 24))⟩, ⟨(some 3), none, 0, (.mov (.t 25))⟩]
def R32_5 : List AR := [⟨(some 14), none, 0, (.mov (.t 4))⟩, ⟨(some 15), none, 0, (.bin .add (.t 14) (.k (.int .i64 1)))⟩, ⟨(some 4), none, 0, (.mov (.t 15))⟩]
def A32_0 : AC := (.seq (.block 1 (.reg 0 R32_4)) (.reg 0 R32_5))
def L32_0 : AC := (.seq (.seq (.reg 0 R32_3) (.cond (.t 13) .skip (.exit 0))) A32_0)
def R32_6 : List AR := [⟨(some 26), none, 0, (.mov (.t 3))⟩, ⟨(some 2), none, 0, (.mov (.t 26))⟩]
def A32_1 : AC := (.seq (.reg 0 R32_6) .ret)
def A32_2 : AC := (.seq (.seq (.reg 0 R32_2) (.block 0 (.loop L32_0))) A32_1)
def A32_3 : AC := (.seq (.reg 0 R32_1) A32_2)
def A32 : AC := (.seq (.reg 1 R32_0) A32_3)
def O32 : List AO := [(.mov (.t 2))]
def G32 : Fns := ⟨fun f => false, fun f => 0, false⟩
noncomputable def X32 : Cx := ⟨Tryz.prog, G32, drawD, 27, [0, 1, 2, 3, 4, 13]⟩
theorem c32 : (Tryz.f32.body).bind (compC X32.P X32.Γ X32.D X32.nt) = some A32 := by kernel_rfl
theorem o32 : compRes X32.P Tryz.f32.results.toList = some O32 := by kernel_rfl
theorem v32 : X32.vs = [0, 1, 2, 3, 4, 13] := rfl
theorem p32 : X32.P = Tryz.prog := rfl
def R33_0 : List AR := [⟨(some 1), none, 0, (.box 0 3 (.t 0))⟩, ⟨(some 2), none, 0, (.mov (.k (.int .i64 0)))⟩]
def R33_1 : List AR := [⟨(some 3), none, 0, (.mov (.k (.int .i64 0)))⟩]
def R33_2 : List AR := [⟨(some 6), none, 0, (.load 3 true (.t 1))⟩, ⟨(some 7), none, 0, (.call false 0 0 55 [(.t 6)])⟩, ⟨(some 8), none, 0, (.not (.t 7))⟩]
def R33_3 : List AR := [⟨(some 9), none, 0, (.mov (.t 3))⟩, ⟨(some 2), none, 0, (.mov (.t 9))⟩]
def R33_4 : List AR := [⟨(some 10), none, 0, (.faddr 0 (.t 1))⟩, ⟨(some 11), none, 0, (.load 1 false (.t 10))⟩, ⟨(some 12), none, 0, (.len (.t 11))⟩, ⟨(some 13), none, 0, (.mov (.k (.int .i64 0)))⟩]
def R33_5 : List AR := [⟨(some 14), none, 0, (.bin .lss (.t 13) (.t 12))⟩]
def R33_6 : List AR := [⟨(some 15), none, 0, (.iaddr 19 (.t 11) (.t 13))⟩, ⟨(some 16), none, 0, (.load 19 true (.t 15))⟩, ⟨(some 5), none, 0, (.alloc 0 19 [(.int .i64 0), (.int .i64 0), .nl, .nl, .nl, (.int .i64 0), (.int .i64 0), (.int .i64 0), .nl, .nl, .nl, .nl, (.int .i64 0), (.int .i64 0), .nl, (.int .i64 0), (.int .i64 0), (.int .i64 0), .nl])⟩, ⟨none, none, 0, (.store 19 (.t 5) (.t 16))⟩]
def R33_7 : List AR := [⟨(some 17), none, 0, (.mov (.t 3))⟩, ⟨(some 18), none, 0, (.faddr 6 (.t 5))⟩, ⟨(some 19), none, 0, (.faddr 2 (.t 18))⟩, ⟨(some 20), none, 0, (.load 1 false (.t 19))⟩, ⟨(some 21), none, 0, (.len (.t 20))⟩, ⟨(some 22), none, 0, (.bin .add (.t 17) (.t 21))⟩, ⟨(some 3), none, 0, (.mov (.t 22))⟩]
def R33_8 : List AR := [⟨(some 23), none, 0, (.bin .add (.t 13) (.k (.int .i64 1)))⟩, ⟨(some 13), none, 0, (.mov (.t 23))⟩]
def A33_0 : AC := (.seq (.block 1 (.seq (.reg 1 R33_6) (.reg 0 R33_7))) (.reg 0 R33_8))
def A33_1 : AC := (.seq (.cond (.t 14) .skip (.exit 0)) A33_0)
def L33_0 : AC := (.seq (.reg 0 R33_5) A33_1)
def R33_9 : List AR := [⟨(some 24), none, 0, (.mov (.t 3))⟩, ⟨(some 2), none, 0, (.mov (.t 24))⟩]
def A33_2 : AC := (.seq (.reg 0 R33_9) .ret)
def A33_3 : AC := (.seq (.seq (.reg 0 R33_4) (.block 0 (.loop L33_0))) A33_2)
def A33_4 : AC := (.seq (.seq (.reg 0 R33_2) (.cond (.t 8) (.seq (.reg 0 R33_3) .ret) .skip)) A33_3)
def A33_5 : AC := (.seq (.reg 0 R33_1) A33_4)
def A33 : AC := (.seq (.reg 1 R33_0) A33_5)
def O33 : List AO := [(.mov (.t 2))]
def G33 : Fns := ⟨fun f => false, fun f => 0, false⟩
noncomputable def X33 : Cx := ⟨Tryz.prog, G33, drawD, 25, [0, 1, 2, 3, 5, 8, 11, 12, 13, 14]⟩
theorem c33 : (Tryz.f33.body).bind (compC X33.P X33.Γ X33.D X33.nt) = some A33 := by kernel_rfl
theorem o33 : compRes X33.P Tryz.f33.results.toList = some O33 := by kernel_rfl
theorem v33 : X33.vs = [0, 1, 2, 3, 5, 8, 11, 12, 13, 14] := rfl
theorem p33 : X33.P = Tryz.prog := rfl
def addL (k : Nat) (n : Node) : Nat := k + n.log.list.length
noncomputable def kept (w : World) : Nat := if w.Right then w.nodes.foldl addL 0 else 0
theorem addL_len : ∀ {ps : List Node} {k : Nat}, (∀ p ∈ ps, p.log.list.length ≤ 1048576) → ps.foldl addL k ≤ k + ps.length * 1048576
  | [], k, _ => by simp
  | p :: ps, k, h => by
    have h1 := h p (by simp)
    have h2 := addL_len (ps := ps) (k := addL k p) fun x hx => h x (by simp [hx])
    simp only [List.foldl_cons, List.length_cons]
    unfold addL at h2 ⊢
    omega
theorem logs_all {w : World} (hs : w.Small) : ∀ p ∈ w.nodes, p.log.list.length ≤ 1048576 := by
  intro p hp
  obtain ⟨i, hi⟩ := List.mem_iff_getElem?.1 hp
  obtain ⟨h1, rfl⟩ := List.getElem?_eq_some_iff.1 hi
  have h2 := (Node.small (hs.nodes i h1)).lg
  have h3 : w.nodes[i].log.list.length + sumBy State.sz w.nodes[i].log.list ≤ 1048576 := h2
  omega
set_option maxHeartbeats 1000000 in
theorem specKept_ok (w : World) (h : w.sz ≤ 1048576) : FS Tryz.prog 32 [] [.agg w.c] (.int .i64 (kept w : Nat)) [] := by
  refine FS.of (X := X32) (ac := A32) (os := O32) Tryz.func32 (by rfl) (by rfl) (by kernel_rfl) o32 (Nat.le_of_ble_eq_true rfl) ?_
  show AWP X32 A32 (Ends X32.vs O32 0 _ _) [.agg w.c, .tup [], .tup [], .tup [], .tup [], .tup []] []
  obtain ⟨Q, hQ⟩ : ∃ Q, Q = Ends X32.vs O32 0 (.int .i64 (kept w : Nat)) [] := ⟨_, rfl⟩
  rw [← hQ]
  have hs := World.small h
  have hp := hs.ln
  have fin : ∀ L σ vV, resVs O32 (look X32.vs L) σ = some [vV] → vV = (.int .i64 (kept w : Nat)) → Q .ret L σ := by
    intro L σ vV h1 h2
    rw [hQ]
    exact Ends.is (.inl rfl) h1 (by simp only [packV, h2]) rfl
  refine awp_sr ?_
  simp only [go_sem, R32_0, v32, p32, World.c]
  refine (fun G : AWP X32 _ _ _ [.live ⟨3, [w.c]⟩] => G) ?_
  refine awp_sr ?_
  simp only [go_sem, R32_1, v32, p32]
  refine awp_sr2 ?_
  simp only [go_sem, R32_2, v32, p32]
  obtain ⟨I, hI⟩ : ∃ I : Nat → List V → Store → Prop, I = fun mM L σ => ∃ i rest y0 y2 y13, mM = w.nodes.length - i ∧ i ≤ w.nodes.length ∧ (0 < i → w.Right) ∧ L = [y0, .ptr 0 3 0 0, y2, .int .i64 (((w.nodes.take i).foldl addL 0 : Nat) : Int), .int .i64 (i : Nat), y13] ∧ σ = .live ⟨3, [w.c]⟩ :: rest := ⟨_, rfl⟩
  first | refine awp_for I w.nodes.length ?_ ?_ | refine awp_seq (awp_for I w.nodes.length ?_ ?_)
  · rw [hI]; refine ⟨0, _, _, _, _, rfl, Nat.zero_le _, ?_, rfl, rfl⟩
    intro e; omega
  intro mM L σ hIn
  rw [hI] at hIn
  obtain ⟨i, rest, y0, y2, y13, rfl, hi, hP, rfl, rfl⟩ := hIn
  obtain ⟨K1, hK1⟩ : ∃ K : List V → Store → Prop, K = fun L σ => ∃ q y0 y2, L = [y0, .ptr 0 3 0 0, y2, .int .i64 (((w.nodes.take i).foldl addL 0 : Nat) : Int), .int .i64 (i : Nat), .bool q] ∧ σ = .live ⟨3, [w.c]⟩ :: rest ∧ q = decide (i < w.nodes.length ∧ w.Right) := ⟨_, rfl⟩
  refine awp_sr2K (K1) ?_ ?_
  · simp only [go_sem, R32_3, v32, p32, World.c]
    repeat' first
      | (refine selP_if rfl (fun hG => ?_) (fun hG => ?_) <;> first | simp only [go_sem, v32, p32, eq_false hG, World.c] | simp only [go_sem, v32, p32, eq_true hG, World.c])
      | (refine selP_ifn rfl (fun hG => ?_) (fun hG => ?_) <;> first | simp only [go_sem, v32, p32, eq_false hG, World.c] | simp only [go_sem, v32, p32, eq_true hG, World.c])
      | (refine selN_if rfl (fun hG => ?_) (fun hG => ?_) <;> first | simp only [go_sem, v32, p32, eq_false hG, World.c] | simp only [go_sem, v32, p32, eq_true hG, World.c])
      | (refine selN_ifn rfl (fun hG => ?_) (fun hG => ?_) <;> first | simp only [go_sem, v32, p32, eq_false hG, World.c] | simp only [go_sem, v32, p32, eq_true hG, World.c])
      | (refine selB_if rfl (fun hG => ?_) (fun hG => ?_) <;> simp only [go_sem, v32, p32, hG, World.c])
      | (refine selB_ifn rfl (fun hG => ?_) (fun hG => ?_) <;> simp only [go_sem, v32, p32, hG, World.c])
      | (refine run_see (specWorldOk_ok w h) false (Views.refl rfl) rfl (fun j hj => by omega) (fun h => by cases h) ?_; simp only [go_sem, v32, p32, World.c])
    all_goals rw [hK1]
    all_goals refine ⟨_, _, _, rfl, rfl, ?_⟩
    all_goals grind
  intro L σ hq
  rw [hK1] at hq
  obtain ⟨q, y0, y2, rfl, rfl, hq⟩ := hq
  subst hq
  refine awp_if rfl ?_ ?_
  · intro h2
    obtain ⟨h2, hR⟩ := h2
    have e1 := fold_take addL 0 h2
    have e2 := addL_len (ps := w.nodes.take i) (k := 0) fun s hs' => logs_all hs s (List.mem_of_mem_take hs')
    have e3 : (w.nodes.take i).length ≤ 1048576 := by simp; omega
    have e4 := logs_all hs _ (List.getElem_mem h2)
    refine awp_skip ?_
    simp only [go_sem]
    first | refine awp_block ?_ | refine awp_seq (awp_block ?_)
    refine awp_reg ?_
    simp only [go_sem, R32_4, v32, p32, World.c, rw_at _ h2, Node.c, wrap_i64 (n := (((w.nodes.take i).foldl addL 0 : Nat) : Int) + (w.nodes[i].log.list.length : Int)) (by omega) (by omega)]
    rw [show ((((w.nodes.take i).foldl addL 0 : Nat) : Int) + (w.nodes[i].log.list.length : Int)) = (((w.nodes.take (i + 1)).foldl addL 0 : Nat) : Int) by rw [e1]; unfold addL; omega]
    refine awp_reg ?_
    simp only [go_sem, R32_5, v32, p32, wrap_succ (i := i) (by omega)]
    refine ⟨w.nodes.length - (i + 1), by omega, ?_⟩
    rw [hI]
    refine ⟨i + 1, _, _, _, _, rfl, by omega, ?_, rfl, rfl⟩
    exact fun _ => hR
  · intro h2
    refine awp_exit ?_
    simp only [go_sem]
    refine awp_sr ?_
    simp only [go_sem, R32_6, v32, p32]
    refine awp_ret ?_
    try simp only [go_sem]
    refine fin _ _ _ rfl (congrArg (V.int .i64) ?_)
    unfold kept
    by_cases hR : w.Right
    · have : i = w.nodes.length := by
        rcases Nat.lt_or_ge i w.nodes.length with h3 | h3
        · exact absurd ⟨h3, hR⟩ h2
        · omega
      rw [if_pos hR, this, List.take_length]
    · have : i = 0 := by
        rcases Nat.eq_zero_or_pos i with h3 | h3
        · exact h3
        · exact absurd (hP h3) hR
      rw [if_neg hR, this]
      rfl
set_option maxHeartbeats 1000000 in
theorem implKept_ok (w : World) (h : w.sz ≤ 1048576) : FS Tryz.prog 33 [] [.agg w.c] (.int .i64 (kept w : Nat)) [] := by
  refine FS.of (X := X33) (ac := A33) (os := O33) Tryz.func33 (by rfl) (by rfl) (by kernel_rfl) o33 (Nat.le_of_ble_eq_true rfl) ?_
  show AWP X33 A33 (Ends X33.vs O33 0 _ _) [.agg w.c, .tup [], .tup [], .tup [], .tup [], .tup [], .tup [], .tup [], .tup [], .tup []] []
  obtain ⟨Q, hQ⟩ : ∃ Q, Q = Ends X33.vs O33 0 (.int .i64 (kept w : Nat)) [] := ⟨_, rfl⟩
  rw [← hQ]
  have hs := World.small h
  have hp := hs.ln
  have fin : ∀ L σ vV, resVs O33 (look X33.vs L) σ = some [vV] → vV = (.int .i64 (kept w : Nat)) → Q .ret L σ := by
    intro L σ vV h1 h2
    rw [hQ]
    exact Ends.is (.inl rfl) h1 (by simp only [packV, h2]) rfl
  refine awp_sr ?_
  simp only [go_sem, R33_0, v33, p33, World.c]
  refine (fun G : AWP X33 _ _ _ [.live ⟨3, [w.c]⟩] => G) ?_
  refine awp_sr ?_
  simp only [go_sem, R33_1, v33, p33]
  refine awp_sr2 ?_
  simp only [go_sem, R33_2, v33, p33, World.c]
  refine run_see (implWorldOk_ok w h) false (Views.refl rfl) rfl (fun j hj => by first | omega | ((have hj0 : j = 0 := by omega); subst hj0; first | rfl | (simp only [Nat.add_zero, app_get, app_getk, sapp_get, sapp_getk, Nat.add_assoc, Nat.reduceAdd, List.getElem?_cons_zero, List.getElem?_cons_succ]; done) | simp)) (fun h => by cases h) ?_
  simp only [go_sem, v33, p33]
  refine awp_if' rfl ?_ ?_
  · intro h1
    refine awp_sr ?_
    simp only [go_sem, R33_3, v33, p33]
    refine awp_ret ?_
    try simp only [go_sem]
    exact fin _ _ (.int .i64 0) rfl (congrArg (V.int .i64) (by unfold kept; rw [if_neg h1]; rfl))
  intro h1
  refine awp_skip ?_
  simp only [go_sem]
  refine awp_sr2 ?_
  simp only [go_sem, R33_4, v33, p33, World.c]
  obtain ⟨I, hI⟩ : ∃ I : Nat → List V → Store → Prop, I = fun mM L σ => ∃ i rest y0 y2 y5 y8 y14, mM = w.nodes.length - i ∧ i ≤ w.nodes.length ∧ (True) ∧ L = [y0, .ptr 0 3 0 0, y2, .int .i64 (((w.nodes.take i).foldl addL 0 : Nat) : Int), y5, y8, .fz 19 (rw_ Node.c w.nodes), .int .i64 (w.nodes.length : Nat), .int .i64 (i : Nat), y14] ∧ σ = .live ⟨3, [w.c]⟩ :: rest := ⟨_, rfl⟩
  first | refine awp_for I w.nodes.length ?_ ?_ | refine awp_seq (awp_for I w.nodes.length ?_ ?_)
  · rw [hI]; refine ⟨0, _, _, _, _, _, _, rfl, Nat.zero_le _, ?_, rfl, rfl⟩
    trivial
  intro mM L σ hIn
  rw [hI] at hIn
  obtain ⟨i, rest, y0, y2, y5, y8, y14, rfl, hi, hP, rfl, rfl⟩ := hIn
  refine awp_sr ?_
  simp only [go_sem, R33_5, v33, p33]
  refine awp_seq ?_
  refine awp_if rfl ?_ ?_
  · intro h2
    have h2 : i < w.nodes.length := by omega
    have e1 := fold_take addL 0 h2
    have e2 := addL_len (ps := w.nodes.take i) (k := 0) fun s hs' => logs_all hs s (List.mem_of_mem_take hs')
    have e3 : (w.nodes.take i).length ≤ 1048576 := by simp; omega
    have e4 := logs_all hs _ (List.getElem_mem h2)
    refine awp_skip ?_
    simp only [go_sem]
    first | refine awp_block ?_ | refine awp_seq (awp_block ?_)
    refine awp_sr ?_
    simp only [go_sem, R33_6, v33, p33, rw_at _ h2, Node.c]
    refine awp_reg ?_
    simp only [go_sem, R33_7, v33, p33, wrap_i64 (n := (((w.nodes.take i).foldl addL 0 : Nat) : Int) + (w.nodes[i].log.list.length : Int)) (by omega) (by omega)]
    rw [show ((((w.nodes.take i).foldl addL 0 : Nat) : Int) + (w.nodes[i].log.list.length : Int)) = (((w.nodes.take (i + 1)).foldl addL 0 : Nat) : Int) by rw [e1]; unfold addL; omega]
    refine awp_reg ?_
    simp only [go_sem, R33_8, v33, p33, wrap_succ (i := i) (by omega)]
    refine ⟨w.nodes.length - (i + 1), by omega, ?_⟩
    rw [hI]
    refine ⟨i + 1, _, _, _, _, _, _, rfl, by omega, ?_, rfl, rfl⟩
    trivial
  · intro h2
    refine awp_exit ?_
    simp only [go_sem]
    have : i = w.nodes.length := by omega
    subst this
    refine awp_sr ?_
    simp only [go_sem, R33_9, v33, p33]
    refine awp_ret ?_
    try simp only [go_sem]
    exact fin _ _ _ rfl (congrArg (V.int .i64) (by unfold kept; rw [if_pos h1]))
def R6_0 : List AR := [⟨(some 1), none, 0, (.box 0 3 (.t 0))⟩, ⟨(some 2), none, 0, (.mov (.k (.bool false)))⟩]
def R6_1 : List AR := [⟨(some 3), none, 0, (.mov (.k (.int .i64 1048576)))⟩]
def R6_2 : List AR := [⟨(some 7), none, 0, (.load 3 true (.t 1))⟩, ⟨(some 8), none, 0, (.mov (.t 3))⟩, ⟨(some 9), none, 0, (.call false 0 0 25 [(.t 7), (.t 8)])⟩, ⟨(some 3), none, 0, (.mov (.t 9))⟩]
def R6_3 : List AR := [⟨(some 10), none, 0, (.mov (.t 3))⟩, ⟨(some 11), none, 0, (.bin .lss (.t 10) (.k (.int .i64 0)))⟩]
def R6_4 : List AR := [⟨(some 2), none, 0, (.mov (.k (.bool true)))⟩]
def R6_5 : List AR := [⟨(some 12), none, 0, (.load 3 true (.t 1))⟩, ⟨(some 13), none, 0, (.call false 0 0 27 [(.t 12)])⟩, ⟨(some 14), none, 0, (.call false 0 0 32 [(.t 13)])⟩, ⟨(some 4), none, 0, (.mov (.t 14))⟩]
def R6_6 : List AR := [⟨(some 15), none, 0, (.load 3 true (.t 1))⟩, ⟨(some 16), none, 0, (.call false 0 0 27 [(.t 15)])⟩, ⟨(some 5), none, 0, (.alloc 0 3 [.nl, .nl, .nl])⟩, ⟨none, none, 0, (.store 3 (.t 5) (.t 16))⟩]
def R6_7 : List AR := [⟨(some 17), none, 0, (.load 3 true (.t 5))⟩, ⟨(some 18), none, 0, (.call false 0 0 33 [(.t 17)])⟩, ⟨(some 6), none, 0, (.mov (.t 18))⟩]
def R6_8 : List AR := [⟨(some 19), none, 0, (.mov (.t 6))⟩, ⟨(some 20), none, 0, (.mov (.t 4))⟩, ⟨(some 21), none, 0, (.bin .neq (.t 19) (.t 20))⟩]
def R6_9 : List AR := [⟨(some 2), none, 0, (.mov (.k (.bool false)))⟩]
def R6_10 : List AR := [⟨(some 22), none, 0, (.load 3 true (.t 5))⟩, ⟨(some 23), none, 0, (.load 3 true (.t 1))⟩, ⟨(some 24), none, 0, (.call false 0 0 27 [(.t 23)])⟩, ⟨(some 25), none, 0, (.call false 0 0 29 [(.t 22), (.t 24)])⟩, ⟨(some 26), none, 0, (.not (.t 25))⟩]
def R6_11 : List AR := [⟨(some 2), none, 0, (.mov (.k (.bool false)))⟩]
def R6_12 : List AR := [⟨(some 2), none, 0, (.mov (.k (.bool true)))⟩]
def A6_0 : AC := (.seq (.reg 0 R6_12) .ret)
def A6_1 : AC := (.seq (.seq (.draw 0 R6_10) (.cond (.t 26) (.seq (.reg 0 R6_11) .ret) .skip)) A6_0)
def A6_2 : AC := (.seq (.seq (.reg 0 R6_8) (.cond (.t 21) (.seq (.reg 0 R6_9) .ret) .skip)) A6_1)
def A6_3 : AC := (.seq (.reg 0 R6_7) A6_2)
def A6_4 : AC := (.seq (.reg 1 R6_6) A6_3)
def A6_5 : AC := (.seq (.reg 0 R6_5) A6_4)
def A6_6 : AC := (.seq (.seq (.reg 0 R6_3) (.cond (.t 11) (.seq (.reg 0 R6_4) .ret) .skip)) A6_5)
def A6_7 : AC := (.seq (.reg 0 R6_2) A6_6)
def A6_8 : AC := (.seq (.reg 0 R6_1) A6_7)
def A6 : AC := (.seq (.reg 1 R6_0) A6_8)
def O6 : List AO := [(.mov (.t 2))]
def G6 : Fns := ⟨fun f => false, fun f => 0, false⟩
noncomputable def X6 : Cx := ⟨Tryz.prog, G6, drawD, 27, [0, 1, 2, 3, 4, 5, 6, 11, 21, 26]⟩
theorem c6 : (Tryz.f6.body).bind (compC X6.P X6.Γ X6.D X6.nt) = some A6 := by kernel_rfl
theorem o6 : compRes X6.P Tryz.f6.results.toList = some O6 := by kernel_rfl
theorem v6 : X6.vs = [0, 1, 2, 3, 4, 5, 6, 11, 21, 26] := rfl
theorem p6 : X6.P = Tryz.prog := rfl
theorem exactKept_ok (a : World) (ha : a.ok) : FS Tryz.prog 6 [] [.agg a.c] (.bool true) [] := by
  refine FS.of (X := X6) (ac := A6) (os := O6) Tryz.func6 (by rfl) (by rfl) (by kernel_rfl) o6 (Nat.le_of_ble_eq_true rfl) ?_
  show AWP X6 A6 (Ends X6.vs O6 0 _ _) [.agg a.c, .tup [], .tup [], .tup [], .tup [], .tup [], .tup [], .tup [], .tup [], .tup []] []
  obtain ⟨Q, hQ⟩ : ∃ Q, Q = Ends X6.vs O6 0 (.bool true) [] := ⟨_, rfl⟩
  rw [← hQ]
  have fin : ∀ L σ vV, resVs O6 (look X6.vs L) σ = some [vV] → vV = (.bool true) → Q .ret L σ := by
    intro L σ vV h1 h2
    rw [hQ]
    exact Ends.is (.inl rfl) h1 (by simp only [packV, h2]) rfl
  refine awp_sr ?_
  simp only [go_sem, R6_0, v6, p6, World.c]
  refine awp_sr ?_
  simp only [go_sem, R6_1, v6, p6]
  refine awp_sr ?_
  simp only [go_sem, R6_2, v6, p6, World.c]
  refine run_see (szWorld_ok a 1048576 (Nat.le_refl _) ha) false (Views.refl rfl) rfl (fun j hj => by first | omega | ((have hj0 : j = 0 := by omega); subst hj0; first | rfl | (simp only [Nat.add_zero, app_get, app_getk, sapp_get, sapp_getk, Nat.add_assoc, Nat.reduceAdd, List.getElem?_cons_zero, List.getElem?_cons_succ]; done) | simp)) (fun h => by cases h) ?_
  simp only [go_sem, v6, p6]
  refine awp_sr2 ?_
  simp only [go_sem, R6_3, v6, p6]
  refine awp_if rfl ?_ ?_
  · intro h1
    refine awp_sr ?_
    simp only [go_sem, R6_4, v6, p6]
    refine awp_ret ?_
    try simp only [go_sem]
    exact fin _ _ _ rfl rfl
  intro h1
  obtain ⟨-, h⟩ := left_pos h1
  refine awp_skip ?_
  simp only [go_sem]
  refine awp_sr ?_
  simp only [go_sem, R6_5, v6, p6, World.c]
  refine run_see (toWorld_ok a h) false (Views.refl rfl) rfl (fun j hj => by first | omega | ((have hj0 : j = 0 := by omega); subst hj0; first | rfl | (simp only [Nat.add_zero, app_get, app_getk, sapp_get, sapp_getk, Nat.add_assoc, Nat.reduceAdd, List.getElem?_cons_zero, List.getElem?_cons_succ]; done) | simp)) (fun h => by cases h) ?_
  simp only [go_sem, v6, p6]
  refine run_see (specKept_ok a  h) false (Views.refl rfl) rfl (fun j hj => by first | omega | ((have hj0 : j = 0 := by omega); subst hj0; first | rfl | (simp only [Nat.add_zero, app_get, app_getk, sapp_get, sapp_getk, Nat.add_assoc, Nat.reduceAdd, List.getElem?_cons_zero, List.getElem?_cons_succ]; done) | simp)) (fun h => by cases h) ?_
  simp only [go_sem, v6, p6]
  refine awp_sr ?_
  simp only [go_sem, R6_6, v6, p6, World.c]
  refine run_see (toWorld_ok a h) false (Views.refl rfl) rfl (fun j hj => by first | omega | ((have hj0 : j = 0 := by omega); subst hj0; first | rfl | (simp only [Nat.add_zero, app_get, app_getk, sapp_get, sapp_getk, Nat.add_assoc, Nat.reduceAdd, List.getElem?_cons_zero, List.getElem?_cons_succ]; done) | simp)) (fun h => by cases h) ?_
  simp only [go_sem, v6, p6, World.c]
  refine awp_sr ?_
  simp only [go_sem, R6_7, v6, p6, World.c]
  refine run_see (implKept_ok a  h) false (Views.refl rfl) rfl (fun j hj => by first | omega | ((have hj0 : j = 0 := by omega); subst hj0; first | rfl | (simp only [Nat.add_zero, app_get, app_getk, sapp_get, sapp_getk, Nat.add_assoc, Nat.reduceAdd, List.getElem?_cons_zero, List.getElem?_cons_succ]; done) | simp)) (fun h => by cases h) ?_
  simp only [go_sem, v6, p6]
  refine awp_sr2 ?_
  simp only [go_sem, R6_8, v6, p6]
  refine awp_if rfl ?_ ?_
  · intro h3; exact absurd rfl h3
  intro h3
  refine awp_skip ?_
  simp only [go_sem]
  refine awp_sd2 mixed rfl (by rfl) ?_
  simp only [go_sem, R6_10, v6, p6, World.c]
  refine run_see (toWorld_ok a h) false (Views.refl rfl) rfl (fun j hj => by first | omega | ((have hj0 : j = 0 := by omega); subst hj0; first | rfl | (simp only [Nat.add_zero, app_get, app_getk, sapp_get, sapp_getk, Nat.add_assoc, Nat.reduceAdd, List.getElem?_cons_zero, List.getElem?_cons_succ]; done) | simp)) (fun h => by cases h) ?_
  simp only [go_sem, v6, p6, World.c]
  refine run_see (eqWorld_ok a a h) false (Views.refl rfl) rfl (fun j hj => by first | omega | ((have hj0 : j = 0 := by omega); subst hj0; first | rfl | (simp only [Nat.add_zero, app_get, app_getk, sapp_get, sapp_getk, Nat.add_assoc, Nat.reduceAdd, List.getElem?_cons_zero, List.getElem?_cons_succ]; done) | simp)) (fun h => by cases h) ?_
  simp only [go_sem, v6, p6]
  refine awp_no rfl ?_
  refine awp_skip ?_
  simp only [go_sem]
  refine awp_sr ?_
  simp only [go_sem, R6_12, v6, p6]
  refine awp_ret ?_
  try simp only [go_sem]
  exact fin _ _ _ rfl rfl
end Go.Proofs.YtffigokicddekaaGreat.Abs
/- Whose turn it is, in both texts; the law. No condition. -/
set_option linter.unusedVariables false
set_option linter.unusedSimpArgs false
set_option maxRecDepth 10000
namespace Go.Proofs.YtffigokicddekaaGreat.Abs
open Go Go.Proofs
def R30_0 : List AR := [⟨(some 2), none, 0, (.box 0 3 (.t 0))⟩, ⟨(some 4), none, 0, (.mov (.k (.int .i64 0)))⟩, ⟨(some 5), none, 0, (.mov (.k (.int .i64 0)))⟩]
def R30_1 : List AR := [⟨(some 8), none, 0, (.faddr 0 (.t 2))⟩, ⟨(some 9), none, 0, (.load 1 false (.t 8))⟩, ⟨(some 10), none, 0, (.len (.t 9))⟩, ⟨(some 6), none, 0, (.mov (.t 10))⟩]
def R30_2 : List AR := [⟨(some 11), none, 0, (.load 3 true (.t 2))⟩, ⟨(some 12), none, 0, (.call false 0 0 56 [(.t 11)])⟩, ⟨(some 13), none, 0, (.not (.t 12))⟩, ⟨(some 14), none, 0, (.mov (.t 13))⟩, ⟨(some 15), (some (14, false)), 0, (.mov (.t 6))⟩, ⟨(some 16), (some (14, false)), 0, (.bin .lss (.t 15) (.k (.int .i64 2)))⟩, ⟨(some 17), none, 0, (.pick (.t 14) (.k (.bool true)) (.t 16))⟩, ⟨(some 18), none, 0, (.mov (.t 17))⟩, ⟨(some 19), (some (18, false)), 0, (.mov (.t 1))⟩, ⟨(some 20), (some (18, false)), 0, (.bin .lss (.t 19) (.k (.int .i64 0)))⟩, ⟨(some 21), none, 0, (.pick (.t 18) (.k (.bool true)) (.t 20))⟩]
def R30_3 : List AR := [⟨(some 4), none, 0, (.mov (.k (.int .i64 (-1))))⟩, ⟨(some 5), none, 0, (.mov (.k (.int .i64 (-1))))⟩]
def R30_4 : List AR := [⟨(some 22), none, 0, (.mov (.t 1))⟩, ⟨(some 23), none, 0, (.mov (.t 6))⟩, ⟨(some 24), none, 0, (.bin .rem (.t 22) (.t 23))⟩, ⟨(some 7), none, 0, (.mov (.t 24))⟩]
def R30_5 : List AR := [⟨(some 25), none, 0, (.mov (.t 7))⟩, ⟨(some 26), none, 0, (.mov (.t 7))⟩, ⟨(some 27), none, 0, (.bin .add (.t 26) (.k (.int .i64 1)))⟩, ⟨(some 28), none, 0, (.mov (.t 1))⟩, ⟨(some 29), none, 0, (.mov (.t 6))⟩, ⟨(some 30), none, 0, (.bin .quo (.t 28) (.t 29))⟩, ⟨(some 31), none, 0, (.mov (.t 6))⟩, ⟨(some 32), none, 0, (.bin .sub (.t 31) (.k (.int .i64 1)))⟩, ⟨(some 33), none, 0, (.bin .rem (.t 30) (.t 32))⟩, ⟨(some 34), none, 0, (.bin .add (.t 27) (.t 33))⟩, ⟨(some 35), none, 0, (.mov (.t 6))⟩, ⟨(some 36), none, 0, (.bin .rem (.t 34) (.t 35))⟩, ⟨(some 4), none, 0, (.mov (.t 25))⟩, ⟨(some 5), none, 0, (.mov (.t 36))⟩]
def A30_0 : AC := (.seq (.draw 0 R30_5) .ret)
def A30_1 : AC := (.seq (.reg 0 R30_4) A30_0)
def A30_2 : AC := (.seq (.seq (.reg 0 R30_2) (.cond (.t 21) (.seq (.reg 0 R30_3) .ret) .skip)) A30_1)
def A30_3 : AC := (.seq (.reg 0 R30_1) A30_2)
def A30 : AC := (.seq (.reg 1 R30_0) A30_3)
def O30 : List AO := [(.mov (.t 4)), (.mov (.t 5))]
def G30 : Fns := ⟨fun f => false, fun f => 0, false⟩
noncomputable def X30 : Cx := ⟨Tryz.prog, G30, drawD, 37, [0, 1, 2, 4, 5, 6, 7, 21]⟩
theorem c30 : (Tryz.f30.body).bind (compC X30.P X30.Γ X30.D X30.nt) = some A30 := by kernel_rfl
theorem o30 : compRes X30.P Tryz.f30.results.toList = some O30 := by kernel_rfl
theorem v30 : X30.vs = [0, 1, 2, 4, 5, 6, 7, 21] := rfl
theorem p30 : X30.P = Tryz.prog := rfl
def R31_0 : List AR := [⟨(some 2), none, 0, (.box 0 3 (.t 0))⟩, ⟨(some 4), none, 0, (.mov (.k (.int .i64 0)))⟩, ⟨(some 5), none, 0, (.mov (.k (.int .i64 0)))⟩]
def R31_1 : List AR := [⟨(some 8), none, 0, (.faddr 0 (.t 2))⟩, ⟨(some 9), none, 0, (.load 1 false (.t 8))⟩, ⟨(some 10), none, 0, (.len (.t 9))⟩, ⟨(some 6), none, 0, (.mov (.t 10))⟩]
def R31_2 : List AR := [⟨(some 11), none, 0, (.load 3 true (.t 2))⟩, ⟨(some 12), none, 0, (.call false 0 0 55 [(.t 11)])⟩, ⟨(some 13), none, 0, (.not (.t 12))⟩, ⟨(some 14), none, 0, (.mov (.t 13))⟩, ⟨(some 15), (some (14, false)), 0, (.mov (.t 6))⟩, ⟨(some 16), (some (14, false)), 0, (.bin .eql (.t 15) (.k (.int .i64 1)))⟩, ⟨(some 17), none, 0, (.pick (.t 14) (.k (.bool true)) (.t 16))⟩, ⟨(some 18), none, 0, (.mov (.t 17))⟩, ⟨(some 19), (some (18, false)), 0, (.mov (.t 1))⟩, ⟨(some 20), (some (18, false)), 0, (.bin .lss (.t 19) (.k (.int .i64 0)))⟩, ⟨(some 21), none, 0, (.pick (.t 18) (.k (.bool true)) (.t 20))⟩]
def R31_3 : List AR := [⟨(some 4), none, 0, (.mov (.k (.int .i64 (-1))))⟩, ⟨(some 5), none, 0, (.mov (.k (.int .i64 (-1))))⟩]
def R31_4 : List AR := [⟨(some 22), none, 0, (.mov (.t 1))⟩, ⟨(some 23), none, 0, (.mov (.t 6))⟩, ⟨(some 24), none, 0, (.bin .rem (.t 22) (.t 23))⟩, ⟨(some 7), none, 0, (.mov (.t 24))⟩]
def R31_5 : List AR := [⟨(some 25), none, 0, (.mov (.t 7))⟩, ⟨(some 26), none, 0, (.mov (.t 7))⟩, ⟨(some 27), none, 0, (.bin .add (.t 26) (.k (.int .i64 1)))⟩, ⟨(some 28), none, 0, (.mov (.t 1))⟩, ⟨(some 29), none, 0, (.mov (.t 6))⟩, ⟨(some 30), none, 0, (.bin .quo (.t 28) (.t 29))⟩, ⟨(some 31), none, 0, (.mov (.t 6))⟩, ⟨(some 32), none, 0, (.bin .sub (.t 31) (.k (.int .i64 1)))⟩, ⟨(some 33), none, 0, (.bin .rem (.t 30) (.t 32))⟩, ⟨(some 34), none, 0, (.bin .add (.t 27) (.t 33))⟩, ⟨(some 35), none, 0, (.mov (.t 6))⟩, ⟨(some 36), none, 0, (.bin .rem (.t 34) (.t 35))⟩, ⟨(some 4), none, 0, (.mov (.t 25))⟩, ⟨(some 5), none, 0, (.mov (.t 36))⟩]
def A31_0 : AC := (.seq (.draw 0 R31_5) .ret)
def A31_1 : AC := (.seq (.reg 0 R31_4) A31_0)
def A31_2 : AC := (.seq (.seq (.reg 0 R31_2) (.cond (.t 21) (.seq (.reg 0 R31_3) .ret) .skip)) A31_1)
def A31_3 : AC := (.seq (.reg 0 R31_1) A31_2)
def A31 : AC := (.seq (.reg 1 R31_0) A31_3)
def O31 : List AO := [(.mov (.t 4)), (.mov (.t 5))]
def G31 : Fns := ⟨fun f => false, fun f => 0, false⟩
noncomputable def X31 : Cx := ⟨Tryz.prog, G31, drawD, 37, [0, 1, 2, 4, 5, 6, 7, 21]⟩
theorem c31 : (Tryz.f31.body).bind (compC X31.P X31.Γ X31.D X31.nt) = some A31 := by kernel_rfl
theorem o31 : compRes X31.P Tryz.f31.results.toList = some O31 := by kernel_rfl
theorem v31 : X31.vs = [0, 1, 2, 4, 5, 6, 7, 21] := rfl
theorem p31 : X31.P = Tryz.prog := rfl
def nextR (w : World) (t : Int) : Prop := w.Right ∧ 2 ≤ w.nodes.length ∧ 0 ≤ t
noncomputable instance (w : World) (t : Int) : Decidable (nextR w t) := Classical.propDecidable _
def nextP (n t : Int) : Int × Int := (t.tmod n, (IntKind.wrap .i64 (IntKind.wrap .i64 (t.tmod n + 1) + (IntKind.wrap .i64 (t.tdiv n)).tmod (n - 1))).tmod n)
noncomputable def nextOf (w : World) (t : Int) : Int × Int := if nextR w t then nextP w.nodes.length t else (-1, -1)
def pairV (p : Int × Int) : V := .tup [.int .i64 p.1, .int .i64 p.2]
set_option maxHeartbeats 1000000 in
theorem specNext_ok (w : World) (t : Int) (h : w.sz ≤ 1048576) : FS Tryz.prog 30 [] [.agg w.c, .int .i64 t] (pairV (nextOf w t)) [] := by
  refine FS.of (X := X30) (ac := A30) (os := O30) Tryz.func30 (by rfl) (by rfl) (by kernel_rfl) o30 (Nat.le_of_ble_eq_true rfl) ?_
  show AWP X30 A30 (Ends X30.vs O30 0 _ _) [.agg w.c, .int .i64 t, .tup [], .tup [], .tup [], .tup [], .tup [], .tup []] []
  obtain ⟨Q, hQ⟩ : ∃ Q, Q = Ends X30.vs O30 0 (pairV (nextOf w t)) [] := ⟨_, rfl⟩
  rw [← hQ]
  have hs := World.small h
  have ln := hs.ln
  have fin : ∀ L σ a b, resVs O30 (look X30.vs L) σ = some [.int .i64 a, .int .i64 b] → (a, b) = nextOf w t → Q .ret L σ := by
    intro L σ a b h1 h2
    rw [hQ]
    exact Ends.is (.inl rfl) h1 (by rw [← h2]; rfl) rfl
  refine awp_sr ?_
  simp only [go_sem, R30_0, v30, p30, World.c]
  refine (fun G : AWP X30 _ _ _ [.live ⟨3, [w.c]⟩] => G) ?_
  refine awp_sr ?_
  simp only [go_sem, R30_1, v30, p30, World.c]
  obtain ⟨K1, hK1⟩ : ∃ K : List V → Store → Prop, K = fun L σ => ∃ r y0 y4 y5 y7, L = [y0, .int .i64 t, .ptr 0 3 0 0, y4, y5, .int .i64 (w.nodes.length : Nat), y7, .bool r] ∧ σ = [.live ⟨3, [w.c]⟩] ∧ r = !decide (nextR w t) := ⟨_, rfl⟩
  refine awp_sr2K (K1) ?_ ?_
  · simp only [go_sem, R30_2, v30, p30, World.c]
    refine run_see (specWorldOk_ok w h) false (Views.refl rfl) rfl (fun j hj => by first | omega | ((have hj0 : j = 0 := by omega); subst hj0; first | rfl | (simp only [Nat.add_zero, app_get, app_getk, sapp_get, sapp_getk, Nat.add_assoc, Nat.reduceAdd, List.getElem?_cons_zero, List.getElem?_cons_succ]; done) | simp)) (fun h => by cases h) ?_
    simp only [go_sem, v30, p30]
    by_cases b1 : w.Right
    · have b0 := b1.a.1
      simp only [go_sem, v30, p30, eq_true b1]
      by_cases b2 : (w.nodes.length : Int) < 2
      · simp only [go_sem, v30, p30, eq_true b2]
        rw [hK1]
        refine ⟨_, _, _, _, _, rfl, rfl, ?_⟩
        grind [nextR]
      · simp only [go_sem, v30, p30, eq_false b2]
        rw [hK1]
        refine ⟨_, _, _, _, _, rfl, rfl, ?_⟩
        grind [nextR]
    · simp only [go_sem, v30, p30, eq_false b1]
      rw [hK1]
      refine ⟨_, _, _, _, _, rfl, rfl, ?_⟩
      grind [nextR]
  intro L σ hq
  rw [hK1] at hq
  obtain ⟨r, y0, y4, y5, y7, rfl, rfl, hq⟩ := hq
  subst hq
  refine awp_if' rfl ?_ ?_
  · intro h1
    refine awp_sr ?_
    simp only [go_sem, R30_3, v30, p30]
    refine awp_ret ?_
    try simp only [go_sem]
    exact fin _ _ (-1) (-1) rfl (if_neg h1).symm
  intro h1
  obtain ⟨hR, n2, t0⟩ := id h1
  have hn0 : ¬ ((w.nodes.length : Int) = 0) := by omega
  have hn1 : ¬ ((w.nodes.length : Int) - 1 = 0) := by omega
  refine awp_skip ?_
  simp only [go_sem]
  refine awp_sr ?_
  simp only [go_sem, R30_4, v30, p30, eq_false hn0, if_false]
  refine awp_sd mixed rfl (by rfl) ?_
  simp only [go_sem, R30_5, v30, p30, wrap_i64 (n := (w.nodes.length : Int) - 1) (by omega) (by omega), eq_false hn0, eq_false hn1, if_false]
  refine awp_ret ?_
  try simp only [go_sem]
  exact fin _ _ _ _ rfl (if_pos h1).symm
set_option maxHeartbeats 1000000 in
theorem implNext_ok (w : World) (t : Int) (h : w.sz ≤ 1048576) : FS Tryz.prog 31 [] [.agg w.c, .int .i64 t] (pairV (nextOf w t)) [] := by
  refine FS.of (X := X31) (ac := A31) (os := O31) Tryz.func31 (by rfl) (by rfl) (by kernel_rfl) o31 (Nat.le_of_ble_eq_true rfl) ?_
  show AWP X31 A31 (Ends X31.vs O31 0 _ _) [.agg w.c, .int .i64 t, .tup [], .tup [], .tup [], .tup [], .tup [], .tup []] []
  obtain ⟨Q, hQ⟩ : ∃ Q, Q = Ends X31.vs O31 0 (pairV (nextOf w t)) [] := ⟨_, rfl⟩
  rw [← hQ]
  have hs := World.small h
  have ln := hs.ln
  have fin : ∀ L σ a b, resVs O31 (look X31.vs L) σ = some [.int .i64 a, .int .i64 b] → (a, b) = nextOf w t → Q .ret L σ := by
    intro L σ a b h1 h2
    rw [hQ]
    exact Ends.is (.inl rfl) h1 (by rw [← h2]; rfl) rfl
  refine awp_sr ?_
  simp only [go_sem, R31_0, v31, p31, World.c]
  refine (fun G : AWP X31 _ _ _ [.live ⟨3, [w.c]⟩] => G) ?_
  refine awp_sr ?_
  simp only [go_sem, R31_1, v31, p31, World.c]
  obtain ⟨K2, hK2⟩ : ∃ K : List V → Store → Prop, K = fun L σ => ∃ r y0 y4 y5 y7, L = [y0, .int .i64 t, .ptr 0 3 0 0, y4, y5, .int .i64 (w.nodes.length : Nat), y7, .bool r] ∧ σ = [.live ⟨3, [w.c]⟩] ∧ r = !decide (nextR w t) := ⟨_, rfl⟩
  refine awp_sr2K (K2) ?_ ?_
  · simp only [go_sem, R31_2, v31, p31, World.c]
    refine run_see (implWorldOk_ok w h) false (Views.refl rfl) rfl (fun j hj => by first | omega | ((have hj0 : j = 0 := by omega); subst hj0; first | rfl | (simp only [Nat.add_zero, app_get, app_getk, sapp_get, sapp_getk, Nat.add_assoc, Nat.reduceAdd, List.getElem?_cons_zero, List.getElem?_cons_succ]; done) | simp)) (fun h => by cases h) ?_
    simp only [go_sem, v31, p31]
    by_cases b1 : w.Right
    · have b0 := b1.a.1
      simp only [go_sem, v31, p31, eq_true b1]
      by_cases b2 : (w.nodes.length : Int) = 1
      · simp only [go_sem, v31, p31, eq_true b2]
        rw [hK2]
        refine ⟨_, _, _, _, _, rfl, rfl, ?_⟩
        grind [nextR]
      · simp only [go_sem, v31, p31, eq_false b2]
        rw [hK2]
        refine ⟨_, _, _, _, _, rfl, rfl, ?_⟩
        grind [nextR]
    · simp only [go_sem, v31, p31, eq_false b1]
      rw [hK2]
      refine ⟨_, _, _, _, _, rfl, rfl, ?_⟩
      grind [nextR]
  intro L σ hq
  rw [hK2] at hq
  obtain ⟨r, y0, y4, y5, y7, rfl, rfl, hq⟩ := hq
  subst hq
  refine awp_if' rfl ?_ ?_
  · intro h1
    refine awp_sr ?_
    simp only [go_sem, R31_3, v31, p31]
    refine awp_ret ?_
    try simp only [go_sem]
    exact fin _ _ (-1) (-1) rfl (if_neg h1).symm
  intro h1
  obtain ⟨hR, n2, t0⟩ := id h1
  have hn0 : ¬ ((w.nodes.length : Int) = 0) := by omega
  have hn1 : ¬ ((w.nodes.length : Int) - 1 = 0) := by omega
  refine awp_skip ?_
  simp only [go_sem]
  refine awp_sr ?_
  simp only [go_sem, R31_4, v31, p31, eq_false hn0, if_false]
  refine awp_sd mixed rfl (by rfl) ?_
  simp only [go_sem, R31_5, v31, p31, wrap_i64 (n := (w.nodes.length : Int) - 1) (by omega) (by omega), eq_false hn0, eq_false hn1, if_false]
  refine awp_ret ?_
  try simp only [go_sem]
  exact fin _ _ _ _ rfl (if_pos h1).symm
def R5_0 : List AR := [⟨(some 2), none, 0, (.box 0 3 (.t 0))⟩, ⟨(some 4), none, 0, (.mov (.k (.bool false)))⟩]
def R5_1 : List AR := [⟨(some 5), none, 0, (.mov (.k (.int .i64 1048576)))⟩]
def R5_2 : List AR := [⟨(some 11), none, 0, (.load 3 true (.t 2))⟩, ⟨(some 12), none, 0, (.mov (.t 5))⟩, ⟨(some 13), none, 0, (.call false 0 0 25 [(.t 11), (.t 12)])⟩, ⟨(some 5), none, 0, (.mov (.t 13))⟩]
def R5_3 : List AR := [⟨(some 14), none, 0, (.mov (.t 5))⟩, ⟨(some 15), none, 0, (.bin .lss (.t 14) (.k (.int .i64 0)))⟩]
def R5_4 : List AR := [⟨(some 4), none, 0, (.mov (.k (.bool true)))⟩]
def R5_5 : List AR := [⟨(some 17), none, 0, (.load 3 true (.t 2))⟩, ⟨(some 18), none, 0, (.call false 0 0 27 [(.t 17)])⟩, ⟨(some 19), none, 0, (.mov (.t 1))⟩, ⟨(some 20), none, 0, (.call false 0 0 30 [(.t 18), (.t 19)])⟩, ⟨(some 16), none, 0, (.mov (.t 20))⟩, ⟨(some 21), none, 0, (.ext (.t 16) 0)⟩, ⟨(some 22), none, 0, (.ext (.t 16) 1)⟩, ⟨(some 6), none, 0, (.mov (.t 21))⟩, ⟨(some 7), none, 0, (.mov (.t 22))⟩]
def R5_6 : List AR := [⟨(some 23), none, 0, (.load 3 true (.t 2))⟩, ⟨(some 24), none, 0, (.call false 0 0 27 [(.t 23)])⟩, ⟨(some 8), none, 0, (.alloc 0 3 [.nl, .nl, .nl])⟩, ⟨none, none, 0, (.store 3 (.t 8) (.t 24))⟩]
def R5_7 : List AR := [⟨(some 26), none, 0, (.load 3 true (.t 8))⟩, ⟨(some 27), none, 0, (.mov (.t 1))⟩, ⟨(some 28), none, 0, (.call false 0 0 31 [(.t 26), (.t 27)])⟩, ⟨(some 25), none, 0, (.mov (.t 28))⟩, ⟨(some 29), none, 0, (.ext (.t 25) 0)⟩, ⟨(some 30), none, 0, (.ext (.t 25) 1)⟩, ⟨(some 9), none, 0, (.mov (.t 29))⟩, ⟨(some 10), none, 0, (.mov (.t 30))⟩]
def R5_8 : List AR := [⟨(some 31), none, 0, (.mov (.t 9))⟩, ⟨(some 32), none, 0, (.mov (.t 6))⟩, ⟨(some 33), none, 0, (.bin .neq (.t 31) (.t 32))⟩, ⟨(some 34), none, 0, (.mov (.t 33))⟩, ⟨(some 35), (some (34, false)), 0, (.mov (.t 10))⟩, ⟨(some 36), (some (34, false)), 0, (.mov (.t 7))⟩, ⟨(some 37), (some (34, false)), 0, (.bin .neq (.t 35) (.t 36))⟩, ⟨(some 38), none, 0, (.pick (.t 34) (.k (.bool true)) (.t 37))⟩]
def R5_9 : List AR := [⟨(some 4), none, 0, (.mov (.k (.bool false)))⟩]
def R5_10 : List AR := [⟨(some 39), none, 0, (.load 3 true (.t 8))⟩, ⟨(some 40), none, 0, (.load 3 true (.t 2))⟩, ⟨(some 41), none, 0, (.call false 0 0 27 [(.t 40)])⟩, ⟨(some 42), none, 0, (.call false 0 0 29 [(.t 39), (.t 41)])⟩, ⟨(some 43), none, 0, (.not (.t 42))⟩]
def R5_11 : List AR := [⟨(some 4), none, 0, (.mov (.k (.bool false)))⟩]
def R5_12 : List AR := [⟨(some 4), none, 0, (.mov (.k (.bool true)))⟩]
def A5_0 : AC := (.seq (.reg 0 R5_12) .ret)
def A5_1 : AC := (.seq (.seq (.draw 0 R5_10) (.cond (.t 43) (.seq (.reg 0 R5_11) .ret) .skip)) A5_0)
def A5_2 : AC := (.seq (.seq (.reg 0 R5_8) (.cond (.t 38) (.seq (.reg 0 R5_9) .ret) .skip)) A5_1)
def A5_3 : AC := (.seq (.reg 0 R5_7) A5_2)
def A5_4 : AC := (.seq (.reg 1 R5_6) A5_3)
def A5_5 : AC := (.seq (.reg 0 R5_5) A5_4)
def A5_6 : AC := (.seq (.seq (.reg 0 R5_3) (.cond (.t 15) (.seq (.reg 0 R5_4) .ret) .skip)) A5_5)
def A5_7 : AC := (.seq (.reg 0 R5_2) A5_6)
def A5_8 : AC := (.seq (.reg 0 R5_1) A5_7)
def A5 : AC := (.seq (.reg 1 R5_0) A5_8)
def O5 : List AO := [(.mov (.t 4))]
def G5 : Fns := ⟨fun f => false, fun f => 0, false⟩
noncomputable def X5 : Cx := ⟨Tryz.prog, G5, drawD, 44, [0, 1, 2, 4, 5, 6, 7, 8, 9, 10, 15, 38, 43]⟩
theorem c5 : (Tryz.f5.body).bind (compC X5.P X5.Γ X5.D X5.nt) = some A5 := by kernel_rfl
theorem o5 : compRes X5.P Tryz.f5.results.toList = some O5 := by kernel_rfl
theorem v5 : X5.vs = [0, 1, 2, 4, 5, 6, 7, 8, 9, 10, 15, 38, 43] := rfl
theorem p5 : X5.P = Tryz.prog := rfl
theorem exactNext_ok (a : World) (t : Int) (ha : a.ok) : FS Tryz.prog 5 [] [.agg a.c, .int .i64 t] (.bool true) [] := by
  refine FS.of (X := X5) (ac := A5) (os := O5) Tryz.func5 (by rfl) (by rfl) (by kernel_rfl) o5 (Nat.le_of_ble_eq_true rfl) ?_
  show AWP X5 A5 (Ends X5.vs O5 0 _ _) [.agg a.c, .int .i64 t, .tup [], .tup [], .tup [], .tup [], .tup [], .tup [], .tup [], .tup [], .tup [], .tup [], .tup []] []
  obtain ⟨Q, hQ⟩ : ∃ Q, Q = Ends X5.vs O5 0 (.bool true) [] := ⟨_, rfl⟩
  rw [← hQ]
  have fin : ∀ L σ vV, resVs O5 (look X5.vs L) σ = some [vV] → vV = (.bool true) → Q .ret L σ := by
    intro L σ vV h1 h2
    rw [hQ]
    exact Ends.is (.inl rfl) h1 (by simp only [packV, h2]) rfl
  refine awp_sr ?_
  simp only [go_sem, R5_0, v5, p5, World.c]
  refine awp_sr ?_
  simp only [go_sem, R5_1, v5, p5]
  refine awp_sr ?_
  simp only [go_sem, R5_2, v5, p5, World.c]
  refine run_see (szWorld_ok a 1048576 (Nat.le_refl _) ha) false (Views.refl rfl) rfl (fun j hj => by first | omega | ((have hj0 : j = 0 := by omega); subst hj0; first | rfl | (simp only [Nat.add_zero, app_get, app_getk, sapp_get, sapp_getk, Nat.add_assoc, Nat.reduceAdd, List.getElem?_cons_zero, List.getElem?_cons_succ]; done) | simp)) (fun h => by cases h) ?_
  simp only [go_sem, v5, p5, pairV]
  refine awp_sr2 ?_
  simp only [go_sem, R5_3, v5, p5]
  refine awp_if rfl ?_ ?_
  · intro h1
    refine awp_sr ?_
    simp only [go_sem, R5_4, v5, p5]
    refine awp_ret ?_
    try simp only [go_sem]
    exact fin _ _ _ rfl rfl
  intro h1
  obtain ⟨-, h⟩ := left_pos h1
  refine awp_skip ?_
  simp only [go_sem]
  refine awp_sr ?_
  simp only [go_sem, R5_5, v5, p5, World.c]
  refine run_see (toWorld_ok a h) false (Views.refl rfl) rfl (fun j hj => by first | omega | ((have hj0 : j = 0 := by omega); subst hj0; first | rfl | (simp only [Nat.add_zero, app_get, app_getk, sapp_get, sapp_getk, Nat.add_assoc, Nat.reduceAdd, List.getElem?_cons_zero, List.getElem?_cons_succ]; done) | simp)) (fun h => by cases h) ?_
  simp only [go_sem, v5, p5, pairV]
  refine run_see (specNext_ok a t h) false (Views.refl rfl) rfl (fun j hj => by first | omega | ((have hj0 : j = 0 := by omega); subst hj0; first | rfl | (simp only [Nat.add_zero, app_get, app_getk, sapp_get, sapp_getk, Nat.add_assoc, Nat.reduceAdd, List.getElem?_cons_zero, List.getElem?_cons_succ]; done) | simp)) (fun h => by cases h) ?_
  simp only [go_sem, v5, p5, pairV]
  refine awp_sr ?_
  simp only [go_sem, R5_6, v5, p5, World.c]
  refine run_see (toWorld_ok a h) false (Views.refl rfl) rfl (fun j hj => by first | omega | ((have hj0 : j = 0 := by omega); subst hj0; first | rfl | (simp only [Nat.add_zero, app_get, app_getk, sapp_get, sapp_getk, Nat.add_assoc, Nat.reduceAdd, List.getElem?_cons_zero, List.getElem?_cons_succ]; done) | simp)) (fun h => by cases h) ?_
  simp only [go_sem, v5, p5, World.c]
  refine awp_sr ?_
  simp only [go_sem, R5_7, v5, p5, World.c]
  refine run_see (implNext_ok a t h) false (Views.refl rfl) rfl (fun j hj => by first | omega | ((have hj0 : j = 0 := by omega); subst hj0; first | rfl | (simp only [Nat.add_zero, app_get, app_getk, sapp_get, sapp_getk, Nat.add_assoc, Nat.reduceAdd, List.getElem?_cons_zero, List.getElem?_cons_succ]; done) | simp)) (fun h => by cases h) ?_
  simp only [go_sem, v5, p5, pairV]
  refine awp_sr2 ?_
  simp only [go_sem, R5_8, v5, p5, ne_eq, eq_self, not_true_eq_false, decide_false]
  refine awp_no rfl ?_
  refine awp_skip ?_
  simp only [go_sem]
  refine awp_sd2 mixed rfl (by rfl) ?_
  simp only [go_sem, R5_10, v5, p5, World.c]
  refine run_see (toWorld_ok a h) false (Views.refl rfl) rfl (fun j hj => by first | omega | ((have hj0 : j = 0 := by omega); subst hj0; first | rfl | (simp only [Nat.add_zero, app_get, app_getk, sapp_get, sapp_getk, Nat.add_assoc, Nat.reduceAdd, List.getElem?_cons_zero, List.getElem?_cons_succ]; done) | simp)) (fun h => by cases h) ?_
  simp only [go_sem, v5, p5, World.c]
  refine run_see (eqWorld_ok a a h) false (Views.refl rfl) rfl (fun j hj => by first | omega | ((have hj0 : j = 0 := by omega); subst hj0; first | rfl | (simp only [Nat.add_zero, app_get, app_getk, sapp_get, sapp_getk, Nat.add_assoc, Nat.reduceAdd, List.getElem?_cons_zero, List.getElem?_cons_succ]; done) | simp)) (fun h => by cases h) ?_
  simp only [go_sem, v5, p5, pairV]
  refine awp_no rfl ?_
  refine awp_skip ?_
  simp only [go_sem]
  refine awp_sr ?_
  simp only [go_sem, R5_12, v5, p5]
  refine awp_ret ?_
  try simp only [go_sem]
  exact fin _ _ _ rfl rfl
end Go.Proofs.YtffigokicddekaaGreat.Abs
/- All the laws of worlds so far. No condition. -/
namespace Go.Proofs.YtffigokicddekaaGreat.Abs
end Go.Proofs.YtffigokicddekaaGreat.Abs
