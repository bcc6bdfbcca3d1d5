/- Parts of a state, walked in both texts. No condition. -/
import Derived.Test.YtffigokicddekaaGreatMZ4
set_option linter.unusedVariables false
set_option linter.unusedSimpArgs false
set_option maxRecDepth 10000
namespace Go.Proofs.YtffigokicddekaaGreat.Abs
open Go Go.Proofs
def R159_0 : List AR := [⟨(some 2), none, 0, (.box 0 2 (.t 0))⟩, ⟨(some 4), none, 0, (.alloc 1 2 [.nl, .nl])⟩]
def R159_1 : List AR := [⟨(some 8), none, 0, (.build [.nl, .nl] [])⟩, ⟨(some 5), none, 0, (.alloc 0 2 [.nl, .nl])⟩, ⟨none, none, 0, (.store 2 (.t 5) (.t 8))⟩]
def R159_2 : List AR := [⟨(some 6), none, 0, (.mov (.k (.int .i64 0)))⟩]
def R159_3 : List AR := [⟨(some 9), none, 0, (.mov (.t 6))⟩, ⟨(some 10), none, 0, (.faddr 0 (.t 2))⟩, ⟨(some 11), none, 0, (.load 1 false (.t 10))⟩, ⟨(some 12), none, 0, (.len (.t 11))⟩, ⟨(some 13), none, 0, (.bin .lss (.t 9) (.t 12))⟩]
def R159_4 : List AR := [⟨(some 16), none, 0, (.mov (.t 1))⟩, ⟨(some 17), none, 0, (.faddr 0 (.t 2))⟩, ⟨(some 18), none, 0, (.load 1 false (.t 17))⟩, ⟨(some 19), none, 0, (.mov (.t 6))⟩, ⟨(some 20), none, 0, (.iaddr 6 (.t 18) (.t 19))⟩, ⟨(some 21), none, 0, (.faddr 0 (.t 20))⟩, ⟨(some 22), none, 0, (.load 1 false (.t 21))⟩, ⟨(some 23), none, 0, (.call false 0 0 205 [(.t 22)])⟩, ⟨(some 24), none, 0, (.call false 0 0 204 [(.t 16), (.t 23)])⟩]
def R159_5 : List AR := [⟨(some 25), none, 0, (.faddr 0 (.t 5))⟩, ⟨(some 26), none, 1, (.load 1 false (.t 25))⟩, ⟨(some 27), none, 0, (.faddr 0 (.t 2))⟩, ⟨(some 28), none, 0, (.load 1 false (.t 27))⟩, ⟨(some 29), none, 0, (.mov (.t 6))⟩, ⟨(some 30), none, 0, (.iaddr 6 (.t 28) (.t 29))⟩, ⟨(some 31), none, 0, (.load 6 true (.t 30))⟩, ⟨(some 32), none, 0, (.bslice 0 6 1 [(.int .i64 0), (.int .i64 0), (.int .i64 0), (.int .i64 0), (.int .i64 0), (.str ⟨⟨[]⟩⟩)] [(0, (.t 31))])⟩, ⟨(some 33), none, 0, (.app 1 6 56 (.t 26) (.t 32))⟩, ⟨(some 34), none, 0, (.faddr 0 (.t 5))⟩, ⟨none, none, 0, (.store 1 (.t 34) (.t 33))⟩]
def R159_6 : List AR := [⟨(some 14), none, 0, (.mov (.t 6))⟩, ⟨(some 15), none, 0, (.bin .add (.t 14) (.k (.int .i64 1)))⟩, ⟨(some 6), none, 0, (.mov (.t 15))⟩]
def A159_0 : AC := (.seq (.block 1 (.seq (.reg 0 R159_4) (.cond (.t 24) (.draw 2 R159_5) .skip))) (.reg 0 R159_6))
def L159_0 : AC := (.seq (.seq (.reg 0 R159_3) (.cond (.t 13) .skip (.exit 0))) A159_0)
def R159_7 : List AR := [⟨(some 7), none, 0, (.mov (.k (.int .i64 0)))⟩]
def R159_8 : List AR := [⟨(some 35), none, 0, (.mov (.t 7))⟩, ⟨(some 36), none, 0, (.faddr 1 (.t 2))⟩, ⟨(some 37), none, 0, (.load 1 false (.t 36))⟩, ⟨(some 38), none, 0, (.len (.t 37))⟩, ⟨(some 39), none, 0, (.bin .lss (.t 35) (.t 38))⟩]
def R159_9 : List AR := [⟨(some 42), none, 0, (.mov (.t 1))⟩, ⟨(some 43), none, 0, (.faddr 1 (.t 2))⟩, ⟨(some 44), none, 0, (.load 1 false (.t 43))⟩, ⟨(some 45), none, 0, (.mov (.t 7))⟩, ⟨(some 46), none, 0, (.iaddr 2 (.t 44) (.t 45))⟩, ⟨(some 47), none, 0, (.faddr 0 (.t 46))⟩, ⟨(some 48), none, 0, (.load 1 false (.t 47))⟩, ⟨(some 49), none, 0, (.call false 0 0 205 [(.t 48)])⟩, ⟨(some 50), none, 0, (.call false 0 0 204 [(.t 42), (.t 49)])⟩]
def R159_10 : List AR := [⟨(some 51), none, 0, (.faddr 1 (.t 5))⟩, ⟨(some 52), none, 1, (.load 1 false (.t 51))⟩, ⟨(some 53), none, 0, (.faddr 1 (.t 2))⟩, ⟨(some 54), none, 0, (.load 1 false (.t 53))⟩, ⟨(some 55), none, 0, (.mov (.t 7))⟩, ⟨(some 56), none, 0, (.iaddr 2 (.t 54) (.t 55))⟩, ⟨(some 57), none, 0, (.load 2 true (.t 56))⟩, ⟨(some 58), none, 0, (.bslice 0 2 1 [(.int .i64 0), (.int .i64 0)] [(0, (.t 57))])⟩, ⟨(some 59), none, 0, (.app 1 2 16 (.t 52) (.t 58))⟩, ⟨(some 60), none, 0, (.faddr 1 (.t 5))⟩, ⟨none, none, 0, (.store 1 (.t 60) (.t 59))⟩]
def R159_11 : List AR := [⟨(some 40), none, 0, (.mov (.t 7))⟩, ⟨(some 41), none, 0, (.bin .add (.t 40) (.k (.int .i64 1)))⟩, ⟨(some 7), none, 0, (.mov (.t 41))⟩]
def A159_1 : AC := (.seq (.block 3 (.seq (.reg 0 R159_9) (.cond (.t 50) (.draw 2 R159_10) .skip))) (.reg 0 R159_11))
def L159_1 : AC := (.seq (.seq (.reg 0 R159_8) (.cond (.t 39) .skip (.exit 2))) A159_1)
def R159_12 : List AR := [⟨(some 61), none, 0, (.load 2 true (.t 5))⟩, ⟨none, none, 0, (.store 2 (.t 4) (.t 61))⟩]
def A159_2 : AC := (.seq (.reg 0 R159_12) .ret)
def A159_3 : AC := (.seq (.seq (.reg 0 R159_7) (.block 2 (.loop L159_1))) A159_2)
def A159_4 : AC := (.seq (.seq (.reg 0 R159_2) (.block 0 (.loop L159_0))) A159_3)
def A159_5 : AC := (.seq (.reg 1 R159_1) A159_4)
def A159 : AC := (.seq (.reg 2 R159_0) A159_5)
def O159 : List AO := [(.load 2 true (.t 4))]
def G159 : Fns := ⟨fun f => false, fun f => 0, false⟩
noncomputable def X159 : Cx := ⟨Tryz.prog, G159, drawD, 62, [0, 1, 2, 4, 5, 6, 7, 13, 24, 39, 50]⟩
theorem c159 : (Tryz.f159.body).bind (compC X159.P X159.Γ X159.D X159.nt) = some A159 := by kernel_rfl
theorem o159 : compRes X159.P Tryz.f159.results.toList = some O159 := by kernel_rfl
theorem v159 : X159.vs = [0, 1, 2, 4, 5, 6, 7, 13, 24, 39, 50] := rfl
theorem p159 : X159.P = Tryz.prog := rfl
def R154_0 : List AR := [⟨(some 2), none, 0, (.box 0 2 (.t 0))⟩, ⟨(some 4), none, 0, (.alloc 1 2 [.nl, .nl])⟩]
def R154_1 : List AR := [⟨(some 10), none, 0, (.build [.nl, .nl] [])⟩, ⟨(some 5), none, 0, (.alloc 0 2 [.nl, .nl])⟩, ⟨none, none, 0, (.store 2 (.t 5) (.t 10))⟩]
def R154_2 : List AR := [⟨(some 11), none, 0, (.load 2 true (.t 2))⟩, ⟨(some 12), none, 0, (.call false 0 0 63 [(.t 11)])⟩, ⟨(some 13), none, 0, (.not (.t 12))⟩]
def R154_3 : List AR := [⟨(some 14), none, 0, (.load 2 true (.t 5))⟩, ⟨none, none, 0, (.store 2 (.t 4) (.t 14))⟩]
def R154_4 : List AR := [⟨(some 15), none, 0, (.faddr 0 (.t 2))⟩, ⟨(some 16), none, 0, (.load 1 false (.t 15))⟩, ⟨(some 17), none, 0, (.len (.t 16))⟩, ⟨(some 18), none, 0, (.mov (.k (.int .i64 0)))⟩]
def R154_5 : List AR := [⟨(some 19), none, 0, (.bin .lss (.t 18) (.t 17))⟩]
def R154_6 : List AR := [⟨(some 20), none, 0, (.iaddr 6 (.t 16) (.t 18))⟩, ⟨(some 21), none, 0, (.load 6 true (.t 20))⟩, ⟨(some 7), none, 0, (.alloc 0 6 [(.int .i64 0), (.int .i64 0), (.int .i64 0), (.int .i64 0), (.int .i64 0), (.str ⟨⟨[]⟩⟩)])⟩, ⟨none, none, 0, (.store 6 (.t 7) (.t 21))⟩]
def R154_7 : List AR := [⟨(some 22), none, 0, (.mov (.t 1))⟩, ⟨(some 23), none, 0, (.faddr 0 (.t 7))⟩, ⟨(some 24), none, 0, (.load 1 false (.t 23))⟩, ⟨(some 25), none, 0, (.call false 0 0 202 [(.t 24)])⟩, ⟨(some 26), none, 0, (.call false 0 0 201 [(.t 22), (.t 25)])⟩]
def R154_8 : List AR := [⟨(some 27), none, 0, (.faddr 0 (.t 5))⟩, ⟨(some 28), none, 0, (.load 1 false (.t 27))⟩, ⟨(some 29), none, 0, (.load 6 true (.t 7))⟩, ⟨(some 30), none, 0, (.bslice 0 6 1 [(.int .i64 0), (.int .i64 0), (.int .i64 0), (.int .i64 0), (.int .i64 0), (.str ⟨⟨[]⟩⟩)] [(0, (.t 29))])⟩, ⟨(some 31), none, 0, (.app 1 6 56 (.t 28) (.t 30))⟩, ⟨(some 32), none, 0, (.faddr 0 (.t 5))⟩, ⟨none, none, 0, (.store 1 (.t 32) (.t 31))⟩]
def A154_0 : AC := (.seq (.reg 0 R154_7) (.cond (.t 26) (.reg 2 R154_8) .skip))
def R154_9 : List AR := [⟨(some 33), none, 0, (.bin .add (.t 18) (.k (.int .i64 1)))⟩, ⟨(some 18), none, 0, (.mov (.t 33))⟩]
def A154_1 : AC := (.seq (.block 1 (.seq (.reg 1 R154_6) A154_0)) (.reg 0 R154_9))
def A154_2 : AC := (.seq (.cond (.t 19) .skip (.exit 0)) A154_1)
def L154_0 : AC := (.seq (.reg 0 R154_5) A154_2)
def R154_10 : List AR := [⟨(some 34), none, 0, (.faddr 1 (.t 2))⟩, ⟨(some 35), none, 0, (.load 1 false (.t 34))⟩, ⟨(some 36), none, 0, (.len (.t 35))⟩, ⟨(some 37), none, 0, (.mov (.k (.int .i64 0)))⟩]
def R154_11 : List AR := [⟨(some 38), none, 0, (.bin .lss (.t 37) (.t 36))⟩]
def R154_12 : List AR := [⟨(some 39), none, 0, (.iaddr 2 (.t 35) (.t 37))⟩, ⟨(some 40), none, 0, (.load 2 true (.t 39))⟩, ⟨(some 9), none, 0, (.alloc 0 2 [(.int .i64 0), (.int .i64 0)])⟩, ⟨none, none, 0, (.store 2 (.t 9) (.t 40))⟩]
def R154_13 : List AR := [⟨(some 41), none, 0, (.mov (.t 1))⟩, ⟨(some 42), none, 0, (.faddr 0 (.t 9))⟩, ⟨(some 43), none, 0, (.load 1 false (.t 42))⟩, ⟨(some 44), none, 0, (.call false 0 0 202 [(.t 43)])⟩, ⟨(some 45), none, 0, (.call false 0 0 201 [(.t 41), (.t 44)])⟩]
def R154_14 : List AR := [⟨(some 46), none, 0, (.faddr 1 (.t 5))⟩, ⟨(some 47), none, 0, (.load 1 false (.t 46))⟩, ⟨(some 48), none, 0, (.load 2 true (.t 9))⟩, ⟨(some 49), none, 0, (.bslice 0 2 1 [(.int .i64 0), (.int .i64 0)] [(0, (.t 48))])⟩, ⟨(some 50), none, 0, (.app 1 2 16 (.t 47) (.t 49))⟩, ⟨(some 51), none, 0, (.faddr 1 (.t 5))⟩, ⟨none, none, 0, (.store 1 (.t 51) (.t 50))⟩]
def A154_3 : AC := (.seq (.reg 0 R154_13) (.cond (.t 45) (.reg 2 R154_14) .skip))
def R154_15 : List AR := [⟨(some 52), none, 0, (.bin .add (.t 37) (.k (.int .i64 1)))⟩, ⟨(some 37), none, 0, (.mov (.t 52))⟩]
def A154_4 : AC := (.seq (.block 3 (.seq (.reg 1 R154_12) A154_3)) (.reg 0 R154_15))
def A154_5 : AC := (.seq (.cond (.t 38) .skip (.exit 2)) A154_4)
def L154_1 : AC := (.seq (.reg 0 R154_11) A154_5)
def R154_16 : List AR := [⟨(some 53), none, 0, (.load 2 true (.t 5))⟩, ⟨none, none, 0, (.store 2 (.t 4) (.t 53))⟩]
def A154_6 : AC := (.seq (.reg 0 R154_16) .ret)
def A154_7 : AC := (.seq (.seq (.reg 0 R154_10) (.block 2 (.loop L154_1))) A154_6)
def A154_8 : AC := (.seq (.seq (.reg 0 R154_4) (.block 0 (.loop L154_0))) A154_7)
def A154_9 : AC := (.seq (.seq (.reg 0 R154_2) (.cond (.t 13) (.seq (.reg 0 R154_3) .ret) .skip)) A154_8)
def A154_10 : AC := (.seq (.reg 1 R154_1) A154_9)
def A154 : AC := (.seq (.reg 2 R154_0) A154_10)
def O154 : List AO := [(.load 2 true (.t 4))]
def G154 : Fns := ⟨fun f => false, fun f => 0, false⟩
noncomputable def X154 : Cx := ⟨Tryz.prog, G154, drawD, 54, [0, 1, 2, 4, 5, 7, 9, 13, 16, 17, 18, 19, 26, 35, 36, 37, 38, 45]⟩
theorem c154 : (Tryz.f154.body).bind (compC X154.P X154.Γ X154.D X154.nt) = some A154 := by kernel_rfl
theorem o154 : compRes X154.P Tryz.f154.results.toList = some O154 := by kernel_rfl
theorem v154 : X154.vs = [0, 1, 2, 4, 5, 7, 9, 13, 16, 17, 18, 19, 26, 35, 36, 37, 38, 45] := rfl
theorem p154 : X154.P = Tryz.prog := rfl
def inLs (ls : List Int) (id : Int) : Bool := decide (leafOf id ∈ ls)
def sliceS (s : State) (ls : List Int) : State := ⟨s.items.filter fun x => inLs ls x.id, s.floors.filter fun x => inLs ls x.id⟩
theorem filter_take {α : Type} (p : α → Bool) {xs : List α} {i : Nat} (h : i < xs.length) : (xs.take (i + 1)).filter p = if p xs[i] = true then (xs.take i).filter p ++ [xs[i]] else (xs.take i).filter p := by
  rw [List.take_succ_eq_append_getElem h, List.filter_append]
  by_cases h1 : p xs[i] = true
  · simp [h1]
  · simp [h1]
theorem filter_take_le {α : Type} (p : α → Bool) (xs : List α) (i : Nat) : ((xs.take i).filter p).length ≤ xs.length := by
  have h1 := List.length_filter_le p (xs.take i)
  have h2 : (xs.take i).length ≤ xs.length := by simp; omega
  omega
theorem item_fold (x : Item) : [V.int .i64 x.id, V.int .i64 x.entry.inc, V.int .i64 x.entry.rank, V.int .i64 x.entry.beat, V.int .i64 x.entry.ver, V.str x.entry.data] = x.c := rfl
theorem item_sing (x : Item) : [x.c] = rw_ Item.c [x] := rfl
theorem floor_fold (x : Floor) : [V.int .i64 x.id, V.int .i64 x.inc] = x.c := rfl
theorem floor_sing (x : Floor) : [x.c] = rw_ Floor.c [x] := rfl
set_option maxHeartbeats 4000000 in
theorem specL6Slice_ok (a : State) (ls : List Int) (h1 : a.items.length ≤ 1048576) (h2 : a.floors.length ≤ 1048576) (h3 : ls.length ≤ 1048576) : FS Tryz.prog 159 [] [.agg a.c, .fz 1 (rw_ intC ls)] (.agg (sliceS a ls).c) [] := by
  refine FS.of (X := X159) (ac := A159) (os := O159) Tryz.func159 (by rfl) (by rfl) (by kernel_rfl) o159 (Nat.le_of_ble_eq_true rfl) ?_
  show AWP X159 A159 (Ends X159.vs O159 0 _ _) [.agg a.c, .fz 1 (rw_ intC ls), .tup [], .tup [], .tup [], .tup [], .tup [], .tup [], .tup [], .tup [], .tup []] []
  obtain ⟨Q, hQ⟩ : ∃ Q, Q = Ends X159.vs O159 0 (.agg (sliceS a ls).c) [] := ⟨_, rfl⟩
  rw [← hQ]
  refine awp_sr ?_
  simp only [go_sem, R159_0, v159, p159, State.c]
  refine awp_sr ?_
  simp only [go_sem, R159_1, v159, p159]
  refine awp_sr2 ?_
  simp only [go_sem, R159_2, v159, p159]
  obtain ⟨I, hI⟩ : ∃ I : Nat → List V → Store → Prop, I = fun mM L σ => ∃ i c τ y0 y7 y13 y24 y39 y50, a.items.length - i = mM ∧ (i ≤ a.items.length ∧ τ[0]? = some (.live ⟨2, [a.c]⟩) ∧ τ[1]? = some (.live ⟨2, [[.nl, .nl]]⟩) ∧ τ[2]? = some (.live ⟨2, [[c, .nl]]⟩) ∧ Own τ 6 c (rw_ Item.c ((a.items.take i).filter fun x => inLs ls x.id))) ∧ L = [y0, .fz 1 (rw_ intC ls), .ptr 0 2 0 0, .ptr 1 2 0 0, .ptr 2 2 0 0, .int .i64 (i : Nat), y7, y13, y24, y39, y50] ∧ σ = τ := ⟨_, rfl⟩
  first | refine awp_for I (a.items.length) ?_ ?_ | refine awp_seq (awp_for I (a.items.length) ?_ ?_)
  · rw [hI]
    refine ⟨0, .nl, _, _, _, _, _, _, _, rfl, ?_, rfl, rfl⟩
    exact ⟨Nat.zero_le _, rfl, rfl, rfl, .inl ⟨rfl, rfl⟩⟩
  intro mM L σ hIn
  rw [hI] at hIn
  obtain ⟨i, c, τ, y0, y7, y13, y24, y39, y50, rfl, hP, rfl, rfl⟩ := hIn
  obtain ⟨hi, g0, g1, g2, hc⟩ := hP
  refine awp_sr2 ?_
  simp only [go_sem, R159_3, v159, p159, get_app g0, g0, State.c]
  refine awp_if rfl ?_ ?_
  · intro h4
    have h4 : i < a.items.length := by omega
    have e1 := filter_take (fun x => inLs ls x.id) h4
    have e2 := filter_take_le (fun x : Item => inLs ls x.id) a.items i
    refine awp_skip ?_
    simp only [go_sem]
    refine awp_seq (awp_block ?_)
    refine awp_sr ?_
    simp only [go_sem, R159_4, v159, p159, get_app g0, g0, State.c, rw_at _ h4, Item.c]
    refine run_see (specLeafOf_ok _) false (Views.refl rfl) rfl (fun j hj => by first | omega | ((have hj0 : j = 0 := by omega); subst hj0; first | rfl | (simp only [Nat.add_zero, app_get, app_getk, sapp_get, sapp_getk, Nat.add_assoc, Nat.reduceAdd, List.getElem?_cons_zero, List.getElem?_cons_succ]; done) | simp)) (fun h => by cases h) ?_
    simp only [go_sem, v159, p159]
    refine run_see (specL1Has_ok ls _ h3) false (Views.refl rfl) rfl (fun j hj => by first | omega | ((have hj0 : j = 0 := by omega); subst hj0; first | rfl | (simp only [Nat.add_zero, app_get, app_getk, sapp_get, sapp_getk, Nat.add_assoc, Nat.reduceAdd, List.getElem?_cons_zero, List.getElem?_cons_succ]; done) | simp)) (fun h => by cases h) ?_
    simp only [go_sem, v159, p159]
    obtain ⟨K1, hK1⟩ : ∃ K : List V → Store → Prop, K = fun L σ => ∃ τ' y0 y7 y13 y24 y39 y50, L = [y0, .fz 1 (rw_ intC ls), .ptr 0 2 0 0, .ptr 1 2 0 0, .ptr 2 2 0 0, .int .i64 (i : Nat), y7, y13, y24, y39, y50] ∧ σ = τ' ∧ ∃ c', τ'[0]? = some (.live ⟨2, [a.c]⟩) ∧ τ'[1]? = some (.live ⟨2, [[.nl, .nl]]⟩) ∧ τ'[2]? = some (.live ⟨2, [[c', .nl]]⟩) ∧ Own τ' 6 c' (rw_ Item.c ((a.items.take (i + 1)).filter fun x => inLs ls x.id)) := ⟨_, rfl⟩
    refine awp_K K1 ?_ ?_
    · refine awp_if rfl ?_ ?_
      · intro h5
        rw [if_pos (show inLs ls a.items[i].id = true from decide_eq_true h5)] at e1
        rcases hc with ⟨rfl, hn⟩ | ⟨o, n, rfl, hn, ho⟩
        · refine awp_dw [] mixed rfl ?_
          simp only [go_sem, R159_5, v159, p159, labOk_2, labOk_3, labOk_4, labOk_5, AO.touch, AO.sh, AR.sh, V.ids, V.idsL, List.mem_singleton, forall_eq, List.not_mem_nil, false_implies, implies_true, List.mem_cons, or_false, Nat.reduceLT, Nat.zero_lt_one, Nat.zero_ne_one, get_app g0, get_app g2, State.c, rw_at _ h4, Item.c, set_app g2]
          refine ⟨get_lt g2, ?_⟩
          have hn : (a.items.take i).filter (fun x => inLs ls x.id) = [] := by simpa [rw_] using hn
          rw [hn, List.nil_append] at e1
          rw [e1] at hK1
          rw [hK1]
          refine ⟨_, _, _, _, _, _, _, rfl, rfl, ?_⟩
          exact ⟨_, keep_get g0 (by omega), keep_get g1 (by omega), set_get g2 _, .inr ⟨σ.length + 1, 1, rfl, rfl, by rw [sapp_getk]; rfl⟩⟩
        · rw [rw_len] at hn
          subst hn
          have n0 : o ≠ 0 := get_ne g0 ho (slot_ne (by omega))
          have n1 : o ≠ 1 := get_ne g1 ho (slot_ne (by omega))
          have n2 : o ≠ 2 := get_ne g2 ho (slot_ne (by omega))
          refine awp_dw [] mixed rfl ?_
          simp only [go_sem, R159_5, v159, p159, labOk_2, labOk_3, labOk_4, labOk_5, AO.touch, AO.sh, AR.sh, V.ids, V.idsL, List.mem_singleton, forall_eq, List.not_mem_nil, false_implies, implies_true, List.mem_cons, or_false, Nat.reduceLT, Nat.zero_lt_one, Nat.zero_ne_one, get_app g0, get_app g2, State.c, rw_at _ h4, Item.c, get_app ho, set_app ho]
          refine ⟨get_lt g2, by omega, ?_⟩
          simp only [go_sem, v159, p159, item_fold, item_sing, keep_get g2 n2, set_app (keep_set g2 n2)]
          rw [← e1]
          rw [hK1]
          refine ⟨_, _, _, _, _, _, _, rfl, rfl, ?_⟩
          refine ⟨_, keep2_get g0 n0 (by omega), keep2_get g1 n1 (by omega), set2_get g2 n2 _, .inr ⟨σ.length + 1, _, rfl, ?_, by rw [sapp2_getk]; rfl⟩⟩
          rw [rw_len, e1]
          simp
      · intro h5
        rw [if_neg (show ¬ inLs ls a.items[i].id = true by unfold inLs; simpa using h5)] at e1
        refine awp_skip ?_
        simp only [go_sem]
        rw [← e1] at hc
        rw [hK1]
        refine ⟨_, _, _, _, _, _, _, rfl, rfl, ?_⟩
        exact ⟨c, g0, g1, g2, hc⟩
    · intro L σ hq
      rw [hK1] at hq
      obtain ⟨τ', y0, y7, y13, y24, y39, y50, rfl, rfl, hq⟩ := hq
      obtain ⟨c', g0, g1, g2, hc⟩ := hq
      simp only [go_sem, v159, p159]
      refine awp_reg ?_
      simp only [go_sem, R159_6, v159, p159, wrap_succ (i := i) (by omega)]
      refine ⟨a.items.length - (i + 1), ?_, ?_⟩
      rotate_left
      rw [hI]
      refine ⟨i + 1, c', _, _, _, _, _, _, _, rfl, ?_, rfl, rfl⟩
      · exact ⟨by omega, g0, g1, g2, hc⟩
      · omega
  · intro h4
    refine awp_exit ?_
    simp only [go_sem]
    have : i = a.items.length := by omega
    subst this
    rw [List.take_length] at hc
    clear hI
    refine awp_sr2 ?_
    simp only [go_sem, R159_7, v159, p159]
    obtain ⟨J, hJ⟩ : ∃ J : Nat → List V → Store → Prop, J = fun mM L σ => ∃ i d τ y0 y6 y13 y24 y39 y50, a.floors.length - i = mM ∧ (i ≤ a.floors.length ∧ τ[0]? = some (.live ⟨2, [a.c]⟩) ∧ τ[1]? = some (.live ⟨2, [[.nl, .nl]]⟩) ∧ τ[2]? = some (.live ⟨2, [[c, d]]⟩) ∧ Own τ 6 c (rw_ Item.c (a.items.filter fun x => inLs ls x.id)) ∧ Own τ 2 d (rw_ Floor.c ((a.floors.take i).filter fun x => inLs ls x.id)) ∧ Above 2 d) ∧ L = [y0, .fz 1 (rw_ intC ls), .ptr 0 2 0 0, .ptr 1 2 0 0, .ptr 2 2 0 0, y6, .int .i64 (i : Nat), y13, y24, y39, y50] ∧ σ = τ := ⟨_, rfl⟩
    first | refine awp_for J (a.floors.length) ?_ ?_ | refine awp_seq (awp_for J (a.floors.length) ?_ ?_)
    · rw [hJ]
      refine ⟨0, .nl, _, _, _, _, _, _, _, rfl, ?_, rfl, rfl⟩
      exact ⟨Nat.zero_le _, g0, g1, g2, hc, .inl ⟨rfl, rfl⟩, .nl 2⟩
    intro mM L σ hIn
    rw [hJ] at hIn
    obtain ⟨i, d, τ, y0, y6, y13, y24, y39, y50, rfl, hP, rfl, rfl⟩ := hIn
    obtain ⟨hi, g0, g1, g2, hc, hd, hab⟩ := hP
    have c2 := hc.ne g2 (by omega)
    refine awp_sr2 ?_
    simp only [go_sem, R159_8, v159, p159, get_app g0, g0, State.c]
    refine awp_if rfl ?_ ?_
    · intro h4
      have h4 : i < a.floors.length := by omega
      have e1 := filter_take (fun x => inLs ls x.id) h4
      have e2 := filter_take_le (fun x : Floor => inLs ls x.id) a.floors i
      refine awp_skip ?_
      simp only [go_sem]
      refine awp_seq (awp_block ?_)
      refine awp_sr ?_
      simp only [go_sem, R159_9, v159, p159, get_app g0, g0, State.c, rw_at _ h4, Floor.c]
      refine run_see (specLeafOf_ok _) false (Views.refl rfl) rfl (fun j hj => by first | omega | ((have hj0 : j = 0 := by omega); subst hj0; first | rfl | (simp only [Nat.add_zero, app_get, app_getk, sapp_get, sapp_getk, Nat.add_assoc, Nat.reduceAdd, List.getElem?_cons_zero, List.getElem?_cons_succ]; done) | simp)) (fun h => by cases h) ?_
      simp only [go_sem, v159, p159]
      refine run_see (specL1Has_ok ls _ h3) false (Views.refl rfl) rfl (fun j hj => by first | omega | ((have hj0 : j = 0 := by omega); subst hj0; first | rfl | (simp only [Nat.add_zero, app_get, app_getk, sapp_get, sapp_getk, Nat.add_assoc, Nat.reduceAdd, List.getElem?_cons_zero, List.getElem?_cons_succ]; done) | simp)) (fun h => by cases h) ?_
      simp only [go_sem, v159, p159]
      obtain ⟨K2, hK2⟩ : ∃ K : List V → Store → Prop, K = fun L σ => ∃ τ' y0 y6 y13 y24 y39 y50, L = [y0, .fz 1 (rw_ intC ls), .ptr 0 2 0 0, .ptr 1 2 0 0, .ptr 2 2 0 0, y6, .int .i64 (i : Nat), y13, y24, y39, y50] ∧ σ = τ' ∧ ∃ d', τ'[0]? = some (.live ⟨2, [a.c]⟩) ∧ τ'[1]? = some (.live ⟨2, [[.nl, .nl]]⟩) ∧ τ'[2]? = some (.live ⟨2, [[c, d']]⟩) ∧ Own τ' 6 c (rw_ Item.c (a.items.filter fun x => inLs ls x.id)) ∧ Own τ' 2 d' (rw_ Floor.c ((a.floors.take (i + 1)).filter fun x => inLs ls x.id)) ∧ Above 2 d' := ⟨_, rfl⟩
      refine awp_K K2 ?_ ?_
      · refine awp_if rfl ?_ ?_
        · intro h5
          rw [if_pos (show inLs ls a.floors[i].id = true from decide_eq_true h5)] at e1
          rcases hd with ⟨rfl, hn⟩ | ⟨o, n, rfl, hn, ho⟩
          · refine awp_dw [] mixed rfl ?_
            simp only [go_sem, R159_10, v159, p159, labOk_2, labOk_3, labOk_4, labOk_5, AO.touch, AO.sh, AR.sh, V.ids, V.idsL, List.mem_singleton, forall_eq, List.not_mem_nil, false_implies, implies_true, List.mem_cons, or_false, Nat.reduceLT, Nat.zero_lt_one, Nat.zero_ne_one, get_app g0, get_app g2, State.c, rw_at _ h4, Floor.c, set_app g2]
            refine ⟨get_lt g2, ?_⟩
            have hn : (a.floors.take i).filter (fun x => inLs ls x.id) = [] := by simpa [rw_] using hn
            rw [hn, List.nil_append] at e1
            rw [e1] at hK2
            rw [hK2]
            refine ⟨_, _, _, _, _, _, _, rfl, rfl, ?_⟩
            have := get_lt g2
            exact ⟨_, keep_get g0 (by omega), keep_get g1 (by omega), set_get g2 _, hc.keep c2, .inr ⟨σ.length + 1, 1, rfl, rfl, by rw [sapp_getk]; rfl⟩, .sl (by omega)⟩
          · rw [rw_len] at hn
            subst hn
            have ab := hab o _ _ _ rfl
            have n0 : o ≠ 0 := by omega
            have n1 : o ≠ 1 := by omega
            have n2 : o ≠ 2 := by omega
            have co := hc.ne ho (by omega)
            refine awp_dw [] mixed rfl ?_
            simp only [go_sem, R159_10, v159, p159, labOk_2, labOk_3, labOk_4, labOk_5, AO.touch, AO.sh, AR.sh, V.ids, V.idsL, List.mem_singleton, forall_eq, List.not_mem_nil, false_implies, implies_true, List.mem_cons, or_false, Nat.reduceLT, Nat.zero_lt_one, Nat.zero_ne_one, get_app g0, get_app g2, State.c, rw_at _ h4, Floor.c, get_app ho, set_app ho]
            refine ⟨get_lt g2, by omega, ?_⟩
            simp only [go_sem, v159, p159, floor_fold, floor_sing, keep_get g2 n2, set_app (keep_set g2 n2)]
            rw [← e1]
            rw [hK2]
            refine ⟨_, _, _, _, _, _, _, rfl, rfl, ?_⟩
            have := get_lt g2
            refine ⟨_, keep2_get g0 n0 (by omega), keep2_get g1 n1 (by omega), set2_get g2 n2 _, hc.keep2 c2 co, .inr ⟨σ.length + 1, _, rfl, ?_, by rw [sapp2_getk]; rfl⟩, .sl (by omega)⟩
            rw [rw_len, e1]
            simp
        · intro h5
          rw [if_neg (show ¬ inLs ls a.floors[i].id = true by unfold inLs; simpa using h5)] at e1
          refine awp_skip ?_
          simp only [go_sem]
          rw [← e1] at hd
          rw [hK2]
          refine ⟨_, _, _, _, _, _, _, rfl, rfl, ?_⟩
          exact ⟨d, g0, g1, g2, hc, hd, hab⟩
      · intro L σ hq
        rw [hK2] at hq
        obtain ⟨τ', y0, y6, y13, y24, y39, y50, rfl, rfl, hq⟩ := hq
        obtain ⟨d', g0, g1, g2, hc, hd, hab⟩ := hq
        simp only [go_sem, v159, p159]
        refine awp_reg ?_
        simp only [go_sem, R159_11, v159, p159, wrap_succ (i := i) (by omega)]
        refine ⟨a.floors.length - (i + 1), ?_, ?_⟩
        rotate_left
        rw [hJ]
        refine ⟨i + 1, d', _, _, _, _, _, _, _, rfl, ?_, rfl, rfl⟩
        · exact ⟨by omega, g0, g1, g2, hc, hd, hab⟩
        · omega
    · intro h4
      refine awp_exit ?_
      simp only [go_sem]
      have : i = a.floors.length := by omega
      subst this
      rw [List.take_length] at hd
      have c1 := hc.ne g1 (by omega)
      have d1 : ∀ o n, d = .sl o 2 0 n → 1 ≠ o := fun o n e => by have := hab o _ _ _ e; omega
      have fc := (hc.keep (ts := []) (y := .live ⟨2, [[c, d]]⟩) c1).frozen (rw_closed Item.c_closed _)
      have fd := (hd.keep (ts := []) (y := .live ⟨2, [[c, d]]⟩) d1).frozen (rw_closed Floor.c_closed _)
      have fin : Q .ret [y0, .fz 1 (rw_ intC ls), .ptr 0 2 0 0, .ptr 1 2 0 0, .ptr 2 2 0 0, y6, .int .i64 (a.floors.length : Nat), y13, y24, .bool (decide ((a.floors.length : Int) < a.floors.length)), y50] (σ.set 1 (.live ⟨2, [[c, d]]⟩) ++ []) := by
        rw [hQ]
        refine Ends.all (.inl rfl) (rs := [.agg [c, d]]) ?_ (.agg _ _ rfl (.cons fc (.cons fd .nil))) rfl
        simp only [go_sem, O159, v159, set_get g1, get_set_same g1]
      rcases hc.shape with rfl | ⟨oc, nc, rfl⟩ <;> rcases hd.shape with rfl | ⟨od, nd, rfl⟩
      all_goals
        refine awp_sr ?_
        simp only [go_sem, R159_12, v159, p159, get_app g2, g2, g1]
        refine awp_ret ?_
        try simp only [go_sem]
        simp only [List.append_nil] at fin
        exact fin
set_option maxHeartbeats 4000000 in
theorem implSlice_ok (a : State) (ls : List Int) (hR : a.Right) (hs : a.sz ≤ 1048576) (h3 : ls.length ≤ 1048576) : FS Tryz.prog 154 [] [.agg a.c, .fz 1 (rw_ intC ls)] (.agg (sliceS a ls).c) [] := by
  refine FS.of (X := X154) (ac := A154) (os := O154) Tryz.func154 (by rfl) (by rfl) (by kernel_rfl) o154 (Nat.le_of_ble_eq_true rfl) ?_
  show AWP X154 A154 (Ends X154.vs O154 0 _ _) [.agg a.c, .fz 1 (rw_ intC ls), .tup [], .tup [], .tup [], .tup [], .tup [], .tup [], .tup [], .tup [], .tup [], .tup [], .tup [], .tup [], .tup [], .tup [], .tup [], .tup []] []
  obtain ⟨Q, hQ⟩ : ∃ Q, Q = Ends X154.vs O154 0 (.agg (sliceS a ls).c) [] := ⟨_, rfl⟩
  rw [← hQ]
  have h1 : a.items.length ≤ 1048576 := by have := State.items_le a; omega
  have h2 : a.floors.length ≤ 1048576 := by have := State.floors_le a; omega
  refine awp_sr ?_
  simp only [go_sem, R154_0, v154, p154, State.c]
  refine awp_sr ?_
  simp only [go_sem, R154_1, v154, p154]
  refine awp_sr2 ?_
  simp only [go_sem, R154_2, v154, p154]
  refine run_see (implStateOk_ok a hs) false (Views.refl rfl) rfl (fun j hj => by first | omega | ((have hj0 : j = 0 := by omega); subst hj0; first | rfl | (simp only [Nat.add_zero, app_get, app_getk, sapp_get, sapp_getk, Nat.add_assoc, Nat.reduceAdd, List.getElem?_cons_zero, List.getElem?_cons_succ]; done) | simp)) (fun h => by cases h) ?_
  simp only [go_sem, v154, p154]
  refine awp_if' rfl (fun h => absurd hR h) ?_
  intro _
  refine awp_skip ?_
  simp only [go_sem]
  refine awp_sr2 ?_
  simp only [go_sem, R154_4, v154, p154, State.c]
  obtain ⟨I, hI⟩ : ∃ I : Nat → List V → Store → Prop, I = fun mM L σ => ∃ i c τ y0 y7 y9 y13 y19 y26 y35 y36 y37 y38 y45, a.items.length - i = mM ∧ (i ≤ a.items.length ∧ τ[0]? = some (.live ⟨2, [a.c]⟩) ∧ τ[1]? = some (.live ⟨2, [[.nl, .nl]]⟩) ∧ τ[2]? = some (.live ⟨2, [[c, .nl]]⟩) ∧ Own τ 6 c (rw_ Item.c ((a.items.take i).filter fun x => inLs ls x.id))) ∧ L = [y0, .fz 1 (rw_ intC ls), .ptr 0 2 0 0, .ptr 1 2 0 0, .ptr 2 2 0 0, y7, y9, y13, .fz 6 (rw_ Item.c a.items), .int .i64 (a.items.length : Nat), .int .i64 (i : Nat), y19, y26, y35, y36, y37, y38, y45] ∧ σ = τ := ⟨_, rfl⟩
  first | refine awp_for I (a.items.length) ?_ ?_ | refine awp_seq (awp_for I (a.items.length) ?_ ?_)
  · rw [hI]
    refine ⟨0, .nl, _, _, _, _, _, _, _, _, _, _, _, _, rfl, ?_, rfl, rfl⟩
    exact ⟨Nat.zero_le _, rfl, rfl, rfl, .inl ⟨rfl, rfl⟩⟩
  intro mM L σ hIn
  rw [hI] at hIn
  obtain ⟨i, c, τ, y0, y7, y9, y13, y19, y26, y35, y36, y37, y38, y45, rfl, hP, rfl, rfl⟩ := hIn
  obtain ⟨hi, g0, g1, g2, hc⟩ := hP
  refine awp_sr ?_
  simp only [go_sem, R154_5, v154, p154]
  refine awp_seq ?_
  refine awp_if rfl ?_ ?_
  · intro h4
    have h4 : i < a.items.length := by omega
    have e1 := filter_take (fun x => inLs ls x.id) h4
    have e2 := filter_take_le (fun x : Item => inLs ls x.id) a.items i
    refine awp_skip ?_
    simp only [go_sem]
    refine awp_seq (awp_block ?_)
    refine awp_sr ?_
    simp only [go_sem, R154_6, v154, p154, rw_at _ h4, Item.c]
    refine awp_sr ?_
    simp only [go_sem, R154_7, v154, p154]
    refine run_see (implLeafOf_ok _) false (Views.refl rfl) rfl (fun j hj => by first | omega | ((have hj0 : j = 0 := by omega); subst hj0; first | rfl | (simp only [Nat.add_zero, app_get, app_getk, sapp_get, sapp_getk, Nat.add_assoc, Nat.reduceAdd, List.getElem?_cons_zero, List.getElem?_cons_succ]; done) | simp)) (fun h => by cases h) ?_
    simp only [go_sem, v154, p154]
    refine run_see (contains_ok ls _ h3) false (Views.refl rfl) rfl (fun j hj => by first | omega | ((have hj0 : j = 0 := by omega); subst hj0; first | rfl | (simp only [Nat.add_zero, app_get, app_getk, sapp_get, sapp_getk, Nat.add_assoc, Nat.reduceAdd, List.getElem?_cons_zero, List.getElem?_cons_succ]; done) | simp)) (fun h => by cases h) ?_
    simp only [go_sem, v154, p154]
    obtain ⟨K3, hK3⟩ : ∃ K : List V → Store → Prop, K = fun L σ => ∃ τ' y0 y7 y9 y13 y19 y26 y35 y36 y37 y38 y45, L = [y0, .fz 1 (rw_ intC ls), .ptr 0 2 0 0, .ptr 1 2 0 0, .ptr 2 2 0 0, y7, y9, y13, .fz 6 (rw_ Item.c a.items), .int .i64 (a.items.length : Nat), .int .i64 (i : Nat), y19, y26, y35, y36, y37, y38, y45] ∧ σ = τ' ∧ ∃ c', τ'[0]? = some (.live ⟨2, [a.c]⟩) ∧ τ'[1]? = some (.live ⟨2, [[.nl, .nl]]⟩) ∧ τ'[2]? = some (.live ⟨2, [[c', .nl]]⟩) ∧ Own τ' 6 c' (rw_ Item.c ((a.items.take (i + 1)).filter fun x => inLs ls x.id)) := ⟨_, rfl⟩
    refine awp_K K3 ?_ ?_
    · refine awp_if rfl ?_ ?_
      · intro h5
        rw [if_pos (show inLs ls a.items[i].id = true from decide_eq_true h5)] at e1
        rcases hc with ⟨rfl, hn⟩ | ⟨o, n, rfl, hn, ho⟩
        · refine awp_reg ?_
          simp only [go_sem, R154_8, v154, p154, get_app g0, get_app g2, State.c, rw_at _ h4, Item.c, set_app g2]
          try refine ⟨get_lt g2, ?_⟩
          have hn : (a.items.take i).filter (fun x => inLs ls x.id) = [] := by simpa [rw_] using hn
          rw [hn, List.nil_append] at e1
          rw [e1] at hK3
          rw [hK3]
          refine ⟨_, _, _, _, _, _, _, _, _, _, _, _, rfl, rfl, ?_⟩
          exact ⟨_, keep_get g0 (by omega), keep_get g1 (by omega), set_get g2 _, .inr ⟨σ.length + 2, 1, rfl, rfl, by rw [sapp_getk]; rfl⟩⟩
        · rw [rw_len] at hn
          subst hn
          have n0 : o ≠ 0 := get_ne g0 ho (slot_ne (by omega))
          have n1 : o ≠ 1 := get_ne g1 ho (slot_ne (by omega))
          have n2 : o ≠ 2 := get_ne g2 ho (slot_ne (by omega))
          refine awp_reg ?_
          simp only [go_sem, R154_8, v154, p154, get_app g0, get_app g2, State.c, rw_at _ h4, Item.c, get_app ho, set_app ho]
          refine ⟨by omega, ?_⟩
          simp only [go_sem, v154, p154, item_fold, item_sing, keep_get g2 n2, set_app (keep_set g2 n2)]
          rw [← e1]
          rw [hK3]
          refine ⟨_, _, _, _, _, _, _, _, _, _, _, _, rfl, rfl, ?_⟩
          refine ⟨_, keep2_get g0 n0 (by omega), keep2_get g1 n1 (by omega), set2_get g2 n2 _, .inr ⟨σ.length + 2, _, rfl, ?_, by rw [sapp2_getk]; rfl⟩⟩
          rw [rw_len, e1]
          simp
      · intro h5
        rw [if_neg (show ¬ inLs ls a.items[i].id = true by unfold inLs; simpa using h5)] at e1
        refine awp_skip ?_
        simp only [go_sem]
        rw [← e1] at hc
        rw [hK3]
        refine ⟨_, _, _, _, _, _, _, _, _, _, _, _, rfl, rfl, ?_⟩
        exact ⟨c, get_app g0, get_app g1, get_app g2, hc.app⟩
    · intro L σ hq
      rw [hK3] at hq
      obtain ⟨τ', y0, y7, y9, y13, y19, y26, y35, y36, y37, y38, y45, rfl, rfl, hq⟩ := hq
      obtain ⟨c', g0, g1, g2, hc⟩ := hq
      simp only [go_sem, v154, p154]
      refine awp_reg ?_
      simp only [go_sem, R154_9, v154, p154, wrap_succ (i := i) (by omega)]
      refine ⟨a.items.length - (i + 1), ?_, ?_⟩
      rotate_left
      rw [hI]
      refine ⟨i + 1, c', _, _, _, _, _, _, _, _, _, _, _, _, rfl, ?_, rfl, rfl⟩
      · exact ⟨by omega, g0, g1, g2, hc⟩
      · omega
  · intro h4
    refine awp_exit ?_
    simp only [go_sem]
    have : i = a.items.length := by omega
    subst this
    rw [List.take_length] at hc
    clear hI
    refine awp_sr2 ?_
    simp only [go_sem, R154_10, v154, p154, get_app g0, g0, State.c]
    obtain ⟨J, hJ⟩ : ∃ J : Nat → List V → Store → Prop, J = fun mM L σ => ∃ i d τ y0 y7 y9 y13 y16 y17 y18 y19 y26 y38 y45, a.floors.length - i = mM ∧ (i ≤ a.floors.length ∧ τ[0]? = some (.live ⟨2, [a.c]⟩) ∧ τ[1]? = some (.live ⟨2, [[.nl, .nl]]⟩) ∧ τ[2]? = some (.live ⟨2, [[c, d]]⟩) ∧ Own τ 6 c (rw_ Item.c (a.items.filter fun x => inLs ls x.id)) ∧ Own τ 2 d (rw_ Floor.c ((a.floors.take i).filter fun x => inLs ls x.id)) ∧ Above 2 d) ∧ L = [y0, .fz 1 (rw_ intC ls), .ptr 0 2 0 0, .ptr 1 2 0 0, .ptr 2 2 0 0, y7, y9, y13, y16, y17, y18, y19, y26, .fz 2 (rw_ Floor.c a.floors), .int .i64 (a.floors.length : Nat), .int .i64 (i : Nat), y38, y45] ∧ σ = τ := ⟨_, rfl⟩
    first | refine awp_for J (a.floors.length) ?_ ?_ | refine awp_seq (awp_for J (a.floors.length) ?_ ?_)
    · rw [hJ]
      refine ⟨0, .nl, _, _, _, _, _, _, _, _, _, _, _, _, rfl, ?_, rfl, rfl⟩
      exact ⟨Nat.zero_le _, g0, g1, g2, hc, .inl ⟨rfl, rfl⟩, .nl 2⟩
    intro mM L σ hIn
    rw [hJ] at hIn
    obtain ⟨i, d, τ, y0, y7, y9, y13, y16, y17, y18, y19, y26, y38, y45, rfl, hP, rfl, rfl⟩ := hIn
    obtain ⟨hi, g0, g1, g2, hc, hd, hab⟩ := hP
    have c2 := hc.ne g2 (by omega)
    refine awp_sr ?_
    simp only [go_sem, R154_11, v154, p154]
    refine awp_seq ?_
    refine awp_if rfl ?_ ?_
    · intro h4
      have h4 : i < a.floors.length := by omega
      have e1 := filter_take (fun x => inLs ls x.id) h4
      have e2 := filter_take_le (fun x : Floor => inLs ls x.id) a.floors i
      refine awp_skip ?_
      simp only [go_sem]
      refine awp_seq (awp_block ?_)
      refine awp_sr ?_
      simp only [go_sem, R154_12, v154, p154, rw_at _ h4, Floor.c]
      refine awp_sr ?_
      simp only [go_sem, R154_13, v154, p154]
      refine run_see (implLeafOf_ok _) false (Views.refl rfl) rfl (fun j hj => by first | omega | ((have hj0 : j = 0 := by omega); subst hj0; first | rfl | (simp only [Nat.add_zero, app_get, app_getk, sapp_get, sapp_getk, Nat.add_assoc, Nat.reduceAdd, List.getElem?_cons_zero, List.getElem?_cons_succ]; done) | simp)) (fun h => by cases h) ?_
      simp only [go_sem, v154, p154]
      refine run_see (contains_ok ls _ h3) false (Views.refl rfl) rfl (fun j hj => by first | omega | ((have hj0 : j = 0 := by omega); subst hj0; first | rfl | (simp only [Nat.add_zero, app_get, app_getk, sapp_get, sapp_getk, Nat.add_assoc, Nat.reduceAdd, List.getElem?_cons_zero, List.getElem?_cons_succ]; done) | simp)) (fun h => by cases h) ?_
      simp only [go_sem, v154, p154]
      obtain ⟨K4, hK4⟩ : ∃ K : List V → Store → Prop, K = fun L σ => ∃ τ' y0 y7 y9 y13 y16 y17 y18 y19 y26 y38 y45, L = [y0, .fz 1 (rw_ intC ls), .ptr 0 2 0 0, .ptr 1 2 0 0, .ptr 2 2 0 0, y7, y9, y13, y16, y17, y18, y19, y26, .fz 2 (rw_ Floor.c a.floors), .int .i64 (a.floors.length : Nat), .int .i64 (i : Nat), y38, y45] ∧ σ = τ' ∧ ∃ d', τ'[0]? = some (.live ⟨2, [a.c]⟩) ∧ τ'[1]? = some (.live ⟨2, [[.nl, .nl]]⟩) ∧ τ'[2]? = some (.live ⟨2, [[c, d']]⟩) ∧ Own τ' 6 c (rw_ Item.c (a.items.filter fun x => inLs ls x.id)) ∧ Own τ' 2 d' (rw_ Floor.c ((a.floors.take (i + 1)).filter fun x => inLs ls x.id)) ∧ Above 2 d' := ⟨_, rfl⟩
      refine awp_K K4 ?_ ?_
      · refine awp_if rfl ?_ ?_
        · intro h5
          rw [if_pos (show inLs ls a.floors[i].id = true from decide_eq_true h5)] at e1
          rcases hd with ⟨rfl, hn⟩ | ⟨o, n, rfl, hn, ho⟩
          · refine awp_reg ?_
            simp only [go_sem, R154_14, v154, p154, get_app g0, get_app g2, State.c, rw_at _ h4, Floor.c, set_app g2]
            try refine ⟨get_lt g2, ?_⟩
            have hn : (a.floors.take i).filter (fun x => inLs ls x.id) = [] := by simpa [rw_] using hn
            rw [hn, List.nil_append] at e1
            rw [e1] at hK4
            rw [hK4]
            refine ⟨_, _, _, _, _, _, _, _, _, _, _, _, rfl, rfl, ?_⟩
            have := get_lt g2
            exact ⟨_, keep_get g0 (by omega), keep_get g1 (by omega), set_get g2 _, hc.keep c2, .inr ⟨σ.length + 2, 1, rfl, rfl, by rw [sapp_getk]; rfl⟩, .sl (by omega)⟩
          · rw [rw_len] at hn
            subst hn
            have ab := hab o _ _ _ rfl
            have n0 : o ≠ 0 := by omega
            have n1 : o ≠ 1 := by omega
            have n2 : o ≠ 2 := by omega
            have co := hc.ne ho (by omega)
            refine awp_reg ?_
            simp only [go_sem, R154_14, v154, p154, get_app g0, get_app g2, State.c, rw_at _ h4, Floor.c, get_app ho, set_app ho]
            refine ⟨by omega, ?_⟩
            simp only [go_sem, v154, p154, floor_fold, floor_sing, keep_get g2 n2, set_app (keep_set g2 n2)]
            rw [← e1]
            rw [hK4]
            refine ⟨_, _, _, _, _, _, _, _, _, _, _, _, rfl, rfl, ?_⟩
            have := get_lt g2
            refine ⟨_, keep2_get g0 n0 (by omega), keep2_get g1 n1 (by omega), set2_get g2 n2 _, hc.keep2 c2 co, .inr ⟨σ.length + 2, _, rfl, ?_, by rw [sapp2_getk]; rfl⟩, .sl (by omega)⟩
            rw [rw_len, e1]
            simp
        · intro h5
          rw [if_neg (show ¬ inLs ls a.floors[i].id = true by unfold inLs; simpa using h5)] at e1
          refine awp_skip ?_
          simp only [go_sem]
          rw [← e1] at hd
          rw [hK4]
          refine ⟨_, _, _, _, _, _, _, _, _, _, _, _, rfl, rfl, ?_⟩
          exact ⟨d, get_app g0, get_app g1, get_app g2, hc.app, hd.app, hab⟩
      · intro L σ hq
        rw [hK4] at hq
        obtain ⟨τ', y0, y7, y9, y13, y16, y17, y18, y19, y26, y38, y45, rfl, rfl, hq⟩ := hq
        obtain ⟨d', g0, g1, g2, hc, hd, hab⟩ := hq
        simp only [go_sem, v154, p154]
        refine awp_reg ?_
        simp only [go_sem, R154_15, v154, p154, wrap_succ (i := i) (by omega)]
        refine ⟨a.floors.length - (i + 1), ?_, ?_⟩
        rotate_left
        rw [hJ]
        refine ⟨i + 1, d', _, _, _, _, _, _, _, _, _, _, _, _, rfl, ?_, rfl, rfl⟩
        · exact ⟨by omega, g0, g1, g2, hc, hd, hab⟩
        · omega
    · intro h4
      refine awp_exit ?_
      simp only [go_sem]
      have : i = a.floors.length := by omega
      subst this
      rw [List.take_length] at hd
      have c1 := hc.ne g1 (by omega)
      have d1 : ∀ o n, d = .sl o 2 0 n → 1 ≠ o := fun o n e => by have := hab o _ _ _ e; omega
      have fc := (hc.keep (ts := []) (y := .live ⟨2, [[c, d]]⟩) c1).frozen (rw_closed Item.c_closed _)
      have fd := (hd.keep (ts := []) (y := .live ⟨2, [[c, d]]⟩) d1).frozen (rw_closed Floor.c_closed _)
      have fin : ∀ L, look X154.vs L 4 = .ptr 1 2 0 0 → Q .ret L (σ.set 1 (.live ⟨2, [[c, d]]⟩) ++ []) := by
        intro L hL
        rw [hQ]
        refine Ends.all (.inl rfl) (rs := [.agg [c, d]]) ?_ (.agg _ _ rfl (.cons fc (.cons fd .nil))) rfl
        simp only [go_sem, O154, hL, set_get g1, get_set_same g1]
      rcases hc.shape with rfl | ⟨oc, nc, rfl⟩ <;> rcases hd.shape with rfl | ⟨od, nd, rfl⟩
      all_goals
        refine awp_sr ?_
        simp only [go_sem, R154_16, v154, p154, get_app g2, g2, g1]
        refine awp_ret ?_
        try simp only [go_sem]
        simp only [List.append_nil] at fin
        exact fin _ rfl
end Go.Proofs.YtffigokicddekaaGreat.Abs
/- A state's tree, walked in both texts. No condition. -/
set_option linter.unusedVariables false
set_option linter.unusedSimpArgs false
set_option maxRecDepth 10000
namespace Go.Proofs.YtffigokicddekaaGreat.Abs
open Go Go.Proofs
/-! in rising order: place by place, and pair by pair -/
def Rises {α : Type} (f : α → Int) (xs : List α) : Prop := ∀ (i : Nat) x y, 0 < i → xs[i]? = some x → xs[i - 1]? = some y → f y < f x
theorem rises_pairs {α : Type} {f : α → Int} {xs : List α} (h : Rises f xs) : xs.Pairwise fun a b => f a < f b := by
  rw [List.pairwise_iff_getElem]
  intro i j hi hj hij
  induction j with
  | zero => omega
  | succ j ih =>
    have h1 := h (j + 1) xs[j + 1] xs[j] (by omega) (List.getElem?_eq_getElem hj) (List.getElem?_eq_getElem (by omega))
    rcases Nat.lt_or_ge i j with h2 | h2
    · have := ih (by omega) h2
      omega
    · have : i = j := by omega
      subst this
      exact h1
theorem pairs_rises {α : Type} {f : α → Int} {xs : List α} (h : xs.Pairwise fun a b => f a < f b) : Rises f xs := by
  rw [List.pairwise_iff_getElem] at h
  intro i x y h0 hx hy
  obtain ⟨h1, rfl⟩ := List.getElem?_eq_some_iff.1 hx
  obtain ⟨h2, rfl⟩ := List.getElem?_eq_some_iff.1 hy
  exact h (i - 1) i h2 h1 (by omega)
/-- a right state, said of its parts -/
def State.Sound (s : State) : Prop := (s.items.Pairwise fun a b => a.id < b.id) ∧ (∀ x ∈ s.items, (0 ≤ x.id ∧ x.id ≤ 4) ∧ x.entry.Right ∧ floorOf s x.id < x.entry.inc) ∧
  (s.floors.Pairwise fun a b => a.id < b.id) ∧ ∀ x ∈ s.floors, (0 ≤ x.id ∧ x.id ≤ 4) ∧ (1 ≤ x.inc ∧ x.inc ≤ 1000)
theorem right_sound (s : State) : s.Right ↔ s.Sound := by
  constructor
  · rintro ⟨h1, h2⟩
    refine ⟨rises_pairs fun i x y h0 hx hy => (h1 i x hx).2.1 y h0 hy, fun x hx => ?_, rises_pairs fun i x y h0 hx hy => (h2 i x hx).2.1 y h0 hy, fun x hx => ?_⟩
    · obtain ⟨i, hi⟩ := List.mem_iff_getElem?.1 hx
      obtain ⟨a, _, b, c⟩ := h1 i x hi
      exact ⟨a, b, c⟩
    · obtain ⟨i, hi⟩ := List.mem_iff_getElem?.1 hx
      obtain ⟨a, _, b⟩ := h2 i x hi
      exact ⟨a, b⟩
  · rintro ⟨h1, h2, h3, h4⟩
    refine ⟨fun i x hx => ?_, fun i x hx => ?_⟩
    · obtain ⟨a, b, c⟩ := h2 x (List.mem_of_getElem? hx)
      exact ⟨a, fun y h0 hy => pairs_rises h1 i x y h0 hx hy, b, c⟩
    · obtain ⟨a, b⟩ := h4 x (List.mem_of_getElem? hx)
      exact ⟨a, fun y h0 hy => pairs_rises h3 i x y h0 hx hy, b⟩
theorem floorL_filter {ls : List Int} {id : Int} (h : inLs ls id = true) : ∀ fs : List Floor, floorL (fs.filter fun x => inLs ls x.id) id = floorL fs id
  | [] => rfl
  | f :: fs => by
    by_cases h1 : f.id = id
    · subst h1
      rw [List.filter_cons_of_pos (p := fun x : Floor => inLs ls x.id) h]
      simp only [floorL, if_true]
    · by_cases h2 : inLs ls f.id = true
      · rw [List.filter_cons_of_pos (p := fun x : Floor => inLs ls x.id) h2]
        simp only [floorL, if_neg h1]
        exact floorL_filter h fs
      · rw [List.filter_cons_of_neg (p := fun x : Floor => inLs ls x.id) h2]
        simp only [floorL, if_neg h1]
        exact floorL_filter h fs
theorem slice_right {s : State} (h : s.Right) (ls : List Int) : (sliceS s ls).Right := by
  rw [right_sound] at h ⊢
  obtain ⟨h1, h2, h3, h4⟩ := h
  refine ⟨h1.filter _, fun x hx => ?_, h3.filter _, fun x hx => ?_⟩
  · obtain ⟨hm, hp⟩ := List.mem_filter.1 hx
    obtain ⟨a, b, c⟩ := h2 x hm
    refine ⟨a, b, ?_⟩
    show floorL (s.floors.filter fun x => inLs ls x.id) x.id < _
    rw [floorL_filter hp]
    exact c
  · exact h4 x (List.mem_filter.1 hx).1
theorem sum_filter {α : Type} (f : α → Nat) (p : α → Bool) : ∀ xs : List α, sumBy f (xs.filter p) ≤ sumBy f xs
  | [] => Nat.le_refl _
  | x :: xs => by
    have := sum_filter f p xs
    unfold sumBy at *
    by_cases h : p x = true
    · rw [List.filter_cons_of_pos h]; simp only [List.map_cons, List.sum_cons]; omega
    · rw [List.filter_cons_of_neg h]; simp only [List.map_cons, List.sum_cons]; omega
theorem slice_sz (s : State) (ls : List Int) : (sliceS s ls).sz ≤ s.sz := by
  have h1 := List.length_filter_le (fun x : Item => inLs ls x.id) s.items
  have h2 := List.length_filter_le (fun x : Floor => inLs ls x.id) s.floors
  have h3 := sum_filter Item.sz (fun x : Item => inLs ls x.id) s.items
  unfold State.sz szS sliceS
  dsimp only
  omega
def R108_0 : List AR := [⟨(some 2), none, 0, (.box 0 2 (.t 0))⟩, ⟨(some 4), none, 0, (.mov (.k (.int .i64 0)))⟩]
def R108_1 : List AR := [⟨(some 5), none, 0, (.load 2 true (.t 2))⟩, ⟨(some 6), none, 0, (.call false 0 0 94 [(.t 5)])⟩, ⟨(some 7), none, 0, (.not (.t 6))⟩, ⟨(some 8), none, 0, (.mov (.t 7))⟩, ⟨(some 9), (some (8, false)), 0, (.mov (.t 1))⟩, ⟨(some 10), (some (8, false)), 0, (.call false 0 0 52 [(.t 9), (.k (.int .i64 0)), (.k (.int .i64 3))])⟩, ⟨(some 11), (some (8, false)), 0, (.not (.t 10))⟩, ⟨(some 12), none, 0, (.pick (.t 8) (.k (.bool true)) (.t 11))⟩]
def R108_2 : List AR := [⟨(some 4), none, 0, (.mov (.k (.int .i64 0)))⟩]
def R108_3 : List AR := [⟨(some 13), none, 0, (.load 2 true (.t 2))⟩, ⟨(some 14), none, 0, (.mov (.t 1))⟩, ⟨(some 15), none, 0, (.bslice 0 1 1 [(.int .i64 0)] [(0, (.t 14))])⟩, ⟨(some 16), none, 0, (.call false 1 0 159 [(.t 13), (.t 15)])⟩, ⟨(some 17), none, 0, (.call false 1 0 158 [(.t 16)])⟩, ⟨(some 18), none, 0, (.call false 1 0 157 [(.t 17)])⟩, ⟨(some 19), none, 0, (.bin .rem (.t 18) (.k (.int .i64 1024)))⟩, ⟨(some 4), none, 0, (.mov (.t 19))⟩]
def A108_0 : AC := (.seq (.reg 1 R108_3) .ret)
def A108_1 : AC := (.seq (.seq (.reg 0 R108_1) (.cond (.t 12) (.seq (.reg 0 R108_2) .ret) .skip)) A108_0)
def A108 : AC := (.seq (.reg 1 R108_0) A108_1)
def O108 : List AO := [(.mov (.t 4))]
def G108 : Fns := ⟨fun f => false, fun f => 0, false⟩
noncomputable def X108 : Cx := ⟨Tryz.prog, G108, drawD, 20, [0, 1, 2, 4, 12]⟩
theorem c108 : (Tryz.f108.body).bind (compC X108.P X108.Γ X108.D X108.nt) = some A108 := by kernel_rfl
theorem o108 : compRes X108.P Tryz.f108.results.toList = some O108 := by kernel_rfl
theorem v108 : X108.vs = [0, 1, 2, 4, 12] := rfl
theorem p108 : X108.P = Tryz.prog := rfl
def R106_0 : List AR := [⟨(some 2), none, 0, (.box 0 2 (.t 0))⟩, ⟨(some 4), none, 0, (.mov (.k (.int .i64 0)))⟩]
def R106_1 : List AR := [⟨(some 5), none, 0, (.load 2 true (.t 2))⟩, ⟨(some 6), none, 0, (.call false 0 0 63 [(.t 5)])⟩, ⟨(some 7), none, 0, (.not (.t 6))⟩, ⟨(some 8), none, 0, (.mov (.t 7))⟩, ⟨(some 9), (some (8, false)), 0, (.mov (.t 1))⟩, ⟨(some 10), (some (8, false)), 0, (.call false 0 0 49 [(.t 9), (.k (.int .i64 0)), (.k (.int .i64 3))])⟩, ⟨(some 11), (some (8, false)), 0, (.not (.t 10))⟩, ⟨(some 12), none, 0, (.pick (.t 8) (.k (.bool true)) (.t 11))⟩]
def R106_2 : List AR := [⟨(some 4), none, 0, (.mov (.k (.int .i64 0)))⟩]
def R106_3 : List AR := [⟨(some 13), none, 0, (.load 2 true (.t 2))⟩, ⟨(some 14), none, 0, (.mov (.t 1))⟩, ⟨(some 15), none, 0, (.bslice 0 1 1 [(.int .i64 0)] [(0, (.t 14))])⟩, ⟨(some 16), none, 0, (.call false 1 0 154 [(.t 13), (.t 15)])⟩, ⟨(some 17), none, 0, (.call false 1 0 153 [(.t 16)])⟩, ⟨(some 18), none, 0, (.call false 1 0 152 [(.t 17)])⟩, ⟨(some 19), none, 0, (.bin .rem (.t 18) (.k (.int .i64 1024)))⟩, ⟨(some 4), none, 0, (.mov (.t 19))⟩]
def A106_0 : AC := (.seq (.reg 1 R106_3) .ret)
def A106_1 : AC := (.seq (.seq (.reg 0 R106_1) (.cond (.t 12) (.seq (.reg 0 R106_2) .ret) .skip)) A106_0)
def A106 : AC := (.seq (.reg 1 R106_0) A106_1)
def O106 : List AO := [(.mov (.t 4))]
def G106 : Fns := ⟨fun f => false, fun f => 0, false⟩
noncomputable def X106 : Cx := ⟨Tryz.prog, G106, drawD, 20, [0, 1, 2, 4, 12]⟩
theorem c106 : (Tryz.f106.body).bind (compC X106.P X106.Γ X106.D X106.nt) = some A106 := by kernel_rfl
theorem o106 : compRes X106.P Tryz.f106.results.toList = some O106 := by kernel_rfl
theorem v106 : X106.vs = [0, 1, 2, 4, 12] := rfl
theorem p106 : X106.P = Tryz.prog := rfl
def R109_0 : List AR := [⟨(some 2), none, 0, (.mov (.k (.int .i64 0)))⟩]
def R109_1 : List AR := [⟨(some 5), none, 0, (.bslice 0 1 0 [(.int .u8 0)] [])⟩, ⟨(some 3), none, 0, (.mov (.t 5))⟩]
def R109_2 : List AR := [⟨(some 4), none, 0, (.mov (.k (.int .i64 0)))⟩]
def R109_3 : List AR := [⟨(some 6), none, 0, (.mov (.t 4))⟩, ⟨(some 7), none, 0, (.mov (.t 0))⟩, ⟨(some 8), none, 0, (.len (.t 7))⟩, ⟨(some 9), none, 0, (.bin .lss (.t 6) (.t 8))⟩]
def R109_4 : List AR := [⟨(some 12), none, 0, (.mov (.t 3))⟩, ⟨(some 13), none, 0, (.mov (.t 0))⟩, ⟨(some 14), none, 0, (.mov (.t 4))⟩, ⟨(some 15), none, 0, (.iaddr 1 (.t 13) (.t 14))⟩, ⟨(some 16), none, 0, (.load 1 false (.t 15))⟩, ⟨(some 17), none, 0, (.call false 0 0 160 [(.t 16)])⟩, ⟨(some 18), none, 0, (.app 0 1 1 (.t 12) (.t 17))⟩, ⟨(some 3), none, 0, (.mov (.t 18))⟩]
def R109_5 : List AR := [⟨(some 10), none, 0, (.mov (.t 4))⟩, ⟨(some 11), none, 0, (.bin .add (.t 10) (.k (.int .i64 1)))⟩, ⟨(some 4), none, 0, (.mov (.t 11))⟩]
def A109_0 : AC := (.seq (.block 1 (.reg 1 R109_4)) (.reg 0 R109_5))
def L109_0 : AC := (.seq (.seq (.reg 0 R109_3) (.cond (.t 9) .skip (.exit 0))) A109_0)
def R109_6 : List AR := [⟨(some 19), none, 0, (.mov (.t 3))⟩, ⟨(some 20), none, 0, (.call false 0 0 157 [(.t 19)])⟩, ⟨(some 21), none, 0, (.bin .rem (.t 20) (.k (.int .i64 1024)))⟩, ⟨(some 2), none, 0, (.mov (.t 21))⟩]
def A109_1 : AC := (.seq (.reg 0 R109_6) .ret)
def A109_2 : AC := (.seq (.seq (.reg 0 R109_2) (.block 0 (.loop L109_0))) A109_1)
def A109_3 : AC := (.seq (.reg 1 R109_1) A109_2)
def A109 : AC := (.seq (.reg 0 R109_0) A109_3)
def O109 : List AO := [(.mov (.t 2))]
def G109 : Fns := ⟨fun f => false, fun f => 0, false⟩
noncomputable def X109 : Cx := ⟨Tryz.prog, G109, drawD, 22, [0, 2, 3, 4, 9]⟩
theorem c109 : (Tryz.f109.body).bind (compC X109.P X109.Γ X109.D X109.nt) = some A109 := by kernel_rfl
theorem o109 : compRes X109.P Tryz.f109.results.toList = some O109 := by kernel_rfl
theorem v109 : X109.vs = [0, 2, 3, 4, 9] := rfl
theorem p109 : X109.P = Tryz.prog := rfl
def R107_0 : List AR := [⟨(some 2), none, 0, (.mov (.k (.int .i64 0)))⟩]
def R107_1 : List AR := [⟨(some 6), none, 0, (.bslice 0 1 0 [(.int .u8 0)] [])⟩, ⟨(some 3), none, 0, (.mov (.t 6))⟩]
def R107_2 : List AR := [⟨(some 7), none, 0, (.mov (.t 0))⟩, ⟨(some 8), none, 0, (.len (.t 7))⟩, ⟨(some 9), none, 0, (.mov (.k (.int .i64 0)))⟩]
def R107_3 : List AR := [⟨(some 10), none, 0, (.bin .lss (.t 9) (.t 8))⟩]
def R107_4 : List AR := [⟨(some 11), none, 0, (.iaddr 1 (.t 7) (.t 9))⟩, ⟨(some 12), none, 0, (.load 1 false (.t 11))⟩, ⟨(some 5), none, 0, (.mov (.t 12))⟩]
def R107_5 : List AR := [⟨(some 13), none, 0, (.mov (.t 3))⟩, ⟨(some 14), none, 0, (.mov (.t 5))⟩, ⟨(some 15), none, 0, (.call false 0 0 156 [(.t 14)])⟩, ⟨(some 16), none, 0, (.bslice 0 1 2 [.nl] [(0, (.t 13)), (1, (.t 15))])⟩, ⟨(some 17), none, 0, (.call false 1 1 155 [(.t 16)])⟩, ⟨(some 3), none, 0, (.mov (.t 17))⟩]
def R107_6 : List AR := [⟨(some 18), none, 0, (.bin .add (.t 9) (.k (.int .i64 1)))⟩, ⟨(some 9), none, 0, (.mov (.t 18))⟩]
def A107_0 : AC := (.seq (.block 1 (.seq (.reg 0 R107_4) (.reg 2 R107_5))) (.reg 0 R107_6))
def A107_1 : AC := (.seq (.cond (.t 10) .skip (.exit 0)) A107_0)
def L107_0 : AC := (.seq (.reg 0 R107_3) A107_1)
def R107_7 : List AR := [⟨(some 19), none, 0, (.mov (.t 3))⟩, ⟨(some 20), none, 0, (.call false 0 0 152 [(.t 19)])⟩, ⟨(some 21), none, 0, (.bin .rem (.t 20) (.k (.int .i64 1024)))⟩, ⟨(some 2), none, 0, (.mov (.t 21))⟩]
def A107_2 : AC := (.seq (.reg 0 R107_7) .ret)
def A107_3 : AC := (.seq (.seq (.reg 0 R107_2) (.block 0 (.loop L107_0))) A107_2)
def A107_4 : AC := (.seq (.reg 1 R107_1) A107_3)
def A107 : AC := (.seq (.reg 0 R107_0) A107_4)
def O107 : List AO := [(.mov (.t 2))]
def G107 : Fns := ⟨fun f => false, fun f => if f = 155 then 1 else 0, false⟩
noncomputable def X107 : Cx := ⟨Tryz.prog, G107, drawD, 22, [0, 2, 3, 5, 7, 8, 9, 10]⟩
theorem c107 : (Tryz.f107.body).bind (compC X107.P X107.Γ X107.D X107.nt) = some A107 := by kernel_rfl
theorem o107 : compRes X107.P Tryz.f107.results.toList = some O107 := by kernel_rfl
theorem v107 : X107.vs = [0, 2, 3, 5, 7, 8, 9, 10] := rfl
theorem p107 : X107.P = Tryz.prog := rfl
noncomputable def leafSum (s : State) (k : Int) : Int := if s.Right ∧ 0 ≤ k ∧ k ≤ 3 then ((crc (stateB (sliceS s [k])) % 1024 : Nat) : Int) else 0
noncomputable instance (s : State) (k : Int) : Decidable (s.Right ∧ 0 ≤ k ∧ k ≤ 3) := Classical.propDecidable _
theorem leafSum_fit (s : State) (k : Int) : 0 ≤ leafSum s k ∧ leafSum s k ≤ 1023 := by
  unfold leafSum
  split <;> omega
theorem stateB_len1 {s : State} (h : s.Fit) : (stateB s).length ≤ 100000000 := by
  obtain ⟨hf1, hf2, hl1, hl2⟩ := h
  have h5 := putNum_5 (n := s.items.length) (by omega)
  have h6 := putNum_5 (n := s.floors.length) (by omega)
  have hb1 := cat_len itemB (xs := s.items) fun x hx => itemB_len (hf1 x hx)
  have hb2 := cat_len floorB (xs := s.floors) fun x hx => floorB_len (hf2 x hx)
  unfold stateB
  simp only [List.length_append]
  omega
theorem specLeafSum_ok (s : State) (k : Int) (h : s.sz ≤ 1048576) : FS Tryz.prog 108 [] [.agg s.c, .int .i64 k] (.int .i64 (leafSum s k)) [] := by
  refine FS.of (X := X108) (ac := A108) (os := O108) Tryz.func108 (by rfl) (by rfl) (by kernel_rfl) o108 (Nat.le_of_ble_eq_true rfl) ?_
  show AWP X108 A108 (Ends X108.vs O108 0 _ _) [.agg s.c, .int .i64 k, .tup [], .tup [], .tup []] []
  obtain ⟨Q, hQ⟩ : ∃ Q, Q = Ends X108.vs O108 0 (.int .i64 (leafSum s k)) [] := ⟨_, rfl⟩
  rw [← hQ]
  have fin : ∀ L σ vV, resVs O108 (look X108.vs L) σ = some [vV] → vV = (.int .i64 (leafSum s k)) → Q .ret L σ := by
    intro L σ vV h1 h2
    rw [hQ]
    exact Ends.is (.inl rfl) h1 (by simp only [packV, h2]) rfl
  refine awp_sr ?_
  simp only [go_sem, R108_0, v108, p108, State.c]
  obtain ⟨K1, hK1⟩ : ∃ K : List V → Store → Prop, K = fun L σ => ∃ q y0 y4, L = [y0, .int .i64 k, .ptr 0 2 0 0, y4, .bool q] ∧ σ = [.live ⟨2, [s.c]⟩] ∧ q = !decide (s.Right ∧ 0 ≤ k ∧ k ≤ 3) := ⟨_, rfl⟩
  refine awp_sr2K (K1) ?_ ?_
  · simp only [go_sem, R108_1, v108, p108]
    repeat' first
      | (refine selP_if rfl (fun hG => ?_) (fun hG => ?_) <;> first | simp only [go_sem, v108, p108, eq_false hG, State.c] | simp only [go_sem, v108, p108, eq_true hG, State.c])
      | (refine selP_ifn rfl (fun hG => ?_) (fun hG => ?_) <;> first | simp only [go_sem, v108, p108, eq_false hG, State.c] | simp only [go_sem, v108, p108, eq_true hG, State.c])
      | (refine selN_if rfl (fun hG => ?_) (fun hG => ?_) <;> first | simp only [go_sem, v108, p108, eq_false hG, State.c] | simp only [go_sem, v108, p108, eq_true hG, State.c])
      | (refine selN_ifn rfl (fun hG => ?_) (fun hG => ?_) <;> first | simp only [go_sem, v108, p108, eq_false hG, State.c] | simp only [go_sem, v108, p108, eq_true hG, State.c])
      | (refine selB_if rfl (fun hG => ?_) (fun hG => ?_) <;> simp only [go_sem, v108, p108, hG, State.c])
      | (refine selB_ifn rfl (fun hG => ?_) (fun hG => ?_) <;> simp only [go_sem, v108, p108, hG, State.c])
      | (refine run_see (specStateOk_ok s h) false (Views.refl rfl) rfl (fun j hj => by omega) (fun h => by cases h) ?_; simp only [go_sem, v108, p108, State.c])
      | (refine run_see (l1In_ok _ _ _) false (Views.refl rfl) rfl (fun j hj => by omega) (fun h => by cases h) ?_; simp only [go_sem, v108, p108, State.c])
    all_goals rw [hK1]
    all_goals refine ⟨_, _, _, rfl, rfl, ?_⟩
    all_goals grind
  intro L σ hq
  rw [hK1] at hq
  obtain ⟨q, y0, y4, rfl, rfl, hq⟩ := hq
  subst hq
  refine awp_if' rfl ?_ ?_
  · intro h1
    refine awp_sr ?_
    simp only [go_sem, R108_2, v108, p108]
    refine awp_ret ?_
    try simp only [go_sem]
    exact fin _ _ (.int .i64 0) rfl (congrArg (V.int .i64) (if_neg h1).symm)
  intro h1
  refine awp_skip ?_
  simp only [go_sem]
  have hr := slice_right h1.1 [k]
  have hz := Nat.le_trans (slice_sz s [k]) h
  have hl := stateB_len1 (hr.fit hz)
  refine awp_srX (runX_split 3 ?_)
  simp only [go_sem, R108_3, v108, p108, State.c, List.take_succ_cons, List.take_zero, List.drop_succ_cons, List.drop_zero]
  refine runX_freeze (o := 1) (ob := ⟨1, [[.int .i64 k]]⟩) rfl (rw_closed (c := intC) intC_closed [k]) ?_
  simp only [go_sem, v108, p108, frz_ptr _ _ _ _ _ (show (0 : Nat) ≠ 1 by omega)]
  refine run_see (specL6Slice_ok s [k] (by have := State.items_le s; omega) (by have := State.floors_le s; omega) (by simp)) false (Views.refl rfl) rfl (fun j hj => by first | omega | ((have hj0 : j = 0 := by omega); subst hj0; first | rfl | (simp only [Nat.add_zero, app_get, app_getk, sapp_get, sapp_getk, Nat.add_assoc, Nat.reduceAdd, List.getElem?_cons_zero, List.getElem?_cons_succ]; done) | simp)) (fun h => by cases h) ?_
  simp only [go_sem, v108, p108]
  refine run_see (specL6Bytes_fz (sliceS s [k]) (hr.fit hz)) false (Views.refl rfl) rfl (fun j hj => by first | omega | ((have hj0 : j = 0 := by omega); subst hj0; first | rfl | (simp only [Nat.add_zero, app_get, app_getk, sapp_get, sapp_getk, Nat.add_assoc, Nat.reduceAdd, List.getElem?_cons_zero, List.getElem?_cons_succ]; done) | simp)) (fun h => by cases h) ?_
  simp only [go_sem, v108, p108]
  refine run_see (specCrc_ok _ (by simp only [lim]; omega)) false (Views.refl rfl) rfl (fun j hj => by first | omega | ((have hj0 : j = 0 := by omega); subst hj0; first | rfl | (simp only [Nat.add_zero, app_get, app_getk, sapp_get, sapp_getk, Nat.add_assoc, Nat.reduceAdd, List.getElem?_cons_zero, List.getElem?_cons_succ]; done) | simp)) (fun h => by cases h) ?_
  simp only [go_sem, v108, p108, show ((crc (stateB (sliceS s [k])) : Int).tmod 1024) = ((crc (stateB (sliceS s [k])) % 1024 : Nat) : Int) from tmod_nat _ 1024]
  refine awp_ret ?_
  try simp only [go_sem]
  exact fin _ _ _ rfl (congrArg (V.int .i64) (if_pos h1).symm)
theorem implLeafSum_ok (s : State) (k : Int) (h : s.sz ≤ 1048576) : FS Tryz.prog 106 [] [.agg s.c, .int .i64 k] (.int .i64 (leafSum s k)) [] := by
  refine FS.of (X := X106) (ac := A106) (os := O106) Tryz.func106 (by rfl) (by rfl) (by kernel_rfl) o106 (Nat.le_of_ble_eq_true rfl) ?_
  show AWP X106 A106 (Ends X106.vs O106 0 _ _) [.agg s.c, .int .i64 k, .tup [], .tup [], .tup []] []
  obtain ⟨Q, hQ⟩ : ∃ Q, Q = Ends X106.vs O106 0 (.int .i64 (leafSum s k)) [] := ⟨_, rfl⟩
  rw [← hQ]
  have fin : ∀ L σ vV, resVs O106 (look X106.vs L) σ = some [vV] → vV = (.int .i64 (leafSum s k)) → Q .ret L σ := by
    intro L σ vV h1 h2
    rw [hQ]
    exact Ends.is (.inl rfl) h1 (by simp only [packV, h2]) rfl
  refine awp_sr ?_
  simp only [go_sem, R106_0, v106, p106, State.c]
  obtain ⟨K2, hK2⟩ : ∃ K : List V → Store → Prop, K = fun L σ => ∃ q y0 y4, L = [y0, .int .i64 k, .ptr 0 2 0 0, y4, .bool q] ∧ σ = [.live ⟨2, [s.c]⟩] ∧ q = !decide (s.Right ∧ 0 ≤ k ∧ k ≤ 3) := ⟨_, rfl⟩
  refine awp_sr2K (K2) ?_ ?_
  · simp only [go_sem, R106_1, v106, p106]
    repeat' first
      | (refine selP_if rfl (fun hG => ?_) (fun hG => ?_) <;> first | simp only [go_sem, v106, p106, eq_false hG, State.c] | simp only [go_sem, v106, p106, eq_true hG, State.c])
      | (refine selP_ifn rfl (fun hG => ?_) (fun hG => ?_) <;> first | simp only [go_sem, v106, p106, eq_false hG, State.c] | simp only [go_sem, v106, p106, eq_true hG, State.c])
      | (refine selN_if rfl (fun hG => ?_) (fun hG => ?_) <;> first | simp only [go_sem, v106, p106, eq_false hG, State.c] | simp only [go_sem, v106, p106, eq_true hG, State.c])
      | (refine selN_ifn rfl (fun hG => ?_) (fun hG => ?_) <;> first | simp only [go_sem, v106, p106, eq_false hG, State.c] | simp only [go_sem, v106, p106, eq_true hG, State.c])
      | (refine selB_if rfl (fun hG => ?_) (fun hG => ?_) <;> simp only [go_sem, v106, p106, hG, State.c])
      | (refine selB_ifn rfl (fun hG => ?_) (fun hG => ?_) <;> simp only [go_sem, v106, p106, hG, State.c])
      | (refine run_see (implStateOk_ok s h) false (Views.refl rfl) rfl (fun j hj => by omega) (fun h => by cases h) ?_; simp only [go_sem, v106, p106, State.c])
      | (refine run_see (within_ok _ _ _) false (Views.refl rfl) rfl (fun j hj => by omega) (fun h => by cases h) ?_; simp only [go_sem, v106, p106, State.c])
    all_goals rw [hK2]
    all_goals refine ⟨_, _, _, rfl, rfl, ?_⟩
    all_goals grind
  intro L σ hq
  rw [hK2] at hq
  obtain ⟨q, y0, y4, rfl, rfl, hq⟩ := hq
  subst hq
  refine awp_if' rfl ?_ ?_
  · intro h1
    refine awp_sr ?_
    simp only [go_sem, R106_2, v106, p106]
    refine awp_ret ?_
    try simp only [go_sem]
    exact fin _ _ (.int .i64 0) rfl (congrArg (V.int .i64) (if_neg h1).symm)
  intro h1
  refine awp_skip ?_
  simp only [go_sem]
  have hr := slice_right h1.1 [k]
  have hz := Nat.le_trans (slice_sz s [k]) h
  have hl := stateB_len1 (hr.fit hz)
  refine awp_srX (runX_split 3 ?_)
  simp only [go_sem, R106_3, v106, p106, State.c, List.take_succ_cons, List.take_zero, List.drop_succ_cons, List.drop_zero]
  refine runX_freeze (o := 1) (ob := ⟨1, [[.int .i64 k]]⟩) rfl (rw_closed (c := intC) intC_closed [k]) ?_
  simp only [go_sem, v106, p106, frz_ptr _ _ _ _ _ (show (0 : Nat) ≠ 1 by omega)]
  refine run_see (implSlice_ok s [k] h1.1 h (by simp)) false (Views.refl rfl) rfl (fun j hj => by first | omega | ((have hj0 : j = 0 := by omega); subst hj0; first | rfl | (simp only [Nat.add_zero, app_get, app_getk, sapp_get, sapp_getk, Nat.add_assoc, Nat.reduceAdd, List.getElem?_cons_zero, List.getElem?_cons_succ]; done) | simp)) (fun h => by cases h) ?_
  simp only [go_sem, v106, p106]
  refine run_see (implStateBytes_ok (sliceS s [k]) hz) false (Views.refl rfl) rfl (fun j hj => by first | omega | ((have hj0 : j = 0 := by omega); subst hj0; first | rfl | (simp only [Nat.add_zero, app_get, app_getk, sapp_get, sapp_getk, Nat.add_assoc, Nat.reduceAdd, List.getElem?_cons_zero, List.getElem?_cons_succ]; done) | simp)) (fun h => by cases h) ?_
  simp only [go_sem, v106, p106]
  rw [sBytes_yes hr]
  refine run_see (implCrc_ok _ (by simp only [lim]; omega)) false (Views.refl rfl) rfl (fun j hj => by first | omega | ((have hj0 : j = 0 := by omega); subst hj0; first | rfl | (simp only [Nat.add_zero, app_get, app_getk, sapp_get, sapp_getk, Nat.add_assoc, Nat.reduceAdd, List.getElem?_cons_zero, List.getElem?_cons_succ]; done) | simp)) (fun h => by cases h) ?_
  simp only [go_sem, v106, p106, show ((crc (stateB (sliceS s [k])) : Int).tmod 1024) = ((crc (stateB (sliceS s [k])) % 1024 : Nat) : Int) from tmod_nat _ 1024]
  refine awp_ret ?_
  try simp only [go_sem]
  exact fin _ _ _ rfl (congrArg (V.int .i64) (if_pos h1).symm)
def rootI (xs : List Int) : Int := ((crc (cat putI xs) % 1024 : Nat) : Int)
theorem rootI_fit (xs : List Int) : 0 ≤ rootI xs ∧ rootI xs ≤ 1023 := by unfold rootI; omega
theorem specL6Root_ok (xs : List Int) (h : ∀ x ∈ xs, fit x) (h0 : xs.length ≤ 1048576) : FS Tryz.prog 109 [] [.fz 1 (rw_ intC xs)] (.int .i64 (rootI xs)) [] := by
  refine FS.of (X := X109) (ac := A109) (os := O109) Tryz.func109 (by rfl) (by rfl) (by kernel_rfl) o109 (Nat.le_of_ble_eq_true rfl) ?_
  show AWP X109 A109 (Ends X109.vs O109 0 _ _) [.fz 1 (rw_ intC xs), .tup [], .tup [], .tup [], .tup []] []
  obtain ⟨Q, hQ⟩ : ∃ Q, Q = Ends X109.vs O109 0 (.int .i64 (rootI xs)) [] := ⟨_, rfl⟩
  rw [← hQ]
  have hb := numsB_len h
  have fin : ∀ L σ vV, resVs O109 (look X109.vs L) σ = some [vV] → vV = (.int .i64 (rootI xs)) → Q .ret L σ := by
    intro L σ vV h1 h2
    rw [hQ]
    exact Ends.is (.inl rfl) h1 (by simp only [packV, h2]) rfl
  refine awp_sr ?_
  simp only [go_sem, R109_0, v109, p109]
  refine awp_sr ?_
  simp only [go_sem, R109_1, v109, p109]
  refine awp_sr2 ?_
  simp only [go_sem, R109_2, v109, p109]
  obtain ⟨I, hI⟩ : ∃ I : Nat → List V → Store → Prop, I = fun mM L σ => ∃ i out r q τ y2 y9, xs.length - i = mM ∧ (i ≤ xs.length ∧ out = cat putI (xs.take i) ∧ q = out.length ∧ Last τ r (.live ⟨1, rw_ byteC out⟩)) ∧ L = [.fz 1 (rw_ intC xs), y2, .sl r 1 0 q, .int .i64 (i : Nat), y9] ∧ σ = τ := ⟨_, rfl⟩
  first | refine awp_for I (xs.length) ?_ ?_ | refine awp_seq (awp_for I (xs.length) ?_ ?_)
  · rw [hI]
    refine ⟨0, [], _, _, _, _, _, rfl, ?_, rfl, rfl⟩
    exact ⟨Nat.zero_le _, rfl, rfl, Last.mk [] _⟩
  intro mM L σ hIn
  rw [hI] at hIn
  obtain ⟨i, out, r, q, τ, y2, y9, rfl, hP, rfl, rfl⟩ := hIn
  obtain ⟨hi, ho, rfl, rest, rfl, rfl⟩ := hP
  refine awp_sr2 ?_
  simp only [go_sem, R109_3, v109, p109]
  refine awp_if rfl ?_ ?_
  · intro h1
    have h1 : i < xs.length := by omega
    have e1 := cat_take putI h1
    have e2 := cat_le putI xs (i + 1)
    have e3 := congrArg List.length e1
    have e4 := congrArg List.length ho
    rw [List.length_append] at e3
    refine awp_skip ?_
    simp only [go_sem]
    first | refine awp_block ?_ | refine awp_seq (awp_block ?_)
    refine awp_reg ?_
    simp only [go_sem, R109_4, v109, p109, rw_at _ h1, intC]
    refine run_see (specPutI_fz (h _ (List.getElem_mem h1))) false (Views.refl rfl) rfl (fun j hj => by first | omega | ((have hj0 : j = 0 := by omega); subst hj0; first | rfl | (simp only [Nat.add_zero, app_get, app_getk, sapp_get, sapp_getk, Nat.add_assoc, Nat.reduceAdd, List.getElem?_cons_zero, List.getElem?_cons_succ]; done) | simp)) (fun h => by cases h) ?_
    simp only [go_sem, v109, p109]
    refine ⟨by omega, ?_⟩
    refine awp_reg ?_
    simp only [go_sem, R109_5, v109, p109, wrap_succ (i := i) (by omega)]
    refine ⟨xs.length - (i + 1), ?_, ?_⟩
    rotate_left
    rw [hI]
    refine ⟨i + 1, out ++ putI xs[i], _, _, _, _, _, rfl, ?_, rfl, rfl⟩
    · rw [e1, ← ho]; exact ⟨by omega, rfl, by simp, Last.mk1 _ _ _⟩
    · omega
  · intro h1
    refine awp_exit ?_
    simp only [go_sem]
    have : i = xs.length := by omega
    subst this
    rw [List.take_length] at ho
    subst ho
    refine awp_sr ?_
    simp only [go_sem, R109_6, v109, p109]
    refine run_see (specCrc_ok (cat putI xs) (by simp only [lim]; omega)) true (.cons (View.row (by simp) (by simp) (rw_len _ _).symm (bytes_ok _)) .nil) rfl (fun j hj => by omega) (fun _ => rfl) ?_
    simp only [go_sem, v109, p109, show ((crc (cat putI xs) : Int).tmod 1024) = ((crc (cat putI xs) % 1024 : Nat) : Int) from tmod_nat _ 1024]
    refine awp_ret ?_
    try simp only [go_sem]
    exact fin _ _ _ rfl rfl
theorem implRootOf_ok (xs : List Int) (h : ∀ x ∈ xs, fit x) (h0 : xs.length ≤ 1048576) : FS Tryz.prog 107 [] [.fz 1 (rw_ intC xs)] (.int .i64 (rootI xs)) [] := by
  refine FS.of (X := X107) (ac := A107) (os := O107) Tryz.func107 (by rfl) (by rfl) (by kernel_rfl) o107 (Nat.le_of_ble_eq_true rfl) ?_
  show AWP X107 A107 (Ends X107.vs O107 0 _ _) [.fz 1 (rw_ intC xs), .tup [], .tup [], .tup [], .tup [], .tup [], .tup [], .tup []] []
  obtain ⟨Q, hQ⟩ : ∃ Q, Q = Ends X107.vs O107 0 (.int .i64 (rootI xs)) [] := ⟨_, rfl⟩
  rw [← hQ]
  have hb := numsB_len h
  have fin : ∀ L σ vV, resVs O107 (look X107.vs L) σ = some [vV] → vV = (.int .i64 (rootI xs)) → Q .ret L σ := by
    intro L σ vV h1 h2
    rw [hQ]
    exact Ends.is (.inl rfl) h1 (by simp only [packV, h2]) rfl
  refine awp_sr ?_
  simp only [go_sem, R107_0, v107, p107]
  refine awp_sr ?_
  simp only [go_sem, R107_1, v107, p107]
  refine awp_freeze (o := 0) (ob := ⟨1, rw_ byteC []⟩) rfl (bytes_ok _) ?_
  simp only [go_sem, v107, p107]
  refine awp_sr2 ?_
  simp only [go_sem, R107_2, v107, p107]
  obtain ⟨I, hI⟩ : ∃ I : Nat → List V → Store → Prop, I = fun mM L σ => ∃ i out rest y0 y2 y5 y10, xs.length - i = mM ∧ (i ≤ xs.length ∧ out = cat putI (xs.take i)) ∧ L = [y0, y2, .fz 1 (rw_ byteC out), y5, .fz 1 (rw_ intC xs), .int .i64 (xs.length : Nat), .int .i64 (i : Nat), y10] ∧ σ = rest := ⟨_, rfl⟩
  first | refine awp_for I (xs.length) ?_ ?_ | refine awp_seq (awp_for I (xs.length) ?_ ?_)
  · rw [hI]
    refine ⟨0, [], _, _, _, _, _, rfl, ?_, rfl, rfl⟩
    exact ⟨Nat.zero_le _, rfl⟩
  intro mM L σ hIn
  rw [hI] at hIn
  obtain ⟨i, out, rest, y0, y2, y5, y10, rfl, hP, rfl, rfl⟩ := hIn
  obtain ⟨hi, ho⟩ := hP
  refine awp_sr ?_
  simp only [go_sem, R107_3, v107, p107]
  refine awp_seq ?_
  refine awp_if rfl ?_ ?_
  · intro h1
    have h1 : i < xs.length := by omega
    have e1 := cat_take putI h1
    have e2 := cat_le putI xs (i + 1)
    have e3 := congrArg List.length e1
    have e4 := congrArg List.length ho
    rw [List.length_append] at e3
    refine awp_skip ?_
    simp only [go_sem]
    first | refine awp_block ?_ | refine awp_seq (awp_block ?_)
    refine awp_sr ?_
    simp only [go_sem, R107_4, v107, p107, rw_at _ h1, intC]
    refine awp_reg ?_
    simp only [go_sem, R107_5, v107, p107]
    refine run_see (implPutI_fz (h _ (List.getElem_mem h1))) false (Views.refl rfl) rfl (fun j hj => by first | omega | ((have hj0 : j = 0 := by omega); subst hj0; first | rfl | (simp only [Nat.add_zero, app_get, app_getk, sapp_get, sapp_getk, Nat.add_assoc, Nat.reduceAdd, List.getElem?_cons_zero, List.getElem?_cons_succ]; done) | simp)) (fun h => by cases h) ?_
    simp only [go_sem, v107, p107, fz_fold, pair_fold]
    have hj : [out, putI xs[i]].flatten.length ≤ lim := by simp [lim]; omega
    refine run_new (joined_ok [out, putI xs[i]] hj (by simp)) true (.cons (View.row (by simp) (by simp) rfl (brows_ok _)) (.nil)) (by first | rfl | (simp only [Nat.add_zero, app_get, app_getk, sapp_get, sapp_getk, Nat.add_assoc, Nat.reduceAdd, List.getElem?_cons_zero, List.getElem?_cons_succ]; done) | simp) (bytes_ok _) (by simp [V.ids]) (fun _ => ⟨rfl, bytes_flat _⟩) ?_
    simp only [go_sem, v107, p107]
    refine awp_freeze (o := σ.length + 1) (ob := ⟨1, rw_ byteC [out, putI xs[i]].flatten⟩) (by simp) (bytes_ok _) ?_
    rw [show [out, putI xs[i]].flatten = out ++ putI xs[i] by simp]
    generalize hq : out ++ putI xs[i] = out2
    simp only [go_sem, v107, p107]
    refine awp_reg ?_
    simp only [go_sem, R107_6, v107, p107, wrap_succ (i := i) (by omega)]
    refine ⟨xs.length - (i + 1), ?_, ?_⟩
    rotate_left
    rw [hI]
    refine ⟨i + 1, _, _, _, _, _, _, rfl, ?_, rfl, rfl⟩
    · exact ⟨by omega, by rw [e1, ← hq, ho]⟩
    · omega
  · intro h1
    refine awp_exit ?_
    simp only [go_sem]
    have : i = xs.length := by omega
    subst this
    rw [List.take_length] at ho
    subst ho
    refine awp_sr ?_
    simp only [go_sem, R107_7, v107, p107]
    refine run_see (implCrc_ok (cat putI xs) (by simp only [lim]; omega)) false (Views.refl rfl) rfl (fun j hj => by first | omega | ((have hj0 : j = 0 := by omega); subst hj0; first | rfl | (simp only [Nat.add_zero, app_get, app_getk, sapp_get, sapp_getk, Nat.add_assoc, Nat.reduceAdd, List.getElem?_cons_zero, List.getElem?_cons_succ]; done) | simp)) (fun h => by cases h) ?_
    simp only [go_sem, v107, p107, show ((crc (cat putI xs) : Int).tmod 1024) = ((crc (cat putI xs) % 1024 : Nat) : Int) from tmod_nat _ 1024]
    refine awp_ret ?_
    try simp only [go_sem]
    exact fin _ _ _ rfl rfl
end Go.Proofs.YtffigokicddekaaGreat.Abs
/- A state's tree, walked in both texts: the whole. No condition. -/
set_option linter.unusedVariables false
set_option linter.unusedSimpArgs false
set_option maxRecDepth 10000
namespace Go.Proofs.YtffigokicddekaaGreat.Abs
open Go Go.Proofs
def R53_0 : List AR := [⟨(some 1), none, 0, (.box 0 2 (.t 0))⟩, ⟨(some 2), none, 0, (.alloc 1 2 [.nl, (.int .i64 0)])⟩]
def R53_1 : List AR := [⟨(some 5), none, 0, (.load 2 true (.t 1))⟩, ⟨(some 6), none, 0, (.call false 0 0 94 [(.t 5)])⟩, ⟨(some 7), none, 0, (.not (.t 6))⟩]
def R53_2 : List AR := [⟨(some 8), none, 0, (.build [.nl, (.int .i64 0)] [])⟩, ⟨none, none, 0, (.store 2 (.t 2) (.t 8))⟩]
def R53_3 : List AR := [⟨(some 9), none, 0, (.build [.nl, (.int .i64 0)] [])⟩, ⟨(some 3), none, 0, (.alloc 0 2 [.nl, (.int .i64 0)])⟩, ⟨none, none, 0, (.store 2 (.t 3) (.t 9))⟩]
def R53_4 : List AR := [⟨(some 4), none, 0, (.mov (.k (.int .i64 0)))⟩]
def R53_5 : List AR := [⟨(some 10), none, 0, (.mov (.t 4))⟩, ⟨(some 11), none, 0, (.bin .lss (.t 10) (.k (.int .i64 4)))⟩]
def R53_6 : List AR := [⟨(some 14), none, 0, (.faddr 0 (.t 3))⟩, ⟨(some 15), none, 1, (.load 1 false (.t 14))⟩, ⟨(some 16), none, 0, (.load 2 true (.t 1))⟩, ⟨(some 17), none, 0, (.mov (.t 4))⟩, ⟨(some 18), none, 0, (.call false 0 0 108 [(.t 16), (.t 17)])⟩, ⟨(some 19), none, 0, (.bslice 0 1 1 [(.int .i64 0)] [(0, (.t 18))])⟩, ⟨(some 20), none, 0, (.app 1 1 8 (.t 15) (.t 19))⟩, ⟨(some 21), none, 0, (.faddr 0 (.t 3))⟩, ⟨none, none, 0, (.store 1 (.t 21) (.t 20))⟩]
def R53_7 : List AR := [⟨(some 12), none, 0, (.mov (.t 4))⟩, ⟨(some 13), none, 0, (.bin .add (.t 12) (.k (.int .i64 1)))⟩, ⟨(some 4), none, 0, (.mov (.t 13))⟩]
def A53_0 : AC := (.seq (.block 1 (.draw 2 R53_6)) (.reg 0 R53_7))
def L53_0 : AC := (.seq (.seq (.reg 0 R53_5) (.cond (.t 11) .skip (.exit 0))) A53_0)
def R53_8 : List AR := [⟨(some 22), none, 0, (.faddr 0 (.t 3))⟩, ⟨(some 23), none, 0, (.load 1 false (.t 22))⟩, ⟨(some 24), none, 0, (.call false 0 0 109 [(.t 23)])⟩, ⟨(some 25), none, 0, (.faddr 1 (.t 3))⟩, ⟨none, none, 0, (.store 1 (.t 25) (.t 24))⟩]
def R53_9 : List AR := [⟨(some 26), none, 0, (.load 2 true (.t 3))⟩, ⟨none, none, 0, (.store 2 (.t 2) (.t 26))⟩]
def A53_1 : AC := (.seq (.reg 0 R53_9) .ret)
def A53_2 : AC := (.seq (.reg 0 R53_8) A53_1)
def A53_3 : AC := (.seq (.seq (.reg 0 R53_4) (.block 0 (.loop L53_0))) A53_2)
def A53_4 : AC := (.seq (.reg 1 R53_3) A53_3)
def A53_5 : AC := (.seq (.seq (.reg 0 R53_1) (.cond (.t 7) (.seq (.reg 0 R53_2) .ret) .skip)) A53_4)
def A53 : AC := (.seq (.reg 2 R53_0) A53_5)
def O53 : List AO := [(.load 2 true (.t 2))]
def G53 : Fns := ⟨fun f => false, fun f => 0, false⟩
noncomputable def X53 : Cx := ⟨Tryz.prog, G53, drawD, 27, [0, 1, 2, 3, 4, 7, 11]⟩
theorem c53 : (Tryz.f53.body).bind (compC X53.P X53.Γ X53.D X53.nt) = some A53 := by kernel_rfl
theorem o53 : compRes X53.P Tryz.f53.results.toList = some O53 := by kernel_rfl
theorem v53 : X53.vs = [0, 1, 2, 3, 4, 7, 11] := rfl
theorem p53 : X53.P = Tryz.prog := rfl
def R50_0 : List AR := [⟨(some 1), none, 0, (.box 0 2 (.t 0))⟩, ⟨(some 2), none, 0, (.alloc 1 2 [.nl, (.int .i64 0)])⟩]
def R50_1 : List AR := [⟨(some 5), none, 0, (.build [.nl, (.int .i64 0)] [])⟩, ⟨(some 3), none, 0, (.alloc 0 2 [.nl, (.int .i64 0)])⟩, ⟨none, none, 0, (.store 2 (.t 3) (.t 5))⟩]
def R50_2 : List AR := [⟨(some 6), none, 0, (.load 2 true (.t 1))⟩, ⟨(some 7), none, 0, (.call false 0 0 63 [(.t 6)])⟩, ⟨(some 8), none, 0, (.not (.t 7))⟩]
def R50_3 : List AR := [⟨(some 9), none, 0, (.load 2 true (.t 3))⟩, ⟨none, none, 0, (.store 2 (.t 2) (.t 9))⟩]
def R50_4 : List AR := [⟨(some 4), none, 0, (.mov (.k (.int .i64 0)))⟩]
def R50_5 : List AR := [⟨(some 10), none, 0, (.mov (.t 4))⟩, ⟨(some 11), none, 0, (.bin .lss (.t 10) (.k (.int .i64 4)))⟩]
def R50_6 : List AR := [⟨(some 14), none, 0, (.faddr 0 (.t 3))⟩, ⟨(some 15), none, 1, (.load 1 false (.t 14))⟩, ⟨(some 16), none, 0, (.load 2 true (.t 1))⟩, ⟨(some 17), none, 0, (.mov (.t 4))⟩, ⟨(some 18), none, 0, (.call false 0 0 106 [(.t 16), (.t 17)])⟩, ⟨(some 19), none, 0, (.bslice 0 1 1 [(.int .i64 0)] [(0, (.t 18))])⟩, ⟨(some 20), none, 0, (.app 1 1 8 (.t 15) (.t 19))⟩, ⟨(some 21), none, 0, (.faddr 0 (.t 3))⟩, ⟨none, none, 0, (.store 1 (.t 21) (.t 20))⟩]
def R50_7 : List AR := [⟨(some 12), none, 0, (.mov (.t 4))⟩, ⟨(some 13), none, 0, (.bin .add (.t 12) (.k (.int .i64 1)))⟩, ⟨(some 4), none, 0, (.mov (.t 13))⟩]
def A50_0 : AC := (.seq (.block 1 (.draw 2 R50_6)) (.reg 0 R50_7))
def L50_0 : AC := (.seq (.seq (.reg 0 R50_5) (.cond (.t 11) .skip (.exit 0))) A50_0)
def R50_8 : List AR := [⟨(some 22), none, 0, (.faddr 0 (.t 3))⟩, ⟨(some 23), none, 0, (.load 1 false (.t 22))⟩, ⟨(some 24), none, 0, (.call false 0 0 107 [(.t 23)])⟩, ⟨(some 25), none, 0, (.faddr 1 (.t 3))⟩, ⟨none, none, 0, (.store 1 (.t 25) (.t 24))⟩]
def R50_9 : List AR := [⟨(some 26), none, 0, (.load 2 true (.t 3))⟩, ⟨none, none, 0, (.store 2 (.t 2) (.t 26))⟩]
def A50_1 : AC := (.seq (.reg 0 R50_9) .ret)
def A50_2 : AC := (.seq (.reg 0 R50_8) A50_1)
def A50_3 : AC := (.seq (.seq (.reg 0 R50_4) (.block 0 (.loop L50_0))) A50_2)
def A50_4 : AC := (.seq (.seq (.reg 0 R50_2) (.cond (.t 8) (.seq (.reg 0 R50_3) .ret) .skip)) A50_3)
def A50_5 : AC := (.seq (.reg 1 R50_1) A50_4)
def A50 : AC := (.seq (.reg 2 R50_0) A50_5)
def O50 : List AO := [(.load 2 true (.t 2))]
def G50 : Fns := ⟨fun f => false, fun f => 0, false⟩
noncomputable def X50 : Cx := ⟨Tryz.prog, G50, drawD, 27, [0, 1, 2, 3, 4, 8, 11]⟩
theorem c50 : (Tryz.f50.body).bind (compC X50.P X50.Γ X50.D X50.nt) = some A50 := by kernel_rfl
theorem o50 : compRes X50.P Tryz.f50.results.toList = some O50 := by kernel_rfl
theorem v50 : X50.vs = [0, 1, 2, 3, 4, 8, 11] := rfl
theorem p50 : X50.P = Tryz.prog := rfl
noncomputable def leavesS (s : State) (k : Nat) : List Int := (List.range k).map fun i : Nat => leafSum s (i : Int)
theorem leavesS_succ (s : State) (k : Nat) : leavesS s (k + 1) = leavesS s k ++ [leafSum s (k : Int)] := by simp [leavesS, List.range_succ]
theorem leavesS_len (s : State) (k : Nat) : (leavesS s k).length = k := by simp [leavesS]
theorem leavesS_fit (s : State) (k : Nat) : ∀ x ∈ leavesS s k, fit x := by
  intro x hx
  simp only [leavesS, List.mem_map] at hx
  obtain ⟨i, _, rfl⟩ := hx
  have := leafSum_fit s (i : Int)
  exact ⟨this.1, by omega⟩
noncomputable def treeOf (s : State) : Tree := if s.Right then ⟨leavesS s 4, rootI (leavesS s 4)⟩ else Tree.zero
theorem treeOf_yes {s : State} (h : s.Right) : treeOf s = ⟨leavesS s 4, rootI (leavesS s 4)⟩ := if_pos h
theorem treeOf_no {s : State} (h : ¬ s.Right) : treeOf s = Tree.zero := if_neg h
theorem int_sing (n : Int) : [[V.int .i64 n]] = rw_ intC [n] := rfl
set_option maxHeartbeats 4000000 in
theorem specTreeOf_ok (s : State) (h : s.sz ≤ 1048576) : FS Tryz.prog 53 [] [.agg s.c] (.agg (treeOf s).c) [] := by
  refine FS.of (X := X53) (ac := A53) (os := O53) Tryz.func53 (by rfl) (by rfl) (by kernel_rfl) o53 (Nat.le_of_ble_eq_true rfl) ?_
  show AWP X53 A53 (Ends X53.vs O53 0 _ _) [.agg s.c, .tup [], .tup [], .tup [], .tup [], .tup [], .tup []] []
  obtain ⟨Q, hQ⟩ : ∃ Q, Q = Ends X53.vs O53 0 (.agg (treeOf s).c) [] := ⟨_, rfl⟩
  rw [← hQ]
  refine awp_sr ?_
  simp only [go_sem, R53_0, v53, p53, State.c]
  refine awp_sr2 ?_
  simp only [go_sem, R53_1, v53, p53]
  refine run_see (specStateOk_ok s h) false (Views.refl rfl) rfl (fun j hj => by first | omega | ((have hj0 : j = 0 := by omega); subst hj0; first | rfl | (simp only [Nat.add_zero, app_get, app_getk, sapp_get, sapp_getk, Nat.add_assoc, Nat.reduceAdd, List.getElem?_cons_zero, List.getElem?_cons_succ]; done) | simp)) (fun h => by cases h) ?_
  simp only [go_sem, v53, p53]
  refine awp_if' rfl ?_ ?_
  · intro h1
    refine awp_sr ?_
    simp only [go_sem, R53_2, v53, p53]
    refine awp_ret ?_
    try simp only [go_sem]
    rw [hQ, treeOf_no h1]
    exact Ends.all (.inl rfl) (rs := [.agg [.nl, .int .i64 0]]) rfl (.agg _ _ rfl (.cons (.nl 1) (.cons (.same _ rfl) .nil))) rfl
  intro h1
  rw [treeOf_yes h1] at hQ
  refine awp_skip ?_
  simp only [go_sem]
  refine awp_sr ?_
  simp only [go_sem, R53_3, v53, p53]
  refine awp_sr2 ?_
  simp only [go_sem, R53_4, v53, p53]
  obtain ⟨J, hJ⟩ : ∃ J : Nat → List V → Store → Prop, J = fun mM L σ => ∃ k c τ y0 y7 y11, 4 - k = mM ∧ (k ≤ 4 ∧ τ[0]? = some (.live ⟨2, [s.c]⟩) ∧ τ[1]? = some (.live ⟨2, [[.nl, .int .i64 0]]⟩) ∧ τ[2]? = some (.live ⟨2, [[c, .int .i64 0]]⟩) ∧ Own τ 1 c (rw_ intC (leavesS s k))) ∧ L = [y0, .ptr 0 2 0 0, .ptr 1 2 0 0, .ptr 2 2 0 0, .int .i64 (k : Nat), y7, y11] ∧ σ = τ := ⟨_, rfl⟩
  first | refine awp_for J (4) ?_ ?_ | refine awp_seq (awp_for J (4) ?_ ?_)
  · rw [hJ]
    refine ⟨0, .nl, _, _, _, _, rfl, ?_, rfl, rfl⟩
    exact ⟨by omega, rfl, rfl, rfl, .inl ⟨rfl, rfl⟩⟩
  intro mM L σ hIn
  rw [hJ] at hIn
  obtain ⟨k, c, τ, y0, y7, y11, rfl, hP, rfl, rfl⟩ := hIn
  obtain ⟨hk, g0, g1, g2, hc⟩ := hP
  refine awp_sr2 ?_
  simp only [go_sem, R53_5, v53, p53]
  refine awp_if rfl ?_ ?_
  · intro h4
    refine awp_skip ?_
    simp only [go_sem]
    first | refine awp_block ?_ | refine awp_seq (awp_block ?_)
    have e1 := leavesS_succ s k
    have e2 := leavesS_len s k
    rcases hc with ⟨rfl, hn⟩ | ⟨o, n, rfl, hn, ho⟩
    · refine awp_dw [] mixed rfl ?_
      simp only [go_sem, R53_6, v53, p53, labOk_2, labOk_3, labOk_4, labOk_5, AO.touch, AO.sh, AR.sh, V.ids, V.idsL, List.mem_singleton, forall_eq, List.not_mem_nil, false_implies, implies_true, List.mem_cons, or_false, Nat.reduceLT, Nat.zero_lt_one, Nat.zero_ne_one, get_app g0, get_app g2, State.c]
      refine ⟨get_lt g2, ?_⟩
      refine run_see (specLeafSum_ok s k h) false (Views.refl rfl) rfl (fun j hj => by first | omega | ((have hj0 : j = 0 := by omega); subst hj0; first | rfl | (simp only [Nat.add_zero, app_get, app_getk, sapp_get, sapp_getk, Nat.add_assoc, Nat.reduceAdd, List.getElem?_cons_zero, List.getElem?_cons_succ]; done) | simp)) (fun h => by cases h) ?_
      simp only [go_sem, v53, p53, get_app g2, set_app g2]
      have hn : leavesS s k = [] := by simpa [rw_] using hn
      rw [hn, List.nil_append] at e1
      refine awp_reg ?_
      simp only [go_sem, R53_7, v53, p53, wrap_succ (i := k) (by omega)]
      refine ⟨4 - (k + 1), ?_, ?_⟩
      rotate_left
      rw [hJ]
      refine ⟨k + 1, .sl (σ.length + 1) 1 0 1, _, _, _, _, rfl, ?_, rfl, rfl⟩
      · refine ⟨by omega, keep_get g0 (by omega), keep_get g1 (by omega), set_get g2 _, .inr ⟨σ.length + 1, 1, rfl, by rw [e1]; rfl, ?_⟩⟩
        rw [sapp_getk, e1]; rfl
      · omega
    · rw [rw_len] at hn
      subst hn
      have n0 : o ≠ 0 := get_ne g0 ho (slot_ne (by omega))
      have n1 : o ≠ 1 := get_ne g1 ho (slot_ne (by omega))
      have n2 : o ≠ 2 := get_ne g2 ho (slot_ne (by omega))
      refine awp_dw [] mixed rfl ?_
      simp only [go_sem, R53_6, v53, p53, labOk_2, labOk_3, labOk_4, labOk_5, AO.touch, AO.sh, AR.sh, V.ids, V.idsL, List.mem_singleton, forall_eq, List.not_mem_nil, false_implies, implies_true, List.mem_cons, or_false, Nat.reduceLT, Nat.zero_lt_one, Nat.zero_ne_one, get_app g0, get_app g2, State.c]
      refine ⟨get_lt g2, ?_⟩
      refine run_see (specLeafSum_ok s k h) false (Views.refl rfl) rfl (fun j hj => by first | omega | ((have hj0 : j = 0 := by omega); subst hj0; first | rfl | (simp only [Nat.add_zero, app_get, app_getk, sapp_get, sapp_getk, Nat.add_assoc, Nat.reduceAdd, List.getElem?_cons_zero, List.getElem?_cons_succ]; done) | simp)) (fun h => by cases h) ?_
      simp only [go_sem, v53, p53, get_app ho, set_app ho, keep_get g2 n2, set_app (keep_set g2 n2), int_sing]
      refine ⟨by omega, ?_⟩
      refine awp_reg ?_
      simp only [go_sem, R53_7, v53, p53, wrap_succ (i := k) (by omega)]
      rw [← e1]
      refine ⟨4 - (k + 1), ?_, ?_⟩
      rotate_left
      rw [hJ]
      refine ⟨k + 1, .sl (σ.length + 1) 1 0 (k + 1), _, _, _, _, rfl, ?_, rfl, rfl⟩
      · refine ⟨by omega, keep2_get g0 n0 (by omega), keep2_get g1 n1 (by omega), ?_, .inr ⟨σ.length + 1, k + 1, rfl, by rw [rw_len, leavesS_len], by rw [sapp2_getk]; rfl⟩⟩
        rw [leavesS_len]; exact set2_get g2 n2 _
      · omega
  · intro h4
    refine awp_exit ?_
    simp only [go_sem]
    have : k = 4 := by omega
    subst this
    rcases hc with ⟨rfl, hn⟩ | ⟨o, n, rfl, hn, ho⟩
    · exact absurd (congrArg List.length hn) (by rw [rw_len, leavesS_len]; simp)
    rw [rw_len, leavesS_len] at hn
    subst hn
    have n1 : (1 : Nat) ≠ o := fun e => get_ne g1 ho (slot_ne (by omega)) e.symm
    have n2 : (2 : Nat) ≠ o := fun e => get_ne g2 ho (slot_ne (by omega)) e.symm
    refine awp_sr ?_
    simp only [go_sem, R53_8, v53, p53, g2]
    refine run_see (specL6Root_ok (leavesS s 4) (leavesS_fit s 4) (by rw [leavesS_len]; omega)) true (.cons (View.row (by simp) ho (by rw [rw_len, leavesS_len]) (rw_closed intC_closed _)) .nil) rfl (fun j hj => by omega) (fun _ => rfl) ?_
    simp only [go_sem, v53, p53, g2]
    refine awp_sr ?_
    simp only [go_sem, R53_9, v53, p53, get_set_same g2, keep_set g1 (show (2 : Nat) ≠ 1 by omega)]
    refine awp_ret ?_
    try simp only [go_sem]
    rw [hQ]
    refine Ends.all (.inl rfl) (rs := [.agg [.sl o 1 0 4, .int .i64 (rootI (leavesS s 4))]]) ?_ (.agg _ _ rfl (.cons (.sl o 1 4 _ (keep_set (keep_set ho n2) n1) (by rw [rw_len, leavesS_len]) (rw_closed intC_closed _)) (.cons (.same _ rfl) .nil))) rfl
    simp only [go_sem, O53, v53, get_set_same (keep_set g1 (show (2 : Nat) ≠ 1 by omega))]
set_option maxHeartbeats 4000000 in
theorem implTreeOf_ok (s : State) (h : s.sz ≤ 1048576) : FS Tryz.prog 50 [] [.agg s.c] (.agg (treeOf s).c) [] := by
  refine FS.of (X := X50) (ac := A50) (os := O50) Tryz.func50 (by rfl) (by rfl) (by kernel_rfl) o50 (Nat.le_of_ble_eq_true rfl) ?_
  show AWP X50 A50 (Ends X50.vs O50 0 _ _) [.agg s.c, .tup [], .tup [], .tup [], .tup [], .tup [], .tup []] []
  obtain ⟨Q, hQ⟩ : ∃ Q, Q = Ends X50.vs O50 0 (.agg (treeOf s).c) [] := ⟨_, rfl⟩
  rw [← hQ]
  refine awp_sr ?_
  simp only [go_sem, R50_0, v50, p50, State.c]
  refine awp_sr ?_
  simp only [go_sem, R50_1, v50, p50]
  refine awp_sr2 ?_
  simp only [go_sem, R50_2, v50, p50]
  refine run_see (implStateOk_ok s h) false (Views.refl rfl) rfl (fun j hj => by first | omega | ((have hj0 : j = 0 := by omega); subst hj0; first | rfl | (simp only [Nat.add_zero, app_get, app_getk, sapp_get, sapp_getk, Nat.add_assoc, Nat.reduceAdd, List.getElem?_cons_zero, List.getElem?_cons_succ]; done) | simp)) (fun h => by cases h) ?_
  simp only [go_sem, v50, p50]
  refine awp_if' rfl ?_ ?_
  · intro h1
    refine awp_sr ?_
    simp only [go_sem, R50_3, v50, p50]
    refine awp_ret ?_
    try simp only [go_sem]
    rw [hQ, treeOf_no h1]
    exact Ends.all (.inl rfl) (rs := [.agg [.nl, .int .i64 0]]) rfl (.agg _ _ rfl (.cons (.nl 1) (.cons (.same _ rfl) .nil))) rfl
  intro h1
  rw [treeOf_yes h1] at hQ
  refine awp_skip ?_
  simp only [go_sem]
  refine awp_sr2 ?_
  simp only [go_sem, R50_4, v50, p50]
  obtain ⟨J, hJ⟩ : ∃ J : Nat → List V → Store → Prop, J = fun mM L σ => ∃ k c τ y0 y8 y11, 4 - k = mM ∧ (k ≤ 4 ∧ τ[0]? = some (.live ⟨2, [s.c]⟩) ∧ τ[1]? = some (.live ⟨2, [[.nl, .int .i64 0]]⟩) ∧ τ[2]? = some (.live ⟨2, [[c, .int .i64 0]]⟩) ∧ Own τ 1 c (rw_ intC (leavesS s k))) ∧ L = [y0, .ptr 0 2 0 0, .ptr 1 2 0 0, .ptr 2 2 0 0, .int .i64 (k : Nat), y8, y11] ∧ σ = τ := ⟨_, rfl⟩
  first | refine awp_for J (4) ?_ ?_ | refine awp_seq (awp_for J (4) ?_ ?_)
  · rw [hJ]
    refine ⟨0, .nl, _, _, _, _, rfl, ?_, rfl, rfl⟩
    exact ⟨by omega, rfl, rfl, rfl, .inl ⟨rfl, rfl⟩⟩
  intro mM L σ hIn
  rw [hJ] at hIn
  obtain ⟨k, c, τ, y0, y8, y11, rfl, hP, rfl, rfl⟩ := hIn
  obtain ⟨hk, g0, g1, g2, hc⟩ := hP
  refine awp_sr2 ?_
  simp only [go_sem, R50_5, v50, p50]
  refine awp_if rfl ?_ ?_
  · intro h4
    refine awp_skip ?_
    simp only [go_sem]
    first | refine awp_block ?_ | refine awp_seq (awp_block ?_)
    have e1 := leavesS_succ s k
    have e2 := leavesS_len s k
    rcases hc with ⟨rfl, hn⟩ | ⟨o, n, rfl, hn, ho⟩
    · refine awp_dw [] mixed rfl ?_
      simp only [go_sem, R50_6, v50, p50, labOk_2, labOk_3, labOk_4, labOk_5, AO.touch, AO.sh, AR.sh, V.ids, V.idsL, List.mem_singleton, forall_eq, List.not_mem_nil, false_implies, implies_true, List.mem_cons, or_false, Nat.reduceLT, Nat.zero_lt_one, Nat.zero_ne_one, get_app g0, get_app g2, State.c]
      refine ⟨get_lt g2, ?_⟩
      refine run_see (implLeafSum_ok s k h) false (Views.refl rfl) rfl (fun j hj => by first | omega | ((have hj0 : j = 0 := by omega); subst hj0; first | rfl | (simp only [Nat.add_zero, app_get, app_getk, sapp_get, sapp_getk, Nat.add_assoc, Nat.reduceAdd, List.getElem?_cons_zero, List.getElem?_cons_succ]; done) | simp)) (fun h => by cases h) ?_
      simp only [go_sem, v50, p50, get_app g2, set_app g2]
      have hn : leavesS s k = [] := by simpa [rw_] using hn
      rw [hn, List.nil_append] at e1
      refine awp_reg ?_
      simp only [go_sem, R50_7, v50, p50, wrap_succ (i := k) (by omega)]
      refine ⟨4 - (k + 1), ?_, ?_⟩
      rotate_left
      rw [hJ]
      refine ⟨k + 1, .sl (σ.length + 1) 1 0 1, _, _, _, _, rfl, ?_, rfl, rfl⟩
      · refine ⟨by omega, keep_get g0 (by omega), keep_get g1 (by omega), set_get g2 _, .inr ⟨σ.length + 1, 1, rfl, by rw [e1]; rfl, ?_⟩⟩
        rw [sapp_getk, e1]; rfl
      · omega
    · rw [rw_len] at hn
      subst hn
      have n0 : o ≠ 0 := get_ne g0 ho (slot_ne (by omega))
      have n1 : o ≠ 1 := get_ne g1 ho (slot_ne (by omega))
      have n2 : o ≠ 2 := get_ne g2 ho (slot_ne (by omega))
      refine awp_dw [] mixed rfl ?_
      simp only [go_sem, R50_6, v50, p50, labOk_2, labOk_3, labOk_4, labOk_5, AO.touch, AO.sh, AR.sh, V.ids, V.idsL, List.mem_singleton, forall_eq, List.not_mem_nil, false_implies, implies_true, List.mem_cons, or_false, Nat.reduceLT, Nat.zero_lt_one, Nat.zero_ne_one, get_app g0, get_app g2, State.c]
      refine ⟨get_lt g2, ?_⟩
      refine run_see (implLeafSum_ok s k h) false (Views.refl rfl) rfl (fun j hj => by first | omega | ((have hj0 : j = 0 := by omega); subst hj0; first | rfl | (simp only [Nat.add_zero, app_get, app_getk, sapp_get, sapp_getk, Nat.add_assoc, Nat.reduceAdd, List.getElem?_cons_zero, List.getElem?_cons_succ]; done) | simp)) (fun h => by cases h) ?_
      simp only [go_sem, v50, p50, get_app ho, set_app ho, keep_get g2 n2, set_app (keep_set g2 n2), int_sing]
      refine ⟨by omega, ?_⟩
      refine awp_reg ?_
      simp only [go_sem, R50_7, v50, p50, wrap_succ (i := k) (by omega)]
      rw [← e1]
      refine ⟨4 - (k + 1), ?_, ?_⟩
      rotate_left
      rw [hJ]
      refine ⟨k + 1, .sl (σ.length + 1) 1 0 (k + 1), _, _, _, _, rfl, ?_, rfl, rfl⟩
      · refine ⟨by omega, keep2_get g0 n0 (by omega), keep2_get g1 n1 (by omega), ?_, .inr ⟨σ.length + 1, k + 1, rfl, by rw [rw_len, leavesS_len], by rw [sapp2_getk]; rfl⟩⟩
        rw [leavesS_len]; exact set2_get g2 n2 _
      · omega
  · intro h4
    refine awp_exit ?_
    simp only [go_sem]
    have : k = 4 := by omega
    subst this
    rcases hc with ⟨rfl, hn⟩ | ⟨o, n, rfl, hn, ho⟩
    · exact absurd (congrArg List.length hn) (by rw [rw_len, leavesS_len]; simp)
    rw [rw_len, leavesS_len] at hn
    subst hn
    have n1 : (1 : Nat) ≠ o := fun e => get_ne g1 ho (slot_ne (by omega)) e.symm
    have n2 : (2 : Nat) ≠ o := fun e => get_ne g2 ho (slot_ne (by omega)) e.symm
    refine awp_sr ?_
    simp only [go_sem, R50_8, v50, p50, g2]
    refine run_see (implRootOf_ok (leavesS s 4) (leavesS_fit s 4) (by rw [leavesS_len]; omega)) true (.cons (View.row (by simp) ho (by rw [rw_len, leavesS_len]) (rw_closed intC_closed _)) .nil) rfl (fun j hj => by omega) (fun _ => rfl) ?_
    simp only [go_sem, v50, p50, g2]
    refine awp_sr ?_
    simp only [go_sem, R50_9, v50, p50, get_set_same g2, keep_set g1 (show (2 : Nat) ≠ 1 by omega)]
    refine awp_ret ?_
    try simp only [go_sem]
    rw [hQ]
    refine Ends.all (.inl rfl) (rs := [.agg [.sl o 1 0 4, .int .i64 (rootI (leavesS s 4))]]) ?_ (.agg _ _ rfl (.cons (.sl o 1 4 _ (keep_set (keep_set ho n2) n1) (by rw [rw_len, leavesS_len]) (rw_closed intC_closed _)) (.cons (.same _ rfl) .nil))) rfl
    simp only [go_sem, O50, v50, get_set_same (keep_set g1 (show (2 : Nat) ≠ 1 by omega))]
end Go.Proofs.YtffigokicddekaaGreat.Abs
/- Logs, vectors, tables, rises, walked in both texts. No condition. -/
set_option linter.unusedVariables false
set_option linter.unusedSimpArgs false
set_option maxRecDepth 10000
namespace Go.Proofs.YtffigokicddekaaGreat.Abs
open Go Go.Proofs
def R67_0 : List AR := [⟨(some 2), none, 0, (.mov (.k (.int .i64 0)))⟩]
def R67_1 : List AR := [⟨(some 5), none, 0, (.mov (.t 0))⟩, ⟨(some 6), none, 0, (.len (.t 5))⟩, ⟨(some 7), none, 0, (.bin .lss (.t 6) (.k (.int .i64 1)))⟩]
def R67_2 : List AR := [⟨(some 9), none, 0, (.mov (.t 0))⟩, ⟨(some 10), none, 0, (.iaddr 1 (.t 9) (.k (.int .i64 0)))⟩, ⟨(some 11), none, 0, (.load 1 false (.t 10))⟩, ⟨(some 3), none, 0, (.mov (.t 11))⟩]
def R67_3 : List AR := [⟨(some 4), none, 0, (.mov (.k (.int .i64 1)))⟩]
def R67_4 : List AR := [⟨(some 12), none, 0, (.mov (.t 4))⟩, ⟨(some 13), none, 0, (.mov (.t 0))⟩, ⟨(some 14), none, 0, (.len (.t 13))⟩, ⟨(some 15), none, 0, (.bin .lss (.t 12) (.t 14))⟩]
def R67_5 : List AR := [⟨(some 18), none, 0, (.mov (.t 3))⟩, ⟨(some 19), none, 0, (.mov (.t 0))⟩, ⟨(some 20), none, 0, (.mov (.t 4))⟩, ⟨(some 21), none, 0, (.iaddr 1 (.t 19) (.t 20))⟩, ⟨(some 22), none, 0, (.load 1 false (.t 21))⟩, ⟨(some 23), none, 0, (.max [(.t 18), (.t 22)])⟩, ⟨(some 3), none, 0, (.mov (.t 23))⟩]
def R67_6 : List AR := [⟨(some 16), none, 0, (.mov (.t 4))⟩, ⟨(some 17), none, 0, (.bin .add (.t 16) (.k (.int .i64 1)))⟩, ⟨(some 4), none, 0, (.mov (.t 17))⟩]
def A67_0 : AC := (.seq (.block 1 (.reg 0 R67_5)) (.reg 0 R67_6))
def L67_0 : AC := (.seq (.seq (.reg 0 R67_4) (.cond (.t 15) .skip (.exit 0))) A67_0)
def R67_7 : List AR := [⟨(some 24), none, 0, (.mov (.t 3))⟩, ⟨(some 2), none, 0, (.mov (.t 24))⟩]
def A67_1 : AC := (.seq (.reg 0 R67_7) .ret)
def A67_2 : AC := (.seq (.seq (.reg 0 R67_3) (.block 0 (.loop L67_0))) A67_1)
def A67_3 : AC := (.seq (.reg 0 R67_2) A67_2)
def A67_4 : AC := (.seq (.seq (.reg 0 R67_1) (.cond (.t 7) .bad .skip)) A67_3)
def A67 : AC := (.seq (.reg 0 R67_0) A67_4)
def O67 : List AO := [(.mov (.t 2))]
def G67 : Fns := ⟨fun f => false, fun f => 0, false⟩
noncomputable def X67 : Cx := ⟨Tryz.prog, G67, drawD, 25, [0, 2, 3, 4, 7, 15]⟩
theorem c67 : (Tryz.f67.body).bind (compC X67.P X67.Γ X67.D X67.nt) = some A67 := by kernel_rfl
theorem o67 : compRes X67.P Tryz.f67.results.toList = some O67 := by kernel_rfl
theorem v67 : X67.vs = [0, 2, 3, 4, 7, 15] := rfl
theorem p67 : X67.P = Tryz.prog := rfl
def R95_0 : List AR := [⟨(some 1), none, 0, (.box 0 3 (.t 0))⟩, ⟨(some 2), none, 0, (.mov (.k (.bool false)))⟩]
def R95_1 : List AR := [⟨(some 4), none, 0, (.faddr 0 (.t 1))⟩, ⟨(some 5), none, 0, (.load 1 false (.t 4))⟩, ⟨(some 6), none, 0, (.call false 0 0 52 [(.t 5), (.k (.int .i64 1)), (.k (.int .i64 8))])⟩, ⟨(some 7), none, 0, (.not (.t 6))⟩, ⟨(some 8), none, 0, (.mov (.t 7))⟩, ⟨(some 9), (some (8, false)), 0, (.faddr 2 (.t 1))⟩, ⟨(some 10), (some (8, false)), 0, (.load 1 false (.t 9))⟩, ⟨(some 11), (some (8, false)), 0, (.len (.t 10))⟩, ⟨(some 12), (some (8, false)), 0, (.faddr 0 (.t 1))⟩, ⟨(some 13), (some (8, false)), 0, (.load 1 false (.t 12))⟩, ⟨(some 14), (some (8, false)), 0, (.bin .gtr (.t 11) (.t 13))⟩, ⟨(some 15), none, 0, (.pick (.t 8) (.k (.bool true)) (.t 14))⟩, ⟨(some 16), none, 0, (.mov (.t 15))⟩, ⟨(some 17), (some (16, false)), 0, (.faddr 1 (.t 1))⟩, ⟨(some 18), (some (16, false)), 0, (.load 1 false (.t 17))⟩, ⟨(some 19), (some (16, false)), 0, (.call false 0 0 52 [(.t 18), (.k (.int .i64 0)), (.k (.int .i64 100000))])⟩, ⟨(some 20), (some (16, false)), 0, (.not (.t 19))⟩, ⟨(some 21), none, 0, (.pick (.t 16) (.k (.bool true)) (.t 20))⟩, ⟨(some 22), none, 0, (.mov (.t 21))⟩, ⟨(some 23), (some (22, false)), 0, (.faddr 1 (.t 1))⟩, ⟨(some 24), (some (22, false)), 0, (.load 1 false (.t 23))⟩, ⟨(some 25), (some (22, false)), 0, (.faddr 2 (.t 1))⟩, ⟨(some 26), (some (22, false)), 0, (.load 1 false (.t 25))⟩, ⟨(some 27), (some (22, false)), 0, (.len (.t 26))⟩, ⟨(some 28), (some (22, false)), 0, (.bin .add (.t 24) (.t 27))⟩, ⟨(some 29), (some (22, false)), 0, (.bin .gtr (.t 28) (.k (.int .i64 100000)))⟩, ⟨(some 30), none, 0, (.pick (.t 22) (.k (.bool true)) (.t 29))⟩]
def R95_2 : List AR := [⟨(some 2), none, 0, (.mov (.k (.bool false)))⟩]
def R95_3 : List AR := [⟨(some 3), none, 0, (.mov (.k (.int .i64 0)))⟩]
def R95_4 : List AR := [⟨(some 31), none, 0, (.mov (.t 3))⟩, ⟨(some 32), none, 0, (.faddr 2 (.t 1))⟩, ⟨(some 33), none, 0, (.load 1 false (.t 32))⟩, ⟨(some 34), none, 0, (.len (.t 33))⟩, ⟨(some 35), none, 0, (.bin .lss (.t 31) (.t 34))⟩]
def R95_5 : List AR := [⟨(some 38), none, 0, (.faddr 2 (.t 1))⟩, ⟨(some 39), none, 0, (.load 1 false (.t 38))⟩, ⟨(some 40), none, 0, (.mov (.t 3))⟩, ⟨(some 41), none, 0, (.iaddr 2 (.t 39) (.t 40))⟩, ⟨(some 42), none, 0, (.load 2 true (.t 41))⟩, ⟨(some 43), none, 0, (.call false 0 0 94 [(.t 42)])⟩, ⟨(some 44), none, 0, (.not (.t 43))⟩]
def R95_6 : List AR := [⟨(some 2), none, 0, (.mov (.k (.bool false)))⟩]
def R95_7 : List AR := [⟨(some 36), none, 0, (.mov (.t 3))⟩, ⟨(some 37), none, 0, (.bin .add (.t 36) (.k (.int .i64 1)))⟩, ⟨(some 3), none, 0, (.mov (.t 37))⟩]
def A95_0 : AC := (.seq (.block 1 (.seq (.reg 0 R95_5) (.cond (.t 44) (.seq (.reg 0 R95_6) .ret) .skip))) (.reg 0 R95_7))
def L95_0 : AC := (.seq (.seq (.reg 0 R95_4) (.cond (.t 35) .skip (.exit 0))) A95_0)
def R95_8 : List AR := [⟨(some 2), none, 0, (.mov (.k (.bool true)))⟩]
def A95_1 : AC := (.seq (.reg 0 R95_8) .ret)
def A95_2 : AC := (.seq (.seq (.reg 0 R95_3) (.block 0 (.loop L95_0))) A95_1)
def A95_3 : AC := (.seq (.seq (.reg 0 R95_1) (.cond (.t 30) (.seq (.reg 0 R95_2) .ret) .skip)) A95_2)
def A95 : AC := (.seq (.reg 1 R95_0) A95_3)
def O95 : List AO := [(.mov (.t 2))]
def G95 : Fns := ⟨fun f => false, fun f => 0, false⟩
noncomputable def X95 : Cx := ⟨Tryz.prog, G95, drawD, 45, [0, 1, 2, 3, 30, 35, 44]⟩
theorem c95 : (Tryz.f95.body).bind (compC X95.P X95.Γ X95.D X95.nt) = some A95 := by kernel_rfl
theorem o95 : compRes X95.P Tryz.f95.results.toList = some O95 := by kernel_rfl
theorem v95 : X95.vs = [0, 1, 2, 3, 30, 35, 44] := rfl
theorem p95 : X95.P = Tryz.prog := rfl
def R65_0 : List AR := [⟨(some 1), none, 0, (.box 0 3 (.t 0))⟩, ⟨(some 2), none, 0, (.mov (.k (.bool false)))⟩]
def R65_1 : List AR := [⟨(some 5), none, 0, (.faddr 2 (.t 1))⟩, ⟨(some 6), none, 0, (.load 1 false (.t 5))⟩, ⟨(some 7), none, 0, (.len (.t 6))⟩, ⟨(some 8), none, 0, (.mov (.k (.int .i64 0)))⟩]
def R65_2 : List AR := [⟨(some 9), none, 0, (.bin .lss (.t 8) (.t 7))⟩]
def R65_3 : List AR := [⟨(some 10), none, 0, (.iaddr 2 (.t 6) (.t 8))⟩, ⟨(some 11), none, 0, (.load 2 true (.t 10))⟩, ⟨(some 4), none, 0, (.alloc 0 2 [.nl, .nl])⟩, ⟨none, none, 0, (.store 2 (.t 4) (.t 11))⟩]
def R65_4 : List AR := [⟨(some 12), none, 0, (.load 2 true (.t 4))⟩, ⟨(some 13), none, 0, (.call false 0 0 63 [(.t 12)])⟩, ⟨(some 14), none, 0, (.not (.t 13))⟩]
def R65_5 : List AR := [⟨(some 2), none, 0, (.mov (.k (.bool false)))⟩]
def A65_0 : AC := (.seq (.reg 0 R65_4) (.cond (.t 14) (.seq (.reg 0 R65_5) .ret) .skip))
def R65_6 : List AR := [⟨(some 15), none, 0, (.bin .add (.t 8) (.k (.int .i64 1)))⟩, ⟨(some 8), none, 0, (.mov (.t 15))⟩]
def A65_1 : AC := (.seq (.block 1 (.seq (.reg 1 R65_3) A65_0)) (.reg 0 R65_6))
def A65_2 : AC := (.seq (.cond (.t 9) .skip (.exit 0)) A65_1)
def L65_0 : AC := (.seq (.reg 0 R65_2) A65_2)
def R65_7 : List AR := [⟨(some 16), none, 0, (.faddr 0 (.t 1))⟩, ⟨(some 17), none, 0, (.load 1 false (.t 16))⟩, ⟨(some 18), none, 0, (.call false 0 0 49 [(.t 17), (.k (.int .i64 1)), (.k (.int .i64 8))])⟩, ⟨(some 19), none, 0, (.mov (.t 18))⟩, ⟨(some 20), (some (19, true)), 0, (.faddr 2 (.t 1))⟩, ⟨(some 21), (some (19, true)), 0, (.load 1 false (.t 20))⟩, ⟨(some 22), (some (19, true)), 0, (.len (.t 21))⟩, ⟨(some 23), (some (19, true)), 0, (.faddr 0 (.t 1))⟩, ⟨(some 24), (some (19, true)), 0, (.load 1 false (.t 23))⟩, ⟨(some 25), (some (19, true)), 0, (.bin .leq (.t 22) (.t 24))⟩, ⟨(some 26), none, 0, (.pick (.t 19) (.t 25) (.k (.bool false)))⟩, ⟨(some 27), none, 0, (.mov (.t 26))⟩, ⟨(some 28), (some (27, true)), 0, (.faddr 1 (.t 1))⟩, ⟨(some 29), (some (27, true)), 0, (.load 1 false (.t 28))⟩, ⟨(some 30), (some (27, true)), 0, (.call false 0 0 49 [(.t 29), (.k (.int .i64 0)), (.k (.int .i64 100000))])⟩, ⟨(some 31), none, 0, (.pick (.t 27) (.t 30) (.k (.bool false)))⟩, ⟨(some 32), none, 0, (.mov (.t 31))⟩, ⟨(some 33), (some (32, true)), 0, (.faddr 1 (.t 1))⟩, ⟨(some 34), (some (32, true)), 0, (.load 1 false (.t 33))⟩, ⟨(some 35), (some (32, true)), 0, (.faddr 2 (.t 1))⟩, ⟨(some 36), (some (32, true)), 0, (.load 1 false (.t 35))⟩, ⟨(some 37), (some (32, true)), 0, (.len (.t 36))⟩, ⟨(some 38), (some (32, true)), 0, (.bin .add (.t 34) (.t 37))⟩, ⟨(some 39), (some (32, true)), 0, (.bin .leq (.t 38) (.k (.int .i64 100000)))⟩, ⟨(some 40), none, 0, (.pick (.t 32) (.t 39) (.k (.bool false)))⟩, ⟨(some 2), none, 0, (.mov (.t 40))⟩]
def A65_3 : AC := (.seq (.reg 0 R65_7) .ret)
def A65_4 : AC := (.seq (.seq (.reg 0 R65_1) (.block 0 (.loop L65_0))) A65_3)
def A65 : AC := (.seq (.reg 1 R65_0) A65_4)
def O65 : List AO := [(.mov (.t 2))]
def G65 : Fns := ⟨fun f => false, fun f => 0, false⟩
noncomputable def X65 : Cx := ⟨Tryz.prog, G65, drawD, 41, [0, 1, 2, 4, 6, 7, 8, 9, 14]⟩
theorem c65 : (Tryz.f65.body).bind (compC X65.P X65.Γ X65.D X65.nt) = some A65 := by kernel_rfl
theorem o65 : compRes X65.P Tryz.f65.results.toList = some O65 := by kernel_rfl
theorem v65 : X65.vs = [0, 1, 2, 4, 6, 7, 8, 9, 14] := rfl
theorem p65 : X65.P = Tryz.prog := rfl
def R76_0 : List AR := [⟨(some 1), none, 0, (.box 0 3 (.t 0))⟩, ⟨(some 2), none, 0, (.mov (.k (.int .i64 0)))⟩]
def R76_1 : List AR := [⟨(some 3), none, 0, (.load 3 true (.t 1))⟩, ⟨(some 4), none, 0, (.call false 0 0 95 [(.t 3)])⟩, ⟨(some 5), none, 0, (.not (.t 4))⟩]
def R76_2 : List AR := [⟨(some 2), none, 0, (.mov (.k (.int .i64 0)))⟩]
def R76_3 : List AR := [⟨(some 6), none, 0, (.faddr 1 (.t 1))⟩, ⟨(some 7), none, 0, (.load 1 false (.t 6))⟩, ⟨(some 8), none, 0, (.faddr 2 (.t 1))⟩, ⟨(some 9), none, 0, (.load 1 false (.t 8))⟩, ⟨(some 10), none, 0, (.len (.t 9))⟩, ⟨(some 11), none, 0, (.bin .add (.t 7) (.t 10))⟩, ⟨(some 2), none, 0, (.mov (.t 11))⟩]
def A76_0 : AC := (.seq (.reg 0 R76_3) .ret)
def A76_1 : AC := (.seq (.seq (.reg 0 R76_1) (.cond (.t 5) (.seq (.reg 0 R76_2) .ret) .skip)) A76_0)
def A76 : AC := (.seq (.reg 1 R76_0) A76_1)
def O76 : List AO := [(.mov (.t 2))]
def G76 : Fns := ⟨fun f => false, fun f => 0, false⟩
noncomputable def X76 : Cx := ⟨Tryz.prog, G76, drawD, 12, [0, 1, 2, 5]⟩
theorem c76 : (Tryz.f76.body).bind (compC X76.P X76.Γ X76.D X76.nt) = some A76 := by kernel_rfl
theorem o76 : compRes X76.P Tryz.f76.results.toList = some O76 := by kernel_rfl
theorem v76 : X76.vs = [0, 1, 2, 5] := rfl
theorem p76 : X76.P = Tryz.prog := rfl
def R22_0 : List AR := [⟨(some 1), none, 0, (.box 0 3 (.t 0))⟩, ⟨(some 2), none, 0, (.mov (.k (.int .i64 0)))⟩]
def R22_1 : List AR := [⟨(some 3), none, 0, (.load 3 true (.t 1))⟩, ⟨(some 4), none, 0, (.call false 0 0 65 [(.t 3)])⟩, ⟨(some 5), none, 0, (.not (.t 4))⟩]
def R22_2 : List AR := [⟨(some 2), none, 0, (.mov (.k (.int .i64 0)))⟩]
def R22_3 : List AR := [⟨(some 6), none, 0, (.faddr 1 (.t 1))⟩, ⟨(some 7), none, 0, (.load 1 false (.t 6))⟩, ⟨(some 8), none, 0, (.faddr 2 (.t 1))⟩, ⟨(some 9), none, 0, (.load 1 false (.t 8))⟩, ⟨(some 10), none, 0, (.len (.t 9))⟩, ⟨(some 11), none, 0, (.bin .add (.t 7) (.t 10))⟩, ⟨(some 2), none, 0, (.mov (.t 11))⟩]
def A22_0 : AC := (.seq (.reg 0 R22_3) .ret)
def A22_1 : AC := (.seq (.seq (.reg 0 R22_1) (.cond (.t 5) (.seq (.reg 0 R22_2) .ret) .skip)) A22_0)
def A22 : AC := (.seq (.reg 1 R22_0) A22_1)
def O22 : List AO := [(.mov (.t 2))]
def G22 : Fns := ⟨fun f => false, fun f => 0, false⟩
noncomputable def X22 : Cx := ⟨Tryz.prog, G22, drawD, 12, [0, 1, 2, 5]⟩
theorem c22 : (Tryz.f22.body).bind (compC X22.P X22.Γ X22.D X22.nt) = some A22 := by kernel_rfl
theorem o22 : compRes X22.P Tryz.f22.results.toList = some O22 := by kernel_rfl
theorem v22 : X22.vs = [0, 1, 2, 5] := rfl
theorem p22 : X22.P = Tryz.prog := rfl
def R96_0 : List AR := [⟨(some 4), none, 0, (.mov (.k (.bool false)))⟩]
def R96_1 : List AR := [⟨(some 6), none, 0, (.mov (.t 1))⟩, ⟨(some 7), none, 0, (.call false 0 0 52 [(.t 6), (.k (.int .i64 1)), (.k (.int .i64 5))])⟩, ⟨(some 8), none, 0, (.not (.t 7))⟩, ⟨(some 9), none, 0, (.mov (.t 8))⟩, ⟨(some 10), (some (9, false)), 0, (.mov (.t 0))⟩, ⟨(some 11), (some (9, false)), 0, (.len (.t 10))⟩, ⟨(some 12), (some (9, false)), 0, (.mov (.t 1))⟩, ⟨(some 13), (some (9, false)), 0, (.bin .neq (.t 11) (.t 12))⟩, ⟨(some 14), none, 0, (.pick (.t 9) (.k (.bool true)) (.t 13))⟩]
def R96_2 : List AR := [⟨(some 4), none, 0, (.mov (.k (.bool false)))⟩]
def R96_3 : List AR := [⟨(some 5), none, 0, (.mov (.k (.int .i64 0)))⟩]
def R96_4 : List AR := [⟨(some 15), none, 0, (.mov (.t 5))⟩, ⟨(some 16), none, 0, (.mov (.t 1))⟩, ⟨(some 17), none, 0, (.bin .lss (.t 15) (.t 16))⟩]
def R96_5 : List AR := [⟨(some 20), none, 0, (.mov (.t 0))⟩, ⟨(some 21), none, 0, (.mov (.t 5))⟩, ⟨(some 22), none, 0, (.iaddr 1 (.t 20) (.t 21))⟩, ⟨(some 23), none, 0, (.load 1 false (.t 22))⟩, ⟨(some 24), none, 0, (.call false 0 0 52 [(.t 23), (.k (.int .i64 0)), (.k (.int .i64 100000))])⟩, ⟨(some 25), none, 0, (.not (.t 24))⟩]
def R96_6 : List AR := [⟨(some 4), none, 0, (.mov (.k (.bool false)))⟩]
def R96_7 : List AR := [⟨(some 18), none, 0, (.mov (.t 5))⟩, ⟨(some 19), none, 0, (.bin .add (.t 18) (.k (.int .i64 1)))⟩, ⟨(some 5), none, 0, (.mov (.t 19))⟩]
def A96_0 : AC := (.seq (.block 1 (.seq (.reg 0 R96_5) (.cond (.t 25) (.seq (.reg 0 R96_6) .ret) .skip))) (.reg 0 R96_7))
def L96_0 : AC := (.seq (.seq (.reg 0 R96_4) (.cond (.t 17) .skip (.exit 0))) A96_0)
def R96_8 : List AR := [⟨(some 4), none, 0, (.mov (.k (.bool true)))⟩]
def A96_1 : AC := (.seq (.reg 0 R96_8) .ret)
def A96_2 : AC := (.seq (.seq (.reg 0 R96_3) (.block 0 (.loop L96_0))) A96_1)
def A96_3 : AC := (.seq (.seq (.reg 0 R96_1) (.cond (.t 14) (.seq (.reg 0 R96_2) .ret) .skip)) A96_2)
def A96 : AC := (.seq (.reg 0 R96_0) A96_3)
def O96 : List AO := [(.mov (.t 4))]
def G96 : Fns := ⟨fun f => false, fun f => 0, false⟩
noncomputable def X96 : Cx := ⟨Tryz.prog, G96, drawD, 26, [0, 1, 4, 5, 14, 17, 25]⟩
theorem c96 : (Tryz.f96.body).bind (compC X96.P X96.Γ X96.D X96.nt) = some A96 := by kernel_rfl
theorem o96 : compRes X96.P Tryz.f96.results.toList = some O96 := by kernel_rfl
theorem v96 : X96.vs = [0, 1, 4, 5, 14, 17, 25] := rfl
theorem p96 : X96.P = Tryz.prog := rfl
def R66_0 : List AR := [⟨(some 4), none, 0, (.mov (.k (.bool false)))⟩]
def R66_1 : List AR := [⟨(some 7), none, 0, (.mov (.t 0))⟩, ⟨(some 8), none, 0, (.len (.t 7))⟩, ⟨(some 9), none, 0, (.mov (.k (.int .i64 0)))⟩]
def R66_2 : List AR := [⟨(some 10), none, 0, (.bin .lss (.t 9) (.t 8))⟩]
def R66_3 : List AR := [⟨(some 11), none, 0, (.iaddr 1 (.t 7) (.t 9))⟩, ⟨(some 12), none, 0, (.load 1 false (.t 11))⟩, ⟨(some 6), none, 0, (.mov (.t 12))⟩]
def R66_4 : List AR := [⟨(some 13), none, 0, (.mov (.t 6))⟩, ⟨(some 14), none, 0, (.call false 0 0 49 [(.t 13), (.k (.int .i64 0)), (.k (.int .i64 100000))])⟩, ⟨(some 15), none, 0, (.not (.t 14))⟩]
def R66_5 : List AR := [⟨(some 4), none, 0, (.mov (.k (.bool false)))⟩]
def A66_0 : AC := (.seq (.reg 0 R66_4) (.cond (.t 15) (.seq (.reg 0 R66_5) .ret) .skip))
def R66_6 : List AR := [⟨(some 16), none, 0, (.bin .add (.t 9) (.k (.int .i64 1)))⟩, ⟨(some 9), none, 0, (.mov (.t 16))⟩]
def A66_1 : AC := (.seq (.block 1 (.seq (.reg 0 R66_3) A66_0)) (.reg 0 R66_6))
def A66_2 : AC := (.seq (.cond (.t 10) .skip (.exit 0)) A66_1)
def L66_0 : AC := (.seq (.reg 0 R66_2) A66_2)
def R66_7 : List AR := [⟨(some 17), none, 0, (.mov (.t 1))⟩, ⟨(some 18), none, 0, (.call false 0 0 49 [(.t 17), (.k (.int .i64 1)), (.k (.int .i64 5))])⟩, ⟨(some 19), none, 0, (.mov (.t 18))⟩, ⟨(some 20), (some (19, true)), 0, (.mov (.t 0))⟩, ⟨(some 21), (some (19, true)), 0, (.len (.t 20))⟩, ⟨(some 22), (some (19, true)), 0, (.mov (.t 1))⟩, ⟨(some 23), (some (19, true)), 0, (.bin .eql (.t 21) (.t 22))⟩, ⟨(some 24), none, 0, (.pick (.t 19) (.t 23) (.k (.bool false)))⟩, ⟨(some 4), none, 0, (.mov (.t 24))⟩]
def A66_3 : AC := (.seq (.reg 0 R66_7) .ret)
def A66_4 : AC := (.seq (.seq (.reg 0 R66_1) (.block 0 (.loop L66_0))) A66_3)
def A66 : AC := (.seq (.reg 0 R66_0) A66_4)
def O66 : List AO := [(.mov (.t 4))]
def G66 : Fns := ⟨fun f => false, fun f => 0, false⟩
noncomputable def X66 : Cx := ⟨Tryz.prog, G66, drawD, 25, [0, 1, 4, 6, 7, 8, 9, 10, 15]⟩
theorem c66 : (Tryz.f66.body).bind (compC X66.P X66.Γ X66.D X66.nt) = some A66 := by kernel_rfl
theorem o66 : compRes X66.P Tryz.f66.results.toList = some O66 := by kernel_rfl
theorem v66 : X66.vs = [0, 1, 4, 6, 7, 8, 9, 10, 15] := rfl
theorem p66 : X66.P = Tryz.prog := rfl
def R97_0 : List AR := [⟨(some 4), none, 0, (.mov (.k (.bool false)))⟩]
def R97_1 : List AR := [⟨(some 7), none, 0, (.mov (.t 1))⟩, ⟨(some 8), none, 0, (.call false 0 0 52 [(.t 7), (.k (.int .i64 1)), (.k (.int .i64 5))])⟩, ⟨(some 9), none, 0, (.not (.t 8))⟩, ⟨(some 10), none, 0, (.mov (.t 9))⟩, ⟨(some 11), (some (10, false)), 0, (.mov (.t 0))⟩, ⟨(some 12), (some (10, false)), 0, (.len (.t 11))⟩, ⟨(some 13), (some (10, false)), 0, (.mov (.t 1))⟩, ⟨(some 14), (some (10, false)), 0, (.bin .neq (.t 12) (.t 13))⟩, ⟨(some 15), none, 0, (.pick (.t 10) (.k (.bool true)) (.t 14))⟩]
def R97_2 : List AR := [⟨(some 4), none, 0, (.mov (.k (.bool false)))⟩]
def R97_3 : List AR := [⟨(some 5), none, 0, (.mov (.k (.int .i64 0)))⟩]
def R97_4 : List AR := [⟨(some 16), none, 0, (.mov (.t 5))⟩, ⟨(some 17), none, 0, (.mov (.t 1))⟩, ⟨(some 18), none, 0, (.bin .lss (.t 16) (.t 17))⟩]
def R97_5 : List AR := [⟨(some 21), none, 0, (.mov (.t 0))⟩, ⟨(some 22), none, 0, (.mov (.t 5))⟩, ⟨(some 23), none, 0, (.iaddr 1 (.t 21) (.t 22))⟩, ⟨(some 24), none, 0, (.load 1 false (.t 23))⟩, ⟨(some 25), none, 0, (.len (.t 24))⟩, ⟨(some 26), none, 0, (.bin .neq (.t 25) (.k (.int .i64 5)))⟩]
def R97_6 : List AR := [⟨(some 4), none, 0, (.mov (.k (.bool false)))⟩]
def R97_7 : List AR := [⟨(some 6), none, 0, (.mov (.k (.int .i64 0)))⟩]
def R97_8 : List AR := [⟨(some 27), none, 0, (.mov (.t 6))⟩, ⟨(some 28), none, 0, (.mov (.t 0))⟩, ⟨(some 29), none, 0, (.mov (.t 5))⟩, ⟨(some 30), none, 0, (.iaddr 1 (.t 28) (.t 29))⟩, ⟨(some 31), none, 0, (.load 1 false (.t 30))⟩, ⟨(some 32), none, 0, (.len (.t 31))⟩, ⟨(some 33), none, 0, (.bin .lss (.t 27) (.t 32))⟩]
def R97_9 : List AR := [⟨(some 36), none, 0, (.mov (.t 0))⟩, ⟨(some 37), none, 0, (.mov (.t 5))⟩, ⟨(some 38), none, 0, (.iaddr 1 (.t 36) (.t 37))⟩, ⟨(some 39), none, 0, (.load 1 false (.t 38))⟩, ⟨(some 40), none, 0, (.mov (.t 6))⟩, ⟨(some 41), none, 0, (.iaddr 1 (.t 39) (.t 40))⟩, ⟨(some 42), none, 0, (.load 1 false (.t 41))⟩, ⟨(some 43), none, 0, (.call false 0 0 52 [(.t 42), (.k (.int .i64 0)), (.k (.int .i64 1000))])⟩, ⟨(some 44), none, 0, (.not (.t 43))⟩]
def R97_10 : List AR := [⟨(some 4), none, 0, (.mov (.k (.bool false)))⟩]
def R97_11 : List AR := [⟨(some 34), none, 0, (.mov (.t 6))⟩, ⟨(some 35), none, 0, (.bin .add (.t 34) (.k (.int .i64 1)))⟩, ⟨(some 6), none, 0, (.mov (.t 35))⟩]
def A97_0 : AC := (.seq (.block 3 (.seq (.reg 0 R97_9) (.cond (.t 44) (.seq (.reg 0 R97_10) .ret) .skip))) (.reg 0 R97_11))
def L97_0 : AC := (.seq (.seq (.reg 0 R97_8) (.cond (.t 33) .skip (.exit 2))) A97_0)
def A97_1 : AC := (.seq (.reg 0 R97_7) (.block 2 (.loop L97_0)))
def R97_12 : List AR := [⟨(some 19), none, 0, (.mov (.t 5))⟩, ⟨(some 20), none, 0, (.bin .add (.t 19) (.k (.int .i64 1)))⟩, ⟨(some 5), none, 0, (.mov (.t 20))⟩]
def A97_2 : AC := (.seq (.block 1 (.seq (.seq (.reg 0 R97_5) (.cond (.t 26) (.seq (.reg 0 R97_6) .ret) .skip)) A97_1)) (.reg 0 R97_12))
def L97_1 : AC := (.seq (.seq (.reg 0 R97_4) (.cond (.t 18) .skip (.exit 0))) A97_2)
def R97_13 : List AR := [⟨(some 4), none, 0, (.mov (.k (.bool true)))⟩]
def A97_3 : AC := (.seq (.reg 0 R97_13) .ret)
def A97_4 : AC := (.seq (.seq (.reg 0 R97_3) (.block 0 (.loop L97_1))) A97_3)
def A97_5 : AC := (.seq (.seq (.reg 0 R97_1) (.cond (.t 15) (.seq (.reg 0 R97_2) .ret) .skip)) A97_4)
def A97 : AC := (.seq (.reg 0 R97_0) A97_5)
def O97 : List AO := [(.mov (.t 4))]
def G97 : Fns := ⟨fun f => false, fun f => 0, false⟩
noncomputable def X97 : Cx := ⟨Tryz.prog, G97, drawD, 45, [0, 1, 4, 5, 6, 15, 18, 26, 33, 44]⟩
theorem c97 : (Tryz.f97.body).bind (compC X97.P X97.Γ X97.D X97.nt) = some A97 := by kernel_rfl
theorem o97 : compRes X97.P Tryz.f97.results.toList = some O97 := by kernel_rfl
theorem v97 : X97.vs = [0, 1, 4, 5, 6, 15, 18, 26, 33, 44] := rfl
theorem p97 : X97.P = Tryz.prog := rfl
def R68_0 : List AR := [⟨(some 4), none, 0, (.mov (.k (.bool false)))⟩]
def R68_1 : List AR := [⟨(some 9), none, 0, (.mov (.t 0))⟩, ⟨(some 10), none, 0, (.len (.t 9))⟩, ⟨(some 11), none, 0, (.mov (.k (.int .i64 0)))⟩]
def R68_2 : List AR := [⟨(some 12), none, 0, (.bin .lss (.t 11) (.t 10))⟩]
def R68_3 : List AR := [⟨(some 13), none, 0, (.iaddr 1 (.t 9) (.t 11))⟩, ⟨(some 14), none, 0, (.load 1 false (.t 13))⟩, ⟨(some 6), none, 0, (.mov (.t 14))⟩]
def R68_4 : List AR := [⟨(some 15), none, 0, (.mov (.t 6))⟩, ⟨(some 16), none, 0, (.len (.t 15))⟩, ⟨(some 17), none, 0, (.mov (.k (.int .i64 0)))⟩]
def R68_5 : List AR := [⟨(some 18), none, 0, (.bin .lss (.t 17) (.t 16))⟩]
def R68_6 : List AR := [⟨(some 19), none, 0, (.iaddr 1 (.t 15) (.t 17))⟩, ⟨(some 20), none, 0, (.load 1 false (.t 19))⟩, ⟨(some 8), none, 0, (.mov (.t 20))⟩]
def R68_7 : List AR := [⟨(some 21), none, 0, (.mov (.t 8))⟩, ⟨(some 22), none, 0, (.call false 0 0 49 [(.t 21), (.k (.int .i64 0)), (.k (.int .i64 1000))])⟩, ⟨(some 23), none, 0, (.not (.t 22))⟩]
def R68_8 : List AR := [⟨(some 4), none, 0, (.mov (.k (.bool false)))⟩]
def A68_0 : AC := (.seq (.reg 0 R68_7) (.cond (.t 23) (.seq (.reg 0 R68_8) .ret) .skip))
def R68_9 : List AR := [⟨(some 24), none, 0, (.bin .add (.t 17) (.k (.int .i64 1)))⟩, ⟨(some 17), none, 0, (.mov (.t 24))⟩]
def A68_1 : AC := (.seq (.block 3 (.seq (.reg 0 R68_6) A68_0)) (.reg 0 R68_9))
def A68_2 : AC := (.seq (.cond (.t 18) .skip (.exit 2)) A68_1)
def L68_0 : AC := (.seq (.reg 0 R68_5) A68_2)
def R68_10 : List AR := [⟨(some 25), none, 0, (.mov (.t 6))⟩, ⟨(some 26), none, 0, (.len (.t 25))⟩, ⟨(some 27), none, 0, (.bin .neq (.t 26) (.k (.int .i64 5)))⟩]
def R68_11 : List AR := [⟨(some 4), none, 0, (.mov (.k (.bool false)))⟩]
def A68_3 : AC := (.seq (.reg 0 R68_10) (.cond (.t 27) (.seq (.reg 0 R68_11) .ret) .skip))
def A68_4 : AC := (.seq (.seq (.reg 0 R68_4) (.block 2 (.loop L68_0))) A68_3)
def R68_12 : List AR := [⟨(some 28), none, 0, (.bin .add (.t 11) (.k (.int .i64 1)))⟩, ⟨(some 11), none, 0, (.mov (.t 28))⟩]
def A68_5 : AC := (.seq (.block 1 (.seq (.reg 0 R68_3) A68_4)) (.reg 0 R68_12))
def A68_6 : AC := (.seq (.cond (.t 12) .skip (.exit 0)) A68_5)
def L68_1 : AC := (.seq (.reg 0 R68_2) A68_6)
def R68_13 : List AR := [⟨(some 29), none, 0, (.mov (.t 1))⟩, ⟨(some 30), none, 0, (.call false 0 0 49 [(.t 29), (.k (.int .i64 1)), (.k (.int .i64 5))])⟩, ⟨(some 31), none, 0, (.mov (.t 30))⟩, ⟨(some 32), (some (31, true)), 0, (.mov (.t 0))⟩, ⟨(some 33), (some (31, true)), 0, (.len (.t 32))⟩, ⟨(some 34), (some (31, true)), 0, (.mov (.t 1))⟩, ⟨(some 35), (some (31, true)), 0, (.bin .eql (.t 33) (.t 34))⟩, ⟨(some 36), none, 0, (.pick (.t 31) (.t 35) (.k (.bool false)))⟩, ⟨(some 4), none, 0, (.mov (.t 36))⟩]
def A68_7 : AC := (.seq (.reg 0 R68_13) .ret)
def A68_8 : AC := (.seq (.seq (.reg 0 R68_1) (.block 0 (.loop L68_1))) A68_7)
def A68 : AC := (.seq (.reg 0 R68_0) A68_8)
def O68 : List AO := [(.mov (.t 4))]
def G68 : Fns := ⟨fun f => false, fun f => 0, false⟩
noncomputable def X68 : Cx := ⟨Tryz.prog, G68, drawD, 37, [0, 1, 4, 6, 8, 9, 10, 11, 12, 15, 16, 17, 18, 23, 27]⟩
theorem c68 : (Tryz.f68.body).bind (compC X68.P X68.Γ X68.D X68.nt) = some A68 := by kernel_rfl
theorem o68 : compRes X68.P Tryz.f68.results.toList = some O68 := by kernel_rfl
theorem v68 : X68.vs = [0, 1, 4, 6, 8, 9, 10, 11, 12, 15, 16, 17, 18, 23, 27] := rfl
theorem p68 : X68.P = Tryz.prog := rfl
def Log.H (l : Log) : Prop := (1 ≤ l.cap ∧ l.cap ≤ 8) ∧ (l.list.length : Int) ≤ l.cap ∧ (0 ≤ l.from_ ∧ l.from_ ≤ 100000) ∧ l.from_ + (l.list.length : Int) ≤ 100000
def Log.Right (l : Log) : Prop := l.H ∧ ∀ (j : Nat) s, l.list[j]? = some s → s.Right
noncomputable instance (l : Log) : Decidable l.H := Classical.propDecidable _
noncomputable instance (l : Log) : Decidable l.Right := Classical.propDecidable _
theorem log_at {l : Log} (h : l.sz ≤ 1048576) {i : Nat} (h1 : i < l.list.length) : l.list[i].sz ≤ 1048576 := by
  have h2 : l.list.length + sumBy State.sz l.list ≤ 1048576 := h
  have := sumBy_get State.sz h1
  omega
set_option maxHeartbeats 1000000 in
theorem specLogOk_ok (l : Log) (h : l.sz ≤ 1048576) : FS Tryz.prog 95 [] [.agg l.c] (.bool (decide l.Right)) [] := by
  refine FS.of (X := X95) (ac := A95) (os := O95) Tryz.func95 (by rfl) (by rfl) (by kernel_rfl) o95 (Nat.le_of_ble_eq_true rfl) ?_
  show AWP X95 A95 (Ends X95.vs O95 0 _ _) [.agg l.c, .tup [], .tup [], .tup [], .tup [], .tup [], .tup []] []
  obtain ⟨Q, hQ⟩ : ∃ Q, Q = Ends X95.vs O95 0 (.bool (decide l.Right)) [] := ⟨_, rfl⟩
  rw [← hQ]
  have hl : l.list.length + sumBy State.sz l.list ≤ 1048576 := h
  have fin : ∀ L σ vV, resVs O95 (look X95.vs L) σ = some [vV] → vV = (.bool (decide l.Right)) → Q .ret L σ := by
    intro L σ vV h1 h2
    rw [hQ]
    exact Ends.is (.inl rfl) h1 (by simp only [packV, h2]) rfl
  refine awp_sr ?_
  simp only [go_sem, R95_0, v95, p95, Log.c]
  obtain ⟨K1, hK1⟩ : ∃ K : List V → Store → Prop, K = fun L σ => ∃ q y0 y2 y3 y35 y44, L = [y0, .ptr 0 3 0 0, y2, y3, .bool q, y35, y44] ∧ σ = [.live ⟨3, [l.c]⟩] ∧ q = !decide l.H := ⟨_, rfl⟩
  refine awp_sr2K (K1) ?_ ?_
  · simp only [go_sem, R95_1, v95, p95, Log.c]
    refine run_see (l1In_ok _ _ _) false (Views.refl rfl) rfl (fun j hj => by first | omega | ((have hj0 : j = 0 := by omega); subst hj0; first | rfl | (simp only [Nat.add_zero, app_get, app_getk, sapp_get, sapp_getk, Nat.add_assoc, Nat.reduceAdd, List.getElem?_cons_zero, List.getElem?_cons_succ]; done) | simp)) (fun h => by cases h) ?_
    simp only [go_sem, v95, p95]
    by_cases b1 : 1 ≤ l.cap ∧ l.cap ≤ 8
    · simp only [go_sem, v95, p95, eq_true b1]
      by_cases b2 : (l.list.length : Int) > l.cap
      · simp only [go_sem, v95, p95, eq_true b2]
        rw [hK1]
        refine ⟨_, _, _, _, _, _, rfl, rfl, ?_⟩
        grind [Log.H]
      · simp only [go_sem, v95, p95, eq_false b2]
        refine run_see (l1In_ok _ _ _) false (Views.refl rfl) rfl (fun j hj => by first | omega | ((have hj0 : j = 0 := by omega); subst hj0; first | rfl | (simp only [Nat.add_zero, app_get, app_getk, sapp_get, sapp_getk, Nat.add_assoc, Nat.reduceAdd, List.getElem?_cons_zero, List.getElem?_cons_succ]; done) | simp)) (fun h => by cases h) ?_
        simp only [go_sem, v95, p95]
        by_cases b3 : 0 ≤ l.from_ ∧ l.from_ ≤ 100000
        · simp only [go_sem, v95, p95, eq_true b3, wrap_i64 (n := l.from_ + (l.list.length : Int)) (by omega) (by omega)]
          rw [hK1]
          refine ⟨_, _, _, _, _, _, rfl, rfl, ?_⟩
          grind [Log.H]
        · simp only [go_sem, v95, p95, eq_false b3]
          rw [hK1]
          refine ⟨_, _, _, _, _, _, rfl, rfl, ?_⟩
          grind [Log.H]
    · simp only [go_sem, v95, p95, eq_false b1]
      rw [hK1]
      refine ⟨_, _, _, _, _, _, rfl, rfl, ?_⟩
      grind [Log.H]
  intro L σ hq
  rw [hK1] at hq
  obtain ⟨q, y0, y2, y3, y35, y44, rfl, rfl, hq⟩ := hq
  subst hq
  refine awp_if' rfl ?_ ?_
  · intro h1
    refine awp_sr ?_
    simp only [go_sem, R95_2, v95, p95]
    refine awp_ret ?_
    try simp only [go_sem]
    exact fin _ _ (.bool false) rfl (congrArg V.bool (decide_eq_false fun e => h1 e.1)).symm
  intro h1
  refine awp_skip ?_
  simp only [go_sem]
  refine awp_sr2 ?_
  simp only [go_sem, R95_3, v95, p95]
  obtain ⟨I, hI⟩ : ∃ I : Nat → List V → Store → Prop, I = fun mM L σ => ∃ i rest y0 y2 y30 y35 y44, mM = l.list.length - i ∧ i ≤ l.list.length ∧ (∀ j s, j < i → l.list[j]? = some s → s.Right) ∧ L = [y0, .ptr 0 3 0 0, y2, .int .i64 (i : Nat), y30, y35, y44] ∧ σ = .live ⟨3, [l.c]⟩ :: rest := ⟨_, rfl⟩
  first | refine awp_for I l.list.length ?_ ?_ | refine awp_seq (awp_for I l.list.length ?_ ?_)
  · rw [hI]; refine ⟨0, _, _, _, _, _, _, rfl, Nat.zero_le _, ?_, rfl, rfl⟩
    intro j x h; omega
  intro mM L σ hIn
  rw [hI] at hIn
  obtain ⟨i, rest, y0, y2, y30, y35, y44, rfl, hi, hP, rfl, rfl⟩ := hIn
  refine awp_sr2 ?_
  simp only [go_sem, R95_4, v95, p95, Log.c]
  refine awp_if rfl ?_ ?_
  · intro h2
    have h2 : i < l.list.length := by omega
    refine awp_skip ?_
    simp only [go_sem]
    first | refine awp_block ?_ | refine awp_seq (awp_block ?_)
    refine awp_sr ?_
    simp only [go_sem, R95_5, v95, p95, Log.c, rw_at _ h2, State.c]
    refine run_see (specStateOk_ok l.list[i] (log_at h h2)) false (Views.refl rfl) rfl (fun j hj => by first | omega | ((have hj0 : j = 0 := by omega); subst hj0; first | rfl | (simp only [Nat.add_zero, app_get, app_getk, sapp_get, sapp_getk, Nat.add_assoc, Nat.reduceAdd, List.getElem?_cons_zero, List.getElem?_cons_succ]; done) | simp)) (fun h => by cases h) ?_
    simp only [go_sem, v95, p95]
    refine awp_if' rfl ?_ ?_
    · intro h3
      refine awp_sr ?_
      simp only [go_sem, R95_6, v95, p95]
      refine awp_ret ?_
      try simp only [go_sem]
      exact fin _ _ (.bool false) rfl (congrArg V.bool (decide_eq_false fun e => h3 (e.2 i _ (List.getElem?_eq_getElem h2)))).symm
    · intro h3
      refine awp_skip ?_
      simp only [go_sem]
      refine awp_reg ?_
      simp only [go_sem, R95_7, v95, p95, wrap_succ (i := i) (by omega)]
      refine ⟨l.list.length - (i + 1), by omega, ?_⟩
      rw [hI]
      refine ⟨i + 1, _, _, _, _, _, _, rfl, by omega, ?_, rfl, rfl⟩
      exact upto_succ (p := fun _ s => State.Right s) hP h2 h3
  · intro h2
    refine awp_exit ?_
    simp only [go_sem]
    refine awp_sr ?_
    simp only [go_sem, R95_8, v95, p95]
    refine awp_ret ?_
    try simp only [go_sem]
    exact fin _ _ (.bool true) rfl (congrArg V.bool (decide_eq_true (show l.Right from ⟨h1, upto_all (p := fun _ s => State.Right s) hP (by omega)⟩)).symm)
set_option maxHeartbeats 1000000 in
theorem implLogOk_ok (l : Log) (h : l.sz ≤ 1048576) : FS Tryz.prog 65 [] [.agg l.c] (.bool (decide l.Right)) [] := by
  refine FS.of (X := X65) (ac := A65) (os := O65) Tryz.func65 (by rfl) (by rfl) (by kernel_rfl) o65 (Nat.le_of_ble_eq_true rfl) ?_
  show AWP X65 A65 (Ends X65.vs O65 0 _ _) [.agg l.c, .tup [], .tup [], .tup [], .tup [], .tup [], .tup [], .tup [], .tup []] []
  obtain ⟨Q, hQ⟩ : ∃ Q, Q = Ends X65.vs O65 0 (.bool (decide l.Right)) [] := ⟨_, rfl⟩
  rw [← hQ]
  have hl : l.list.length + sumBy State.sz l.list ≤ 1048576 := h
  have fin : ∀ L σ vV, resVs O65 (look X65.vs L) σ = some [vV] → vV = (.bool (decide l.Right)) → Q .ret L σ := by
    intro L σ vV h1 h2
    rw [hQ]
    exact Ends.is (.inl rfl) h1 (by simp only [packV, h2]) rfl
  refine awp_sr ?_
  simp only [go_sem, R65_0, v65, p65, Log.c]
  refine awp_sr2 ?_
  simp only [go_sem, R65_1, v65, p65, Log.c]
  obtain ⟨I, hI⟩ : ∃ I : Nat → List V → Store → Prop, I = fun mM L σ => ∃ i rest y0 y2 y4 y9 y14, mM = l.list.length - i ∧ i ≤ l.list.length ∧ (∀ j s, j < i → l.list[j]? = some s → s.Right) ∧ L = [y0, .ptr 0 3 0 0, y2, y4, .fz 2 (rw_ State.c l.list), .int .i64 (l.list.length : Nat), .int .i64 (i : Nat), y9, y14] ∧ σ = .live ⟨3, [l.c]⟩ :: rest := ⟨_, rfl⟩
  first | refine awp_for I l.list.length ?_ ?_ | refine awp_seq (awp_for I l.list.length ?_ ?_)
  · rw [hI]; refine ⟨0, _, _, _, _, _, _, rfl, Nat.zero_le _, ?_, rfl, rfl⟩
    intro j x h; omega
  intro mM L σ hIn
  rw [hI] at hIn
  obtain ⟨i, rest, y0, y2, y4, y9, y14, rfl, hi, hP, rfl, rfl⟩ := hIn
  refine awp_sr ?_
  simp only [go_sem, R65_2, v65, p65]
  refine awp_seq ?_
  refine awp_if rfl ?_ ?_
  · intro h2
    have h2 : i < l.list.length := by omega
    refine awp_skip ?_
    simp only [go_sem]
    first | refine awp_block ?_ | refine awp_seq (awp_block ?_)
    refine awp_sr ?_
    simp only [go_sem, R65_3, v65, p65, rw_at _ h2, State.c]
    refine awp_sr ?_
    simp only [go_sem, R65_4, v65, p65]
    refine run_see (implStateOk_ok l.list[i] (log_at h h2)) false (Views.refl rfl) rfl (fun j hj => by first | omega | ((have hj0 : j = 0 := by omega); subst hj0; first | rfl | (simp only [Nat.add_zero, app_get, app_getk, sapp_get, sapp_getk, Nat.add_assoc, Nat.reduceAdd, List.getElem?_cons_zero, List.getElem?_cons_succ]; done) | simp)) (fun h => by cases h) ?_
    simp only [go_sem, v65, p65]
    refine awp_if' rfl ?_ ?_
    · intro h3
      refine awp_sr ?_
      simp only [go_sem, R65_5, v65, p65]
      refine awp_ret ?_
      try simp only [go_sem]
      exact fin _ _ (.bool false) rfl (congrArg V.bool (decide_eq_false fun e => h3 (e.2 i _ (List.getElem?_eq_getElem h2)))).symm
    · intro h3
      refine awp_skip ?_
      simp only [go_sem]
      refine awp_reg ?_
      simp only [go_sem, R65_6, v65, p65, wrap_succ (i := i) (by omega)]
      refine ⟨l.list.length - (i + 1), by omega, ?_⟩
      rw [hI]
      refine ⟨i + 1, _, _, _, _, _, _, rfl, by omega, ?_, rfl, rfl⟩
      exact upto_succ (p := fun _ s => State.Right s) hP h2 h3
  · intro h2
    refine awp_exit ?_
    simp only [go_sem]
    have ha := upto_all (p := fun _ s => State.Right s) hP (by omega)
    have key : l.Right ↔ l.H := ⟨fun e => e.1, fun e => ⟨e, ha⟩⟩
    obtain ⟨K2, hK2⟩ : ∃ K : List V → Store → Prop, K = fun L σ => ∃ q rest y0 y1 y4 y6 y7 y8 y9 y14, L = [y0, y1, .bool q, y4, y6, y7, y8, y9, y14] ∧ σ = .live ⟨3, [l.c]⟩ :: rest ∧ q = decide l.Right := ⟨_, rfl⟩
    refine awp_srK (K2) ?_ ?_
    · simp only [go_sem, R65_7, v65, p65, Log.c]
      refine run_see (within_ok _ _ _) false (Views.refl rfl) rfl (fun j hj => by first | omega | ((have hj0 : j = 0 := by omega); subst hj0; first | rfl | (simp only [Nat.add_zero, app_get, app_getk, sapp_get, sapp_getk, Nat.add_assoc, Nat.reduceAdd, List.getElem?_cons_zero, List.getElem?_cons_succ]; done) | simp)) (fun h => by cases h) ?_
      simp only [go_sem, v65, p65]
      by_cases b1 : 1 ≤ l.cap ∧ l.cap ≤ 8
      · simp only [go_sem, v65, p65, eq_true b1, Log.c]
        by_cases b2 : (l.list.length : Int) ≤ l.cap
        · simp only [go_sem, v65, p65, eq_true b2, Log.c]
          refine run_see (within_ok _ _ _) false (Views.refl rfl) rfl (fun j hj => by first | omega | ((have hj0 : j = 0 := by omega); subst hj0; first | rfl | (simp only [Nat.add_zero, app_get, app_getk, sapp_get, sapp_getk, Nat.add_assoc, Nat.reduceAdd, List.getElem?_cons_zero, List.getElem?_cons_succ]; done) | simp)) (fun h => by cases h) ?_
          simp only [go_sem, v65, p65]
          by_cases b3 : 0 ≤ l.from_ ∧ l.from_ ≤ 100000
          · simp only [go_sem, v65, p65, eq_true b3, Log.c, wrap_i64 (n := l.from_ + (l.list.length : Int)) (by omega) (by omega)]
            rw [hK2]
            refine ⟨_, _, _, _, _, _, _, _, _, _, rfl, rfl, ?_⟩
            grind [Log.H]
          · simp only [go_sem, v65, p65, eq_false b3]
            rw [hK2]
            refine ⟨_, _, _, _, _, _, _, _, _, _, rfl, rfl, ?_⟩
            grind [Log.H]
        · simp only [go_sem, v65, p65, eq_false b2]
          rw [hK2]
          refine ⟨_, _, _, _, _, _, _, _, _, _, rfl, rfl, ?_⟩
          grind [Log.H]
      · simp only [go_sem, v65, p65, eq_false b1]
        rw [hK2]
        refine ⟨_, _, _, _, _, _, _, _, _, _, rfl, rfl, ?_⟩
        grind [Log.H]
    intro L σ hq
    rw [hK2] at hq
    obtain ⟨q, rest, y0, y1, y4, y6, y7, y8, y9, y14, rfl, rfl, hq⟩ := hq
    subst hq
    refine awp_ret ?_
    try simp only [go_sem]
    exact fin _ _ _ rfl rfl
noncomputable def logSeq (l : Log) : Int := if l.Right then l.from_ + (l.list.length : Int) else 0
theorem logSeq_yes {l : Log} (h : l.Right) : logSeq l = l.from_ + (l.list.length : Int) := if_pos h
theorem logSeq_no {l : Log} (h : ¬ l.Right) : logSeq l = 0 := if_neg h
theorem specLogSeq_ok (l : Log) (h : l.sz ≤ 1048576) : FS Tryz.prog 76 [] [.agg l.c] (.int .i64 (logSeq l)) [] := by
  refine FS.of (X := X76) (ac := A76) (os := O76) Tryz.func76 (by rfl) (by rfl) (by kernel_rfl) o76 (Nat.le_of_ble_eq_true rfl) ?_
  show AWP X76 A76 (Ends X76.vs O76 0 _ _) [.agg l.c, .tup [], .tup [], .tup []] []
  obtain ⟨Q, hQ⟩ : ∃ Q, Q = Ends X76.vs O76 0 (.int .i64 (logSeq l)) [] := ⟨_, rfl⟩
  rw [← hQ]
  have fin : ∀ L σ vV, resVs O76 (look X76.vs L) σ = some [vV] → vV = (.int .i64 (logSeq l)) → Q .ret L σ := by
    intro L σ vV h1 h2
    rw [hQ]
    exact Ends.is (.inl rfl) h1 (by simp only [packV, h2]) rfl
  refine awp_sr ?_
  simp only [go_sem, R76_0, v76, p76, Log.c]
  refine awp_sr2 ?_
  simp only [go_sem, R76_1, v76, p76]
  refine run_see (specLogOk_ok l h) false (Views.refl rfl) rfl (fun j hj => by first | omega | ((have hj0 : j = 0 := by omega); subst hj0; first | rfl | (simp only [Nat.add_zero, app_get, app_getk, sapp_get, sapp_getk, Nat.add_assoc, Nat.reduceAdd, List.getElem?_cons_zero, List.getElem?_cons_succ]; done) | simp)) (fun h => by cases h) ?_
  simp only [go_sem, v76, p76]
  refine awp_if' rfl ?_ ?_
  · intro h1
    refine awp_sr ?_
    simp only [go_sem, R76_2, v76, p76]
    refine awp_ret ?_
    try simp only [go_sem]
    exact fin _ _ (.int .i64 0) rfl (congrArg (V.int .i64) (logSeq_no h1).symm)
  intro h1
  obtain ⟨⟨_, _, b1, b2⟩, _⟩ := id h1
  refine awp_skip ?_
  simp only [go_sem]
  refine awp_sr ?_
  simp only [go_sem, R76_3, v76, p76, Log.c, wrap_i64 (n := l.from_ + (l.list.length : Int)) (by omega) (by omega)]
  refine awp_ret ?_
  try simp only [go_sem]
  exact fin _ _ _ rfl (congrArg (V.int .i64) (logSeq_yes h1).symm)
theorem implLogSeq_ok (l : Log) (h : l.sz ≤ 1048576) : FS Tryz.prog 22 [] [.agg l.c] (.int .i64 (logSeq l)) [] := by
  refine FS.of (X := X22) (ac := A22) (os := O22) Tryz.func22 (by rfl) (by rfl) (by kernel_rfl) o22 (Nat.le_of_ble_eq_true rfl) ?_
  show AWP X22 A22 (Ends X22.vs O22 0 _ _) [.agg l.c, .tup [], .tup [], .tup []] []
  obtain ⟨Q, hQ⟩ : ∃ Q, Q = Ends X22.vs O22 0 (.int .i64 (logSeq l)) [] := ⟨_, rfl⟩
  rw [← hQ]
  have fin : ∀ L σ vV, resVs O22 (look X22.vs L) σ = some [vV] → vV = (.int .i64 (logSeq l)) → Q .ret L σ := by
    intro L σ vV h1 h2
    rw [hQ]
    exact Ends.is (.inl rfl) h1 (by simp only [packV, h2]) rfl
  refine awp_sr ?_
  simp only [go_sem, R22_0, v22, p22, Log.c]
  refine awp_sr2 ?_
  simp only [go_sem, R22_1, v22, p22]
  refine run_see (implLogOk_ok l h) false (Views.refl rfl) rfl (fun j hj => by first | omega | ((have hj0 : j = 0 := by omega); subst hj0; first | rfl | (simp only [Nat.add_zero, app_get, app_getk, sapp_get, sapp_getk, Nat.add_assoc, Nat.reduceAdd, List.getElem?_cons_zero, List.getElem?_cons_succ]; done) | simp)) (fun h => by cases h) ?_
  simp only [go_sem, v22, p22]
  refine awp_if' rfl ?_ ?_
  · intro h1
    refine awp_sr ?_
    simp only [go_sem, R22_2, v22, p22]
    refine awp_ret ?_
    try simp only [go_sem]
    exact fin _ _ (.int .i64 0) rfl (congrArg (V.int .i64) (logSeq_no h1).symm)
  intro h1
  obtain ⟨⟨_, _, b1, b2⟩, _⟩ := id h1
  refine awp_skip ?_
  simp only [go_sem]
  refine awp_sr ?_
  simp only [go_sem, R22_3, v22, p22, Log.c, wrap_i64 (n := l.from_ + (l.list.length : Int)) (by omega) (by omega)]
  refine awp_ret ?_
  try simp only [go_sem]
  exact fin _ _ _ rfl (congrArg (V.int .i64) (logSeq_yes h1).symm)
def vecR (v : List Int) (n : Int) : Prop := (1 ≤ n ∧ n ≤ 5) ∧ (v.length : Int) = n ∧ ∀ j x, v[j]? = some x → inTop 100000 j x
noncomputable instance (v : List Int) (n : Int) : Decidable (vecR v n) := Classical.propDecidable _
theorem specVecOk_ok (v : List Int) (n : Int) (h : v.length ≤ 1048576) : FS Tryz.prog 96 [] [.fz 1 (rw_ intC v), .int .i64 n] (.bool (decide (vecR v n))) [] := by
  refine FS.of (X := X96) (ac := A96) (os := O96) Tryz.func96 (by rfl) (by rfl) (by kernel_rfl) o96 (Nat.le_of_ble_eq_true rfl) ?_
  show AWP X96 A96 (Ends X96.vs O96 0 _ _) [.fz 1 (rw_ intC v), .int .i64 n, .tup [], .tup [], .tup [], .tup [], .tup []] []
  obtain ⟨Q, hQ⟩ : ∃ Q, Q = Ends X96.vs O96 0 (.bool (decide (vecR v n))) [] := ⟨_, rfl⟩
  rw [← hQ]
  have fin : ∀ L σ vV, resVs O96 (look X96.vs L) σ = some [vV] → vV = (.bool (decide (vecR v n))) → Q .ret L σ := by
    intro L σ vV h1 h2
    rw [hQ]
    exact Ends.is (.inl rfl) h1 (by simp only [packV, h2]) rfl
  refine awp_sr ?_
  simp only [go_sem, R96_0, v96, p96]
  obtain ⟨K3, hK3⟩ : ∃ K : List V → Store → Prop, K = fun L σ => ∃ q y4 y5 y17 y25, L = [.fz 1 (rw_ intC v), .int .i64 n, y4, y5, .bool q, y17, y25] ∧ σ = [] ∧ q = !decide ((1 ≤ n ∧ n ≤ 5) ∧ (v.length : Int) = n) := ⟨_, rfl⟩
  refine awp_sr2K (K3) ?_ ?_
  · simp only [go_sem, R96_1, v96, p96]
    repeat' first
      | (refine selP_if rfl (fun hG => ?_) (fun hG => ?_) <;> first | simp only [go_sem, v96, p96, eq_false hG] | simp only [go_sem, v96, p96, eq_true hG])
      | (refine selP_ifn rfl (fun hG => ?_) (fun hG => ?_) <;> first | simp only [go_sem, v96, p96, eq_false hG] | simp only [go_sem, v96, p96, eq_true hG])
      | (refine selN_if rfl (fun hG => ?_) (fun hG => ?_) <;> first | simp only [go_sem, v96, p96, eq_false hG] | simp only [go_sem, v96, p96, eq_true hG])
      | (refine selN_ifn rfl (fun hG => ?_) (fun hG => ?_) <;> first | simp only [go_sem, v96, p96, eq_false hG] | simp only [go_sem, v96, p96, eq_true hG])
      | (refine selB_if rfl (fun hG => ?_) (fun hG => ?_) <;> simp only [go_sem, v96, p96, hG])
      | (refine selB_ifn rfl (fun hG => ?_) (fun hG => ?_) <;> simp only [go_sem, v96, p96, hG])
      | (refine run_see (l1In_ok _ _ _) false (Views.refl rfl) rfl (fun j hj => by omega) (fun h => by cases h) ?_; simp only [go_sem, v96, p96])
    all_goals rw [hK3]
    all_goals refine ⟨_, _, _, _, _, rfl, rfl, ?_⟩
    all_goals grind
  intro L σ hq
  rw [hK3] at hq
  obtain ⟨q, y4, y5, y17, y25, rfl, rfl, hq⟩ := hq
  subst hq
  refine awp_if' rfl ?_ ?_
  · intro h1
    refine awp_sr ?_
    simp only [go_sem, R96_2, v96, p96]
    refine awp_ret ?_
    try simp only [go_sem]
    exact fin _ _ (.bool false) rfl (congrArg V.bool (decide_eq_false fun e => h1 ⟨e.1, e.2.1⟩)).symm
  intro h1
  refine awp_skip ?_
  simp only [go_sem]
  refine awp_sr2 ?_
  simp only [go_sem, R96_3, v96, p96]
  obtain ⟨I, hI⟩ : ∃ I : Nat → List V → Store → Prop, I = fun mM L σ => ∃ i rest y4 y14 y17 y25, mM = v.length - i ∧ i ≤ v.length ∧ (∀ j x, j < i → v[j]? = some x → inTop 100000 j x) ∧ L = [.fz 1 (rw_ intC v), .int .i64 n, y4, .int .i64 (i : Nat), y14, y17, y25] ∧ σ = rest := ⟨_, rfl⟩
  first | refine awp_for I v.length ?_ ?_ | refine awp_seq (awp_for I v.length ?_ ?_)
  · rw [hI]; refine ⟨0, _, _, _, _, _, rfl, Nat.zero_le _, ?_, rfl, rfl⟩
    intro j x h; omega
  intro mM L σ hIn
  rw [hI] at hIn
  obtain ⟨i, rest, y4, y14, y17, y25, rfl, hi, hP, rfl, rfl⟩ := hIn
  refine awp_sr2 ?_
  simp only [go_sem, R96_4, v96, p96]
  refine awp_if rfl ?_ ?_
  · intro h2
    have h2 : i < v.length := by omega
    refine awp_skip ?_
    simp only [go_sem]
    first | refine awp_block ?_ | refine awp_seq (awp_block ?_)
    refine awp_sr ?_
    simp only [go_sem, R96_5, v96, p96, rw_at _ h2, intC]
    refine run_see (l1In_ok _ _ _) false (Views.refl rfl) rfl (fun j hj => by first | omega | ((have hj0 : j = 0 := by omega); subst hj0; first | rfl | (simp only [Nat.add_zero, app_get, app_getk, sapp_get, sapp_getk, Nat.add_assoc, Nat.reduceAdd, List.getElem?_cons_zero, List.getElem?_cons_succ]; done) | simp)) (fun h => by cases h) ?_
    simp only [go_sem, v96, p96]
    refine awp_if' rfl ?_ ?_
    · intro h3
      refine awp_sr ?_
      simp only [go_sem, R96_6, v96, p96]
      refine awp_ret ?_
      try simp only [go_sem]
      exact fin _ _ (.bool false) rfl (congrArg V.bool (decide_eq_false fun e => h3 (e.2.2 i _ (List.getElem?_eq_getElem h2)))).symm
    · intro h3
      refine awp_skip ?_
      simp only [go_sem]
      refine awp_reg ?_
      simp only [go_sem, R96_7, v96, p96, wrap_succ (i := i) (by omega)]
      refine ⟨v.length - (i + 1), by omega, ?_⟩
      rw [hI]
      refine ⟨i + 1, _, _, _, _, _, rfl, by omega, ?_, rfl, rfl⟩
      exact upto_succ hP h2 h3
  · intro h2
    refine awp_exit ?_
    simp only [go_sem]
    refine awp_sr ?_
    simp only [go_sem, R96_8, v96, p96]
    refine awp_ret ?_
    try simp only [go_sem]
    exact fin _ _ (.bool true) rfl (congrArg V.bool (decide_eq_true (show vecR v n from ⟨h1.1, h1.2, upto_all hP (by omega)⟩)).symm)
theorem implVecOk_ok (v : List Int) (n : Int) (h : v.length ≤ 1048576) : FS Tryz.prog 66 [] [.fz 1 (rw_ intC v), .int .i64 n] (.bool (decide (vecR v n))) [] := by
  refine FS.of (X := X66) (ac := A66) (os := O66) Tryz.func66 (by rfl) (by rfl) (by kernel_rfl) o66 (Nat.le_of_ble_eq_true rfl) ?_
  show AWP X66 A66 (Ends X66.vs O66 0 _ _) [.fz 1 (rw_ intC v), .int .i64 n, .tup [], .tup [], .tup [], .tup [], .tup [], .tup [], .tup []] []
  obtain ⟨Q, hQ⟩ : ∃ Q, Q = Ends X66.vs O66 0 (.bool (decide (vecR v n))) [] := ⟨_, rfl⟩
  rw [← hQ]
  have fin : ∀ L σ vV, resVs O66 (look X66.vs L) σ = some [vV] → vV = (.bool (decide (vecR v n))) → Q .ret L σ := by
    intro L σ vV h1 h2
    rw [hQ]
    exact Ends.is (.inl rfl) h1 (by simp only [packV, h2]) rfl
  refine awp_sr ?_
  simp only [go_sem, R66_0, v66, p66]
  refine awp_sr2 ?_
  simp only [go_sem, R66_1, v66, p66]
  obtain ⟨I, hI⟩ : ∃ I : Nat → List V → Store → Prop, I = fun mM L σ => ∃ i rest y4 y6 y10 y15, mM = v.length - i ∧ i ≤ v.length ∧ (∀ j x, j < i → v[j]? = some x → inTop 100000 j x) ∧ L = [.fz 1 (rw_ intC v), .int .i64 n, y4, y6, .fz 1 (rw_ intC v), .int .i64 (v.length : Nat), .int .i64 (i : Nat), y10, y15] ∧ σ = rest := ⟨_, rfl⟩
  first | refine awp_for I v.length ?_ ?_ | refine awp_seq (awp_for I v.length ?_ ?_)
  · rw [hI]; refine ⟨0, _, _, _, _, _, rfl, Nat.zero_le _, ?_, rfl, rfl⟩
    intro j x h; omega
  intro mM L σ hIn
  rw [hI] at hIn
  obtain ⟨i, rest, y4, y6, y10, y15, rfl, hi, hP, rfl, rfl⟩ := hIn
  refine awp_sr ?_
  simp only [go_sem, R66_2, v66, p66]
  refine awp_seq ?_
  refine awp_if rfl ?_ ?_
  · intro h2
    have h2 : i < v.length := by omega
    refine awp_skip ?_
    simp only [go_sem]
    first | refine awp_block ?_ | refine awp_seq (awp_block ?_)
    refine awp_sr ?_
    simp only [go_sem, R66_3, v66, p66, rw_at _ h2, intC]
    refine awp_sr ?_
    simp only [go_sem, R66_4, v66, p66]
    refine run_see (within_ok _ _ _) false (Views.refl rfl) rfl (fun j hj => by first | omega | ((have hj0 : j = 0 := by omega); subst hj0; first | rfl | (simp only [Nat.add_zero, app_get, app_getk, sapp_get, sapp_getk, Nat.add_assoc, Nat.reduceAdd, List.getElem?_cons_zero, List.getElem?_cons_succ]; done) | simp)) (fun h => by cases h) ?_
    simp only [go_sem, v66, p66]
    refine awp_if' rfl ?_ ?_
    · intro h3
      refine awp_sr ?_
      simp only [go_sem, R66_5, v66, p66]
      refine awp_ret ?_
      try simp only [go_sem]
      exact fin _ _ (.bool false) rfl (congrArg V.bool (decide_eq_false fun e => h3 (e.2.2 i _ (List.getElem?_eq_getElem h2)))).symm
    · intro h3
      refine awp_skip ?_
      simp only [go_sem]
      refine awp_reg ?_
      simp only [go_sem, R66_6, v66, p66, wrap_succ (i := i) (by omega)]
      refine ⟨v.length - (i + 1), by omega, ?_⟩
      rw [hI]
      refine ⟨i + 1, _, _, _, _, _, rfl, by omega, ?_, rfl, rfl⟩
      exact upto_succ hP h2 h3
  · intro h2
    refine awp_exit ?_
    simp only [go_sem]
    have ha := upto_all hP (by omega)
    have key : vecR v n ↔ (1 ≤ n ∧ n ≤ 5) ∧ (v.length : Int) = n := ⟨fun e => ⟨e.1, e.2.1⟩, fun e => ⟨e.1, e.2, ha⟩⟩
    obtain ⟨K4, hK4⟩ : ∃ K : List V → Store → Prop, K = fun L σ => ∃ q rest y0 y1 y6 y7 y8 y9 y10 y15, L = [y0, y1, .bool q, y6, y7, y8, y9, y10, y15] ∧ σ = rest ∧ q = decide (vecR v n) := ⟨_, rfl⟩
    refine awp_srK (K4) ?_ ?_
    · simp only [go_sem, R66_7, v66, p66]
      repeat' first
        | (refine selP_if rfl (fun hG => ?_) (fun hG => ?_) <;> first | simp only [go_sem, v66, p66, eq_false hG] | simp only [go_sem, v66, p66, eq_true hG])
        | (refine selP_ifn rfl (fun hG => ?_) (fun hG => ?_) <;> first | simp only [go_sem, v66, p66, eq_false hG] | simp only [go_sem, v66, p66, eq_true hG])
        | (refine selN_if rfl (fun hG => ?_) (fun hG => ?_) <;> first | simp only [go_sem, v66, p66, eq_false hG] | simp only [go_sem, v66, p66, eq_true hG])
        | (refine selN_ifn rfl (fun hG => ?_) (fun hG => ?_) <;> first | simp only [go_sem, v66, p66, eq_false hG] | simp only [go_sem, v66, p66, eq_true hG])
        | (refine selB_if rfl (fun hG => ?_) (fun hG => ?_) <;> simp only [go_sem, v66, p66, hG])
        | (refine selB_ifn rfl (fun hG => ?_) (fun hG => ?_) <;> simp only [go_sem, v66, p66, hG])
        | (refine run_see (within_ok _ _ _) false (Views.refl rfl) rfl (fun j hj => by omega) (fun h => by cases h) ?_; simp only [go_sem, v66, p66])
      all_goals rw [hK4]
      all_goals refine ⟨_, _, _, _, _, _, _, _, _, _, rfl, rfl, ?_⟩
      all_goals grind
    intro L σ hq
    rw [hK4] at hq
    obtain ⟨q, rest, y0, y1, y6, y7, y8, y9, y10, y15, rfl, rfl, hq⟩ := hq
    subst hq
    refine awp_ret ?_
    try simp only [go_sem]
    exact fin _ _ _ rfl rfl
def rowR (r : List Int) : Prop := r.length = 5 ∧ ∀ j x, r[j]? = some x → inTop 1000 j x
def tableR (t : List (List Int)) (n : Int) : Prop := (1 ≤ n ∧ n ≤ 5) ∧ (t.length : Int) = n ∧ ∀ (k : Nat) r, t[k]? = some r → rowR r
noncomputable instance (t : List (List Int)) (n : Int) : Decidable (tableR t n) := Classical.propDecidable _
theorem table_at {t : List (List Int)} (h : szS List.length t ≤ 1048576) {i : Nat} (h1 : i < t.length) : t[i].length ≤ 1048576 := by
  have h2 : t.length + sumBy List.length t ≤ 1048576 := h
  have := sumBy_get List.length h1
  omega
set_option maxHeartbeats 1000000 in
theorem specTableOk_ok (t : List (List Int)) (n : Int) (h : szS List.length t ≤ 1048576) : FS Tryz.prog 97 [] [.fz 1 (rw_ rowC t), .int .i64 n] (.bool (decide (tableR t n))) [] := by
  refine FS.of (X := X97) (ac := A97) (os := O97) Tryz.func97 (by rfl) (by rfl) (by kernel_rfl) o97 (Nat.le_of_ble_eq_true rfl) ?_
  show AWP X97 A97 (Ends X97.vs O97 0 _ _) [.fz 1 (rw_ rowC t), .int .i64 n, .tup [], .tup [], .tup [], .tup [], .tup [], .tup [], .tup [], .tup []] []
  obtain ⟨Q, hQ⟩ : ∃ Q, Q = Ends X97.vs O97 0 (.bool (decide (tableR t n))) [] := ⟨_, rfl⟩
  rw [← hQ]
  have hl : t.length + sumBy List.length t ≤ 1048576 := h
  have fin : ∀ L σ vV, resVs O97 (look X97.vs L) σ = some [vV] → vV = (.bool (decide (tableR t n))) → Q .ret L σ := by
    intro L σ vV h1 h2
    rw [hQ]
    exact Ends.is (.inl rfl) h1 (by simp only [packV, h2]) rfl
  refine awp_sr ?_
  simp only [go_sem, R97_0, v97, p97]
  obtain ⟨K5, hK5⟩ : ∃ K : List V → Store → Prop, K = fun L σ => ∃ q y4 y5 y6 y18 y26 y33 y44, L = [.fz 1 (rw_ rowC t), .int .i64 n, y4, y5, y6, .bool q, y18, y26, y33, y44] ∧ σ = [] ∧ q = !decide ((1 ≤ n ∧ n ≤ 5) ∧ (t.length : Int) = n) := ⟨_, rfl⟩
  refine awp_sr2K (K5) ?_ ?_
  · simp only [go_sem, R97_1, v97, p97]
    repeat' first
      | (refine selP_if rfl (fun hG => ?_) (fun hG => ?_) <;> first | simp only [go_sem, v97, p97, eq_false hG] | simp only [go_sem, v97, p97, eq_true hG])
      | (refine selP_ifn rfl (fun hG => ?_) (fun hG => ?_) <;> first | simp only [go_sem, v97, p97, eq_false hG] | simp only [go_sem, v97, p97, eq_true hG])
      | (refine selN_if rfl (fun hG => ?_) (fun hG => ?_) <;> first | simp only [go_sem, v97, p97, eq_false hG] | simp only [go_sem, v97, p97, eq_true hG])
      | (refine selN_ifn rfl (fun hG => ?_) (fun hG => ?_) <;> first | simp only [go_sem, v97, p97, eq_false hG] | simp only [go_sem, v97, p97, eq_true hG])
      | (refine selB_if rfl (fun hG => ?_) (fun hG => ?_) <;> simp only [go_sem, v97, p97, hG])
      | (refine selB_ifn rfl (fun hG => ?_) (fun hG => ?_) <;> simp only [go_sem, v97, p97, hG])
      | (refine run_see (l1In_ok _ _ _) false (Views.refl rfl) rfl (fun j hj => by omega) (fun h => by cases h) ?_; simp only [go_sem, v97, p97])
    all_goals rw [hK5]
    all_goals refine ⟨_, _, _, _, _, _, _, _, rfl, rfl, ?_⟩
    all_goals grind
  intro L σ hq
  rw [hK5] at hq
  obtain ⟨q, y4, y5, y6, y18, y26, y33, y44, rfl, rfl, hq⟩ := hq
  subst hq
  refine awp_if' rfl ?_ ?_
  · intro h1
    refine awp_sr ?_
    simp only [go_sem, R97_2, v97, p97]
    refine awp_ret ?_
    try simp only [go_sem]
    exact fin _ _ (.bool false) rfl (congrArg V.bool (decide_eq_false fun e => h1 ⟨e.1, e.2.1⟩)).symm
  intro h1
  refine awp_skip ?_
  simp only [go_sem]
  refine awp_sr2 ?_
  simp only [go_sem, R97_3, v97, p97]
  obtain ⟨I, hI⟩ : ∃ I : Nat → List V → Store → Prop, I = fun mM L σ => ∃ i rest y4 y6 y15 y18 y26 y33 y44, mM = t.length - i ∧ i ≤ t.length ∧ (∀ j r, j < i → t[j]? = some r → rowR r) ∧ L = [.fz 1 (rw_ rowC t), .int .i64 n, y4, .int .i64 (i : Nat), y6, y15, y18, y26, y33, y44] ∧ σ = rest := ⟨_, rfl⟩
  first | refine awp_for I t.length ?_ ?_ | refine awp_seq (awp_for I t.length ?_ ?_)
  · rw [hI]; refine ⟨0, _, _, _, _, _, _, _, _, rfl, Nat.zero_le _, ?_, rfl, rfl⟩
    intro j x h; omega
  intro mM L σ hIn
  rw [hI] at hIn
  obtain ⟨i, rest, y4, y6, y15, y18, y26, y33, y44, rfl, hi, hP, rfl, rfl⟩ := hIn
  refine awp_sr2 ?_
  simp only [go_sem, R97_4, v97, p97]
  refine awp_if rfl ?_ ?_
  · intro h2
    have h2 : i < t.length := by omega
    have hr := table_at h h2
    have no : ¬ rowR t[i] → ¬ tableR t n := fun e k => e (k.2.2 i _ (List.getElem?_eq_getElem h2))
    refine awp_skip ?_
    simp only [go_sem]
    refine awp_seq (awp_block ?_)
    refine awp_sr2 ?_
    simp only [go_sem, R97_5, v97, p97, rw_at _ h2, rowC]
    refine awp_if rfl ?_ ?_
    · intro h3
      refine awp_sr ?_
      simp only [go_sem, R97_6, v97, p97]
      refine awp_ret ?_
      try simp only [go_sem]
      exact fin _ _ (.bool false) rfl (congrArg V.bool (decide_eq_false (no fun e => h3 (by have := e.1; omega)))).symm
    intro h3
    refine awp_skip ?_
    simp only [go_sem]
    refine awp_sr ?_
    simp only [go_sem, R97_7, v97, p97]
    obtain ⟨J, hJ⟩ : ∃ J : Nat → List V → Store → Prop, J = fun mM L σ => ∃ j rest y4 y15 y18 y26 y33 y44, mM = t[i].length - j ∧ j ≤ t[i].length ∧ (∀ k x, k < j → t[i][k]? = some x → inTop 1000 k x) ∧ L = [.fz 1 (rw_ rowC t), .int .i64 n, y4, .int .i64 (i : Nat), .int .i64 (j : Nat), y15, y18, y26, y33, y44] ∧ σ = rest := ⟨_, rfl⟩
    first | refine awp_for J t[i].length ?_ ?_ | refine awp_seq (awp_for J t[i].length ?_ ?_)
    · rw [hJ]; refine ⟨0, _, _, _, _, _, _, _, rfl, Nat.zero_le _, ?_, rfl, rfl⟩
      intro j x h; omega
    intro mM L σ hIn
    rw [hJ] at hIn
    obtain ⟨j, rest, y4, y15, y18, y26, y33, y44, rfl, hj, hP2, rfl, rfl⟩ := hIn
    refine awp_sr2 ?_
    simp only [go_sem, R97_8, v97, p97, rw_at _ h2, rowC]
    refine awp_if rfl ?_ ?_
    · intro h4
      have h4 : j < t[i].length := by omega
      refine awp_skip ?_
      simp only [go_sem]
      first | refine awp_block ?_ | refine awp_seq (awp_block ?_)
      refine awp_sr ?_
      simp only [go_sem, R97_9, v97, p97, rw_at _ h2, rowC, rw_at _ h4, intC]
      refine run_see (l1In_ok _ _ _) false (Views.refl rfl) rfl (fun j hj => by first | omega | ((have hj0 : j = 0 := by omega); subst hj0; first | rfl | (simp only [Nat.add_zero, app_get, app_getk, sapp_get, sapp_getk, Nat.add_assoc, Nat.reduceAdd, List.getElem?_cons_zero, List.getElem?_cons_succ]; done) | simp)) (fun h => by cases h) ?_
      simp only [go_sem, v97, p97]
      refine awp_if' rfl ?_ ?_
      · intro h5
        refine awp_sr ?_
        simp only [go_sem, R97_10, v97, p97]
        refine awp_ret ?_
        try simp only [go_sem]
        exact fin _ _ (.bool false) rfl (congrArg V.bool (decide_eq_false (no fun e => h5 (e.2 j _ (List.getElem?_eq_getElem h4))))).symm
      · intro h5
        refine awp_skip ?_
        simp only [go_sem]
        refine awp_reg ?_
        simp only [go_sem, R97_11, v97, p97, wrap_succ (i := j) (by omega)]
        refine ⟨t[i].length - (j + 1), by omega, ?_⟩
        rw [hJ]
        refine ⟨j + 1, _, _, _, _, _, _, _, rfl, by omega, ?_, rfl, rfl⟩
        exact upto_succ hP2 h4 h5
    · intro h4
      refine awp_exit ?_
      simp only [go_sem]
      refine awp_reg ?_
      simp only [go_sem, R97_12, v97, p97, wrap_succ (i := i) (by omega)]
      refine ⟨t.length - (i + 1), by omega, ?_⟩
      rw [hI]
      refine ⟨i + 1, _, _, _, _, _, _, _, _, rfl, by omega, ?_, rfl, rfl⟩
      exact upto_succ (p := fun _ r => rowR r) hP h2 ⟨by omega, upto_all hP2 (by omega)⟩
  · intro h2
    refine awp_exit ?_
    simp only [go_sem]
    refine awp_sr ?_
    simp only [go_sem, R97_13, v97, p97]
    refine awp_ret ?_
    try simp only [go_sem]
    exact fin _ _ (.bool true) rfl (congrArg V.bool (decide_eq_true (show tableR t n from ⟨h1.1, h1.2, upto_all (p := fun _ r => rowR r) hP (by omega)⟩)).symm)
set_option maxHeartbeats 1000000 in
theorem implTableOk_ok (t : List (List Int)) (n : Int) (h : szS List.length t ≤ 1048576) : FS Tryz.prog 68 [] [.fz 1 (rw_ rowC t), .int .i64 n] (.bool (decide (tableR t n))) [] := by
  refine FS.of (X := X68) (ac := A68) (os := O68) Tryz.func68 (by rfl) (by rfl) (by kernel_rfl) o68 (Nat.le_of_ble_eq_true rfl) ?_
  show AWP X68 A68 (Ends X68.vs O68 0 _ _) [.fz 1 (rw_ rowC t), .int .i64 n, .tup [], .tup [], .tup [], .tup [], .tup [], .tup [], .tup [], .tup [], .tup [], .tup [], .tup [], .tup [], .tup []] []
  obtain ⟨Q, hQ⟩ : ∃ Q, Q = Ends X68.vs O68 0 (.bool (decide (tableR t n))) [] := ⟨_, rfl⟩
  rw [← hQ]
  have hl : t.length + sumBy List.length t ≤ 1048576 := h
  have fin : ∀ L σ vV, resVs O68 (look X68.vs L) σ = some [vV] → vV = (.bool (decide (tableR t n))) → Q .ret L σ := by
    intro L σ vV h1 h2
    rw [hQ]
    exact Ends.is (.inl rfl) h1 (by simp only [packV, h2]) rfl
  refine awp_sr ?_
  simp only [go_sem, R68_0, v68, p68]
  refine awp_sr2 ?_
  simp only [go_sem, R68_1, v68, p68]
  obtain ⟨I, hI⟩ : ∃ I : Nat → List V → Store → Prop, I = fun mM L σ => ∃ i rest y4 y6 y8 y12 y15 y16 y17 y18 y23 y27, mM = t.length - i ∧ i ≤ t.length ∧ (∀ j r, j < i → t[j]? = some r → rowR r) ∧ L = [.fz 1 (rw_ rowC t), .int .i64 n, y4, y6, y8, .fz 1 (rw_ rowC t), .int .i64 (t.length : Nat), .int .i64 (i : Nat), y12, y15, y16, y17, y18, y23, y27] ∧ σ = rest := ⟨_, rfl⟩
  first | refine awp_for I t.length ?_ ?_ | refine awp_seq (awp_for I t.length ?_ ?_)
  · rw [hI]; refine ⟨0, _, _, _, _, _, _, _, _, _, _, _, rfl, Nat.zero_le _, ?_, rfl, rfl⟩
    intro j x h; omega
  intro mM L σ hIn
  rw [hI] at hIn
  obtain ⟨i, rest, y4, y6, y8, y12, y15, y16, y17, y18, y23, y27, rfl, hi, hP, rfl, rfl⟩ := hIn
  refine awp_sr ?_
  simp only [go_sem, R68_2, v68, p68]
  refine awp_seq ?_
  refine awp_if rfl ?_ ?_
  · intro h2
    have h2 : i < t.length := by omega
    have hr := table_at h h2
    have no : ¬ rowR t[i] → ¬ tableR t n := fun e k => e (k.2.2 i _ (List.getElem?_eq_getElem h2))
    refine awp_skip ?_
    simp only [go_sem]
    refine awp_seq (awp_block ?_)
    refine awp_sr ?_
    simp only [go_sem, R68_3, v68, p68, rw_at _ h2, rowC]
    refine awp_sr2 ?_
    simp only [go_sem, R68_4, v68, p68]
    obtain ⟨J, hJ⟩ : ∃ J : Nat → List V → Store → Prop, J = fun mM L σ => ∃ j rest y4 y8 y12 y18 y23 y27, mM = t[i].length - j ∧ j ≤ t[i].length ∧ (∀ k x, k < j → t[i][k]? = some x → inTop 1000 k x) ∧ L = [.fz 1 (rw_ rowC t), .int .i64 n, y4, .fz 1 (rw_ intC t[i]), y8, .fz 1 (rw_ rowC t), .int .i64 (t.length : Nat), .int .i64 (i : Nat), y12, .fz 1 (rw_ intC t[i]), .int .i64 (t[i].length : Nat), .int .i64 (j : Nat), y18, y23, y27] ∧ σ = rest := ⟨_, rfl⟩
    first | refine awp_for J t[i].length ?_ ?_ | refine awp_seq (awp_for J t[i].length ?_ ?_)
    · rw [hJ]; refine ⟨0, _, _, _, _, _, _, _, rfl, Nat.zero_le _, ?_, rfl, rfl⟩
      intro j x h; omega
    intro mM L σ hIn
    rw [hJ] at hIn
    obtain ⟨j, rest, y4, y8, y12, y18, y23, y27, rfl, hj, hP2, rfl, rfl⟩ := hIn
    refine awp_sr ?_
    simp only [go_sem, R68_5, v68, p68]
    refine awp_seq ?_
    refine awp_if rfl ?_ ?_
    · intro h4
      have h4 : j < t[i].length := by omega
      refine awp_skip ?_
      simp only [go_sem]
      first | refine awp_block ?_ | refine awp_seq (awp_block ?_)
      refine awp_sr ?_
      simp only [go_sem, R68_6, v68, p68, rw_at _ h4, intC]
      refine awp_sr ?_
      simp only [go_sem, R68_7, v68, p68]
      refine run_see (within_ok _ _ _) false (Views.refl rfl) rfl (fun j hj => by first | omega | ((have hj0 : j = 0 := by omega); subst hj0; first | rfl | (simp only [Nat.add_zero, app_get, app_getk, sapp_get, sapp_getk, Nat.add_assoc, Nat.reduceAdd, List.getElem?_cons_zero, List.getElem?_cons_succ]; done) | simp)) (fun h => by cases h) ?_
      simp only [go_sem, v68, p68]
      refine awp_if' rfl ?_ ?_
      · intro h5
        refine awp_sr ?_
        simp only [go_sem, R68_8, v68, p68]
        refine awp_ret ?_
        try simp only [go_sem]
        exact fin _ _ (.bool false) rfl (congrArg V.bool (decide_eq_false (no fun e => h5 (e.2 j _ (List.getElem?_eq_getElem h4))))).symm
      · intro h5
        refine awp_skip ?_
        simp only [go_sem]
        refine awp_reg ?_
        simp only [go_sem, R68_9, v68, p68, wrap_succ (i := j) (by omega)]
        refine ⟨t[i].length - (j + 1), by omega, ?_⟩
        rw [hJ]
        refine ⟨j + 1, _, _, _, _, _, _, _, rfl, by omega, ?_, rfl, rfl⟩
        exact upto_succ hP2 h4 h5
    · intro h4
      refine awp_exit ?_
      simp only [go_sem]
      refine awp_sr ?_
      simp only [go_sem, R68_10, v68, p68]
      refine awp_if rfl ?_ ?_
      · intro h3
        refine awp_sr ?_
        simp only [go_sem, R68_11, v68, p68]
        refine awp_ret ?_
        try simp only [go_sem]
        exact fin _ _ (.bool false) rfl (congrArg V.bool (decide_eq_false (no fun e => h3 (by have := e.1; omega)))).symm
      · intro h3
        refine awp_skip ?_
        simp only [go_sem]
        refine awp_reg ?_
        simp only [go_sem, R68_12, v68, p68, wrap_succ (i := i) (by omega)]
        refine ⟨t.length - (i + 1), by omega, ?_⟩
        rw [hI]
        refine ⟨i + 1, _, _, _, _, _, _, _, _, _, _, _, rfl, by omega, ?_, rfl, rfl⟩
        exact upto_succ (p := fun _ r => rowR r) hP h2 ⟨by omega, upto_all hP2 (by omega)⟩
  · intro h2
    refine awp_exit ?_
    simp only [go_sem]
    have ha := upto_all (p := fun _ r => rowR r) hP (by omega)
    have key : tableR t n ↔ (1 ≤ n ∧ n ≤ 5) ∧ (t.length : Int) = n := ⟨fun e => ⟨e.1, e.2.1⟩, fun e => ⟨e.1, e.2, ha⟩⟩
    obtain ⟨K6, hK6⟩ : ∃ K : List V → Store → Prop, K = fun L σ => ∃ q rest y0 y1 y6 y8 y9 y10 y11 y12 y15 y16 y17 y18 y23 y27, L = [y0, y1, .bool q, y6, y8, y9, y10, y11, y12, y15, y16, y17, y18, y23, y27] ∧ σ = rest ∧ q = decide (tableR t n) := ⟨_, rfl⟩
    refine awp_srK (K6) ?_ ?_
    · simp only [go_sem, R68_13, v68, p68]
      repeat' first
        | (refine selP_if rfl (fun hG => ?_) (fun hG => ?_) <;> first | simp only [go_sem, v68, p68, eq_false hG] | simp only [go_sem, v68, p68, eq_true hG])
        | (refine selP_ifn rfl (fun hG => ?_) (fun hG => ?_) <;> first | simp only [go_sem, v68, p68, eq_false hG] | simp only [go_sem, v68, p68, eq_true hG])
        | (refine selN_if rfl (fun hG => ?_) (fun hG => ?_) <;> first | simp only [go_sem, v68, p68, eq_false hG] | simp only [go_sem, v68, p68, eq_true hG])
        | (refine selN_ifn rfl (fun hG => ?_) (fun hG => ?_) <;> first | simp only [go_sem, v68, p68, eq_false hG] | simp only [go_sem, v68, p68, eq_true hG])
        | (refine selB_if rfl (fun hG => ?_) (fun hG => ?_) <;> simp only [go_sem, v68, p68, hG])
        | (refine selB_ifn rfl (fun hG => ?_) (fun hG => ?_) <;> simp only [go_sem, v68, p68, hG])
        | (refine run_see (within_ok _ _ _) false (Views.refl rfl) rfl (fun j hj => by omega) (fun h => by cases h) ?_; simp only [go_sem, v68, p68])
      all_goals rw [hK6]
      all_goals refine ⟨_, _, _, _, _, _, _, _, _, _, _, _, _, _, _, _, rfl, rfl, ?_⟩
      all_goals grind
    intro L σ hq
    rw [hK6] at hq
    obtain ⟨q, rest, y0, y1, y6, y8, y9, y10, y11, y12, y15, y16, y17, y18, y23, y27, rfl, rfl, hq⟩ := hq
    subst hq
    refine awp_ret ?_
    try simp only [go_sem]
    exact fin _ _ _ rfl rfl
def mx (x y : Int) : Int := if y > x then y else x
def maxI (xs : List Int) : Int := xs.foldl mx (xs.headD 0)
theorem mx_fold : ∀ (xs : List Int) (a k : Int), xs.foldl mx a ≤ k ↔ a ≤ k ∧ ∀ x ∈ xs, x ≤ k
  | [], a, k => by simp
  | y :: ys, a, k => by
    simp only [List.foldl_cons]
    rw [mx_fold ys (mx a y) k]
    unfold mx
    simp only [List.mem_cons]
    constructor
    · rintro ⟨h1, h2⟩
      split at h1
      · exact ⟨by omega, fun x hx => by rcases hx with rfl | hx; exact h1; exact h2 x hx⟩
      · exact ⟨h1, fun x hx => by rcases hx with rfl | hx; omega; exact h2 x hx⟩
    · rintro ⟨h1, h2⟩
      have := h2 y (.inl rfl)
      exact ⟨by split <;> omega, fun x hx => h2 x (.inr hx)⟩
theorem maxI_le {xs : List Int} (h : 0 < xs.length) (k : Int) : maxI xs ≤ k ↔ ∀ x ∈ xs, x ≤ k := by
  unfold maxI
  rw [mx_fold]
  cases xs with
  | nil => simp at h
  | cons y ys => simp
theorem slicesMax_ok (xs : List Int) (h : xs.length ≤ 1048576) (h0 : 0 < xs.length) : FS Tryz.prog 67 [] [.fz 1 (rw_ intC xs)] (.int .i64 (maxI xs)) [] := by
  refine FS.of (X := X67) (ac := A67) (os := O67) Tryz.func67 (by rfl) (by rfl) (by kernel_rfl) o67 (Nat.le_of_ble_eq_true rfl) ?_
  show AWP X67 A67 (Ends X67.vs O67 0 _ _) [.fz 1 (rw_ intC xs), .tup [], .tup [], .tup [], .tup [], .tup []] []
  obtain ⟨Q, hQ⟩ : ∃ Q, Q = Ends X67.vs O67 0 (.int .i64 (maxI xs)) [] := ⟨_, rfl⟩
  rw [← hQ]
  have fin : ∀ L σ vV, resVs O67 (look X67.vs L) σ = some [vV] → vV = (.int .i64 (maxI xs)) → Q .ret L σ := by
    intro L σ vV h1 h2
    rw [hQ]
    exact Ends.is (.inl rfl) h1 (by simp only [packV, h2]) rfl
  have hd : xs.headD 0 = xs[0] := by cases xs with | nil => simp at h0 | cons y ys => rfl
  refine awp_sr ?_
  simp only [go_sem, R67_0, v67, p67]
  refine awp_sr2 ?_
  simp only [go_sem, R67_1, v67, p67]
  refine awp_if rfl ?_ ?_
  · intro h1; omega
  intro h1
  refine awp_skip ?_
  simp only [go_sem]
  refine awp_sr ?_
  simp only [go_sem, R67_2, v67, p67, rw_at _ h0, intC, show (0 : Int).toNat = 0 from rfl, show ((0 : Int) ≤ 0) = True by simp]
  refine awp_sr2 ?_
  simp only [go_sem, R67_3, v67, p67]
  obtain ⟨I, hI⟩ : ∃ I : Nat → List V → Store → Prop, I = fun mM L σ => ∃ i y2 y7 y15, xs.length - i = mM ∧ (1 ≤ i ∧ i ≤ xs.length) ∧ L = [.fz 1 (rw_ intC xs), y2, .int .i64 ((xs.take i).foldl mx xs[0]), .int .i64 (i : Nat), y7, y15] ∧ σ = [] := ⟨_, rfl⟩
  first | refine awp_for I (xs.length - 1) ?_ ?_ | refine awp_seq (awp_for I (xs.length - 1) ?_ ?_)
  · have e0 : (xs.take 1).foldl mx xs[0] = xs[0] := by
      rw [List.take_succ_eq_append_getElem h0]
      simp [mx]
    rw [← e0]
    rw [hI]
    refine ⟨1, _, _, _, rfl, ?_, rfl, rfl⟩
    exact ⟨Nat.le_refl _, h0⟩
  intro mM L σ hIn
  rw [hI] at hIn
  obtain ⟨i, y2, y7, y15, rfl, hP, rfl, rfl⟩ := hIn
  obtain ⟨hi1, hi2⟩ := hP
  refine awp_sr2 ?_
  simp only [go_sem, R67_4, v67, p67]
  refine awp_if rfl ?_ ?_
  · intro h2
    have h2 : i < xs.length := by omega
    have e1 := fold_take mx xs[0] h2
    refine awp_skip ?_
    simp only [go_sem]
    first | refine awp_block ?_ | refine awp_seq (awp_block ?_)
    refine awp_reg ?_
    simp only [go_sem, R67_5, v67, p67, rw_at _ h2, intC]
    rw [show (if xs[i] > (xs.take i).foldl mx xs[0] then xs[i] else (xs.take i).foldl mx xs[0]) = (xs.take (i + 1)).foldl mx xs[0] from e1.symm]
    refine awp_reg ?_
    simp only [go_sem, R67_6, v67, p67, wrap_succ (i := i) (by omega)]
    refine ⟨xs.length - (i + 1), ?_, ?_⟩
    rotate_left
    rw [hI]
    refine ⟨i + 1, _, _, _, rfl, ?_, rfl, rfl⟩
    · exact ⟨by omega, by omega⟩
    · omega
  · intro h2
    refine awp_exit ?_
    simp only [go_sem]
    have : i = xs.length := by omega
    subst this
    refine awp_sr ?_
    simp only [go_sem, R67_7, v67, p67]
    refine awp_ret ?_
    try simp only [go_sem]
    exact fin _ _ _ rfl (congrArg (V.int .i64) (by unfold maxI; rw [hd]))
end Go.Proofs.YtffigokicddekaaGreat.Abs
/- Sessions and rises, walked in both texts. No condition. -/
set_option linter.unusedVariables false
set_option linter.unusedSimpArgs false
set_option maxRecDepth 10000
namespace Go.Proofs.YtffigokicddekaaGreat.Abs
open Go Go.Proofs
def R98_0 : List AR := [⟨(some 1), none, 0, (.box 0 19 (.t 0))⟩, ⟨(some 2), none, 0, (.mov (.k (.bool false)))⟩]
def R98_1 : List AR := [⟨(some 6), none, 0, (.faddr 14 (.t 1))⟩, ⟨(some 7), none, 0, (.load 1 false (.t 6))⟩, ⟨(some 8), none, 0, (.len (.t 7))⟩, ⟨(some 9), none, 0, (.faddr 13 (.t 1))⟩, ⟨(some 10), none, 0, (.load 1 false (.t 9))⟩, ⟨(some 11), none, 0, (.bin .gtr (.t 8) (.t 10))⟩]
def R98_2 : List AR := [⟨(some 2), none, 0, (.mov (.k (.bool false)))⟩]
def R98_3 : List AR := [⟨(some 3), none, 0, (.mov (.k (.int .i64 0)))⟩]
def R98_4 : List AR := [⟨(some 12), none, 0, (.mov (.t 3))⟩, ⟨(some 13), none, 0, (.faddr 14 (.t 1))⟩, ⟨(some 14), none, 0, (.load 1 false (.t 13))⟩, ⟨(some 15), none, 0, (.len (.t 14))⟩, ⟨(some 16), none, 0, (.bin .lss (.t 12) (.t 15))⟩]
def R98_5 : List AR := [⟨(some 19), none, 0, (.faddr 14 (.t 1))⟩, ⟨(some 20), none, 0, (.load 1 false (.t 19))⟩, ⟨(some 21), none, 0, (.mov (.t 3))⟩, ⟨(some 22), none, 0, (.iaddr 4 (.t 20) (.t 21))⟩, ⟨(some 23), none, 0, (.load 4 true (.t 22))⟩, ⟨(some 4), none, 0, (.alloc 0 4 [(.int .i64 0), (.int .i64 0), (.bool false), (.int .i64 0)])⟩, ⟨none, none, 0, (.store 4 (.t 4) (.t 23))⟩]
def R98_6 : List AR := [⟨(some 24), none, 0, (.faddr 0 (.t 4))⟩, ⟨(some 25), none, 0, (.load 1 false (.t 24))⟩, ⟨(some 26), none, 0, (.faddr 1 (.t 1))⟩, ⟨(some 27), none, 0, (.load 1 false (.t 26))⟩, ⟨(some 28), none, 0, (.bin .sub (.t 27) (.k (.int .i64 1)))⟩, ⟨(some 29), none, 0, (.call false 0 0 52 [(.t 25), (.k (.int .i64 0)), (.t 28)])⟩, ⟨(some 30), none, 0, (.not (.t 29))⟩, ⟨(some 31), none, 0, (.mov (.t 30))⟩, ⟨(some 32), (some (31, false)), 0, (.faddr 0 (.t 4))⟩, ⟨(some 33), (some (31, false)), 0, (.load 1 false (.t 32))⟩, ⟨(some 34), (some (31, false)), 0, (.faddr 0 (.t 1))⟩, ⟨(some 35), (some (31, false)), 0, (.load 1 false (.t 34))⟩, ⟨(some 36), (some (31, false)), 0, (.bin .eql (.t 33) (.t 35))⟩, ⟨(some 37), none, 0, (.pick (.t 31) (.k (.bool true)) (.t 36))⟩, ⟨(some 38), none, 0, (.mov (.t 37))⟩, ⟨(some 39), (some (38, false)), 0, (.faddr 1 (.t 4))⟩, ⟨(some 40), (some (38, false)), 0, (.load 1 false (.t 39))⟩, ⟨(some 41), (some (38, false)), 0, (.call false 0 0 52 [(.t 40), (.k (.int .i64 0)), (.k (.int .i64 100000))])⟩, ⟨(some 42), (some (38, false)), 0, (.not (.t 41))⟩, ⟨(some 43), none, 0, (.pick (.t 38) (.k (.bool true)) (.t 42))⟩, ⟨(some 44), none, 0, (.mov (.t 43))⟩, ⟨(some 45), (some (44, false)), 0, (.faddr 3 (.t 4))⟩, ⟨(some 46), (some (44, false)), 0, (.load 1 false (.t 45))⟩, ⟨(some 47), (some (44, false)), 0, (.faddr 15 (.t 1))⟩, ⟨(some 48), (some (44, false)), 0, (.load 1 false (.t 47))⟩, ⟨(some 49), (some (44, false)), 0, (.call false 0 0 52 [(.t 46), (.k (.int .i64 0)), (.t 48)])⟩, ⟨(some 50), (some (44, false)), 0, (.not (.t 49))⟩, ⟨(some 51), none, 0, (.pick (.t 44) (.k (.bool true)) (.t 50))⟩]
def R98_7 : List AR := [⟨(some 2), none, 0, (.mov (.k (.bool false)))⟩]
def R98_8 : List AR := [⟨(some 5), none, 0, (.mov (.k (.int .i64 0)))⟩]
def R98_9 : List AR := [⟨(some 52), none, 0, (.mov (.t 5))⟩, ⟨(some 53), none, 0, (.mov (.t 3))⟩, ⟨(some 54), none, 0, (.bin .lss (.t 52) (.t 53))⟩]
def R98_10 : List AR := [⟨(some 57), none, 0, (.faddr 14 (.t 1))⟩, ⟨(some 58), none, 0, (.load 1 false (.t 57))⟩, ⟨(some 59), none, 0, (.mov (.t 5))⟩, ⟨(some 60), none, 0, (.iaddr 4 (.t 58) (.t 59))⟩, ⟨(some 61), none, 0, (.faddr 0 (.t 60))⟩, ⟨(some 62), none, 0, (.load 1 false (.t 61))⟩, ⟨(some 63), none, 0, (.faddr 0 (.t 4))⟩, ⟨(some 64), none, 0, (.load 1 false (.t 63))⟩, ⟨(some 65), none, 0, (.bin .eql (.t 62) (.t 64))⟩, ⟨(some 66), none, 0, (.mov (.t 65))⟩, ⟨(some 67), (some (66, true)), 0, (.faddr 14 (.t 1))⟩, ⟨(some 68), (some (66, true)), 0, (.load 1 false (.t 67))⟩, ⟨(some 69), (some (66, true)), 0, (.mov (.t 5))⟩, ⟨(some 70), (some (66, true)), 0, (.iaddr 4 (.t 68) (.t 69))⟩, ⟨(some 71), (some (66, true)), 0, (.faddr 2 (.t 70))⟩, ⟨(some 72), (some (66, true)), 0, (.load 1 false (.t 71))⟩, ⟨(some 73), (some (66, true)), 0, (.faddr 2 (.t 4))⟩, ⟨(some 74), (some (66, true)), 0, (.load 1 false (.t 73))⟩, ⟨(some 75), (some (66, true)), 0, (.beq false (.t 72) (.t 74))⟩, ⟨(some 76), none, 0, (.pick (.t 66) (.t 75) (.k (.bool false)))⟩]
def R98_11 : List AR := [⟨(some 2), none, 0, (.mov (.k (.bool false)))⟩]
def R98_12 : List AR := [⟨(some 55), none, 0, (.mov (.t 5))⟩, ⟨(some 56), none, 0, (.bin .add (.t 55) (.k (.int .i64 1)))⟩, ⟨(some 5), none, 0, (.mov (.t 56))⟩]
def A98_0 : AC := (.seq (.block 3 (.seq (.draw 0 R98_10) (.cond (.t 76) (.seq (.reg 0 R98_11) .ret) .skip))) (.reg 0 R98_12))
def L98_0 : AC := (.seq (.seq (.reg 0 R98_9) (.cond (.t 54) .skip (.exit 2))) A98_0)
def A98_1 : AC := (.seq (.reg 0 R98_8) (.block 2 (.loop L98_0)))
def A98_2 : AC := (.seq (.seq (.reg 0 R98_6) (.cond (.t 51) (.seq (.reg 0 R98_7) .ret) .skip)) A98_1)
def R98_13 : List AR := [⟨(some 17), none, 0, (.mov (.t 3))⟩, ⟨(some 18), none, 0, (.bin .add (.t 17) (.k (.int .i64 1)))⟩, ⟨(some 3), none, 0, (.mov (.t 18))⟩]
def A98_3 : AC := (.seq (.block 1 (.seq (.reg 1 R98_5) A98_2)) (.reg 0 R98_13))
def L98_1 : AC := (.seq (.seq (.reg 0 R98_4) (.cond (.t 16) .skip (.exit 0))) A98_3)
def R98_14 : List AR := [⟨(some 2), none, 0, (.mov (.k (.bool true)))⟩]
def A98_4 : AC := (.seq (.reg 0 R98_14) .ret)
def A98_5 : AC := (.seq (.seq (.reg 0 R98_3) (.block 0 (.loop L98_1))) A98_4)
def A98_6 : AC := (.seq (.seq (.reg 0 R98_1) (.cond (.t 11) (.seq (.reg 0 R98_2) .ret) .skip)) A98_5)
def A98 : AC := (.seq (.reg 1 R98_0) A98_6)
def O98 : List AO := [(.mov (.t 2))]
def G98 : Fns := ⟨fun f => false, fun f => 0, false⟩
noncomputable def X98 : Cx := ⟨Tryz.prog, G98, drawD, 77, [0, 1, 2, 3, 4, 5, 11, 16, 51, 54, 76]⟩
theorem c98 : (Tryz.f98.body).bind (compC X98.P X98.Γ X98.D X98.nt) = some A98 := by kernel_rfl
theorem o98 : compRes X98.P Tryz.f98.results.toList = some O98 := by kernel_rfl
theorem v98 : X98.vs = [0, 1, 2, 3, 4, 5, 11, 16, 51, 54, 76] := rfl
theorem p98 : X98.P = Tryz.prog := rfl
def R69_0 : List AR := [⟨(some 1), none, 0, (.box 0 19 (.t 0))⟩, ⟨(some 2), none, 0, (.mov (.k (.bool false)))⟩]
def R69_1 : List AR := [⟨(some 5), none, 0, (.faddr 14 (.t 1))⟩, ⟨(some 6), none, 0, (.load 1 false (.t 5))⟩, ⟨(some 7), none, 0, (.len (.t 6))⟩, ⟨(some 8), none, 0, (.mov (.k (.int .i64 0)))⟩]
def R69_2 : List AR := [⟨(some 9), none, 0, (.bin .lss (.t 8) (.t 7))⟩]
def R69_3 : List AR := [⟨(some 10), none, 0, (.mov (.t 8))⟩, ⟨(some 11), none, 0, (.iaddr 4 (.t 6) (.t 8))⟩, ⟨(some 12), none, 0, (.load 4 true (.t 11))⟩, ⟨(some 4), none, 0, (.alloc 0 4 [(.int .i64 0), (.int .i64 0), (.bool false), (.int .i64 0)])⟩, ⟨(some 3), none, 0, (.mov (.t 10))⟩, ⟨none, none, 0, (.store 4 (.t 4) (.t 12))⟩]
def R69_4 : List AR := [⟨(some 13), none, 0, (.load 19 true (.t 1))⟩, ⟨(some 14), none, 0, (.faddr 0 (.t 4))⟩, ⟨(some 15), none, 0, (.load 1 false (.t 14))⟩, ⟨(some 16), none, 0, (.call false 0 0 99 [(.t 13), (.t 15)])⟩, ⟨(some 17), none, 0, (.not (.t 16))⟩, ⟨(some 18), none, 0, (.mov (.t 17))⟩, ⟨(some 19), (some (18, false)), 0, (.faddr 1 (.t 4))⟩, ⟨(some 20), (some (18, false)), 0, (.load 1 false (.t 19))⟩, ⟨(some 21), (some (18, false)), 0, (.call false 0 0 49 [(.t 20), (.k (.int .i64 0)), (.k (.int .i64 100000))])⟩, ⟨(some 22), (some (18, false)), 0, (.not (.t 21))⟩, ⟨(some 23), none, 0, (.pick (.t 18) (.k (.bool true)) (.t 22))⟩, ⟨(some 24), none, 0, (.mov (.t 23))⟩, ⟨(some 25), (some (24, false)), 0, (.faddr 3 (.t 4))⟩, ⟨(some 26), (some (24, false)), 0, (.load 1 false (.t 25))⟩, ⟨(some 27), (some (24, false)), 0, (.faddr 15 (.t 1))⟩, ⟨(some 28), (some (24, false)), 0, (.load 1 false (.t 27))⟩, ⟨(some 29), (some (24, false)), 0, (.call false 0 0 49 [(.t 26), (.k (.int .i64 0)), (.t 28)])⟩, ⟨(some 30), (some (24, false)), 0, (.not (.t 29))⟩, ⟨(some 31), none, 0, (.pick (.t 24) (.k (.bool true)) (.t 30))⟩, ⟨(some 32), none, 0, (.mov (.t 31))⟩, ⟨(some 33), (some (32, false)), 0, (.load 19 true (.t 1))⟩, ⟨(some 34), (some (32, false)), 0, (.faddr 0 (.t 4))⟩, ⟨(some 35), (some (32, false)), 0, (.load 1 false (.t 34))⟩, ⟨(some 36), (some (32, false)), 0, (.faddr 2 (.t 4))⟩, ⟨(some 37), (some (32, false)), 0, (.load 1 false (.t 36))⟩, ⟨(some 38), (some (32, false)), 0, (.call false 0 0 121 [(.t 33), (.t 35), (.t 37)])⟩, ⟨(some 39), (some (32, false)), 0, (.mov (.t 3))⟩, ⟨(some 40), (some (32, false)), 0, (.bin .neq (.t 38) (.t 39))⟩, ⟨(some 41), none, 0, (.pick (.t 32) (.k (.bool true)) (.t 40))⟩]
def R69_5 : List AR := [⟨(some 2), none, 0, (.mov (.k (.bool false)))⟩]
def A69_0 : AC := (.seq (.reg 0 R69_4) (.cond (.t 41) (.seq (.reg 0 R69_5) .ret) .skip))
def R69_6 : List AR := [⟨(some 42), none, 0, (.bin .add (.t 8) (.k (.int .i64 1)))⟩, ⟨(some 8), none, 0, (.mov (.t 42))⟩]
def A69_1 : AC := (.seq (.block 1 (.seq (.reg 1 R69_3) A69_0)) (.reg 0 R69_6))
def A69_2 : AC := (.seq (.cond (.t 9) .skip (.exit 0)) A69_1)
def L69_0 : AC := (.seq (.reg 0 R69_2) A69_2)
def R69_7 : List AR := [⟨(some 43), none, 0, (.faddr 13 (.t 1))⟩, ⟨(some 44), none, 0, (.load 1 false (.t 43))⟩, ⟨(some 45), none, 0, (.call false 0 0 49 [(.t 44), (.k (.int .i64 1)), (.k (.int .i64 4))])⟩, ⟨(some 46), none, 0, (.mov (.t 45))⟩, ⟨(some 47), (some (46, true)), 0, (.faddr 14 (.t 1))⟩, ⟨(some 48), (some (46, true)), 0, (.load 1 false (.t 47))⟩, ⟨(some 49), (some (46, true)), 0, (.len (.t 48))⟩, ⟨(some 50), (some (46, true)), 0, (.faddr 13 (.t 1))⟩, ⟨(some 51), (some (46, true)), 0, (.load 1 false (.t 50))⟩, ⟨(some 52), (some (46, true)), 0, (.bin .leq (.t 49) (.t 51))⟩, ⟨(some 53), none, 0, (.pick (.t 46) (.t 52) (.k (.bool false)))⟩, ⟨(some 2), none, 0, (.mov (.t 53))⟩]
def A69_3 : AC := (.seq (.reg 0 R69_7) .ret)
def A69_4 : AC := (.seq (.seq (.reg 0 R69_1) (.block 0 (.loop L69_0))) A69_3)
def A69 : AC := (.seq (.reg 1 R69_0) A69_4)
def O69 : List AO := [(.mov (.t 2))]
def G69 : Fns := ⟨fun f => false, fun f => 0, false⟩
noncomputable def X69 : Cx := ⟨Tryz.prog, G69, drawD, 54, [0, 1, 2, 3, 4, 6, 7, 8, 9, 41]⟩
theorem c69 : (Tryz.f69.body).bind (compC X69.P X69.Γ X69.D X69.nt) = some A69 := by kernel_rfl
theorem o69 : compRes X69.P Tryz.f69.results.toList = some O69 := by kernel_rfl
theorem v69 : X69.vs = [0, 1, 2, 3, 4, 6, 7, 8, 9, 41] := rfl
theorem p69 : X69.P = Tryz.prog := rfl
def R70_0 : List AR := [⟨(some 1), none, 0, (.box 0 19 (.t 0))⟩, ⟨(some 2), none, 0, (.mov (.k (.bool false)))⟩]
def R70_1 : List AR := [⟨(some 5), none, 0, (.faddr 18 (.t 1))⟩, ⟨(some 6), none, 0, (.load 1 false (.t 5))⟩, ⟨(some 7), none, 0, (.len (.t 6))⟩, ⟨(some 8), none, 0, (.mov (.k (.int .i64 0)))⟩]
def R70_2 : List AR := [⟨(some 9), none, 0, (.bin .lss (.t 8) (.t 7))⟩]
def R70_3 : List AR := [⟨(some 10), none, 0, (.iaddr 3 (.t 6) (.t 8))⟩, ⟨(some 11), none, 0, (.load 3 true (.t 10))⟩, ⟨(some 4), none, 0, (.alloc 0 3 [(.int .i64 0), (.int .i64 0), (.int .i64 0)])⟩, ⟨none, none, 0, (.store 3 (.t 4) (.t 11))⟩]
def R70_4 : List AR := [⟨(some 12), none, 0, (.faddr 0 (.t 4))⟩, ⟨(some 13), none, 0, (.load 1 false (.t 12))⟩, ⟨(some 14), none, 0, (.call false 0 0 49 [(.t 13), (.k (.int .i64 0)), (.k (.int .i64 1000))])⟩, ⟨(some 15), none, 0, (.not (.t 14))⟩, ⟨(some 16), none, 0, (.mov (.t 15))⟩, ⟨(some 17), (some (16, false)), 0, (.faddr 1 (.t 4))⟩, ⟨(some 18), (some (16, false)), 0, (.load 1 false (.t 17))⟩, ⟨(some 19), (some (16, false)), 0, (.call false 0 0 49 [(.t 18), (.k (.int .i64 0)), (.k (.int .i64 100000))])⟩, ⟨(some 20), (some (16, false)), 0, (.not (.t 19))⟩, ⟨(some 21), none, 0, (.pick (.t 16) (.k (.bool true)) (.t 20))⟩, ⟨(some 22), none, 0, (.mov (.t 21))⟩, ⟨(some 23), (some (22, false)), 0, (.faddr 2 (.t 4))⟩, ⟨(some 24), (some (22, false)), 0, (.load 1 false (.t 23))⟩, ⟨(some 25), (some (22, false)), 0, (.faddr 17 (.t 1))⟩, ⟨(some 26), (some (22, false)), 0, (.load 1 false (.t 25))⟩, ⟨(some 27), (some (22, false)), 0, (.call false 0 0 49 [(.t 24), (.k (.int .i64 0)), (.t 26)])⟩, ⟨(some 28), (some (22, false)), 0, (.not (.t 27))⟩, ⟨(some 29), none, 0, (.pick (.t 22) (.k (.bool true)) (.t 28))⟩]
def R70_5 : List AR := [⟨(some 2), none, 0, (.mov (.k (.bool false)))⟩]
def A70_0 : AC := (.seq (.reg 0 R70_4) (.cond (.t 29) (.seq (.reg 0 R70_5) .ret) .skip))
def R70_6 : List AR := [⟨(some 30), none, 0, (.bin .add (.t 8) (.k (.int .i64 1)))⟩, ⟨(some 8), none, 0, (.mov (.t 30))⟩]
def A70_1 : AC := (.seq (.block 1 (.seq (.reg 1 R70_3) A70_0)) (.reg 0 R70_6))
def A70_2 : AC := (.seq (.cond (.t 9) .skip (.exit 0)) A70_1)
def L70_0 : AC := (.seq (.reg 0 R70_2) A70_2)
def R70_7 : List AR := [⟨(some 31), none, 0, (.faddr 18 (.t 1))⟩, ⟨(some 32), none, 0, (.load 1 false (.t 31))⟩, ⟨(some 33), none, 0, (.len (.t 32))⟩, ⟨(some 34), none, 0, (.bin .eql (.t 33) (.k (.int .i64 5)))⟩, ⟨(some 2), none, 0, (.mov (.t 34))⟩]
def A70_3 : AC := (.seq (.reg 0 R70_7) .ret)
def A70_4 : AC := (.seq (.seq (.reg 0 R70_1) (.block 0 (.loop L70_0))) A70_3)
def A70 : AC := (.seq (.reg 1 R70_0) A70_4)
def O70 : List AO := [(.mov (.t 2))]
def G70 : Fns := ⟨fun f => false, fun f => 0, false⟩
noncomputable def X70 : Cx := ⟨Tryz.prog, G70, drawD, 35, [0, 1, 2, 4, 6, 7, 8, 9, 29]⟩
theorem c70 : (Tryz.f70.body).bind (compC X70.P X70.Γ X70.D X70.nt) = some A70 := by kernel_rfl
theorem o70 : compRes X70.P Tryz.f70.results.toList = some O70 := by kernel_rfl
theorem v70 : X70.vs = [0, 1, 2, 4, 6, 7, 8, 9, 29] := rfl
theorem p70 : X70.P = Tryz.prog := rfl
def R99_0 : List AR := [⟨(some 2), none, 0, (.box 0 19 (.t 0))⟩, ⟨(some 4), none, 0, (.mov (.k (.bool false)))⟩]
def R99_1 : List AR := [⟨(some 5), none, 0, (.mov (.t 1))⟩, ⟨(some 6), none, 0, (.faddr 1 (.t 2))⟩, ⟨(some 7), none, 0, (.load 1 false (.t 6))⟩, ⟨(some 8), none, 0, (.bin .sub (.t 7) (.k (.int .i64 1)))⟩, ⟨(some 9), none, 0, (.call false 0 0 49 [(.t 5), (.k (.int .i64 0)), (.t 8)])⟩, ⟨(some 10), none, 0, (.mov (.t 9))⟩, ⟨(some 11), (some (10, true)), 0, (.mov (.t 1))⟩, ⟨(some 12), (some (10, true)), 0, (.faddr 0 (.t 2))⟩, ⟨(some 13), (some (10, true)), 0, (.load 1 false (.t 12))⟩, ⟨(some 14), (some (10, true)), 0, (.bin .neq (.t 11) (.t 13))⟩, ⟨(some 15), none, 0, (.pick (.t 10) (.t 14) (.k (.bool false)))⟩, ⟨(some 4), none, 0, (.mov (.t 15))⟩]
def A99_0 : AC := (.seq (.reg 0 R99_1) .ret)
def A99 : AC := (.seq (.reg 1 R99_0) A99_0)
def O99 : List AO := [(.mov (.t 4))]
def G99 : Fns := ⟨fun f => false, fun f => 0, false⟩
noncomputable def X99 : Cx := ⟨Tryz.prog, G99, drawD, 16, [0, 1, 2, 4]⟩
theorem c99 : (Tryz.f99.body).bind (compC X99.P X99.Γ X99.D X99.nt) = some A99 := by kernel_rfl
theorem o99 : compRes X99.P Tryz.f99.results.toList = some O99 := by kernel_rfl
theorem v99 : X99.vs = [0, 1, 2, 4] := rfl
theorem p99 : X99.P = Tryz.prog := rfl
def R121_0 : List AR := [⟨(some 3), none, 0, (.box 0 19 (.t 0))⟩, ⟨(some 6), none, 0, (.mov (.k (.int .i64 0)))⟩]
def R121_1 : List AR := [⟨(some 9), none, 0, (.faddr 14 (.t 3))⟩, ⟨(some 10), none, 0, (.load 1 false (.t 9))⟩, ⟨(some 11), none, 0, (.len (.t 10))⟩, ⟨(some 12), none, 0, (.mov (.k (.int .i64 0)))⟩]
def R121_2 : List AR := [⟨(some 13), none, 0, (.bin .lss (.t 12) (.t 11))⟩]
def R121_3 : List AR := [⟨(some 14), none, 0, (.mov (.t 12))⟩, ⟨(some 15), none, 0, (.iaddr 4 (.t 10) (.t 12))⟩, ⟨(some 16), none, 0, (.load 4 true (.t 15))⟩, ⟨(some 8), none, 0, (.alloc 0 4 [(.int .i64 0), (.int .i64 0), (.bool false), (.int .i64 0)])⟩, ⟨(some 7), none, 0, (.mov (.t 14))⟩, ⟨none, none, 0, (.store 4 (.t 8) (.t 16))⟩]
def R121_4 : List AR := [⟨(some 17), none, 0, (.faddr 0 (.t 8))⟩, ⟨(some 18), none, 0, (.load 1 false (.t 17))⟩, ⟨(some 19), none, 0, (.mov (.t 1))⟩, ⟨(some 20), none, 0, (.bin .eql (.t 18) (.t 19))⟩, ⟨(some 21), none, 0, (.mov (.t 20))⟩, ⟨(some 22), (some (21, true)), 0, (.faddr 2 (.t 8))⟩, ⟨(some 23), (some (21, true)), 0, (.load 1 false (.t 22))⟩, ⟨(some 24), (some (21, true)), 0, (.mov (.t 2))⟩, ⟨(some 25), (some (21, true)), 0, (.beq false (.t 23) (.t 24))⟩, ⟨(some 26), none, 0, (.pick (.t 21) (.t 25) (.k (.bool false)))⟩]
def R121_5 : List AR := [⟨(some 27), none, 0, (.mov (.t 7))⟩, ⟨(some 6), none, 0, (.mov (.t 27))⟩]
def A121_0 : AC := (.seq (.reg 0 R121_4) (.cond (.t 26) (.seq (.reg 0 R121_5) .ret) .skip))
def R121_6 : List AR := [⟨(some 28), none, 0, (.bin .add (.t 12) (.k (.int .i64 1)))⟩, ⟨(some 12), none, 0, (.mov (.t 28))⟩]
def A121_1 : AC := (.seq (.block 1 (.seq (.reg 1 R121_3) A121_0)) (.reg 0 R121_6))
def A121_2 : AC := (.seq (.cond (.t 13) .skip (.exit 0)) A121_1)
def L121_0 : AC := (.seq (.reg 0 R121_2) A121_2)
def R121_7 : List AR := [⟨(some 6), none, 0, (.mov (.k (.int .i64 (-1))))⟩]
def A121_3 : AC := (.seq (.reg 0 R121_7) .ret)
def A121_4 : AC := (.seq (.seq (.reg 0 R121_1) (.block 0 (.loop L121_0))) A121_3)
def A121 : AC := (.seq (.reg 1 R121_0) A121_4)
def O121 : List AO := [(.mov (.t 6))]
def G121 : Fns := ⟨fun f => false, fun f => 0, false⟩
noncomputable def X121 : Cx := ⟨Tryz.prog, G121, drawD, 29, [0, 1, 2, 3, 6, 7, 8, 10, 11, 12, 13, 26]⟩
theorem c121 : (Tryz.f121.body).bind (compC X121.P X121.Γ X121.D X121.nt) = some A121 := by kernel_rfl
theorem o121 : compRes X121.P Tryz.f121.results.toList = some O121 := by kernel_rfl
theorem v121 : X121.vs = [0, 1, 2, 3, 6, 7, 8, 10, 11, 12, 13, 26] := rfl
theorem p121 : X121.P = Tryz.prog := rfl
def sessQ (n : Node) (x : Sess) : Prop := ((0 ≤ x.peer ∧ x.peer ≤ n.n - 1) ∧ x.peer ≠ n.id) ∧ (0 ≤ x.num ∧ x.num ≤ 100000) ∧ (0 ≤ x.age ∧ x.age ≤ n.wait)
def sessP (n : Node) (i : Nat) (x : Sess) : Prop := sessQ n x ∧ ∀ (k : Nat) y, k < i → n.sess[k]? = some y → ¬ (y.peer = x.peer ∧ y.in_ = x.in_)
def sessR (n : Node) : Prop := (n.sess.length : Int) ≤ n.slots ∧ ∀ (i : Nat) x, n.sess[i]? = some x → sessP n i x
noncomputable instance (n : Node) (x : Sess) : Decidable (sessQ n x) := Classical.propDecidable _
noncomputable instance (n : Node) : Decidable (sessR n) := Classical.propDecidable _
theorem bool_eq (p q : Bool) : (V.bool (decide (p = q))) = .bool (decide (p = q)) := rfl
set_option maxHeartbeats 4000000 in
theorem specL11Sess_ok (n : Node) (h : n.sess.length ≤ 1048576) (hn : 1 ≤ n.n ∧ n.n ≤ 5) : FS Tryz.prog 98 [] [.agg n.c] (.bool (decide (sessR n))) [] := by
  refine FS.of (X := X98) (ac := A98) (os := O98) Tryz.func98 (by rfl) (by rfl) (by kernel_rfl) o98 (Nat.le_of_ble_eq_true rfl) ?_
  show AWP X98 A98 (Ends X98.vs O98 0 _ _) [.agg n.c, .tup [], .tup [], .tup [], .tup [], .tup [], .tup [], .tup [], .tup [], .tup [], .tup []] []
  obtain ⟨Q, hQ⟩ : ∃ Q, Q = Ends X98.vs O98 0 (.bool (decide (sessR n))) [] := ⟨_, rfl⟩
  rw [← hQ]
  have fin : ∀ L σ vV, resVs O98 (look X98.vs L) σ = some [vV] → vV = (.bool (decide (sessR n))) → Q .ret L σ := by
    intro L σ vV h1 h2
    rw [hQ]
    exact Ends.is (.inl rfl) h1 (by simp only [packV, h2]) rfl
  refine awp_sr ?_
  simp only [go_sem, R98_0, v98, p98, Node.c]
  refine awp_sr2 ?_
  simp only [go_sem, R98_1, v98, p98, Node.c]
  refine awp_if rfl ?_ ?_
  · intro h1
    refine awp_sr ?_
    simp only [go_sem, R98_2, v98, p98]
    refine awp_ret ?_
    try simp only [go_sem]
    exact fin _ _ (.bool false) rfl (congrArg V.bool (decide_eq_false fun e => by have := e.1; omega)).symm
  intro h1
  refine awp_skip ?_
  simp only [go_sem]
  refine awp_sr2 ?_
  simp only [go_sem, R98_3, v98, p98]
  obtain ⟨I, hI⟩ : ∃ I : Nat → List V → Store → Prop, I = fun mM L σ => ∃ i rest y0 y2 y4 y5 y11 y16 y51 y54 y76, mM = n.sess.length - i ∧ i ≤ n.sess.length ∧ (∀ j x, j < i → n.sess[j]? = some x → sessP n j x) ∧ L = [y0, .ptr 0 19 0 0, y2, .int .i64 (i : Nat), y4, y5, y11, y16, y51, y54, y76] ∧ σ = .live ⟨19, [n.c]⟩ :: rest := ⟨_, rfl⟩
  first | refine awp_for I n.sess.length ?_ ?_ | refine awp_seq (awp_for I n.sess.length ?_ ?_)
  · rw [hI]; refine ⟨0, _, _, _, _, _, _, _, _, _, _, rfl, Nat.zero_le _, ?_, rfl, rfl⟩
    intro j x h; omega
  intro mM L σ hIn
  rw [hI] at hIn
  obtain ⟨i, rest, y0, y2, y4, y5, y11, y16, y51, y54, y76, rfl, hi, hP, rfl, rfl⟩ := hIn
  refine awp_sr2 ?_
  simp only [go_sem, R98_4, v98, p98, Node.c]
  refine awp_if rfl ?_ ?_
  · intro h2
    have h2 : i < n.sess.length := by omega
    have no : ¬ sessP n i n.sess[i] → ¬ sessR n := fun e k => e (k.2 i _ (List.getElem?_eq_getElem h2))
    refine awp_skip ?_
    simp only [go_sem]
    refine awp_seq (awp_block ?_)
    refine awp_sr ?_
    simp only [go_sem, R98_5, v98, p98, Node.c, rw_at _ h2, Sess.c]
    refine (fun G : AWP X98 _ _ _ (.live ⟨19, [n.c]⟩ :: (rest ++ [.live ⟨4, [n.sess[i].c]⟩])) => G) ?_
    obtain ⟨K1, hK1⟩ : ∃ K : List V → Store → Prop, K = fun L σ => ∃ q y0 y2 y5 y11 y16 y54 y76, L = [y0, .ptr 0 19 0 0, y2, .int .i64 (i : Nat), .ptr (rest.length + 1) 4 0 0, y5, y11, y16, .bool q, y54, y76] ∧ σ = .live ⟨19, [n.c]⟩ :: (rest ++ [.live ⟨4, [n.sess[i].c]⟩]) ∧ q = !decide (sessQ n n.sess[i]) := ⟨_, rfl⟩
    refine awp_sr2K (K1) ?_ ?_
    · simp only [go_sem, R98_6, v98, p98, Node.c, Sess.c, wrap_i64 (n := n.n - 1) (by omega) (by omega)]
      repeat' first
        | (refine selP_if rfl (fun hG => ?_) (fun hG => ?_) <;> first | simp only [go_sem, v98, p98, eq_false hG, Node.c, Sess.c, wrap_i64 (n := n.n - 1) (by omega) (by omega)] | simp only [go_sem, v98, p98, eq_true hG, Node.c, Sess.c, wrap_i64 (n := n.n - 1) (by omega) (by omega)])
        | (refine selP_ifn rfl (fun hG => ?_) (fun hG => ?_) <;> first | simp only [go_sem, v98, p98, eq_false hG, Node.c, Sess.c, wrap_i64 (n := n.n - 1) (by omega) (by omega)] | simp only [go_sem, v98, p98, eq_true hG, Node.c, Sess.c, wrap_i64 (n := n.n - 1) (by omega) (by omega)])
        | (refine selN_if rfl (fun hG => ?_) (fun hG => ?_) <;> first | simp only [go_sem, v98, p98, eq_false hG, Node.c, Sess.c, wrap_i64 (n := n.n - 1) (by omega) (by omega)] | simp only [go_sem, v98, p98, eq_true hG, Node.c, Sess.c, wrap_i64 (n := n.n - 1) (by omega) (by omega)])
        | (refine selN_ifn rfl (fun hG => ?_) (fun hG => ?_) <;> first | simp only [go_sem, v98, p98, eq_false hG, Node.c, Sess.c, wrap_i64 (n := n.n - 1) (by omega) (by omega)] | simp only [go_sem, v98, p98, eq_true hG, Node.c, Sess.c, wrap_i64 (n := n.n - 1) (by omega) (by omega)])
        | (refine selB_if rfl (fun hG => ?_) (fun hG => ?_) <;> simp only [go_sem, v98, p98, hG, Node.c, Sess.c, wrap_i64 (n := n.n - 1) (by omega) (by omega)])
        | (refine selB_ifn rfl (fun hG => ?_) (fun hG => ?_) <;> simp only [go_sem, v98, p98, hG, Node.c, Sess.c, wrap_i64 (n := n.n - 1) (by omega) (by omega)])
        | (refine run_see (l1In_ok _ _ _) false (Views.refl rfl) rfl (fun j hj => by omega) (fun h => by cases h) ?_; simp only [go_sem, v98, p98, Node.c, Sess.c, wrap_i64 (n := n.n - 1) (by omega) (by omega)])
      all_goals rw [hK1]
      all_goals refine ⟨_, _, _, _, _, _, _, _, rfl, rfl, ?_⟩
      all_goals grind [sessQ]
    intro L σ hq
    rw [hK1] at hq
    obtain ⟨q, y0, y2, y5, y11, y16, y54, y76, rfl, rfl, hq⟩ := hq
    subst hq
    refine awp_if' rfl ?_ ?_
    · intro h3
      refine awp_sr ?_
      simp only [go_sem, R98_7, v98, p98]
      refine awp_ret ?_
      try simp only [go_sem]
      exact fin _ _ (.bool false) rfl (congrArg V.bool (decide_eq_false (no fun e => h3 e.1))).symm
    intro h3
    refine awp_skip ?_
    simp only [go_sem]
    refine awp_sr ?_
    simp only [go_sem, R98_8, v98, p98]
    obtain ⟨J, hJ⟩ : ∃ J : Nat → List V → Store → Prop, J = fun mM L σ => ∃ k y0 y2 y11 y16 y51 y54 y76, i - k = mM ∧ (k ≤ i ∧ ∀ (j : Nat) y, j < k → n.sess[j]? = some y → ¬ (y.peer = n.sess[i].peer ∧ y.in_ = n.sess[i].in_)) ∧ L = [y0, .ptr 0 19 0 0, y2, .int .i64 (i : Nat), .ptr (rest.length + 1) 4 0 0, .int .i64 (k : Nat), y11, y16, y51, y54, y76] ∧ σ = .live ⟨19, [n.c]⟩ :: (rest ++ [.live ⟨4, [n.sess[i].c]⟩]) := ⟨_, rfl⟩
    first | refine awp_for J (i) ?_ ?_ | refine awp_seq (awp_for J (i) ?_ ?_)
    · rw [hJ]
      refine ⟨0, _, _, _, _, _, _, _, rfl, ?_, rfl, rfl⟩
      exact ⟨Nat.zero_le _, fun j y h => by omega⟩
    intro mM L σ hIn
    rw [hJ] at hIn
    obtain ⟨k, y0, y2, y11, y16, y51, y54, y76, rfl, hP, rfl, rfl⟩ := hIn
    obtain ⟨hk, hK⟩ := hP
    refine awp_sr2 ?_
    simp only [go_sem, R98_9, v98, p98]
    refine awp_if rfl ?_ ?_
    · intro h4
      have h4 : k < i := by omega
      have h5 : k < n.sess.length := by omega
      refine awp_skip ?_
      simp only [go_sem]
      first | refine awp_block ?_ | refine awp_seq (awp_block ?_)
      obtain ⟨K2, hK2⟩ : ∃ K : List V → Store → Prop, K = fun L σ => ∃ q y0 y2 y11 y16 y51 y54, L = [y0, .ptr 0 19 0 0, y2, .int .i64 (i : Nat), .ptr (rest.length + 1) 4 0 0, .int .i64 (k : Nat), y11, y16, y51, y54, .bool q] ∧ σ = .live ⟨19, [n.c]⟩ :: (rest ++ [.live ⟨4, [n.sess[i].c]⟩]) ∧ q = decide (n.sess[k].peer = n.sess[i].peer ∧ n.sess[k].in_ = n.sess[i].in_) := ⟨_, rfl⟩
      refine awp_sdK (K2) mixed rfl (by rfl) ?_ ?_
      · simp only [go_sem, R98_10, v98, p98, Node.c, Sess.c, rw_at _ h5]
        repeat' first
          | (refine selP_if rfl (fun hG => ?_) (fun hG => ?_) <;> first | simp only [go_sem, v98, p98, eq_false hG, Node.c, Sess.c, rw_at _ h5] | simp only [go_sem, v98, p98, eq_true hG, Node.c, Sess.c, rw_at _ h5])
          | (refine selP_ifn rfl (fun hG => ?_) (fun hG => ?_) <;> first | simp only [go_sem, v98, p98, eq_false hG, Node.c, Sess.c, rw_at _ h5] | simp only [go_sem, v98, p98, eq_true hG, Node.c, Sess.c, rw_at _ h5])
          | (refine selN_if rfl (fun hG => ?_) (fun hG => ?_) <;> first | simp only [go_sem, v98, p98, eq_false hG, Node.c, Sess.c, rw_at _ h5] | simp only [go_sem, v98, p98, eq_true hG, Node.c, Sess.c, rw_at _ h5])
          | (refine selN_ifn rfl (fun hG => ?_) (fun hG => ?_) <;> first | simp only [go_sem, v98, p98, eq_false hG, Node.c, Sess.c, rw_at _ h5] | simp only [go_sem, v98, p98, eq_true hG, Node.c, Sess.c, rw_at _ h5])
          | (refine selB_if rfl (fun hG => ?_) (fun hG => ?_) <;> simp only [go_sem, v98, p98, hG, Node.c, Sess.c, rw_at _ h5])
          | (refine selB_ifn rfl (fun hG => ?_) (fun hG => ?_) <;> simp only [go_sem, v98, p98, hG, Node.c, Sess.c, rw_at _ h5])
        all_goals rw [hK2]
        all_goals refine ⟨_, _, _, _, _, _, _, rfl, rfl, ?_⟩
        all_goals grind
      intro L σ hq
      rw [hK2] at hq
      obtain ⟨q, y0, y2, y11, y16, y51, y54, rfl, rfl, hq⟩ := hq
      subst hq
      refine awp_if rfl ?_ ?_
      · intro h6
        refine awp_sr ?_
        simp only [go_sem, R98_11, v98, p98]
        refine awp_ret ?_
        try simp only [go_sem]
        exact fin _ _ (.bool false) rfl (congrArg V.bool (decide_eq_false (no fun e => e.2 k _ h4 (List.getElem?_eq_getElem h5) h6))).symm
      · intro h6
        refine awp_skip ?_
        simp only [go_sem]
        refine awp_reg ?_
        simp only [go_sem, R98_12, v98, p98, wrap_succ (i := k) (by omega)]
        refine ⟨i - (k + 1), ?_, ?_⟩
        rotate_left
        rw [hJ]
        refine ⟨k + 1, _, _, _, _, _, _, _, rfl, ?_, rfl, rfl⟩
        · refine ⟨by omega, fun j y hj hy => ?_⟩
          rcases Nat.lt_or_ge j k with h7 | h7
          · exact hK j y h7 hy
          · have : j = k := by omega
            subst this
            rw [List.getElem?_eq_getElem h5] at hy
            cases hy
            exact h6
        · omega
    · intro h4
      have : i = k := by omega
      subst this
      refine awp_exit ?_
      simp only [go_sem]
      refine awp_reg ?_
      simp only [go_sem, R98_13, v98, p98, wrap_succ (i := i) (by omega)]
      refine ⟨n.sess.length - (i + 1), by omega, ?_⟩
      rw [hI]
      refine ⟨i + 1, _, _, _, _, _, _, _, _, _, _, rfl, by omega, ?_, rfl, rfl⟩
      exact upto_succ hP h2 ⟨h3, hK⟩
  · intro h2
    refine awp_exit ?_
    simp only [go_sem]
    refine awp_sr ?_
    simp only [go_sem, R98_14, v98, p98]
    refine awp_ret ?_
    try simp only [go_sem]
    exact fin _ _ (.bool true) rfl (congrArg V.bool (decide_eq_true (show sessR n from ⟨by omega, upto_all hP (by omega)⟩)).symm)
theorem isPeer_ok (n : Node) (id : Int) (hn : 1 ≤ n.n ∧ n.n ≤ 5) : FS Tryz.prog 99 [] [.agg n.c, .int .i64 id] (.bool (decide ((0 ≤ id ∧ id ≤ n.n - 1) ∧ id ≠ n.id))) [] := by
  refine FS.of (X := X99) (ac := A99) (os := O99) Tryz.func99 (by rfl) (by rfl) (by kernel_rfl) o99 (Nat.le_of_ble_eq_true rfl) ?_
  show AWP X99 A99 (Ends X99.vs O99 0 _ _) [.agg n.c, .int .i64 id, .tup [], .tup []] []
  obtain ⟨Q, hQ⟩ : ∃ Q, Q = Ends X99.vs O99 0 (.bool (decide ((0 ≤ id ∧ id ≤ n.n - 1) ∧ id ≠ n.id))) [] := ⟨_, rfl⟩
  rw [← hQ]
  have fin : ∀ L σ vV, resVs O99 (look X99.vs L) σ = some [vV] → vV = (.bool (decide ((0 ≤ id ∧ id ≤ n.n - 1) ∧ id ≠ n.id))) → Q .ret L σ := by
    intro L σ vV h1 h2
    rw [hQ]
    exact Ends.is (.inl rfl) h1 (by simp only [packV, h2]) rfl
  refine awp_sr ?_
  simp only [go_sem, R99_0, v99, p99, Node.c]
  obtain ⟨K3, hK3⟩ : ∃ K : List V → Store → Prop, K = fun L σ => ∃ q y0 y1 y2, L = [y0, y1, y2, .bool q] ∧ σ = [.live ⟨19, [n.c]⟩] ∧ q = decide ((0 ≤ id ∧ id ≤ n.n - 1) ∧ id ≠ n.id) := ⟨_, rfl⟩
  refine awp_srK (K3) ?_ ?_
  · simp only [go_sem, R99_1, v99, p99, Node.c, wrap_i64 (n := n.n - 1) (by omega) (by omega)]
    repeat' first
      | (refine selP_if rfl (fun hG => ?_) (fun hG => ?_) <;> first | simp only [go_sem, v99, p99, eq_false hG, Node.c] | simp only [go_sem, v99, p99, eq_true hG, Node.c])
      | (refine selP_ifn rfl (fun hG => ?_) (fun hG => ?_) <;> first | simp only [go_sem, v99, p99, eq_false hG, Node.c] | simp only [go_sem, v99, p99, eq_true hG, Node.c])
      | (refine selN_if rfl (fun hG => ?_) (fun hG => ?_) <;> first | simp only [go_sem, v99, p99, eq_false hG, Node.c] | simp only [go_sem, v99, p99, eq_true hG, Node.c])
      | (refine selN_ifn rfl (fun hG => ?_) (fun hG => ?_) <;> first | simp only [go_sem, v99, p99, eq_false hG, Node.c] | simp only [go_sem, v99, p99, eq_true hG, Node.c])
      | (refine selB_if rfl (fun hG => ?_) (fun hG => ?_) <;> simp only [go_sem, v99, p99, hG, Node.c])
      | (refine selB_ifn rfl (fun hG => ?_) (fun hG => ?_) <;> simp only [go_sem, v99, p99, hG, Node.c])
      | (refine run_see (within_ok _ _ _) false (Views.refl rfl) rfl (fun j hj => by omega) (fun h => by cases h) ?_; simp only [go_sem, v99, p99, Node.c])
    all_goals rw [hK3]
    all_goals refine ⟨_, _, _, _, rfl, rfl, ?_⟩
    all_goals grind
  intro L σ hq
  rw [hK3] at hq
  obtain ⟨q, y0, y1, y2, rfl, rfl, hq⟩ := hq
  subst hq
  refine awp_ret ?_
  try simp only [go_sem]
  exact fin _ _ _ rfl rfl
/-- the first place of such a session, counted from k -/
def slotL : List Sess → Nat → Int → Bool → Int
  | [], _, _, _ => -1
  | y :: ys, k, p, b => if y.peer = p ∧ y.in_ = b then (k : Int) else slotL ys (k + 1) p b
theorem slotL_at {xs : List Sess} {i : Nat} (h : i < xs.length) (k : Nat) (p : Int) (b : Bool) : slotL (xs.drop i) k p b = if xs[i].peer = p ∧ xs[i].in_ = b then (k : Int) else slotL (xs.drop (i + 1)) (k + 1) p b := by
  rw [List.drop_eq_getElem_cons h]; rfl
set_option maxHeartbeats 1000000 in
theorem slot_ok (n : Node) (p : Int) (b : Bool) (h : n.sess.length ≤ 1048576) : FS Tryz.prog 121 [] [.agg n.c, .int .i64 p, .bool b] (.int .i64 (slotL n.sess 0 p b)) [] := by
  refine FS.of (X := X121) (ac := A121) (os := O121) Tryz.func121 (by rfl) (by rfl) (by kernel_rfl) o121 (Nat.le_of_ble_eq_true rfl) ?_
  show AWP X121 A121 (Ends X121.vs O121 0 _ _) [.agg n.c, .int .i64 p, .bool b, .tup [], .tup [], .tup [], .tup [], .tup [], .tup [], .tup [], .tup [], .tup []] []
  obtain ⟨Q, hQ⟩ : ∃ Q, Q = Ends X121.vs O121 0 (.int .i64 (slotL n.sess 0 p b)) [] := ⟨_, rfl⟩
  rw [← hQ]
  have fin : ∀ L σ vV, resVs O121 (look X121.vs L) σ = some [vV] → vV = (.int .i64 (slotL n.sess 0 p b)) → Q .ret L σ := by
    intro L σ vV h1 h2
    rw [hQ]
    exact Ends.is (.inl rfl) h1 (by simp only [packV, h2]) rfl
  refine awp_sr ?_
  simp only [go_sem, R121_0, v121, p121, Node.c]
  refine awp_sr2 ?_
  simp only [go_sem, R121_1, v121, p121, Node.c]
  obtain ⟨I, hI⟩ : ∃ I : Nat → List V → Store → Prop, I = fun mM L σ => ∃ i rest y0 y3 y6 y7 y8 y13 y26, mM = n.sess.length - i ∧ i ≤ n.sess.length ∧ (slotL n.sess 0 p b = slotL (n.sess.drop i) i p b) ∧ L = [y0, .int .i64 p, .bool b, y3, y6, y7, y8, .fz 4 (rw_ Sess.c n.sess), .int .i64 (n.sess.length : Nat), .int .i64 (i : Nat), y13, y26] ∧ σ = rest := ⟨_, rfl⟩
  first | refine awp_for I n.sess.length ?_ ?_ | refine awp_seq (awp_for I n.sess.length ?_ ?_)
  · rw [hI]; refine ⟨0, _, _, _, _, _, _, _, _, rfl, Nat.zero_le _, ?_, rfl, rfl⟩
    rfl
  intro mM L σ hIn
  rw [hI] at hIn
  obtain ⟨i, rest, y0, y3, y6, y7, y8, y13, y26, rfl, hi, hP, rfl, rfl⟩ := hIn
  refine awp_sr ?_
  simp only [go_sem, R121_2, v121, p121]
  refine awp_seq ?_
  refine awp_if rfl ?_ ?_
  · intro h1
    have h1 : i < n.sess.length := by omega
    have e1 := slotL_at h1 i p b
    refine awp_skip ?_
    simp only [go_sem]
    refine awp_seq (awp_block ?_)
    refine awp_sr ?_
    simp only [go_sem, R121_3, v121, p121, rw_at _ h1, Sess.c]
    obtain ⟨K4, hK4⟩ : ∃ K : List V → Store → Prop, K = fun L σ => ∃ q rest y0 y3 y6 y8 y13, L = [y0, .int .i64 p, .bool b, y3, y6, .int .i64 (i : Nat), y8, .fz 4 (rw_ Sess.c n.sess), .int .i64 (n.sess.length : Nat), .int .i64 (i : Nat), y13, .bool q] ∧ σ = rest ∧ q = decide (n.sess[i].peer = p ∧ n.sess[i].in_ = b) := ⟨_, rfl⟩
    refine awp_srK (K4) ?_ ?_
    · simp only [go_sem, R121_4, v121, p121]
      repeat' first
        | (refine selP_if rfl (fun hG => ?_) (fun hG => ?_) <;> first | simp only [go_sem, v121, p121, eq_false hG, Sess.c] | simp only [go_sem, v121, p121, eq_true hG, Sess.c])
        | (refine selP_ifn rfl (fun hG => ?_) (fun hG => ?_) <;> first | simp only [go_sem, v121, p121, eq_false hG, Sess.c] | simp only [go_sem, v121, p121, eq_true hG, Sess.c])
        | (refine selN_if rfl (fun hG => ?_) (fun hG => ?_) <;> first | simp only [go_sem, v121, p121, eq_false hG, Sess.c] | simp only [go_sem, v121, p121, eq_true hG, Sess.c])
        | (refine selN_ifn rfl (fun hG => ?_) (fun hG => ?_) <;> first | simp only [go_sem, v121, p121, eq_false hG, Sess.c] | simp only [go_sem, v121, p121, eq_true hG, Sess.c])
        | (refine selB_if rfl (fun hG => ?_) (fun hG => ?_) <;> simp only [go_sem, v121, p121, hG, Sess.c])
        | (refine selB_ifn rfl (fun hG => ?_) (fun hG => ?_) <;> simp only [go_sem, v121, p121, hG, Sess.c])
      all_goals rw [hK4]
      all_goals refine ⟨_, _, _, _, _, _, _, rfl, rfl, ?_⟩
      all_goals grind
    intro L σ hq
    rw [hK4] at hq
    obtain ⟨q, rest, y0, y3, y6, y8, y13, rfl, rfl, hq⟩ := hq
    subst hq
    refine awp_if rfl ?_ ?_
    · intro h2
      refine awp_sr ?_
      simp only [go_sem, R121_5, v121, p121]
      refine awp_ret ?_
      try simp only [go_sem]
      exact fin _ _ _ rfl (congrArg (V.int .i64) (by rw [hP, e1, if_pos h2]))
    · intro h2
      refine awp_skip ?_
      simp only [go_sem]
      refine awp_reg ?_
      simp only [go_sem, R121_6, v121, p121, wrap_succ (i := i) (by omega)]
      refine ⟨n.sess.length - (i + 1), by omega, ?_⟩
      rw [hI]
      refine ⟨i + 1, _, _, _, _, _, _, _, _, rfl, by omega, ?_, rfl, rfl⟩
      rw [hP, e1, if_neg h2]
  · intro h1
    refine awp_exit ?_
    simp only [go_sem]
    refine awp_sr ?_
    simp only [go_sem, R121_7, v121, p121]
    refine awp_ret ?_
    try simp only [go_sem]
    exact fin _ _ _ rfl (congrArg (V.int .i64) (by rw [hP, List.drop_eq_nil_of_le (by omega)]; rfl))
/-- the first such session is that at i: none of those before is one -/
theorem slot_first {xs : List Sess} {i : Nat} (h : i < xs.length) : slotL xs 0 xs[i].peer xs[i].in_ = (i : Int) ↔ ∀ (k : Nat) y, k < i → xs[k]? = some y → ¬ (y.peer = xs[i].peer ∧ y.in_ = xs[i].in_) := by
  have key : ∀ j, j ≤ i → (∀ (k : Nat) y, k < j → xs[k]? = some y → ¬ (y.peer = xs[i].peer ∧ y.in_ = xs[i].in_)) → slotL xs 0 xs[i].peer xs[i].in_ = slotL (xs.drop j) j xs[i].peer xs[i].in_ := by
    intro j
    induction j with
    | zero => intro _ _; rfl
    | succ j ih =>
      intro hj hh
      rw [ih (by omega) fun k y hk => hh k y (by omega), slotL_at (i := j) (by omega), if_neg (hh j _ (by omega) (List.getElem?_eq_getElem (by omega)))]
  constructor
  · intro e k y hk hy he
    -- the least such place
    have : ∃ j, j < i ∧ (∀ (k : Nat) y, k < j → xs[k]? = some y → ¬ (y.peer = xs[i].peer ∧ y.in_ = xs[i].in_)) ∧ ∃ y, xs[j]? = some y ∧ y.peer = xs[i].peer ∧ y.in_ = xs[i].in_ := by
      induction k using Nat.strongRecOn generalizing y with
      | _ k ih =>
        by_cases hh : ∃ (k' : Nat) (y' : Sess), k' < k ∧ xs[k']? = some y' ∧ y'.peer = xs[i].peer ∧ y'.in_ = xs[i].in_
        · obtain ⟨k', y', h1, h2, h3⟩ := hh
          exact ih k' h1 y' (by omega) h2 h3
        · exact ⟨k, hk, fun k' y' h1 h2 h3 => hh ⟨k', y', h1, h2, h3⟩, y, hy, he⟩
    obtain ⟨j, hj, h1, y', h2, h3⟩ := this
    obtain ⟨hlt, rfl⟩ := List.getElem?_eq_some_iff.1 h2
    rw [key j (by omega) h1, slotL_at hlt, if_pos h3] at e
    omega
  · intro hh
    rw [key i (Nat.le_refl _) hh, slotL_at h, if_pos ⟨rfl, rfl⟩]
set_option maxHeartbeats 4000000 in
theorem implSessOk_ok (n : Node) (h : n.sess.length ≤ 1048576) (hn : 1 ≤ n.n ∧ n.n ≤ 5) : FS Tryz.prog 69 [] [.agg n.c] (.bool (decide ((1 ≤ n.slots ∧ n.slots ≤ 4) ∧ sessR n))) [] := by
  refine FS.of (X := X69) (ac := A69) (os := O69) Tryz.func69 (by rfl) (by rfl) (by kernel_rfl) o69 (Nat.le_of_ble_eq_true rfl) ?_
  show AWP X69 A69 (Ends X69.vs O69 0 _ _) [.agg n.c, .tup [], .tup [], .tup [], .tup [], .tup [], .tup [], .tup [], .tup [], .tup []] []
  obtain ⟨Q, hQ⟩ : ∃ Q, Q = Ends X69.vs O69 0 (.bool (decide ((1 ≤ n.slots ∧ n.slots ≤ 4) ∧ sessR n))) [] := ⟨_, rfl⟩
  rw [← hQ]
  have fin : ∀ L σ vV, resVs O69 (look X69.vs L) σ = some [vV] → vV = (.bool (decide ((1 ≤ n.slots ∧ n.slots ≤ 4) ∧ sessR n))) → Q .ret L σ := by
    intro L σ vV h1 h2
    rw [hQ]
    exact Ends.is (.inl rfl) h1 (by simp only [packV, h2]) rfl
  refine awp_sr ?_
  simp only [go_sem, R69_0, v69, p69, Node.c]
  refine awp_sr2 ?_
  simp only [go_sem, R69_1, v69, p69, Node.c]
  obtain ⟨I, hI⟩ : ∃ I : Nat → List V → Store → Prop, I = fun mM L σ => ∃ i rest y0 y2 y3 y4 y9 y41, mM = n.sess.length - i ∧ i ≤ n.sess.length ∧ (∀ j x, j < i → n.sess[j]? = some x → sessP n j x) ∧ L = [y0, .ptr 0 19 0 0, y2, y3, y4, .fz 4 (rw_ Sess.c n.sess), .int .i64 (n.sess.length : Nat), .int .i64 (i : Nat), y9, y41] ∧ σ = .live ⟨19, [n.c]⟩ :: rest := ⟨_, rfl⟩
  first | refine awp_for I n.sess.length ?_ ?_ | refine awp_seq (awp_for I n.sess.length ?_ ?_)
  · rw [hI]; refine ⟨0, _, _, _, _, _, _, _, rfl, Nat.zero_le _, ?_, rfl, rfl⟩
    intro j x h; omega
  intro mM L σ hIn
  rw [hI] at hIn
  obtain ⟨i, rest, y0, y2, y3, y4, y9, y41, rfl, hi, hP, rfl, rfl⟩ := hIn
  refine awp_sr ?_
  simp only [go_sem, R69_2, v69, p69]
  refine awp_seq ?_
  refine awp_if rfl ?_ ?_
  · intro h2
    have h2 : i < n.sess.length := by omega
    have no : ¬ sessP n i n.sess[i] → ¬ ((1 ≤ n.slots ∧ n.slots ≤ 4) ∧ sessR n) := fun e k => e (k.2.2 i _ (List.getElem?_eq_getElem h2))
    have hfst := slot_first h2
    refine awp_skip ?_
    simp only [go_sem]
    refine awp_seq (awp_block ?_)
    refine awp_sr ?_
    simp only [go_sem, R69_3, v69, p69, rw_at _ h2, Sess.c]
    have key : sessP n i n.sess[i] ↔ sessQ n n.sess[i] ∧ slotL n.sess 0 n.sess[i].peer n.sess[i].in_ = (i : Int) := by rw [hfst]; rfl
    obtain ⟨K5, hK5⟩ : ∃ K : List V → Store → Prop, K = fun L σ => ∃ q rest y0 y2 y3 y4 y9, L = [y0, .ptr 0 19 0 0, y2, y3, y4, .fz 4 (rw_ Sess.c n.sess), .int .i64 (n.sess.length : Nat), .int .i64 (i : Nat), y9, .bool q] ∧ σ = .live ⟨19, [n.c]⟩ :: rest ∧ q = !decide (sessQ n n.sess[i] ∧ slotL n.sess 0 n.sess[i].peer n.sess[i].in_ = (i : Int)) := ⟨_, rfl⟩
    refine awp_srK (K5) ?_ ?_
    · simp only [go_sem, R69_4, v69, p69, Node.c, Sess.c]
      repeat' first
        | (refine selP_if rfl (fun hG => ?_) (fun hG => ?_) <;> first | simp only [go_sem, v69, p69, eq_false hG, Node.c, Sess.c] | simp only [go_sem, v69, p69, eq_true hG, Node.c, Sess.c])
        | (refine selP_ifn rfl (fun hG => ?_) (fun hG => ?_) <;> first | simp only [go_sem, v69, p69, eq_false hG, Node.c, Sess.c] | simp only [go_sem, v69, p69, eq_true hG, Node.c, Sess.c])
        | (refine selN_if rfl (fun hG => ?_) (fun hG => ?_) <;> first | simp only [go_sem, v69, p69, eq_false hG, Node.c, Sess.c] | simp only [go_sem, v69, p69, eq_true hG, Node.c, Sess.c])
        | (refine selN_ifn rfl (fun hG => ?_) (fun hG => ?_) <;> first | simp only [go_sem, v69, p69, eq_false hG, Node.c, Sess.c] | simp only [go_sem, v69, p69, eq_true hG, Node.c, Sess.c])
        | (refine selB_if rfl (fun hG => ?_) (fun hG => ?_) <;> simp only [go_sem, v69, p69, hG, Node.c, Sess.c])
        | (refine selB_ifn rfl (fun hG => ?_) (fun hG => ?_) <;> simp only [go_sem, v69, p69, hG, Node.c, Sess.c])
        | (refine run_see (isPeer_ok n _ hn) false (Views.refl rfl) rfl (fun j hj => by omega) (fun h => by cases h) ?_; simp only [go_sem, v69, p69, Node.c, Sess.c])
        | (refine run_see (within_ok _ _ _) false (Views.refl rfl) rfl (fun j hj => by omega) (fun h => by cases h) ?_; simp only [go_sem, v69, p69, Node.c, Sess.c])
        | (refine run_see (slot_ok n _ _ h) false (Views.refl rfl) rfl (fun j hj => by omega) (fun h => by cases h) ?_; simp only [go_sem, v69, p69, Node.c, Sess.c])
      all_goals rw [hK5]
      all_goals refine ⟨_, _, _, _, _, _, _, rfl, rfl, ?_⟩
      all_goals grind [sessQ]
    intro L σ hq
    rw [hK5] at hq
    obtain ⟨q, rest, y0, y2, y3, y4, y9, rfl, rfl, hq⟩ := hq
    subst hq
    refine awp_if' rfl ?_ ?_
    · intro h3
      refine awp_sr ?_
      simp only [go_sem, R69_5, v69, p69]
      refine awp_ret ?_
      try simp only [go_sem]
      exact fin _ _ (.bool false) rfl (congrArg V.bool (decide_eq_false (no fun e => h3 (key.1 e)))).symm
    · intro h3
      refine awp_skip ?_
      simp only [go_sem]
      refine awp_reg ?_
      simp only [go_sem, R69_6, v69, p69, wrap_succ (i := i) (by omega)]
      refine ⟨n.sess.length - (i + 1), by omega, ?_⟩
      rw [hI]
      refine ⟨i + 1, _, _, _, _, _, _, _, rfl, by omega, ?_, rfl, rfl⟩
      exact upto_succ hP h2 (key.2 h3)
  · intro h2
    refine awp_exit ?_
    simp only [go_sem]
    have ha := upto_all hP (by omega)
    have key : sessR n ↔ (n.sess.length : Int) ≤ n.slots := ⟨fun e => e.1, fun e => ⟨e, ha⟩⟩
    obtain ⟨K6, hK6⟩ : ∃ K : List V → Store → Prop, K = fun L σ => ∃ q rest y0 y1 y3 y4 y6 y7 y8 y9 y41, L = [y0, y1, .bool q, y3, y4, y6, y7, y8, y9, y41] ∧ σ = .live ⟨19, [n.c]⟩ :: rest ∧ q = decide ((1 ≤ n.slots ∧ n.slots ≤ 4) ∧ sessR n) := ⟨_, rfl⟩
    refine awp_srK (K6) ?_ ?_
    · simp only [go_sem, R69_7, v69, p69, Node.c]
      repeat' first
        | (refine selP_if rfl (fun hG => ?_) (fun hG => ?_) <;> first | simp only [go_sem, v69, p69, eq_false hG, Node.c] | simp only [go_sem, v69, p69, eq_true hG, Node.c])
        | (refine selP_ifn rfl (fun hG => ?_) (fun hG => ?_) <;> first | simp only [go_sem, v69, p69, eq_false hG, Node.c] | simp only [go_sem, v69, p69, eq_true hG, Node.c])
        | (refine selN_if rfl (fun hG => ?_) (fun hG => ?_) <;> first | simp only [go_sem, v69, p69, eq_false hG, Node.c] | simp only [go_sem, v69, p69, eq_true hG, Node.c])
        | (refine selN_ifn rfl (fun hG => ?_) (fun hG => ?_) <;> first | simp only [go_sem, v69, p69, eq_false hG, Node.c] | simp only [go_sem, v69, p69, eq_true hG, Node.c])
        | (refine selB_if rfl (fun hG => ?_) (fun hG => ?_) <;> simp only [go_sem, v69, p69, hG, Node.c])
        | (refine selB_ifn rfl (fun hG => ?_) (fun hG => ?_) <;> simp only [go_sem, v69, p69, hG, Node.c])
        | (refine run_see (within_ok _ _ _) false (Views.refl rfl) rfl (fun j hj => by omega) (fun h => by cases h) ?_; simp only [go_sem, v69, p69, Node.c])
      all_goals rw [hK6]
      all_goals refine ⟨_, _, _, _, _, _, _, _, _, _, _, rfl, rfl, ?_⟩
      all_goals grind
    intro L σ hq
    rw [hK6] at hq
    obtain ⟨q, rest, y0, y1, y3, y4, y6, y7, y8, y9, y41, rfl, rfl, hq⟩ := hq
    subst hq
    refine awp_ret ?_
    try simp only [go_sem]
    exact fin _ _ _ rfl rfl
def riseP (clock : Int) (j : Nat) (x : Rise) : Prop := (0 ≤ x.inc ∧ x.inc ≤ 1000) ∧ (0 ≤ x.beat ∧ x.beat ≤ 100000) ∧ (0 ≤ x.tick ∧ x.tick ≤ clock)
def risesR (n : Node) : Prop := n.rises.length = 5 ∧ ∀ j x, n.rises[j]? = some x → riseP n.clock j x
noncomputable instance (n : Node) : Decidable (risesR n) := Classical.propDecidable _
noncomputable instance (c : Int) (j : Nat) (x : Rise) : Decidable (riseP c j x) := Classical.propDecidable _
set_option maxHeartbeats 1000000 in
theorem risesOk_ok (n : Node) (h : n.rises.length ≤ 1048576) : FS Tryz.prog 70 [] [.agg n.c] (.bool (decide (risesR n))) [] := by
  refine FS.of (X := X70) (ac := A70) (os := O70) Tryz.func70 (by rfl) (by rfl) (by kernel_rfl) o70 (Nat.le_of_ble_eq_true rfl) ?_
  show AWP X70 A70 (Ends X70.vs O70 0 _ _) [.agg n.c, .tup [], .tup [], .tup [], .tup [], .tup [], .tup [], .tup [], .tup []] []
  obtain ⟨Q, hQ⟩ : ∃ Q, Q = Ends X70.vs O70 0 (.bool (decide (risesR n))) [] := ⟨_, rfl⟩
  rw [← hQ]
  have fin : ∀ L σ vV, resVs O70 (look X70.vs L) σ = some [vV] → vV = (.bool (decide (risesR n))) → Q .ret L σ := by
    intro L σ vV h1 h2
    rw [hQ]
    exact Ends.is (.inl rfl) h1 (by simp only [packV, h2]) rfl
  refine awp_sr ?_
  simp only [go_sem, R70_0, v70, p70, Node.c]
  refine awp_sr2 ?_
  simp only [go_sem, R70_1, v70, p70, Node.c]
  obtain ⟨I, hI⟩ : ∃ I : Nat → List V → Store → Prop, I = fun mM L σ => ∃ i rest y0 y2 y4 y9 y29, mM = n.rises.length - i ∧ i ≤ n.rises.length ∧ (∀ j x, j < i → n.rises[j]? = some x → riseP n.clock j x) ∧ L = [y0, .ptr 0 19 0 0, y2, y4, .fz 3 (rw_ Rise.c n.rises), .int .i64 (n.rises.length : Nat), .int .i64 (i : Nat), y9, y29] ∧ σ = .live ⟨19, [n.c]⟩ :: rest := ⟨_, rfl⟩
  first | refine awp_for I n.rises.length ?_ ?_ | refine awp_seq (awp_for I n.rises.length ?_ ?_)
  · rw [hI]; refine ⟨0, _, _, _, _, _, _, rfl, Nat.zero_le _, ?_, rfl, rfl⟩
    intro j x h; omega
  intro mM L σ hIn
  rw [hI] at hIn
  obtain ⟨i, rest, y0, y2, y4, y9, y29, rfl, hi, hP, rfl, rfl⟩ := hIn
  refine awp_sr ?_
  simp only [go_sem, R70_2, v70, p70]
  refine awp_seq ?_
  refine awp_if rfl ?_ ?_
  · intro h2
    have h2 : i < n.rises.length := by omega
    refine awp_skip ?_
    simp only [go_sem]
    refine awp_seq (awp_block ?_)
    refine awp_sr ?_
    simp only [go_sem, R70_3, v70, p70, rw_at _ h2, Rise.c]
    obtain ⟨K7, hK7⟩ : ∃ K : List V → Store → Prop, K = fun L σ => ∃ q rest y0 y2 y4 y9, L = [y0, .ptr 0 19 0 0, y2, y4, .fz 3 (rw_ Rise.c n.rises), .int .i64 (n.rises.length : Nat), .int .i64 (i : Nat), y9, .bool q] ∧ σ = .live ⟨19, [n.c]⟩ :: rest ∧ q = !decide (riseP n.clock i n.rises[i]) := ⟨_, rfl⟩
    refine awp_srK (K7) ?_ ?_
    · simp only [go_sem, R70_4, v70, p70, Node.c, Rise.c]
      repeat' first
        | (refine selP_if rfl (fun hG => ?_) (fun hG => ?_) <;> first | simp only [go_sem, v70, p70, eq_false hG, Node.c, Rise.c] | simp only [go_sem, v70, p70, eq_true hG, Node.c, Rise.c])
        | (refine selP_ifn rfl (fun hG => ?_) (fun hG => ?_) <;> first | simp only [go_sem, v70, p70, eq_false hG, Node.c, Rise.c] | simp only [go_sem, v70, p70, eq_true hG, Node.c, Rise.c])
        | (refine selN_if rfl (fun hG => ?_) (fun hG => ?_) <;> first | simp only [go_sem, v70, p70, eq_false hG, Node.c, Rise.c] | simp only [go_sem, v70, p70, eq_true hG, Node.c, Rise.c])
        | (refine selN_ifn rfl (fun hG => ?_) (fun hG => ?_) <;> first | simp only [go_sem, v70, p70, eq_false hG, Node.c, Rise.c] | simp only [go_sem, v70, p70, eq_true hG, Node.c, Rise.c])
        | (refine selB_if rfl (fun hG => ?_) (fun hG => ?_) <;> simp only [go_sem, v70, p70, hG, Node.c, Rise.c])
        | (refine selB_ifn rfl (fun hG => ?_) (fun hG => ?_) <;> simp only [go_sem, v70, p70, hG, Node.c, Rise.c])
        | (refine run_see (within_ok _ _ _) false (Views.refl rfl) rfl (fun j hj => by omega) (fun h => by cases h) ?_; simp only [go_sem, v70, p70, Node.c, Rise.c])
      all_goals rw [hK7]
      all_goals refine ⟨_, _, _, _, _, _, rfl, rfl, ?_⟩
      all_goals grind [riseP]
    intro L σ hq
    rw [hK7] at hq
    obtain ⟨q, rest, y0, y2, y4, y9, rfl, rfl, hq⟩ := hq
    subst hq
    refine awp_if' rfl ?_ ?_
    · intro h3
      refine awp_sr ?_
      simp only [go_sem, R70_5, v70, p70]
      refine awp_ret ?_
      try simp only [go_sem]
      exact fin _ _ (.bool false) rfl (congrArg V.bool (decide_eq_false fun e => h3 (e.2 i _ (List.getElem?_eq_getElem h2)))).symm
    · intro h3
      refine awp_skip ?_
      simp only [go_sem]
      refine awp_reg ?_
      simp only [go_sem, R70_6, v70, p70, wrap_succ (i := i) (by omega)]
      refine ⟨n.rises.length - (i + 1), by omega, ?_⟩
      rw [hI]
      refine ⟨i + 1, _, _, _, _, _, _, rfl, by omega, ?_, rfl, rfl⟩
      exact upto_succ hP h2 h3
  · intro h2
    refine awp_exit ?_
    simp only [go_sem]
    have ha := upto_all hP (by omega)
    have key : risesR n ↔ n.rises.length = 5 := ⟨fun e => e.1, fun e => ⟨e, ha⟩⟩
    refine awp_sr ?_
    simp only [go_sem, R70_7, v70, p70, Node.c]
    refine awp_ret ?_
    try simp only [go_sem]
    refine fin _ _ _ rfl (congrArg V.bool ?_)
    grind
end Go.Proofs.YtffigokicddekaaGreat.Abs
/- What a right node is, in words. No condition. -/
set_option linter.unusedVariables false
set_option linter.unusedSimpArgs false
set_option maxRecDepth 10000
namespace Go.Proofs.YtffigokicddekaaGreat.Abs
open Go Go.Proofs
def Node.A (n : Node) : Prop := (1 ≤ n.n ∧ n.n ≤ 5) ∧ (0 ≤ n.id ∧ n.id ≤ n.n - 1) ∧ n.state.Right ∧ n.tree = treeOf n.state
def Node.B (n : Node) : Prop := vecR n.got n.n ∧ vecR n.acked n.n ∧ n.got.getD n.id.toNat 0 = logSeq n.log
def Node.C (n : Node) : Prop := ∀ (j : Nat) x, n.acked[j]? = some x → x ≤ logSeq n.log
def Node.D (n : Node) : Prop := (0 ≤ n.num ∧ n.num ≤ 100000) ∧ (0 ≤ n.clock ∧ n.clock ≤ 100000) ∧ (1 ≤ n.slots ∧ n.slots ≤ 4) ∧ (1 ≤ n.wait ∧ n.wait ≤ 20) ∧ (1 ≤ n.limit ∧ n.limit ≤ 50)
structure Node.Right (n : Node) : Prop where
  a : n.A
  l : n.log.Right
  b : n.B
  t : tableR n.seen n.n
  c : n.C
  d : n.D
  r : risesR n
  s : sessR n
noncomputable instance (n : Node) : Decidable n.Right := Classical.propDecidable _
noncomputable instance (n : Node) : Decidable (n.A ∧ n.log.Right) := Classical.propDecidable _
noncomputable instance (n : Node) : Decidable n.A := Classical.propDecidable _
noncomputable instance (n : Node) : Decidable (n.B ∧ tableR n.seen n.n) := Classical.propDecidable _
noncomputable instance (n : Node) : Decidable (n.log.Right ∧ n.B ∧ n.C) := Classical.propDecidable _
noncomputable instance (n : Node) : Decidable (n.D ∧ n.rises.length = 5) := Classical.propDecidable _
structure Node.Small (n : Node) : Prop where
  st : n.state.sz ≤ 1048576
  tr : n.tree.leaves.length ≤ 1048576
  lg : n.log.sz ≤ 1048576
  gt : n.got.length ≤ 1048576
  ak : n.acked.length ≤ 1048576
  sn : szS List.length n.seen ≤ 1048576
  ss : n.sess.length ≤ 1048576
  rs : n.rises.length ≤ 1048576
theorem Node.small {n : Node} (h : n.sz ≤ 1048576) : n.Small := by
  have hl : n.state.sz + n.tree.leaves.length + n.log.sz + n.got.length + n.acked.length + szS List.length n.seen + n.sess.length + n.rises.length ≤ 1048576 := h
  exact ⟨by omega, by omega, by omega, by omega, by omega, by omega, by omega, by omega⟩
theorem getD_at {xs : List Int} {i : Nat} (h : i < xs.length) : xs.getD i 0 = xs[i] := by simp [h]
end Go.Proofs.YtffigokicddekaaGreat.Abs
