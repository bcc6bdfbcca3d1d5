/- Parts of a state, walked in both texts. No condition. -/
import Derived.Test.YtffigokicddekaaMC44
set_option linter.unusedVariables false
set_option linter.unusedSimpArgs false
set_option maxRecDepth 10000
namespace Go.Proofs.Ytffigokicddekaa.Abs
open Go Go.Proofs
def R173_0 : List AR := [⟨(some 2), none, 0, (.box 0 2 (.t 0))⟩, ⟨(some 4), none, 0, (.alloc 1 2 [.nl, .nl])⟩]
def R173_1 : List AR := [⟨(some 8), none, 0, (.build [.nl, .nl] [])⟩, ⟨(some 5), none, 0, (.alloc 0 2 [.nl, .nl])⟩, ⟨none, none, 0, (.store 2 (.t 5) (.t 8))⟩]
def R173_2 : List AR := [⟨(some 6), none, 0, (.mov (.k (.int .i64 0)))⟩]
def R173_3 : List AR := [⟨(some 9), none, 0, (.mov (.t 6))⟩, ⟨(some 10), none, 0, (.faddr 0 (.t 2))⟩, ⟨(some 11), none, 0, (.load 1 false (.t 10))⟩, ⟨(some 12), none, 0, (.len (.t 11))⟩, ⟨(some 13), none, 0, (.bin .lss (.t 9) (.t 12))⟩]
def R173_4 : List AR := [⟨(some 16), none, 0, (.mov (.t 1))⟩, ⟨(some 17), none, 0, (.faddr 0 (.t 2))⟩, ⟨(some 18), none, 0, (.load 1 false (.t 17))⟩, ⟨(some 19), none, 0, (.mov (.t 6))⟩, ⟨(some 20), none, 0, (.iaddr 6 (.t 18) (.t 19))⟩, ⟨(some 21), none, 0, (.faddr 0 (.t 20))⟩, ⟨(some 22), none, 0, (.load 1 false (.t 21))⟩, ⟨(some 23), none, 0, (.call false 0 0 176 [(.t 22)])⟩, ⟨(some 24), none, 0, (.call false 0 0 52 [(.t 16), (.t 23)])⟩]
def R173_5 : List AR := [⟨(some 25), none, 0, (.faddr 0 (.t 5))⟩, ⟨(some 26), none, 1, (.load 1 false (.t 25))⟩, ⟨(some 27), none, 0, (.faddr 0 (.t 2))⟩, ⟨(some 28), none, 0, (.load 1 false (.t 27))⟩, ⟨(some 29), none, 0, (.mov (.t 6))⟩, ⟨(some 30), none, 0, (.iaddr 6 (.t 28) (.t 29))⟩, ⟨(some 31), none, 0, (.load 6 true (.t 30))⟩, ⟨(some 32), none, 0, (.bslice 0 6 1 [(.int .i64 0), (.int .i64 0), (.int .i64 0), (.int .i64 0), (.int .i64 0), (.str ⟨⟨[]⟩⟩)] [(0, (.t 31))])⟩, ⟨(some 33), none, 0, (.app 1 6 56 (.t 26) (.t 32))⟩, ⟨(some 34), none, 0, (.faddr 0 (.t 5))⟩, ⟨none, none, 0, (.store 1 (.t 34) (.t 33))⟩]
def R173_6 : List AR := [⟨(some 14), none, 0, (.mov (.t 6))⟩, ⟨(some 15), none, 0, (.bin .add (.t 14) (.k (.int .i64 1)))⟩, ⟨(some 6), none, 0, (.mov (.t 15))⟩]
def A173_0 : AC := (.seq (.block 1 (.seq (.reg 0 R173_4) (.cond (.t 24) (.draw 2 R173_5) .skip))) (.reg 0 R173_6))
def L173_0 : AC := (.seq (.seq (.reg 0 R173_3) (.cond (.t 13) .skip (.exit 0))) A173_0)
def R173_7 : List AR := [⟨(some 7), none, 0, (.mov (.k (.int .i64 0)))⟩]
def R173_8 : List AR := [⟨(some 35), none, 0, (.mov (.t 7))⟩, ⟨(some 36), none, 0, (.faddr 1 (.t 2))⟩, ⟨(some 37), none, 0, (.load 1 false (.t 36))⟩, ⟨(some 38), none, 0, (.len (.t 37))⟩, ⟨(some 39), none, 0, (.bin .lss (.t 35) (.t 38))⟩]
def R173_9 : List AR := [⟨(some 42), none, 0, (.mov (.t 1))⟩, ⟨(some 43), none, 0, (.faddr 1 (.t 2))⟩, ⟨(some 44), none, 0, (.load 1 false (.t 43))⟩, ⟨(some 45), none, 0, (.mov (.t 7))⟩, ⟨(some 46), none, 0, (.iaddr 2 (.t 44) (.t 45))⟩, ⟨(some 47), none, 0, (.faddr 0 (.t 46))⟩, ⟨(some 48), none, 0, (.load 1 false (.t 47))⟩, ⟨(some 49), none, 0, (.call false 0 0 176 [(.t 48)])⟩, ⟨(some 50), none, 0, (.call false 0 0 52 [(.t 42), (.t 49)])⟩]
def R173_10 : List AR := [⟨(some 51), none, 0, (.faddr 1 (.t 5))⟩, ⟨(some 52), none, 1, (.load 1 false (.t 51))⟩, ⟨(some 53), none, 0, (.faddr 1 (.t 2))⟩, ⟨(some 54), none, 0, (.load 1 false (.t 53))⟩, ⟨(some 55), none, 0, (.mov (.t 7))⟩, ⟨(some 56), none, 0, (.iaddr 2 (.t 54) (.t 55))⟩, ⟨(some 57), none, 0, (.load 2 true (.t 56))⟩, ⟨(some 58), none, 0, (.bslice 0 2 1 [(.int .i64 0), (.int .i64 0)] [(0, (.t 57))])⟩, ⟨(some 59), none, 0, (.app 1 2 16 (.t 52) (.t 58))⟩, ⟨(some 60), none, 0, (.faddr 1 (.t 5))⟩, ⟨none, none, 0, (.store 1 (.t 60) (.t 59))⟩]
def R173_11 : List AR := [⟨(some 40), none, 0, (.mov (.t 7))⟩, ⟨(some 41), none, 0, (.bin .add (.t 40) (.k (.int .i64 1)))⟩, ⟨(some 7), none, 0, (.mov (.t 41))⟩]
def A173_1 : AC := (.seq (.block 3 (.seq (.reg 0 R173_9) (.cond (.t 50) (.draw 2 R173_10) .skip))) (.reg 0 R173_11))
def L173_1 : AC := (.seq (.seq (.reg 0 R173_8) (.cond (.t 39) .skip (.exit 2))) A173_1)
def R173_12 : List AR := [⟨(some 61), none, 0, (.load 2 true (.t 5))⟩, ⟨none, none, 0, (.store 2 (.t 4) (.t 61))⟩]
def A173_2 : AC := (.seq (.reg 0 R173_12) .ret)
def A173_3 : AC := (.seq (.seq (.reg 0 R173_7) (.block 2 (.loop L173_1))) A173_2)
def A173_4 : AC := (.seq (.seq (.reg 0 R173_2) (.block 0 (.loop L173_0))) A173_3)
def A173_5 : AC := (.seq (.reg 1 R173_1) A173_4)
def A173 : AC := (.seq (.reg 2 R173_0) A173_5)
def O173 : List AO := [(.load 2 true (.t 4))]
def G173 : Fns := ⟨fun f => false, fun f => 0, false⟩
noncomputable def X173 : Cx := ⟨Try.prog, G173, drawD, 62, [0, 1, 2, 4, 5, 6, 7, 13, 24, 39, 50]⟩
theorem c173 : (Try.f173.body).bind (compC X173.P X173.Γ X173.D X173.nt) = some A173 := by kernel_rfl
theorem o173 : compRes X173.P Try.f173.results.toList = some O173 := by kernel_rfl
theorem v173 : X173.vs = [0, 1, 2, 4, 5, 6, 7, 13, 24, 39, 50] := rfl
theorem p173 : X173.P = Try.prog := rfl
def R174_0 : List AR := [⟨(some 2), none, 0, (.box 0 2 (.t 0))⟩, ⟨(some 4), none, 0, (.alloc 1 2 [.nl, .nl])⟩]
def R174_1 : List AR := [⟨(some 10), none, 0, (.build [.nl, .nl] [])⟩, ⟨(some 5), none, 0, (.alloc 0 2 [.nl, .nl])⟩, ⟨none, none, 0, (.store 2 (.t 5) (.t 10))⟩]
def R174_2 : List AR := [⟨(some 11), none, 0, (.load 2 true (.t 2))⟩, ⟨(some 12), none, 0, (.call false 0 0 59 [(.t 11)])⟩, ⟨(some 13), none, 0, (.not (.t 12))⟩]
def R174_3 : List AR := [⟨(some 14), none, 0, (.load 2 true (.t 5))⟩, ⟨none, none, 0, (.store 2 (.t 4) (.t 14))⟩]
def R174_4 : List AR := [⟨(some 15), none, 0, (.faddr 0 (.t 2))⟩, ⟨(some 16), none, 0, (.load 1 false (.t 15))⟩, ⟨(some 17), none, 0, (.len (.t 16))⟩, ⟨(some 18), none, 0, (.mov (.k (.int .i64 0)))⟩]
def R174_5 : List AR := [⟨(some 19), none, 0, (.bin .lss (.t 18) (.t 17))⟩]
def R174_6 : List AR := [⟨(some 20), none, 0, (.iaddr 6 (.t 16) (.t 18))⟩, ⟨(some 21), none, 0, (.load 6 true (.t 20))⟩, ⟨(some 7), none, 0, (.alloc 0 6 [(.int .i64 0), (.int .i64 0), (.int .i64 0), (.int .i64 0), (.int .i64 0), (.str ⟨⟨[]⟩⟩)])⟩, ⟨none, none, 0, (.store 6 (.t 7) (.t 21))⟩]
def R174_7 : List AR := [⟨(some 22), none, 0, (.mov (.t 1))⟩, ⟨(some 23), none, 0, (.faddr 0 (.t 7))⟩, ⟨(some 24), none, 0, (.load 1 false (.t 23))⟩, ⟨(some 25), none, 0, (.call false 0 0 177 [(.t 24)])⟩, ⟨(some 26), none, 0, (.call false 0 0 51 [(.t 22), (.t 25)])⟩]
def R174_8 : List AR := [⟨(some 27), none, 0, (.faddr 0 (.t 5))⟩, ⟨(some 28), none, 0, (.load 1 false (.t 27))⟩, ⟨(some 29), none, 0, (.load 6 true (.t 7))⟩, ⟨(some 30), none, 0, (.bslice 0 6 1 [(.int .i64 0), (.int .i64 0), (.int .i64 0), (.int .i64 0), (.int .i64 0), (.str ⟨⟨[]⟩⟩)] [(0, (.t 29))])⟩, ⟨(some 31), none, 0, (.app 1 6 56 (.t 28) (.t 30))⟩, ⟨(some 32), none, 0, (.faddr 0 (.t 5))⟩, ⟨none, none, 0, (.store 1 (.t 32) (.t 31))⟩]
def A174_0 : AC := (.seq (.reg 0 R174_7) (.cond (.t 26) (.reg 2 R174_8) .skip))
def R174_9 : List AR := [⟨(some 33), none, 0, (.bin .add (.t 18) (.k (.int .i64 1)))⟩, ⟨(some 18), none, 0, (.mov (.t 33))⟩]
def A174_1 : AC := (.seq (.block 1 (.seq (.reg 1 R174_6) A174_0)) (.reg 0 R174_9))
def A174_2 : AC := (.seq (.cond (.t 19) .skip (.exit 0)) A174_1)
def L174_0 : AC := (.seq (.reg 0 R174_5) A174_2)
def R174_10 : List AR := [⟨(some 34), none, 0, (.faddr 1 (.t 2))⟩, ⟨(some 35), none, 0, (.load 1 false (.t 34))⟩, ⟨(some 36), none, 0, (.len (.t 35))⟩, ⟨(some 37), none, 0, (.mov (.k (.int .i64 0)))⟩]
def R174_11 : List AR := [⟨(some 38), none, 0, (.bin .lss (.t 37) (.t 36))⟩]
def R174_12 : List AR := [⟨(some 39), none, 0, (.iaddr 2 (.t 35) (.t 37))⟩, ⟨(some 40), none, 0, (.load 2 true (.t 39))⟩, ⟨(some 9), none, 0, (.alloc 0 2 [(.int .i64 0), (.int .i64 0)])⟩, ⟨none, none, 0, (.store 2 (.t 9) (.t 40))⟩]
def R174_13 : List AR := [⟨(some 41), none, 0, (.mov (.t 1))⟩, ⟨(some 42), none, 0, (.faddr 0 (.t 9))⟩, ⟨(some 43), none, 0, (.load 1 false (.t 42))⟩, ⟨(some 44), none, 0, (.call false 0 0 177 [(.t 43)])⟩, ⟨(some 45), none, 0, (.call false 0 0 51 [(.t 41), (.t 44)])⟩]
def R174_14 : List AR := [⟨(some 46), none, 0, (.faddr 1 (.t 5))⟩, ⟨(some 47), none, 0, (.load 1 false (.t 46))⟩, ⟨(some 48), none, 0, (.load 2 true (.t 9))⟩, ⟨(some 49), none, 0, (.bslice 0 2 1 [(.int .i64 0), (.int .i64 0)] [(0, (.t 48))])⟩, ⟨(some 50), none, 0, (.app 1 2 16 (.t 47) (.t 49))⟩, ⟨(some 51), none, 0, (.faddr 1 (.t 5))⟩, ⟨none, none, 0, (.store 1 (.t 51) (.t 50))⟩]
def A174_3 : AC := (.seq (.reg 0 R174_13) (.cond (.t 45) (.reg 2 R174_14) .skip))
def R174_15 : List AR := [⟨(some 52), none, 0, (.bin .add (.t 37) (.k (.int .i64 1)))⟩, ⟨(some 37), none, 0, (.mov (.t 52))⟩]
def A174_4 : AC := (.seq (.block 3 (.seq (.reg 1 R174_12) A174_3)) (.reg 0 R174_15))
def A174_5 : AC := (.seq (.cond (.t 38) .skip (.exit 2)) A174_4)
def L174_1 : AC := (.seq (.reg 0 R174_11) A174_5)
def R174_16 : List AR := [⟨(some 53), none, 0, (.load 2 true (.t 5))⟩, ⟨none, none, 0, (.store 2 (.t 4) (.t 53))⟩]
def A174_6 : AC := (.seq (.reg 0 R174_16) .ret)
def A174_7 : AC := (.seq (.seq (.reg 0 R174_10) (.block 2 (.loop L174_1))) A174_6)
def A174_8 : AC := (.seq (.seq (.reg 0 R174_4) (.block 0 (.loop L174_0))) A174_7)
def A174_9 : AC := (.seq (.seq (.reg 0 R174_2) (.cond (.t 13) (.seq (.reg 0 R174_3) .ret) .skip)) A174_8)
def A174_10 : AC := (.seq (.reg 1 R174_1) A174_9)
def A174 : AC := (.seq (.reg 2 R174_0) A174_10)
def O174 : List AO := [(.load 2 true (.t 4))]
def G174 : Fns := ⟨fun f => false, fun f => 0, false⟩
noncomputable def X174 : Cx := ⟨Try.prog, G174, drawD, 54, [0, 1, 2, 4, 5, 7, 9, 13, 16, 17, 18, 19, 26, 35, 36, 37, 38, 45]⟩
theorem c174 : (Try.f174.body).bind (compC X174.P X174.Γ X174.D X174.nt) = some A174 := by kernel_rfl
theorem o174 : compRes X174.P Try.f174.results.toList = some O174 := by kernel_rfl
theorem v174 : X174.vs = [0, 1, 2, 4, 5, 7, 9, 13, 16, 17, 18, 19, 26, 35, 36, 37, 38, 45] := rfl
theorem p174 : X174.P = Try.prog := rfl
def inLs (ls : List Int) (id : Int) : Bool := decide (leafOf id ∈ ls)
def sliceS (s : State) (ls : List Int) : State := ⟨s.items.filter fun x => inLs ls x.id, s.floors.filter fun x => inLs ls x.id⟩
theorem filter_take {α : Type} (p : α → Bool) {xs : List α} {i : Nat} (h : i < xs.length) : (xs.take (i + 1)).filter p = if p xs[i] = true then (xs.take i).filter p ++ [xs[i]] else (xs.take i).filter p := by
  rw [List.take_succ_eq_append_getElem h, List.filter_append]
  by_cases h1 : p xs[i] = true
  · simp [h1]
  · simp [h1]
theorem filter_take_le {α : Type} (p : α → Bool) (xs : List α) (i : Nat) : ((xs.take i).filter p).length ≤ xs.length := by
  have h1 := List.length_filter_le p (xs.take i)
  have h2 : (xs.take i).length ≤ xs.length := by simp; omega
  omega
theorem item_fold (x : Item) : [V.int .i64 x.id, V.int .i64 x.entry.inc, V.int .i64 x.entry.rank, V.int .i64 x.entry.beat, V.int .i64 x.entry.ver, V.str x.entry.data] = x.c := rfl
theorem item_sing (x : Item) : [x.c] = rw_ Item.c [x] := rfl
theorem floor_fold (x : Floor) : [V.int .i64 x.id, V.int .i64 x.inc] = x.c := rfl
theorem floor_sing (x : Floor) : [x.c] = rw_ Floor.c [x] := rfl
set_option maxHeartbeats 4000000 in
theorem specL6Slice_ok (a : State) (ls : List Int) (h1 : a.items.length ≤ 1048576) (h2 : a.floors.length ≤ 1048576) (h3 : ls.length ≤ 1048576) : FS Try.prog 173 [] [.agg a.c, .fz 1 (rw_ intC ls)] (.agg (sliceS a ls).c) [] := by
  refine FS.of (X := X173) (ac := A173) (os := O173) Try.func173 (by rfl) (by rfl) (by kernel_rfl) o173 (Nat.le_of_ble_eq_true rfl) ?_
  show AWP X173 A173 (Ends X173.vs O173 0 _ _) [.agg a.c, .fz 1 (rw_ intC ls), .tup [], .tup [], .tup [], .tup [], .tup [], .tup [], .tup [], .tup [], .tup []] []
  obtain ⟨Q, hQ⟩ : ∃ Q, Q = Ends X173.vs O173 0 (.agg (sliceS a ls).c) [] := ⟨_, rfl⟩
  rw [← hQ]
  refine awp_sr ?_
  simp only [go_sem, R173_0, v173, p173, State.c]
  refine awp_sr ?_
  simp only [go_sem, R173_1, v173, p173]
  refine awp_sr2 ?_
  simp only [go_sem, R173_2, v173, p173]
  obtain ⟨I, hI⟩ : ∃ I : Nat → List V → Store → Prop, I = fun mM L σ => ∃ i c τ y0 y7 y13 y24 y39 y50, a.items.length - i = mM ∧ (i ≤ a.items.length ∧ τ[0]? = some (.live ⟨2, [a.c]⟩) ∧ τ[1]? = some (.live ⟨2, [[.nl, .nl]]⟩) ∧ τ[2]? = some (.live ⟨2, [[c, .nl]]⟩) ∧ Own τ 6 c (rw_ Item.c ((a.items.take i).filter fun x => inLs ls x.id))) ∧ L = [y0, .fz 1 (rw_ intC ls), .ptr 0 2 0 0, .ptr 1 2 0 0, .ptr 2 2 0 0, .int .i64 (i : Nat), y7, y13, y24, y39, y50] ∧ σ = τ := ⟨_, rfl⟩
  first | refine awp_for I (a.items.length) ?_ ?_ | refine awp_seq (awp_for I (a.items.length) ?_ ?_)
  · rw [hI]
    refine ⟨0, .nl, _, _, _, _, _, _, _, rfl, ?_, rfl, rfl⟩
    exact ⟨Nat.zero_le _, rfl, rfl, rfl, .inl ⟨rfl, rfl⟩⟩
  intro mM L σ hIn
  rw [hI] at hIn
  obtain ⟨i, c, τ, y0, y7, y13, y24, y39, y50, rfl, hP, rfl, rfl⟩ := hIn
  obtain ⟨hi, g0, g1, g2, hc⟩ := hP
  refine awp_sr2 ?_
  simp only [go_sem, R173_3, v173, p173, get_app g0, g0, State.c]
  refine awp_if rfl ?_ ?_
  · intro h4
    have h4 : i < a.items.length := by omega
    have e1 := filter_take (fun x => inLs ls x.id) h4
    have e2 := filter_take_le (fun x : Item => inLs ls x.id) a.items i
    refine awp_skip ?_
    simp only [go_sem]
    refine awp_seq (awp_block ?_)
    refine awp_sr ?_
    simp only [go_sem, R173_4, v173, p173, get_app g0, g0, State.c, rw_at _ h4, Item.c]
    refine run_see (specLeafOf_ok _) false (Views.refl rfl) rfl (fun j hj => by first | omega | ((have hj0 : j = 0 := by omega); subst hj0; first | rfl | (simp only [Nat.add_zero, app_get, app_getk, sapp_get, sapp_getk, Nat.add_assoc, Nat.reduceAdd, List.getElem?_cons_zero, List.getElem?_cons_succ]; done) | simp)) (fun h => by cases h) ?_
    simp only [go_sem, v173, p173]
    refine run_see (specL1Has_ok ls _ h3) false (Views.refl rfl) rfl (fun j hj => by first | omega | ((have hj0 : j = 0 := by omega); subst hj0; first | rfl | (simp only [Nat.add_zero, app_get, app_getk, sapp_get, sapp_getk, Nat.add_assoc, Nat.reduceAdd, List.getElem?_cons_zero, List.getElem?_cons_succ]; done) | simp)) (fun h => by cases h) ?_
    simp only [go_sem, v173, p173]
    obtain ⟨K1, hK1⟩ : ∃ K : List V → Store → Prop, K = fun L σ => ∃ τ' y0 y7 y13 y24 y39 y50, L = [y0, .fz 1 (rw_ intC ls), .ptr 0 2 0 0, .ptr 1 2 0 0, .ptr 2 2 0 0, .int .i64 (i : Nat), y7, y13, y24, y39, y50] ∧ σ = τ' ∧ ∃ c', τ'[0]? = some (.live ⟨2, [a.c]⟩) ∧ τ'[1]? = some (.live ⟨2, [[.nl, .nl]]⟩) ∧ τ'[2]? = some (.live ⟨2, [[c', .nl]]⟩) ∧ Own τ' 6 c' (rw_ Item.c ((a.items.take (i + 1)).filter fun x => inLs ls x.id)) := ⟨_, rfl⟩
    refine awp_K K1 ?_ ?_
    · refine awp_if rfl ?_ ?_
      · intro h5
        rw [if_pos (show inLs ls a.items[i].id = true from decide_eq_true h5)] at e1
        rcases hc with ⟨rfl, hn⟩ | ⟨o, n, rfl, hn, ho⟩
        · refine awp_dw [] mixed rfl ?_
          simp only [go_sem, R173_5, v173, p173, labOk_2, labOk_3, labOk_4, labOk_5, AO.touch, AO.sh, AR.sh, V.ids, V.idsL, List.mem_singleton, forall_eq, List.not_mem_nil, false_implies, implies_true, List.mem_cons, or_false, Nat.reduceLT, Nat.zero_lt_one, Nat.zero_ne_one, get_app g0, get_app g2, State.c, rw_at _ h4, Item.c, set_app g2]
          refine ⟨get_lt g2, ?_⟩
          have hn : (a.items.take i).filter (fun x => inLs ls x.id) = [] := by simpa [rw_] using hn
          rw [hn, List.nil_append] at e1
          rw [e1] at hK1
          rw [hK1]
          refine ⟨_, _, _, _, _, _, _, rfl, rfl, ?_⟩
          exact ⟨_, keep_get g0 (by omega), keep_get g1 (by omega), set_get g2 _, .inr ⟨σ.length + 1, 1, rfl, rfl, by rw [sapp_getk]; rfl⟩⟩
        · rw [rw_len] at hn
          subst hn
          have n0 : o ≠ 0 := get_ne g0 ho (slot_ne (by omega))
          have n1 : o ≠ 1 := get_ne g1 ho (slot_ne (by omega))
          have n2 : o ≠ 2 := get_ne g2 ho (slot_ne (by omega))
          refine awp_dw [] mixed rfl ?_
          simp only [go_sem, R173_5, v173, p173, labOk_2, labOk_3, labOk_4, labOk_5, AO.touch, AO.sh, AR.sh, V.ids, V.idsL, List.mem_singleton, forall_eq, List.not_mem_nil, false_implies, implies_true, List.mem_cons, or_false, Nat.reduceLT, Nat.zero_lt_one, Nat.zero_ne_one, get_app g0, get_app g2, State.c, rw_at _ h4, Item.c, get_app ho, set_app ho]
          refine ⟨get_lt g2, by omega, ?_⟩
          simp only [go_sem, v173, p173, item_fold, item_sing, keep_get g2 n2, set_app (keep_set g2 n2)]
          rw [← e1]
          rw [hK1]
          refine ⟨_, _, _, _, _, _, _, rfl, rfl, ?_⟩
          refine ⟨_, keep2_get g0 n0 (by omega), keep2_get g1 n1 (by omega), set2_get g2 n2 _, .inr ⟨σ.length + 1, _, rfl, ?_, by rw [sapp2_getk]; rfl⟩⟩
          rw [rw_len, e1]
          simp
      · intro h5
        rw [if_neg (show ¬ inLs ls a.items[i].id = true by unfold inLs; simpa using h5)] at e1
        refine awp_skip ?_
        simp only [go_sem]
        rw [← e1] at hc
        rw [hK1]
        refine ⟨_, _, _, _, _, _, _, rfl, rfl, ?_⟩
        exact ⟨c, g0, g1, g2, hc⟩
    · intro L σ hq
      rw [hK1] at hq
      obtain ⟨τ', y0, y7, y13, y24, y39, y50, rfl, rfl, hq⟩ := hq
      obtain ⟨c', g0, g1, g2, hc⟩ := hq
      simp only [go_sem, v173, p173]
      refine awp_reg ?_
      simp only [go_sem, R173_6, v173, p173, wrap_succ (i := i) (by omega)]
      refine ⟨a.items.length - (i + 1), ?_, ?_⟩
      rotate_left
      rw [hI]
      refine ⟨i + 1, c', _, _, _, _, _, _, _, rfl, ?_, rfl, rfl⟩
      · exact ⟨by omega, g0, g1, g2, hc⟩
      · omega
  · intro h4
    refine awp_exit ?_
    simp only [go_sem]
    have : i = a.items.length := by omega
    subst this
    rw [List.take_length] at hc
    clear hI
    refine awp_sr2 ?_
    simp only [go_sem, R173_7, v173, p173]
    obtain ⟨J, hJ⟩ : ∃ J : Nat → List V → Store → Prop, J = fun mM L σ => ∃ i d τ y0 y6 y13 y24 y39 y50, a.floors.length - i = mM ∧ (i ≤ a.floors.length ∧ τ[0]? = some (.live ⟨2, [a.c]⟩) ∧ τ[1]? = some (.live ⟨2, [[.nl, .nl]]⟩) ∧ τ[2]? = some (.live ⟨2, [[c, d]]⟩) ∧ Own τ 6 c (rw_ Item.c (a.items.filter fun x => inLs ls x.id)) ∧ Own τ 2 d (rw_ Floor.c ((a.floors.take i).filter fun x => inLs ls x.id)) ∧ Above 2 d) ∧ L = [y0, .fz 1 (rw_ intC ls), .ptr 0 2 0 0, .ptr 1 2 0 0, .ptr 2 2 0 0, y6, .int .i64 (i : Nat), y13, y24, y39, y50] ∧ σ = τ := ⟨_, rfl⟩
    first | refine awp_for J (a.floors.length) ?_ ?_ | refine awp_seq (awp_for J (a.floors.length) ?_ ?_)
    · rw [hJ]
      refine ⟨0, .nl, _, _, _, _, _, _, _, rfl, ?_, rfl, rfl⟩
      exact ⟨Nat.zero_le _, g0, g1, g2, hc, .inl ⟨rfl, rfl⟩, .nl 2⟩
    intro mM L σ hIn
    rw [hJ] at hIn
    obtain ⟨i, d, τ, y0, y6, y13, y24, y39, y50, rfl, hP, rfl, rfl⟩ := hIn
    obtain ⟨hi, g0, g1, g2, hc, hd, hab⟩ := hP
    have c2 := hc.ne g2 (by omega)
    refine awp_sr2 ?_
    simp only [go_sem, R173_8, v173, p173, get_app g0, g0, State.c]
    refine awp_if rfl ?_ ?_
    · intro h4
      have h4 : i < a.floors.length := by omega
      have e1 := filter_take (fun x => inLs ls x.id) h4
      have e2 := filter_take_le (fun x : Floor => inLs ls x.id) a.floors i
      refine awp_skip ?_
      simp only [go_sem]
      refine awp_seq (awp_block ?_)
      refine awp_sr ?_
      simp only [go_sem, R173_9, v173, p173, get_app g0, g0, State.c, rw_at _ h4, Floor.c]
      refine run_see (specLeafOf_ok _) false (Views.refl rfl) rfl (fun j hj => by first | omega | ((have hj0 : j = 0 := by omega); subst hj0; first | rfl | (simp only [Nat.add_zero, app_get, app_getk, sapp_get, sapp_getk, Nat.add_assoc, Nat.reduceAdd, List.getElem?_cons_zero, List.getElem?_cons_succ]; done) | simp)) (fun h => by cases h) ?_
      simp only [go_sem, v173, p173]
      refine run_see (specL1Has_ok ls _ h3) false (Views.refl rfl) rfl (fun j hj => by first | omega | ((have hj0 : j = 0 := by omega); subst hj0; first | rfl | (simp only [Nat.add_zero, app_get, app_getk, sapp_get, sapp_getk, Nat.add_assoc, Nat.reduceAdd, List.getElem?_cons_zero, List.getElem?_cons_succ]; done) | simp)) (fun h => by cases h) ?_
      simp only [go_sem, v173, p173]
      obtain ⟨K2, hK2⟩ : ∃ K : List V → Store → Prop, K = fun L σ => ∃ τ' y0 y6 y13 y24 y39 y50, L = [y0, .fz 1 (rw_ intC ls), .ptr 0 2 0 0, .ptr 1 2 0 0, .ptr 2 2 0 0, y6, .int .i64 (i : Nat), y13, y24, y39, y50] ∧ σ = τ' ∧ ∃ d', τ'[0]? = some (.live ⟨2, [a.c]⟩) ∧ τ'[1]? = some (.live ⟨2, [[.nl, .nl]]⟩) ∧ τ'[2]? = some (.live ⟨2, [[c, d']]⟩) ∧ Own τ' 6 c (rw_ Item.c (a.items.filter fun x => inLs ls x.id)) ∧ Own τ' 2 d' (rw_ Floor.c ((a.floors.take (i + 1)).filter fun x => inLs ls x.id)) ∧ Above 2 d' := ⟨_, rfl⟩
      refine awp_K K2 ?_ ?_
      · refine awp_if rfl ?_ ?_
        · intro h5
          rw [if_pos (show inLs ls a.floors[i].id = true from decide_eq_true h5)] at e1
          rcases hd with ⟨rfl, hn⟩ | ⟨o, n, rfl, hn, ho⟩
          · refine awp_dw [] mixed rfl ?_
            simp only [go_sem, R173_10, v173, p173, labOk_2, labOk_3, labOk_4, labOk_5, AO.touch, AO.sh, AR.sh, V.ids, V.idsL, List.mem_singleton, forall_eq, List.not_mem_nil, false_implies, implies_true, List.mem_cons, or_false, Nat.reduceLT, Nat.zero_lt_one, Nat.zero_ne_one, get_app g0, get_app g2, State.c, rw_at _ h4, Floor.c, set_app g2]
            refine ⟨get_lt g2, ?_⟩
            have hn : (a.floors.take i).filter (fun x => inLs ls x.id) = [] := by simpa [rw_] using hn
            rw [hn, List.nil_append] at e1
            rw [e1] at hK2
            rw [hK2]
            refine ⟨_, _, _, _, _, _, _, rfl, rfl, ?_⟩
            have := get_lt g2
            exact ⟨_, keep_get g0 (by omega), keep_get g1 (by omega), set_get g2 _, hc.keep c2, .inr ⟨σ.length + 1, 1, rfl, rfl, by rw [sapp_getk]; rfl⟩, .sl (by omega)⟩
          · rw [rw_len] at hn
            subst hn
            have ab := hab o _ _ _ rfl
            have n0 : o ≠ 0 := by omega
            have n1 : o ≠ 1 := by omega
            have n2 : o ≠ 2 := by omega
            have co := hc.ne ho (by omega)
            refine awp_dw [] mixed rfl ?_
            simp only [go_sem, R173_10, v173, p173, labOk_2, labOk_3, labOk_4, labOk_5, AO.touch, AO.sh, AR.sh, V.ids, V.idsL, List.mem_singleton, forall_eq, List.not_mem_nil, false_implies, implies_true, List.mem_cons, or_false, Nat.reduceLT, Nat.zero_lt_one, Nat.zero_ne_one, get_app g0, get_app g2, State.c, rw_at _ h4, Floor.c, get_app ho, set_app ho]
            refine ⟨get_lt g2, by omega, ?_⟩
            simp only [go_sem, v173, p173, floor_fold, floor_sing, keep_get g2 n2, set_app (keep_set g2 n2)]
            rw [← e1]
            rw [hK2]
            refine ⟨_, _, _, _, _, _, _, rfl, rfl, ?_⟩
            have := get_lt g2
            refine ⟨_, keep2_get g0 n0 (by omega), keep2_get g1 n1 (by omega), set2_get g2 n2 _, hc.keep2 c2 co, .inr ⟨σ.length + 1, _, rfl, ?_, by rw [sapp2_getk]; rfl⟩, .sl (by omega)⟩
            rw [rw_len, e1]
            simp
        · intro h5
          rw [if_neg (show ¬ inLs ls a.floors[i].id = true by unfold inLs; simpa using h5)] at e1
          refine awp_skip ?_
          simp only [go_sem]
          rw [← e1] at hd
          rw [hK2]
          refine ⟨_, _, _, _, _, _, _, rfl, rfl, ?_⟩
          exact ⟨d, g0, g1, g2, hc, hd, hab⟩
      · intro L σ hq
        rw [hK2] at hq
        obtain ⟨τ', y0, y6, y13, y24, y39, y50, rfl, rfl, hq⟩ := hq
        obtain ⟨d', g0, g1, g2, hc, hd, hab⟩ := hq
        simp only [go_sem, v173, p173]
        refine awp_reg ?_
        simp only [go_sem, R173_11, v173, p173, wrap_succ (i := i) (by omega)]
        refine ⟨a.floors.length - (i + 1), ?_, ?_⟩
        rotate_left
        rw [hJ]
        refine ⟨i + 1, d', _, _, _, _, _, _, _, rfl, ?_, rfl, rfl⟩
        · exact ⟨by omega, g0, g1, g2, hc, hd, hab⟩
        · omega
    · intro h4
      refine awp_exit ?_
      simp only [go_sem]
      have : i = a.floors.length := by omega
      subst this
      rw [List.take_length] at hd
      have c1 := hc.ne g1 (by omega)
      have d1 : ∀ o n, d = .sl o 2 0 n → 1 ≠ o := fun o n e => by have := hab o _ _ _ e; omega
      have fc := (hc.keep (ts := []) (y := .live ⟨2, [[c, d]]⟩) c1).frozen (rw_closed Item.c_closed _)
      have fd := (hd.keep (ts := []) (y := .live ⟨2, [[c, d]]⟩) d1).frozen (rw_closed Floor.c_closed _)
      have fin : Q .ret [y0, .fz 1 (rw_ intC ls), .ptr 0 2 0 0, .ptr 1 2 0 0, .ptr 2 2 0 0, y6, .int .i64 (a.floors.length : Nat), y13, y24, .bool (decide ((a.floors.length : Int) < a.floors.length)), y50] (σ.set 1 (.live ⟨2, [[c, d]]⟩) ++ []) := by
        rw [hQ]
        refine Ends.all (.inl rfl) (rs := [.agg [c, d]]) ?_ (.agg _ _ rfl (.cons fc (.cons fd .nil))) rfl
        simp only [go_sem, O173, v173, set_get g1, get_set_same g1]
      rcases hc.shape with rfl | ⟨oc, nc, rfl⟩ <;> rcases hd.shape with rfl | ⟨od, nd, rfl⟩
      all_goals
        refine awp_sr ?_
        simp only [go_sem, R173_12, v173, p173, get_app g2, g2, g1]
        refine awp_ret ?_
        try simp only [go_sem]
        simp only [List.append_nil] at fin
        exact fin
set_option maxHeartbeats 4000000 in
theorem implSlice_ok (a : State) (ls : List Int) (hR : a.Right) (hs : a.sz ≤ 1048576) (h3 : ls.length ≤ 1048576) : FS Try.prog 174 [] [.agg a.c, .fz 1 (rw_ intC ls)] (.agg (sliceS a ls).c) [] := by
  refine FS.of (X := X174) (ac := A174) (os := O174) Try.func174 (by rfl) (by rfl) (by kernel_rfl) o174 (Nat.le_of_ble_eq_true rfl) ?_
  show AWP X174 A174 (Ends X174.vs O174 0 _ _) [.agg a.c, .fz 1 (rw_ intC ls), .tup [], .tup [], .tup [], .tup [], .tup [], .tup [], .tup [], .tup [], .tup [], .tup [], .tup [], .tup [], .tup [], .tup [], .tup [], .tup []] []
  obtain ⟨Q, hQ⟩ : ∃ Q, Q = Ends X174.vs O174 0 (.agg (sliceS a ls).c) [] := ⟨_, rfl⟩
  rw [← hQ]
  have h1 : a.items.length ≤ 1048576 := by have := State.items_le a; omega
  have h2 : a.floors.length ≤ 1048576 := by have := State.floors_le a; omega
  refine awp_sr ?_
  simp only [go_sem, R174_0, v174, p174, State.c]
  refine awp_sr ?_
  simp only [go_sem, R174_1, v174, p174]
  refine awp_sr2 ?_
  simp only [go_sem, R174_2, v174, p174]
  refine run_see (implStateOk_ok a hs) false (Views.refl rfl) rfl (fun j hj => by first | omega | ((have hj0 : j = 0 := by omega); subst hj0; first | rfl | (simp only [Nat.add_zero, app_get, app_getk, sapp_get, sapp_getk, Nat.add_assoc, Nat.reduceAdd, List.getElem?_cons_zero, List.getElem?_cons_succ]; done) | simp)) (fun h => by cases h) ?_
  simp only [go_sem, v174, p174]
  refine awp_if' rfl (fun h => absurd hR h) ?_
  intro _
  refine awp_skip ?_
  simp only [go_sem]
  refine awp_sr2 ?_
  simp only [go_sem, R174_4, v174, p174, State.c]
  obtain ⟨I, hI⟩ : ∃ I : Nat → List V → Store → Prop, I = fun mM L σ => ∃ i c τ y0 y7 y9 y13 y19 y26 y35 y36 y37 y38 y45, a.items.length - i = mM ∧ (i ≤ a.items.length ∧ τ[0]? = some (.live ⟨2, [a.c]⟩) ∧ τ[1]? = some (.live ⟨2, [[.nl, .nl]]⟩) ∧ τ[2]? = some (.live ⟨2, [[c, .nl]]⟩) ∧ Own τ 6 c (rw_ Item.c ((a.items.take i).filter fun x => inLs ls x.id))) ∧ L = [y0, .fz 1 (rw_ intC ls), .ptr 0 2 0 0, .ptr 1 2 0 0, .ptr 2 2 0 0, y7, y9, y13, .fz 6 (rw_ Item.c a.items), .int .i64 (a.items.length : Nat), .int .i64 (i : Nat), y19, y26, y35, y36, y37, y38, y45] ∧ σ = τ := ⟨_, rfl⟩
  first | refine awp_for I (a.items.length) ?_ ?_ | refine awp_seq (awp_for I (a.items.length) ?_ ?_)
  · rw [hI]
    refine ⟨0, .nl, _, _, _, _, _, _, _, _, _, _, _, _, rfl, ?_, rfl, rfl⟩
    exact ⟨Nat.zero_le _, rfl, rfl, rfl, .inl ⟨rfl, rfl⟩⟩
  intro mM L σ hIn
  rw [hI] at hIn
  obtain ⟨i, c, τ, y0, y7, y9, y13, y19, y26, y35, y36, y37, y38, y45, rfl, hP, rfl, rfl⟩ := hIn
  obtain ⟨hi, g0, g1, g2, hc⟩ := hP
  refine awp_sr ?_
  simp only [go_sem, R174_5, v174, p174]
  refine awp_seq ?_
  refine awp_if rfl ?_ ?_
  · intro h4
    have h4 : i < a.items.length := by omega
    have e1 := filter_take (fun x => inLs ls x.id) h4
    have e2 := filter_take_le (fun x : Item => inLs ls x.id) a.items i
    refine awp_skip ?_
    simp only [go_sem]
    refine awp_seq (awp_block ?_)
    refine awp_sr ?_
    simp only [go_sem, R174_6, v174, p174, rw_at _ h4, Item.c]
    refine awp_sr ?_
    simp only [go_sem, R174_7, v174, p174]
    refine run_see (implLeafOf_ok _) false (Views.refl rfl) rfl (fun j hj => by first | omega | ((have hj0 : j = 0 := by omega); subst hj0; first | rfl | (simp only [Nat.add_zero, app_get, app_getk, sapp_get, sapp_getk, Nat.add_assoc, Nat.reduceAdd, List.getElem?_cons_zero, List.getElem?_cons_succ]; done) | simp)) (fun h => by cases h) ?_
    simp only [go_sem, v174, p174]
    refine run_see (contains_ok ls _ h3) false (Views.refl rfl) rfl (fun j hj => by first | omega | ((have hj0 : j = 0 := by omega); subst hj0; first | rfl | (simp only [Nat.add_zero, app_get, app_getk, sapp_get, sapp_getk, Nat.add_assoc, Nat.reduceAdd, List.getElem?_cons_zero, List.getElem?_cons_succ]; done) | simp)) (fun h => by cases h) ?_
    simp only [go_sem, v174, p174]
    obtain ⟨K3, hK3⟩ : ∃ K : List V → Store → Prop, K = fun L σ => ∃ τ' y0 y7 y9 y13 y19 y26 y35 y36 y37 y38 y45, L = [y0, .fz 1 (rw_ intC ls), .ptr 0 2 0 0, .ptr 1 2 0 0, .ptr 2 2 0 0, y7, y9, y13, .fz 6 (rw_ Item.c a.items), .int .i64 (a.items.length : Nat), .int .i64 (i : Nat), y19, y26, y35, y36, y37, y38, y45] ∧ σ = τ' ∧ ∃ c', τ'[0]? = some (.live ⟨2, [a.c]⟩) ∧ τ'[1]? = some (.live ⟨2, [[.nl, .nl]]⟩) ∧ τ'[2]? = some (.live ⟨2, [[c', .nl]]⟩) ∧ Own τ' 6 c' (rw_ Item.c ((a.items.take (i + 1)).filter fun x => inLs ls x.id)) := ⟨_, rfl⟩
    refine awp_K K3 ?_ ?_
    · refine awp_if rfl ?_ ?_
      · intro h5
        rw [if_pos (show inLs ls a.items[i].id = true from decide_eq_true h5)] at e1
        rcases hc with ⟨rfl, hn⟩ | ⟨o, n, rfl, hn, ho⟩
        · refine awp_reg ?_
          simp only [go_sem, R174_8, v174, p174, get_app g0, get_app g2, State.c, rw_at _ h4, Item.c, set_app g2]
          try refine ⟨get_lt g2, ?_⟩
          have hn : (a.items.take i).filter (fun x => inLs ls x.id) = [] := by simpa [rw_] using hn
          rw [hn, List.nil_append] at e1
          rw [e1] at hK3
          rw [hK3]
          refine ⟨_, _, _, _, _, _, _, _, _, _, _, _, rfl, rfl, ?_⟩
          exact ⟨_, keep_get g0 (by omega), keep_get g1 (by omega), set_get g2 _, .inr ⟨σ.length + 2, 1, rfl, rfl, by rw [sapp_getk]; rfl⟩⟩
        · rw [rw_len] at hn
          subst hn
          have n0 : o ≠ 0 := get_ne g0 ho (slot_ne (by omega))
          have n1 : o ≠ 1 := get_ne g1 ho (slot_ne (by omega))
          have n2 : o ≠ 2 := get_ne g2 ho (slot_ne (by omega))
          refine awp_reg ?_
          simp only [go_sem, R174_8, v174, p174, get_app g0, get_app g2, State.c, rw_at _ h4, Item.c, get_app ho, set_app ho]
          refine ⟨by omega, ?_⟩
          simp only [go_sem, v174, p174, item_fold, item_sing, keep_get g2 n2, set_app (keep_set g2 n2)]
          rw [← e1]
          rw [hK3]
          refine ⟨_, _, _, _, _, _, _, _, _, _, _, _, rfl, rfl, ?_⟩
          refine ⟨_, keep2_get g0 n0 (by omega), keep2_get g1 n1 (by omega), set2_get g2 n2 _, .inr ⟨σ.length + 2, _, rfl, ?_, by rw [sapp2_getk]; rfl⟩⟩
          rw [rw_len, e1]
          simp
      · intro h5
        rw [if_neg (show ¬ inLs ls a.items[i].id = true by unfold inLs; simpa using h5)] at e1
        refine awp_skip ?_
        simp only [go_sem]
        rw [← e1] at hc
        rw [hK3]
        refine ⟨_, _, _, _, _, _, _, _, _, _, _, _, rfl, rfl, ?_⟩
        exact ⟨c, get_app g0, get_app g1, get_app g2, hc.app⟩
    · intro L σ hq
      rw [hK3] at hq
      obtain ⟨τ', y0, y7, y9, y13, y19, y26, y35, y36, y37, y38, y45, rfl, rfl, hq⟩ := hq
      obtain ⟨c', g0, g1, g2, hc⟩ := hq
      simp only [go_sem, v174, p174]
      refine awp_reg ?_
      simp only [go_sem, R174_9, v174, p174, wrap_succ (i := i) (by omega)]
      refine ⟨a.items.length - (i + 1), ?_, ?_⟩
      rotate_left
      rw [hI]
      refine ⟨i + 1, c', _, _, _, _, _, _, _, _, _, _, _, _, rfl, ?_, rfl, rfl⟩
      · exact ⟨by omega, g0, g1, g2, hc⟩
      · omega
  · intro h4
    refine awp_exit ?_
    simp only [go_sem]
    have : i = a.items.length := by omega
    subst this
    rw [List.take_length] at hc
    clear hI
    refine awp_sr2 ?_
    simp only [go_sem, R174_10, v174, p174, get_app g0, g0, State.c]
    obtain ⟨J, hJ⟩ : ∃ J : Nat → List V → Store → Prop, J = fun mM L σ => ∃ i d τ y0 y7 y9 y13 y16 y17 y18 y19 y26 y38 y45, a.floors.length - i = mM ∧ (i ≤ a.floors.length ∧ τ[0]? = some (.live ⟨2, [a.c]⟩) ∧ τ[1]? = some (.live ⟨2, [[.nl, .nl]]⟩) ∧ τ[2]? = some (.live ⟨2, [[c, d]]⟩) ∧ Own τ 6 c (rw_ Item.c (a.items.filter fun x => inLs ls x.id)) ∧ Own τ 2 d (rw_ Floor.c ((a.floors.take i).filter fun x => inLs ls x.id)) ∧ Above 2 d) ∧ L = [y0, .fz 1 (rw_ intC ls), .ptr 0 2 0 0, .ptr 1 2 0 0, .ptr 2 2 0 0, y7, y9, y13, y16, y17, y18, y19, y26, .fz 2 (rw_ Floor.c a.floors), .int .i64 (a.floors.length : Nat), .int .i64 (i : Nat), y38, y45] ∧ σ = τ := ⟨_, rfl⟩
    first | refine awp_for J (a.floors.length) ?_ ?_ | refine awp_seq (awp_for J (a.floors.length) ?_ ?_)
    · rw [hJ]
      refine ⟨0, .nl, _, _, _, _, _, _, _, _, _, _, _, _, rfl, ?_, rfl, rfl⟩
      exact ⟨Nat.zero_le _, g0, g1, g2, hc, .inl ⟨rfl, rfl⟩, .nl 2⟩
    intro mM L σ hIn
    rw [hJ] at hIn
    obtain ⟨i, d, τ, y0, y7, y9, y13, y16, y17, y18, y19, y26, y38, y45, rfl, hP, rfl, rfl⟩ := hIn
    obtain ⟨hi, g0, g1, g2, hc, hd, hab⟩ := hP
    have c2 := hc.ne g2 (by omega)
    refine awp_sr ?_
    simp only [go_sem, R174_11, v174, p174]
    refine awp_seq ?_
    refine awp_if rfl ?_ ?_
    · intro h4
      have h4 : i < a.floors.length := by omega
      have e1 := filter_take (fun x => inLs ls x.id) h4
      have e2 := filter_take_le (fun x : Floor => inLs ls x.id) a.floors i
      refine awp_skip ?_
      simp only [go_sem]
      refine awp_seq (awp_block ?_)
      refine awp_sr ?_
      simp only [go_sem, R174_12, v174, p174, rw_at _ h4, Floor.c]
      refine awp_sr ?_
      simp only [go_sem, R174_13, v174, p174]
      refine run_see (implLeafOf_ok _) false (Views.refl rfl) rfl (fun j hj => by first | omega | ((have hj0 : j = 0 := by omega); subst hj0; first | rfl | (simp only [Nat.add_zero, app_get, app_getk, sapp_get, sapp_getk, Nat.add_assoc, Nat.reduceAdd, List.getElem?_cons_zero, List.getElem?_cons_succ]; done) | simp)) (fun h => by cases h) ?_
      simp only [go_sem, v174, p174]
      refine run_see (contains_ok ls _ h3) false (Views.refl rfl) rfl (fun j hj => by first | omega | ((have hj0 : j = 0 := by omega); subst hj0; first | rfl | (simp only [Nat.add_zero, app_get, app_getk, sapp_get, sapp_getk, Nat.add_assoc, Nat.reduceAdd, List.getElem?_cons_zero, List.getElem?_cons_succ]; done) | simp)) (fun h => by cases h) ?_
      simp only [go_sem, v174, p174]
      obtain ⟨K4, hK4⟩ : ∃ K : List V → Store → Prop, K = fun L σ => ∃ τ' y0 y7 y9 y13 y16 y17 y18 y19 y26 y38 y45, L = [y0, .fz 1 (rw_ intC ls), .ptr 0 2 0 0, .ptr 1 2 0 0, .ptr 2 2 0 0, y7, y9, y13, y16, y17, y18, y19, y26, .fz 2 (rw_ Floor.c a.floors), .int .i64 (a.floors.length : Nat), .int .i64 (i : Nat), y38, y45] ∧ σ = τ' ∧ ∃ d', τ'[0]? = some (.live ⟨2, [a.c]⟩) ∧ τ'[1]? = some (.live ⟨2, [[.nl, .nl]]⟩) ∧ τ'[2]? = some (.live ⟨2, [[c, d']]⟩) ∧ Own τ' 6 c (rw_ Item.c (a.items.filter fun x => inLs ls x.id)) ∧ Own τ' 2 d' (rw_ Floor.c ((a.floors.take (i + 1)).filter fun x => inLs ls x.id)) ∧ Above 2 d' := ⟨_, rfl⟩
      refine awp_K K4 ?_ ?_
      · refine awp_if rfl ?_ ?_
        · intro h5
          rw [if_pos (show inLs ls a.floors[i].id = true from decide_eq_true h5)] at e1
          rcases hd with ⟨rfl, hn⟩ | ⟨o, n, rfl, hn, ho⟩
          · refine awp_reg ?_
            simp only [go_sem, R174_14, v174, p174, get_app g0, get_app g2, State.c, rw_at _ h4, Floor.c, set_app g2]
            try refine ⟨get_lt g2, ?_⟩
            have hn : (a.floors.take i).filter (fun x => inLs ls x.id) = [] := by simpa [rw_] using hn
            rw [hn, List.nil_append] at e1
            rw [e1] at hK4
            rw [hK4]
            refine ⟨_, _, _, _, _, _, _, _, _, _, _, _, rfl, rfl, ?_⟩
            have := get_lt g2
            exact ⟨_, keep_get g0 (by omega), keep_get g1 (by omega), set_get g2 _, hc.keep c2, .inr ⟨σ.length + 2, 1, rfl, rfl, by rw [sapp_getk]; rfl⟩, .sl (by omega)⟩
          · rw [rw_len] at hn
            subst hn
            have ab := hab o _ _ _ rfl
            have n0 : o ≠ 0 := by omega
            have n1 : o ≠ 1 := by omega
            have n2 : o ≠ 2 := by omega
            have co := hc.ne ho (by omega)
            refine awp_reg ?_
            simp only [go_sem, R174_14, v174, p174, get_app g0, get_app g2, State.c, rw_at _ h4, Floor.c, get_app ho, set_app ho]
            refine ⟨by omega, ?_⟩
            simp only [go_sem, v174, p174, floor_fold, floor_sing, keep_get g2 n2, set_app (keep_set g2 n2)]
            rw [← e1]
            rw [hK4]
            refine ⟨_, _, _, _, _, _, _, _, _, _, _, _, rfl, rfl, ?_⟩
            have := get_lt g2
            refine ⟨_, keep2_get g0 n0 (by omega), keep2_get g1 n1 (by omega), set2_get g2 n2 _, hc.keep2 c2 co, .inr ⟨σ.length + 2, _, rfl, ?_, by rw [sapp2_getk]; rfl⟩, .sl (by omega)⟩
            rw [rw_len, e1]
            simp
        · intro h5
          rw [if_neg (show ¬ inLs ls a.floors[i].id = true by unfold inLs; simpa using h5)] at e1
          refine awp_skip ?_
          simp only [go_sem]
          rw [← e1] at hd
          rw [hK4]
          refine ⟨_, _, _, _, _, _, _, _, _, _, _, _, rfl, rfl, ?_⟩
          exact ⟨d, get_app g0, get_app g1, get_app g2, hc.app, hd.app, hab⟩
      · intro L σ hq
        rw [hK4] at hq
        obtain ⟨τ', y0, y7, y9, y13, y16, y17, y18, y19, y26, y38, y45, rfl, rfl, hq⟩ := hq
        obtain ⟨d', g0, g1, g2, hc, hd, hab⟩ := hq
        simp only [go_sem, v174, p174]
        refine awp_reg ?_
        simp only [go_sem, R174_15, v174, p174, wrap_succ (i := i) (by omega)]
        refine ⟨a.floors.length - (i + 1), ?_, ?_⟩
        rotate_left
        rw [hJ]
        refine ⟨i + 1, d', _, _, _, _, _, _, _, _, _, _, _, _, rfl, ?_, rfl, rfl⟩
        · exact ⟨by omega, g0, g1, g2, hc, hd, hab⟩
        · omega
    · intro h4
      refine awp_exit ?_
      simp only [go_sem]
      have : i = a.floors.length := by omega
      subst this
      rw [List.take_length] at hd
      have c1 := hc.ne g1 (by omega)
      have d1 : ∀ o n, d = .sl o 2 0 n → 1 ≠ o := fun o n e => by have := hab o _ _ _ e; omega
      have fc := (hc.keep (ts := []) (y := .live ⟨2, [[c, d]]⟩) c1).frozen (rw_closed Item.c_closed _)
      have fd := (hd.keep (ts := []) (y := .live ⟨2, [[c, d]]⟩) d1).frozen (rw_closed Floor.c_closed _)
      have fin : ∀ L, look X174.vs L 4 = .ptr 1 2 0 0 → Q .ret L (σ.set 1 (.live ⟨2, [[c, d]]⟩) ++ []) := by
        intro L hL
        rw [hQ]
        refine Ends.all (.inl rfl) (rs := [.agg [c, d]]) ?_ (.agg _ _ rfl (.cons fc (.cons fd .nil))) rfl
        simp only [go_sem, O174, hL, set_get g1, get_set_same g1]
      rcases hc.shape with rfl | ⟨oc, nc, rfl⟩ <;> rcases hd.shape with rfl | ⟨od, nd, rfl⟩
      all_goals
        refine awp_sr ?_
        simp only [go_sem, R174_16, v174, p174, get_app g2, g2, g1]
        refine awp_ret ?_
        try simp only [go_sem]
        simp only [List.append_nil] at fin
        exact fin _ rfl
end Go.Proofs.Ytffigokicddekaa.Abs
/- A state's tree, walked in both texts. No condition. -/
set_option linter.unusedVariables false
set_option linter.unusedSimpArgs false
set_option maxRecDepth 10000
namespace Go.Proofs.Ytffigokicddekaa.Abs
open Go Go.Proofs
/-! in rising order: place by place, and pair by pair -/
def Rises {α : Type} (f : α → Int) (xs : List α) : Prop := ∀ (i : Nat) x y, 0 < i → xs[i]? = some x → xs[i - 1]? = some y → f y < f x
theorem rises_pairs {α : Type} {f : α → Int} {xs : List α} (h : Rises f xs) : xs.Pairwise fun a b => f a < f b := by
  rw [List.pairwise_iff_getElem]
  intro i j hi hj hij
  induction j with
  | zero => omega
  | succ j ih =>
    have h1 := h (j + 1) xs[j + 1] xs[j] (by omega) (List.getElem?_eq_getElem hj) (List.getElem?_eq_getElem (by omega))
    rcases Nat.lt_or_ge i j with h2 | h2
    · have := ih (by omega) h2
      omega
    · have : i = j := by omega
      subst this
      exact h1
theorem pairs_rises {α : Type} {f : α → Int} {xs : List α} (h : xs.Pairwise fun a b => f a < f b) : Rises f xs := by
  rw [List.pairwise_iff_getElem] at h
  intro i x y h0 hx hy
  obtain ⟨h1, rfl⟩ := List.getElem?_eq_some_iff.1 hx
  obtain ⟨h2, rfl⟩ := List.getElem?_eq_some_iff.1 hy
  exact h (i - 1) i h2 h1 (by omega)
/-- a right state, said of its parts -/
def State.Sound (s : State) : Prop := (s.items.Pairwise fun a b => a.id < b.id) ∧ (∀ x ∈ s.items, (0 ≤ x.id ∧ x.id ≤ 4) ∧ x.entry.Right ∧ floorOf s x.id < x.entry.inc) ∧
  (s.floors.Pairwise fun a b => a.id < b.id) ∧ ∀ x ∈ s.floors, (0 ≤ x.id ∧ x.id ≤ 4) ∧ (1 ≤ x.inc ∧ x.inc ≤ 1000)
theorem right_sound (s : State) : s.Right ↔ s.Sound := by
  constructor
  · rintro ⟨h1, h2⟩
    refine ⟨rises_pairs fun i x y h0 hx hy => (h1 i x hx).2.1 y h0 hy, fun x hx => ?_, rises_pairs fun i x y h0 hx hy => (h2 i x hx).2.1 y h0 hy, fun x hx => ?_⟩
    · obtain ⟨i, hi⟩ := List.mem_iff_getElem?.1 hx
      obtain ⟨a, _, b, c⟩ := h1 i x hi
      exact ⟨a, b, c⟩
    · obtain ⟨i, hi⟩ := List.mem_iff_getElem?.1 hx
      obtain ⟨a, _, b⟩ := h2 i x hi
      exact ⟨a, b⟩
  · rintro ⟨h1, h2, h3, h4⟩
    refine ⟨fun i x hx => ?_, fun i x hx => ?_⟩
    · obtain ⟨a, b, c⟩ := h2 x (List.mem_of_getElem? hx)
      exact ⟨a, fun y h0 hy => pairs_rises h1 i x y h0 hx hy, b, c⟩
    · obtain ⟨a, b⟩ := h4 x (List.mem_of_getElem? hx)
      exact ⟨a, fun y h0 hy => pairs_rises h3 i x y h0 hx hy, b⟩
theorem floorL_filter {ls : List Int} {id : Int} (h : inLs ls id = true) : ∀ fs : List Floor, floorL (fs.filter fun x => inLs ls x.id) id = floorL fs id
  | [] => rfl
  | f :: fs => by
    by_cases h1 : f.id = id
    · subst h1
      rw [List.filter_cons_of_pos (p := fun x : Floor => inLs ls x.id) h]
      simp only [floorL, if_true]
    · by_cases h2 : inLs ls f.id = true
      · rw [List.filter_cons_of_pos (p := fun x : Floor => inLs ls x.id) h2]
        simp only [floorL, if_neg h1]
        exact floorL_filter h fs
      · rw [List.filter_cons_of_neg (p := fun x : Floor => inLs ls x.id) h2]
        simp only [floorL, if_neg h1]
        exact floorL_filter h fs
theorem slice_right {s : State} (h : s.Right) (ls : List Int) : (sliceS s ls).Right := by
  rw [right_sound] at h ⊢
  obtain ⟨h1, h2, h3, h4⟩ := h
  refine ⟨h1.filter _, fun x hx => ?_, h3.filter _, fun x hx => ?_⟩
  · obtain ⟨hm, hp⟩ := List.mem_filter.1 hx
    obtain ⟨a, b, c⟩ := h2 x hm
    refine ⟨a, b, ?_⟩
    show floorL (s.floors.filter fun x => inLs ls x.id) x.id < _
    rw [floorL_filter hp]
    exact c
  · exact h4 x (List.mem_filter.1 hx).1
theorem sum_filter {α : Type} (f : α → Nat) (p : α → Bool) : ∀ xs : List α, sumBy f (xs.filter p) ≤ sumBy f xs
  | [] => Nat.le_refl _
  | x :: xs => by
    have := sum_filter f p xs
    unfold sumBy at *
    by_cases h : p x = true
    · rw [List.filter_cons_of_pos h]; simp only [List.map_cons, List.sum_cons]; omega
    · rw [List.filter_cons_of_neg h]; simp only [List.map_cons, List.sum_cons]; omega
theorem slice_sz (s : State) (ls : List Int) : (sliceS s ls).sz ≤ s.sz := by
  have h1 := List.length_filter_le (fun x : Item => inLs ls x.id) s.items
  have h2 := List.length_filter_le (fun x : Floor => inLs ls x.id) s.floors
  have h3 := sum_filter Item.sz (fun x : Item => inLs ls x.id) s.items
  unfold State.sz szS sliceS
  dsimp only
  omega
def R161_0 : List AR := [⟨(some 2), none, 0, (.box 0 2 (.t 0))⟩, ⟨(some 4), none, 0, (.mov (.k (.int .i64 0)))⟩]
def R161_1 : List AR := [⟨(some 5), none, 0, (.load 2 true (.t 2))⟩, ⟨(some 6), none, 0, (.call false 0 0 55 [(.t 5)])⟩, ⟨(some 7), none, 0, (.not (.t 6))⟩, ⟨(some 8), none, 0, (.mov (.t 7))⟩, ⟨(some 9), (some (8, false)), 0, (.mov (.t 1))⟩, ⟨(some 10), (some (8, false)), 0, (.call false 0 0 101 [(.t 9), (.k (.int .i64 0)), (.k (.int .i64 3))])⟩, ⟨(some 11), (some (8, false)), 0, (.not (.t 10))⟩, ⟨(some 12), none, 0, (.pick (.t 8) (.k (.bool true)) (.t 11))⟩]
def R161_2 : List AR := [⟨(some 4), none, 0, (.mov (.k (.int .i64 0)))⟩]
def R161_3 : List AR := [⟨(some 13), none, 0, (.load 2 true (.t 2))⟩, ⟨(some 14), none, 0, (.mov (.t 1))⟩, ⟨(some 15), none, 0, (.bslice 0 1 1 [(.int .i64 0)] [(0, (.t 14))])⟩, ⟨(some 16), none, 0, (.call false 1 0 173 [(.t 13), (.t 15)])⟩, ⟨(some 17), none, 0, (.call false 1 0 128 [(.t 16)])⟩, ⟨(some 18), none, 0, (.call false 1 0 156 [(.t 17)])⟩, ⟨(some 19), none, 0, (.bin .rem (.t 18) (.k (.int .i64 1024)))⟩, ⟨(some 4), none, 0, (.mov (.t 19))⟩]
def A161_0 : AC := (.seq (.reg 1 R161_3) .ret)
def A161_1 : AC := (.seq (.seq (.reg 0 R161_1) (.cond (.t 12) (.seq (.reg 0 R161_2) .ret) .skip)) A161_0)
def A161 : AC := (.seq (.reg 1 R161_0) A161_1)
def O161 : List AO := [(.mov (.t 4))]
def G161 : Fns := ⟨fun f => false, fun f => 0, false⟩
noncomputable def X161 : Cx := ⟨Try.prog, G161, drawD, 20, [0, 1, 2, 4, 12]⟩
theorem c161 : (Try.f161.body).bind (compC X161.P X161.Γ X161.D X161.nt) = some A161 := by kernel_rfl
theorem o161 : compRes X161.P Try.f161.results.toList = some O161 := by kernel_rfl
theorem v161 : X161.vs = [0, 1, 2, 4, 12] := rfl
theorem p161 : X161.P = Try.prog := rfl
def R165_0 : List AR := [⟨(some 2), none, 0, (.box 0 2 (.t 0))⟩, ⟨(some 4), none, 0, (.mov (.k (.int .i64 0)))⟩]
def R165_1 : List AR := [⟨(some 5), none, 0, (.load 2 true (.t 2))⟩, ⟨(some 6), none, 0, (.call false 0 0 59 [(.t 5)])⟩, ⟨(some 7), none, 0, (.not (.t 6))⟩, ⟨(some 8), none, 0, (.mov (.t 7))⟩, ⟨(some 9), (some (8, false)), 0, (.mov (.t 1))⟩, ⟨(some 10), (some (8, false)), 0, (.call false 0 0 105 [(.t 9), (.k (.int .i64 0)), (.k (.int .i64 3))])⟩, ⟨(some 11), (some (8, false)), 0, (.not (.t 10))⟩, ⟨(some 12), none, 0, (.pick (.t 8) (.k (.bool true)) (.t 11))⟩]
def R165_2 : List AR := [⟨(some 4), none, 0, (.mov (.k (.int .i64 0)))⟩]
def R165_3 : List AR := [⟨(some 13), none, 0, (.load 2 true (.t 2))⟩, ⟨(some 14), none, 0, (.mov (.t 1))⟩, ⟨(some 15), none, 0, (.bslice 0 1 1 [(.int .i64 0)] [(0, (.t 14))])⟩, ⟨(some 16), none, 0, (.call false 1 0 174 [(.t 13), (.t 15)])⟩, ⟨(some 17), none, 0, (.call false 1 0 86 [(.t 16)])⟩, ⟨(some 18), none, 0, (.call false 1 0 159 [(.t 17)])⟩, ⟨(some 19), none, 0, (.bin .rem (.t 18) (.k (.int .i64 1024)))⟩, ⟨(some 4), none, 0, (.mov (.t 19))⟩]
def A165_0 : AC := (.seq (.reg 1 R165_3) .ret)
def A165_1 : AC := (.seq (.seq (.reg 0 R165_1) (.cond (.t 12) (.seq (.reg 0 R165_2) .ret) .skip)) A165_0)
def A165 : AC := (.seq (.reg 1 R165_0) A165_1)
def O165 : List AO := [(.mov (.t 4))]
def G165 : Fns := ⟨fun f => false, fun f => 0, false⟩
noncomputable def X165 : Cx := ⟨Try.prog, G165, drawD, 20, [0, 1, 2, 4, 12]⟩
theorem c165 : (Try.f165.body).bind (compC X165.P X165.Γ X165.D X165.nt) = some A165 := by kernel_rfl
theorem o165 : compRes X165.P Try.f165.results.toList = some O165 := by kernel_rfl
theorem v165 : X165.vs = [0, 1, 2, 4, 12] := rfl
theorem p165 : X165.P = Try.prog := rfl
def R162_0 : List AR := [⟨(some 2), none, 0, (.mov (.k (.int .i64 0)))⟩]
def R162_1 : List AR := [⟨(some 5), none, 0, (.bslice 0 1 0 [(.int .u8 0)] [])⟩, ⟨(some 3), none, 0, (.mov (.t 5))⟩]
def R162_2 : List AR := [⟨(some 4), none, 0, (.mov (.k (.int .i64 0)))⟩]
def R162_3 : List AR := [⟨(some 6), none, 0, (.mov (.t 4))⟩, ⟨(some 7), none, 0, (.mov (.t 0))⟩, ⟨(some 8), none, 0, (.len (.t 7))⟩, ⟨(some 9), none, 0, (.bin .lss (.t 6) (.t 8))⟩]
def R162_4 : List AR := [⟨(some 12), none, 0, (.mov (.t 3))⟩, ⟨(some 13), none, 0, (.mov (.t 0))⟩, ⟨(some 14), none, 0, (.mov (.t 4))⟩, ⟨(some 15), none, 0, (.iaddr 1 (.t 13) (.t 14))⟩, ⟨(some 16), none, 0, (.load 1 false (.t 15))⟩, ⟨(some 17), none, 0, (.call false 0 0 154 [(.t 16)])⟩, ⟨(some 18), none, 0, (.app 0 1 1 (.t 12) (.t 17))⟩, ⟨(some 3), none, 0, (.mov (.t 18))⟩]
def R162_5 : List AR := [⟨(some 10), none, 0, (.mov (.t 4))⟩, ⟨(some 11), none, 0, (.bin .add (.t 10) (.k (.int .i64 1)))⟩, ⟨(some 4), none, 0, (.mov (.t 11))⟩]
def A162_0 : AC := (.seq (.block 1 (.reg 1 R162_4)) (.reg 0 R162_5))
def L162_0 : AC := (.seq (.seq (.reg 0 R162_3) (.cond (.t 9) .skip (.exit 0))) A162_0)
def R162_6 : List AR := [⟨(some 19), none, 0, (.mov (.t 3))⟩, ⟨(some 20), none, 0, (.call false 0 0 156 [(.t 19)])⟩, ⟨(some 21), none, 0, (.bin .rem (.t 20) (.k (.int .i64 1024)))⟩, ⟨(some 2), none, 0, (.mov (.t 21))⟩]
def A162_1 : AC := (.seq (.reg 0 R162_6) .ret)
def A162_2 : AC := (.seq (.seq (.reg 0 R162_2) (.block 0 (.loop L162_0))) A162_1)
def A162_3 : AC := (.seq (.reg 1 R162_1) A162_2)
def A162 : AC := (.seq (.reg 0 R162_0) A162_3)
def O162 : List AO := [(.mov (.t 2))]
def G162 : Fns := ⟨fun f => false, fun f => 0, false⟩
noncomputable def X162 : Cx := ⟨Try.prog, G162, drawD, 22, [0, 2, 3, 4, 9]⟩
theorem c162 : (Try.f162.body).bind (compC X162.P X162.Γ X162.D X162.nt) = some A162 := by kernel_rfl
theorem o162 : compRes X162.P Try.f162.results.toList = some O162 := by kernel_rfl
theorem v162 : X162.vs = [0, 2, 3, 4, 9] := rfl
theorem p162 : X162.P = Try.prog := rfl
def R166_0 : List AR := [⟨(some 2), none, 0, (.mov (.k (.int .i64 0)))⟩]
def R166_1 : List AR := [⟨(some 6), none, 0, (.bslice 0 1 0 [(.int .u8 0)] [])⟩, ⟨(some 3), none, 0, (.mov (.t 6))⟩]
def R166_2 : List AR := [⟨(some 7), none, 0, (.mov (.t 0))⟩, ⟨(some 8), none, 0, (.len (.t 7))⟩, ⟨(some 9), none, 0, (.mov (.k (.int .i64 0)))⟩]
def R166_3 : List AR := [⟨(some 10), none, 0, (.bin .lss (.t 9) (.t 8))⟩]
def R166_4 : List AR := [⟨(some 11), none, 0, (.iaddr 1 (.t 7) (.t 9))⟩, ⟨(some 12), none, 0, (.load 1 false (.t 11))⟩, ⟨(some 5), none, 0, (.mov (.t 12))⟩]
def R166_5 : List AR := [⟨(some 13), none, 0, (.mov (.t 3))⟩, ⟨(some 14), none, 0, (.mov (.t 5))⟩, ⟨(some 15), none, 0, (.call false 0 0 118 [(.t 14)])⟩, ⟨(some 16), none, 0, (.bslice 0 1 2 [.nl] [(0, (.t 13)), (1, (.t 15))])⟩, ⟨(some 17), none, 0, (.call false 1 1 117 [(.t 16)])⟩, ⟨(some 3), none, 0, (.mov (.t 17))⟩]
def R166_6 : List AR := [⟨(some 18), none, 0, (.bin .add (.t 9) (.k (.int .i64 1)))⟩, ⟨(some 9), none, 0, (.mov (.t 18))⟩]
def A166_0 : AC := (.seq (.block 1 (.seq (.reg 0 R166_4) (.reg 2 R166_5))) (.reg 0 R166_6))
def A166_1 : AC := (.seq (.cond (.t 10) .skip (.exit 0)) A166_0)
def L166_0 : AC := (.seq (.reg 0 R166_3) A166_1)
def R166_7 : List AR := [⟨(some 19), none, 0, (.mov (.t 3))⟩, ⟨(some 20), none, 0, (.call false 0 0 159 [(.t 19)])⟩, ⟨(some 21), none, 0, (.bin .rem (.t 20) (.k (.int .i64 1024)))⟩, ⟨(some 2), none, 0, (.mov (.t 21))⟩]
def A166_2 : AC := (.seq (.reg 0 R166_7) .ret)
def A166_3 : AC := (.seq (.seq (.reg 0 R166_2) (.block 0 (.loop L166_0))) A166_2)
def A166_4 : AC := (.seq (.reg 1 R166_1) A166_3)
def A166 : AC := (.seq (.reg 0 R166_0) A166_4)
def O166 : List AO := [(.mov (.t 2))]
def G166 : Fns := ⟨fun f => false, fun f => if f = 117 then 1 else 0, false⟩
noncomputable def X166 : Cx := ⟨Try.prog, G166, drawD, 22, [0, 2, 3, 5, 7, 8, 9, 10]⟩
theorem c166 : (Try.f166.body).bind (compC X166.P X166.Γ X166.D X166.nt) = some A166 := by kernel_rfl
theorem o166 : compRes X166.P Try.f166.results.toList = some O166 := by kernel_rfl
theorem v166 : X166.vs = [0, 2, 3, 5, 7, 8, 9, 10] := rfl
theorem p166 : X166.P = Try.prog := rfl
noncomputable def leafSum (s : State) (k : Int) : Int := if s.Right ∧ 0 ≤ k ∧ k ≤ 3 then ((crc (stateB (sliceS s [k])) % 1024 : Nat) : Int) else 0
noncomputable instance (s : State) (k : Int) : Decidable (s.Right ∧ 0 ≤ k ∧ k ≤ 3) := Classical.propDecidable _
theorem leafSum_fit (s : State) (k : Int) : 0 ≤ leafSum s k ∧ leafSum s k ≤ 1023 := by
  unfold leafSum
  split <;> omega
theorem stateB_len1 {s : State} (h : s.Fit) : (stateB s).length ≤ 100000000 := by
  obtain ⟨hf1, hf2, hl1, hl2⟩ := h
  have h5 := putNum_5 (n := s.items.length) (by omega)
  have h6 := putNum_5 (n := s.floors.length) (by omega)
  have hb1 := cat_len itemB (xs := s.items) fun x hx => itemB_len (hf1 x hx)
  have hb2 := cat_len floorB (xs := s.floors) fun x hx => floorB_len (hf2 x hx)
  unfold stateB
  simp only [List.length_append]
  omega
theorem specLeafSum_ok (s : State) (k : Int) (h : s.sz ≤ 1048576) : FS Try.prog 161 [] [.agg s.c, .int .i64 k] (.int .i64 (leafSum s k)) [] := by
  refine FS.of (X := X161) (ac := A161) (os := O161) Try.func161 (by rfl) (by rfl) (by kernel_rfl) o161 (Nat.le_of_ble_eq_true rfl) ?_
  show AWP X161 A161 (Ends X161.vs O161 0 _ _) [.agg s.c, .int .i64 k, .tup [], .tup [], .tup []] []
  obtain ⟨Q, hQ⟩ : ∃ Q, Q = Ends X161.vs O161 0 (.int .i64 (leafSum s k)) [] := ⟨_, rfl⟩
  rw [← hQ]
  have fin : ∀ L σ vV, resVs O161 (look X161.vs L) σ = some [vV] → vV = (.int .i64 (leafSum s k)) → Q .ret L σ := by
    intro L σ vV h1 h2
    rw [hQ]
    exact Ends.is (.inl rfl) h1 (by simp only [packV, h2]) rfl
  refine awp_sr ?_
  simp only [go_sem, R161_0, v161, p161, State.c]
  obtain ⟨K1, hK1⟩ : ∃ K : List V → Store → Prop, K = fun L σ => ∃ q y0 y4, L = [y0, .int .i64 k, .ptr 0 2 0 0, y4, .bool q] ∧ σ = [.live ⟨2, [s.c]⟩] ∧ q = !decide (s.Right ∧ 0 ≤ k ∧ k ≤ 3) := ⟨_, rfl⟩
  refine awp_sr2K (K1) ?_ ?_
  · simp only [go_sem, R161_1, v161, p161]
    repeat' first
      | (refine selP_if rfl (fun hG => ?_) (fun hG => ?_) <;> first | simp only [go_sem, v161, p161, eq_false hG, State.c] | simp only [go_sem, v161, p161, eq_true hG, State.c])
      | (refine selP_ifn rfl (fun hG => ?_) (fun hG => ?_) <;> first | simp only [go_sem, v161, p161, eq_false hG, State.c] | simp only [go_sem, v161, p161, eq_true hG, State.c])
      | (refine selN_if rfl (fun hG => ?_) (fun hG => ?_) <;> first | simp only [go_sem, v161, p161, eq_false hG, State.c] | simp only [go_sem, v161, p161, eq_true hG, State.c])
      | (refine selN_ifn rfl (fun hG => ?_) (fun hG => ?_) <;> first | simp only [go_sem, v161, p161, eq_false hG, State.c] | simp only [go_sem, v161, p161, eq_true hG, State.c])
      | (refine selB_if rfl (fun hG => ?_) (fun hG => ?_) <;> simp only [go_sem, v161, p161, hG, State.c])
      | (refine selB_ifn rfl (fun hG => ?_) (fun hG => ?_) <;> simp only [go_sem, v161, p161, hG, State.c])
      | (refine run_see (specStateOk_ok s h) false (Views.refl rfl) rfl (fun j hj => by omega) (fun h => by cases h) ?_; simp only [go_sem, v161, p161, State.c])
      | (refine run_see (l1In_ok _ _ _) false (Views.refl rfl) rfl (fun j hj => by omega) (fun h => by cases h) ?_; simp only [go_sem, v161, p161, State.c])
    all_goals rw [hK1]
    all_goals refine ⟨_, _, _, rfl, rfl, ?_⟩
    all_goals grind
  intro L σ hq
  rw [hK1] at hq
  obtain ⟨q, y0, y4, rfl, rfl, hq⟩ := hq
  subst hq
  refine awp_if' rfl ?_ ?_
  · intro h1
    refine awp_sr ?_
    simp only [go_sem, R161_2, v161, p161]
    refine awp_ret ?_
    try simp only [go_sem]
    exact fin _ _ (.int .i64 0) rfl (congrArg (V.int .i64) (if_neg h1).symm)
  intro h1
  refine awp_skip ?_
  simp only [go_sem]
  have hr := slice_right h1.1 [k]
  have hz := Nat.le_trans (slice_sz s [k]) h
  have hl := stateB_len1 (hr.fit hz)
  refine awp_srX (runX_split 3 ?_)
  simp only [go_sem, R161_3, v161, p161, State.c, List.take_succ_cons, List.take_zero, List.drop_succ_cons, List.drop_zero]
  refine runX_freeze (o := 1) (ob := ⟨1, [[.int .i64 k]]⟩) rfl (rw_closed (c := intC) intC_closed [k]) ?_
  simp only [go_sem, v161, p161, frz_ptr _ _ _ _ _ (show (0 : Nat) ≠ 1 by omega)]
  refine run_see (specL6Slice_ok s [k] (by have := State.items_le s; omega) (by have := State.floors_le s; omega) (by simp)) false (Views.refl rfl) rfl (fun j hj => by first | omega | ((have hj0 : j = 0 := by omega); subst hj0; first | rfl | (simp only [Nat.add_zero, app_get, app_getk, sapp_get, sapp_getk, Nat.add_assoc, Nat.reduceAdd, List.getElem?_cons_zero, List.getElem?_cons_succ]; done) | simp)) (fun h => by cases h) ?_
  simp only [go_sem, v161, p161]
  refine run_see (specL6Bytes_fz (sliceS s [k]) (hr.fit hz)) false (Views.refl rfl) rfl (fun j hj => by first | omega | ((have hj0 : j = 0 := by omega); subst hj0; first | rfl | (simp only [Nat.add_zero, app_get, app_getk, sapp_get, sapp_getk, Nat.add_assoc, Nat.reduceAdd, List.getElem?_cons_zero, List.getElem?_cons_succ]; done) | simp)) (fun h => by cases h) ?_
  simp only [go_sem, v161, p161]
  refine run_see (specCrc_ok _ (by simp only [lim]; omega)) false (Views.refl rfl) rfl (fun j hj => by first | omega | ((have hj0 : j = 0 := by omega); subst hj0; first | rfl | (simp only [Nat.add_zero, app_get, app_getk, sapp_get, sapp_getk, Nat.add_assoc, Nat.reduceAdd, List.getElem?_cons_zero, List.getElem?_cons_succ]; done) | simp)) (fun h => by cases h) ?_
  simp only [go_sem, v161, p161, show ((crc (stateB (sliceS s [k])) : Int).tmod 1024) = ((crc (stateB (sliceS s [k])) % 1024 : Nat) : Int) from tmod_nat _ 1024]
  refine awp_ret ?_
  try simp only [go_sem]
  exact fin _ _ _ rfl (congrArg (V.int .i64) (if_pos h1).symm)
theorem implLeafSum_ok (s : State) (k : Int) (h : s.sz ≤ 1048576) : FS Try.prog 165 [] [.agg s.c, .int .i64 k] (.int .i64 (leafSum s k)) [] := by
  refine FS.of (X := X165) (ac := A165) (os := O165) Try.func165 (by rfl) (by rfl) (by kernel_rfl) o165 (Nat.le_of_ble_eq_true rfl) ?_
  show AWP X165 A165 (Ends X165.vs O165 0 _ _) [.agg s.c, .int .i64 k, .tup [], .tup [], .tup []] []
  obtain ⟨Q, hQ⟩ : ∃ Q, Q = Ends X165.vs O165 0 (.int .i64 (leafSum s k)) [] := ⟨_, rfl⟩
  rw [← hQ]
  have fin : ∀ L σ vV, resVs O165 (look X165.vs L) σ = some [vV] → vV = (.int .i64 (leafSum s k)) → Q .ret L σ := by
    intro L σ vV h1 h2
    rw [hQ]
    exact Ends.is (.inl rfl) h1 (by simp only [packV, h2]) rfl
  refine awp_sr ?_
  simp only [go_sem, R165_0, v165, p165, State.c]
  obtain ⟨K2, hK2⟩ : ∃ K : List V → Store → Prop, K = fun L σ => ∃ q y0 y4, L = [y0, .int .i64 k, .ptr 0 2 0 0, y4, .bool q] ∧ σ = [.live ⟨2, [s.c]⟩] ∧ q = !decide (s.Right ∧ 0 ≤ k ∧ k ≤ 3) := ⟨_, rfl⟩
  refine awp_sr2K (K2) ?_ ?_
  · simp only [go_sem, R165_1, v165, p165]
    repeat' first
      | (refine selP_if rfl (fun hG => ?_) (fun hG => ?_) <;> first | simp only [go_sem, v165, p165, eq_false hG, State.c] | simp only [go_sem, v165, p165, eq_true hG, State.c])
      | (refine selP_ifn rfl (fun hG => ?_) (fun hG => ?_) <;> first | simp only [go_sem, v165, p165, eq_false hG, State.c] | simp only [go_sem, v165, p165, eq_true hG, State.c])
      | (refine selN_if rfl (fun hG => ?_) (fun hG => ?_) <;> first | simp only [go_sem, v165, p165, eq_false hG, State.c] | simp only [go_sem, v165, p165, eq_true hG, State.c])
      | (refine selN_ifn rfl (fun hG => ?_) (fun hG => ?_) <;> first | simp only [go_sem, v165, p165, eq_false hG, State.c] | simp only [go_sem, v165, p165, eq_true hG, State.c])
      | (refine selB_if rfl (fun hG => ?_) (fun hG => ?_) <;> simp only [go_sem, v165, p165, hG, State.c])
      | (refine selB_ifn rfl (fun hG => ?_) (fun hG => ?_) <;> simp only [go_sem, v165, p165, hG, State.c])
      | (refine run_see (implStateOk_ok s h) false (Views.refl rfl) rfl (fun j hj => by omega) (fun h => by cases h) ?_; simp only [go_sem, v165, p165, State.c])
      | (refine run_see (within_ok _ _ _) false (Views.refl rfl) rfl (fun j hj => by omega) (fun h => by cases h) ?_; simp only [go_sem, v165, p165, State.c])
    all_goals rw [hK2]
    all_goals refine ⟨_, _, _, rfl, rfl, ?_⟩
    all_goals grind
  intro L σ hq
  rw [hK2] at hq
  obtain ⟨q, y0, y4, rfl, rfl, hq⟩ := hq
  subst hq
  refine awp_if' rfl ?_ ?_
  · intro h1
    refine awp_sr ?_
    simp only [go_sem, R165_2, v165, p165]
    refine awp_ret ?_
    try simp only [go_sem]
    exact fin _ _ (.int .i64 0) rfl (congrArg (V.int .i64) (if_neg h1).symm)
  intro h1
  refine awp_skip ?_
  simp only [go_sem]
  have hr := slice_right h1.1 [k]
  have hz := Nat.le_trans (slice_sz s [k]) h
  have hl := stateB_len1 (hr.fit hz)
  refine awp_srX (runX_split 3 ?_)
  simp only [go_sem, R165_3, v165, p165, State.c, List.take_succ_cons, List.take_zero, List.drop_succ_cons, List.drop_zero]
  refine runX_freeze (o := 1) (ob := ⟨1, [[.int .i64 k]]⟩) rfl (rw_closed (c := intC) intC_closed [k]) ?_
  simp only [go_sem, v165, p165, frz_ptr _ _ _ _ _ (show (0 : Nat) ≠ 1 by omega)]
  refine run_see (implSlice_ok s [k] h1.1 h (by simp)) false (Views.refl rfl) rfl (fun j hj => by first | omega | ((have hj0 : j = 0 := by omega); subst hj0; first | rfl | (simp only [Nat.add_zero, app_get, app_getk, sapp_get, sapp_getk, Nat.add_assoc, Nat.reduceAdd, List.getElem?_cons_zero, List.getElem?_cons_succ]; done) | simp)) (fun h => by cases h) ?_
  simp only [go_sem, v165, p165]
  refine run_see (implStateBytes_ok (sliceS s [k]) hz) false (Views.refl rfl) rfl (fun j hj => by first | omega | ((have hj0 : j = 0 := by omega); subst hj0; first | rfl | (simp only [Nat.add_zero, app_get, app_getk, sapp_get, sapp_getk, Nat.add_assoc, Nat.reduceAdd, List.getElem?_cons_zero, List.getElem?_cons_succ]; done) | simp)) (fun h => by cases h) ?_
  simp only [go_sem, v165, p165]
  rw [sBytes_yes hr]
  refine run_see (implCrc_ok _ (by simp only [lim]; omega)) false (Views.refl rfl) rfl (fun j hj => by first | omega | ((have hj0 : j = 0 := by omega); subst hj0; first | rfl | (simp only [Nat.add_zero, app_get, app_getk, sapp_get, sapp_getk, Nat.add_assoc, Nat.reduceAdd, List.getElem?_cons_zero, List.getElem?_cons_succ]; done) | simp)) (fun h => by cases h) ?_
  simp only [go_sem, v165, p165, show ((crc (stateB (sliceS s [k])) : Int).tmod 1024) = ((crc (stateB (sliceS s [k])) % 1024 : Nat) : Int) from tmod_nat _ 1024]
  refine awp_ret ?_
  try simp only [go_sem]
  exact fin _ _ _ rfl (congrArg (V.int .i64) (if_pos h1).symm)
def rootI (xs : List Int) : Int := ((crc (cat putI xs) % 1024 : Nat) : Int)
theorem rootI_fit (xs : List Int) : 0 ≤ rootI xs ∧ rootI xs ≤ 1023 := by unfold rootI; omega
theorem specL6Root_ok (xs : List Int) (h : ∀ x ∈ xs, fit x) (h0 : xs.length ≤ 1048576) : FS Try.prog 162 [] [.fz 1 (rw_ intC xs)] (.int .i64 (rootI xs)) [] := by
  refine FS.of (X := X162) (ac := A162) (os := O162) Try.func162 (by rfl) (by rfl) (by kernel_rfl) o162 (Nat.le_of_ble_eq_true rfl) ?_
  show AWP X162 A162 (Ends X162.vs O162 0 _ _) [.fz 1 (rw_ intC xs), .tup [], .tup [], .tup [], .tup []] []
  obtain ⟨Q, hQ⟩ : ∃ Q, Q = Ends X162.vs O162 0 (.int .i64 (rootI xs)) [] := ⟨_, rfl⟩
  rw [← hQ]
  have hb := numsB_len h
  have fin : ∀ L σ vV, resVs O162 (look X162.vs L) σ = some [vV] → vV = (.int .i64 (rootI xs)) → Q .ret L σ := by
    intro L σ vV h1 h2
    rw [hQ]
    exact Ends.is (.inl rfl) h1 (by simp only [packV, h2]) rfl
  refine awp_sr ?_
  simp only [go_sem, R162_0, v162, p162]
  refine awp_sr ?_
  simp only [go_sem, R162_1, v162, p162]
  refine awp_sr2 ?_
  simp only [go_sem, R162_2, v162, p162]
  obtain ⟨I, hI⟩ : ∃ I : Nat → List V → Store → Prop, I = fun mM L σ => ∃ i out r q τ y2 y9, xs.length - i = mM ∧ (i ≤ xs.length ∧ out = cat putI (xs.take i) ∧ q = out.length ∧ Last τ r (.live ⟨1, rw_ byteC out⟩)) ∧ L = [.fz 1 (rw_ intC xs), y2, .sl r 1 0 q, .int .i64 (i : Nat), y9] ∧ σ = τ := ⟨_, rfl⟩
  first | refine awp_for I (xs.length) ?_ ?_ | refine awp_seq (awp_for I (xs.length) ?_ ?_)
  · rw [hI]
    refine ⟨0, [], _, _, _, _, _, rfl, ?_, rfl, rfl⟩
    exact ⟨Nat.zero_le _, rfl, rfl, Last.mk [] _⟩
  intro mM L σ hIn
  rw [hI] at hIn
  obtain ⟨i, out, r, q, τ, y2, y9, rfl, hP, rfl, rfl⟩ := hIn
  obtain ⟨hi, ho, rfl, rest, rfl, rfl⟩ := hP
  refine awp_sr2 ?_
  simp only [go_sem, R162_3, v162, p162]
  refine awp_if rfl ?_ ?_
  · intro h1
    have h1 : i < xs.length := by omega
    have e1 := cat_take putI h1
    have e2 := cat_le putI xs (i + 1)
    have e3 := congrArg List.length e1
    have e4 := congrArg List.length ho
    rw [List.length_append] at e3
    refine awp_skip ?_
    simp only [go_sem]
    first | refine awp_block ?_ | refine awp_seq (awp_block ?_)
    refine awp_reg ?_
    simp only [go_sem, R162_4, v162, p162, rw_at _ h1, intC]
    refine run_see (specPutI_fz (h _ (List.getElem_mem h1))) false (Views.refl rfl) rfl (fun j hj => by first | omega | ((have hj0 : j = 0 := by omega); subst hj0; first | rfl | (simp only [Nat.add_zero, app_get, app_getk, sapp_get, sapp_getk, Nat.add_assoc, Nat.reduceAdd, List.getElem?_cons_zero, List.getElem?_cons_succ]; done) | simp)) (fun h => by cases h) ?_
    simp only [go_sem, v162, p162]
    refine ⟨by omega, ?_⟩
    refine awp_reg ?_
    simp only [go_sem, R162_5, v162, p162, wrap_succ (i := i) (by omega)]
    refine ⟨xs.length - (i + 1), ?_, ?_⟩
    rotate_left
    rw [hI]
    refine ⟨i + 1, out ++ putI xs[i], _, _, _, _, _, rfl, ?_, rfl, rfl⟩
    · rw [e1, ← ho]; exact ⟨by omega, rfl, by simp, Last.mk1 _ _ _⟩
    · omega
  · intro h1
    refine awp_exit ?_
    simp only [go_sem]
    have : i = xs.length := by omega
    subst this
    rw [List.take_length] at ho
    subst ho
    refine awp_sr ?_
    simp only [go_sem, R162_6, v162, p162]
    refine run_see (specCrc_ok (cat putI xs) (by simp only [lim]; omega)) true (.cons (View.row (by simp) (by simp) (rw_len _ _).symm (bytes_ok _)) .nil) rfl (fun j hj => by omega) (fun _ => rfl) ?_
    simp only [go_sem, v162, p162, show ((crc (cat putI xs) : Int).tmod 1024) = ((crc (cat putI xs) % 1024 : Nat) : Int) from tmod_nat _ 1024]
    refine awp_ret ?_
    try simp only [go_sem]
    exact fin _ _ _ rfl rfl
theorem implRootOf_ok (xs : List Int) (h : ∀ x ∈ xs, fit x) (h0 : xs.length ≤ 1048576) : FS Try.prog 166 [] [.fz 1 (rw_ intC xs)] (.int .i64 (rootI xs)) [] := by
  refine FS.of (X := X166) (ac := A166) (os := O166) Try.func166 (by rfl) (by rfl) (by kernel_rfl) o166 (Nat.le_of_ble_eq_true rfl) ?_
  show AWP X166 A166 (Ends X166.vs O166 0 _ _) [.fz 1 (rw_ intC xs), .tup [], .tup [], .tup [], .tup [], .tup [], .tup [], .tup []] []
  obtain ⟨Q, hQ⟩ : ∃ Q, Q = Ends X166.vs O166 0 (.int .i64 (rootI xs)) [] := ⟨_, rfl⟩
  rw [← hQ]
  have hb := numsB_len h
  have fin : ∀ L σ vV, resVs O166 (look X166.vs L) σ = some [vV] → vV = (.int .i64 (rootI xs)) → Q .ret L σ := by
    intro L σ vV h1 h2
    rw [hQ]
    exact Ends.is (.inl rfl) h1 (by simp only [packV, h2]) rfl
  refine awp_sr ?_
  simp only [go_sem, R166_0, v166, p166]
  refine awp_sr ?_
  simp only [go_sem, R166_1, v166, p166]
  refine awp_freeze (o := 0) (ob := ⟨1, rw_ byteC []⟩) rfl (bytes_ok _) ?_
  simp only [go_sem, v166, p166]
  refine awp_sr2 ?_
  simp only [go_sem, R166_2, v166, p166]
  obtain ⟨I, hI⟩ : ∃ I : Nat → List V → Store → Prop, I = fun mM L σ => ∃ i out rest y0 y2 y5 y10, xs.length - i = mM ∧ (i ≤ xs.length ∧ out = cat putI (xs.take i)) ∧ L = [y0, y2, .fz 1 (rw_ byteC out), y5, .fz 1 (rw_ intC xs), .int .i64 (xs.length : Nat), .int .i64 (i : Nat), y10] ∧ σ = rest := ⟨_, rfl⟩
  first | refine awp_for I (xs.length) ?_ ?_ | refine awp_seq (awp_for I (xs.length) ?_ ?_)
  · rw [hI]
    refine ⟨0, [], _, _, _, _, _, rfl, ?_, rfl, rfl⟩
    exact ⟨Nat.zero_le _, rfl⟩
  intro mM L σ hIn
  rw [hI] at hIn
  obtain ⟨i, out, rest, y0, y2, y5, y10, rfl, hP, rfl, rfl⟩ := hIn
  obtain ⟨hi, ho⟩ := hP
  refine awp_sr ?_
  simp only [go_sem, R166_3, v166, p166]
  refine awp_seq ?_
  refine awp_if rfl ?_ ?_
  · intro h1
    have h1 : i < xs.length := by omega
    have e1 := cat_take putI h1
    have e2 := cat_le putI xs (i + 1)
    have e3 := congrArg List.length e1
    have e4 := congrArg List.length ho
    rw [List.length_append] at e3
    refine awp_skip ?_
    simp only [go_sem]
    first | refine awp_block ?_ | refine awp_seq (awp_block ?_)
    refine awp_sr ?_
    simp only [go_sem, R166_4, v166, p166, rw_at _ h1, intC]
    refine awp_reg ?_
    simp only [go_sem, R166_5, v166, p166]
    refine run_see (implPutI_fz (h _ (List.getElem_mem h1))) false (Views.refl rfl) rfl (fun j hj => by first | omega | ((have hj0 : j = 0 := by omega); subst hj0; first | rfl | (simp only [Nat.add_zero, app_get, app_getk, sapp_get, sapp_getk, Nat.add_assoc, Nat.reduceAdd, List.getElem?_cons_zero, List.getElem?_cons_succ]; done) | simp)) (fun h => by cases h) ?_
    simp only [go_sem, v166, p166, fz_fold, pair_fold]
    have hj : [out, putI xs[i]].flatten.length ≤ lim := by simp [lim]; omega
    refine run_new (joined_ok [out, putI xs[i]] hj (by simp)) true (.cons (View.row (by simp) (by simp) rfl (brows_ok _)) (.nil)) (by first | rfl | (simp only [Nat.add_zero, app_get, app_getk, sapp_get, sapp_getk, Nat.add_assoc, Nat.reduceAdd, List.getElem?_cons_zero, List.getElem?_cons_succ]; done) | simp) (bytes_ok _) (by simp [V.ids]) (fun _ => ⟨rfl, bytes_flat _⟩) ?_
    simp only [go_sem, v166, p166]
    refine awp_freeze (o := σ.length + 1) (ob := ⟨1, rw_ byteC [out, putI xs[i]].flatten⟩) (by simp) (bytes_ok _) ?_
    rw [show [out, putI xs[i]].flatten = out ++ putI xs[i] by simp]
    generalize hq : out ++ putI xs[i] = out2
    simp only [go_sem, v166, p166]
    refine awp_reg ?_
    simp only [go_sem, R166_6, v166, p166, wrap_succ (i := i) (by omega)]
    refine ⟨xs.length - (i + 1), ?_, ?_⟩
    rotate_left
    rw [hI]
    refine ⟨i + 1, _, _, _, _, _, _, rfl, ?_, rfl, rfl⟩
    · exact ⟨by omega, by rw [e1, ← hq, ho]⟩
    · omega
  · intro h1
    refine awp_exit ?_
    simp only [go_sem]
    have : i = xs.length := by omega
    subst this
    rw [List.take_length] at ho
    subst ho
    refine awp_sr ?_
    simp only [go_sem, R166_7, v166, p166]
    refine run_see (implCrc_ok (cat putI xs) (by simp only [lim]; omega)) false (Views.refl rfl) rfl (fun j hj => by first | omega | ((have hj0 : j = 0 := by omega); subst hj0; first | rfl | (simp only [Nat.add_zero, app_get, app_getk, sapp_get, sapp_getk, Nat.add_assoc, Nat.reduceAdd, List.getElem?_cons_zero, List.getElem?_cons_succ]; done) | simp)) (fun h => by cases h) ?_
    simp only [go_sem, v166, p166, show ((crc (cat putI xs) : Int).tmod 1024) = ((crc (cat putI xs) % 1024 : Nat) : Int) from tmod_nat _ 1024]
    refine awp_ret ?_
    try simp only [go_sem]
    exact fin _ _ _ rfl rfl
end Go.Proofs.Ytffigokicddekaa.Abs
/- A state's tree, walked in both texts: the whole. No condition. -/
set_option linter.unusedVariables false
set_option linter.unusedSimpArgs false
set_option maxRecDepth 10000
namespace Go.Proofs.Ytffigokicddekaa.Abs
open Go Go.Proofs
def R123_0 : List AR := [⟨(some 1), none, 0, (.box 0 2 (.t 0))⟩, ⟨(some 2), none, 0, (.alloc 1 2 [.nl, (.int .i64 0)])⟩]
def R123_1 : List AR := [⟨(some 5), none, 0, (.load 2 true (.t 1))⟩, ⟨(some 6), none, 0, (.call false 0 0 55 [(.t 5)])⟩, ⟨(some 7), none, 0, (.not (.t 6))⟩]
def R123_2 : List AR := [⟨(some 8), none, 0, (.build [.nl, (.int .i64 0)] [])⟩, ⟨none, none, 0, (.store 2 (.t 2) (.t 8))⟩]
def R123_3 : List AR := [⟨(some 9), none, 0, (.build [.nl, (.int .i64 0)] [])⟩, ⟨(some 3), none, 0, (.alloc 0 2 [.nl, (.int .i64 0)])⟩, ⟨none, none, 0, (.store 2 (.t 3) (.t 9))⟩]
def R123_4 : List AR := [⟨(some 4), none, 0, (.mov (.k (.int .i64 0)))⟩]
def R123_5 : List AR := [⟨(some 10), none, 0, (.mov (.t 4))⟩, ⟨(some 11), none, 0, (.bin .lss (.t 10) (.k (.int .i64 4)))⟩]
def R123_6 : List AR := [⟨(some 14), none, 0, (.faddr 0 (.t 3))⟩, ⟨(some 15), none, 1, (.load 1 false (.t 14))⟩, ⟨(some 16), none, 0, (.load 2 true (.t 1))⟩, ⟨(some 17), none, 0, (.mov (.t 4))⟩, ⟨(some 18), none, 0, (.call false 0 0 161 [(.t 16), (.t 17)])⟩, ⟨(some 19), none, 0, (.bslice 0 1 1 [(.int .i64 0)] [(0, (.t 18))])⟩, ⟨(some 20), none, 0, (.app 1 1 8 (.t 15) (.t 19))⟩, ⟨(some 21), none, 0, (.faddr 0 (.t 3))⟩, ⟨none, none, 0, (.store 1 (.t 21) (.t 20))⟩]
def R123_7 : List AR := [⟨(some 12), none, 0, (.mov (.t 4))⟩, ⟨(some 13), none, 0, (.bin .add (.t 12) (.k (.int .i64 1)))⟩, ⟨(some 4), none, 0, (.mov (.t 13))⟩]
def A123_0 : AC := (.seq (.block 1 (.draw 2 R123_6)) (.reg 0 R123_7))
def L123_0 : AC := (.seq (.seq (.reg 0 R123_5) (.cond (.t 11) .skip (.exit 0))) A123_0)
def R123_8 : List AR := [⟨(some 22), none, 0, (.faddr 0 (.t 3))⟩, ⟨(some 23), none, 0, (.load 1 false (.t 22))⟩, ⟨(some 24), none, 0, (.call false 0 0 162 [(.t 23)])⟩, ⟨(some 25), none, 0, (.faddr 1 (.t 3))⟩, ⟨none, none, 0, (.store 1 (.t 25) (.t 24))⟩]
def R123_9 : List AR := [⟨(some 26), none, 0, (.load 2 true (.t 3))⟩, ⟨none, none, 0, (.store 2 (.t 2) (.t 26))⟩]
def A123_1 : AC := (.seq (.reg 0 R123_9) .ret)
def A123_2 : AC := (.seq (.reg 0 R123_8) A123_1)
def A123_3 : AC := (.seq (.seq (.reg 0 R123_4) (.block 0 (.loop L123_0))) A123_2)
def A123_4 : AC := (.seq (.reg 1 R123_3) A123_3)
def A123_5 : AC := (.seq (.seq (.reg 0 R123_1) (.cond (.t 7) (.seq (.reg 0 R123_2) .ret) .skip)) A123_4)
def A123 : AC := (.seq (.reg 2 R123_0) A123_5)
def O123 : List AO := [(.load 2 true (.t 2))]
def G123 : Fns := ⟨fun f => false, fun f => 0, false⟩
noncomputable def X123 : Cx := ⟨Try.prog, G123, drawD, 27, [0, 1, 2, 3, 4, 7, 11]⟩
theorem c123 : (Try.f123.body).bind (compC X123.P X123.Γ X123.D X123.nt) = some A123 := by kernel_rfl
theorem o123 : compRes X123.P Try.f123.results.toList = some O123 := by kernel_rfl
theorem v123 : X123.vs = [0, 1, 2, 3, 4, 7, 11] := rfl
theorem p123 : X123.P = Try.prog := rfl
def R132_0 : List AR := [⟨(some 1), none, 0, (.box 0 2 (.t 0))⟩, ⟨(some 2), none, 0, (.alloc 1 2 [.nl, (.int .i64 0)])⟩]
def R132_1 : List AR := [⟨(some 5), none, 0, (.build [.nl, (.int .i64 0)] [])⟩, ⟨(some 3), none, 0, (.alloc 0 2 [.nl, (.int .i64 0)])⟩, ⟨none, none, 0, (.store 2 (.t 3) (.t 5))⟩]
def R132_2 : List AR := [⟨(some 6), none, 0, (.load 2 true (.t 1))⟩, ⟨(some 7), none, 0, (.call false 0 0 59 [(.t 6)])⟩, ⟨(some 8), none, 0, (.not (.t 7))⟩]
def R132_3 : List AR := [⟨(some 9), none, 0, (.load 2 true (.t 3))⟩, ⟨none, none, 0, (.store 2 (.t 2) (.t 9))⟩]
def R132_4 : List AR := [⟨(some 4), none, 0, (.mov (.k (.int .i64 0)))⟩]
def R132_5 : List AR := [⟨(some 10), none, 0, (.mov (.t 4))⟩, ⟨(some 11), none, 0, (.bin .lss (.t 10) (.k (.int .i64 4)))⟩]
def R132_6 : List AR := [⟨(some 14), none, 0, (.faddr 0 (.t 3))⟩, ⟨(some 15), none, 1, (.load 1 false (.t 14))⟩, ⟨(some 16), none, 0, (.load 2 true (.t 1))⟩, ⟨(some 17), none, 0, (.mov (.t 4))⟩, ⟨(some 18), none, 0, (.call false 0 0 165 [(.t 16), (.t 17)])⟩, ⟨(some 19), none, 0, (.bslice 0 1 1 [(.int .i64 0)] [(0, (.t 18))])⟩, ⟨(some 20), none, 0, (.app 1 1 8 (.t 15) (.t 19))⟩, ⟨(some 21), none, 0, (.faddr 0 (.t 3))⟩, ⟨none, none, 0, (.store 1 (.t 21) (.t 20))⟩]
def R132_7 : List AR := [⟨(some 12), none, 0, (.mov (.t 4))⟩, ⟨(some 13), none, 0, (.bin .add (.t 12) (.k (.int .i64 1)))⟩, ⟨(some 4), none, 0, (.mov (.t 13))⟩]
def A132_0 : AC := (.seq (.block 1 (.draw 2 R132_6)) (.reg 0 R132_7))
def L132_0 : AC := (.seq (.seq (.reg 0 R132_5) (.cond (.t 11) .skip (.exit 0))) A132_0)
def R132_8 : List AR := [⟨(some 22), none, 0, (.faddr 0 (.t 3))⟩, ⟨(some 23), none, 0, (.load 1 false (.t 22))⟩, ⟨(some 24), none, 0, (.call false 0 0 166 [(.t 23)])⟩, ⟨(some 25), none, 0, (.faddr 1 (.t 3))⟩, ⟨none, none, 0, (.store 1 (.t 25) (.t 24))⟩]
def R132_9 : List AR := [⟨(some 26), none, 0, (.load 2 true (.t 3))⟩, ⟨none, none, 0, (.store 2 (.t 2) (.t 26))⟩]
def A132_1 : AC := (.seq (.reg 0 R132_9) .ret)
def A132_2 : AC := (.seq (.reg 0 R132_8) A132_1)
def A132_3 : AC := (.seq (.seq (.reg 0 R132_4) (.block 0 (.loop L132_0))) A132_2)
def A132_4 : AC := (.seq (.seq (.reg 0 R132_2) (.cond (.t 8) (.seq (.reg 0 R132_3) .ret) .skip)) A132_3)
def A132_5 : AC := (.seq (.reg 1 R132_1) A132_4)
def A132 : AC := (.seq (.reg 2 R132_0) A132_5)
def O132 : List AO := [(.load 2 true (.t 2))]
def G132 : Fns := ⟨fun f => false, fun f => 0, false⟩
noncomputable def X132 : Cx := ⟨Try.prog, G132, drawD, 27, [0, 1, 2, 3, 4, 8, 11]⟩
theorem c132 : (Try.f132.body).bind (compC X132.P X132.Γ X132.D X132.nt) = some A132 := by kernel_rfl
theorem o132 : compRes X132.P Try.f132.results.toList = some O132 := by kernel_rfl
theorem v132 : X132.vs = [0, 1, 2, 3, 4, 8, 11] := rfl
theorem p132 : X132.P = Try.prog := rfl
noncomputable def leavesS (s : State) (k : Nat) : List Int := (List.range k).map fun i : Nat => leafSum s (i : Int)
theorem leavesS_succ (s : State) (k : Nat) : leavesS s (k + 1) = leavesS s k ++ [leafSum s (k : Int)] := by simp [leavesS, List.range_succ]
theorem leavesS_len (s : State) (k : Nat) : (leavesS s k).length = k := by simp [leavesS]
theorem leavesS_fit (s : State) (k : Nat) : ∀ x ∈ leavesS s k, fit x := by
  intro x hx
  simp only [leavesS, List.mem_map] at hx
  obtain ⟨i, _, rfl⟩ := hx
  have := leafSum_fit s (i : Int)
  exact ⟨this.1, by omega⟩
noncomputable def treeOf (s : State) : Tree := if s.Right then ⟨leavesS s 4, rootI (leavesS s 4)⟩ else Tree.zero
theorem treeOf_yes {s : State} (h : s.Right) : treeOf s = ⟨leavesS s 4, rootI (leavesS s 4)⟩ := if_pos h
theorem treeOf_no {s : State} (h : ¬ s.Right) : treeOf s = Tree.zero := if_neg h
theorem int_sing (n : Int) : [[V.int .i64 n]] = rw_ intC [n] := rfl
set_option maxHeartbeats 4000000 in
theorem specTreeOf_ok (s : State) (h : s.sz ≤ 1048576) : FS Try.prog 123 [] [.agg s.c] (.agg (treeOf s).c) [] := by
  refine FS.of (X := X123) (ac := A123) (os := O123) Try.func123 (by rfl) (by rfl) (by kernel_rfl) o123 (Nat.le_of_ble_eq_true rfl) ?_
  show AWP X123 A123 (Ends X123.vs O123 0 _ _) [.agg s.c, .tup [], .tup [], .tup [], .tup [], .tup [], .tup []] []
  obtain ⟨Q, hQ⟩ : ∃ Q, Q = Ends X123.vs O123 0 (.agg (treeOf s).c) [] := ⟨_, rfl⟩
  rw [← hQ]
  refine awp_sr ?_
  simp only [go_sem, R123_0, v123, p123, State.c]
  refine awp_sr2 ?_
  simp only [go_sem, R123_1, v123, p123]
  refine run_see (specStateOk_ok s h) false (Views.refl rfl) rfl (fun j hj => by first | omega | ((have hj0 : j = 0 := by omega); subst hj0; first | rfl | (simp only [Nat.add_zero, app_get, app_getk, sapp_get, sapp_getk, Nat.add_assoc, Nat.reduceAdd, List.getElem?_cons_zero, List.getElem?_cons_succ]; done) | simp)) (fun h => by cases h) ?_
  simp only [go_sem, v123, p123]
  refine awp_if' rfl ?_ ?_
  · intro h1
    refine awp_sr ?_
    simp only [go_sem, R123_2, v123, p123]
    refine awp_ret ?_
    try simp only [go_sem]
    rw [hQ, treeOf_no h1]
    exact Ends.all (.inl rfl) (rs := [.agg [.nl, .int .i64 0]]) rfl (.agg _ _ rfl (.cons (.nl 1) (.cons (.same _ rfl) .nil))) rfl
  intro h1
  rw [treeOf_yes h1] at hQ
  refine awp_skip ?_
  simp only [go_sem]
  refine awp_sr ?_
  simp only [go_sem, R123_3, v123, p123]
  refine awp_sr2 ?_
  simp only [go_sem, R123_4, v123, p123]
  obtain ⟨J, hJ⟩ : ∃ J : Nat → List V → Store → Prop, J = fun mM L σ => ∃ k c τ y0 y7 y11, 4 - k = mM ∧ (k ≤ 4 ∧ τ[0]? = some (.live ⟨2, [s.c]⟩) ∧ τ[1]? = some (.live ⟨2, [[.nl, .int .i64 0]]⟩) ∧ τ[2]? = some (.live ⟨2, [[c, .int .i64 0]]⟩) ∧ Own τ 1 c (rw_ intC (leavesS s k))) ∧ L = [y0, .ptr 0 2 0 0, .ptr 1 2 0 0, .ptr 2 2 0 0, .int .i64 (k : Nat), y7, y11] ∧ σ = τ := ⟨_, rfl⟩
  first | refine awp_for J (4) ?_ ?_ | refine awp_seq (awp_for J (4) ?_ ?_)
  · rw [hJ]
    refine ⟨0, .nl, _, _, _, _, rfl, ?_, rfl, rfl⟩
    exact ⟨by omega, rfl, rfl, rfl, .inl ⟨rfl, rfl⟩⟩
  intro mM L σ hIn
  rw [hJ] at hIn
  obtain ⟨k, c, τ, y0, y7, y11, rfl, hP, rfl, rfl⟩ := hIn
  obtain ⟨hk, g0, g1, g2, hc⟩ := hP
  refine awp_sr2 ?_
  simp only [go_sem, R123_5, v123, p123]
  refine awp_if rfl ?_ ?_
  · intro h4
    refine awp_skip ?_
    simp only [go_sem]
    first | refine awp_block ?_ | refine awp_seq (awp_block ?_)
    have e1 := leavesS_succ s k
    have e2 := leavesS_len s k
    rcases hc with ⟨rfl, hn⟩ | ⟨o, n, rfl, hn, ho⟩
    · refine awp_dw [] mixed rfl ?_
      simp only [go_sem, R123_6, v123, p123, labOk_2, labOk_3, labOk_4, labOk_5, AO.touch, AO.sh, AR.sh, V.ids, V.idsL, List.mem_singleton, forall_eq, List.not_mem_nil, false_implies, implies_true, List.mem_cons, or_false, Nat.reduceLT, Nat.zero_lt_one, Nat.zero_ne_one, get_app g0, get_app g2, State.c]
      refine ⟨get_lt g2, ?_⟩
      refine run_see (specLeafSum_ok s k h) false (Views.refl rfl) rfl (fun j hj => by first | omega | ((have hj0 : j = 0 := by omega); subst hj0; first | rfl | (simp only [Nat.add_zero, app_get, app_getk, sapp_get, sapp_getk, Nat.add_assoc, Nat.reduceAdd, List.getElem?_cons_zero, List.getElem?_cons_succ]; done) | simp)) (fun h => by cases h) ?_
      simp only [go_sem, v123, p123, get_app g2, set_app g2]
      have hn : leavesS s k = [] := by simpa [rw_] using hn
      rw [hn, List.nil_append] at e1
      refine awp_reg ?_
      simp only [go_sem, R123_7, v123, p123, wrap_succ (i := k) (by omega)]
      refine ⟨4 - (k + 1), ?_, ?_⟩
      rotate_left
      rw [hJ]
      refine ⟨k + 1, .sl (σ.length + 1) 1 0 1, _, _, _, _, rfl, ?_, rfl, rfl⟩
      · refine ⟨by omega, keep_get g0 (by omega), keep_get g1 (by omega), set_get g2 _, .inr ⟨σ.length + 1, 1, rfl, by rw [e1]; rfl, ?_⟩⟩
        rw [sapp_getk, e1]; rfl
      · omega
    · rw [rw_len] at hn
      subst hn
      have n0 : o ≠ 0 := get_ne g0 ho (slot_ne (by omega))
      have n1 : o ≠ 1 := get_ne g1 ho (slot_ne (by omega))
      have n2 : o ≠ 2 := get_ne g2 ho (slot_ne (by omega))
      refine awp_dw [] mixed rfl ?_
      simp only [go_sem, R123_6, v123, p123, labOk_2, labOk_3, labOk_4, labOk_5, AO.touch, AO.sh, AR.sh, V.ids, V.idsL, List.mem_singleton, forall_eq, List.not_mem_nil, false_implies, implies_true, List.mem_cons, or_false, Nat.reduceLT, Nat.zero_lt_one, Nat.zero_ne_one, get_app g0, get_app g2, State.c]
      refine ⟨get_lt g2, ?_⟩
      refine run_see (specLeafSum_ok s k h) false (Views.refl rfl) rfl (fun j hj => by first | omega | ((have hj0 : j = 0 := by omega); subst hj0; first | rfl | (simp only [Nat.add_zero, app_get, app_getk, sapp_get, sapp_getk, Nat.add_assoc, Nat.reduceAdd, List.getElem?_cons_zero, List.getElem?_cons_succ]; done) | simp)) (fun h => by cases h) ?_
      simp only [go_sem, v123, p123, get_app ho, set_app ho, keep_get g2 n2, set_app (keep_set g2 n2), int_sing]
      refine ⟨by omega, ?_⟩
      refine awp_reg ?_
      simp only [go_sem, R123_7, v123, p123, wrap_succ (i := k) (by omega)]
      rw [← e1]
      refine ⟨4 - (k + 1), ?_, ?_⟩
      rotate_left
      rw [hJ]
      refine ⟨k + 1, .sl (σ.length + 1) 1 0 (k + 1), _, _, _, _, rfl, ?_, rfl, rfl⟩
      · refine ⟨by omega, keep2_get g0 n0 (by omega), keep2_get g1 n1 (by omega), ?_, .inr ⟨σ.length + 1, k + 1, rfl, by rw [rw_len, leavesS_len], by rw [sapp2_getk]; rfl⟩⟩
        rw [leavesS_len]; exact set2_get g2 n2 _
      · omega
  · intro h4
    refine awp_exit ?_
    simp only [go_sem]
    have : k = 4 := by omega
    subst this
    rcases hc with ⟨rfl, hn⟩ | ⟨o, n, rfl, hn, ho⟩
    · exact absurd (congrArg List.length hn) (by rw [rw_len, leavesS_len]; simp)
    rw [rw_len, leavesS_len] at hn
    subst hn
    have n1 : (1 : Nat) ≠ o := fun e => get_ne g1 ho (slot_ne (by omega)) e.symm
    have n2 : (2 : Nat) ≠ o := fun e => get_ne g2 ho (slot_ne (by omega)) e.symm
    refine awp_sr ?_
    simp only [go_sem, R123_8, v123, p123, g2]
    refine run_see (specL6Root_ok (leavesS s 4) (leavesS_fit s 4) (by rw [leavesS_len]; omega)) true (.cons (View.row (by simp) ho (by rw [rw_len, leavesS_len]) (rw_closed intC_closed _)) .nil) rfl (fun j hj => by omega) (fun _ => rfl) ?_
    simp only [go_sem, v123, p123, g2]
    refine awp_sr ?_
    simp only [go_sem, R123_9, v123, p123, get_set_same g2, keep_set g1 (show (2 : Nat) ≠ 1 by omega)]
    refine awp_ret ?_
    try simp only [go_sem]
    rw [hQ]
    refine Ends.all (.inl rfl) (rs := [.agg [.sl o 1 0 4, .int .i64 (rootI (leavesS s 4))]]) ?_ (.agg _ _ rfl (.cons (.sl o 1 4 _ (keep_set (keep_set ho n2) n1) (by rw [rw_len, leavesS_len]) (rw_closed intC_closed _)) (.cons (.same _ rfl) .nil))) rfl
    simp only [go_sem, O123, v123, get_set_same (keep_set g1 (show (2 : Nat) ≠ 1 by omega))]
set_option maxHeartbeats 4000000 in
theorem implTreeOf_ok (s : State) (h : s.sz ≤ 1048576) : FS Try.prog 132 [] [.agg s.c] (.agg (treeOf s).c) [] := by
  refine FS.of (X := X132) (ac := A132) (os := O132) Try.func132 (by rfl) (by rfl) (by kernel_rfl) o132 (Nat.le_of_ble_eq_true rfl) ?_
  show AWP X132 A132 (Ends X132.vs O132 0 _ _) [.agg s.c, .tup [], .tup [], .tup [], .tup [], .tup [], .tup []] []
  obtain ⟨Q, hQ⟩ : ∃ Q, Q = Ends X132.vs O132 0 (.agg (treeOf s).c) [] := ⟨_, rfl⟩
  rw [← hQ]
  refine awp_sr ?_
  simp only [go_sem, R132_0, v132, p132, State.c]
  refine awp_sr ?_
  simp only [go_sem, R132_1, v132, p132]
  refine awp_sr2 ?_
  simp only [go_sem, R132_2, v132, p132]
  refine run_see (implStateOk_ok s h) false (Views.refl rfl) rfl (fun j hj => by first | omega | ((have hj0 : j = 0 := by omega); subst hj0; first | rfl | (simp only [Nat.add_zero, app_get, app_getk, sapp_get, sapp_getk, Nat.add_assoc, Nat.reduceAdd, List.getElem?_cons_zero, List.getElem?_cons_succ]; done) | simp)) (fun h => by cases h) ?_
  simp only [go_sem, v132, p132]
  refine awp_if' rfl ?_ ?_
  · intro h1
    refine awp_sr ?_
    simp only [go_sem, R132_3, v132, p132]
    refine awp_ret ?_
    try simp only [go_sem]
    rw [hQ, treeOf_no h1]
    exact Ends.all (.inl rfl) (rs := [.agg [.nl, .int .i64 0]]) rfl (.agg _ _ rfl (.cons (.nl 1) (.cons (.same _ rfl) .nil))) rfl
  intro h1
  rw [treeOf_yes h1] at hQ
  refine awp_skip ?_
  simp only [go_sem]
  refine awp_sr2 ?_
  simp only [go_sem, R132_4, v132, p132]
  obtain ⟨J, hJ⟩ : ∃ J : Nat → List V → Store → Prop, J = fun mM L σ => ∃ k c τ y0 y8 y11, 4 - k = mM ∧ (k ≤ 4 ∧ τ[0]? = some (.live ⟨2, [s.c]⟩) ∧ τ[1]? = some (.live ⟨2, [[.nl, .int .i64 0]]⟩) ∧ τ[2]? = some (.live ⟨2, [[c, .int .i64 0]]⟩) ∧ Own τ 1 c (rw_ intC (leavesS s k))) ∧ L = [y0, .ptr 0 2 0 0, .ptr 1 2 0 0, .ptr 2 2 0 0, .int .i64 (k : Nat), y8, y11] ∧ σ = τ := ⟨_, rfl⟩
  first | refine awp_for J (4) ?_ ?_ | refine awp_seq (awp_for J (4) ?_ ?_)
  · rw [hJ]
    refine ⟨0, .nl, _, _, _, _, rfl, ?_, rfl, rfl⟩
    exact ⟨by omega, rfl, rfl, rfl, .inl ⟨rfl, rfl⟩⟩
  intro mM L σ hIn
  rw [hJ] at hIn
  obtain ⟨k, c, τ, y0, y8, y11, rfl, hP, rfl, rfl⟩ := hIn
  obtain ⟨hk, g0, g1, g2, hc⟩ := hP
  refine awp_sr2 ?_
  simp only [go_sem, R132_5, v132, p132]
  refine awp_if rfl ?_ ?_
  · intro h4
    refine awp_skip ?_
    simp only [go_sem]
    first | refine awp_block ?_ | refine awp_seq (awp_block ?_)
    have e1 := leavesS_succ s k
    have e2 := leavesS_len s k
    rcases hc with ⟨rfl, hn⟩ | ⟨o, n, rfl, hn, ho⟩
    · refine awp_dw [] mixed rfl ?_
      simp only [go_sem, R132_6, v132, p132, labOk_2, labOk_3, labOk_4, labOk_5, AO.touch, AO.sh, AR.sh, V.ids, V.idsL, List.mem_singleton, forall_eq, List.not_mem_nil, false_implies, implies_true, List.mem_cons, or_false, Nat.reduceLT, Nat.zero_lt_one, Nat.zero_ne_one, get_app g0, get_app g2, State.c]
      refine ⟨get_lt g2, ?_⟩
      refine run_see (implLeafSum_ok s k h) false (Views.refl rfl) rfl (fun j hj => by first | omega | ((have hj0 : j = 0 := by omega); subst hj0; first | rfl | (simp only [Nat.add_zero, app_get, app_getk, sapp_get, sapp_getk, Nat.add_assoc, Nat.reduceAdd, List.getElem?_cons_zero, List.getElem?_cons_succ]; done) | simp)) (fun h => by cases h) ?_
      simp only [go_sem, v132, p132, get_app g2, set_app g2]
      have hn : leavesS s k = [] := by simpa [rw_] using hn
      rw [hn, List.nil_append] at e1
      refine awp_reg ?_
      simp only [go_sem, R132_7, v132, p132, wrap_succ (i := k) (by omega)]
      refine ⟨4 - (k + 1), ?_, ?_⟩
      rotate_left
      rw [hJ]
      refine ⟨k + 1, .sl (σ.length + 1) 1 0 1, _, _, _, _, rfl, ?_, rfl, rfl⟩
      · refine ⟨by omega, keep_get g0 (by omega), keep_get g1 (by omega), set_get g2 _, .inr ⟨σ.length + 1, 1, rfl, by rw [e1]; rfl, ?_⟩⟩
        rw [sapp_getk, e1]; rfl
      · omega
    · rw [rw_len] at hn
      subst hn
      have n0 : o ≠ 0 := get_ne g0 ho (slot_ne (by omega))
      have n1 : o ≠ 1 := get_ne g1 ho (slot_ne (by omega))
      have n2 : o ≠ 2 := get_ne g2 ho (slot_ne (by omega))
      refine awp_dw [] mixed rfl ?_
      simp only [go_sem, R132_6, v132, p132, labOk_2, labOk_3, labOk_4, labOk_5, AO.touch, AO.sh, AR.sh, V.ids, V.idsL, List.mem_singleton, forall_eq, List.not_mem_nil, false_implies, implies_true, List.mem_cons, or_false, Nat.reduceLT, Nat.zero_lt_one, Nat.zero_ne_one, get_app g0, get_app g2, State.c]
      refine ⟨get_lt g2, ?_⟩
      refine run_see (implLeafSum_ok s k h) false (Views.refl rfl) rfl (fun j hj => by first | omega | ((have hj0 : j = 0 := by omega); subst hj0; first | rfl | (simp only [Nat.add_zero, app_get, app_getk, sapp_get, sapp_getk, Nat.add_assoc, Nat.reduceAdd, List.getElem?_cons_zero, List.getElem?_cons_succ]; done) | simp)) (fun h => by cases h) ?_
      simp only [go_sem, v132, p132, get_app ho, set_app ho, keep_get g2 n2, set_app (keep_set g2 n2), int_sing]
      refine ⟨by omega, ?_⟩
      refine awp_reg ?_
      simp only [go_sem, R132_7, v132, p132, wrap_succ (i := k) (by omega)]
      rw [← e1]
      refine ⟨4 - (k + 1), ?_, ?_⟩
      rotate_left
      rw [hJ]
      refine ⟨k + 1, .sl (σ.length + 1) 1 0 (k + 1), _, _, _, _, rfl, ?_, rfl, rfl⟩
      · refine ⟨by omega, keep2_get g0 n0 (by omega), keep2_get g1 n1 (by omega), ?_, .inr ⟨σ.length + 1, k + 1, rfl, by rw [rw_len, leavesS_len], by rw [sapp2_getk]; rfl⟩⟩
        rw [leavesS_len]; exact set2_get g2 n2 _
      · omega
  · intro h4
    refine awp_exit ?_
    simp only [go_sem]
    have : k = 4 := by omega
    subst this
    rcases hc with ⟨rfl, hn⟩ | ⟨o, n, rfl, hn, ho⟩
    · exact absurd (congrArg List.length hn) (by rw [rw_len, leavesS_len]; simp)
    rw [rw_len, leavesS_len] at hn
    subst hn
    have n1 : (1 : Nat) ≠ o := fun e => get_ne g1 ho (slot_ne (by omega)) e.symm
    have n2 : (2 : Nat) ≠ o := fun e => get_ne g2 ho (slot_ne (by omega)) e.symm
    refine awp_sr ?_
    simp only [go_sem, R132_8, v132, p132, g2]
    refine run_see (implRootOf_ok (leavesS s 4) (leavesS_fit s 4) (by rw [leavesS_len]; omega)) true (.cons (View.row (by simp) ho (by rw [rw_len, leavesS_len]) (rw_closed intC_closed _)) .nil) rfl (fun j hj => by omega) (fun _ => rfl) ?_
    simp only [go_sem, v132, p132, g2]
    refine awp_sr ?_
    simp only [go_sem, R132_9, v132, p132, get_set_same g2, keep_set g1 (show (2 : Nat) ≠ 1 by omega)]
    refine awp_ret ?_
    try simp only [go_sem]
    rw [hQ]
    refine Ends.all (.inl rfl) (rs := [.agg [.sl o 1 0 4, .int .i64 (rootI (leavesS s 4))]]) ?_ (.agg _ _ rfl (.cons (.sl o 1 4 _ (keep_set (keep_set ho n2) n1) (by rw [rw_len, leavesS_len]) (rw_closed intC_closed _)) (.cons (.same _ rfl) .nil))) rfl
    simp only [go_sem, O132, v132, get_set_same (keep_set g1 (show (2 : Nat) ≠ 1 by omega))]
end Go.Proofs.Ytffigokicddekaa.Abs
/- Logs, vectors, tables, rises, walked in both texts. No condition. -/
set_option linter.unusedVariables false
set_option linter.unusedSimpArgs false
set_option maxRecDepth 10000
namespace Go.Proofs.Ytffigokicddekaa.Abs
open Go Go.Proofs
def R135_0 : List AR := [⟨(some 2), none, 0, (.mov (.k (.int .i64 0)))⟩]
def R135_1 : List AR := [⟨(some 5), none, 0, (.mov (.t 0))⟩, ⟨(some 6), none, 0, (.len (.t 5))⟩, ⟨(some 7), none, 0, (.bin .lss (.t 6) (.k (.int .i64 1)))⟩]
def R135_2 : List AR := [⟨(some 9), none, 0, (.mov (.t 0))⟩, ⟨(some 10), none, 0, (.iaddr 1 (.t 9) (.k (.int .i64 0)))⟩, ⟨(some 11), none, 0, (.load 1 false (.t 10))⟩, ⟨(some 3), none, 0, (.mov (.t 11))⟩]
def R135_3 : List AR := [⟨(some 4), none, 0, (.mov (.k (.int .i64 1)))⟩]
def R135_4 : List AR := [⟨(some 12), none, 0, (.mov (.t 4))⟩, ⟨(some 13), none, 0, (.mov (.t 0))⟩, ⟨(some 14), none, 0, (.len (.t 13))⟩, ⟨(some 15), none, 0, (.bin .lss (.t 12) (.t 14))⟩]
def R135_5 : List AR := [⟨(some 18), none, 0, (.mov (.t 3))⟩, ⟨(some 19), none, 0, (.mov (.t 0))⟩, ⟨(some 20), none, 0, (.mov (.t 4))⟩, ⟨(some 21), none, 0, (.iaddr 1 (.t 19) (.t 20))⟩, ⟨(some 22), none, 0, (.load 1 false (.t 21))⟩, ⟨(some 23), none, 0, (.max [(.t 18), (.t 22)])⟩, ⟨(some 3), none, 0, (.mov (.t 23))⟩]
def R135_6 : List AR := [⟨(some 16), none, 0, (.mov (.t 4))⟩, ⟨(some 17), none, 0, (.bin .add (.t 16) (.k (.int .i64 1)))⟩, ⟨(some 4), none, 0, (.mov (.t 17))⟩]
def A135_0 : AC := (.seq (.block 1 (.reg 0 R135_5)) (.reg 0 R135_6))
def L135_0 : AC := (.seq (.seq (.reg 0 R135_4) (.cond (.t 15) .skip (.exit 0))) A135_0)
def R135_7 : List AR := [⟨(some 24), none, 0, (.mov (.t 3))⟩, ⟨(some 2), none, 0, (.mov (.t 24))⟩]
def A135_1 : AC := (.seq (.reg 0 R135_7) .ret)
def A135_2 : AC := (.seq (.seq (.reg 0 R135_3) (.block 0 (.loop L135_0))) A135_1)
def A135_3 : AC := (.seq (.reg 0 R135_2) A135_2)
def A135_4 : AC := (.seq (.seq (.reg 0 R135_1) (.cond (.t 7) .bad .skip)) A135_3)
def A135 : AC := (.seq (.reg 0 R135_0) A135_4)
def O135 : List AO := [(.mov (.t 2))]
def G135 : Fns := ⟨fun f => false, fun f => 0, false⟩
noncomputable def X135 : Cx := ⟨Try.prog, G135, drawD, 25, [0, 2, 3, 4, 7, 15]⟩
theorem c135 : (Try.f135.body).bind (compC X135.P X135.Γ X135.D X135.nt) = some A135 := by kernel_rfl
theorem o135 : compRes X135.P Try.f135.results.toList = some O135 := by kernel_rfl
theorem v135 : X135.vs = [0, 2, 3, 4, 7, 15] := rfl
theorem p135 : X135.P = Try.prog := rfl
def R124_0 : List AR := [⟨(some 1), none, 0, (.box 0 3 (.t 0))⟩, ⟨(some 2), none, 0, (.mov (.k (.bool false)))⟩]
def R124_1 : List AR := [⟨(some 4), none, 0, (.faddr 0 (.t 1))⟩, ⟨(some 5), none, 0, (.load 1 false (.t 4))⟩, ⟨(some 6), none, 0, (.call false 0 0 101 [(.t 5), (.k (.int .i64 1)), (.k (.int .i64 8))])⟩, ⟨(some 7), none, 0, (.not (.t 6))⟩, ⟨(some 8), none, 0, (.mov (.t 7))⟩, ⟨(some 9), (some (8, false)), 0, (.faddr 2 (.t 1))⟩, ⟨(some 10), (some (8, false)), 0, (.load 1 false (.t 9))⟩, ⟨(some 11), (some (8, false)), 0, (.len (.t 10))⟩, ⟨(some 12), (some (8, false)), 0, (.faddr 0 (.t 1))⟩, ⟨(some 13), (some (8, false)), 0, (.load 1 false (.t 12))⟩, ⟨(some 14), (some (8, false)), 0, (.bin .gtr (.t 11) (.t 13))⟩, ⟨(some 15), none, 0, (.pick (.t 8) (.k (.bool true)) (.t 14))⟩, ⟨(some 16), none, 0, (.mov (.t 15))⟩, ⟨(some 17), (some (16, false)), 0, (.faddr 1 (.t 1))⟩, ⟨(some 18), (some (16, false)), 0, (.load 1 false (.t 17))⟩, ⟨(some 19), (some (16, false)), 0, (.call false 0 0 101 [(.t 18), (.k (.int .i64 0)), (.k (.int .i64 100000))])⟩, ⟨(some 20), (some (16, false)), 0, (.not (.t 19))⟩, ⟨(some 21), none, 0, (.pick (.t 16) (.k (.bool true)) (.t 20))⟩, ⟨(some 22), none, 0, (.mov (.t 21))⟩, ⟨(some 23), (some (22, false)), 0, (.faddr 1 (.t 1))⟩, ⟨(some 24), (some (22, false)), 0, (.load 1 false (.t 23))⟩, ⟨(some 25), (some (22, false)), 0, (.faddr 2 (.t 1))⟩, ⟨(some 26), (some (22, false)), 0, (.load 1 false (.t 25))⟩, ⟨(some 27), (some (22, false)), 0, (.len (.t 26))⟩, ⟨(some 28), (some (22, false)), 0, (.bin .add (.t 24) (.t 27))⟩, ⟨(some 29), (some (22, false)), 0, (.bin .gtr (.t 28) (.k (.int .i64 100000)))⟩, ⟨(some 30), none, 0, (.pick (.t 22) (.k (.bool true)) (.t 29))⟩]
def R124_2 : List AR := [⟨(some 2), none, 0, (.mov (.k (.bool false)))⟩]
def R124_3 : List AR := [⟨(some 3), none, 0, (.mov (.k (.int .i64 0)))⟩]
def R124_4 : List AR := [⟨(some 31), none, 0, (.mov (.t 3))⟩, ⟨(some 32), none, 0, (.faddr 2 (.t 1))⟩, ⟨(some 33), none, 0, (.load 1 false (.t 32))⟩, ⟨(some 34), none, 0, (.len (.t 33))⟩, ⟨(some 35), none, 0, (.bin .lss (.t 31) (.t 34))⟩]
def R124_5 : List AR := [⟨(some 38), none, 0, (.faddr 2 (.t 1))⟩, ⟨(some 39), none, 0, (.load 1 false (.t 38))⟩, ⟨(some 40), none, 0, (.mov (.t 3))⟩, ⟨(some 41), none, 0, (.iaddr 2 (.t 39) (.t 40))⟩, ⟨(some 42), none, 0, (.load 2 true (.t 41))⟩, ⟨(some 43), none, 0, (.call false 0 0 55 [(.t 42)])⟩, ⟨(some 44), none, 0, (.not (.t 43))⟩]
def R124_6 : List AR := [⟨(some 2), none, 0, (.mov (.k (.bool false)))⟩]
def R124_7 : List AR := [⟨(some 36), none, 0, (.mov (.t 3))⟩, ⟨(some 37), none, 0, (.bin .add (.t 36) (.k (.int .i64 1)))⟩, ⟨(some 3), none, 0, (.mov (.t 37))⟩]
def A124_0 : AC := (.seq (.block 1 (.seq (.reg 0 R124_5) (.cond (.t 44) (.seq (.reg 0 R124_6) .ret) .skip))) (.reg 0 R124_7))
def L124_0 : AC := (.seq (.seq (.reg 0 R124_4) (.cond (.t 35) .skip (.exit 0))) A124_0)
def R124_8 : List AR := [⟨(some 2), none, 0, (.mov (.k (.bool true)))⟩]
def A124_1 : AC := (.seq (.reg 0 R124_8) .ret)
def A124_2 : AC := (.seq (.seq (.reg 0 R124_3) (.block 0 (.loop L124_0))) A124_1)
def A124_3 : AC := (.seq (.seq (.reg 0 R124_1) (.cond (.t 30) (.seq (.reg 0 R124_2) .ret) .skip)) A124_2)
def A124 : AC := (.seq (.reg 1 R124_0) A124_3)
def O124 : List AO := [(.mov (.t 2))]
def G124 : Fns := ⟨fun f => false, fun f => 0, false⟩
noncomputable def X124 : Cx := ⟨Try.prog, G124, drawD, 45, [0, 1, 2, 3, 30, 35, 44]⟩
theorem c124 : (Try.f124.body).bind (compC X124.P X124.Γ X124.D X124.nt) = some A124 := by kernel_rfl
theorem o124 : compRes X124.P Try.f124.results.toList = some O124 := by kernel_rfl
theorem v124 : X124.vs = [0, 1, 2, 3, 30, 35, 44] := rfl
theorem p124 : X124.P = Try.prog := rfl
def R133_0 : List AR := [⟨(some 1), none, 0, (.box 0 3 (.t 0))⟩, ⟨(some 2), none, 0, (.mov (.k (.bool false)))⟩]
def R133_1 : List AR := [⟨(some 5), none, 0, (.faddr 2 (.t 1))⟩, ⟨(some 6), none, 0, (.load 1 false (.t 5))⟩, ⟨(some 7), none, 0, (.len (.t 6))⟩, ⟨(some 8), none, 0, (.mov (.k (.int .i64 0)))⟩]
def R133_2 : List AR := [⟨(some 9), none, 0, (.bin .lss (.t 8) (.t 7))⟩]
def R133_3 : List AR := [⟨(some 10), none, 0, (.iaddr 2 (.t 6) (.t 8))⟩, ⟨(some 11), none, 0, (.load 2 true (.t 10))⟩, ⟨(some 4), none, 0, (.alloc 0 2 [.nl, .nl])⟩, ⟨none, none, 0, (.store 2 (.t 4) (.t 11))⟩]
def R133_4 : List AR := [⟨(some 12), none, 0, (.load 2 true (.t 4))⟩, ⟨(some 13), none, 0, (.call false 0 0 59 [(.t 12)])⟩, ⟨(some 14), none, 0, (.not (.t 13))⟩]
def R133_5 : List AR := [⟨(some 2), none, 0, (.mov (.k (.bool false)))⟩]
def A133_0 : AC := (.seq (.reg 0 R133_4) (.cond (.t 14) (.seq (.reg 0 R133_5) .ret) .skip))
def R133_6 : List AR := [⟨(some 15), none, 0, (.bin .add (.t 8) (.k (.int .i64 1)))⟩, ⟨(some 8), none, 0, (.mov (.t 15))⟩]
def A133_1 : AC := (.seq (.block 1 (.seq (.reg 1 R133_3) A133_0)) (.reg 0 R133_6))
def A133_2 : AC := (.seq (.cond (.t 9) .skip (.exit 0)) A133_1)
def L133_0 : AC := (.seq (.reg 0 R133_2) A133_2)
def R133_7 : List AR := [⟨(some 16), none, 0, (.faddr 0 (.t 1))⟩, ⟨(some 17), none, 0, (.load 1 false (.t 16))⟩, ⟨(some 18), none, 0, (.call false 0 0 105 [(.t 17), (.k (.int .i64 1)), (.k (.int .i64 8))])⟩, ⟨(some 19), none, 0, (.mov (.t 18))⟩, ⟨(some 20), (some (19, true)), 0, (.faddr 2 (.t 1))⟩, ⟨(some 21), (some (19, true)), 0, (.load 1 false (.t 20))⟩, ⟨(some 22), (some (19, true)), 0, (.len (.t 21))⟩, ⟨(some 23), (some (19, true)), 0, (.faddr 0 (.t 1))⟩, ⟨(some 24), (some (19, true)), 0, (.load 1 false (.t 23))⟩, ⟨(some 25), (some (19, true)), 0, (.bin .leq (.t 22) (.t 24))⟩, ⟨(some 26), none, 0, (.pick (.t 19) (.t 25) (.k (.bool false)))⟩, ⟨(some 27), none, 0, (.mov (.t 26))⟩, ⟨(some 28), (some (27, true)), 0, (.faddr 1 (.t 1))⟩, ⟨(some 29), (some (27, true)), 0, (.load 1 false (.t 28))⟩, ⟨(some 30), (some (27, true)), 0, (.call false 0 0 105 [(.t 29), (.k (.int .i64 0)), (.k (.int .i64 100000))])⟩, ⟨(some 31), none, 0, (.pick (.t 27) (.t 30) (.k (.bool false)))⟩, ⟨(some 32), none, 0, (.mov (.t 31))⟩, ⟨(some 33), (some (32, true)), 0, (.faddr 1 (.t 1))⟩, ⟨(some 34), (some (32, true)), 0, (.load 1 false (.t 33))⟩, ⟨(some 35), (some (32, true)), 0, (.faddr 2 (.t 1))⟩, ⟨(some 36), (some (32, true)), 0, (.load 1 false (.t 35))⟩, ⟨(some 37), (some (32, true)), 0, (.len (.t 36))⟩, ⟨(some 38), (some (32, true)), 0, (.bin .add (.t 34) (.t 37))⟩, ⟨(some 39), (some (32, true)), 0, (.bin .leq (.t 38) (.k (.int .i64 100000)))⟩, ⟨(some 40), none, 0, (.pick (.t 32) (.t 39) (.k (.bool false)))⟩, ⟨(some 2), none, 0, (.mov (.t 40))⟩]
def A133_3 : AC := (.seq (.reg 0 R133_7) .ret)
def A133_4 : AC := (.seq (.seq (.reg 0 R133_1) (.block 0 (.loop L133_0))) A133_3)
def A133 : AC := (.seq (.reg 1 R133_0) A133_4)
def O133 : List AO := [(.mov (.t 2))]
def G133 : Fns := ⟨fun f => false, fun f => 0, false⟩
noncomputable def X133 : Cx := ⟨Try.prog, G133, drawD, 41, [0, 1, 2, 4, 6, 7, 8, 9, 14]⟩
theorem c133 : (Try.f133.body).bind (compC X133.P X133.Γ X133.D X133.nt) = some A133 := by kernel_rfl
theorem o133 : compRes X133.P Try.f133.results.toList = some O133 := by kernel_rfl
theorem v133 : X133.vs = [0, 1, 2, 4, 6, 7, 8, 9, 14] := rfl
theorem p133 : X133.P = Try.prog := rfl
def R91_0 : List AR := [⟨(some 1), none, 0, (.box 0 3 (.t 0))⟩, ⟨(some 2), none, 0, (.mov (.k (.int .i64 0)))⟩]
def R91_1 : List AR := [⟨(some 3), none, 0, (.load 3 true (.t 1))⟩, ⟨(some 4), none, 0, (.call false 0 0 124 [(.t 3)])⟩, ⟨(some 5), none, 0, (.not (.t 4))⟩]
def R91_2 : List AR := [⟨(some 2), none, 0, (.mov (.k (.int .i64 0)))⟩]
def R91_3 : List AR := [⟨(some 6), none, 0, (.faddr 1 (.t 1))⟩, ⟨(some 7), none, 0, (.load 1 false (.t 6))⟩, ⟨(some 8), none, 0, (.faddr 2 (.t 1))⟩, ⟨(some 9), none, 0, (.load 1 false (.t 8))⟩, ⟨(some 10), none, 0, (.len (.t 9))⟩, ⟨(some 11), none, 0, (.bin .add (.t 7) (.t 10))⟩, ⟨(some 2), none, 0, (.mov (.t 11))⟩]
def A91_0 : AC := (.seq (.reg 0 R91_3) .ret)
def A91_1 : AC := (.seq (.seq (.reg 0 R91_1) (.cond (.t 5) (.seq (.reg 0 R91_2) .ret) .skip)) A91_0)
def A91 : AC := (.seq (.reg 1 R91_0) A91_1)
def O91 : List AO := [(.mov (.t 2))]
def G91 : Fns := ⟨fun f => false, fun f => 0, false⟩
noncomputable def X91 : Cx := ⟨Try.prog, G91, drawD, 12, [0, 1, 2, 5]⟩
theorem c91 : (Try.f91.body).bind (compC X91.P X91.Γ X91.D X91.nt) = some A91 := by kernel_rfl
theorem o91 : compRes X91.P Try.f91.results.toList = some O91 := by kernel_rfl
theorem v91 : X91.vs = [0, 1, 2, 5] := rfl
theorem p91 : X91.P = Try.prog := rfl
def R93_0 : List AR := [⟨(some 1), none, 0, (.box 0 3 (.t 0))⟩, ⟨(some 2), none, 0, (.mov (.k (.int .i64 0)))⟩]
def R93_1 : List AR := [⟨(some 3), none, 0, (.load 3 true (.t 1))⟩, ⟨(some 4), none, 0, (.call false 0 0 133 [(.t 3)])⟩, ⟨(some 5), none, 0, (.not (.t 4))⟩]
def R93_2 : List AR := [⟨(some 2), none, 0, (.mov (.k (.int .i64 0)))⟩]
def R93_3 : List AR := [⟨(some 6), none, 0, (.faddr 1 (.t 1))⟩, ⟨(some 7), none, 0, (.load 1 false (.t 6))⟩, ⟨(some 8), none, 0, (.faddr 2 (.t 1))⟩, ⟨(some 9), none, 0, (.load 1 false (.t 8))⟩, ⟨(some 10), none, 0, (.len (.t 9))⟩, ⟨(some 11), none, 0, (.bin .add (.t 7) (.t 10))⟩, ⟨(some 2), none, 0, (.mov (.t 11))⟩]
def A93_0 : AC := (.seq (.reg 0 R93_3) .ret)
def A93_1 : AC := (.seq (.seq (.reg 0 R93_1) (.cond (.t 5) (.seq (.reg 0 R93_2) .ret) .skip)) A93_0)
def A93 : AC := (.seq (.reg 1 R93_0) A93_1)
def O93 : List AO := [(.mov (.t 2))]
def G93 : Fns := ⟨fun f => false, fun f => 0, false⟩
noncomputable def X93 : Cx := ⟨Try.prog, G93, drawD, 12, [0, 1, 2, 5]⟩
theorem c93 : (Try.f93.body).bind (compC X93.P X93.Γ X93.D X93.nt) = some A93 := by kernel_rfl
theorem o93 : compRes X93.P Try.f93.results.toList = some O93 := by kernel_rfl
theorem v93 : X93.vs = [0, 1, 2, 5] := rfl
theorem p93 : X93.P = Try.prog := rfl
def R125_0 : List AR := [⟨(some 4), none, 0, (.mov (.k (.bool false)))⟩]
def R125_1 : List AR := [⟨(some 6), none, 0, (.mov (.t 1))⟩, ⟨(some 7), none, 0, (.call false 0 0 101 [(.t 6), (.k (.int .i64 1)), (.k (.int .i64 5))])⟩, ⟨(some 8), none, 0, (.not (.t 7))⟩, ⟨(some 9), none, 0, (.mov (.t 8))⟩, ⟨(some 10), (some (9, false)), 0, (.mov (.t 0))⟩, ⟨(some 11), (some (9, false)), 0, (.len (.t 10))⟩, ⟨(some 12), (some (9, false)), 0, (.mov (.t 1))⟩, ⟨(some 13), (some (9, false)), 0, (.bin .neq (.t 11) (.t 12))⟩, ⟨(some 14), none, 0, (.pick (.t 9) (.k (.bool true)) (.t 13))⟩]
def R125_2 : List AR := [⟨(some 4), none, 0, (.mov (.k (.bool false)))⟩]
def R125_3 : List AR := [⟨(some 5), none, 0, (.mov (.k (.int .i64 0)))⟩]
def R125_4 : List AR := [⟨(some 15), none, 0, (.mov (.t 5))⟩, ⟨(some 16), none, 0, (.mov (.t 1))⟩, ⟨(some 17), none, 0, (.bin .lss (.t 15) (.t 16))⟩]
def R125_5 : List AR := [⟨(some 20), none, 0, (.mov (.t 0))⟩, ⟨(some 21), none, 0, (.mov (.t 5))⟩, ⟨(some 22), none, 0, (.iaddr 1 (.t 20) (.t 21))⟩, ⟨(some 23), none, 0, (.load 1 false (.t 22))⟩, ⟨(some 24), none, 0, (.call false 0 0 101 [(.t 23), (.k (.int .i64 0)), (.k (.int .i64 100000))])⟩, ⟨(some 25), none, 0, (.not (.t 24))⟩]
def R125_6 : List AR := [⟨(some 4), none, 0, (.mov (.k (.bool false)))⟩]
def R125_7 : List AR := [⟨(some 18), none, 0, (.mov (.t 5))⟩, ⟨(some 19), none, 0, (.bin .add (.t 18) (.k (.int .i64 1)))⟩, ⟨(some 5), none, 0, (.mov (.t 19))⟩]
def A125_0 : AC := (.seq (.block 1 (.seq (.reg 0 R125_5) (.cond (.t 25) (.seq (.reg 0 R125_6) .ret) .skip))) (.reg 0 R125_7))
def L125_0 : AC := (.seq (.seq (.reg 0 R125_4) (.cond (.t 17) .skip (.exit 0))) A125_0)
def R125_8 : List AR := [⟨(some 4), none, 0, (.mov (.k (.bool true)))⟩]
def A125_1 : AC := (.seq (.reg 0 R125_8) .ret)
def A125_2 : AC := (.seq (.seq (.reg 0 R125_3) (.block 0 (.loop L125_0))) A125_1)
def A125_3 : AC := (.seq (.seq (.reg 0 R125_1) (.cond (.t 14) (.seq (.reg 0 R125_2) .ret) .skip)) A125_2)
def A125 : AC := (.seq (.reg 0 R125_0) A125_3)
def O125 : List AO := [(.mov (.t 4))]
def G125 : Fns := ⟨fun f => false, fun f => 0, false⟩
noncomputable def X125 : Cx := ⟨Try.prog, G125, drawD, 26, [0, 1, 4, 5, 14, 17, 25]⟩
theorem c125 : (Try.f125.body).bind (compC X125.P X125.Γ X125.D X125.nt) = some A125 := by kernel_rfl
theorem o125 : compRes X125.P Try.f125.results.toList = some O125 := by kernel_rfl
theorem v125 : X125.vs = [0, 1, 4, 5, 14, 17, 25] := rfl
theorem p125 : X125.P = Try.prog := rfl
def R134_0 : List AR := [⟨(some 4), none, 0, (.mov (.k (.bool false)))⟩]
def R134_1 : List AR := [⟨(some 7), none, 0, (.mov (.t 0))⟩, ⟨(some 8), none, 0, (.len (.t 7))⟩, ⟨(some 9), none, 0, (.mov (.k (.int .i64 0)))⟩]
def R134_2 : List AR := [⟨(some 10), none, 0, (.bin .lss (.t 9) (.t 8))⟩]
def R134_3 : List AR := [⟨(some 11), none, 0, (.iaddr 1 (.t 7) (.t 9))⟩, ⟨(some 12), none, 0, (.load 1 false (.t 11))⟩, ⟨(some 6), none, 0, (.mov (.t 12))⟩]
def R134_4 : List AR := [⟨(some 13), none, 0, (.mov (.t 6))⟩, ⟨(some 14), none, 0, (.call false 0 0 105 [(.t 13), (.k (.int .i64 0)), (.k (.int .i64 100000))])⟩, ⟨(some 15), none, 0, (.not (.t 14))⟩]
def R134_5 : List AR := [⟨(some 4), none, 0, (.mov (.k (.bool false)))⟩]
def A134_0 : AC := (.seq (.reg 0 R134_4) (.cond (.t 15) (.seq (.reg 0 R134_5) .ret) .skip))
def R134_6 : List AR := [⟨(some 16), none, 0, (.bin .add (.t 9) (.k (.int .i64 1)))⟩, ⟨(some 9), none, 0, (.mov (.t 16))⟩]
def A134_1 : AC := (.seq (.block 1 (.seq (.reg 0 R134_3) A134_0)) (.reg 0 R134_6))
def A134_2 : AC := (.seq (.cond (.t 10) .skip (.exit 0)) A134_1)
def L134_0 : AC := (.seq (.reg 0 R134_2) A134_2)
def R134_7 : List AR := [⟨(some 17), none, 0, (.mov (.t 1))⟩, ⟨(some 18), none, 0, (.call false 0 0 105 [(.t 17), (.k (.int .i64 1)), (.k (.int .i64 5))])⟩, ⟨(some 19), none, 0, (.mov (.t 18))⟩, ⟨(some 20), (some (19, true)), 0, (.mov (.t 0))⟩, ⟨(some 21), (some (19, true)), 0, (.len (.t 20))⟩, ⟨(some 22), (some (19, true)), 0, (.mov (.t 1))⟩, ⟨(some 23), (some (19, true)), 0, (.bin .eql (.t 21) (.t 22))⟩, ⟨(some 24), none, 0, (.pick (.t 19) (.t 23) (.k (.bool false)))⟩, ⟨(some 4), none, 0, (.mov (.t 24))⟩]
def A134_3 : AC := (.seq (.reg 0 R134_7) .ret)
def A134_4 : AC := (.seq (.seq (.reg 0 R134_1) (.block 0 (.loop L134_0))) A134_3)
def A134 : AC := (.seq (.reg 0 R134_0) A134_4)
def O134 : List AO := [(.mov (.t 4))]
def G134 : Fns := ⟨fun f => false, fun f => 0, false⟩
noncomputable def X134 : Cx := ⟨Try.prog, G134, drawD, 25, [0, 1, 4, 6, 7, 8, 9, 10, 15]⟩
theorem c134 : (Try.f134.body).bind (compC X134.P X134.Γ X134.D X134.nt) = some A134 := by kernel_rfl
theorem o134 : compRes X134.P Try.f134.results.toList = some O134 := by kernel_rfl
theorem v134 : X134.vs = [0, 1, 4, 6, 7, 8, 9, 10, 15] := rfl
theorem p134 : X134.P = Try.prog := rfl
def R126_0 : List AR := [⟨(some 4), none, 0, (.mov (.k (.bool false)))⟩]
def R126_1 : List AR := [⟨(some 7), none, 0, (.mov (.t 1))⟩, ⟨(some 8), none, 0, (.call false 0 0 101 [(.t 7), (.k (.int .i64 1)), (.k (.int .i64 5))])⟩, ⟨(some 9), none, 0, (.not (.t 8))⟩, ⟨(some 10), none, 0, (.mov (.t 9))⟩, ⟨(some 11), (some (10, false)), 0, (.mov (.t 0))⟩, ⟨(some 12), (some (10, false)), 0, (.len (.t 11))⟩, ⟨(some 13), (some (10, false)), 0, (.mov (.t 1))⟩, ⟨(some 14), (some (10, false)), 0, (.bin .neq (.t 12) (.t 13))⟩, ⟨(some 15), none, 0, (.pick (.t 10) (.k (.bool true)) (.t 14))⟩]
def R126_2 : List AR := [⟨(some 4), none, 0, (.mov (.k (.bool false)))⟩]
def R126_3 : List AR := [⟨(some 5), none, 0, (.mov (.k (.int .i64 0)))⟩]
def R126_4 : List AR := [⟨(some 16), none, 0, (.mov (.t 5))⟩, ⟨(some 17), none, 0, (.mov (.t 1))⟩, ⟨(some 18), none, 0, (.bin .lss (.t 16) (.t 17))⟩]
def R126_5 : List AR := [⟨(some 21), none, 0, (.mov (.t 0))⟩, ⟨(some 22), none, 0, (.mov (.t 5))⟩, ⟨(some 23), none, 0, (.iaddr 1 (.t 21) (.t 22))⟩, ⟨(some 24), none, 0, (.load 1 false (.t 23))⟩, ⟨(some 25), none, 0, (.len (.t 24))⟩, ⟨(some 26), none, 0, (.bin .neq (.t 25) (.k (.int .i64 5)))⟩]
def R126_6 : List AR := [⟨(some 4), none, 0, (.mov (.k (.bool false)))⟩]
def R126_7 : List AR := [⟨(some 6), none, 0, (.mov (.k (.int .i64 0)))⟩]
def R126_8 : List AR := [⟨(some 27), none, 0, (.mov (.t 6))⟩, ⟨(some 28), none, 0, (.mov (.t 0))⟩, ⟨(some 29), none, 0, (.mov (.t 5))⟩, ⟨(some 30), none, 0, (.iaddr 1 (.t 28) (.t 29))⟩, ⟨(some 31), none, 0, (.load 1 false (.t 30))⟩, ⟨(some 32), none, 0, (.len (.t 31))⟩, ⟨(some 33), none, 0, (.bin .lss (.t 27) (.t 32))⟩]
def R126_9 : List AR := [⟨(some 36), none, 0, (.mov (.t 0))⟩, ⟨(some 37), none, 0, (.mov (.t 5))⟩, ⟨(some 38), none, 0, (.iaddr 1 (.t 36) (.t 37))⟩, ⟨(some 39), none, 0, (.load 1 false (.t 38))⟩, ⟨(some 40), none, 0, (.mov (.t 6))⟩, ⟨(some 41), none, 0, (.iaddr 1 (.t 39) (.t 40))⟩, ⟨(some 42), none, 0, (.load 1 false (.t 41))⟩, ⟨(some 43), none, 0, (.call false 0 0 101 [(.t 42), (.k (.int .i64 0)), (.k (.int .i64 1000))])⟩, ⟨(some 44), none, 0, (.not (.t 43))⟩]
def R126_10 : List AR := [⟨(some 4), none, 0, (.mov (.k (.bool false)))⟩]
def R126_11 : List AR := [⟨(some 34), none, 0, (.mov (.t 6))⟩, ⟨(some 35), none, 0, (.bin .add (.t 34) (.k (.int .i64 1)))⟩, ⟨(some 6), none, 0, (.mov (.t 35))⟩]
def A126_0 : AC := (.seq (.block 3 (.seq (.reg 0 R126_9) (.cond (.t 44) (.seq (.reg 0 R126_10) .ret) .skip))) (.reg 0 R126_11))
def L126_0 : AC := (.seq (.seq (.reg 0 R126_8) (.cond (.t 33) .skip (.exit 2))) A126_0)
def A126_1 : AC := (.seq (.reg 0 R126_7) (.block 2 (.loop L126_0)))
def R126_12 : List AR := [⟨(some 19), none, 0, (.mov (.t 5))⟩, ⟨(some 20), none, 0, (.bin .add (.t 19) (.k (.int .i64 1)))⟩, ⟨(some 5), none, 0, (.mov (.t 20))⟩]
def A126_2 : AC := (.seq (.block 1 (.seq (.seq (.reg 0 R126_5) (.cond (.t 26) (.seq (.reg 0 R126_6) .ret) .skip)) A126_1)) (.reg 0 R126_12))
def L126_1 : AC := (.seq (.seq (.reg 0 R126_4) (.cond (.t 18) .skip (.exit 0))) A126_2)
def R126_13 : List AR := [⟨(some 4), none, 0, (.mov (.k (.bool true)))⟩]
def A126_3 : AC := (.seq (.reg 0 R126_13) .ret)
def A126_4 : AC := (.seq (.seq (.reg 0 R126_3) (.block 0 (.loop L126_1))) A126_3)
def A126_5 : AC := (.seq (.seq (.reg 0 R126_1) (.cond (.t 15) (.seq (.reg 0 R126_2) .ret) .skip)) A126_4)
def A126 : AC := (.seq (.reg 0 R126_0) A126_5)
def O126 : List AO := [(.mov (.t 4))]
def G126 : Fns := ⟨fun f => false, fun f => 0, false⟩
noncomputable def X126 : Cx := ⟨Try.prog, G126, drawD, 45, [0, 1, 4, 5, 6, 15, 18, 26, 33, 44]⟩
theorem c126 : (Try.f126.body).bind (compC X126.P X126.Γ X126.D X126.nt) = some A126 := by kernel_rfl
theorem o126 : compRes X126.P Try.f126.results.toList = some O126 := by kernel_rfl
theorem v126 : X126.vs = [0, 1, 4, 5, 6, 15, 18, 26, 33, 44] := rfl
theorem p126 : X126.P = Try.prog := rfl
def R136_0 : List AR := [⟨(some 4), none, 0, (.mov (.k (.bool false)))⟩]
def R136_1 : List AR := [⟨(some 9), none, 0, (.mov (.t 0))⟩, ⟨(some 10), none, 0, (.len (.t 9))⟩, ⟨(some 11), none, 0, (.mov (.k (.int .i64 0)))⟩]
def R136_2 : List AR := [⟨(some 12), none, 0, (.bin .lss (.t 11) (.t 10))⟩]
def R136_3 : List AR := [⟨(some 13), none, 0, (.iaddr 1 (.t 9) (.t 11))⟩, ⟨(some 14), none, 0, (.load 1 false (.t 13))⟩, ⟨(some 6), none, 0, (.mov (.t 14))⟩]
def R136_4 : List AR := [⟨(some 15), none, 0, (.mov (.t 6))⟩, ⟨(some 16), none, 0, (.len (.t 15))⟩, ⟨(some 17), none, 0, (.mov (.k (.int .i64 0)))⟩]
def R136_5 : List AR := [⟨(some 18), none, 0, (.bin .lss (.t 17) (.t 16))⟩]
def R136_6 : List AR := [⟨(some 19), none, 0, (.iaddr 1 (.t 15) (.t 17))⟩, ⟨(some 20), none, 0, (.load 1 false (.t 19))⟩, ⟨(some 8), none, 0, (.mov (.t 20))⟩]
def R136_7 : List AR := [⟨(some 21), none, 0, (.mov (.t 8))⟩, ⟨(some 22), none, 0, (.call false 0 0 105 [(.t 21), (.k (.int .i64 0)), (.k (.int .i64 1000))])⟩, ⟨(some 23), none, 0, (.not (.t 22))⟩]
def R136_8 : List AR := [⟨(some 4), none, 0, (.mov (.k (.bool false)))⟩]
def A136_0 : AC := (.seq (.reg 0 R136_7) (.cond (.t 23) (.seq (.reg 0 R136_8) .ret) .skip))
def R136_9 : List AR := [⟨(some 24), none, 0, (.bin .add (.t 17) (.k (.int .i64 1)))⟩, ⟨(some 17), none, 0, (.mov (.t 24))⟩]
def A136_1 : AC := (.seq (.block 3 (.seq (.reg 0 R136_6) A136_0)) (.reg 0 R136_9))
def A136_2 : AC := (.seq (.cond (.t 18) .skip (.exit 2)) A136_1)
def L136_0 : AC := (.seq (.reg 0 R136_5) A136_2)
def R136_10 : List AR := [⟨(some 25), none, 0, (.mov (.t 6))⟩, ⟨(some 26), none, 0, (.len (.t 25))⟩, ⟨(some 27), none, 0, (.bin .neq (.t 26) (.k (.int .i64 5)))⟩]
def R136_11 : List AR := [⟨(some 4), none, 0, (.mov (.k (.bool false)))⟩]
def A136_3 : AC := (.seq (.reg 0 R136_10) (.cond (.t 27) (.seq (.reg 0 R136_11) .ret) .skip))
def A136_4 : AC := (.seq (.seq (.reg 0 R136_4) (.block 2 (.loop L136_0))) A136_3)
def R136_12 : List AR := [⟨(some 28), none, 0, (.bin .add (.t 11) (.k (.int .i64 1)))⟩, ⟨(some 11), none, 0, (.mov (.t 28))⟩]
def A136_5 : AC := (.seq (.block 1 (.seq (.reg 0 R136_3) A136_4)) (.reg 0 R136_12))
def A136_6 : AC := (.seq (.cond (.t 12) .skip (.exit 0)) A136_5)
def L136_1 : AC := (.seq (.reg 0 R136_2) A136_6)
def R136_13 : List AR := [⟨(some 29), none, 0, (.mov (.t 1))⟩, ⟨(some 30), none, 0, (.call false 0 0 105 [(.t 29), (.k (.int .i64 1)), (.k (.int .i64 5))])⟩, ⟨(some 31), none, 0, (.mov (.t 30))⟩, ⟨(some 32), (some (31, true)), 0, (.mov (.t 0))⟩, ⟨(some 33), (some (31, true)), 0, (.len (.t 32))⟩, ⟨(some 34), (some (31, true)), 0, (.mov (.t 1))⟩, ⟨(some 35), (some (31, true)), 0, (.bin .eql (.t 33) (.t 34))⟩, ⟨(some 36), none, 0, (.pick (.t 31) (.t 35) (.k (.bool false)))⟩, ⟨(some 4), none, 0, (.mov (.t 36))⟩]
def A136_7 : AC := (.seq (.reg 0 R136_13) .ret)
def A136_8 : AC := (.seq (.seq (.reg 0 R136_1) (.block 0 (.loop L136_1))) A136_7)
def A136 : AC := (.seq (.reg 0 R136_0) A136_8)
def O136 : List AO := [(.mov (.t 4))]
def G136 : Fns := ⟨fun f => false, fun f => 0, false⟩
noncomputable def X136 : Cx := ⟨Try.prog, G136, drawD, 37, [0, 1, 4, 6, 8, 9, 10, 11, 12, 15, 16, 17, 18, 23, 27]⟩
theorem c136 : (Try.f136.body).bind (compC X136.P X136.Γ X136.D X136.nt) = some A136 := by kernel_rfl
theorem o136 : compRes X136.P Try.f136.results.toList = some O136 := by kernel_rfl
theorem v136 : X136.vs = [0, 1, 4, 6, 8, 9, 10, 11, 12, 15, 16, 17, 18, 23, 27] := rfl
theorem p136 : X136.P = Try.prog := rfl
def Log.H (l : Log) : Prop := (1 ≤ l.cap ∧ l.cap ≤ 8) ∧ (l.list.length : Int) ≤ l.cap ∧ (0 ≤ l.from_ ∧ l.from_ ≤ 100000) ∧ l.from_ + (l.list.length : Int) ≤ 100000
def Log.Right (l : Log) : Prop := l.H ∧ ∀ (j : Nat) s, l.list[j]? = some s → s.Right
noncomputable instance (l : Log) : Decidable l.H := Classical.propDecidable _
noncomputable instance (l : Log) : Decidable l.Right := Classical.propDecidable _
theorem log_at {l : Log} (h : l.sz ≤ 1048576) {i : Nat} (h1 : i < l.list.length) : l.list[i].sz ≤ 1048576 := by
  have h2 : l.list.length + sumBy State.sz l.list ≤ 1048576 := h
  have := sumBy_get State.sz h1
  omega
set_option maxHeartbeats 1000000 in
theorem specLogOk_ok (l : Log) (h : l.sz ≤ 1048576) : FS Try.prog 124 [] [.agg l.c] (.bool (decide l.Right)) [] := by
  refine FS.of (X := X124) (ac := A124) (os := O124) Try.func124 (by rfl) (by rfl) (by kernel_rfl) o124 (Nat.le_of_ble_eq_true rfl) ?_
  show AWP X124 A124 (Ends X124.vs O124 0 _ _) [.agg l.c, .tup [], .tup [], .tup [], .tup [], .tup [], .tup []] []
  obtain ⟨Q, hQ⟩ : ∃ Q, Q = Ends X124.vs O124 0 (.bool (decide l.Right)) [] := ⟨_, rfl⟩
  rw [← hQ]
  have hl : l.list.length + sumBy State.sz l.list ≤ 1048576 := h
  have fin : ∀ L σ vV, resVs O124 (look X124.vs L) σ = some [vV] → vV = (.bool (decide l.Right)) → Q .ret L σ := by
    intro L σ vV h1 h2
    rw [hQ]
    exact Ends.is (.inl rfl) h1 (by simp only [packV, h2]) rfl
  refine awp_sr ?_
  simp only [go_sem, R124_0, v124, p124, Log.c]
  obtain ⟨K1, hK1⟩ : ∃ K : List V → Store → Prop, K = fun L σ => ∃ q y0 y2 y3 y35 y44, L = [y0, .ptr 0 3 0 0, y2, y3, .bool q, y35, y44] ∧ σ = [.live ⟨3, [l.c]⟩] ∧ q = !decide l.H := ⟨_, rfl⟩
  refine awp_sr2K (K1) ?_ ?_
  · simp only [go_sem, R124_1, v124, p124, Log.c]
    refine run_see (l1In_ok _ _ _) false (Views.refl rfl) rfl (fun j hj => by first | omega | ((have hj0 : j = 0 := by omega); subst hj0; first | rfl | (simp only [Nat.add_zero, app_get, app_getk, sapp_get, sapp_getk, Nat.add_assoc, Nat.reduceAdd, List.getElem?_cons_zero, List.getElem?_cons_succ]; done) | simp)) (fun h => by cases h) ?_
    simp only [go_sem, v124, p124]
    by_cases b1 : 1 ≤ l.cap ∧ l.cap ≤ 8
    · simp only [go_sem, v124, p124, eq_true b1]
      by_cases b2 : (l.list.length : Int) > l.cap
      · simp only [go_sem, v124, p124, eq_true b2]
        rw [hK1]
        refine ⟨_, _, _, _, _, _, rfl, rfl, ?_⟩
        grind [Log.H]
      · simp only [go_sem, v124, p124, eq_false b2]
        refine run_see (l1In_ok _ _ _) false (Views.refl rfl) rfl (fun j hj => by first | omega | ((have hj0 : j = 0 := by omega); subst hj0; first | rfl | (simp only [Nat.add_zero, app_get, app_getk, sapp_get, sapp_getk, Nat.add_assoc, Nat.reduceAdd, List.getElem?_cons_zero, List.getElem?_cons_succ]; done) | simp)) (fun h => by cases h) ?_
        simp only [go_sem, v124, p124]
        by_cases b3 : 0 ≤ l.from_ ∧ l.from_ ≤ 100000
        · simp only [go_sem, v124, p124, eq_true b3, wrap_i64 (n := l.from_ + (l.list.length : Int)) (by omega) (by omega)]
          rw [hK1]
          refine ⟨_, _, _, _, _, _, rfl, rfl, ?_⟩
          grind [Log.H]
        · simp only [go_sem, v124, p124, eq_false b3]
          rw [hK1]
          refine ⟨_, _, _, _, _, _, rfl, rfl, ?_⟩
          grind [Log.H]
    · simp only [go_sem, v124, p124, eq_false b1]
      rw [hK1]
      refine ⟨_, _, _, _, _, _, rfl, rfl, ?_⟩
      grind [Log.H]
  intro L σ hq
  rw [hK1] at hq
  obtain ⟨q, y0, y2, y3, y35, y44, rfl, rfl, hq⟩ := hq
  subst hq
  refine awp_if' rfl ?_ ?_
  · intro h1
    refine awp_sr ?_
    simp only [go_sem, R124_2, v124, p124]
    refine awp_ret ?_
    try simp only [go_sem]
    exact fin _ _ (.bool false) rfl (congrArg V.bool (decide_eq_false fun e => h1 e.1)).symm
  intro h1
  refine awp_skip ?_
  simp only [go_sem]
  refine awp_sr2 ?_
  simp only [go_sem, R124_3, v124, p124]
  obtain ⟨I, hI⟩ : ∃ I : Nat → List V → Store → Prop, I = fun mM L σ => ∃ i rest y0 y2 y30 y35 y44, mM = l.list.length - i ∧ i ≤ l.list.length ∧ (∀ j s, j < i → l.list[j]? = some s → s.Right) ∧ L = [y0, .ptr 0 3 0 0, y2, .int .i64 (i : Nat), y30, y35, y44] ∧ σ = .live ⟨3, [l.c]⟩ :: rest := ⟨_, rfl⟩
  first | refine awp_for I l.list.length ?_ ?_ | refine awp_seq (awp_for I l.list.length ?_ ?_)
  · rw [hI]; refine ⟨0, _, _, _, _, _, _, rfl, Nat.zero_le _, ?_, rfl, rfl⟩
    intro j x h; omega
  intro mM L σ hIn
  rw [hI] at hIn
  obtain ⟨i, rest, y0, y2, y30, y35, y44, rfl, hi, hP, rfl, rfl⟩ := hIn
  refine awp_sr2 ?_
  simp only [go_sem, R124_4, v124, p124, Log.c]
  refine awp_if rfl ?_ ?_
  · intro h2
    have h2 : i < l.list.length := by omega
    refine awp_skip ?_
    simp only [go_sem]
    first | refine awp_block ?_ | refine awp_seq (awp_block ?_)
    refine awp_sr ?_
    simp only [go_sem, R124_5, v124, p124, Log.c, rw_at _ h2, State.c]
    refine run_see (specStateOk_ok l.list[i] (log_at h h2)) false (Views.refl rfl) rfl (fun j hj => by first | omega | ((have hj0 : j = 0 := by omega); subst hj0; first | rfl | (simp only [Nat.add_zero, app_get, app_getk, sapp_get, sapp_getk, Nat.add_assoc, Nat.reduceAdd, List.getElem?_cons_zero, List.getElem?_cons_succ]; done) | simp)) (fun h => by cases h) ?_
    simp only [go_sem, v124, p124]
    refine awp_if' rfl ?_ ?_
    · intro h3
      refine awp_sr ?_
      simp only [go_sem, R124_6, v124, p124]
      refine awp_ret ?_
      try simp only [go_sem]
      exact fin _ _ (.bool false) rfl (congrArg V.bool (decide_eq_false fun e => h3 (e.2 i _ (List.getElem?_eq_getElem h2)))).symm
    · intro h3
      refine awp_skip ?_
      simp only [go_sem]
      refine awp_reg ?_
      simp only [go_sem, R124_7, v124, p124, wrap_succ (i := i) (by omega)]
      refine ⟨l.list.length - (i + 1), by omega, ?_⟩
      rw [hI]
      refine ⟨i + 1, _, _, _, _, _, _, rfl, by omega, ?_, rfl, rfl⟩
      exact upto_succ (p := fun _ s => State.Right s) hP h2 h3
  · intro h2
    refine awp_exit ?_
    simp only [go_sem]
    refine awp_sr ?_
    simp only [go_sem, R124_8, v124, p124]
    refine awp_ret ?_
    try simp only [go_sem]
    exact fin _ _ (.bool true) rfl (congrArg V.bool (decide_eq_true (show l.Right from ⟨h1, upto_all (p := fun _ s => State.Right s) hP (by omega)⟩)).symm)
set_option maxHeartbeats 1000000 in
theorem implLogOk_ok (l : Log) (h : l.sz ≤ 1048576) : FS Try.prog 133 [] [.agg l.c] (.bool (decide l.Right)) [] := by
  refine FS.of (X := X133) (ac := A133) (os := O133) Try.func133 (by rfl) (by rfl) (by kernel_rfl) o133 (Nat.le_of_ble_eq_true rfl) ?_
  show AWP X133 A133 (Ends X133.vs O133 0 _ _) [.agg l.c, .tup [], .tup [], .tup [], .tup [], .tup [], .tup [], .tup [], .tup []] []
  obtain ⟨Q, hQ⟩ : ∃ Q, Q = Ends X133.vs O133 0 (.bool (decide l.Right)) [] := ⟨_, rfl⟩
  rw [← hQ]
  have hl : l.list.length + sumBy State.sz l.list ≤ 1048576 := h
  have fin : ∀ L σ vV, resVs O133 (look X133.vs L) σ = some [vV] → vV = (.bool (decide l.Right)) → Q .ret L σ := by
    intro L σ vV h1 h2
    rw [hQ]
    exact Ends.is (.inl rfl) h1 (by simp only [packV, h2]) rfl
  refine awp_sr ?_
  simp only [go_sem, R133_0, v133, p133, Log.c]
  refine awp_sr2 ?_
  simp only [go_sem, R133_1, v133, p133, Log.c]
  obtain ⟨I, hI⟩ : ∃ I : Nat → List V → Store → Prop, I = fun mM L σ => ∃ i rest y0 y2 y4 y9 y14, mM = l.list.length - i ∧ i ≤ l.list.length ∧ (∀ j s, j < i → l.list[j]? = some s → s.Right) ∧ L = [y0, .ptr 0 3 0 0, y2, y4, .fz 2 (rw_ State.c l.list), .int .i64 (l.list.length : Nat), .int .i64 (i : Nat), y9, y14] ∧ σ = .live ⟨3, [l.c]⟩ :: rest := ⟨_, rfl⟩
  first | refine awp_for I l.list.length ?_ ?_ | refine awp_seq (awp_for I l.list.length ?_ ?_)
  · rw [hI]; refine ⟨0, _, _, _, _, _, _, rfl, Nat.zero_le _, ?_, rfl, rfl⟩
    intro j x h; omega
  intro mM L σ hIn
  rw [hI] at hIn
  obtain ⟨i, rest, y0, y2, y4, y9, y14, rfl, hi, hP, rfl, rfl⟩ := hIn
  refine awp_sr ?_
  simp only [go_sem, R133_2, v133, p133]
  refine awp_seq ?_
  refine awp_if rfl ?_ ?_
  · intro h2
    have h2 : i < l.list.length := by omega
    refine awp_skip ?_
    simp only [go_sem]
    first | refine awp_block ?_ | refine awp_seq (awp_block ?_)
    refine awp_sr ?_
    simp only [go_sem, R133_3, v133, p133, rw_at _ h2, State.c]
    refine awp_sr ?_
    simp only [go_sem, R133_4, v133, p133]
    refine run_see (implStateOk_ok l.list[i] (log_at h h2)) false (Views.refl rfl) rfl (fun j hj => by first | omega | ((have hj0 : j = 0 := by omega); subst hj0; first | rfl | (simp only [Nat.add_zero, app_get, app_getk, sapp_get, sapp_getk, Nat.add_assoc, Nat.reduceAdd, List.getElem?_cons_zero, List.getElem?_cons_succ]; done) | simp)) (fun h => by cases h) ?_
    simp only [go_sem, v133, p133]
    refine awp_if' rfl ?_ ?_
    · intro h3
      refine awp_sr ?_
      simp only [go_sem, R133_5, v133, p133]
      refine awp_ret ?_
      try simp only [go_sem]
      exact fin _ _ (.bool false) rfl (congrArg V.bool (decide_eq_false fun e => h3 (e.2 i _ (List.getElem?_eq_getElem h2)))).symm
    · intro h3
      refine awp_skip ?_
      simp only [go_sem]
      refine awp_reg ?_
      simp only [go_sem, R133_6, v133, p133, wrap_succ (i := i) (by omega)]
      refine ⟨l.list.length - (i + 1), by omega, ?_⟩
      rw [hI]
      refine ⟨i + 1, _, _, _, _, _, _, rfl, by omega, ?_, rfl, rfl⟩
      exact upto_succ (p := fun _ s => State.Right s) hP h2 h3
  · intro h2
    refine awp_exit ?_
    simp only [go_sem]
    have ha := upto_all (p := fun _ s => State.Right s) hP (by omega)
    have key : l.Right ↔ l.H := ⟨fun e => e.1, fun e => ⟨e, ha⟩⟩
    obtain ⟨K2, hK2⟩ : ∃ K : List V → Store → Prop, K = fun L σ => ∃ q rest y0 y1 y4 y6 y7 y8 y9 y14, L = [y0, y1, .bool q, y4, y6, y7, y8, y9, y14] ∧ σ = .live ⟨3, [l.c]⟩ :: rest ∧ q = decide l.Right := ⟨_, rfl⟩
    refine awp_srK (K2) ?_ ?_
    · simp only [go_sem, R133_7, v133, p133, Log.c]
      refine run_see (within_ok _ _ _) false (Views.refl rfl) rfl (fun j hj => by first | omega | ((have hj0 : j = 0 := by omega); subst hj0; first | rfl | (simp only [Nat.add_zero, app_get, app_getk, sapp_get, sapp_getk, Nat.add_assoc, Nat.reduceAdd, List.getElem?_cons_zero, List.getElem?_cons_succ]; done) | simp)) (fun h => by cases h) ?_
      simp only [go_sem, v133, p133]
      by_cases b1 : 1 ≤ l.cap ∧ l.cap ≤ 8
      · simp only [go_sem, v133, p133, eq_true b1, Log.c]
        by_cases b2 : (l.list.length : Int) ≤ l.cap
        · simp only [go_sem, v133, p133, eq_true b2, Log.c]
          refine run_see (within_ok _ _ _) false (Views.refl rfl) rfl (fun j hj => by first | omega | ((have hj0 : j = 0 := by omega); subst hj0; first | rfl | (simp only [Nat.add_zero, app_get, app_getk, sapp_get, sapp_getk, Nat.add_assoc, Nat.reduceAdd, List.getElem?_cons_zero, List.getElem?_cons_succ]; done) | simp)) (fun h => by cases h) ?_
          simp only [go_sem, v133, p133]
          by_cases b3 : 0 ≤ l.from_ ∧ l.from_ ≤ 100000
          · simp only [go_sem, v133, p133, eq_true b3, Log.c, wrap_i64 (n := l.from_ + (l.list.length : Int)) (by omega) (by omega)]
            rw [hK2]
            refine ⟨_, _, _, _, _, _, _, _, _, _, rfl, rfl, ?_⟩
            grind [Log.H]
          · simp only [go_sem, v133, p133, eq_false b3]
            rw [hK2]
            refine ⟨_, _, _, _, _, _, _, _, _, _, rfl, rfl, ?_⟩
            grind [Log.H]
        · simp only [go_sem, v133, p133, eq_false b2]
          rw [hK2]
          refine ⟨_, _, _, _, _, _, _, _, _, _, rfl, rfl, ?_⟩
          grind [Log.H]
      · simp only [go_sem, v133, p133, eq_false b1]
        rw [hK2]
        refine ⟨_, _, _, _, _, _, _, _, _, _, rfl, rfl, ?_⟩
        grind [Log.H]
    intro L σ hq
    rw [hK2] at hq
    obtain ⟨q, rest, y0, y1, y4, y6, y7, y8, y9, y14, rfl, rfl, hq⟩ := hq
    subst hq
    refine awp_ret ?_
    try simp only [go_sem]
    exact fin _ _ _ rfl rfl
noncomputable def logSeq (l : Log) : Int := if l.Right then l.from_ + (l.list.length : Int) else 0
theorem logSeq_yes {l : Log} (h : l.Right) : logSeq l = l.from_ + (l.list.length : Int) := if_pos h
theorem logSeq_no {l : Log} (h : ¬ l.Right) : logSeq l = 0 := if_neg h
theorem specLogSeq_ok (l : Log) (h : l.sz ≤ 1048576) : FS Try.prog 91 [] [.agg l.c] (.int .i64 (logSeq l)) [] := by
  refine FS.of (X := X91) (ac := A91) (os := O91) Try.func91 (by rfl) (by rfl) (by kernel_rfl) o91 (Nat.le_of_ble_eq_true rfl) ?_
  show AWP X91 A91 (Ends X91.vs O91 0 _ _) [.agg l.c, .tup [], .tup [], .tup []] []
  obtain ⟨Q, hQ⟩ : ∃ Q, Q = Ends X91.vs O91 0 (.int .i64 (logSeq l)) [] := ⟨_, rfl⟩
  rw [← hQ]
  have fin : ∀ L σ vV, resVs O91 (look X91.vs L) σ = some [vV] → vV = (.int .i64 (logSeq l)) → Q .ret L σ := by
    intro L σ vV h1 h2
    rw [hQ]
    exact Ends.is (.inl rfl) h1 (by simp only [packV, h2]) rfl
  refine awp_sr ?_
  simp only [go_sem, R91_0, v91, p91, Log.c]
  refine awp_sr2 ?_
  simp only [go_sem, R91_1, v91, p91]
  refine run_see (specLogOk_ok l h) false (Views.refl rfl) rfl (fun j hj => by first | omega | ((have hj0 : j = 0 := by omega); subst hj0; first | rfl | (simp only [Nat.add_zero, app_get, app_getk, sapp_get, sapp_getk, Nat.add_assoc, Nat.reduceAdd, List.getElem?_cons_zero, List.getElem?_cons_succ]; done) | simp)) (fun h => by cases h) ?_
  simp only [go_sem, v91, p91]
  refine awp_if' rfl ?_ ?_
  · intro h1
    refine awp_sr ?_
    simp only [go_sem, R91_2, v91, p91]
    refine awp_ret ?_
    try simp only [go_sem]
    exact fin _ _ (.int .i64 0) rfl (congrArg (V.int .i64) (logSeq_no h1).symm)
  intro h1
  obtain ⟨⟨_, _, b1, b2⟩, _⟩ := id h1
  refine awp_skip ?_
  simp only [go_sem]
  refine awp_sr ?_
  simp only [go_sem, R91_3, v91, p91, Log.c, wrap_i64 (n := l.from_ + (l.list.length : Int)) (by omega) (by omega)]
  refine awp_ret ?_
  try simp only [go_sem]
  exact fin _ _ _ rfl (congrArg (V.int .i64) (logSeq_yes h1).symm)
theorem implLogSeq_ok (l : Log) (h : l.sz ≤ 1048576) : FS Try.prog 93 [] [.agg l.c] (.int .i64 (logSeq l)) [] := by
  refine FS.of (X := X93) (ac := A93) (os := O93) Try.func93 (by rfl) (by rfl) (by kernel_rfl) o93 (Nat.le_of_ble_eq_true rfl) ?_
  show AWP X93 A93 (Ends X93.vs O93 0 _ _) [.agg l.c, .tup [], .tup [], .tup []] []
  obtain ⟨Q, hQ⟩ : ∃ Q, Q = Ends X93.vs O93 0 (.int .i64 (logSeq l)) [] := ⟨_, rfl⟩
  rw [← hQ]
  have fin : ∀ L σ vV, resVs O93 (look X93.vs L) σ = some [vV] → vV = (.int .i64 (logSeq l)) → Q .ret L σ := by
    intro L σ vV h1 h2
    rw [hQ]
    exact Ends.is (.inl rfl) h1 (by simp only [packV, h2]) rfl
  refine awp_sr ?_
  simp only [go_sem, R93_0, v93, p93, Log.c]
  refine awp_sr2 ?_
  simp only [go_sem, R93_1, v93, p93]
  refine run_see (implLogOk_ok l h) false (Views.refl rfl) rfl (fun j hj => by first | omega | ((have hj0 : j = 0 := by omega); subst hj0; first | rfl | (simp only [Nat.add_zero, app_get, app_getk, sapp_get, sapp_getk, Nat.add_assoc, Nat.reduceAdd, List.getElem?_cons_zero, List.getElem?_cons_succ]; done) | simp)) (fun h => by cases h) ?_
  simp only [go_sem, v93, p93]
  refine awp_if' rfl ?_ ?_
  · intro h1
    refine awp_sr ?_
    simp only [go_sem, R93_2, v93, p93]
    refine awp_ret ?_
    try simp only [go_sem]
    exact fin _ _ (.int .i64 0) rfl (congrArg (V.int .i64) (logSeq_no h1).symm)
  intro h1
  obtain ⟨⟨_, _, b1, b2⟩, _⟩ := id h1
  refine awp_skip ?_
  simp only [go_sem]
  refine awp_sr ?_
  simp only [go_sem, R93_3, v93, p93, Log.c, wrap_i64 (n := l.from_ + (l.list.length : Int)) (by omega) (by omega)]
  refine awp_ret ?_
  try simp only [go_sem]
  exact fin _ _ _ rfl (congrArg (V.int .i64) (logSeq_yes h1).symm)
def vecR (v : List Int) (n : Int) : Prop := (1 ≤ n ∧ n ≤ 5) ∧ (v.length : Int) = n ∧ ∀ j x, v[j]? = some x → inTop 100000 j x
noncomputable instance (v : List Int) (n : Int) : Decidable (vecR v n) := Classical.propDecidable _
theorem specVecOk_ok (v : List Int) (n : Int) (h : v.length ≤ 1048576) : FS Try.prog 125 [] [.fz 1 (rw_ intC v), .int .i64 n] (.bool (decide (vecR v n))) [] := by
  refine FS.of (X := X125) (ac := A125) (os := O125) Try.func125 (by rfl) (by rfl) (by kernel_rfl) o125 (Nat.le_of_ble_eq_true rfl) ?_
  show AWP X125 A125 (Ends X125.vs O125 0 _ _) [.fz 1 (rw_ intC v), .int .i64 n, .tup [], .tup [], .tup [], .tup [], .tup []] []
  obtain ⟨Q, hQ⟩ : ∃ Q, Q = Ends X125.vs O125 0 (.bool (decide (vecR v n))) [] := ⟨_, rfl⟩
  rw [← hQ]
  have fin : ∀ L σ vV, resVs O125 (look X125.vs L) σ = some [vV] → vV = (.bool (decide (vecR v n))) → Q .ret L σ := by
    intro L σ vV h1 h2
    rw [hQ]
    exact Ends.is (.inl rfl) h1 (by simp only [packV, h2]) rfl
  refine awp_sr ?_
  simp only [go_sem, R125_0, v125, p125]
  obtain ⟨K3, hK3⟩ : ∃ K : List V → Store → Prop, K = fun L σ => ∃ q y4 y5 y17 y25, L = [.fz 1 (rw_ intC v), .int .i64 n, y4, y5, .bool q, y17, y25] ∧ σ = [] ∧ q = !decide ((1 ≤ n ∧ n ≤ 5) ∧ (v.length : Int) = n) := ⟨_, rfl⟩
  refine awp_sr2K (K3) ?_ ?_
  · simp only [go_sem, R125_1, v125, p125]
    repeat' first
      | (refine selP_if rfl (fun hG => ?_) (fun hG => ?_) <;> first | simp only [go_sem, v125, p125, eq_false hG] | simp only [go_sem, v125, p125, eq_true hG])
      | (refine selP_ifn rfl (fun hG => ?_) (fun hG => ?_) <;> first | simp only [go_sem, v125, p125, eq_false hG] | simp only [go_sem, v125, p125, eq_true hG])
      | (refine selN_if rfl (fun hG => ?_) (fun hG => ?_) <;> first | simp only [go_sem, v125, p125, eq_false hG] | simp only [go_sem, v125, p125, eq_true hG])
      | (refine selN_ifn rfl (fun hG => ?_) (fun hG => ?_) <;> first | simp only [go_sem, v125, p125, eq_false hG] | simp only [go_sem, v125, p125, eq_true hG])
      | (refine selB_if rfl (fun hG => ?_) (fun hG => ?_) <;> simp only [go_sem, v125, p125, hG])
      | (refine selB_ifn rfl (fun hG => ?_) (fun hG => ?_) <;> simp only [go_sem, v125, p125, hG])
      | (refine run_see (l1In_ok _ _ _) false (Views.refl rfl) rfl (fun j hj => by omega) (fun h => by cases h) ?_; simp only [go_sem, v125, p125])
    all_goals rw [hK3]
    all_goals refine ⟨_, _, _, _, _, rfl, rfl, ?_⟩
    all_goals grind
  intro L σ hq
  rw [hK3] at hq
  obtain ⟨q, y4, y5, y17, y25, rfl, rfl, hq⟩ := hq
  subst hq
  refine awp_if' rfl ?_ ?_
  · intro h1
    refine awp_sr ?_
    simp only [go_sem, R125_2, v125, p125]
    refine awp_ret ?_
    try simp only [go_sem]
    exact fin _ _ (.bool false) rfl (congrArg V.bool (decide_eq_false fun e => h1 ⟨e.1, e.2.1⟩)).symm
  intro h1
  refine awp_skip ?_
  simp only [go_sem]
  refine awp_sr2 ?_
  simp only [go_sem, R125_3, v125, p125]
  obtain ⟨I, hI⟩ : ∃ I : Nat → List V → Store → Prop, I = fun mM L σ => ∃ i rest y4 y14 y17 y25, mM = v.length - i ∧ i ≤ v.length ∧ (∀ j x, j < i → v[j]? = some x → inTop 100000 j x) ∧ L = [.fz 1 (rw_ intC v), .int .i64 n, y4, .int .i64 (i : Nat), y14, y17, y25] ∧ σ = rest := ⟨_, rfl⟩
  first | refine awp_for I v.length ?_ ?_ | refine awp_seq (awp_for I v.length ?_ ?_)
  · rw [hI]; refine ⟨0, _, _, _, _, _, rfl, Nat.zero_le _, ?_, rfl, rfl⟩
    intro j x h; omega
  intro mM L σ hIn
  rw [hI] at hIn
  obtain ⟨i, rest, y4, y14, y17, y25, rfl, hi, hP, rfl, rfl⟩ := hIn
  refine awp_sr2 ?_
  simp only [go_sem, R125_4, v125, p125]
  refine awp_if rfl ?_ ?_
  · intro h2
    have h2 : i < v.length := by omega
    refine awp_skip ?_
    simp only [go_sem]
    first | refine awp_block ?_ | refine awp_seq (awp_block ?_)
    refine awp_sr ?_
    simp only [go_sem, R125_5, v125, p125, rw_at _ h2, intC]
    refine run_see (l1In_ok _ _ _) false (Views.refl rfl) rfl (fun j hj => by first | omega | ((have hj0 : j = 0 := by omega); subst hj0; first | rfl | (simp only [Nat.add_zero, app_get, app_getk, sapp_get, sapp_getk, Nat.add_assoc, Nat.reduceAdd, List.getElem?_cons_zero, List.getElem?_cons_succ]; done) | simp)) (fun h => by cases h) ?_
    simp only [go_sem, v125, p125]
    refine awp_if' rfl ?_ ?_
    · intro h3
      refine awp_sr ?_
      simp only [go_sem, R125_6, v125, p125]
      refine awp_ret ?_
      try simp only [go_sem]
      exact fin _ _ (.bool false) rfl (congrArg V.bool (decide_eq_false fun e => h3 (e.2.2 i _ (List.getElem?_eq_getElem h2)))).symm
    · intro h3
      refine awp_skip ?_
      simp only [go_sem]
      refine awp_reg ?_
      simp only [go_sem, R125_7, v125, p125, wrap_succ (i := i) (by omega)]
      refine ⟨v.length - (i + 1), by omega, ?_⟩
      rw [hI]
      refine ⟨i + 1, _, _, _, _, _, rfl, by omega, ?_, rfl, rfl⟩
      exact upto_succ hP h2 h3
  · intro h2
    refine awp_exit ?_
    simp only [go_sem]
    refine awp_sr ?_
    simp only [go_sem, R125_8, v125, p125]
    refine awp_ret ?_
    try simp only [go_sem]
    exact fin _ _ (.bool true) rfl (congrArg V.bool (decide_eq_true (show vecR v n from ⟨h1.1, h1.2, upto_all hP (by omega)⟩)).symm)
theorem implVecOk_ok (v : List Int) (n : Int) (h : v.length ≤ 1048576) : FS Try.prog 134 [] [.fz 1 (rw_ intC v), .int .i64 n] (.bool (decide (vecR v n))) [] := by
  refine FS.of (X := X134) (ac := A134) (os := O134) Try.func134 (by rfl) (by rfl) (by kernel_rfl) o134 (Nat.le_of_ble_eq_true rfl) ?_
  show AWP X134 A134 (Ends X134.vs O134 0 _ _) [.fz 1 (rw_ intC v), .int .i64 n, .tup [], .tup [], .tup [], .tup [], .tup [], .tup [], .tup []] []
  obtain ⟨Q, hQ⟩ : ∃ Q, Q = Ends X134.vs O134 0 (.bool (decide (vecR v n))) [] := ⟨_, rfl⟩
  rw [← hQ]
  have fin : ∀ L σ vV, resVs O134 (look X134.vs L) σ = some [vV] → vV = (.bool (decide (vecR v n))) → Q .ret L σ := by
    intro L σ vV h1 h2
    rw [hQ]
    exact Ends.is (.inl rfl) h1 (by simp only [packV, h2]) rfl
  refine awp_sr ?_
  simp only [go_sem, R134_0, v134, p134]
  refine awp_sr2 ?_
  simp only [go_sem, R134_1, v134, p134]
  obtain ⟨I, hI⟩ : ∃ I : Nat → List V → Store → Prop, I = fun mM L σ => ∃ i rest y4 y6 y10 y15, mM = v.length - i ∧ i ≤ v.length ∧ (∀ j x, j < i → v[j]? = some x → inTop 100000 j x) ∧ L = [.fz 1 (rw_ intC v), .int .i64 n, y4, y6, .fz 1 (rw_ intC v), .int .i64 (v.length : Nat), .int .i64 (i : Nat), y10, y15] ∧ σ = rest := ⟨_, rfl⟩
  first | refine awp_for I v.length ?_ ?_ | refine awp_seq (awp_for I v.length ?_ ?_)
  · rw [hI]; refine ⟨0, _, _, _, _, _, rfl, Nat.zero_le _, ?_, rfl, rfl⟩
    intro j x h; omega
  intro mM L σ hIn
  rw [hI] at hIn
  obtain ⟨i, rest, y4, y6, y10, y15, rfl, hi, hP, rfl, rfl⟩ := hIn
  refine awp_sr ?_
  simp only [go_sem, R134_2, v134, p134]
  refine awp_seq ?_
  refine awp_if rfl ?_ ?_
  · intro h2
    have h2 : i < v.length := by omega
    refine awp_skip ?_
    simp only [go_sem]
    first | refine awp_block ?_ | refine awp_seq (awp_block ?_)
    refine awp_sr ?_
    simp only [go_sem, R134_3, v134, p134, rw_at _ h2, intC]
    refine awp_sr ?_
    simp only [go_sem, R134_4, v134, p134]
    refine run_see (within_ok _ _ _) false (Views.refl rfl) rfl (fun j hj => by first | omega | ((have hj0 : j = 0 := by omega); subst hj0; first | rfl | (simp only [Nat.add_zero, app_get, app_getk, sapp_get, sapp_getk, Nat.add_assoc, Nat.reduceAdd, List.getElem?_cons_zero, List.getElem?_cons_succ]; done) | simp)) (fun h => by cases h) ?_
    simp only [go_sem, v134, p134]
    refine awp_if' rfl ?_ ?_
    · intro h3
      refine awp_sr ?_
      simp only [go_sem, R134_5, v134, p134]
      refine awp_ret ?_
      try simp only [go_sem]
      exact fin _ _ (.bool false) rfl (congrArg V.bool (decide_eq_false fun e => h3 (e.2.2 i _ (List.getElem?_eq_getElem h2)))).symm
    · intro h3
      refine awp_skip ?_
      simp only [go_sem]
      refine awp_reg ?_
      simp only [go_sem, R134_6, v134, p134, wrap_succ (i := i) (by omega)]
      refine ⟨v.length - (i + 1), by omega, ?_⟩
      rw [hI]
      refine ⟨i + 1, _, _, _, _, _, rfl, by omega, ?_, rfl, rfl⟩
      exact upto_succ hP h2 h3
  · intro h2
    refine awp_exit ?_
    simp only [go_sem]
    have ha := upto_all hP (by omega)
    have key : vecR v n ↔ (1 ≤ n ∧ n ≤ 5) ∧ (v.length : Int) = n := ⟨fun e => ⟨e.1, e.2.1⟩, fun e => ⟨e.1, e.2, ha⟩⟩
    obtain ⟨K4, hK4⟩ : ∃ K : List V → Store → Prop, K = fun L σ => ∃ q rest y0 y1 y6 y7 y8 y9 y10 y15, L = [y0, y1, .bool q, y6, y7, y8, y9, y10, y15] ∧ σ = rest ∧ q = decide (vecR v n) := ⟨_, rfl⟩
    refine awp_srK (K4) ?_ ?_
    · simp only [go_sem, R134_7, v134, p134]
      repeat' first
        | (refine selP_if rfl (fun hG => ?_) (fun hG => ?_) <;> first | simp only [go_sem, v134, p134, eq_false hG] | simp only [go_sem, v134, p134, eq_true hG])
        | (refine selP_ifn rfl (fun hG => ?_) (fun hG => ?_) <;> first | simp only [go_sem, v134, p134, eq_false hG] | simp only [go_sem, v134, p134, eq_true hG])
        | (refine selN_if rfl (fun hG => ?_) (fun hG => ?_) <;> first | simp only [go_sem, v134, p134, eq_false hG] | simp only [go_sem, v134, p134, eq_true hG])
        | (refine selN_ifn rfl (fun hG => ?_) (fun hG => ?_) <;> first | simp only [go_sem, v134, p134, eq_false hG] | simp only [go_sem, v134, p134, eq_true hG])
        | (refine selB_if rfl (fun hG => ?_) (fun hG => ?_) <;> simp only [go_sem, v134, p134, hG])
        | (refine selB_ifn rfl (fun hG => ?_) (fun hG => ?_) <;> simp only [go_sem, v134, p134, hG])
        | (refine run_see (within_ok _ _ _) false (Views.refl rfl) rfl (fun j hj => by omega) (fun h => by cases h) ?_; simp only [go_sem, v134, p134])
      all_goals rw [hK4]
      all_goals refine ⟨_, _, _, _, _, _, _, _, _, _, rfl, rfl, ?_⟩
      all_goals grind
    intro L σ hq
    rw [hK4] at hq
    obtain ⟨q, rest, y0, y1, y6, y7, y8, y9, y10, y15, rfl, rfl, hq⟩ := hq
    subst hq
    refine awp_ret ?_
    try simp only [go_sem]
    exact fin _ _ _ rfl rfl
def rowR (r : List Int) : Prop := r.length = 5 ∧ ∀ j x, r[j]? = some x → inTop 1000 j x
def tableR (t : List (List Int)) (n : Int) : Prop := (1 ≤ n ∧ n ≤ 5) ∧ (t.length : Int) = n ∧ ∀ (k : Nat) r, t[k]? = some r → rowR r
noncomputable instance (t : List (List Int)) (n : Int) : Decidable (tableR t n) := Classical.propDecidable _
theorem table_at {t : List (List Int)} (h : szS List.length t ≤ 1048576) {i : Nat} (h1 : i < t.length) : t[i].length ≤ 1048576 := by
  have h2 : t.length + sumBy List.length t ≤ 1048576 := h
  have := sumBy_get List.length h1
  omega
set_option maxHeartbeats 1000000 in
theorem specTableOk_ok (t : List (List Int)) (n : Int) (h : szS List.length t ≤ 1048576) : FS Try.prog 126 [] [.fz 1 (rw_ rowC t), .int .i64 n] (.bool (decide (tableR t n))) [] := by
  refine FS.of (X := X126) (ac := A126) (os := O126) Try.func126 (by rfl) (by rfl) (by kernel_rfl) o126 (Nat.le_of_ble_eq_true rfl) ?_
  show AWP X126 A126 (Ends X126.vs O126 0 _ _) [.fz 1 (rw_ rowC t), .int .i64 n, .tup [], .tup [], .tup [], .tup [], .tup [], .tup [], .tup [], .tup []] []
  obtain ⟨Q, hQ⟩ : ∃ Q, Q = Ends X126.vs O126 0 (.bool (decide (tableR t n))) [] := ⟨_, rfl⟩
  rw [← hQ]
  have hl : t.length + sumBy List.length t ≤ 1048576 := h
  have fin : ∀ L σ vV, resVs O126 (look X126.vs L) σ = some [vV] → vV = (.bool (decide (tableR t n))) → Q .ret L σ := by
    intro L σ vV h1 h2
    rw [hQ]
    exact Ends.is (.inl rfl) h1 (by simp only [packV, h2]) rfl
  refine awp_sr ?_
  simp only [go_sem, R126_0, v126, p126]
  obtain ⟨K5, hK5⟩ : ∃ K : List V → Store → Prop, K = fun L σ => ∃ q y4 y5 y6 y18 y26 y33 y44, L = [.fz 1 (rw_ rowC t), .int .i64 n, y4, y5, y6, .bool q, y18, y26, y33, y44] ∧ σ = [] ∧ q = !decide ((1 ≤ n ∧ n ≤ 5) ∧ (t.length : Int) = n) := ⟨_, rfl⟩
  refine awp_sr2K (K5) ?_ ?_
  · simp only [go_sem, R126_1, v126, p126]
    repeat' first
      | (refine selP_if rfl (fun hG => ?_) (fun hG => ?_) <;> first | simp only [go_sem, v126, p126, eq_false hG] | simp only [go_sem, v126, p126, eq_true hG])
      | (refine selP_ifn rfl (fun hG => ?_) (fun hG => ?_) <;> first | simp only [go_sem, v126, p126, eq_false hG] | simp only [go_sem, v126, p126, eq_true hG])
      | (refine selN_if rfl (fun hG => ?_) (fun hG => ?_) <;> first | simp only [go_sem, v126, p126, eq_false hG] | simp only [go_sem, v126, p126, eq_true hG])
      | (refine selN_ifn rfl (fun hG => ?_) (fun hG => ?_) <;> first | simp only [go_sem, v126, p126, eq_false hG] | simp only [go_sem, v126, p126, eq_true hG])
      | (refine selB_if rfl (fun hG => ?_) (fun hG => ?_) <;> simp only [go_sem, v126, p126, hG])
      | (refine selB_ifn rfl (fun hG => ?_) (fun hG => ?_) <;> simp only [go_sem, v126, p126, hG])
      | (refine run_see (l1In_ok _ _ _) false (Views.refl rfl) rfl (fun j hj => by omega) (fun h => by cases h) ?_; simp only [go_sem, v126, p126])
    all_goals rw [hK5]
    all_goals refine ⟨_, _, _, _, _, _, _, _, rfl, rfl, ?_⟩
    all_goals grind
  intro L σ hq
  rw [hK5] at hq
  obtain ⟨q, y4, y5, y6, y18, y26, y33, y44, rfl, rfl, hq⟩ := hq
  subst hq
  refine awp_if' rfl ?_ ?_
  · intro h1
    refine awp_sr ?_
    simp only [go_sem, R126_2, v126, p126]
    refine awp_ret ?_
    try simp only [go_sem]
    exact fin _ _ (.bool false) rfl (congrArg V.bool (decide_eq_false fun e => h1 ⟨e.1, e.2.1⟩)).symm
  intro h1
  refine awp_skip ?_
  simp only [go_sem]
  refine awp_sr2 ?_
  simp only [go_sem, R126_3, v126, p126]
  obtain ⟨I, hI⟩ : ∃ I : Nat → List V → Store → Prop, I = fun mM L σ => ∃ i rest y4 y6 y15 y18 y26 y33 y44, mM = t.length - i ∧ i ≤ t.length ∧ (∀ j r, j < i → t[j]? = some r → rowR r) ∧ L = [.fz 1 (rw_ rowC t), .int .i64 n, y4, .int .i64 (i : Nat), y6, y15, y18, y26, y33, y44] ∧ σ = rest := ⟨_, rfl⟩
  first | refine awp_for I t.length ?_ ?_ | refine awp_seq (awp_for I t.length ?_ ?_)
  · rw [hI]; refine ⟨0, _, _, _, _, _, _, _, _, rfl, Nat.zero_le _, ?_, rfl, rfl⟩
    intro j x h; omega
  intro mM L σ hIn
  rw [hI] at hIn
  obtain ⟨i, rest, y4, y6, y15, y18, y26, y33, y44, rfl, hi, hP, rfl, rfl⟩ := hIn
  refine awp_sr2 ?_
  simp only [go_sem, R126_4, v126, p126]
  refine awp_if rfl ?_ ?_
  · intro h2
    have h2 : i < t.length := by omega
    have hr := table_at h h2
    have no : ¬ rowR t[i] → ¬ tableR t n := fun e k => e (k.2.2 i _ (List.getElem?_eq_getElem h2))
    refine awp_skip ?_
    simp only [go_sem]
    refine awp_seq (awp_block ?_)
    refine awp_sr2 ?_
    simp only [go_sem, R126_5, v126, p126, rw_at _ h2, rowC]
    refine awp_if rfl ?_ ?_
    · intro h3
      refine awp_sr ?_
      simp only [go_sem, R126_6, v126, p126]
      refine awp_ret ?_
      try simp only [go_sem]
      exact fin _ _ (.bool false) rfl (congrArg V.bool (decide_eq_false (no fun e => h3 (by have := e.1; omega)))).symm
    intro h3
    refine awp_skip ?_
    simp only [go_sem]
    refine awp_sr ?_
    simp only [go_sem, R126_7, v126, p126]
    obtain ⟨J, hJ⟩ : ∃ J : Nat → List V → Store → Prop, J = fun mM L σ => ∃ j rest y4 y15 y18 y26 y33 y44, mM = t[i].length - j ∧ j ≤ t[i].length ∧ (∀ k x, k < j → t[i][k]? = some x → inTop 1000 k x) ∧ L = [.fz 1 (rw_ rowC t), .int .i64 n, y4, .int .i64 (i : Nat), .int .i64 (j : Nat), y15, y18, y26, y33, y44] ∧ σ = rest := ⟨_, rfl⟩
    first | refine awp_for J t[i].length ?_ ?_ | refine awp_seq (awp_for J t[i].length ?_ ?_)
    · rw [hJ]; refine ⟨0, _, _, _, _, _, _, _, rfl, Nat.zero_le _, ?_, rfl, rfl⟩
      intro j x h; omega
    intro mM L σ hIn
    rw [hJ] at hIn
    obtain ⟨j, rest, y4, y15, y18, y26, y33, y44, rfl, hj, hP2, rfl, rfl⟩ := hIn
    refine awp_sr2 ?_
    simp only [go_sem, R126_8, v126, p126, rw_at _ h2, rowC]
    refine awp_if rfl ?_ ?_
    · intro h4
      have h4 : j < t[i].length := by omega
      refine awp_skip ?_
      simp only [go_sem]
      first | refine awp_block ?_ | refine awp_seq (awp_block ?_)
      refine awp_sr ?_
      simp only [go_sem, R126_9, v126, p126, rw_at _ h2, rowC, rw_at _ h4, intC]
      refine run_see (l1In_ok _ _ _) false (Views.refl rfl) rfl (fun j hj => by first | omega | ((have hj0 : j = 0 := by omega); subst hj0; first | rfl | (simp only [Nat.add_zero, app_get, app_getk, sapp_get, sapp_getk, Nat.add_assoc, Nat.reduceAdd, List.getElem?_cons_zero, List.getElem?_cons_succ]; done) | simp)) (fun h => by cases h) ?_
      simp only [go_sem, v126, p126]
      refine awp_if' rfl ?_ ?_
      · intro h5
        refine awp_sr ?_
        simp only [go_sem, R126_10, v126, p126]
        refine awp_ret ?_
        try simp only [go_sem]
        exact fin _ _ (.bool false) rfl (congrArg V.bool (decide_eq_false (no fun e => h5 (e.2 j _ (List.getElem?_eq_getElem h4))))).symm
      · intro h5
        refine awp_skip ?_
        simp only [go_sem]
        refine awp_reg ?_
        simp only [go_sem, R126_11, v126, p126, wrap_succ (i := j) (by omega)]
        refine ⟨t[i].length - (j + 1), by omega, ?_⟩
        rw [hJ]
        refine ⟨j + 1, _, _, _, _, _, _, _, rfl, by omega, ?_, rfl, rfl⟩
        exact upto_succ hP2 h4 h5
    · intro h4
      refine awp_exit ?_
      simp only [go_sem]
      refine awp_reg ?_
      simp only [go_sem, R126_12, v126, p126, wrap_succ (i := i) (by omega)]
      refine ⟨t.length - (i + 1), by omega, ?_⟩
      rw [hI]
      refine ⟨i + 1, _, _, _, _, _, _, _, _, rfl, by omega, ?_, rfl, rfl⟩
      exact upto_succ (p := fun _ r => rowR r) hP h2 ⟨by omega, upto_all hP2 (by omega)⟩
  · intro h2
    refine awp_exit ?_
    simp only [go_sem]
    refine awp_sr ?_
    simp only [go_sem, R126_13, v126, p126]
    refine awp_ret ?_
    try simp only [go_sem]
    exact fin _ _ (.bool true) rfl (congrArg V.bool (decide_eq_true (show tableR t n from ⟨h1.1, h1.2, upto_all (p := fun _ r => rowR r) hP (by omega)⟩)).symm)
set_option maxHeartbeats 1000000 in
theorem implTableOk_ok (t : List (List Int)) (n : Int) (h : szS List.length t ≤ 1048576) : FS Try.prog 136 [] [.fz 1 (rw_ rowC t), .int .i64 n] (.bool (decide (tableR t n))) [] := by
  refine FS.of (X := X136) (ac := A136) (os := O136) Try.func136 (by rfl) (by rfl) (by kernel_rfl) o136 (Nat.le_of_ble_eq_true rfl) ?_
  show AWP X136 A136 (Ends X136.vs O136 0 _ _) [.fz 1 (rw_ rowC t), .int .i64 n, .tup [], .tup [], .tup [], .tup [], .tup [], .tup [], .tup [], .tup [], .tup [], .tup [], .tup [], .tup [], .tup []] []
  obtain ⟨Q, hQ⟩ : ∃ Q, Q = Ends X136.vs O136 0 (.bool (decide (tableR t n))) [] := ⟨_, rfl⟩
  rw [← hQ]
  have hl : t.length + sumBy List.length t ≤ 1048576 := h
  have fin : ∀ L σ vV, resVs O136 (look X136.vs L) σ = some [vV] → vV = (.bool (decide (tableR t n))) → Q .ret L σ := by
    intro L σ vV h1 h2
    rw [hQ]
    exact Ends.is (.inl rfl) h1 (by simp only [packV, h2]) rfl
  refine awp_sr ?_
  simp only [go_sem, R136_0, v136, p136]
  refine awp_sr2 ?_
  simp only [go_sem, R136_1, v136, p136]
  obtain ⟨I, hI⟩ : ∃ I : Nat → List V → Store → Prop, I = fun mM L σ => ∃ i rest y4 y6 y8 y12 y15 y16 y17 y18 y23 y27, mM = t.length - i ∧ i ≤ t.length ∧ (∀ j r, j < i → t[j]? = some r → rowR r) ∧ L = [.fz 1 (rw_ rowC t), .int .i64 n, y4, y6, y8, .fz 1 (rw_ rowC t), .int .i64 (t.length : Nat), .int .i64 (i : Nat), y12, y15, y16, y17, y18, y23, y27] ∧ σ = rest := ⟨_, rfl⟩
  first | refine awp_for I t.length ?_ ?_ | refine awp_seq (awp_for I t.length ?_ ?_)
  · rw [hI]; refine ⟨0, _, _, _, _, _, _, _, _, _, _, _, rfl, Nat.zero_le _, ?_, rfl, rfl⟩
    intro j x h; omega
  intro mM L σ hIn
  rw [hI] at hIn
  obtain ⟨i, rest, y4, y6, y8, y12, y15, y16, y17, y18, y23, y27, rfl, hi, hP, rfl, rfl⟩ := hIn
  refine awp_sr ?_
  simp only [go_sem, R136_2, v136, p136]
  refine awp_seq ?_
  refine awp_if rfl ?_ ?_
  · intro h2
    have h2 : i < t.length := by omega
    have hr := table_at h h2
    have no : ¬ rowR t[i] → ¬ tableR t n := fun e k => e (k.2.2 i _ (List.getElem?_eq_getElem h2))
    refine awp_skip ?_
    simp only [go_sem]
    refine awp_seq (awp_block ?_)
    refine awp_sr ?_
    simp only [go_sem, R136_3, v136, p136, rw_at _ h2, rowC]
    refine awp_sr2 ?_
    simp only [go_sem, R136_4, v136, p136]
    obtain ⟨J, hJ⟩ : ∃ J : Nat → List V → Store → Prop, J = fun mM L σ => ∃ j rest y4 y8 y12 y18 y23 y27, mM = t[i].length - j ∧ j ≤ t[i].length ∧ (∀ k x, k < j → t[i][k]? = some x → inTop 1000 k x) ∧ L = [.fz 1 (rw_ rowC t), .int .i64 n, y4, .fz 1 (rw_ intC t[i]), y8, .fz 1 (rw_ rowC t), .int .i64 (t.length : Nat), .int .i64 (i : Nat), y12, .fz 1 (rw_ intC t[i]), .int .i64 (t[i].length : Nat), .int .i64 (j : Nat), y18, y23, y27] ∧ σ = rest := ⟨_, rfl⟩
    first | refine awp_for J t[i].length ?_ ?_ | refine awp_seq (awp_for J t[i].length ?_ ?_)
    · rw [hJ]; refine ⟨0, _, _, _, _, _, _, _, rfl, Nat.zero_le _, ?_, rfl, rfl⟩
      intro j x h; omega
    intro mM L σ hIn
    rw [hJ] at hIn
    obtain ⟨j, rest, y4, y8, y12, y18, y23, y27, rfl, hj, hP2, rfl, rfl⟩ := hIn
    refine awp_sr ?_
    simp only [go_sem, R136_5, v136, p136]
    refine awp_seq ?_
    refine awp_if rfl ?_ ?_
    · intro h4
      have h4 : j < t[i].length := by omega
      refine awp_skip ?_
      simp only [go_sem]
      first | refine awp_block ?_ | refine awp_seq (awp_block ?_)
      refine awp_sr ?_
      simp only [go_sem, R136_6, v136, p136, rw_at _ h4, intC]
      refine awp_sr ?_
      simp only [go_sem, R136_7, v136, p136]
      refine run_see (within_ok _ _ _) false (Views.refl rfl) rfl (fun j hj => by first | omega | ((have hj0 : j = 0 := by omega); subst hj0; first | rfl | (simp only [Nat.add_zero, app_get, app_getk, sapp_get, sapp_getk, Nat.add_assoc, Nat.reduceAdd, List.getElem?_cons_zero, List.getElem?_cons_succ]; done) | simp)) (fun h => by cases h) ?_
      simp only [go_sem, v136, p136]
      refine awp_if' rfl ?_ ?_
      · intro h5
        refine awp_sr ?_
        simp only [go_sem, R136_8, v136, p136]
        refine awp_ret ?_
        try simp only [go_sem]
        exact fin _ _ (.bool false) rfl (congrArg V.bool (decide_eq_false (no fun e => h5 (e.2 j _ (List.getElem?_eq_getElem h4))))).symm
      · intro h5
        refine awp_skip ?_
        simp only [go_sem]
        refine awp_reg ?_
        simp only [go_sem, R136_9, v136, p136, wrap_succ (i := j) (by omega)]
        refine ⟨t[i].length - (j + 1), by omega, ?_⟩
        rw [hJ]
        refine ⟨j + 1, _, _, _, _, _, _, _, rfl, by omega, ?_, rfl, rfl⟩
        exact upto_succ hP2 h4 h5
    · intro h4
      refine awp_exit ?_
      simp only [go_sem]
      refine awp_sr ?_
      simp only [go_sem, R136_10, v136, p136]
      refine awp_if rfl ?_ ?_
      · intro h3
        refine awp_sr ?_
        simp only [go_sem, R136_11, v136, p136]
        refine awp_ret ?_
        try simp only [go_sem]
        exact fin _ _ (.bool false) rfl (congrArg V.bool (decide_eq_false (no fun e => h3 (by have := e.1; omega)))).symm
      · intro h3
        refine awp_skip ?_
        simp only [go_sem]
        refine awp_reg ?_
        simp only [go_sem, R136_12, v136, p136, wrap_succ (i := i) (by omega)]
        refine ⟨t.length - (i + 1), by omega, ?_⟩
        rw [hI]
        refine ⟨i + 1, _, _, _, _, _, _, _, _, _, _, _, rfl, by omega, ?_, rfl, rfl⟩
        exact upto_succ (p := fun _ r => rowR r) hP h2 ⟨by omega, upto_all hP2 (by omega)⟩
  · intro h2
    refine awp_exit ?_
    simp only [go_sem]
    have ha := upto_all (p := fun _ r => rowR r) hP (by omega)
    have key : tableR t n ↔ (1 ≤ n ∧ n ≤ 5) ∧ (t.length : Int) = n := ⟨fun e => ⟨e.1, e.2.1⟩, fun e => ⟨e.1, e.2, ha⟩⟩
    obtain ⟨K6, hK6⟩ : ∃ K : List V → Store → Prop, K = fun L σ => ∃ q rest y0 y1 y6 y8 y9 y10 y11 y12 y15 y16 y17 y18 y23 y27, L = [y0, y1, .bool q, y6, y8, y9, y10, y11, y12, y15, y16, y17, y18, y23, y27] ∧ σ = rest ∧ q = decide (tableR t n) := ⟨_, rfl⟩
    refine awp_srK (K6) ?_ ?_
    · simp only [go_sem, R136_13, v136, p136]
      repeat' first
        | (refine selP_if rfl (fun hG => ?_) (fun hG => ?_) <;> first | simp only [go_sem, v136, p136, eq_false hG] | simp only [go_sem, v136, p136, eq_true hG])
        | (refine selP_ifn rfl (fun hG => ?_) (fun hG => ?_) <;> first | simp only [go_sem, v136, p136, eq_false hG] | simp only [go_sem, v136, p136, eq_true hG])
        | (refine selN_if rfl (fun hG => ?_) (fun hG => ?_) <;> first | simp only [go_sem, v136, p136, eq_false hG] | simp only [go_sem, v136, p136, eq_true hG])
        | (refine selN_ifn rfl (fun hG => ?_) (fun hG => ?_) <;> first | simp only [go_sem, v136, p136, eq_false hG] | simp only [go_sem, v136, p136, eq_true hG])
        | (refine selB_if rfl (fun hG => ?_) (fun hG => ?_) <;> simp only [go_sem, v136, p136, hG])
        | (refine selB_ifn rfl (fun hG => ?_) (fun hG => ?_) <;> simp only [go_sem, v136, p136, hG])
        | (refine run_see (within_ok _ _ _) false (Views.refl rfl) rfl (fun j hj => by omega) (fun h => by cases h) ?_; simp only [go_sem, v136, p136])
      all_goals rw [hK6]
      all_goals refine ⟨_, _, _, _, _, _, _, _, _, _, _, _, _, _, _, _, rfl, rfl, ?_⟩
      all_goals grind
    intro L σ hq
    rw [hK6] at hq
    obtain ⟨q, rest, y0, y1, y6, y8, y9, y10, y11, y12, y15, y16, y17, y18, y23, y27, rfl, rfl, hq⟩ := hq
    subst hq
    refine awp_ret ?_
    try simp only [go_sem]
    exact fin _ _ _ rfl rfl
def mx (x y : Int) : Int := if y > x then y else x
def maxI (xs : List Int) : Int := xs.foldl mx (xs.headD 0)
theorem mx_fold : ∀ (xs : List Int) (a k : Int), xs.foldl mx a ≤ k ↔ a ≤ k ∧ ∀ x ∈ xs, x ≤ k
  | [], a, k => by simp
  | y :: ys, a, k => by
    simp only [List.foldl_cons]
    rw [mx_fold ys (mx a y) k]
    unfold mx
    simp only [List.mem_cons]
    constructor
    · rintro ⟨h1, h2⟩
      split at h1
      · exact ⟨by omega, fun x hx => by rcases hx with rfl | hx; exact h1; exact h2 x hx⟩
      · exact ⟨h1, fun x hx => by rcases hx with rfl | hx; omega; exact h2 x hx⟩
    · rintro ⟨h1, h2⟩
      have := h2 y (.inl rfl)
      exact ⟨by split <;> omega, fun x hx => h2 x (.inr hx)⟩
theorem maxI_le {xs : List Int} (h : 0 < xs.length) (k : Int) : maxI xs ≤ k ↔ ∀ x ∈ xs, x ≤ k := by
  unfold maxI
  rw [mx_fold]
  cases xs with
  | nil => simp at h
  | cons y ys => simp
theorem slicesMax_ok (xs : List Int) (h : xs.length ≤ 1048576) (h0 : 0 < xs.length) : FS Try.prog 135 [] [.fz 1 (rw_ intC xs)] (.int .i64 (maxI xs)) [] := by
  refine FS.of (X := X135) (ac := A135) (os := O135) Try.func135 (by rfl) (by rfl) (by kernel_rfl) o135 (Nat.le_of_ble_eq_true rfl) ?_
  show AWP X135 A135 (Ends X135.vs O135 0 _ _) [.fz 1 (rw_ intC xs), .tup [], .tup [], .tup [], .tup [], .tup []] []
  obtain ⟨Q, hQ⟩ : ∃ Q, Q = Ends X135.vs O135 0 (.int .i64 (maxI xs)) [] := ⟨_, rfl⟩
  rw [← hQ]
  have fin : ∀ L σ vV, resVs O135 (look X135.vs L) σ = some [vV] → vV = (.int .i64 (maxI xs)) → Q .ret L σ := by
    intro L σ vV h1 h2
    rw [hQ]
    exact Ends.is (.inl rfl) h1 (by simp only [packV, h2]) rfl
  have hd : xs.headD 0 = xs[0] := by cases xs with | nil => simp at h0 | cons y ys => rfl
  refine awp_sr ?_
  simp only [go_sem, R135_0, v135, p135]
  refine awp_sr2 ?_
  simp only [go_sem, R135_1, v135, p135]
  refine awp_if rfl ?_ ?_
  · intro h1; omega
  intro h1
  refine awp_skip ?_
  simp only [go_sem]
  refine awp_sr ?_
  simp only [go_sem, R135_2, v135, p135, rw_at _ h0, intC, show (0 : Int).toNat = 0 from rfl, show ((0 : Int) ≤ 0) = True by simp]
  refine awp_sr2 ?_
  simp only [go_sem, R135_3, v135, p135]
  obtain ⟨I, hI⟩ : ∃ I : Nat → List V → Store → Prop, I = fun mM L σ => ∃ i y2 y7 y15, xs.length - i = mM ∧ (1 ≤ i ∧ i ≤ xs.length) ∧ L = [.fz 1 (rw_ intC xs), y2, .int .i64 ((xs.take i).foldl mx xs[0]), .int .i64 (i : Nat), y7, y15] ∧ σ = [] := ⟨_, rfl⟩
  first | refine awp_for I (xs.length - 1) ?_ ?_ | refine awp_seq (awp_for I (xs.length - 1) ?_ ?_)
  · have e0 : (xs.take 1).foldl mx xs[0] = xs[0] := by
      rw [List.take_succ_eq_append_getElem h0]
      simp [mx]
    rw [← e0]
    rw [hI]
    refine ⟨1, _, _, _, rfl, ?_, rfl, rfl⟩
    exact ⟨Nat.le_refl _, h0⟩
  intro mM L σ hIn
  rw [hI] at hIn
  obtain ⟨i, y2, y7, y15, rfl, hP, rfl, rfl⟩ := hIn
  obtain ⟨hi1, hi2⟩ := hP
  refine awp_sr2 ?_
  simp only [go_sem, R135_4, v135, p135]
  refine awp_if rfl ?_ ?_
  · intro h2
    have h2 : i < xs.length := by omega
    have e1 := fold_take mx xs[0] h2
    refine awp_skip ?_
    simp only [go_sem]
    first | refine awp_block ?_ | refine awp_seq (awp_block ?_)
    refine awp_reg ?_
    simp only [go_sem, R135_5, v135, p135, rw_at _ h2, intC]
    rw [show (if xs[i] > (xs.take i).foldl mx xs[0] then xs[i] else (xs.take i).foldl mx xs[0]) = (xs.take (i + 1)).foldl mx xs[0] from e1.symm]
    refine awp_reg ?_
    simp only [go_sem, R135_6, v135, p135, wrap_succ (i := i) (by omega)]
    refine ⟨xs.length - (i + 1), ?_, ?_⟩
    rotate_left
    rw [hI]
    refine ⟨i + 1, _, _, _, rfl, ?_, rfl, rfl⟩
    · exact ⟨by omega, by omega⟩
    · omega
  · intro h2
    refine awp_exit ?_
    simp only [go_sem]
    have : i = xs.length := by omega
    subst this
    refine awp_sr ?_
    simp only [go_sem, R135_7, v135, p135]
    refine awp_ret ?_
    try simp only [go_sem]
    exact fin _ _ _ rfl (congrArg (V.int .i64) (by unfold maxI; rw [hd]))
end Go.Proofs.Ytffigokicddekaa.Abs
/- Sessions and rises, walked in both texts. No condition. -/
set_option linter.unusedVariables false
set_option linter.unusedSimpArgs false
set_option maxRecDepth 10000
namespace Go.Proofs.Ytffigokicddekaa.Abs
open Go Go.Proofs
def R127_0 : List AR := [⟨(some 1), none, 0, (.box 0 19 (.t 0))⟩, ⟨(some 2), none, 0, (.mov (.k (.bool false)))⟩]
def R127_1 : List AR := [⟨(some 6), none, 0, (.faddr 14 (.t 1))⟩, ⟨(some 7), none, 0, (.load 1 false (.t 6))⟩, ⟨(some 8), none, 0, (.len (.t 7))⟩, ⟨(some 9), none, 0, (.faddr 13 (.t 1))⟩, ⟨(some 10), none, 0, (.load 1 false (.t 9))⟩, ⟨(some 11), none, 0, (.bin .gtr (.t 8) (.t 10))⟩]
def R127_2 : List AR := [⟨(some 2), none, 0, (.mov (.k (.bool false)))⟩]
def R127_3 : List AR := [⟨(some 3), none, 0, (.mov (.k (.int .i64 0)))⟩]
def R127_4 : List AR := [⟨(some 12), none, 0, (.mov (.t 3))⟩, ⟨(some 13), none, 0, (.faddr 14 (.t 1))⟩, ⟨(some 14), none, 0, (.load 1 false (.t 13))⟩, ⟨(some 15), none, 0, (.len (.t 14))⟩, ⟨(some 16), none, 0, (.bin .lss (.t 12) (.t 15))⟩]
def R127_5 : List AR := [⟨(some 19), none, 0, (.faddr 14 (.t 1))⟩, ⟨(some 20), none, 0, (.load 1 false (.t 19))⟩, ⟨(some 21), none, 0, (.mov (.t 3))⟩, ⟨(some 22), none, 0, (.iaddr 4 (.t 20) (.t 21))⟩, ⟨(some 23), none, 0, (.load 4 true (.t 22))⟩, ⟨(some 4), none, 0, (.alloc 0 4 [(.int .i64 0), (.int .i64 0), (.bool false), (.int .i64 0)])⟩, ⟨none, none, 0, (.store 4 (.t 4) (.t 23))⟩]
def R127_6 : List AR := [⟨(some 24), none, 0, (.faddr 0 (.t 4))⟩, ⟨(some 25), none, 0, (.load 1 false (.t 24))⟩, ⟨(some 26), none, 0, (.faddr 1 (.t 1))⟩, ⟨(some 27), none, 0, (.load 1 false (.t 26))⟩, ⟨(some 28), none, 0, (.bin .sub (.t 27) (.k (.int .i64 1)))⟩, ⟨(some 29), none, 0, (.call false 0 0 101 [(.t 25), (.k (.int .i64 0)), (.t 28)])⟩, ⟨(some 30), none, 0, (.not (.t 29))⟩, ⟨(some 31), none, 0, (.mov (.t 30))⟩, ⟨(some 32), (some (31, false)), 0, (.faddr 0 (.t 4))⟩, ⟨(some 33), (some (31, false)), 0, (.load 1 false (.t 32))⟩, ⟨(some 34), (some (31, false)), 0, (.faddr 0 (.t 1))⟩, ⟨(some 35), (some (31, false)), 0, (.load 1 false (.t 34))⟩, ⟨(some 36), (some (31, false)), 0, (.bin .eql (.t 33) (.t 35))⟩, ⟨(some 37), none, 0, (.pick (.t 31) (.k (.bool true)) (.t 36))⟩, ⟨(some 38), none, 0, (.mov (.t 37))⟩, ⟨(some 39), (some (38, false)), 0, (.faddr 1 (.t 4))⟩, ⟨(some 40), (some (38, false)), 0, (.load 1 false (.t 39))⟩, ⟨(some 41), (some (38, false)), 0, (.call false 0 0 101 [(.t 40), (.k (.int .i64 0)), (.k (.int .i64 100000))])⟩, ⟨(some 42), (some (38, false)), 0, (.not (.t 41))⟩, ⟨(some 43), none, 0, (.pick (.t 38) (.k (.bool true)) (.t 42))⟩, ⟨(some 44), none, 0, (.mov (.t 43))⟩, ⟨(some 45), (some (44, false)), 0, (.faddr 3 (.t 4))⟩, ⟨(some 46), (some (44, false)), 0, (.load 1 false (.t 45))⟩, ⟨(some 47), (some (44, false)), 0, (.faddr 15 (.t 1))⟩, ⟨(some 48), (some (44, false)), 0, (.load 1 false (.t 47))⟩, ⟨(some 49), (some (44, false)), 0, (.call false 0 0 101 [(.t 46), (.k (.int .i64 0)), (.t 48)])⟩, ⟨(some 50), (some (44, false)), 0, (.not (.t 49))⟩, ⟨(some 51), none, 0, (.pick (.t 44) (.k (.bool true)) (.t 50))⟩]
def R127_7 : List AR := [⟨(some 2), none, 0, (.mov (.k (.bool false)))⟩]
def R127_8 : List AR := [⟨(some 5), none, 0, (.mov (.k (.int .i64 0)))⟩]
def R127_9 : List AR := [⟨(some 52), none, 0, (.mov (.t 5))⟩, ⟨(some 53), none, 0, (.mov (.t 3))⟩, ⟨(some 54), none, 0, (.bin .lss (.t 52) (.t 53))⟩]
def R127_10 : List AR := [⟨(some 57), none, 0, (.faddr 14 (.t 1))⟩, ⟨(some 58), none, 0, (.load 1 false (.t 57))⟩, ⟨(some 59), none, 0, (.mov (.t 5))⟩, ⟨(some 60), none, 0, (.iaddr 4 (.t 58) (.t 59))⟩, ⟨(some 61), none, 0, (.faddr 0 (.t 60))⟩, ⟨(some 62), none, 0, (.load 1 false (.t 61))⟩, ⟨(some 63), none, 0, (.faddr 0 (.t 4))⟩, ⟨(some 64), none, 0, (.load 1 false (.t 63))⟩, ⟨(some 65), none, 0, (.bin .eql (.t 62) (.t 64))⟩, ⟨(some 66), none, 0, (.mov (.t 65))⟩, ⟨(some 67), (some (66, true)), 0, (.faddr 14 (.t 1))⟩, ⟨(some 68), (some (66, true)), 0, (.load 1 false (.t 67))⟩, ⟨(some 69), (some (66, true)), 0, (.mov (.t 5))⟩, ⟨(some 70), (some (66, true)), 0, (.iaddr 4 (.t 68) (.t 69))⟩, ⟨(some 71), (some (66, true)), 0, (.faddr 2 (.t 70))⟩, ⟨(some 72), (some (66, true)), 0, (.load 1 false (.t 71))⟩, ⟨(some 73), (some (66, true)), 0, (.faddr 2 (.t 4))⟩, ⟨(some 74), (some (66, true)), 0, (.load 1 false (.t 73))⟩, ⟨(some 75), (some (66, true)), 0, (.beq false (.t 72) (.t 74))⟩, ⟨(some 76), none, 0, (.pick (.t 66) (.t 75) (.k (.bool false)))⟩]
def R127_11 : List AR := [⟨(some 2), none, 0, (.mov (.k (.bool false)))⟩]
def R127_12 : List AR := [⟨(some 55), none, 0, (.mov (.t 5))⟩, ⟨(some 56), none, 0, (.bin .add (.t 55) (.k (.int .i64 1)))⟩, ⟨(some 5), none, 0, (.mov (.t 56))⟩]
def A127_0 : AC := (.seq (.block 3 (.seq (.draw 0 R127_10) (.cond (.t 76) (.seq (.reg 0 R127_11) .ret) .skip))) (.reg 0 R127_12))
def L127_0 : AC := (.seq (.seq (.reg 0 R127_9) (.cond (.t 54) .skip (.exit 2))) A127_0)
def A127_1 : AC := (.seq (.reg 0 R127_8) (.block 2 (.loop L127_0)))
def A127_2 : AC := (.seq (.seq (.reg 0 R127_6) (.cond (.t 51) (.seq (.reg 0 R127_7) .ret) .skip)) A127_1)
def R127_13 : List AR := [⟨(some 17), none, 0, (.mov (.t 3))⟩, ⟨(some 18), none, 0, (.bin .add (.t 17) (.k (.int .i64 1)))⟩, ⟨(some 3), none, 0, (.mov (.t 18))⟩]
def A127_3 : AC := (.seq (.block 1 (.seq (.reg 1 R127_5) A127_2)) (.reg 0 R127_13))
def L127_1 : AC := (.seq (.seq (.reg 0 R127_4) (.cond (.t 16) .skip (.exit 0))) A127_3)
def R127_14 : List AR := [⟨(some 2), none, 0, (.mov (.k (.bool true)))⟩]
def A127_4 : AC := (.seq (.reg 0 R127_14) .ret)
def A127_5 : AC := (.seq (.seq (.reg 0 R127_3) (.block 0 (.loop L127_1))) A127_4)
def A127_6 : AC := (.seq (.seq (.reg 0 R127_1) (.cond (.t 11) (.seq (.reg 0 R127_2) .ret) .skip)) A127_5)
def A127 : AC := (.seq (.reg 1 R127_0) A127_6)
def O127 : List AO := [(.mov (.t 2))]
def G127 : Fns := ⟨fun f => false, fun f => 0, false⟩
noncomputable def X127 : Cx := ⟨Try.prog, G127, drawD, 77, [0, 1, 2, 3, 4, 5, 11, 16, 51, 54, 76]⟩
theorem c127 : (Try.f127.body).bind (compC X127.P X127.Γ X127.D X127.nt) = some A127 := by kernel_rfl
theorem o127 : compRes X127.P Try.f127.results.toList = some O127 := by kernel_rfl
theorem v127 : X127.vs = [0, 1, 2, 3, 4, 5, 11, 16, 51, 54, 76] := rfl
theorem p127 : X127.P = Try.prog := rfl
def R137_0 : List AR := [⟨(some 1), none, 0, (.box 0 19 (.t 0))⟩, ⟨(some 2), none, 0, (.mov (.k (.bool false)))⟩]
def R137_1 : List AR := [⟨(some 5), none, 0, (.faddr 14 (.t 1))⟩, ⟨(some 6), none, 0, (.load 1 false (.t 5))⟩, ⟨(some 7), none, 0, (.len (.t 6))⟩, ⟨(some 8), none, 0, (.mov (.k (.int .i64 0)))⟩]
def R137_2 : List AR := [⟨(some 9), none, 0, (.bin .lss (.t 8) (.t 7))⟩]
def R137_3 : List AR := [⟨(some 10), none, 0, (.mov (.t 8))⟩, ⟨(some 11), none, 0, (.iaddr 4 (.t 6) (.t 8))⟩, ⟨(some 12), none, 0, (.load 4 true (.t 11))⟩, ⟨(some 4), none, 0, (.alloc 0 4 [(.int .i64 0), (.int .i64 0), (.bool false), (.int .i64 0)])⟩, ⟨(some 3), none, 0, (.mov (.t 10))⟩, ⟨none, none, 0, (.store 4 (.t 4) (.t 12))⟩]
def R137_4 : List AR := [⟨(some 13), none, 0, (.load 19 true (.t 1))⟩, ⟨(some 14), none, 0, (.faddr 0 (.t 4))⟩, ⟨(some 15), none, 0, (.load 1 false (.t 14))⟩, ⟨(some 16), none, 0, (.call false 0 0 167 [(.t 13), (.t 15)])⟩, ⟨(some 17), none, 0, (.not (.t 16))⟩, ⟨(some 18), none, 0, (.mov (.t 17))⟩, ⟨(some 19), (some (18, false)), 0, (.faddr 1 (.t 4))⟩, ⟨(some 20), (some (18, false)), 0, (.load 1 false (.t 19))⟩, ⟨(some 21), (some (18, false)), 0, (.call false 0 0 105 [(.t 20), (.k (.int .i64 0)), (.k (.int .i64 100000))])⟩, ⟨(some 22), (some (18, false)), 0, (.not (.t 21))⟩, ⟨(some 23), none, 0, (.pick (.t 18) (.k (.bool true)) (.t 22))⟩, ⟨(some 24), none, 0, (.mov (.t 23))⟩, ⟨(some 25), (some (24, false)), 0, (.faddr 3 (.t 4))⟩, ⟨(some 26), (some (24, false)), 0, (.load 1 false (.t 25))⟩, ⟨(some 27), (some (24, false)), 0, (.faddr 15 (.t 1))⟩, ⟨(some 28), (some (24, false)), 0, (.load 1 false (.t 27))⟩, ⟨(some 29), (some (24, false)), 0, (.call false 0 0 105 [(.t 26), (.k (.int .i64 0)), (.t 28)])⟩, ⟨(some 30), (some (24, false)), 0, (.not (.t 29))⟩, ⟨(some 31), none, 0, (.pick (.t 24) (.k (.bool true)) (.t 30))⟩, ⟨(some 32), none, 0, (.mov (.t 31))⟩, ⟨(some 33), (some (32, false)), 0, (.load 19 true (.t 1))⟩, ⟨(some 34), (some (32, false)), 0, (.faddr 0 (.t 4))⟩, ⟨(some 35), (some (32, false)), 0, (.load 1 false (.t 34))⟩, ⟨(some 36), (some (32, false)), 0, (.faddr 2 (.t 4))⟩, ⟨(some 37), (some (32, false)), 0, (.load 1 false (.t 36))⟩, ⟨(some 38), (some (32, false)), 0, (.call false 0 0 168 [(.t 33), (.t 35), (.t 37)])⟩, ⟨(some 39), (some (32, false)), 0, (.mov (.t 3))⟩, ⟨(some 40), (some (32, false)), 0, (.bin .neq (.t 38) (.t 39))⟩, ⟨(some 41), none, 0, (.pick (.t 32) (.k (.bool true)) (.t 40))⟩]
def R137_5 : List AR := [⟨(some 2), none, 0, (.mov (.k (.bool false)))⟩]
def A137_0 : AC := (.seq (.reg 0 R137_4) (.cond (.t 41) (.seq (.reg 0 R137_5) .ret) .skip))
def R137_6 : List AR := [⟨(some 42), none, 0, (.bin .add (.t 8) (.k (.int .i64 1)))⟩, ⟨(some 8), none, 0, (.mov (.t 42))⟩]
def A137_1 : AC := (.seq (.block 1 (.seq (.reg 1 R137_3) A137_0)) (.reg 0 R137_6))
def A137_2 : AC := (.seq (.cond (.t 9) .skip (.exit 0)) A137_1)
def L137_0 : AC := (.seq (.reg 0 R137_2) A137_2)
def R137_7 : List AR := [⟨(some 43), none, 0, (.faddr 13 (.t 1))⟩, ⟨(some 44), none, 0, (.load 1 false (.t 43))⟩, ⟨(some 45), none, 0, (.call false 0 0 105 [(.t 44), (.k (.int .i64 1)), (.k (.int .i64 4))])⟩, ⟨(some 46), none, 0, (.mov (.t 45))⟩, ⟨(some 47), (some (46, true)), 0, (.faddr 14 (.t 1))⟩, ⟨(some 48), (some (46, true)), 0, (.load 1 false (.t 47))⟩, ⟨(some 49), (some (46, true)), 0, (.len (.t 48))⟩, ⟨(some 50), (some (46, true)), 0, (.faddr 13 (.t 1))⟩, ⟨(some 51), (some (46, true)), 0, (.load 1 false (.t 50))⟩, ⟨(some 52), (some (46, true)), 0, (.bin .leq (.t 49) (.t 51))⟩, ⟨(some 53), none, 0, (.pick (.t 46) (.t 52) (.k (.bool false)))⟩, ⟨(some 2), none, 0, (.mov (.t 53))⟩]
def A137_3 : AC := (.seq (.reg 0 R137_7) .ret)
def A137_4 : AC := (.seq (.seq (.reg 0 R137_1) (.block 0 (.loop L137_0))) A137_3)
def A137 : AC := (.seq (.reg 1 R137_0) A137_4)
def O137 : List AO := [(.mov (.t 2))]
def G137 : Fns := ⟨fun f => false, fun f => 0, false⟩
noncomputable def X137 : Cx := ⟨Try.prog, G137, drawD, 54, [0, 1, 2, 3, 4, 6, 7, 8, 9, 41]⟩
theorem c137 : (Try.f137.body).bind (compC X137.P X137.Γ X137.D X137.nt) = some A137 := by kernel_rfl
theorem o137 : compRes X137.P Try.f137.results.toList = some O137 := by kernel_rfl
theorem v137 : X137.vs = [0, 1, 2, 3, 4, 6, 7, 8, 9, 41] := rfl
theorem p137 : X137.P = Try.prog := rfl
def R138_0 : List AR := [⟨(some 1), none, 0, (.box 0 19 (.t 0))⟩, ⟨(some 2), none, 0, (.mov (.k (.bool false)))⟩]
def R138_1 : List AR := [⟨(some 5), none, 0, (.faddr 18 (.t 1))⟩, ⟨(some 6), none, 0, (.load 1 false (.t 5))⟩, ⟨(some 7), none, 0, (.len (.t 6))⟩, ⟨(some 8), none, 0, (.mov (.k (.int .i64 0)))⟩]
def R138_2 : List AR := [⟨(some 9), none, 0, (.bin .lss (.t 8) (.t 7))⟩]
def R138_3 : List AR := [⟨(some 10), none, 0, (.iaddr 3 (.t 6) (.t 8))⟩, ⟨(some 11), none, 0, (.load 3 true (.t 10))⟩, ⟨(some 4), none, 0, (.alloc 0 3 [(.int .i64 0), (.int .i64 0), (.int .i64 0)])⟩, ⟨none, none, 0, (.store 3 (.t 4) (.t 11))⟩]
def R138_4 : List AR := [⟨(some 12), none, 0, (.faddr 0 (.t 4))⟩, ⟨(some 13), none, 0, (.load 1 false (.t 12))⟩, ⟨(some 14), none, 0, (.call false 0 0 105 [(.t 13), (.k (.int .i64 0)), (.k (.int .i64 1000))])⟩, ⟨(some 15), none, 0, (.not (.t 14))⟩, ⟨(some 16), none, 0, (.mov (.t 15))⟩, ⟨(some 17), (some (16, false)), 0, (.faddr 1 (.t 4))⟩, ⟨(some 18), (some (16, false)), 0, (.load 1 false (.t 17))⟩, ⟨(some 19), (some (16, false)), 0, (.call false 0 0 105 [(.t 18), (.k (.int .i64 0)), (.k (.int .i64 100000))])⟩, ⟨(some 20), (some (16, false)), 0, (.not (.t 19))⟩, ⟨(some 21), none, 0, (.pick (.t 16) (.k (.bool true)) (.t 20))⟩, ⟨(some 22), none, 0, (.mov (.t 21))⟩, ⟨(some 23), (some (22, false)), 0, (.faddr 2 (.t 4))⟩, ⟨(some 24), (some (22, false)), 0, (.load 1 false (.t 23))⟩, ⟨(some 25), (some (22, false)), 0, (.faddr 17 (.t 1))⟩, ⟨(some 26), (some (22, false)), 0, (.load 1 false (.t 25))⟩, ⟨(some 27), (some (22, false)), 0, (.call false 0 0 105 [(.t 24), (.k (.int .i64 0)), (.t 26)])⟩, ⟨(some 28), (some (22, false)), 0, (.not (.t 27))⟩, ⟨(some 29), none, 0, (.pick (.t 22) (.k (.bool true)) (.t 28))⟩]
def R138_5 : List AR := [⟨(some 2), none, 0, (.mov (.k (.bool false)))⟩]
def A138_0 : AC := (.seq (.reg 0 R138_4) (.cond (.t 29) (.seq (.reg 0 R138_5) .ret) .skip))
def R138_6 : List AR := [⟨(some 30), none, 0, (.bin .add (.t 8) (.k (.int .i64 1)))⟩, ⟨(some 8), none, 0, (.mov (.t 30))⟩]
def A138_1 : AC := (.seq (.block 1 (.seq (.reg 1 R138_3) A138_0)) (.reg 0 R138_6))
def A138_2 : AC := (.seq (.cond (.t 9) .skip (.exit 0)) A138_1)
def L138_0 : AC := (.seq (.reg 0 R138_2) A138_2)
def R138_7 : List AR := [⟨(some 31), none, 0, (.faddr 18 (.t 1))⟩, ⟨(some 32), none, 0, (.load 1 false (.t 31))⟩, ⟨(some 33), none, 0, (.len (.t 32))⟩, ⟨(some 34), none, 0, (.bin .eql (.t 33) (.k (.int .i64 5)))⟩, ⟨(some 2), none, 0, (.mov (.t 34))⟩]
def A138_3 : AC := (.seq (.reg 0 R138_7) .ret)
def A138_4 : AC := (.seq (.seq (.reg 0 R138_1) (.block 0 (.loop L138_0))) A138_3)
def A138 : AC := (.seq (.reg 1 R138_0) A138_4)
def O138 : List AO := [(.mov (.t 2))]
def G138 : Fns := ⟨fun f => false, fun f => 0, false⟩
noncomputable def X138 : Cx := ⟨Try.prog, G138, drawD, 35, [0, 1, 2, 4, 6, 7, 8, 9, 29]⟩
theorem c138 : (Try.f138.body).bind (compC X138.P X138.Γ X138.D X138.nt) = some A138 := by kernel_rfl
theorem o138 : compRes X138.P Try.f138.results.toList = some O138 := by kernel_rfl
theorem v138 : X138.vs = [0, 1, 2, 4, 6, 7, 8, 9, 29] := rfl
theorem p138 : X138.P = Try.prog := rfl
def R167_0 : List AR := [⟨(some 2), none, 0, (.box 0 19 (.t 0))⟩, ⟨(some 4), none, 0, (.mov (.k (.bool false)))⟩]
def R167_1 : List AR := [⟨(some 5), none, 0, (.mov (.t 1))⟩, ⟨(some 6), none, 0, (.faddr 1 (.t 2))⟩, ⟨(some 7), none, 0, (.load 1 false (.t 6))⟩, ⟨(some 8), none, 0, (.bin .sub (.t 7) (.k (.int .i64 1)))⟩, ⟨(some 9), none, 0, (.call false 0 0 105 [(.t 5), (.k (.int .i64 0)), (.t 8)])⟩, ⟨(some 10), none, 0, (.mov (.t 9))⟩, ⟨(some 11), (some (10, true)), 0, (.mov (.t 1))⟩, ⟨(some 12), (some (10, true)), 0, (.faddr 0 (.t 2))⟩, ⟨(some 13), (some (10, true)), 0, (.load 1 false (.t 12))⟩, ⟨(some 14), (some (10, true)), 0, (.bin .neq (.t 11) (.t 13))⟩, ⟨(some 15), none, 0, (.pick (.t 10) (.t 14) (.k (.bool false)))⟩, ⟨(some 4), none, 0, (.mov (.t 15))⟩]
def A167_0 : AC := (.seq (.reg 0 R167_1) .ret)
def A167 : AC := (.seq (.reg 1 R167_0) A167_0)
def O167 : List AO := [(.mov (.t 4))]
def G167 : Fns := ⟨fun f => false, fun f => 0, false⟩
noncomputable def X167 : Cx := ⟨Try.prog, G167, drawD, 16, [0, 1, 2, 4]⟩
theorem c167 : (Try.f167.body).bind (compC X167.P X167.Γ X167.D X167.nt) = some A167 := by kernel_rfl
theorem o167 : compRes X167.P Try.f167.results.toList = some O167 := by kernel_rfl
theorem v167 : X167.vs = [0, 1, 2, 4] := rfl
theorem p167 : X167.P = Try.prog := rfl
def R168_0 : List AR := [⟨(some 3), none, 0, (.box 0 19 (.t 0))⟩, ⟨(some 6), none, 0, (.mov (.k (.int .i64 0)))⟩]
def R168_1 : List AR := [⟨(some 9), none, 0, (.faddr 14 (.t 3))⟩, ⟨(some 10), none, 0, (.load 1 false (.t 9))⟩, ⟨(some 11), none, 0, (.len (.t 10))⟩, ⟨(some 12), none, 0, (.mov (.k (.int .i64 0)))⟩]
def R168_2 : List AR := [⟨(some 13), none, 0, (.bin .lss (.t 12) (.t 11))⟩]
def R168_3 : List AR := [⟨(some 14), none, 0, (.mov (.t 12))⟩, ⟨(some 15), none, 0, (.iaddr 4 (.t 10) (.t 12))⟩, ⟨(some 16), none, 0, (.load 4 true (.t 15))⟩, ⟨(some 8), none, 0, (.alloc 0 4 [(.int .i64 0), (.int .i64 0), (.bool false), (.int .i64 0)])⟩, ⟨(some 7), none, 0, (.mov (.t 14))⟩, ⟨none, none, 0, (.store 4 (.t 8) (.t 16))⟩]
def R168_4 : List AR := [⟨(some 17), none, 0, (.faddr 0 (.t 8))⟩, ⟨(some 18), none, 0, (.load 1 false (.t 17))⟩, ⟨(some 19), none, 0, (.mov (.t 1))⟩, ⟨(some 20), none, 0, (.bin .eql (.t 18) (.t 19))⟩, ⟨(some 21), none, 0, (.mov (.t 20))⟩, ⟨(some 22), (some (21, true)), 0, (.faddr 2 (.t 8))⟩, ⟨(some 23), (some (21, true)), 0, (.load 1 false (.t 22))⟩, ⟨(some 24), (some (21, true)), 0, (.mov (.t 2))⟩, ⟨(some 25), (some (21, true)), 0, (.beq false (.t 23) (.t 24))⟩, ⟨(some 26), none, 0, (.pick (.t 21) (.t 25) (.k (.bool false)))⟩]
def R168_5 : List AR := [⟨(some 27), none, 0, (.mov (.t 7))⟩, ⟨(some 6), none, 0, (.mov (.t 27))⟩]
def A168_0 : AC := (.seq (.reg 0 R168_4) (.cond (.t 26) (.seq (.reg 0 R168_5) .ret) .skip))
def R168_6 : List AR := [⟨(some 28), none, 0, (.bin .add (.t 12) (.k (.int .i64 1)))⟩, ⟨(some 12), none, 0, (.mov (.t 28))⟩]
def A168_1 : AC := (.seq (.block 1 (.seq (.reg 1 R168_3) A168_0)) (.reg 0 R168_6))
def A168_2 : AC := (.seq (.cond (.t 13) .skip (.exit 0)) A168_1)
def L168_0 : AC := (.seq (.reg 0 R168_2) A168_2)
def R168_7 : List AR := [⟨(some 6), none, 0, (.mov (.k (.int .i64 (-1))))⟩]
def A168_3 : AC := (.seq (.reg 0 R168_7) .ret)
def A168_4 : AC := (.seq (.seq (.reg 0 R168_1) (.block 0 (.loop L168_0))) A168_3)
def A168 : AC := (.seq (.reg 1 R168_0) A168_4)
def O168 : List AO := [(.mov (.t 6))]
def G168 : Fns := ⟨fun f => false, fun f => 0, false⟩
noncomputable def X168 : Cx := ⟨Try.prog, G168, drawD, 29, [0, 1, 2, 3, 6, 7, 8, 10, 11, 12, 13, 26]⟩
theorem c168 : (Try.f168.body).bind (compC X168.P X168.Γ X168.D X168.nt) = some A168 := by kernel_rfl
theorem o168 : compRes X168.P Try.f168.results.toList = some O168 := by kernel_rfl
theorem v168 : X168.vs = [0, 1, 2, 3, 6, 7, 8, 10, 11, 12, 13, 26] := rfl
theorem p168 : X168.P = Try.prog := rfl
def sessQ (n : Node) (x : Sess) : Prop := ((0 ≤ x.peer ∧ x.peer ≤ n.n - 1) ∧ x.peer ≠ n.id) ∧ (0 ≤ x.num ∧ x.num ≤ 100000) ∧ (0 ≤ x.age ∧ x.age ≤ n.wait)
def sessP (n : Node) (i : Nat) (x : Sess) : Prop := sessQ n x ∧ ∀ (k : Nat) y, k < i → n.sess[k]? = some y → ¬ (y.peer = x.peer ∧ y.in_ = x.in_)
def sessR (n : Node) : Prop := (n.sess.length : Int) ≤ n.slots ∧ ∀ (i : Nat) x, n.sess[i]? = some x → sessP n i x
noncomputable instance (n : Node) (x : Sess) : Decidable (sessQ n x) := Classical.propDecidable _
noncomputable instance (n : Node) : Decidable (sessR n) := Classical.propDecidable _
theorem bool_eq (p q : Bool) : (V.bool (decide (p = q))) = .bool (decide (p = q)) := rfl
set_option maxHeartbeats 4000000 in
theorem specL11Sess_ok (n : Node) (h : n.sess.length ≤ 1048576) (hn : 1 ≤ n.n ∧ n.n ≤ 5) : FS Try.prog 127 [] [.agg n.c] (.bool (decide (sessR n))) [] := by
  refine FS.of (X := X127) (ac := A127) (os := O127) Try.func127 (by rfl) (by rfl) (by kernel_rfl) o127 (Nat.le_of_ble_eq_true rfl) ?_
  show AWP X127 A127 (Ends X127.vs O127 0 _ _) [.agg n.c, .tup [], .tup [], .tup [], .tup [], .tup [], .tup [], .tup [], .tup [], .tup [], .tup []] []
  obtain ⟨Q, hQ⟩ : ∃ Q, Q = Ends X127.vs O127 0 (.bool (decide (sessR n))) [] := ⟨_, rfl⟩
  rw [← hQ]
  have fin : ∀ L σ vV, resVs O127 (look X127.vs L) σ = some [vV] → vV = (.bool (decide (sessR n))) → Q .ret L σ := by
    intro L σ vV h1 h2
    rw [hQ]
    exact Ends.is (.inl rfl) h1 (by simp only [packV, h2]) rfl
  refine awp_sr ?_
  simp only [go_sem, R127_0, v127, p127, Node.c]
  refine awp_sr2 ?_
  simp only [go_sem, R127_1, v127, p127, Node.c]
  refine awp_if rfl ?_ ?_
  · intro h1
    refine awp_sr ?_
    simp only [go_sem, R127_2, v127, p127]
    refine awp_ret ?_
    try simp only [go_sem]
    exact fin _ _ (.bool false) rfl (congrArg V.bool (decide_eq_false fun e => by have := e.1; omega)).symm
  intro h1
  refine awp_skip ?_
  simp only [go_sem]
  refine awp_sr2 ?_
  simp only [go_sem, R127_3, v127, p127]
  obtain ⟨I, hI⟩ : ∃ I : Nat → List V → Store → Prop, I = fun mM L σ => ∃ i rest y0 y2 y4 y5 y11 y16 y51 y54 y76, mM = n.sess.length - i ∧ i ≤ n.sess.length ∧ (∀ j x, j < i → n.sess[j]? = some x → sessP n j x) ∧ L = [y0, .ptr 0 19 0 0, y2, .int .i64 (i : Nat), y4, y5, y11, y16, y51, y54, y76] ∧ σ = .live ⟨19, [n.c]⟩ :: rest := ⟨_, rfl⟩
  first | refine awp_for I n.sess.length ?_ ?_ | refine awp_seq (awp_for I n.sess.length ?_ ?_)
  · rw [hI]; refine ⟨0, _, _, _, _, _, _, _, _, _, _, rfl, Nat.zero_le _, ?_, rfl, rfl⟩
    intro j x h; omega
  intro mM L σ hIn
  rw [hI] at hIn
  obtain ⟨i, rest, y0, y2, y4, y5, y11, y16, y51, y54, y76, rfl, hi, hP, rfl, rfl⟩ := hIn
  refine awp_sr2 ?_
  simp only [go_sem, R127_4, v127, p127, Node.c]
  refine awp_if rfl ?_ ?_
  · intro h2
    have h2 : i < n.sess.length := by omega
    have no : ¬ sessP n i n.sess[i] → ¬ sessR n := fun e k => e (k.2 i _ (List.getElem?_eq_getElem h2))
    refine awp_skip ?_
    simp only [go_sem]
    refine awp_seq (awp_block ?_)
    refine awp_sr ?_
    simp only [go_sem, R127_5, v127, p127, Node.c, rw_at _ h2, Sess.c]
    refine (fun G : AWP X127 _ _ _ (.live ⟨19, [n.c]⟩ :: (rest ++ [.live ⟨4, [n.sess[i].c]⟩])) => G) ?_
    obtain ⟨K1, hK1⟩ : ∃ K : List V → Store → Prop, K = fun L σ => ∃ q y0 y2 y5 y11 y16 y54 y76, L = [y0, .ptr 0 19 0 0, y2, .int .i64 (i : Nat), .ptr (rest.length + 1) 4 0 0, y5, y11, y16, .bool q, y54, y76] ∧ σ = .live ⟨19, [n.c]⟩ :: (rest ++ [.live ⟨4, [n.sess[i].c]⟩]) ∧ q = !decide (sessQ n n.sess[i]) := ⟨_, rfl⟩
    refine awp_sr2K (K1) ?_ ?_
    · simp only [go_sem, R127_6, v127, p127, Node.c, Sess.c, wrap_i64 (n := n.n - 1) (by omega) (by omega)]
      repeat' first
        | (refine selP_if rfl (fun hG => ?_) (fun hG => ?_) <;> first | simp only [go_sem, v127, p127, eq_false hG, Node.c, Sess.c, wrap_i64 (n := n.n - 1) (by omega) (by omega)] | simp only [go_sem, v127, p127, eq_true hG, Node.c, Sess.c, wrap_i64 (n := n.n - 1) (by omega) (by omega)])
        | (refine selP_ifn rfl (fun hG => ?_) (fun hG => ?_) <;> first | simp only [go_sem, v127, p127, eq_false hG, Node.c, Sess.c, wrap_i64 (n := n.n - 1) (by omega) (by omega)] | simp only [go_sem, v127, p127, eq_true hG, Node.c, Sess.c, wrap_i64 (n := n.n - 1) (by omega) (by omega)])
        | (refine selN_if rfl (fun hG => ?_) (fun hG => ?_) <;> first | simp only [go_sem, v127, p127, eq_false hG, Node.c, Sess.c, wrap_i64 (n := n.n - 1) (by omega) (by omega)] | simp only [go_sem, v127, p127, eq_true hG, Node.c, Sess.c, wrap_i64 (n := n.n - 1) (by omega) (by omega)])
        | (refine selN_ifn rfl (fun hG => ?_) (fun hG => ?_) <;> first | simp only [go_sem, v127, p127, eq_false hG, Node.c, Sess.c, wrap_i64 (n := n.n - 1) (by omega) (by omega)] | simp only [go_sem, v127, p127, eq_true hG, Node.c, Sess.c, wrap_i64 (n := n.n - 1) (by omega) (by omega)])
        | (refine selB_if rfl (fun hG => ?_) (fun hG => ?_) <;> simp only [go_sem, v127, p127, hG, Node.c, Sess.c, wrap_i64 (n := n.n - 1) (by omega) (by omega)])
        | (refine selB_ifn rfl (fun hG => ?_) (fun hG => ?_) <;> simp only [go_sem, v127, p127, hG, Node.c, Sess.c, wrap_i64 (n := n.n - 1) (by omega) (by omega)])
        | (refine run_see (l1In_ok _ _ _) false (Views.refl rfl) rfl (fun j hj => by omega) (fun h => by cases h) ?_; simp only [go_sem, v127, p127, Node.c, Sess.c, wrap_i64 (n := n.n - 1) (by omega) (by omega)])
      all_goals rw [hK1]
      all_goals refine ⟨_, _, _, _, _, _, _, _, rfl, rfl, ?_⟩
      all_goals grind [sessQ]
    intro L σ hq
    rw [hK1] at hq
    obtain ⟨q, y0, y2, y5, y11, y16, y54, y76, rfl, rfl, hq⟩ := hq
    subst hq
    refine awp_if' rfl ?_ ?_
    · intro h3
      refine awp_sr ?_
      simp only [go_sem, R127_7, v127, p127]
      refine awp_ret ?_
      try simp only [go_sem]
      exact fin _ _ (.bool false) rfl (congrArg V.bool (decide_eq_false (no fun e => h3 e.1))).symm
    intro h3
    refine awp_skip ?_
    simp only [go_sem]
    refine awp_sr ?_
    simp only [go_sem, R127_8, v127, p127]
    obtain ⟨J, hJ⟩ : ∃ J : Nat → List V → Store → Prop, J = fun mM L σ => ∃ k y0 y2 y11 y16 y51 y54 y76, i - k = mM ∧ (k ≤ i ∧ ∀ (j : Nat) y, j < k → n.sess[j]? = some y → ¬ (y.peer = n.sess[i].peer ∧ y.in_ = n.sess[i].in_)) ∧ L = [y0, .ptr 0 19 0 0, y2, .int .i64 (i : Nat), .ptr (rest.length + 1) 4 0 0, .int .i64 (k : Nat), y11, y16, y51, y54, y76] ∧ σ = .live ⟨19, [n.c]⟩ :: (rest ++ [.live ⟨4, [n.sess[i].c]⟩]) := ⟨_, rfl⟩
    first | refine awp_for J (i) ?_ ?_ | refine awp_seq (awp_for J (i) ?_ ?_)
    · rw [hJ]
      refine ⟨0, _, _, _, _, _, _, _, rfl, ?_, rfl, rfl⟩
      exact ⟨Nat.zero_le _, fun j y h => by omega⟩
    intro mM L σ hIn
    rw [hJ] at hIn
    obtain ⟨k, y0, y2, y11, y16, y51, y54, y76, rfl, hP, rfl, rfl⟩ := hIn
    obtain ⟨hk, hK⟩ := hP
    refine awp_sr2 ?_
    simp only [go_sem, R127_9, v127, p127]
    refine awp_if rfl ?_ ?_
    · intro h4
      have h4 : k < i := by omega
      have h5 : k < n.sess.length := by omega
      refine awp_skip ?_
      simp only [go_sem]
      first | refine awp_block ?_ | refine awp_seq (awp_block ?_)
      obtain ⟨K2, hK2⟩ : ∃ K : List V → Store → Prop, K = fun L σ => ∃ q y0 y2 y11 y16 y51 y54, L = [y0, .ptr 0 19 0 0, y2, .int .i64 (i : Nat), .ptr (rest.length + 1) 4 0 0, .int .i64 (k : Nat), y11, y16, y51, y54, .bool q] ∧ σ = .live ⟨19, [n.c]⟩ :: (rest ++ [.live ⟨4, [n.sess[i].c]⟩]) ∧ q = decide (n.sess[k].peer = n.sess[i].peer ∧ n.sess[k].in_ = n.sess[i].in_) := ⟨_, rfl⟩
      refine awp_sdK (K2) mixed rfl (by rfl) ?_ ?_
      · simp only [go_sem, R127_10, v127, p127, Node.c, Sess.c, rw_at _ h5]
        repeat' first
          | (refine selP_if rfl (fun hG => ?_) (fun hG => ?_) <;> first | simp only [go_sem, v127, p127, eq_false hG, Node.c, Sess.c, rw_at _ h5] | simp only [go_sem, v127, p127, eq_true hG, Node.c, Sess.c, rw_at _ h5])
          | (refine selP_ifn rfl (fun hG => ?_) (fun hG => ?_) <;> first | simp only [go_sem, v127, p127, eq_false hG, Node.c, Sess.c, rw_at _ h5] | simp only [go_sem, v127, p127, eq_true hG, Node.c, Sess.c, rw_at _ h5])
          | (refine selN_if rfl (fun hG => ?_) (fun hG => ?_) <;> first | simp only [go_sem, v127, p127, eq_false hG, Node.c, Sess.c, rw_at _ h5] | simp only [go_sem, v127, p127, eq_true hG, Node.c, Sess.c, rw_at _ h5])
          | (refine selN_ifn rfl (fun hG => ?_) (fun hG => ?_) <;> first | simp only [go_sem, v127, p127, eq_false hG, Node.c, Sess.c, rw_at _ h5] | simp only [go_sem, v127, p127, eq_true hG, Node.c, Sess.c, rw_at _ h5])
          | (refine selB_if rfl (fun hG => ?_) (fun hG => ?_) <;> simp only [go_sem, v127, p127, hG, Node.c, Sess.c, rw_at _ h5])
          | (refine selB_ifn rfl (fun hG => ?_) (fun hG => ?_) <;> simp only [go_sem, v127, p127, hG, Node.c, Sess.c, rw_at _ h5])
        all_goals rw [hK2]
        all_goals refine ⟨_, _, _, _, _, _, _, rfl, rfl, ?_⟩
        all_goals grind
      intro L σ hq
      rw [hK2] at hq
      obtain ⟨q, y0, y2, y11, y16, y51, y54, rfl, rfl, hq⟩ := hq
      subst hq
      refine awp_if rfl ?_ ?_
      · intro h6
        refine awp_sr ?_
        simp only [go_sem, R127_11, v127, p127]
        refine awp_ret ?_
        try simp only [go_sem]
        exact fin _ _ (.bool false) rfl (congrArg V.bool (decide_eq_false (no fun e => e.2 k _ h4 (List.getElem?_eq_getElem h5) h6))).symm
      · intro h6
        refine awp_skip ?_
        simp only [go_sem]
        refine awp_reg ?_
        simp only [go_sem, R127_12, v127, p127, wrap_succ (i := k) (by omega)]
        refine ⟨i - (k + 1), ?_, ?_⟩
        rotate_left
        rw [hJ]
        refine ⟨k + 1, _, _, _, _, _, _, _, rfl, ?_, rfl, rfl⟩
        · refine ⟨by omega, fun j y hj hy => ?_⟩
          rcases Nat.lt_or_ge j k with h7 | h7
          · exact hK j y h7 hy
          · have : j = k := by omega
            subst this
            rw [List.getElem?_eq_getElem h5] at hy
            cases hy
            exact h6
        · omega
    · intro h4
      have : i = k := by omega
      subst this
      refine awp_exit ?_
      simp only [go_sem]
      refine awp_reg ?_
      simp only [go_sem, R127_13, v127, p127, wrap_succ (i := i) (by omega)]
      refine ⟨n.sess.length - (i + 1), by omega, ?_⟩
      rw [hI]
      refine ⟨i + 1, _, _, _, _, _, _, _, _, _, _, rfl, by omega, ?_, rfl, rfl⟩
      exact upto_succ hP h2 ⟨h3, hK⟩
  · intro h2
    refine awp_exit ?_
    simp only [go_sem]
    refine awp_sr ?_
    simp only [go_sem, R127_14, v127, p127]
    refine awp_ret ?_
    try simp only [go_sem]
    exact fin _ _ (.bool true) rfl (congrArg V.bool (decide_eq_true (show sessR n from ⟨by omega, upto_all hP (by omega)⟩)).symm)
theorem isPeer_ok (n : Node) (id : Int) (hn : 1 ≤ n.n ∧ n.n ≤ 5) : FS Try.prog 167 [] [.agg n.c, .int .i64 id] (.bool (decide ((0 ≤ id ∧ id ≤ n.n - 1) ∧ id ≠ n.id))) [] := by
  refine FS.of (X := X167) (ac := A167) (os := O167) Try.func167 (by rfl) (by rfl) (by kernel_rfl) o167 (Nat.le_of_ble_eq_true rfl) ?_
  show AWP X167 A167 (Ends X167.vs O167 0 _ _) [.agg n.c, .int .i64 id, .tup [], .tup []] []
  obtain ⟨Q, hQ⟩ : ∃ Q, Q = Ends X167.vs O167 0 (.bool (decide ((0 ≤ id ∧ id ≤ n.n - 1) ∧ id ≠ n.id))) [] := ⟨_, rfl⟩
  rw [← hQ]
  have fin : ∀ L σ vV, resVs O167 (look X167.vs L) σ = some [vV] → vV = (.bool (decide ((0 ≤ id ∧ id ≤ n.n - 1) ∧ id ≠ n.id))) → Q .ret L σ := by
    intro L σ vV h1 h2
    rw [hQ]
    exact Ends.is (.inl rfl) h1 (by simp only [packV, h2]) rfl
  refine awp_sr ?_
  simp only [go_sem, R167_0, v167, p167, Node.c]
  obtain ⟨K3, hK3⟩ : ∃ K : List V → Store → Prop, K = fun L σ => ∃ q y0 y1 y2, L = [y0, y1, y2, .bool q] ∧ σ = [.live ⟨19, [n.c]⟩] ∧ q = decide ((0 ≤ id ∧ id ≤ n.n - 1) ∧ id ≠ n.id) := ⟨_, rfl⟩
  refine awp_srK (K3) ?_ ?_
  · simp only [go_sem, R167_1, v167, p167, Node.c, wrap_i64 (n := n.n - 1) (by omega) (by omega)]
    repeat' first
      | (refine selP_if rfl (fun hG => ?_) (fun hG => ?_) <;> first | simp only [go_sem, v167, p167, eq_false hG, Node.c] | simp only [go_sem, v167, p167, eq_true hG, Node.c])
      | (refine selP_ifn rfl (fun hG => ?_) (fun hG => ?_) <;> first | simp only [go_sem, v167, p167, eq_false hG, Node.c] | simp only [go_sem, v167, p167, eq_true hG, Node.c])
      | (refine selN_if rfl (fun hG => ?_) (fun hG => ?_) <;> first | simp only [go_sem, v167, p167, eq_false hG, Node.c] | simp only [go_sem, v167, p167, eq_true hG, Node.c])
      | (refine selN_ifn rfl (fun hG => ?_) (fun hG => ?_) <;> first | simp only [go_sem, v167, p167, eq_false hG, Node.c] | simp only [go_sem, v167, p167, eq_true hG, Node.c])
      | (refine selB_if rfl (fun hG => ?_) (fun hG => ?_) <;> simp only [go_sem, v167, p167, hG, Node.c])
      | (refine selB_ifn rfl (fun hG => ?_) (fun hG => ?_) <;> simp only [go_sem, v167, p167, hG, Node.c])
      | (refine run_see (within_ok _ _ _) false (Views.refl rfl) rfl (fun j hj => by omega) (fun h => by cases h) ?_; simp only [go_sem, v167, p167, Node.c])
    all_goals rw [hK3]
    all_goals refine ⟨_, _, _, _, rfl, rfl, ?_⟩
    all_goals grind
  intro L σ hq
  rw [hK3] at hq
  obtain ⟨q, y0, y1, y2, rfl, rfl, hq⟩ := hq
  subst hq
  refine awp_ret ?_
  try simp only [go_sem]
  exact fin _ _ _ rfl rfl
/-- the first place of such a session, counted from k -/
def slotL : List Sess → Nat → Int → Bool → Int
  | [], _, _, _ => -1
  | y :: ys, k, p, b => if y.peer = p ∧ y.in_ = b then (k : Int) else slotL ys (k + 1) p b
theorem slotL_at {xs : List Sess} {i : Nat} (h : i < xs.length) (k : Nat) (p : Int) (b : Bool) : slotL (xs.drop i) k p b = if xs[i].peer = p ∧ xs[i].in_ = b then (k : Int) else slotL (xs.drop (i + 1)) (k + 1) p b := by
  rw [List.drop_eq_getElem_cons h]; rfl
set_option maxHeartbeats 1000000 in
theorem slot_ok (n : Node) (p : Int) (b : Bool) (h : n.sess.length ≤ 1048576) : FS Try.prog 168 [] [.agg n.c, .int .i64 p, .bool b] (.int .i64 (slotL n.sess 0 p b)) [] := by
  refine FS.of (X := X168) (ac := A168) (os := O168) Try.func168 (by rfl) (by rfl) (by kernel_rfl) o168 (Nat.le_of_ble_eq_true rfl) ?_
  show AWP X168 A168 (Ends X168.vs O168 0 _ _) [.agg n.c, .int .i64 p, .bool b, .tup [], .tup [], .tup [], .tup [], .tup [], .tup [], .tup [], .tup [], .tup []] []
  obtain ⟨Q, hQ⟩ : ∃ Q, Q = Ends X168.vs O168 0 (.int .i64 (slotL n.sess 0 p b)) [] := ⟨_, rfl⟩
  rw [← hQ]
  have fin : ∀ L σ vV, resVs O168 (look X168.vs L) σ = some [vV] → vV = (.int .i64 (slotL n.sess 0 p b)) → Q .ret L σ := by
    intro L σ vV h1 h2
    rw [hQ]
    exact Ends.is (.inl rfl) h1 (by simp only [packV, h2]) rfl
  refine awp_sr ?_
  simp only [go_sem, R168_0, v168, p168, Node.c]
  refine awp_sr2 ?_
  simp only [go_sem, R168_1, v168, p168, Node.c]
  obtain ⟨I, hI⟩ : ∃ I : Nat → List V → Store → Prop, I = fun mM L σ => ∃ i rest y0 y3 y6 y7 y8 y13 y26, mM = n.sess.length - i ∧ i ≤ n.sess.length ∧ (slotL n.sess 0 p b = slotL (n.sess.drop i) i p b) ∧ L = [y0, .int .i64 p, .bool b, y3, y6, y7, y8, .fz 4 (rw_ Sess.c n.sess), .int .i64 (n.sess.length : Nat), .int .i64 (i : Nat), y13, y26] ∧ σ = rest := ⟨_, rfl⟩
  first | refine awp_for I n.sess.length ?_ ?_ | refine awp_seq (awp_for I n.sess.length ?_ ?_)
  · rw [hI]; refine ⟨0, _, _, _, _, _, _, _, _, rfl, Nat.zero_le _, ?_, rfl, rfl⟩
    rfl
  intro mM L σ hIn
  rw [hI] at hIn
  obtain ⟨i, rest, y0, y3, y6, y7, y8, y13, y26, rfl, hi, hP, rfl, rfl⟩ := hIn
  refine awp_sr ?_
  simp only [go_sem, R168_2, v168, p168]
  refine awp_seq ?_
  refine awp_if rfl ?_ ?_
  · intro h1
    have h1 : i < n.sess.length := by omega
    have e1 := slotL_at h1 i p b
    refine awp_skip ?_
    simp only [go_sem]
    refine awp_seq (awp_block ?_)
    refine awp_sr ?_
    simp only [go_sem, R168_3, v168, p168, rw_at _ h1, Sess.c]
    obtain ⟨K4, hK4⟩ : ∃ K : List V → Store → Prop, K = fun L σ => ∃ q rest y0 y3 y6 y8 y13, L = [y0, .int .i64 p, .bool b, y3, y6, .int .i64 (i : Nat), y8, .fz 4 (rw_ Sess.c n.sess), .int .i64 (n.sess.length : Nat), .int .i64 (i : Nat), y13, .bool q] ∧ σ = rest ∧ q = decide (n.sess[i].peer = p ∧ n.sess[i].in_ = b) := ⟨_, rfl⟩
    refine awp_srK (K4) ?_ ?_
    · simp only [go_sem, R168_4, v168, p168]
      repeat' first
        | (refine selP_if rfl (fun hG => ?_) (fun hG => ?_) <;> first | simp only [go_sem, v168, p168, eq_false hG, Sess.c] | simp only [go_sem, v168, p168, eq_true hG, Sess.c])
        | (refine selP_ifn rfl (fun hG => ?_) (fun hG => ?_) <;> first | simp only [go_sem, v168, p168, eq_false hG, Sess.c] | simp only [go_sem, v168, p168, eq_true hG, Sess.c])
        | (refine selN_if rfl (fun hG => ?_) (fun hG => ?_) <;> first | simp only [go_sem, v168, p168, eq_false hG, Sess.c] | simp only [go_sem, v168, p168, eq_true hG, Sess.c])
        | (refine selN_ifn rfl (fun hG => ?_) (fun hG => ?_) <;> first | simp only [go_sem, v168, p168, eq_false hG, Sess.c] | simp only [go_sem, v168, p168, eq_true hG, Sess.c])
        | (refine selB_if rfl (fun hG => ?_) (fun hG => ?_) <;> simp only [go_sem, v168, p168, hG, Sess.c])
        | (refine selB_ifn rfl (fun hG => ?_) (fun hG => ?_) <;> simp only [go_sem, v168, p168, hG, Sess.c])
      all_goals rw [hK4]
      all_goals refine ⟨_, _, _, _, _, _, _, rfl, rfl, ?_⟩
      all_goals grind
    intro L σ hq
    rw [hK4] at hq
    obtain ⟨q, rest, y0, y3, y6, y8, y13, rfl, rfl, hq⟩ := hq
    subst hq
    refine awp_if rfl ?_ ?_
    · intro h2
      refine awp_sr ?_
      simp only [go_sem, R168_5, v168, p168]
      refine awp_ret ?_
      try simp only [go_sem]
      exact fin _ _ _ rfl (congrArg (V.int .i64) (by rw [hP, e1, if_pos h2]))
    · intro h2
      refine awp_skip ?_
      simp only [go_sem]
      refine awp_reg ?_
      simp only [go_sem, R168_6, v168, p168, wrap_succ (i := i) (by omega)]
      refine ⟨n.sess.length - (i + 1), by omega, ?_⟩
      rw [hI]
      refine ⟨i + 1, _, _, _, _, _, _, _, _, rfl, by omega, ?_, rfl, rfl⟩
      rw [hP, e1, if_neg h2]
  · intro h1
    refine awp_exit ?_
    simp only [go_sem]
    refine awp_sr ?_
    simp only [go_sem, R168_7, v168, p168]
    refine awp_ret ?_
    try simp only [go_sem]
    exact fin _ _ _ rfl (congrArg (V.int .i64) (by rw [hP, List.drop_eq_nil_of_le (by omega)]; rfl))
/-- the first such session is that at i: none of those before is one -/
theorem slot_first {xs : List Sess} {i : Nat} (h : i < xs.length) : slotL xs 0 xs[i].peer xs[i].in_ = (i : Int) ↔ ∀ (k : Nat) y, k < i → xs[k]? = some y → ¬ (y.peer = xs[i].peer ∧ y.in_ = xs[i].in_) := by
  have key : ∀ j, j ≤ i → (∀ (k : Nat) y, k < j → xs[k]? = some y → ¬ (y.peer = xs[i].peer ∧ y.in_ = xs[i].in_)) → slotL xs 0 xs[i].peer xs[i].in_ = slotL (xs.drop j) j xs[i].peer xs[i].in_ := by
    intro j
    induction j with
    | zero => intro _ _; rfl
    | succ j ih =>
      intro hj hh
      rw [ih (by omega) fun k y hk => hh k y (by omega), slotL_at (i := j) (by omega), if_neg (hh j _ (by omega) (List.getElem?_eq_getElem (by omega)))]
  constructor
  · intro e k y hk hy he
    -- the least such place
    have : ∃ j, j < i ∧ (∀ (k : Nat) y, k < j → xs[k]? = some y → ¬ (y.peer = xs[i].peer ∧ y.in_ = xs[i].in_)) ∧ ∃ y, xs[j]? = some y ∧ y.peer = xs[i].peer ∧ y.in_ = xs[i].in_ := by
      induction k using Nat.strongRecOn generalizing y with
      | _ k ih =>
        by_cases hh : ∃ (k' : Nat) (y' : Sess), k' < k ∧ xs[k']? = some y' ∧ y'.peer = xs[i].peer ∧ y'.in_ = xs[i].in_
        · obtain ⟨k', y', h1, h2, h3⟩ := hh
          exact ih k' h1 y' (by omega) h2 h3
        · exact ⟨k, hk, fun k' y' h1 h2 h3 => hh ⟨k', y', h1, h2, h3⟩, y, hy, he⟩
    obtain ⟨j, hj, h1, y', h2, h3⟩ := this
    obtain ⟨hlt, rfl⟩ := List.getElem?_eq_some_iff.1 h2
    rw [key j (by omega) h1, slotL_at hlt, if_pos h3] at e
    omega
  · intro hh
    rw [key i (Nat.le_refl _) hh, slotL_at h, if_pos ⟨rfl, rfl⟩]
set_option maxHeartbeats 4000000 in
theorem implSessOk_ok (n : Node) (h : n.sess.length ≤ 1048576) (hn : 1 ≤ n.n ∧ n.n ≤ 5) : FS Try.prog 137 [] [.agg n.c] (.bool (decide ((1 ≤ n.slots ∧ n.slots ≤ 4) ∧ sessR n))) [] := by
  refine FS.of (X := X137) (ac := A137) (os := O137) Try.func137 (by rfl) (by rfl) (by kernel_rfl) o137 (Nat.le_of_ble_eq_true rfl) ?_
  show AWP X137 A137 (Ends X137.vs O137 0 _ _) [.agg n.c, .tup [], .tup [], .tup [], .tup [], .tup [], .tup [], .tup [], .tup [], .tup []] []
  obtain ⟨Q, hQ⟩ : ∃ Q, Q = Ends X137.vs O137 0 (.bool (decide ((1 ≤ n.slots ∧ n.slots ≤ 4) ∧ sessR n))) [] := ⟨_, rfl⟩
  rw [← hQ]
  have fin : ∀ L σ vV, resVs O137 (look X137.vs L) σ = some [vV] → vV = (.bool (decide ((1 ≤ n.slots ∧ n.slots ≤ 4) ∧ sessR n))) → Q .ret L σ := by
    intro L σ vV h1 h2
    rw [hQ]
    exact Ends.is (.inl rfl) h1 (by simp only [packV, h2]) rfl
  refine awp_sr ?_
  simp only [go_sem, R137_0, v137, p137, Node.c]
  refine awp_sr2 ?_
  simp only [go_sem, R137_1, v137, p137, Node.c]
  obtain ⟨I, hI⟩ : ∃ I : Nat → List V → Store → Prop, I = fun mM L σ => ∃ i rest y0 y2 y3 y4 y9 y41, mM = n.sess.length - i ∧ i ≤ n.sess.length ∧ (∀ j x, j < i → n.sess[j]? = some x → sessP n j x) ∧ L = [y0, .ptr 0 19 0 0, y2, y3, y4, .fz 4 (rw_ Sess.c n.sess), .int .i64 (n.sess.length : Nat), .int .i64 (i : Nat), y9, y41] ∧ σ = .live ⟨19, [n.c]⟩ :: rest := ⟨_, rfl⟩
  first | refine awp_for I n.sess.length ?_ ?_ | refine awp_seq (awp_for I n.sess.length ?_ ?_)
  · rw [hI]; refine ⟨0, _, _, _, _, _, _, _, rfl, Nat.zero_le _, ?_, rfl, rfl⟩
    intro j x h; omega
  intro mM L σ hIn
  rw [hI] at hIn
  obtain ⟨i, rest, y0, y2, y3, y4, y9, y41, rfl, hi, hP, rfl, rfl⟩ := hIn
  refine awp_sr ?_
  simp only [go_sem, R137_2, v137, p137]
  refine awp_seq ?_
  refine awp_if rfl ?_ ?_
  · intro h2
    have h2 : i < n.sess.length := by omega
    have no : ¬ sessP n i n.sess[i] → ¬ ((1 ≤ n.slots ∧ n.slots ≤ 4) ∧ sessR n) := fun e k => e (k.2.2 i _ (List.getElem?_eq_getElem h2))
    have hfst := slot_first h2
    refine awp_skip ?_
    simp only [go_sem]
    refine awp_seq (awp_block ?_)
    refine awp_sr ?_
    simp only [go_sem, R137_3, v137, p137, rw_at _ h2, Sess.c]
    have key : sessP n i n.sess[i] ↔ sessQ n n.sess[i] ∧ slotL n.sess 0 n.sess[i].peer n.sess[i].in_ = (i : Int) := by rw [hfst]; rfl
    obtain ⟨K5, hK5⟩ : ∃ K : List V → Store → Prop, K = fun L σ => ∃ q rest y0 y2 y3 y4 y9, L = [y0, .ptr 0 19 0 0, y2, y3, y4, .fz 4 (rw_ Sess.c n.sess), .int .i64 (n.sess.length : Nat), .int .i64 (i : Nat), y9, .bool q] ∧ σ = .live ⟨19, [n.c]⟩ :: rest ∧ q = !decide (sessQ n n.sess[i] ∧ slotL n.sess 0 n.sess[i].peer n.sess[i].in_ = (i : Int)) := ⟨_, rfl⟩
    refine awp_srK (K5) ?_ ?_
    · simp only [go_sem, R137_4, v137, p137, Node.c, Sess.c]
      repeat' first
        | (refine selP_if rfl (fun hG => ?_) (fun hG => ?_) <;> first | simp only [go_sem, v137, p137, eq_false hG, Node.c, Sess.c] | simp only [go_sem, v137, p137, eq_true hG, Node.c, Sess.c])
        | (refine selP_ifn rfl (fun hG => ?_) (fun hG => ?_) <;> first | simp only [go_sem, v137, p137, eq_false hG, Node.c, Sess.c] | simp only [go_sem, v137, p137, eq_true hG, Node.c, Sess.c])
        | (refine selN_if rfl (fun hG => ?_) (fun hG => ?_) <;> first | simp only [go_sem, v137, p137, eq_false hG, Node.c, Sess.c] | simp only [go_sem, v137, p137, eq_true hG, Node.c, Sess.c])
        | (refine selN_ifn rfl (fun hG => ?_) (fun hG => ?_) <;> first | simp only [go_sem, v137, p137, eq_false hG, Node.c, Sess.c] | simp only [go_sem, v137, p137, eq_true hG, Node.c, Sess.c])
        | (refine selB_if rfl (fun hG => ?_) (fun hG => ?_) <;> simp only [go_sem, v137, p137, hG, Node.c, Sess.c])
        | (refine selB_ifn rfl (fun hG => ?_) (fun hG => ?_) <;> simp only [go_sem, v137, p137, hG, Node.c, Sess.c])
        | (refine run_see (isPeer_ok n _ hn) false (Views.refl rfl) rfl (fun j hj => by omega) (fun h => by cases h) ?_; simp only [go_sem, v137, p137, Node.c, Sess.c])
        | (refine run_see (within_ok _ _ _) false (Views.refl rfl) rfl (fun j hj => by omega) (fun h => by cases h) ?_; simp only [go_sem, v137, p137, Node.c, Sess.c])
        | (refine run_see (slot_ok n _ _ h) false (Views.refl rfl) rfl (fun j hj => by omega) (fun h => by cases h) ?_; simp only [go_sem, v137, p137, Node.c, Sess.c])
      all_goals rw [hK5]
      all_goals refine ⟨_, _, _, _, _, _, _, rfl, rfl, ?_⟩
      all_goals grind [sessQ]
    intro L σ hq
    rw [hK5] at hq
    obtain ⟨q, rest, y0, y2, y3, y4, y9, rfl, rfl, hq⟩ := hq
    subst hq
    refine awp_if' rfl ?_ ?_
    · intro h3
      refine awp_sr ?_
      simp only [go_sem, R137_5, v137, p137]
      refine awp_ret ?_
      try simp only [go_sem]
      exact fin _ _ (.bool false) rfl (congrArg V.bool (decide_eq_false (no fun e => h3 (key.1 e)))).symm
    · intro h3
      refine awp_skip ?_
      simp only [go_sem]
      refine awp_reg ?_
      simp only [go_sem, R137_6, v137, p137, wrap_succ (i := i) (by omega)]
      refine ⟨n.sess.length - (i + 1), by omega, ?_⟩
      rw [hI]
      refine ⟨i + 1, _, _, _, _, _, _, _, rfl, by omega, ?_, rfl, rfl⟩
      exact upto_succ hP h2 (key.2 h3)
  · intro h2
    refine awp_exit ?_
    simp only [go_sem]
    have ha := upto_all hP (by omega)
    have key : sessR n ↔ (n.sess.length : Int) ≤ n.slots := ⟨fun e => e.1, fun e => ⟨e, ha⟩⟩
    obtain ⟨K6, hK6⟩ : ∃ K : List V → Store → Prop, K = fun L σ => ∃ q rest y0 y1 y3 y4 y6 y7 y8 y9 y41, L = [y0, y1, .bool q, y3, y4, y6, y7, y8, y9, y41] ∧ σ = .live ⟨19, [n.c]⟩ :: rest ∧ q = decide ((1 ≤ n.slots ∧ n.slots ≤ 4) ∧ sessR n) := ⟨_, rfl⟩
    refine awp_srK (K6) ?_ ?_
    · simp only [go_sem, R137_7, v137, p137, Node.c]
      repeat' first
        | (refine selP_if rfl (fun hG => ?_) (fun hG => ?_) <;> first | simp only [go_sem, v137, p137, eq_false hG, Node.c] | simp only [go_sem, v137, p137, eq_true hG, Node.c])
        | (refine selP_ifn rfl (fun hG => ?_) (fun hG => ?_) <;> first | simp only [go_sem, v137, p137, eq_false hG, Node.c] | simp only [go_sem, v137, p137, eq_true hG, Node.c])
        | (refine selN_if rfl (fun hG => ?_) (fun hG => ?_) <;> first | simp only [go_sem, v137, p137, eq_false hG, Node.c] | simp only [go_sem, v137, p137, eq_true hG, Node.c])
        | (refine selN_ifn rfl (fun hG => ?_) (fun hG => ?_) <;> first | simp only [go_sem, v137, p137, eq_false hG, Node.c] | simp only [go_sem, v137, p137, eq_true hG, Node.c])
        | (refine selB_if rfl (fun hG => ?_) (fun hG => ?_) <;> simp only [go_sem, v137, p137, hG, Node.c])
        | (refine selB_ifn rfl (fun hG => ?_) (fun hG => ?_) <;> simp only [go_sem, v137, p137, hG, Node.c])
        | (refine run_see (within_ok _ _ _) false (Views.refl rfl) rfl (fun j hj => by omega) (fun h => by cases h) ?_; simp only [go_sem, v137, p137, Node.c])
      all_goals rw [hK6]
      all_goals refine ⟨_, _, _, _, _, _, _, _, _, _, _, rfl, rfl, ?_⟩
      all_goals grind
    intro L σ hq
    rw [hK6] at hq
    obtain ⟨q, rest, y0, y1, y3, y4, y6, y7, y8, y9, y41, rfl, rfl, hq⟩ := hq
    subst hq
    refine awp_ret ?_
    try simp only [go_sem]
    exact fin _ _ _ rfl rfl
def riseP (clock : Int) (j : Nat) (x : Rise) : Prop := (0 ≤ x.inc ∧ x.inc ≤ 1000) ∧ (0 ≤ x.beat ∧ x.beat ≤ 100000) ∧ (0 ≤ x.tick ∧ x.tick ≤ clock)
def risesR (n : Node) : Prop := n.rises.length = 5 ∧ ∀ j x, n.rises[j]? = some x → riseP n.clock j x
noncomputable instance (n : Node) : Decidable (risesR n) := Classical.propDecidable _
noncomputable instance (c : Int) (j : Nat) (x : Rise) : Decidable (riseP c j x) := Classical.propDecidable _
set_option maxHeartbeats 1000000 in
theorem risesOk_ok (n : Node) (h : n.rises.length ≤ 1048576) : FS Try.prog 138 [] [.agg n.c] (.bool (decide (risesR n))) [] := by
  refine FS.of (X := X138) (ac := A138) (os := O138) Try.func138 (by rfl) (by rfl) (by kernel_rfl) o138 (Nat.le_of_ble_eq_true rfl) ?_
  show AWP X138 A138 (Ends X138.vs O138 0 _ _) [.agg n.c, .tup [], .tup [], .tup [], .tup [], .tup [], .tup [], .tup [], .tup []] []
  obtain ⟨Q, hQ⟩ : ∃ Q, Q = Ends X138.vs O138 0 (.bool (decide (risesR n))) [] := ⟨_, rfl⟩
  rw [← hQ]
  have fin : ∀ L σ vV, resVs O138 (look X138.vs L) σ = some [vV] → vV = (.bool (decide (risesR n))) → Q .ret L σ := by
    intro L σ vV h1 h2
    rw [hQ]
    exact Ends.is (.inl rfl) h1 (by simp only [packV, h2]) rfl
  refine awp_sr ?_
  simp only [go_sem, R138_0, v138, p138, Node.c]
  refine awp_sr2 ?_
  simp only [go_sem, R138_1, v138, p138, Node.c]
  obtain ⟨I, hI⟩ : ∃ I : Nat → List V → Store → Prop, I = fun mM L σ => ∃ i rest y0 y2 y4 y9 y29, mM = n.rises.length - i ∧ i ≤ n.rises.length ∧ (∀ j x, j < i → n.rises[j]? = some x → riseP n.clock j x) ∧ L = [y0, .ptr 0 19 0 0, y2, y4, .fz 3 (rw_ Rise.c n.rises), .int .i64 (n.rises.length : Nat), .int .i64 (i : Nat), y9, y29] ∧ σ = .live ⟨19, [n.c]⟩ :: rest := ⟨_, rfl⟩
  first | refine awp_for I n.rises.length ?_ ?_ | refine awp_seq (awp_for I n.rises.length ?_ ?_)
  · rw [hI]; refine ⟨0, _, _, _, _, _, _, rfl, Nat.zero_le _, ?_, rfl, rfl⟩
    intro j x h; omega
  intro mM L σ hIn
  rw [hI] at hIn
  obtain ⟨i, rest, y0, y2, y4, y9, y29, rfl, hi, hP, rfl, rfl⟩ := hIn
  refine awp_sr ?_
  simp only [go_sem, R138_2, v138, p138]
  refine awp_seq ?_
  refine awp_if rfl ?_ ?_
  · intro h2
    have h2 : i < n.rises.length := by omega
    refine awp_skip ?_
    simp only [go_sem]
    refine awp_seq (awp_block ?_)
    refine awp_sr ?_
    simp only [go_sem, R138_3, v138, p138, rw_at _ h2, Rise.c]
    obtain ⟨K7, hK7⟩ : ∃ K : List V → Store → Prop, K = fun L σ => ∃ q rest y0 y2 y4 y9, L = [y0, .ptr 0 19 0 0, y2, y4, .fz 3 (rw_ Rise.c n.rises), .int .i64 (n.rises.length : Nat), .int .i64 (i : Nat), y9, .bool q] ∧ σ = .live ⟨19, [n.c]⟩ :: rest ∧ q = !decide (riseP n.clock i n.rises[i]) := ⟨_, rfl⟩
    refine awp_srK (K7) ?_ ?_
    · simp only [go_sem, R138_4, v138, p138, Node.c, Rise.c]
      repeat' first
        | (refine selP_if rfl (fun hG => ?_) (fun hG => ?_) <;> first | simp only [go_sem, v138, p138, eq_false hG, Node.c, Rise.c] | simp only [go_sem, v138, p138, eq_true hG, Node.c, Rise.c])
        | (refine selP_ifn rfl (fun hG => ?_) (fun hG => ?_) <;> first | simp only [go_sem, v138, p138, eq_false hG, Node.c, Rise.c] | simp only [go_sem, v138, p138, eq_true hG, Node.c, Rise.c])
        | (refine selN_if rfl (fun hG => ?_) (fun hG => ?_) <;> first | simp only [go_sem, v138, p138, eq_false hG, Node.c, Rise.c] | simp only [go_sem, v138, p138, eq_true hG, Node.c, Rise.c])
        | (refine selN_ifn rfl (fun hG => ?_) (fun hG => ?_) <;> first | simp only [go_sem, v138, p138, eq_false hG, Node.c, Rise.c] | simp only [go_sem, v138, p138, eq_true hG, Node.c, Rise.c])
        | (refine selB_if rfl (fun hG => ?_) (fun hG => ?_) <;> simp only [go_sem, v138, p138, hG, Node.c, Rise.c])
        | (refine selB_ifn rfl (fun hG => ?_) (fun hG => ?_) <;> simp only [go_sem, v138, p138, hG, Node.c, Rise.c])
        | (refine run_see (within_ok _ _ _) false (Views.refl rfl) rfl (fun j hj => by omega) (fun h => by cases h) ?_; simp only [go_sem, v138, p138, Node.c, Rise.c])
      all_goals rw [hK7]
      all_goals refine ⟨_, _, _, _, _, _, rfl, rfl, ?_⟩
      all_goals grind [riseP]
    intro L σ hq
    rw [hK7] at hq
    obtain ⟨q, rest, y0, y2, y4, y9, rfl, rfl, hq⟩ := hq
    subst hq
    refine awp_if' rfl ?_ ?_
    · intro h3
      refine awp_sr ?_
      simp only [go_sem, R138_5, v138, p138]
      refine awp_ret ?_
      try simp only [go_sem]
      exact fin _ _ (.bool false) rfl (congrArg V.bool (decide_eq_false fun e => h3 (e.2 i _ (List.getElem?_eq_getElem h2)))).symm
    · intro h3
      refine awp_skip ?_
      simp only [go_sem]
      refine awp_reg ?_
      simp only [go_sem, R138_6, v138, p138, wrap_succ (i := i) (by omega)]
      refine ⟨n.rises.length - (i + 1), by omega, ?_⟩
      rw [hI]
      refine ⟨i + 1, _, _, _, _, _, _, rfl, by omega, ?_, rfl, rfl⟩
      exact upto_succ hP h2 h3
  · intro h2
    refine awp_exit ?_
    simp only [go_sem]
    have ha := upto_all hP (by omega)
    have key : risesR n ↔ n.rises.length = 5 := ⟨fun e => e.1, fun e => ⟨e, ha⟩⟩
    refine awp_sr ?_
    simp only [go_sem, R138_7, v138, p138, Node.c]
    refine awp_ret ?_
    try simp only [go_sem]
    refine fin _ _ _ rfl (congrArg V.bool ?_)
    grind
end Go.Proofs.Ytffigokicddekaa.Abs
/- What a right node is, in words. No condition. -/
set_option linter.unusedVariables false
set_option linter.unusedSimpArgs false
set_option maxRecDepth 10000
namespace Go.Proofs.Ytffigokicddekaa.Abs
open Go Go.Proofs
def Node.A (n : Node) : Prop := (1 ≤ n.n ∧ n.n ≤ 5) ∧ (0 ≤ n.id ∧ n.id ≤ n.n - 1) ∧ n.state.Right ∧ n.tree = treeOf n.state
def Node.B (n : Node) : Prop := vecR n.got n.n ∧ vecR n.acked n.n ∧ n.got.getD n.id.toNat 0 = logSeq n.log
def Node.C (n : Node) : Prop := ∀ (j : Nat) x, n.acked[j]? = some x → x ≤ logSeq n.log
def Node.D (n : Node) : Prop := (0 ≤ n.num ∧ n.num ≤ 100000) ∧ (0 ≤ n.clock ∧ n.clock ≤ 100000) ∧ (1 ≤ n.slots ∧ n.slots ≤ 4) ∧ (1 ≤ n.wait ∧ n.wait ≤ 20) ∧ (1 ≤ n.limit ∧ n.limit ≤ 50)
structure Node.Right (n : Node) : Prop where
  a : n.A
  l : n.log.Right
  b : n.B
  t : tableR n.seen n.n
  c : n.C
  d : n.D
  r : risesR n
  s : sessR n
noncomputable instance (n : Node) : Decidable n.Right := Classical.propDecidable _
noncomputable instance (n : Node) : Decidable (n.A ∧ n.log.Right) := Classical.propDecidable _
noncomputable instance (n : Node) : Decidable n.A := Classical.propDecidable _
noncomputable instance (n : Node) : Decidable (n.B ∧ tableR n.seen n.n) := Classical.propDecidable _
noncomputable instance (n : Node) : Decidable (n.log.Right ∧ n.B ∧ n.C) := Classical.propDecidable _
noncomputable instance (n : Node) : Decidable (n.D ∧ n.rises.length = 5) := Classical.propDecidable _
structure Node.Small (n : Node) : Prop where
  st : n.state.sz ≤ 1048576
  tr : n.tree.leaves.length ≤ 1048576
  lg : n.log.sz ≤ 1048576
  gt : n.got.length ≤ 1048576
  ak : n.acked.length ≤ 1048576
  sn : szS List.length n.seen ≤ 1048576
  ss : n.sess.length ≤ 1048576
  rs : n.rises.length ≤ 1048576
theorem Node.small {n : Node} (h : n.sz ≤ 1048576) : n.Small := by
  have hl : n.state.sz + n.tree.leaves.length + n.log.sz + n.got.length + n.acked.length + szS List.length n.seen + n.sess.length + n.rises.length ≤ 1048576 := h
  exact ⟨by omega, by omega, by omega, by omega, by omega, by omega, by omega, by omega⟩
theorem getD_at {xs : List Int} {i : Nat} (h : i < xs.length) : xs.getD i 0 = xs[i] := by simp [h]
end Go.Proofs.Ytffigokicddekaa.Abs
