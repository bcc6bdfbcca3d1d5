/- An entry looked up, walked in both texts. No condition. -/
import Derived.Test.YtffigokicddekaaGreatMZ3
set_option linter.unusedVariables false
set_option linter.unusedSimpArgs false
set_option maxRecDepth 10000
namespace Go.Proofs.YtffigokicddekaaGreat.Abs
open Go Go.Proofs
def R241_0 : List AR := [⟨(some 2), none, 0, (.box 0 2 (.t 0))⟩, ⟨(some 4), none, 0, (.alloc 1 5 [(.int .i64 0), (.int .i64 0), (.int .i64 0), (.int .i64 0), (.str ⟨⟨[]⟩⟩)])⟩, ⟨(some 5), none, 0, (.mov (.k (.bool false)))⟩]
def R241_1 : List AR := [⟨(some 6), none, 0, (.mov (.k (.int .i64 0)))⟩]
def R241_2 : List AR := [⟨(some 7), none, 0, (.mov (.t 6))⟩, ⟨(some 8), none, 0, (.faddr 0 (.t 2))⟩, ⟨(some 9), none, 0, (.load 1 false (.t 8))⟩, ⟨(some 10), none, 0, (.len (.t 9))⟩, ⟨(some 11), none, 0, (.bin .lss (.t 7) (.t 10))⟩]
def R241_3 : List AR := [⟨(some 14), none, 0, (.faddr 0 (.t 2))⟩, ⟨(some 15), none, 0, (.load 1 false (.t 14))⟩, ⟨(some 16), none, 0, (.mov (.t 6))⟩, ⟨(some 17), none, 0, (.iaddr 6 (.t 15) (.t 16))⟩, ⟨(some 18), none, 0, (.faddr 0 (.t 17))⟩, ⟨(some 19), none, 0, (.load 1 false (.t 18))⟩, ⟨(some 20), none, 0, (.mov (.t 1))⟩, ⟨(some 21), none, 0, (.bin .eql (.t 19) (.t 20))⟩]
def R241_4 : List AR := [⟨(some 22), none, 0, (.faddr 0 (.t 2))⟩, ⟨(some 23), none, 0, (.load 1 false (.t 22))⟩, ⟨(some 24), none, 0, (.mov (.t 6))⟩, ⟨(some 25), none, 0, (.iaddr 6 (.t 23) (.t 24))⟩, ⟨(some 26), none, 0, (.faddr 1 (.t 25))⟩, ⟨(some 27), none, 0, (.load 5 true (.t 26))⟩, ⟨none, none, 0, (.store 5 (.t 4) (.t 27))⟩, ⟨(some 5), none, 0, (.mov (.k (.bool true)))⟩]
def R241_5 : List AR := [⟨(some 12), none, 0, (.mov (.t 6))⟩, ⟨(some 13), none, 0, (.bin .add (.t 12) (.k (.int .i64 1)))⟩, ⟨(some 6), none, 0, (.mov (.t 13))⟩]
def A241_0 : AC := (.seq (.block 1 (.seq (.reg 0 R241_3) (.cond (.t 21) (.seq (.reg 0 R241_4) .ret) .skip))) (.reg 0 R241_5))
def L241_0 : AC := (.seq (.seq (.reg 0 R241_2) (.cond (.t 11) .skip (.exit 0))) A241_0)
def R241_6 : List AR := [⟨(some 28), none, 0, (.build [(.int .i64 0), (.int .i64 0), (.int .i64 0), (.int .i64 0), (.str ⟨⟨[]⟩⟩)] [])⟩, ⟨none, none, 0, (.store 5 (.t 4) (.t 28))⟩, ⟨(some 5), none, 0, (.mov (.k (.bool false)))⟩]
def A241_1 : AC := (.seq (.reg 0 R241_6) .ret)
def A241_2 : AC := (.seq (.seq (.reg 0 R241_1) (.block 0 (.loop L241_0))) A241_1)
def A241 : AC := (.seq (.reg 2 R241_0) A241_2)
def O241 : List AO := [(.load 5 true (.t 4)), (.mov (.t 5))]
def G241 : Fns := ⟨fun f => false, fun f => 0, false⟩
noncomputable def X241 : Cx := ⟨Tryz.prog, G241, drawD, 29, [0, 1, 2, 4, 5, 6, 11, 21]⟩
theorem c241 : (Tryz.f241.body).bind (compC X241.P X241.Γ X241.D X241.nt) = some A241 := by kernel_rfl
theorem o241 : compRes X241.P Tryz.f241.results.toList = some O241 := by kernel_rfl
theorem v241 : X241.vs = [0, 1, 2, 4, 5, 6, 11, 21] := rfl
theorem p241 : X241.P = Tryz.prog := rfl
def R161_0 : List AR := [⟨(some 2), none, 0, (.box 0 2 (.t 0))⟩, ⟨(some 4), none, 0, (.alloc 1 5 [(.int .i64 0), (.int .i64 0), (.int .i64 0), (.int .i64 0), (.str ⟨⟨[]⟩⟩)])⟩, ⟨(some 5), none, 0, (.mov (.k (.bool false)))⟩]
def R161_1 : List AR := [⟨(some 8), none, 0, (.faddr 0 (.t 2))⟩, ⟨(some 9), none, 0, (.load 1 false (.t 8))⟩, ⟨(some 10), none, 0, (.len (.t 9))⟩, ⟨(some 11), none, 0, (.mov (.k (.int .i64 0)))⟩]
def R161_2 : List AR := [⟨(some 12), none, 0, (.bin .lss (.t 11) (.t 10))⟩]
def R161_3 : List AR := [⟨(some 13), none, 0, (.iaddr 6 (.t 9) (.t 11))⟩, ⟨(some 14), none, 0, (.load 6 true (.t 13))⟩, ⟨(some 7), none, 0, (.alloc 0 6 [(.int .i64 0), (.int .i64 0), (.int .i64 0), (.int .i64 0), (.int .i64 0), (.str ⟨⟨[]⟩⟩)])⟩, ⟨none, none, 0, (.store 6 (.t 7) (.t 14))⟩]
def R161_4 : List AR := [⟨(some 15), none, 0, (.faddr 0 (.t 7))⟩, ⟨(some 16), none, 0, (.load 1 false (.t 15))⟩, ⟨(some 17), none, 0, (.mov (.t 1))⟩, ⟨(some 18), none, 0, (.bin .eql (.t 16) (.t 17))⟩]
def R161_5 : List AR := [⟨(some 19), none, 0, (.faddr 1 (.t 7))⟩, ⟨(some 20), none, 0, (.load 5 true (.t 19))⟩, ⟨none, none, 0, (.store 5 (.t 4) (.t 20))⟩, ⟨(some 5), none, 0, (.mov (.k (.bool true)))⟩]
def A161_0 : AC := (.seq (.reg 0 R161_4) (.cond (.t 18) (.seq (.reg 0 R161_5) .ret) .skip))
def R161_6 : List AR := [⟨(some 21), none, 0, (.bin .add (.t 11) (.k (.int .i64 1)))⟩, ⟨(some 11), none, 0, (.mov (.t 21))⟩]
def A161_1 : AC := (.seq (.block 1 (.seq (.reg 1 R161_3) A161_0)) (.reg 0 R161_6))
def A161_2 : AC := (.seq (.cond (.t 12) .skip (.exit 0)) A161_1)
def L161_0 : AC := (.seq (.reg 0 R161_2) A161_2)
def R161_7 : List AR := [⟨(some 22), none, 0, (.build [(.int .i64 0), (.int .i64 0), (.int .i64 0), (.int .i64 0), (.str ⟨⟨[]⟩⟩)] [])⟩, ⟨none, none, 0, (.store 5 (.t 4) (.t 22))⟩, ⟨(some 5), none, 0, (.mov (.k (.bool false)))⟩]
def A161_3 : AC := (.seq (.reg 0 R161_7) .ret)
def A161_4 : AC := (.seq (.seq (.reg 0 R161_1) (.block 0 (.loop L161_0))) A161_3)
def A161 : AC := (.seq (.reg 2 R161_0) A161_4)
def O161 : List AO := [(.load 5 true (.t 4)), (.mov (.t 5))]
def G161 : Fns := ⟨fun f => false, fun f => 0, false⟩
noncomputable def X161 : Cx := ⟨Tryz.prog, G161, drawD, 23, [0, 1, 2, 4, 5, 7, 9, 10, 11, 12, 18]⟩
theorem c161 : (Tryz.f161.body).bind (compC X161.P X161.Γ X161.D X161.nt) = some A161 := by kernel_rfl
theorem o161 : compRes X161.P Tryz.f161.results.toList = some O161 := by kernel_rfl
theorem v161 : X161.vs = [0, 1, 2, 4, 5, 7, 9, 10, 11, 12, 18] := rfl
theorem p161 : X161.P = Tryz.prog := rfl
def entryL : List Item → Int → Entry × Bool
  | [], _ => (Entry.zero, false)
  | x :: xs, id => if x.id = id then (x.entry, true) else entryL xs id
def entryOf (s : State) (id : Int) : Entry × Bool := entryL s.items id
theorem entryL_at {xs : List Item} {i : Nat} (h : i < xs.length) (id : Int) : entryL (xs.drop i) id = if xs[i].id = id then (xs[i].entry, true) else entryL (xs.drop (i + 1)) id := by
  rw [List.drop_eq_getElem_cons h]; rfl
def entryV (p : Entry × Bool) : V := .tup [.agg p.1.c, .bool p.2]
theorem specEntryOf_ok (a : State) (id : Int) (h : a.items.length ≤ 1000000000) : FS Tryz.prog 241 [] [.agg a.c, .int .i64 id] (entryV (entryOf a id)) [] := by
  refine FS.of (X := X241) (ac := A241) (os := O241) Tryz.func241 (by rfl) (by rfl) (by kernel_rfl) o241 (Nat.le_of_ble_eq_true rfl) ?_
  show AWP X241 A241 (Ends X241.vs O241 0 _ _) [.agg a.c, .int .i64 id, .tup [], .tup [], .tup [], .tup [], .tup [], .tup []] []
  obtain ⟨Q, hQ⟩ : ∃ Q, Q = Ends X241.vs O241 0 (entryV (entryOf a id)) [] := ⟨_, rfl⟩
  rw [← hQ]
  have fin : ∀ L σ p, resVs O241 (look X241.vs L) σ = some [.agg p.1.c, .bool p.2] → p = entryOf a id → Q .ret L σ := by
    intro L σ p h1 h2
    rw [hQ]
    exact Ends.is (.inl rfl) h1 (by rw [← h2]; rfl) rfl
  refine awp_sr ?_
  simp only [go_sem, R241_0, v241, p241, State.c]
  refine awp_sr2 ?_
  simp only [go_sem, R241_1, v241, p241]
  refine awp_for (fun m L σ => ∃ i x11 x21, m = a.items.length - i ∧ i ≤ a.items.length ∧ entryOf a id = entryL (a.items.drop i) id ∧ L = [.agg a.c, .int .i64 id, .ptr 0 2 0 0, .ptr 1 5 0 0, .bool false, .int .i64 (i : Nat), x11, x21] ∧ σ = [.live ⟨2, [a.c]⟩, .live ⟨5, [Entry.zero.c]⟩]) a.items.length
    ⟨0, _, _, rfl, Nat.zero_le _, rfl, rfl, rfl⟩ ?_
  rintro n L σ ⟨i, x11, x21, rfl, hi, he, rfl, rfl⟩
  refine awp_sr2 ?_
  simp only [go_sem, R241_2, v241, p241, State.c]
  refine awp_if rfl ?_ ?_
  · intro h1
    have h1 : i < a.items.length := by omega
    have e1 := entryL_at h1 id
    refine awp_skip ?_
    simp only [go_sem]
    refine awp_seq (awp_block ?_)
    refine awp_sr ?_
    simp only [go_sem, R241_3, v241, p241, rw_at _ h1, Item.c]
    refine awp_if rfl ?_ ?_
    · intro h2
      refine awp_sr ?_
      simp only [go_sem, R241_4, v241, p241, rw_at _ h1, Item.c, Entry.c, Entry.zero]
      refine awp_ret ?_
      try simp only [go_sem]
      exact fin _ _ (a.items[i].entry, true) rfl (by rw [he, e1, if_pos h2])
    · intro h2
      refine awp_skip ?_
      simp only [go_sem]
      refine awp_reg ?_
      simp only [go_sem, R241_5, v241, p241, wrap_succ (i := i) (by omega)]
      exact ⟨a.items.length - (i + 1), by omega, i + 1, _, _, rfl, by omega, by rw [he, e1, if_neg h2], rfl⟩
  · intro h1
    refine awp_exit ?_
    simp only [go_sem]
    refine awp_sr ?_
    simp only [go_sem, R241_6, v241, p241, Entry.c, Entry.zero]
    refine awp_ret ?_
    try simp only [go_sem]
    exact fin _ _ (Entry.zero, false) rfl (by rw [he, List.drop_eq_nil_of_le (by omega)]; rfl)
theorem implEntryOf_ok (a : State) (id : Int) (h : a.items.length ≤ 1000000000) : FS Tryz.prog 161 [] [.agg a.c, .int .i64 id] (entryV (entryOf a id)) [] := by
  refine FS.of (X := X161) (ac := A161) (os := O161) Tryz.func161 (by rfl) (by rfl) (by kernel_rfl) o161 (Nat.le_of_ble_eq_true rfl) ?_
  show AWP X161 A161 (Ends X161.vs O161 0 _ _) [.agg a.c, .int .i64 id, .tup [], .tup [], .tup [], .tup [], .tup [], .tup [], .tup [], .tup [], .tup []] []
  obtain ⟨Q, hQ⟩ : ∃ Q, Q = Ends X161.vs O161 0 (entryV (entryOf a id)) [] := ⟨_, rfl⟩
  rw [← hQ]
  have fin : ∀ L σ p, resVs O161 (look X161.vs L) σ = some [.agg p.1.c, .bool p.2] → p = entryOf a id → Q .ret L σ := by
    intro L σ p h1 h2
    rw [hQ]
    exact Ends.is (.inl rfl) h1 (by rw [← h2]; rfl) rfl
  refine awp_sr ?_
  simp only [go_sem, R161_0, v161, p161, State.c]
  refine awp_sr2 ?_
  simp only [go_sem, R161_1, v161, p161]
  refine awp_for (fun m L σ => ∃ i x7 x12 x18 rest, m = a.items.length - i ∧ i ≤ a.items.length ∧ entryOf a id = entryL (a.items.drop i) id ∧ L = [.agg a.c, .int .i64 id, .ptr 0 2 0 0, .ptr 1 5 0 0, .bool false, x7, .fz 6 (rw_ Item.c a.items), .int .i64 a.items.length, .int .i64 (i : Nat), x12, x18] ∧ σ = .live ⟨2, [a.c]⟩ :: .live ⟨5, [Entry.zero.c]⟩ :: rest) a.items.length
    ⟨0, _, _, _, _, rfl, Nat.zero_le _, rfl, rfl, rfl⟩ ?_
  rintro n L σ ⟨i, x7, x12, x18, rest, rfl, hi, he, rfl, rfl⟩
  refine awp_sr ?_
  simp only [go_sem, R161_2, v161, p161]
  refine awp_seq ?_
  refine awp_if rfl ?_ ?_
  · intro h1
    have h1 : i < a.items.length := by omega
    have e1 := entryL_at h1 id
    refine awp_skip ?_
    simp only [go_sem]
    refine awp_seq (awp_block ?_)
    refine awp_sr ?_
    simp only [go_sem, R161_3, v161, p161, rw_at _ h1, Item.c]
    refine awp_sr ?_
    simp only [go_sem, R161_4, v161, p161]
    refine awp_if rfl ?_ ?_
    · intro h2
      refine awp_sr ?_
      simp only [go_sem, R161_5, v161, p161, Entry.c, Entry.zero]
      refine awp_ret ?_
      try simp only [go_sem]
      exact fin _ _ (a.items[i].entry, true) rfl (by rw [he, e1, if_pos h2])
    · intro h2
      refine awp_skip ?_
      simp only [go_sem]
      refine awp_reg ?_
      simp only [go_sem, R161_6, v161, p161, wrap_succ (i := i) (by omega)]
      exact ⟨a.items.length - (i + 1), by omega, i + 1, _, _, _, _, rfl, by omega, by rw [he, e1, if_neg h2], rfl, rfl⟩
  · intro h1
    refine awp_exit ?_
    simp only [go_sem]
    refine awp_sr ?_
    simp only [go_sem, R161_7, v161, p161, Entry.c, Entry.zero]
    refine awp_ret ?_
    try simp only [go_sem]
    exact fin _ _ (Entry.zero, false) rfl (by rw [he, List.drop_eq_nil_of_le (by omega)]; rfl)
end Go.Proofs.YtffigokicddekaaGreat.Abs
/- What a right state is, walked in both texts. No condition. -/
set_option linter.unusedVariables false
set_option linter.unusedSimpArgs false
set_option maxRecDepth 10000
namespace Go.Proofs.YtffigokicddekaaGreat.Abs
open Go Go.Proofs
def R94_0 : List AR := [⟨(some 1), none, 0, (.box 0 2 (.t 0))⟩, ⟨(some 2), none, 0, (.mov (.k (.bool false)))⟩]
def R94_1 : List AR := [⟨(some 3), none, 0, (.mov (.k (.int .i64 0)))⟩]
def R94_2 : List AR := [⟨(some 7), none, 0, (.mov (.t 3))⟩, ⟨(some 8), none, 0, (.faddr 0 (.t 1))⟩, ⟨(some 9), none, 0, (.load 1 false (.t 8))⟩, ⟨(some 10), none, 0, (.len (.t 9))⟩, ⟨(some 11), none, 0, (.bin .lss (.t 7) (.t 10))⟩]
def R94_3 : List AR := [⟨(some 14), none, 0, (.faddr 0 (.t 1))⟩, ⟨(some 15), none, 0, (.load 1 false (.t 14))⟩, ⟨(some 16), none, 0, (.mov (.t 3))⟩, ⟨(some 17), none, 0, (.iaddr 6 (.t 15) (.t 16))⟩, ⟨(some 18), none, 0, (.load 6 true (.t 17))⟩, ⟨(some 4), none, 0, (.alloc 0 6 [(.int .i64 0), (.int .i64 0), (.int .i64 0), (.int .i64 0), (.int .i64 0), (.str ⟨⟨[]⟩⟩)])⟩, ⟨none, none, 0, (.store 6 (.t 4) (.t 18))⟩]
def R94_4 : List AR := [⟨(some 19), none, 0, (.faddr 0 (.t 4))⟩, ⟨(some 20), none, 0, (.load 1 false (.t 19))⟩, ⟨(some 21), none, 0, (.call false 0 0 146 [(.t 20)])⟩, ⟨(some 22), none, 0, (.not (.t 21))⟩, ⟨(some 23), none, 0, (.mov (.t 22))⟩, ⟨(some 24), (some (23, false)), 0, (.mov (.t 3))⟩, ⟨(some 25), (some (23, false)), 0, (.bin .gtr (.t 24) (.k (.int .i64 0)))⟩, ⟨(some 26), (some (23, false)), 0, (.mov (.t 25))⟩, ⟨(some 27), (some (26, true)), 0, (.faddr 0 (.t 4))⟩, ⟨(some 28), (some (26, true)), 0, (.load 1 false (.t 27))⟩, ⟨(some 29), (some (26, true)), 0, (.faddr 0 (.t 1))⟩, ⟨(some 30), (some (26, true)), 0, (.load 1 false (.t 29))⟩, ⟨(some 31), (some (26, true)), 0, (.mov (.t 3))⟩, ⟨(some 32), (some (26, true)), 0, (.bin .sub (.t 31) (.k (.int .i64 1)))⟩, ⟨(some 33), (some (26, true)), 0, (.iaddr 6 (.t 30) (.t 32))⟩, ⟨(some 34), (some (26, true)), 0, (.faddr 0 (.t 33))⟩, ⟨(some 35), (some (26, true)), 0, (.load 1 false (.t 34))⟩, ⟨(some 36), (some (26, true)), 0, (.bin .leq (.t 28) (.t 35))⟩, ⟨(some 37), (some (23, false)), 0, (.pick (.t 26) (.t 36) (.k (.bool false)))⟩, ⟨(some 38), none, 0, (.pick (.t 23) (.k (.bool true)) (.t 37))⟩, ⟨(some 39), none, 0, (.mov (.t 38))⟩, ⟨(some 40), (some (39, false)), 0, (.faddr 1 (.t 4))⟩, ⟨(some 41), (some (39, false)), 0, (.load 5 true (.t 40))⟩, ⟨(some 42), (some (39, false)), 0, (.call false 0 0 147 [(.t 41)])⟩, ⟨(some 43), (some (39, false)), 0, (.not (.t 42))⟩, ⟨(some 44), none, 0, (.pick (.t 39) (.k (.bool true)) (.t 43))⟩, ⟨(some 45), none, 0, (.mov (.t 44))⟩, ⟨(some 46), (some (45, false)), 0, (.faddr 1 (.t 4))⟩, ⟨(some 47), (some (45, false)), 0, (.faddr 0 (.t 46))⟩, ⟨(some 48), (some (45, false)), 0, (.load 1 false (.t 47))⟩, ⟨(some 49), (some (45, false)), 0, (.load 2 true (.t 1))⟩, ⟨(some 50), (some (45, false)), 0, (.faddr 0 (.t 4))⟩, ⟨(some 51), (some (45, false)), 0, (.load 1 false (.t 50))⟩, ⟨(some 52), (some (45, false)), 0, (.call false 0 0 148 [(.t 49), (.t 51)])⟩, ⟨(some 53), (some (45, false)), 0, (.bin .leq (.t 48) (.t 52))⟩, ⟨(some 54), none, 0, (.pick (.t 45) (.k (.bool true)) (.t 53))⟩]
def R94_5 : List AR := [⟨(some 2), none, 0, (.mov (.k (.bool false)))⟩]
def A94_0 : AC := (.seq (.draw 0 R94_4) (.cond (.t 54) (.seq (.reg 0 R94_5) .ret) .skip))
def R94_6 : List AR := [⟨(some 12), none, 0, (.mov (.t 3))⟩, ⟨(some 13), none, 0, (.bin .add (.t 12) (.k (.int .i64 1)))⟩, ⟨(some 3), none, 0, (.mov (.t 13))⟩]
def A94_1 : AC := (.seq (.block 1 (.seq (.reg 1 R94_3) A94_0)) (.reg 0 R94_6))
def L94_0 : AC := (.seq (.seq (.reg 0 R94_2) (.cond (.t 11) .skip (.exit 0))) A94_1)
def R94_7 : List AR := [⟨(some 5), none, 0, (.mov (.k (.int .i64 0)))⟩]
def R94_8 : List AR := [⟨(some 55), none, 0, (.mov (.t 5))⟩, ⟨(some 56), none, 0, (.faddr 1 (.t 1))⟩, ⟨(some 57), none, 0, (.load 1 false (.t 56))⟩, ⟨(some 58), none, 0, (.len (.t 57))⟩, ⟨(some 59), none, 0, (.bin .lss (.t 55) (.t 58))⟩]
def R94_9 : List AR := [⟨(some 62), none, 0, (.faddr 1 (.t 1))⟩, ⟨(some 63), none, 0, (.load 1 false (.t 62))⟩, ⟨(some 64), none, 0, (.mov (.t 5))⟩, ⟨(some 65), none, 0, (.iaddr 2 (.t 63) (.t 64))⟩, ⟨(some 66), none, 0, (.load 2 true (.t 65))⟩, ⟨(some 6), none, 0, (.alloc 0 2 [(.int .i64 0), (.int .i64 0)])⟩, ⟨none, none, 0, (.store 2 (.t 6) (.t 66))⟩]
def R94_10 : List AR := [⟨(some 67), none, 0, (.faddr 0 (.t 6))⟩, ⟨(some 68), none, 0, (.load 1 false (.t 67))⟩, ⟨(some 69), none, 0, (.call false 0 0 146 [(.t 68)])⟩, ⟨(some 70), none, 0, (.not (.t 69))⟩, ⟨(some 71), none, 0, (.mov (.t 70))⟩, ⟨(some 72), (some (71, false)), 0, (.mov (.t 5))⟩, ⟨(some 73), (some (71, false)), 0, (.bin .gtr (.t 72) (.k (.int .i64 0)))⟩, ⟨(some 74), (some (71, false)), 0, (.mov (.t 73))⟩, ⟨(some 75), (some (74, true)), 0, (.faddr 0 (.t 6))⟩, ⟨(some 76), (some (74, true)), 0, (.load 1 false (.t 75))⟩, ⟨(some 77), (some (74, true)), 0, (.faddr 1 (.t 1))⟩, ⟨(some 78), (some (74, true)), 0, (.load 1 false (.t 77))⟩, ⟨(some 79), (some (74, true)), 0, (.mov (.t 5))⟩, ⟨(some 80), (some (74, true)), 0, (.bin .sub (.t 79) (.k (.int .i64 1)))⟩, ⟨(some 81), (some (74, true)), 0, (.iaddr 2 (.t 78) (.t 80))⟩, ⟨(some 82), (some (74, true)), 0, (.faddr 0 (.t 81))⟩, ⟨(some 83), (some (74, true)), 0, (.load 1 false (.t 82))⟩, ⟨(some 84), (some (74, true)), 0, (.bin .leq (.t 76) (.t 83))⟩, ⟨(some 85), (some (71, false)), 0, (.pick (.t 74) (.t 84) (.k (.bool false)))⟩, ⟨(some 86), none, 0, (.pick (.t 71) (.k (.bool true)) (.t 85))⟩, ⟨(some 87), none, 0, (.mov (.t 86))⟩, ⟨(some 88), (some (87, false)), 0, (.faddr 1 (.t 6))⟩, ⟨(some 89), (some (87, false)), 0, (.load 1 false (.t 88))⟩, ⟨(some 90), (some (87, false)), 0, (.call false 0 0 52 [(.t 89), (.k (.int .i64 1)), (.k (.int .i64 1000))])⟩, ⟨(some 91), (some (87, false)), 0, (.not (.t 90))⟩, ⟨(some 92), none, 0, (.pick (.t 87) (.k (.bool true)) (.t 91))⟩]
def R94_11 : List AR := [⟨(some 2), none, 0, (.mov (.k (.bool false)))⟩]
def A94_2 : AC := (.seq (.draw 0 R94_10) (.cond (.t 92) (.seq (.reg 0 R94_11) .ret) .skip))
def R94_12 : List AR := [⟨(some 60), none, 0, (.mov (.t 5))⟩, ⟨(some 61), none, 0, (.bin .add (.t 60) (.k (.int .i64 1)))⟩, ⟨(some 5), none, 0, (.mov (.t 61))⟩]
def A94_3 : AC := (.seq (.block 3 (.seq (.reg 1 R94_9) A94_2)) (.reg 0 R94_12))
def L94_1 : AC := (.seq (.seq (.reg 0 R94_8) (.cond (.t 59) .skip (.exit 2))) A94_3)
def R94_13 : List AR := [⟨(some 2), none, 0, (.mov (.k (.bool true)))⟩]
def A94_4 : AC := (.seq (.reg 0 R94_13) .ret)
def A94_5 : AC := (.seq (.seq (.reg 0 R94_7) (.block 2 (.loop L94_1))) A94_4)
def A94_6 : AC := (.seq (.seq (.reg 0 R94_1) (.block 0 (.loop L94_0))) A94_5)
def A94 : AC := (.seq (.reg 1 R94_0) A94_6)
def O94 : List AO := [(.mov (.t 2))]
def G94 : Fns := ⟨fun f => false, fun f => 0, false⟩
noncomputable def X94 : Cx := ⟨Tryz.prog, G94, drawD, 93, [0, 1, 2, 3, 4, 5, 6, 11, 54, 59, 92]⟩
theorem c94 : (Tryz.f94.body).bind (compC X94.P X94.Γ X94.D X94.nt) = some A94 := by kernel_rfl
theorem o94 : compRes X94.P Tryz.f94.results.toList = some O94 := by kernel_rfl
theorem v94 : X94.vs = [0, 1, 2, 3, 4, 5, 6, 11, 54, 59, 92] := rfl
theorem p94 : X94.P = Tryz.prog := rfl
def R63_0 : List AR := [⟨(some 1), none, 0, (.box 0 2 (.t 0))⟩, ⟨(some 2), none, 0, (.mov (.k (.bool false)))⟩]
def R63_1 : List AR := [⟨(some 7), none, 0, (.faddr 1 (.t 1))⟩, ⟨(some 8), none, 0, (.load 1 false (.t 7))⟩, ⟨(some 9), none, 0, (.len (.t 8))⟩, ⟨(some 10), none, 0, (.mov (.k (.int .i64 0)))⟩]
def R63_2 : List AR := [⟨(some 11), none, 0, (.bin .lss (.t 10) (.t 9))⟩]
def R63_3 : List AR := [⟨(some 12), none, 0, (.mov (.t 10))⟩, ⟨(some 13), none, 0, (.iaddr 2 (.t 8) (.t 10))⟩, ⟨(some 14), none, 0, (.load 2 true (.t 13))⟩, ⟨(some 4), none, 0, (.alloc 0 2 [(.int .i64 0), (.int .i64 0)])⟩, ⟨(some 3), none, 0, (.mov (.t 12))⟩, ⟨none, none, 0, (.store 2 (.t 4) (.t 14))⟩]
def R63_4 : List AR := [⟨(some 15), none, 0, (.faddr 0 (.t 4))⟩, ⟨(some 16), none, 0, (.load 1 false (.t 15))⟩, ⟨(some 17), none, 0, (.call false 0 0 118 [(.t 16)])⟩, ⟨(some 18), none, 0, (.not (.t 17))⟩, ⟨(some 19), none, 0, (.mov (.t 18))⟩, ⟨(some 20), (some (19, false)), 0, (.faddr 1 (.t 4))⟩, ⟨(some 21), (some (19, false)), 0, (.load 1 false (.t 20))⟩, ⟨(some 22), (some (19, false)), 0, (.call false 0 0 49 [(.t 21), (.k (.int .i64 1)), (.k (.int .i64 1000))])⟩, ⟨(some 23), (some (19, false)), 0, (.not (.t 22))⟩, ⟨(some 24), none, 0, (.pick (.t 19) (.k (.bool true)) (.t 23))⟩, ⟨(some 25), none, 0, (.mov (.t 24))⟩, ⟨(some 26), (some (25, false)), 0, (.mov (.t 3))⟩, ⟨(some 27), (some (25, false)), 0, (.bin .gtr (.t 26) (.k (.int .i64 0)))⟩, ⟨(some 28), (some (25, false)), 0, (.mov (.t 27))⟩, ⟨(some 29), (some (28, true)), 0, (.faddr 1 (.t 1))⟩, ⟨(some 30), (some (28, true)), 0, (.load 1 false (.t 29))⟩, ⟨(some 31), (some (28, true)), 0, (.mov (.t 3))⟩, ⟨(some 32), (some (28, true)), 0, (.bin .sub (.t 31) (.k (.int .i64 1)))⟩, ⟨(some 33), (some (28, true)), 0, (.iaddr 2 (.t 30) (.t 32))⟩, ⟨(some 34), (some (28, true)), 0, (.faddr 0 (.t 33))⟩, ⟨(some 35), (some (28, true)), 0, (.load 1 false (.t 34))⟩, ⟨(some 36), (some (28, true)), 0, (.faddr 0 (.t 4))⟩, ⟨(some 37), (some (28, true)), 0, (.load 1 false (.t 36))⟩, ⟨(some 38), (some (28, true)), 0, (.bin .geq (.t 35) (.t 37))⟩, ⟨(some 39), (some (25, false)), 0, (.pick (.t 28) (.t 38) (.k (.bool false)))⟩, ⟨(some 40), none, 0, (.pick (.t 25) (.k (.bool true)) (.t 39))⟩]
def R63_5 : List AR := [⟨(some 2), none, 0, (.mov (.k (.bool false)))⟩]
def A63_0 : AC := (.seq (.draw 0 R63_4) (.cond (.t 40) (.seq (.reg 0 R63_5) .ret) .skip))
def R63_6 : List AR := [⟨(some 41), none, 0, (.bin .add (.t 10) (.k (.int .i64 1)))⟩, ⟨(some 10), none, 0, (.mov (.t 41))⟩]
def A63_1 : AC := (.seq (.block 1 (.seq (.reg 1 R63_3) A63_0)) (.reg 0 R63_6))
def A63_2 : AC := (.seq (.cond (.t 11) .skip (.exit 0)) A63_1)
def L63_0 : AC := (.seq (.reg 0 R63_2) A63_2)
def R63_7 : List AR := [⟨(some 42), none, 0, (.faddr 0 (.t 1))⟩, ⟨(some 43), none, 0, (.load 1 false (.t 42))⟩, ⟨(some 44), none, 0, (.len (.t 43))⟩, ⟨(some 45), none, 0, (.mov (.k (.int .i64 0)))⟩]
def R63_8 : List AR := [⟨(some 46), none, 0, (.bin .lss (.t 45) (.t 44))⟩]
def R63_9 : List AR := [⟨(some 47), none, 0, (.mov (.t 45))⟩, ⟨(some 48), none, 0, (.iaddr 6 (.t 43) (.t 45))⟩, ⟨(some 49), none, 0, (.load 6 true (.t 48))⟩, ⟨(some 6), none, 0, (.alloc 0 6 [(.int .i64 0), (.int .i64 0), (.int .i64 0), (.int .i64 0), (.int .i64 0), (.str ⟨⟨[]⟩⟩)])⟩, ⟨(some 5), none, 0, (.mov (.t 47))⟩, ⟨none, none, 0, (.store 6 (.t 6) (.t 49))⟩]
def R63_10 : List AR := [⟨(some 50), none, 0, (.faddr 0 (.t 6))⟩, ⟨(some 51), none, 0, (.load 1 false (.t 50))⟩, ⟨(some 52), none, 0, (.call false 0 0 118 [(.t 51)])⟩, ⟨(some 53), none, 0, (.not (.t 52))⟩, ⟨(some 54), none, 0, (.mov (.t 53))⟩, ⟨(some 55), (some (54, false)), 0, (.faddr 1 (.t 6))⟩, ⟨(some 56), (some (54, false)), 0, (.load 5 true (.t 55))⟩, ⟨(some 57), (some (54, false)), 0, (.call false 0 0 119 [(.t 56)])⟩, ⟨(some 58), (some (54, false)), 0, (.not (.t 57))⟩, ⟨(some 59), none, 0, (.pick (.t 54) (.k (.bool true)) (.t 58))⟩, ⟨(some 60), none, 0, (.mov (.t 59))⟩, ⟨(some 61), (some (60, false)), 0, (.faddr 1 (.t 6))⟩, ⟨(some 62), (some (60, false)), 0, (.faddr 0 (.t 61))⟩, ⟨(some 63), (some (60, false)), 0, (.load 1 false (.t 62))⟩, ⟨(some 64), (some (60, false)), 0, (.load 2 true (.t 1))⟩, ⟨(some 65), (some (60, false)), 0, (.faddr 0 (.t 6))⟩, ⟨(some 66), (some (60, false)), 0, (.load 1 false (.t 65))⟩, ⟨(some 67), (some (60, false)), 0, (.call false 0 0 120 [(.t 64), (.t 66)])⟩, ⟨(some 68), (some (60, false)), 0, (.bin .leq (.t 63) (.t 67))⟩, ⟨(some 69), none, 0, (.pick (.t 60) (.k (.bool true)) (.t 68))⟩, ⟨(some 70), none, 0, (.mov (.t 69))⟩, ⟨(some 71), (some (70, false)), 0, (.mov (.t 5))⟩, ⟨(some 72), (some (70, false)), 0, (.bin .gtr (.t 71) (.k (.int .i64 0)))⟩, ⟨(some 73), (some (70, false)), 0, (.mov (.t 72))⟩, ⟨(some 74), (some (73, true)), 0, (.faddr 0 (.t 1))⟩, ⟨(some 75), (some (73, true)), 0, (.load 1 false (.t 74))⟩, ⟨(some 76), (some (73, true)), 0, (.mov (.t 5))⟩, ⟨(some 77), (some (73, true)), 0, (.bin .sub (.t 76) (.k (.int .i64 1)))⟩, ⟨(some 78), (some (73, true)), 0, (.iaddr 6 (.t 75) (.t 77))⟩, ⟨(some 79), (some (73, true)), 0, (.faddr 0 (.t 78))⟩, ⟨(some 80), (some (73, true)), 0, (.load 1 false (.t 79))⟩, ⟨(some 81), (some (73, true)), 0, (.faddr 0 (.t 6))⟩, ⟨(some 82), (some (73, true)), 0, (.load 1 false (.t 81))⟩, ⟨(some 83), (some (73, true)), 0, (.bin .geq (.t 80) (.t 82))⟩, ⟨(some 84), (some (70, false)), 0, (.pick (.t 73) (.t 83) (.k (.bool false)))⟩, ⟨(some 85), none, 0, (.pick (.t 70) (.k (.bool true)) (.t 84))⟩]
def R63_11 : List AR := [⟨(some 2), none, 0, (.mov (.k (.bool false)))⟩]
def A63_3 : AC := (.seq (.draw 0 R63_10) (.cond (.t 85) (.seq (.reg 0 R63_11) .ret) .skip))
def R63_12 : List AR := [⟨(some 86), none, 0, (.bin .add (.t 45) (.k (.int .i64 1)))⟩, ⟨(some 45), none, 0, (.mov (.t 86))⟩]
def A63_4 : AC := (.seq (.block 3 (.seq (.reg 1 R63_9) A63_3)) (.reg 0 R63_12))
def A63_5 : AC := (.seq (.cond (.t 46) .skip (.exit 2)) A63_4)
def L63_1 : AC := (.seq (.reg 0 R63_8) A63_5)
def R63_13 : List AR := [⟨(some 2), none, 0, (.mov (.k (.bool true)))⟩]
def A63_6 : AC := (.seq (.reg 0 R63_13) .ret)
def A63_7 : AC := (.seq (.seq (.reg 0 R63_7) (.block 2 (.loop L63_1))) A63_6)
def A63_8 : AC := (.seq (.seq (.reg 0 R63_1) (.block 0 (.loop L63_0))) A63_7)
def A63 : AC := (.seq (.reg 1 R63_0) A63_8)
def O63 : List AO := [(.mov (.t 2))]
def G63 : Fns := ⟨fun f => false, fun f => 0, false⟩
noncomputable def X63 : Cx := ⟨Tryz.prog, G63, drawD, 87, [0, 1, 2, 3, 4, 5, 6, 8, 9, 10, 11, 40, 43, 44, 45, 46, 85]⟩
theorem c63 : (Tryz.f63.body).bind (compC X63.P X63.Γ X63.D X63.nt) = some A63 := by kernel_rfl
theorem o63 : compRes X63.P Tryz.f63.results.toList = some O63 := by kernel_rfl
theorem v63 : X63.vs = [0, 1, 2, 3, 4, 5, 6, 8, 9, 10, 11, 40, 43, 44, 45, 46, 85] := rfl
theorem p63 : X63.P = Tryz.prog := rfl
/-- the item at the place i is right -/
def itemR (s : State) (i : Nat) (x : Item) : Prop := (0 ≤ x.id ∧ x.id ≤ 4) ∧ (∀ y, 0 < i → s.items[i - 1]? = some y → y.id < x.id) ∧ x.entry.Right ∧ floorOf s x.id < x.entry.inc
def floorR (s : State) (i : Nat) (x : Floor) : Prop := (0 ≤ x.id ∧ x.id ≤ 4) ∧ (∀ y, 0 < i → s.floors[i - 1]? = some y → y.id < x.id) ∧ (1 ≤ x.inc ∧ x.inc ≤ 1000)
def State.Right (s : State) : Prop := (∀ i x, s.items[i]? = some x → itemR s i x) ∧ (∀ i x, s.floors[i]? = some x → floorR s i x)
noncomputable instance (s : State) : Decidable s.Right := Classical.propDecidable _
noncomputable instance (s : State) (i : Nat) (x : Item) : Decidable (itemR s i x) := Classical.propDecidable _
noncomputable instance (s : State) (i : Nat) (x : Floor) : Decidable (floorR s i x) := Classical.propDecidable _
/-- what holds of the first i holds of one more -/
theorem upto_succ {α : Type} {xs : List α} {p : Nat → α → Prop} {i : Nat} (hP : ∀ j x, j < i → xs[j]? = some x → p j x) (h1 : i < xs.length) (hy : p i xs[i]) : ∀ j x, j < i + 1 → xs[j]? = some x → p j x := by
  intro j x hj hx
  rcases Nat.lt_or_ge j i with h2 | h2
  · exact hP j x h2 hx
  · have : j = i := by omega
    subst this
    rw [List.getElem?_eq_getElem h1] at hx
    cases hx
    exact hy
theorem upto_all {α : Type} {xs : List α} {p : Nat → α → Prop} {i : Nat} (hP : ∀ j x, j < i → xs[j]? = some x → p j x) (h1 : ¬ i < xs.length) : ∀ j x, xs[j]? = some x → p j x := by
  intro j x hx
  have := (List.getElem?_eq_some_iff.1 hx).1
  exact hP j x (by omega) hx
theorem prev_lt {α : Type} {xs : List α} {i : Nat} {f : α → Int} {k : Int} (h1 : i < xs.length) (h : 0 < i → f xs[i - 1] < k) : ∀ y, 0 < i → xs[i - 1]? = some y → f y < k := by
  intro y h0 hy
  rw [List.getElem?_eq_getElem (by omega)] at hy
  cases hy
  exact h h0
theorem itemR_iff (a : State) {i : Nat} (h1 : i < a.items.length) (h3 : i - 1 < a.items.length) : itemR a i a.items[i] ↔ (0 ≤ a.items[i].id ∧ a.items[i].id ≤ 4) ∧ (0 < i → a.items[i - 1].id < a.items[i].id) ∧ a.items[i].entry.Right ∧ floorOf a a.items[i].id < a.items[i].entry.inc := by
  unfold itemR
  simp only [List.getElem?_eq_getElem h3, Option.some.injEq]
  grind
theorem floorR_iff (a : State) {i : Nat} (h1 : i < a.floors.length) (h3 : i - 1 < a.floors.length) : floorR a i a.floors[i] ↔ (0 ≤ a.floors[i].id ∧ a.floors[i].id ≤ 4) ∧ (0 < i → a.floors[i - 1].id < a.floors[i].id) ∧ (1 ≤ a.floors[i].inc ∧ a.floors[i].inc ≤ 1000) := by
  unfold floorR
  simp only [List.getElem?_eq_getElem h3, Option.some.injEq]
  grind
set_option maxHeartbeats 4000000 in
theorem specStateOk_ok (a : State) (h : a.sz ≤ 1048576) : FS Tryz.prog 94 [] [.agg a.c] (.bool (decide a.Right)) [] := by
  refine FS.of (X := X94) (ac := A94) (os := O94) Tryz.func94 (by rfl) (by rfl) (by kernel_rfl) o94 (Nat.le_of_ble_eq_true rfl) ?_
  show AWP X94 A94 (Ends X94.vs O94 0 _ _) [.agg a.c, .tup [], .tup [], .tup [], .tup [], .tup [], .tup [], .tup [], .tup [], .tup [], .tup []] []
  obtain ⟨Q, hQ⟩ : ∃ Q, Q = Ends X94.vs O94 0 (.bool (decide a.Right)) [] := ⟨_, rfl⟩
  rw [← hQ]
  have hl : a.items.length + sumBy Item.sz a.items + a.floors.length ≤ 1048576 := h
  have fin : ∀ L σ vV, resVs O94 (look X94.vs L) σ = some [vV] → vV = (.bool (decide a.Right)) → Q .ret L σ := by
    intro L σ vV h1 h2
    rw [hQ]
    exact Ends.is (.inl rfl) h1 (by simp only [packV, h2]) rfl
  refine awp_sr ?_
  simp only [go_sem, R94_0, v94, p94, State.c]
  refine awp_sr2 ?_
  simp only [go_sem, R94_1, v94, p94]
  obtain ⟨I, hI⟩ : ∃ I : Nat → List V → Store → Prop, I = fun mM L σ => ∃ i rest y2 y4 y5 y6 y11 y54 y59 y92, mM = a.items.length - i ∧ i ≤ a.items.length ∧ (∀ j x, j < i → a.items[j]? = some x → itemR a j x) ∧ L = [.agg a.c, .ptr 0 2 0 0, y2, .int .i64 (i : Nat), y4, y5, y6, y11, y54, y59, y92] ∧ σ = .live ⟨2, [a.c]⟩ :: rest := ⟨_, rfl⟩
  first | refine awp_for I a.items.length ?_ ?_ | refine awp_seq (awp_for I a.items.length ?_ ?_)
  · rw [hI]; refine ⟨0, _, _, _, _, _, _, _, _, _, rfl, Nat.zero_le _, ?_, rfl, rfl⟩
    intro j x h; omega
  intro mM L σ hIn
  rw [hI] at hIn
  obtain ⟨i, rest, y2, y4, y5, y6, y11, y54, y59, y92, rfl, hi, hP, rfl, rfl⟩ := hIn
  refine awp_sr2 ?_
  simp only [go_sem, R94_2, v94, p94, State.c]
  refine awp_if rfl ?_ ?_
  · intro h1
    have h1 : i < a.items.length := by omega
    have h3 : i - 1 < a.items.length := by omega
    refine awp_skip ?_
    simp only [go_sem]
    refine awp_seq (awp_block ?_)
    refine awp_sr ?_
    simp only [go_sem, R94_3, v94, p94, rw_at _ h1, Item.c]
    obtain ⟨K1, hK1⟩ : ∃ K : List V → Store → Prop, K = fun L σ => ∃ q rest y2 y4 y5 y6 y11 y59 y92, L = [.agg a.c, .ptr 0 2 0 0, y2, .int .i64 (i : Nat), y4, y5, y6, y11, .bool q, y59, y92] ∧ σ = .live ⟨2, [a.c]⟩ :: rest ∧ q = !decide (itemR a i a.items[i]) := ⟨_, rfl⟩
    refine awp_sdK (K1) mixed rfl (by rfl) ?_ ?_
    · simp only [go_sem, R94_4, v94, p94]
      repeat' first
        | (refine selP_if rfl (fun hG => ?_) (fun hG => ?_) <;> first | simp only [go_sem, v94, p94, eq_false hG, State.c, Item.c, rw_at _ h3, wrap_pred, show i < 9223372036854775807 by omega] | simp only [go_sem, v94, p94, eq_true hG, State.c, Item.c, rw_at _ h3, wrap_pred, show i < 9223372036854775807 by omega])
        | (refine selP_ifn rfl (fun hG => ?_) (fun hG => ?_) <;> first | simp only [go_sem, v94, p94, eq_false hG, State.c, Item.c, rw_at _ h3, wrap_pred, show i < 9223372036854775807 by omega] | simp only [go_sem, v94, p94, eq_true hG, State.c, Item.c, rw_at _ h3, wrap_pred, show i < 9223372036854775807 by omega])
        | (refine selN_if rfl (fun hG => ?_) (fun hG => ?_) <;> first | simp only [go_sem, v94, p94, eq_false hG, State.c, Item.c, rw_at _ h3, wrap_pred, show i < 9223372036854775807 by omega] | simp only [go_sem, v94, p94, eq_true hG, State.c, Item.c, rw_at _ h3, wrap_pred, show i < 9223372036854775807 by omega])
        | (refine selN_ifn rfl (fun hG => ?_) (fun hG => ?_) <;> first | simp only [go_sem, v94, p94, eq_false hG, State.c, Item.c, rw_at _ h3, wrap_pred, show i < 9223372036854775807 by omega] | simp only [go_sem, v94, p94, eq_true hG, State.c, Item.c, rw_at _ h3, wrap_pred, show i < 9223372036854775807 by omega])
        | (refine selB_if rfl (fun hG => ?_) (fun hG => ?_) <;> simp only [go_sem, v94, p94, hG, State.c, Item.c, rw_at _ h3, wrap_pred, show i < 9223372036854775807 by omega])
        | (refine selB_ifn rfl (fun hG => ?_) (fun hG => ?_) <;> simp only [go_sem, v94, p94, hG, State.c, Item.c, rw_at _ h3, wrap_pred, show i < 9223372036854775807 by omega])
        | (refine run_see (l3Node_ok _) false (Views.refl rfl) rfl (fun j hj => by omega) (fun h => by cases h) ?_; simp only [go_sem, v94, p94, State.c, Item.c, rw_at _ h3, wrap_pred, show i < 9223372036854775807 by omega])
        | (refine run_see (specEntryOk_ok a.items[i].entry) false (Views.refl rfl) rfl (fun j hj => by omega) (fun h => by cases h) ?_; simp only [go_sem, v94, p94, State.c, Item.c, rw_at _ h3, wrap_pred, show i < 9223372036854775807 by omega])
        | (refine run_see (specFloorOf_ok a _ (by omega)) false (Views.refl rfl) rfl (fun j hj => by omega) (fun h => by cases h) ?_; simp only [go_sem, v94, p94, State.c, Item.c, rw_at _ h3, wrap_pred, show i < 9223372036854775807 by omega])
      all_goals rw [hK1]
      all_goals refine ⟨_, _, _, _, _, _, _, _, _, rfl, rfl, ?_⟩
      all_goals have key := itemR_iff a h1 h3
      all_goals grind
    intro L σ hq
    rw [hK1] at hq
    obtain ⟨q, rest, y2, y4, y5, y6, y11, y59, y92, rfl, rfl, hq⟩ := hq
    subst hq
    refine awp_if' rfl ?_ ?_
    · intro h2
      refine awp_sr ?_
      simp only [go_sem, R94_5, v94, p94]
      refine awp_ret ?_
      try simp only [go_sem]
      exact fin _ _ (.bool false) rfl (congrArg V.bool (decide_eq_false fun e => h2 (e.1 i _ (List.getElem?_eq_getElem h1))).symm)
    · intro h2
      refine awp_skip ?_
      simp only [go_sem]
      refine awp_reg ?_
      simp only [go_sem, R94_6, v94, p94, wrap_succ (i := i) (by omega)]
      refine ⟨a.items.length - (i + 1), by omega, ?_⟩
      rw [hI]
      refine ⟨i + 1, _, _, _, _, _, _, _, _, _, rfl, by omega, ?_, rfl, rfl⟩
      exact upto_succ hP h1 h2
  · intro h1
    refine awp_exit ?_
    simp only [go_sem]
    have ha := upto_all hP (by omega)
    clear hP hi hI
    refine awp_sr2 ?_
    simp only [go_sem, R94_7, v94, p94, State.c]
    obtain ⟨J, hJ⟩ : ∃ J : Nat → List V → Store → Prop, J = fun mM L σ => ∃ i rest y2 y3 y4 y6 y11 y54 y59 y92, mM = a.floors.length - i ∧ i ≤ a.floors.length ∧ (∀ j x, j < i → a.floors[j]? = some x → floorR a j x) ∧ L = [.agg a.c, .ptr 0 2 0 0, y2, y3, y4, .int .i64 (i : Nat), y6, y11, y54, y59, y92] ∧ σ = .live ⟨2, [a.c]⟩ :: rest := ⟨_, rfl⟩
    first | refine awp_for J a.floors.length ?_ ?_ | refine awp_seq (awp_for J a.floors.length ?_ ?_)
    · rw [hJ]; refine ⟨0, _, _, _, _, _, _, _, _, _, rfl, Nat.zero_le _, ?_, rfl, rfl⟩
      intro j x h; omega
    intro mM L σ hIn
    rw [hJ] at hIn
    obtain ⟨i, rest, y2, y3, y4, y6, y11, y54, y59, y92, rfl, hi, hP, rfl, rfl⟩ := hIn
    refine awp_sr2 ?_
    simp only [go_sem, R94_8, v94, p94, State.c]
    refine awp_if rfl ?_ ?_
    · intro h1
      have h1 : i < a.floors.length := by omega
      have h3 : i - 1 < a.floors.length := by omega
      refine awp_skip ?_
      simp only [go_sem]
      refine awp_seq (awp_block ?_)
      refine awp_sr ?_
      simp only [go_sem, R94_9, v94, p94, rw_at _ h1, Floor.c, State.c]
      obtain ⟨K2, hK2⟩ : ∃ K : List V → Store → Prop, K = fun L σ => ∃ q rest y2 y3 y4 y6 y11 y54 y59, L = [.agg a.c, .ptr 0 2 0 0, y2, y3, y4, .int .i64 (i : Nat), y6, y11, y54, y59, .bool q] ∧ σ = .live ⟨2, [a.c]⟩ :: rest ∧ q = !decide (floorR a i a.floors[i]) := ⟨_, rfl⟩
      refine awp_sdK (K2) mixed rfl (by rfl) ?_ ?_
      · simp only [go_sem, R94_10, v94, p94]
        repeat' first
          | (refine selP_if rfl (fun hG => ?_) (fun hG => ?_) <;> first | simp only [go_sem, v94, p94, eq_false hG, State.c, Floor.c, rw_at _ h3, wrap_pred, show i < 9223372036854775807 by omega] | simp only [go_sem, v94, p94, eq_true hG, State.c, Floor.c, rw_at _ h3, wrap_pred, show i < 9223372036854775807 by omega])
          | (refine selP_ifn rfl (fun hG => ?_) (fun hG => ?_) <;> first | simp only [go_sem, v94, p94, eq_false hG, State.c, Floor.c, rw_at _ h3, wrap_pred, show i < 9223372036854775807 by omega] | simp only [go_sem, v94, p94, eq_true hG, State.c, Floor.c, rw_at _ h3, wrap_pred, show i < 9223372036854775807 by omega])
          | (refine selN_if rfl (fun hG => ?_) (fun hG => ?_) <;> first | simp only [go_sem, v94, p94, eq_false hG, State.c, Floor.c, rw_at _ h3, wrap_pred, show i < 9223372036854775807 by omega] | simp only [go_sem, v94, p94, eq_true hG, State.c, Floor.c, rw_at _ h3, wrap_pred, show i < 9223372036854775807 by omega])
          | (refine selN_ifn rfl (fun hG => ?_) (fun hG => ?_) <;> first | simp only [go_sem, v94, p94, eq_false hG, State.c, Floor.c, rw_at _ h3, wrap_pred, show i < 9223372036854775807 by omega] | simp only [go_sem, v94, p94, eq_true hG, State.c, Floor.c, rw_at _ h3, wrap_pred, show i < 9223372036854775807 by omega])
          | (refine selB_if rfl (fun hG => ?_) (fun hG => ?_) <;> simp only [go_sem, v94, p94, hG, State.c, Floor.c, rw_at _ h3, wrap_pred, show i < 9223372036854775807 by omega])
          | (refine selB_ifn rfl (fun hG => ?_) (fun hG => ?_) <;> simp only [go_sem, v94, p94, hG, State.c, Floor.c, rw_at _ h3, wrap_pred, show i < 9223372036854775807 by omega])
          | (refine run_see (l3Node_ok _) false (Views.refl rfl) rfl (fun j hj => by omega) (fun h => by cases h) ?_; simp only [go_sem, v94, p94, State.c, Floor.c, rw_at _ h3, wrap_pred, show i < 9223372036854775807 by omega])
          | (refine run_see (l1In_ok _ _ _) false (Views.refl rfl) rfl (fun j hj => by omega) (fun h => by cases h) ?_; simp only [go_sem, v94, p94, State.c, Floor.c, rw_at _ h3, wrap_pred, show i < 9223372036854775807 by omega])
        all_goals rw [hK2]
        all_goals refine ⟨_, _, _, _, _, _, _, _, _, rfl, rfl, ?_⟩
        all_goals have key := floorR_iff a h1 h3
        all_goals grind
      intro L σ hq
      rw [hK2] at hq
      obtain ⟨q, rest, y2, y3, y4, y6, y11, y54, y59, rfl, rfl, hq⟩ := hq
      subst hq
      refine awp_if' rfl ?_ ?_
      · intro h2
        refine awp_sr ?_
        simp only [go_sem, R94_11, v94, p94]
        refine awp_ret ?_
        try simp only [go_sem]
        exact fin _ _ (.bool false) rfl (congrArg V.bool (decide_eq_false fun e => h2 (e.2 i _ (List.getElem?_eq_getElem h1))).symm)
      · intro h2
        refine awp_skip ?_
        simp only [go_sem]
        refine awp_reg ?_
        simp only [go_sem, R94_12, v94, p94, wrap_succ (i := i) (by omega)]
        refine ⟨a.floors.length - (i + 1), by omega, ?_⟩
        rw [hJ]
        refine ⟨i + 1, _, _, _, _, _, _, _, _, _, rfl, by omega, ?_, rfl, rfl⟩
        exact upto_succ hP h1 h2
    · intro h1
      refine awp_exit ?_
      simp only [go_sem]
      have hb := upto_all hP (by omega)
      refine awp_sr ?_
      simp only [go_sem, R94_13, v94, p94]
      refine awp_ret ?_
      try simp only [go_sem]
      exact fin _ _ (.bool true) rfl (congrArg V.bool (decide_eq_true (show a.Right from ⟨ha, hb⟩)).symm)
set_option maxHeartbeats 4000000 in
theorem implStateOk_ok (a : State) (h : a.sz ≤ 1048576) : FS Tryz.prog 63 [] [.agg a.c] (.bool (decide a.Right)) [] := by
  refine FS.of (X := X63) (ac := A63) (os := O63) Tryz.func63 (by rfl) (by rfl) (by kernel_rfl) o63 (Nat.le_of_ble_eq_true rfl) ?_
  show AWP X63 A63 (Ends X63.vs O63 0 _ _) [.agg a.c, .tup [], .tup [], .tup [], .tup [], .tup [], .tup [], .tup [], .tup [], .tup [], .tup [], .tup [], .tup [], .tup [], .tup [], .tup [], .tup []] []
  obtain ⟨Q, hQ⟩ : ∃ Q, Q = Ends X63.vs O63 0 (.bool (decide a.Right)) [] := ⟨_, rfl⟩
  rw [← hQ]
  have hl : a.items.length + sumBy Item.sz a.items + a.floors.length ≤ 1048576 := h
  have fin : ∀ L σ vV, resVs O63 (look X63.vs L) σ = some [vV] → vV = (.bool (decide a.Right)) → Q .ret L σ := by
    intro L σ vV h1 h2
    rw [hQ]
    exact Ends.is (.inl rfl) h1 (by simp only [packV, h2]) rfl
  refine awp_sr ?_
  simp only [go_sem, R63_0, v63, p63, State.c]
  refine awp_sr2 ?_
  simp only [go_sem, R63_1, v63, p63, State.c]
  obtain ⟨I, hI⟩ : ∃ I : Nat → List V → Store → Prop, I = fun mM L σ => ∃ i rest y2 y3 y4 y5 y6 y11 y40 y43 y44 y45 y46 y85, mM = a.floors.length - i ∧ i ≤ a.floors.length ∧ (∀ j x, j < i → a.floors[j]? = some x → floorR a j x) ∧ L = [.agg a.c, .ptr 0 2 0 0, y2, y3, y4, y5, y6, .fz 2 (rw_ Floor.c a.floors), .int .i64 (a.floors.length : Nat), .int .i64 (i : Nat), y11, y40, y43, y44, y45, y46, y85] ∧ σ = .live ⟨2, [a.c]⟩ :: rest := ⟨_, rfl⟩
  first | refine awp_for I a.floors.length ?_ ?_ | refine awp_seq (awp_for I a.floors.length ?_ ?_)
  · rw [hI]; refine ⟨0, _, _, _, _, _, _, _, _, _, _, _, _, _, rfl, Nat.zero_le _, ?_, rfl, rfl⟩
    intro j x h; omega
  intro mM L σ hIn
  rw [hI] at hIn
  obtain ⟨i, rest, y2, y3, y4, y5, y6, y11, y40, y43, y44, y45, y46, y85, rfl, hi, hP, rfl, rfl⟩ := hIn
  refine awp_sr ?_
  simp only [go_sem, R63_2, v63, p63, State.c]
  refine awp_seq ?_
  refine awp_if rfl ?_ ?_
  · intro h1
    have h1 : i < a.floors.length := by omega
    have h3 : i - 1 < a.floors.length := by omega
    refine awp_skip ?_
    simp only [go_sem]
    refine awp_seq (awp_block ?_)
    refine awp_sr ?_
    simp only [go_sem, R63_3, v63, p63, rw_at _ h1, Floor.c]
    obtain ⟨K3, hK3⟩ : ∃ K : List V → Store → Prop, K = fun L σ => ∃ q rest y2 y3 y4 y5 y6 y11 y43 y44 y45 y46 y85, L = [.agg a.c, .ptr 0 2 0 0, y2, y3, y4, y5, y6, .fz 2 (rw_ Floor.c a.floors), .int .i64 (a.floors.length : Nat), .int .i64 (i : Nat), y11, .bool q, y43, y44, y45, y46, y85] ∧ σ = .live ⟨2, [a.c]⟩ :: rest ∧ q = !decide (floorR a i a.floors[i]) := ⟨_, rfl⟩
    refine awp_sdK (K3) mixed rfl (by rfl) ?_ ?_
    · simp only [go_sem, R63_4, v63, p63]
      repeat' first
        | (refine selP_if rfl (fun hG => ?_) (fun hG => ?_) <;> first | simp only [go_sem, v63, p63, eq_false hG, State.c, Floor.c, rw_at _ h3, wrap_pred, show i < 9223372036854775807 by omega] | simp only [go_sem, v63, p63, eq_true hG, State.c, Floor.c, rw_at _ h3, wrap_pred, show i < 9223372036854775807 by omega])
        | (refine selP_ifn rfl (fun hG => ?_) (fun hG => ?_) <;> first | simp only [go_sem, v63, p63, eq_false hG, State.c, Floor.c, rw_at _ h3, wrap_pred, show i < 9223372036854775807 by omega] | simp only [go_sem, v63, p63, eq_true hG, State.c, Floor.c, rw_at _ h3, wrap_pred, show i < 9223372036854775807 by omega])
        | (refine selN_if rfl (fun hG => ?_) (fun hG => ?_) <;> first | simp only [go_sem, v63, p63, eq_false hG, State.c, Floor.c, rw_at _ h3, wrap_pred, show i < 9223372036854775807 by omega] | simp only [go_sem, v63, p63, eq_true hG, State.c, Floor.c, rw_at _ h3, wrap_pred, show i < 9223372036854775807 by omega])
        | (refine selN_ifn rfl (fun hG => ?_) (fun hG => ?_) <;> first | simp only [go_sem, v63, p63, eq_false hG, State.c, Floor.c, rw_at _ h3, wrap_pred, show i < 9223372036854775807 by omega] | simp only [go_sem, v63, p63, eq_true hG, State.c, Floor.c, rw_at _ h3, wrap_pred, show i < 9223372036854775807 by omega])
        | (refine selB_if rfl (fun hG => ?_) (fun hG => ?_) <;> simp only [go_sem, v63, p63, hG, State.c, Floor.c, rw_at _ h3, wrap_pred, show i < 9223372036854775807 by omega])
        | (refine selB_ifn rfl (fun hG => ?_) (fun hG => ?_) <;> simp only [go_sem, v63, p63, hG, State.c, Floor.c, rw_at _ h3, wrap_pred, show i < 9223372036854775807 by omega])
        | (refine run_see (isNode_ok _) false (Views.refl rfl) rfl (fun j hj => by omega) (fun h => by cases h) ?_; simp only [go_sem, v63, p63, State.c, Floor.c, rw_at _ h3, wrap_pred, show i < 9223372036854775807 by omega])
        | (refine run_see (within_ok _ _ _) false (Views.refl rfl) rfl (fun j hj => by omega) (fun h => by cases h) ?_; simp only [go_sem, v63, p63, State.c, Floor.c, rw_at _ h3, wrap_pred, show i < 9223372036854775807 by omega])
      all_goals rw [hK3]
      all_goals refine ⟨_, _, _, _, _, _, _, _, _, _, _, _, _, rfl, rfl, ?_⟩
      all_goals have key := floorR_iff a h1 h3
      all_goals grind
    intro L σ hq
    rw [hK3] at hq
    obtain ⟨q, rest, y2, y3, y4, y5, y6, y11, y43, y44, y45, y46, y85, rfl, rfl, hq⟩ := hq
    subst hq
    refine awp_if' rfl ?_ ?_
    · intro h2
      refine awp_sr ?_
      simp only [go_sem, R63_5, v63, p63]
      refine awp_ret ?_
      try simp only [go_sem]
      exact fin _ _ (.bool false) rfl (congrArg V.bool (decide_eq_false fun e => h2 (e.2 i _ (List.getElem?_eq_getElem h1))).symm)
    · intro h2
      refine awp_skip ?_
      simp only [go_sem]
      refine awp_reg ?_
      simp only [go_sem, R63_6, v63, p63, wrap_succ (i := i) (by omega)]
      refine ⟨a.floors.length - (i + 1), by omega, ?_⟩
      rw [hI]
      refine ⟨i + 1, _, _, _, _, _, _, _, _, _, _, _, _, _, rfl, by omega, ?_, rfl, rfl⟩
      exact upto_succ hP h1 h2
  · intro h1
    refine awp_exit ?_
    simp only [go_sem]
    have hb := upto_all hP (by omega)
    clear hP hi hI
    refine awp_sr2 ?_
    simp only [go_sem, R63_7, v63, p63, State.c]
    obtain ⟨J, hJ⟩ : ∃ J : Nat → List V → Store → Prop, J = fun mM L σ => ∃ i rest y2 y3 y4 y5 y6 y8 y9 y10 y11 y40 y46 y85, mM = a.items.length - i ∧ i ≤ a.items.length ∧ (∀ j x, j < i → a.items[j]? = some x → itemR a j x) ∧ L = [.agg a.c, .ptr 0 2 0 0, y2, y3, y4, y5, y6, y8, y9, y10, y11, y40, .fz 6 (rw_ Item.c a.items), .int .i64 (a.items.length : Nat), .int .i64 (i : Nat), y46, y85] ∧ σ = .live ⟨2, [a.c]⟩ :: rest := ⟨_, rfl⟩
    first | refine awp_for J a.items.length ?_ ?_ | refine awp_seq (awp_for J a.items.length ?_ ?_)
    · rw [hJ]; refine ⟨0, _, _, _, _, _, _, _, _, _, _, _, _, _, rfl, Nat.zero_le _, ?_, rfl, rfl⟩
      intro j x h; omega
    intro mM L σ hIn
    rw [hJ] at hIn
    obtain ⟨i, rest, y2, y3, y4, y5, y6, y8, y9, y10, y11, y40, y46, y85, rfl, hi, hP, rfl, rfl⟩ := hIn
    refine awp_sr ?_
    simp only [go_sem, R63_8, v63, p63, State.c]
    refine awp_seq ?_
    refine awp_if rfl ?_ ?_
    · intro h1
      have h1 : i < a.items.length := by omega
      have h3 : i - 1 < a.items.length := by omega
      refine awp_skip ?_
      simp only [go_sem]
      refine awp_seq (awp_block ?_)
      refine awp_sr ?_
      simp only [go_sem, R63_9, v63, p63, rw_at _ h1, Item.c]
      obtain ⟨K4, hK4⟩ : ∃ K : List V → Store → Prop, K = fun L σ => ∃ q rest y2 y3 y4 y5 y6 y8 y9 y10 y11 y40 y46, L = [.agg a.c, .ptr 0 2 0 0, y2, y3, y4, y5, y6, y8, y9, y10, y11, y40, .fz 6 (rw_ Item.c a.items), .int .i64 (a.items.length : Nat), .int .i64 (i : Nat), y46, .bool q] ∧ σ = .live ⟨2, [a.c]⟩ :: rest ∧ q = !decide (itemR a i a.items[i]) := ⟨_, rfl⟩
      refine awp_sdK (K4) mixed rfl (by rfl) ?_ ?_
      · simp only [go_sem, R63_10, v63, p63]
        repeat' first
          | (refine selP_if rfl (fun hG => ?_) (fun hG => ?_) <;> first | simp only [go_sem, v63, p63, eq_false hG, State.c, Item.c, rw_at _ h3, wrap_pred, show i < 9223372036854775807 by omega] | simp only [go_sem, v63, p63, eq_true hG, State.c, Item.c, rw_at _ h3, wrap_pred, show i < 9223372036854775807 by omega])
          | (refine selP_ifn rfl (fun hG => ?_) (fun hG => ?_) <;> first | simp only [go_sem, v63, p63, eq_false hG, State.c, Item.c, rw_at _ h3, wrap_pred, show i < 9223372036854775807 by omega] | simp only [go_sem, v63, p63, eq_true hG, State.c, Item.c, rw_at _ h3, wrap_pred, show i < 9223372036854775807 by omega])
          | (refine selN_if rfl (fun hG => ?_) (fun hG => ?_) <;> first | simp only [go_sem, v63, p63, eq_false hG, State.c, Item.c, rw_at _ h3, wrap_pred, show i < 9223372036854775807 by omega] | simp only [go_sem, v63, p63, eq_true hG, State.c, Item.c, rw_at _ h3, wrap_pred, show i < 9223372036854775807 by omega])
          | (refine selN_ifn rfl (fun hG => ?_) (fun hG => ?_) <;> first | simp only [go_sem, v63, p63, eq_false hG, State.c, Item.c, rw_at _ h3, wrap_pred, show i < 9223372036854775807 by omega] | simp only [go_sem, v63, p63, eq_true hG, State.c, Item.c, rw_at _ h3, wrap_pred, show i < 9223372036854775807 by omega])
          | (refine selB_if rfl (fun hG => ?_) (fun hG => ?_) <;> simp only [go_sem, v63, p63, hG, State.c, Item.c, rw_at _ h3, wrap_pred, show i < 9223372036854775807 by omega])
          | (refine selB_ifn rfl (fun hG => ?_) (fun hG => ?_) <;> simp only [go_sem, v63, p63, hG, State.c, Item.c, rw_at _ h3, wrap_pred, show i < 9223372036854775807 by omega])
          | (refine run_see (isNode_ok _) false (Views.refl rfl) rfl (fun j hj => by omega) (fun h => by cases h) ?_; simp only [go_sem, v63, p63, State.c, Item.c, rw_at _ h3, wrap_pred, show i < 9223372036854775807 by omega])
          | (refine run_see (implEntryOk_ok a.items[i].entry) false (Views.refl rfl) rfl (fun j hj => by omega) (fun h => by cases h) ?_; simp only [go_sem, v63, p63, State.c, Item.c, rw_at _ h3, wrap_pred, show i < 9223372036854775807 by omega])
          | (refine run_see (implFloorOf_ok a _ (by omega)) false (Views.refl rfl) rfl (fun j hj => by omega) (fun h => by cases h) ?_; simp only [go_sem, v63, p63, State.c, Item.c, rw_at _ h3, wrap_pred, show i < 9223372036854775807 by omega])
        all_goals rw [hK4]
        all_goals refine ⟨_, _, _, _, _, _, _, _, _, _, _, _, _, rfl, rfl, ?_⟩
        all_goals have key := itemR_iff a h1 h3
        all_goals grind
      intro L σ hq
      rw [hK4] at hq
      obtain ⟨q, rest, y2, y3, y4, y5, y6, y8, y9, y10, y11, y40, y46, rfl, rfl, hq⟩ := hq
      subst hq
      refine awp_if' rfl ?_ ?_
      · intro h2
        refine awp_sr ?_
        simp only [go_sem, R63_11, v63, p63]
        refine awp_ret ?_
        try simp only [go_sem]
        exact fin _ _ (.bool false) rfl (congrArg V.bool (decide_eq_false fun e => h2 (e.1 i _ (List.getElem?_eq_getElem h1))).symm)
      · intro h2
        refine awp_skip ?_
        simp only [go_sem]
        refine awp_reg ?_
        simp only [go_sem, R63_12, v63, p63, wrap_succ (i := i) (by omega)]
        refine ⟨a.items.length - (i + 1), by omega, ?_⟩
        rw [hJ]
        refine ⟨i + 1, _, _, _, _, _, _, _, _, _, _, _, _, _, rfl, by omega, ?_, rfl, rfl⟩
        exact upto_succ hP h1 h2
    · intro h1
      refine awp_exit ?_
      simp only [go_sem]
      have ha := upto_all hP (by omega)
      refine awp_sr ?_
      simp only [go_sem, R63_13, v63, p63]
      refine awp_ret ?_
      try simp only [go_sem]
      exact fin _ _ (.bool true) rfl (congrArg V.bool (decide_eq_true (show a.Right from ⟨ha, hb⟩)).symm)
end Go.Proofs.YtffigokicddekaaGreat.Abs
/- What has gone, walked in both texts, and the law. No condition. -/
set_option linter.unusedVariables false
set_option linter.unusedSimpArgs false
set_option maxRecDepth 10000
namespace Go.Proofs.YtffigokicddekaaGreat.Abs
open Go Go.Proofs
def goneP (id : Int) (s : State) : Prop := (entryOf s id).2 = true ∧ s.Right ∧ (entryOf s id).1.rank = 1
noncomputable instance (id : Int) (s : State) : Decidable (goneP id s) := Classical.propDecidable _
noncomputable def goneF (id : Int) (n : Int) (s : State) : Int := if goneP id s then (if (entryOf s id).1.inc > n then (entryOf s id).1.inc else n) else n
theorem goneF_if {id : Int} {s : State} (h : goneP id s) (n : Int) : goneF id n s = if (entryOf s id).1.inc > n then (entryOf s id).1.inc else n := by unfold goneF; rw [if_pos h]
theorem goneF_no {id : Int} {s : State} (h : ¬ goneP id s) (n : Int) : goneF id n s = n := by unfold goneF; rw [if_neg h]
noncomputable def plainGone (parts : List State) (id : Int) : Int := parts.foldl (goneF id) 0
theorem fold_take {α β : Type} (f : β → α → β) (b : β) {xs : List α} {i : Nat} (h : i < xs.length) : (xs.take (i + 1)).foldl f b = f ((xs.take i).foldl f b) xs[i] := by
  rw [List.take_succ_eq_append_getElem h, List.foldl_append]; rfl
theorem size_of {a : State} {xs : List State} {n : Nat} (h : szS State.sz xs ≤ n) {i : Nat} (h1 : i < xs.length) : a.sz ≤ n → xs[i].sz ≤ n := by
  have := sumBy_get State.sz h1
  unfold szS at h
  omega
theorem State.items_le (a : State) : a.items.length ≤ a.sz := by unfold State.sz szS; omega
theorem State.floors_le (a : State) : a.floors.length ≤ a.sz := by unfold State.sz szS; omega
-- not in this seat: spec.PlainGone
-- not in this seat: impl.PlainGone
-- not in this seat: laws.FnExactPlainGone
end Go.Proofs.YtffigokicddekaaGreat.Abs
/- What a right message is, walked in both texts. No condition. -/
set_option linter.unusedVariables false
set_option linter.unusedSimpArgs false
set_option maxRecDepth 10000
namespace Go.Proofs.YtffigokicddekaaGreat.Abs
open Go Go.Proofs
def R224_0 : List AR := [⟨(some 2), none, 0, (.mov (.k (.bool false)))⟩]
def R224_1 : List AR := [⟨(some 3), none, 0, (.mov (.k (.int .i64 0)))⟩]
def R224_2 : List AR := [⟨(some 4), none, 0, (.mov (.t 3))⟩, ⟨(some 5), none, 0, (.mov (.t 0))⟩, ⟨(some 6), none, 0, (.len (.t 5))⟩, ⟨(some 7), none, 0, (.bin .lss (.t 4) (.t 6))⟩]
def R224_3 : List AR := [⟨(some 10), none, 0, (.mov (.t 0))⟩, ⟨(some 11), none, 0, (.mov (.t 3))⟩, ⟨(some 12), none, 0, (.iaddr 2 (.t 10) (.t 11))⟩, ⟨(some 13), none, 0, (.faddr 0 (.t 12))⟩, ⟨(some 14), none, 0, (.load 1 false (.t 13))⟩, ⟨(some 15), none, 0, (.call false 0 0 146 [(.t 14)])⟩, ⟨(some 16), none, 0, (.not (.t 15))⟩, ⟨(some 17), none, 0, (.mov (.t 16))⟩, ⟨(some 18), (some (17, false)), 0, (.mov (.t 3))⟩, ⟨(some 19), (some (17, false)), 0, (.bin .gtr (.t 18) (.k (.int .i64 0)))⟩, ⟨(some 20), (some (17, false)), 0, (.mov (.t 19))⟩, ⟨(some 21), (some (20, true)), 0, (.mov (.t 0))⟩, ⟨(some 22), (some (20, true)), 0, (.mov (.t 3))⟩, ⟨(some 23), (some (20, true)), 0, (.iaddr 2 (.t 21) (.t 22))⟩, ⟨(some 24), (some (20, true)), 0, (.faddr 0 (.t 23))⟩, ⟨(some 25), (some (20, true)), 0, (.load 1 false (.t 24))⟩, ⟨(some 26), (some (20, true)), 0, (.mov (.t 0))⟩, ⟨(some 27), (some (20, true)), 0, (.mov (.t 3))⟩, ⟨(some 28), (some (20, true)), 0, (.bin .sub (.t 27) (.k (.int .i64 1)))⟩, ⟨(some 29), (some (20, true)), 0, (.iaddr 2 (.t 26) (.t 28))⟩, ⟨(some 30), (some (20, true)), 0, (.faddr 0 (.t 29))⟩, ⟨(some 31), (some (20, true)), 0, (.load 1 false (.t 30))⟩, ⟨(some 32), (some (20, true)), 0, (.bin .leq (.t 25) (.t 31))⟩, ⟨(some 33), (some (17, false)), 0, (.pick (.t 20) (.t 32) (.k (.bool false)))⟩, ⟨(some 34), none, 0, (.pick (.t 17) (.k (.bool true)) (.t 33))⟩, ⟨(some 35), none, 0, (.mov (.t 34))⟩, ⟨(some 36), (some (35, false)), 0, (.mov (.t 0))⟩, ⟨(some 37), (some (35, false)), 0, (.mov (.t 3))⟩, ⟨(some 38), (some (35, false)), 0, (.iaddr 2 (.t 36) (.t 37))⟩, ⟨(some 39), (some (35, false)), 0, (.faddr 1 (.t 38))⟩, ⟨(some 40), (some (35, false)), 0, (.load 1 false (.t 39))⟩, ⟨(some 41), (some (35, false)), 0, (.call false 0 0 52 [(.t 40), (.k (.int .i64 1)), (.k (.int .i64 1000))])⟩, ⟨(some 42), (some (35, false)), 0, (.not (.t 41))⟩, ⟨(some 43), none, 0, (.pick (.t 35) (.k (.bool true)) (.t 42))⟩]
def R224_4 : List AR := [⟨(some 2), none, 0, (.mov (.k (.bool false)))⟩]
def R224_5 : List AR := [⟨(some 8), none, 0, (.mov (.t 3))⟩, ⟨(some 9), none, 0, (.bin .add (.t 8) (.k (.int .i64 1)))⟩, ⟨(some 3), none, 0, (.mov (.t 9))⟩]
def A224_0 : AC := (.seq (.block 1 (.seq (.draw 0 R224_3) (.cond (.t 43) (.seq (.reg 0 R224_4) .ret) .skip))) (.reg 0 R224_5))
def L224_0 : AC := (.seq (.seq (.reg 0 R224_2) (.cond (.t 7) .skip (.exit 0))) A224_0)
def R224_6 : List AR := [⟨(some 2), none, 0, (.mov (.k (.bool true)))⟩]
def A224_1 : AC := (.seq (.reg 0 R224_6) .ret)
def A224_2 : AC := (.seq (.seq (.reg 0 R224_1) (.block 0 (.loop L224_0))) A224_1)
def A224 : AC := (.seq (.reg 0 R224_0) A224_2)
def O224 : List AO := [(.mov (.t 2))]
def G224 : Fns := ⟨fun f => false, fun f => 0, false⟩
noncomputable def X224 : Cx := ⟨Tryz.prog, G224, drawD, 44, [0, 2, 3, 7, 43]⟩
theorem c224 : (Tryz.f224.body).bind (compC X224.P X224.Γ X224.D X224.nt) = some A224 := by kernel_rfl
theorem o224 : compRes X224.P Tryz.f224.results.toList = some O224 := by kernel_rfl
theorem v224 : X224.vs = [0, 2, 3, 7, 43] := rfl
theorem p224 : X224.P = Tryz.prog := rfl
def inTop (top : Int) (j : Nat) (x : Int) : Prop := 0 ≤ x ∧ x ≤ top
instance (top : Int) (j : Nat) (x : Int) : Decidable (inTop top j x) := by unfold inTop; exact inferInstance
def numsR (xs : List Int) (most top : Int) : Prop := (xs.length : Int) ≤ most ∧ ∀ j x, xs[j]? = some x → inTop top j x
noncomputable instance (xs : List Int) (most top : Int) : Decidable (numsR xs most top) := Classical.propDecidable _
theorem int_at (n : Int) : intC n = [V.int .i64 n] := rfl
-- not in this seat: spec.l10Nums
def markR (ms : List Mark) (i : Nat) (x : Mark) : Prop := (0 ≤ x.id ∧ x.id ≤ 4) ∧ (∀ y, 0 < i → ms[i - 1]? = some y → y.id < x.id) ∧ (1 ≤ x.inc ∧ x.inc ≤ 1000)
def marksR (ms : List Mark) : Prop := ∀ i x, ms[i]? = some x → markR ms i x
noncomputable instance (ms : List Mark) : Decidable (marksR ms) := Classical.propDecidable _
noncomputable instance (ms : List Mark) (i : Nat) (x : Mark) : Decidable (markR ms i x) := Classical.propDecidable _
theorem markR_iff (ms : List Mark) {i : Nat} (h1 : i < ms.length) (h3 : i - 1 < ms.length) : markR ms i ms[i] ↔ (0 ≤ ms[i].id ∧ ms[i].id ≤ 4) ∧ (0 < i → ms[i - 1].id < ms[i].id) ∧ (1 ≤ ms[i].inc ∧ ms[i].inc ≤ 1000) := by
  unfold markR
  simp only [List.getElem?_eq_getElem h3, Option.some.injEq]
  grind
theorem specMarksOk_ok (ms : List Mark) (h : ms.length ≤ 1048576) : FS Tryz.prog 224 [] [.fz 2 (rw_ Mark.c ms)] (.bool (decide (marksR ms))) [] := by
  refine FS.of (X := X224) (ac := A224) (os := O224) Tryz.func224 (by rfl) (by rfl) (by kernel_rfl) o224 (Nat.le_of_ble_eq_true rfl) ?_
  show AWP X224 A224 (Ends X224.vs O224 0 _ _) [.fz 2 (rw_ Mark.c ms), .tup [], .tup [], .tup [], .tup []] []
  obtain ⟨Q, hQ⟩ : ∃ Q, Q = Ends X224.vs O224 0 (.bool (decide (marksR ms))) [] := ⟨_, rfl⟩
  rw [← hQ]
  have fin : ∀ L σ vV, resVs O224 (look X224.vs L) σ = some [vV] → vV = (.bool (decide (marksR ms))) → Q .ret L σ := by
    intro L σ vV h1 h2
    rw [hQ]
    exact Ends.is (.inl rfl) h1 (by simp only [packV, h2]) rfl
  refine awp_sr ?_
  simp only [go_sem, R224_0, v224, p224]
  refine awp_sr2 ?_
  simp only [go_sem, R224_1, v224, p224]
  obtain ⟨I, hI⟩ : ∃ I : Nat → List V → Store → Prop, I = fun mM L σ => ∃ i rest y2 y7 y43, mM = ms.length - i ∧ i ≤ ms.length ∧ (∀ j x, j < i → ms[j]? = some x → markR ms j x) ∧ L = [.fz 2 (rw_ Mark.c ms), y2, .int .i64 (i : Nat), y7, y43] ∧ σ = rest := ⟨_, rfl⟩
  first | refine awp_for I ms.length ?_ ?_ | refine awp_seq (awp_for I ms.length ?_ ?_)
  · rw [hI]; refine ⟨0, _, _, _, _, rfl, Nat.zero_le _, ?_, rfl, rfl⟩
    intro j x h; omega
  intro mM L σ hIn
  rw [hI] at hIn
  obtain ⟨i, rest, y2, y7, y43, rfl, hi, hP, rfl, rfl⟩ := hIn
  refine awp_sr2 ?_
  simp only [go_sem, R224_2, v224, p224]
  refine awp_if rfl ?_ ?_
  · intro h1
    have h1 : i < ms.length := by omega
    have h3 : i - 1 < ms.length := by omega
    refine awp_skip ?_
    simp only [go_sem]
    refine awp_seq (awp_block ?_)
    obtain ⟨K1, hK1⟩ : ∃ K : List V → Store → Prop, K = fun L σ => ∃ q rest y2 y7, L = [.fz 2 (rw_ Mark.c ms), y2, .int .i64 (i : Nat), y7, .bool q] ∧ σ = rest ∧ q = !decide (markR ms i ms[i]) := ⟨_, rfl⟩
    refine awp_sdK (K1) mixed rfl (by rfl) ?_ ?_
    · simp only [go_sem, R224_3, v224, p224, rw_at _ h1, Mark.c]
      repeat' first
        | (refine selP_if rfl (fun hG => ?_) (fun hG => ?_) <;> first | simp only [go_sem, v224, p224, eq_false hG, Mark.c, rw_at _ h1, rw_at _ h3, wrap_pred, show i < 9223372036854775807 by omega] | simp only [go_sem, v224, p224, eq_true hG, Mark.c, rw_at _ h1, rw_at _ h3, wrap_pred, show i < 9223372036854775807 by omega])
        | (refine selP_ifn rfl (fun hG => ?_) (fun hG => ?_) <;> first | simp only [go_sem, v224, p224, eq_false hG, Mark.c, rw_at _ h1, rw_at _ h3, wrap_pred, show i < 9223372036854775807 by omega] | simp only [go_sem, v224, p224, eq_true hG, Mark.c, rw_at _ h1, rw_at _ h3, wrap_pred, show i < 9223372036854775807 by omega])
        | (refine selN_if rfl (fun hG => ?_) (fun hG => ?_) <;> first | simp only [go_sem, v224, p224, eq_false hG, Mark.c, rw_at _ h1, rw_at _ h3, wrap_pred, show i < 9223372036854775807 by omega] | simp only [go_sem, v224, p224, eq_true hG, Mark.c, rw_at _ h1, rw_at _ h3, wrap_pred, show i < 9223372036854775807 by omega])
        | (refine selN_ifn rfl (fun hG => ?_) (fun hG => ?_) <;> first | simp only [go_sem, v224, p224, eq_false hG, Mark.c, rw_at _ h1, rw_at _ h3, wrap_pred, show i < 9223372036854775807 by omega] | simp only [go_sem, v224, p224, eq_true hG, Mark.c, rw_at _ h1, rw_at _ h3, wrap_pred, show i < 9223372036854775807 by omega])
        | (refine selB_if rfl (fun hG => ?_) (fun hG => ?_) <;> simp only [go_sem, v224, p224, hG, Mark.c, rw_at _ h1, rw_at _ h3, wrap_pred, show i < 9223372036854775807 by omega])
        | (refine selB_ifn rfl (fun hG => ?_) (fun hG => ?_) <;> simp only [go_sem, v224, p224, hG, Mark.c, rw_at _ h1, rw_at _ h3, wrap_pred, show i < 9223372036854775807 by omega])
        | (refine run_see (l3Node_ok _) false (Views.refl rfl) rfl (fun j hj => by omega) (fun h => by cases h) ?_; simp only [go_sem, v224, p224, Mark.c, rw_at _ h1, rw_at _ h3, wrap_pred, show i < 9223372036854775807 by omega])
        | (refine run_see (l1In_ok _ _ _) false (Views.refl rfl) rfl (fun j hj => by omega) (fun h => by cases h) ?_; simp only [go_sem, v224, p224, Mark.c, rw_at _ h1, rw_at _ h3, wrap_pred, show i < 9223372036854775807 by omega])
      all_goals rw [hK1]
      all_goals refine ⟨_, _, _, _, rfl, rfl, ?_⟩
      all_goals have key := markR_iff ms h1 h3
      all_goals grind
    intro L σ hq
    rw [hK1] at hq
    obtain ⟨q, rest, y2, y7, rfl, rfl, hq⟩ := hq
    subst hq
    refine awp_if' rfl ?_ ?_
    · intro h2
      refine awp_sr ?_
      simp only [go_sem, R224_4, v224, p224]
      refine awp_ret ?_
      try simp only [go_sem]
      exact fin _ _ (.bool false) rfl (congrArg V.bool (decide_eq_false fun e => h2 (e i _ (List.getElem?_eq_getElem h1)))).symm
    · intro h2
      refine awp_skip ?_
      simp only [go_sem]
      refine awp_reg ?_
      simp only [go_sem, R224_5, v224, p224, wrap_succ (i := i) (by omega)]
      refine ⟨ms.length - (i + 1), by omega, ?_⟩
      rw [hI]
      refine ⟨i + 1, _, _, _, _, rfl, by omega, ?_, rfl, rfl⟩
      exact upto_succ hP h1 h2
  · intro h1
    refine awp_exit ?_
    simp only [go_sem]
    refine awp_sr ?_
    simp only [go_sem, R224_6, v224, p224]
    refine awp_ret ?_
    try simp only [go_sem]
    exact fin _ _ (.bool true) rfl (congrArg V.bool (decide_eq_true (show marksR ms from upto_all hP (by omega))).symm)
-- not in this seat: impl.MarksOk
/-- a right tree -/
def Tree.Right (t : Tree) : Prop := (t.leaves.length = 0 → t.root = 0) ∧ (t.leaves.length ≠ 0 → t.leaves.length = 4 ∧ (∀ j x, t.leaves[j]? = some x → inTop 1023 j x) ∧ 0 ≤ t.root ∧ t.root ≤ 1023)
noncomputable instance (t : Tree) : Decidable t.Right := Classical.propDecidable _
-- not in this seat: spec.l10Tree
-- not in this seat: impl.treeOk
end Go.Proofs.YtffigokicddekaaGreat.Abs
/- Numbers as bytes, walked in both texts. No condition. -/
set_option linter.unusedVariables false
set_option linter.unusedSimpArgs false
set_option maxRecDepth 10000
namespace Go.Proofs.YtffigokicddekaaGreat.Abs
open Go Go.Proofs
theorem byte_fold (b : UInt8) : [V.int .u8 (b.toNat : Int)] = byteC b := rfl
theorem byte_sing (b : UInt8) : [byteC b] = rw_ byteC [b] := rfl
theorem bytes_ok {s : Nat} (xs : List UInt8) : (⟨s, rw_ byteC xs⟩ : Ob).closed := rw_closed byteC_closed xs
theorem tmod_nat (n k : Nat) : (n : Int).tmod (k : Int) = ((n % k : Nat) : Int) := by rw [Int.ofNat_tmod]
theorem tdiv_nat (n k : Nat) : (n : Int).tdiv (k : Int) = ((n / k : Nat) : Int) := by rw [Int.ofNat_tdiv]
/-- a number's bytes -/
def putNum (n : Nat) : List UInt8 := if h : n < 128 then [u8 n] else u8 ((n % 128 + 128 : Nat) : Int) :: putNum (n / 128)
termination_by n
decreasing_by omega
theorem putNum_end {n : Nat} (h : n < 128) : putNum n = [u8 n] := by rw [putNum, dif_pos h]
theorem putNum_step {n : Nat} (h : ¬ n < 128) : putNum n = u8 ((n % 128 + 128 : Nat) : Int) :: putNum (n / 128) := by rw [putNum, dif_neg h]
theorem putNum_len {n : Nat} {k : Nat} (h : n < 128 ^ (k + 1)) : (putNum n).length ≤ k + 1 := by
  induction k generalizing n with
  | zero => rw [putNum_end (by simpa using h)]; simp
  | succ k ih =>
    by_cases h1 : n < 128
    · rw [putNum_end h1]; simp
    · rw [putNum_step h1]
      have : n / 128 < 128 ^ (k + 1) := by
        rw [Nat.div_lt_iff_lt_mul (by omega)]
        rw [Nat.pow_succ] at h
        exact h
      have := ih this
      simp
      omega
theorem putNum_5 {n : Nat} (h : n ≤ 2147483647) : (putNum n).length ≤ 5 := putNum_len (k := 4) (by omega)
def R160_0 : List AR := [⟨(some 2), none, 0, (.mov (.k .nl))⟩]
def R160_1 : List AR := [⟨(some 4), none, 0, (.bslice 0 1 0 [(.int .u8 0)] [])⟩, ⟨(some 3), none, 0, (.mov (.t 4))⟩]
def R160_2 : List AR := [⟨(some 5), none, 0, (.mov (.t 0))⟩, ⟨(some 6), none, 0, (.call false 0 0 52 [(.t 5), (.k (.int .i64 0)), (.k (.int .i64 2147483647))])⟩, ⟨(some 7), none, 0, (.not (.t 6))⟩]
def R160_3 : List AR := [⟨(some 8), none, 0, (.mov (.t 3))⟩, ⟨(some 2), none, 0, (.mov (.t 8))⟩]
def R160_4 : List AR := [⟨(some 9), none, 0, (.mov (.t 0))⟩, ⟨(some 10), none, 0, (.bin .gtr (.t 9) (.k (.int .i64 127)))⟩]
def R160_5 : List AR := [⟨(some 11), none, 0, (.mov (.t 3))⟩, ⟨(some 12), none, 0, (.mov (.t 0))⟩, ⟨(some 13), none, 0, (.bin .rem (.t 12) (.k (.int .i64 128)))⟩, ⟨(some 14), none, 0, (.bin .add (.t 13) (.k (.int .i64 128)))⟩, ⟨(some 15), none, 0, (.cint .u8 (.t 14))⟩, ⟨(some 16), none, 0, (.bslice 0 1 1 [(.int .u8 0)] [(0, (.t 15))])⟩, ⟨(some 17), none, 0, (.app 1 1 1 (.t 11) (.t 16))⟩, ⟨(some 3), none, 0, (.mov (.t 17))⟩]
def R160_6 : List AR := [⟨(some 18), none, 0, (.mov (.t 0))⟩, ⟨(some 19), none, 0, (.bin .quo (.t 18) (.k (.int .i64 128)))⟩, ⟨(some 0), none, 0, (.mov (.t 19))⟩]
def L160_0 : AC := (.seq (.seq (.reg 0 R160_4) (.cond (.t 10) .skip (.exit 0))) (.block 1 (.seq (.reg 2 R160_5) (.reg 0 R160_6))))
def R160_7 : List AR := [⟨(some 20), none, 0, (.mov (.t 3))⟩, ⟨(some 21), none, 0, (.mov (.t 0))⟩, ⟨(some 22), none, 0, (.cint .u8 (.t 21))⟩, ⟨(some 23), none, 0, (.bslice 0 1 1 [(.int .u8 0)] [(0, (.t 22))])⟩, ⟨(some 24), none, 0, (.app 1 1 1 (.t 20) (.t 23))⟩, ⟨(some 2), none, 0, (.mov (.t 24))⟩]
def A160_0 : AC := (.seq (.reg 2 R160_7) .ret)
def A160_1 : AC := (.seq (.block 0 (.loop L160_0)) A160_0)
def A160_2 : AC := (.seq (.seq (.reg 0 R160_2) (.cond (.t 7) (.seq (.reg 0 R160_3) .ret) .skip)) A160_1)
def A160_3 : AC := (.seq (.reg 1 R160_1) A160_2)
def A160 : AC := (.seq (.reg 0 R160_0) A160_3)
def O160 : List AO := [(.mov (.t 2))]
def G160 : Fns := ⟨fun f => false, fun f => 0, false⟩
noncomputable def X160 : Cx := ⟨Tryz.prog, G160, drawD, 25, [0, 2, 3, 7, 10]⟩
theorem c160 : (Tryz.f160.body).bind (compC X160.P X160.Γ X160.D X160.nt) = some A160 := by kernel_rfl
theorem o160 : compRes X160.P Tryz.f160.results.toList = some O160 := by kernel_rfl
theorem v160 : X160.vs = [0, 2, 3, 7, 10] := rfl
theorem p160 : X160.P = Tryz.prog := rfl
def R156_0 : List AR := [⟨(some 2), none, 0, (.mov (.k .nl))⟩]
def R156_1 : List AR := [⟨(some 4), none, 0, (.mov (.t 0))⟩, ⟨(some 5), none, 0, (.call false 0 0 49 [(.t 4), (.k (.int .i64 0)), (.k (.int .i64 2147483647))])⟩, ⟨(some 6), none, 0, (.not (.t 5))⟩]
def R156_2 : List AR := [⟨(some 2), none, 0, (.mov (.k .nl))⟩]
def R156_3 : List AR := [⟨(some 7), none, 0, (.bslice 0 1 0 [(.int .u8 0)] [])⟩, ⟨(some 3), none, 0, (.mov (.t 7))⟩]
def R156_4 : List AR := [⟨(some 8), none, 0, (.mov (.t 0))⟩, ⟨(some 9), none, 0, (.bin .geq (.t 8) (.k (.int .i64 128)))⟩]
def R156_5 : List AR := [⟨(some 10), none, 0, (.mov (.t 3))⟩, ⟨(some 11), none, 0, (.mov (.t 0))⟩, ⟨(some 12), none, 0, (.bin .rem (.t 11) (.k (.int .i64 128)))⟩, ⟨(some 13), none, 0, (.bin .add (.t 12) (.k (.int .i64 128)))⟩, ⟨(some 14), none, 0, (.cint .u8 (.t 13))⟩, ⟨(some 15), none, 0, (.bslice 0 1 1 [(.int .u8 0)] [(0, (.t 14))])⟩, ⟨(some 16), none, 0, (.app 1 1 1 (.t 10) (.t 15))⟩, ⟨(some 3), none, 0, (.mov (.t 16))⟩]
def R156_6 : List AR := [⟨(some 17), none, 0, (.mov (.t 0))⟩, ⟨(some 18), none, 0, (.bin .quo (.t 17) (.k (.int .i64 128)))⟩, ⟨(some 0), none, 0, (.mov (.t 18))⟩]
def L156_0 : AC := (.seq (.seq (.reg 0 R156_4) (.cond (.t 9) .skip (.exit 0))) (.block 1 (.seq (.reg 2 R156_5) (.reg 0 R156_6))))
def R156_7 : List AR := [⟨(some 19), none, 0, (.mov (.t 3))⟩, ⟨(some 20), none, 0, (.mov (.t 0))⟩, ⟨(some 21), none, 0, (.cint .u8 (.t 20))⟩, ⟨(some 22), none, 0, (.bslice 0 1 1 [(.int .u8 0)] [(0, (.t 21))])⟩, ⟨(some 23), none, 0, (.app 1 1 1 (.t 19) (.t 22))⟩, ⟨(some 2), none, 0, (.mov (.t 23))⟩]
def A156_0 : AC := (.seq (.reg 2 R156_7) .ret)
def A156_1 : AC := (.seq (.block 0 (.loop L156_0)) A156_0)
def A156_2 : AC := (.seq (.reg 1 R156_3) A156_1)
def A156_3 : AC := (.seq (.seq (.reg 0 R156_1) (.cond (.t 6) (.seq (.reg 0 R156_2) .ret) .skip)) A156_2)
def A156 : AC := (.seq (.reg 0 R156_0) A156_3)
def O156 : List AO := [(.mov (.t 2))]
def G156 : Fns := ⟨fun f => false, fun f => 0, false⟩
noncomputable def X156 : Cx := ⟨Tryz.prog, G156, drawD, 24, [0, 2, 3, 6, 9]⟩
theorem c156 : (Tryz.f156.body).bind (compC X156.P X156.Γ X156.D X156.nt) = some A156 := by kernel_rfl
theorem o156 : compRes X156.P Tryz.f156.results.toList = some O156 := by kernel_rfl
theorem v156 : X156.vs = [0, 2, 3, 6, 9] := rfl
theorem p156 : X156.P = Tryz.prog := rfl
theorem specPutNum_ok (n : Nat) (hn : n ≤ 2147483647) : FS Tryz.prog 160 [] [.int .i64 (n : Nat)] (.sl 0 1 0 (putNum n).length) [⟨1, rw_ byteC (putNum n)⟩] := by
  refine FS.of (X := X160) (ac := A160) (os := O160) Tryz.func160 (by rfl) (by rfl) (by kernel_rfl) o160 (Nat.le_of_ble_eq_true rfl) ?_
  show AWP X160 A160 (Ends X160.vs O160 0 _ _) [.int .i64 (n : Nat), .tup [], .tup [], .tup [], .tup []] []
  obtain ⟨Q, hQ⟩ : ∃ Q, Q = Ends X160.vs O160 0 (.sl 0 1 0 (putNum n).length) [⟨1, rw_ byteC (putNum n)⟩] := ⟨_, rfl⟩
  rw [← hQ]
  refine awp_sr ?_
  simp only [go_sem, R160_0, v160, p160]
  refine awp_sr ?_
  simp only [go_sem, R160_1, v160, p160]
  refine awp_sr2 ?_
  simp only [go_sem, R160_2, v160, p160]
  refine run_see (l1In_ok _ _ _) false (Views.refl rfl) rfl (fun j hj => by first | omega | ((have hj0 : j = 0 := by omega); subst hj0; first | rfl | (simp only [Nat.add_zero, app_get, app_getk, sapp_get, sapp_getk, Nat.add_assoc, Nat.reduceAdd, List.getElem?_cons_zero, List.getElem?_cons_succ]; done) | simp)) (fun h => by cases h) ?_
  simp only [go_sem, v160, p160]
  refine awp_if' rfl (fun h => absurd (show (n : Int) ≤ 2147483647 by omega) h) ?_
  intro _
  refine awp_skip ?_
  simp only [go_sem]
  have h5 := putNum_5 hn
  obtain ⟨I, hI⟩ : ∃ I : Nat → List V → Store → Prop, I = fun mM L σ => ∃ out k r q τ y2 y7 y10, k = mM ∧ (putNum n = out ++ putNum k ∧ k ≤ n ∧ q = out.length ∧ Last τ r (.live ⟨1, rw_ byteC out⟩)) ∧ L = [.int .i64 (k : Nat), y2, .sl r 1 0 q, y7, y10] ∧ σ = τ := ⟨_, rfl⟩
  first | refine awp_for I (n) ?_ ?_ | refine awp_seq (awp_for I (n) ?_ ?_)
  · rw [hI]
    refine ⟨[], n, _, _, _, _, _, _, rfl, ?_, rfl, rfl⟩
    exact ⟨rfl, Nat.le_refl _, rfl, Last.mk [] _⟩
  intro mM L σ hIn
  rw [hI] at hIn
  obtain ⟨out, k, r, q, τ, y2, y7, y10, rfl, hP, rfl, rfl⟩ := hIn
  obtain ⟨p1, p2, rfl, rest, rfl, rfl⟩ := hP
  refine awp_sr2 ?_
  simp only [go_sem, R160_4, v160, p160]
  refine awp_if rfl ?_ ?_
  · intro h1
    have e1 := putNum_step (n := k) (by omega)
    have hl : out.length + 1 ≤ 5 := by
      have := congrArg List.length p1
      rw [e1] at this
      simp at this
      omega
    refine awp_skip ?_
    simp only [go_sem]
    first | refine awp_block ?_ | refine awp_seq (awp_block ?_)
    refine awp_sr ?_
    simp only [go_sem, R160_5, v160, p160, show ((k : Int).tmod 128) = ((k % 128 : Nat) : Int) from tmod_nat k 128, show IntKind.wrap .i64 (((k % 128 : Nat) : Int) + 128) = ((k % 128 + 128 : Nat) : Int) by rw [wrap_i64 (by omega) (by omega)]; omega, wrap_u8, byte_fold, byte_sing]
    refine ⟨by omega, ?_⟩
    refine awp_reg ?_
    simp only [go_sem, R160_6, v160, p160, show ((k : Int).tdiv 128) = ((k / 128 : Nat) : Int) from tdiv_nat k 128, wrap_i64 (n := ((k / 128 : Nat) : Int)) (by omega) (by omega)]
    refine ⟨k / 128, ?_, ?_⟩
    rotate_left
    rw [hI]
    refine ⟨out ++ [u8 ((k % 128 + 128 : Nat) : Int)], k / 128, _, _, _, _, _, _, rfl, ?_, rfl, rfl⟩
    · exact ⟨by rw [p1, e1]; simp, by omega, by simp, Last.mk2 _ _ _ _⟩
    · omega
  · intro h1
    refine awp_exit ?_
    simp only [go_sem]
    have e1 := putNum_end (n := k) (by omega)
    have hl : out.length + 1 ≤ 5 := by
      have := congrArg List.length p1
      rw [e1] at this
      simp at this
      omega
    refine awp_sr ?_
    simp only [go_sem, R160_7, v160, p160, wrap_u8, byte_fold, byte_sing]
    refine ⟨by omega, ?_⟩
    refine awp_ret ?_
    try simp only [go_sem]
    rw [hQ, p1, e1]
    exact Ends.ownLast (.inl rfl) rfl (Last.mk2 _ _ _ _) (by simp) (bytes_ok _)
theorem implPutNum_ok (n : Nat) (hn : n ≤ 2147483647) : FS Tryz.prog 156 [] [.int .i64 (n : Nat)] (.sl 0 1 0 (putNum n).length) [⟨1, rw_ byteC (putNum n)⟩] := by
  refine FS.of (X := X156) (ac := A156) (os := O156) Tryz.func156 (by rfl) (by rfl) (by kernel_rfl) o156 (Nat.le_of_ble_eq_true rfl) ?_
  show AWP X156 A156 (Ends X156.vs O156 0 _ _) [.int .i64 (n : Nat), .tup [], .tup [], .tup [], .tup []] []
  obtain ⟨Q, hQ⟩ : ∃ Q, Q = Ends X156.vs O156 0 (.sl 0 1 0 (putNum n).length) [⟨1, rw_ byteC (putNum n)⟩] := ⟨_, rfl⟩
  rw [← hQ]
  refine awp_sr ?_
  simp only [go_sem, R156_0, v156, p156]
  refine awp_sr2 ?_
  simp only [go_sem, R156_1, v156, p156]
  refine run_see (within_ok _ _ _) false (Views.refl rfl) rfl (fun j hj => by first | omega | ((have hj0 : j = 0 := by omega); subst hj0; first | rfl | (simp only [Nat.add_zero, app_get, app_getk, sapp_get, sapp_getk, Nat.add_assoc, Nat.reduceAdd, List.getElem?_cons_zero, List.getElem?_cons_succ]; done) | simp)) (fun h => by cases h) ?_
  simp only [go_sem, v156, p156]
  refine awp_if' rfl (fun h => absurd (show (n : Int) ≤ 2147483647 by omega) h) ?_
  intro _
  refine awp_skip ?_
  simp only [go_sem]
  have h5 := putNum_5 hn
  refine awp_sr ?_
  simp only [go_sem, R156_3, v156, p156]
  obtain ⟨I, hI⟩ : ∃ I : Nat → List V → Store → Prop, I = fun mM L σ => ∃ out k r q τ y2 y6 y9, k = mM ∧ (putNum n = out ++ putNum k ∧ k ≤ n ∧ q = out.length ∧ Last τ r (.live ⟨1, rw_ byteC out⟩)) ∧ L = [.int .i64 (k : Nat), y2, .sl r 1 0 q, y6, y9] ∧ σ = τ := ⟨_, rfl⟩
  first | refine awp_for I (n) ?_ ?_ | refine awp_seq (awp_for I (n) ?_ ?_)
  · rw [hI]
    refine ⟨[], n, _, _, _, _, _, _, rfl, ?_, rfl, rfl⟩
    exact ⟨rfl, Nat.le_refl _, rfl, Last.mk [] _⟩
  intro mM L σ hIn
  rw [hI] at hIn
  obtain ⟨out, k, r, q, τ, y2, y6, y9, rfl, hP, rfl, rfl⟩ := hIn
  obtain ⟨p1, p2, rfl, rest, rfl, rfl⟩ := hP
  refine awp_sr2 ?_
  simp only [go_sem, R156_4, v156, p156]
  refine awp_if rfl ?_ ?_
  · intro h1
    have e1 := putNum_step (n := k) (by omega)
    have hl : out.length + 1 ≤ 5 := by
      have := congrArg List.length p1
      rw [e1] at this
      simp at this
      omega
    refine awp_skip ?_
    simp only [go_sem]
    first | refine awp_block ?_ | refine awp_seq (awp_block ?_)
    refine awp_sr ?_
    simp only [go_sem, R156_5, v156, p156, show ((k : Int).tmod 128) = ((k % 128 : Nat) : Int) from tmod_nat k 128, show IntKind.wrap .i64 (((k % 128 : Nat) : Int) + 128) = ((k % 128 + 128 : Nat) : Int) by rw [wrap_i64 (by omega) (by omega)]; omega, wrap_u8, byte_fold, byte_sing]
    refine ⟨by omega, ?_⟩
    refine awp_reg ?_
    simp only [go_sem, R156_6, v156, p156, show ((k : Int).tdiv 128) = ((k / 128 : Nat) : Int) from tdiv_nat k 128, wrap_i64 (n := ((k / 128 : Nat) : Int)) (by omega) (by omega)]
    refine ⟨k / 128, ?_, ?_⟩
    rotate_left
    rw [hI]
    refine ⟨out ++ [u8 ((k % 128 + 128 : Nat) : Int)], k / 128, _, _, _, _, _, _, rfl, ?_, rfl, rfl⟩
    · exact ⟨by rw [p1, e1]; simp, by omega, by simp, Last.mk2 _ _ _ _⟩
    · omega
  · intro h1
    refine awp_exit ?_
    simp only [go_sem]
    have e1 := putNum_end (n := k) (by omega)
    have hl : out.length + 1 ≤ 5 := by
      have := congrArg List.length p1
      rw [e1] at this
      simp at this
      omega
    refine awp_sr ?_
    simp only [go_sem, R156_7, v156, p156, wrap_u8, byte_fold, byte_sing]
    refine ⟨by omega, ?_⟩
    refine awp_ret ?_
    try simp only [go_sem]
    rw [hQ, p1, e1]
    exact Ends.ownLast (.inl rfl) rfl (Last.mk2 _ _ _ _) (by simp) (bytes_ok _)
theorem specPutNum_fz (n : Nat) (hn : n ≤ 2147483647) : FS Tryz.prog 160 [] [.int .i64 (n : Nat)] (.fz 1 (rw_ byteC (putNum n))) [] := (specPutNum_ok n hn).frz (bytes_ok _) (by simp [rw_])
theorem implPutNum_fz (n : Nat) (hn : n ≤ 2147483647) : FS Tryz.prog 156 [] [.int .i64 (n : Nat)] (.fz 1 (rw_ byteC (putNum n))) [] := (implPutNum_ok n hn).frz (bytes_ok _) (by simp [rw_])
end Go.Proofs.YtffigokicddekaaGreat.Abs
/- Rows of bytes joined; the check sum; walked in both texts. No condition. -/
set_option linter.unusedVariables false
set_option linter.unusedSimpArgs false
set_option maxRecDepth 10000
namespace Go.Proofs.YtffigokicddekaaGreat.Abs
open Go Go.Proofs
def R155_0 : List AR := [⟨(some 2), none, 0, (.mov (.k .nl))⟩]
def R155_1 : List AR := [⟨(some 6), none, 0, (.bslice 0 1 0 [(.int .u8 0)] [])⟩, ⟨(some 3), none, 0, (.mov (.t 6))⟩]
def R155_2 : List AR := [⟨(some 7), none, 0, (.mov (.t 0))⟩, ⟨(some 8), none, 0, (.len (.t 7))⟩, ⟨(some 9), none, 0, (.mov (.k (.int .i64 0)))⟩]
def R155_3 : List AR := [⟨(some 10), none, 0, (.bin .lss (.t 9) (.t 8))⟩]
def R155_4 : List AR := [⟨(some 11), none, 0, (.iaddr 1 (.t 7) (.t 9))⟩, ⟨(some 12), none, 0, (.load 1 false (.t 11))⟩, ⟨(some 5), none, 0, (.mov (.t 12))⟩]
def R155_5 : List AR := [⟨(some 13), none, 0, (.mov (.t 3))⟩, ⟨(some 14), none, 0, (.mov (.t 5))⟩, ⟨(some 15), none, 0, (.app 0 1 1 (.t 13) (.t 14))⟩, ⟨(some 3), none, 0, (.mov (.t 15))⟩]
def R155_6 : List AR := [⟨(some 16), none, 0, (.bin .add (.t 9) (.k (.int .i64 1)))⟩, ⟨(some 9), none, 0, (.mov (.t 16))⟩]
def A155_0 : AC := (.seq (.block 1 (.seq (.reg 0 R155_4) (.reg 1 R155_5))) (.reg 0 R155_6))
def A155_1 : AC := (.seq (.cond (.t 10) .skip (.exit 0)) A155_0)
def L155_0 : AC := (.seq (.reg 0 R155_3) A155_1)
def R155_7 : List AR := [⟨(some 17), none, 0, (.mov (.t 3))⟩, ⟨(some 2), none, 0, (.mov (.t 17))⟩]
def A155_2 : AC := (.seq (.reg 0 R155_7) .ret)
def A155_3 : AC := (.seq (.seq (.reg 0 R155_2) (.block 0 (.loop L155_0))) A155_2)
def A155_4 : AC := (.seq (.reg 1 R155_1) A155_3)
def A155 : AC := (.seq (.reg 0 R155_0) A155_4)
def O155 : List AO := [(.mov (.t 2))]
def G155 : Fns := ⟨fun f => false, fun f => 0, false⟩
noncomputable def X155 : Cx := ⟨Tryz.prog, G155, drawD, 18, [0, 2, 3, 5, 7, 8, 9, 10]⟩
theorem c155 : (Tryz.f155.body).bind (compC X155.P X155.Γ X155.D X155.nt) = some A155 := by kernel_rfl
theorem o155 : compRes X155.P Tryz.f155.results.toList = some O155 := by kernel_rfl
theorem v155 : X155.vs = [0, 2, 3, 5, 7, 8, 9, 10] := rfl
theorem p155 : X155.P = Tryz.prog := rfl
def R157_0 : List AR := [⟨(some 2), none, 0, (.mov (.k (.int .i64 0)))⟩]
def R157_1 : List AR := [⟨(some 3), none, 0, (.mov (.k (.int .i64 4294967295)))⟩]
def R157_2 : List AR := [⟨(some 4), none, 0, (.mov (.k (.int .i64 0)))⟩]
def R157_3 : List AR := [⟨(some 7), none, 0, (.mov (.t 4))⟩, ⟨(some 8), none, 0, (.mov (.t 0))⟩, ⟨(some 9), none, 0, (.len (.t 8))⟩, ⟨(some 10), none, 0, (.bin .lss (.t 7) (.t 9))⟩]
def R157_4 : List AR := [⟨(some 13), none, 0, (.mov (.t 3))⟩, ⟨(some 14), none, 0, (.mov (.t 0))⟩, ⟨(some 15), none, 0, (.mov (.t 4))⟩, ⟨(some 16), none, 0, (.iaddr 1 (.t 14) (.t 15))⟩, ⟨(some 17), none, 0, (.load 1 false (.t 16))⟩, ⟨(some 18), none, 0, (.cint .i64 (.t 17))⟩, ⟨(some 19), none, 0, (.bin .xor (.t 13) (.t 18))⟩, ⟨(some 3), none, 0, (.mov (.t 19))⟩]
def R157_5 : List AR := [⟨(some 5), none, 0, (.mov (.k (.int .i64 0)))⟩]
def R157_6 : List AR := [⟨(some 20), none, 0, (.mov (.t 5))⟩, ⟨(some 21), none, 0, (.bin .lss (.t 20) (.k (.int .i64 8)))⟩]
def R157_7 : List AR := [⟨(some 24), none, 0, (.mov (.t 3))⟩, ⟨(some 25), none, 0, (.bin .rem (.t 24) (.k (.int .i64 2)))⟩, ⟨(some 26), none, 0, (.bin .eql (.t 25) (.k (.int .i64 1)))⟩, ⟨(some 6), none, 0, (.mov (.t 26))⟩]
def R157_8 : List AR := [⟨(some 27), none, 0, (.mov (.t 3))⟩, ⟨(some 28), none, 0, (.bin .quo (.t 27) (.k (.int .i64 2)))⟩, ⟨(some 3), none, 0, (.mov (.t 28))⟩]
def R157_9 : List AR := [⟨(some 29), none, 0, (.mov (.t 6))⟩]
def R157_10 : List AR := [⟨(some 30), none, 0, (.mov (.t 3))⟩, ⟨(some 31), none, 0, (.bin .xor (.t 30) (.k (.int .i64 3988292384)))⟩, ⟨(some 3), none, 0, (.mov (.t 31))⟩]
def A157_0 : AC := (.seq (.reg 0 R157_9) (.cond (.t 29) (.reg 0 R157_10) .skip))
def A157_1 : AC := (.seq (.reg 0 R157_8) A157_0)
def R157_11 : List AR := [⟨(some 22), none, 0, (.mov (.t 5))⟩, ⟨(some 23), none, 0, (.bin .add (.t 22) (.k (.int .i64 1)))⟩, ⟨(some 5), none, 0, (.mov (.t 23))⟩]
def A157_2 : AC := (.seq (.block 3 (.seq (.reg 0 R157_7) A157_1)) (.reg 0 R157_11))
def L157_0 : AC := (.seq (.seq (.reg 0 R157_6) (.cond (.t 21) .skip (.exit 2))) A157_2)
def A157_3 : AC := (.seq (.reg 0 R157_5) (.block 2 (.loop L157_0)))
def R157_12 : List AR := [⟨(some 11), none, 0, (.mov (.t 4))⟩, ⟨(some 12), none, 0, (.bin .add (.t 11) (.k (.int .i64 1)))⟩, ⟨(some 4), none, 0, (.mov (.t 12))⟩]
def A157_4 : AC := (.seq (.block 1 (.seq (.reg 0 R157_4) A157_3)) (.reg 0 R157_12))
def L157_1 : AC := (.seq (.seq (.reg 0 R157_3) (.cond (.t 10) .skip (.exit 0))) A157_4)
def R157_13 : List AR := [⟨(some 32), none, 0, (.mov (.t 3))⟩, ⟨(some 33), none, 0, (.bin .xor (.t 32) (.k (.int .i64 4294967295)))⟩, ⟨(some 2), none, 0, (.mov (.t 33))⟩]
def A157_5 : AC := (.seq (.reg 0 R157_13) .ret)
def A157_6 : AC := (.seq (.seq (.reg 0 R157_2) (.block 0 (.loop L157_1))) A157_5)
def A157_7 : AC := (.seq (.reg 0 R157_1) A157_6)
def A157 : AC := (.seq (.reg 0 R157_0) A157_7)
def O157 : List AO := [(.mov (.t 2))]
def G157 : Fns := ⟨fun f => false, fun f => 0, false⟩
noncomputable def X157 : Cx := ⟨Tryz.prog, G157, drawD, 34, [0, 2, 3, 4, 5, 6, 10, 21, 29]⟩
theorem c157 : (Tryz.f157.body).bind (compC X157.P X157.Γ X157.D X157.nt) = some A157 := by kernel_rfl
theorem o157 : compRes X157.P Tryz.f157.results.toList = some O157 := by kernel_rfl
theorem v157 : X157.vs = [0, 2, 3, 4, 5, 6, 10, 21, 29] := rfl
theorem p157 : X157.P = Tryz.prog := rfl
def R152_0 : List AR := [⟨(some 2), none, 0, (.mov (.k (.int .i64 0)))⟩]
def R152_1 : List AR := [⟨(some 3), none, 0, (.mov (.k (.int .i64 4294967295)))⟩]
def R152_2 : List AR := [⟨(some 7), none, 0, (.mov (.t 0))⟩, ⟨(some 8), none, 0, (.len (.t 7))⟩, ⟨(some 9), none, 0, (.mov (.k (.int .i64 0)))⟩]
def R152_3 : List AR := [⟨(some 10), none, 0, (.bin .lss (.t 9) (.t 8))⟩]
def R152_4 : List AR := [⟨(some 11), none, 0, (.iaddr 1 (.t 7) (.t 9))⟩, ⟨(some 12), none, 0, (.load 1 false (.t 11))⟩, ⟨(some 5), none, 0, (.mov (.t 12))⟩]
def R152_5 : List AR := [⟨(some 13), none, 0, (.mov (.t 3))⟩, ⟨(some 14), none, 0, (.mov (.t 5))⟩, ⟨(some 15), none, 0, (.cint .i64 (.t 14))⟩, ⟨(some 16), none, 0, (.bin .xor (.t 13) (.t 15))⟩, ⟨(some 3), none, 0, (.mov (.t 16))⟩]
def R152_6 : List AR := [⟨(some 17), none, 0, (.mov (.k (.int .i64 0)))⟩]
def R152_7 : List AR := [⟨(some 18), none, 0, (.bin .lss (.t 17) (.k (.int .i64 8)))⟩]
def R152_8 : List AR := [⟨(some 19), none, 0, (.mov (.t 3))⟩, ⟨(some 20), none, 0, (.bin .rem (.t 19) (.k (.int .i64 2)))⟩, ⟨(some 21), none, 0, (.bin .eql (.t 20) (.k (.int .i64 1)))⟩, ⟨(some 6), none, 0, (.mov (.t 21))⟩]
def R152_9 : List AR := [⟨(some 22), none, 0, (.mov (.t 3))⟩, ⟨(some 23), none, 0, (.bin .quo (.t 22) (.k (.int .i64 2)))⟩, ⟨(some 3), none, 0, (.mov (.t 23))⟩]
def R152_10 : List AR := [⟨(some 24), none, 0, (.mov (.t 6))⟩]
def R152_11 : List AR := [⟨(some 25), none, 0, (.mov (.t 3))⟩, ⟨(some 26), none, 0, (.bin .xor (.t 25) (.k (.int .i64 3988292384)))⟩, ⟨(some 3), none, 0, (.mov (.t 26))⟩]
def A152_0 : AC := (.seq (.reg 0 R152_10) (.cond (.t 24) (.reg 0 R152_11) .skip))
def A152_1 : AC := (.seq (.reg 0 R152_9) A152_0)
def R152_12 : List AR := [⟨(some 27), none, 0, (.bin .add (.t 17) (.k (.int .i64 1)))⟩, ⟨(some 17), none, 0, (.mov (.t 27))⟩]
def A152_2 : AC := (.seq (.block 3 (.seq (.reg 0 R152_8) A152_1)) (.reg 0 R152_12))
def A152_3 : AC := (.seq (.cond (.t 18) .skip (.exit 2)) A152_2)
def L152_0 : AC := (.seq (.reg 0 R152_7) A152_3)
def A152_4 : AC := (.seq (.reg 0 R152_6) (.block 2 (.loop L152_0)))
def A152_5 : AC := (.seq (.reg 0 R152_5) A152_4)
def R152_13 : List AR := [⟨(some 28), none, 0, (.bin .add (.t 9) (.k (.int .i64 1)))⟩, ⟨(some 9), none, 0, (.mov (.t 28))⟩]
def A152_6 : AC := (.seq (.block 1 (.seq (.reg 0 R152_4) A152_5)) (.reg 0 R152_13))
def A152_7 : AC := (.seq (.cond (.t 10) .skip (.exit 0)) A152_6)
def L152_1 : AC := (.seq (.reg 0 R152_3) A152_7)
def R152_14 : List AR := [⟨(some 29), none, 0, (.mov (.t 3))⟩, ⟨(some 30), none, 0, (.bin .xor (.t 29) (.k (.int .i64 4294967295)))⟩, ⟨(some 2), none, 0, (.mov (.t 30))⟩]
def A152_8 : AC := (.seq (.reg 0 R152_14) .ret)
def A152_9 : AC := (.seq (.seq (.reg 0 R152_2) (.block 0 (.loop L152_1))) A152_8)
def A152_10 : AC := (.seq (.reg 0 R152_1) A152_9)
def A152 : AC := (.seq (.reg 0 R152_0) A152_10)
def O152 : List AO := [(.mov (.t 2))]
def G152 : Fns := ⟨fun f => false, fun f => 0, false⟩
noncomputable def X152 : Cx := ⟨Tryz.prog, G152, drawD, 31, [0, 2, 3, 5, 6, 7, 8, 9, 10, 17, 18, 24]⟩
theorem c152 : (Tryz.f152.body).bind (compC X152.P X152.Γ X152.D X152.nt) = some A152 := by kernel_rfl
theorem o152 : compRes X152.P Tryz.f152.results.toList = some O152 := by kernel_rfl
theorem v152 : X152.vs = [0, 2, 3, 5, 6, 7, 8, 9, 10, 17, 18, 24] := rfl
theorem p152 : X152.P = Tryz.prog := rfl
theorem fold_take1 {α β : Type} (f : β → α → β) (b : β) {xs : List α} {i : Nat} (h : i < xs.length) : (xs.take (i + 1)).foldl f b = f ((xs.take i).foldl f b) xs[i] := by
  rw [List.take_succ_eq_append_getElem h, List.foldl_append]; rfl
def rowB (bs : List UInt8) : List V := [.fz 1 (rw_ byteC bs)]
theorem fz_fold (bs : List UInt8) : [V.fz 1 (rw_ byteC bs)] = rowB bs := rfl
theorem flat_take {xs : List (List UInt8)} {i : Nat} (h : i < xs.length) : (xs.take (i + 1)).flatten = (xs.take i).flatten ++ xs[i] := by
  rw [List.take_succ_eq_append_getElem h, List.flatten_append]; simp
theorem flat_take_le (xs : List (List UInt8)) (i : Nat) : (xs.take i).flatten.length ≤ xs.flatten.length := by
  conv => rhs; rw [← List.take_append_drop i xs, List.flatten_append, List.length_append]
  omega
abbrev lim : Nat := 10000000000000
theorem joined_ok (xs : List (List UInt8)) (h : xs.flatten.length ≤ lim) (h0 : xs.length ≤ 1000000000) : FS Tryz.prog 155 [] [.fz 1 (rw_ rowB xs)] (.sl 0 1 0 xs.flatten.length) [⟨1, rw_ byteC xs.flatten⟩] := by
  refine FS.of (X := X155) (ac := A155) (os := O155) Tryz.func155 (by rfl) (by rfl) (by kernel_rfl) o155 (Nat.le_of_ble_eq_true rfl) ?_
  show AWP X155 A155 (Ends X155.vs O155 0 _ _) [.fz 1 (rw_ rowB xs), .tup [], .tup [], .tup [], .tup [], .tup [], .tup [], .tup []] []
  obtain ⟨Q, hQ⟩ : ∃ Q, Q = Ends X155.vs O155 0 (.sl 0 1 0 xs.flatten.length) [⟨1, rw_ byteC xs.flatten⟩] := ⟨_, rfl⟩
  rw [← hQ]
  have h : xs.flatten.length ≤ 10000000000000 := h
  refine awp_sr ?_
  simp only [go_sem, R155_0, v155, p155]
  refine awp_sr ?_
  simp only [go_sem, R155_1, v155, p155]
  refine awp_sr2 ?_
  simp only [go_sem, R155_2, v155, p155]
  obtain ⟨I, hI⟩ : ∃ I : Nat → List V → Store → Prop, I = fun mM L σ => ∃ i r q τ y0 y2 y5 y10, xs.length - i = mM ∧ (i ≤ xs.length ∧ q = (xs.take i).flatten.length ∧ Last τ r (.live ⟨1, rw_ byteC (xs.take i).flatten⟩)) ∧ L = [y0, y2, .sl r 1 0 q, y5, .fz 1 (rw_ rowB xs), .int .i64 (xs.length : Nat), .int .i64 (i : Nat), y10] ∧ σ = τ := ⟨_, rfl⟩
  first | refine awp_for I (xs.length) ?_ ?_ | refine awp_seq (awp_for I (xs.length) ?_ ?_)
  · rw [hI]
    refine ⟨0, _, _, _, _, _, _, _, rfl, ?_, rfl, rfl⟩
    exact ⟨Nat.zero_le _, rfl, Last.mk [] _⟩
  intro mM L σ hIn
  rw [hI] at hIn
  obtain ⟨i, r, q, τ, y0, y2, y5, y10, rfl, hP, rfl, rfl⟩ := hIn
  obtain ⟨hi, rfl, rest, rfl, rfl⟩ := hP
  refine awp_sr ?_
  simp only [go_sem, R155_3, v155, p155]
  refine awp_seq ?_
  refine awp_if rfl ?_ ?_
  · intro h1
    have h1 : i < xs.length := by omega
    have e1 := flat_take h1
    have e2 := flat_take_le xs (i + 1)
    have e3 := congrArg List.length e1
    rw [List.length_append] at e3
    refine awp_skip ?_
    simp only [go_sem]
    first | refine awp_block ?_ | refine awp_seq (awp_block ?_)
    refine awp_sr ?_
    simp only [go_sem, R155_4, v155, p155, rw_at _ h1, rowB]
    refine awp_reg ?_
    simp only [go_sem, R155_5, v155, p155]
    refine ⟨by omega, ?_⟩
    refine awp_reg ?_
    simp only [go_sem, R155_6, v155, p155, wrap_succ (i := i) (by omega)]
    refine ⟨xs.length - (i + 1), ?_, ?_⟩
    rotate_left
    rw [hI]
    refine ⟨i + 1, _, _, _, _, _, _, _, rfl, ?_, rfl, rfl⟩
    · rw [e1]; exact ⟨by omega, by simp, Last.mk1 _ _ _⟩
    · omega
  · intro h1
    refine awp_exit ?_
    simp only [go_sem]
    have : i = xs.length := by omega
    subst this
    rw [List.take_length]
    refine awp_sr ?_
    simp only [go_sem, R155_7, v155, p155]
    refine awp_ret ?_
    try simp only [go_sem]
    rw [hQ]
    exact Ends.ownLast (.inl rfl) rfl (Last.mk _ _) (by simp) (bytes_ok _)
theorem joined_fz (xs : List (List UInt8)) (h : xs.flatten.length ≤ lim) (h0 : xs.length ≤ 1000000000) : FS Tryz.prog 155 [] [.fz 1 (rw_ rowB xs)] (.fz 1 (rw_ byteC xs.flatten)) [] := (joined_ok xs h h0).frz (bytes_ok _) (rw_len _ _).symm
/-! the check sum -/
theorem xor_lt {a b : Nat} (ha : a < 4294967296) (hb : b < 4294967296) : a ^^^ b < 4294967296 := Nat.xor_lt_two_pow (n := 32) ha hb
theorem xor_nat {a b : Nat} (ha : a < 4294967296) (hb : b < 4294967296) : xorI .i64 (a : Int) (b : Int) = ((a ^^^ b : Nat) : Int) := by
  have e : (BitVec.ofInt (IntKind.bits .i64) (a : Int) ^^^ BitVec.ofInt (IntKind.bits .i64) (b : Int)).toNat = a ^^^ b := by
    rw [BitVec.toNat_xor, BitVec.ofInt_natCast, BitVec.ofInt_natCast, BitVec.toNat_ofNat, BitVec.toNat_ofNat]
    rw [Nat.mod_eq_of_lt, Nat.mod_eq_of_lt]
    · simp only [IntKind.bits]; omega
    · simp only [IntKind.bits]; omega
  unfold xorI
  rw [e]
  have := xor_lt ha hb
  exact wrap_i64 (by omega) (by omega)
def crcStep (x : Nat) : Nat := if x % 2 = 1 then x / 2 ^^^ 3988292384 else x / 2
def crcIter : Nat → Nat → Nat
  | 0, x => x
  | k + 1, x => crcStep (crcIter k x)
def crcByte (x : Nat) (b : UInt8) : Nat := crcIter 8 (x ^^^ b.toNat)
def crc (bs : List UInt8) : Nat := bs.foldl crcByte 4294967295 ^^^ 4294967295
theorem crcStep_lt {x : Nat} (h : x < 4294967296) : crcStep x < 4294967296 := by
  unfold crcStep
  split
  · exact xor_lt (by omega) (by omega)
  · omega
theorem crcIter_lt {x : Nat} (h : x < 4294967296) : ∀ k, crcIter k x < 4294967296
  | 0 => h
  | k + 1 => crcStep_lt (crcIter_lt h k)
theorem byte_lt (b : UInt8) : b.toNat < 4294967296 := by have := b.toNat_lt; omega
theorem crcByte_lt {x : Nat} (h : x < 4294967296) (b : UInt8) : crcByte x b < 4294967296 := crcIter_lt (xor_lt h (byte_lt b)) 8
theorem crcFold_lt : ∀ (bs : List UInt8) {x : Nat}, x < 4294967296 → bs.foldl crcByte x < 4294967296
  | [], x, h => h
  | b :: bs, x, h => crcFold_lt bs (crcByte_lt h b)
theorem crc_lt (bs : List UInt8) : crc bs < 4294967296 := xor_lt (crcFold_lt bs (by omega)) (by omega)
theorem specCrc_ok (bs : List UInt8) (h : bs.length ≤ lim) : FS Tryz.prog 157 [] [.fz 1 (rw_ byteC bs)] (.int .i64 (crc bs : Nat)) [] := by
  refine FS.of (X := X157) (ac := A157) (os := O157) Tryz.func157 (by rfl) (by rfl) (by kernel_rfl) o157 (Nat.le_of_ble_eq_true rfl) ?_
  show AWP X157 A157 (Ends X157.vs O157 0 _ _) [.fz 1 (rw_ byteC bs), .tup [], .tup [], .tup [], .tup [], .tup [], .tup [], .tup [], .tup []] []
  obtain ⟨Q, hQ⟩ : ∃ Q, Q = Ends X157.vs O157 0 (.int .i64 (crc bs : Nat)) [] := ⟨_, rfl⟩
  rw [← hQ]
  have h : bs.length ≤ 10000000000000 := h
  have fin : ∀ L σ vV, resVs O157 (look X157.vs L) σ = some [vV] → vV = (.int .i64 (crc bs : Nat)) → Q .ret L σ := by
    intro L σ vV h1 h2
    rw [hQ]
    exact Ends.is (.inl rfl) h1 (by simp only [packV, h2]) rfl
  refine awp_sr ?_
  simp only [go_sem, R157_0, v157, p157]
  refine awp_sr ?_
  simp only [go_sem, R157_1, v157, p157]
  refine awp_sr2 ?_
  simp only [go_sem, R157_2, v157, p157]
  obtain ⟨I, hI⟩ : ∃ I : Nat → List V → Store → Prop, I = fun mM L σ => ∃ i y2 y5 y6 y10 y21 y29, mM = bs.length - i ∧ i ≤ bs.length ∧ (True) ∧ L = [.fz 1 (rw_ byteC bs), y2, .int .i64 (((bs.take i).foldl crcByte 4294967295 : Nat) : Int), .int .i64 (i : Nat), y5, y6, y10, y21, y29] ∧ σ = [] := ⟨_, rfl⟩
  first | refine awp_for I bs.length ?_ ?_ | refine awp_seq (awp_for I bs.length ?_ ?_)
  · rw [hI]; refine ⟨0, _, _, _, _, _, _, rfl, Nat.zero_le _, ?_, rfl, rfl⟩
    trivial
  intro mM L σ hIn
  rw [hI] at hIn
  obtain ⟨i, y2, y5, y6, y10, y21, y29, rfl, hi, hP, rfl, rfl⟩ := hIn
  refine awp_sr2 ?_
  simp only [go_sem, R157_3, v157, p157]
  refine awp_if rfl ?_ ?_
  · intro h1
    have h1 : i < bs.length := by omega
    have hx := crcFold_lt (bs.take i) (x := 4294967295) (by omega)
    have e1 := fold_take1 crcByte 4294967295 h1
    generalize (bs.take i).foldl crcByte 4294967295 = x at hx e1
    refine awp_skip ?_
    simp only [go_sem]
    refine awp_seq (awp_block ?_)
    refine awp_sr ?_
    simp only [go_sem, R157_4, v157, p157, rw_at _ h1, byteC, wrap_i64 (n := (bs[i].toNat : Int)) (by omega) (by have := byte_lt bs[i]; omega), xor_nat hx (byte_lt bs[i])]
    refine awp_sr ?_
    simp only [go_sem, R157_5, v157, p157]
    obtain ⟨J, hJ⟩ : ∃ J : Nat → List V → Store → Prop, J = fun mM L σ => ∃ k y2 y6 y10 y21 y29, 8 - k = mM ∧ (k ≤ 8) ∧ L = [.fz 1 (rw_ byteC bs), y2, .int .i64 ((crcIter k (x ^^^ bs[i].toNat) : Nat) : Int), .int .i64 (i : Nat), .int .i64 (k : Nat), y6, y10, y21, y29] ∧ σ = [] := ⟨_, rfl⟩
    first | refine awp_for J (8) ?_ ?_ | refine awp_seq (awp_for J (8) ?_ ?_)
    · rw [hJ]
      refine ⟨0, _, _, _, _, _, rfl, ?_, rfl, rfl⟩
      omega
    intro mM L σ hIn
    rw [hJ] at hIn
    obtain ⟨k, y2, y6, y10, y21, y29, rfl, hP, rfl, rfl⟩ := hIn
    have hy := crcIter_lt (xor_lt hx (byte_lt bs[i])) k
    refine awp_sr2 ?_
    simp only [go_sem, R157_6, v157, p157]
    refine awp_if rfl ?_ ?_
    · intro h2
      generalize hy0 : crcIter k (x ^^^ bs[i].toNat) = y at hy
      refine awp_skip ?_
      simp only [go_sem]
      first | refine awp_block ?_ | refine awp_seq (awp_block ?_)
      refine awp_sr ?_
      simp only [go_sem, R157_7, v157, p157, show ((y : Int).tmod 2) = ((y % 2 : Nat) : Int) from tmod_nat y 2]
      refine awp_sr ?_
      simp only [go_sem, R157_8, v157, p157, show ((y : Int).tdiv 2) = ((y / 2 : Nat) : Int) from tdiv_nat y 2, wrap_i64 (n := ((y / 2 : Nat) : Int)) (by omega) (by omega)]
      refine awp_sr ?_
      simp only [go_sem, R157_9, v157, p157]
      obtain ⟨K1, hK1⟩ : ∃ K : List V → Store → Prop, K = fun L σ => ∃ y2 y6 y10 y21 y29, L = [.fz 1 (rw_ byteC bs), y2, .int .i64 ((crcStep y : Nat) : Int), .int .i64 (i : Nat), .int .i64 (k : Nat), y6, y10, y21, y29] ∧ σ = [] ∧ True := ⟨_, rfl⟩
      refine awp_K K1 ?_ ?_
      · refine awp_if rfl ?_ ?_
        · intro h3
          refine awp_reg ?_
          simp only [go_sem, R157_10, v157, p157, show xorI .i64 ((y / 2 : Nat) : Int) 3988292384 = ((y / 2 ^^^ 3988292384 : Nat) : Int) from xor_nat (a := y / 2) (b := 3988292384) (by omega) (by omega)]
          rw [show y / 2 ^^^ 3988292384 = crcStep y by unfold crcStep; rw [if_pos (by omega)]]
          rw [hK1]
          refine ⟨_, _, _, _, _, rfl, rfl, ?_⟩
          trivial
        · intro h3
          refine awp_skip ?_
          simp only [go_sem]
          rw [show y / 2 = crcStep y by unfold crcStep; rw [if_neg (by omega)]]
          rw [hK1]
          refine ⟨_, _, _, _, _, rfl, rfl, ?_⟩
          trivial
      · intro L σ hq
        rw [hK1] at hq
        obtain ⟨y2, y6, y10, y21, y29, rfl, rfl, hq⟩ := hq
        simp only [go_sem, v157, p157]
        refine awp_reg ?_
        simp only [go_sem, R157_11, v157, p157, wrap_succ (i := k) (by omega)]
        rw [show crcStep y = crcIter (k + 1) (x ^^^ bs[i].toNat) by rw [← hy0]; rfl]
        refine ⟨8 - (k + 1), ?_, ?_⟩
        rotate_left
        rw [hJ]
        refine ⟨k + 1, _, _, _, _, _, rfl, ?_, rfl, rfl⟩
        · omega
        · omega
    · intro h2
      have : k = 8 := by omega
      subst this
      refine awp_exit ?_
      simp only [go_sem]
      refine awp_reg ?_
      simp only [go_sem, R157_12, v157, p157, wrap_succ (i := i) (by omega)]
      rw [show crcIter 8 (x ^^^ bs[i].toNat) = (bs.take (i + 1)).foldl crcByte 4294967295 from e1.symm]
      refine ⟨bs.length - (i + 1), by omega, ?_⟩
      rw [hI]
      refine ⟨i + 1, _, _, _, _, _, _, rfl, by omega, ?_, rfl, rfl⟩
      trivial
  · intro h1
    refine awp_exit ?_
    simp only [go_sem]
    have : i = bs.length := by omega
    subst this
    have hx := crcFold_lt bs (x := 4294967295) (by omega)
    rw [List.take_length]
    refine awp_sr ?_
    simp only [go_sem, R157_13, v157, p157, show xorI .i64 ((bs.foldl crcByte 4294967295 : Nat) : Int) 4294967295 = ((crc bs : Nat) : Int) from xor_nat (b := 4294967295) hx (by omega)]
    refine awp_ret ?_
    try simp only [go_sem]
    exact fin _ _ _ rfl rfl
theorem implCrc_ok (bs : List UInt8) (h : bs.length ≤ lim) : FS Tryz.prog 152 [] [.fz 1 (rw_ byteC bs)] (.int .i64 (crc bs : Nat)) [] := by
  refine FS.of (X := X152) (ac := A152) (os := O152) Tryz.func152 (by rfl) (by rfl) (by kernel_rfl) o152 (Nat.le_of_ble_eq_true rfl) ?_
  show AWP X152 A152 (Ends X152.vs O152 0 _ _) [.fz 1 (rw_ byteC bs), .tup [], .tup [], .tup [], .tup [], .tup [], .tup [], .tup [], .tup [], .tup [], .tup [], .tup []] []
  obtain ⟨Q, hQ⟩ : ∃ Q, Q = Ends X152.vs O152 0 (.int .i64 (crc bs : Nat)) [] := ⟨_, rfl⟩
  rw [← hQ]
  have h : bs.length ≤ 10000000000000 := h
  have fin : ∀ L σ vV, resVs O152 (look X152.vs L) σ = some [vV] → vV = (.int .i64 (crc bs : Nat)) → Q .ret L σ := by
    intro L σ vV h1 h2
    rw [hQ]
    exact Ends.is (.inl rfl) h1 (by simp only [packV, h2]) rfl
  refine awp_sr ?_
  simp only [go_sem, R152_0, v152, p152]
  refine awp_sr ?_
  simp only [go_sem, R152_1, v152, p152]
  refine awp_sr2 ?_
  simp only [go_sem, R152_2, v152, p152]
  obtain ⟨I, hI⟩ : ∃ I : Nat → List V → Store → Prop, I = fun mM L σ => ∃ i y0 y2 y5 y6 y10 y17 y18 y24, mM = bs.length - i ∧ i ≤ bs.length ∧ (True) ∧ L = [y0, y2, .int .i64 (((bs.take i).foldl crcByte 4294967295 : Nat) : Int), y5, y6, .fz 1 (rw_ byteC bs), .int .i64 (bs.length : Nat), .int .i64 (i : Nat), y10, y17, y18, y24] ∧ σ = [] := ⟨_, rfl⟩
  first | refine awp_for I bs.length ?_ ?_ | refine awp_seq (awp_for I bs.length ?_ ?_)
  · rw [hI]; refine ⟨0, _, _, _, _, _, _, _, _, rfl, Nat.zero_le _, ?_, rfl, rfl⟩
    trivial
  intro mM L σ hIn
  rw [hI] at hIn
  obtain ⟨i, y0, y2, y5, y6, y10, y17, y18, y24, rfl, hi, hP, rfl, rfl⟩ := hIn
  refine awp_sr ?_
  simp only [go_sem, R152_3, v152, p152]
  refine awp_seq ?_
  refine awp_if rfl ?_ ?_
  · intro h1
    have h1 : i < bs.length := by omega
    have hx := crcFold_lt (bs.take i) (x := 4294967295) (by omega)
    have e1 := fold_take1 crcByte 4294967295 h1
    generalize (bs.take i).foldl crcByte 4294967295 = x at hx e1
    refine awp_skip ?_
    simp only [go_sem]
    refine awp_seq (awp_block ?_)
    refine awp_sr ?_
    simp only [go_sem, R152_4, v152, p152, rw_at _ h1, byteC]
    refine awp_sr ?_
    simp only [go_sem, R152_5, v152, p152, wrap_i64 (n := (bs[i].toNat : Int)) (by omega) (by have := byte_lt bs[i]; omega), xor_nat hx (byte_lt bs[i])]
    refine awp_sr ?_
    simp only [go_sem, R152_6, v152, p152]
    obtain ⟨J, hJ⟩ : ∃ J : Nat → List V → Store → Prop, J = fun mM L σ => ∃ k y0 y2 y5 y6 y10 y18 y24, 8 - k = mM ∧ (k ≤ 8) ∧ L = [y0, y2, .int .i64 ((crcIter k (x ^^^ bs[i].toNat) : Nat) : Int), y5, y6, .fz 1 (rw_ byteC bs), .int .i64 (bs.length : Nat), .int .i64 (i : Nat), y10, .int .i64 (k : Nat), y18, y24] ∧ σ = [] := ⟨_, rfl⟩
    first | refine awp_for J (8) ?_ ?_ | refine awp_seq (awp_for J (8) ?_ ?_)
    · rw [hJ]
      refine ⟨0, _, _, _, _, _, _, _, rfl, ?_, rfl, rfl⟩
      omega
    intro mM L σ hIn
    rw [hJ] at hIn
    obtain ⟨k, y0, y2, y5, y6, y10, y18, y24, rfl, hP, rfl, rfl⟩ := hIn
    have hy := crcIter_lt (xor_lt hx (byte_lt bs[i])) k
    refine awp_sr ?_
    simp only [go_sem, R152_7, v152, p152]
    refine awp_seq ?_
    refine awp_if rfl ?_ ?_
    · intro h2
      generalize hy0 : crcIter k (x ^^^ bs[i].toNat) = y at hy
      refine awp_skip ?_
      simp only [go_sem]
      first | refine awp_block ?_ | refine awp_seq (awp_block ?_)
      refine awp_sr ?_
      simp only [go_sem, R152_8, v152, p152, show ((y : Int).tmod 2) = ((y % 2 : Nat) : Int) from tmod_nat y 2]
      refine awp_sr ?_
      simp only [go_sem, R152_9, v152, p152, show ((y : Int).tdiv 2) = ((y / 2 : Nat) : Int) from tdiv_nat y 2, wrap_i64 (n := ((y / 2 : Nat) : Int)) (by omega) (by omega)]
      refine awp_sr ?_
      simp only [go_sem, R152_10, v152, p152]
      obtain ⟨K2, hK2⟩ : ∃ K : List V → Store → Prop, K = fun L σ => ∃ y0 y2 y5 y6 y10 y18 y24, L = [y0, y2, .int .i64 ((crcStep y : Nat) : Int), y5, y6, .fz 1 (rw_ byteC bs), .int .i64 (bs.length : Nat), .int .i64 (i : Nat), y10, .int .i64 (k : Nat), y18, y24] ∧ σ = [] ∧ True := ⟨_, rfl⟩
      refine awp_K K2 ?_ ?_
      · refine awp_if rfl ?_ ?_
        · intro h3
          refine awp_reg ?_
          simp only [go_sem, R152_11, v152, p152, show xorI .i64 ((y / 2 : Nat) : Int) 3988292384 = ((y / 2 ^^^ 3988292384 : Nat) : Int) from xor_nat (a := y / 2) (b := 3988292384) (by omega) (by omega)]
          rw [show y / 2 ^^^ 3988292384 = crcStep y by unfold crcStep; rw [if_pos (by omega)]]
          rw [hK2]
          refine ⟨_, _, _, _, _, _, _, rfl, rfl, ?_⟩
          trivial
        · intro h3
          refine awp_skip ?_
          simp only [go_sem]
          rw [show y / 2 = crcStep y by unfold crcStep; rw [if_neg (by omega)]]
          rw [hK2]
          refine ⟨_, _, _, _, _, _, _, rfl, rfl, ?_⟩
          trivial
      · intro L σ hq
        rw [hK2] at hq
        obtain ⟨y0, y2, y5, y6, y10, y18, y24, rfl, rfl, hq⟩ := hq
        simp only [go_sem, v152, p152]
        refine awp_reg ?_
        simp only [go_sem, R152_12, v152, p152, wrap_succ (i := k) (by omega)]
        rw [show crcStep y = crcIter (k + 1) (x ^^^ bs[i].toNat) by rw [← hy0]; rfl]
        refine ⟨8 - (k + 1), ?_, ?_⟩
        rotate_left
        rw [hJ]
        refine ⟨k + 1, _, _, _, _, _, _, _, rfl, ?_, rfl, rfl⟩
        · omega
        · omega
    · intro h2
      have : k = 8 := by omega
      subst this
      refine awp_exit ?_
      simp only [go_sem]
      refine awp_reg ?_
      simp only [go_sem, R152_13, v152, p152, wrap_succ (i := i) (by omega)]
      rw [show crcIter 8 (x ^^^ bs[i].toNat) = (bs.take (i + 1)).foldl crcByte 4294967295 from e1.symm]
      refine ⟨bs.length - (i + 1), by omega, ?_⟩
      rw [hI]
      refine ⟨i + 1, _, _, _, _, _, _, _, _, rfl, by omega, ?_, rfl, rfl⟩
      trivial
  · intro h1
    refine awp_exit ?_
    simp only [go_sem]
    have : i = bs.length := by omega
    subst this
    have hx := crcFold_lt bs (x := 4294967295) (by omega)
    rw [List.take_length]
    refine awp_sr ?_
    simp only [go_sem, R152_14, v152, p152, show xorI .i64 ((bs.foldl crcByte 4294967295 : Nat) : Int) 4294967295 = ((crc bs : Nat) : Int) from xor_nat (b := 4294967295) hx (by omega)]
    refine awp_ret ?_
    try simp only [go_sem]
    exact fin _ _ _ rfl rfl
end Go.Proofs.YtffigokicddekaaGreat.Abs
/- Texts and check sums as bytes, walked in both texts. No condition. -/
set_option linter.unusedVariables false
set_option linter.unusedSimpArgs false
set_option maxRecDepth 10000
namespace Go.Proofs.YtffigokicddekaaGreat.Abs
open Go Go.Proofs
def R203_0 : List AR := [⟨(some 2), none, 0, (.mov (.k .nl))⟩]
def R203_1 : List AR := [⟨(some 3), none, 0, (.mov (.t 0))⟩, ⟨(some 4), none, 0, (.slen (.t 3))⟩, ⟨(some 5), none, 0, (.call false 0 1 160 [(.t 4)])⟩, ⟨(some 6), none, 0, (.mov (.t 0))⟩, ⟨(some 7), none, 0, (.s2b 1 (.t 6))⟩, ⟨(some 8), none, 0, (.app 2 1 1 (.t 5) (.t 7))⟩, ⟨(some 2), none, 0, (.mov (.t 8))⟩]
def A203_0 : AC := (.seq (.reg 3 R203_1) .ret)
def A203 : AC := (.seq (.reg 0 R203_0) A203_0)
def O203 : List AO := [(.mov (.t 2))]
def G203 : Fns := ⟨fun f => false, fun f => if f = 160 then 1 else 0, false⟩
noncomputable def X203 : Cx := ⟨Tryz.prog, G203, drawD, 9, [0, 2]⟩
theorem c203 : (Tryz.f203.body).bind (compC X203.P X203.Γ X203.D X203.nt) = some A203 := by kernel_rfl
theorem o203 : compRes X203.P Tryz.f203.results.toList = some O203 := by kernel_rfl
theorem v203 : X203.vs = [0, 2] := rfl
theorem p203 : X203.P = Tryz.prog := rfl
def R200_0 : List AR := [⟨(some 2), none, 0, (.mov (.k .nl))⟩]
def R200_1 : List AR := [⟨(some 3), none, 0, (.mov (.t 0))⟩, ⟨(some 4), none, 0, (.slen (.t 3))⟩, ⟨(some 5), none, 0, (.call false 0 1 156 [(.t 4)])⟩, ⟨(some 6), none, 0, (.mov (.t 0))⟩, ⟨(some 7), none, 0, (.s2f (.t 6))⟩, ⟨(some 8), none, 0, (.bslice 1 1 2 [.nl] [(0, (.t 5)), (1, (.t 7))])⟩, ⟨(some 9), none, 0, (.call false 2 1 155 [(.t 8)])⟩, ⟨(some 2), none, 0, (.mov (.t 9))⟩]
def A200_0 : AC := (.seq (.reg 3 R200_1) .ret)
def A200 : AC := (.seq (.reg 0 R200_0) A200_0)
def O200 : List AO := [(.mov (.t 2))]
def G200 : Fns := ⟨fun f => false, fun f => if f = 156 then 1 else if f = 155 then 1 else 0, true⟩
noncomputable def X200 : Cx := ⟨Tryz.prog, G200, drawD, 10, [0, 2]⟩
theorem c200 : (Tryz.f200.body).bind (compC X200.P X200.Γ X200.D X200.nt) = some A200 := by kernel_rfl
theorem o200 : compRes X200.P Tryz.f200.results.toList = some O200 := by kernel_rfl
theorem v200 : X200.vs = [0, 2] := rfl
theorem p200 : X200.P = Tryz.prog := rfl
def putText (s : ByteArray) : List UInt8 := putNum s.size ++ s.toList
theorem bytes_flat {s : Nat} (xs : List UInt8) : (⟨s, rw_ byteC xs⟩ : Ob).flat := by
  intro l hl x hx
  simp only [rw_, List.mem_map] at hl
  obtain ⟨a, _, rfl⟩ := hl
  exact byteC_flat a x hx
theorem ofBytes_rw (s : ByteArray) : ofBytes s = rw_ byteC s.toList := rfl
theorem toList_size (s : ByteArray) : s.toList.length = s.size := by rw [ByteArray.toList_eq]; simp
theorem rowB_closed (a : List UInt8) : ∀ x ∈ rowB a, x.closed = true := by simp [rowB, V.closed]
theorem brows_ok {s : Nat} (xs : List (List UInt8)) : (⟨s, rw_ rowB xs⟩ : Ob).closed := rw_closed rowB_closed xs
theorem toList_take (s : ByteArray) : s.toList.take s.size = s.toList := by rw [← toList_size s]; exact List.take_length
theorem specPutText_ok (s : ByteArray) (h : s.size ≤ 2147483647) : FS Tryz.prog 203 [] [.str s] (.sl 0 1 0 (putText s).length) [⟨1, rw_ byteC (putText s)⟩] := by
  refine FS.of (X := X203) (ac := A203) (os := O203) Tryz.func203 (by rfl) (by rfl) (by kernel_rfl) o203 (Nat.le_of_ble_eq_true rfl) ?_
  show AWP X203 A203 (Ends X203.vs O203 0 _ _) [.str s, .tup []] []
  obtain ⟨Q, hQ⟩ : ∃ Q, Q = Ends X203.vs O203 0 (.sl 0 1 0 (putText s).length) [⟨1, rw_ byteC (putText s)⟩] := ⟨_, rfl⟩
  rw [← hQ]
  refine awp_sr ?_
  simp only [go_sem, R203_0, v203, p203]
  refine awp_sr ?_
  simp only [go_sem, R203_1, v203, p203]
  refine run_new (specPutNum_ok s.size h) false (Views.refl rfl) (by first | rfl | (simp only [Nat.add_zero, app_get, app_getk, sapp_get, sapp_getk, Nat.add_assoc, Nat.reduceAdd, List.getElem?_cons_zero, List.getElem?_cons_succ]; done) | simp) (bytes_ok _) (by simp [V.ids]) (fun h => by cases h) ?_
  have h5 := putNum_5 h
  have hsz := toList_size s
  simp only [go_sem, v203, p203, ofBytes_rw, toList_size, toList_take]
  refine ⟨by omega, ?_⟩
  refine awp_ret ?_
  try simp only [go_sem]
  rw [hQ]
  exact Ends.ownLast (.inl rfl) rfl (Last.mk2 [] _ _ _) (by simp [putText, hsz]) (bytes_ok _)
theorem implPutText_ok (s : ByteArray) (h : s.size ≤ 2147483647) : FS Tryz.prog 200 [] [.str s] (.sl 0 1 0 (putText s).length) [⟨1, rw_ byteC (putText s)⟩] := by
  refine FS.of (X := X200) (ac := A200) (os := O200) Tryz.func200 (by rfl) (by rfl) (by kernel_rfl) o200 (Nat.le_of_ble_eq_true rfl) ?_
  show AWP X200 A200 (Ends X200.vs O200 0 _ _) [.str s, .tup []] []
  obtain ⟨Q, hQ⟩ : ∃ Q, Q = Ends X200.vs O200 0 (.sl 0 1 0 (putText s).length) [⟨1, rw_ byteC (putText s)⟩] := ⟨_, rfl⟩
  rw [← hQ]
  refine awp_sr ?_
  simp only [go_sem, R200_0, v200, p200]
  refine awp_sr ?_
  simp only [go_sem, R200_1, v200, p200]
  refine run_see (implPutNum_fz s.size h) false (Views.refl rfl) rfl (fun j hj => by first | omega | ((have hj0 : j = 0 := by omega); subst hj0; first | rfl | (simp only [Nat.add_zero, app_get, app_getk, sapp_get, sapp_getk, Nat.add_assoc, Nat.reduceAdd, List.getElem?_cons_zero, List.getElem?_cons_succ]; done) | simp)) (fun h => by cases h) ?_
  simp only [go_sem, v200, p200, ofBytes_rw, fz_fold, show ∀ a b : List UInt8, [rowB a, rowB b] = rw_ rowB [a, b] from fun _ _ => rfl]
  have := putNum_5 h
  have := toList_size s
  have hlen : [putNum s.size, s.toList].flatten.length ≤ lim := by simp [lim]; omega
  refine run_new (joined_ok [putNum s.size, s.toList] hlen (by simp)) true (.cons (View.row (by simp) rfl rfl (brows_ok _)) (.nil)) (by first | rfl | (simp only [Nat.add_zero, app_get, app_getk, sapp_get, sapp_getk, Nat.add_assoc, Nat.reduceAdd, List.getElem?_cons_zero, List.getElem?_cons_succ]; done) | simp) (bytes_ok _) (by simp [V.ids]) (fun _ => ⟨rfl, bytes_flat _⟩) ?_
  simp only [go_sem, v200, p200]
  refine awp_ret ?_
  try simp only [go_sem]
  rw [hQ]
  rw [show putText s = [putNum s.size, s.toList].flatten by simp [putText]]
  exact Ends.ownLast (.inl rfl) rfl (Last.mk2 [] _ _ _) rfl (bytes_ok _)
theorem specPutText_fz (s : ByteArray) (h : s.size ≤ 2147483647) : FS Tryz.prog 203 [] [.str s] (.fz 1 (rw_ byteC (putText s))) [] := (specPutText_ok s h).frz (bytes_ok _) (rw_len _ _).symm
theorem implPutText_fz (s : ByteArray) (h : s.size ≤ 2147483647) : FS Tryz.prog 200 [] [.str s] (.fz 1 (rw_ byteC (putText s))) [] := (implPutText_ok s h).frz (bytes_ok _) (rw_len _ _).symm
theorem putText_len {s : ByteArray} (h : s.size ≤ 2147483647) : (putText s).length ≤ s.size + 5 := by
  unfold putText
  have := putNum_5 h
  rw [List.length_append, toList_size]
  omega
def sumBytes (x : Nat) : List UInt8 := [u8 ((x / 16777216 : Nat) : Int), u8 ((x / 65536 % 256 : Nat) : Int), u8 ((x / 256 % 256 : Nat) : Int), u8 ((x % 256 : Nat) : Int)]
theorem u8_mod (n : Nat) : u8 ((n % 256 : Nat) : Int) = u8 (n : Int) := by
  unfold u8
  congr 1
  omega
theorem and_255 {a : Nat} (ha : a < 4294967296) : andI .i64 (a : Int) 255 = ((a % 256 : Nat) : Int) := by
  have e : (BitVec.ofInt (IntKind.bits .i64) (a : Int) &&& BitVec.ofInt (IntKind.bits .i64) (255 : Int)).toNat = a % 256 := by
    rw [BitVec.toNat_and, BitVec.ofInt_natCast, show (255 : Int) = ((255 : Nat) : Int) from rfl, BitVec.ofInt_natCast, BitVec.toNat_ofNat, BitVec.toNat_ofNat]
    rw [Nat.mod_eq_of_lt, Nat.mod_eq_of_lt]
    · exact Nat.and_two_pow_sub_one_eq_mod a 8
    · simp only [IntKind.bits]; omega
    · simp only [IntKind.bits]; omega
  unfold andI
  rw [e]
  exact wrap_i64 (by omega) (by omega)
theorem fdiv_nat (n k : Nat) : (n : Int).fdiv (k : Int) = ((n / k : Nat) : Int) := by
  rw [Int.fdiv_eq_ediv_of_nonneg _ (by omega)]; rfl
-- not in this seat: spec.l10Sum
-- not in this seat: impl.crcBytes
-- not in this seat: spec.l10Sum
-- not in this seat: impl.crcBytes
end Go.Proofs.YtffigokicddekaaGreat.Abs
/- Lists and states as bytes, walked in both texts. No condition. -/
set_option linter.unusedVariables false
set_option linter.unusedSimpArgs false
set_option maxRecDepth 10000
namespace Go.Proofs.YtffigokicddekaaGreat.Abs
open Go Go.Proofs
def fit (n : Int) : Prop := 0 ≤ n ∧ n ≤ 2147483647
def putI (n : Int) : List UInt8 := putNum n.toNat
theorem specPutI_fz {n : Int} (h : fit n) : FS Tryz.prog 160 [] [.int .i64 n] (.fz 1 (rw_ byteC (putI n))) [] := by
  have := specPutNum_fz n.toNat (by have := h.1; have := h.2; omega)
  rw [show ((n.toNat : Nat) : Int) = n by have := h.1; omega] at this
  exact this
theorem implPutI_fz {n : Int} (h : fit n) : FS Tryz.prog 156 [] [.int .i64 n] (.fz 1 (rw_ byteC (putI n))) [] := by
  have := implPutNum_fz n.toNat (by have := h.1; have := h.2; omega)
  rw [show ((n.toNat : Nat) : Int) = n by have := h.1; omega] at this
  exact this
theorem putI_5 {n : Int} (h : fit n) : (putI n).length ≤ 5 := putNum_5 (by have := h.2; omega)
def numsB (xs : List Int) : List UInt8 := (xs.map putI).flatten
def listB (xs : List Int) : List UInt8 := putNum xs.length ++ numsB xs
/-- parts laid one behind the other -/
def cat {α : Type} (f : α → List UInt8) (xs : List α) : List UInt8 := (xs.map f).flatten
theorem cat_take {α : Type} (f : α → List UInt8) {xs : List α} {i : Nat} (h : i < xs.length) : cat f (xs.take (i + 1)) = cat f (xs.take i) ++ f xs[i] := by
  unfold cat
  rw [List.take_succ_eq_append_getElem h, List.map_append, List.flatten_append]; simp
theorem cat_le {α : Type} (f : α → List UInt8) (xs : List α) (i : Nat) : (cat f (xs.take i)).length ≤ (cat f xs).length := by
  unfold cat
  conv => rhs; rw [← List.take_append_drop i xs, List.map_append, List.flatten_append, List.length_append]
  omega
theorem cat_len {α : Type} (f : α → List UInt8) {k : Nat} : ∀ {xs : List α}, (∀ a ∈ xs, (f a).length ≤ k) → (cat f xs).length ≤ xs.length * k
  | [], _ => by simp [cat]
  | x :: xs, h => by
    have h1 := h x (by simp)
    have h2 := cat_len f (xs := xs) fun a ha => h a (by simp [ha])
    unfold cat at *
    simp only [List.map_cons, List.flatten_cons, List.length_append, List.length_cons, Nat.add_mul]
    omega
theorem numsB_len {xs : List Int} (h : ∀ x ∈ xs, fit x) : (cat putI xs).length ≤ xs.length * 5 := cat_len putI fun a ha => putI_5 (h a ha)
theorem pair_fold (a b : List UInt8) : [rowB a, rowB b] = rw_ rowB [a, b] := rfl
-- not in this seat: spec.l10List
-- not in this seat: impl.putNums
end Go.Proofs.YtffigokicddekaaGreat.Abs
/- States as bytes, walked in both texts. No condition. -/
set_option linter.unusedVariables false
set_option linter.unusedSimpArgs false
set_option maxRecDepth 10000
namespace Go.Proofs.YtffigokicddekaaGreat.Abs
open Go Go.Proofs
def R158_0 : List AR := [⟨(some 1), none, 0, (.box 0 2 (.t 0))⟩, ⟨(some 2), none, 0, (.mov (.k .nl))⟩]
def R158_1 : List AR := [⟨(some 9), none, 0, (.faddr 0 (.t 1))⟩, ⟨(some 10), none, 0, (.load 1 false (.t 9))⟩, ⟨(some 11), none, 0, (.len (.t 10))⟩, ⟨(some 12), none, 0, (.call false 0 1 160 [(.t 11)])⟩, ⟨(some 3), none, 0, (.mov (.t 12))⟩]
def R158_2 : List AR := [⟨(some 4), none, 0, (.mov (.k (.int .i64 0)))⟩]
def R158_3 : List AR := [⟨(some 13), none, 0, (.mov (.t 4))⟩, ⟨(some 14), none, 0, (.faddr 0 (.t 1))⟩, ⟨(some 15), none, 0, (.load 1 false (.t 14))⟩, ⟨(some 16), none, 0, (.len (.t 15))⟩, ⟨(some 17), none, 0, (.bin .lss (.t 13) (.t 16))⟩]
def R158_4 : List AR := [⟨(some 20), none, 0, (.faddr 0 (.t 1))⟩, ⟨(some 21), none, 0, (.load 1 false (.t 20))⟩, ⟨(some 22), none, 0, (.mov (.t 4))⟩, ⟨(some 23), none, 0, (.iaddr 6 (.t 21) (.t 22))⟩, ⟨(some 24), none, 0, (.faddr 1 (.t 23))⟩, ⟨(some 25), none, 0, (.load 5 true (.t 24))⟩, ⟨(some 5), none, 0, (.alloc 0 5 [(.int .i64 0), (.int .i64 0), (.int .i64 0), (.int .i64 0), (.str ⟨⟨[]⟩⟩)])⟩, ⟨none, none, 0, (.store 5 (.t 5) (.t 25))⟩]
def R158_5 : List AR := [⟨(some 26), none, 0, (.faddr 0 (.t 1))⟩, ⟨(some 27), none, 0, (.load 1 false (.t 26))⟩, ⟨(some 28), none, 0, (.mov (.t 4))⟩, ⟨(some 29), none, 0, (.iaddr 6 (.t 27) (.t 28))⟩, ⟨(some 30), none, 0, (.faddr 0 (.t 29))⟩, ⟨(some 31), none, 0, (.load 1 false (.t 30))⟩, ⟨(some 32), none, 0, (.faddr 0 (.t 5))⟩, ⟨(some 33), none, 0, (.load 1 false (.t 32))⟩, ⟨(some 34), none, 0, (.faddr 1 (.t 5))⟩, ⟨(some 35), none, 0, (.load 1 false (.t 34))⟩, ⟨(some 36), none, 0, (.faddr 2 (.t 5))⟩, ⟨(some 37), none, 0, (.load 1 false (.t 36))⟩, ⟨(some 38), none, 0, (.faddr 3 (.t 5))⟩, ⟨(some 39), none, 0, (.load 1 false (.t 38))⟩, ⟨(some 40), none, 0, (.bslice 0 1 5 [(.int .i64 0)] [(0, (.t 31)), (1, (.t 33)), (2, (.t 35)), (3, (.t 37)), (4, (.t 39))])⟩, ⟨(some 6), none, 0, (.mov (.t 40))⟩]
def R158_6 : List AR := [⟨(some 7), none, 0, (.mov (.k (.int .i64 0)))⟩]
def R158_7 : List AR := [⟨(some 41), none, 0, (.mov (.t 7))⟩, ⟨(some 42), none, 0, (.mov (.t 6))⟩, ⟨(some 43), none, 0, (.len (.t 42))⟩, ⟨(some 44), none, 0, (.bin .lss (.t 41) (.t 43))⟩]
def R158_8 : List AR := [⟨(some 47), none, 0, (.mov (.t 3))⟩, ⟨(some 48), none, 0, (.mov (.t 6))⟩, ⟨(some 49), none, 0, (.mov (.t 7))⟩, ⟨(some 50), none, 0, (.iaddr 1 (.t 48) (.t 49))⟩, ⟨(some 51), none, 0, (.load 1 false (.t 50))⟩, ⟨(some 52), none, 0, (.call false 0 1 160 [(.t 51)])⟩, ⟨(some 53), none, 0, (.app 1 1 1 (.t 47) (.t 52))⟩, ⟨(some 3), none, 0, (.mov (.t 53))⟩]
def R158_9 : List AR := [⟨(some 45), none, 0, (.mov (.t 7))⟩, ⟨(some 46), none, 0, (.bin .add (.t 45) (.k (.int .i64 1)))⟩, ⟨(some 7), none, 0, (.mov (.t 46))⟩]
def A158_0 : AC := (.seq (.block 3 (.reg 2 R158_8)) (.reg 0 R158_9))
def L158_0 : AC := (.seq (.seq (.reg 0 R158_7) (.cond (.t 44) .skip (.exit 2))) A158_0)
def R158_10 : List AR := [⟨(some 54), none, 0, (.mov (.t 3))⟩, ⟨(some 55), none, 0, (.faddr 4 (.t 5))⟩, ⟨(some 56), none, 0, (.load 1 false (.t 55))⟩, ⟨(some 57), none, 0, (.call false 0 0 203 [(.t 56)])⟩, ⟨(some 58), none, 0, (.app 0 1 1 (.t 54) (.t 57))⟩, ⟨(some 3), none, 0, (.mov (.t 58))⟩]
def A158_1 : AC := (.seq (.seq (.reg 0 R158_6) (.block 2 (.loop L158_0))) (.reg 1 R158_10))
def A158_2 : AC := (.seq (.draw 1 R158_5) A158_1)
def R158_11 : List AR := [⟨(some 18), none, 0, (.mov (.t 4))⟩, ⟨(some 19), none, 0, (.bin .add (.t 18) (.k (.int .i64 1)))⟩, ⟨(some 4), none, 0, (.mov (.t 19))⟩]
def A158_3 : AC := (.seq (.block 1 (.seq (.reg 1 R158_4) A158_2)) (.reg 0 R158_11))
def L158_1 : AC := (.seq (.seq (.reg 0 R158_3) (.cond (.t 17) .skip (.exit 0))) A158_3)
def R158_12 : List AR := [⟨(some 59), none, 0, (.mov (.t 3))⟩, ⟨(some 60), none, 0, (.faddr 1 (.t 1))⟩, ⟨(some 61), none, 0, (.load 1 false (.t 60))⟩, ⟨(some 62), none, 0, (.len (.t 61))⟩, ⟨(some 63), none, 0, (.call false 0 1 160 [(.t 62)])⟩, ⟨(some 64), none, 0, (.app 1 1 1 (.t 59) (.t 63))⟩, ⟨(some 3), none, 0, (.mov (.t 64))⟩]
def R158_13 : List AR := [⟨(some 8), none, 0, (.mov (.k (.int .i64 0)))⟩]
def R158_14 : List AR := [⟨(some 65), none, 0, (.mov (.t 8))⟩, ⟨(some 66), none, 0, (.faddr 1 (.t 1))⟩, ⟨(some 67), none, 0, (.load 1 false (.t 66))⟩, ⟨(some 68), none, 0, (.len (.t 67))⟩, ⟨(some 69), none, 0, (.bin .lss (.t 65) (.t 68))⟩]
def R158_15 : List AR := [⟨(some 72), none, 0, (.mov (.t 3))⟩, ⟨(some 73), none, 0, (.faddr 1 (.t 1))⟩, ⟨(some 74), none, 0, (.load 1 false (.t 73))⟩, ⟨(some 75), none, 0, (.mov (.t 8))⟩, ⟨(some 76), none, 0, (.iaddr 2 (.t 74) (.t 75))⟩, ⟨(some 77), none, 0, (.faddr 0 (.t 76))⟩, ⟨(some 78), none, 0, (.load 1 false (.t 77))⟩, ⟨(some 79), none, 0, (.call false 0 1 160 [(.t 78)])⟩, ⟨(some 80), none, 0, (.app 1 1 1 (.t 72) (.t 79))⟩, ⟨(some 3), none, 0, (.mov (.t 80))⟩]
def R158_16 : List AR := [⟨(some 81), none, 0, (.mov (.t 3))⟩, ⟨(some 82), none, 0, (.faddr 1 (.t 1))⟩, ⟨(some 83), none, 0, (.load 1 false (.t 82))⟩, ⟨(some 84), none, 0, (.mov (.t 8))⟩, ⟨(some 85), none, 0, (.iaddr 2 (.t 83) (.t 84))⟩, ⟨(some 86), none, 0, (.faddr 1 (.t 85))⟩, ⟨(some 87), none, 0, (.load 1 false (.t 86))⟩, ⟨(some 88), none, 0, (.call false 0 1 160 [(.t 87)])⟩, ⟨(some 89), none, 0, (.app 1 1 1 (.t 81) (.t 88))⟩, ⟨(some 3), none, 0, (.mov (.t 89))⟩]
def R158_17 : List AR := [⟨(some 70), none, 0, (.mov (.t 8))⟩, ⟨(some 71), none, 0, (.bin .add (.t 70) (.k (.int .i64 1)))⟩, ⟨(some 8), none, 0, (.mov (.t 71))⟩]
def A158_4 : AC := (.seq (.block 5 (.seq (.reg 2 R158_15) (.reg 2 R158_16))) (.reg 0 R158_17))
def L158_2 : AC := (.seq (.seq (.reg 0 R158_14) (.cond (.t 69) .skip (.exit 4))) A158_4)
def R158_18 : List AR := [⟨(some 90), none, 0, (.mov (.t 3))⟩, ⟨(some 2), none, 0, (.mov (.t 90))⟩]
def A158_5 : AC := (.seq (.reg 0 R158_18) .ret)
def A158_6 : AC := (.seq (.seq (.reg 0 R158_13) (.block 4 (.loop L158_2))) A158_5)
def A158_7 : AC := (.seq (.reg 2 R158_12) A158_6)
def A158_8 : AC := (.seq (.seq (.reg 0 R158_2) (.block 0 (.loop L158_1))) A158_7)
def A158_9 : AC := (.seq (.reg 1 R158_1) A158_8)
def A158 : AC := (.seq (.reg 1 R158_0) A158_9)
def O158 : List AO := [(.mov (.t 2))]
def G158 : Fns := ⟨fun f => false, fun f => if f = 160 then 1 else 0, false⟩
noncomputable def X158 : Cx := ⟨Tryz.prog, G158, drawD, 91, [0, 1, 2, 3, 4, 5, 6, 7, 8, 17, 44, 69]⟩
theorem c158 : (Tryz.f158.body).bind (compC X158.P X158.Γ X158.D X158.nt) = some A158 := by kernel_rfl
theorem o158 : compRes X158.P Tryz.f158.results.toList = some O158 := by kernel_rfl
theorem v158 : X158.vs = [0, 1, 2, 3, 4, 5, 6, 7, 8, 17, 44, 69] := rfl
theorem p158 : X158.P = Tryz.prog := rfl
def R153_0 : List AR := [⟨(some 1), none, 0, (.box 0 2 (.t 0))⟩, ⟨(some 2), none, 0, (.mov (.k .nl))⟩]
def R153_1 : List AR := [⟨(some 9), none, 0, (.load 2 true (.t 1))⟩, ⟨(some 10), none, 0, (.call false 0 0 63 [(.t 9)])⟩, ⟨(some 11), none, 0, (.not (.t 10))⟩]
def R153_2 : List AR := [⟨(some 2), none, 0, (.mov (.k .nl))⟩]
def R153_3 : List AR := [⟨(some 12), none, 0, (.faddr 0 (.t 1))⟩, ⟨(some 13), none, 0, (.load 1 false (.t 12))⟩, ⟨(some 14), none, 0, (.len (.t 13))⟩, ⟨(some 15), none, 0, (.call false 0 0 156 [(.t 14)])⟩, ⟨(some 3), none, 0, (.mov (.t 15))⟩]
def R153_4 : List AR := [⟨(some 16), none, 0, (.faddr 0 (.t 1))⟩, ⟨(some 17), none, 0, (.load 1 false (.t 16))⟩, ⟨(some 18), none, 0, (.len (.t 17))⟩, ⟨(some 19), none, 0, (.mov (.k (.int .i64 0)))⟩]
def R153_5 : List AR := [⟨(some 20), none, 0, (.bin .lss (.t 19) (.t 18))⟩]
def R153_6 : List AR := [⟨(some 21), none, 0, (.iaddr 6 (.t 17) (.t 19))⟩, ⟨(some 22), none, 0, (.load 6 true (.t 21))⟩, ⟨(some 5), none, 0, (.alloc 0 6 [(.int .i64 0), (.int .i64 0), (.int .i64 0), (.int .i64 0), (.int .i64 0), (.str ⟨⟨[]⟩⟩)])⟩, ⟨none, none, 0, (.store 6 (.t 5) (.t 22))⟩]
def R153_7 : List AR := [⟨(some 23), none, 0, (.faddr 1 (.t 5))⟩, ⟨(some 24), none, 0, (.load 5 true (.t 23))⟩, ⟨(some 6), none, 0, (.alloc 0 5 [(.int .i64 0), (.int .i64 0), (.int .i64 0), (.int .i64 0), (.str ⟨⟨[]⟩⟩)])⟩, ⟨none, none, 0, (.store 5 (.t 6) (.t 24))⟩]
def R153_8 : List AR := [⟨(some 25), none, 0, (.mov (.t 3))⟩, ⟨(some 26), none, 0, (.faddr 0 (.t 5))⟩, ⟨(some 27), none, 0, (.load 1 false (.t 26))⟩, ⟨(some 28), none, 0, (.call false 0 0 156 [(.t 27)])⟩, ⟨(some 29), none, 0, (.faddr 0 (.t 6))⟩, ⟨(some 30), none, 0, (.load 1 false (.t 29))⟩, ⟨(some 31), none, 0, (.call false 0 0 156 [(.t 30)])⟩, ⟨(some 32), none, 0, (.faddr 1 (.t 6))⟩, ⟨(some 33), none, 0, (.load 1 false (.t 32))⟩, ⟨(some 34), none, 0, (.call false 0 0 156 [(.t 33)])⟩, ⟨(some 35), none, 0, (.faddr 2 (.t 6))⟩, ⟨(some 36), none, 0, (.load 1 false (.t 35))⟩, ⟨(some 37), none, 0, (.call false 0 0 156 [(.t 36)])⟩, ⟨(some 38), none, 0, (.faddr 3 (.t 6))⟩, ⟨(some 39), none, 0, (.load 1 false (.t 38))⟩, ⟨(some 40), none, 0, (.call false 0 0 156 [(.t 39)])⟩, ⟨(some 41), none, 0, (.faddr 4 (.t 6))⟩, ⟨(some 42), none, 0, (.load 1 false (.t 41))⟩, ⟨(some 43), none, 0, (.call false 0 0 200 [(.t 42)])⟩, ⟨(some 44), none, 0, (.bslice 0 1 7 [.nl] [(0, (.t 25)), (1, (.t 28)), (2, (.t 31)), (3, (.t 34)), (4, (.t 37)), (5, (.t 40)), (6, (.t 43))])⟩, ⟨(some 45), none, 0, (.call false 1 1 155 [(.t 44)])⟩, ⟨(some 3), none, 0, (.mov (.t 45))⟩]
def A153_0 : AC := (.seq (.reg 1 R153_7) (.draw 2 R153_8))
def R153_9 : List AR := [⟨(some 46), none, 0, (.bin .add (.t 19) (.k (.int .i64 1)))⟩, ⟨(some 19), none, 0, (.mov (.t 46))⟩]
def A153_1 : AC := (.seq (.block 1 (.seq (.reg 1 R153_6) A153_0)) (.reg 0 R153_9))
def A153_2 : AC := (.seq (.cond (.t 20) .skip (.exit 0)) A153_1)
def L153_0 : AC := (.seq (.reg 0 R153_5) A153_2)
def R153_10 : List AR := [⟨(some 47), none, 0, (.mov (.t 3))⟩, ⟨(some 48), none, 0, (.faddr 1 (.t 1))⟩, ⟨(some 49), none, 0, (.load 1 false (.t 48))⟩, ⟨(some 50), none, 0, (.len (.t 49))⟩, ⟨(some 51), none, 0, (.call false 0 0 156 [(.t 50)])⟩, ⟨(some 52), none, 0, (.bslice 0 1 2 [.nl] [(0, (.t 47)), (1, (.t 51))])⟩, ⟨(some 53), none, 0, (.call false 1 1 155 [(.t 52)])⟩, ⟨(some 3), none, 0, (.mov (.t 53))⟩]
def R153_11 : List AR := [⟨(some 54), none, 0, (.faddr 1 (.t 1))⟩, ⟨(some 55), none, 0, (.load 1 false (.t 54))⟩, ⟨(some 56), none, 0, (.len (.t 55))⟩, ⟨(some 57), none, 0, (.mov (.k (.int .i64 0)))⟩]
def R153_12 : List AR := [⟨(some 58), none, 0, (.bin .lss (.t 57) (.t 56))⟩]
def R153_13 : List AR := [⟨(some 59), none, 0, (.iaddr 2 (.t 55) (.t 57))⟩, ⟨(some 60), none, 0, (.load 2 true (.t 59))⟩, ⟨(some 8), none, 0, (.alloc 0 2 [(.int .i64 0), (.int .i64 0)])⟩, ⟨none, none, 0, (.store 2 (.t 8) (.t 60))⟩]
def R153_14 : List AR := [⟨(some 61), none, 0, (.mov (.t 3))⟩, ⟨(some 62), none, 0, (.faddr 0 (.t 8))⟩, ⟨(some 63), none, 0, (.load 1 false (.t 62))⟩, ⟨(some 64), none, 0, (.call false 0 0 156 [(.t 63)])⟩, ⟨(some 65), none, 0, (.faddr 1 (.t 8))⟩, ⟨(some 66), none, 0, (.load 1 false (.t 65))⟩, ⟨(some 67), none, 0, (.call false 0 0 156 [(.t 66)])⟩, ⟨(some 68), none, 0, (.bslice 0 1 3 [.nl] [(0, (.t 61)), (1, (.t 64)), (2, (.t 67))])⟩, ⟨(some 69), none, 0, (.call false 1 1 155 [(.t 68)])⟩, ⟨(some 3), none, 0, (.mov (.t 69))⟩]
def R153_15 : List AR := [⟨(some 70), none, 0, (.bin .add (.t 57) (.k (.int .i64 1)))⟩, ⟨(some 57), none, 0, (.mov (.t 70))⟩]
def A153_3 : AC := (.seq (.block 3 (.seq (.reg 1 R153_13) (.draw 2 R153_14))) (.reg 0 R153_15))
def A153_4 : AC := (.seq (.cond (.t 58) .skip (.exit 2)) A153_3)
def L153_1 : AC := (.seq (.reg 0 R153_12) A153_4)
def R153_16 : List AR := [⟨(some 71), none, 0, (.mov (.t 3))⟩, ⟨(some 2), none, 0, (.mov (.t 71))⟩]
def A153_5 : AC := (.seq (.reg 0 R153_16) .ret)
def A153_6 : AC := (.seq (.seq (.reg 0 R153_11) (.block 2 (.loop L153_1))) A153_5)
def A153_7 : AC := (.seq (.reg 2 R153_10) A153_6)
def A153_8 : AC := (.seq (.seq (.reg 0 R153_4) (.block 0 (.loop L153_0))) A153_7)
def A153_9 : AC := (.seq (.reg 0 R153_3) A153_8)
def A153_10 : AC := (.seq (.seq (.reg 0 R153_1) (.cond (.t 11) (.seq (.reg 0 R153_2) .ret) .skip)) A153_9)
def A153 : AC := (.seq (.reg 1 R153_0) A153_10)
def O153 : List AO := [(.mov (.t 2))]
def G153 : Fns := ⟨fun f => false, fun f => if f = 155 then 1 else 0, false⟩
noncomputable def X153 : Cx := ⟨Tryz.prog, G153, drawD, 72, [0, 1, 2, 3, 5, 6, 8, 11, 17, 18, 19, 20, 55, 56, 57, 58]⟩
theorem c153 : (Tryz.f153.body).bind (compC X153.P X153.Γ X153.D X153.nt) = some A153 := by kernel_rfl
theorem o153 : compRes X153.P Tryz.f153.results.toList = some O153 := by kernel_rfl
theorem v153 : X153.vs = [0, 1, 2, 3, 5, 6, 8, 11, 17, 18, 19, 20, 55, 56, 57, 58] := rfl
theorem p153 : X153.P = Tryz.prog := rfl
def Entry.nums (a : Entry) : List Int := [a.inc, a.rank, a.beat, a.ver]
def Item.nums (x : Item) : List Int := [x.id, x.entry.inc, x.entry.rank, x.entry.beat, x.entry.ver]
def itemB (x : Item) : List UInt8 := cat putI x.nums ++ putText x.entry.data
def floorB (x : Floor) : List UInt8 := putI x.id ++ putI x.inc
def stateB (s : State) : List UInt8 := putNum s.items.length ++ cat itemB s.items ++ putNum s.floors.length ++ cat floorB s.floors
def Item.Fit (x : Item) : Prop := (∀ n ∈ x.nums, fit n) ∧ x.entry.data.size ≤ 8
def Floor.Fit (x : Floor) : Prop := fit x.id ∧ fit x.inc
def State.Fit (s : State) : Prop := (∀ x ∈ s.items, x.Fit) ∧ (∀ x ∈ s.floors, x.Fit) ∧ s.items.length ≤ 1048576 ∧ s.floors.length ≤ 1048576
theorem itemB_len {x : Item} (h : x.Fit) : (itemB x).length ≤ 38 := by
  have h1 := cat_len putI (xs := x.nums) (k := 5) fun a ha => putI_5 (h.1 a ha)
  have h2 := putText_len (s := x.entry.data) (by have := h.2; omega)
  have h3 := h.2
  unfold itemB
  rw [List.length_append]
  simp only [Item.nums, List.length_cons, List.length_nil] at h1 ⊢
  omega
theorem floorB_len {x : Floor} (h : x.Fit) : (floorB x).length ≤ 10 := by
  have h1 := putI_5 h.1
  have h2 := putI_5 h.2
  unfold floorB
  rw [List.length_append]
  omega
theorem State.Right.fit {s : State} (h : s.Right) (hs : s.sz ≤ 1048576) : s.Fit := by
  have h1 := State.items_le s
  have h2 := State.floors_le s
  refine ⟨fun x hx => ?_, fun x hx => ?_, by omega, by omega⟩
  · obtain ⟨i, hi⟩ := List.mem_iff_getElem?.1 hx
    obtain ⟨g1, _, g2, _⟩ := h.1 i x hi
    obtain ⟨g3, g4, g5, g6, g7⟩ := g2
    refine ⟨fun n hn => ?_, by omega⟩
    simp only [Item.nums, List.mem_cons, List.not_mem_nil, or_false] at hn
    rcases hn with rfl | rfl | rfl | rfl | rfl <;> exact ⟨by omega, by omega⟩
  · obtain ⟨i, hi⟩ := List.mem_iff_getElem?.1 hx
    obtain ⟨g1, _, g2⟩ := h.2 i x hi
    exact ⟨⟨by omega, by omega⟩, ⟨by omega, by omega⟩⟩
theorem cat_mem {α : Type} (f : α → List UInt8) {k : Nat} {xs : List α} (h : ∀ a ∈ xs, (f a).length ≤ k) (i : Nat) : (cat f (xs.take i)).length ≤ xs.length * k :=
  Nat.le_trans (cat_le f xs i) (cat_len f h)
set_option maxHeartbeats 4000000 in
theorem specL6Bytes_ok (a : State) (h : a.Fit) : FS Tryz.prog 158 [] [.agg a.c] (.sl 0 1 0 (stateB a).length) [⟨1, rw_ byteC (stateB a)⟩] := by
  refine FS.of (X := X158) (ac := A158) (os := O158) Tryz.func158 (by rfl) (by rfl) (by kernel_rfl) o158 (Nat.le_of_ble_eq_true rfl) ?_
  show AWP X158 A158 (Ends X158.vs O158 0 _ _) [.agg a.c, .tup [], .tup [], .tup [], .tup [], .tup [], .tup [], .tup [], .tup [], .tup [], .tup [], .tup []] []
  obtain ⟨Q, hQ⟩ : ∃ Q, Q = Ends X158.vs O158 0 (.sl 0 1 0 (stateB a).length) [⟨1, rw_ byteC (stateB a)⟩] := ⟨_, rfl⟩
  rw [← hQ]
  obtain ⟨hf1, hf2, hl1, hl2⟩ := h
  have h5 := putNum_5 (n := a.items.length) (by omega)
  have h6 := putNum_5 (n := a.floors.length) (by omega)
  have hb1 := cat_len itemB (xs := a.items) fun x hx => itemB_len (hf1 x hx)
  have hb2 := cat_len floorB (xs := a.floors) fun x hx => floorB_len (hf2 x hx)
  refine awp_sr ?_
  simp only [go_sem, R158_0, v158, p158, State.c]
  refine awp_sr ?_
  simp only [go_sem, R158_1, v158, p158]
  refine run_new (specPutNum_ok a.items.length (by omega)) false (Views.refl rfl) (by first | rfl | (simp only [Nat.add_zero, app_get, app_getk, sapp_get, sapp_getk, Nat.add_assoc, Nat.reduceAdd, List.getElem?_cons_zero, List.getElem?_cons_succ]; done) | simp) (bytes_ok _) (by simp [V.ids]) (fun h => by cases h) ?_
  simp only [go_sem, v158, p158]
  refine awp_sr2 ?_
  simp only [go_sem, R158_2, v158, p158]
  obtain ⟨I, hI⟩ : ∃ I : Nat → List V → Store → Prop, I = fun mM L σ => ∃ i out r q τ y0 y2 y5 y6 y7 y8 y17 y44 y69, a.items.length - i = mM ∧ (i ≤ a.items.length ∧ out = putNum a.items.length ++ cat itemB (a.items.take i) ∧ q = out.length ∧ τ[0]? = some (.live ⟨2, [a.c]⟩) ∧ τ[r]? = some (.live ⟨1, rw_ byteC out⟩)) ∧ L = [y0, .ptr 0 2 0 0, y2, .sl r 1 0 q, .int .i64 (i : Nat), y5, y6, y7, y8, y17, y44, y69] ∧ σ = τ := ⟨_, rfl⟩
  first | refine awp_for I (a.items.length) ?_ ?_ | refine awp_seq (awp_for I (a.items.length) ?_ ?_)
  · rw [hI]
    refine ⟨0, putNum a.items.length, _, _, _, _, _, _, _, _, _, _, _, _, rfl, ?_, rfl, rfl⟩
    exact ⟨Nat.zero_le _, (List.append_nil _).symm, rfl, rfl, rfl⟩
  intro mM L σ hIn
  rw [hI] at hIn
  obtain ⟨i, out, r, q, τ, y0, y2, y5, y6, y7, y8, y17, y44, y69, rfl, hP, rfl, rfl⟩ := hIn
  obtain ⟨hi, ho, rfl, g0, gr⟩ := hP
  refine awp_sr2 ?_
  simp only [go_sem, R158_3, v158, p158, get_app g0, g0, State.c]
  refine awp_if rfl ?_ ?_
  · intro h1
    have h1 : i < a.items.length := by omega
    have hfit := hf1 _ (List.getElem_mem h1)
    have e1 := cat_take itemB h1
    have e2 := cat_le itemB a.items (i + 1)
    have e3 := congrArg List.length e1
    have e4 := congrArg List.length ho
    have e5 : (itemB a.items[i]).length = (cat putI a.items[i].nums).length + (putText a.items[i].entry.data).length := by unfold itemB; rw [List.length_append]
    rw [List.length_append] at e3 e4
    refine awp_skip ?_
    simp only [go_sem]
    refine awp_seq (awp_block ?_)
    refine awp_sr ?_
    simp only [go_sem, R158_4, v158, p158, get_app g0, State.c, rw_at _ h1, Item.c]
    refine awp_sd mixed rfl (by rfl) ?_
    simp only [go_sem, R158_5, v158, p158, get_app g0, State.c, rw_at _ h1, Item.c]
    have hp : σ.length = σ.length := rfl
    generalize hpp : σ.length = p at hp
    have hr0 := get_lt gr
    have hr1 := get_ne g0 gr (slot_ne (by omega))
    obtain ⟨τ0, hτ0⟩ : ∃ τ0, τ0 = σ ++ [.live ⟨5, [a.items[i].entry.c]⟩, .live ⟨1, rw_ intC a.items[i].nums⟩] := ⟨_, rfl⟩
    have k0 : τ0[0]? = some (.live ⟨2, [a.c]⟩) := by rw [hτ0]; exact get_app g0
    have ke : τ0[p]? = some (.live ⟨5, [a.items[i].entry.c]⟩) := by rw [hτ0, ← hpp, app_get]; rfl
    have kl : τ0[p + 1]? = some (.live ⟨1, rw_ intC a.items[i].nums⟩) := by rw [hτ0, ← hpp, app_getk]; rfl
    have kr : τ0[r]? = some (.live ⟨1, rw_ byteC out⟩) := by rw [hτ0]; exact get_app gr
    refine (fun G : AWP X158 _ _ _ τ0 => by rw [hτ0] at G; exact G) ?_
    have hfit1 := hfit.1
    have hn5 : a.items[i].nums.length = 5 := rfl
    refine awp_sr2 ?_
    simp only [go_sem, R158_6, v158, p158]
    have hrp : r < p := by omega
    clear hτ0 hpp hp
    obtain ⟨J, hJ⟩ : ∃ J : Nat → List V → Store → Prop, J = fun mM L σ => ∃ k out2 r2 q2 τ y0 y2 y8 y17 y44 y69, 5 - k = mM ∧ (k ≤ 5 ∧ out2 = out ++ cat putI (a.items[i].nums.take k) ∧ q2 = out2.length ∧ τ[0]? = some (.live ⟨2, [a.c]⟩) ∧ τ[p]? = some (.live ⟨5, [a.items[i].entry.c]⟩) ∧ τ[p + 1]? = some (.live ⟨1, rw_ intC a.items[i].nums⟩) ∧ τ[r2]? = some (.live ⟨1, rw_ byteC out2⟩) ∧ r2 ≠ p + 1) ∧ L = [y0, .ptr 0 2 0 0, y2, .sl r2 1 0 q2, .int .i64 (i : Nat), .ptr p 5 0 0, .sl (p + 1) 1 0 5, .int .i64 (k : Nat), y8, y17, y44, y69] ∧ σ = τ := ⟨_, rfl⟩
    first | refine awp_for J (5) ?_ ?_ | refine awp_seq (awp_for J (5) ?_ ?_)
    · rw [hJ]
      refine ⟨0, out, _, _, _, _, _, _, _, _, _, rfl, ?_, rfl, rfl⟩
      exact ⟨by omega, (List.append_nil _).symm, rfl, k0, ke, kl, kr, by omega⟩
    intro mM L σ hIn
    rw [hJ] at hIn
    obtain ⟨k, out2, r2, q2, τ, y0, y2, y8, y17, y44, y69, rfl, hP, rfl, rfl⟩ := hIn
    obtain ⟨hk, hk2, rfl, m0, me, ml, mr, mne⟩ := hP
    have c1 := cat_le putI a.items[i].nums k
    have c2 := congrArg List.length hk2
    rw [List.length_append] at c2
    refine awp_sr2 ?_
    simp only [go_sem, R158_7, v158, p158]
    refine awp_if rfl ?_ ?_
    · intro h2
      have h3 : k < a.items[i].nums.length := by omega
      have d1 := cat_take putI h3
      refine awp_skip ?_
      simp only [go_sem]
      first | refine awp_block ?_ | refine awp_seq (awp_block ?_)
      have d2 := putI_5 (hfit1 _ (List.getElem_mem h3))
      refine awp_reg ?_
      simp only [go_sem, R158_8, v158, p158, get_app ml, rw_at _ h3, intC, h2]
      refine run_see (specPutI_fz (hfit1 _ (List.getElem_mem h3))) false (Views.refl rfl) rfl (fun j hj => by first | omega | ((have hj0 : j = 0 := by omega); subst hj0; first | rfl | (simp only [Nat.add_zero, app_get, app_getk, sapp_get, sapp_getk, Nat.add_assoc, Nat.reduceAdd, List.getElem?_cons_zero, List.getElem?_cons_succ]; done) | simp)) (fun h => by cases h) ?_
      simp only [go_sem, v158, p158, get_app mr, set_app mr]
      refine ⟨by omega, ?_⟩
      refine awp_reg ?_
      simp only [go_sem, R158_9, v158, p158, wrap_succ (i := k) (by omega)]
      have z0 := get_ne m0 mr (slot_ne (by omega))
      have ze := get_ne me mr (slot_ne (by omega))
      have lt0 := get_lt ml
      refine ⟨5 - (k + 1), ?_, ?_⟩
      rotate_left
      rw [hJ]
      refine ⟨k + 1, out2 ++ putI a.items[i].nums[k], _, _, _, _, _, _, _, _, _, rfl, ?_, rfl, rfl⟩
      · refine ⟨by omega, by rw [hk2, d1, List.append_assoc], by simp, keep_get m0 z0, keep_get me ze, keep_get ml mne, ?_, by omega⟩
        first | (rw [sapp_getk]; rfl) | (rw [sapp_get]; rfl)
      · omega
    · intro h2
      refine awp_exit ?_
      simp only [go_sem]
      have : k = 5 := by omega
      subst this
      rw [List.take_of_length_le (by omega)] at hk2
      have dt := putText_len (s := a.items[i].entry.data) (by have := hfit.2; omega)
      refine awp_reg ?_
      simp only [go_sem, R158_10, v158, p158, get_app me, Entry.c]
      refine run_see (specPutText_fz a.items[i].entry.data (by have := hfit.2; omega)) false (Views.refl rfl) rfl (fun j hj => by first | omega | ((have hj0 : j = 0 := by omega); subst hj0; first | rfl | (simp only [Nat.add_zero, app_get, app_getk, sapp_get, sapp_getk, Nat.add_assoc, Nat.reduceAdd, List.getElem?_cons_zero, List.getElem?_cons_succ]; done) | simp)) (fun h => by cases h) ?_
      simp only [go_sem, v158, p158, get_app mr, set_app mr]
      refine ⟨by omega, ?_⟩
      refine awp_reg ?_
      simp only [go_sem, R158_11, v158, p158, wrap_succ (i := i) (by omega)]
      have z0 := get_ne m0 mr (slot_ne (by omega))
      refine ⟨a.items.length - (i + 1), ?_, ?_⟩
      rotate_left
      rw [hI]
      refine ⟨i + 1, out2 ++ putText a.items[i].entry.data, _, _, _, _, _, _, _, _, _, _, _, _, rfl, ?_, rfl, rfl⟩
      · refine ⟨by omega, by rw [hk2, e1, ho]; simp [itemB], by simp, keep_get m0 z0, ?_⟩
        first | (rw [sapp_getk]; rfl) | (rw [sapp_get]; rfl)
      · omega
  · intro h1
    refine awp_exit ?_
    simp only [go_sem]
    have : i = a.items.length := by omega
    subst this
    rw [List.take_length] at ho
    have e4 := congrArg List.length ho
    rw [List.length_append] at e4
    have z0 := get_ne g0 gr (slot_ne (by omega))
    refine awp_sr ?_
    simp only [go_sem, R158_12, v158, p158, get_app g0, State.c]
    refine run_see (specPutNum_fz a.floors.length (by omega)) false (Views.refl rfl) rfl (fun j hj => by first | omega | ((have hj0 : j = 0 := by omega); subst hj0; first | rfl | (simp only [Nat.add_zero, app_get, app_getk, sapp_get, sapp_getk, Nat.add_assoc, Nat.reduceAdd, List.getElem?_cons_zero, List.getElem?_cons_succ]; done) | simp)) (fun h => by cases h) ?_
    simp only [go_sem, v158, p158, get_app gr, set_app gr]
    refine ⟨by omega, ?_⟩
    refine awp_sr2 ?_
    simp only [go_sem, R158_13, v158, p158]
    clear hI
    generalize hq1 : out ++ putNum a.floors.length = out1
    have e6 := congrArg List.length hq1
    rw [List.length_append] at e6
    obtain ⟨J, hJ⟩ : ∃ J : Nat → List V → Store → Prop, J = fun mM L σ => ∃ i out r q τ y0 y2 y4 y5 y6 y7 y17 y44 y69, a.floors.length - i = mM ∧ (i ≤ a.floors.length ∧ out = out1 ++ cat floorB (a.floors.take i) ∧ q = out.length ∧ τ[0]? = some (.live ⟨2, [a.c]⟩) ∧ τ[r]? = some (.live ⟨1, rw_ byteC out⟩)) ∧ L = [y0, .ptr 0 2 0 0, y2, .sl r 1 0 q, y4, y5, y6, y7, .int .i64 (i : Nat), y17, y44, y69] ∧ σ = τ := ⟨_, rfl⟩
    first | refine awp_for J (a.floors.length) ?_ ?_ | refine awp_seq (awp_for J (a.floors.length) ?_ ?_)
    · rw [hJ]
      refine ⟨0, out1, _, _, _, _, _, _, _, _, _, _, _, _, rfl, ?_, rfl, rfl⟩
      refine ⟨Nat.zero_le _, (List.append_nil _).symm, by omega, keep_get g0 z0, ?_⟩
      first | (rw [sapp_getk]; rfl) | (rw [sapp_get]; rfl)
    intro mM L σ hIn
    rw [hJ] at hIn
    obtain ⟨i, out, r, q, τ, y0, y2, y4, y5, y6, y7, y17, y44, y69, rfl, hP, rfl, rfl⟩ := hIn
    obtain ⟨hi2, ho2, rfl, m0, mr⟩ := hP
    have zz := get_ne m0 mr (slot_ne (by omega))
    refine awp_sr2 ?_
    simp only [go_sem, R158_14, v158, p158, get_app m0, m0, State.c]
    refine awp_if rfl ?_ ?_
    · intro h2
      have h2 : i < a.floors.length := by omega
      have hfit := hf2 _ (List.getElem_mem h2)
      have c1 := cat_take floorB h2
      have c2 := cat_le floorB a.floors (i + 1)
      have c3 := congrArg List.length c1
      have c4 := congrArg List.length ho2
      have c5 : (floorB a.floors[i]).length = (putI a.floors[i].id).length + (putI a.floors[i].inc).length := by unfold floorB; rw [List.length_append]
      rw [List.length_append] at c3 c4
      refine awp_skip ?_
      simp only [go_sem]
      first | refine awp_block ?_ | refine awp_seq (awp_block ?_)
      refine awp_sr ?_
      simp only [go_sem, R158_15, v158, p158, get_app m0, State.c, rw_at _ h2, Floor.c]
      refine run_see (specPutI_fz hfit.1) false (Views.refl rfl) rfl (fun j hj => by first | omega | ((have hj0 : j = 0 := by omega); subst hj0; first | rfl | (simp only [Nat.add_zero, app_get, app_getk, sapp_get, sapp_getk, Nat.add_assoc, Nat.reduceAdd, List.getElem?_cons_zero, List.getElem?_cons_succ]; done) | simp)) (fun h => by cases h) ?_
      simp only [go_sem, v158, p158, get_app mr, set_app mr]
      refine ⟨by omega, ?_⟩
      generalize hq2 : out ++ putI a.floors[i].id = out2
      have c6 := congrArg List.length hq2
      rw [List.length_append] at c6
      rw [c6]
      refine awp_reg ?_
      simp only [go_sem, R158_16, v158, p158, keep_get m0 zz, State.c, rw_at _ h2, Floor.c]
      refine run_see (specPutI_fz hfit.2) false (Views.refl rfl) rfl (fun j hj => by first | omega | ((have hj0 : j = 0 := by omega); subst hj0; first | rfl | (simp only [Nat.add_zero, app_get, app_getk, sapp_get, sapp_getk, Nat.add_assoc, Nat.reduceAdd, List.getElem?_cons_zero, List.getElem?_cons_succ]; done) | simp)) (fun h => by cases h) ?_
      simp only [go_sem, v158, p158]
      refine ⟨by omega, ?_⟩
      refine awp_reg ?_
      simp only [go_sem, R158_17, v158, p158, wrap_succ (i := i) (by omega)]
      refine ⟨a.floors.length - (i + 1), ?_, ?_⟩
      rotate_left
      rw [hJ]
      refine ⟨i + 1, out2 ++ putI a.floors[i].inc, _, _, _, _, _, _, _, _, _, _, _, _, rfl, ?_, rfl, rfl⟩
      · refine ⟨by omega, by rw [← hq2, c1, ho2]; simp [floorB], by simp, keep_get m0 zz, ?_⟩
        first | (rw [sapp_getk]; rfl) | (rw [sapp_get]; rfl)
      · omega
    · intro h2
      refine awp_exit ?_
      simp only [go_sem]
      have : i = a.floors.length := by omega
      subst this
      rw [List.take_length] at ho2
      refine awp_sr ?_
      simp only [go_sem, R158_18, v158, p158]
      refine awp_ret ?_
      try simp only [go_sem]
      rw [hQ, show stateB a = out by rw [ho2, ← hq1, ho]; rfl]
      exact Ends.ownAt (.inl rfl) rfl mr rfl (bytes_ok _)
noncomputable def sBytes (a : State) : List UInt8 := if a.Right then stateB a else []
theorem sBytes_yes {a : State} (h : a.Right) : sBytes a = stateB a := if_pos h
theorem sBytes_no {a : State} (h : ¬ a.Right) : sBytes a = [] := if_neg h
-- not in this seat: spec.StateBytes
-- not in this seat: spec.StateBytes
theorem specL6Bytes_fz (a : State) (h : a.Fit) : FS Tryz.prog 158 [] [.agg a.c] (.fz 1 (rw_ byteC (stateB a))) [] := (specL6Bytes_ok a h).frz (bytes_ok _) (rw_len _ _).symm
theorem seven_fold (a b c d e f g : List UInt8) : [rowB a, rowB b, rowB c, rowB d, rowB e, rowB f, rowB g] = rw_ rowB [a, b, c, d, e, f, g] := rfl
theorem three_fold (a b c : List UInt8) : [rowB a, rowB b, rowB c] = rw_ rowB [a, b, c] := rfl
set_option maxHeartbeats 4000000 in
theorem implStateBytes_ok (a : State) (h : a.sz ≤ 1048576) : FS Tryz.prog 153 [] [.agg a.c] (.fz 1 (rw_ byteC (sBytes a))) [] := by
  refine FS.of (X := X153) (ac := A153) (os := O153) Tryz.func153 (by rfl) (by rfl) (by kernel_rfl) o153 (Nat.le_of_ble_eq_true rfl) ?_
  show AWP X153 A153 (Ends X153.vs O153 0 _ _) [.agg a.c, .tup [], .tup [], .tup [], .tup [], .tup [], .tup [], .tup [], .tup [], .tup [], .tup [], .tup [], .tup [], .tup [], .tup [], .tup []] []
  obtain ⟨Q, hQ⟩ : ∃ Q, Q = Ends X153.vs O153 0 (.fz 1 (rw_ byteC (sBytes a))) [] := ⟨_, rfl⟩
  rw [← hQ]
  refine awp_sr ?_
  simp only [go_sem, R153_0, v153, p153, State.c]
  refine awp_sr2 ?_
  simp only [go_sem, R153_1, v153, p153]
  refine run_see (implStateOk_ok a h) false (Views.refl rfl) rfl (fun j hj => by first | omega | ((have hj0 : j = 0 := by omega); subst hj0; first | rfl | (simp only [Nat.add_zero, app_get, app_getk, sapp_get, sapp_getk, Nat.add_assoc, Nat.reduceAdd, List.getElem?_cons_zero, List.getElem?_cons_succ]; done) | simp)) (fun h => by cases h) ?_
  simp only [go_sem, v153, p153]
  refine awp_if' rfl ?_ ?_
  · intro h1
    refine awp_sr ?_
    simp only [go_sem, R153_2, v153, p153]
    refine awp_ret ?_
    try simp only [go_sem]
    rw [hQ, sBytes_no h1]
    exact Ends.plain (.inl rfl) rfl (.nl 1) rfl
  intro h1
  obtain ⟨hf1, hf2, hl1, hl2⟩ := h1.fit h
  have h5 := putNum_5 (n := a.items.length) (by omega)
  have h6 := putNum_5 (n := a.floors.length) (by omega)
  have hb1 := cat_len itemB (xs := a.items) fun x hx => itemB_len (hf1 x hx)
  have hb2 := cat_len floorB (xs := a.floors) fun x hx => floorB_len (hf2 x hx)
  rw [sBytes_yes h1] at hQ
  refine awp_skip ?_
  simp only [go_sem]
  refine awp_sr ?_
  simp only [go_sem, R153_3, v153, p153, State.c]
  refine run_see (implPutNum_fz a.items.length (by omega)) false (Views.refl rfl) rfl (fun j hj => by first | omega | ((have hj0 : j = 0 := by omega); subst hj0; first | rfl | (simp only [Nat.add_zero, app_get, app_getk, sapp_get, sapp_getk, Nat.add_assoc, Nat.reduceAdd, List.getElem?_cons_zero, List.getElem?_cons_succ]; done) | simp)) (fun h => by cases h) ?_
  simp only [go_sem, v153, p153]
  refine awp_sr2 ?_
  simp only [go_sem, R153_4, v153, p153]
  obtain ⟨I, hI⟩ : ∃ I : Nat → List V → Store → Prop, I = fun mM L σ => ∃ i out rest y0 y2 y5 y6 y8 y11 y20 y55 y56 y57 y58, a.items.length - i = mM ∧ (i ≤ a.items.length ∧ out = putNum a.items.length ++ cat itemB (a.items.take i)) ∧ L = [y0, .ptr 0 2 0 0, y2, .fz 1 (rw_ byteC out), y5, y6, y8, y11, .fz 6 (rw_ Item.c a.items), .int .i64 (a.items.length : Nat), .int .i64 (i : Nat), y20, y55, y56, y57, y58] ∧ σ = .live ⟨2, [a.c]⟩ :: rest := ⟨_, rfl⟩
  first | refine awp_for I (a.items.length) ?_ ?_ | refine awp_seq (awp_for I (a.items.length) ?_ ?_)
  · rw [hI]
    refine ⟨0, _, _, _, _, _, _, _, _, _, _, _, _, _, rfl, ?_, rfl, rfl⟩
    exact ⟨Nat.zero_le _, (List.append_nil _).symm⟩
  intro mM L σ hIn
  rw [hI] at hIn
  obtain ⟨i, out, rest, y0, y2, y5, y6, y8, y11, y20, y55, y56, y57, y58, rfl, hP, rfl, rfl⟩ := hIn
  obtain ⟨hi, ho⟩ := hP
  refine awp_sr ?_
  simp only [go_sem, R153_5, v153, p153]
  refine awp_seq ?_
  refine awp_if rfl ?_ ?_
  · intro h1
    have h1 : i < a.items.length := by omega
    have hfit := hf1 _ (List.getElem_mem h1)
    have f1 := hfit.1
    have dt := putText_len (s := a.items[i].entry.data) (by have := hfit.2; omega)
    have e1 := cat_take itemB h1
    have e2 := cat_le itemB a.items (i + 1)
    have e3 := congrArg List.length e1
    have e4 := congrArg List.length ho
    have e5 := itemB_len hfit
    rw [List.length_append] at e3 e4
    refine awp_skip ?_
    simp only [go_sem]
    refine awp_seq (awp_block ?_)
    refine awp_sr ?_
    simp only [go_sem, R153_6, v153, p153, rw_at _ h1, Item.c]
    refine awp_sr ?_
    simp only [go_sem, R153_7, v153, p153]
    refine awp_draw0 mixed rfl (by rfl) ?_
    simp only [go_sem, R153_8, v153, p153]
    refine run_see (implPutI_fz (f1 a.items[i].id (by simp [Item.nums]))) false (Views.refl rfl) rfl (fun j hj => by first | omega | ((have hj0 : j = 0 := by omega); subst hj0; first | rfl | (simp only [Nat.add_zero, app_get, app_getk, sapp_get, sapp_getk, Nat.add_assoc, Nat.reduceAdd, List.getElem?_cons_zero, List.getElem?_cons_succ]; done) | simp)) (fun h => by cases h) ?_
    simp only [go_sem, v153, p153]
    refine run_see (implPutI_fz (f1 a.items[i].entry.inc (by simp [Item.nums]))) false (Views.refl rfl) rfl (fun j hj => by first | omega | ((have hj0 : j = 0 := by omega); subst hj0; first | rfl | (simp only [Nat.add_zero, app_get, app_getk, sapp_get, sapp_getk, Nat.add_assoc, Nat.reduceAdd, List.getElem?_cons_zero, List.getElem?_cons_succ]; done) | simp)) (fun h => by cases h) ?_
    simp only [go_sem, v153, p153]
    refine run_see (implPutI_fz (f1 a.items[i].entry.rank (by simp [Item.nums]))) false (Views.refl rfl) rfl (fun j hj => by first | omega | ((have hj0 : j = 0 := by omega); subst hj0; first | rfl | (simp only [Nat.add_zero, app_get, app_getk, sapp_get, sapp_getk, Nat.add_assoc, Nat.reduceAdd, List.getElem?_cons_zero, List.getElem?_cons_succ]; done) | simp)) (fun h => by cases h) ?_
    simp only [go_sem, v153, p153]
    refine run_see (implPutI_fz (f1 a.items[i].entry.beat (by simp [Item.nums]))) false (Views.refl rfl) rfl (fun j hj => by first | omega | ((have hj0 : j = 0 := by omega); subst hj0; first | rfl | (simp only [Nat.add_zero, app_get, app_getk, sapp_get, sapp_getk, Nat.add_assoc, Nat.reduceAdd, List.getElem?_cons_zero, List.getElem?_cons_succ]; done) | simp)) (fun h => by cases h) ?_
    simp only [go_sem, v153, p153]
    refine run_see (implPutI_fz (f1 a.items[i].entry.ver (by simp [Item.nums]))) false (Views.refl rfl) rfl (fun j hj => by first | omega | ((have hj0 : j = 0 := by omega); subst hj0; first | rfl | (simp only [Nat.add_zero, app_get, app_getk, sapp_get, sapp_getk, Nat.add_assoc, Nat.reduceAdd, List.getElem?_cons_zero, List.getElem?_cons_succ]; done) | simp)) (fun h => by cases h) ?_
    simp only [go_sem, v153, p153]
    refine run_see (implPutText_fz a.items[i].entry.data (by have := hfit.2; omega)) false (Views.refl rfl) rfl (fun j hj => by first | omega | ((have hj0 : j = 0 := by omega); subst hj0; first | rfl | (simp only [Nat.add_zero, app_get, app_getk, sapp_get, sapp_getk, Nat.add_assoc, Nat.reduceAdd, List.getElem?_cons_zero, List.getElem?_cons_succ]; done) | simp)) (fun h => by cases h) ?_
    simp only [go_sem, v153, p153, fz_fold, seven_fold]
    obtain ⟨ls, hls⟩ : ∃ ls, ls = [out, putI a.items[i].id, putI a.items[i].entry.inc, putI a.items[i].entry.rank, putI a.items[i].entry.beat, putI a.items[i].entry.ver, putText a.items[i].entry.data] := ⟨_, rfl⟩
    have hl7 : ls.length = 7 := by rw [hls]; rfl
    have hfl : ls.flatten = out ++ itemB a.items[i] := by rw [hls]; simp [itemB, cat, Item.nums]
    rw [← hls]
    have hj : ls.flatten.length ≤ lim := by rw [hfl, List.length_append]; simp [lim]; omega
    refine run_new (joined_ok ls hj (by omega)) true (.cons (View.row (by simp) (by simp) (by rw [rw_len, hl7]) (brows_ok _)) (.nil)) (by first | rfl | (simp only [Nat.add_zero, app_get, app_getk, sapp_get, sapp_getk, Nat.add_assoc, Nat.reduceAdd, List.getElem?_cons_zero, List.getElem?_cons_succ]; done) | simp) (bytes_ok _) (by simp [V.ids]) (fun _ => ⟨rfl, bytes_flat _⟩) ?_
    simp only [go_sem, v153, p153]
    refine awp_freeze (o := rest.length + 4) (ob := ⟨1, rw_ byteC ls.flatten⟩) (by simp) (bytes_ok _) ?_
    rw [hfl]
    have np : (0 : Nat) ≠ rest.length + 4 := by omega
    generalize hq : out ++ itemB a.items[i] = out2
    simp only [go_sem, v153, p153, frz_ptr _ _ _ _ _ np]
    refine awp_reg ?_
    simp only [go_sem, R153_9, v153, p153, wrap_succ (i := i) (by omega)]
    refine ⟨a.items.length - (i + 1), ?_, ?_⟩
    rotate_left
    rw [hI]
    refine ⟨i + 1, _, _, _, _, _, _, _, _, _, _, _, _, _, rfl, ?_, rfl, rfl⟩
    · exact ⟨by omega, by rw [e1, ← hq, ho, List.append_assoc]⟩
    · omega
  · intro h1
    refine awp_exit ?_
    simp only [go_sem]
    have : i = a.items.length := by omega
    subst this
    rw [List.take_length] at ho
    have e4 := congrArg List.length ho
    rw [List.length_append] at e4
    clear hI
    refine awp_sr ?_
    simp only [go_sem, R153_10, v153, p153, State.c]
    refine run_see (implPutNum_fz a.floors.length (by omega)) false (Views.refl rfl) rfl (fun j hj => by first | omega | ((have hj0 : j = 0 := by omega); subst hj0; first | rfl | (simp only [Nat.add_zero, app_get, app_getk, sapp_get, sapp_getk, Nat.add_assoc, Nat.reduceAdd, List.getElem?_cons_zero, List.getElem?_cons_succ]; done) | simp)) (fun h => by cases h) ?_
    simp only [go_sem, v153, p153, fz_fold, pair_fold]
    have hj : [out, putNum a.floors.length].flatten.length ≤ lim := by simp [lim]; omega
    refine run_new (joined_ok [out, putNum a.floors.length] hj (by simp)) true (.cons (View.row (by simp) (by simp) rfl (brows_ok _)) (.nil)) (by first | rfl | (simp only [Nat.add_zero, app_get, app_getk, sapp_get, sapp_getk, Nat.add_assoc, Nat.reduceAdd, List.getElem?_cons_zero, List.getElem?_cons_succ]; done) | simp) (bytes_ok _) (by simp [V.ids]) (fun _ => ⟨rfl, bytes_flat _⟩) ?_
    simp only [go_sem, v153, p153]
    refine awp_freeze (o := rest.length + 2) (ob := ⟨1, rw_ byteC [out, putNum a.floors.length].flatten⟩) (by simp) (bytes_ok _) ?_
    have np : (0 : Nat) ≠ rest.length + 2 := by omega
    generalize hq1 : [out, putNum a.floors.length].flatten = out1
    have hq1 : out ++ putNum a.floors.length = out1 := by rw [← hq1]; simp
    have e6 := congrArg List.length hq1
    rw [List.length_append] at e6
    simp only [go_sem, v153, p153, frz_ptr _ _ _ _ _ np]
    refine awp_sr2 ?_
    simp only [go_sem, R153_11, v153, p153, State.c]
    obtain ⟨J, hJ⟩ : ∃ J : Nat → List V → Store → Prop, J = fun mM L σ => ∃ i out rest y0 y1 y2 y5 y6 y8 y11 y17 y18 y19 y20 y58, a.floors.length - i = mM ∧ (i ≤ a.floors.length ∧ out = out1 ++ cat floorB (a.floors.take i)) ∧ L = [y0, y1, y2, .fz 1 (rw_ byteC out), y5, y6, y8, y11, y17, y18, y19, y20, .fz 2 (rw_ Floor.c a.floors), .int .i64 (a.floors.length : Nat), .int .i64 (i : Nat), y58] ∧ σ = .live ⟨2, [a.c]⟩ :: rest := ⟨_, rfl⟩
    first | refine awp_for J (a.floors.length) ?_ ?_ | refine awp_seq (awp_for J (a.floors.length) ?_ ?_)
    · rw [hJ]
      refine ⟨0, _, _, _, _, _, _, _, _, _, _, _, _, _, _, rfl, ?_, rfl, rfl⟩
      exact ⟨Nat.zero_le _, (List.append_nil _).symm⟩
    intro mM L σ hIn
    rw [hJ] at hIn
    obtain ⟨i, out, rest, y0, y1, y2, y5, y6, y8, y11, y17, y18, y19, y20, y58, rfl, hP, rfl, rfl⟩ := hIn
    obtain ⟨hi2, ho2⟩ := hP
    refine awp_sr ?_
    simp only [go_sem, R153_12, v153, p153]
    refine awp_seq ?_
    refine awp_if rfl ?_ ?_
    · intro h2
      have h2 : i < a.floors.length := by omega
      have hfit := hf2 _ (List.getElem_mem h2)
      have c1 := cat_take floorB h2
      have c2 := cat_le floorB a.floors (i + 1)
      have c3 := congrArg List.length c1
      have c4 := congrArg List.length ho2
      have c5 := floorB_len hfit
      rw [List.length_append] at c3 c4
      refine awp_skip ?_
      simp only [go_sem]
      refine awp_seq (awp_block ?_)
      refine awp_sr ?_
      simp only [go_sem, R153_13, v153, p153, rw_at _ h2, Floor.c]
      refine awp_draw0 mixed rfl (by rfl) ?_
      simp only [go_sem, R153_14, v153, p153]
      refine run_see (implPutI_fz hfit.1) false (Views.refl rfl) rfl (fun j hj => by first | omega | ((have hj0 : j = 0 := by omega); subst hj0; first | rfl | (simp only [Nat.add_zero, app_get, app_getk, sapp_get, sapp_getk, Nat.add_assoc, Nat.reduceAdd, List.getElem?_cons_zero, List.getElem?_cons_succ]; done) | simp)) (fun h => by cases h) ?_
      simp only [go_sem, v153, p153]
      refine run_see (implPutI_fz hfit.2) false (Views.refl rfl) rfl (fun j hj => by first | omega | ((have hj0 : j = 0 := by omega); subst hj0; first | rfl | (simp only [Nat.add_zero, app_get, app_getk, sapp_get, sapp_getk, Nat.add_assoc, Nat.reduceAdd, List.getElem?_cons_zero, List.getElem?_cons_succ]; done) | simp)) (fun h => by cases h) ?_
      simp only [go_sem, v153, p153, fz_fold, three_fold]
      have hfl : [out, putI a.floors[i].id, putI a.floors[i].inc].flatten = out ++ floorB a.floors[i] := by simp [floorB]
      have hj : [out, putI a.floors[i].id, putI a.floors[i].inc].flatten.length ≤ lim := by rw [hfl, List.length_append]; simp [lim]; omega
      refine run_new (joined_ok _ hj (by simp)) true (.cons (View.row (by simp) (by simp) rfl (brows_ok _)) (.nil)) (by first | rfl | (simp only [Nat.add_zero, app_get, app_getk, sapp_get, sapp_getk, Nat.add_assoc, Nat.reduceAdd, List.getElem?_cons_zero, List.getElem?_cons_succ]; done) | simp) (bytes_ok _) (by simp [V.ids]) (fun _ => ⟨rfl, bytes_flat _⟩) ?_
      simp only [go_sem, v153, p153]
      refine awp_freeze (o := rest.length + 3) (ob := ⟨1, rw_ byteC [out, putI a.floors[i].id, putI a.floors[i].inc].flatten⟩) (by simp) (bytes_ok _) ?_
      rw [hfl]
      have np : (0 : Nat) ≠ rest.length + 3 := by omega
      generalize hq : out ++ floorB a.floors[i] = out2
      simp only [go_sem, v153, p153, frz_ptr _ _ _ _ _ np]
      refine awp_reg ?_
      simp only [go_sem, R153_15, v153, p153, wrap_succ (i := i) (by omega)]
      refine ⟨a.floors.length - (i + 1), ?_, ?_⟩
      rotate_left
      rw [hJ]
      refine ⟨i + 1, _, _, _, _, _, _, _, _, _, _, _, _, _, _, rfl, ?_, rfl, rfl⟩
      · exact ⟨by omega, by rw [c1, ← hq, ho2, List.append_assoc]⟩
      · omega
    · intro h2
      refine awp_exit ?_
      simp only [go_sem]
      have : i = a.floors.length := by omega
      subst this
      rw [List.take_length] at ho2
      refine awp_sr ?_
      simp only [go_sem, R153_16, v153, p153]
      refine awp_ret ?_
      try simp only [go_sem]
      rw [hQ, show stateB a = out by rw [ho2, ← hq1, ho]; rfl]
      exact Ends.is (.inl rfl) rfl rfl rfl
end Go.Proofs.YtffigokicddekaaGreat.Abs
/- Rows of whole numbers looked through and compared; leaves; walked in both texts. No condition. -/
set_option linter.unusedVariables false
set_option linter.unusedSimpArgs false
set_option maxRecDepth 10000
namespace Go.Proofs.YtffigokicddekaaGreat.Abs
open Go Go.Proofs
def R204_0 : List AR := [⟨(some 4), none, 0, (.mov (.k (.bool false)))⟩]
def R204_1 : List AR := [⟨(some 5), none, 0, (.mov (.k (.int .i64 0)))⟩]
def R204_2 : List AR := [⟨(some 6), none, 0, (.mov (.t 5))⟩, ⟨(some 7), none, 0, (.mov (.t 0))⟩, ⟨(some 8), none, 0, (.len (.t 7))⟩, ⟨(some 9), none, 0, (.bin .lss (.t 6) (.t 8))⟩]
def R204_3 : List AR := [⟨(some 12), none, 0, (.mov (.t 0))⟩, ⟨(some 13), none, 0, (.mov (.t 5))⟩, ⟨(some 14), none, 0, (.iaddr 1 (.t 12) (.t 13))⟩, ⟨(some 15), none, 0, (.load 1 false (.t 14))⟩, ⟨(some 16), none, 0, (.mov (.t 1))⟩, ⟨(some 17), none, 0, (.bin .eql (.t 15) (.t 16))⟩]
def R204_4 : List AR := [⟨(some 4), none, 0, (.mov (.k (.bool true)))⟩]
def R204_5 : List AR := [⟨(some 10), none, 0, (.mov (.t 5))⟩, ⟨(some 11), none, 0, (.bin .add (.t 10) (.k (.int .i64 1)))⟩, ⟨(some 5), none, 0, (.mov (.t 11))⟩]
def A204_0 : AC := (.seq (.block 1 (.seq (.reg 0 R204_3) (.cond (.t 17) (.seq (.reg 0 R204_4) .ret) .skip))) (.reg 0 R204_5))
def L204_0 : AC := (.seq (.seq (.reg 0 R204_2) (.cond (.t 9) .skip (.exit 0))) A204_0)
def R204_6 : List AR := [⟨(some 4), none, 0, (.mov (.k (.bool false)))⟩]
def A204_1 : AC := (.seq (.reg 0 R204_6) .ret)
def A204_2 : AC := (.seq (.seq (.reg 0 R204_1) (.block 0 (.loop L204_0))) A204_1)
def A204 : AC := (.seq (.reg 0 R204_0) A204_2)
def O204 : List AO := [(.mov (.t 4))]
def G204 : Fns := ⟨fun f => false, fun f => 0, false⟩
noncomputable def X204 : Cx := ⟨Tryz.prog, G204, drawD, 18, [0, 1, 4, 5, 9, 17]⟩
theorem c204 : (Tryz.f204.body).bind (compC X204.P X204.Γ X204.D X204.nt) = some A204 := by kernel_rfl
theorem o204 : compRes X204.P Tryz.f204.results.toList = some O204 := by kernel_rfl
theorem v204 : X204.vs = [0, 1, 4, 5, 9, 17] := rfl
theorem p204 : X204.P = Tryz.prog := rfl
def R232_0 : List AR := [⟨(some 4), none, 0, (.mov (.k (.int .i64 0)))⟩]
def R232_1 : List AR := [⟨(some 6), none, 0, (.mov (.t 0))⟩, ⟨(some 7), none, 0, (.len (.t 6))⟩, ⟨(some 8), none, 0, (.mov (.k (.int .i64 0)))⟩]
def R232_2 : List AR := [⟨(some 9), none, 0, (.bin .lss (.t 8) (.t 7))⟩]
def R232_3 : List AR := [⟨(some 10), none, 0, (.mov (.t 8))⟩, ⟨(some 5), none, 0, (.mov (.t 10))⟩]
def R232_4 : List AR := [⟨(some 11), none, 0, (.mov (.t 1))⟩, ⟨(some 12), none, 0, (.mov (.t 0))⟩, ⟨(some 13), none, 0, (.mov (.t 5))⟩, ⟨(some 14), none, 0, (.iaddr 1 (.t 12) (.t 13))⟩, ⟨(some 15), none, 0, (.load 1 false (.t 14))⟩, ⟨(some 16), none, 0, (.bin .eql (.t 11) (.t 15))⟩]
def R232_5 : List AR := [⟨(some 17), none, 0, (.mov (.t 5))⟩, ⟨(some 4), none, 0, (.mov (.t 17))⟩]
def A232_0 : AC := (.seq (.reg 0 R232_4) (.cond (.t 16) (.seq (.reg 0 R232_5) .ret) .skip))
def R232_6 : List AR := [⟨(some 18), none, 0, (.bin .add (.t 8) (.k (.int .i64 1)))⟩, ⟨(some 8), none, 0, (.mov (.t 18))⟩]
def A232_1 : AC := (.seq (.block 1 (.seq (.reg 0 R232_3) A232_0)) (.reg 0 R232_6))
def A232_2 : AC := (.seq (.cond (.t 9) .skip (.exit 0)) A232_1)
def L232_0 : AC := (.seq (.reg 0 R232_2) A232_2)
def R232_7 : List AR := [⟨(some 4), none, 0, (.mov (.k (.int .i64 (-1))))⟩]
def A232_3 : AC := (.seq (.reg 0 R232_7) .ret)
def A232_4 : AC := (.seq (.seq (.reg 0 R232_1) (.block 0 (.loop L232_0))) A232_3)
def A232 : AC := (.seq (.reg 0 R232_0) A232_4)
def O232 : List AO := [(.mov (.t 4))]
def G232 : Fns := ⟨fun f => false, fun f => 0, false⟩
noncomputable def X232 : Cx := ⟨Tryz.prog, G232, drawD, 19, [0, 1, 4, 5, 7, 8, 9, 16]⟩
theorem c232 : (Tryz.f232.body).bind (compC X232.P X232.Γ X232.D X232.nt) = some A232 := by kernel_rfl
theorem o232 : compRes X232.P Tryz.f232.results.toList = some O232 := by kernel_rfl
theorem v232 : X232.vs = [0, 1, 4, 5, 7, 8, 9, 16] := rfl
theorem p232 : X232.P = Tryz.prog := rfl
def R201_0 : List AR := [⟨(some 4), none, 0, (.mov (.k (.bool false)))⟩]
def R201_1 : List AR := [⟨(some 5), none, 0, (.mov (.t 0))⟩, ⟨(some 6), none, 0, (.mov (.t 1))⟩, ⟨(some 7), none, 0, (.call false 0 0 232 [(.t 5), (.t 6)])⟩, ⟨(some 8), none, 0, (.bin .geq (.t 7) (.k (.int .i64 0)))⟩, ⟨(some 4), none, 0, (.mov (.t 8))⟩]
def A201_0 : AC := (.seq (.reg 0 R201_1) .ret)
def A201 : AC := (.seq (.reg 0 R201_0) A201_0)
def O201 : List AO := [(.mov (.t 4))]
def G201 : Fns := ⟨fun f => false, fun f => 0, false⟩
noncomputable def X201 : Cx := ⟨Tryz.prog, G201, drawD, 9, [0, 1, 4]⟩
theorem c201 : (Tryz.f201.body).bind (compC X201.P X201.Γ X201.D X201.nt) = some A201 := by kernel_rfl
theorem o201 : compRes X201.P Tryz.f201.results.toList = some O201 := by kernel_rfl
theorem v201 : X201.vs = [0, 1, 4] := rfl
theorem p201 : X201.P = Tryz.prog := rfl
def R90_0 : List AR := [⟨(some 4), none, 0, (.mov (.k (.bool false)))⟩]
def R90_1 : List AR := [⟨(some 6), none, 0, (.mov (.t 0))⟩, ⟨(some 7), none, 0, (.len (.t 6))⟩, ⟨(some 8), none, 0, (.mov (.t 1))⟩, ⟨(some 9), none, 0, (.len (.t 8))⟩, ⟨(some 10), none, 0, (.bin .neq (.t 7) (.t 9))⟩]
def R90_2 : List AR := [⟨(some 4), none, 0, (.mov (.k (.bool false)))⟩]
def R90_3 : List AR := [⟨(some 5), none, 0, (.mov (.k (.int .i64 0)))⟩]
def R90_4 : List AR := [⟨(some 11), none, 0, (.mov (.t 5))⟩, ⟨(some 12), none, 0, (.mov (.t 0))⟩, ⟨(some 13), none, 0, (.len (.t 12))⟩, ⟨(some 14), none, 0, (.bin .lss (.t 11) (.t 13))⟩]
def R90_5 : List AR := [⟨(some 17), none, 0, (.mov (.t 0))⟩, ⟨(some 18), none, 0, (.mov (.t 5))⟩, ⟨(some 19), none, 0, (.iaddr 1 (.t 17) (.t 18))⟩, ⟨(some 20), none, 0, (.load 1 false (.t 19))⟩, ⟨(some 21), none, 0, (.mov (.t 1))⟩, ⟨(some 22), none, 0, (.mov (.t 5))⟩, ⟨(some 23), none, 0, (.iaddr 1 (.t 21) (.t 22))⟩, ⟨(some 24), none, 0, (.load 1 false (.t 23))⟩, ⟨(some 25), none, 0, (.bin .neq (.t 20) (.t 24))⟩]
def R90_6 : List AR := [⟨(some 4), none, 0, (.mov (.k (.bool false)))⟩]
def R90_7 : List AR := [⟨(some 15), none, 0, (.mov (.t 5))⟩, ⟨(some 16), none, 0, (.bin .add (.t 15) (.k (.int .i64 1)))⟩, ⟨(some 5), none, 0, (.mov (.t 16))⟩]
def A90_0 : AC := (.seq (.block 1 (.seq (.draw 0 R90_5) (.cond (.t 25) (.seq (.reg 0 R90_6) .ret) .skip))) (.reg 0 R90_7))
def L90_0 : AC := (.seq (.seq (.reg 0 R90_4) (.cond (.t 14) .skip (.exit 0))) A90_0)
def R90_8 : List AR := [⟨(some 4), none, 0, (.mov (.k (.bool true)))⟩]
def A90_1 : AC := (.seq (.reg 0 R90_8) .ret)
def A90_2 : AC := (.seq (.seq (.reg 0 R90_3) (.block 0 (.loop L90_0))) A90_1)
def A90_3 : AC := (.seq (.seq (.reg 0 R90_1) (.cond (.t 10) (.seq (.reg 0 R90_2) .ret) .skip)) A90_2)
def A90 : AC := (.seq (.reg 0 R90_0) A90_3)
def O90 : List AO := [(.mov (.t 4))]
def G90 : Fns := ⟨fun f => false, fun f => 0, false⟩
noncomputable def X90 : Cx := ⟨Tryz.prog, G90, drawD, 26, [0, 1, 4, 5, 10, 14, 25]⟩
theorem c90 : (Tryz.f90.body).bind (compC X90.P X90.Γ X90.D X90.nt) = some A90 := by kernel_rfl
theorem o90 : compRes X90.P Tryz.f90.results.toList = some O90 := by kernel_rfl
theorem v90 : X90.vs = [0, 1, 4, 5, 10, 14, 25] := rfl
theorem p90 : X90.P = Tryz.prog := rfl
def R102_0 : List AR := [⟨(some 4), none, 0, (.mov (.k (.bool false)))⟩]
def R102_1 : List AR := [⟨(some 6), none, 0, (.mov (.t 0))⟩, ⟨(some 7), none, 0, (.len (.t 6))⟩, ⟨(some 8), none, 0, (.mov (.t 1))⟩, ⟨(some 9), none, 0, (.len (.t 8))⟩, ⟨(some 10), none, 0, (.bin .neq (.t 7) (.t 9))⟩]
def R102_2 : List AR := [⟨(some 4), none, 0, (.mov (.k (.bool false)))⟩]
def R102_3 : List AR := [⟨(some 11), none, 0, (.mov (.t 0))⟩, ⟨(some 12), none, 0, (.len (.t 11))⟩, ⟨(some 13), none, 0, (.mov (.k (.int .i64 0)))⟩]
def R102_4 : List AR := [⟨(some 14), none, 0, (.bin .lss (.t 13) (.t 12))⟩]
def R102_5 : List AR := [⟨(some 15), none, 0, (.mov (.t 13))⟩, ⟨(some 5), none, 0, (.mov (.t 15))⟩]
def R102_6 : List AR := [⟨(some 16), none, 0, (.mov (.t 0))⟩, ⟨(some 17), none, 0, (.mov (.t 5))⟩, ⟨(some 18), none, 0, (.iaddr 1 (.t 16) (.t 17))⟩, ⟨(some 19), none, 0, (.load 1 false (.t 18))⟩, ⟨(some 20), none, 0, (.mov (.t 1))⟩, ⟨(some 21), none, 0, (.mov (.t 5))⟩, ⟨(some 22), none, 0, (.iaddr 1 (.t 20) (.t 21))⟩, ⟨(some 23), none, 0, (.load 1 false (.t 22))⟩, ⟨(some 24), none, 0, (.bin .neq (.t 19) (.t 23))⟩]
def R102_7 : List AR := [⟨(some 4), none, 0, (.mov (.k (.bool false)))⟩]
def A102_0 : AC := (.seq (.draw 0 R102_6) (.cond (.t 24) (.seq (.reg 0 R102_7) .ret) .skip))
def R102_8 : List AR := [⟨(some 25), none, 0, (.bin .add (.t 13) (.k (.int .i64 1)))⟩, ⟨(some 13), none, 0, (.mov (.t 25))⟩]
def A102_1 : AC := (.seq (.block 1 (.seq (.reg 0 R102_5) A102_0)) (.reg 0 R102_8))
def A102_2 : AC := (.seq (.cond (.t 14) .skip (.exit 0)) A102_1)
def L102_0 : AC := (.seq (.reg 0 R102_4) A102_2)
def R102_9 : List AR := [⟨(some 4), none, 0, (.mov (.k (.bool true)))⟩]
def A102_3 : AC := (.seq (.reg 0 R102_9) .ret)
def A102_4 : AC := (.seq (.seq (.reg 0 R102_3) (.block 0 (.loop L102_0))) A102_3)
def A102_5 : AC := (.seq (.seq (.reg 0 R102_1) (.cond (.t 10) (.seq (.reg 0 R102_2) .ret) .skip)) A102_4)
def A102 : AC := (.seq (.reg 0 R102_0) A102_5)
def O102 : List AO := [(.mov (.t 4))]
def G102 : Fns := ⟨fun f => false, fun f => 0, false⟩
noncomputable def X102 : Cx := ⟨Tryz.prog, G102, drawD, 26, [0, 1, 4, 5, 10, 12, 13, 14, 24]⟩
theorem c102 : (Tryz.f102.body).bind (compC X102.P X102.Γ X102.D X102.nt) = some A102 := by kernel_rfl
theorem o102 : compRes X102.P Tryz.f102.results.toList = some O102 := by kernel_rfl
theorem v102 : X102.vs = [0, 1, 4, 5, 10, 12, 13, 14, 24] := rfl
theorem p102 : X102.P = Tryz.prog := rfl
def R205_0 : List AR := [⟨(some 2), none, 0, (.mov (.k (.int .i64 0)))⟩]
def R205_1 : List AR := [⟨(some 3), none, 0, (.mov (.t 0))⟩, ⟨(some 4), none, 0, (.call false 0 0 146 [(.t 3)])⟩, ⟨(some 5), none, 0, (.not (.t 4))⟩]
def R205_2 : List AR := [⟨(some 2), none, 0, (.mov (.k (.int .i64 (-1))))⟩]
def R205_3 : List AR := [⟨(some 6), none, 0, (.mov (.t 0))⟩, ⟨(some 7), none, 0, (.call false 0 0 160 [(.t 6)])⟩, ⟨(some 8), none, 0, (.call false 0 0 157 [(.t 7)])⟩, ⟨(some 9), none, 0, (.bin .rem (.t 8) (.k (.int .i64 4)))⟩, ⟨(some 2), none, 0, (.mov (.t 9))⟩]
def A205_0 : AC := (.seq (.reg 0 R205_3) .ret)
def A205_1 : AC := (.seq (.seq (.reg 0 R205_1) (.cond (.t 5) (.seq (.reg 0 R205_2) .ret) .skip)) A205_0)
def A205 : AC := (.seq (.reg 0 R205_0) A205_1)
def O205 : List AO := [(.mov (.t 2))]
def G205 : Fns := ⟨fun f => false, fun f => 0, false⟩
noncomputable def X205 : Cx := ⟨Tryz.prog, G205, drawD, 10, [0, 2, 5]⟩
theorem c205 : (Tryz.f205.body).bind (compC X205.P X205.Γ X205.D X205.nt) = some A205 := by kernel_rfl
theorem o205 : compRes X205.P Tryz.f205.results.toList = some O205 := by kernel_rfl
theorem v205 : X205.vs = [0, 2, 5] := rfl
theorem p205 : X205.P = Tryz.prog := rfl
def R202_0 : List AR := [⟨(some 2), none, 0, (.mov (.k (.int .i64 0)))⟩]
def R202_1 : List AR := [⟨(some 3), none, 0, (.mov (.t 0))⟩, ⟨(some 4), none, 0, (.call false 0 0 118 [(.t 3)])⟩, ⟨(some 5), none, 0, (.not (.t 4))⟩]
def R202_2 : List AR := [⟨(some 2), none, 0, (.mov (.k (.int .i64 (-1))))⟩]
def R202_3 : List AR := [⟨(some 6), none, 0, (.mov (.t 0))⟩, ⟨(some 7), none, 0, (.call false 0 0 156 [(.t 6)])⟩, ⟨(some 8), none, 0, (.call false 0 0 152 [(.t 7)])⟩, ⟨(some 9), none, 0, (.bin .rem (.t 8) (.k (.int .i64 4)))⟩, ⟨(some 2), none, 0, (.mov (.t 9))⟩]
def A202_0 : AC := (.seq (.reg 0 R202_3) .ret)
def A202_1 : AC := (.seq (.seq (.reg 0 R202_1) (.cond (.t 5) (.seq (.reg 0 R202_2) .ret) .skip)) A202_0)
def A202 : AC := (.seq (.reg 0 R202_0) A202_1)
def O202 : List AO := [(.mov (.t 2))]
def G202 : Fns := ⟨fun f => false, fun f => 0, false⟩
noncomputable def X202 : Cx := ⟨Tryz.prog, G202, drawD, 10, [0, 2, 5]⟩
theorem c202 : (Tryz.f202.body).bind (compC X202.P X202.Γ X202.D X202.nt) = some A202 := by kernel_rfl
theorem o202 : compRes X202.P Tryz.f202.results.toList = some O202 := by kernel_rfl
theorem v202 : X202.vs = [0, 2, 5] := rfl
theorem p202 : X202.P = Tryz.prog := rfl
def R88_0 : List AR := [⟨(some 2), none, 0, (.box 0 2 (.t 0))⟩, ⟨(some 3), none, 0, (.box 1 2 (.t 1))⟩, ⟨(some 4), none, 0, (.mov (.k (.bool false)))⟩]
def R88_1 : List AR := [⟨(some 5), none, 0, (.faddr 0 (.t 2))⟩, ⟨(some 6), none, 0, (.load 1 false (.t 5))⟩, ⟨(some 7), none, 0, (.faddr 0 (.t 3))⟩, ⟨(some 8), none, 0, (.load 1 false (.t 7))⟩, ⟨(some 9), none, 0, (.call false 0 0 90 [(.t 6), (.t 8)])⟩, ⟨(some 10), none, 0, (.mov (.t 9))⟩, ⟨(some 11), (some (10, true)), 0, (.faddr 1 (.t 2))⟩, ⟨(some 12), (some (10, true)), 0, (.load 1 false (.t 11))⟩, ⟨(some 13), (some (10, true)), 0, (.faddr 1 (.t 3))⟩, ⟨(some 14), (some (10, true)), 0, (.load 1 false (.t 13))⟩, ⟨(some 15), (some (10, true)), 0, (.bin .eql (.t 12) (.t 14))⟩, ⟨(some 16), none, 0, (.pick (.t 10) (.t 15) (.k (.bool false)))⟩, ⟨(some 4), none, 0, (.mov (.t 16))⟩]
def A88_0 : AC := (.seq (.reg 0 R88_1) .ret)
def A88 : AC := (.seq (.reg 2 R88_0) A88_0)
def O88 : List AO := [(.mov (.t 4))]
def G88 : Fns := ⟨fun f => false, fun f => 0, false⟩
noncomputable def X88 : Cx := ⟨Tryz.prog, G88, drawD, 17, [0, 1, 2, 3, 4]⟩
theorem c88 : (Tryz.f88.body).bind (compC X88.P X88.Γ X88.D X88.nt) = some A88 := by kernel_rfl
theorem o88 : compRes X88.P Tryz.f88.results.toList = some O88 := by kernel_rfl
theorem v88 : X88.vs = [0, 1, 2, 3, 4] := rfl
theorem p88 : X88.P = Tryz.prog := rfl
def R64_0 : List AR := [⟨(some 2), none, 0, (.box 0 2 (.t 0))⟩, ⟨(some 3), none, 0, (.box 1 2 (.t 1))⟩, ⟨(some 4), none, 0, (.mov (.k (.bool false)))⟩]
def R64_1 : List AR := [⟨(some 5), none, 0, (.faddr 0 (.t 2))⟩, ⟨(some 6), none, 0, (.load 1 false (.t 5))⟩, ⟨(some 7), none, 0, (.faddr 0 (.t 3))⟩, ⟨(some 8), none, 0, (.load 1 false (.t 7))⟩, ⟨(some 9), none, 0, (.call false 0 0 102 [(.t 6), (.t 8)])⟩, ⟨(some 10), none, 0, (.mov (.t 9))⟩, ⟨(some 11), (some (10, true)), 0, (.faddr 1 (.t 2))⟩, ⟨(some 12), (some (10, true)), 0, (.load 1 false (.t 11))⟩, ⟨(some 13), (some (10, true)), 0, (.faddr 1 (.t 3))⟩, ⟨(some 14), (some (10, true)), 0, (.load 1 false (.t 13))⟩, ⟨(some 15), (some (10, true)), 0, (.bin .eql (.t 12) (.t 14))⟩, ⟨(some 16), none, 0, (.pick (.t 10) (.t 15) (.k (.bool false)))⟩, ⟨(some 4), none, 0, (.mov (.t 16))⟩]
def A64_0 : AC := (.seq (.reg 0 R64_1) .ret)
def A64 : AC := (.seq (.reg 2 R64_0) A64_0)
def O64 : List AO := [(.mov (.t 4))]
def G64 : Fns := ⟨fun f => false, fun f => 0, false⟩
noncomputable def X64 : Cx := ⟨Tryz.prog, G64, drawD, 17, [0, 1, 2, 3, 4]⟩
theorem c64 : (Tryz.f64.body).bind (compC X64.P X64.Γ X64.D X64.nt) = some A64 := by kernel_rfl
theorem o64 : compRes X64.P Tryz.f64.results.toList = some O64 := by kernel_rfl
theorem v64 : X64.vs = [0, 1, 2, 3, 4] := rfl
theorem p64 : X64.P = Tryz.prog := rfl
theorem specL1Has_ok (xs : List Int) (x : Int) (h : xs.length ≤ 1048576) : FS Tryz.prog 204 [] [.fz 1 (rw_ intC xs), .int .i64 x] (.bool (decide (x ∈ xs))) [] := by
  refine FS.of (X := X204) (ac := A204) (os := O204) Tryz.func204 (by rfl) (by rfl) (by kernel_rfl) o204 (Nat.le_of_ble_eq_true rfl) ?_
  show AWP X204 A204 (Ends X204.vs O204 0 _ _) [.fz 1 (rw_ intC xs), .int .i64 x, .tup [], .tup [], .tup [], .tup []] []
  obtain ⟨Q, hQ⟩ : ∃ Q, Q = Ends X204.vs O204 0 (.bool (decide (x ∈ xs))) [] := ⟨_, rfl⟩
  rw [← hQ]
  have fin : ∀ L σ vV, resVs O204 (look X204.vs L) σ = some [vV] → vV = (.bool (decide (x ∈ xs))) → Q .ret L σ := by
    intro L σ vV h1 h2
    rw [hQ]
    exact Ends.is (.inl rfl) h1 (by simp only [packV, h2]) rfl
  refine awp_sr ?_
  simp only [go_sem, R204_0, v204, p204]
  refine awp_sr2 ?_
  simp only [go_sem, R204_1, v204, p204]
  obtain ⟨I, hI⟩ : ∃ I : Nat → List V → Store → Prop, I = fun mM L σ => ∃ i rest y4 y9 y17, mM = xs.length - i ∧ i ≤ xs.length ∧ (∀ j y, j < i → xs[j]? = some y → y ≠ x) ∧ L = [.fz 1 (rw_ intC xs), .int .i64 x, y4, .int .i64 (i : Nat), y9, y17] ∧ σ = rest := ⟨_, rfl⟩
  first | refine awp_for I xs.length ?_ ?_ | refine awp_seq (awp_for I xs.length ?_ ?_)
  · rw [hI]; refine ⟨0, _, _, _, _, rfl, Nat.zero_le _, ?_, rfl, rfl⟩
    intro j y h; omega
  intro mM L σ hIn
  rw [hI] at hIn
  obtain ⟨i, rest, y4, y9, y17, rfl, hi, hP, rfl, rfl⟩ := hIn
  refine awp_sr2 ?_
  simp only [go_sem, R204_2, v204, p204]
  refine awp_if rfl ?_ ?_
  · intro h1
    have h1 : i < xs.length := by omega
    refine awp_skip ?_
    simp only [go_sem]
    refine awp_seq (awp_block ?_)
    refine awp_sr ?_
    simp only [go_sem, R204_3, v204, p204, rw_at _ h1, intC]
    refine awp_if rfl ?_ ?_
    · intro h2
      refine awp_sr ?_
      simp only [go_sem, R204_4, v204, p204]
      refine awp_ret ?_
      try simp only [go_sem]
      exact fin _ _ (.bool true) rfl (congrArg V.bool (decide_eq_true (h2 ▸ List.getElem_mem h1)).symm)
    · intro h2
      refine awp_skip ?_
      simp only [go_sem]
      refine awp_reg ?_
      simp only [go_sem, R204_5, v204, p204, wrap_succ (i := i) (by omega)]
      refine ⟨xs.length - (i + 1), by omega, ?_⟩
      rw [hI]
      refine ⟨i + 1, _, _, _, _, rfl, by omega, ?_, rfl, rfl⟩
      exact upto_succ (p := fun _ y => y ≠ x) hP h1 h2
  · intro h1
    refine awp_exit ?_
    simp only [go_sem]
    have hall := upto_all (p := fun _ y => y ≠ x) hP (by omega)
    refine awp_sr ?_
    simp only [go_sem, R204_6, v204, p204]
    refine awp_ret ?_
    try simp only [go_sem]
    refine fin _ _ (.bool false) rfl (congrArg V.bool (decide_eq_false fun e => ?_)).symm
    obtain ⟨j, hj⟩ := List.mem_iff_getElem?.1 e
    exact hall j x hj rfl
/-- the first place of x, counted from k -/
def idxL : List Int → Nat → Int → Int
  | [], _, _ => -1
  | y :: ys, k, x => if x = y then (k : Int) else idxL ys (k + 1) x
theorem idxL_at {xs : List Int} {i : Nat} (h : i < xs.length) (k : Nat) (x : Int) : idxL (xs.drop i) k x = if x = xs[i] then (k : Int) else idxL (xs.drop (i + 1)) (k + 1) x := by
  rw [List.drop_eq_getElem_cons h]; rfl
theorem idxL_has : ∀ (xs : List Int) (k : Nat) (x : Int), 0 ≤ idxL xs k x ↔ x ∈ xs
  | [], k, x => by simp [idxL]
  | y :: ys, k, x => by
    unfold idxL
    split
    · rename_i h; simp [h]
    · rename_i h; rw [idxL_has ys (k + 1) x]; simp [h]
theorem index_ok (xs : List Int) (x : Int) (h : xs.length ≤ 1048576) : FS Tryz.prog 232 [] [.fz 1 (rw_ intC xs), .int .i64 x] (.int .i64 (idxL xs 0 x)) [] := by
  refine FS.of (X := X232) (ac := A232) (os := O232) Tryz.func232 (by rfl) (by rfl) (by kernel_rfl) o232 (Nat.le_of_ble_eq_true rfl) ?_
  show AWP X232 A232 (Ends X232.vs O232 0 _ _) [.fz 1 (rw_ intC xs), .int .i64 x, .tup [], .tup [], .tup [], .tup [], .tup [], .tup []] []
  obtain ⟨Q, hQ⟩ : ∃ Q, Q = Ends X232.vs O232 0 (.int .i64 (idxL xs 0 x)) [] := ⟨_, rfl⟩
  rw [← hQ]
  have fin : ∀ L σ vV, resVs O232 (look X232.vs L) σ = some [vV] → vV = (.int .i64 (idxL xs 0 x)) → Q .ret L σ := by
    intro L σ vV h1 h2
    rw [hQ]
    exact Ends.is (.inl rfl) h1 (by simp only [packV, h2]) rfl
  refine awp_sr ?_
  simp only [go_sem, R232_0, v232, p232]
  refine awp_sr2 ?_
  simp only [go_sem, R232_1, v232, p232]
  obtain ⟨I, hI⟩ : ∃ I : Nat → List V → Store → Prop, I = fun mM L σ => ∃ i rest y4 y5 y9 y16, mM = xs.length - i ∧ i ≤ xs.length ∧ (idxL xs 0 x = idxL (xs.drop i) i x) ∧ L = [.fz 1 (rw_ intC xs), .int .i64 x, y4, y5, .int .i64 (xs.length : Nat), .int .i64 (i : Nat), y9, y16] ∧ σ = rest := ⟨_, rfl⟩
  first | refine awp_for I xs.length ?_ ?_ | refine awp_seq (awp_for I xs.length ?_ ?_)
  · rw [hI]; refine ⟨0, _, _, _, _, _, rfl, Nat.zero_le _, ?_, rfl, rfl⟩
    rfl
  intro mM L σ hIn
  rw [hI] at hIn
  obtain ⟨i, rest, y4, y5, y9, y16, rfl, hi, hP, rfl, rfl⟩ := hIn
  refine awp_sr ?_
  simp only [go_sem, R232_2, v232, p232]
  refine awp_seq ?_
  refine awp_if rfl ?_ ?_
  · intro h1
    have h1 : i < xs.length := by omega
    have e1 := idxL_at h1 i x
    refine awp_skip ?_
    simp only [go_sem]
    refine awp_seq (awp_block ?_)
    refine awp_sr ?_
    simp only [go_sem, R232_3, v232, p232]
    refine awp_sr ?_
    simp only [go_sem, R232_4, v232, p232, rw_at _ h1, intC]
    refine awp_if rfl ?_ ?_
    · intro h2
      refine awp_sr ?_
      simp only [go_sem, R232_5, v232, p232]
      refine awp_ret ?_
      try simp only [go_sem]
      exact fin _ _ _ rfl (congrArg (V.int .i64) (by rw [hP, e1, if_pos h2]))
    · intro h2
      refine awp_skip ?_
      simp only [go_sem]
      refine awp_reg ?_
      simp only [go_sem, R232_6, v232, p232, wrap_succ (i := i) (by omega)]
      refine ⟨xs.length - (i + 1), by omega, ?_⟩
      rw [hI]
      refine ⟨i + 1, _, _, _, _, _, rfl, by omega, ?_, rfl, rfl⟩
      rw [hP, e1, if_neg h2]
  · intro h1
    refine awp_exit ?_
    simp only [go_sem]
    refine awp_sr ?_
    simp only [go_sem, R232_7, v232, p232]
    refine awp_ret ?_
    try simp only [go_sem]
    exact fin _ _ _ rfl (congrArg (V.int .i64) (by rw [hP, List.drop_eq_nil_of_le (by omega)]; rfl))
theorem contains_ok (xs : List Int) (x : Int) (h : xs.length ≤ 1048576) : FS Tryz.prog 201 [] [.fz 1 (rw_ intC xs), .int .i64 x] (.bool (decide (x ∈ xs))) [] := by
  refine FS.of (X := X201) (ac := A201) (os := O201) Tryz.func201 (by rfl) (by rfl) (by kernel_rfl) o201 (Nat.le_of_ble_eq_true rfl) ?_
  show AWP X201 A201 (Ends X201.vs O201 0 _ _) [.fz 1 (rw_ intC xs), .int .i64 x, .tup []] []
  obtain ⟨Q, hQ⟩ : ∃ Q, Q = Ends X201.vs O201 0 (.bool (decide (x ∈ xs))) [] := ⟨_, rfl⟩
  rw [← hQ]
  have fin : ∀ L σ vV, resVs O201 (look X201.vs L) σ = some [vV] → vV = (.bool (decide (x ∈ xs))) → Q .ret L σ := by
    intro L σ vV h1 h2
    rw [hQ]
    exact Ends.is (.inl rfl) h1 (by simp only [packV, h2]) rfl
  refine awp_sr ?_
  simp only [go_sem, R201_0, v201, p201]
  refine awp_sr ?_
  simp only [go_sem, R201_1, v201, p201]
  refine run_see (index_ok xs x h) false (Views.refl rfl) rfl (fun j hj => by first | omega | ((have hj0 : j = 0 := by omega); subst hj0; first | rfl | (simp only [Nat.add_zero, app_get, app_getk, sapp_get, sapp_getk, Nat.add_assoc, Nat.reduceAdd, List.getElem?_cons_zero, List.getElem?_cons_succ]; done) | simp)) (fun h => by cases h) ?_
  simp only [go_sem, v201, p201]
  refine awp_ret ?_
  try simp only [go_sem]
  refine fin _ _ _ rfl (congrArg V.bool ?_)
  have := idxL_has xs 0 x
  simp only [this]
theorem specL1Same_ok (xs ys : List Int) (h : xs.length ≤ 1048576) : FS Tryz.prog 90 [] [.fz 1 (rw_ intC xs), .fz 1 (rw_ intC ys)] (.bool (decide (xs = ys))) [] := by
  refine FS.of (X := X90) (ac := A90) (os := O90) Tryz.func90 (by rfl) (by rfl) (by kernel_rfl) o90 (Nat.le_of_ble_eq_true rfl) ?_
  show AWP X90 A90 (Ends X90.vs O90 0 _ _) [.fz 1 (rw_ intC xs), .fz 1 (rw_ intC ys), .tup [], .tup [], .tup [], .tup [], .tup []] []
  obtain ⟨Q, hQ⟩ : ∃ Q, Q = Ends X90.vs O90 0 (.bool (decide (xs = ys))) [] := ⟨_, rfl⟩
  rw [← hQ]
  have fin : ∀ L σ vV, resVs O90 (look X90.vs L) σ = some [vV] → vV = (.bool (decide (xs = ys))) → Q .ret L σ := by
    intro L σ vV h1 h2
    rw [hQ]
    exact Ends.is (.inl rfl) h1 (by simp only [packV, h2]) rfl
  refine awp_sr ?_
  simp only [go_sem, R90_0, v90, p90]
  refine awp_sr2 ?_
  simp only [go_sem, R90_1, v90, p90]
  refine awp_if rfl ?_ ?_
  · intro h1
    refine awp_sr ?_
    simp only [go_sem, R90_2, v90, p90]
    refine awp_ret ?_
    try simp only [go_sem]
    exact fin _ _ (.bool false) rfl (congrArg V.bool (decide_eq_false fun e => h1 (by rw [e]))).symm
  intro h1
  have hl : xs.length = ys.length := by omega
  refine awp_skip ?_
  simp only [go_sem]
  refine awp_sr2 ?_
  simp only [go_sem, R90_3, v90, p90]
  obtain ⟨I, hI⟩ : ∃ I : Nat → List V → Store → Prop, I = fun mM L σ => ∃ i rest y4 y10 y14 y25, mM = xs.length - i ∧ i ≤ xs.length ∧ (xs.take i = ys.take i) ∧ L = [.fz 1 (rw_ intC xs), .fz 1 (rw_ intC ys), y4, .int .i64 (i : Nat), y10, y14, y25] ∧ σ = rest := ⟨_, rfl⟩
  first | refine awp_for I xs.length ?_ ?_ | refine awp_seq (awp_for I xs.length ?_ ?_)
  · rw [hI]; refine ⟨0, _, _, _, _, _, rfl, Nat.zero_le _, ?_, rfl, rfl⟩
    simp
  intro mM L σ hIn
  rw [hI] at hIn
  obtain ⟨i, rest, y4, y10, y14, y25, rfl, hi, hP, rfl, rfl⟩ := hIn
  refine awp_sr2 ?_
  simp only [go_sem, R90_4, v90, p90]
  refine awp_if rfl ?_ ?_
  · intro h2
    have h2 : i < xs.length := by omega
    have h3 : i < ys.length := by omega
    refine awp_skip ?_
    simp only [go_sem]
    refine awp_seq (awp_block ?_)
    refine awp_sd mixed rfl (by rfl) ?_
    simp only [go_sem, R90_5, v90, p90, rw_at _ h2, rw_at _ h3, intC]
    refine awp_if rfl ?_ ?_
    · intro h4
      refine awp_sr ?_
      simp only [go_sem, R90_6, v90, p90]
      refine awp_ret ?_
      try simp only [go_sem]
      exact fin _ _ (.bool false) rfl (congrArg V.bool (decide_eq_false fun e => h4 (by subst e; rfl))).symm
    · intro h4
      have h4 : xs[i] = ys[i] := by simpa using h4
      refine awp_skip ?_
      simp only [go_sem]
      refine awp_reg ?_
      simp only [go_sem, R90_7, v90, p90, wrap_succ (i := i) (by omega)]
      refine ⟨xs.length - (i + 1), by omega, ?_⟩
      rw [hI]
      refine ⟨i + 1, _, _, _, _, _, rfl, by omega, ?_, rfl, rfl⟩
      rw [List.take_succ_eq_append_getElem h2, List.take_succ_eq_append_getElem h3, hP, h4]
  · intro h2
    refine awp_exit ?_
    simp only [go_sem]
    refine awp_sr ?_
    simp only [go_sem, R90_8, v90, p90]
    refine awp_ret ?_
    try simp only [go_sem]
    have : i = xs.length := by omega
    subst this
    rw [List.take_length, hl, List.take_length] at hP
    exact fin _ _ (.bool true) rfl (congrArg V.bool (decide_eq_true hP).symm)
theorem equal_ok (xs ys : List Int) (h : xs.length ≤ 1048576) : FS Tryz.prog 102 [] [.fz 1 (rw_ intC xs), .fz 1 (rw_ intC ys)] (.bool (decide (xs = ys))) [] := by
  refine FS.of (X := X102) (ac := A102) (os := O102) Tryz.func102 (by rfl) (by rfl) (by kernel_rfl) o102 (Nat.le_of_ble_eq_true rfl) ?_
  show AWP X102 A102 (Ends X102.vs O102 0 _ _) [.fz 1 (rw_ intC xs), .fz 1 (rw_ intC ys), .tup [], .tup [], .tup [], .tup [], .tup [], .tup [], .tup []] []
  obtain ⟨Q, hQ⟩ : ∃ Q, Q = Ends X102.vs O102 0 (.bool (decide (xs = ys))) [] := ⟨_, rfl⟩
  rw [← hQ]
  have fin : ∀ L σ vV, resVs O102 (look X102.vs L) σ = some [vV] → vV = (.bool (decide (xs = ys))) → Q .ret L σ := by
    intro L σ vV h1 h2
    rw [hQ]
    exact Ends.is (.inl rfl) h1 (by simp only [packV, h2]) rfl
  refine awp_sr ?_
  simp only [go_sem, R102_0, v102, p102]
  refine awp_sr2 ?_
  simp only [go_sem, R102_1, v102, p102]
  refine awp_if rfl ?_ ?_
  · intro h1
    refine awp_sr ?_
    simp only [go_sem, R102_2, v102, p102]
    refine awp_ret ?_
    try simp only [go_sem]
    exact fin _ _ (.bool false) rfl (congrArg V.bool (decide_eq_false fun e => h1 (by rw [e]))).symm
  intro h1
  have hl : xs.length = ys.length := by omega
  refine awp_skip ?_
  simp only [go_sem]
  refine awp_sr2 ?_
  simp only [go_sem, R102_3, v102, p102]
  obtain ⟨I, hI⟩ : ∃ I : Nat → List V → Store → Prop, I = fun mM L σ => ∃ i rest y4 y5 y10 y14 y24, mM = xs.length - i ∧ i ≤ xs.length ∧ (xs.take i = ys.take i) ∧ L = [.fz 1 (rw_ intC xs), .fz 1 (rw_ intC ys), y4, y5, y10, .int .i64 (xs.length : Nat), .int .i64 (i : Nat), y14, y24] ∧ σ = rest := ⟨_, rfl⟩
  first | refine awp_for I xs.length ?_ ?_ | refine awp_seq (awp_for I xs.length ?_ ?_)
  · rw [hI]; refine ⟨0, _, _, _, _, _, _, rfl, Nat.zero_le _, ?_, rfl, rfl⟩
    simp
  intro mM L σ hIn
  rw [hI] at hIn
  obtain ⟨i, rest, y4, y5, y10, y14, y24, rfl, hi, hP, rfl, rfl⟩ := hIn
  refine awp_sr ?_
  simp only [go_sem, R102_4, v102, p102]
  refine awp_seq ?_
  refine awp_if rfl ?_ ?_
  · intro h2
    have h2 : i < xs.length := by omega
    have h3 : i < ys.length := by omega
    refine awp_skip ?_
    simp only [go_sem]
    refine awp_seq (awp_block ?_)
    refine awp_sr ?_
    simp only [go_sem, R102_5, v102, p102]
    refine awp_sd mixed rfl (by rfl) ?_
    simp only [go_sem, R102_6, v102, p102, rw_at _ h2, rw_at _ h3, intC]
    refine awp_if rfl ?_ ?_
    · intro h4
      refine awp_sr ?_
      simp only [go_sem, R102_7, v102, p102]
      refine awp_ret ?_
      try simp only [go_sem]
      exact fin _ _ (.bool false) rfl (congrArg V.bool (decide_eq_false fun e => h4 (by subst e; rfl))).symm
    · intro h4
      have h4 : xs[i] = ys[i] := by simpa using h4
      refine awp_skip ?_
      simp only [go_sem]
      refine awp_reg ?_
      simp only [go_sem, R102_8, v102, p102, wrap_succ (i := i) (by omega)]
      refine ⟨xs.length - (i + 1), by omega, ?_⟩
      rw [hI]
      refine ⟨i + 1, _, _, _, _, _, _, rfl, by omega, ?_, rfl, rfl⟩
      rw [List.take_succ_eq_append_getElem h2, List.take_succ_eq_append_getElem h3, hP, h4]
  · intro h2
    refine awp_exit ?_
    simp only [go_sem]
    refine awp_sr ?_
    simp only [go_sem, R102_9, v102, p102]
    refine awp_ret ?_
    try simp only [go_sem]
    have : i = xs.length := by omega
    subst this
    rw [List.take_length, hl, List.take_length] at hP
    exact fin _ _ (.bool true) rfl (congrArg V.bool (decide_eq_true hP).symm)
/-- a node's leaf -/
def leafOf (id : Int) : Int := if 0 ≤ id ∧ id ≤ 4 then ((crc (putI id) % 4 : Nat) : Int) else -1
theorem specLeafOf_ok (id : Int) : FS Tryz.prog 205 [] [.int .i64 id] (.int .i64 (leafOf id)) [] := by
  refine FS.of (X := X205) (ac := A205) (os := O205) Tryz.func205 (by rfl) (by rfl) (by kernel_rfl) o205 (Nat.le_of_ble_eq_true rfl) ?_
  show AWP X205 A205 (Ends X205.vs O205 0 _ _) [.int .i64 id, .tup [], .tup []] []
  obtain ⟨Q, hQ⟩ : ∃ Q, Q = Ends X205.vs O205 0 (.int .i64 (leafOf id)) [] := ⟨_, rfl⟩
  rw [← hQ]
  have fin : ∀ L σ vV, resVs O205 (look X205.vs L) σ = some [vV] → vV = (.int .i64 (leafOf id)) → Q .ret L σ := by
    intro L σ vV h1 h2
    rw [hQ]
    exact Ends.is (.inl rfl) h1 (by simp only [packV, h2]) rfl
  refine awp_sr ?_
  simp only [go_sem, R205_0, v205, p205]
  refine awp_sr2 ?_
  simp only [go_sem, R205_1, v205, p205]
  refine run_see (l3Node_ok _) false (Views.refl rfl) rfl (fun j hj => by first | omega | ((have hj0 : j = 0 := by omega); subst hj0; first | rfl | (simp only [Nat.add_zero, app_get, app_getk, sapp_get, sapp_getk, Nat.add_assoc, Nat.reduceAdd, List.getElem?_cons_zero, List.getElem?_cons_succ]; done) | simp)) (fun h => by cases h) ?_
  simp only [go_sem, v205, p205]
  refine awp_if' rfl ?_ ?_
  · intro h1
    refine awp_sr ?_
    simp only [go_sem, R205_2, v205, p205]
    refine awp_ret ?_
    try simp only [go_sem]
    exact fin _ _ (.int .i64 (-1)) rfl (congrArg (V.int .i64) (if_neg h1).symm)
  intro h1
  have hf : fit id := ⟨h1.1, by omega⟩
  have h5 := putI_5 hf
  refine awp_skip ?_
  simp only [go_sem]
  refine awp_sr ?_
  simp only [go_sem, R205_3, v205, p205]
  refine run_see (specPutI_fz hf) false (Views.refl rfl) rfl (fun j hj => by first | omega | ((have hj0 : j = 0 := by omega); subst hj0; first | rfl | (simp only [Nat.add_zero, app_get, app_getk, sapp_get, sapp_getk, Nat.add_assoc, Nat.reduceAdd, List.getElem?_cons_zero, List.getElem?_cons_succ]; done) | simp)) (fun h => by cases h) ?_
  simp only [go_sem, v205, p205]
  refine run_see (specCrc_ok (putI id) (by simp only [lim]; omega)) false (Views.refl rfl) rfl (fun j hj => by first | omega | ((have hj0 : j = 0 := by omega); subst hj0; first | rfl | (simp only [Nat.add_zero, app_get, app_getk, sapp_get, sapp_getk, Nat.add_assoc, Nat.reduceAdd, List.getElem?_cons_zero, List.getElem?_cons_succ]; done) | simp)) (fun h => by cases h) ?_
  simp only [go_sem, v205, p205, show ((crc (putI id) : Int).tmod 4) = ((crc (putI id) % 4 : Nat) : Int) from tmod_nat _ 4]
  refine awp_ret ?_
  try simp only [go_sem]
  exact fin _ _ _ rfl (congrArg (V.int .i64) (if_pos h1).symm)
theorem implLeafOf_ok (id : Int) : FS Tryz.prog 202 [] [.int .i64 id] (.int .i64 (leafOf id)) [] := by
  refine FS.of (X := X202) (ac := A202) (os := O202) Tryz.func202 (by rfl) (by rfl) (by kernel_rfl) o202 (Nat.le_of_ble_eq_true rfl) ?_
  show AWP X202 A202 (Ends X202.vs O202 0 _ _) [.int .i64 id, .tup [], .tup []] []
  obtain ⟨Q, hQ⟩ : ∃ Q, Q = Ends X202.vs O202 0 (.int .i64 (leafOf id)) [] := ⟨_, rfl⟩
  rw [← hQ]
  have fin : ∀ L σ vV, resVs O202 (look X202.vs L) σ = some [vV] → vV = (.int .i64 (leafOf id)) → Q .ret L σ := by
    intro L σ vV h1 h2
    rw [hQ]
    exact Ends.is (.inl rfl) h1 (by simp only [packV, h2]) rfl
  refine awp_sr ?_
  simp only [go_sem, R202_0, v202, p202]
  refine awp_sr2 ?_
  simp only [go_sem, R202_1, v202, p202]
  refine run_see (isNode_ok _) false (Views.refl rfl) rfl (fun j hj => by first | omega | ((have hj0 : j = 0 := by omega); subst hj0; first | rfl | (simp only [Nat.add_zero, app_get, app_getk, sapp_get, sapp_getk, Nat.add_assoc, Nat.reduceAdd, List.getElem?_cons_zero, List.getElem?_cons_succ]; done) | simp)) (fun h => by cases h) ?_
  simp only [go_sem, v202, p202]
  refine awp_if' rfl ?_ ?_
  · intro h1
    refine awp_sr ?_
    simp only [go_sem, R202_2, v202, p202]
    refine awp_ret ?_
    try simp only [go_sem]
    exact fin _ _ (.int .i64 (-1)) rfl (congrArg (V.int .i64) (if_neg h1).symm)
  intro h1
  have hf : fit id := ⟨h1.1, by omega⟩
  have h5 := putI_5 hf
  refine awp_skip ?_
  simp only [go_sem]
  refine awp_sr ?_
  simp only [go_sem, R202_3, v202, p202]
  refine run_see (implPutI_fz hf) false (Views.refl rfl) rfl (fun j hj => by first | omega | ((have hj0 : j = 0 := by omega); subst hj0; first | rfl | (simp only [Nat.add_zero, app_get, app_getk, sapp_get, sapp_getk, Nat.add_assoc, Nat.reduceAdd, List.getElem?_cons_zero, List.getElem?_cons_succ]; done) | simp)) (fun h => by cases h) ?_
  simp only [go_sem, v202, p202]
  refine run_see (implCrc_ok (putI id) (by simp only [lim]; omega)) false (Views.refl rfl) rfl (fun j hj => by first | omega | ((have hj0 : j = 0 := by omega); subst hj0; first | rfl | (simp only [Nat.add_zero, app_get, app_getk, sapp_get, sapp_getk, Nat.add_assoc, Nat.reduceAdd, List.getElem?_cons_zero, List.getElem?_cons_succ]; done) | simp)) (fun h => by cases h) ?_
  simp only [go_sem, v202, p202, show ((crc (putI id) : Int).tmod 4) = ((crc (putI id) % 4 : Nat) : Int) from tmod_nat _ 4]
  refine awp_ret ?_
  try simp only [go_sem]
  exact fin _ _ _ rfl (congrArg (V.int .i64) (if_pos h1).symm)
theorem Tree.ext' {a b : Tree} : (a.leaves = b.leaves ∧ a.root = b.root) ↔ a = b := by
  cases a; cases b; simp
theorem specL11Tree_ok (a b : Tree) (h : a.leaves.length ≤ 1048576) : FS Tryz.prog 88 [] [.agg a.c, .agg b.c] (.bool (decide (a = b))) [] := by
  refine FS.of (X := X88) (ac := A88) (os := O88) Tryz.func88 (by rfl) (by rfl) (by kernel_rfl) o88 (Nat.le_of_ble_eq_true rfl) ?_
  show AWP X88 A88 (Ends X88.vs O88 0 _ _) [.agg a.c, .agg b.c, .tup [], .tup [], .tup []] []
  obtain ⟨Q, hQ⟩ : ∃ Q, Q = Ends X88.vs O88 0 (.bool (decide (a = b))) [] := ⟨_, rfl⟩
  rw [← hQ]
  have fin : ∀ L σ vV, resVs O88 (look X88.vs L) σ = some [vV] → vV = (.bool (decide (a = b))) → Q .ret L σ := by
    intro L σ vV h1 h2
    rw [hQ]
    exact Ends.is (.inl rfl) h1 (by simp only [packV, h2]) rfl
  refine awp_sr ?_
  simp only [go_sem, R88_0, v88, p88, Tree.c]
  obtain ⟨K1, hK1⟩ : ∃ K : List V → Store → Prop, K = fun L σ => ∃ q y0 y1 y2 y3, L = [y0, y1, y2, y3, .bool q] ∧ σ = [.live ⟨2, [a.c]⟩, .live ⟨2, [b.c]⟩] ∧ q = decide (a = b) := ⟨_, rfl⟩
  refine awp_srK (K1) ?_ ?_
  · simp only [go_sem, R88_1, v88, p88, Tree.c]
    repeat' first
      | (refine selP_if rfl (fun hG => ?_) (fun hG => ?_) <;> first | simp only [go_sem, v88, p88, eq_false hG, Tree.c] | simp only [go_sem, v88, p88, eq_true hG, Tree.c])
      | (refine selP_ifn rfl (fun hG => ?_) (fun hG => ?_) <;> first | simp only [go_sem, v88, p88, eq_false hG, Tree.c] | simp only [go_sem, v88, p88, eq_true hG, Tree.c])
      | (refine selN_if rfl (fun hG => ?_) (fun hG => ?_) <;> first | simp only [go_sem, v88, p88, eq_false hG, Tree.c] | simp only [go_sem, v88, p88, eq_true hG, Tree.c])
      | (refine selN_ifn rfl (fun hG => ?_) (fun hG => ?_) <;> first | simp only [go_sem, v88, p88, eq_false hG, Tree.c] | simp only [go_sem, v88, p88, eq_true hG, Tree.c])
      | (refine selB_if rfl (fun hG => ?_) (fun hG => ?_) <;> simp only [go_sem, v88, p88, hG, Tree.c])
      | (refine selB_ifn rfl (fun hG => ?_) (fun hG => ?_) <;> simp only [go_sem, v88, p88, hG, Tree.c])
      | (refine run_see (specL1Same_ok a.leaves b.leaves h) false (Views.refl rfl) rfl (fun j hj => by omega) (fun h => by cases h) ?_; simp only [go_sem, v88, p88, Tree.c])
    all_goals rw [hK1]
    all_goals refine ⟨_, _, _, _, _, rfl, rfl, ?_⟩
    all_goals have key := @Tree.ext' a b
    all_goals grind
  intro L σ hq
  rw [hK1] at hq
  obtain ⟨q, y0, y1, y2, y3, rfl, rfl, hq⟩ := hq
  subst hq
  refine awp_ret ?_
  try simp only [go_sem]
  exact fin _ _ _ rfl rfl
theorem implTreeSame_ok (a b : Tree) (h : a.leaves.length ≤ 1048576) : FS Tryz.prog 64 [] [.agg a.c, .agg b.c] (.bool (decide (a = b))) [] := by
  refine FS.of (X := X64) (ac := A64) (os := O64) Tryz.func64 (by rfl) (by rfl) (by kernel_rfl) o64 (Nat.le_of_ble_eq_true rfl) ?_
  show AWP X64 A64 (Ends X64.vs O64 0 _ _) [.agg a.c, .agg b.c, .tup [], .tup [], .tup []] []
  obtain ⟨Q, hQ⟩ : ∃ Q, Q = Ends X64.vs O64 0 (.bool (decide (a = b))) [] := ⟨_, rfl⟩
  rw [← hQ]
  have fin : ∀ L σ vV, resVs O64 (look X64.vs L) σ = some [vV] → vV = (.bool (decide (a = b))) → Q .ret L σ := by
    intro L σ vV h1 h2
    rw [hQ]
    exact Ends.is (.inl rfl) h1 (by simp only [packV, h2]) rfl
  refine awp_sr ?_
  simp only [go_sem, R64_0, v64, p64, Tree.c]
  obtain ⟨K2, hK2⟩ : ∃ K : List V → Store → Prop, K = fun L σ => ∃ q y0 y1 y2 y3, L = [y0, y1, y2, y3, .bool q] ∧ σ = [.live ⟨2, [a.c]⟩, .live ⟨2, [b.c]⟩] ∧ q = decide (a = b) := ⟨_, rfl⟩
  refine awp_srK (K2) ?_ ?_
  · simp only [go_sem, R64_1, v64, p64, Tree.c]
    repeat' first
      | (refine selP_if rfl (fun hG => ?_) (fun hG => ?_) <;> first | simp only [go_sem, v64, p64, eq_false hG, Tree.c] | simp only [go_sem, v64, p64, eq_true hG, Tree.c])
      | (refine selP_ifn rfl (fun hG => ?_) (fun hG => ?_) <;> first | simp only [go_sem, v64, p64, eq_false hG, Tree.c] | simp only [go_sem, v64, p64, eq_true hG, Tree.c])
      | (refine selN_if rfl (fun hG => ?_) (fun hG => ?_) <;> first | simp only [go_sem, v64, p64, eq_false hG, Tree.c] | simp only [go_sem, v64, p64, eq_true hG, Tree.c])
      | (refine selN_ifn rfl (fun hG => ?_) (fun hG => ?_) <;> first | simp only [go_sem, v64, p64, eq_false hG, Tree.c] | simp only [go_sem, v64, p64, eq_true hG, Tree.c])
      | (refine selB_if rfl (fun hG => ?_) (fun hG => ?_) <;> simp only [go_sem, v64, p64, hG, Tree.c])
      | (refine selB_ifn rfl (fun hG => ?_) (fun hG => ?_) <;> simp only [go_sem, v64, p64, hG, Tree.c])
      | (refine run_see (equal_ok a.leaves b.leaves h) false (Views.refl rfl) rfl (fun j hj => by omega) (fun h => by cases h) ?_; simp only [go_sem, v64, p64, Tree.c])
    all_goals rw [hK2]
    all_goals refine ⟨_, _, _, _, _, rfl, rfl, ?_⟩
    all_goals have key := @Tree.ext' a b
    all_goals grind
  intro L σ hq
  rw [hK2] at hq
  obtain ⟨q, y0, y1, y2, y3, rfl, rfl, hq⟩ := hq
  subst hq
  refine awp_ret ?_
  try simp only [go_sem]
  exact fin _ _ _ rfl rfl
end Go.Proofs.YtffigokicddekaaGreat.Abs
