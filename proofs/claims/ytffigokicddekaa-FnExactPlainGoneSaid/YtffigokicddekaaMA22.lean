/- Rules and rewriting lemmas in the form in which the walks use them. No condition. -/
import Derived.Test.YtffigokicddekaaMA21
set_option linter.unusedVariables false
set_option linter.unusedSimpArgs false
namespace Go.Proofs.Ytffigokicddekaa.Abs
open Go

/-- behind one round of a loop -/
def rnd (id : Nat) (I : Nat → List V → Store → Prop) (n : Nat) (Q : Exit → List V → Store → Prop) : Exit → List V → Store → Prop
  | .normal, L, σ => ∃ m, m < n ∧ I m L σ
  | .exit i, L, σ => if i = id then Q .normal L σ else Q (.exit i) L σ
  | e, L, σ => Q e L σ

section
variable {X : Cx} {Q : Exit → List V → Store → Prop} {L : List V} {σ : Store}

theorem awp_sr {m : Nat} {rs : List AR} {y : AC} (h : runL X.P σ.length rs (look X.vs L) (σ ++ List.replicate m .free) fun a σ' => AWP X y Q (X.vs.map a) σ') : AWP X (.seq (.reg m rs) y) Q L σ :=
  awp_seq (awp_reg h)
theorem awp_sr2 {m : Nat} {rs : List AR} {y z : AC} (h : runL X.P σ.length rs (look X.vs L) (σ ++ List.replicate m .free) fun a σ' => AWP X y (thn (AWP X z Q) Q) (X.vs.map a) σ') : AWP X (.seq (.seq (.reg m rs) y) z) Q L σ :=
  awp_seq (awp_seq (awp_reg h))

/-- where nothing but reading is drawn, the order of the text will do -/
theorem runD_of_runL {P : Program} {b : Nat} {ws : List Nat} : ∀ {rs : List AR} {a : Env} {σ : Store} {Q : Env → Store → Prop}, (rs.all fun r => r.lab == 0) = true → runL P b rs a σ Q → runD P b ws rs a σ Q
  | [], a, σ, Q, _, h => h
  | r :: rs, a, σ, Q, hl, ⟨a', σ', h1, h2⟩ => by
    simp only [List.all_cons, Bool.and_eq_true, beq_iff_eq] at hl
    refine ⟨⟨fun h => ?_, fun h => ?_, fun h => ?_⟩, a', σ', h1, runD_of_runL hl.2 h2⟩ <;> (rw [hl.1] at h; simp at h)

theorem awp_draw0 (hm : X.P.follows .mixedOrders = true) (hD : X.D = drawD) {m : Nat} {rs : List AR} (hl : (rs.all fun r => r.lab == 0) = true) (h : runL X.P σ.length rs (look X.vs L) (σ ++ List.replicate m .free) fun a σ' => Q .normal (X.vs.map a) σ') : AWP X (.draw m rs) Q L σ :=
  awp_draw hm hD [] (runD_of_runL hl h)
theorem awp_sd (hm : X.P.follows .mixedOrders = true) (hD : X.D = drawD) {m : Nat} {rs : List AR} {y : AC} (hl : (rs.all fun r => r.lab == 0) = true) (h : runL X.P σ.length rs (look X.vs L) (σ ++ List.replicate m .free) fun a σ' => AWP X y Q (X.vs.map a) σ') : AWP X (.seq (.draw m rs) y) Q L σ :=
  awp_seq (awp_draw0 hm hD hl h)
theorem awp_sd2 (hm : X.P.follows .mixedOrders = true) (hD : X.D = drawD) {m : Nat} {rs : List AR} {y z : AC} (hl : (rs.all fun r => r.lab == 0) = true) (h : runL X.P σ.length rs (look X.vs L) (σ ++ List.replicate m .free) fun a σ' => AWP X y (thn (AWP X z Q) Q) (X.vs.map a) σ') : AWP X (.seq (.seq (.draw m rs) y) z) Q L σ :=
  awp_seq (awp_seq (awp_draw0 hm hD hl h))

theorem awp_if {o : Opd} {x y : AC} {p : Prop} [Decidable p] (ho : o.ev (look X.vs L) = .bool (decide p)) (h1 : p → AWP X x Q L σ) (h2 : ¬ p → AWP X y Q L σ) : AWP X (.cond o x y) Q L σ :=
  awp_cond ho (fun h => h1 (of_decide_eq_true h)) (fun h => h2 (of_decide_eq_false h))
theorem awp_if' {o : Opd} {x y : AC} {p : Prop} [Decidable p] (ho : o.ev (look X.vs L) = .bool (!decide p)) (h1 : ¬ p → AWP X x Q L σ) (h2 : p → AWP X y Q L σ) : AWP X (.cond o x y) Q L σ :=
  awp_cond ho (fun h => h1 (by simpa using h)) (fun h => h2 (by simpa using h))

theorem awp_for {id : Nat} {x : AC} (I : Nat → List V → Store → Prop) (n : Nat) (h0 : I n L σ) (round : ∀ n L σ, I n L σ → AWP X x (rnd id I n Q) L σ) : AWP X (.block id (.loop x)) Q L σ := by
  refine awp_block (awp_loop I n h0 fun n L σ h => ?_)
  refine awp_mono (round n L σ h) ?_
  intro e L' σ' hq
  cases e <;> exact hq
end

section
variable {P : Program} {b : Nat} {d : Option Nat} {l : Nat} {rs : List AR} {a : Env} {σ : Store} {Q : Env → Store → Prop}
@[go_sem] theorem andT_ite (c : Prop) [Decidable c] (x : Option (V × Store)) : andT P b rs d a Q (if c then x else none) = (c ∧ andT P b rs d a Q x) := by
  apply propext
  split
  · rename_i h; exact ⟨fun k => ⟨h, k⟩, fun k => k.2⟩
  · rename_i h; exact ⟨fun k => k.elim, fun k => absurd k.1 h⟩
@[go_sem] theorem map_ite {α β : Type} (c : Prop) [Decidable c] (x : Option α) (f : α → β) : (if c then x else none).map f = if c then x.map f else none := by split <;> rfl
@[go_sem] theorem thn_normal (K : List V → Store → Prop) (Q : Exit → List V → Store → Prop) (L : List V) (σ : Store) : thn K Q .normal L σ = K L σ := rfl
@[go_sem] theorem thn_ret (K : List V → Store → Prop) (Q : Exit → List V → Store → Prop) (L : List V) (σ : Store) : thn K Q .ret L σ = Q .ret L σ := rfl
@[go_sem] theorem thn_exit (K : List V → Store → Prop) (Q : Exit → List V → Store → Prop) (i : Nat) (L : List V) (σ : Store) : thn K Q (.exit i) L σ = Q (.exit i) L σ := rfl
@[go_sem] theorem inB_normal (id : Nat) (Q : Exit → List V → Store → Prop) (L : List V) (σ : Store) : inB id Q .normal L σ = Q .normal L σ := rfl
@[go_sem] theorem inB_ret (id : Nat) (Q : Exit → List V → Store → Prop) (L : List V) (σ : Store) : inB id Q .ret L σ = Q .ret L σ := rfl
@[go_sem] theorem inB_exit (id i : Nat) (Q : Exit → List V → Store → Prop) (L : List V) (σ : Store) : inB id Q (.exit i) L σ = if i = id then Q .normal L σ else Q (.exit i) L σ := rfl
@[go_sem] theorem rnd_normal (id n : Nat) (I : Nat → List V → Store → Prop) (Q : Exit → List V → Store → Prop) (L : List V) (σ : Store) : rnd id I n Q .normal L σ = ∃ m, m < n ∧ I m L σ := rfl
@[go_sem] theorem rnd_ret (id n : Nat) (I : Nat → List V → Store → Prop) (Q : Exit → List V → Store → Prop) (L : List V) (σ : Store) : rnd id I n Q .ret L σ = Q .ret L σ := rfl
@[go_sem] theorem rnd_exit (id n i : Nat) (I : Nat → List V → Store → Prop) (Q : Exit → List V → Store → Prop) (L : List V) (σ : Store) : rnd id I n Q (.exit i) L σ = if i = id then Q .normal L σ else Q (.exit i) L σ := rfl
end

@[go_sem] theorem store_none (σ : Store) : σ ++ List.replicate 0 Slot.free = σ := by simp
@[go_sem] theorem isFree_eq (σ : Store) (o : Nat) : isFree σ o = (σ[o]? = some .free) := rfl
attribute [go_sem] List.map_cons List.map_nil List.length_nil List.length_cons List.replicate_succ List.replicate_zero List.append_nil List.nil_append List.cons_append List.getElem?_cons_zero List.getElem?_cons_succ List.set_cons_zero List.set_cons_succ
  Option.map_some Option.map_none lenV bounds intOf? binV intBin strBin rows V.cells V.cell fillV fillR splice scalarEq cellsEq
  List.take_succ_cons List.take_zero List.drop_zero List.drop_succ_cons List.take_nil List.drop_nil Option.elim_some Option.elim_none Int.toNat_natCast packV resVs List.length_map List.length_append
  List.all_cons List.all_nil Bool.and_true Bool.true_and true_and and_true List.length_replicate List.getElem?_map

theorem lives_nil : lives [] = [] := rfl
theorem lives_cons (ob : Ob) (obs : List Ob) : lives (ob :: obs) = .live ob :: lives obs := rfl
attribute [go_sem] lives_nil lives_cons

@[go_sem] theorem nn (n : Nat) : (0 ≤ (n : Int)) = True := by simp
@[go_sem] theorem one_t (cs : List V) : one true cs = some (.agg cs) := rfl
@[go_sem] theorem one_f (x : V) : one false [x] = some x := rfl
attribute [go_sem] Bool.false_eq_true ge_iff_le Nat.le_refl Nat.zero_le Nat.add_zero Nat.zero_add

theorem wrap_i64 {n : Int} (h1 : -9223372036854775808 ≤ n) (h2 : n ≤ 9223372036854775807) : IntKind.wrap .i64 n = n := by
  rw [IntKind.wrap_i64]; omega
theorem wrap_succ {i : Nat} (h : i < 9223372036854775807) : IntKind.wrap .i64 ((i : Int) + 1) = ((i + 1 : Nat) : Int) := by
  rw [wrap_i64] <;> omega

/-- the end of a function that leaves its arguments' objects as σo says, and hands nothing else over -/
theorem Ends.keep {vs : List Nat} {os : List AO} {v : V} {e : Exit} {L : List V} {σ : Store} {σo : List Ob} (he : e = .ret ∨ e = .normal) {rs : List V} (hr : resVs os (look vs L) σ = some rs) (hle : VLe (packV rs) v) (hv : v.closed = true)
    (hat : ∀ (k : Nat) ob, σo[k]? = some ob → σ[k]? = some (.live ob)) (hcl : ∀ ob ∈ σo, ob.closed) : Ends vs os σo.length v σo e L σ :=
  ⟨he, rs, v, σ, List.range σo.length, hr, .say hle, ⟨by simp, List.nodup_range, Nat.le_refl _, fun k h => by simp [h], fun k o ob h1 h2 => by
    have : k < σo.length := (List.getElem?_eq_some_iff.1 h2).1
    simp [this] at h1; subst h1; exact hat k ob h2, (ren_closed _ v hv).symm, fun k hk => by rw [closed_ids v hv] at hk; simp at hk, hcl⟩⟩

mutual
theorem ren_eq {f g : Nat → Nat} (h : ∀ k, k = 0 → f k = g k) : ∀ v : V, (∀ k ∈ v.ids, k = 0) → v.ren f = v.ren g
  | .int _ _, _ => rfl
  | .bool _, _ => rfl
  | .str _, _ => rfl
  | .nilp, _ => rfl
  | .ptr o _ _ _, hk => by simp only [V.ren]; rw [h o (hk o (by simp [V.ids]))]
  | .fp _, _ => rfl
  | .nl, _ => rfl
  | .fz _ _, _ => rfl
  | .sl o _ _ _, hk => by simp only [V.ren]; rw [h o (hk o (by simp [V.ids]))]
  | .agg cs, hk => by simp only [V.ren]; rw [rens_eq h cs fun k hk' => hk k (by simpa [V.ids] using hk')]
  | .tup cs, hk => by simp only [V.ren]; rw [rens_eq h cs fun k hk' => hk k (by simpa [V.ids] using hk')]
  | .unk, _ => rfl
theorem rens_eq {f g : Nat → Nat} (h : ∀ k, k = 0 → f k = g k) : ∀ vs : List V, (∀ k ∈ V.idsL vs, k = 0) → V.rens f vs = V.rens g vs
  | [], _ => rfl
  | x :: xs, hk => by
    simp only [V.rens]
    rw [ren_eq h x fun k hk' => hk k (by simp [V.idsL, hk']), rens_eq h xs fun k hk' => hk k (by simp [V.idsL, hk'])]
end

/-- the end of a function that hands one object of its own over -/
theorem Ends.own1 {vs : List Nat} {os : List AO} {v : V} {e : Exit} {L : List V} {σ : Store} (he : e = .ret ∨ e = .normal) {rs : List V} (hr : resVs os (look vs L) σ = some rs) {o : Nat} {ob : Ob} (ho : σ[o]? = some (.live ob)) (hx : packV rs = v.ren fun _ => o)
    (hids : ∀ k ∈ v.ids, k = 0) (hcl : ob.closed) : Ends vs os 0 v [ob] e L σ := by
  refine ⟨he, rs, packV rs, σ, [o], hr, .refl _ _, ⟨rfl, by simp, by simp, fun k h => by omega, fun k o' ob' h1 h2 => ?_, ?_, fun k hk => by rw [hids k hk]; simp, by simpa using hcl⟩⟩
  · cases k with
    | zero => simp at h1 h2; subst h1; subst h2; exact ho
    | succ k => simp at h1
  · rw [hx]
    exact ren_eq (fun k hk => by subst hk; rfl) v hids

/-- the end of a function that hands frozen objects over -/
theorem Ends.frozen {vs : List Nat} {os : List AO} {v : V} {e : Exit} {L : List V} {σ : Store} (he : e = .ret ∨ e = .normal) {rs : List V} (hr : resVs os (look vs L) σ = some rs) {o : Nat} {ob : Ob} (ho : σ[o]? = some (.live ob)) (hcl : ob.closed)
    (hle : VLe ((packV rs).frz o ob) v) (hv : v.closed = true) : Ends vs os 0 v [] e L σ :=
  ⟨he, rs, v, _, [], hr, (GhR.freeze ho hcl).trans (.say hle), ⟨rfl, List.nodup_nil, Nat.le_refl _, fun k h => by omega, fun k o ob h => by simp at h, (ren_closed _ v hv).symm, fun k hk => by rw [closed_ids v hv] at hk; simp at hk, fun ob h => by simp at h⟩⟩

end Go.Proofs.Ytffigokicddekaa.Abs
