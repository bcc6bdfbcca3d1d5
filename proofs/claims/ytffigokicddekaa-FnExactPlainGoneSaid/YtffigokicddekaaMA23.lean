/- Calls, in the forms in which the walks use them. No condition. -/
import Derived.Test.YtffigokicddekaaMA22
set_option linter.unusedVariables false
set_option linter.unusedSimpArgs false
namespace Go.Proofs.Ytffigokicddekaa.Abs
open Go

/-- argument by argument -/
inductive Views (σ : Store) (m : List Nat) (b : Bool) : List V → List V → Prop where
  | nil : Views σ m b [] []
  | cons {x y : V} {xs ys : List V} : View σ m b x y → Views σ m b xs ys → Views σ m b (x :: xs) (y :: ys)

theorem Views.get {σ : Store} {m : List Nat} {b : Bool} {xs ys : List V} (h : Views σ m b xs ys) : xs.length = ys.length ∧ ∀ (j : Nat) x y, xs[j]? = some x → ys[j]? = some y → View σ m b x y := by
  induction h with
  | nil => exact ⟨rfl, fun j x y h => by simp at h⟩
  | cons h1 _ ih =>
    refine ⟨by simp [ih.1], fun j x y hx hy => ?_⟩
    cases j with
    | zero => simp at hx hy; subst hx; subst hy; exact h1
    | succ j => exact ih.2 j x y (by simpa using hx) (by simpa using hy)

theorem Views.refl {σ : Store} {m : List Nat} {b : Bool} : ∀ {xs : List V}, V.closeds xs = true → Views σ m b xs xs
  | [], _ => .nil
  | x :: xs, h => by
    simp only [V.closeds, Bool.and_eq_true] at h
    exact .cons (.same b x x h.1 (.refl x)) (Views.refl h.2)

theorem callR_gen {P : Program} {f : FuncId} {id own : Nat} {σ : Store} {xs vs : List V} {v : V} {σi σo : List Ob} (h : FS P f σi vs v σo) (m : List Nat) (b : Bool) (hv : Views σ m b xs vs) (nd : m.Nodup) (sub : ∀ o ∈ m, o ∈ V.idsL xs)
    (len : m.length = σi.length) (at_ : ∀ (k o : Nat) ob, m[k]? = some o → σi[k]? = some ob → σ[o]? = some (.live ob)) (new : ∀ j, j < own → σ[id + j]? = some .free) (le1 : m.length ≤ σo.length) (le2 : σo.length ≤ m.length + own)
    (icl : ∀ ob ∈ σi, ob.closed) (ocl : ∀ ob ∈ σo, ob.closed) (flat : b = true → v.flat = true ∧ ∀ ob ∈ σo, ob.flat) : CallR P f id own σ xs (v.ren (renOf m id)) (putObs σ m id σo) :=
  ⟨m, σi, σo, vs, v, b, h, nd, sub, len, at_, hv.get, le1, le2, new, icl, ocl, flat, rfl, rfl⟩

/-- nothing handed over, nothing new -/
theorem callR_see {P : Program} {f : FuncId} {id own : Nat} {σ : Store} {xs vs : List V} {v : V} (h : FS P f [] vs v []) (b : Bool) (hv : Views σ [] b xs vs) (hc : v.closed = true) (new : ∀ j, j < own → σ[id + j]? = some .free) (flat : b = true → v.flat = true) :
    CallR P f id own σ xs v σ := by
  have := callR_gen h [] b hv List.nodup_nil (fun o h => by simp at h) rfl (fun k o ob h => by simp at h) new (Nat.le_refl _) (Nat.zero_le _) (fun ob h => by simp at h) (fun ob h => by simp at h) (fun hb => ⟨flat hb, fun ob h => by simp at h⟩)
  rw [ren_closed _ v hc] at this
  exact this

/-- one new object -/
theorem callR_new {P : Program} {f : FuncId} {id : Nat} {σ : Store} {xs vs : List V} {v : V} {ob : Ob} (h : FS P f [] vs v [ob]) (b : Bool) (hv : Views σ [] b xs vs) (hid : σ[id]? = some .free) (hcl : ob.closed) (hk : ∀ k ∈ v.ids, k = 0) (flat : b = true → v.flat = true ∧ ob.flat) :
    CallR P f id 1 σ xs (v.ren fun _ => id) (σ.set id (.live ob)) := by
  have := callR_gen (id := id) (own := 1) h [] b hv List.nodup_nil (fun o h => by simp at h) rfl (fun k o ob h => by simp at h) (fun j hj => by rw [show id + j = id by omega]; exact hid) (Nat.zero_le _) (by simp) (fun ob h => by simp at h) (by simpa using hcl)
    (fun hb => ⟨(flat hb).1, by simpa using (flat hb).2⟩)
  rw [ren_eq (g := fun _ => id) (fun k hk => by subst hk; rfl) v hk] at this
  exact this

/-- one object handed over, and turned -/
theorem callR_turn {P : Program} {f : FuncId} {id own : Nat} {σ : Store} {xs vs : List V} {v : V} {o : Nat} {ob ob' : Ob} (h : FS P f [ob] vs v [ob']) (b : Bool) (hv : Views σ [o] b xs vs) (ho : σ[o]? = some (.live ob)) (hs : o ∈ V.idsL xs) (hc : v.closed = true) (hcl : ob.closed) (hcl' : ob'.closed)
    (new : ∀ j, j < own → σ[id + j]? = some .free) (flat : b = true → v.flat = true ∧ ob'.flat) : CallR P f id own σ xs v (σ.set o (.live ob')) := by
  have := callR_gen (id := id) (own := own) h [o] b hv (by simp) (by simpa using hs) rfl (fun k o' ob1 h1 h2 => by
    cases k with
    | zero => simp at h1 h2; subst h1; subst h2; exact ho
    | succ k => simp at h1) new (by simp) (by simp) (by simpa using hcl) (by simpa using hcl') (fun hb => ⟨(flat hb).1, by simpa using (flat hb).2⟩)
  rw [ren_closed _ v hc] at this
  exact this

section
variable {P : Program} {b : Nat} {d : Option Nat} {l : Nat} {rs : List AR} {a : Env} {σ : Store} {Q : Env → Store → Prop}

theorem run_see {wr : Bool} {id own : Nat} {f : FuncId} {args : List Opd} {vs : List V} {v : V} (h : FS P f [] vs v []) (k : Bool) (hv : Views σ [] k (args.map fun x => x.ev a) vs) (hc : v.closed = true) (new : ∀ j, j < own → σ[b + id + j]? = some .free) (flat : k = true → v.flat = true)
    (hr : runL P b rs (putE a d v) σ Q) : runL P b (⟨d, none, l, .call wr id own f args⟩ :: rs) a σ Q :=
  runL_call ⟨callR_see h k hv hc new flat, fun _ _ => rfl⟩ hr

theorem run_new {wr : Bool} {id : Nat} {f : FuncId} {args : List Opd} {vs : List V} {v : V} {ob : Ob} (h : FS P f [] vs v [ob]) (k : Bool) (hv : Views σ [] k (args.map fun x => x.ev a) vs) (hid : σ[b + id]? = some .free) (hcl : ob.closed) (hk : ∀ k ∈ v.ids, k = 0) (flat : k = true → v.flat = true ∧ ob.flat)
    (hr : runL P b rs (putE a d (v.ren fun _ => b + id)) (σ.set (b + id) (.live ob)) Q) : runL P b (⟨d, none, l, .call wr id 1 f args⟩ :: rs) a σ Q :=
  runL_call ⟨callR_new h k hv hid hcl hk flat, fun _ h => absurd h (by decide)⟩ hr

theorem run_turn {id own : Nat} {f : FuncId} {args : List Opd} {vs : List V} {v : V} {o : Nat} {ob ob' : Ob} (h : FS P f [ob] vs v [ob']) (k : Bool) (hv : Views σ [o] k (args.map fun x => x.ev a) vs) (ho : σ[o]? = some (.live ob)) (hs : o ∈ V.idsL (args.map fun x => x.ev a)) (hc : v.closed = true) (hcl : ob.closed) (hcl' : ob'.closed)
    (new : ∀ j, j < own → σ[b + id + j]? = some .free) (flat : k = true → v.flat = true ∧ ob'.flat) (hr : runL P b rs (putE a d v) (σ.set o (.live ob')) Q) : runL P b (⟨d, none, l, .call true id own f args⟩ :: rs) a σ Q :=
  runL_call ⟨callR_turn h k hv ho hs hc hcl hcl' new flat, fun h => absurd h (by decide)⟩ hr
end

/-- the end of a function that hands one frozen row over -/
theorem Ends.frzSl {vs : List Nat} {os : List AO} {e : Exit} {L : List V} {σ : Store} (he : e = .ret ∨ e = .normal) {o s len : Nat} {es : List (List V)} (hr : resVs os (look vs L) σ = some [.sl o s 0 len]) (ho : σ[o]? = some (.live ⟨s, es⟩)) (hl : len = es.length) (hcl : (⟨s, es⟩ : Ob).closed) :
    Ends vs os 0 (.fz s es) [] e L σ := by
  refine Ends.frozen he hr ho hcl ?_ rfl
  subst hl
  simp only [packV, V.frz, if_true, List.drop_zero]
  rw [if_pos ⟨trivial, by simp⟩, List.take_length]
  exact .refl _

theorem rows_full {σ : Store} {o s len : Nat} {es : List (List V)} (ho : σ[o]? = some (.live ⟨s, es⟩)) (hl : len = es.length) : rows σ s (.sl o s 0 len) = some es := by
  subst hl
  simp only [rows, ho]
  rw [if_pos ⟨trivial, trivial, by simp⟩]
  simp
theorem View.row {σ : Store} {m : List Nat} {o s len : Nat} {es : List (List V)} (hm : o ∉ m) (ho : σ[o]? = some (.live ⟨s, es⟩)) (hl : len = es.length) (hcl : (⟨s, es⟩ : Ob).closed) : View σ m true (.sl o s 0 len) (.fz s es) :=
  .rows o s 0 len es hm (rows_full ho hl) hcl

/-- a guard's word -/
def guardV (x : V) (want : Bool) : Option Bool := match x with
  | .bool b => some (b == want)
  | .unk => none
  | _ => some false
/-- by a guard's word -/
def selP (x : Option Bool) (A B : Prop) : Prop := match x with
  | some true => A
  | some false => B
  | none => False
section
variable {P : Program} {b : Nat} {d : Option Nat} {l : Nat} {rs : List AR} {a : Env} {σ : Store} {Q : Env → Store → Prop}
theorem run_guard (t : Nat) (want : Bool) (o : AO) : runL P b (⟨d, some (t, want), l, o⟩ :: rs) a σ Q = selP (guardV (a t) want) (runL P b (⟨d, none, l, o⟩ :: rs) a σ Q) (runL P b rs (putE a d (.tup [])) σ Q) := by
  have e : guardOk (some (t, want)) a = guardV (a t) want := by
    unfold guardOk guardV
    dsimp only
    cases a t <;> rfl
  cases h : guardV (a t) want with
  | none =>
    apply propext
    simp only [runL, StepR, e, h, selP]
    exact ⟨fun ⟨_, _, h, _⟩ => h, fun h => h.elim⟩
  | some q =>
    rw [runL_guard (q := q) (by rw [e, h])]
    cases q <;> simp [selP]
@[go_sem] theorem run_guard_t {t : Nat} {want : Bool} (o : AO) (h : guardV (a t) want = some true) : runL P b (⟨d, some (t, want), l, o⟩ :: rs) a σ Q = runL P b (⟨d, none, l, o⟩ :: rs) a σ Q := by
  rw [run_guard, h]; rfl
@[go_sem] theorem run_guard_f {t : Nat} {want : Bool} (o : AO) (h : guardV (a t) want = some false) : runL P b (⟨d, some (t, want), l, o⟩ :: rs) a σ Q = runL P b rs (putE a d (.tup [])) σ Q := by
  rw [run_guard, h]; rfl
@[go_sem] theorem guardV_tup (vs : List V) (want : Bool) : guardV (.tup vs) want = some false := rfl
/-- a guard that is not settled yet -/
theorem selP_if {t : Nat} {o : AO} {p : Prop} [Decidable p] (hv : a t = .bool (decide p)) (h1 : p → runL P b (⟨d, none, l, o⟩ :: rs) a σ Q) (h2 : ¬ p → runL P b rs (putE a d (.tup [])) σ Q) : runL P b (⟨d, some (t, true), l, o⟩ :: rs) a σ Q := by
  by_cases h : p
  · rw [run_guard_t o (by rw [hv, decide_eq_true h]; rfl)]; exact h1 h
  · rw [run_guard_f o (by rw [hv, decide_eq_false h]; rfl)]; exact h2 h
theorem selP_ifn {t : Nat} {o : AO} {p : Prop} [Decidable p] (hv : a t = .bool (decide p)) (h1 : p → runL P b rs (putE a d (.tup [])) σ Q) (h2 : ¬ p → runL P b (⟨d, none, l, o⟩ :: rs) a σ Q) : runL P b (⟨d, some (t, false), l, o⟩ :: rs) a σ Q := by
  by_cases h : p
  · rw [run_guard_f o (by rw [hv, decide_eq_true h]; rfl)]; exact h1 h
  · rw [run_guard_t o (by rw [hv, decide_eq_false h]; rfl)]; exact h2 h
theorem selN_if {t : Nat} {o : AO} {p : Prop} [Decidable p] (hv : a t = .bool (!decide p)) (h1 : p → runL P b rs (putE a d (.tup [])) σ Q) (h2 : ¬ p → runL P b (⟨d, none, l, o⟩ :: rs) a σ Q) : runL P b (⟨d, some (t, true), l, o⟩ :: rs) a σ Q := by
  by_cases h : p
  · rw [run_guard_f o (by rw [hv, decide_eq_true h]; rfl)]; exact h1 h
  · rw [run_guard_t o (by rw [hv, decide_eq_false h]; rfl)]; exact h2 h
theorem selN_ifn {t : Nat} {o : AO} {p : Prop} [Decidable p] (hv : a t = .bool (!decide p)) (h1 : p → runL P b (⟨d, none, l, o⟩ :: rs) a σ Q) (h2 : ¬ p → runL P b rs (putE a d (.tup [])) σ Q) : runL P b (⟨d, some (t, false), l, o⟩ :: rs) a σ Q := by
  by_cases h : p
  · rw [run_guard_t o (by rw [hv, decide_eq_true h]; rfl)]; exact h1 h
  · rw [run_guard_f o (by rw [hv, decide_eq_false h]; rfl)]; exact h2 h
@[go_sem] theorem guardV_bool (q want : Bool) : guardV (.bool q) want = some (q == want) := rfl
@[go_sem] theorem selP_true (A B : Prop) : selP (some true) A B = A := rfl
@[go_sem] theorem selP_false (A B : Prop) : selP (some false) A B = B := rfl
attribute [go_sem] List.take_length Int.le_refl decide_true decide_false Bool.not_true Bool.not_false beq_self_eq_true
@[go_sem] theorem andT_ite' (c : Prop) [Decidable c] (x : Option (V × Store)) : andT P b rs d a Q (if c then none else x) = (¬ c ∧ andT P b rs d a Q x) := by
  apply propext
  split
  · rename_i h; exact ⟨fun k => k.elim, fun k => absurd h k.1⟩
  · rename_i h; exact ⟨fun k => ⟨h, k⟩, fun k => k.2⟩
@[go_sem] theorem map_ite' {α β : Type} (c : Prop) [Decidable c] (x : Option α) (f : α → β) : (if c then none else x).map f = if c then none else x.map f := by split <;> rfl
@[go_sem] theorem beq_tf : (true == false) = false := rfl
@[go_sem] theorem beq_ft : (false == true) = false := rfl
@[go_sem] theorem nlt0 (n : Nat) : ((n : Int) < 0) = False := by simp
end
section
variable {X : Cx} {Q : Exit → List V → Store → Prop} {L : List V} {σ : Store}
theorem awp_yes {o : Opd} {x y : AC} (ho : o.ev (look X.vs L) = .bool true) (h : AWP X x Q L σ) : AWP X (.cond o x y) Q L σ := awp_cond ho (fun _ => h) (fun h => by cases h)
theorem awp_no {o : Opd} {x y : AC} (ho : o.ev (look X.vs L) = .bool false) (h : AWP X y Q L σ) : AWP X (.cond o x y) Q L σ := awp_cond ho (fun h => by cases h) (fun _ => h)
end
end Go.Proofs.Ytffigokicddekaa.Abs
