/- The code's forms. No condition. -/
import Derived.Test.YtffigokicddekaaMA16
set_option linter.unusedVariables false
set_option linter.unusedSimpArgs false
namespace Go.Proofs.Ytffigokicddekaa.Abs
open Go

inductive AC where
  | skip
  | reg (m : Nat) (rs : List AR)
  | draw (m : Nat) (rs : List AR)
  | seq (x y : AC)
  | cond (c : Opd) (x y : AC)
  | block (id : Nat) (x : AC)
  | loop (x : AC)
  | exit (id : Nat)
  | ret

def compC (P : Program) (Γ : Fns) (D : Array Oper → List AR → Option (List AR)) (nt : Nat) : Code → Option AC
  | .skip => some .skip
  | .region _ ops d => match compOps P Γ nt ops ops.toList 0 with
    | some (rs, m) => if d then match D ops rs with
        | some rs' => some (.draw m rs')
        | none => none
      else some (.reg m rs)
    | none => none
  | .seq x y => match compC P Γ D nt x, compC P Γ D nt y with
    | some a, some b => some (.seq a b)
    | _, _ => none
  | .cond c x y => match compC P Γ D nt x, compC P Γ D nt y with
    | some a, some b => some (.cond (opdOf c) a b)
    | _, _ => none
  | .block id x => match compC P Γ D nt x with
    | some a => some (.block id a)
    | none => none
  | .loop x => match compC P Γ D nt x with
    | some a => some (.loop a)
    | none => none
  | .exit id => some (.exit id)
  | .ret => some .ret
  | _ => none

def look : List Nat → List V → Env
  | v :: vs, x :: xs, t => if t = v then x else look vs xs t
  | _, _, _ => .unk

def thn (K : List V → Store → Prop) (Q : Exit → List V → Store → Prop) : Exit → List V → Store → Prop
  | .normal, L, σ => K L σ
  | e, L, σ => Q e L σ

def inB (id : Nat) (Q : Exit → List V → Store → Prop) : Exit → List V → Store → Prop
  | .exit id', L, σ => if id' = id then Q .normal L σ else Q (.exit id') L σ
  | e, L, σ => Q e L σ

/-- what is asked of a function's code -/
structure Cx where
  P : Program
  Γ : Fns
  D : Array Oper → List AR → Option (List AR)
  nt : Nat
  vs : List Nat

def SWP (X : Cx) (c : Code) (Q : Exit → List V → Store → Prop) (L : List V) (σ : Store) : Prop :=
  ∀ β F w act, Rel σ β F w → EnvR w F β (look X.vs L) act → act.tmps.size = X.nt →
    c.wp X.P (fun e act' w' => ∃ L' σ', Q e L' σ' ∧ Goes σ' β F w (look X.vs L') act act' w') act w

def AWP (X : Cx) (ac : AC) (Q : Exit → List V → Store → Prop) (L : List V) (σ : Store) : Prop :=
  ∀ c, compC X.P X.Γ X.D X.nt c = some ac → SWP X c Q L σ

theorem Goes.trans {σ1 σ2 : Store} {β β1 : Ids} {F F1 : Nat → Prop} {w w1 w2 : World} {a2 : Env} {act act1 act2 : Act} (h : After σ1 β β1 F F1 w w1) (hs : act1.tmps.size = act.tmps.size) (hd : act1.defers = act.defers)
    (k : Goes σ2 β1 F1 w1 a2 act1 act2 w2) : Goes σ2 β F w a2 act act2 w2 := by
  obtain ⟨β2, F2, hA, he⟩ := k.ex
  exact ⟨⟨β2, F2, h.trans hA, he⟩, k.size.trans hs, k.defers.trans hd⟩

theorem Goes.refl {σ : Store} {β : Ids} {F : Nat → Prop} {w : World} {a : Env} {act : Act} (hr : Rel σ β F w) (ha : EnvR w F β a act) : Goes σ β F w a act act w := ⟨⟨β, F, .refl hr, ha⟩, rfl, rfl⟩

section
variable {X : Cx} {Q : Exit → List V → Store → Prop} {L : List V} {σ : Store}

theorem SWP.step {c : Code} {β : Ids} {F : Nat → Prop} {w : World} {act : Act} {act1 : Act} {w1 : World} (h : SWP X c Q L σ) (hg : Goes σ β F w (look X.vs L) act act1 w1) (hs : act.tmps.size = X.nt) :
    c.wp X.P (fun e act' w' => ∃ L' σ', Q e L' σ' ∧ Goes σ' β F w (look X.vs L') act act' w') act1 w1 := by
  obtain ⟨β1, F1, hA, he⟩ := hg.ex
  refine wp_mono (h β1 F1 w1 act1 hA.rel he (hg.size.trans hs)) ?_
  rintro e act' w' ⟨L', σ', hq, hg'⟩
  exact ⟨L', σ', hq, Goes.trans hA hg.size hg.defers hg'⟩

theorem awp_mono {ac : AC} {Q' : Exit → List V → Store → Prop} (h : AWP X ac Q L σ) (hq : ∀ e L σ, Q e L σ → Q' e L σ) : AWP X ac Q' L σ :=
  fun c hc β F w act hr he hn => wp_mono (h c hc β F w act hr he hn) fun e a w' ⟨L', σ', q, g⟩ => ⟨L', σ', hq _ _ _ q, g⟩

theorem awp_skip (h : Q .normal L σ) : AWP X .skip Q L σ := by
  intro c hc β F w act hr he hn
  cases c <;> simp only [compC, reduceCtorEq] at hc
  case skip => exact wp_skip ⟨L, σ, h, .refl hr he⟩
  all_goals
    repeat' (split at hc)
    all_goals cases hc

theorem awp_ret (h : Q .ret L σ) : AWP X .ret Q L σ := by
  intro c hc β F w act hr he hn
  cases c <;> simp only [compC, reduceCtorEq] at hc
  case ret => exact wp_ret ⟨L, σ, h, .refl hr he⟩
  all_goals
    repeat' (split at hc)
    all_goals cases hc

theorem awp_exit {id : Nat} (h : Q (.exit id) L σ) : AWP X (.exit id) Q L σ := by
  intro c hc β F w act hr he hn
  cases c <;> simp only [compC, reduceCtorEq, Option.some.injEq, AC.exit.injEq] at hc
  case exit id' => subst hc; exact wp_exit ⟨L, σ, h, .refl hr he⟩
  all_goals
    repeat' (split at hc)
    all_goals cases hc

theorem awp_seq {x y : AC} (h : AWP X x (thn (AWP X y Q) Q) L σ) : AWP X (.seq x y) Q L σ := by
  intro c hc β F w act hr he hn
  cases c <;> simp only [compC, reduceCtorEq] at hc
  case seq a b =>
    split at hc
    · rename_i a' b' ha hb
      cases hc
      refine wp_seq (wp_mono (h a ha β F w act hr he hn) ?_)
      rintro e act' w' ⟨L', σ', q, g⟩
      cases e with
      | normal => exact SWP.step (q b hb) g hn
      | _ => exact ⟨L', σ', q, g⟩
    · cases hc
  all_goals
    repeat' (split at hc)
    all_goals cases hc

theorem awp_block {id : Nat} {x : AC} (h : AWP X x (inB id Q) L σ) : AWP X (.block id x) Q L σ := by
  intro c hc β F w act hr he hn
  cases c <;> simp only [compC, reduceCtorEq] at hc
  case block id' a =>
    split at hc
    · rename_i a' ha
      cases hc
      refine wp_block (wp_mono (h a ha β F w act hr he hn) ?_)
      rintro e act' w' ⟨L', σ', q, g⟩
      cases e with
      | exit id' =>
        simp only [Exit.inBlock, inB] at q ⊢
        split
        · rename_i e; rw [if_pos e] at q; exact ⟨L', σ', q, g⟩
        · rename_i e; rw [if_neg e] at q; exact ⟨L', σ', q, g⟩
      | _ => exact ⟨L', σ', q, g⟩
    · cases hc
  all_goals
    repeat' (split at hc)
    all_goals cases hc

theorem awp_cond {o : Opd} {x y : AC} {b : Bool} (ho : o.ev (look X.vs L) = .bool b) (h1 : b = true → AWP X x Q L σ) (h2 : b = false → AWP X y Q L σ) : AWP X (.cond o x y) Q L σ := by
  intro c hc β F w act hr he hn
  cases c <;> simp only [compC, reduceCtorEq] at hc
  case cond o' p q =>
    split at hc
    · rename_i p' q' hp hq
      cases hc
      have hv := opd_ok he o'
      rw [ho] at hv
      have hb : act.eval o' = .bool b := by
        generalize act.eval o' = z at hv
        cases hv; rfl
      refine wp_cond hb ?_
      cases b
      · exact h2 rfl q hq β F w act hr he hn
      · exact h1 rfl p hp β F w act hr he hn
    · cases hc
  all_goals
    repeat' (split at hc)
    all_goals cases hc

/-- a loop whose rounds are numbered downwards -/
theorem wp_loop_num {P : Program} {Q : Exit → Act → World → Prop} {c : Code} (I : Nat → Act → World → Prop)
    (round : ∀ n a w, I n a w → c.wp P (Exit.then (fun a' w' => ∃ m, m < n ∧ I m a' w') Q) a w) (n : Nat) (a : Act) (w : World) (h0 : I n a w) : (Code.loop c).wp P Q a w := by
  intro b k cs
  have key : ∀ n a w, I n a w → ∃ e a' w', Q e a' w' ∧ Arrives P (lone (b.at a (.code c :: .inLoop c :: k)) cs w) b k cs e a' w' := by
    intro n
    induction n using Nat.strongRecOn with
    | _ n ih =>
      intro a w hI
      obtain ⟨e, a1, w1, hq, harr⟩ := round n a w hI b (.inLoop c :: k) cs
      cases e with
      | normal =>
        obtain ⟨m, hm, hI1⟩ := hq
        obtain ⟨e2, a2, w2, hq2, harr2⟩ := ih m hm a1 w1 hI1
        exact ⟨e2, a2, w2, hq2, .of_steps (Steps.trans harr (.one step_inLoop)) harr2⟩
      | _ => exact ⟨_, a1, w1, hq, .pass (x := .inLoop c) rfl (fun _ _ => .inl (by simp)) harr⟩
  obtain ⟨e, a', w', hq, harr⟩ := key n a w h0
  exact ⟨e, a', w', hq, .of_steps (.one step_loop) harr⟩

theorem awp_loop {x : AC} (I : Nat → List V → Store → Prop) (n : Nat) (h0 : I n L σ) (round : ∀ n L σ, I n L σ → AWP X x (thn (fun L' σ' => ∃ m, m < n ∧ I m L' σ') Q) L σ) : AWP X (.loop x) Q L σ := by
  intro c hc β F w act hr he hn
  cases c <;> simp only [compC, reduceCtorEq] at hc
  case loop a =>
    split at hc
    · rename_i a' ha
      cases hc
      refine wp_loop_num (fun n act' w' => ∃ L' σ', I n L' σ' ∧ Goes σ' β F w (look X.vs L') act act' w') ?_ n act w ⟨L, σ, h0, .refl hr he⟩
      rintro n act1 w1 ⟨L1, σ1, hI, hg⟩
      refine wp_mono (SWP.step (round n L1 σ1 hI a ha) hg hn) ?_
      rintro e act' w' ⟨L', σ', q, g⟩
      cases e with
      | normal => obtain ⟨m, hm, hI'⟩ := q; exact ⟨m, hm, L', σ', hI', g⟩
      | _ => exact ⟨L', σ', q, g⟩
    · cases hc
  all_goals
    repeat' (split at hc)
    all_goals cases hc

/-- what is known may be forgotten, or said in other words -/
def Wk (vs : List Nat) (L : List V) (σ : Store) (L' : List V) (σ' : Store) : Prop :=
  ∀ β F w act, Rel σ β F w → EnvR w F β (look vs L) act → ∃ β' F', After σ' β β' F F' w w ∧ EnvR w F' β' (look vs L') act

theorem awp_ghost {ac : AC} {L' : List V} {σ' : Store} (hw : Wk X.vs L σ L' σ') (h : AWP X ac Q L' σ') : AWP X ac Q L σ := by
  intro c hc β F w act hr he hn
  obtain ⟨β', F', hA, he'⟩ := hw β F w act hr he
  refine wp_mono (h c hc β' F' w act hA.rel he' hn) ?_
  rintro e act' w' ⟨L2, σ2, q, g⟩
  exact ⟨L2, σ2, q, Goes.trans hA rfl rfl g⟩

/-- in a post, too -/
theorem awp_post {ac : AC} {Q' : Exit → List V → Store → Prop} (h : AWP X ac Q' L σ) (hw : ∀ e L σ, Q' e L σ → ∃ L' σ', Wk X.vs L σ L' σ' ∧ Q e L' σ') : AWP X ac Q L σ := by
  intro c hc β F w act hr he hn
  refine wp_mono (h c hc β F w act hr he hn) ?_
  rintro e act' w' ⟨L1, σ1, q, g⟩
  obtain ⟨L2, σ2, hwk, q2⟩ := hw e L1 σ1 q
  obtain ⟨β1, F1, hA, he1⟩ := g.ex
  obtain ⟨β2, F2, hA2, he2⟩ := hwk β1 F1 w' act' hA.rel he1
  exact ⟨L2, σ2, q2, ⟨⟨β2, F2, hA.trans hA2, he2⟩, g.size, g.defers⟩⟩

/-- a region's store: room for its new objects -/
theorem rel_free {β : Ids} {F : Nat → Prop} {w : World} (hr : Rel σ β F w) (m : Nat) : Rel (σ ++ List.replicate m .free) β F w := by
  have get : ∀ (o : Nat) s, (σ ++ List.replicate m Slot.free)[o]? = some s → σ[o]? = some s ∨ (s = .free ∧ σ[o]? = none) := by
    intro o s h
    rcases Nat.lt_or_ge o σ.length with h1 | h1
    · rw [List.getElem?_append_left h1] at h; exact .inl h
    · rw [List.getElem?_append_right h1] at h
      right
      refine ⟨?_, List.getElem?_eq_none h1⟩
      have := List.mem_of_getElem? h
      exact (List.mem_replicate.1 this).2
  refine ⟨?_, ?_, ?_, hr.bF⟩
  · intro o ob ho
    rcases get o _ ho with h | ⟨h, _⟩
    · exact hr.live o ob h
    · cases h
  · intro o o' a a' ho ho' hb
    rcases get o _ ho with h | ⟨h, _⟩
    · rcases get o' _ ho' with h' | ⟨h', _⟩
      · exact hr.inj o o' a a' h h' hb
      · cases h'
    · cases h
  · intro o ho
    rcases ho with ho | ho
    · rcases get o _ ho with h | ⟨_, h⟩
      · exact hr.free o (.inl h)
      · exact hr.free o (.inr h)
    · apply hr.free o
      right
      apply List.getElem?_eq_none
      have := List.getElem?_eq_none_iff.1 ho
      simp at this; omega

theorem compOps_get {P : Program} {Γ : Fns} {nt : Nat} {ops : Array Oper} : ∀ {os : List Oper} {k : Nat} {rs : List AR} {m : Nat}, compOps P Γ nt ops os k = some (rs, m) →
    os.length = rs.length ∧ ∀ (i : Nat) o r, os[i]? = some o → rs[i]? = some r → ∃ id, compAR P Γ nt ops id o = some r
  | [], k, rs, m, h => by simp [compOps] at h; obtain ⟨rfl, rfl⟩ := h; exact ⟨rfl, fun i o r h => by simp at h⟩
  | o :: os, k, rs, m, h => by
    simp only [compOps] at h
    split at h
    · rename_i r hr
      split at h
      · rename_i rs' n hrs
        cases h
        obtain ⟨h1, h2⟩ := compOps_get hrs
        refine ⟨by simp [h1], fun i o' r' ho hr' => ?_⟩
        cases i with
        | zero => simp at ho hr'; subst ho; subst hr'; exact ⟨k, hr⟩
        | succ i => exact h2 i o' r' (by simpa using ho) (by simpa using hr')
      · cases h
    · cases h

/-- a region in the text's order -/
theorem awp_reg {m : Nat} {rs : List AR} (h : runL X.P σ.length rs (look X.vs L) (σ ++ List.replicate m .free) fun a σ' => Q .normal (X.vs.map a) σ') : AWP X (.reg m rs) Q L σ := by
  intro c hc β F w act hr he hn
  cases c <;> simp only [compC, reduceCtorEq] at hc
  case region id ops d =>
    split at hc
    · rename_i rs' m' hops
      split at hc
      · split at hc <;> cases hc
      · rename_i hd
        cases hc
        have hd' : d = false := by simpa using hd
        subst hd'
        obtain ⟨hlen, hget⟩ := compOps_get hops
        refine wp_region ?_
        have hr1 := rel_free hr m
        have key : ∀ (n : Nat) (rs1 : List AR) (a : Env) (σ1 : Store) (act1 : Act) (w1 : World) (i : Nat), rs.drop i = rs1 → i + n = ops.size → runL X.P σ.length rs1 a σ1 (fun a σ' => Q .normal (X.vs.map a) σ') →
            Goes σ1 β F w a act act1 w1 → wpOps X.P ops (fun e act' w' => ∃ L' σ', Q e L' σ' ∧ Goes σ' β F w (look X.vs L') act act' w') ((List.range n).map (i + ·)) act1 w1 := by
          intro n
          induction n with
          | zero =>
            intro rs1 a σ1 act1 w1 i hdr hi hrun hg
            have : rs1 = [] := by rw [← hdr]; apply List.drop_eq_nil_of_le; simp at hlen; omega
            subst this
            simp only [List.range_zero, List.map_nil, wpOps]
            refine ⟨_, σ1, hrun, ?_⟩
            obtain ⟨β1, F1, hA, he1⟩ := hg.ex
            refine ⟨⟨β1, F1, hA, fun t => ?_⟩, hg.size, hg.defers⟩
            have : ∀ vs : List Nat, look vs (vs.map a) t = a t ∨ look vs (vs.map a) t = .unk := by
              intro vs
              induction vs with
              | nil => exact .inr rfl
              | cons v vs ih =>
                simp only [List.map_cons, look]
                split
                · rename_i e; subst e; exact .inl rfl
                · exact ih
            rcases this X.vs with h1 | h1
            · rw [h1]; exact he1 t
            · rw [h1]; exact .unk _ _
          | succ n ih =>
            intro rs1 a σ1 act1 w1 i hdr hi hrun hg
            have hlt : i < ops.size := by omega
            have hlt' : i < rs.length := by simp at hlen; omega
            have hcons : rs1 = rs[i] :: rs.drop (i + 1) := by rw [← hdr]; exact List.drop_eq_getElem_cons hlt'
            subst hcons
            obtain ⟨a2, σ2, hst, hrun2⟩ := hrun
            rw [List.range_succ_eq_map, List.map_cons, List.map_map]
            have e1 : (i + 0) = i := rfl
            rw [e1, wpOps_cons]
            obtain ⟨id', hcar⟩ := hget i ops[i] rs[i] (by simp [hlt]) (List.getElem?_eq_getElem hlt')
            obtain ⟨β1, F1, hA, he1⟩ := hg.ex
            refine opr_wp hA.rel he1 (hg.size.trans hn) (by simp [hlt]) hcar hst ?_
            intro act2 w2 hg2
            have := ih _ a2 σ2 act2 w2 (i + 1) rfl (by omega) hrun2 (Goes.trans hA hg.size hg.defers hg2)
            have e2 : (List.range n).map ((fun x => i + x) ∘ Nat.succ) = (List.range n).map (i + 1 + ·) := by
              apply List.map_congr_left; intro x _; simp; omega
            rw [e2]; exact this
        have := key ops.size rs (look X.vs L) (σ ++ List.replicate m .free) act w 0 rfl (by omega) h ⟨⟨β, F, ⟨hr1, Ids.le_refl _, fun _ h => h, Grow.refl _ _, fun _ _ _ => rfl, fun _ h => .inl h, fun o b h => .inr ⟨o, h⟩⟩, he⟩, rfl, rfl⟩
        simpa using this
    · cases hc
  all_goals
    repeat' (split at hc)
    all_goals cases hc

/-- THE FUNCTION. -/
theorem FS.body {f : FuncId} {fn : Func} {c : Code} {ac : AC} {σi σo : List Ob} {xs : List V} {v : V} (hf : X.P.funcs[f]? = some fn) (hb : fn.body = some c) (hnt : fn.ntmps = X.nt) (hc : compC X.P X.Γ X.D X.nt c = some ac)
    (hk : xs.length ≤ X.nt)
    (h : AWP X ac (fun e L' σ' => (e = .ret ∨ e = .normal) ∧ ∀ β F w act, Rel σ' β F w → EnvR w F β (look X.vs L') act → act.tmps.size = X.nt →
        ∃ β' F' val, After (lives σo) β β' F F' w w ∧ (results fn act.tmps).run X.P w = .ok val w ∧ VR w F' β' v val) (X.vs.map fun t => xs.getD t (.tup [])) (lives σi)) : FS X.P f σi xs v σo := by
  intro β F w args hr hx
  refine calls_of_wp hf hb (wp_mono (h c hc β F w _ hr ?_ ?_) ?_)
  · -- the first temporaries are the arguments
    intro t
    have key : ∀ vs : List Nat, look vs (vs.map fun t => xs.getD t (.tup [])) t = xs.getD t (.tup []) ∨ look vs (vs.map fun t => xs.getD t (.tup [])) t = .unk := by
      intro vs
      induction vs with
      | nil => exact .inr rfl
      | cons y vs ih =>
        simp only [List.map_cons, look]
        split
        · rename_i e; subst e; exact .inl rfl
        · exact ih
    rcases key X.vs with h1 | h1
    · rw [h1]
      rcases Nat.lt_or_ge t xs.length with h2 | h2
      · have h3 := hx.2 t xs[t] (List.getElem?_eq_getElem h2)
        have hsz : t < args.size := by have := hx.1; simp at this; omega
        simp only [List.getD_eq_getElem?_getD, h2, List.getElem?_eq_getElem, Option.getD_some]
        simp only [Array.getD_eq_getD_getElem?]
        rw [Array.getElem?_append_left hsz]
        simpa [List.getD_eq_getElem?_getD, hsz] using h3
      · have : xs.getD t (.tup []) = .tup [] := by simp [List.getD_eq_getElem?_getD, h2]
        rw [this]
        have hsz : args.size ≤ t := by have := hx.1; simp at this; omega
        have : (args ++ Array.replicate (fn.ntmps - args.size) undef).getD t undef = undef := by
          simp only [Array.getD_eq_getD_getElem?]
          rw [Array.getElem?_append_right hsz]
          simp [Array.getElem?_replicate]
          split <;> rfl
        show VR w F β _ ((args ++ Array.replicate (fn.ntmps - args.size) undef).getD t undef)
        rw [this]; exact undef_ok
    · rw [h1]; exact .unk _ _
  · have := hx.1
    simp at this
    simp [hnt]
    omega
  · rintro e act' w' ⟨L', σ', ⟨he, hq⟩, hg⟩
    obtain ⟨β1, F1, hA, he1⟩ := hg.ex
    have hsz : act'.tmps.size = X.nt := by
      rw [hg.size]
      have := hx.1
      simp at this
      simp [hnt]
      omega
    obtain ⟨β2, F2, val, hA2, hres, hv⟩ := hq β1 F1 w' act' hA.rel he1 hsz
    have hdef : act'.defers = [] := hg.defers
    rcases he with rfl | rfl
    · exact ⟨hdef, val, hres, val, β2, F2, rfl, hv, hA.trans hA2⟩
    · exact ⟨hdef, val, hres, val, β2, F2, rfl, hv, hA.trans hA2⟩

end
end Go.Proofs.Ytffigokicddekaa.Abs
