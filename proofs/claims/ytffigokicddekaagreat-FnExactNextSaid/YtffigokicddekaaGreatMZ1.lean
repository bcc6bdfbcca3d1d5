/- The code's forms. No condition. -/
import Derived.Test.YtffigokicddekaaGreatMZ0
import Derived.ChangeArms
import Derived.SizedLaws
import Derived.WideShapes
import Derived.Carry
import Derived.Test.YtffigokicddekaaGreatProg
set_option linter.unusedVariables false
set_option linter.unusedSimpArgs false
namespace Go.Proofs.YtffigokicddekaaGreat.Abs
open Go

inductive AC where
  | skip
  | reg (m : Nat) (rs : List AR)
  | draw (m : Nat) (rs : List AR)
  | seq (x y : AC)
  | cond (c : Opd) (x y : AC)
  | block (id : Nat) (x : AC)
  | loop (x : AC)
  | exit (id : Nat)
  | ret
  | bad

def compC (P : Program) (Γ : Fns) (D : Array Oper → List AR → Option (List AR)) (nt : Nat) : Code → Option AC
  | .skip => some .skip
  | .region _ ops d => match compOps P Γ nt ops ops.toList 0 with
    | some (rs, m) => if d then match D ops rs with
        | some rs' => some (.draw m rs')
        | none => some .bad
      else some (.reg m rs)
    | none => some .bad
  | .seq x y => match compC P Γ D nt x, compC P Γ D nt y with
    | some a, some b => some (.seq a b)
    | _, _ => none
  | .cond c x y => match compC P Γ D nt x, compC P Γ D nt y with
    | some a, some b => some (.cond (opdOf c) a b)
    | _, _ => none
  | .block id x => match compC P Γ D nt x with
    | some a => some (.block id a)
    | none => none
  | .loop x => match compC P Γ D nt x with
    | some a => some (.loop a)
    | none => none
  | .exit id => some (.exit id)
  | .ret => some .ret
  | _ => some .bad

def look : List Nat → List V → Env
  | v :: vs, x :: xs, t => if t = v then x else look vs xs t
  | _, _, _ => .unk

def thn (K : List V → Store → Prop) (Q : Exit → List V → Store → Prop) : Exit → List V → Store → Prop
  | .normal, L, σ => K L σ
  | e, L, σ => Q e L σ

def inB (id : Nat) (Q : Exit → List V → Store → Prop) : Exit → List V → Store → Prop
  | .exit id', L, σ => if id' = id then Q .normal L σ else Q (.exit id') L σ
  | e, L, σ => Q e L σ

/-- what is asked of a function's code -/
structure Cx where
  P : Program
  Γ : Fns
  D : Array Oper → List AR → Option (List AR)
  nt : Nat
  vs : List Nat

def SWP (X : Cx) (c : Code) (Q : Exit → List V → Store → Prop) (L : List V) (σ : Store) : Prop :=
  ∀ β F w act, Rel σ β F w → EnvR w F β (look X.vs L) act → act.tmps.size = X.nt →
    c.wp X.P (fun e act' w' => ∃ L' σ', Q e L' σ' ∧ Goes σ' β F w (look X.vs L') act act' w') act w

def AWP (X : Cx) (ac : AC) (Q : Exit → List V → Store → Prop) (L : List V) (σ : Store) : Prop :=
  ∀ c, compC X.P X.Γ X.D X.nt c = some ac → SWP X c Q L σ

theorem Goes.trans {σ1 σ2 : Store} {β β1 : Ids} {F F1 : Nat → Prop} {w w1 w2 : World} {a2 : Env} {act act1 act2 : Act} (h : After σ1 β β1 F F1 w w1) (hs : act1.tmps.size = act.tmps.size) (hd : act1.defers = act.defers)
    (k : Goes σ2 β1 F1 w1 a2 act1 act2 w2) : Goes σ2 β F w a2 act act2 w2 := by
  obtain ⟨β2, F2, hA, he⟩ := k.ex
  exact ⟨⟨β2, F2, h.trans hA, he⟩, k.size.trans hs, k.defers.trans hd⟩

theorem Goes.refl {σ : Store} {β : Ids} {F : Nat → Prop} {w : World} {a : Env} {act : Act} (hr : Rel σ β F w) (ha : EnvR w F β a act) : Goes σ β F w a act act w := ⟨⟨β, F, .refl hr, ha⟩, rfl, rfl⟩

section
variable {X : Cx} {Q : Exit → List V → Store → Prop} {L : List V} {σ : Store}

theorem SWP.step {c : Code} {β : Ids} {F : Nat → Prop} {w : World} {act : Act} {act1 : Act} {w1 : World} (h : SWP X c Q L σ) (hg : Goes σ β F w (look X.vs L) act act1 w1) (hs : act.tmps.size = X.nt) :
    c.wp X.P (fun e act' w' => ∃ L' σ', Q e L' σ' ∧ Goes σ' β F w (look X.vs L') act act' w') act1 w1 := by
  obtain ⟨β1, F1, hA, he⟩ := hg.ex
  refine wp_mono (h β1 F1 w1 act1 hA.rel he (hg.size.trans hs)) ?_
  rintro e act' w' ⟨L', σ', hq, hg'⟩
  exact ⟨L', σ', hq, Goes.trans hA hg.size hg.defers hg'⟩

theorem awp_mono {ac : AC} {Q' : Exit → List V → Store → Prop} (h : AWP X ac Q L σ) (hq : ∀ e L σ, Q e L σ → Q' e L σ) : AWP X ac Q' L σ :=
  fun c hc β F w act hr he hn => wp_mono (h c hc β F w act hr he hn) fun e a w' ⟨L', σ', q, g⟩ => ⟨L', σ', hq _ _ _ q, g⟩

theorem awp_skip (h : Q .normal L σ) : AWP X .skip Q L σ := by
  intro c hc β F w act hr he hn
  cases c <;> simp only [compC, reduceCtorEq] at hc
  case skip => exact wp_skip ⟨L, σ, h, .refl hr he⟩
  all_goals
    repeat' (split at hc)
    all_goals cases hc

theorem awp_ret (h : Q .ret L σ) : AWP X .ret Q L σ := by
  intro c hc β F w act hr he hn
  cases c <;> simp only [compC, reduceCtorEq] at hc
  case ret => exact wp_ret ⟨L, σ, h, .refl hr he⟩
  all_goals
    repeat' (split at hc)
    all_goals cases hc

theorem awp_exit {id : Nat} (h : Q (.exit id) L σ) : AWP X (.exit id) Q L σ := by
  intro c hc β F w act hr he hn
  cases c <;> simp only [compC, reduceCtorEq, Option.some.injEq, AC.exit.injEq] at hc
  case exit id' => subst hc; exact wp_exit ⟨L, σ, h, .refl hr he⟩
  all_goals
    repeat' (split at hc)
    all_goals cases hc

theorem awp_seq {x y : AC} (h : AWP X x (thn (AWP X y Q) Q) L σ) : AWP X (.seq x y) Q L σ := by
  intro c hc β F w act hr he hn
  cases c <;> simp only [compC, reduceCtorEq] at hc
  case seq a b =>
    split at hc
    · rename_i a' b' ha hb
      cases hc
      refine wp_seq (wp_mono (h a ha β F w act hr he hn) ?_)
      rintro e act' w' ⟨L', σ', q, g⟩
      cases e with
      | normal => exact SWP.step (q b hb) g hn
      | _ => exact ⟨L', σ', q, g⟩
    · cases hc
  all_goals
    repeat' (split at hc)
    all_goals cases hc

theorem awp_block {id : Nat} {x : AC} (h : AWP X x (inB id Q) L σ) : AWP X (.block id x) Q L σ := by
  intro c hc β F w act hr he hn
  cases c <;> simp only [compC, reduceCtorEq] at hc
  case block id' a =>
    split at hc
    · rename_i a' ha
      cases hc
      refine wp_block (wp_mono (h a ha β F w act hr he hn) ?_)
      rintro e act' w' ⟨L', σ', q, g⟩
      cases e with
      | exit id' =>
        simp only [Exit.inBlock, inB] at q ⊢
        split
        · rename_i e; rw [if_pos e] at q; exact ⟨L', σ', q, g⟩
        · rename_i e; rw [if_neg e] at q; exact ⟨L', σ', q, g⟩
      | _ => exact ⟨L', σ', q, g⟩
    · cases hc
  all_goals
    repeat' (split at hc)
    all_goals cases hc

theorem awp_cond {o : Opd} {x y : AC} {b : Bool} (ho : o.ev (look X.vs L) = .bool b) (h1 : b = true → AWP X x Q L σ) (h2 : b = false → AWP X y Q L σ) : AWP X (.cond o x y) Q L σ := by
  intro c hc β F w act hr he hn
  cases c <;> simp only [compC, reduceCtorEq] at hc
  case cond o' p q =>
    split at hc
    · rename_i p' q' hp hq
      cases hc
      have hv := opd_ok he o'
      rw [ho] at hv
      have hb : act.eval o' = .bool b := by
        generalize act.eval o' = z at hv
        cases hv; rfl
      refine wp_cond hb ?_
      cases b
      · exact h2 rfl q hq β F w act hr he hn
      · exact h1 rfl p hp β F w act hr he hn
    · cases hc
  all_goals
    repeat' (split at hc)
    all_goals cases hc

/-- a loop whose rounds are numbered downwards -/
theorem wp_loop_num {P : Program} {Q : Exit → Act → World → Prop} {c : Code} (I : Nat → Act → World → Prop)
    (round : ∀ n a w, I n a w → c.wp P (Exit.then (fun a' w' => ∃ m, m < n ∧ I m a' w') Q) a w) (n : Nat) (a : Act) (w : World) (h0 : I n a w) : (Code.loop c).wp P Q a w := by
  intro b k cs
  have key : ∀ n a w, I n a w → ∃ e a' w', Q e a' w' ∧ Arrives P (lone (b.at a (.code c :: .inLoop c :: k)) cs w) b k cs e a' w' := by
    intro n
    induction n using Nat.strongRecOn with
    | _ n ih =>
      intro a w hI
      obtain ⟨e, a1, w1, hq, harr⟩ := round n a w hI b (.inLoop c :: k) cs
      cases e with
      | normal =>
        obtain ⟨m, hm, hI1⟩ := hq
        obtain ⟨e2, a2, w2, hq2, harr2⟩ := ih m hm a1 w1 hI1
        exact ⟨e2, a2, w2, hq2, .of_steps (Steps.trans harr (.one step_inLoop)) harr2⟩
      | _ => exact ⟨_, a1, w1, hq, .pass (x := .inLoop c) rfl (fun _ _ => .inl (by simp)) harr⟩
  obtain ⟨e, a', w', hq, harr⟩ := key n a w h0
  exact ⟨e, a', w', hq, .of_steps (.one step_loop) harr⟩

theorem awp_loop {x : AC} (I : Nat → List V → Store → Prop) (n : Nat) (h0 : I n L σ) (round : ∀ n L σ, I n L σ → AWP X x (thn (fun L' σ' => ∃ m, m < n ∧ I m L' σ') Q) L σ) : AWP X (.loop x) Q L σ := by
  intro c hc β F w act hr he hn
  cases c <;> simp only [compC, reduceCtorEq] at hc
  case loop a =>
    split at hc
    · rename_i a' ha
      cases hc
      refine wp_loop_num (fun n act' w' => ∃ L' σ', I n L' σ' ∧ Goes σ' β F w (look X.vs L') act act' w') ?_ n act w ⟨L, σ, h0, .refl hr he⟩
      rintro n act1 w1 ⟨L1, σ1, hI, hg⟩
      refine wp_mono (SWP.step (round n L1 σ1 hI a ha) hg hn) ?_
      rintro e act' w' ⟨L', σ', q, g⟩
      cases e with
      | normal => obtain ⟨m, hm, hI'⟩ := q; exact ⟨m, hm, L', σ', hI', g⟩
      | _ => exact ⟨L', σ', q, g⟩
    · cases hc
  all_goals
    repeat' (split at hc)
    all_goals cases hc

/-- what is known may be forgotten, or said in other words -/
def Wk (vs : List Nat) (L : List V) (σ : Store) (L' : List V) (σ' : Store) : Prop :=
  ∀ β F w act, Rel σ β F w → EnvR w F β (look vs L) act → ∃ β' F', After σ' β β' F F' w w ∧ EnvR w F' β' (look vs L') act

theorem awp_ghost {ac : AC} {L' : List V} {σ' : Store} (hw : Wk X.vs L σ L' σ') (h : AWP X ac Q L' σ') : AWP X ac Q L σ := by
  intro c hc β F w act hr he hn
  obtain ⟨β', F', hA, he'⟩ := hw β F w act hr he
  refine wp_mono (h c hc β' F' w act hA.rel he' hn) ?_
  rintro e act' w' ⟨L2, σ2, q, g⟩
  exact ⟨L2, σ2, q, Goes.trans hA rfl rfl g⟩

/-- in a post, too -/
theorem awp_post {ac : AC} {Q' : Exit → List V → Store → Prop} (h : AWP X ac Q' L σ) (hw : ∀ e L σ, Q' e L σ → ∃ L' σ', Wk X.vs L σ L' σ' ∧ Q e L' σ') : AWP X ac Q L σ := by
  intro c hc β F w act hr he hn
  refine wp_mono (h c hc β F w act hr he hn) ?_
  rintro e act' w' ⟨L1, σ1, q, g⟩
  obtain ⟨L2, σ2, hwk, q2⟩ := hw e L1 σ1 q
  obtain ⟨β1, F1, hA, he1⟩ := g.ex
  obtain ⟨β2, F2, hA2, he2⟩ := hwk β1 F1 w' act' hA.rel he1
  exact ⟨L2, σ2, q2, ⟨⟨β2, F2, hA.trans hA2, he2⟩, g.size, g.defers⟩⟩

/-- a region's store: room for its new objects -/
theorem rel_free {β : Ids} {F : Nat → Prop} {w : World} (hr : Rel σ β F w) (m : Nat) : Rel (σ ++ List.replicate m .free) β F w := by
  have get : ∀ (o : Nat) s, (σ ++ List.replicate m Slot.free)[o]? = some s → σ[o]? = some s ∨ (s = .free ∧ σ[o]? = none) := by
    intro o s h
    rcases Nat.lt_or_ge o σ.length with h1 | h1
    · rw [List.getElem?_append_left h1] at h; exact .inl h
    · rw [List.getElem?_append_right h1] at h
      right
      refine ⟨?_, List.getElem?_eq_none h1⟩
      have := List.mem_of_getElem? h
      exact (List.mem_replicate.1 this).2
  refine ⟨?_, ?_, ?_, hr.bF⟩
  · intro o ob ho
    rcases get o _ ho with h | ⟨h, _⟩
    · exact hr.live o ob h
    · cases h
  · intro o o' a a' ho ho' hb
    rcases get o _ ho with h | ⟨h, _⟩
    · rcases get o' _ ho' with h' | ⟨h', _⟩
      · exact hr.inj o o' a a' h h' hb
      · cases h'
    · cases h
  · intro o ho
    rcases ho with ho | ho
    · rcases get o _ ho with h | ⟨_, h⟩
      · exact hr.free o (.inl h)
      · exact hr.free o (.inr h)
    · apply hr.free o
      right
      apply List.getElem?_eq_none
      have := List.getElem?_eq_none_iff.1 ho
      simp at this; omega

theorem compOps_get {P : Program} {Γ : Fns} {nt : Nat} {ops : Array Oper} : ∀ {os : List Oper} {k : Nat} {rs : List AR} {m : Nat}, compOps P Γ nt ops os k = some (rs, m) →
    os.length = rs.length ∧ ∀ (i : Nat) o r, os[i]? = some o → rs[i]? = some r → ∃ id, compAR P Γ nt ops id o = some r
  | [], k, rs, m, h => by simp [compOps] at h; obtain ⟨rfl, rfl⟩ := h; exact ⟨rfl, fun i o r h => by simp at h⟩
  | o :: os, k, rs, m, h => by
    simp only [compOps] at h
    split at h
    · rename_i r hr
      split at h
      · rename_i rs' n hrs
        cases h
        obtain ⟨h1, h2⟩ := compOps_get hrs
        refine ⟨by simp [h1], fun i o' r' ho hr' => ?_⟩
        cases i with
        | zero => simp at ho hr'; subst ho; subst hr'; exact ⟨k, hr⟩
        | succ i => exact h2 i o' r' (by simpa using ho) (by simpa using hr')
      · cases h
    · cases h

/-- a region in the text's order -/
theorem awp_reg {m : Nat} {rs : List AR} (h : runL X.P σ.length rs (look X.vs L) (σ ++ List.replicate m .free) fun a σ' => Q .normal (X.vs.map a) σ') : AWP X (.reg m rs) Q L σ := by
  intro c hc β F w act hr he hn
  cases c <;> simp only [compC, reduceCtorEq] at hc
  case region id ops d =>
    split at hc
    · rename_i rs' m' hops
      split at hc
      · split at hc <;> cases hc
      · rename_i hd
        cases hc
        have hd' : d = false := by simpa using hd
        subst hd'
        obtain ⟨hlen, hget⟩ := compOps_get hops
        refine wp_region ?_
        have hr1 := rel_free hr m
        have key : ∀ (n : Nat) (rs1 : List AR) (a : Env) (σ1 : Store) (act1 : Act) (w1 : World) (i : Nat), rs.drop i = rs1 → i + n = ops.size → runL X.P σ.length rs1 a σ1 (fun a σ' => Q .normal (X.vs.map a) σ') →
            Goes σ1 β F w a act act1 w1 → wpOps X.P ops (fun e act' w' => ∃ L' σ', Q e L' σ' ∧ Goes σ' β F w (look X.vs L') act act' w') ((List.range n).map (i + ·)) act1 w1 := by
          intro n
          induction n with
          | zero =>
            intro rs1 a σ1 act1 w1 i hdr hi hrun hg
            have : rs1 = [] := by rw [← hdr]; apply List.drop_eq_nil_of_le; simp at hlen; omega
            subst this
            simp only [List.range_zero, List.map_nil, wpOps]
            refine ⟨_, σ1, hrun, ?_⟩
            obtain ⟨β1, F1, hA, he1⟩ := hg.ex
            refine ⟨⟨β1, F1, hA, fun t => ?_⟩, hg.size, hg.defers⟩
            have : ∀ vs : List Nat, look vs (vs.map a) t = a t ∨ look vs (vs.map a) t = .unk := by
              intro vs
              induction vs with
              | nil => exact .inr rfl
              | cons v vs ih =>
                simp only [List.map_cons, look]
                split
                · rename_i e; subst e; exact .inl rfl
                · exact ih
            rcases this X.vs with h1 | h1
            · rw [h1]; exact he1 t
            · rw [h1]; exact .unk _ _
          | succ n ih =>
            intro rs1 a σ1 act1 w1 i hdr hi hrun hg
            have hlt : i < ops.size := by omega
            have hlt' : i < rs.length := by simp at hlen; omega
            have hcons : rs1 = rs[i] :: rs.drop (i + 1) := by rw [← hdr]; exact List.drop_eq_getElem_cons hlt'
            subst hcons
            obtain ⟨a2, σ2, hst, hrun2⟩ := hrun
            rw [List.range_succ_eq_map, List.map_cons, List.map_map]
            have e1 : (i + 0) = i := rfl
            rw [e1, wpOps_cons]
            obtain ⟨id', hcar⟩ := hget i ops[i] rs[i] (by simp [hlt]) (List.getElem?_eq_getElem hlt')
            obtain ⟨β1, F1, hA, he1⟩ := hg.ex
            refine opr_wp hA.rel he1 (hg.size.trans hn) (by simp [hlt]) hcar hst ?_
            intro act2 w2 hg2
            have := ih _ a2 σ2 act2 w2 (i + 1) rfl (by omega) hrun2 (Goes.trans hA hg.size hg.defers hg2)
            have e2 : (List.range n).map ((fun x => i + x) ∘ Nat.succ) = (List.range n).map (i + 1 + ·) := by
              apply List.map_congr_left; intro x _; simp; omega
            rw [e2]; exact this
        have := key ops.size rs (look X.vs L) (σ ++ List.replicate m .free) act w 0 rfl (by omega) h ⟨⟨β, F, ⟨hr1, Ids.le_refl _, fun _ h => h, Grow.refl _ _, fun _ _ _ => rfl, fun _ h => .inl h, fun o b h => .inr ⟨o, h⟩⟩, he⟩, rfl, rfl⟩
        simpa using this
    · cases hc
  all_goals
    repeat' (split at hc)
    all_goals cases hc

/-- THE FUNCTION. -/
theorem FS.body {f : FuncId} {fn : Func} {c : Code} {ac : AC} {σi σo : List Ob} {xs : List V} {v : V} (hf : X.P.funcs[f]? = some fn) (hb : fn.body = some c) (hnt : fn.ntmps = X.nt) (hc : compC X.P X.Γ X.D X.nt c = some ac)
    (hk : xs.length ≤ X.nt)
    (h : AWP X ac (fun e L' σ' => (e = .ret ∨ e = .normal) ∧ ∀ β F w act, Rel σ' β F w → EnvR w F β (look X.vs L') act → act.tmps.size = X.nt →
        ∃ β' F' val, After (lives σo) β β' F F' w w ∧ (results fn act.tmps).run X.P w = .ok val w ∧ VR w F' β' v val) (X.vs.map fun t => xs.getD t (.tup [])) (lives σi)) : FS X.P f σi xs v σo := by
  intro β F w args hr hx
  refine calls_of_wp hf hb (wp_mono (h c hc β F w _ hr ?_ ?_) ?_)
  · -- the first temporaries are the arguments
    intro t
    have key : ∀ vs : List Nat, look vs (vs.map fun t => xs.getD t (.tup [])) t = xs.getD t (.tup []) ∨ look vs (vs.map fun t => xs.getD t (.tup [])) t = .unk := by
      intro vs
      induction vs with
      | nil => exact .inr rfl
      | cons y vs ih =>
        simp only [List.map_cons, look]
        split
        · rename_i e; subst e; exact .inl rfl
        · exact ih
    rcases key X.vs with h1 | h1
    · rw [h1]
      rcases Nat.lt_or_ge t xs.length with h2 | h2
      · have h3 := hx.2 t xs[t] (List.getElem?_eq_getElem h2)
        have hsz : t < args.size := by have := hx.1; simp at this; omega
        simp only [List.getD_eq_getElem?_getD, h2, List.getElem?_eq_getElem, Option.getD_some]
        simp only [Array.getD_eq_getD_getElem?]
        rw [Array.getElem?_append_left hsz]
        simpa [List.getD_eq_getElem?_getD, hsz] using h3
      · have : xs.getD t (.tup []) = .tup [] := by simp [List.getD_eq_getElem?_getD, h2]
        rw [this]
        have hsz : args.size ≤ t := by have := hx.1; simp at this; omega
        have : (args ++ Array.replicate (fn.ntmps - args.size) undef).getD t undef = undef := by
          simp only [Array.getD_eq_getD_getElem?]
          rw [Array.getElem?_append_right hsz]
          simp [Array.getElem?_replicate]
          split <;> rfl
        show VR w F β _ ((args ++ Array.replicate (fn.ntmps - args.size) undef).getD t undef)
        rw [this]; exact undef_ok
    · rw [h1]; exact .unk _ _
  · have := hx.1
    simp at this
    simp [hnt]
    omega
  · rintro e act' w' ⟨L', σ', ⟨he, hq⟩, hg⟩
    obtain ⟨β1, F1, hA, he1⟩ := hg.ex
    have hsz : act'.tmps.size = X.nt := by
      rw [hg.size]
      have := hx.1
      simp at this
      simp [hnt]
      omega
    obtain ⟨β2, F2, val, hA2, hres, hv⟩ := hq β1 F1 w' act' hA.rel he1 hsz
    have hdef : act'.defers = [] := hg.defers
    rcases he with rfl | rfl
    · exact ⟨hdef, val, hres, val, β2, F2, rfl, hv, hA.trans hA2⟩
    · exact ⟨hdef, val, hres, val, β2, F2, rfl, hv, hA.trans hA2⟩

end
end Go.Proofs.YtffigokicddekaaGreat.Abs
/- What a step reads and turns. No condition. -/
set_option linter.unusedVariables false
set_option linter.unusedSimpArgs false
namespace Go.Proofs.YtffigokicddekaaGreat.Abs
open Go

def Opd.uses : Opd → List Nat
  | .t n => [n]
  | .k _ => []
def usesL : List Opd → List Nat
  | [] => []
  | x :: xs => x.uses ++ usesL xs
def usesO : Option Opd → List Nat
  | none => []
  | some x => x.uses

def AO.uses : AO → List Nat
  | .mov x | .box _ _ x | .load _ _ x | .faddr _ x | .field _ _ _ x | .nilc x | .not x | .neg x | .cint _ x | .s2b _ x | .s2f x | .mkf x | .b2s x | .len x | .slen x | .ext x _ => x.uses
  | .pick c a b => c.uses ++ (a.uses ++ b.uses)
  | .alloc .. => []
  | .build _ ps => usesL (ps.map fun p => p.2.2)
  | .bslice _ _ _ _ ps => usesL (ps.map fun p => p.2)
  | .store _ x y | .iaddr _ x y | .sindex x y | .bin _ x y | .eqs _ _ x y | .beq _ x y | .mks _ _ _ _ x y | .app _ _ _ x y => x.uses ++ y.uses
  | .slice _ x lo hi | .sslice x lo hi => x.uses ++ (usesO lo ++ usesO hi)
  | .max xs | .min xs | .call _ _ _ _ xs => usesL xs

def AO.news : AO → List Nat
  | .alloc id .. | .box id .. | .bslice id .. | .s2b id _ | .mks id .. | .app id .. => [id]
  | .call _ id own _ _ => (List.range own).map (id + ·)
  | _ => []

/-- the objects that a step reads or turns -/
def AO.touch (o : AO) (a : Env) : List Nat :=
  match o with
  | .load _ _ x | .b2s x => (x.ev a).ids
  | .store _ x _ => (x.ev a).ids
  | .mkf x => (x.ev a).ids
  | .app _ _ _ x y => (x.ev a).ids ++ (y.ev a).ids
  | .call _ _ _ _ args => V.idsL (args.map fun x => x.ev a)
  | _ => []

/-- 0: it looks at no object; 1: it reads; 2: it makes one; 3: it turns one -/
def AO.kind : AO → Nat
  | .load .. | .b2s _ => 1
  | .alloc .. | .box .. | .bslice .. | .s2b .. | .mks .. => 2
  | .store .. | .app .. | .mkf _ => 3
  | .call wr _ own _ _ => if wr = false ∧ own = 0 then 1 else 3
  | _ => 0

theorem ev_same {a b : Env} {x : Opd} (h : ∀ t ∈ x.uses, b t = a t) : x.ev b = x.ev a := by
  cases x with
  | t n => exact h n (by simp [Opd.uses])
  | k v => rfl

theorem evs_same {a b : Env} : ∀ {xs : List Opd}, (∀ t ∈ usesL xs, b t = a t) → (xs.map fun x => x.ev b) = xs.map fun x => x.ev a
  | [], _ => rfl
  | x :: xs, h => by
    simp only [List.map_cons]
    rw [ev_same (fun t ht => h t (by simp [usesL, ht])), evs_same (fun t ht => h t (by simp [usesL, ht]))]

theorem evo_same {a b : Env} {x : Option Opd} (h : ∀ t ∈ usesO x, b t = a t) : x.map (·.ev b) = x.map (·.ev a) := by
  cases x with
  | none => rfl
  | some x => simp only [Option.map_some]; rw [ev_same h]

/-- τ' came of τ as σ' of σ, at the places S; elsewhere nothing has turned -/
structure Upd (S : List Nat) (σ σ' τ τ' : Store) : Prop where
  on : ∀ q ∈ S, τ'[q]? = σ'[q]?
  off : ∀ q, q ∉ S → τ'[q]? = τ[q]? ∧ σ'[q]? = σ[q]?
  len : τ'.length = τ.length ∧ σ'.length = σ.length

theorem Upd.same {S : List Nat} {σ τ : Store} (h : ∀ q ∈ S, τ[q]? = σ[q]?) : Upd S σ σ τ τ := ⟨h, fun _ _ => ⟨rfl, rfl⟩, rfl, rfl⟩

theorem Upd.set {S : List Nat} {σ τ : Store} (h : ∀ q ∈ S, τ[q]? = σ[q]?) {o : Nat} (ho : o ∈ S) (s : Slot) : Upd S σ (σ.set o s) τ (τ.set o s) := by
  have hl : o < τ.length ↔ o < σ.length := by
    have := h o ho
    constructor
    · intro h1
      rw [List.getElem?_eq_getElem h1] at this
      exact (List.getElem?_eq_some_iff.1 this.symm).1
    · intro h1
      rw [List.getElem?_eq_getElem h1] at this
      exact (List.getElem?_eq_some_iff.1 this).1
  refine ⟨fun q hq => ?_, fun q hq => ?_, by simp, by simp⟩
  · by_cases e : o = q
    · subst e
      simp only [List.getElem?_set]
      simp only [if_true]
      by_cases h1 : o < σ.length
      · rw [if_pos h1, if_pos (hl.2 h1)]
      · rw [if_neg h1, if_neg (fun h2 => h1 (hl.1 h2))]
    · rw [get_set_ne e, get_set_ne e]; exact h q hq
  · have e : o ≠ q := fun e => hq (e ▸ ho)
    rw [get_set_ne e, get_set_ne e]; exact ⟨rfl, rfl⟩

theorem Upd.trans {S : List Nat} {σ σ1 σ2 τ τ1 τ2 : Store} (h : Upd S σ σ1 τ τ1) (k : Upd S σ1 σ2 τ1 τ2) : Upd S σ σ2 τ τ2 :=
  ⟨k.on, fun q hq => ⟨(k.off q hq).1.trans (h.off q hq).1, (k.off q hq).2.trans (h.off q hq).2⟩, k.len.1.trans h.len.1, k.len.2.trans h.len.2⟩

theorem rows_same {σ τ : Store} {s : Nat} {x : V} (h : ∀ q ∈ x.ids, τ[q]? = σ[q]?) : rows τ s x = rows σ s x := by
  unfold rows
  cases x <;> try rfl
  rename_i o s' off len
  dsimp only
  rw [h o (by simp [V.ids])]

theorem isFree_same {σ τ : Store} {id : Nat} (h : τ[id]? = σ[id]?) : isFree τ id ↔ isFree σ id := by unfold isFree; rw [h]

theorem astep_local {o : AO} {a b : Env} {σ σ' τ : Store} {v : V} (hs : astep o a σ = some (v, σ')) (hu : ∀ t ∈ o.uses, b t = a t) (ht : ∀ q ∈ o.touch a ++ o.news, τ[q]? = σ[q]?) :
    ∃ τ', astep o b τ = some (v, τ') ∧ Upd (o.touch a ++ o.news) σ σ' τ τ' ∧ (o.kind ≤ 1 → σ' = σ ∧ τ' = τ) ∧ (o.kind = 2 → Upd o.news σ σ' τ τ') := by
  have ev1 : ∀ {x : Opd}, (∀ t ∈ x.uses, t ∈ o.uses) → x.ev b = x.ev a := fun h => ev_same fun t ht => hu t (h t ht)
  have pure : σ' = σ → astep o b τ = some (v, τ) → ∃ τ', astep o b τ = some (v, τ') ∧ Upd (o.touch a ++ o.news) σ σ' τ τ' ∧ (o.kind ≤ 1 → σ' = σ ∧ τ' = τ) ∧ (o.kind = 2 → Upd o.news σ σ' τ τ') := by
    rintro rfl h
    exact ⟨τ, h, .same ht, fun _ => ⟨rfl, rfl⟩, fun _ => .same fun q hq => ht q (by simp [hq])⟩
  have made : ∀ (id : Nat) (ob : Ob), o.news = [id] → o.touch a = [] → o.kind = 2 → σ' = σ.set id (.live ob) → astep o b τ = some (v, τ.set id (.live ob)) →
      ∃ τ', astep o b τ = some (v, τ') ∧ Upd (o.touch a ++ o.news) σ σ' τ τ' ∧ (o.kind ≤ 1 → σ' = σ ∧ τ' = τ) ∧ (o.kind = 2 → Upd o.news σ σ' τ τ') := by
    rintro id ob h1 h2 h3 rfl h
    rw [h1, h2] at ht ⊢
    rw [h3]
    have hu := Upd.set ht (o := id) (by simp) (.live ob)
    exact ⟨_, h, hu, fun h => by omega, fun _ => by simpa using hu⟩
  have free1 : ∀ id, id ∈ o.news → (isFree τ id ↔ isFree σ id) := fun id hid => isFree_same (ht id (by simp [hid]))
  cases o with
  | call => simp [astep] at hs
  | mov x =>
    simp only [astep, Option.some.injEq, Prod.mk.injEq] at hs
    exact pure hs.2.symm (by simp only [astep]; rw [ev1 (x := x) (fun t h => h), hs.1])
  | pick c x y =>
    simp only [astep] at hs
    split at hs
    · rename_i q hq
      cases hs
      refine pure rfl ?_
      simp only [astep]
      rw [ev1 (x := c) (fun t h => by simp [AO.uses, h]), hq, ev1 (x := x) (fun t h => by simp [AO.uses, h]), ev1 (x := y) (fun t h => by simp [AO.uses, h])]
    · cases hs
  | alloc id s z =>
    simp only [astep] at hs
    split at hs
    · rename_i hid
      cases hs
      exact made id _ rfl rfl rfl rfl (by simp only [astep]; rw [if_pos ((free1 id (by simp [AO.news])).2 hid)])
    · cases hs
  | box id s x =>
    simp only [astep] at hs
    split at hs
    · rename_i cs hcs
      split at hs
      · rename_i hc
        cases hs
        exact made id _ rfl rfl rfl rfl (by simp only [astep]; rw [ev1 (x := x) (fun t h => h), hcs]; dsimp only; rw [if_pos ⟨(free1 id (by simp [AO.news])).2 hc.1, hc.2⟩])
      · cases hs
    · cases hs
  | bslice id s n z ps =>
    simp only [astep] at hs
    have e : (ps.map fun p => (p.1, p.2.ev b)) = ps.map fun p => (p.1, p.2.ev a) := by
      apply List.map_congr_left
      intro p hp
      congr 1
      refine ev1 fun t ht => ?_
      have : ∀ (ps : List (Nat × Opd)), p ∈ ps → t ∈ usesL (ps.map fun p => p.2) := by
        intro ps
        induction ps with
        | nil => intro h; simp at h
        | cons q ps ih =>
          intro h
          simp only [List.mem_cons] at h
          simp only [List.map_cons, usesL, List.mem_append]
          rcases h with rfl | h
          · exact .inl ht
          · exact .inr (ih h)
      exact this ps hp
    split at hs
    · rename_i es hes
      split at hs
      · rename_i hid
        cases hs
        exact made id _ rfl rfl rfl rfl (by simp only [astep]; rw [e, hes]; dsimp only; rw [if_pos ((free1 id (by simp [AO.news])).2 hid)])
      · cases hs
    · cases hs
  | build z ps =>
    simp only [astep] at hs
    have e : (ps.map fun p => (p.1, p.2.1, p.2.2.ev b)) = ps.map fun p => (p.1, p.2.1, p.2.2.ev a) := by
      apply List.map_congr_left
      intro p hp
      congr 2
      refine ev1 fun t ht => ?_
      have : ∀ (ps : List (Nat × Nat × Opd)), p ∈ ps → t ∈ usesL (ps.map fun p => p.2.2) := by
        intro ps
        induction ps with
        | nil => intro h; simp at h
        | cons q ps ih =>
          intro h
          simp only [List.mem_cons] at h
          simp only [List.map_cons, usesL, List.mem_append]
          rcases h with rfl | h
          · exact .inl ht
          · exact .inr (ih h)
      exact this ps hp
    simp only [Option.map_eq_some_iff, Prod.mk.injEq] at hs
    obtain ⟨cs, hcs, rfl, rfl⟩ := hs
    exact pure rfl (by simp only [astep]; rw [e, hcs]; rfl)
  | mkf x =>
    simp only [astep] at hs
    split at hs
    · rename_i q s' off len hq
      split at hs
      · rename_i h0
        split at hs
        · rename_i es hes
          split at hs
          · rename_i l hl
            cases hs
            have hq0 : τ[q]? = σ[q]? := ht q (by simp [AO.touch, hq, V.ids])
            have hrow : rows τ 1 (.sl q s' off len) = some es := (rows_same fun k hk => ht k (by simp [AO.touch, hq]; exact .inl hk)).trans hes
            refine ⟨τ.set q .dead, ?_, ?_, fun h => absurd h (by simp [AO.kind]), fun h => absurd h (by simp [AO.kind])⟩
            · simp only [astep]
              rw [ev1 (x := x) (fun t h => h), hq]
              dsimp only
              rw [if_pos h0, hrow]
              dsimp only
              rw [hl]
            · exact Upd.set ht (o := q) (by simp [AO.touch, hq, V.ids]) .dead
          · cases hs
        · cases hs
      · cases hs
    · cases hs
  | s2f x =>
    simp only [astep] at hs
    split at hs
    · rename_i q hq
      cases hs
      exact pure rfl (by simp only [astep]; rw [ev1 (x := x) (fun t h => h), hq])
    · cases hs
  | s2b id x =>
    simp only [astep] at hs
    split at hs
    · rename_i q hq
      split at hs
      · rename_i hid
        cases hs
        exact made id _ rfl rfl rfl rfl (by simp only [astep]; rw [ev1 (x := x) (fun t h => h), hq]; dsimp only; rw [if_pos ((free1 id (by simp [AO.news])).2 hid)])
      · cases hs
    · cases hs
  | mks id s bytes z x y =>
    simp only [astep] at hs
    split at hs
    · rename_i n m h1 h2
      split at hs
      · rename_i hc
        cases hs
        exact made id _ rfl rfl rfl rfl (by simp only [astep]; rw [ev1 (x := x) (fun t h => by simp [AO.uses, h]), ev1 (x := y) (fun t h => by simp [AO.uses, h]), h1, h2]; dsimp only; rw [if_pos ⟨(free1 id (by simp [AO.news])).2 hc.1, hc.2⟩])
      · cases hs
    · cases hs
  | load s ag x =>
    have ex := ev1 (x := x) (fun t h => h)
    simp only [astep] at hs
    split at hs
    · rename_i o' s' e c hop
      have hτ : τ[o']? = σ[o']? := ht o' (by simp [AO.touch, hop, V.ids])
      split at hs
      · rename_i ob ho
        split at hs
        · rename_i l hl
          split at hs
          · rename_i hc
            simp only [Option.map_eq_some_iff, Prod.mk.injEq] at hs
            obtain ⟨y, hy, rfl, rfl⟩ := hs
            exact pure rfl (by simp only [astep]; rw [ex, hop]; dsimp only; rw [hτ, ho]; dsimp only; rw [hl]; dsimp only; rw [if_pos hc, hy]; rfl)
          · cases hs
        · cases hs
      · cases hs
    · rename_i cs hop
      split at hs
      · rename_i hc
        simp only [Option.map_eq_some_iff, Prod.mk.injEq] at hs
        obtain ⟨y, hy, rfl, rfl⟩ := hs
        exact pure rfl (by simp only [astep]; rw [ex, hop]; dsimp only; rw [if_pos hc, hy]; rfl)
      · cases hs
    · cases hs
  | b2s x =>
    have ex := ev1 (x := x) (fun t h => h)
    simp only [astep] at hs
    split at hs
    · rename_i es hes
      simp only [Option.map_eq_some_iff, Prod.mk.injEq] at hs
      obtain ⟨l, hl, rfl, rfl⟩ := hs
      exact pure rfl (by simp only [astep]; rw [ex, rows_same (σ := σ) (fun q hq => ht q (by simp [AO.touch, hq])), hes]; dsimp only; rw [hl]; rfl)
    · cases hs
  | store s x y =>
    have ex := ev1 (x := x) (fun t h => by simp [AO.uses, h])
    have ey := ev1 (x := y) (fun t h => by simp [AO.uses, h])
    simp only [astep] at hs
    split at hs
    · rename_i o' s' e c cs hop hcs
      have hτ : τ[o']? = σ[o']? := ht o' (by simp [AO.touch, hop, V.ids])
      split at hs
      · rename_i ob ho
        split at hs
        · rename_i l hl
          split at hs
          · rename_i hc
            cases hs
            refine ⟨_, by simp only [astep]; rw [ex, ey, hop, hcs]; dsimp only; rw [hτ, ho]; dsimp only; rw [hl]; dsimp only; rw [if_pos hc], Upd.set ht (by simp [AO.touch, hop, V.ids]) _, fun h => by simp [AO.kind] at h, fun h => by simp [AO.kind] at h⟩
          · cases hs
        · cases hs
      · cases hs
    · cases hs
  | app id s bytes x y =>
    have ex := ev1 (x := x) (fun t h => by simp [AO.uses, h])
    have ey := ev1 (x := y) (fun t h => by simp [AO.uses, h])
    have er : rows τ s (y.ev a) = rows σ s (y.ev a) := rows_same (fun q hq => ht q (by simp [AO.touch, hq]))
    have hid : τ[id]? = σ[id]? := ht id (by simp [AO.news])
    have hfr := isFree_same hid
    simp only [astep] at hs
    split at hs
    · rename_i ys hop hys
      split at hs
      · cases hs
        refine ⟨τ, by simp only [astep]; rw [ex, ey, hop, er, hys], .same ht, fun h => by simp [AO.kind] at h, fun h => by simp [AO.kind] at h⟩
      · split at hs
        · rename_i hc
          cases hs
          refine ⟨_, by simp only [astep]; rw [ex, ey, hop, er, hys]; dsimp only; rw [if_pos ⟨hfr.2 hc.1, hc.2⟩], Upd.set ht (by simp [AO.news]) _, fun h => by simp [AO.kind] at h, fun h => by simp [AO.kind] at h⟩
        · cases hs
    · rename_i o' s' off len ys hop hys
      have hτ : τ[o']? = σ[o']? := ht o' (by simp [AO.touch, hop, V.ids])
      split at hs
      · rename_i ob ho
        split at hs
        · rename_i hc
          cases hs
          have h1 := Upd.set ht (o := o') (by simp [AO.touch, hop, V.ids]) .dead
          have h2 := Upd.set (σ := σ.set o' .dead) (τ := τ.set o' .dead) h1.on (o := id) (by simp [AO.news]) (.live ⟨s, ob.es.take len ++ ys⟩)
          refine ⟨_, by simp only [astep]; rw [ex, ey, hop, er, hys]; dsimp only; rw [hτ, ho]; dsimp only; rw [if_pos ⟨hc.1, hc.2.1, hc.2.2.1, hc.2.2.2.1, hfr.2 hc.2.2.2.2.1, hc.2.2.2.2.2⟩], h1.trans h2, fun h => by simp [AO.kind] at h, fun h => by simp [AO.kind] at h⟩
        · cases hs
      · cases hs
    · cases hs
  | slice s x lo hi =>
    have ex := ev1 (x := x) (fun t h => by simp [AO.uses, h])
    have el : lo.map (·.ev b) = lo.map (·.ev a) := evo_same fun t h => hu t (by simp [AO.uses, h])
    have eh : hi.map (·.ev b) = hi.map (·.ev a) := evo_same fun t h => hu t (by simp [AO.uses, h])
    have hσ : σ' = σ := by
      clear pure made free1 ev1 ht hu
      simp only [astep] at hs
      (repeat' (split at hs)) <;> first
        | (cases hs; done)
        | (cases hs; rfl)
        | (simp only [Option.map_eq_some_iff, Prod.mk.injEq] at hs; obtain ⟨_, _, _, h⟩ := hs; exact h.symm)
    have e : astep (.slice s x lo hi) b τ = (astep (.slice s x lo hi) a σ).map fun p => (p.1, τ) := by
      clear pure made free1 ev1 ht hu hs
      simp only [astep]
      rw [ex, el, eh]
      (repeat' split) <;> first
        | rfl
        | (rw [Option.map_map]; rfl)
    exact pure hσ (by rw [e, hs]; rfl)
  | sslice x lo hi =>
    have ex := ev1 (x := x) (fun t h => by simp [AO.uses, h])
    have el : lo.map (·.ev b) = lo.map (·.ev a) := evo_same fun t h => hu t (by simp [AO.uses, h])
    have eh : hi.map (·.ev b) = hi.map (·.ev a) := evo_same fun t h => hu t (by simp [AO.uses, h])
    have hσ : σ' = σ := by
      clear pure made free1 ev1 ht hu
      simp only [astep] at hs
      (repeat' (split at hs)) <;> first
        | (cases hs; done)
        | (cases hs; rfl)
        | (simp only [Option.map_eq_some_iff, Prod.mk.injEq] at hs; obtain ⟨_, _, _, h⟩ := hs; exact h.symm)
    have e : astep (.sslice x lo hi) b τ = (astep (.sslice x lo hi) a σ).map fun p => (p.1, τ) := by
      clear pure made free1 ev1 ht hu hs
      simp only [astep]
      rw [ex, el, eh]
      (repeat' split) <;> first
        | rfl
        | (rw [Option.map_map]; rfl)
    exact pure hσ (by rw [e, hs]; rfl)
  | max xs =>
    have ex : (xs.map fun x => x.ev b) = xs.map fun x => x.ev a := evs_same hu
    have hσ : σ' = σ := by
      clear pure made free1 ev1 ht hu
      simp only [astep] at hs
      (repeat' (split at hs)) <;> first
        | (cases hs; done)
        | (cases hs; rfl)
        | (simp only [Option.map_eq_some_iff, Prod.mk.injEq] at hs; obtain ⟨_, _, _, h⟩ := hs; exact h.symm)
    have e : astep (.max xs) b τ = (astep (.max xs) a σ).map fun p => (p.1, τ) := by
      clear pure made free1 ev1 ht hu hs
      simp only [astep]
      rw [ex]
      (repeat' split) <;> first
        | rfl
        | (rw [Option.map_map]; rfl)
    exact pure hσ (by rw [e, hs]; rfl)
  | min xs =>
    have ex : (xs.map fun x => x.ev b) = xs.map fun x => x.ev a := evs_same hu
    have hσ : σ' = σ := by
      clear pure made free1 ev1 ht hu
      simp only [astep] at hs
      (repeat' (split at hs)) <;> first
        | (cases hs; done)
        | (cases hs; rfl)
        | (simp only [Option.map_eq_some_iff, Prod.mk.injEq] at hs; obtain ⟨_, _, _, h⟩ := hs; exact h.symm)
    have e : astep (.min xs) b τ = (astep (.min xs) a σ).map fun p => (p.1, τ) := by
      clear pure made free1 ev1 ht hu hs
      simp only [astep]
      rw [ex]
      (repeat' split) <;> first
        | rfl
        | (rw [Option.map_map]; rfl)
    exact pure hσ (by rw [e, hs]; rfl)
  | faddr k x =>
    have ex := ev1 (x := x) (fun t h => h)
    have hσ : σ' = σ := by
      clear pure made free1 ev1 ht hu
      simp only [astep] at hs
      (repeat' (split at hs)) <;> first
        | (cases hs; done)
        | (cases hs; rfl)
        | (simp only [Option.map_eq_some_iff, Prod.mk.injEq] at hs; obtain ⟨_, _, _, h⟩ := hs; exact h.symm)
    have e : astep (.faddr k x) b τ = (astep (.faddr k x) a σ).map fun p => (p.1, τ) := by
      clear pure made free1 ev1 ht hu hs
      simp only [astep]
      rw [ex]
      (repeat' split) <;> first
        | rfl
        | (rw [Option.map_map]; rfl)
    exact pure hσ (by rw [e, hs]; rfl)
  | nilc x =>
    have ex := ev1 (x := x) (fun t h => h)
    have hσ : σ' = σ := by
      clear pure made free1 ev1 ht hu
      simp only [astep] at hs
      (repeat' (split at hs)) <;> first
        | (cases hs; done)
        | (cases hs; rfl)
        | (simp only [Option.map_eq_some_iff, Prod.mk.injEq] at hs; obtain ⟨_, _, _, h⟩ := hs; exact h.symm)
    have e : astep (.nilc x) b τ = (astep (.nilc x) a σ).map fun p => (p.1, τ) := by
      clear pure made free1 ev1 ht hu hs
      simp only [astep]
      rw [ex]
      (repeat' split) <;> first
        | rfl
        | (rw [Option.map_map]; rfl)
    exact pure hσ (by rw [e, hs]; rfl)
  | not x =>
    have ex := ev1 (x := x) (fun t h => h)
    have hσ : σ' = σ := by
      clear pure made free1 ev1 ht hu
      simp only [astep] at hs
      (repeat' (split at hs)) <;> first
        | (cases hs; done)
        | (cases hs; rfl)
        | (simp only [Option.map_eq_some_iff, Prod.mk.injEq] at hs; obtain ⟨_, _, _, h⟩ := hs; exact h.symm)
    have e : astep (.not x) b τ = (astep (.not x) a σ).map fun p => (p.1, τ) := by
      clear pure made free1 ev1 ht hu hs
      simp only [astep]
      rw [ex]
      (repeat' split) <;> first
        | rfl
        | (rw [Option.map_map]; rfl)
    exact pure hσ (by rw [e, hs]; rfl)
  | neg x =>
    have ex := ev1 (x := x) (fun t h => h)
    have hσ : σ' = σ := by
      clear pure made free1 ev1 ht hu
      simp only [astep] at hs
      (repeat' (split at hs)) <;> first
        | (cases hs; done)
        | (cases hs; rfl)
        | (simp only [Option.map_eq_some_iff, Prod.mk.injEq] at hs; obtain ⟨_, _, _, h⟩ := hs; exact h.symm)
    have e : astep (.neg x) b τ = (astep (.neg x) a σ).map fun p => (p.1, τ) := by
      clear pure made free1 ev1 ht hu hs
      simp only [astep]
      rw [ex]
      (repeat' split) <;> first
        | rfl
        | (rw [Option.map_map]; rfl)
    exact pure hσ (by rw [e, hs]; rfl)
  | cint k x =>
    have ex := ev1 (x := x) (fun t h => h)
    have hσ : σ' = σ := by
      clear pure made free1 ev1 ht hu
      simp only [astep] at hs
      (repeat' (split at hs)) <;> first
        | (cases hs; done)
        | (cases hs; rfl)
        | (simp only [Option.map_eq_some_iff, Prod.mk.injEq] at hs; obtain ⟨_, _, _, h⟩ := hs; exact h.symm)
    have e : astep (.cint k x) b τ = (astep (.cint k x) a σ).map fun p => (p.1, τ) := by
      clear pure made free1 ev1 ht hu hs
      simp only [astep]
      rw [ex]
      (repeat' split) <;> first
        | rfl
        | (rw [Option.map_map]; rfl)
    exact pure hσ (by rw [e, hs]; rfl)
  | len x =>
    have ex := ev1 (x := x) (fun t h => h)
    have hσ : σ' = σ := by
      clear pure made free1 ev1 ht hu
      simp only [astep] at hs
      (repeat' (split at hs)) <;> first
        | (cases hs; done)
        | (cases hs; rfl)
        | (simp only [Option.map_eq_some_iff, Prod.mk.injEq] at hs; obtain ⟨_, _, _, h⟩ := hs; exact h.symm)
    have e : astep (.len x) b τ = (astep (.len x) a σ).map fun p => (p.1, τ) := by
      clear pure made free1 ev1 ht hu hs
      simp only [astep]
      rw [ex]
      (repeat' split) <;> first
        | rfl
        | (rw [Option.map_map]; rfl)
    exact pure hσ (by rw [e, hs]; rfl)
  | slen x =>
    have ex := ev1 (x := x) (fun t h => h)
    have hσ : σ' = σ := by
      clear pure made free1 ev1 ht hu
      simp only [astep] at hs
      (repeat' (split at hs)) <;> first
        | (cases hs; done)
        | (cases hs; rfl)
        | (simp only [Option.map_eq_some_iff, Prod.mk.injEq] at hs; obtain ⟨_, _, _, h⟩ := hs; exact h.symm)
    have e : astep (.slen x) b τ = (astep (.slen x) a σ).map fun p => (p.1, τ) := by
      clear pure made free1 ev1 ht hu hs
      simp only [astep]
      rw [ex]
      (repeat' split) <;> first
        | rfl
        | (rw [Option.map_map]; rfl)
    exact pure hσ (by rw [e, hs]; rfl)
  | ext x k =>
    have ex := ev1 (x := x) (fun t h => h)
    have hσ : σ' = σ := by
      clear pure made free1 ev1 ht hu
      simp only [astep] at hs
      (repeat' (split at hs)) <;> first
        | (cases hs; done)
        | (cases hs; rfl)
        | (simp only [Option.map_eq_some_iff, Prod.mk.injEq] at hs; obtain ⟨_, _, _, h⟩ := hs; exact h.symm)
    have e : astep (.ext x k) b τ = (astep (.ext x k) a σ).map fun p => (p.1, τ) := by
      clear pure made free1 ev1 ht hu hs
      simp only [astep]
      rw [ex]
      (repeat' split) <;> first
        | rfl
        | (rw [Option.map_map]; rfl)
    exact pure hσ (by rw [e, hs]; rfl)
  | field off s ag x =>
    have ex := ev1 (x := x) (fun t h => h)
    have hσ : σ' = σ := by
      clear pure made free1 ev1 ht hu
      simp only [astep] at hs
      (repeat' (split at hs)) <;> first
        | (cases hs; done)
        | (cases hs; rfl)
        | (simp only [Option.map_eq_some_iff, Prod.mk.injEq] at hs; obtain ⟨_, _, _, h⟩ := hs; exact h.symm)
    have e : astep (.field off s ag x) b τ = (astep (.field off s ag x) a σ).map fun p => (p.1, τ) := by
      clear pure made free1 ev1 ht hu hs
      simp only [astep]
      rw [ex]
      (repeat' split) <;> first
        | rfl
        | (rw [Option.map_map]; rfl)
    exact pure hσ (by rw [e, hs]; rfl)
  | iaddr s x y =>
    have ex := ev1 (x := x) (fun t h => by simp [AO.uses, h])
    have ey := ev1 (x := y) (fun t h => by simp [AO.uses, h])
    have hσ : σ' = σ := by
      clear pure made free1 ev1 ht hu
      simp only [astep] at hs
      (repeat' (split at hs)) <;> first
        | (cases hs; done)
        | (cases hs; rfl)
        | (simp only [Option.map_eq_some_iff, Prod.mk.injEq] at hs; obtain ⟨_, _, _, h⟩ := hs; exact h.symm)
    have e : astep (.iaddr s x y) b τ = (astep (.iaddr s x y) a σ).map fun p => (p.1, τ) := by
      clear pure made free1 ev1 ht hu hs
      simp only [astep]
      rw [ex, ey]
      (repeat' split) <;> first
        | rfl
        | (rw [Option.map_map]; rfl)
    exact pure hσ (by rw [e, hs]; rfl)
  | sindex x y =>
    have ex := ev1 (x := x) (fun t h => by simp [AO.uses, h])
    have ey := ev1 (x := y) (fun t h => by simp [AO.uses, h])
    have hσ : σ' = σ := by
      clear pure made free1 ev1 ht hu
      simp only [astep] at hs
      (repeat' (split at hs)) <;> first
        | (cases hs; done)
        | (cases hs; rfl)
        | (simp only [Option.map_eq_some_iff, Prod.mk.injEq] at hs; obtain ⟨_, _, _, h⟩ := hs; exact h.symm)
    have e : astep (.sindex x y) b τ = (astep (.sindex x y) a σ).map fun p => (p.1, τ) := by
      clear pure made free1 ev1 ht hu hs
      simp only [astep]
      rw [ex, ey]
      (repeat' split) <;> first
        | rfl
        | (rw [Option.map_map]; rfl)
    exact pure hσ (by rw [e, hs]; rfl)
  | bin op x y =>
    have ex := ev1 (x := x) (fun t h => by simp [AO.uses, h])
    have ey := ev1 (x := y) (fun t h => by simp [AO.uses, h])
    have hσ : σ' = σ := by
      clear pure made free1 ev1 ht hu
      simp only [astep] at hs
      (repeat' (split at hs)) <;> first
        | (cases hs; done)
        | (cases hs; rfl)
        | (simp only [Option.map_eq_some_iff, Prod.mk.injEq] at hs; obtain ⟨_, _, _, h⟩ := hs; exact h.symm)
    have e : astep (.bin op x y) b τ = (astep (.bin op x y) a σ).map fun p => (p.1, τ) := by
      clear pure made free1 ev1 ht hu hs
      simp only [astep]
      rw [ex, ey]
      (repeat' split) <;> first
        | rfl
        | (rw [Option.map_map]; rfl)
    exact pure hσ (by rw [e, hs]; rfl)
  | eqs ks ng x y =>
    have ex := ev1 (x := x) (fun t h => by simp [AO.uses, h])
    have ey := ev1 (x := y) (fun t h => by simp [AO.uses, h])
    have hσ : σ' = σ := by
      clear pure made free1 ev1 ht hu
      simp only [astep] at hs
      (repeat' (split at hs)) <;> first
        | (cases hs; done)
        | (cases hs; rfl)
        | (simp only [Option.map_eq_some_iff, Prod.mk.injEq] at hs; obtain ⟨_, _, _, h⟩ := hs; exact h.symm)
    have e : astep (.eqs ks ng x y) b τ = (astep (.eqs ks ng x y) a σ).map fun p => (p.1, τ) := by
      clear pure made free1 ev1 ht hu hs
      simp only [astep]
      rw [ex, ey]
      (repeat' split) <;> first
        | rfl
        | (rw [Option.map_map]; rfl)
    exact pure hσ (by rw [e, hs]; rfl)
  | beq ng x y =>
    have ex := ev1 (x := x) (fun t h => by simp [AO.uses, h])
    have ey := ev1 (x := y) (fun t h => by simp [AO.uses, h])
    have hσ : σ' = σ := by
      clear pure made free1 ev1 ht hu
      simp only [astep] at hs
      (repeat' (split at hs)) <;> first
        | (cases hs; done)
        | (cases hs; rfl)
        | (simp only [Option.map_eq_some_iff, Prod.mk.injEq] at hs; obtain ⟨_, _, _, h⟩ := hs; exact h.symm)
    have e : astep (.beq ng x y) b τ = (astep (.beq ng x y) a σ).map fun p => (p.1, τ) := by
      clear pure made free1 ev1 ht hu hs
      simp only [astep]
      rw [ex, ey]
      (repeat' split) <;> first
        | rfl
        | (rw [Option.map_map]; rfl)
    exact pure hσ (by rw [e, hs]; rfl)

end Go.Proofs.YtffigokicddekaaGreat.Abs
/- A region whose order Go leaves open: any order comes to what the text's order comes to. No condition. -/
set_option linter.unusedVariables false
set_option linter.unusedSimpArgs false
namespace Go.Proofs.YtffigokicddekaaGreat.Abs
open Go

theorem view_same {σ τ : Store} {m : List Nat} {b : Bool} {x y : V} (h : View σ m b x y) : (∀ q ∈ x.ids, τ[q]? = σ[q]?) → View τ m b x y := by
  induction h with
  | same b x y hc hle => exact fun _ => .same b x y hc hle
  | ptr b o k s e c hm => exact fun _ => .ptr b o k s e c hm
  | sl b o k s off len hm => exact fun _ => .sl b o k s off len hm
  | rows o s off len es hm hes hcl => exact fun h => .rows o s off len es hm ((rows_same h).trans hes) hcl
  | agg b xs ys hl h ih =>
    intro ht
    refine .agg b xs ys hl fun j x y hx hy => ih j x y hx hy fun q hq => ht q ?_
    simp only [V.ids]
    exact idsL_mem hx q hq

section
variable {P : Program}

theorem callR_local {f : FuncId} {id own : Nat} {σ σ' τ : Store} {xs : List V} {v : V} (h : CallR P f id own σ xs v σ') (ht : ∀ q ∈ V.idsL xs ++ (List.range own).map (id + ·), τ[q]? = σ[q]?) :
    ∃ τ', CallR P f id own τ xs v τ' ∧ Upd (V.idsL xs ++ (List.range own).map (id + ·)) σ σ' τ τ' := by
  obtain ⟨m, σi, σo, vs, v0, b, hc⟩ := h
  have hc' : CallOk P f id own τ xs v (putObs τ m id σo) m σi σo vs v0 b :=
    { fs := hc.fs, nd := hc.nd, sub := hc.sub, len := hc.len, at_ := fun k o ob hk ho => by
        rw [ht o (by simp [hc.sub o (List.mem_of_getElem? hk)])]; exact hc.at_ k o ob hk ho
      view := ⟨hc.view.1, fun j x y hx hy => view_same (hc.view.2 j x y hx hy) fun q hq => ht q (by simp [idsL_mem hx q hq])⟩
      ole := hc.ole, olen := hc.olen, new := fun j hj => (isFree_same (ht (id + j) (by simp [hj]))).2 (hc.new j hj)
      icl := hc.icl, ocl := hc.ocl, flat := hc.flat, res := hc.res, st := rfl }
  refine ⟨putObs τ m id σo, ⟨m, σi, σo, vs, v0, b, hc'⟩, ?_⟩
  obtain ⟨l1, p1, p2, _⟩ := putObs_get hc
  obtain ⟨l2, q1, q2, _⟩ := putObs_get hc'
  have img : ∀ i, i < σo.length → renOf m id i ∈ V.idsL xs ++ (List.range own).map (id + ·) := by
    intro i hi
    rw [List.mem_append]
    rcases Nat.lt_or_ge i m.length with h1 | h1
    · left
      have : renOf m id i = m[i] := by simp [renOf, h1]
      rw [this]; exact hc.sub _ (List.getElem_mem h1)
    · right
      have : renOf m id i = id + (i - m.length) := by simp [renOf, h1]
      rw [this, List.mem_map]
      have := hc.olen
      exact ⟨i - m.length, by rw [List.mem_range]; omega, rfl⟩
  refine ⟨fun q hq => ?_, fun q hq => ?_, l2, l1⟩
  · by_cases hex : ∃ i, i < σo.length ∧ renOf m id i = q
    · obtain ⟨i, hi, rfl⟩ := hex
      rw [q1 i _ (List.getElem?_eq_getElem hi), p1 i _ (List.getElem?_eq_getElem hi)]
    · have hno : ∀ i, i < σo.length → renOf m id i ≠ q := fun i hi e => hex ⟨i, hi, e⟩
      rw [q2 q hno, p2 q hno]; exact ht q hq
  · have hno : ∀ i, i < σo.length → renOf m id i ≠ q := fun i hi e => hq (e ▸ img i hi)
    exact ⟨q2 q hno, p2 q hno⟩

theorem upd_ext {S : List Nat} {σ τ τ' : Store} (h : Upd S σ σ τ τ') (ht : ∀ q ∈ S, τ[q]? = σ[q]?) : τ' = τ := by
  apply List.ext_getElem?
  intro q
  by_cases hq : q ∈ S
  · rw [h.on q hq, ht q hq]
  · exact (h.off q hq).1

theorem opR_local {o : AO} {a b : Env} {σ σ' τ : Store} {v : V} (hs : OpR P o a σ v σ') (hu : ∀ t ∈ o.uses, b t = a t) (ht : ∀ q ∈ o.touch a ++ o.news, τ[q]? = σ[q]?) :
    ∃ τ', OpR P o b τ v τ' ∧ Upd (o.touch a ++ o.news) σ σ' τ τ' ∧ (o.kind ≤ 1 → σ' = σ ∧ τ' = τ) ∧ (o.kind = 2 → Upd o.news σ σ' τ τ') := by
  by_cases hcall : ∃ wr id own f args, o = .call wr id own f args
  · obtain ⟨wr, id, own, f, args, rfl⟩ := hcall
    simp only [OpR] at hs ⊢
    have e : (args.map fun x => x.ev b) = args.map fun x => x.ev a := evs_same hu
    rw [e]
    obtain ⟨τ', h1, h2⟩ := callR_local hs.1 ht
    refine ⟨τ', ⟨h1, fun hw ho => ?_⟩, h2, fun hk => ?_, fun hk => ?_⟩
    · have := hs.2 hw ho
      subst this
      exact upd_ext h2 ht
    · simp only [AO.kind] at hk
      split at hk
      · rename_i hc
        have := hs.2 hc.1 hc.2
        subst this
        exact ⟨rfl, upd_ext h2 ht⟩
      · omega
    · simp only [AO.kind] at hk
      split at hk <;> omega
  · have e : ∀ a σ v σ', OpR P o a σ v σ' ↔ astep o a σ = some (v, σ') := by
      intro a σ v σ'
      cases o <;> first | (exact absurd ⟨_, _, _, _, _, rfl⟩ hcall) | rfl
    obtain ⟨τ', h1, h2⟩ := astep_local ((e a σ v σ').1 hs) hu ht
    exact ⟨τ', (e b τ v τ').2 h1, h2⟩

def AR.uses (r : AR) : List Nat := (match r.guard with | some (t, _) => [t] | none => []) ++ r.op.uses

/-- the objects that a step turns -/
def AO.turns (o : AO) (a : Env) : List Nat := if o.kind ≤ 1 then [] else if o.kind = 2 then o.news else o.touch a ++ o.news

theorem stepR_local {r : AR} {a b : Env} {σ σ' τ : Store} {a' : Env} (hs : StepR P r a σ a' σ') (hu : ∀ t ∈ r.uses, b t = a t) (ht : ∀ q ∈ r.op.touch a ++ r.op.news, τ[q]? = σ[q]?) :
    ∃ v τ', a' = putE a r.dst v ∧ StepR P r b τ (putE b r.dst v) τ' ∧ Upd (r.op.turns a) σ σ' τ τ' := by
  have hg : guardOk r.guard b = guardOk r.guard a := by
    unfold guardOk
    cases h : r.guard with
    | none => rfl
    | some p =>
      obtain ⟨t, want⟩ := p
      dsimp only
      rw [hu t (by simp [AR.uses, h])]
  unfold StepR at hs ⊢
  rw [hg]
  split at hs
  · exact hs.elim
  · obtain ⟨rfl, rfl⟩ := hs
    refine ⟨_, τ, rfl, ⟨rfl, rfl⟩, .same fun q hq => ht q ?_⟩
    unfold AO.turns at hq
    split at hq
    · simp at hq
    · split at hq
      · simp [hq]
      · exact hq
  · obtain ⟨v, hv, rfl⟩ := hs
    obtain ⟨τ', h1, h2, h3, h4⟩ := opR_local hv (fun t h => hu t (by simp [AR.uses, h])) ht
    refine ⟨v, τ', rfl, ⟨v, h1, rfl⟩, ?_⟩
    unfold AO.turns
    split
    · rename_i hk
      obtain ⟨rfl, rfl⟩ := h3 hk
      exact ⟨fun q hq => by simp at hq, fun q _ => ⟨rfl, rfl⟩, rfl, rfl⟩
    · split
      · rename_i hk; exact h4 hk
      · exact h2

def labOk (lab b : Nat) (ws touch : List Nat) : Prop :=
  (lab % 2 = 1 → ∀ q ∈ touch, q < b) ∧ (lab / 2 = 1 → ∀ q ∈ touch, q ∉ ws) ∧ (lab / 2 = 2 → ∀ q ∈ touch, q ∈ ws)

def AR.sh (r : AR) (b : Nat) : AR := { r with op := r.op.sh b }

def runD (P : Program) (b : Nat) (ws : List Nat) : List AR → Env → Store → (Env → Store → Prop) → Prop
  | [], a, σ, Q => Q a σ
  | r :: rs, a, σ, Q => labOk r.lab b ws ((r.sh b).op.touch a) ∧ ∃ a' σ', StepR P (r.sh b) a σ a' σ' ∧ runD P b ws rs a' σ' Q

/-- two operations whose order does not matter -/
def indepR (x y : AR) : Bool :=
  (match x.dst with | some d => !(y.uses.contains d) && y.dst != some d | none => true) &&
  (match y.dst with | some d => !(x.uses.contains d) | none => true) &&
  (x.op.kind == 0 || y.op.kind == 0 || (x.op.kind == 1 && y.op.kind == 1) ||
    (x.op.kind == 2 && y.op.kind == 2 && x.op.news.all fun q => !(y.op.news.contains q)) ||
    (x.op.kind == 1 && y.op.kind == 2 && x.lab % 2 == 1) || (x.op.kind == 2 && y.op.kind == 1 && y.lab % 2 == 1) ||
    (x.op.kind == 3 && y.op.kind == 2 && x.lab % 2 == 1 && (x.op.news.all fun q => !(y.op.news.contains q))) ||
    (x.op.kind == 2 && y.op.kind == 3 && y.lab % 2 == 1 && (x.op.news.all fun q => !(y.op.news.contains q))) ||
    (x.op.kind == 1 && y.op.kind == 3 && x.lab % 2 == 1 && x.lab / 2 == 1 && y.lab / 2 == 2) ||
    (x.op.kind == 3 && y.op.kind == 1 && y.lab % 2 == 1 && y.lab / 2 == 1 && x.lab / 2 == 2))

theorem sh_kind (o : AO) (b : Nat) : (o.sh b).kind = o.kind := by cases o <;> rfl
theorem sh_uses (o : AO) (b : Nat) : (o.sh b).uses = o.uses := by cases o <;> rfl
theorem sh_touch (o : AO) (b : Nat) (a : Env) : (o.sh b).touch a = o.touch a := by cases o <;> rfl
theorem sh_news (o : AO) (b : Nat) : (o.sh b).news = o.news.map (b + ·) := by
  cases o <;> simp [AO.sh, AO.news, Nat.add_assoc]

theorem touch_same {o : AO} {a c : Env} (h : ∀ t ∈ o.uses, c t = a t) : o.touch c = o.touch a := by
  cases o <;> simp only [AO.touch]
  case load s ag x => rw [ev_same (x := x) h]
  case b2s x => rw [ev_same (x := x) h]
  case mkf x => rw [ev_same (x := x) h]
  case store s x y => rw [ev_same (x := x) fun t ht => h t (by simp [AO.uses, ht])]
  case app id s bytes x y => rw [ev_same (x := x) fun t ht => h t (by simp [AO.uses, ht]), ev_same (x := y) fun t ht => h t (by simp [AO.uses, ht])]
  case call wr id own f args => rw [evs_same h]

theorem kind01 {o : AO} (h : o.kind = 0) (a : Env) : o.touch a = [] ∧ o.news = [] := by
  cases o <;> simp [AO.kind] at h <;> first | exact ⟨rfl, rfl⟩ | skip
  all_goals (split at h <;> simp at h)
theorem kind1 {o : AO} (h : o.kind = 1) : o.news = [] := by
  cases o <;> simp [AO.kind] at h <;> first | rfl | skip
  simp [AO.news, h.2]
theorem kind2 {o : AO} (h : o.kind = 2) (a : Env) : o.touch a = [] := by
  cases o <;> simp [AO.kind] at h <;> first | rfl | skip
  split at h <;> simp at h
theorem kind3 (o : AO) : o.kind ≤ 3 := by
  cases o <;> simp [AO.kind]
  split <;> omega

theorem swap {b : Nat} {ws : List Nat} {x y : AR} (hi : indepR x y = true) {a a1 a2 : Env} {σ σ1 σ2 : Store} (hx : StepR P (x.sh b) a σ a1 σ1) (hy : StepR P (y.sh b) a1 σ1 a2 σ2)
    (lx : labOk x.lab b ws ((x.sh b).op.touch a)) (ly : labOk y.lab b ws ((y.sh b).op.touch a1)) :
    ∃ a1' σ1', StepR P (y.sh b) a σ a1' σ1' ∧ StepR P (x.sh b) a1' σ1' a2 σ2 ∧ labOk y.lab b ws ((y.sh b).op.touch a) ∧ labOk x.lab b ws ((x.sh b).op.touch a1') := by
  simp only [indepR, Bool.and_eq_true] at hi
  obtain ⟨⟨hd1, hd2⟩, hk⟩ := hi
  have ux : (x.sh b).uses = x.uses := by simp [AR.uses, AR.sh, sh_uses]
  have uy : (y.sh b).uses = y.uses := by simp [AR.uses, AR.sh, sh_uses]
  have put_ne : ∀ (e : Env) (d : Option Nat) (v : V) (l : List Nat), (∀ q, d = some q → q ∉ l) → ∀ t ∈ l, putE e d v t = e t := by
    intro e d v l h t ht
    cases d with
    | none => rfl
    | some q =>
      have : t ≠ q := fun e => h q rfl (e ▸ ht)
      simp [putE, upd, this]
  have dx : ∀ q, x.dst = some q → q ∉ y.uses := by
    intro q hq; rw [hq] at hd1; simp at hd1; exact hd1.1
  have dxy : ∀ q, x.dst = some q → y.dst ≠ some q := by
    intro q hq; rw [hq] at hd1; simp at hd1; exact hd1.2
  have dy : ∀ q, y.dst = some q → q ∉ x.uses := by
    intro q hq; rw [hq] at hd2; simpa using hd2
  obtain ⟨v1, -, e1, -, -⟩ := stepR_local (b := a) (τ := σ) hx (fun _ _ => rfl) (fun _ _ => rfl)
  have e1' : a1 = putE a x.dst v1 := e1
  have ay : ∀ t ∈ y.uses, a t = a1 t := fun t ht => by rw [e1']; exact (put_ne a x.dst v1 y.uses dx t ht).symm
  have ty : (y.sh b).op.touch a = (y.sh b).op.touch a1 := touch_same fun t ht => ay t (by simp only [AR.sh, sh_uses] at ht; simp [AR.uses, ht])
  -- what x turns lies apart from what y looks at, and the other way
  have kx := kind3 x.op
  have ky := kind3 y.op
  have nge : ∀ (o : AO), ∀ q ∈ (o.sh b).news, b ≤ q := by
    intro o q hq
    rw [sh_news, List.mem_map] at hq
    obtain ⟨_, _, rfl⟩ := hq
    omega
  have ndis : ∀ (o o' : AO), (∀ q ∈ o.news, q ∉ o'.news) → ∀ q ∈ (o.sh b).news, q ∉ (o'.sh b).news := by
    intro o o' h q hq hq'
    rw [sh_news, List.mem_map] at hq hq'
    obtain ⟨p, hp, rfl⟩ := hq
    obtain ⟨p', hp', e⟩ := hq'
    have : p' = p := by omega
    subst this
    exact h _ hp hp'
  have apart : (∀ q ∈ (x.sh b).op.turns a, q ∉ (y.sh b).op.touch a1 ++ (y.sh b).op.news) ∧ (∀ q ∈ (y.sh b).op.turns a1, q ∉ (x.sh b).op.touch a ++ (x.sh b).op.news) := by
    have turns0 : ∀ (o : AO) e, o.kind ≤ 1 → (o.sh b).turns e = [] := fun o e h => by simp [AO.turns, sh_kind, h]
    have turns2 : ∀ (o : AO) e, o.kind = 2 → (o.sh b).turns e = (o.sh b).news := fun o e h => by simp [AO.turns, sh_kind, h]
    have turns3 : ∀ (o : AO) e, o.kind = 3 → (o.sh b).turns e = (o.sh b).touch e ++ (o.sh b).news := fun o e h => by simp [AO.turns, sh_kind, h]
    have look0 : ∀ (o : AO) e, o.kind = 0 → (o.sh b).touch e ++ (o.sh b).news = [] := fun o e h => by
      obtain ⟨h1, h2⟩ := kind01 (o := o.sh b) (by rw [sh_kind]; exact h) e
      rw [h1, h2]; rfl
    have look1 : ∀ (o : AO), o.kind = 1 → (o.sh b).news = [] := fun o h => kind1 (by rw [sh_kind]; exact h)
    have look2 : ∀ (o : AO) e, o.kind = 2 → (o.sh b).touch e = [] := fun o e h => kind2 (by rw [sh_kind]; exact h) e
    simp only [Bool.or_eq_true, Bool.and_eq_true, beq_iff_eq, List.all_eq_true, Bool.not_eq_true', List.contains_eq_mem, decide_eq_false_iff_not] at hk
    show (∀ q ∈ (x.op.sh b).turns a, q ∉ (y.op.sh b).touch a1 ++ (y.op.sh b).news) ∧ (∀ q ∈ (y.op.sh b).turns a1, q ∉ (x.op.sh b).touch a ++ (x.op.sh b).news)
    have lx' : labOk x.lab b ws ((x.op.sh b).touch a) := lx
    have ly' : labOk y.lab b ws ((y.op.sh b).touch a1) := ly
    rcases hk with ((((((((((h | h) | h) | h) | h) | h) | h) | h) | h) | h))
    · rw [turns0 _ _ (by omega), look0 _ _ h]; simp
    · rw [turns0 _ a1 (by omega), look0 _ _ h]; simp
    · rw [turns0 _ _ (by omega), turns0 _ a1 (by omega)]; simp
    · rw [turns2 _ _ h.1.1, turns2 _ a1 h.1.2, look2 _ _ h.1.1, look2 _ _ h.1.2]
      simp only [List.nil_append]
      exact ⟨ndis _ _ h.2, fun q hq hq' => ndis _ _ h.2 q hq' hq⟩
    · rw [turns0 _ _ (by omega), turns2 _ a1 h.1.2, look1 _ h.1.1, List.append_nil]
      refine ⟨by simp, fun q hq hq' => ?_⟩
      have := lx'.1 h.2 q hq'; have := nge _ q hq; omega
    · rw [turns0 _ a1 (by omega), turns2 _ _ h.1.1, look1 _ h.1.2, List.append_nil]
      refine ⟨fun q hq hq' => ?_, by simp⟩
      have := ly'.1 h.2 q hq'; have := nge _ q hq; omega
    · rw [turns3 _ _ h.1.1.1, turns2 _ a1 h.1.1.2, look2 _ _ h.1.1.2, List.nil_append]
      refine ⟨fun q hq hq' => ?_, fun q hq hq' => ?_⟩
      · rcases List.mem_append.1 hq with h1 | h1
        · have := lx'.1 h.1.2 q h1; have := nge _ q hq'; omega
        · exact ndis _ _ h.2 q h1 hq'
      · rcases List.mem_append.1 hq' with h1 | h1
        · have := lx'.1 h.1.2 q h1; have := nge _ q hq; omega
        · exact ndis _ _ h.2 q h1 hq
    · rw [turns2 _ _ h.1.1.1, turns3 _ a1 h.1.1.2, look2 _ _ h.1.1.1, List.nil_append]
      refine ⟨fun q hq hq' => ?_, fun q hq hq' => ?_⟩
      · rcases List.mem_append.1 hq' with h1 | h1
        · have := ly'.1 h.1.2 q h1; have := nge _ q hq; omega
        · exact ndis _ _ h.2 q hq h1
      · rcases List.mem_append.1 hq with h1 | h1
        · have := ly'.1 h.1.2 q h1; have := nge _ q hq'; omega
        · exact ndis _ _ h.2 q hq' h1
    · rw [turns0 _ _ (by omega), turns3 _ a1 h.1.1.1.2, look1 _ h.1.1.1.1, List.append_nil]
      refine ⟨by simp, fun q hq hq' => ?_⟩
      rcases List.mem_append.1 hq with h1 | h1
      · exact lx'.2.1 h.1.2 q hq' (ly'.2.2 h.2 q h1)
      · have := lx'.1 h.1.1.2 q hq'; have := nge _ q h1; omega
    · rw [turns0 _ a1 (by omega), turns3 _ _ h.1.1.1.1, look1 _ h.1.1.1.2, List.append_nil]
      refine ⟨fun q hq hq' => ?_, by simp⟩
      rcases List.mem_append.1 hq with h1 | h1
      · exact ly'.2.1 h.1.2 q hq' (lx'.2.2 h.2 q h1)
      · have := ly'.1 h.1.1.2 q hq'; have := nge _ q h1; omega
  obtain ⟨_, _, -, -, ux0⟩ := stepR_local (b := a) (τ := σ) hx (fun _ _ => rfl) (fun _ _ => rfl)
  obtain ⟨v2, σ1', e2, hy', uY⟩ := stepR_local (b := a) (τ := σ) hy (fun t ht => by rw [uy] at ht; exact ay t ht)
    (fun q hq => by
      by_cases hq' : q ∈ (x.sh b).op.turns a
      · exact absurd hq (apart.1 q hq')
      · exact (ux0.off q hq').2.symm)
  have e2' : a2 = putE a1 y.dst v2 := e2
  obtain ⟨v1', σ2', e3, hx', uX⟩ := stepR_local (b := putE a y.dst v2) (τ := σ1') hx (fun t ht => by rw [ux] at ht; exact put_ne a y.dst v2 x.uses dy t ht)
    (fun q hq => by
      by_cases hq' : q ∈ (y.sh b).op.turns a1
      · exact absurd hq (apart.2 q hq')
      · exact (uY.off q hq').1)
  have e3' : a1 = putE a x.dst v1' := e3
  have hσ : σ2' = σ2 := by
    apply List.ext_getElem?
    intro q
    by_cases h1 : q ∈ (x.sh b).op.turns a
    · rw [uX.on q h1]
      by_cases h2 : q ∈ (y.sh b).op.turns a1
      · exfalso
        have := apart.1 q h1
        have h3 : q ∈ (y.sh b).op.touch a1 ++ (y.sh b).op.news := by
          unfold AO.turns at h2
          split at h2
          · simp at h2
          · split at h2
            · simp [h2]
            · exact h2
        exact this h3
      · exact (uY.off q h2).2.symm
    · rw [(uX.off q h1).1]
      by_cases h2 : q ∈ (y.sh b).op.turns a1
      · exact uY.on q h2
      · rw [(uY.off q h2).1, (uY.off q h2).2, (uX.off q h1).2]
  have ha : putE (putE a y.dst v2) x.dst v1' = a2 := by
    rw [e2', e3']
    cases hxd : x.dst with
    | none => rfl
    | some p =>
      cases hyd : y.dst with
      | none => rfl
      | some q =>
        have : q ≠ p := fun e => dxy p hxd (by rw [hyd, e])
        funext t
        simp only [putE, upd]
        by_cases h1 : t = p
        · have : t ≠ q := by omega
          simp [h1]; omega
        · simp [h1]
  refine ⟨putE a y.dst v2, σ1', hy', ?_, by rw [ty]; exact ly, ?_⟩
  · rw [hσ] at hx'
    have : putE (putE a y.dst v2) (x.sh b).dst v1' = a2 := ha
    rw [this] at hx'; exact hx'
  · have : (x.sh b).op.touch (putE a y.dst v2) = (x.sh b).op.touch a := touch_same fun t ht => put_ne a y.dst v2 x.uses dy t (by simp only [AR.sh, sh_uses] at ht; simp [AR.uses, ht])
    rw [this]; exact lx

theorem runD_front {b : Nat} {ws : List Nat} {r : AR} {post : List AR} {Q : Env → Store → Prop} : ∀ {pre : List AR} {a : Env} {σ : Store}, (∀ x ∈ pre, indepR x r = true) → runD P b ws (pre ++ r :: post) a σ Q → runD P b ws (r :: (pre ++ post)) a σ Q
  | [], a, σ, _, h => h
  | x :: pre, a, σ, hi, h => by
    obtain ⟨lx, a1, σ1, hx, h1⟩ := h
    obtain ⟨lr, a2, σ2, hr, h2⟩ := runD_front (pre := pre) (fun y hy => hi y (by simp [hy])) h1
    obtain ⟨a1', σ1', hr', hx', lr', lx'⟩ := swap (hi x (by simp)) hx hr lx lr
    exact ⟨lr', a1', σ1', hr', lx', a2, σ2, hx', h2⟩

end

def directs (o : Oper) : List Nat := (o.after.toList.filter (Region.binds .any)).map (·.on)

/-- all operations that come before each -/
def pres : List Oper → List (List Nat) → List (List Nat)
  | [], acc => acc
  | o :: os, acc => pres os (acc ++ [((directs o).flatMap fun e => e :: acc.getD e []).eraseDups])

def drawOk (ops : Array Oper) (rs : List AR) : Bool :=
  let R := pres ops.toList []
  (List.range ops.size).all fun i => ((ops[i]?).all fun o => (directs o).all (· < i)) &&
    (List.range i).all fun j => (R.getD i []).contains j || indepR (rs.getD j ⟨none, none, 0, .mov (.k .unk)⟩) (rs.getD i ⟨none, none, 0, .mov (.k .unk)⟩)

/-- labels: which operations must keep to old objects, keep off what is written, keep to what is named as written -/
def labels (ops : Array Oper) (rs : List AR) : List AR :=
  let R := pres ops.toList []
  rs.zipIdx.map fun (r, i) =>
    let inc := (List.range rs.length).filter fun j => j != i && !((R.getD i []).contains j) && !((R.getD j []).contains i)
    let ks := inc.map fun j => ((rs.getD j ⟨none, none, 0, .mov (.k .unk)⟩).op.kind)
    let lo := if (r.op.kind == 1 && (ks.contains 2 || ks.contains 3)) || (r.op.kind == 3 && ks.contains 2) then 1 else 0
    let av := if r.op.kind == 1 && ks.contains 3 then 2 else if r.op.kind == 3 && ks.contains 1 then 4 else 0
    { r with lab := lo + av }

def drawD (ops : Array Oper) (rs : List AR) : Option (List AR) :=
  let rs' := labels ops rs
  if drawOk ops rs' then some rs' else none

theorem pres_get : ∀ (os : List Oper) (acc : List (List Nat)), (∀ i, i < acc.length → (pres os acc)[i]? = acc[i]?) ∧
    ∀ (i : Nat) o, os[i]? = some o → ∃ l, (pres os acc)[acc.length + i]? = some l ∧ ∀ x ∈ l, ∃ e ∈ directs o, x = e ∨ (e < acc.length + i ∧ x ∈ (pres os acc).getD e [])
  | [], acc => ⟨fun i h => rfl, fun i o h => by simp at h⟩
  | o :: os, acc => by
    obtain ⟨h1, h2⟩ := pres_get os (acc ++ [((directs o).flatMap fun e => e :: acc.getD e []).eraseDups])
    have hold : ∀ i, i < acc.length → (pres (o :: os) acc)[i]? = acc[i]? := by
      intro i hi
      simp only [pres]
      rw [h1 i (by simp; omega), List.getElem?_append_left hi]
    refine ⟨hold, fun i o' ho => ?_⟩
    cases i with
    | zero =>
      simp at ho; subst ho
      refine ⟨((directs o).flatMap fun e => e :: acc.getD e []).eraseDups, ?_, fun x hx => ?_⟩
      · simp only [pres]
        rw [h1 _ (by simp)]
        simp
      · rw [List.mem_eraseDups, List.mem_flatMap] at hx
        obtain ⟨e, he, hx⟩ := hx
        refine ⟨e, he, ?_⟩
        rcases List.mem_cons.1 hx with h3 | h3
        · exact .inl h3
        · right
          have hlt : e < acc.length := by
            rcases Nat.lt_or_ge e acc.length with h4 | h4
            · exact h4
            · simp [List.getD_eq_getElem?_getD, h4] at h3
          refine ⟨by omega, ?_⟩
          rw [List.getD_eq_getElem?_getD, hold e hlt, ← List.getD_eq_getElem?_getD]
          exact h3
    | succ i =>
      obtain ⟨l, hl, hx⟩ := h2 i o' (by simpa using ho)
      simp only [List.length_append, List.length_singleton] at hl hx
      refine ⟨l, ?_, fun x hxl => ?_⟩
      · rw [show acc.length + (i + 1) = acc.length + 1 + i by omega]; exact hl
      · obtain ⟨e, he, h3⟩ := hx x hxl
        refine ⟨e, he, h3.imp id fun h4 => ⟨by omega, h4.2⟩⟩

theorem Grow.drawn {F : Nat → Prop} {w : World} : Grow F w { w with drawn := w.drawn + 1 } where
  os := rfl
  tape := rfl
  output := rfl
  size := Nat.le_refl _
  cells := fun b c elem fr h => ⟨c, fr, h, rfl⟩
  same := fun b hb => rfl

theorem Rel.drawn {σ : Store} {β : Ids} {F : Nat → Prop} {w : World} (h : Rel σ β F w) : Rel σ β F { w with drawn := w.drawn + 1 } where
  live := fun o ob ho => by
    obtain ⟨b, c, e, fr, h1, h2, h3, h4, h5⟩ := h.live o ob ho
    exact ⟨b, c, e, fr, h1, h2, h3, h4, h5.mono Grow.drawn (fun _ h => h) (Ids.le_refl _)⟩
  inj := h.inj
  free := h.free
  bF := h.bF

section
variable {X : Cx} {Q : Exit → List V → Store → Prop} {L : List V} {σ : Store}

theorem labels_get {ops : Array Oper} {rs : List AR} : (labels ops rs).length = rs.length ∧ ∀ (i : Nat) r, (labels ops rs)[i]? = some r → ∃ r0, rs[i]? = some r0 ∧ r.dst = r0.dst ∧ r.guard = r0.guard ∧ r.op = r0.op := by
  refine ⟨by simp [labels], fun i r h => ?_⟩
  simp only [labels, List.getElem?_map, Option.map_eq_some_iff] at h
  obtain ⟨⟨r0, j⟩, h1, rfl⟩ := h
  rw [List.getElem?_zipIdx] at h1
  simp only [Option.map_eq_some_iff, Prod.mk.injEq] at h1
  obtain ⟨r1, h2, rfl, _⟩ := h1
  exact ⟨r1, h2, rfl, rfl, rfl⟩

theorem awp_draw (hm : X.P.follows .mixedOrders = true) (hD : X.D = drawD) {m : Nat} {rs : List AR} (ws : List Nat) (h : runD X.P σ.length ws rs (look X.vs L) (σ ++ List.replicate m .free) fun a σ' => Q .normal (X.vs.map a) σ') : AWP X (.draw m rs) Q L σ := by
  intro c hc β F w act hr he hn
  cases c <;> simp only [compC, reduceCtorEq] at hc
  case region id ops d =>
    split at hc
    · rename_i rs0 m' hops
      split at hc
      · rename_i hd
        subst hd
        split at hc
        · rename_i rs' hrs'
          cases hc
          rw [hD] at hrs'
          unfold drawD at hrs'
          dsimp only at hrs'
          split at hrs'
          · rename_i hok
            cases hrs'
            obtain ⟨hlen0, hget0⟩ := compOps_get hops
            obtain ⟨ll, lget⟩ := labels_get (ops := ops) (rs := rs0)
            generalize hrsd : labels ops rs0 = rs at h hok ll lget
            have hlen : rs.length = ops.size := by rw [ll, ← hlen0]; simp
            -- each operation and its step
            have hget : ∀ (i : Nat) o r, ops[i]? = some o → rs[i]? = some r → ∃ id r0, compAR X.P X.Γ X.nt ops id o = some r0 ∧ r.dst = r0.dst ∧ r.guard = r0.guard ∧ r.op = r0.op := by
              intro i o r ho hr'
              obtain ⟨r0, h1, h2, h3, h4⟩ := lget i r hr'
              obtain ⟨id', h5⟩ := hget0 i o r0 (by simpa using ho) h1
              exact ⟨id', r0, h5, h2, h3, h4⟩
            unfold drawOk at hok
            simp only [List.all_eq_true, List.mem_range, Bool.or_eq_true, Bool.and_eq_true, List.contains_eq_mem, decide_eq_true_eq] at hok
            obtain ⟨_, hpres⟩ := pres_get ops.toList []
            generalize hR : pres ops.toList [] = R at hok hpres
            have hok1 : ∀ i o, ops[i]? = some o → ∀ e ∈ directs o, e < i := by
              intro i o ho e he
              have hi : i < ops.size := (Array.getElem?_eq_some_iff.1 ho).1
              have := (hok i hi).1
              rw [ho] at this
              simpa using (by simpa using this : ∀ x ∈ directs o, x < i) e he
            have hok2 : ∀ i, i < ops.size → ∀ j, j < i → j ∈ R.getD i [] ∨ indepR (rs.getD j ⟨none, none, 0, .mov (.k .unk)⟩) (rs.getD i ⟨none, none, 0, .mov (.k .unk)⟩) = true := fun i hi j hj => (hok i hi).2 j hj
            have hr1 := rel_free hr m
            have main : ∀ (fuel : Nat) (T : List Nat) (listed : Array Bool) (a : Env) (σ1 : Store) (act1 : Act) (w1 : World), listed.size = ops.size → T = (List.range ops.size).filter (fun i => !listed.getD i true) → T.length ≤ fuel →
                (∀ i o, ops[i]? = some o → listed.getD i false = true → ∀ e ∈ directs o, listed.getD e false = true) →
                runD X.P σ.length ws (T.map fun i => rs.getD i ⟨none, none, 0, .mov (.k .unk)⟩) a σ1 (fun a σ' => Q .normal (X.vs.map a) σ') → Goes σ1 β F w a act act1 w1 →
                wpAny X.P .any ops (fun e act' w' => ∃ L' σ', Q e L' σ' ∧ Goes σ' β F w (look X.vs L') act act' w') fuel listed act1 w1 := by
              have fin : ∀ (a : Env) (σ1 : Store) (act1 : Act) (w1 : World), Q .normal (X.vs.map a) σ1 → Goes σ1 β F w a act act1 w1 → ∃ L' σ', Q .normal L' σ' ∧ Goes σ' β F w (look X.vs L') act act1 w1 := by
                intro a σ1 act1 w1 hq hg
                refine ⟨_, σ1, hq, ?_⟩
                obtain ⟨β1, F1, hA, he1⟩ := hg.ex
                refine ⟨⟨β1, F1, hA, fun t => ?_⟩, hg.size, hg.defers⟩
                have : ∀ vs : List Nat, look vs (vs.map a) t = a t ∨ look vs (vs.map a) t = .unk := by
                  intro vs
                  induction vs with
                  | nil => exact .inr rfl
                  | cons v vs ih =>
                    simp only [List.map_cons, look]
                    split
                    · rename_i e; subst e; exact .inl rfl
                    · exact ih
                rcases this X.vs with h1 | h1
                · rw [h1]; exact he1 t
                · rw [h1]; exact .unk _ _
              -- where nothing is ready, nothing is left
              have stuck : ∀ (listed : Array Bool), listed.size = ops.size → Region.ready .any ops listed = [] → ∀ i, i < ops.size → listed.getD i true = true := by
                intro listed hsz hrd i
                induction i using Nat.strongRecOn with
                | _ i ih =>
                  intro hi
                  cases hx : listed.getD i true with
                  | true => rfl
                  | false =>
                    exfalso
                    have : i ∈ Region.ready .any ops listed := by
                      rw [mem_ready]
                      refine ⟨hx, ops[i], by simp [hi], fun e he hb => ?_⟩
                      have he' : e.on ∈ directs ops[i] := by
                        unfold directs
                        rw [List.mem_map]
                        exact ⟨e, by rw [List.mem_filter]; exact ⟨by simpa using he, hb⟩, rfl⟩
                      have hlt := hok1 i ops[i] (by simp [hi]) e.on he'
                      have := ih e.on hlt (by omega)
                      have h2 : e.on < listed.size := by omega
                      simpa [Array.getD_eq_getD_getElem?, h2] using this
                    rw [hrd] at this; simp at this
              -- what comes before a ready one is listed
              have before : ∀ (listed : Array Bool), (∀ i o, ops[i]? = some o → listed.getD i false = true → ∀ e ∈ directs o, listed.getD e false = true) →
                  ∀ (i : Nat) o, ops[i]? = some o → (∀ e ∈ directs o, listed.getD e false = true) → ∀ x ∈ R.getD i [], listed.getD x false = true := by
                intro listed hdc i
                induction i using Nat.strongRecOn with
                | _ i ih =>
                  intro o ho hd x hx
                  obtain ⟨l, hl, hlx⟩ := hpres i o (by simpa using ho)
                  simp only [List.length_nil, Nat.zero_add] at hl hlx
                  have hx' : x ∈ l := by simpa [List.getD_eq_getElem?_getD, hl] using hx
                  obtain ⟨e, he, h1⟩ := hlx x hx'
                  rcases h1 with rfl | ⟨h1, h2⟩
                  · exact hd _ he
                  · have hi : i < ops.size := (Array.getElem?_eq_some_iff.1 ho).1
                    have hoe : ops[e]? = some (ops[e]'(by omega)) := by simp [show e < ops.size by omega]
                    exact ih e h1 _ hoe (hdc e _ hoe (hd e he)) x h2
              intro fuel
              induction fuel with
              | zero =>
                intro T listed a σ1 act1 w1 hsz hT hlen0 hdc hrun hg
                have hT0 : T = [] := List.eq_nil_of_length_eq_zero (by omega)
                subst hT0
                refine ⟨?_, fin a σ1 act1 w1 hrun hg⟩
                apply List.eq_nil_iff_forall_not_mem.2
                intro i hi
                obtain ⟨h1, o, h2, _⟩ := mem_ready.1 hi
                have h3 : i < ops.size := (Array.getElem?_eq_some_iff.1 h2).1
                have : i ∈ (List.range ops.size).filter (fun i => !listed.getD i true) := by rw [List.mem_filter, List.mem_range]; exact ⟨h3, by simp only [h1, Bool.not_false]⟩
                rw [← hT] at this; simp at this
              | succ fuel ih =>
                intro T listed a σ1 act1 w1 hsz hT hlenT hdc hrun hg
                refine ⟨fun hrd => ?_, fun i hi => ?_⟩
                · have hT0 : T = [] := by
                    rw [hT]
                    apply List.eq_nil_iff_forall_not_mem.2
                    intro i hi
                    rw [List.mem_filter, List.mem_range] at hi
                    have := stuck listed hsz hrd i hi.1
                    simp only [this, Bool.not_true, Bool.false_eq_true, and_false] at hi
                  subst hT0
                  exact fin a σ1 act1 w1 hrun hg
                · obtain ⟨h1, o, h2, h3⟩ := mem_ready.1 hi
                  have hlt : i < ops.size := (Array.getElem?_eq_some_iff.1 h2).1
                  have hmem : i ∈ T := by rw [hT, List.mem_filter, List.mem_range]; exact ⟨hlt, by simp only [h1, Bool.not_false]⟩
                  obtain ⟨pre, post, hsp⟩ := List.append_of_mem hmem
                  have hpw : T.Pairwise (· < ·) := by rw [hT]; exact List.pairwise_lt_range.filter _
                  have hd : ∀ e ∈ directs o, listed.getD e false = true := by
                    intro e he
                    unfold directs at he
                    rw [List.mem_map] at he
                    obtain ⟨x, hx, rfl⟩ := he
                    rw [List.mem_filter] at hx
                    exact h3 x (by simpa using hx.1) hx.2
                  rw [hsp] at hpw
                  have hpre : ∀ j ∈ pre, j < i := fun j hj => (List.pairwise_append.1 hpw).2.2 j hj i (by simp)
                  have hpost : ∀ j ∈ post, i < j := fun j hj => (List.pairwise_cons.1 (List.pairwise_append.1 hpw).2.1).1 j hj
                  rw [hsp, List.map_append, List.map_cons] at hrun
                  have hrun2 := runD_front (fun x hx => by
                    rw [List.mem_map] at hx
                    obtain ⟨j, hj, rfl⟩ := hx
                    rcases hok2 i hlt j (hpre j hj) with h4 | h4
                    · exfalso
                      have h5 := before listed hdc i o h2 hd j h4
                      have h6 : j ∈ T := by rw [hsp]; simp [hj]
                      rw [hT, List.mem_filter] at h6
                      have h7 : j < listed.size := by have := hpre j hj; omega
                      simp [Array.getD_eq_getD_getElem?, h7] at h5 h6
                      simp [h5] at h6
                    · exact h4) hrun
                  obtain ⟨_, a2, σ2, hst, hrun3⟩ := hrun2
                  have hri : rs[i]? = some (rs.getD i ⟨none, none, 0, .mov (.k .unk)⟩) := by
                    have : i < rs.length := by omega
                    simp [List.getD_eq_getElem?_getD, this]
                  obtain ⟨id', r0, hcar, e1, e2, e3⟩ := hget i o _ h2 hri
                  have hst' : StepR X.P { r0 with op := r0.op.sh σ.length } a σ1 a2 σ2 := by
                    unfold StepR at hst ⊢
                    simp only [AR.sh] at hst
                    rw [e1, e2, e3] at hst
                    exact hst
                  obtain ⟨β1, F1, hA, he1⟩ := hg.ex
                  refine opr_wp hA.rel he1 (hg.size.trans hn) h2 hcar hst' ?_
                  intro act2 w2 hg2
                  have hgetD : ∀ k, (listed.setIfInBounds i true).getD k true = if k = i then true else listed.getD k true := by
                    intro k
                    simp only [Array.getD_eq_getD_getElem?, Array.getElem?_setIfInBounds]
                    by_cases e : i = k
                    · subst e; simp [hsz, hlt]
                    · simp [e, Ne.symm e]
                  have hgetF : ∀ k, (listed.setIfInBounds i true).getD k false = if k = i then true else listed.getD k false := by
                    intro k
                    simp only [Array.getD_eq_getD_getElem?, Array.getElem?_setIfInBounds]
                    by_cases e : i = k
                    · subst e; simp [hsz, hlt]
                    · simp [e, Ne.symm e]
                  refine ih (pre ++ post) _ a2 σ2 act2 w2 (by simpa using hsz) ?_ ?_ ?_ (by rw [List.map_append]; exact hrun3) (Goes.trans hA hg.size hg.defers hg2)
                  · have e4 : (List.range ops.size).filter (fun k => !(listed.setIfInBounds i true).getD k true) = T.filter (fun k => k ≠ i) := by
                      rw [hT, List.filter_filter]
                      apply List.filter_congr
                      intro k _
                      rw [hgetD]
                      by_cases e : k = i
                      · simp only [e, if_true, Bool.not_true, ne_eq, not_true_eq_false, decide_false, Bool.false_and]
                      · simp only [e, if_false, ne_eq, not_false_eq_true, decide_true, Bool.true_and]
                    rw [e4, hsp, List.filter_append, List.filter_cons]
                    simp only [ne_eq, not_true_eq_false, decide_false, Bool.false_eq_true, if_false]
                    rw [List.filter_eq_self.2 fun j hj => by have := hpre j hj; simp; omega, List.filter_eq_self.2 fun j hj => by have := hpost j hj; simp; omega]
                  · rw [hsp] at hlenT; simp at hlenT ⊢; omega
                  · intro k o' hk hl e he
                    rw [hgetF] at hl ⊢
                    split
                    · rfl
                    · split at hl
                      · rename_i e5
                        subst e5
                        rw [h2] at hk; cases hk
                        exact hd e he
                      · exact hdc k o' hk hl e he
            refine wp_region_any hm ?_
            refine main ops.size (List.range ops.size) (Array.replicate ops.size false) (look X.vs L) (σ ++ List.replicate m .free) act _ (by simp) ?_ (by simp) ?_ ?_ ?_
            · symm
              apply List.filter_eq_self.2
              intro i hi
              rw [List.mem_range] at hi
              simp [Array.getD_eq_getD_getElem?, hi]
            · intro i o ho hl
              have hi : i < ops.size := (Array.getElem?_eq_some_iff.1 ho).1
              simp [Array.getD_eq_getD_getElem?, hi] at hl
            · have : (List.range ops.size).map (fun i => rs.getD i ⟨none, none, 0, .mov (.k .unk)⟩) = rs := by
                apply List.ext_getElem?
                intro i
                rcases Nat.lt_or_ge i ops.size with h1 | h1
                · have : i < rs.length := by omega
                  simp [List.getD_eq_getElem?_getD, h1, this]
                · have : rs.length ≤ i := by omega
                  simp [h1, this]
              rw [this]; exact h
            · refine ⟨⟨β, F, ⟨hr1.drawn, Ids.le_refl _, fun _ h => h, Grow.drawn, fun _ _ _ => rfl, fun _ h => .inl h, fun o b h => .inr ⟨o, h⟩⟩, fun t => (he t).mono Grow.drawn (fun _ h => h) β (Ids.le_refl _)⟩, rfl, rfl⟩
          · cases hrs'
        · cases hc
      · cases hc
    · cases hc
  all_goals
    repeat' (split at hc)
    all_goals cases hc

end
end Go.Proofs.YtffigokicddekaaGreat.Abs
/- Reckoning with regions. No condition. -/
set_option linter.unusedVariables false
set_option linter.unusedSimpArgs false
namespace Go.Proofs.YtffigokicddekaaGreat.Abs
open Go

def AO.isCall : AO → Bool
  | .call .. => true
  | _ => false

def andT (P : Program) (b : Nat) (rs : List AR) (d : Option Nat) (a : Env) (Q : Env → Store → Prop) : Option (V × Store) → Prop
  | some (v, σ') => runL P b rs (putE a d v) σ' Q
  | none => False

theorem runL_nil (P : Program) (b : Nat) (a : Env) (σ : Store) (Q : Env → Store → Prop) : runL P b [] a σ Q = Q a σ := rfl

theorem runL_op {P : Program} {b : Nat} {d : Option Nat} {l : Nat} {o : AO} {rs : List AR} {a : Env} {σ : Store} {Q : Env → Store → Prop} (h : o.isCall = false) :
    runL P b (⟨d, none, l, o⟩ :: rs) a σ Q = andT P b rs d a Q (astep (o.sh b) a σ) := by
  apply propext
  have e : ∀ v σ', OpR P (o.sh b) a σ v σ' ↔ astep (o.sh b) a σ = some (v, σ') := by
    intro v σ'
    cases o <;> simp [AO.isCall] at h <;> simp [OpR, AO.sh]
  simp only [runL, StepR, guardOk, e]
  constructor
  · rintro ⟨a', σ', ⟨v, hv, rfl⟩, hr⟩
    rw [hv]; exact hr
  · intro hh
    cases hs : astep (o.sh b) a σ with
    | none => rw [hs] at hh; exact hh.elim
    | some p => rw [hs] at hh; exact ⟨_, p.2, ⟨p.1, rfl, rfl⟩, hh⟩

theorem runL_guard {P : Program} {b : Nat} {d : Option Nat} {l t : Nat} {want : Bool} {o : AO} {rs : List AR} {a : Env} {σ : Store} {Q : Env → Store → Prop} {q : Bool} (h : guardOk (some (t, want)) a = some q) :
    runL P b (⟨d, some (t, want), l, o⟩ :: rs) a σ Q = if q = true then runL P b (⟨d, none, l, o⟩ :: rs) a σ Q else runL P b rs (putE a d (.tup [])) σ Q := by
  apply propext
  cases q
  · simp only [runL, StepR, h, Bool.false_eq_true, if_false]
    constructor
    · rintro ⟨a', σ', ⟨rfl, rfl⟩, hr⟩; exact hr
    · intro hr; exact ⟨_, _, ⟨rfl, rfl⟩, hr⟩
  · simp only [runL, StepR, h, if_true]
    rfl

theorem runL_call {P : Program} {b : Nat} {d : Option Nat} {l : Nat} {wr : Bool} {id own : Nat} {f : FuncId} {args : List Opd} {rs : List AR} {a : Env} {σ : Store} {Q : Env → Store → Prop} {v : V} {σ' : Store}
    (h : CallR P f (b + id) own σ (args.map fun x => x.ev a) v σ' ∧ (wr = false → own = 0 → σ' = σ)) (hr : runL P b rs (putE a d v) σ' Q) : runL P b (⟨d, none, l, .call wr id own f args⟩ :: rs) a σ Q :=
  ⟨_, σ', ⟨v, h, rfl⟩, hr⟩

section
variable {P : Program} {b : Nat} {d : Option Nat} {l : Nat} {rs : List AR} {a : Env} {σ : Store} {Q : Env → Store → Prop}
@[go_sem] theorem run_mov (x : Opd) : runL P b (⟨d, none, l, .mov x⟩ :: rs) a σ Q = andT P b rs d a Q (astep (.mov x) a σ) := runL_op rfl
@[go_sem] theorem run_pick (x y z : Opd) : runL P b (⟨d, none, l, .pick x y z⟩ :: rs) a σ Q = andT P b rs d a Q (astep (.pick x y z) a σ) := runL_op rfl
@[go_sem] theorem run_alloc (id s : Nat) (z : List V) : runL P b (⟨d, none, l, .alloc id s z⟩ :: rs) a σ Q = andT P b rs d a Q (astep (.alloc (b + id) s z) a σ) := runL_op rfl
@[go_sem] theorem run_box (id s : Nat) (x : Opd) : runL P b (⟨d, none, l, .box id s x⟩ :: rs) a σ Q = andT P b rs d a Q (astep (.box (b + id) s x) a σ) := runL_op rfl
@[go_sem] theorem run_build (z : List V) (ps : List (Nat × Nat × Opd)) : runL P b (⟨d, none, l, .build z ps⟩ :: rs) a σ Q = andT P b rs d a Q (astep (.build z ps) a σ) := runL_op rfl
@[go_sem] theorem run_bslice (id s n : Nat) (z : List V) (ps : List (Nat × Opd)) : runL P b (⟨d, none, l, .bslice id s n z ps⟩ :: rs) a σ Q = andT P b rs d a Q (astep (.bslice (b + id) s n z ps) a σ) := runL_op rfl
@[go_sem] theorem run_load (s : Nat) (ag : Bool) (x : Opd) : runL P b (⟨d, none, l, .load s ag x⟩ :: rs) a σ Q = andT P b rs d a Q (astep (.load s ag x) a σ) := runL_op rfl
@[go_sem] theorem run_store (s : Nat) (x y : Opd) : runL P b (⟨d, none, l, .store s x y⟩ :: rs) a σ Q = andT P b rs d a Q (astep (.store s x y) a σ) := runL_op rfl
@[go_sem] theorem run_faddr (k : Nat) (x : Opd) : runL P b (⟨d, none, l, .faddr k x⟩ :: rs) a σ Q = andT P b rs d a Q (astep (.faddr k x) a σ) := runL_op rfl
@[go_sem] theorem run_field (off s : Nat) (ag : Bool) (x : Opd) : runL P b (⟨d, none, l, .field off s ag x⟩ :: rs) a σ Q = andT P b rs d a Q (astep (.field off s ag x) a σ) := runL_op rfl
@[go_sem] theorem run_iaddr (s : Nat) (x y : Opd) : runL P b (⟨d, none, l, .iaddr s x y⟩ :: rs) a σ Q = andT P b rs d a Q (astep (.iaddr s x y) a σ) := runL_op rfl
@[go_sem] theorem run_sindex (x y : Opd) : runL P b (⟨d, none, l, .sindex x y⟩ :: rs) a σ Q = andT P b rs d a Q (astep (.sindex x y) a σ) := runL_op rfl
@[go_sem] theorem run_slice (s : Nat) (x : Opd) (lo hi : Option Opd) : runL P b (⟨d, none, l, .slice s x lo hi⟩ :: rs) a σ Q = andT P b rs d a Q (astep (.slice s x lo hi) a σ) := runL_op rfl
@[go_sem] theorem run_sslice (x : Opd) (lo hi : Option Opd) : runL P b (⟨d, none, l, .sslice x lo hi⟩ :: rs) a σ Q = andT P b rs d a Q (astep (.sslice x lo hi) a σ) := runL_op rfl
@[go_sem] theorem run_bin (op : BinOp) (x y : Opd) : runL P b (⟨d, none, l, .bin op x y⟩ :: rs) a σ Q = andT P b rs d a Q (astep (.bin op x y) a σ) := runL_op rfl
@[go_sem] theorem run_eqs (ks : List Nat) (neg : Bool) (x y : Opd) : runL P b (⟨d, none, l, .eqs ks neg x y⟩ :: rs) a σ Q = andT P b rs d a Q (astep (.eqs ks neg x y) a σ) := runL_op rfl
@[go_sem] theorem run_beq (neg : Bool) (x y : Opd) : runL P b (⟨d, none, l, .beq neg x y⟩ :: rs) a σ Q = andT P b rs d a Q (astep (.beq neg x y) a σ) := runL_op rfl
@[go_sem] theorem run_nilc (x : Opd) : runL P b (⟨d, none, l, .nilc x⟩ :: rs) a σ Q = andT P b rs d a Q (astep (.nilc x) a σ) := runL_op rfl
@[go_sem] theorem run_not (x : Opd) : runL P b (⟨d, none, l, .not x⟩ :: rs) a σ Q = andT P b rs d a Q (astep (.not x) a σ) := runL_op rfl
@[go_sem] theorem run_neg (x : Opd) : runL P b (⟨d, none, l, .neg x⟩ :: rs) a σ Q = andT P b rs d a Q (astep (.neg x) a σ) := runL_op rfl
@[go_sem] theorem run_cint (k : IntKind) (x : Opd) : runL P b (⟨d, none, l, .cint k x⟩ :: rs) a σ Q = andT P b rs d a Q (astep (.cint k x) a σ) := runL_op rfl
@[go_sem] theorem run_s2b (id : Nat) (x : Opd) : runL P b (⟨d, none, l, .s2b id x⟩ :: rs) a σ Q = andT P b rs d a Q (astep (.s2b (b + id) x) a σ) := runL_op rfl
@[go_sem] theorem run_s2f (x : Opd) : runL P b (⟨d, none, l, .s2f x⟩ :: rs) a σ Q = andT P b rs d a Q (astep (.s2f x) a σ) := runL_op rfl
@[go_sem] theorem run_mkf (x : Opd) : runL P b (⟨d, none, l, .mkf x⟩ :: rs) a σ Q = andT P b rs d a Q (astep (.mkf x) a σ) := runL_op rfl
@[go_sem] theorem run_b2s (x : Opd) : runL P b (⟨d, none, l, .b2s x⟩ :: rs) a σ Q = andT P b rs d a Q (astep (.b2s x) a σ) := runL_op rfl
@[go_sem] theorem run_mks (id s bytes : Nat) (z : List V) (x y : Opd) : runL P b (⟨d, none, l, .mks id s bytes z x y⟩ :: rs) a σ Q = andT P b rs d a Q (astep (.mks (b + id) s bytes z x y) a σ) := runL_op rfl
@[go_sem] theorem run_len (x : Opd) : runL P b (⟨d, none, l, .len x⟩ :: rs) a σ Q = andT P b rs d a Q (astep (.len x) a σ) := runL_op rfl
@[go_sem] theorem run_slen (x : Opd) : runL P b (⟨d, none, l, .slen x⟩ :: rs) a σ Q = andT P b rs d a Q (astep (.slen x) a σ) := runL_op rfl
@[go_sem] theorem run_app (id s bytes : Nat) (x y : Opd) : runL P b (⟨d, none, l, .app id s bytes x y⟩ :: rs) a σ Q = andT P b rs d a Q (astep (.app (b + id) s bytes x y) a σ) := runL_op rfl
@[go_sem] theorem run_max (xs : List Opd) : runL P b (⟨d, none, l, .max xs⟩ :: rs) a σ Q = andT P b rs d a Q (astep (.max xs) a σ) := runL_op rfl
@[go_sem] theorem run_min (xs : List Opd) : runL P b (⟨d, none, l, .min xs⟩ :: rs) a σ Q = andT P b rs d a Q (astep (.min xs) a σ) := runL_op rfl
@[go_sem] theorem run_ext (x : Opd) (i : Nat) : runL P b (⟨d, none, l, .ext x i⟩ :: rs) a σ Q = andT P b rs d a Q (astep (.ext x i) a σ) := runL_op rfl
@[go_sem] theorem andT_some (v : V) : andT P b rs d a Q (some (v, σ)) = runL P b rs (putE a d v) σ Q := rfl
@[go_sem] theorem andT_none : andT P b rs d a Q none = False := rfl
@[go_sem] theorem andT_map {α : Type} (f : α → V × Store) (x : α) : andT P b rs d a Q ((some x).map f) = andT P b rs d a Q (some (f x)) := rfl
end
attribute [go_sem] runL_nil astep if_true if_false
@[go_sem] theorem putE_some (a : Env) (d : Nat) (v : V) : putE a (some d) v = upd a d v := rfl
@[go_sem] theorem putE_none (a : Env) (v : V) : putE a none v = a := rfl
@[go_sem] theorem upd_app (a : Env) (t : Nat) (v : V) (n : Nat) : upd a t v n = if n = t then v else a n := rfl
@[go_sem] theorem look_app (v : Nat) (vs : List Nat) (x : V) (xs : List V) (t : Nat) : look (v :: vs) (x :: xs) t = if t = v then x else look vs xs t := rfl
@[go_sem] theorem look_nil (xs : List V) (t : Nat) : look [] xs t = .unk := by cases xs <;> rfl
@[go_sem] theorem ev_t (a : Env) (n : Nat) : (Opd.t n).ev a = a n := rfl
@[go_sem] theorem ev_k (a : Env) (v : V) : (Opd.k v).ev a = v := rfl

mutual
theorem ren_closed (g : Nat → Nat) : ∀ x : V, x.closed = true → x.ren g = x
  | .int _ _, _ => rfl
  | .bool _, _ => rfl
  | .str _, _ => rfl
  | .nilp, _ => rfl
  | .ptr _ _ _ _, h => by simp [V.closed] at h
  | .fp _, _ => rfl
  | .nl, _ => rfl
  | .fz _ _, _ => rfl
  | .sl _ _ _ _, h => by simp [V.closed] at h
  | .agg cs, h => by simp only [V.ren]; rw [rens_closed g cs (by simpa [V.closed] using h)]
  | .tup cs, h => by simp only [V.ren]; rw [rens_closed g cs (by simpa [V.closed] using h)]
  | .unk, _ => rfl
theorem rens_closed (g : Nat → Nat) : ∀ xs : List V, V.closeds xs = true → V.rens g xs = xs
  | [], _ => rfl
  | x :: xs, h => by
    simp only [V.closeds, Bool.and_eq_true] at h
    simp only [V.rens]
    rw [ren_closed g x h.1, rens_closed g xs h.2]
end

theorem putObs_nil (σ : Store) (m : List Nat) (id : Nat) : putObs σ m id [] = σ := rfl

/-- a call that takes and returns values that name no object -/
theorem callR_plain {P : Program} {f : FuncId} {id : Nat} {σ : Store} {xs : List V} {v : V} (h : FS P f [] xs v []) (hx : V.closeds xs = true) (hv : v.closed = true) : CallR P f id 0 σ xs v σ ∧ ∀ wr : Bool, (wr = false → (0 : Nat) = 0 → σ = σ) := by
  refine ⟨⟨[], [], [], xs, v, false, ⟨h, List.nodup_nil, fun o h => by simp at h, rfl, fun k o ob h => by simp at h, ⟨rfl, fun j x y h1 h2 => ?_⟩, Nat.le_refl _, Nat.zero_le _, fun j hj => by omega, fun ob h => by simp at h, fun ob h => by simp at h, fun h => (by cases h), (ren_closed _ v hv).symm, rfl⟩⟩, fun _ _ _ => rfl⟩
  rw [h1] at h2; cases h2
  exact .same false x x (closeds_get hx j x h1) (.refl x)

end Go.Proofs.YtffigokicddekaaGreat.Abs
/- What may be forgotten, what is frozen; how a function ends. No condition. -/
set_option linter.unusedVariables false
set_option linter.unusedSimpArgs false
namespace Go.Proofs.YtffigokicddekaaGreat.Abs
open Go

mutual
/-- the value, where the object o is written no more -/
def V.frz (o : Nat) (ob : Ob) : V → V
  | .sl o' s off len => if o' = o then (if s = ob.s ∧ off + len ≤ ob.es.length then .fz s ((ob.es.drop off).take len) else .unk) else .sl o' s off len
  | .ptr o' s e c => if o' = o then (if s = ob.s then match ob.es[e]? with | some l => .fp (l.drop c) | none => .unk else .unk) else .ptr o' s e c
  | .agg cs => .agg (V.frzs o ob cs)
  | .tup cs => .tup (V.frzs o ob cs)
  | x => x
def V.frzs (o : Nat) (ob : Ob) : List V → List V
  | [] => []
  | x :: xs => x.frz o ob :: V.frzs o ob xs
end

theorem frzs_get (o : Nat) (ob : Ob) : ∀ {xs : List V}, (V.frzs o ob xs).length = xs.length ∧ ∀ (j : Nat), (V.frzs o ob xs)[j]? = xs[j]?.map (V.frz o ob)
  | [] => ⟨rfl, fun j => by simp [V.frzs]⟩
  | y :: ys => by
    obtain ⟨h1, h2⟩ := frzs_get o ob (xs := ys)
    refine ⟨by simp [V.frzs, h1], fun j => ?_⟩
    cases j with
    | zero => simp [V.frzs]
    | succ j => simpa [V.frzs] using h2 j

/-- the store turns from σ to σ', and what is known of a value turns by G; nothing happens in the world -/
def Gh (σ σ' : Store) (G : V → V → Prop) : Prop :=
  ∀ β F w, Rel σ β F w → ∃ F', After σ' β β F F' w w ∧ ∀ x y val, G x y → VR w F β x val → VR w F' β y val

theorem Gh.le (σ : Store) : Gh σ σ VLe := fun β F w hr => ⟨F, .refl hr, fun x y val h hv => h _ _ _ _ hv⟩

theorem Gh.trans {σ σ1 σ2 : Store} {G G' : V → V → Prop} (h : Gh σ σ1 G) (k : Gh σ1 σ2 G') : Gh σ σ2 fun x z => ∃ y, G x y ∧ G' y z := by
  intro β F w hr
  obtain ⟨F1, hA, h1⟩ := h β F w hr
  obtain ⟨F2, hA2, h2⟩ := k β F1 w hA.rel
  exact ⟨F2, hA.trans hA2, fun x z val ⟨y, g1, g2⟩ hv => h2 y z val g2 (h1 x y val g1 hv)⟩

theorem Gh.freeze {σ : Store} {o : Nat} {ob : Ob} (ho : σ[o]? = some (.live ob)) (hcl : ob.closed) : Gh σ (σ.set o .dead) fun x y => y = x.frz o ob := by
  intro β F w hr
  obtain ⟨F1, hF1⟩ : ∃ F1 : Nat → Prop, F1 = fun q => F q ∨ β o = some q := ⟨_, rfl⟩
  have hsub : ∀ b, F b → F1 b := fun b hb => by rw [hF1]; exact .inl hb
  have hg : Grow F w w := .refl _ _
  have live' : ∀ (o' : Nat) ob', (σ.set o .dead)[o']? = some (.live ob') → o' ≠ o ∧ σ[o']? = some (.live ob') := by
    intro o' ob' h
    by_cases e : o = o'
    · subst e; rw [get_set_same ho] at h; cases h
    · rw [get_set_ne e] at h; exact ⟨fun e' => e e'.symm, h⟩
  have hA : After (σ.set o .dead) β β F F1 w w := by
    refine ⟨⟨?_, ?_, ?_, ?_⟩, Ids.le_refl _, hsub, .refl _ _, fun _ _ _ => rfl, ?_, fun o b h => .inr ⟨o, h⟩⟩
    · intro o' ob' h
      obtain ⟨hne, h1⟩ := live' o' ob' h
      obtain ⟨b, c, elem, fr, hb, hh, hfr, hFb, hL⟩ := hr.live o' ob' h1
      refine ⟨b, c, elem, fr, hb, hh, hfr, ?_, hL.mono hg hsub (Ids.le_refl _)⟩
      rw [hF1]
      rintro (h2 | h2)
      · exact hFb h2
      · exact hne (hr.inj o' o ob' ob h1 ho (hb.trans h2.symm))
    · intro o1 o2 a1 a2 h1 h2
      exact hr.inj o1 o2 a1 a2 (live' o1 a1 h1).2 (live' o2 a2 h2).2
    · intro o' h
      by_cases e : o = o'
      · subst e; rw [get_set_same ho] at h; rcases h with h | h <;> cases h
      · rw [get_set_ne e] at h; exact hr.free o' h
    · intro b hb
      rw [hF1] at hb
      rcases hb with h | h
      · exact hr.bF b h
      · obtain ⟨b', c, elem, fr, hb, hh, _⟩ := hr.live o ob ho
        rw [hb] at h; cases h
        exact (Array.getElem?_eq_some_iff.1 hh).1
    · intro b hb
      rw [hF1] at hb
      rcases hb with h | h
      · exact .inl h
      · exact .inr (.inr ⟨o, h⟩)
  refine ⟨F1, hA, ?_⟩
  rintro x y val rfl hv
  obtain ⟨b, cc, elem, fr, hb, hh, hfr, hFb, hL⟩ := hr.live o ob ho
  have hFo : F1 b := by rw [hF1]; exact .inr hb
  have key : ∀ (β1 : Ids) (x : V) (val : Value), VR w F β1 x val → β1 = β → VR w F1 β (x.frz o ob) val := by
    intro β1 x val hv
    induction hv with
    | int β1 k n => intro _; exact .int _ k n
    | bool β1 q => intro _; exact .bool _ q
    | str β1 s => intro _; exact .str _ s
    | nilp β1 => intro _; exact .nilp _
    | ptr β1 o' s e c b' hb' =>
      intro he; subst he
      simp only [V.frz]
      split
      · rename_i e1; subst e1
        split
        · rename_i e2
          split
          · rename_i l hl
            rw [hb] at hb'; cases hb'
            obtain ⟨h1, h2, h3⟩ := hL e l hl
            refine .fp _ _ b (e * s + c) (fun j => cc.getD (e * s + c + j) undef) hFo ?_ ?_
            · intro j x hx
              rw [List.getElem?_drop] at hx
              have hj : c + j < ob.s := by rw [← h1]; exact (List.getElem?_eq_some_iff.1 hx).1
              have hlt : e * s + c + j < cc.size := by rw [e2]; omega
              refine ⟨by simp [World.cell?, hh, hlt], ?_⟩
              have := (h3 (c + j) x hx).2
              rw [e2, Nat.add_assoc]; exact this
            · intro j x hx
              rw [List.getElem?_drop] at hx
              have := (h3 (c + j) x hx).1
              rw [e2, Nat.add_assoc]
              exact (this.mono (Grow.refl F w) hsub _ (Ids.le_refl _)).closed (hcl l (List.mem_of_getElem? hl) x (List.mem_of_getElem? hx)) _
          · exact .unk _ _
        · exact .unk _ _
      · exact .ptr _ o' s e c b' hb'
    | fp β1 cs b' off f hF hc hr' ih => intro _; exact (VR.fp β cs b' off f hF hc hr').mono hg hsub _ (Ids.le_refl _)
    | nl => intro _; exact .nl _
    | fz0 => intro _; exact .fz0 _ _ _ _
    | fz β1 s es b' off cap f hF hcap hl hc hr' ih => intro _; exact (VR.fz β s es b' off cap f hF hcap hl hc hr').mono hg hsub _ (Ids.le_refl _)
    | sl β1 o' s off len b' a cap c elem' fr' h1 h2 h3 h4 h5 =>
      intro he; subst he
      simp only [V.frz]
      split
      · rename_i e1; subst e1
        split
        · rename_i e2
          refine sl_view (F1 := F1) hr (o := o') (s := s) (off := off) (len := len) ?_ (fun l hl x hx => hcl l ?_ x hx) hsub (fun b2 _ _ h => by rw [hF1]; exact .inr h) (.sl _ o' s off len b' a cap c elem' fr' h1 h2 h3 h4 h5) _
          · simp only [rows, ho]; rw [if_pos ⟨trivial, e2.1.symm, e2.2⟩]
          · exact List.mem_of_mem_drop (List.mem_of_mem_take hl)
        · exact .unk _ _
      · exact .sl _ o' s off len b' a cap c elem' fr' h1 h2 h3 h4 h5
    | agg β1 cs vs hl hr' ih =>
      intro he
      obtain ⟨g1, g2⟩ := frzs_get o ob (xs := cs)
      refine .agg _ _ vs (by rw [g1]; exact hl) fun j x hx => ?_
      rw [g2, Option.map_eq_some_iff] at hx
      obtain ⟨y, hy, rfl⟩ := hx
      exact ih j y hy he
    | tup β1 cs vs hl hr' ih =>
      intro he
      obtain ⟨g1, g2⟩ := frzs_get o ob (xs := cs)
      refine .tup _ _ vs (by rw [g1]; exact hl) fun j x hx => ?_
      rw [g2, Option.map_eq_some_iff] at hx
      obtain ⟨y, hy, rfl⟩ := hx
      exact ih j y hy he
    | unk => intro _; exact .unk _ _
  exact key β x val hv rfl

section
variable {X : Cx} {Q : Exit → List V → Store → Prop} {L : List V} {σ : Store}

theorem look_gh {w : World} {F F' : Nat → Prop} {β : Ids} {G : V → V → Prop} (h : ∀ x y val, G x y → VR w F β x val → VR w F' β y val) {act : Act} : ∀ {vs : List Nat} {L L' : List V}, L.length = L'.length → (∀ (j : Nat) x y, L[j]? = some x → L'[j]? = some y → G x y) →
    ∀ t, VR w F β (look vs L t) (act.tmps.getD t undef) → VR w F' β (look vs L' t) (act.tmps.getD t undef)
  | [], L, L', hl, hg, t, hv => by simp only [look]; exact .unk _ _
  | v :: vs, [], [], hl, hg, t, hv => by simp only [look]; exact .unk _ _
  | v :: vs, [], y :: ys, hl, hg, t, hv => by simp at hl
  | v :: vs, x :: xs, [], hl, hg, t, hv => by simp at hl
  | v :: vs, x :: xs, y :: ys, hl, hg, t, hv => by
    simp only [look] at hv ⊢
    split
    · rename_i e; rw [if_pos e] at hv; exact h x y _ (hg 0 x y rfl rfl) hv
    · rename_i e; rw [if_neg e] at hv
      exact look_gh h (by simpa using hl) (fun j x y hx hy => hg (j + 1) x y (by simpa using hx) (by simpa using hy)) t hv

theorem Gh.wk {vs : List Nat} {σ' : Store} {L' : List V} {G : V → V → Prop} (h : Gh σ σ' G) (hl : L.length = L'.length) (hg : ∀ (j : Nat) x y, L[j]? = some x → L'[j]? = some y → G x y) : Wk vs L σ L' σ' := by
  intro β F w act hr he
  obtain ⟨F', hA, hv⟩ := h β F w hr
  exact ⟨β, F', hA, fun t => look_gh hv hl hg t (he t)⟩

/-- the object o is written no more -/
theorem awp_freeze {ac : AC} {o : Nat} {ob : Ob} (ho : σ[o]? = some (.live ob)) (hcl : ob.closed) (h : AWP X ac Q (L.map (V.frz o ob)) (σ.set o .dead)) : AWP X ac Q L σ :=
  awp_ghost (Gh.wk (Gh.freeze ho hcl) (by simp) fun j x y hx hy => by rw [List.getElem?_map, hx] at hy; simpa using hy.symm) h

/-- one value is said in other words -/
theorem awp_say {ac : AC} (k : Nat) (y : V) (hk : ∀ x, L[k]? = some x → VLe x y) (h : AWP X ac Q (L.set k y) σ) : AWP X ac Q L σ :=
  awp_ghost (Gh.wk (Gh.le σ) (by simp) fun j x z hx hz => by
    rw [List.getElem?_set] at hz
    split at hz
    · rename_i e; subst e
      split at hz
      · cases hz; exact hk x hx
      · cases hz
    · rw [hx] at hz; cases hz; exact .refl x) h

/-- all values are said in other words -/
theorem awp_says {ac : AC} (L' : List V) (hl : L.length = L'.length) (hk : ∀ (j : Nat) x y, L[j]? = some x → L'[j]? = some y → VLe x y) (h : AWP X ac Q L' σ) : AWP X ac Q L σ :=
  awp_ghost (Gh.wk (Gh.le σ) hl hk) h
end

/-- a function's results -/
def compRes (P : Program) : List ResultVar → Option (List AO)
  | [] => some []
  | .tmp t :: rs => (compRes P rs).map fun os => .mov (.t t) :: os
  | .cell t ty :: rs => match sz P ty, P.underlying ty, compRes P rs with
    | some s, some d, some os => if aggD d = true ∨ s = 1 then some (.load s (aggD d) (.t t) :: os) else none
    | _, _, _ => none

def resVs : List AO → Env → Store → Option (List V)
  | [], _, _ => some []
  | o :: os, a, σ => match astep o a σ, resVs os a σ with
    | some (v, _), some vs => some (v :: vs)
    | _, _ => none

def packV : List V → V
  | [x] => x
  | xs => .tup xs

theorem resVs_len : ∀ {os : List AO} {a : Env} {σ : Store} {vs : List V}, resVs os a σ = some vs → vs.length = os.length
  | [], a, σ, vs, h => by simp [resVs] at h; subst h; rfl
  | o :: os, a, σ, vs, h => by
    simp only [resVs] at h
    split at h
    · rename_i v σ' vs' h1 h2
      cases h
      simp [resVs_len h2]
    · cases h

def resOne (tmps : Array Value) : ResultVar → Sem Value
  | .tmp t => pure (tmps.getD t undef)
  | .cell q t => do loadVar t (← asAddr (tmps.getD q undef))

theorem results_one (fn : Func) (tmps : Array Value) : results fn tmps = (do
    let vs ← fn.results.mapM (resOne tmps)
    pure (if h : vs.size = 1 then vs[0] else .tuple vs) : Sem Value) := by
  unfold results
  congr 2

theorem res_ok {P : Program} {σ : Store} {β : Ids} {F : Nat → Prop} {w : World} {a : Env} {act : Act} (hr : Rel σ β F w) (ha : EnvR w F β a act) : ∀ {rs : List ResultVar} {os : List AO} {vs : List V}, compRes P rs = some os → resVs os a σ = some vs →
    ∃ vals : List Value, (rs.mapM (resOne act.tmps)).run P w = .ok vals w ∧ VRs w F β vs vals
  | [], os, vs, hc, hv => by
    simp only [compRes, Option.some.injEq] at hc
    subst hc
    simp only [resVs, Option.some.injEq] at hv
    subst hv
    exact ⟨[], rfl, VRs.nil _ _ _⟩
  | .tmp t :: rs, os, vs, hc, hv => by
    simp only [compRes, Option.map_eq_some_iff] at hc
    obtain ⟨os', hc', rfl⟩ := hc
    simp only [resVs] at hv
    split at hv
    · rename_i v σ' vs' h1 h2
      cases hv
      obtain ⟨vals, hrun, hvs⟩ := res_ok hr ha hc' h2
      simp only [astep, Option.some.injEq, Prod.mk.injEq, Opd.ev] at h1
      refine ⟨act.tmps.getD t undef :: vals, ?_, ?_⟩
      · rw [List.mapM_cons]
        simp [Sem.run_bind, hrun, resOne]
      · refine ⟨by simp [hvs.1], fun j x hx => ?_⟩
        cases j with
        | zero => simp at hx; subst hx; rw [← h1.1]; simpa using ha t
        | succ j => simpa using hvs.2 j x (by simpa using hx)
    · cases hv
  | .cell t ty :: rs, os, vs, hc, hv => by
    simp only [compRes] at hc
    split at hc
    · rename_i s d os' hs hd hc'
      split at hc
      · rename_i hag
        cases hc
        simp only [resVs] at hv
        split at hv
        · rename_i v σ' vs' h1 h2
          cases hv
          obtain ⟨vals, hrun, hvs⟩ := res_ok hr ha hc' h2
          unfold sz at hs
          simp only [Option.map_eq_some_iff] at hs
          obtain ⟨i, hi, his⟩ := hs
          obtain ⟨_, val, hload, hval⟩ := load_ok (P := P) hr ha hd hi his hag (x := .tmp t) (v := v) (σ' := σ') h1
          have hload' : ((do loadVar ty (← asAddr (act.tmps.getD t undef))) : Sem Value).run P w = .ok val w := by
            unfold Instr.loadAt at hload
            simp only [Act.eval] at hload
            cases hx : act.tmps.getD t undef with
            | pointer p =>
              rw [hx] at hload
              cases p with
              | some p => simpa [Instr.sureAddr, asAddr] using hload
              | none => simp [Instr.sureAddr, Sem.run_bind, stuck] at hload
            | _ =>
              rw [hx] at hload
              simp [Instr.sureAddr, Sem.run_bind, stuck] at hload
          refine ⟨val :: vals, ?_, ?_⟩
          · rw [List.mapM_cons]
            have e : (resOne act.tmps (.cell t ty)).run P w = .ok val w := hload'
            rw [Sem.run_bind, e]
            simp [Sem.run_bind, hrun]
          · refine ⟨by simp [hvs.1], fun j x hx => ?_⟩
            cases j with
            | zero => simp at hx; subst hx; simpa using hval
            | succ j => simpa using hvs.2 j x (by simpa using hx)
        · cases hv
      · cases hc
    · cases hc

theorem results_ok {P : Program} {σ : Store} {β : Ids} {F : Nat → Prop} {w : World} {a : Env} {act : Act} (hr : Rel σ β F w) (ha : EnvR w F β a act) {fn : Func} {os : List AO} {vs : List V} (hc : compRes P fn.results.toList = some os) (hv : resVs os a σ = some vs) :
    ∃ val, (results fn act.tmps).run P w = .ok val w ∧ VR w F β (packV vs) val := by
  obtain ⟨vals, hrun, hvs⟩ := res_ok hr ha hc hv
  rw [results_one, Array.mapM_eq_mapM_toList]
  refine ⟨if h : vals.length = 1 then vals[0] else .tuple vals.toArray, ?_, ?_⟩
  · simp only [Sem.run_bind, map_eq_pure_bind, hrun, Result.andThen_ok]
    simp
  · match vs, vals, hvs with
    | [], [], h => exact tup_mk (by simpa using h)
    | [x], [y], h => simpa [packV] using h.2 0 x rfl
    | x :: y :: xs, u :: v :: vals, h =>
      simp only [packV]
      rw [dif_neg (by simp)]
      exact tup_mk h
    | [], _ :: _, h => exact absurd h.1 (by simp)
    | [x], [], h => exact absurd h.1 (by simp)
    | [x], _ :: _ :: _, h => exact absurd h.1 (by simp)
    | _ :: _ :: _, [], h => exact absurd h.1 (by simp)
    | _ :: _ :: _, [_], h => exact absurd h.1 (by simp)

mutual
theorem unren {w : World} {F : Nat → Prop} {β β' : Ids} (g : Nat → Nat) : ∀ (v : V) (val : Value), VR w F β (v.ren g) val → (∀ k ∈ v.ids, β' k = β (g k)) → VR w F β' v val
  | .int k n, val, h, _ => h.closed (by simp [V.ren, V.closed]) β'
  | .bool b, val, h, _ => h.closed (by simp [V.ren, V.closed]) β'
  | .str s, val, h, _ => h.closed (by simp [V.ren, V.closed]) β'
  | .nilp, val, h, _ => h.closed (by simp [V.ren, V.closed]) β'
  | .ptr o s e c, val, h, hk => by
    simp only [V.ren] at h
    cases h with
    | ptr _ _ _ _ _ b hb => exact .ptr _ o s e c b ((hk o (by simp [V.ids])).trans hb)
  | .fp cs, val, h, _ => h.closed (by simp [V.ren, V.closed]) β'
  | .nl, val, h, _ => h.closed (by simp [V.ren, V.closed]) β'
  | .fz s es, val, h, _ => h.closed (by simp [V.ren, V.closed]) β'
  | .sl o s off len, val, h, hk => by
    simp only [V.ren] at h
    cases h with
    | sl _ _ _ _ _ b a cap c elem fr hb h2 h3 h4 h5 => exact .sl _ o s off len b a cap c elem fr ((hk o (by simp [V.ids])).trans hb) h2 h3 h4 h5
  | .agg cs, val, h, hk => by
    simp only [V.ren] at h
    obtain ⟨vs, rfl, hvs⟩ := agg_inv h
    exact agg_mk (unrens g cs vs.toList hvs fun k hk' => hk k (by simpa [V.ids] using hk'))
  | .tup cs, val, h, hk => by
    simp only [V.ren] at h
    obtain ⟨vs, rfl, hvs⟩ := tup_inv h
    exact tup_mk (unrens g cs vs.toList hvs fun k hk' => hk k (by simpa [V.ids] using hk'))
  | .unk, val, h, _ => .unk _ _
theorem unrens {w : World} {F : Nat → Prop} {β β' : Ids} (g : Nat → Nat) : ∀ (vs : List V) (vals : List Value), VRs w F β (V.rens g vs) vals → (∀ k ∈ V.idsL vs, β' k = β (g k)) → VRs w F β' vs vals
  | [], vals, h, _ => ⟨by simpa [V.rens] using h.1, fun j y hy => by simp at hy⟩
  | x :: xs, [], h, _ => absurd h.1 (by simp [V.rens])
  | x :: xs, v :: vals, h, hk => by
    simp only [V.rens] at h
    have h1 := unren g x v (h.2 0 _ rfl) fun k hk' => hk k (by simp [V.idsL, hk'])
    have h2 := unrens g xs vals ⟨by simpa using h.1, fun j y hy => by simpa using h.2 (j + 1) y (by simpa using hy)⟩ fun k hk' => hk k (by simp [V.idsL, hk'])
    refine ⟨by simp [h2.1], fun j y hy => ?_⟩
    cases j with
    | zero => simp at hy; subst hy; simpa using h1
    | succ j => simpa using h2.2 j y (by simpa using hy)
end

mutual
theorem closed_ids : ∀ v : V, v.closed = true → v.ids = []
  | .int _ _, _ => rfl
  | .bool _, _ => rfl
  | .str _, _ => rfl
  | .nilp, _ => rfl
  | .ptr _ _ _ _, h => by simp [V.closed] at h
  | .fp _, _ => rfl
  | .nl, _ => rfl
  | .fz _ _, _ => rfl
  | .sl _ _ _ _, h => by simp [V.closed] at h
  | .agg cs, h => by simp only [V.ids]; exact closeds_ids cs (by simpa [V.closed] using h)
  | .tup cs, h => by simp only [V.ids]; exact closeds_ids cs (by simpa [V.closed] using h)
  | .unk, _ => rfl
theorem closeds_ids : ∀ vs : List V, V.closeds vs = true → V.idsL vs = []
  | [], _ => rfl
  | x :: xs, h => by
    simp only [V.closeds, Bool.and_eq_true] at h
    simp only [V.idsL, closed_ids x h.1, closeds_ids xs h.2, List.append_nil]
end

/-- what is known of the result turns, with the store -/
def GhR (σ : Store) (x : V) (σ' : Store) (x' : V) : Prop :=
  ∀ β F w, Rel σ β F w → ∃ F', After σ' β β F F' w w ∧ ∀ val, VR w F β x val → VR w F' β x' val

theorem GhR.refl (σ : Store) (x : V) : GhR σ x σ x := fun β F w hr => ⟨F, .refl hr, fun _ h => h⟩
theorem GhR.say {σ : Store} {x y : V} (h : VLe x y) : GhR σ x σ y := fun β F w hr => ⟨F, .refl hr, fun _ hv => h _ _ _ _ hv⟩
theorem GhR.trans {σ σ1 σ2 : Store} {x x1 x2 : V} (h : GhR σ x σ1 x1) (k : GhR σ1 x1 σ2 x2) : GhR σ x σ2 x2 := fun β F w hr => by
  obtain ⟨F1, hA, h1⟩ := h β F w hr
  obtain ⟨F2, hA2, h2⟩ := k β F1 w hA.rel
  exact ⟨F2, hA.trans hA2, fun val hv => h2 val (h1 val hv)⟩
theorem GhR.freeze {σ : Store} {x : V} {o : Nat} {ob : Ob} (ho : σ[o]? = some (.live ob)) (hcl : ob.closed) : GhR σ x (σ.set o .dead) (x.frz o ob) := fun β F w hr => by
  obtain ⟨F1, hA, h1⟩ := Gh.freeze ho hcl β F w hr
  exact ⟨F1, hA, fun val hv => h1 x _ val rfl hv⟩

/-- the end: the result x in σ is what v says of σo (those of σo stand in σ where sel says; the first nin of them are the function's own arguments) -/
structure FinOk (nin : Nat) (x : V) (σ : Store) (v : V) (σo : List Ob) (sel : List Nat) : Prop where
  len : sel.length = σo.length
  nd : sel.Nodup
  le : nin ≤ σo.length
  old : ∀ k, k < nin → sel[k]? = some k
  at_ : ∀ (k o : Nat) ob, sel[k]? = some o → σo[k]? = some ob → σ[o]? = some (.live ob)
  res : x = v.ren fun k => sel.getD k 0
  ids : ∀ k ∈ v.ids, k < sel.length
  cl : ∀ ob ∈ σo, ob.closed

/-- what is to be shown where a function ends -/
def Ends (vs : List Nat) (os : List AO) (nin : Nat) (v : V) (σo : List Ob) (e : Exit) (L : List V) (σ : Store) : Prop :=
  (e = .ret ∨ e = .normal) ∧ ∃ rs x' σ' sel, resVs os (look vs L) σ = some rs ∧ GhR σ (packV rs) σ' x' ∧ FinOk nin x' σ' v σo sel

theorem fin_after {β0 β : Ids} {F0 F F' : Nat → Prop} {w0 w : World} {σi : List Ob} {σ σ' : Store} {v : V} {σo : List Ob} {sel : List Nat} {x' : V} {val : Value} (h0 : Rel (lives σi) β0 F0 w0) (h1 : After σ β0 β F0 F w0 w) (h2 : After σ' β β F F' w w)
    (hv : VR w F' β x' val) (hf : FinOk σi.length x' σ' v σo sel) : ∃ β', After (lives σo) β0 β' F0 F' w0 w ∧ VR w F' β' v val := by
  have h := h1.trans h2
  refine ⟨fun k => (sel[k]?).bind β, ?_, ?_⟩
  · have live : ∀ (k : Nat) ob, (lives σo)[k]? = some (.live ob) → ∃ o, sel[k]? = some o ∧ σ'[o]? = some (.live ob) := by
      intro k ob hk
      simp only [lives, List.getElem?_map, Option.map_eq_some_iff] at hk
      obtain ⟨ob', hk', e⟩ := hk
      cases e
      have hlt : k < sel.length := by rw [hf.len]; exact (List.getElem?_eq_some_iff.1 hk').1
      exact ⟨sel[k], List.getElem?_eq_getElem hlt, hf.at_ k _ ob (List.getElem?_eq_getElem hlt) hk'⟩
    have le : β0.le fun k => (sel[k]?).bind β := by
      intro o b hb
      have ho : o < σi.length := by
        rcases Nat.lt_or_ge o σi.length with h3 | h3
        · exact h3
        · rw [h0.free o (.inr (by simp [lives, h3]))] at hb; cases hb
      simp [hf.old o ho, h.le o b hb]
    have mem : ∀ (k : Nat) ob, (lives σo)[k]? = some (.live ob) → ob ∈ σo := by
      intro k ob hk
      simp only [lives, List.getElem?_map, Option.map_eq_some_iff] at hk
      obtain ⟨ob', hk', e⟩ := hk
      cases e
      exact List.mem_of_getElem? hk'
    refine ⟨⟨?_, ?_, ?_, h.rel.bF⟩, le, h.sub, h.grow, h.frame, h.newF, ?_⟩
    · intro k ob hk
      obtain ⟨o, h3, h4⟩ := live k ob hk
      obtain ⟨b, c, elem, fr, hb, hh, hfr, hFb, hL⟩ := h.rel.live o ob h4
      exact ⟨b, c, elem, fr, by simp [h3, hb], hh, hfr, hFb, hL.closed (hf.cl ob (mem k ob hk)) (.inl fun _ h => h)⟩
    · intro k k' a a' hk hk' e
      obtain ⟨o, h3, h4⟩ := live k a hk
      obtain ⟨o', h3', h4'⟩ := live k' a' hk'
      simp [h3, h3'] at e
      have := h.rel.inj o o' a a' h4 h4' e
      subst this
      exact nodup_inj hf.nd h3 h3'
    · intro k hk
      rcases hk with hk | hk
      · simp only [lives, List.getElem?_map, Option.map_eq_some_iff] at hk
        obtain ⟨_, _, e⟩ := hk; cases e
      · have : sel.length ≤ k := by rw [hf.len]; simpa [lives] using hk
        simp [this]
    · intro k b hb
      simp only [Option.bind_eq_some_iff] at hb
      obtain ⟨o, h3, h4⟩ := hb
      exact h.newB o b h4
  · rw [hf.res] at hv
    refine unren _ v val hv fun k hk => ?_
    have := hf.ids k hk
    simp [this]

/-- THE FUNCTION. -/
theorem FS.of {X : Cx} {f : FuncId} {fn : Func} {c : Code} {ac : AC} {os : List AO} {σi σo : List Ob} {xs : List V} {v : V} (hf : X.P.funcs[f]? = some fn) (hb : fn.body = some c) (hnt : fn.ntmps = X.nt) (hc : compC X.P X.Γ X.D X.nt c = some ac)
    (hos : compRes X.P fn.results.toList = some os) (hk : xs.length ≤ X.nt)
    (h : AWP X ac (Ends X.vs os σi.length v σo) (X.vs.map fun t => xs.getD t (.tup [])) (lives σi)) : FS X.P f σi xs v σo := by
  intro β F w args hr hx
  refine calls_of_wp hf hb (wp_mono (h c hc β F w _ hr ?_ ?_) ?_)
  · intro t
    have key : ∀ vs : List Nat, look vs (vs.map fun t => xs.getD t (.tup [])) t = xs.getD t (.tup []) ∨ look vs (vs.map fun t => xs.getD t (.tup [])) t = .unk := by
      intro vs
      induction vs with
      | nil => exact .inr rfl
      | cons y vs ih =>
        simp only [List.map_cons, look]
        split
        · rename_i e; subst e; exact .inl rfl
        · exact ih
    rcases key X.vs with h1 | h1
    · rw [h1]
      rcases Nat.lt_or_ge t xs.length with h2 | h2
      · have h3 := hx.2 t xs[t] (List.getElem?_eq_getElem h2)
        have hsz : t < args.size := by have := hx.1; simp at this; omega
        simp only [List.getD_eq_getElem?_getD, h2, List.getElem?_eq_getElem, Option.getD_some]
        simp only [Array.getD_eq_getD_getElem?]
        rw [Array.getElem?_append_left hsz]
        simpa [List.getD_eq_getElem?_getD, hsz] using h3
      · have : xs.getD t (.tup []) = .tup [] := by simp [List.getD_eq_getElem?_getD, h2]
        rw [this]
        have hsz : args.size ≤ t := by have := hx.1; simp at this; omega
        have : (args ++ Array.replicate (fn.ntmps - args.size) undef).getD t undef = undef := by
          simp only [Array.getD_eq_getD_getElem?]
          rw [Array.getElem?_append_right hsz]
          simp [Array.getElem?_replicate]
          split <;> rfl
        show VR w F β _ ((args ++ Array.replicate (fn.ntmps - args.size) undef).getD t undef)
        rw [this]; exact undef_ok
    · rw [h1]; exact .unk _ _
  · have := hx.1
    simp at this
    simp [hnt]
    omega
  · rintro e act' w' ⟨L', σ', ⟨he, rs, x', σ2, sel, hrs, hgh, hfin⟩, hg⟩
    obtain ⟨β1, F1, hA, he1⟩ := hg.ex
    obtain ⟨val, hrun, hv⟩ := results_ok hA.rel he1 hos hrs
    obtain ⟨F2, hA2, hv2⟩ := hgh β1 F1 w' hA.rel
    obtain ⟨β', hA3, hv3⟩ := fin_after hr hA hA2 (hv2 val hv) hfin
    have hdef : act'.defers = [] := hg.defers
    rcases he with rfl | rfl
    · exact ⟨hdef, val, hrun, val, β', F2, rfl, hv3, hA3⟩
    · exact ⟨hdef, val, hrun, val, β', F2, rfl, hv3, hA3⟩

/-- the end of a function that hands nothing of its own over -/
theorem Ends.plain {vs : List Nat} {os : List AO} {v : V} {e : Exit} {L : List V} {σ : Store} (he : e = .ret ∨ e = .normal) {rs : List V} (hr : resVs os (look vs L) σ = some rs) (hle : VLe (packV rs) v) (hv : v.closed = true) : Ends vs os 0 v [] e L σ :=
  ⟨he, rs, v, σ, [], hr, .say hle, ⟨rfl, List.nodup_nil, Nat.le_refl _, fun k h => by omega, fun k o ob h => by simp at h, (ren_closed _ v hv).symm, fun k hk => by rw [closed_ids v hv] at hk; simp at hk, fun ob h => by simp at h⟩⟩

end Go.Proofs.YtffigokicddekaaGreat.Abs
/- Rules and rewriting lemmas in the form in which the walks use them. No condition. -/
set_option linter.unusedVariables false
set_option linter.unusedSimpArgs false
namespace Go.Proofs.YtffigokicddekaaGreat.Abs
open Go

/-- behind one round of a loop -/
def rnd (id : Nat) (I : Nat → List V → Store → Prop) (n : Nat) (Q : Exit → List V → Store → Prop) : Exit → List V → Store → Prop
  | .normal, L, σ => ∃ m, m < n ∧ I m L σ
  | .exit i, L, σ => if i = id then Q .normal L σ else Q (.exit i) L σ
  | e, L, σ => Q e L σ

section
variable {X : Cx} {Q : Exit → List V → Store → Prop} {L : List V} {σ : Store}

theorem awp_sr {m : Nat} {rs : List AR} {y : AC} (h : runL X.P σ.length rs (look X.vs L) (σ ++ List.replicate m .free) fun a σ' => AWP X y Q (X.vs.map a) σ') : AWP X (.seq (.reg m rs) y) Q L σ :=
  awp_seq (awp_reg h)
theorem awp_sr2 {m : Nat} {rs : List AR} {y z : AC} (h : runL X.P σ.length rs (look X.vs L) (σ ++ List.replicate m .free) fun a σ' => AWP X y (thn (AWP X z Q) Q) (X.vs.map a) σ') : AWP X (.seq (.seq (.reg m rs) y) z) Q L σ :=
  awp_seq (awp_seq (awp_reg h))

/-- where nothing but reading is drawn, the order of the text will do -/
theorem runD_of_runL {P : Program} {b : Nat} {ws : List Nat} : ∀ {rs : List AR} {a : Env} {σ : Store} {Q : Env → Store → Prop}, (rs.all fun r => r.lab == 0) = true → runL P b rs a σ Q → runD P b ws rs a σ Q
  | [], a, σ, Q, _, h => h
  | r :: rs, a, σ, Q, hl, ⟨a', σ', h1, h2⟩ => by
    simp only [List.all_cons, Bool.and_eq_true, beq_iff_eq] at hl
    refine ⟨⟨fun h => ?_, fun h => ?_, fun h => ?_⟩, a', σ', h1, runD_of_runL hl.2 h2⟩ <;> (rw [hl.1] at h; simp at h)

theorem awp_draw0 (hm : X.P.follows .mixedOrders = true) (hD : X.D = drawD) {m : Nat} {rs : List AR} (hl : (rs.all fun r => r.lab == 0) = true) (h : runL X.P σ.length rs (look X.vs L) (σ ++ List.replicate m .free) fun a σ' => Q .normal (X.vs.map a) σ') : AWP X (.draw m rs) Q L σ :=
  awp_draw hm hD [] (runD_of_runL hl h)
theorem awp_sd (hm : X.P.follows .mixedOrders = true) (hD : X.D = drawD) {m : Nat} {rs : List AR} {y : AC} (hl : (rs.all fun r => r.lab == 0) = true) (h : runL X.P σ.length rs (look X.vs L) (σ ++ List.replicate m .free) fun a σ' => AWP X y Q (X.vs.map a) σ') : AWP X (.seq (.draw m rs) y) Q L σ :=
  awp_seq (awp_draw0 hm hD hl h)
theorem awp_sd2 (hm : X.P.follows .mixedOrders = true) (hD : X.D = drawD) {m : Nat} {rs : List AR} {y z : AC} (hl : (rs.all fun r => r.lab == 0) = true) (h : runL X.P σ.length rs (look X.vs L) (σ ++ List.replicate m .free) fun a σ' => AWP X y (thn (AWP X z Q) Q) (X.vs.map a) σ') : AWP X (.seq (.seq (.draw m rs) y) z) Q L σ :=
  awp_seq (awp_seq (awp_draw0 hm hD hl h))

theorem awp_if {o : Opd} {x y : AC} {p : Prop} [Decidable p] (ho : o.ev (look X.vs L) = .bool (decide p)) (h1 : p → AWP X x Q L σ) (h2 : ¬ p → AWP X y Q L σ) : AWP X (.cond o x y) Q L σ :=
  awp_cond ho (fun h => h1 (of_decide_eq_true h)) (fun h => h2 (of_decide_eq_false h))
theorem awp_if' {o : Opd} {x y : AC} {p : Prop} [Decidable p] (ho : o.ev (look X.vs L) = .bool (!decide p)) (h1 : ¬ p → AWP X x Q L σ) (h2 : p → AWP X y Q L σ) : AWP X (.cond o x y) Q L σ :=
  awp_cond ho (fun h => h1 (by simpa using h)) (fun h => h2 (by simpa using h))

theorem awp_for {id : Nat} {x : AC} (I : Nat → List V → Store → Prop) (n : Nat) (h0 : I n L σ) (round : ∀ n L σ, I n L σ → AWP X x (rnd id I n Q) L σ) : AWP X (.block id (.loop x)) Q L σ := by
  refine awp_block (awp_loop I n h0 fun n L σ h => ?_)
  refine awp_mono (round n L σ h) ?_
  intro e L' σ' hq
  cases e <;> exact hq
end

section
variable {P : Program} {b : Nat} {d : Option Nat} {l : Nat} {rs : List AR} {a : Env} {σ : Store} {Q : Env → Store → Prop}
@[go_sem] theorem andT_ite (c : Prop) [Decidable c] (x : Option (V × Store)) : andT P b rs d a Q (if c then x else none) = (c ∧ andT P b rs d a Q x) := by
  apply propext
  split
  · rename_i h; exact ⟨fun k => ⟨h, k⟩, fun k => k.2⟩
  · rename_i h; exact ⟨fun k => k.elim, fun k => absurd k.1 h⟩
@[go_sem] theorem map_ite {α β : Type} (c : Prop) [Decidable c] (x : Option α) (f : α → β) : (if c then x else none).map f = if c then x.map f else none := by split <;> rfl
@[go_sem] theorem thn_normal (K : List V → Store → Prop) (Q : Exit → List V → Store → Prop) (L : List V) (σ : Store) : thn K Q .normal L σ = K L σ := rfl
@[go_sem] theorem thn_ret (K : List V → Store → Prop) (Q : Exit → List V → Store → Prop) (L : List V) (σ : Store) : thn K Q .ret L σ = Q .ret L σ := rfl
@[go_sem] theorem thn_exit (K : List V → Store → Prop) (Q : Exit → List V → Store → Prop) (i : Nat) (L : List V) (σ : Store) : thn K Q (.exit i) L σ = Q (.exit i) L σ := rfl
@[go_sem] theorem inB_normal (id : Nat) (Q : Exit → List V → Store → Prop) (L : List V) (σ : Store) : inB id Q .normal L σ = Q .normal L σ := rfl
@[go_sem] theorem inB_ret (id : Nat) (Q : Exit → List V → Store → Prop) (L : List V) (σ : Store) : inB id Q .ret L σ = Q .ret L σ := rfl
@[go_sem] theorem inB_exit (id i : Nat) (Q : Exit → List V → Store → Prop) (L : List V) (σ : Store) : inB id Q (.exit i) L σ = if i = id then Q .normal L σ else Q (.exit i) L σ := rfl
@[go_sem] theorem rnd_normal (id n : Nat) (I : Nat → List V → Store → Prop) (Q : Exit → List V → Store → Prop) (L : List V) (σ : Store) : rnd id I n Q .normal L σ = ∃ m, m < n ∧ I m L σ := rfl
@[go_sem] theorem rnd_ret (id n : Nat) (I : Nat → List V → Store → Prop) (Q : Exit → List V → Store → Prop) (L : List V) (σ : Store) : rnd id I n Q .ret L σ = Q .ret L σ := rfl
@[go_sem] theorem rnd_exit (id n i : Nat) (I : Nat → List V → Store → Prop) (Q : Exit → List V → Store → Prop) (L : List V) (σ : Store) : rnd id I n Q (.exit i) L σ = if i = id then Q .normal L σ else Q (.exit i) L σ := rfl
end

@[go_sem] theorem store_none (σ : Store) : σ ++ List.replicate 0 Slot.free = σ := by simp
@[go_sem] theorem isFree_eq (σ : Store) (o : Nat) : isFree σ o = (σ[o]? = some .free) := rfl
attribute [go_sem] List.map_cons List.map_nil List.length_nil List.length_cons List.replicate_succ List.replicate_zero List.append_nil List.nil_append List.cons_append List.getElem?_cons_zero List.getElem?_cons_succ List.set_cons_zero List.set_cons_succ
  Option.map_some Option.map_none lenV bounds intOf? binV strBin rows V.cells V.cell fillV fillR splice scalarEq cellsEq
  List.take_succ_cons List.take_zero List.drop_zero List.drop_succ_cons List.take_nil List.drop_nil Option.elim_some Option.elim_none Int.toNat_natCast packV resVs List.length_map List.length_append
  List.all_cons List.all_nil Bool.and_true Bool.true_and true_and and_true List.length_replicate List.getElem?_map

def andI (k : IntKind) (a b : Int) : Int := k.wrap ((BitVec.ofInt k.bits a &&& BitVec.ofInt k.bits b).toNat)
def orI (k : IntKind) (a b : Int) : Int := k.wrap ((BitVec.ofInt k.bits a ||| BitVec.ofInt k.bits b).toNat)
def xorI (k : IntKind) (a b : Int) : Int := k.wrap ((BitVec.ofInt k.bits a ^^^ BitVec.ofInt k.bits b).toNat)
section
variable (k : IntKind) (a b : Int)
@[go_sem] theorem ib_add : intBin .add k a b = some (.int k (k.wrap (a + b))) := rfl
@[go_sem] theorem ib_sub : intBin .sub k a b = some (.int k (k.wrap (a - b))) := rfl
@[go_sem] theorem ib_mul : intBin .mul k a b = some (.int k (k.wrap (a * b))) := rfl
@[go_sem] theorem ib_quo : intBin .quo k a b = if b = 0 then none else some (.int k (k.wrap (a.tdiv b))) := rfl
@[go_sem] theorem ib_rem : intBin .rem k a b = if b = 0 then none else some (.int k (a.tmod b)) := rfl
@[go_sem] theorem ib_and : intBin .and k a b = some (.int k (andI k a b)) := rfl
@[go_sem] theorem ib_or : intBin .or k a b = some (.int k (orI k a b)) := rfl
@[go_sem] theorem ib_xor : intBin .xor k a b = some (.int k (xorI k a b)) := rfl
@[go_sem] theorem ib_eql : intBin .eql k a b = some (.bool (decide (a = b))) := rfl
@[go_sem] theorem ib_neq : intBin .neq k a b = some (.bool (decide (a ≠ b))) := rfl
@[go_sem] theorem ib_lss : intBin .lss k a b = some (.bool (decide (a < b))) := rfl
@[go_sem] theorem ib_leq : intBin .leq k a b = some (.bool (decide (a ≤ b))) := rfl
@[go_sem] theorem ib_gtr : intBin .gtr k a b = some (.bool (decide (a > b))) := rfl
@[go_sem] theorem ib_geq : intBin .geq k a b = some (.bool (decide (a ≥ b))) := rfl
end
theorem lives_nil : lives [] = [] := rfl
theorem lives_cons (ob : Ob) (obs : List Ob) : lives (ob :: obs) = .live ob :: lives obs := rfl
attribute [go_sem] lives_nil lives_cons

@[go_sem] theorem nn (n : Nat) : (0 ≤ (n : Int)) = True := by simp
@[go_sem] theorem one_t (cs : List V) : one true cs = some (.agg cs) := rfl
@[go_sem] theorem one_f (x : V) : one false [x] = some x := rfl
attribute [go_sem] Bool.false_eq_true ge_iff_le Nat.le_refl Nat.zero_le Nat.add_zero Nat.zero_add

theorem wrap_i64 {n : Int} (h1 : -9223372036854775808 ≤ n) (h2 : n ≤ 9223372036854775807) : IntKind.wrap .i64 n = n := by
  rw [IntKind.wrap_i64]; omega
theorem wrap_succ {i : Nat} (h : i < 9223372036854775807) : IntKind.wrap .i64 ((i : Int) + 1) = ((i + 1 : Nat) : Int) := by
  rw [wrap_i64] <;> omega

/-- the end of a function that leaves its arguments' objects as σo says, and hands nothing else over -/
theorem Ends.keep {vs : List Nat} {os : List AO} {v : V} {e : Exit} {L : List V} {σ : Store} {σo : List Ob} (he : e = .ret ∨ e = .normal) {rs : List V} (hr : resVs os (look vs L) σ = some rs) (hle : VLe (packV rs) v) (hv : v.closed = true)
    (hat : ∀ (k : Nat) ob, σo[k]? = some ob → σ[k]? = some (.live ob)) (hcl : ∀ ob ∈ σo, ob.closed) : Ends vs os σo.length v σo e L σ :=
  ⟨he, rs, v, σ, List.range σo.length, hr, .say hle, ⟨by simp, List.nodup_range, Nat.le_refl _, fun k h => by simp [h], fun k o ob h1 h2 => by
    have : k < σo.length := (List.getElem?_eq_some_iff.1 h2).1
    simp [this] at h1; subst h1; exact hat k ob h2, (ren_closed _ v hv).symm, fun k hk => by rw [closed_ids v hv] at hk; simp at hk, hcl⟩⟩

mutual
theorem ren_eq {f g : Nat → Nat} (h : ∀ k, k = 0 → f k = g k) : ∀ v : V, (∀ k ∈ v.ids, k = 0) → v.ren f = v.ren g
  | .int _ _, _ => rfl
  | .bool _, _ => rfl
  | .str _, _ => rfl
  | .nilp, _ => rfl
  | .ptr o _ _ _, hk => by simp only [V.ren]; rw [h o (hk o (by simp [V.ids]))]
  | .fp _, _ => rfl
  | .nl, _ => rfl
  | .fz _ _, _ => rfl
  | .sl o _ _ _, hk => by simp only [V.ren]; rw [h o (hk o (by simp [V.ids]))]
  | .agg cs, hk => by simp only [V.ren]; rw [rens_eq h cs fun k hk' => hk k (by simpa [V.ids] using hk')]
  | .tup cs, hk => by simp only [V.ren]; rw [rens_eq h cs fun k hk' => hk k (by simpa [V.ids] using hk')]
  | .unk, _ => rfl
theorem rens_eq {f g : Nat → Nat} (h : ∀ k, k = 0 → f k = g k) : ∀ vs : List V, (∀ k ∈ V.idsL vs, k = 0) → V.rens f vs = V.rens g vs
  | [], _ => rfl
  | x :: xs, hk => by
    simp only [V.rens]
    rw [ren_eq h x fun k hk' => hk k (by simp [V.idsL, hk']), rens_eq h xs fun k hk' => hk k (by simp [V.idsL, hk'])]
end

/-- the end of a function that hands one object of its own over -/
theorem Ends.own1 {vs : List Nat} {os : List AO} {v : V} {e : Exit} {L : List V} {σ : Store} (he : e = .ret ∨ e = .normal) {rs : List V} (hr : resVs os (look vs L) σ = some rs) {o : Nat} {ob : Ob} (ho : σ[o]? = some (.live ob)) (hx : packV rs = v.ren fun _ => o)
    (hids : ∀ k ∈ v.ids, k = 0) (hcl : ob.closed) : Ends vs os 0 v [ob] e L σ := by
  refine ⟨he, rs, packV rs, σ, [o], hr, .refl _ _, ⟨rfl, by simp, by simp, fun k h => by omega, fun k o' ob' h1 h2 => ?_, ?_, fun k hk => by rw [hids k hk]; simp, by simpa using hcl⟩⟩
  · cases k with
    | zero => simp at h1 h2; subst h1; subst h2; exact ho
    | succ k => simp at h1
  · rw [hx]
    exact ren_eq (fun k hk => by subst hk; rfl) v hids

/-- the end of a function that hands frozen objects over -/
theorem Ends.frozen {vs : List Nat} {os : List AO} {v : V} {e : Exit} {L : List V} {σ : Store} (he : e = .ret ∨ e = .normal) {rs : List V} (hr : resVs os (look vs L) σ = some rs) {o : Nat} {ob : Ob} (ho : σ[o]? = some (.live ob)) (hcl : ob.closed)
    (hle : VLe ((packV rs).frz o ob) v) (hv : v.closed = true) : Ends vs os 0 v [] e L σ :=
  ⟨he, rs, v, _, [], hr, (GhR.freeze ho hcl).trans (.say hle), ⟨rfl, List.nodup_nil, Nat.le_refl _, fun k h => by omega, fun k o ob h => by simp at h, (ren_closed _ v hv).symm, fun k hk => by rw [closed_ids v hv] at hk; simp at hk, fun ob h => by simp at h⟩⟩

end Go.Proofs.YtffigokicddekaaGreat.Abs
/- Calls, in the forms in which the walks use them. No condition. -/
set_option linter.unusedVariables false
set_option linter.unusedSimpArgs false
namespace Go.Proofs.YtffigokicddekaaGreat.Abs
open Go

/-- argument by argument -/
inductive Views (σ : Store) (m : List Nat) (b : Bool) : List V → List V → Prop where
  | nil : Views σ m b [] []
  | cons {x y : V} {xs ys : List V} : View σ m b x y → Views σ m b xs ys → Views σ m b (x :: xs) (y :: ys)

theorem Views.get {σ : Store} {m : List Nat} {b : Bool} {xs ys : List V} (h : Views σ m b xs ys) : xs.length = ys.length ∧ ∀ (j : Nat) x y, xs[j]? = some x → ys[j]? = some y → View σ m b x y := by
  induction h with
  | nil => exact ⟨rfl, fun j x y h => by simp at h⟩
  | cons h1 _ ih =>
    refine ⟨by simp [ih.1], fun j x y hx hy => ?_⟩
    cases j with
    | zero => simp at hx hy; subst hx; subst hy; exact h1
    | succ j => exact ih.2 j x y (by simpa using hx) (by simpa using hy)

theorem Views.refl {σ : Store} {m : List Nat} {b : Bool} : ∀ {xs : List V}, V.closeds xs = true → Views σ m b xs xs
  | [], _ => .nil
  | x :: xs, h => by
    simp only [V.closeds, Bool.and_eq_true] at h
    exact .cons (.same b x x h.1 (.refl x)) (Views.refl h.2)

theorem callR_gen {P : Program} {f : FuncId} {id own : Nat} {σ : Store} {xs vs : List V} {v : V} {σi σo : List Ob} (h : FS P f σi vs v σo) (m : List Nat) (b : Bool) (hv : Views σ m b xs vs) (nd : m.Nodup) (sub : ∀ o ∈ m, o ∈ V.idsL xs)
    (len : m.length = σi.length) (at_ : ∀ (k o : Nat) ob, m[k]? = some o → σi[k]? = some ob → σ[o]? = some (.live ob)) (new : ∀ j, j < own → σ[id + j]? = some .free) (le1 : m.length ≤ σo.length) (le2 : σo.length ≤ m.length + own)
    (icl : ∀ ob ∈ σi, ob.closed) (ocl : ∀ ob ∈ σo, ob.closed) (flat : b = true → v.flat = true ∧ ∀ ob ∈ σo, ob.flat) : CallR P f id own σ xs (v.ren (renOf m id)) (putObs σ m id σo) :=
  ⟨m, σi, σo, vs, v, b, h, nd, sub, len, at_, hv.get, le1, le2, new, icl, ocl, flat, rfl, rfl⟩

/-- nothing handed over, nothing new -/
theorem callR_see {P : Program} {f : FuncId} {id own : Nat} {σ : Store} {xs vs : List V} {v : V} (h : FS P f [] vs v []) (b : Bool) (hv : Views σ [] b xs vs) (hc : v.closed = true) (new : ∀ j, j < own → σ[id + j]? = some .free) (flat : b = true → v.flat = true) :
    CallR P f id own σ xs v σ := by
  have := callR_gen h [] b hv List.nodup_nil (fun o h => by simp at h) rfl (fun k o ob h => by simp at h) new (Nat.le_refl _) (Nat.zero_le _) (fun ob h => by simp at h) (fun ob h => by simp at h) (fun hb => ⟨flat hb, fun ob h => by simp at h⟩)
  rw [ren_closed _ v hc] at this
  exact this

/-- one new object -/
theorem callR_new {P : Program} {f : FuncId} {id : Nat} {σ : Store} {xs vs : List V} {v : V} {ob : Ob} (h : FS P f [] vs v [ob]) (b : Bool) (hv : Views σ [] b xs vs) (hid : σ[id]? = some .free) (hcl : ob.closed) (hk : ∀ k ∈ v.ids, k = 0) (flat : b = true → v.flat = true ∧ ob.flat) :
    CallR P f id 1 σ xs (v.ren fun _ => id) (σ.set id (.live ob)) := by
  have := callR_gen (id := id) (own := 1) h [] b hv List.nodup_nil (fun o h => by simp at h) rfl (fun k o ob h => by simp at h) (fun j hj => by rw [show id + j = id by omega]; exact hid) (Nat.zero_le _) (by simp) (fun ob h => by simp at h) (by simpa using hcl)
    (fun hb => ⟨(flat hb).1, by simpa using (flat hb).2⟩)
  rw [ren_eq (g := fun _ => id) (fun k hk => by subst hk; rfl) v hk] at this
  exact this

/-- one object handed over, and turned -/
theorem callR_turn {P : Program} {f : FuncId} {id own : Nat} {σ : Store} {xs vs : List V} {v : V} {o : Nat} {ob ob' : Ob} (h : FS P f [ob] vs v [ob']) (b : Bool) (hv : Views σ [o] b xs vs) (ho : σ[o]? = some (.live ob)) (hs : o ∈ V.idsL xs) (hc : v.closed = true) (hcl : ob.closed) (hcl' : ob'.closed)
    (new : ∀ j, j < own → σ[id + j]? = some .free) (flat : b = true → v.flat = true ∧ ob'.flat) : CallR P f id own σ xs v (σ.set o (.live ob')) := by
  have := callR_gen (id := id) (own := own) h [o] b hv (by simp) (by simpa using hs) rfl (fun k o' ob1 h1 h2 => by
    cases k with
    | zero => simp at h1 h2; subst h1; subst h2; exact ho
    | succ k => simp at h1) new (by simp) (by simp) (by simpa using hcl) (by simpa using hcl') (fun hb => ⟨(flat hb).1, by simpa using (flat hb).2⟩)
  rw [ren_closed _ v hc] at this
  exact this

section
variable {P : Program} {b : Nat} {d : Option Nat} {l : Nat} {rs : List AR} {a : Env} {σ : Store} {Q : Env → Store → Prop}

theorem run_see {wr : Bool} {id own : Nat} {f : FuncId} {args : List Opd} {vs : List V} {v : V} (h : FS P f [] vs v []) (k : Bool) (hv : Views σ [] k (args.map fun x => x.ev a) vs) (hc : v.closed = true) (new : ∀ j, j < own → σ[b + id + j]? = some .free) (flat : k = true → v.flat = true)
    (hr : runL P b rs (putE a d v) σ Q) : runL P b (⟨d, none, l, .call wr id own f args⟩ :: rs) a σ Q :=
  runL_call ⟨callR_see h k hv hc new flat, fun _ _ => rfl⟩ hr

theorem run_new {wr : Bool} {id : Nat} {f : FuncId} {args : List Opd} {vs : List V} {v : V} {ob : Ob} (h : FS P f [] vs v [ob]) (k : Bool) (hv : Views σ [] k (args.map fun x => x.ev a) vs) (hid : σ[b + id]? = some .free) (hcl : ob.closed) (hk : ∀ k ∈ v.ids, k = 0) (flat : k = true → v.flat = true ∧ ob.flat)
    (hr : runL P b rs (putE a d (v.ren fun _ => b + id)) (σ.set (b + id) (.live ob)) Q) : runL P b (⟨d, none, l, .call wr id 1 f args⟩ :: rs) a σ Q :=
  runL_call ⟨callR_new h k hv hid hcl hk flat, fun _ h => absurd h (by decide)⟩ hr

theorem run_turn {id own : Nat} {f : FuncId} {args : List Opd} {vs : List V} {v : V} {o : Nat} {ob ob' : Ob} (h : FS P f [ob] vs v [ob']) (k : Bool) (hv : Views σ [o] k (args.map fun x => x.ev a) vs) (ho : σ[o]? = some (.live ob)) (hs : o ∈ V.idsL (args.map fun x => x.ev a)) (hc : v.closed = true) (hcl : ob.closed) (hcl' : ob'.closed)
    (new : ∀ j, j < own → σ[b + id + j]? = some .free) (flat : k = true → v.flat = true ∧ ob'.flat) (hr : runL P b rs (putE a d v) (σ.set o (.live ob')) Q) : runL P b (⟨d, none, l, .call true id own f args⟩ :: rs) a σ Q :=
  runL_call ⟨callR_turn h k hv ho hs hc hcl hcl' new flat, fun h => absurd h (by decide)⟩ hr
end

/-- the end of a function that hands one frozen row over -/
theorem Ends.frzSl {vs : List Nat} {os : List AO} {e : Exit} {L : List V} {σ : Store} (he : e = .ret ∨ e = .normal) {o s len : Nat} {es : List (List V)} (hr : resVs os (look vs L) σ = some [.sl o s 0 len]) (ho : σ[o]? = some (.live ⟨s, es⟩)) (hl : len = es.length) (hcl : (⟨s, es⟩ : Ob).closed) :
    Ends vs os 0 (.fz s es) [] e L σ := by
  refine Ends.frozen he hr ho hcl ?_ rfl
  subst hl
  simp only [packV, V.frz, if_true, List.drop_zero]
  rw [if_pos ⟨trivial, by simp⟩, List.take_length]
  exact .refl _

theorem rows_full {σ : Store} {o s len : Nat} {es : List (List V)} (ho : σ[o]? = some (.live ⟨s, es⟩)) (hl : len = es.length) : rows σ s (.sl o s 0 len) = some es := by
  subst hl
  simp only [rows, ho]
  rw [if_pos ⟨trivial, trivial, by simp⟩]
  simp
theorem View.row {σ : Store} {m : List Nat} {o s len : Nat} {es : List (List V)} (hm : o ∉ m) (ho : σ[o]? = some (.live ⟨s, es⟩)) (hl : len = es.length) (hcl : (⟨s, es⟩ : Ob).closed) : View σ m true (.sl o s 0 len) (.fz s es) :=
  .rows o s 0 len es hm (rows_full ho hl) hcl

/-- a guard's word -/
def guardV (x : V) (want : Bool) : Option Bool := match x with
  | .bool b => some (b == want)
  | .unk => none
  | _ => some false
/-- by a guard's word -/
def selP (x : Option Bool) (A B : Prop) : Prop := match x with
  | some true => A
  | some false => B
  | none => False
section
variable {P : Program} {b : Nat} {d : Option Nat} {l : Nat} {rs : List AR} {a : Env} {σ : Store} {Q : Env → Store → Prop}
theorem run_guard (t : Nat) (want : Bool) (o : AO) : runL P b (⟨d, some (t, want), l, o⟩ :: rs) a σ Q = selP (guardV (a t) want) (runL P b (⟨d, none, l, o⟩ :: rs) a σ Q) (runL P b rs (putE a d (.tup [])) σ Q) := by
  have e : guardOk (some (t, want)) a = guardV (a t) want := by
    unfold guardOk guardV
    dsimp only
    cases a t <;> rfl
  cases h : guardV (a t) want with
  | none =>
    apply propext
    simp only [runL, StepR, e, h, selP]
    exact ⟨fun ⟨_, _, h, _⟩ => h, fun h => h.elim⟩
  | some q =>
    rw [runL_guard (q := q) (by rw [e, h])]
    cases q <;> simp [selP]
@[go_sem] theorem run_guard_t {t : Nat} {want : Bool} (o : AO) (h : guardV (a t) want = some true) : runL P b (⟨d, some (t, want), l, o⟩ :: rs) a σ Q = runL P b (⟨d, none, l, o⟩ :: rs) a σ Q := by
  rw [run_guard, h]; rfl
@[go_sem] theorem run_guard_f {t : Nat} {want : Bool} (o : AO) (h : guardV (a t) want = some false) : runL P b (⟨d, some (t, want), l, o⟩ :: rs) a σ Q = runL P b rs (putE a d (.tup [])) σ Q := by
  rw [run_guard, h]; rfl
@[go_sem] theorem guardV_tup (vs : List V) (want : Bool) : guardV (.tup vs) want = some false := rfl
/-- a guard that is not settled yet -/
theorem selP_if {t : Nat} {o : AO} {p : Prop} [Decidable p] (hv : a t = .bool (decide p)) (h1 : p → runL P b (⟨d, none, l, o⟩ :: rs) a σ Q) (h2 : ¬ p → runL P b rs (putE a d (.tup [])) σ Q) : runL P b (⟨d, some (t, true), l, o⟩ :: rs) a σ Q := by
  by_cases h : p
  · rw [run_guard_t o (by rw [hv, decide_eq_true h]; rfl)]; exact h1 h
  · rw [run_guard_f o (by rw [hv, decide_eq_false h]; rfl)]; exact h2 h
theorem selP_ifn {t : Nat} {o : AO} {p : Prop} [Decidable p] (hv : a t = .bool (decide p)) (h1 : p → runL P b rs (putE a d (.tup [])) σ Q) (h2 : ¬ p → runL P b (⟨d, none, l, o⟩ :: rs) a σ Q) : runL P b (⟨d, some (t, false), l, o⟩ :: rs) a σ Q := by
  by_cases h : p
  · rw [run_guard_f o (by rw [hv, decide_eq_true h]; rfl)]; exact h1 h
  · rw [run_guard_t o (by rw [hv, decide_eq_false h]; rfl)]; exact h2 h
theorem selN_if {t : Nat} {o : AO} {p : Prop} [Decidable p] (hv : a t = .bool (!decide p)) (h1 : p → runL P b rs (putE a d (.tup [])) σ Q) (h2 : ¬ p → runL P b (⟨d, none, l, o⟩ :: rs) a σ Q) : runL P b (⟨d, some (t, true), l, o⟩ :: rs) a σ Q := by
  by_cases h : p
  · rw [run_guard_f o (by rw [hv, decide_eq_true h]; rfl)]; exact h1 h
  · rw [run_guard_t o (by rw [hv, decide_eq_false h]; rfl)]; exact h2 h
theorem selN_ifn {t : Nat} {o : AO} {p : Prop} [Decidable p] (hv : a t = .bool (!decide p)) (h1 : p → runL P b (⟨d, none, l, o⟩ :: rs) a σ Q) (h2 : ¬ p → runL P b rs (putE a d (.tup [])) σ Q) : runL P b (⟨d, some (t, false), l, o⟩ :: rs) a σ Q := by
  by_cases h : p
  · rw [run_guard_t o (by rw [hv, decide_eq_true h]; rfl)]; exact h1 h
  · rw [run_guard_f o (by rw [hv, decide_eq_false h]; rfl)]; exact h2 h
@[go_sem] theorem guardV_bool (q want : Bool) : guardV (.bool q) want = some (q == want) := rfl
@[go_sem] theorem selP_true (A B : Prop) : selP (some true) A B = A := rfl
@[go_sem] theorem selP_false (A B : Prop) : selP (some false) A B = B := rfl
attribute [go_sem] List.take_length Int.le_refl decide_true decide_false Bool.not_true Bool.not_false beq_self_eq_true
@[go_sem] theorem andT_ite' (c : Prop) [Decidable c] (x : Option (V × Store)) : andT P b rs d a Q (if c then none else x) = (¬ c ∧ andT P b rs d a Q x) := by
  apply propext
  split
  · rename_i h; exact ⟨fun k => k.elim, fun k => absurd h k.1⟩
  · rename_i h; exact ⟨fun k => ⟨h, k⟩, fun k => k.2⟩
@[go_sem] theorem map_ite' {α β : Type} (c : Prop) [Decidable c] (x : Option α) (f : α → β) : (if c then none else x).map f = if c then none else x.map f := by split <;> rfl
@[go_sem] theorem beq_tf : (true == false) = false := rfl
@[go_sem] theorem beq_ft : (false == true) = false := rfl
@[go_sem] theorem nlt0 (n : Nat) : ((n : Int) < 0) = False := by simp
end
section
variable {X : Cx} {Q : Exit → List V → Store → Prop} {L : List V} {σ : Store}
theorem awp_yes {o : Opd} {x y : AC} (ho : o.ev (look X.vs L) = .bool true) (h : AWP X x Q L σ) : AWP X (.cond o x y) Q L σ := awp_cond ho (fun _ => h) (fun h => by cases h)
theorem awp_no {o : Opd} {x y : AC} (ho : o.ev (look X.vs L) = .bool false) (h : AWP X y Q L σ) : AWP X (.cond o x y) Q L σ := awp_cond ho (fun h => by cases h) (fun _ => h)
end
end Go.Proofs.YtffigokicddekaaGreat.Abs
/- A row's arguments, opened: what their types say of them, and how they stand in the world. No condition. -/
set_option linter.unusedVariables false
set_option linter.unusedSimpArgs false
namespace Go.Proofs.YtffigokicddekaaGreat.Abs
open Go

mutual
/-- the cells of a value of the type t -/
inductive HasT (P : Program) : TypeId → List V → Prop where
  | int (t : TypeId) (k : IntKind) (n : Int) : P.underlying t = some (.int k) → (Lit.int k n).wf = true → HasT P t [.int k n]
  | bool (t : TypeId) (b : Bool) : P.underlying t = some .bool → HasT P t [.bool b]
  | str (t : TypeId) (s : ByteArray) : P.underlying t = some .string → s.size ≤ reachBytes → HasT P t [.str s]
  | fz (t e : TypeId) (es : List (List V)) : P.underlying t = some (.slice e) → (∀ l ∈ es, HasT P e l) → es.length * P.bytesOf e ≤ reachBytes → HasT P t [.fz (P.cellsOf e) es]
  | struct (t : TypeId) (fs : Array Field) (xs : List V) : P.underlying t = some (.struct fs) → HasTs P (fs.toList.map (·.type)) xs → HasT P t xs
inductive HasTs (P : Program) : List TypeId → List V → Prop where
  | nil : HasTs P [] []
  | cons (t : TypeId) (ts : List TypeId) (xs ys : List V) : HasT P t xs → HasTs P ts ys → HasTs P (t :: ts) (xs ++ ys)
end

def tiles (P : Program) : List Field → Nat → Nat → Bool
  | [], o, m => o == m
  | f :: fs, o, m => f.offset == o && tiles P fs (o + P.cellsOf f.type) m

/-- a type made of whole numbers, bools, strings, slices and structs, laid out in a row -/
def okT (P : Program) : Nat → TypeId → Bool
  | 0, _ => false
  | n + 1, t => match P.underlying t with
    | some (.int _) | some .bool | some .string => P.cellsOf t == 1
    | some (.slice e) => P.cellsOf t == 1 && decide (0 < P.cellsOf e) && okT P n e
    | some (.struct fs) => tiles P fs.toList 0 (P.cellsOf t) && fs.toList.all fun f => okT P n f.type
    | _ => false

section
variable {H : Type} {enc : TypeId × Value → H} {P : Program} {w : World} {spare : Nat → Bool} {held : Bool} {F : Nat → Prop}

def Opened (P : Program) (w : World) (F : Nat → Prop) (t : TypeId) (cs : List Value) : Prop :=
  ∃ xs, HasT P t xs ∧ (∀ β, VRs w F β xs cs) ∧ (∀ u ∈ cs, u.oneCell' = true) ∧ cs.length = P.cellsOf t

theorem vrs_app {β : Ids} {xs ys : List V} {us vs : List Value} (h : VRs w F β xs us) (k : VRs w F β ys vs) : VRs w F β (xs ++ ys) (us ++ vs) := by
  refine ⟨by simp [h.1, k.1], fun j x hx => ?_⟩
  rcases Nat.lt_or_ge j xs.length with h1 | h1
  · rw [List.getElem?_append_left h1] at hx
    have := h.2 j x hx
    rw [List.getD_eq_getElem?_getD] at this ⊢
    rw [List.getElem?_append_left (by rw [← h.1]; exact h1)]
    exact this
  · rw [List.getElem?_append_right h1] at hx
    have := k.2 (j - xs.length) x hx
    rw [List.getD_eq_getElem?_getD] at this ⊢
    rw [List.getElem?_append_right (by rw [← h.1]; exact h1), ← h.1]
    exact this

theorem weightsAll_get {e : TypeId} : ∀ {ds : List (DataW H)} {i : Nat} {d : DataW H}, ds[i]? = some d → ∀ n ∈ d.weights P e, n ∈ DataW.weightsAll P e ds
  | [], i, d, h, n, hn => by simp at h
  | d0 :: ds, 0, d, h, n, hn => by simp at h; subst h; simp [DataW.weightsAll, hn]
  | d0 :: ds, i + 1, d, h, n, hn => by simp only [DataW.weightsAll, List.mem_append]; exact .inr (weightsAll_get (by simpa using h) n hn)

theorem open_cells (hF : ∀ b, b < w.heap.size → F b) : ∀ (m : Nat) (t : TypeId), okT P m t = true → ∀ (fuel : Nat) (cs : List Value) (d : DataW H) (ps : List MemPlace), DataW.trod enc P w 0 spare held fuel t cs = some (d, ps) → (∀ n ∈ d.weights P t, n ≤ reachBytes) → Opened P w F t cs
  | 0, t, h, _, _, _, _, _, _ => by simp [okT] at h
  | m + 1, t, h, fuel, cs, d, ps, ht, hw => by
    have ih := open_cells hF m
    simp only [okT] at h
    split at h
    · rename_i k hu
      obtain ⟨n, rfl, hx, hwf⟩ := DataW.trod_int hu ht
      exact ⟨[.int k n], .int t k n hu hwf, fun β => ⟨rfl, fun j x hx => by
        cases j with
        | zero => simp at hx; subst hx; exact .int β k n
        | succ j => simp at hx⟩, by simp [Value.oneCell'], by simpa using (beq_iff_eq.1 h).symm⟩
    · rename_i hu
      obtain ⟨b, rfl, hx⟩ := DataW.trod_bool hu ht
      exact ⟨[.bool b], .bool t b hu, fun β => ⟨rfl, fun j x hx => by
        cases j with
        | zero => simp at hx; subst hx; exact .bool β b
        | succ j => simp at hx⟩, by simp [Value.oneCell'], by simpa using (beq_iff_eq.1 h).symm⟩
    · rename_i hu
      obtain ⟨s, rfl, hx, _⟩ := DataW.trod_string hu ht
      simp only [Prod.mk.injEq] at hx
      obtain ⟨rfl, _⟩ := hx
      have hs : s.size ≤ reachBytes := by
        have := hw s.data.toList.length (by simp [DataW.weights])
        simpa using this
      exact ⟨[.str s], .str t s hu hs, fun β => ⟨rfl, fun j x hx => by
        cases j with
        | zero => simp at hx; subst hx; exact .str β s
        | succ j => simp at hx⟩, by simp [Value.oneCell'], by simpa using (beq_iff_eq.1 h).symm⟩
    · rename_i e hu
      simp only [Bool.and_eq_true, beq_iff_eq, decide_eq_true_eq] at h
      obtain ⟨⟨hc1, hpos⟩, hok⟩ := h
      rcases DataW.trod_slice hu ht with ⟨rfl, hx⟩ | ⟨a, len, cap, elems, rest, n, _, rfl, hx, _, hlc, _, hlen, hel, _, _⟩
      · exact ⟨[.fz (P.cellsOf e) []], .fz t e [] hu (fun l hl => by simp at hl) (by simp), fun β => ⟨rfl, fun j x hx => by
          cases j with
          | zero => simp at hx; subst hx; exact .fz0 β _ _ _
          | succ j => simp at hx⟩, by simp [Value.oneCell'], by simpa using hc1.symm⟩
      · simp only [Prod.mk.injEq] at hx
        obtain ⟨rfl, _⟩ := hx
        have hwl : ∀ n ∈ DataW.weights (H := H) P t (.slice (elems.map (·.1)) (rest.map (·.1))), n ≤ reachBytes := hw
        simp only [DataW.weights, hu] at hwl
        -- each element
        have each : ∀ i, i < len → ∃ csi, w.cells? 0 (a.add (i * P.cellsOf e)) (P.cellsOf e) = some csi ∧ Opened P w F e csi := by
          intro i hi
          have h1 := hel i hi
          have h2 : i < elems.length := by omega
          rw [List.getElem?_eq_getElem h2] at h1
          simp only [Option.bind_eq_some_iff] at h1
          obtain ⟨csi, h3, h4⟩ := h1
          refine ⟨csi, h3, ih e hok n csi elems[i].1 elems[i].2 h4 fun q hq => hwl q ?_⟩
          simp only [List.mem_cons, List.mem_append]
          exact .inr (.inl (weightsAll_get (i := i) (d := elems[i].1) (by simp [h2]) q hq))
        have hall : ∀ L, L ≤ len → ∃ es : List (List V), ∃ css : List (List Value), es.length = L ∧ css.length = L ∧ ∀ i, i < L → w.cells? 0 (a.add (i * P.cellsOf e)) (P.cellsOf e) = some (css.getD i []) ∧ HasT P e (es.getD i []) ∧ (∀ β, VRs w F β (es.getD i []) (css.getD i [])) ∧ (∀ u ∈ css.getD i [], u.oneCell' = true) ∧ (css.getD i []).length = P.cellsOf e := by
          intro L
          induction L with
          | zero => exact fun _ => ⟨[], [], rfl, rfl, fun i hi => by omega⟩
          | succ L ihl =>
            intro hL
            obtain ⟨es, css, l1, l2, hh⟩ := ihl (by omega)
            obtain ⟨csi, h3, xs, h4, h5, h6, h7⟩ := each L (by omega)
            refine ⟨es ++ [xs], css ++ [csi], by simp [l1], by simp [l2], fun i hi => ?_⟩
            rcases Nat.lt_or_ge i L with h8 | h8
            · have e1 : (es ++ [xs]).getD i [] = es.getD i [] := by rw [List.getD_eq_getElem?_getD, List.getElem?_append_left (by omega), ← List.getD_eq_getElem?_getD]
              have e2 : (css ++ [csi]).getD i [] = css.getD i [] := by rw [List.getD_eq_getElem?_getD, List.getElem?_append_left (by omega), ← List.getD_eq_getElem?_getD]
              rw [e1, e2]; exact hh i h8
            · have : i = L := by omega
              subst this
              have e1 : (es ++ [xs]).getD i [] = xs := by rw [List.getD_eq_getElem?_getD, List.getElem?_append_right (by omega)]; simp [l1]
              have e2 : (css ++ [csi]).getD i [] = csi := by rw [List.getD_eq_getElem?_getD, List.getElem?_append_right (by omega)]; simp [l2]
              rw [e1, e2]; exact ⟨h3, h4, h5, h6, h7⟩
        obtain ⟨es, css, l1, l2, hh⟩ := hall len (Nat.le_refl _)
        have hwe : es.length * P.bytesOf e ≤ reachBytes := by
          have := hwl ((elems.map (·.1)).length + (rest.map (·.1)).length |> (· * P.bytesOf e)) (by simp)
          simp only [List.length_map] at this
          refine Nat.le_trans (Nat.mul_le_mul_right _ ?_) this
          omega
        refine ⟨[.fz (P.cellsOf e) es], .fz t e es hu ?_ hwe, fun β => ⟨rfl, fun j x hx => ?_⟩, by simp [Value.oneCell'], by simpa using hc1.symm⟩
        · intro l hl
          obtain ⟨i, hi⟩ := List.mem_iff_getElem?.1 hl
          have hlt : i < len := by rw [← l1]; exact (List.getElem?_eq_some_iff.1 hi).1
          have := (hh i hlt).2.1
          simpa [List.getD_eq_getElem?_getD, hi] using this
        · cases j with
          | succ j => simp at hx
          | zero =>
            simp only [List.getElem?_cons_zero, Option.some.injEq] at hx
            subst hx
            show VR w F β (.fz (P.cellsOf e) es) (.slice (some a) len cap)
            rcases Nat.eq_zero_or_pos len with h0 | h0
            · subst h0
              have : es = [] := List.eq_nil_of_length_eq_zero l1
              subst this
              exact .fz0 _ _ _ _
            · have cell : ∀ i, i < len → ∀ j, j < P.cellsOf e → w.cell? ((a.add (i * P.cellsOf e)).add j) = some ((css.getD i []).getD j undef) := by
                intro i hi j hj
                have h1 := (hh i hi).1
                simp only [World.cells?] at h1
                split at h1
                · have := mapM_some_get h1 j j (by simp [hj])
                  rw [this]
                  have h3 := (hh i hi).2.2.2.2
                  rw [List.getD_eq_getElem?_getD (l := css.getD i []), List.getElem?_eq_getElem (by omega)]
                  rfl
                · cases h1
              have c0 := cell 0 h0 0 hpos
              have hspot : a.spot = none ∧ a.block < w.heap.size := by
                simp only [Nat.zero_mul, Addr.add, if_true] at c0
                unfold World.cell? at c0
                split at c0
                · rename_i c el fr hb
                  split at c0
                  · cases c0
                  · rename_i hs
                    exact ⟨by simpa using hs, (Array.getElem?_eq_some_iff.1 hb).1⟩
                · cases c0
              obtain ⟨ab, ao, asp⟩ := a
              obtain ⟨hs1, hs2⟩ := hspot
              simp only at hs1 hs2
              subst hs1
              have hfz := VR.fz (w := w) (F := F) β (P.cellsOf e) es ab ao cap (fun i j => (css.getD i []).getD j undef) (hF ab hs2) (by omega) ?_ ?_ ?_
              · rw [l1] at hfz; exact hfz
              · intro l hl
                obtain ⟨i, hi⟩ := List.mem_iff_getElem?.1 hl
                have hlt : i < len := by rw [← l1]; exact (List.getElem?_eq_some_iff.1 hi).1
                have h1 := (hh i hlt).2.2.1 β
                have h2 := (hh i hlt).2.2.2.2
                have h3 : es.getD i [] = l := by simp [List.getD_eq_getElem?_getD, hi]
                rw [h3] at h1
                rw [h1.1, h2]
              · intro i l hi j x hx
                have hlt : i < len := by rw [← l1]; exact (List.getElem?_eq_some_iff.1 hi).1
                have h3 : es.getD i [] = l := by simp [List.getD_eq_getElem?_getD, hi]
                have h1 := (hh i hlt).2.2.1 β
                rw [h3] at h1
                have hj : j < P.cellsOf e := by
                  have := (List.getElem?_eq_some_iff.1 hx).1
                  rw [h1.1, (hh i hlt).2.2.2.2] at this; exact this
                have h4 := cell i hlt j hj
                rw [addr_add, addr_add] at h4
                refine ⟨h4, ?_⟩
                have h5 := (hh i hlt).2.2.2.1 ((css.getD i []).getD j undef)
                apply h5
                rw [List.getD_eq_getElem?_getD (l := css.getD i []), List.getElem?_eq_getElem (by rw [(hh i hlt).2.2.2.2]; exact hj)]
                exact List.getElem_mem _
              · intro i l hi j x hx
                have hlt : i < len := by rw [← l1]; exact (List.getElem?_eq_some_iff.1 hi).1
                have h3 : es.getD i [] = l := by simp [List.getD_eq_getElem?_getD, hi]
                have h1 := (hh i hlt).2.2.1 noIds
                rw [h3] at h1
                exact h1.2 j x hx
    · rename_i fs hu
      simp only [Bool.and_eq_true, List.all_eq_true] at h
      obtain ⟨htile, hok⟩ := h
      obtain ⟨xs, n, _, hx, hcl, hxl, hf⟩ := DataW.trod_struct hu ht
      simp only [Prod.mk.injEq] at hx
      obtain ⟨rfl, _⟩ := hx
      simp only [DataW.weights, hu] at hw
      have key : ∀ (fl : List Field) (o : Nat) (ys : List (DataW H × List MemPlace)), tiles P fl o (P.cellsOf t) = true → (∀ f ∈ fl, okT P m f.type = true) → ys.length = fl.length →
          (∀ (i : Nat) f, fl[i]? = some f → DataW.trod enc P w 0 spare held n f.type ((cs.drop f.offset).take (P.cellsOf f.type)) = ys[i]?) →
          (∀ q ∈ DataW.weightsEach P (fl.map (·.type)) (ys.map (·.1)), q ≤ reachBytes) → ∃ vs, HasTs P (fl.map (·.type)) vs ∧ (∀ β, VRs w F β vs (cs.drop o)) ∧ (∀ u ∈ cs.drop o, u.oneCell' = true) := by
        intro fl
        induction fl with
        | nil =>
          intro o ys h1 _ _ _ _
          simp only [tiles, beq_iff_eq] at h1
          have : cs.drop o = [] := by apply List.drop_eq_nil_of_le; omega
          rw [this]
          exact ⟨[], .nil, fun β => VRs.nil _ _ _, fun u hu => by simp at hu⟩
        | cons f fl ihf =>
          intro o ys h1 h2 h3 h4 h5
          simp only [tiles, Bool.and_eq_true, beq_iff_eq] at h1
          cases ys with
          | nil => simp at h3
          | cons y ys =>
            have hy := h4 0 f rfl
            simp only [List.getElem?_cons_zero] at hy
            simp only [List.map_cons, DataW.weightsEach, List.mem_append] at h5
            obtain ⟨us, g1, g2, g3, g4⟩ := ih f.type (h2 f (by simp)) n _ y.1 y.2 hy fun q hq => h5 q (.inl hq)
            obtain ⟨vs, k1, k2, k3⟩ := ihf (o + P.cellsOf f.type) ys h1.2 (fun f' hf' => h2 f' (by simp [hf'])) (by simpa using h3) (fun i f' hf' => by simpa using h4 (i + 1) f' (by simpa using hf')) fun q hq => h5 q (.inr hq)
            have e1 : cs.drop o = (cs.drop o).take (P.cellsOf f.type) ++ cs.drop (o + P.cellsOf f.type) := by
              rw [← List.drop_drop, List.take_append_drop]
            rw [h1.1] at g2 g3
            refine ⟨us ++ vs, .cons _ _ _ _ g1 k1, fun β => ?_, fun u hu => ?_⟩
            · rw [e1]; exact vrs_app (g2 β) (k2 β)
            · rw [e1, List.mem_append] at hu
              exact hu.elim (g3 u) (k3 u)
      obtain ⟨vs, k1, k2, k3⟩ := key fs.toList 0 xs htile hok (by simpa using hxl) (fun i f hf' => hf i f (by simpa using hf')) hw
      exact ⟨vs, .struct t fs vs hu k1, by simpa using k2, by simpa using k3, hcl⟩
    · cases h
end
end Go.Proofs.YtffigokicddekaaGreat.Abs
/- From a row's arguments to the walk, and from the walk to the row. No condition. -/
set_option linter.unusedVariables false
set_option linter.unusedSimpArgs false
namespace Go.Proofs.YtffigokicddekaaGreat.Abs
open Go Go.WideShapes Go.RowKit

/-- a value of the type t: a struct's cells together, else its one cell -/
inductive HasV (P : Program) (t : TypeId) : V → Prop where
  | agg (fs : Array Field) (cs : List V) : P.underlying t = some (.struct fs) → HasT P t cs → HasV P t (.agg cs)
  | one (x : V) : (∀ fs, P.underlying t ≠ some (.struct fs)) → HasT P t [x] → HasV P t x

theorem HasT.scalar {P : Program} {t : TypeId} {xs : List V} (h : HasT P t xs) (hn : ∀ fs, P.underlying t ≠ some (.struct fs)) : ∃ x, xs = [x] := by
  cases h
  case struct fs hu _ => exact absurd hu (hn fs)
  all_goals exact ⟨_, rfl⟩

section
variable {H : Type} {enc : TypeId × Value → H} {P : Program} {w : World} {spare : Nat → Bool} {held : Bool}

theorem open_arg {t : TypeId} {v : Value} {d : DataW H} {ps : List MemPlace} {r : Reach} {b0 : Nat} (hok : okT P 20 t = true) (hval : Value.okWide P w r b0 t v) (hd : DataW.Trod enc P w 0 spare held t v d ps) (hw : ∀ n ∈ d.weights P t, n ≤ reachBytes) :
    ∃ x, HasV P t x ∧ VR w (· < w.heap.size) noIds x v := by
  obtain ⟨fuel, hf⟩ := hd
  obtain ⟨xs, h1, h2, h3, h4⟩ := open_cells (F := (· < w.heap.size)) (fun _ h => h) 20 t hok fuel _ d ps hf hw
  have h2 := h2 noIds
  by_cases hs : ∃ fs, P.underlying t = some (.struct fs)
  · obtain ⟨fs, hs⟩ := hs
    obtain ⟨cs, rfl, _⟩ := okWide_struct hs hval
    exact ⟨.agg xs, .agg fs xs hs h1, agg_mk (by simpa [Value.cells] using h2)⟩
  · have hn : ∀ fs, P.underlying t ≠ some (.struct fs) := fun fs h => hs ⟨fs, h⟩
    obtain ⟨x, rfl⟩ := h1.scalar hn
    refine ⟨x, .one x hn h1, ?_⟩
    have hc : v.cells.toList = [v] := by
      have hokt := hok
      simp only [okT] at hokt
      split at hokt
      · rename_i k hu; obtain ⟨n, rfl⟩ := okWide_int hu hval; rfl
      · rename_i hu; obtain ⟨b, rfl⟩ := okWide_bool hu hval; rfl
      · rename_i hu; obtain ⟨s, rfl⟩ := okWide_string hu hval; rfl
      · rename_i e hu; obtain ⟨a, len, cap, rfl⟩ := okWide_slice hu hval; rfl
      · rename_i fs hu; exact absurd hu (hn fs)
      · cases hokt
    rw [hc] at h2
    simpa using h2.2 0 x rfl
end

theorem FS.row {P : Program} {f : FuncId} {xs : List V} {b : Bool} (h : FS P f [] xs (.bool b) []) {w : World} {args : Array Value} (hx : VRs w (· < w.heap.size) noIds xs args.toList) :
    Calls P f args w fun e w' => e = .returned (.bool b) ∧ Below w.heap.size w w' := by
  have hr : Rel (lives []) noIds (· < w.heap.size) w := ⟨fun o ob h => by simp [lives] at h, fun o o' a a' h => by simp [lives] at h, fun o _ => rfl, fun b h => h⟩
  refine (h noIds _ w args hr hx).mono ?_
  rintro e w' ⟨val, β', F', rfl, hv, hA⟩
  cases hv
  exact ⟨rfl, hA.grow.os, hA.grow.tape, hA.grow.output, hA.grow.size, fun k hk => hA.frame k hk fun o h => by simp [noIds] at h⟩

/-- arguments that say more -/
theorem FS.le {P : Program} {f : FuncId} {σ σ' : List Ob} {xs ys : List V} {v : V} (h : FS P f σ ys v σ') (hl : xs.length = ys.length) (hle : ∀ (j : Nat) x y, xs[j]? = some x → ys[j]? = some y → VLe x y) : FS P f σ xs v σ' := by
  intro β F w args hr hx
  refine h β F w args hr ⟨by rw [← hl]; exact hx.1, fun j y hy => ?_⟩
  have hj : j < xs.length := by rw [hl]; exact (List.getElem?_eq_some_iff.1 hy).1
  exact hle j xs[j] y (List.getElem?_eq_getElem hj) hy _ _ _ _ (hx.2 j xs[j] (List.getElem?_eq_getElem hj))

/-! what a type says, type by type -/
section
variable {P : Program} {t e : TypeId} {xs : List V} {x : V}
theorem HasT.int_inv {k : IntKind} (hu : P.underlying t = some (.int k)) (h : HasT P t xs) : ∃ n, xs = [.int k n] ∧ (Lit.int k n).wf = true := by
  cases h with
  | int _ k' n hu' hw => rw [hu] at hu'; cases hu'; exact ⟨n, rfl, hw⟩
  | bool _ b hu' => rw [hu] at hu'; cases hu'
  | str _ s hu' => rw [hu] at hu'; cases hu'
  | fz _ e es hu' => rw [hu] at hu'; cases hu'
  | struct _ fs _ hu' => rw [hu] at hu'; cases hu'
theorem HasT.bool_inv (hu : P.underlying t = some .bool) (h : HasT P t xs) : ∃ b, xs = [.bool b] := by
  cases h with
  | int _ k' n hu' hw => rw [hu] at hu'; cases hu'
  | bool _ b hu' => exact ⟨b, rfl⟩
  | str _ s hu' => rw [hu] at hu'; cases hu'
  | fz _ e es hu' => rw [hu] at hu'; cases hu'
  | struct _ fs _ hu' => rw [hu] at hu'; cases hu'
theorem HasT.str_inv (hu : P.underlying t = some .string) (h : HasT P t xs) : ∃ s : ByteArray, xs = [.str s] ∧ s.size ≤ reachBytes := by
  cases h with
  | int _ k' n hu' hw => rw [hu] at hu'; cases hu'
  | bool _ b hu' => rw [hu] at hu'; cases hu'
  | str _ s hu' hs => exact ⟨s, rfl, hs⟩
  | fz _ e es hu' => rw [hu] at hu'; cases hu'
  | struct _ fs _ hu' => rw [hu] at hu'; cases hu'
theorem HasT.slice_inv (hu : P.underlying t = some (.slice e)) (h : HasT P t xs) : ∃ es, xs = [.fz (P.cellsOf e) es] ∧ (∀ l ∈ es, HasT P e l) ∧ es.length * P.bytesOf e ≤ reachBytes := by
  cases h with
  | int _ k' n hu' hw => rw [hu] at hu'; cases hu'
  | bool _ b hu' => rw [hu] at hu'; cases hu'
  | str _ s hu' hs => rw [hu] at hu'; cases hu'
  | fz _ e' es hu' h1 h2 => rw [hu] at hu'; cases hu'; exact ⟨es, rfl, h1, h2⟩
  | struct _ fs _ hu' => rw [hu] at hu'; cases hu'
theorem HasT.struct_inv {fs : Array Field} (hu : P.underlying t = some (.struct fs)) (h : HasT P t xs) : HasTs P (fs.toList.map (·.type)) xs := by
  cases h with
  | int _ k' n hu' hw => rw [hu] at hu'; cases hu'
  | bool _ b hu' => rw [hu] at hu'; cases hu'
  | str _ s hu' hs => rw [hu] at hu'; cases hu'
  | fz _ e' es hu' h1 h2 => rw [hu] at hu'; cases hu'
  | struct _ fs' _ hu' h1 => rw [hu] at hu'; cases hu'; exact h1
theorem HasTs.nil_inv (h : HasTs P [] xs) : xs = [] := by cases h; rfl
theorem HasTs.cons_inv {ts : List TypeId} (h : HasTs P (t :: ts) xs) : ∃ ys zs, xs = ys ++ zs ∧ HasT P t ys ∧ HasTs P ts zs := by
  cases h with
  | cons _ _ ys zs h1 h2 => exact ⟨ys, zs, rfl, h1, h2⟩
theorem HasV.one_inv (hn : ∀ fs, P.underlying t ≠ some (.struct fs)) (h : HasV P t x) : HasT P t [x] := by
  cases h with
  | agg fs cs hu => exact absurd hu (hn fs)
  | one _ _ h => exact h
theorem HasV.agg_inv {fs : Array Field} (hu : P.underlying t = some (.struct fs)) (h : HasV P t x) : ∃ cs, x = .agg cs ∧ HasTs P (fs.toList.map (·.type)) cs := by
  cases h with
  | agg fs' cs hu' h => exact ⟨cs, rfl, h.struct_inv hu⟩
  | one _ h _ => exact absurd hu (h fs)
end
end Go.Proofs.YtffigokicddekaaGreat.Abs
/- The program's values, as Lean's structures, and their cells. No condition. -/
set_option linter.unusedVariables false
set_option linter.unusedSimpArgs false
namespace Go.Proofs.YtffigokicddekaaGreat.Abs
open Go

/-- the rows of a slice -/
def rw_ {α : Type} (c : α → List V) (xs : List α) : List (List V) := xs.map c
section
variable {α : Type} (c : α → List V)
@[go_sem] theorem rw_len (xs : List α) : (rw_ c xs).length = xs.length := by simp [rw_]
@[go_sem] theorem rw_take (xs : List α) (k : Nat) : (rw_ c xs).take k = rw_ c (xs.take k) := by simp [rw_, List.map_take]
@[go_sem] theorem rw_drop (xs : List α) (k : Nat) : (rw_ c xs).drop k = rw_ c (xs.drop k) := by simp [rw_, List.map_drop]
@[go_sem] theorem rw_app (xs ys : List α) : rw_ c xs ++ rw_ c ys = rw_ c (xs ++ ys) := by simp [rw_]
theorem rw_at {xs : List α} {i : Nat} (h : i < xs.length) : (rw_ c xs)[i]? = some (c xs[i]) := by simp [rw_, h]
theorem rw_set (xs : List α) (i : Nat) (y : α) : (rw_ c xs).set i (c y) = rw_ c (xs.set i y) := by simp [rw_, List.map_set]
theorem rw_one (x : α) : [c x] = rw_ c [x] := rfl
theorem rw_nil : rw_ c [] = [] := rfl
theorem rw_inj (h : ∀ a b, c a = c b → a = b) : ∀ {xs ys : List α}, rw_ c xs = rw_ c ys → xs = ys
  | [], [], _ => rfl
  | [], y :: ys, e => by simp [rw_] at e
  | x :: xs, [], e => by simp [rw_] at e
  | x :: xs, y :: ys, e => by
    simp only [rw_, List.map_cons, List.cons.injEq] at e
    rw [h x y e.1, rw_inj h (xs := xs) (ys := ys) e.2]
end

/-- a row whose cells name no object -/
theorem rw_closed {α : Type} {c : α → List V} {s : Nat} (h : ∀ a, ∀ x ∈ c a, x.closed = true) (xs : List α) : (⟨s, rw_ c xs⟩ : Ob).closed := by
  intro l hl x hx
  simp only [rw_, List.mem_map] at hl
  obtain ⟨a, _, rfl⟩ := hl
  exact h a x hx

def intC (n : Int) : List V := [.int .i64 n]

structure Entry where
  inc : Int
  rank : Int
  beat : Int
  ver : Int
  data : ByteArray
deriving DecidableEq
def Entry.c (a : Entry) : List V := [.int .i64 a.inc, .int .i64 a.rank, .int .i64 a.beat, .int .i64 a.ver, .str a.data]

structure Item where
  id : Int
  entry : Entry
deriving DecidableEq
def Item.c (a : Item) : List V := [.int .i64 a.id, .int .i64 a.entry.inc, .int .i64 a.entry.rank, .int .i64 a.entry.beat, .int .i64 a.entry.ver, .str a.entry.data]

structure Floor where
  id : Int
  inc : Int
deriving DecidableEq
def Floor.c (a : Floor) : List V := [.int .i64 a.id, .int .i64 a.inc]

structure State where
  items : List Item
  floors : List Floor
deriving DecidableEq
def State.c (a : State) : List V := [.fz 6 (rw_ Item.c a.items), .fz 2 (rw_ Floor.c a.floors)]

structure Tree where
  leaves : List Int
  root : Int
deriving DecidableEq
def Tree.c (a : Tree) : List V := [.fz 1 (rw_ intC a.leaves), .int .i64 a.root]

structure Log where
  cap : Int
  from_ : Int
  list : List State
deriving DecidableEq
def Log.c (a : Log) : List V := [.int .i64 a.cap, .int .i64 a.from_, .fz 2 (rw_ State.c a.list)]

structure Mark where
  id : Int
  inc : Int
deriving DecidableEq
def Mark.c (a : Mark) : List V := [.int .i64 a.id, .int .i64 a.inc]

structure Msg where
  kind : Int
  from_ : Int
  to : Int
  num : Int
  hi : Int
  tree : Tree
  vec : List Int
  leaves : List Int
  part : State
  marks : List Mark
deriving DecidableEq
def Msg.c (a : Msg) : List V := [.int .i64 a.kind, .int .i64 a.from_, .int .i64 a.to, .int .i64 a.num, .int .i64 a.hi, .fz 1 (rw_ intC a.tree.leaves), .int .i64 a.tree.root, .fz 1 (rw_ intC a.vec), .fz 1 (rw_ intC a.leaves),
  .fz 6 (rw_ Item.c a.part.items), .fz 2 (rw_ Floor.c a.part.floors), .fz 2 (rw_ Mark.c a.marks)]

theorem State.c_closed (a : State) : ∀ x ∈ a.c, x.closed = true := by simp [State.c, V.closed]
theorem Item.c_closed (a : Item) : ∀ x ∈ a.c, x.closed = true := by simp [Item.c, V.closed]
theorem Floor.c_closed (a : Floor) : ∀ x ∈ a.c, x.closed = true := by simp [Floor.c, V.closed]
theorem intC_closed (a : Int) : ∀ x ∈ intC a, x.closed = true := by simp [intC, V.closed]
theorem Mark.c_closed (a : Mark) : ∀ x ∈ a.c, x.closed = true := by simp [Mark.c, V.closed]
theorem Entry.c_closed (a : Entry) : ∀ x ∈ a.c, x.closed = true := by simp [Entry.c, V.closed]

theorem rw_rep {α : Type} (c : α → List V) (n : Nat) (a : α) : List.replicate n (c a) = rw_ c (List.replicate n a) := by simp [rw_]
def Entry.zero : Entry := ⟨0, 0, 0, 0, ⟨⟨[]⟩⟩⟩
def Item.zero : Item := ⟨0, Entry.zero⟩
def Floor.zero : Floor := ⟨0, 0⟩
def State.zero : State := ⟨[], []⟩
def Mark.zero : Mark := ⟨0, 0⟩

/-- the end, where the result is seen at once -/
theorem Ends.is {vs : List Nat} {os : List AO} {v : V} {e : Exit} {L : List V} {σ : Store} (he : e = .ret ∨ e = .normal) {rs : List V} (hr : resVs os (look vs L) σ = some rs) (hx : packV rs = v) (hv : v.closed = true) : Ends vs os 0 v [] e L σ :=
  Ends.plain he hr (by rw [hx]; exact .refl _) hv
end Go.Proofs.YtffigokicddekaaGreat.Abs
/- Sizes. No condition. -/
set_option linter.unusedVariables false
set_option linter.unusedSimpArgs false
namespace Go.Proofs.YtffigokicddekaaGreat.Abs
open Go

/-- what is left of n -/
def left (n sz : Nat) : Int := if sz ≤ n then ((n - sz : Nat) : Int) else -1
theorem left_neg {n s : Nat} (h : left n s < 0) : left n s = -1 := by
  unfold left at *
  split at h
  · omega
  · rename_i h1; rw [if_neg h1]
theorem left_pos {n s : Nat} (h : ¬ left n s < 0) : left n s = ((n - s : Nat) : Int) ∧ s ≤ n := by
  unfold left at *
  split at h
  · rename_i h1; exact ⟨by rw [if_pos h1], h1⟩
  · omega
theorem left_is {n s : Nat} (h : s ≤ n) : left n s = ((n - s : Nat) : Int) := if_pos h
theorem left_no {n s : Nat} (h : n < s) : left n s = -1 := if_neg (by omega)

def sumBy {α : Type} (f : α → Nat) (xs : List α) : Nat := (xs.map f).sum
theorem sumBy_take {α : Type} (f : α → Nat) {xs : List α} {i : Nat} (h : i < xs.length) : sumBy f (xs.take (i + 1)) = sumBy f (xs.take i) + f xs[i] := by
  unfold sumBy
  rw [List.take_succ_eq_append_getElem h, List.map_append, List.sum_append]
  simp only [List.map_cons, List.map_nil, List.sum_cons, List.sum_nil, Nat.add_zero]
theorem sumBy_le {α : Type} (f : α → Nat) (xs : List α) (i : Nat) : sumBy f (xs.take i) ≤ sumBy f xs := by
  unfold sumBy
  conv => rhs; rw [← List.take_append_drop i xs]
  rw [List.map_append, List.sum_append]
  omega
theorem sumBy_get {α : Type} (f : α → Nat) {xs : List α} {i : Nat} (h : i < xs.length) : f xs[i] ≤ sumBy f xs := by
  have h1 := sumBy_take f h
  have h2 := sumBy_le f xs (i + 1)
  omega
theorem sumBy_all {α : Type} (f : α → Nat) (xs : List α) : sumBy f (xs.take xs.length) = sumBy f xs := by rw [List.take_length]

/-- a slice's size: its length and what its parts take -/
def szS {α : Type} (f : α → Nat) (xs : List α) : Nat := xs.length + sumBy f xs

abbrev big : Nat := 1000000000000000

def Entry.sz (a : Entry) : Nat := a.data.size
def Entry.ok (a : Entry) : Prop := a.data.size ≤ big
def Item.sz (a : Item) : Nat := a.entry.sz
def Item.ok (a : Item) : Prop := a.entry.ok
def noSz {α : Type} (_ : α) : Nat := 0
def okS {α : Type} (p : α → Prop) (xs : List α) : Prop := xs.length ≤ big ∧ ∀ a ∈ xs, p a
def noOk {α : Type} (_ : α) : Prop := True
def State.sz (a : State) : Nat := szS Item.sz a.items + a.floors.length
def State.ok (a : State) : Prop := okS Item.ok a.items ∧ a.floors.length ≤ big
def Tree.sz (a : Tree) : Nat := a.leaves.length
def Tree.ok (a : Tree) : Prop := a.leaves.length ≤ big
def Log.sz (a : Log) : Nat := szS State.sz a.list
def Log.ok (a : Log) : Prop := okS State.ok a.list
def Msg.sz (a : Msg) : Nat := a.tree.sz + a.vec.length + a.leaves.length + a.part.sz + a.marks.length
def Msg.ok (a : Msg) : Prop := a.tree.ok ∧ a.vec.length ≤ big ∧ a.leaves.length ≤ big ∧ a.part.ok ∧ a.marks.length ≤ big
end Go.Proofs.YtffigokicddekaaGreat.Abs
/- What an object holds, said in other words. No condition. -/
set_option linter.unusedVariables false
set_option linter.unusedSimpArgs false
namespace Go.Proofs.YtffigokicddekaaGreat.Abs
open Go

/-- row by row, cell by cell, no more is said -/
def ObLe (x y : Ob) : Prop := x.s = y.s ∧ ∀ (e : Nat) l', y.es[e]? = some l' → ∃ l, x.es[e]? = some l ∧ l.length = l'.length ∧ ∀ (j : Nat) u v, l[j]? = some u → l'[j]? = some v → VLe u v

theorem Gh.obj {σ : Store} {o : Nat} {ob ob' : Ob} (ho : σ[o]? = some (.live ob)) (hle : ObLe ob ob') : Gh σ (σ.set o (.live ob')) VLe := by
  intro β F w hr
  refine ⟨F, ⟨⟨?_, ?_, ?_, hr.bF⟩, Ids.le_refl _, fun _ h => h, .refl _ _, fun _ _ _ => rfl, fun _ h => .inl h, fun o b h => .inr ⟨o, h⟩⟩, fun x y val h hv => h _ _ _ _ hv⟩
  · intro o' ob1 h
    by_cases e : o = o'
    · subst e
      rw [get_set_same ho] at h
      cases h
      obtain ⟨b, c, elem, fr, hb, hh, hfr, hFb, hL⟩ := hr.live o ob ho
      refine ⟨b, c, elem, fr, hb, hh, hfr, hFb, fun e l' he => ?_⟩
      obtain ⟨l, h1, h2, h3⟩ := hle.2 e l' he
      obtain ⟨g1, g2, g3⟩ := hL e l h1
      rw [hle.1] at g1 g2 g3
      refine ⟨by omega, g2, fun j v hv => ?_⟩
      have hj : j < l.length := by rw [h2]; exact (List.getElem?_eq_some_iff.1 hv).1
      obtain ⟨k1, k2⟩ := g3 j l[j] (List.getElem?_eq_getElem hj)
      exact ⟨h3 j l[j] v (List.getElem?_eq_getElem hj) hv _ _ _ _ k1, k2⟩
    · rw [get_set_ne e] at h
      exact hr.live o' ob1 h
  · intro o1 o2 a1 a2 h1 h2
    have key : ∀ (q : Nat) a, (σ.set o (.live ob'))[q]? = some (.live a) → ∃ a', σ[q]? = some (.live a') := by
      intro q a h
      by_cases e : o = q
      · subst e; exact ⟨ob, ho⟩
      · rw [get_set_ne e] at h; exact ⟨a, h⟩
    obtain ⟨b1, g1⟩ := key o1 a1 h1
    obtain ⟨b2, g2⟩ := key o2 a2 h2
    exact hr.inj o1 o2 b1 b2 g1 g2
  · intro o' h
    by_cases e : o = o'
    · subst e; rw [get_set_same ho] at h; rcases h with h | h <;> cases h
    · rw [get_set_ne e] at h; exact hr.free o' h

theorem awp_obj {X : Cx} {Q : Exit → List V → Store → Prop} {L : List V} {σ : Store} {ac : AC} {o : Nat} {ob : Ob} (ob' : Ob) (ho : σ[o]? = some (.live ob)) (hle : ObLe ob ob') (h : AWP X ac Q L (σ.set o (.live ob'))) : AWP X ac Q L σ :=
  awp_ghost (Gh.wk (Gh.obj ho hle) rfl fun j x y hx hy => by rw [hx] at hy; cases hy; exact .refl x) h

theorem ObLe.rep {s n : Nat} {l l' : List V} (hl : l.length = l'.length) (h : ∀ (j : Nat) u v, l[j]? = some u → l'[j]? = some v → VLe u v) : ObLe ⟨s, List.replicate n l⟩ ⟨s, List.replicate n l'⟩ := by
  refine ⟨rfl, fun e r he => ?_⟩
  simp only [List.getElem?_replicate] at he ⊢
  split at he
  · rename_i hlt
    cases he
    exact ⟨l, by rw [if_pos hlt], hl, h⟩
  · cases he

/-! a store that has grown -/
@[go_sem] theorem app_get (σ τ : Store) : (σ ++ τ)[σ.length]? = τ[0]? := by
  rw [List.getElem?_append_right (Nat.le_refl _), Nat.sub_self]
@[go_sem] theorem app_getk (σ τ : Store) (k : Nat) : (σ ++ τ)[σ.length + k]? = τ[k]? := by
  rw [List.getElem?_append_right (Nat.le_add_right _ _), Nat.add_sub_cancel_left]
@[go_sem] theorem app_set (σ τ : Store) (x : Slot) : (σ ++ τ).set σ.length x = σ ++ τ.set 0 x := by
  rw [List.set_append_right _ _ (Nat.le_refl _), Nat.sub_self]
@[go_sem] theorem app_setk (σ τ : Store) (k : Nat) (x : Slot) : (σ ++ τ).set (σ.length + k) x = σ ++ τ.set k x := by
  rw [List.set_append_right _ _ (Nat.le_add_right _ _), Nat.add_sub_cancel_left]

end Go.Proofs.YtffigokicddekaaGreat.Abs
/- Rules with an assertion in the middle. No condition. -/
set_option linter.unusedVariables false
set_option linter.unusedSimpArgs false
namespace Go.Proofs.YtffigokicddekaaGreat.Abs
open Go

theorem runL_mono {P : Program} {b : Nat} {Q Q' : Env → Store → Prop} (hq : ∀ a σ, Q a σ → Q' a σ) : ∀ {rs : List AR} {a : Env} {σ : Store}, runL P b rs a σ Q → runL P b rs a σ Q'
  | [], a, σ, h => hq a σ h
  | r :: rs, a, σ, ⟨a', σ', h1, h2⟩ => ⟨a', σ', h1, runL_mono hq h2⟩

section
variable {X : Cx} {Q : Exit → List V → Store → Prop} {L : List V} {σ : Store}
theorem awp_seqK (K : List V → Store → Prop) {x y : AC} (h : AWP X x (thn K Q) L σ) (k : ∀ L σ, K L σ → AWP X y Q L σ) : AWP X (.seq x y) Q L σ :=
  awp_seq (awp_mono h fun e L σ hq => by cases e <;> first | exact k _ _ hq | exact hq)
theorem awp_K (K : List V → Store → Prop) {x : AC} (h : AWP X x (thn K Q) L σ) (k : ∀ L σ, K L σ → Q .normal L σ) : AWP X x Q L σ :=
  awp_mono h fun e L σ hq => by cases e <;> first | exact k _ _ hq | exact hq
theorem awp_srK (K : List V → Store → Prop) {m : Nat} {rs : List AR} {y : AC} (h : runL X.P σ.length rs (look X.vs L) (σ ++ List.replicate m .free) fun a σ' => K (X.vs.map a) σ') (k : ∀ L σ, K L σ → AWP X y Q L σ) : AWP X (.seq (.reg m rs) y) Q L σ :=
  awp_sr (runL_mono (fun _ _ h => k _ _ h) h)
theorem awp_sr2K (K : List V → Store → Prop) {m : Nat} {rs : List AR} {y z : AC} (h : runL X.P σ.length rs (look X.vs L) (σ ++ List.replicate m .free) fun a σ' => K (X.vs.map a) σ') (k : ∀ L σ, K L σ → AWP X y (thn (AWP X z Q) Q) L σ) : AWP X (.seq (.seq (.reg m rs) y) z) Q L σ :=
  awp_sr2 (runL_mono (fun _ _ h => k _ _ h) h)
theorem awp_regK (K : List V → Store → Prop) {m : Nat} {rs : List AR} (h : runL X.P σ.length rs (look X.vs L) (σ ++ List.replicate m .free) fun a σ' => K (X.vs.map a) σ') (k : ∀ L σ, K L σ → Q .normal L σ) : AWP X (.reg m rs) Q L σ :=
  awp_reg (runL_mono (fun _ _ h => k _ _ h) h)
theorem awp_sdK (K : List V → Store → Prop) (hm : X.P.follows .mixedOrders = true) (hD : X.D = drawD) {m : Nat} {rs : List AR} {y : AC} (hl : (rs.all fun r => r.lab == 0) = true) (h : runL X.P σ.length rs (look X.vs L) (σ ++ List.replicate m .free) fun a σ' => K (X.vs.map a) σ') (k : ∀ L σ, K L σ → AWP X y Q L σ) : AWP X (.seq (.draw m rs) y) Q L σ :=
  awp_sd hm hD hl (runL_mono (fun _ _ h => k _ _ h) h)
theorem awp_sd2K (K : List V → Store → Prop) (hm : X.P.follows .mixedOrders = true) (hD : X.D = drawD) {m : Nat} {rs : List AR} {y z : AC} (hl : (rs.all fun r => r.lab == 0) = true) (h : runL X.P σ.length rs (look X.vs L) (σ ++ List.replicate m .free) fun a σ' => K (X.vs.map a) σ') (k : ∀ L σ, K L σ → AWP X y (thn (AWP X z Q) Q) L σ) : AWP X (.seq (.seq (.draw m rs) y) z) Q L σ :=
  awp_sd2 hm hD hl (runL_mono (fun _ _ h => k _ _ h) h)
end
section
variable {P : Program} {b : Nat} {d : Option Nat} {l : Nat} {rs : List AR} {a : Env} {σ : Store} {Q : Env → Store → Prop}
theorem selB_if {t : Nat} {o : AO} {q : Bool} (hv : a t = .bool q) (h1 : q = true → runL P b (⟨d, none, l, o⟩ :: rs) a σ Q) (h2 : q = false → runL P b rs (putE a d (.tup [])) σ Q) : runL P b (⟨d, some (t, true), l, o⟩ :: rs) a σ Q := by
  cases q
  · rw [run_guard_f o (by rw [hv]; rfl)]; exact h2 rfl
  · rw [run_guard_t o (by rw [hv]; rfl)]; exact h1 rfl
theorem selB_ifn {t : Nat} {o : AO} {q : Bool} (hv : a t = .bool q) (h1 : q = true → runL P b rs (putE a d (.tup [])) σ Q) (h2 : q = false → runL P b (⟨d, none, l, o⟩ :: rs) a σ Q) : runL P b (⟨d, some (t, false), l, o⟩ :: rs) a σ Q := by
  cases q
  · rw [run_guard_t o (by rw [hv]; rfl)]; exact h2 rfl
  · rw [run_guard_f o (by rw [hv]; rfl)]; exact h1 rfl
end
theorem dec_is {p : Prop} [Decidable p] (h : p) : true = decide p := by simp [h]
theorem dec_not {p : Prop} [Decidable p] (h : ¬ p) : false = decide p := by simp [h]
@[go_sem] theorem notb_f (b : Bool) : ((!b) == false) = (b == true) := by cases b <;> rfl
@[go_sem] theorem notb_t (b : Bool) : ((!b) == true) = (b == false) := by cases b <;> rfl
attribute [go_sem] Bool.not_not List.append_assoc
theorem dec_no {p : Prop} [Decidable p] (h : ¬ p) : true = !decide p := by simp [h]
theorem dec_yes {p : Prop} [Decidable p] (h : p) : false = !decide p := by simp [h]
theorem wrap_pred {i : Nat} (h : (i : Int) > 0) : i < 9223372036854775807 → IntKind.wrap .i64 ((i : Int) - 1) = ((i - 1 : Nat) : Int) := by
  intro h2
  rw [wrap_i64] <;> omega
end Go.Proofs.YtffigokicddekaaGreat.Abs
/- Drawn regions reckoned step by step, results frozen, bytes. No condition. -/
set_option linter.unusedVariables false
set_option linter.unusedSimpArgs false
namespace Go.Proofs.YtffigokicddekaaGreat.Abs
open Go

section
variable {P : Program} {b : Nat} {ws : List Nat} {r : AR} {rs : List AR} {a : Env} {σ : Store} {Q : Env → Store → Prop}
theorem runD_nil : runD P b ws [] a σ Q = Q a σ := rfl
theorem runD_cons : runD P b ws (r :: rs) a σ Q = (labOk r.lab b ws ((r.sh b).op.touch a) ∧ runL P b [{ r with lab := 0 }] a σ fun a σ => runD P b ws rs a σ Q) := by
  apply propext
  simp only [runD, runL, AR.sh]
  constructor
  · rintro ⟨h1, a', σ', h2, h3⟩; exact ⟨h1, a', σ', h2, h3⟩
  · rintro ⟨h1, a', σ', h2, h3⟩; exact ⟨h1, a', σ', h2, h3⟩
theorem labOk_0 (t : List Nat) : labOk 0 b ws t = True := by
  apply propext
  simp [labOk]
theorem labOk_1 (t : List Nat) : labOk 1 b ws t = ∀ q ∈ t, q < b := by
  apply propext
  simp [labOk]
theorem labOk_2 (t : List Nat) : labOk 2 b ws t = ∀ q ∈ t, q ∉ ws := by
  apply propext
  simp [labOk]
theorem labOk_3 (t : List Nat) : labOk 3 b ws t = ((∀ q ∈ t, q < b) ∧ ∀ q ∈ t, q ∉ ws) := by
  apply propext
  simp [labOk]
theorem labOk_4 (t : List Nat) : labOk 4 b ws t = ∀ q ∈ t, q ∈ ws := by
  apply propext
  simp [labOk]
theorem labOk_5 (t : List Nat) : labOk 5 b ws t = ((∀ q ∈ t, q < b) ∧ ∀ q ∈ t, q ∈ ws) := by
  apply propext
  simp [labOk]
end
attribute [go_sem] runD_nil runD_cons labOk_0 labOk_1
section
variable {X : Cx} {Q : Exit → List V → Store → Prop} {L : List V} {σ : Store}
theorem awp_dw (ws : List Nat) (hm : X.P.follows .mixedOrders = true) (hD : X.D = drawD) {m : Nat} {rs : List AR} (h : runD X.P σ.length ws rs (look X.vs L) (σ ++ List.replicate m .free) fun a σ' => Q .normal (X.vs.map a) σ') : AWP X (.draw m rs) Q L σ :=
  awp_draw hm hD ws h
theorem awp_sdw (ws : List Nat) (hm : X.P.follows .mixedOrders = true) (hD : X.D = drawD) {m : Nat} {rs : List AR} {y : AC} (h : runD X.P σ.length ws rs (look X.vs L) (σ ++ List.replicate m .free) fun a σ' => AWP X y Q (X.vs.map a) σ') : AWP X (.seq (.draw m rs) y) Q L σ :=
  awp_seq (awp_dw ws hm hD h)
theorem awp_sd2w (ws : List Nat) (hm : X.P.follows .mixedOrders = true) (hD : X.D = drawD) {m : Nat} {rs : List AR} {y z : AC} (h : runD X.P σ.length ws rs (look X.vs L) (σ ++ List.replicate m .free) fun a σ' => AWP X y (thn (AWP X z Q) Q) (X.vs.map a) σ') : AWP X (.seq (.seq (.draw m rs) y) z) Q L σ :=
  awp_seq (awp_seq (awp_dw ws hm hD h))
end

section
variable (o : Nat) (ob : Ob)
@[go_sem] theorem frz_int (k : IntKind) (n : Int) : V.frz o ob (.int k n) = .int k n := rfl
@[go_sem] theorem frz_bool (b : Bool) : V.frz o ob (.bool b) = .bool b := rfl
@[go_sem] theorem frz_str (b : ByteArray) : V.frz o ob (.str b) = .str b := rfl
@[go_sem] theorem frz_fz (s : Nat) (es : List (List V)) : V.frz o ob (.fz s es) = .fz s es := rfl
@[go_sem] theorem frz_nl : V.frz o ob .nl = .nl := rfl
@[go_sem] theorem frz_unk : V.frz o ob .unk = .unk := rfl
@[go_sem] theorem frz_tup0 : V.frz o ob (.tup []) = .tup [] := rfl
@[go_sem] theorem frz_agg (cs : List V) : V.frz o ob (.agg cs) = .agg (V.frzs o ob cs) := rfl
@[go_sem] theorem frzs_nil : V.frzs o ob [] = [] := rfl
@[go_sem] theorem frzs_cons (x : V) (xs : List V) : V.frzs o ob (x :: xs) = x.frz o ob :: V.frzs o ob xs := rfl
@[go_sem] theorem frz_self (s : Nat) (es : List (List V)) (n : Nat) : V.frz o ⟨s, es⟩ (.sl o s 0 n) = if n ≤ es.length then .fz s (es.take n) else .unk := by
  simp [V.frz]
theorem frz_other {p : Nat} (s off n : Nat) (h : p ≠ o) : V.frz o ob (.sl p s off n) = .sl p s off n := by
  simp [V.frz, h]
theorem frz_ptr {p : Nat} (s e c : Nat) (h : p ≠ o) : V.frz o ob (.ptr p s e c) = .ptr p s e c := by
  simp [V.frz, h]
end
/-- a result of one new object, frozen -/
theorem FS.frz {P : Program} {f : FuncId} {xs : List V} {s n : Nat} {es : List (List V)} (h : FS P f [] xs (.sl 0 s 0 n) [⟨s, es⟩]) (hcl : (⟨s, es⟩ : Ob).closed) (hn : n = es.length) : FS P f [] xs (.fz s es) [] := by
  intro β F w args hr hx
  refine (h β F w args hr hx).mono ?_
  rintro e w' ⟨val, β', F', rfl, hv, hA⟩
  obtain ⟨F2, hA2, k⟩ := GhR.freeze (σ := lives [⟨s, es⟩]) (x := .sl 0 s 0 n) (o := 0) (ob := ⟨s, es⟩) rfl hcl β' F' w' hA.rel
  have hv2 := k val hv
  have e1 : (V.sl 0 s 0 n).frz 0 ⟨s, es⟩ = .fz s es := by
    subst hn
    simp [V.frz]
  rw [e1] at hv2
  obtain ⟨β2, hA3, hv3⟩ := fin_after (σi := []) (σo := []) (sel := []) (v := .fz s es) hr hA hA2 hv2
    ⟨rfl, List.nodup_nil, Nat.le_refl _, fun k h => by simp at h, fun k o ob h => by simp at h, rfl, fun k h => by simp [V.ids] at h, fun ob h => by simp at h⟩
  exact ⟨val, β2, F2, rfl, hv3, hA3⟩

section
variable (f : Nat → Nat)
@[go_sem] theorem ren_sl (o s a b : Nat) : V.ren f (.sl o s a b) = .sl (f o) s a b := rfl
@[go_sem] theorem ren_ptr (o s a b : Nat) : V.ren f (.ptr o s a b) = .ptr (f o) s a b := rfl
@[go_sem] theorem ren_int (k : IntKind) (n : Int) : V.ren f (.int k n) = .int k n := rfl
@[go_sem] theorem ren_bool (b : Bool) : V.ren f (.bool b) = .bool b := rfl
@[go_sem] theorem ren_str (b : ByteArray) : V.ren f (.str b) = .str b := rfl
@[go_sem] theorem ren_fz (s : Nat) (es : List (List V)) : V.ren f (.fz s es) = .fz s es := rfl
@[go_sem] theorem ren_nl : V.ren f .nl = .nl := rfl
@[go_sem] theorem ren_agg (cs : List V) : V.ren f (.agg cs) = .agg (V.rens f cs) := rfl
@[go_sem] theorem ren_tup (cs : List V) : V.ren f (.tup cs) = .tup (V.rens f cs) := rfl
@[go_sem] theorem rens_nil : V.rens f [] = [] := rfl
@[go_sem] theorem rens_cons (x : V) (xs : List V) : V.rens f (x :: xs) = x.ren f :: V.rens f xs := rfl
end
/-! a store known by what lies where -/
theorem get_app {τ ts : Store} {r : Nat} {x : Slot} (h : τ[r]? = some x) : (τ ++ ts)[r]? = some x := by
  rw [List.getElem?_append_left (List.getElem?_eq_some_iff.1 h).1]; exact h
theorem set_app {τ ts : Store} {r : Nat} {x y : Slot} (h : τ[r]? = some x) : (τ ++ ts).set r y = τ.set r y ++ ts :=
  List.set_append_left _ _ (List.getElem?_eq_some_iff.1 h).1
@[go_sem] theorem sapp_get (τ ts : Store) (r : Nat) (y : Slot) : (τ.set r y ++ ts)[τ.length]? = ts[0]? := by
  rw [List.getElem?_append_right (by simp), List.length_set, Nat.sub_self]
@[go_sem] theorem sapp_getk (τ ts : Store) (r k : Nat) (y : Slot) : (τ.set r y ++ ts)[τ.length + k]? = ts[k]? := by
  rw [List.getElem?_append_right (by simp), List.length_set, Nat.add_sub_cancel_left]
@[go_sem] theorem sapp_set (τ ts : Store) (r : Nat) (y z : Slot) : (τ.set r y ++ ts).set τ.length z = τ.set r y ++ ts.set 0 z := by
  rw [List.set_append_right _ _ (by simp), List.length_set, Nat.sub_self]
@[go_sem] theorem sapp_setk (τ ts : Store) (r k : Nat) (y z : Slot) : (τ.set r y ++ ts).set (τ.length + k) z = τ.set r y ++ ts.set k z := by
  rw [List.set_append_right _ _ (by simp), List.length_set, Nat.add_sub_cancel_left]
attribute [go_sem] List.length_set
theorem keep_get {τ ts : Store} {q r : Nat} {x y : Slot} (h : τ[q]? = some x) (hne : r ≠ q) : (τ.set r y ++ ts)[q]? = some x :=
  get_app (by rw [get_set_ne hne]; exact h)
theorem get_ne {τ : Store} {q r : Nat} {x y : Slot} (h : τ[q]? = some x) (k : τ[r]? = some y) (hne : x ≠ y) : r ≠ q := by
  intro e; subst e; rw [h] at k; cases k; exact hne rfl
theorem slot_ne {s t : Nat} {a b : List (List V)} (h : s ≠ t) : Slot.live ⟨s, a⟩ ≠ Slot.live ⟨t, b⟩ := by
  intro e; cases e; exact h rfl
theorem get_lt {τ : Store} {q : Nat} {x : Slot} (h : τ[q]? = some x) : q < τ.length := (List.getElem?_eq_some_iff.1 h).1
/-- the store's last slot -/
def Last (τ : Store) (r : Nat) (x : Slot) : Prop := ∃ rest, τ = rest ++ [x] ∧ r = rest.length
theorem Last.mk (rest : Store) (x : Slot) : Last (rest ++ [x]) rest.length x := ⟨rest, rfl, rfl⟩
theorem Last.mk1 (rest : Store) (a x : Slot) : Last (rest ++ [a, x]) (rest.length + 1) x := ⟨rest ++ [a], by simp, by simp⟩
theorem Last.mk2 (rest : Store) (a b x : Slot) : Last (rest ++ [a, b, x]) (rest.length + 2) x := ⟨rest ++ [a, b], by simp, by simp⟩
theorem Last.mk3 (rest : Store) (a b c x : Slot) : Last (rest ++ [a, b, c, x]) (rest.length + 3) x := ⟨rest ++ [a, b, c], by simp, by simp⟩
theorem Last.mk4 (rest : Store) (a b c d x : Slot) : Last (rest ++ [a, b, c, d, x]) (rest.length + 4) x := ⟨rest ++ [a, b, c, d], by simp, by simp⟩

/-- the end: the store's last slot is handed over -/
theorem Ends.ownLast {vs : List Nat} {os : List AO} {e : Exit} {L : List V} {σ : Store} {r s n m : Nat} {es : List (List V)} (he : e = .ret ∨ e = .normal) (hr : resVs os (look vs L) σ = some [.sl r s 0 n]) (hl : Last σ r (.live ⟨s, es⟩)) (hn : n = m) (hcl : (⟨s, es⟩ : Ob).closed) :
    Ends vs os 0 (.sl 0 s 0 m) [⟨s, es⟩] e L σ := by
  obtain ⟨rest, rfl, rfl⟩ := hl
  subst hn
  refine Ends.own1 he hr (o := rest.length) (ob := ⟨s, es⟩) ?_ ?_ (by simp [V.ids]) hcl
  · rw [List.getElem?_append_right (Nat.le_refl _), Nat.sub_self]; rfl
  · simp [packV, V.ren]

theorem Ends.ownAt {vs : List Nat} {os : List AO} {e : Exit} {L : List V} {σ : Store} {r s n m : Nat} {es : List (List V)} (he : e = .ret ∨ e = .normal) (hr : resVs os (look vs L) σ = some [.sl r s 0 n]) (ho : σ[r]? = some (.live ⟨s, es⟩)) (hn : n = m) (hcl : (⟨s, es⟩ : Ob).closed) :
    Ends vs os 0 (.sl 0 s 0 m) [⟨s, es⟩] e L σ := by
  subst hn
  exact Ends.own1 he hr (o := r) (ob := ⟨s, es⟩) ho (by simp [packV, V.ren]) (by simp [V.ids]) hcl

/-! bytes -/
def byteC (b : UInt8) : List V := [.int .u8 (b.toNat : Int)]
@[go_sem] theorem byteC_len (b : UInt8) : (byteC b).length = 1 := rfl
theorem byteC_closed (a : UInt8) : ∀ x ∈ byteC a, x.closed = true := by simp [byteC, V.closed]
theorem byteC_flat (a : UInt8) : ∀ x ∈ byteC a, x.flat = true := by simp [byteC, V.flat]
def u8 (n : Int) : UInt8 := UInt8.ofNat (n % 256).toNat
theorem u8_toNat (n : Int) : (((u8 n).toNat : Nat) : Int) = n % 256 := by
  unfold u8
  have h1 := Int.emod_nonneg n (b := 256) (by omega)
  have h2 := Int.emod_lt_of_pos n (b := 256) (by omega)
  rw [UInt8.toNat_ofNat']
  omega
theorem wrap_u8 (n : Int) : IntKind.wrap .u8 n = ((u8 n).toNat : Int) := by
  rw [u8_toNat]
  simp [IntKind.wrap, IntKind.bits, IntKind.signed]
/-! whole numbers reckoned -/
attribute [go_sem] Int.reduceEq Int.reduceNe Int.reduceLT Int.reduceLE not_false_eq_true not_true_eq_false Nat.reduceEqDiff Nat.add_assoc Nat.reduceAdd Nat.reduceLeDiff Nat.reduceMul Nat.reduceSub Nat.reduceLT
end Go.Proofs.YtffigokicddekaaGreat.Abs
/- Objects frozen within a region, and all of them at a function's end. No condition. -/
set_option linter.unusedVariables false
set_option linter.unusedSimpArgs false
namespace Go.Proofs.YtffigokicddekaaGreat.Abs
open Go

/-- what is known of the temporaries turns, with the store; nothing happens in the world -/
def GhE (a : Env) (σ : Store) (a' : Env) (σ' : Store) : Prop :=
  ∀ β F w, Rel σ β F w → ∃ F', After σ' β β F F' w w ∧ ∀ t val, VR w F β (a t) val → VR w F' β (a' t) val
theorem GhE.refl (a : Env) (σ : Store) : GhE a σ a σ := fun β F w hr => ⟨F, .refl hr, fun _ _ h => h⟩
theorem GhE.freeze {a : Env} {σ : Store} {o : Nat} {ob : Ob} (ho : σ[o]? = some (.live ob)) (hcl : ob.closed) : GhE a σ (fun t => (a t).frz o ob) (σ.set o .dead) := fun β F w hr => by
  obtain ⟨F1, hA, h1⟩ := Gh.freeze ho hcl β F w hr
  exact ⟨F1, hA, fun t val hv => h1 (a t) _ val rfl hv⟩

/-- a region, in which objects may be frozen on the way -/
def runX (P : Program) (b : Nat) : List AR → Env → Store → (Env → Store → Prop) → Prop
  | [], a, σ, Q => Q a σ
  | r :: rs, a, σ, Q => ∃ a0 σ0, GhE a σ a0 σ0 ∧ ∃ a' σ', StepR P { r with op := r.op.sh b } a0 σ0 a' σ' ∧ runX P b rs a' σ' Q

theorem runX_L {P : Program} {b : Nat} {Q : Env → Store → Prop} : ∀ {rs : List AR} {a : Env} {σ : Store}, runL P b rs a σ Q → runX P b rs a σ Q
  | [], a, σ, h => h
  | r :: rs, a, σ, ⟨a', σ', h1, h2⟩ => ⟨a, σ, .refl a σ, a', σ', h1, runX_L h2⟩
theorem runX_split {P : Program} {b : Nat} {Q : Env → Store → Prop} : ∀ (k : Nat) {rs : List AR} {a : Env} {σ : Store}, runL P b (rs.take k) a σ (fun a σ => runX P b (rs.drop k) a σ Q) → runX P b rs a σ Q
  | 0, rs, a, σ, h => by simpa [runL] using h
  | k + 1, [], a, σ, h => by simpa [runL] using h
  | k + 1, r :: rs, a, σ, h => by
    simp only [List.take_succ_cons, List.drop_succ_cons, runL] at h
    obtain ⟨a', σ', h1, h2⟩ := h
    exact ⟨a, σ, .refl a σ, a', σ', h1, runX_split k h2⟩
theorem runX_freeze {P : Program} {b : Nat} {Q : Env → Store → Prop} {r : AR} {rs : List AR} {a : Env} {σ : Store} {o : Nat} {ob : Ob} (ho : σ[o]? = some (.live ob)) (hcl : ob.closed) (h : runL P b (r :: rs) (fun t => (a t).frz o ob) (σ.set o .dead) Q) : runX P b (r :: rs) a σ Q := by
  obtain ⟨a', σ', h1, h2⟩ := h
  exact ⟨_, _, .freeze ho hcl, a', σ', h1, runX_L h2⟩

section
variable {X : Cx} {Q : Exit → List V → Store → Prop} {L : List V} {σ : Store}
theorem awp_regX {m : Nat} {rs : List AR} (h : runX X.P σ.length rs (look X.vs L) (σ ++ List.replicate m .free) fun a σ' => Q .normal (X.vs.map a) σ') : AWP X (.reg m rs) Q L σ := by
  intro c hc β F w act hr he hn
  cases c <;> simp only [compC, reduceCtorEq] at hc
  case region id ops d =>
    split at hc
    · rename_i rs' m' hops
      split at hc
      · split at hc <;> cases hc
      · rename_i hd
        cases hc
        have hd' : d = false := by simpa using hd
        subst hd'
        obtain ⟨hlen, hget⟩ := compOps_get hops
        refine wp_region ?_
        have hr1 := rel_free hr m
        have key : ∀ (n : Nat) (rs1 : List AR) (a : Env) (σ1 : Store) (act1 : Act) (w1 : World) (i : Nat), rs.drop i = rs1 → i + n = ops.size → runX X.P σ.length rs1 a σ1 (fun a σ' => Q .normal (X.vs.map a) σ') →
            Goes σ1 β F w a act act1 w1 → wpOps X.P ops (fun e act' w' => ∃ L' σ', Q e L' σ' ∧ Goes σ' β F w (look X.vs L') act act' w') ((List.range n).map (i + ·)) act1 w1 := by
          intro n
          induction n with
          | zero =>
            intro rs1 a σ1 act1 w1 i hdr hi hrun hg
            have : rs1 = [] := by rw [← hdr]; apply List.drop_eq_nil_of_le; simp at hlen; omega
            subst this
            simp only [List.range_zero, List.map_nil, wpOps]
            refine ⟨_, σ1, hrun, ?_⟩
            obtain ⟨β1, F1, hA, he1⟩ := hg.ex
            refine ⟨⟨β1, F1, hA, fun t => ?_⟩, hg.size, hg.defers⟩
            have : ∀ vs : List Nat, look vs (vs.map a) t = a t ∨ look vs (vs.map a) t = .unk := by
              intro vs
              induction vs with
              | nil => exact .inr rfl
              | cons v vs ih =>
                simp only [List.map_cons, look]
                split
                · rename_i e; subst e; exact .inl rfl
                · exact ih
            rcases this X.vs with h1 | h1
            · rw [h1]; exact he1 t
            · rw [h1]; exact .unk _ _
          | succ n ih =>
            intro rs1 a σ1 act1 w1 i hdr hi hrun hg
            have hlt : i < ops.size := by omega
            have hlt' : i < rs.length := by simp at hlen; omega
            have hcons : rs1 = rs[i] :: rs.drop (i + 1) := by rw [← hdr]; exact List.drop_eq_getElem_cons hlt'
            subst hcons
            obtain ⟨a0, σ0, hgh, a2, σ2, hst, hrun2⟩ := hrun
            rw [List.range_succ_eq_map, List.map_cons, List.map_map]
            have e1 : (i + 0) = i := rfl
            rw [e1, wpOps_cons]
            obtain ⟨id', hcar⟩ := hget i ops[i] rs[i] (by simp [hlt]) (List.getElem?_eq_getElem hlt')
            obtain ⟨β1, F1, hA, he1⟩ := hg.ex
            obtain ⟨F0, hA0, hv0⟩ := hgh β1 F1 w1 hA.rel
            have he0 : EnvR w1 F0 β1 a0 act1 := fun t => hv0 t _ (he1 t)
            refine opr_wp hA0.rel he0 (hg.size.trans hn) (by simp [hlt]) hcar hst ?_
            intro act2 w2 hg2
            have := ih _ a2 σ2 act2 w2 (i + 1) rfl (by omega) hrun2 (Goes.trans (hA.trans hA0) hg.size hg.defers hg2)
            have e2 : (List.range n).map ((fun x => i + x) ∘ Nat.succ) = (List.range n).map (i + 1 + ·) := by
              apply List.map_congr_left; intro x _; simp; omega
            rw [e2]; exact this
        have := key ops.size rs (look X.vs L) (σ ++ List.replicate m .free) act w 0 rfl (by omega) h ⟨⟨β, F, ⟨hr1, Ids.le_refl _, fun _ h => h, Grow.refl _ _, fun _ _ _ => rfl, fun _ h => .inl h, fun o b h => .inr ⟨o, h⟩⟩, he⟩, rfl, rfl⟩
        simpa using this
    · cases hc
  all_goals
    repeat' (split at hc)
    all_goals cases hc
theorem awp_srX {m : Nat} {rs : List AR} {y : AC} (h : runX X.P σ.length rs (look X.vs L) (σ ++ List.replicate m .free) fun a σ' => AWP X y Q (X.vs.map a) σ') : AWP X (.seq (.reg m rs) y) Q L σ :=
  awp_seq (awp_regX h)
theorem awp_sr2X {m : Nat} {rs : List AR} {y z : AC} (h : runX X.P σ.length rs (look X.vs L) (σ ++ List.replicate m .free) fun a σ' => AWP X y (thn (AWP X z Q) Q) (X.vs.map a) σ') : AWP X (.seq (.seq (.reg m rs) y) z) Q L σ :=
  awp_seq (awp_seq (awp_regX h))
end

/-- every object of the store, frozen -/
inductive Frozen (σ : Store) : V → V → Prop where
  | same (x : V) : x.closed = true → Frozen σ x x
  | nl (s : Nat) : Frozen σ .nl (.fz s [])
  | sl (o s n : Nat) (es : List (List V)) : σ[o]? = some (.live ⟨s, es⟩) → n = es.length → (⟨s, es⟩ : Ob).closed → Frozen σ (.sl o s 0 n) (.fz s es)
  | agg (cs ds : List V) : cs.length = ds.length → (∀ (j : Nat) x y, cs[j]? = some x → ds[j]? = some y → Frozen σ x y) → Frozen σ (.agg cs) (.agg ds)
  | tup (cs ds : List V) : cs.length = ds.length → (∀ (j : Nat) x y, cs[j]? = some x → ds[j]? = some y → Frozen σ x y) → Frozen σ (.tup cs) (.tup ds)
theorem Frozen.nil {σ : Store} : ∀ (j : Nat) x y, ([] : List V)[j]? = some x → ([] : List V)[j]? = some y → Frozen σ x y := fun j x y h => by simp at h
theorem Frozen.cons {σ : Store} {c d : V} {cs ds : List V} (h : Frozen σ c d) (k : ∀ (j : Nat) x y, cs[j]? = some x → ds[j]? = some y → Frozen σ x y) : ∀ (j : Nat) x y, (c :: cs)[j]? = some x → (d :: ds)[j]? = some y → Frozen σ x y := fun j x y hx hy => by
  cases j with
  | zero => simp at hx hy; subst hx; subst hy; exact h
  | succ j => exact k j x y (by simpa using hx) (by simpa using hy)

def Slot.kill : Slot → Slot
  | .free => .free
  | _ => .dead

theorem GhR.all {σ : Store} {x y : V} (h : Frozen σ x y) : GhR σ x (σ.map Slot.kill) y := by
  intro β F w hr
  obtain ⟨F1, hF1⟩ : ∃ F1 : Nat → Prop, F1 = fun q => F q ∨ ∃ o ob, σ[o]? = some (.live ob) ∧ β o = some q := ⟨_, rfl⟩
  have hsub : ∀ b, F b → F1 b := fun b hb => by rw [hF1]; exact .inl hb
  have nolive : ∀ (o : Nat) ob, (σ.map Slot.kill)[o]? ≠ some (.live ob) := by
    intro o ob hh
    simp only [List.getElem?_map, Option.map_eq_some_iff] at hh
    obtain ⟨s, _, hs⟩ := hh
    cases s <;> cases hs
  refine ⟨F1, ⟨⟨fun o ob h => absurd h (nolive o ob), fun o o' a a' h => absurd h (nolive o a), ?_, ?_⟩, Ids.le_refl _, hsub, .refl _ _, fun _ _ _ => rfl, ?_, fun o b h => .inr ⟨o, h⟩⟩, ?_⟩
  · intro o ho
    apply hr.free o
    simp only [List.getElem?_map] at ho
    cases hs : σ[o]? with
    | none => exact .inr rfl
    | some s =>
      rw [hs] at ho
      cases s with
      | free => exact .inl rfl
      | dead => rcases ho with ho | ho <;> cases ho
      | live ob => rcases ho with ho | ho <;> cases ho
  · intro b hb
    rw [hF1] at hb
    rcases hb with hb | ⟨o, ob, ho, hb⟩
    · exact hr.bF b hb
    · obtain ⟨b', c, elem, fr, hb', hh, _⟩ := hr.live o ob ho
      rw [hb] at hb'; cases hb'
      exact (Array.getElem?_eq_some_iff.1 hh).1
  · intro b hb
    rw [hF1] at hb
    rcases hb with hb | ⟨o, ob, ho, hb⟩
    · exact .inl hb
    · exact .inr (.inr ⟨o, hb⟩)
  · induction h with
    | same x hc => exact fun val hv => hv.mono (Grow.refl F w) hsub β (Ids.le_refl _)
    | nl s => intro val hv; cases hv; exact .fz0 _ _ _ _
    | sl o s n es ho hn hcl =>
      intro val hv
      subst hn
      exact sl_view hr (rows_full ho rfl) hcl hsub (fun b ob h1 h2 => by rw [hF1]; exact .inr ⟨o, ob, h1, h2⟩) hv β
    | agg cs ds hl hh ih =>
      intro val hv
      obtain ⟨vs, rfl, hvs⟩ := agg_inv hv
      refine agg_mk ⟨by rw [← hl]; exact hvs.1, fun j y hy => ?_⟩
      have hj : j < cs.length := by rw [hl]; exact (List.getElem?_eq_some_iff.1 hy).1
      exact ih j cs[j] y (List.getElem?_eq_getElem hj) hy _ (hvs.2 j cs[j] (List.getElem?_eq_getElem hj))
    | tup cs ds hl hh ih =>
      intro val hv
      obtain ⟨vs, rfl, hvs⟩ := tup_inv hv
      refine tup_mk ⟨by rw [← hl]; exact hvs.1, fun j y hy => ?_⟩
      have hj : j < cs.length := by rw [hl]; exact (List.getElem?_eq_some_iff.1 hy).1
      exact ih j cs[j] y (List.getElem?_eq_getElem hj) hy _ (hvs.2 j cs[j] (List.getElem?_eq_getElem hj))

/-- the end of a function: whatever objects the result names are handed over frozen -/
theorem Ends.all {vs : List Nat} {os : List AO} {v : V} {e : Exit} {L : List V} {σ : Store} (he : e = .ret ∨ e = .normal) {rs : List V} (hr : resVs os (look vs L) σ = some rs) (hf : Frozen σ (packV rs) v) (hv : v.closed = true) : Ends vs os 0 v [] e L σ :=
  ⟨he, rs, v, _, [], hr, .all hf, ⟨rfl, List.nodup_nil, Nat.le_refl _, fun k h => by omega, fun k o ob h => by simp at h, (ren_closed _ v hv).symm, fun k hk => by rw [closed_ids v hv] at hk; simp at hk, fun ob h => by simp at h⟩⟩

theorem keep_set {τ : Store} {q r : Nat} {x y : Slot} (h : τ[q]? = some x) (hne : r ≠ q) : (τ.set r y)[q]? = some x := by rw [get_set_ne hne]; exact h
theorem set_get {τ : Store} {r : Nat} {x y : Slot} (h : τ[r]? = some x) (ts : Store) : (τ.set r y ++ ts)[r]? = some y := get_app (get_set_same h)
theorem set2_get {τ : Store} {o r : Nat} {x y d : Slot} (h : τ[r]? = some x) (hne : o ≠ r) (ts : Store) : ((τ.set o d).set r y ++ ts)[r]? = some y := get_app (get_set_same (keep_set h hne))
theorem keep2_get {τ ts : Store} {q r o : Nat} {x y d : Slot} (h : τ[q]? = some x) (h1 : o ≠ q) (h2 : r ≠ q) : ((τ.set o d).set r y ++ ts)[q]? = some x := get_app (by rw [get_set_ne h2, get_set_ne h1]; exact h)
@[go_sem] theorem sapp2_getk (τ ts : Store) (o r k : Nat) (d y : Slot) : ((τ.set o d).set r y ++ ts)[τ.length + k]? = ts[k]? := by
  rw [List.getElem?_append_right (by simp), List.length_set, List.length_set, Nat.add_sub_cancel_left]
/-- a cell that holds the rows es: nil, or a slice of an object of our own -/
def Own (σ : Store) (s : Nat) (c : V) (es : List (List V)) : Prop := (c = .nl ∧ es = []) ∨ ∃ o n, c = .sl o s 0 n ∧ n = es.length ∧ σ[o]? = some (.live ⟨s, es⟩)
theorem Own.app {τ ts : Store} {s : Nat} {c : V} {es : List (List V)} (h : Own τ s c es) : Own (τ ++ ts) s c es := by
  rcases h with h | ⟨o, n, h1, h2, h3⟩
  · exact .inl h
  · exact .inr ⟨o, n, h1, h2, get_app h3⟩
theorem Own.shape {τ : Store} {s : Nat} {c : V} {es : List (List V)} (h : Own τ s c es) : c = .nl ∨ ∃ o n, c = .sl o s 0 n := by
  rcases h with ⟨h, _⟩ | ⟨o, n, h, _⟩
  · exact .inl h
  · exact .inr ⟨o, n, h⟩
theorem Own.keep {τ ts : Store} {s : Nat} {c : V} {es : List (List V)} {r : Nat} {y : Slot} (h : Own τ s c es) (hr : ∀ o n, c = .sl o s 0 n → r ≠ o) : Own (τ.set r y ++ ts) s c es := by
  rcases h with h | ⟨o, n, h1, h2, h3⟩
  · exact .inl h
  · exact .inr ⟨o, n, h1, h2, keep_get h3 (hr o n h1)⟩
theorem Own.keep2 {τ ts : Store} {s : Nat} {c : V} {es : List (List V)} {r q : Nat} {y d : Slot} (h : Own τ s c es) (hr : ∀ o n, c = .sl o s 0 n → r ≠ o) (hq : ∀ o n, c = .sl o s 0 n → q ≠ o) : Own ((τ.set q d).set r y ++ ts) s c es := by
  rcases h with h | ⟨o, n, h1, h2, h3⟩
  · exact .inl h
  · exact .inr ⟨o, n, h1, h2, keep2_get h3 (hq o n h1) (hr o n h1)⟩
theorem Own.ne {τ : Store} {s t : Nat} {c : V} {es es' : List (List V)} {q : Nat} (h : Own τ s c es) (hq : τ[q]? = some (.live ⟨t, es'⟩)) (hst : t ≠ s) : ∀ o n, c = .sl o s 0 n → q ≠ o := by
  intro o n e
  rcases h with ⟨h, _⟩ | ⟨o', n', h1, _, h3⟩
  · rw [h] at e; cases e
  · rw [h1] at e; cases e
    intro e2; subst e2
    rw [hq] at h3; cases h3; exact hst rfl
/-- the slice's object lies above k -/
def Above (k : Nat) (c : V) : Prop := ∀ o s a n, c = .sl o s a n → k < o
theorem Above.nl (k : Nat) : Above k .nl := fun o s a n e => by cases e
theorem Above.sl {k o s a n : Nat} (h : k < o) : Above k (.sl o s a n) := fun o' s' a' n' e => by cases e; exact h
theorem Own.frozen {σ : Store} {s : Nat} {c : V} {es : List (List V)} (h : Own σ s c es) (hcl : (⟨s, es⟩ : Ob).closed) : Frozen σ c (.fz s es) := by
  rcases h with ⟨rfl, rfl⟩ | ⟨o, n, rfl, hn, ho⟩
  · exact .nl s
  · exact .sl o s n es ho hn hcl
end Go.Proofs.YtffigokicddekaaGreat.Abs
/- The program's values, as Lean's structures, and their cells: nodes and worlds. No condition. -/
set_option linter.unusedVariables false
set_option linter.unusedSimpArgs false
namespace Go.Proofs.YtffigokicddekaaGreat.Abs
open Go
def rowC (r : List Int) : List V := [.fz 1 (rw_ intC r)]
theorem rowC_closed (r : List Int) : ∀ x ∈ rowC r, x.closed = true := by simp [rowC, V.closed]
def rowOk (r : List Int) : Prop := r.length ≤ big
theorem szS_len {α : Type} (f : α → Nat) (xs : List α) : xs.length ≤ szS f xs := by unfold szS; omega
def Tree.zero : Tree := ⟨[], 0⟩
def Log.zero : Log := ⟨0, 0, []⟩
def Msg.zero : Msg := ⟨0, 0, 0, 0, 0, Tree.zero, [], [], State.zero, []⟩
structure Sess where
  peer : Int
  num : Int
  in_ : Bool
  age : Int
deriving DecidableEq
def Sess.c (a : Sess) : List V := [.int .i64 a.peer, .int .i64 a.num, .bool a.in_, .int .i64 a.age]
theorem Sess.c_closed (a : Sess) : ∀ x ∈ a.c, x.closed = true := by simp [Sess.c, V.closed]
def Sess.zero : Sess := ⟨(0 : Int), (0 : Int), false, (0 : Int)⟩
structure Rise where
  inc : Int
  beat : Int
  tick : Int
deriving DecidableEq
def Rise.c (a : Rise) : List V := [.int .i64 a.inc, .int .i64 a.beat, .int .i64 a.tick]
theorem Rise.c_closed (a : Rise) : ∀ x ∈ a.c, x.closed = true := by simp [Rise.c, V.closed]
def Rise.zero : Rise := ⟨(0 : Int), (0 : Int), (0 : Int)⟩
structure Node where
  id : Int
  n : Int
  state : State
  tree : Tree
  log : Log
  got : List Int
  acked : List Int
  seen : List (List Int)
  num : Int
  slots : Int
  sess : List Sess
  wait : Int
  limit : Int
  clock : Int
  rises : List Rise
deriving DecidableEq
def Node.c (a : Node) : List V := [.int .i64 a.id, .int .i64 a.n, .fz 6 (rw_ Item.c a.state.items), .fz 2 (rw_ Floor.c a.state.floors), .fz 1 (rw_ intC a.tree.leaves), .int .i64 a.tree.root, .int .i64 a.log.cap, .int .i64 a.log.from_, .fz 2 (rw_ State.c a.log.list), .fz 1 (rw_ intC a.got), .fz 1 (rw_ intC a.acked), .fz 1 (rw_ rowC a.seen), .int .i64 a.num, .int .i64 a.slots, .fz 4 (rw_ Sess.c a.sess), .int .i64 a.wait, .int .i64 a.limit, .int .i64 a.clock, .fz 3 (rw_ Rise.c a.rises)]
theorem Node.c_closed (a : Node) : ∀ x ∈ a.c, x.closed = true := by simp [Node.c, V.closed]
def Node.zero : Node := ⟨(0 : Int), (0 : Int), State.zero, Tree.zero, Log.zero, [], [], [], (0 : Int), (0 : Int), [], (0 : Int), (0 : Int), (0 : Int), []⟩
def Node.sz (a : Node) : Nat := a.state.sz + a.tree.sz + a.log.sz + a.got.length + a.acked.length + szS List.length a.seen + a.sess.length + a.rises.length
def Node.ok (a : Node) : Prop := a.state.ok ∧ a.tree.ok ∧ a.log.ok ∧ a.got.length ≤ big ∧ a.acked.length ≤ big ∧ okS rowOk a.seen ∧ a.sess.length ≤ big ∧ a.rises.length ≤ big
structure Pack where
  to : Int
  bytes : List UInt8
  spoilt : Bool
deriving DecidableEq
def Pack.c (a : Pack) : List V := [.int .i64 a.to, .fz 1 (rw_ byteC a.bytes), .bool a.spoilt]
theorem Pack.c_closed (a : Pack) : ∀ x ∈ a.c, x.closed = true := by simp [Pack.c, V.closed]
def Pack.zero : Pack := ⟨(0 : Int), [], false⟩
def Pack.sz (a : Pack) : Nat := a.bytes.length
def Pack.ok (a : Pack) : Prop := a.bytes.length ≤ big
structure Said where
  node : Int
  part : State
deriving DecidableEq
def Said.c (a : Said) : List V := [.int .i64 a.node, .fz 6 (rw_ Item.c a.part.items), .fz 2 (rw_ Floor.c a.part.floors)]
theorem Said.c_closed (a : Said) : ∀ x ∈ a.c, x.closed = true := by simp [Said.c, V.closed]
def Said.zero : Said := ⟨(0 : Int), State.zero⟩
def Said.sz (a : Said) : Nat := a.part.sz
def Said.ok (a : Said) : Prop := a.part.ok
structure World where
  nodes : List Node
  net : List Pack
  said : List Said
deriving DecidableEq
def World.c (a : World) : List V := [.fz 19 (rw_ Node.c a.nodes), .fz 3 (rw_ Pack.c a.net), .fz 3 (rw_ Said.c a.said)]
theorem World.c_closed (a : World) : ∀ x ∈ a.c, x.closed = true := by simp [World.c, V.closed]
def World.zero : World := ⟨[], [], []⟩
def World.sz (a : World) : Nat := szS Node.sz a.nodes + szS Pack.sz a.net + szS Said.sz a.said
def World.ok (a : World) : Prop := okS Node.ok a.nodes ∧ okS Pack.ok a.net ∧ okS Said.ok a.said
structure Deed where
  kind : Int
  da : Int
  db : Int
  dc : Int
  text : ByteArray
deriving DecidableEq
def Deed.c (a : Deed) : List V := [.int .i64 a.kind, .int .i64 a.da, .int .i64 a.db, .int .i64 a.dc, .str a.text]
theorem Deed.c_closed (a : Deed) : ∀ x ∈ a.c, x.closed = true := by simp [Deed.c, V.closed]
def Deed.zero : Deed := ⟨(0 : Int), (0 : Int), (0 : Int), (0 : Int), ⟨⟨[]⟩⟩⟩
def Deed.sz (a : Deed) : Nat := a.text.size
def Deed.ok (a : Deed) : Prop := a.text.size ≤ big
end Go.Proofs.YtffigokicddekaaGreat.Abs
/- The program's orders. No condition. -/
set_option linter.unusedVariables false
set_option linter.unusedSimpArgs false
namespace Go.Proofs.YtffigokicddekaaGreat.Abs
open Go Go.Proofs
theorem mixed : Tryz.prog.follows .mixedOrders = true := by kernel_rfl
end Go.Proofs.YtffigokicddekaaGreat.Abs
/- The laws' arguments, opened: what their types say of them. No condition. -/
set_option linter.unusedVariables false
set_option linter.unusedSimpArgs false
set_option maxRecDepth 10000
namespace Go.Proofs.YtffigokicddekaaGreat.Abs
open Go Go.Proofs
theorem reach_big : reachBytes ≤ big := of_decide_eq_true (by kernel_rfl)
theorem slice_of {α : Type} {c : α → List V} {ok : α → Prop} {P : Program} {t e : TypeId} {s : Nat} {ys : List V} (hu : P.underlying t = some (.slice e)) (one : ∀ l, HasT P e l → ∃ a, l = c a ∧ ok a) (hc : P.cellsOf e = s) (hb : Nat.ble 1 (P.bytesOf e) = true) (h : HasT P t ys) :
    ∃ xs, ys = [.fz s (rw_ c xs)] ∧ okS ok xs := by
  obtain ⟨es, rfl, h1, h2⟩ := h.slice_inv hu
  have key : ∀ es : List (List V), (∀ l ∈ es, HasT P e l) → ∃ xs, es = rw_ c xs ∧ ∀ a ∈ xs, ok a := by
    intro es
    induction es with
    | nil => exact fun _ => ⟨[], rfl, fun a h => by simp at h⟩
    | cons l es ih =>
      intro hh
      obtain ⟨a, rfl, ha⟩ := one l (hh l (by simp))
      obtain ⟨xs, rfl, hx⟩ := ih fun l hl => hh l (by simp [hl])
      exact ⟨a :: xs, rfl, by simpa using ⟨ha, hx⟩⟩
  obtain ⟨xs, rfl, hx⟩ := key es h1
  refine ⟨xs, by rw [hc], ?_, hx⟩
  have hb' := Nat.le_of_ble_eq_true hb
  have h3 : (rw_ c xs).length ≤ (rw_ c xs).length * P.bytesOf e := Nat.le_mul_of_pos_right _ hb'
  have h4 : (rw_ c xs).length = xs.length := by simp [rw_]
  have := reach_big
  omega
theorem Int_of {ys : List V} (h : HasT Tryz.prog 3 ys) : ∃ n, ys = intC n ∧ noOk n := by
  obtain ⟨n, h, _⟩ := h.int_inv Tryz.underlying3
  exact ⟨n, h, trivial⟩
theorem Byte_of {ys : List V} (h : HasT Tryz.prog 5 ys) : ∃ n, ys = byteC n ∧ noOk n := by
  obtain ⟨n, h, hw⟩ := h.int_inv Tryz.underlying5
  have h1 : IntKind.min .u8 = 0 := by decide
  have h2 : IntKind.max .u8 = 255 := by decide
  have hb : 0 ≤ n ∧ n ≤ 255 := by simpa [Lit.wf, h1, h2] using hw
  refine ⟨u8 n, ?_, trivial⟩
  rw [h, byteC, u8_toNat, show n % 256 = n by omega]
theorem Entry_of {ys : List V} (h : HasT Tryz.prog 246 ys) : ∃ a : Entry, ys = a.c ∧ Entry.ok a := by
  have h0 := h.struct_inv Tryz.underlying246
  obtain ⟨y1, z1, e1, a1, h1⟩ := HasTs.cons_inv h0
  obtain ⟨y2, z2, e2, a2, h2⟩ := HasTs.cons_inv h1
  obtain ⟨y3, z3, e3, a3, h3⟩ := HasTs.cons_inv h2
  obtain ⟨y4, z4, e4, a4, h4⟩ := HasTs.cons_inv h3
  obtain ⟨y5, z5, e5, a5, h5⟩ := HasTs.cons_inv h4
  have e0 := HasTs.nil_inv h5
  obtain ⟨v1, w1, -⟩ := a1.int_inv Tryz.underlying3
  obtain ⟨v2, w2, -⟩ := a2.int_inv Tryz.underlying3
  obtain ⟨v3, w3, -⟩ := a3.int_inv Tryz.underlying3
  obtain ⟨v4, w4, -⟩ := a4.int_inv Tryz.underlying3
  obtain ⟨v5, w5, k5⟩ := a5.str_inv Tryz.underlying9
  subst w1 w2 w3 w4 w5
  subst e0 e5 e4 e3 e2 e1
  exact ⟨⟨v1, v2, v3, v4, v5⟩, rfl, (by unfold Entry.ok; exact Nat.le_trans k5 reach_big)⟩
theorem Item_of {ys : List V} (h : HasT Tryz.prog 248 ys) : ∃ a : Item, ys = a.c ∧ Item.ok a := by
  have h0 := h.struct_inv Tryz.underlying248
  obtain ⟨y1, z1, e1, a1, h1⟩ := HasTs.cons_inv h0
  obtain ⟨y2, z2, e2, a2, h2⟩ := HasTs.cons_inv h1
  have e0 := HasTs.nil_inv h2
  obtain ⟨v1, w1, -⟩ := a1.int_inv Tryz.underlying3
  obtain ⟨v2, w2, k2⟩ := Entry_of a2
  subst w1 w2
  subst e0 e2 e1
  exact ⟨⟨v1, v2⟩, rfl, k2⟩
theorem ItemS_of {ys : List V} (h : HasT Tryz.prog 149 ys) : ∃ xs, ys = [.fz 6 (rw_ Item.c xs)] ∧ okS Item.ok xs :=
  slice_of Tryz.underlying149 (fun l hl => Item_of hl) (by kernel_rfl) (by kernel_rfl) h
theorem Floor_of {ys : List V} (h : HasT Tryz.prog 251 ys) : ∃ a : Floor, ys = a.c ∧ noOk a := by
  have h0 := h.struct_inv Tryz.underlying251
  obtain ⟨y1, z1, e1, a1, h1⟩ := HasTs.cons_inv h0
  obtain ⟨y2, z2, e2, a2, h2⟩ := HasTs.cons_inv h1
  have e0 := HasTs.nil_inv h2
  obtain ⟨v1, w1, -⟩ := a1.int_inv Tryz.underlying3
  obtain ⟨v2, w2, -⟩ := a2.int_inv Tryz.underlying3
  subst w1 w2
  subst e0 e2 e1
  exact ⟨⟨v1, v2⟩, rfl, trivial⟩
theorem FloorS_of {ys : List V} (h : HasT Tryz.prog 150 ys) : ∃ xs, ys = [.fz 2 (rw_ Floor.c xs)] ∧ okS noOk xs :=
  slice_of Tryz.underlying150 (fun l hl => Floor_of hl) (by kernel_rfl) (by kernel_rfl) h
theorem State_of {ys : List V} (h : HasT Tryz.prog 152 ys) : ∃ a : State, ys = a.c ∧ State.ok a := by
  have h0 := h.struct_inv Tryz.underlying152
  obtain ⟨y1, z1, e1, a1, h1⟩ := HasTs.cons_inv h0
  obtain ⟨y2, z2, e2, a2, h2⟩ := HasTs.cons_inv h1
  have e0 := HasTs.nil_inv h2
  obtain ⟨v1, w1, k1⟩ := ItemS_of a1
  obtain ⟨v2, w2, k2⟩ := FloorS_of a2
  subst w1 w2
  subst e0 e2 e1
  exact ⟨⟨v1, v2⟩, rfl, ⟨k1, k2.1⟩⟩
theorem IntS_of {ys : List V} (h : HasT Tryz.prog 30 ys) : ∃ xs, ys = [.fz 1 (rw_ intC xs)] ∧ okS noOk xs :=
  slice_of Tryz.underlying30 (fun l hl => Int_of hl) (by kernel_rfl) (by kernel_rfl) h
theorem Tree_of {ys : List V} (h : HasT Tryz.prog 153 ys) : ∃ a : Tree, ys = a.c ∧ Tree.ok a := by
  have h0 := h.struct_inv Tryz.underlying153
  obtain ⟨y1, z1, e1, a1, h1⟩ := HasTs.cons_inv h0
  obtain ⟨y2, z2, e2, a2, h2⟩ := HasTs.cons_inv h1
  have e0 := HasTs.nil_inv h2
  obtain ⟨v1, w1, k1⟩ := IntS_of a1
  obtain ⟨v2, w2, -⟩ := a2.int_inv Tryz.underlying3
  subst w1 w2
  subst e0 e2 e1
  exact ⟨⟨v1, v2⟩, rfl, k1.1⟩
theorem StateS_of {ys : List V} (h : HasT Tryz.prog 154 ys) : ∃ xs, ys = [.fz 2 (rw_ State.c xs)] ∧ okS State.ok xs :=
  slice_of Tryz.underlying154 (fun l hl => State_of hl) (by kernel_rfl) (by kernel_rfl) h
theorem Log_of {ys : List V} (h : HasT Tryz.prog 156 ys) : ∃ a : Log, ys = a.c ∧ Log.ok a := by
  have h0 := h.struct_inv Tryz.underlying156
  obtain ⟨y1, z1, e1, a1, h1⟩ := HasTs.cons_inv h0
  obtain ⟨y2, z2, e2, a2, h2⟩ := HasTs.cons_inv h1
  obtain ⟨y3, z3, e3, a3, h3⟩ := HasTs.cons_inv h2
  have e0 := HasTs.nil_inv h3
  obtain ⟨v1, w1, -⟩ := a1.int_inv Tryz.underlying3
  obtain ⟨v2, w2, -⟩ := a2.int_inv Tryz.underlying3
  obtain ⟨v3, w3, k3⟩ := StateS_of a3
  subst w1 w2 w3
  subst e0 e3 e2 e1
  exact ⟨⟨v1, v2, v3⟩, rfl, k3⟩
theorem IntSS_of {ys : List V} (h : HasT Tryz.prog 36 ys) : ∃ xs, ys = [.fz 1 (rw_ rowC xs)] ∧ okS rowOk xs :=
  slice_of Tryz.underlying36 (fun l hl => by obtain ⟨a, h1, h2⟩ := IntS_of hl; exact ⟨a, h1, h2.1⟩) (by kernel_rfl) (by kernel_rfl) h
theorem Sess_of {ys : List V} (h : HasT Tryz.prog 230 ys) : ∃ a : Sess, ys = a.c ∧ noOk a := by
  have h0 := h.struct_inv Tryz.underlying230
  obtain ⟨y1, z1, e1, a1, h1⟩ := HasTs.cons_inv h0
  obtain ⟨y2, z2, e2, a2, h2⟩ := HasTs.cons_inv h1
  obtain ⟨y3, z3, e3, a3, h3⟩ := HasTs.cons_inv h2
  obtain ⟨y4, z4, e4, a4, h4⟩ := HasTs.cons_inv h3
  have e0 := HasTs.nil_inv h4
  obtain ⟨v1, w1, -⟩ := a1.int_inv Tryz.underlying3
  obtain ⟨v2, w2, -⟩ := a2.int_inv Tryz.underlying3
  obtain ⟨v3, w3⟩ := a3.bool_inv Tryz.underlying4
  obtain ⟨v4, w4, -⟩ := a4.int_inv Tryz.underlying3
  subst w1 w2 w3 w4
  subst e0 e4 e3 e2 e1
  exact ⟨⟨v1, v2, v3, v4⟩, rfl, trivial⟩
theorem SessS_of {ys : List V} (h : HasT Tryz.prog 157 ys) : ∃ xs, ys = [.fz 4 (rw_ Sess.c xs)] ∧ okS noOk xs :=
  slice_of Tryz.underlying157 (fun l hl => Sess_of hl) (by kernel_rfl) (by kernel_rfl) h
theorem Rise_of {ys : List V} (h : HasT Tryz.prog 232 ys) : ∃ a : Rise, ys = a.c ∧ noOk a := by
  have h0 := h.struct_inv Tryz.underlying232
  obtain ⟨y1, z1, e1, a1, h1⟩ := HasTs.cons_inv h0
  obtain ⟨y2, z2, e2, a2, h2⟩ := HasTs.cons_inv h1
  obtain ⟨y3, z3, e3, a3, h3⟩ := HasTs.cons_inv h2
  have e0 := HasTs.nil_inv h3
  obtain ⟨v1, w1, -⟩ := a1.int_inv Tryz.underlying3
  obtain ⟨v2, w2, -⟩ := a2.int_inv Tryz.underlying3
  obtain ⟨v3, w3, -⟩ := a3.int_inv Tryz.underlying3
  subst w1 w2 w3
  subst e0 e3 e2 e1
  exact ⟨⟨v1, v2, v3⟩, rfl, trivial⟩
theorem RiseS_of {ys : List V} (h : HasT Tryz.prog 158 ys) : ∃ xs, ys = [.fz 3 (rw_ Rise.c xs)] ∧ okS noOk xs :=
  slice_of Tryz.underlying158 (fun l hl => Rise_of hl) (by kernel_rfl) (by kernel_rfl) h
theorem Node_of {ys : List V} (h : HasT Tryz.prog 160 ys) : ∃ a : Node, ys = a.c ∧ Node.ok a := by
  have h0 := h.struct_inv Tryz.underlying160
  obtain ⟨y1, z1, e1, a1, h1⟩ := HasTs.cons_inv h0
  obtain ⟨y2, z2, e2, a2, h2⟩ := HasTs.cons_inv h1
  obtain ⟨y3, z3, e3, a3, h3⟩ := HasTs.cons_inv h2
  obtain ⟨y4, z4, e4, a4, h4⟩ := HasTs.cons_inv h3
  obtain ⟨y5, z5, e5, a5, h5⟩ := HasTs.cons_inv h4
  obtain ⟨y6, z6, e6, a6, h6⟩ := HasTs.cons_inv h5
  obtain ⟨y7, z7, e7, a7, h7⟩ := HasTs.cons_inv h6
  obtain ⟨y8, z8, e8, a8, h8⟩ := HasTs.cons_inv h7
  obtain ⟨y9, z9, e9, a9, h9⟩ := HasTs.cons_inv h8
  obtain ⟨y10, z10, e10, a10, h10⟩ := HasTs.cons_inv h9
  obtain ⟨y11, z11, e11, a11, h11⟩ := HasTs.cons_inv h10
  obtain ⟨y12, z12, e12, a12, h12⟩ := HasTs.cons_inv h11
  obtain ⟨y13, z13, e13, a13, h13⟩ := HasTs.cons_inv h12
  obtain ⟨y14, z14, e14, a14, h14⟩ := HasTs.cons_inv h13
  obtain ⟨y15, z15, e15, a15, h15⟩ := HasTs.cons_inv h14
  have e0 := HasTs.nil_inv h15
  obtain ⟨v1, w1, -⟩ := a1.int_inv Tryz.underlying3
  obtain ⟨v2, w2, -⟩ := a2.int_inv Tryz.underlying3
  obtain ⟨v3, w3, k3⟩ := State_of a3
  obtain ⟨v4, w4, k4⟩ := Tree_of a4
  obtain ⟨v5, w5, k5⟩ := Log_of a5
  obtain ⟨v6, w6, k6⟩ := IntS_of a6
  obtain ⟨v7, w7, k7⟩ := IntS_of a7
  obtain ⟨v8, w8, k8⟩ := IntSS_of a8
  obtain ⟨v9, w9, -⟩ := a9.int_inv Tryz.underlying3
  obtain ⟨v10, w10, -⟩ := a10.int_inv Tryz.underlying3
  obtain ⟨v11, w11, k11⟩ := SessS_of a11
  obtain ⟨v12, w12, -⟩ := a12.int_inv Tryz.underlying3
  obtain ⟨v13, w13, -⟩ := a13.int_inv Tryz.underlying3
  obtain ⟨v14, w14, -⟩ := a14.int_inv Tryz.underlying3
  obtain ⟨v15, w15, k15⟩ := RiseS_of a15
  subst w1 w2 w3 w4 w5 w6 w7 w8 w9 w10 w11 w12 w13 w14 w15
  subst e0 e15 e14 e13 e12 e11 e10 e9 e8 e7 e6 e5 e4 e3 e2 e1
  exact ⟨⟨v1, v2, v3, v4, v5, v6, v7, v8, v9, v10, v11, v12, v13, v14, v15⟩, rfl, ⟨k3, k4, k5, k6.1, k7.1, k8, k11.1, k15.1⟩⟩
theorem NodeS_of {ys : List V} (h : HasT Tryz.prog 58 ys) : ∃ xs, ys = [.fz 19 (rw_ Node.c xs)] ∧ okS Node.ok xs :=
  slice_of Tryz.underlying58 (fun l hl => Node_of hl) (by kernel_rfl) (by kernel_rfl) h
theorem ByteS_of {ys : List V} (h : HasT Tryz.prog 22 ys) : ∃ xs, ys = [.fz 1 (rw_ byteC xs)] ∧ okS noOk xs :=
  slice_of Tryz.underlying22 (fun l hl => Byte_of hl) (by kernel_rfl) (by kernel_rfl) h
theorem Pack_of {ys : List V} (h : HasT Tryz.prog 162 ys) : ∃ a : Pack, ys = a.c ∧ Pack.ok a := by
  have h0 := h.struct_inv Tryz.underlying162
  obtain ⟨y1, z1, e1, a1, h1⟩ := HasTs.cons_inv h0
  obtain ⟨y2, z2, e2, a2, h2⟩ := HasTs.cons_inv h1
  obtain ⟨y3, z3, e3, a3, h3⟩ := HasTs.cons_inv h2
  have e0 := HasTs.nil_inv h3
  obtain ⟨v1, w1, -⟩ := a1.int_inv Tryz.underlying3
  obtain ⟨v2, w2, k2⟩ := ByteS_of a2
  obtain ⟨v3, w3⟩ := a3.bool_inv Tryz.underlying4
  subst w1 w2 w3
  subst e0 e3 e2 e1
  exact ⟨⟨v1, v2, v3⟩, rfl, k2.1⟩
theorem PackS_of {ys : List V} (h : HasT Tryz.prog 59 ys) : ∃ xs, ys = [.fz 3 (rw_ Pack.c xs)] ∧ okS Pack.ok xs :=
  slice_of Tryz.underlying59 (fun l hl => Pack_of hl) (by kernel_rfl) (by kernel_rfl) h
theorem Said_of {ys : List V} (h : HasT Tryz.prog 165 ys) : ∃ a : Said, ys = a.c ∧ Said.ok a := by
  have h0 := h.struct_inv Tryz.underlying165
  obtain ⟨y1, z1, e1, a1, h1⟩ := HasTs.cons_inv h0
  obtain ⟨y2, z2, e2, a2, h2⟩ := HasTs.cons_inv h1
  have e0 := HasTs.nil_inv h2
  obtain ⟨v1, w1, -⟩ := a1.int_inv Tryz.underlying3
  obtain ⟨v2, w2, k2⟩ := State_of a2
  subst w1 w2
  subst e0 e2 e1
  exact ⟨⟨v1, v2⟩, rfl, k2⟩
theorem SaidS_of {ys : List V} (h : HasT Tryz.prog 60 ys) : ∃ xs, ys = [.fz 3 (rw_ Said.c xs)] ∧ okS Said.ok xs :=
  slice_of Tryz.underlying60 (fun l hl => Said_of hl) (by kernel_rfl) (by kernel_rfl) h
theorem World_of {ys : List V} (h : HasT Tryz.prog 62 ys) : ∃ a : World, ys = a.c ∧ World.ok a := by
  have h0 := h.struct_inv Tryz.underlying62
  obtain ⟨y1, z1, e1, a1, h1⟩ := HasTs.cons_inv h0
  obtain ⟨y2, z2, e2, a2, h2⟩ := HasTs.cons_inv h1
  obtain ⟨y3, z3, e3, a3, h3⟩ := HasTs.cons_inv h2
  have e0 := HasTs.nil_inv h3
  obtain ⟨v1, w1, k1⟩ := NodeS_of a1
  obtain ⟨v2, w2, k2⟩ := PackS_of a2
  obtain ⟨v3, w3, k3⟩ := SaidS_of a3
  subst w1 w2 w3
  subst e0 e3 e2 e1
  exact ⟨⟨v1, v2, v3⟩, rfl, ⟨k1, k2, k3⟩⟩
end Go.Proofs.YtffigokicddekaaGreat.Abs
/- Rows of whole numbers, as the walks name them. No condition. -/
set_option linter.unusedVariables false
set_option linter.unusedSimpArgs false
namespace Go.Proofs.YtffigokicddekaaGreat.Abs
open Go Go.Proofs
def ints (xs : List Int) : List (List V) := xs.map fun n => [V.int .i64 n]
@[go_sem] theorem ints_len (xs : List Int) : (ints xs).length = xs.length := by simp [ints]
theorem ints_get {xs : List Int} {i : Nat} {x : Int} (h : xs[i]? = some x) : (ints xs)[i]? = some [V.int .i64 x] := by simp [ints, h]
theorem ints_at {xs : List Int} {i : Nat} (h : i < xs.length) : (ints xs)[i]? = some [V.int .i64 xs[i]] := by simp [ints, h]
@[go_sem] theorem ints_take (xs : List Int) (k : Nat) : (ints xs).take k = ints (xs.take k) := by simp [ints, List.map_take]
@[go_sem] theorem ints_drop (xs : List Int) (k : Nat) : (ints xs).drop k = ints (xs.drop k) := by simp [ints, List.map_drop]
@[go_sem] theorem ints_app (xs ys : List Int) : ints xs ++ ints ys = ints (xs ++ ys) := by simp [ints]
theorem ints_set (xs : List Int) (i : Nat) (y : Int) : (ints xs).set i [V.int .i64 y] = ints (xs.set i y) := by simp [ints, List.map_set]
theorem ints_rep (n : Nat) : List.replicate n [V.int .i64 0] = ints (List.replicate n 0) := by simp [ints]
theorem ints_nil : ints [] = [] := rfl
theorem ints_closed (xs : List Int) : (⟨1, ints xs⟩ : Ob).closed := by
  intro l hl x hx
  simp only [ints, List.mem_map] at hl
  obtain ⟨n, _, rfl⟩ := hl
  simp at hx; subst hx; rfl
theorem ints_flat (xs : List Int) : (⟨1, ints xs⟩ : Ob).flat := by
  intro l hl x hx
  simp only [ints, List.mem_map] at hl
  obtain ⟨n, _, rfl⟩ := hl
  simp at hx; subst hx; rfl
end Go.Proofs.YtffigokicddekaaGreat.Abs
