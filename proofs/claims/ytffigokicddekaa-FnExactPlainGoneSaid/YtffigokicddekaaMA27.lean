/- Rules with an assertion in the middle. No condition. -/
import Derived.Test.YtffigokicddekaaMA26
set_option linter.unusedVariables false
set_option linter.unusedSimpArgs false
namespace Go.Proofs.Ytffigokicddekaa.Abs
open Go

theorem runL_mono {P : Program} {b : Nat} {Q Q' : Env → Store → Prop} (hq : ∀ a σ, Q a σ → Q' a σ) : ∀ {rs : List AR} {a : Env} {σ : Store}, runL P b rs a σ Q → runL P b rs a σ Q'
  | [], a, σ, h => hq a σ h
  | r :: rs, a, σ, ⟨a', σ', h1, h2⟩ => ⟨a', σ', h1, runL_mono hq h2⟩

section
variable {X : Cx} {Q : Exit → List V → Store → Prop} {L : List V} {σ : Store}
theorem awp_seqK (K : List V → Store → Prop) {x y : AC} (h : AWP X x (thn K Q) L σ) (k : ∀ L σ, K L σ → AWP X y Q L σ) : AWP X (.seq x y) Q L σ :=
  awp_seq (awp_mono h fun e L σ hq => by cases e <;> first | exact k _ _ hq | exact hq)
theorem awp_K (K : List V → Store → Prop) {x : AC} (h : AWP X x (thn K Q) L σ) (k : ∀ L σ, K L σ → Q .normal L σ) : AWP X x Q L σ :=
  awp_mono h fun e L σ hq => by cases e <;> first | exact k _ _ hq | exact hq
theorem awp_srK (K : List V → Store → Prop) {m : Nat} {rs : List AR} {y : AC} (h : runL X.P σ.length rs (look X.vs L) (σ ++ List.replicate m .free) fun a σ' => K (X.vs.map a) σ') (k : ∀ L σ, K L σ → AWP X y Q L σ) : AWP X (.seq (.reg m rs) y) Q L σ :=
  awp_sr (runL_mono (fun _ _ h => k _ _ h) h)
theorem awp_sr2K (K : List V → Store → Prop) {m : Nat} {rs : List AR} {y z : AC} (h : runL X.P σ.length rs (look X.vs L) (σ ++ List.replicate m .free) fun a σ' => K (X.vs.map a) σ') (k : ∀ L σ, K L σ → AWP X y (thn (AWP X z Q) Q) L σ) : AWP X (.seq (.seq (.reg m rs) y) z) Q L σ :=
  awp_sr2 (runL_mono (fun _ _ h => k _ _ h) h)
theorem awp_regK (K : List V → Store → Prop) {m : Nat} {rs : List AR} (h : runL X.P σ.length rs (look X.vs L) (σ ++ List.replicate m .free) fun a σ' => K (X.vs.map a) σ') (k : ∀ L σ, K L σ → Q .normal L σ) : AWP X (.reg m rs) Q L σ :=
  awp_reg (runL_mono (fun _ _ h => k _ _ h) h)
theorem awp_sdK (K : List V → Store → Prop) (hm : X.P.follows .mixedOrders = true) (hD : X.D = drawD) {m : Nat} {rs : List AR} {y : AC} (hl : (rs.all fun r => r.lab == 0) = true) (h : runL X.P σ.length rs (look X.vs L) (σ ++ List.replicate m .free) fun a σ' => K (X.vs.map a) σ') (k : ∀ L σ, K L σ → AWP X y Q L σ) : AWP X (.seq (.draw m rs) y) Q L σ :=
  awp_sd hm hD hl (runL_mono (fun _ _ h => k _ _ h) h)
theorem awp_sd2K (K : List V → Store → Prop) (hm : X.P.follows .mixedOrders = true) (hD : X.D = drawD) {m : Nat} {rs : List AR} {y z : AC} (hl : (rs.all fun r => r.lab == 0) = true) (h : runL X.P σ.length rs (look X.vs L) (σ ++ List.replicate m .free) fun a σ' => K (X.vs.map a) σ') (k : ∀ L σ, K L σ → AWP X y (thn (AWP X z Q) Q) L σ) : AWP X (.seq (.seq (.draw m rs) y) z) Q L σ :=
  awp_sd2 hm hD hl (runL_mono (fun _ _ h => k _ _ h) h)
end
section
variable {P : Program} {b : Nat} {d : Option Nat} {l : Nat} {rs : List AR} {a : Env} {σ : Store} {Q : Env → Store → Prop}
theorem selB_if {t : Nat} {o : AO} {q : Bool} (hv : a t = .bool q) (h1 : q = true → runL P b (⟨d, none, l, o⟩ :: rs) a σ Q) (h2 : q = false → runL P b rs (putE a d (.tup [])) σ Q) : runL P b (⟨d, some (t, true), l, o⟩ :: rs) a σ Q := by
  cases q
  · rw [run_guard_f o (by rw [hv]; rfl)]; exact h2 rfl
  · rw [run_guard_t o (by rw [hv]; rfl)]; exact h1 rfl
theorem selB_ifn {t : Nat} {o : AO} {q : Bool} (hv : a t = .bool q) (h1 : q = true → runL P b rs (putE a d (.tup [])) σ Q) (h2 : q = false → runL P b (⟨d, none, l, o⟩ :: rs) a σ Q) : runL P b (⟨d, some (t, false), l, o⟩ :: rs) a σ Q := by
  cases q
  · rw [run_guard_t o (by rw [hv]; rfl)]; exact h2 rfl
  · rw [run_guard_f o (by rw [hv]; rfl)]; exact h1 rfl
end
theorem dec_is {p : Prop} [Decidable p] (h : p) : true = decide p := by simp [h]
theorem dec_not {p : Prop} [Decidable p] (h : ¬ p) : false = decide p := by simp [h]
@[go_sem] theorem notb_f (b : Bool) : ((!b) == false) = (b == true) := by cases b <;> rfl
@[go_sem] theorem notb_t (b : Bool) : ((!b) == true) = (b == false) := by cases b <;> rfl
attribute [go_sem] Bool.not_not List.append_assoc
theorem dec_no {p : Prop} [Decidable p] (h : ¬ p) : true = !decide p := by simp [h]
theorem dec_yes {p : Prop} [Decidable p] (h : p) : false = !decide p := by simp [h]
theorem wrap_pred {i : Nat} (h : (i : Int) > 0) : i < 9223372036854775807 → IntKind.wrap .i64 ((i : Int) - 1) = ((i - 1 : Nat) : Int) := by
  intro h2
  rw [wrap_i64] <;> omega
end Go.Proofs.Ytffigokicddekaa.Abs
