/- Reckoning with regions. No condition. -/
import Derived.Test.YtffigokicddekaaMA19
set_option linter.unusedVariables false
set_option linter.unusedSimpArgs false
namespace Go.Proofs.Ytffigokicddekaa.Abs
open Go

def AO.isCall : AO → Bool
  | .call .. => true
  | _ => false

def andT (P : Program) (b : Nat) (rs : List AR) (d : Option Nat) (a : Env) (Q : Env → Store → Prop) : Option (V × Store) → Prop
  | some (v, σ') => runL P b rs (putE a d v) σ' Q
  | none => False

theorem runL_nil (P : Program) (b : Nat) (a : Env) (σ : Store) (Q : Env → Store → Prop) : runL P b [] a σ Q = Q a σ := rfl

theorem runL_op {P : Program} {b : Nat} {d : Option Nat} {l : Nat} {o : AO} {rs : List AR} {a : Env} {σ : Store} {Q : Env → Store → Prop} (h : o.isCall = false) :
    runL P b (⟨d, none, l, o⟩ :: rs) a σ Q = andT P b rs d a Q (astep (o.sh b) a σ) := by
  apply propext
  have e : ∀ v σ', OpR P (o.sh b) a σ v σ' ↔ astep (o.sh b) a σ = some (v, σ') := by
    intro v σ'
    cases o <;> simp [AO.isCall] at h <;> simp [OpR, AO.sh]
  simp only [runL, StepR, guardOk, e]
  constructor
  · rintro ⟨a', σ', ⟨v, hv, rfl⟩, hr⟩
    rw [hv]; exact hr
  · intro hh
    cases hs : astep (o.sh b) a σ with
    | none => rw [hs] at hh; exact hh.elim
    | some p => rw [hs] at hh; exact ⟨_, p.2, ⟨p.1, rfl, rfl⟩, hh⟩

theorem runL_guard {P : Program} {b : Nat} {d : Option Nat} {l t : Nat} {want : Bool} {o : AO} {rs : List AR} {a : Env} {σ : Store} {Q : Env → Store → Prop} {q : Bool} (h : guardOk (some (t, want)) a = some q) :
    runL P b (⟨d, some (t, want), l, o⟩ :: rs) a σ Q = if q = true then runL P b (⟨d, none, l, o⟩ :: rs) a σ Q else runL P b rs (putE a d (.tup [])) σ Q := by
  apply propext
  cases q
  · simp only [runL, StepR, h, Bool.false_eq_true, if_false]
    constructor
    · rintro ⟨a', σ', ⟨rfl, rfl⟩, hr⟩; exact hr
    · intro hr; exact ⟨_, _, ⟨rfl, rfl⟩, hr⟩
  · simp only [runL, StepR, h, if_true]
    rfl

theorem runL_call {P : Program} {b : Nat} {d : Option Nat} {l : Nat} {wr : Bool} {id own : Nat} {f : FuncId} {args : List Opd} {rs : List AR} {a : Env} {σ : Store} {Q : Env → Store → Prop} {v : V} {σ' : Store}
    (h : CallR P f (b + id) own σ (args.map fun x => x.ev a) v σ' ∧ (wr = false → own = 0 → σ' = σ)) (hr : runL P b rs (putE a d v) σ' Q) : runL P b (⟨d, none, l, .call wr id own f args⟩ :: rs) a σ Q :=
  ⟨_, σ', ⟨v, h, rfl⟩, hr⟩

section
variable {P : Program} {b : Nat} {d : Option Nat} {l : Nat} {rs : List AR} {a : Env} {σ : Store} {Q : Env → Store → Prop}
@[go_sem] theorem run_mov (x : Opd) : runL P b (⟨d, none, l, .mov x⟩ :: rs) a σ Q = andT P b rs d a Q (astep (.mov x) a σ) := runL_op rfl
@[go_sem] theorem run_pick (x y z : Opd) : runL P b (⟨d, none, l, .pick x y z⟩ :: rs) a σ Q = andT P b rs d a Q (astep (.pick x y z) a σ) := runL_op rfl
@[go_sem] theorem run_alloc (id s : Nat) (z : List V) : runL P b (⟨d, none, l, .alloc id s z⟩ :: rs) a σ Q = andT P b rs d a Q (astep (.alloc (b + id) s z) a σ) := runL_op rfl
@[go_sem] theorem run_box (id s : Nat) (x : Opd) : runL P b (⟨d, none, l, .box id s x⟩ :: rs) a σ Q = andT P b rs d a Q (astep (.box (b + id) s x) a σ) := runL_op rfl
@[go_sem] theorem run_build (z : List V) (ps : List (Nat × Nat × Opd)) : runL P b (⟨d, none, l, .build z ps⟩ :: rs) a σ Q = andT P b rs d a Q (astep (.build z ps) a σ) := runL_op rfl
@[go_sem] theorem run_bslice (id s n : Nat) (z : List V) (ps : List (Nat × Opd)) : runL P b (⟨d, none, l, .bslice id s n z ps⟩ :: rs) a σ Q = andT P b rs d a Q (astep (.bslice (b + id) s n z ps) a σ) := runL_op rfl
@[go_sem] theorem run_load (s : Nat) (ag : Bool) (x : Opd) : runL P b (⟨d, none, l, .load s ag x⟩ :: rs) a σ Q = andT P b rs d a Q (astep (.load s ag x) a σ) := runL_op rfl
@[go_sem] theorem run_store (s : Nat) (x y : Opd) : runL P b (⟨d, none, l, .store s x y⟩ :: rs) a σ Q = andT P b rs d a Q (astep (.store s x y) a σ) := runL_op rfl
@[go_sem] theorem run_faddr (k : Nat) (x : Opd) : runL P b (⟨d, none, l, .faddr k x⟩ :: rs) a σ Q = andT P b rs d a Q (astep (.faddr k x) a σ) := runL_op rfl
@[go_sem] theorem run_field (off s : Nat) (ag : Bool) (x : Opd) : runL P b (⟨d, none, l, .field off s ag x⟩ :: rs) a σ Q = andT P b rs d a Q (astep (.field off s ag x) a σ) := runL_op rfl
@[go_sem] theorem run_iaddr (s : Nat) (x y : Opd) : runL P b (⟨d, none, l, .iaddr s x y⟩ :: rs) a σ Q = andT P b rs d a Q (astep (.iaddr s x y) a σ) := runL_op rfl
@[go_sem] theorem run_sindex (x y : Opd) : runL P b (⟨d, none, l, .sindex x y⟩ :: rs) a σ Q = andT P b rs d a Q (astep (.sindex x y) a σ) := runL_op rfl
@[go_sem] theorem run_slice (s : Nat) (x : Opd) (lo hi : Option Opd) : runL P b (⟨d, none, l, .slice s x lo hi⟩ :: rs) a σ Q = andT P b rs d a Q (astep (.slice s x lo hi) a σ) := runL_op rfl
@[go_sem] theorem run_sslice (x : Opd) (lo hi : Option Opd) : runL P b (⟨d, none, l, .sslice x lo hi⟩ :: rs) a σ Q = andT P b rs d a Q (astep (.sslice x lo hi) a σ) := runL_op rfl
@[go_sem] theorem run_bin (op : BinOp) (x y : Opd) : runL P b (⟨d, none, l, .bin op x y⟩ :: rs) a σ Q = andT P b rs d a Q (astep (.bin op x y) a σ) := runL_op rfl
@[go_sem] theorem run_eqs (ks : List Nat) (neg : Bool) (x y : Opd) : runL P b (⟨d, none, l, .eqs ks neg x y⟩ :: rs) a σ Q = andT P b rs d a Q (astep (.eqs ks neg x y) a σ) := runL_op rfl
@[go_sem] theorem run_beq (neg : Bool) (x y : Opd) : runL P b (⟨d, none, l, .beq neg x y⟩ :: rs) a σ Q = andT P b rs d a Q (astep (.beq neg x y) a σ) := runL_op rfl
@[go_sem] theorem run_nilc (x : Opd) : runL P b (⟨d, none, l, .nilc x⟩ :: rs) a σ Q = andT P b rs d a Q (astep (.nilc x) a σ) := runL_op rfl
@[go_sem] theorem run_not (x : Opd) : runL P b (⟨d, none, l, .not x⟩ :: rs) a σ Q = andT P b rs d a Q (astep (.not x) a σ) := runL_op rfl
@[go_sem] theorem run_neg (x : Opd) : runL P b (⟨d, none, l, .neg x⟩ :: rs) a σ Q = andT P b rs d a Q (astep (.neg x) a σ) := runL_op rfl
@[go_sem] theorem run_cint (k : IntKind) (x : Opd) : runL P b (⟨d, none, l, .cint k x⟩ :: rs) a σ Q = andT P b rs d a Q (astep (.cint k x) a σ) := runL_op rfl
@[go_sem] theorem run_s2b (id : Nat) (x : Opd) : runL P b (⟨d, none, l, .s2b id x⟩ :: rs) a σ Q = andT P b rs d a Q (astep (.s2b (b + id) x) a σ) := runL_op rfl
@[go_sem] theorem run_b2s (x : Opd) : runL P b (⟨d, none, l, .b2s x⟩ :: rs) a σ Q = andT P b rs d a Q (astep (.b2s x) a σ) := runL_op rfl
@[go_sem] theorem run_mks (id s bytes : Nat) (z : List V) (x y : Opd) : runL P b (⟨d, none, l, .mks id s bytes z x y⟩ :: rs) a σ Q = andT P b rs d a Q (astep (.mks (b + id) s bytes z x y) a σ) := runL_op rfl
@[go_sem] theorem run_len (x : Opd) : runL P b (⟨d, none, l, .len x⟩ :: rs) a σ Q = andT P b rs d a Q (astep (.len x) a σ) := runL_op rfl
@[go_sem] theorem run_slen (x : Opd) : runL P b (⟨d, none, l, .slen x⟩ :: rs) a σ Q = andT P b rs d a Q (astep (.slen x) a σ) := runL_op rfl
@[go_sem] theorem run_app (id s bytes : Nat) (x y : Opd) : runL P b (⟨d, none, l, .app id s bytes x y⟩ :: rs) a σ Q = andT P b rs d a Q (astep (.app (b + id) s bytes x y) a σ) := runL_op rfl
@[go_sem] theorem run_max (xs : List Opd) : runL P b (⟨d, none, l, .max xs⟩ :: rs) a σ Q = andT P b rs d a Q (astep (.max xs) a σ) := runL_op rfl
@[go_sem] theorem run_min (xs : List Opd) : runL P b (⟨d, none, l, .min xs⟩ :: rs) a σ Q = andT P b rs d a Q (astep (.min xs) a σ) := runL_op rfl
@[go_sem] theorem run_ext (x : Opd) (i : Nat) : runL P b (⟨d, none, l, .ext x i⟩ :: rs) a σ Q = andT P b rs d a Q (astep (.ext x i) a σ) := runL_op rfl
@[go_sem] theorem andT_some (v : V) : andT P b rs d a Q (some (v, σ)) = runL P b rs (putE a d v) σ Q := rfl
@[go_sem] theorem andT_none : andT P b rs d a Q none = False := rfl
@[go_sem] theorem andT_map {α : Type} (f : α → V × Store) (x : α) : andT P b rs d a Q ((some x).map f) = andT P b rs d a Q (some (f x)) := rfl
end
attribute [go_sem] runL_nil astep if_true if_false
@[go_sem] theorem putE_some (a : Env) (d : Nat) (v : V) : putE a (some d) v = upd a d v := rfl
@[go_sem] theorem putE_none (a : Env) (v : V) : putE a none v = a := rfl
@[go_sem] theorem upd_app (a : Env) (t : Nat) (v : V) (n : Nat) : upd a t v n = if n = t then v else a n := rfl
@[go_sem] theorem look_app (v : Nat) (vs : List Nat) (x : V) (xs : List V) (t : Nat) : look (v :: vs) (x :: xs) t = if t = v then x else look vs xs t := rfl
@[go_sem] theorem look_nil (xs : List V) (t : Nat) : look [] xs t = .unk := by cases xs <;> rfl
@[go_sem] theorem ev_t (a : Env) (n : Nat) : (Opd.t n).ev a = a n := rfl
@[go_sem] theorem ev_k (a : Env) (v : V) : (Opd.k v).ev a = v := rfl

mutual
theorem ren_closed (g : Nat → Nat) : ∀ x : V, x.closed = true → x.ren g = x
  | .int _ _, _ => rfl
  | .bool _, _ => rfl
  | .str _, _ => rfl
  | .nilp, _ => rfl
  | .ptr _ _ _ _, h => by simp [V.closed] at h
  | .fp _, _ => rfl
  | .nl, _ => rfl
  | .fz _ _, _ => rfl
  | .sl _ _ _ _, h => by simp [V.closed] at h
  | .agg cs, h => by simp only [V.ren]; rw [rens_closed g cs (by simpa [V.closed] using h)]
  | .tup cs, h => by simp only [V.ren]; rw [rens_closed g cs (by simpa [V.closed] using h)]
  | .unk, _ => rfl
theorem rens_closed (g : Nat → Nat) : ∀ xs : List V, V.closeds xs = true → V.rens g xs = xs
  | [], _ => rfl
  | x :: xs, h => by
    simp only [V.closeds, Bool.and_eq_true] at h
    simp only [V.rens]
    rw [ren_closed g x h.1, rens_closed g xs h.2]
end

theorem putObs_nil (σ : Store) (m : List Nat) (id : Nat) : putObs σ m id [] = σ := rfl

/-- a call that takes and returns values that name no object -/
theorem callR_plain {P : Program} {f : FuncId} {id : Nat} {σ : Store} {xs : List V} {v : V} (h : FS P f [] xs v []) (hx : V.closeds xs = true) (hv : v.closed = true) : CallR P f id 0 σ xs v σ ∧ ∀ wr : Bool, (wr = false → (0 : Nat) = 0 → σ = σ) := by
  refine ⟨⟨[], [], [], xs, v, false, ⟨h, List.nodup_nil, fun o h => by simp at h, rfl, fun k o ob h => by simp at h, ⟨rfl, fun j x y h1 h2 => ?_⟩, Nat.le_refl _, Nat.zero_le _, fun j hj => by omega, fun ob h => by simp at h, fun ob h => by simp at h, fun h => (by cases h), (ren_closed _ v hv).symm, rfl⟩⟩, fun _ _ _ => rfl⟩
  rw [h1] at h2; cases h2
  exact .same false x x (closeds_get hx j x h1) (.refl x)

end Go.Proofs.Ytffigokicddekaa.Abs
