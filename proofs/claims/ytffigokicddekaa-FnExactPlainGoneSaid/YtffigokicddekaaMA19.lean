/- A region whose order Go leaves open: any order comes to what the text's order comes to. No condition. -/
import Derived.Test.YtffigokicddekaaMA18
set_option linter.unusedVariables false
set_option linter.unusedSimpArgs false
namespace Go.Proofs.Ytffigokicddekaa.Abs
open Go

theorem view_same {σ τ : Store} {m : List Nat} {b : Bool} {x y : V} (h : View σ m b x y) : (∀ q ∈ x.ids, τ[q]? = σ[q]?) → View τ m b x y := by
  induction h with
  | same b x y hc hle => exact fun _ => .same b x y hc hle
  | ptr b o k s e c hm => exact fun _ => .ptr b o k s e c hm
  | sl b o k s off len hm => exact fun _ => .sl b o k s off len hm
  | rows o s off len es hm hes hcl => exact fun h => .rows o s off len es hm ((rows_same h).trans hes) hcl
  | agg b xs ys hl h ih =>
    intro ht
    refine .agg b xs ys hl fun j x y hx hy => ih j x y hx hy fun q hq => ht q ?_
    simp only [V.ids]
    exact idsL_mem hx q hq

section
variable {P : Program}

theorem callR_local {f : FuncId} {id own : Nat} {σ σ' τ : Store} {xs : List V} {v : V} (h : CallR P f id own σ xs v σ') (ht : ∀ q ∈ V.idsL xs ++ (List.range own).map (id + ·), τ[q]? = σ[q]?) :
    ∃ τ', CallR P f id own τ xs v τ' ∧ Upd (V.idsL xs ++ (List.range own).map (id + ·)) σ σ' τ τ' := by
  obtain ⟨m, σi, σo, vs, v0, b, hc⟩ := h
  have hc' : CallOk P f id own τ xs v (putObs τ m id σo) m σi σo vs v0 b :=
    { fs := hc.fs, nd := hc.nd, sub := hc.sub, len := hc.len, at_ := fun k o ob hk ho => by
        rw [ht o (by simp [hc.sub o (List.mem_of_getElem? hk)])]; exact hc.at_ k o ob hk ho
      view := ⟨hc.view.1, fun j x y hx hy => view_same (hc.view.2 j x y hx hy) fun q hq => ht q (by simp [idsL_mem hx q hq])⟩
      ole := hc.ole, olen := hc.olen, new := fun j hj => (isFree_same (ht (id + j) (by simp [hj]))).2 (hc.new j hj)
      icl := hc.icl, ocl := hc.ocl, flat := hc.flat, res := hc.res, st := rfl }
  refine ⟨putObs τ m id σo, ⟨m, σi, σo, vs, v0, b, hc'⟩, ?_⟩
  obtain ⟨l1, p1, p2, _⟩ := putObs_get hc
  obtain ⟨l2, q1, q2, _⟩ := putObs_get hc'
  have img : ∀ i, i < σo.length → renOf m id i ∈ V.idsL xs ++ (List.range own).map (id + ·) := by
    intro i hi
    rw [List.mem_append]
    rcases Nat.lt_or_ge i m.length with h1 | h1
    · left
      have : renOf m id i = m[i] := by simp [renOf, h1]
      rw [this]; exact hc.sub _ (List.getElem_mem h1)
    · right
      have : renOf m id i = id + (i - m.length) := by simp [renOf, h1]
      rw [this, List.mem_map]
      have := hc.olen
      exact ⟨i - m.length, by rw [List.mem_range]; omega, rfl⟩
  refine ⟨fun q hq => ?_, fun q hq => ?_, l2, l1⟩
  · by_cases hex : ∃ i, i < σo.length ∧ renOf m id i = q
    · obtain ⟨i, hi, rfl⟩ := hex
      rw [q1 i _ (List.getElem?_eq_getElem hi), p1 i _ (List.getElem?_eq_getElem hi)]
    · have hno : ∀ i, i < σo.length → renOf m id i ≠ q := fun i hi e => hex ⟨i, hi, e⟩
      rw [q2 q hno, p2 q hno]; exact ht q hq
  · have hno : ∀ i, i < σo.length → renOf m id i ≠ q := fun i hi e => hq (e ▸ img i hi)
    exact ⟨q2 q hno, p2 q hno⟩

theorem upd_ext {S : List Nat} {σ τ τ' : Store} (h : Upd S σ σ τ τ') (ht : ∀ q ∈ S, τ[q]? = σ[q]?) : τ' = τ := by
  apply List.ext_getElem?
  intro q
  by_cases hq : q ∈ S
  · rw [h.on q hq, ht q hq]
  · exact (h.off q hq).1

theorem opR_local {o : AO} {a b : Env} {σ σ' τ : Store} {v : V} (hs : OpR P o a σ v σ') (hu : ∀ t ∈ o.uses, b t = a t) (ht : ∀ q ∈ o.touch a ++ o.news, τ[q]? = σ[q]?) :
    ∃ τ', OpR P o b τ v τ' ∧ Upd (o.touch a ++ o.news) σ σ' τ τ' ∧ (o.kind ≤ 1 → σ' = σ ∧ τ' = τ) ∧ (o.kind = 2 → Upd o.news σ σ' τ τ') := by
  by_cases hcall : ∃ wr id own f args, o = .call wr id own f args
  · obtain ⟨wr, id, own, f, args, rfl⟩ := hcall
    simp only [OpR] at hs ⊢
    have e : (args.map fun x => x.ev b) = args.map fun x => x.ev a := evs_same hu
    rw [e]
    obtain ⟨τ', h1, h2⟩ := callR_local hs.1 ht
    refine ⟨τ', ⟨h1, fun hw ho => ?_⟩, h2, fun hk => ?_, fun hk => ?_⟩
    · have := hs.2 hw ho
      subst this
      exact upd_ext h2 ht
    · simp only [AO.kind] at hk
      split at hk
      · rename_i hc
        have := hs.2 hc.1 hc.2
        subst this
        exact ⟨rfl, upd_ext h2 ht⟩
      · omega
    · simp only [AO.kind] at hk
      split at hk <;> omega
  · have e : ∀ a σ v σ', OpR P o a σ v σ' ↔ astep o a σ = some (v, σ') := by
      intro a σ v σ'
      cases o <;> first | (exact absurd ⟨_, _, _, _, _, rfl⟩ hcall) | rfl
    obtain ⟨τ', h1, h2⟩ := astep_local ((e a σ v σ').1 hs) hu ht
    exact ⟨τ', (e b τ v τ').2 h1, h2⟩

def AR.uses (r : AR) : List Nat := (match r.guard with | some (t, _) => [t] | none => []) ++ r.op.uses

/-- the objects that a step turns -/
def AO.turns (o : AO) (a : Env) : List Nat := if o.kind ≤ 1 then [] else if o.kind = 2 then o.news else o.touch a ++ o.news

theorem stepR_local {r : AR} {a b : Env} {σ σ' τ : Store} {a' : Env} (hs : StepR P r a σ a' σ') (hu : ∀ t ∈ r.uses, b t = a t) (ht : ∀ q ∈ r.op.touch a ++ r.op.news, τ[q]? = σ[q]?) :
    ∃ v τ', a' = putE a r.dst v ∧ StepR P r b τ (putE b r.dst v) τ' ∧ Upd (r.op.turns a) σ σ' τ τ' := by
  have hg : guardOk r.guard b = guardOk r.guard a := by
    unfold guardOk
    cases h : r.guard with
    | none => rfl
    | some p =>
      obtain ⟨t, want⟩ := p
      dsimp only
      rw [hu t (by simp [AR.uses, h])]
  unfold StepR at hs ⊢
  rw [hg]
  split at hs
  · exact hs.elim
  · obtain ⟨rfl, rfl⟩ := hs
    refine ⟨_, τ, rfl, ⟨rfl, rfl⟩, .same fun q hq => ht q ?_⟩
    unfold AO.turns at hq
    split at hq
    · simp at hq
    · split at hq
      · simp [hq]
      · exact hq
  · obtain ⟨v, hv, rfl⟩ := hs
    obtain ⟨τ', h1, h2, h3, h4⟩ := opR_local hv (fun t h => hu t (by simp [AR.uses, h])) ht
    refine ⟨v, τ', rfl, ⟨v, h1, rfl⟩, ?_⟩
    unfold AO.turns
    split
    · rename_i hk
      obtain ⟨rfl, rfl⟩ := h3 hk
      exact ⟨fun q hq => by simp at hq, fun q _ => ⟨rfl, rfl⟩, rfl, rfl⟩
    · split
      · rename_i hk; exact h4 hk
      · exact h2

def labOk (lab b : Nat) (ws touch : List Nat) : Prop :=
  (lab % 2 = 1 → ∀ q ∈ touch, q < b) ∧ (lab / 2 = 1 → ∀ q ∈ touch, q ∉ ws) ∧ (lab / 2 = 2 → ∀ q ∈ touch, q ∈ ws)

def AR.sh (r : AR) (b : Nat) : AR := { r with op := r.op.sh b }

def runD (P : Program) (b : Nat) (ws : List Nat) : List AR → Env → Store → (Env → Store → Prop) → Prop
  | [], a, σ, Q => Q a σ
  | r :: rs, a, σ, Q => labOk r.lab b ws ((r.sh b).op.touch a) ∧ ∃ a' σ', StepR P (r.sh b) a σ a' σ' ∧ runD P b ws rs a' σ' Q

/-- two operations whose order does not matter -/
def indepR (x y : AR) : Bool :=
  (match x.dst with | some d => !(y.uses.contains d) && y.dst != some d | none => true) &&
  (match y.dst with | some d => !(x.uses.contains d) | none => true) &&
  (x.op.kind == 0 || y.op.kind == 0 || (x.op.kind == 1 && y.op.kind == 1) ||
    (x.op.kind == 2 && y.op.kind == 2 && x.op.news.all fun q => !(y.op.news.contains q)) ||
    (x.op.kind == 1 && y.op.kind == 2 && x.lab % 2 == 1) || (x.op.kind == 2 && y.op.kind == 1 && y.lab % 2 == 1) ||
    (x.op.kind == 3 && y.op.kind == 2 && x.lab % 2 == 1 && (x.op.news.all fun q => !(y.op.news.contains q))) ||
    (x.op.kind == 2 && y.op.kind == 3 && y.lab % 2 == 1 && (x.op.news.all fun q => !(y.op.news.contains q))) ||
    (x.op.kind == 1 && y.op.kind == 3 && x.lab % 2 == 1 && x.lab / 2 == 1 && y.lab / 2 == 2) ||
    (x.op.kind == 3 && y.op.kind == 1 && y.lab % 2 == 1 && y.lab / 2 == 1 && x.lab / 2 == 2))

theorem sh_kind (o : AO) (b : Nat) : (o.sh b).kind = o.kind := by cases o <;> rfl
theorem sh_uses (o : AO) (b : Nat) : (o.sh b).uses = o.uses := by cases o <;> rfl
theorem sh_touch (o : AO) (b : Nat) (a : Env) : (o.sh b).touch a = o.touch a := by cases o <;> rfl
theorem sh_news (o : AO) (b : Nat) : (o.sh b).news = o.news.map (b + ·) := by
  cases o <;> simp [AO.sh, AO.news, Nat.add_assoc]

theorem touch_same {o : AO} {a c : Env} (h : ∀ t ∈ o.uses, c t = a t) : o.touch c = o.touch a := by
  cases o <;> simp only [AO.touch]
  case load s ag x => rw [ev_same (x := x) h]
  case b2s x => rw [ev_same (x := x) h]
  case store s x y => rw [ev_same (x := x) fun t ht => h t (by simp [AO.uses, ht])]
  case app id s bytes x y => rw [ev_same (x := x) fun t ht => h t (by simp [AO.uses, ht]), ev_same (x := y) fun t ht => h t (by simp [AO.uses, ht])]
  case call wr id own f args => rw [evs_same h]

theorem kind01 {o : AO} (h : o.kind = 0) (a : Env) : o.touch a = [] ∧ o.news = [] := by
  cases o <;> simp [AO.kind] at h <;> first | exact ⟨rfl, rfl⟩ | skip
  all_goals (split at h <;> simp at h)
theorem kind1 {o : AO} (h : o.kind = 1) : o.news = [] := by
  cases o <;> simp [AO.kind] at h <;> first | rfl | skip
  simp [AO.news, h.2]
theorem kind2 {o : AO} (h : o.kind = 2) (a : Env) : o.touch a = [] := by
  cases o <;> simp [AO.kind] at h <;> first | rfl | skip
  split at h <;> simp at h
theorem kind3 (o : AO) : o.kind ≤ 3 := by
  cases o <;> simp [AO.kind]
  split <;> omega

theorem swap {b : Nat} {ws : List Nat} {x y : AR} (hi : indepR x y = true) {a a1 a2 : Env} {σ σ1 σ2 : Store} (hx : StepR P (x.sh b) a σ a1 σ1) (hy : StepR P (y.sh b) a1 σ1 a2 σ2)
    (lx : labOk x.lab b ws ((x.sh b).op.touch a)) (ly : labOk y.lab b ws ((y.sh b).op.touch a1)) :
    ∃ a1' σ1', StepR P (y.sh b) a σ a1' σ1' ∧ StepR P (x.sh b) a1' σ1' a2 σ2 ∧ labOk y.lab b ws ((y.sh b).op.touch a) ∧ labOk x.lab b ws ((x.sh b).op.touch a1') := by
  simp only [indepR, Bool.and_eq_true] at hi
  obtain ⟨⟨hd1, hd2⟩, hk⟩ := hi
  have ux : (x.sh b).uses = x.uses := by simp [AR.uses, AR.sh, sh_uses]
  have uy : (y.sh b).uses = y.uses := by simp [AR.uses, AR.sh, sh_uses]
  have put_ne : ∀ (e : Env) (d : Option Nat) (v : V) (l : List Nat), (∀ q, d = some q → q ∉ l) → ∀ t ∈ l, putE e d v t = e t := by
    intro e d v l h t ht
    cases d with
    | none => rfl
    | some q =>
      have : t ≠ q := fun e => h q rfl (e ▸ ht)
      simp [putE, upd, this]
  have dx : ∀ q, x.dst = some q → q ∉ y.uses := by
    intro q hq; rw [hq] at hd1; simp at hd1; exact hd1.1
  have dxy : ∀ q, x.dst = some q → y.dst ≠ some q := by
    intro q hq; rw [hq] at hd1; simp at hd1; exact hd1.2
  have dy : ∀ q, y.dst = some q → q ∉ x.uses := by
    intro q hq; rw [hq] at hd2; simpa using hd2
  obtain ⟨v1, -, e1, -, -⟩ := stepR_local (b := a) (τ := σ) hx (fun _ _ => rfl) (fun _ _ => rfl)
  have e1' : a1 = putE a x.dst v1 := e1
  have ay : ∀ t ∈ y.uses, a t = a1 t := fun t ht => by rw [e1']; exact (put_ne a x.dst v1 y.uses dx t ht).symm
  have ty : (y.sh b).op.touch a = (y.sh b).op.touch a1 := touch_same fun t ht => ay t (by simp only [AR.sh, sh_uses] at ht; simp [AR.uses, ht])
  -- what x turns lies apart from what y looks at, and the other way
  have kx := kind3 x.op
  have ky := kind3 y.op
  have nge : ∀ (o : AO), ∀ q ∈ (o.sh b).news, b ≤ q := by
    intro o q hq
    rw [sh_news, List.mem_map] at hq
    obtain ⟨_, _, rfl⟩ := hq
    omega
  have ndis : ∀ (o o' : AO), (∀ q ∈ o.news, q ∉ o'.news) → ∀ q ∈ (o.sh b).news, q ∉ (o'.sh b).news := by
    intro o o' h q hq hq'
    rw [sh_news, List.mem_map] at hq hq'
    obtain ⟨p, hp, rfl⟩ := hq
    obtain ⟨p', hp', e⟩ := hq'
    have : p' = p := by omega
    subst this
    exact h _ hp hp'
  have apart : (∀ q ∈ (x.sh b).op.turns a, q ∉ (y.sh b).op.touch a1 ++ (y.sh b).op.news) ∧ (∀ q ∈ (y.sh b).op.turns a1, q ∉ (x.sh b).op.touch a ++ (x.sh b).op.news) := by
    have turns0 : ∀ (o : AO) e, o.kind ≤ 1 → (o.sh b).turns e = [] := fun o e h => by simp [AO.turns, sh_kind, h]
    have turns2 : ∀ (o : AO) e, o.kind = 2 → (o.sh b).turns e = (o.sh b).news := fun o e h => by simp [AO.turns, sh_kind, h]
    have turns3 : ∀ (o : AO) e, o.kind = 3 → (o.sh b).turns e = (o.sh b).touch e ++ (o.sh b).news := fun o e h => by simp [AO.turns, sh_kind, h]
    have look0 : ∀ (o : AO) e, o.kind = 0 → (o.sh b).touch e ++ (o.sh b).news = [] := fun o e h => by
      obtain ⟨h1, h2⟩ := kind01 (o := o.sh b) (by rw [sh_kind]; exact h) e
      rw [h1, h2]; rfl
    have look1 : ∀ (o : AO), o.kind = 1 → (o.sh b).news = [] := fun o h => kind1 (by rw [sh_kind]; exact h)
    have look2 : ∀ (o : AO) e, o.kind = 2 → (o.sh b).touch e = [] := fun o e h => kind2 (by rw [sh_kind]; exact h) e
    simp only [Bool.or_eq_true, Bool.and_eq_true, beq_iff_eq, List.all_eq_true, Bool.not_eq_true', List.contains_eq_mem, decide_eq_false_iff_not] at hk
    show (∀ q ∈ (x.op.sh b).turns a, q ∉ (y.op.sh b).touch a1 ++ (y.op.sh b).news) ∧ (∀ q ∈ (y.op.sh b).turns a1, q ∉ (x.op.sh b).touch a ++ (x.op.sh b).news)
    have lx' : labOk x.lab b ws ((x.op.sh b).touch a) := lx
    have ly' : labOk y.lab b ws ((y.op.sh b).touch a1) := ly
    rcases hk with ((((((((((h | h) | h) | h) | h) | h) | h) | h) | h) | h))
    · rw [turns0 _ _ (by omega), look0 _ _ h]; simp
    · rw [turns0 _ a1 (by omega), look0 _ _ h]; simp
    · rw [turns0 _ _ (by omega), turns0 _ a1 (by omega)]; simp
    · rw [turns2 _ _ h.1.1, turns2 _ a1 h.1.2, look2 _ _ h.1.1, look2 _ _ h.1.2]
      simp only [List.nil_append]
      exact ⟨ndis _ _ h.2, fun q hq hq' => ndis _ _ h.2 q hq' hq⟩
    · rw [turns0 _ _ (by omega), turns2 _ a1 h.1.2, look1 _ h.1.1, List.append_nil]
      refine ⟨by simp, fun q hq hq' => ?_⟩
      have := lx'.1 h.2 q hq'; have := nge _ q hq; omega
    · rw [turns0 _ a1 (by omega), turns2 _ _ h.1.1, look1 _ h.1.2, List.append_nil]
      refine ⟨fun q hq hq' => ?_, by simp⟩
      have := ly'.1 h.2 q hq'; have := nge _ q hq; omega
    · rw [turns3 _ _ h.1.1.1, turns2 _ a1 h.1.1.2, look2 _ _ h.1.1.2, List.nil_append]
      refine ⟨fun q hq hq' => ?_, fun q hq hq' => ?_⟩
      · rcases List.mem_append.1 hq with h1 | h1
        · have := lx'.1 h.1.2 q h1; have := nge _ q hq'; omega
        · exact ndis _ _ h.2 q h1 hq'
      · rcases List.mem_append.1 hq' with h1 | h1
        · have := lx'.1 h.1.2 q h1; have := nge _ q hq; omega
        · exact ndis _ _ h.2 q h1 hq
    · rw [turns2 _ _ h.1.1.1, turns3 _ a1 h.1.1.2, look2 _ _ h.1.1.1, List.nil_append]
      refine ⟨fun q hq hq' => ?_, fun q hq hq' => ?_⟩
      · rcases List.mem_append.1 hq' with h1 | h1
        · have := ly'.1 h.1.2 q h1; have := nge _ q hq; omega
        · exact ndis _ _ h.2 q hq h1
      · rcases List.mem_append.1 hq with h1 | h1
        · have := ly'.1 h.1.2 q h1; have := nge _ q hq'; omega
        · exact ndis _ _ h.2 q hq' h1
    · rw [turns0 _ _ (by omega), turns3 _ a1 h.1.1.1.2, look1 _ h.1.1.1.1, List.append_nil]
      refine ⟨by simp, fun q hq hq' => ?_⟩
      rcases List.mem_append.1 hq with h1 | h1
      · exact lx'.2.1 h.1.2 q hq' (ly'.2.2 h.2 q h1)
      · have := lx'.1 h.1.1.2 q hq'; have := nge _ q h1; omega
    · rw [turns0 _ a1 (by omega), turns3 _ _ h.1.1.1.1, look1 _ h.1.1.1.2, List.append_nil]
      refine ⟨fun q hq hq' => ?_, by simp⟩
      rcases List.mem_append.1 hq with h1 | h1
      · exact ly'.2.1 h.1.2 q hq' (lx'.2.2 h.2 q h1)
      · have := ly'.1 h.1.1.2 q hq'; have := nge _ q h1; omega
  obtain ⟨_, _, -, -, ux0⟩ := stepR_local (b := a) (τ := σ) hx (fun _ _ => rfl) (fun _ _ => rfl)
  obtain ⟨v2, σ1', e2, hy', uY⟩ := stepR_local (b := a) (τ := σ) hy (fun t ht => by rw [uy] at ht; exact ay t ht)
    (fun q hq => by
      by_cases hq' : q ∈ (x.sh b).op.turns a
      · exact absurd hq (apart.1 q hq')
      · exact (ux0.off q hq').2.symm)
  have e2' : a2 = putE a1 y.dst v2 := e2
  obtain ⟨v1', σ2', e3, hx', uX⟩ := stepR_local (b := putE a y.dst v2) (τ := σ1') hx (fun t ht => by rw [ux] at ht; exact put_ne a y.dst v2 x.uses dy t ht)
    (fun q hq => by
      by_cases hq' : q ∈ (y.sh b).op.turns a1
      · exact absurd hq (apart.2 q hq')
      · exact (uY.off q hq').1)
  have e3' : a1 = putE a x.dst v1' := e3
  have hσ : σ2' = σ2 := by
    apply List.ext_getElem?
    intro q
    by_cases h1 : q ∈ (x.sh b).op.turns a
    · rw [uX.on q h1]
      by_cases h2 : q ∈ (y.sh b).op.turns a1
      · exfalso
        have := apart.1 q h1
        have h3 : q ∈ (y.sh b).op.touch a1 ++ (y.sh b).op.news := by
          unfold AO.turns at h2
          split at h2
          · simp at h2
          · split at h2
            · simp [h2]
            · exact h2
        exact this h3
      · exact (uY.off q h2).2.symm
    · rw [(uX.off q h1).1]
      by_cases h2 : q ∈ (y.sh b).op.turns a1
      · exact uY.on q h2
      · rw [(uY.off q h2).1, (uY.off q h2).2, (uX.off q h1).2]
  have ha : putE (putE a y.dst v2) x.dst v1' = a2 := by
    rw [e2', e3']
    cases hxd : x.dst with
    | none => rfl
    | some p =>
      cases hyd : y.dst with
      | none => rfl
      | some q =>
        have : q ≠ p := fun e => dxy p hxd (by rw [hyd, e])
        funext t
        simp only [putE, upd]
        by_cases h1 : t = p
        · have : t ≠ q := by omega
          simp [h1]; omega
        · simp [h1]
  refine ⟨putE a y.dst v2, σ1', hy', ?_, by rw [ty]; exact ly, ?_⟩
  · rw [hσ] at hx'
    have : putE (putE a y.dst v2) (x.sh b).dst v1' = a2 := ha
    rw [this] at hx'; exact hx'
  · have : (x.sh b).op.touch (putE a y.dst v2) = (x.sh b).op.touch a := touch_same fun t ht => put_ne a y.dst v2 x.uses dy t (by simp only [AR.sh, sh_uses] at ht; simp [AR.uses, ht])
    rw [this]; exact lx

theorem runD_front {b : Nat} {ws : List Nat} {r : AR} {post : List AR} {Q : Env → Store → Prop} : ∀ {pre : List AR} {a : Env} {σ : Store}, (∀ x ∈ pre, indepR x r = true) → runD P b ws (pre ++ r :: post) a σ Q → runD P b ws (r :: (pre ++ post)) a σ Q
  | [], a, σ, _, h => h
  | x :: pre, a, σ, hi, h => by
    obtain ⟨lx, a1, σ1, hx, h1⟩ := h
    obtain ⟨lr, a2, σ2, hr, h2⟩ := runD_front (pre := pre) (fun y hy => hi y (by simp [hy])) h1
    obtain ⟨a1', σ1', hr', hx', lr', lx'⟩ := swap (hi x (by simp)) hx hr lx lr
    exact ⟨lr', a1', σ1', hr', lx', a2, σ2, hx', h2⟩

end

def directs (o : Oper) : List Nat := (o.after.toList.filter (Region.binds .any)).map (·.on)

/-- all operations that come before each -/
def pres : List Oper → List (List Nat) → List (List Nat)
  | [], acc => acc
  | o :: os, acc => pres os (acc ++ [((directs o).flatMap fun e => e :: acc.getD e []).eraseDups])

def drawOk (ops : Array Oper) (rs : List AR) : Bool :=
  let R := pres ops.toList []
  (List.range ops.size).all fun i => ((ops[i]?).all fun o => (directs o).all (· < i)) &&
    (List.range i).all fun j => (R.getD i []).contains j || indepR (rs.getD j ⟨none, none, 0, .mov (.k .unk)⟩) (rs.getD i ⟨none, none, 0, .mov (.k .unk)⟩)

/-- labels: which operations must keep to old objects, keep off what is written, keep to what is named as written -/
def labels (ops : Array Oper) (rs : List AR) : List AR :=
  let R := pres ops.toList []
  rs.zipIdx.map fun (r, i) =>
    let inc := (List.range rs.length).filter fun j => j != i && !((R.getD i []).contains j) && !((R.getD j []).contains i)
    let ks := inc.map fun j => ((rs.getD j ⟨none, none, 0, .mov (.k .unk)⟩).op.kind)
    let lo := if (r.op.kind == 1 && (ks.contains 2 || ks.contains 3)) || (r.op.kind == 3 && ks.contains 2) then 1 else 0
    let av := if r.op.kind == 1 && ks.contains 3 then 2 else if r.op.kind == 3 && ks.contains 1 then 4 else 0
    { r with lab := lo + av }

def drawD (ops : Array Oper) (rs : List AR) : Option (List AR) :=
  let rs' := labels ops rs
  if drawOk ops rs' then some rs' else none

theorem pres_get : ∀ (os : List Oper) (acc : List (List Nat)), (∀ i, i < acc.length → (pres os acc)[i]? = acc[i]?) ∧
    ∀ (i : Nat) o, os[i]? = some o → ∃ l, (pres os acc)[acc.length + i]? = some l ∧ ∀ x ∈ l, ∃ e ∈ directs o, x = e ∨ (e < acc.length + i ∧ x ∈ (pres os acc).getD e [])
  | [], acc => ⟨fun i h => rfl, fun i o h => by simp at h⟩
  | o :: os, acc => by
    obtain ⟨h1, h2⟩ := pres_get os (acc ++ [((directs o).flatMap fun e => e :: acc.getD e []).eraseDups])
    have hold : ∀ i, i < acc.length → (pres (o :: os) acc)[i]? = acc[i]? := by
      intro i hi
      simp only [pres]
      rw [h1 i (by simp; omega), List.getElem?_append_left hi]
    refine ⟨hold, fun i o' ho => ?_⟩
    cases i with
    | zero =>
      simp at ho; subst ho
      refine ⟨((directs o).flatMap fun e => e :: acc.getD e []).eraseDups, ?_, fun x hx => ?_⟩
      · simp only [pres]
        rw [h1 _ (by simp)]
        simp
      · rw [List.mem_eraseDups, List.mem_flatMap] at hx
        obtain ⟨e, he, hx⟩ := hx
        refine ⟨e, he, ?_⟩
        rcases List.mem_cons.1 hx with h3 | h3
        · exact .inl h3
        · right
          have hlt : e < acc.length := by
            rcases Nat.lt_or_ge e acc.length with h4 | h4
            · exact h4
            · simp [List.getD_eq_getElem?_getD, h4] at h3
          refine ⟨by omega, ?_⟩
          rw [List.getD_eq_getElem?_getD, hold e hlt, ← List.getD_eq_getElem?_getD]
          exact h3
    | succ i =>
      obtain ⟨l, hl, hx⟩ := h2 i o' (by simpa using ho)
      simp only [List.length_append, List.length_singleton] at hl hx
      refine ⟨l, ?_, fun x hxl => ?_⟩
      · rw [show acc.length + (i + 1) = acc.length + 1 + i by omega]; exact hl
      · obtain ⟨e, he, h3⟩ := hx x hxl
        refine ⟨e, he, h3.imp id fun h4 => ⟨by omega, h4.2⟩⟩

theorem Grow.drawn {F : Nat → Prop} {w : World} : Grow F w { w with drawn := w.drawn + 1 } where
  os := rfl
  tape := rfl
  output := rfl
  size := Nat.le_refl _
  cells := fun b c elem fr h => ⟨c, fr, h, rfl⟩
  same := fun b hb => rfl

theorem Rel.drawn {σ : Store} {β : Ids} {F : Nat → Prop} {w : World} (h : Rel σ β F w) : Rel σ β F { w with drawn := w.drawn + 1 } where
  live := fun o ob ho => by
    obtain ⟨b, c, e, fr, h1, h2, h3, h4, h5⟩ := h.live o ob ho
    exact ⟨b, c, e, fr, h1, h2, h3, h4, h5.mono Grow.drawn (fun _ h => h) (Ids.le_refl _)⟩
  inj := h.inj
  free := h.free
  bF := h.bF

section
variable {X : Cx} {Q : Exit → List V → Store → Prop} {L : List V} {σ : Store}

theorem labels_get {ops : Array Oper} {rs : List AR} : (labels ops rs).length = rs.length ∧ ∀ (i : Nat) r, (labels ops rs)[i]? = some r → ∃ r0, rs[i]? = some r0 ∧ r.dst = r0.dst ∧ r.guard = r0.guard ∧ r.op = r0.op := by
  refine ⟨by simp [labels], fun i r h => ?_⟩
  simp only [labels, List.getElem?_map, Option.map_eq_some_iff] at h
  obtain ⟨⟨r0, j⟩, h1, rfl⟩ := h
  rw [List.getElem?_zipIdx] at h1
  simp only [Option.map_eq_some_iff, Prod.mk.injEq] at h1
  obtain ⟨r1, h2, rfl, _⟩ := h1
  exact ⟨r1, h2, rfl, rfl, rfl⟩

theorem awp_draw (hm : X.P.follows .mixedOrders = true) (hD : X.D = drawD) {m : Nat} {rs : List AR} (ws : List Nat) (h : runD X.P σ.length ws rs (look X.vs L) (σ ++ List.replicate m .free) fun a σ' => Q .normal (X.vs.map a) σ') : AWP X (.draw m rs) Q L σ := by
  intro c hc β F w act hr he hn
  cases c <;> simp only [compC, reduceCtorEq] at hc
  case region id ops d =>
    split at hc
    · rename_i rs0 m' hops
      split at hc
      · rename_i hd
        subst hd
        split at hc
        · rename_i rs' hrs'
          cases hc
          rw [hD] at hrs'
          unfold drawD at hrs'
          dsimp only at hrs'
          split at hrs'
          · rename_i hok
            cases hrs'
            obtain ⟨hlen0, hget0⟩ := compOps_get hops
            obtain ⟨ll, lget⟩ := labels_get (ops := ops) (rs := rs0)
            generalize hrsd : labels ops rs0 = rs at h hok ll lget
            have hlen : rs.length = ops.size := by rw [ll, ← hlen0]; simp
            -- each operation and its step
            have hget : ∀ (i : Nat) o r, ops[i]? = some o → rs[i]? = some r → ∃ id r0, compAR X.P X.Γ X.nt ops id o = some r0 ∧ r.dst = r0.dst ∧ r.guard = r0.guard ∧ r.op = r0.op := by
              intro i o r ho hr'
              obtain ⟨r0, h1, h2, h3, h4⟩ := lget i r hr'
              obtain ⟨id', h5⟩ := hget0 i o r0 (by simpa using ho) h1
              exact ⟨id', r0, h5, h2, h3, h4⟩
            unfold drawOk at hok
            simp only [List.all_eq_true, List.mem_range, Bool.or_eq_true, Bool.and_eq_true, List.contains_eq_mem, decide_eq_true_eq] at hok
            obtain ⟨_, hpres⟩ := pres_get ops.toList []
            generalize hR : pres ops.toList [] = R at hok hpres
            have hok1 : ∀ i o, ops[i]? = some o → ∀ e ∈ directs o, e < i := by
              intro i o ho e he
              have hi : i < ops.size := (Array.getElem?_eq_some_iff.1 ho).1
              have := (hok i hi).1
              rw [ho] at this
              simpa using (by simpa using this : ∀ x ∈ directs o, x < i) e he
            have hok2 : ∀ i, i < ops.size → ∀ j, j < i → j ∈ R.getD i [] ∨ indepR (rs.getD j ⟨none, none, 0, .mov (.k .unk)⟩) (rs.getD i ⟨none, none, 0, .mov (.k .unk)⟩) = true := fun i hi j hj => (hok i hi).2 j hj
            have hr1 := rel_free hr m
            have main : ∀ (fuel : Nat) (T : List Nat) (listed : Array Bool) (a : Env) (σ1 : Store) (act1 : Act) (w1 : World), listed.size = ops.size → T = (List.range ops.size).filter (fun i => !listed.getD i true) → T.length ≤ fuel →
                (∀ i o, ops[i]? = some o → listed.getD i false = true → ∀ e ∈ directs o, listed.getD e false = true) →
                runD X.P σ.length ws (T.map fun i => rs.getD i ⟨none, none, 0, .mov (.k .unk)⟩) a σ1 (fun a σ' => Q .normal (X.vs.map a) σ') → Goes σ1 β F w a act act1 w1 →
                wpAny X.P .any ops (fun e act' w' => ∃ L' σ', Q e L' σ' ∧ Goes σ' β F w (look X.vs L') act act' w') fuel listed act1 w1 := by
              have fin : ∀ (a : Env) (σ1 : Store) (act1 : Act) (w1 : World), Q .normal (X.vs.map a) σ1 → Goes σ1 β F w a act act1 w1 → ∃ L' σ', Q .normal L' σ' ∧ Goes σ' β F w (look X.vs L') act act1 w1 := by
                intro a σ1 act1 w1 hq hg
                refine ⟨_, σ1, hq, ?_⟩
                obtain ⟨β1, F1, hA, he1⟩ := hg.ex
                refine ⟨⟨β1, F1, hA, fun t => ?_⟩, hg.size, hg.defers⟩
                have : ∀ vs : List Nat, look vs (vs.map a) t = a t ∨ look vs (vs.map a) t = .unk := by
                  intro vs
                  induction vs with
                  | nil => exact .inr rfl
                  | cons v vs ih =>
                    simp only [List.map_cons, look]
                    split
                    · rename_i e; subst e; exact .inl rfl
                    · exact ih
                rcases this X.vs with h1 | h1
                · rw [h1]; exact he1 t
                · rw [h1]; exact .unk _ _
              -- where nothing is ready, nothing is left
              have stuck : ∀ (listed : Array Bool), listed.size = ops.size → Region.ready .any ops listed = [] → ∀ i, i < ops.size → listed.getD i true = true := by
                intro listed hsz hrd i
                induction i using Nat.strongRecOn with
                | _ i ih =>
                  intro hi
                  cases hx : listed.getD i true with
                  | true => rfl
                  | false =>
                    exfalso
                    have : i ∈ Region.ready .any ops listed := by
                      rw [mem_ready]
                      refine ⟨hx, ops[i], by simp [hi], fun e he hb => ?_⟩
                      have he' : e.on ∈ directs ops[i] := by
                        unfold directs
                        rw [List.mem_map]
                        exact ⟨e, by rw [List.mem_filter]; exact ⟨by simpa using he, hb⟩, rfl⟩
                      have hlt := hok1 i ops[i] (by simp [hi]) e.on he'
                      have := ih e.on hlt (by omega)
                      have h2 : e.on < listed.size := by omega
                      simpa [Array.getD_eq_getD_getElem?, h2] using this
                    rw [hrd] at this; simp at this
              -- what comes before a ready one is listed
              have before : ∀ (listed : Array Bool), (∀ i o, ops[i]? = some o → listed.getD i false = true → ∀ e ∈ directs o, listed.getD e false = true) →
                  ∀ (i : Nat) o, ops[i]? = some o → (∀ e ∈ directs o, listed.getD e false = true) → ∀ x ∈ R.getD i [], listed.getD x false = true := by
                intro listed hdc i
                induction i using Nat.strongRecOn with
                | _ i ih =>
                  intro o ho hd x hx
                  obtain ⟨l, hl, hlx⟩ := hpres i o (by simpa using ho)
                  simp only [List.length_nil, Nat.zero_add] at hl hlx
                  have hx' : x ∈ l := by simpa [List.getD_eq_getElem?_getD, hl] using hx
                  obtain ⟨e, he, h1⟩ := hlx x hx'
                  rcases h1 with rfl | ⟨h1, h2⟩
                  · exact hd _ he
                  · have hi : i < ops.size := (Array.getElem?_eq_some_iff.1 ho).1
                    have hoe : ops[e]? = some (ops[e]'(by omega)) := by simp [show e < ops.size by omega]
                    exact ih e h1 _ hoe (hdc e _ hoe (hd e he)) x h2
              intro fuel
              induction fuel with
              | zero =>
                intro T listed a σ1 act1 w1 hsz hT hlen0 hdc hrun hg
                have hT0 : T = [] := List.eq_nil_of_length_eq_zero (by omega)
                subst hT0
                refine ⟨?_, fin a σ1 act1 w1 hrun hg⟩
                apply List.eq_nil_iff_forall_not_mem.2
                intro i hi
                obtain ⟨h1, o, h2, _⟩ := mem_ready.1 hi
                have h3 : i < ops.size := (Array.getElem?_eq_some_iff.1 h2).1
                have : i ∈ (List.range ops.size).filter (fun i => !listed.getD i true) := by rw [List.mem_filter, List.mem_range]; exact ⟨h3, by simp only [h1, Bool.not_false]⟩
                rw [← hT] at this; simp at this
              | succ fuel ih =>
                intro T listed a σ1 act1 w1 hsz hT hlenT hdc hrun hg
                refine ⟨fun hrd => ?_, fun i hi => ?_⟩
                · have hT0 : T = [] := by
                    rw [hT]
                    apply List.eq_nil_iff_forall_not_mem.2
                    intro i hi
                    rw [List.mem_filter, List.mem_range] at hi
                    have := stuck listed hsz hrd i hi.1
                    simp only [this, Bool.not_true, Bool.false_eq_true, and_false] at hi
                  subst hT0
                  exact fin a σ1 act1 w1 hrun hg
                · obtain ⟨h1, o, h2, h3⟩ := mem_ready.1 hi
                  have hlt : i < ops.size := (Array.getElem?_eq_some_iff.1 h2).1
                  have hmem : i ∈ T := by rw [hT, List.mem_filter, List.mem_range]; exact ⟨hlt, by simp only [h1, Bool.not_false]⟩
                  obtain ⟨pre, post, hsp⟩ := List.append_of_mem hmem
                  have hpw : T.Pairwise (· < ·) := by rw [hT]; exact List.pairwise_lt_range.filter _
                  have hd : ∀ e ∈ directs o, listed.getD e false = true := by
                    intro e he
                    unfold directs at he
                    rw [List.mem_map] at he
                    obtain ⟨x, hx, rfl⟩ := he
                    rw [List.mem_filter] at hx
                    exact h3 x (by simpa using hx.1) hx.2
                  rw [hsp] at hpw
                  have hpre : ∀ j ∈ pre, j < i := fun j hj => (List.pairwise_append.1 hpw).2.2 j hj i (by simp)
                  have hpost : ∀ j ∈ post, i < j := fun j hj => (List.pairwise_cons.1 (List.pairwise_append.1 hpw).2.1).1 j hj
                  rw [hsp, List.map_append, List.map_cons] at hrun
                  have hrun2 := runD_front (fun x hx => by
                    rw [List.mem_map] at hx
                    obtain ⟨j, hj, rfl⟩ := hx
                    rcases hok2 i hlt j (hpre j hj) with h4 | h4
                    · exfalso
                      have h5 := before listed hdc i o h2 hd j h4
                      have h6 : j ∈ T := by rw [hsp]; simp [hj]
                      rw [hT, List.mem_filter] at h6
                      have h7 : j < listed.size := by have := hpre j hj; omega
                      simp [Array.getD_eq_getD_getElem?, h7] at h5 h6
                      simp [h5] at h6
                    · exact h4) hrun
                  obtain ⟨_, a2, σ2, hst, hrun3⟩ := hrun2
                  have hri : rs[i]? = some (rs.getD i ⟨none, none, 0, .mov (.k .unk)⟩) := by
                    have : i < rs.length := by omega
                    simp [List.getD_eq_getElem?_getD, this]
                  obtain ⟨id', r0, hcar, e1, e2, e3⟩ := hget i o _ h2 hri
                  have hst' : StepR X.P { r0 with op := r0.op.sh σ.length } a σ1 a2 σ2 := by
                    unfold StepR at hst ⊢
                    simp only [AR.sh] at hst
                    rw [e1, e2, e3] at hst
                    exact hst
                  obtain ⟨β1, F1, hA, he1⟩ := hg.ex
                  refine opr_wp hA.rel he1 (hg.size.trans hn) h2 hcar hst' ?_
                  intro act2 w2 hg2
                  have hgetD : ∀ k, (listed.setIfInBounds i true).getD k true = if k = i then true else listed.getD k true := by
                    intro k
                    simp only [Array.getD_eq_getD_getElem?, Array.getElem?_setIfInBounds]
                    by_cases e : i = k
                    · subst e; simp [hsz, hlt]
                    · simp [e, Ne.symm e]
                  have hgetF : ∀ k, (listed.setIfInBounds i true).getD k false = if k = i then true else listed.getD k false := by
                    intro k
                    simp only [Array.getD_eq_getD_getElem?, Array.getElem?_setIfInBounds]
                    by_cases e : i = k
                    · subst e; simp [hsz, hlt]
                    · simp [e, Ne.symm e]
                  refine ih (pre ++ post) _ a2 σ2 act2 w2 (by simpa using hsz) ?_ ?_ ?_ (by rw [List.map_append]; exact hrun3) (Goes.trans hA hg.size hg.defers hg2)
                  · have e4 : (List.range ops.size).filter (fun k => !(listed.setIfInBounds i true).getD k true) = T.filter (fun k => k ≠ i) := by
                      rw [hT, List.filter_filter]
                      apply List.filter_congr
                      intro k _
                      rw [hgetD]
                      by_cases e : k = i
                      · simp only [e, if_true, Bool.not_true, ne_eq, not_true_eq_false, decide_false, Bool.false_and]
                      · simp only [e, if_false, ne_eq, not_false_eq_true, decide_true, Bool.true_and]
                    rw [e4, hsp, List.filter_append, List.filter_cons]
                    simp only [ne_eq, not_true_eq_false, decide_false, Bool.false_eq_true, if_false]
                    rw [List.filter_eq_self.2 fun j hj => by have := hpre j hj; simp; omega, List.filter_eq_self.2 fun j hj => by have := hpost j hj; simp; omega]
                  · rw [hsp] at hlenT; simp at hlenT ⊢; omega
                  · intro k o' hk hl e he
                    rw [hgetF] at hl ⊢
                    split
                    · rfl
                    · split at hl
                      · rename_i e5
                        subst e5
                        rw [h2] at hk; cases hk
                        exact hd e he
                      · exact hdc k o' hk hl e he
            refine wp_region_any hm ?_
            refine main ops.size (List.range ops.size) (Array.replicate ops.size false) (look X.vs L) (σ ++ List.replicate m .free) act _ (by simp) ?_ (by simp) ?_ ?_ ?_
            · symm
              apply List.filter_eq_self.2
              intro i hi
              rw [List.mem_range] at hi
              simp [Array.getD_eq_getD_getElem?, hi]
            · intro i o ho hl
              have hi : i < ops.size := (Array.getElem?_eq_some_iff.1 ho).1
              simp [Array.getD_eq_getD_getElem?, hi] at hl
            · have : (List.range ops.size).map (fun i => rs.getD i ⟨none, none, 0, .mov (.k .unk)⟩) = rs := by
                apply List.ext_getElem?
                intro i
                rcases Nat.lt_or_ge i ops.size with h1 | h1
                · have : i < rs.length := by omega
                  simp [List.getD_eq_getElem?_getD, h1, this]
                · have : rs.length ≤ i := by omega
                  simp [h1, this]
              rw [this]; exact h
            · refine ⟨⟨β, F, ⟨hr1.drawn, Ids.le_refl _, fun _ h => h, Grow.drawn, fun _ _ _ => rfl, fun _ h => .inl h, fun o b h => .inr ⟨o, h⟩⟩, fun t => (he t).mono Grow.drawn (fun _ h => h) β (Ids.le_refl _)⟩, rfl, rfl⟩
          · cases hrs'
        · cases hc
      · cases hc
    · cases hc
  all_goals
    repeat' (split at hc)
    all_goals cases hc

end
end Go.Proofs.Ytffigokicddekaa.Abs
