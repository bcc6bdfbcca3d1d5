/- The program's values, as Lean's structures, and their cells. No condition. -/
import Derived.Test.YtffigokicddekaaMA25
set_option linter.unusedVariables false
set_option linter.unusedSimpArgs false
namespace Go.Proofs.Ytffigokicddekaa.Abs
open Go

/-- the rows of a slice -/
def rw_ {α : Type} (c : α → List V) (xs : List α) : List (List V) := xs.map c
section
variable {α : Type} (c : α → List V)
@[go_sem] theorem rw_len (xs : List α) : (rw_ c xs).length = xs.length := by simp [rw_]
@[go_sem] theorem rw_take (xs : List α) (k : Nat) : (rw_ c xs).take k = rw_ c (xs.take k) := by simp [rw_, List.map_take]
@[go_sem] theorem rw_drop (xs : List α) (k : Nat) : (rw_ c xs).drop k = rw_ c (xs.drop k) := by simp [rw_, List.map_drop]
@[go_sem] theorem rw_app (xs ys : List α) : rw_ c xs ++ rw_ c ys = rw_ c (xs ++ ys) := by simp [rw_]
theorem rw_at {xs : List α} {i : Nat} (h : i < xs.length) : (rw_ c xs)[i]? = some (c xs[i]) := by simp [rw_, h]
theorem rw_set (xs : List α) (i : Nat) (y : α) : (rw_ c xs).set i (c y) = rw_ c (xs.set i y) := by simp [rw_, List.map_set]
theorem rw_one (x : α) : [c x] = rw_ c [x] := rfl
theorem rw_nil : rw_ c [] = [] := rfl
theorem rw_inj (h : ∀ a b, c a = c b → a = b) : ∀ {xs ys : List α}, rw_ c xs = rw_ c ys → xs = ys
  | [], [], _ => rfl
  | [], y :: ys, e => by simp [rw_] at e
  | x :: xs, [], e => by simp [rw_] at e
  | x :: xs, y :: ys, e => by
    simp only [rw_, List.map_cons, List.cons.injEq] at e
    rw [h x y e.1, rw_inj h (xs := xs) (ys := ys) e.2]
end

/-- a row whose cells name no object -/
theorem rw_closed {α : Type} {c : α → List V} {s : Nat} (h : ∀ a, ∀ x ∈ c a, x.closed = true) (xs : List α) : (⟨s, rw_ c xs⟩ : Ob).closed := by
  intro l hl x hx
  simp only [rw_, List.mem_map] at hl
  obtain ⟨a, _, rfl⟩ := hl
  exact h a x hx

def intC (n : Int) : List V := [.int .i64 n]

structure Entry where
  inc : Int
  rank : Int
  beat : Int
  ver : Int
  data : ByteArray
deriving DecidableEq
def Entry.c (a : Entry) : List V := [.int .i64 a.inc, .int .i64 a.rank, .int .i64 a.beat, .int .i64 a.ver, .str a.data]

structure Item where
  id : Int
  entry : Entry
deriving DecidableEq
def Item.c (a : Item) : List V := [.int .i64 a.id, .int .i64 a.entry.inc, .int .i64 a.entry.rank, .int .i64 a.entry.beat, .int .i64 a.entry.ver, .str a.entry.data]

structure Floor where
  id : Int
  inc : Int
deriving DecidableEq
def Floor.c (a : Floor) : List V := [.int .i64 a.id, .int .i64 a.inc]

structure State where
  items : List Item
  floors : List Floor
deriving DecidableEq
def State.c (a : State) : List V := [.fz 6 (rw_ Item.c a.items), .fz 2 (rw_ Floor.c a.floors)]

structure Tree where
  leaves : List Int
  root : Int
deriving DecidableEq
def Tree.c (a : Tree) : List V := [.fz 1 (rw_ intC a.leaves), .int .i64 a.root]

structure Log where
  cap : Int
  from_ : Int
  list : List State
deriving DecidableEq
def Log.c (a : Log) : List V := [.int .i64 a.cap, .int .i64 a.from_, .fz 2 (rw_ State.c a.list)]

structure Mark where
  id : Int
  inc : Int
deriving DecidableEq
def Mark.c (a : Mark) : List V := [.int .i64 a.id, .int .i64 a.inc]

structure Msg where
  kind : Int
  from_ : Int
  to : Int
  num : Int
  hi : Int
  tree : Tree
  vec : List Int
  leaves : List Int
  part : State
  marks : List Mark
deriving DecidableEq
def Msg.c (a : Msg) : List V := [.int .i64 a.kind, .int .i64 a.from_, .int .i64 a.to, .int .i64 a.num, .int .i64 a.hi, .fz 1 (rw_ intC a.tree.leaves), .int .i64 a.tree.root, .fz 1 (rw_ intC a.vec), .fz 1 (rw_ intC a.leaves),
  .fz 6 (rw_ Item.c a.part.items), .fz 2 (rw_ Floor.c a.part.floors), .fz 2 (rw_ Mark.c a.marks)]

theorem State.c_closed (a : State) : ∀ x ∈ a.c, x.closed = true := by simp [State.c, V.closed]
theorem Item.c_closed (a : Item) : ∀ x ∈ a.c, x.closed = true := by simp [Item.c, V.closed]
theorem Floor.c_closed (a : Floor) : ∀ x ∈ a.c, x.closed = true := by simp [Floor.c, V.closed]
theorem intC_closed (a : Int) : ∀ x ∈ intC a, x.closed = true := by simp [intC, V.closed]
theorem Mark.c_closed (a : Mark) : ∀ x ∈ a.c, x.closed = true := by simp [Mark.c, V.closed]
theorem Entry.c_closed (a : Entry) : ∀ x ∈ a.c, x.closed = true := by simp [Entry.c, V.closed]

theorem rw_rep {α : Type} (c : α → List V) (n : Nat) (a : α) : List.replicate n (c a) = rw_ c (List.replicate n a) := by simp [rw_]
def Entry.zero : Entry := ⟨0, 0, 0, 0, ⟨⟨[]⟩⟩⟩
def Item.zero : Item := ⟨0, Entry.zero⟩
def Floor.zero : Floor := ⟨0, 0⟩
def State.zero : State := ⟨[], []⟩
def Mark.zero : Mark := ⟨0, 0⟩

/-- the end, where the result is seen at once -/
theorem Ends.is {vs : List Nat} {os : List AO} {v : V} {e : Exit} {L : List V} {σ : Store} (he : e = .ret ∨ e = .normal) {rs : List V} (hr : resVs os (look vs L) σ = some rs) (hx : packV rs = v) (hv : v.closed = true) : Ends vs os 0 v [] e L σ :=
  Ends.plain he hr (by rw [hx]; exact .refl _) hv
end Go.Proofs.Ytffigokicddekaa.Abs
