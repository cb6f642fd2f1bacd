/- Words of ours: nodes, how slices lie in memory, small facts on worlds. No program in sight. -/
import Derived.WalkKit
import Derived.Below
import Derived.Laws.OwnMore
import Derived.Deep.Draws
namespace Go.Proofs.YtmghkonmfbpjcabDoor
set_option linter.unusedVariables false
set_option linter.unusedSimpArgs false
open Go.RowKit

structure Nd where
  op : Int
  d : Int
  a : Int
  b : Int
  t : Int
  e : Int
deriving DecidableEq, Inhabited

def Nd.cells (n : Nd) : List Value := [.int .i64 n.op, .int .i64 n.d, .int .i64 n.a, .int .i64 n.b, .int .i64 n.t, .int .i64 n.e]

def Nd.lies (n : Nd) (w : World) (b off : Nat) : Prop :=
  w.cell? ⟨b, off, none⟩ = some (.int .i64 n.op) ∧ w.cell? ⟨b, off + 1, none⟩ = some (.int .i64 n.d) ∧ w.cell? ⟨b, off + 2, none⟩ = some (.int .i64 n.a) ∧
  w.cell? ⟨b, off + 3, none⟩ = some (.int .i64 n.b) ∧ w.cell? ⟨b, off + 4, none⟩ = some (.int .i64 n.t) ∧ w.cell? ⟨b, off + 5, none⟩ = some (.int .i64 n.e)

/-- the nodes of a slice -/
def NodesAt (w : World) (A : Option Addr) (l : List Nd) : Prop :=
  l ≠ [] → ∃ b off, A = some ⟨b, off, none⟩ ∧ b < w.heap.size ∧ ∀ (i : Nat) (n : Nd), l[i]? = some n → n.lies w b (off + i * 6)
/-- the one-cell elements of a slice -/
def ValsAt (w : World) (A : Option Addr) (l : List Value) : Prop :=
  l ≠ [] → ∃ b off, A = some ⟨b, off, none⟩ ∧ b < w.heap.size ∧ ∀ (i : Nat) (v : Value), l[i]? = some v → w.cell? ⟨b, off + i, none⟩ = some v

theorem bcell {B : Nat} {W w1 : World} (hb : Below B W w1) : (∀ b o, b < B → w1.cell? ⟨b, o, none⟩ = W.cell? ⟨b, o, none⟩) ∧ (∀ b o, b < B → w1.frozen? ⟨b, o, none⟩ = W.frozen? ⟨b, o, none⟩) :=
  ⟨fun b o h => hb.cell (p := ⟨b, o, none⟩) h, fun b o h => hb.frozen (p := ⟨b, o, none⟩) h⟩

theorem Nd.lies.below {n : Nd} {B : Nat} {w w' : World} {b off : Nat} (h : n.lies w b off) (hb : Below B w w') (hl : b < B) : n.lies w' b off := by
  obtain ⟨hc, _⟩ := bcell hb
  obtain ⟨h0, h1, h2, h3, h4, h5⟩ := h
  exact ⟨(hc _ _ hl).trans h0, (hc _ _ hl).trans h1, (hc _ _ hl).trans h2, (hc _ _ hl).trans h3, (hc _ _ hl).trans h4, (hc _ _ hl).trans h5⟩
theorem NodesAt.below {w w' : World} {A : Option Addr} {l : List Nd} (h : NodesAt w A l) (hb : Below w.heap.size w w') : NodesAt w' A l := fun hn => by
  obtain ⟨b, off, e, hl, hc⟩ := h hn
  exact ⟨b, off, e, Nat.lt_of_lt_of_le hl hb.size, fun i n hi => (hc i n hi).below hb hl⟩
theorem ValsAt.below {w w' : World} {A : Option Addr} {l : List Value} (h : ValsAt w A l) (hb : Below w.heap.size w w') : ValsAt w' A l := fun hn => by
  obtain ⟨b, off, e, hl, hc⟩ := h hn
  exact ⟨b, off, e, Nat.lt_of_lt_of_le hl hb.size, fun i v hi => ((bcell hb).1 _ _ hl).trans (hc i v hi)⟩
theorem NodesAt.mk {w : World} {b off : Nat} {l : List Nd} (hb : b < w.heap.size) (h : ∀ (i : Nat) (n : Nd), l[i]? = some n → n.lies w b (off + i * 6)) : NodesAt w (some ⟨b, off, none⟩) l :=
  fun _ => ⟨b, off, rfl, hb, h⟩
theorem ValsAt.mk {w : World} {b off : Nat} {l : List Value} (hb : b < w.heap.size) (h : ∀ (i : Nat) (v : Value), l[i]? = some v → w.cell? ⟨b, off + i, none⟩ = some v) : ValsAt w (some ⟨b, off, none⟩) l :=
  fun _ => ⟨b, off, rfl, hb, h⟩

theorem cpast {w : World} {o : Obj} {b i : Nat} (h : b < w.heap.size) : (w.alloc o).cell? ⟨b, i, none⟩ = w.cell? ⟨b, i, none⟩ := World.cell?_of_block (Below.heap_alloc w o b h)
theorem fpast {w : World} {o : Obj} {b i : Nat} (h : b < w.heap.size) : (w.alloc o).frozen? ⟨b, i, none⟩ = w.frozen? ⟨b, i, none⟩ := World.frozen?_of_block (Below.heap_alloc w o b h)
theorem hide {p : Prop} (h : p) : Hid p := h
theorem below_drewN {B : Nat} {a w : World} (h : Below B a w) (n : Nat) : Below B a (w.drewN n) := ⟨h.os, h.tape, h.output, h.size, h.block⟩
theorem ret_val {a b : Value} (h : a = b) : Ending.returned a = .returned b := by rw [h]
theorem ret_int {k : IntKind} {a b : Int} (h : a = b) : Ending.returned (.int k a) = .returned (.int k b) := by rw [h]
theorem ret_bool {a b : Bool} (h : a = b) : Ending.returned (.bool a) = .returned (.bool b) := by rw [h]

/-- 64 bit numbers -/
def i64ok (n : Int) : Prop := -9223372036854775808 ≤ n ∧ n ≤ 9223372036854775807

theorem any_take_succ {α : Type} (p : α → Bool) (l : List α) (k : Nat) (x : α) (h : l[k]? = some x) : (l.take (k + 1)).any p = ((l.take k).any p || p x) := by
  rw [List.take_add_one, h]; simp
theorem any_of_take {α : Type} (p : α → Bool) (l : List α) (k : Nat) (x : α) (h : l[k]? = some x) (hp : p x = true) : l.any p = true :=
  List.any_eq_true.2 ⟨x, List.mem_of_getElem? h, hp⟩
theorem any_take_all {α : Type} (p : α → Bool) (l : List α) (k : Nat) (h : ¬ k < l.length) : (l.take k).any p = l.any p := by
  rw [List.take_of_length_le (by omega)]
theorem NodesAt.get {w : World} {A : Option Addr} {l : List Nd} (h : NodesAt w A l) {k : Nat} (hk : k < l.length) :
    ∃ b off n, A = some ⟨b, off, none⟩ ∧ b < w.heap.size ∧ l[k]? = some n ∧ n.lies w b (off + k * 6) := by
  obtain ⟨b, off, e, hb, hc⟩ := h (by intro h0; subst h0; simp at hk)
  exact ⟨b, off, l[k], e, hb, List.getElem?_eq_getElem hk, hc k _ (List.getElem?_eq_getElem hk)⟩
theorem ValsAt.get {w : World} {A : Option Addr} {l : List Value} (h : ValsAt w A l) {k : Nat} (hk : k < l.length) :
    ∃ b off v, A = some ⟨b, off, none⟩ ∧ b < w.heap.size ∧ l[k]? = some v ∧ w.cell? ⟨b, off + k, none⟩ = some v := by
  obtain ⟨b, off, e, hb, hc⟩ := h (by intro h0; subst h0; simp at hk)
  exact ⟨b, off, l[k], e, hb, List.getElem?_eq_getElem hk, hc k _ (List.getElem?_eq_getElem hk)⟩

end Go.Proofs.YtmghkonmfbpjcabDoor
