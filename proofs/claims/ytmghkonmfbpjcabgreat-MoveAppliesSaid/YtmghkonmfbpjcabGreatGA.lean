/- Short Words Row Node Tab Yes Lift ArgP Tm ArgT ArgB Least. -/
import Derived.Deep.RegionHeld
import Derived.WalkKit
import Derived.Below
import Derived.Deep.Draws
import Derived.Laws.OwnMore
import Derived.ArgAppend
import Derived.Laws.AppendOwn
import Derived.Maps.AppendAt
import Derived.Deep.AppendLies
import Derived.Laws.MakeOwn
import Derived.ProofKit
import Derived.Carry
import Derived.Deep.Slices
import Derived.Deep.Fields
import Derived.ChangeSame
import Derived.Test.YtmghkonmfbpjcabGreatChecked
set_option linter.unusedVariables false
set_option linter.unusedSimpArgs false
set_option maxRecDepth 100000
namespace Go.Proofs.YtmghkonmfbpjcabGreat
section

open Go.RowKit
theorem Sz : (∀ (w : World) (o : Obj), (w.alloc o).heap.size = w.heap.size + 1) ∧ (∀ (w : World) (a : Addr) (v : Value), (w.setCell a v).heap.size = w.heap.size) ∧ (∀ w : World, w.drew.heap.size = w.heap.size) ∧ ∀ (w : World) (n : Nat), (w.drewN n).heap = w.heap :=
  ⟨World.size_alloc, World.size_setCell, World.size_drew, World.heap_drewN⟩
theorem Nm : (∀ (α : Type) (xs : List α) (i : Nat) (h : i < xs.toArray.size), xs.toArray[i] = xs[i]) ∧ (∀ (α : Type) (a : α) (l : List α) (h : 0 < (a :: l).length), (a :: l)[0] = a) ∧ (∀ (α : Type) (a : α) (l : List α) (i : Nat) (h : i + 1 < (a :: l).length), (a :: l)[i + 1] = l[i]'(Nat.lt_of_succ_lt_succ h)) ∧
    (∀ (α : Type) (l : List α) (i : Nat) (a : α), l.toArray.setIfInBounds i a = (l.set i a).toArray) ∧ (∀ (α : Type) (x : α) (xs : List α) (a : α), (x :: xs).set 0 a = a :: xs) ∧ (∀ (α : Type) (x : α) (xs : List α) (i : Nat) (a : α), (x :: xs).set (i + 1) a = x :: xs.set i a) ∧
    (∀ (a : Act) (v : Value), a.put none v = a) ∧ ∀ (a : Act) (i : Nat) (v : Value), a.put (some i) v = { a with tmps := a.tmps.setIfInBounds i v } :=
  ⟨fun _ _ _ h => List.getElem_toArray h, fun _ => List.getElem_cons_zero, fun _ => List.getElem_cons_succ, fun _ => List.setIfInBounds_toArray, fun _ _ _ _ => List.set_cons_zero, fun _ _ _ _ _ => List.set_cons_succ, fun _ _ => rfl, fun _ _ _ => rfl⟩
theorem Yl {α : Type} : (∀ (xs : List α) (i : Nat), xs.toArray[i]? = xs[i]?) ∧ (∀ (a : α) (l : List α), (a :: l)[0]? = some a) ∧ ∀ (a : α) (i : Nat) (l : List α), (a :: l)[i + 1]? = l[i]? :=
  ⟨fun _ _ => List.getElem?_toArray, fun _ _ => List.getElem?_cons_zero, fun _ _ _ => List.getElem?_cons_succ⟩
section
variable {B C : Nat} {a w w' : World}
theorem Qa (B : Nat) (w : World) : Below B w w := Below.refl B w
theorem Qb (h : Below B a w) : Below B a w.drew := h.drew
theorem Qc (h : Below B a w) (n : Nat) : Below B a (w.drewN n) := ⟨h.os, h.tape, h.output, h.size, h.block⟩
theorem Qd (h : Below B a w) (hB : B ≤ w.heap.size) (o : Obj) : Below B a (w.alloc o) := h.alloc hB o
theorem Qe {p : Addr} (h : Below B a w) (hp : B ≤ p.block) (v : Value) : Below B a (w.setCell p v) := h.setCell hp v
theorem Qf (h : Below B a w) (h2 : Below C w w') (hB : B ≤ C) : Below B a w' := h.trans (h2.mono hB)
end
section
variable {P : Program} {ops : Array Oper} {Q : Exit → Act → World → Prop} {md : Region.Mode} {S : World → Prop} {oi : Oper} {fuel : Nat} {listed : Array Bool} {a : Act} {w : World}
theorem Ui (i : Nat) (v : Value) (hi : ops[i]? = some oi) (hc : (Region.noSelect ops && Region.free md ops listed i && (Region.ready md ops listed).contains i) = true)
    (hQ : ∀ c a w, Q (.panic c) (a.put oi.dst v) w → Q (.panic c) a w) (hg : Region.wanted oi (yielded ops a.tmps) = true) (hr : ∀ w, S w → (execOp a.eval oi).run P w = .ok (.value v) w) (hS : S w)
    (h : wpAnyH P md ops Q S fuel (listed.setIfInBounds i true) (a.put oi.dst v) w) : wpAnyH P md ops Q S (fuel + 1) listed a w := by
  simp only [Bool.and_eq_true] at hc
  exact wpAnyH_take hi hc.1.1 hc.1.2 hc.2 hQ (.inl ⟨hg, hr⟩) hS h
theorem Uq (i : Nat) (v : Value) (hi : ops[i]? = some oi) (hc : (Region.noSelect ops && Region.free md ops listed i && (Region.ready md ops listed).contains i) = true)
    (hQ : ∀ c a w, Q (.panic c) (a.put oi.dst v) w → Q (.panic c) a w) (hg : Region.wanted oi (yielded ops a.tmps) = true) (hr : ∀ w, (execOp a.eval oi).run P w = .ok (.value v) w) (hS : S w)
    (h : wpAnyH P md ops Q S fuel (listed.setIfInBounds i true) (a.put oi.dst v) w) : wpAnyH P md ops Q S (fuel + 1) listed a w :=
  Ui i v hi hc hQ hg (fun w _ => hr w) hS h
theorem Un (i : Nat) (hi : ops[i]? = some oi) (hc : (Region.noSelect ops && Region.free md ops listed i && (Region.ready md ops listed).contains i) = true)
    (hQ : ∀ c a w, Q (.panic c) (a.put oi.dst undef) w → Q (.panic c) a w) (hg : Region.wanted oi (yielded ops a.tmps) = false) (hS : S w)
    (h : wpAnyH P md ops Q S fuel (listed.setIfInBounds i true) (a.put oi.dst undef) w) : wpAnyH P md ops Q S (fuel + 1) listed a w := by
  simp only [Bool.and_eq_true] at hc
  exact wpAnyH_take hi hc.1.1 hc.1.2 hc.2 hQ (.inr ⟨hg, rfl⟩) hS h
structure Pq (Q : Exit → Act → World → Prop) : Prop where
  out : ∀ c t u ds w, Q (.panic c) ⟨t, ds⟩ w → Q (.panic c) ⟨u, ds⟩ w
theorem Pq.put (h : Pq Q) (i : Option Nat) (v : Value) (c) (a : Act) (w) : Q (.panic c) (a.put i v) w → Q (.panic c) a w := by
  cases i
  · exact id
  · exact h.out _ _ _ _ _
theorem Up (hP : ∀ c t u ds w, Q (.panic c) ⟨t, ds⟩ w → Q (.panic c) ⟨u, ds⟩ w) (h : Pq Q → wpAnyH P md ops Q S fuel listed a w) : wpAnyH P md ops Q S fuel listed a w := h ⟨hP⟩
theorem Vi (i : Nat) (v : Value) (hi : ops[i]? = some oi) (hc : (Region.noSelect ops && Region.free md ops listed i && (Region.ready md ops listed).contains i) = true)
    (hQ : Pq Q) (hg : Region.wanted oi (yielded ops a.tmps) = true) (hr : ∀ w, S w → (execOp a.eval oi).run P w = .ok (.value v) w) (hS : S w)
    (h : wpAnyH P md ops Q S fuel (listed.setIfInBounds i true) (a.put oi.dst v) w) : wpAnyH P md ops Q S (fuel + 1) listed a w := by
  simp only [Bool.and_eq_true] at hc
  exact wpAnyH_take hi hc.1.1 hc.1.2 hc.2 (fun c a w => hQ.put _ _ c a w) (.inl ⟨hg, hr⟩) hS h
theorem Vq (i : Nat) (v : Value) (hi : ops[i]? = some oi) (hc : (Region.noSelect ops && Region.free md ops listed i && (Region.ready md ops listed).contains i) = true)
    (hQ : Pq Q) (hg : Region.wanted oi (yielded ops a.tmps) = true) (hr : ∀ w, (execOp a.eval oi).run P w = .ok (.value v) w) (hS : S w)
    (h : wpAnyH P md ops Q S fuel (listed.setIfInBounds i true) (a.put oi.dst v) w) : wpAnyH P md ops Q S (fuel + 1) listed a w :=
  Vi i v hi hc hQ hg (fun w _ => hr w) hS h
theorem Vn (i : Nat) (hi : ops[i]? = some oi) (hc : (Region.noSelect ops && Region.free md ops listed i && (Region.ready md ops listed).contains i) = true)
    (hQ : Pq Q) (hg : Region.wanted oi (yielded ops a.tmps) = false) (hS : S w)
    (h : wpAnyH P md ops Q S fuel (listed.setIfInBounds i true) (a.put oi.dst undef) w) : wpAnyH P md ops Q S (fuel + 1) listed a w := by
  simp only [Bool.and_eq_true] at hc
  exact wpAnyH_take hi hc.1.1 hc.1.2 hc.2 (fun c a w => hQ.put _ _ c a w) (.inr ⟨hg, rfl⟩) hS h
theorem Rd (i : Nat) (hr : Region.ready md ops listed = [i]) (hi : ops[i]? = some oi)
    (h : ∀ K' : Act → World → Prop, Shut (∀ a w, S w → (S w → wpAnyH P md ops Q S fuel (listed.setIfInBounds i true) a w) → K' a w) → if Region.wanted oi (yielded ops a.tmps) = true then Oper.wp P oi a w K' Q else K' (a.put oi.dst undef) w) : wpAnyH P md ops Q S (fuel + 1) listed a w :=
  wpAnyH_ready hr (by simp) (AllReadyH.cons hi h AllReadyH.nil)
end
end
section
open Go.RowKit
structure Nd where
 op : Int
 d : Int
 a : Int
 b : Int
 t : Int
 e : Int
deriving DecidableEq, Inhabited
def Nd.cells (n : Nd) : List Value := [.int .i64 n.op, .int .i64 n.d, .int .i64 n.a, .int .i64 n.b, .int .i64 n.t, .int .i64 n.e]
def Nd.lies (n : Nd) (w : World) (b off : Nat) : Prop :=
 w.cell? ⟨b, off, none⟩ = some (.int .i64 n.op) ∧ w.cell? ⟨b, off + 1, none⟩ = some (.int .i64 n.d) ∧ w.cell? ⟨b, off + 2, none⟩ = some (.int .i64 n.a) ∧
 w.cell? ⟨b, off + 3, none⟩ = some (.int .i64 n.b) ∧ w.cell? ⟨b, off + 4, none⟩ = some (.int .i64 n.t) ∧ w.cell? ⟨b, off + 5, none⟩ = some (.int .i64 n.e)
def NodesAt (w : World) (A : Option Addr) (l : List Nd) : Prop :=
 l ≠ [] → ∃ b off, A = some ⟨b, off, none⟩ ∧ b < w.heap.size ∧ ∀ (i : Nat) (n : Nd), l[i]? = some n → n.lies w b (off + i * 6)
def ValsAt (w : World) (A : Option Addr) (l : List Value) : Prop :=
 l ≠ [] → ∃ b off, A = some ⟨b, off, none⟩ ∧ b < w.heap.size ∧ ∀ (i : Nat) (v : Value), l[i]? = some v → w.cell? ⟨b, off + i, none⟩ = some v
theorem bcell {B : Nat} {W w1 : World} (hb : Below B W w1) : (∀ b o, b < B → w1.cell? ⟨b, o, none⟩ = W.cell? ⟨b, o, none⟩) ∧ (∀ b o, b < B → w1.frozen? ⟨b, o, none⟩ = W.frozen? ⟨b, o, none⟩) :=
 ⟨fun b o h => hb.cell (p := ⟨b, o, none⟩) h, fun b o h => hb.frozen (p := ⟨b, o, none⟩) h⟩
theorem Nd.lies.below {n : Nd} {B : Nat} {w w' : World} {b off : Nat} (h : n.lies w b off) (hb : Below B w w') (hl : b < B) : n.lies w' b off := by (
 obtain ⟨hc, _⟩ := bcell hb
 obtain ⟨h0, h1, h2, h3, h4, h5⟩ := h
 exact ⟨(hc _ _ hl).trans h0, (hc _ _ hl).trans h1, (hc _ _ hl).trans h2, (hc _ _ hl).trans h3, (hc _ _ hl).trans h4, (hc _ _ hl).trans h5⟩)
theorem NodesAt.below {w w' : World} {A : Option Addr} {l : List Nd} (h : NodesAt w A l) (hb : Below w.heap.size w w') : NodesAt w' A l := fun hn => by (
 obtain ⟨b, off, e, hl, hc⟩ := h hn
 exact ⟨b, off, e, Nat.lt_of_lt_of_le hl hb.size, fun i n hi => (hc i n hi).below hb hl⟩)
theorem ValsAt.below {w w' : World} {A : Option Addr} {l : List Value} (h : ValsAt w A l) (hb : Below w.heap.size w w') : ValsAt w' A l := fun hn => by (
 obtain ⟨b, off, e, hl, hc⟩ := h hn
 exact ⟨b, off, e, Nat.lt_of_lt_of_le hl hb.size, fun i v hi => ((bcell hb).1 _ _ hl).trans (hc i v hi)⟩)
theorem NodesAt.mk {w : World} {b off : Nat} {l : List Nd} (hb : b < w.heap.size) (h : ∀ (i : Nat) (n : Nd), l[i]? = some n → n.lies w b (off + i * 6)) : NodesAt w (some ⟨b, off, none⟩) l :=
 fun _ => ⟨b, off, rfl, hb, h⟩
theorem ValsAt.mk {w : World} {b off : Nat} {l : List Value} (hb : b < w.heap.size) (h : ∀ (i : Nat) (v : Value), l[i]? = some v → w.cell? ⟨b, off + i, none⟩ = some v) : ValsAt w (some ⟨b, off, none⟩) l :=
 fun _ => ⟨b, off, rfl, hb, h⟩
theorem cpast {w : World} {o : Obj} {b i : Nat} (h : b < w.heap.size) : (w.alloc o).cell? ⟨b, i, none⟩ = w.cell? ⟨b, i, none⟩ := World.cell?_of_block (Below.heap_alloc w o b h)
theorem fpast {w : World} {o : Obj} {b i : Nat} (h : b < w.heap.size) : (w.alloc o).frozen? ⟨b, i, none⟩ = w.frozen? ⟨b, i, none⟩ := World.frozen?_of_block (Below.heap_alloc w o b h)
theorem hide {p : Prop} (h : p) : Hid p := h
theorem below_drewN {B : Nat} {a w : World} (h : Below B a w) (n : Nat) : Below B a (w.drewN n) := ⟨h.os, h.tape, h.output, h.size, h.block⟩
theorem ret_int {k : IntKind} {a b : Int} (h : a = b) : Ending.returned (.int k a) = .returned (.int k b) := by rw [h]
theorem ret_bool {a b : Bool} (h : a = b) : Ending.returned (.bool a) = .returned (.bool b) := by rw [h]
def i64ok (n : Int) : Prop := -9223372036854775808 ≤ n ∧ n ≤ 9223372036854775807
theorem any_take_succ {α : Type} (p : α → Bool) (l : List α) (k : Nat) (x : α) (h : l[k]? = some x) : (l.take (k + 1)).any p = ((l.take k).any p || p x) := by (
 rw [List.take_add_one, h]; simp)
theorem any_of_take {α : Type} (p : α → Bool) (l : List α) (k : Nat) (x : α) (h : l[k]? = some x) (hp : p x = true) : l.any p = true :=
 List.any_eq_true.2 ⟨x, List.mem_of_getElem? h, hp⟩
theorem any_take_all {α : Type} (p : α → Bool) (l : List α) (k : Nat) (h : ¬ k < l.length) : (l.take k).any p = l.any p := by (
 rw [List.take_of_length_le (by omega)])
theorem NodesAt.get {w : World} {A : Option Addr} {l : List Nd} (h : NodesAt w A l) {k : Nat} (hk : k < l.length) :
 ∃ b off n, A = some ⟨b, off, none⟩ ∧ b < w.heap.size ∧ l[k]? = some n ∧ n.lies w b (off + k * 6) := by (
 obtain ⟨b, off, e, hb, hc⟩ := h (by intro h0; subst h0; simp at hk)
 exact ⟨b, off, l[k], e, hb, List.getElem?_eq_getElem hk, hc k _ (List.getElem?_eq_getElem hk)⟩)
theorem ValsAt.get {w : World} {A : Option Addr} {l : List Value} (h : ValsAt w A l) {k : Nat} (hk : k < l.length) :
 ∃ b off v, A = some ⟨b, off, none⟩ ∧ b < w.heap.size ∧ l[k]? = some v ∧ w.cell? ⟨b, off + k, none⟩ = some v := by (
 obtain ⟨b, off, e, hb, hc⟩ := h (by intro h0; subst h0; simp at hk)
 exact ⟨b, off, l[k], e, hb, List.getElem?_eq_getElem hk, hc k _ (List.getElem?_eq_getElem hk)⟩)
end
section
open Go.RowKit
def Row (w : World) (base : Nat) (e : TypeId) (v : Value) (xs : List Value) : Prop :=
 (v = .slice none 0 0 ∧ xs = []) ∨
 ∃ g o cap cur, v = .slice (some ⟨g, o, none⟩) xs.length cap ∧ base ≤ g ∧ w.heap[g]? = some (.cells cur e (0, 0)) ∧ xs.length ≤ cap ∧ cap ≤ maxLen ∧ o + cap ≤ cur.size ∧
  ∀ j x, xs[j]? = some x → cur[o + j]? = some x
section
variable {w w' : World} {base : Nat} {e : TypeId} {v : Value} {xs : List Value}
theorem Row.nil_ (w : World) (base : Nat) (e : TypeId) : Row w base e (.slice none 0 0) [] := .inl ⟨rfl, rfl⟩
theorem lt_of_heap {g : Nat} {o : Obj} (h : w.heap[g]? = some o) : g < w.heap.size := by (
 rcases Nat.lt_or_ge g w.heap.size with hl | hl
 · exact hl
 · rw [Array.getElem?_eq_none hl] at h; cases h)
theorem Row.lt (h : Row w base e v xs) : ∀ k, v.ownBlock = some k → base ≤ k ∧ k < w.heap.size := by (
 rintro k hk
 rcases h with ⟨rfl, _⟩ | ⟨g, o, cap, cur, rfl, hb, hh, _⟩
 · simp [Value.ownBlock] at hk
 · (
 simp [Value.ownBlock] at hk
 subst hk
 exact ⟨hb, lt_of_heap hh⟩))
theorem Row.of_block (h : Row w base e v xs) (hk : ∀ k, v.ownBlock = some k → w'.heap[k]? = w.heap[k]?) : Row w' base e v xs := by (
 rcases h with h | ⟨g, o, cap, cur, hv, hb, hh, r⟩
 · exact .inl h
 · exact .inr ⟨g, o, cap, cur, hv, hb, (hk g (by rw [hv]; rfl)).trans hh, r⟩)
theorem Row.kept {row : Option Nat} (h : Row w base e v xs) (hg : w.grownBy w' row) (hne : v.ownBlock = none ∨ v.ownBlock ≠ row) : Row w' base e v xs :=
 h.of_block fun k hk => hg.block k (h.lt k hk).2 (by
  rcases hne with hn | hn
  · rw [hn] at hk; cases hk
  · rw [← hk]; exact hn)
theorem Row.below {B : Nat} (h : Row w base e v xs) (hb : Below B w w') (hB : ∀ k, v.ownBlock = some k → k < B) : Row w' base e v xs :=
 h.of_block fun k hk => hb.block k (hB k hk)
theorem Row.below' (h : Row w base e v xs) (hb : Below w.heap.size w w') : Row w' base e v xs :=
 h.of_block fun k hk => hb.block k (h.lt k hk).2
theorem Row.alloc (h : Row w base e v xs) (o : Obj) : Row (w.alloc o) base e v xs := h.of_block fun k hk => Below.heap_alloc w o k (h.lt k hk).2
theorem Row.drew (h : Row w base e v xs) : Row w.drew base e v xs := h
theorem Row.drewN (h : Row w base e v xs) (n : Nat) : Row (w.drewN n) base e v xs := h
theorem Row.far (h : Row w base e v xs) {p : Addr} (hp : v.ownBlock ≠ some p.block) (u : Value) : Row (w.setCell p u) base e v xs :=
 h.of_block fun k hk => Below.heap_setCell w p u k (by rintro rfl; exact hp hk)
theorem Row.mono {base' : Nat} (h : Row w base e v xs) (hb : base' ≤ base) : Row w base' e v xs := by (
 rcases h with h | ⟨g, o, cap, cur, hv, hg, r⟩
 · exact .inl h
 · exact .inr ⟨g, o, cap, cur, hv, Nat.le_trans hb hg, r⟩)
theorem Row.shape (h : Row w base e v xs) : ∃ A cap, v = .slice A xs.length cap ∧ xs.length ≤ cap ∧ cap ≤ maxLen := by (
 rcases h with ⟨rfl, rfl⟩ | ⟨g, o, cap, cur, rfl, _, _, hc, hm, _⟩
 · exact ⟨none, 0, rfl, Nat.le_refl _, Nat.zero_le _⟩
 · exact ⟨_, cap, rfl, hc, hm⟩)
theorem Row.vals {A : Option Addr} {n cap : Nat} (h : Row w base e (.slice A n cap) xs) : ValsAt w A xs := fun hn => by (
 rcases h with ⟨_, rfl⟩ | ⟨g, o, cap, cur, hv, hb, hh, _, _, _, hc⟩
 · exact absurd rfl hn
 · (
 injection hv with hA
 subst hA
 refine ⟨g, o, rfl, lt_of_heap hh, fun i x hi => ?_⟩
 have := hc i x hi
 simp [World.cell?, hh, this]))
theorem Row.get (h : Row w base e v xs) {k : Nat} (hk : k < xs.length) :
 ∃ g o cap x, v = .slice (some ⟨g, o, none⟩) xs.length cap ∧ base ≤ g ∧ g < w.heap.size ∧ xs[k]? = some x ∧ w.cell? ⟨g, o + k, none⟩ = some x ∧ w.frozen? ⟨g, o + k, none⟩ = false := by (
 rcases h with ⟨_, rfl⟩ | ⟨g, o, cap, cur, rfl, hb, hh, _, _, _, hc⟩
 · simp at hk
 · (
 have hx : xs[k]? = some xs[k] := List.getElem?_eq_getElem hk
 exact ⟨g, o, cap, xs[k], rfl, hb, lt_of_heap hh, hx, by simp [World.cell?, hh, hc k _ hx], by simp [World.frozen?, hh]⟩))
theorem heap_setCell_own {c : Array Value} {t : TypeId} {fr : Nat × Nat} {g o : Nat} (h : w.heap[g]? = some (.cells c t fr)) (u : Value) :
 (w.setCell ⟨g, o, none⟩ u).heap[g]? = some (.cells (c.setIfInBounds o u) t fr) := by (
 simp [World.setCell, Array.getElem?_modify, h])
theorem Row.store {g o n cap : Nat} (h : Row w base e (.slice (some ⟨g, o, none⟩) n cap) xs) (k : Nat) (u : Value) :
 Row (w.setCell ⟨g, o + k, none⟩ u) base e (.slice (some ⟨g, o, none⟩) n cap) (xs.set k u) := by (
 rcases h with ⟨hv, _⟩ | ⟨g', o', cap', cur, hv, hb, hh, h1, h2, h3, hc⟩
 · cases hv
 · (
 injection hv with hA hn hcp
 injection hA with hA
 injection hA with hg ho
 subst hg ho hn hcp
 refine .inr ⟨g, o, cap, _, by simp, hb, heap_setCell_own hh u, by simpa using h1, h2, by simpa using h3, fun j x hj => ?_⟩
 rw [List.getElem?_set] at hj
 rw [Array.getElem?_setIfInBounds]
 split at hj
 · (
 rename_i he
 subst he
 split at hj
 · (
 rename_i hk
 simp only [↓reduceIte]
 rw [if_pos (by omega)]
 exact hj)
 · cases hj)
 · (
 rename_i he
 rw [if_neg (by omega)]
 exact hc j x hj)))
theorem Row.tail {g o n cap : Nat} {x : Value} (h : Row w base e (.slice (some ⟨g, o, none⟩) n cap) (x :: xs)) :
 Row w base e (.slice (some (if cap = 1 then ⟨g, o, none⟩ else ⟨g, o + 1, none⟩)) (n - 1) (cap - 1)) xs := by (
 rcases h with ⟨hv, _⟩ | ⟨g', o', cap', cur, hv, hb, hh, h1, h2, h3, hc⟩
 · cases hv
 · (
 injection hv with hA hn hcp
 injection hA with hA
 injection hA with hg ho
 subst hg ho hn hcp
 simp only [List.length_cons] at h1 ⊢
 by_cases h1c : cap = 1
 · (
 refine .inr ⟨g, o, cap - 1, cur, by simp [h1c], hb, hh, by omega, by omega, by omega, fun j x hj => ?_⟩
 have hl : xs.length = 0 := by omega
 rw [List.length_eq_zero_iff] at hl
 subst hl
 simp at hj)
 · (
 refine .inr ⟨g, o + 1, cap - 1, cur, by simp [h1c], hb, hh, by omega, by omega, by omega, fun j y hj => ?_⟩
 rw [show o + 1 + j = o + (j + 1) by omega]
 exact hc (j + 1) y (by simpa using hj))))
theorem Row.of_own {n : Nat} (h : w.ownsRow base e 1 v n xs) : Row w base e v xs := by (
 obtain ⟨hl, ⟨hv, hn⟩ | ⟨g, cap, cur, hv, hb, hh, h1, h2, h3, h4⟩⟩ := h
 · (
 subst hn
 exact .inl ⟨hv, List.eq_nil_of_length_eq_zero (by simpa using hl)⟩)
 · (
 have hn : n = xs.length := by omega
 subst hn
 refine .inr ⟨g, 0, cap, cur, hv, hb, hh, h1, h2, by omega, fun j x hj => ?_⟩
 rw [Nat.zero_add, ← Array.getElem?_toList]
 have : (cur.toList.take (xs.length * 1))[j]? = some x := by rw [h4]; exact hj
 rw [List.getElem?_take] at this
 split at this
 · exact this
 · cases this))
theorem Row.made {cs : Array Value} {n : Nat} (hb : base ≤ w.heap.size) (hn : n = cs.size) (hm : n ≤ maxLen) :
 Row (w.alloc (.cells cs e)) base e (.slice (some ⟨w.heap.size, 0, none⟩) n n) cs.toList :=
.inr ⟨w.heap.size, 0, n, cs, by simp [hn], hb, heap_alloc_new w _, by simp [hn], hm, by omega, fun j x hj => by rw [Nat.zero_add]; simpa using hj⟩
theorem setCells_heap (g : Nat) (t : TypeId) (fr : Nat × Nat) : ∀ (vs : List Value) (o : Nat) (w : World) (cur : Array Value), w.heap[g]? = some (.cells cur t fr) → o + vs.length ≤ cur.size →
 ∃ cur', (w.setCells g o vs).heap[g]? = some (.cells cur' t fr) ∧ cur'.size = cur.size ∧ (∀ j x, vs[j]? = some x → cur'[o + j]? = some x) ∧ ∀ i, i < o → cur'[i]? = cur[i]?
| [], o, w, cur, h, _ => ⟨cur, h, rfl, by simp, fun _ _ => rfl⟩
| u :: vs, o, w, cur, h, hl => by (
 simp only [List.length_cons] at hl
 obtain ⟨cur', h1, h2, h3, h4⟩ := setCells_heap g t fr vs (o + 1) (w.setCell ⟨g, o, none⟩ u) _ (heap_setCell_own h u) (by simp; omega)
 refine ⟨cur', h1, by simpa using h2, fun j x hj => ?_, fun i hi => ?_⟩
 · (
 rcases j with _ | j
 · (
 simp at hj
 subst hj
 rw [Nat.add_zero, h4 o (by omega), Array.getElem?_setIfInBounds]
 simp
 omega)
 · (
 rw [show o + (j + 1) = o + 1 + j by omega]
 exact h3 j x (by simpa using hj)))
 · rw [h4 i (by omega), Array.getElem?_setIfInBounds, if_neg (by omega)])
theorem setCells_grown (g : Nat) : ∀ (vs : List Value) (o : Nat) (w : World), w.grownBy (w.setCells g o vs) (some g)
 | [], _, w => World.grownBy.refl w _
 | u :: vs, o, w => by (
 have h1 : w.grownBy (w.setCell ⟨g, o, none⟩ u) (some g) := ⟨rfl, rfl, rfl, by simp, fun k _ hne => Below.heap_setCell w _ u k (by rintro rfl; exact hne rfl)⟩
 exact h1.trans (setCells_grown g vs (o + 1) _))
theorem run_append_row {P : Program} (t ty : TypeId) (i : TypeInfo) (z : Value) (bytes : Nat) (ht : P.underlying t = some (.slice e)) (hi : P.info? e = some i) (hz : i.zero = some z)
 (hsize : i.size = 1) (hby : i.bytes = bytes) (hzs : z.cells.size = 1) (hr : Row w base e v xs) (A : Option Addr) (c : Nat) (news : List Value) (hn : ValsAt w A news)
 (h1 : ∀ u ∈ news, u.oneCell' = true) (h63 : xs.length + news.length ≤ maxLen) (hbytes : (xs.length + news.length) * bytes ≤ 140737488355328) (hbase : base ≤ w.heap.size) :
 ∃ v' w', (Builtin.append_ #[t, t] ty #[v, .slice A news.length c]).run P w = .ok v' w' ∧ Row w' base e v' (xs ++ news) ∧ w.grownBy w' v.ownBlock ∧ (v'.ownBlock = v.ownBlock ∨ ∀ k, v'.ownBlock = some k → w.heap.size ≤ k) := by (
 by_cases hne : news = []
 · (
 subst hne
 refine ⟨v, w, ?_, by simpa using hr, World.grownBy.refl w _, .inl rfl⟩
 rcases hr with ⟨rfl, rfl⟩ | ⟨g, o, cap, cur, rfl, _, _, hnc, _⟩
 · rcases A with _ | A <;> simp [Builtin.append_, run_underlying ht, sizeOf, typeInfo, hi, Builtin.lenOf, Builtin.firstCells, loadCells, loadCellsFrom]
 · rcases A with _ | A <;> simp [Builtin.append_, run_underlying ht, sizeOf, typeInfo, hi, Builtin.lenOf, Builtin.firstCells, loadCells, loadCellsFrom, hnc, storeCells])
 · (
 obtain ⟨b, off, rfl, hb, hcell⟩ := hn hne
 have hnews : ∀ j u, news[j]? = some u → w.cell? ((⟨b, off, none⟩ : Addr).add j) = some u := fun j u hj => by rw [Addr.add_lit]; exact hcell j u hj
 rcases hr with ⟨rfl, rfl⟩ | ⟨g, o, cap, cur, rfl, hb', hh, hnc, hm, hcs, hc⟩
 · (
 obtain ⟨v', w', hrun, h2, h3, h4, h5⟩ := run_append_own_at (P := P) w base t ty e i z 1 bytes ht hi hz hsize hby hzs (by omega) (.slice none 0 0) 0 [] (World.ownsRow_nil w _ e 1) ⟨b, off, none⟩ news.length c news (by simp) hnews h1 (by simpa using h63) (by simpa using hbytes) hbase
 exact ⟨v', w', hrun, Row.of_own h2, h3, h5.imp id fun h k hk => by rw [h] at hk; injection hk with hk; omega⟩)
 · (
 by_cases hroom : xs.length + news.length ≤ cap
 · (
 have hrun := run_append_room_cells (P := P) w t ty e i ht hi g o xs.length cap ⟨b, off, none⟩ news.length c news (by rw [hsize]; simp) hnews h1 hroom
  (fun j hj => by
   rw [hsize]
   have hlt : o + xs.length * 1 + j < cur.size := by omega
   simp [World.cell?, hh]
   omega)
  (fun j hj => by simp [World.frozen?, hh])
 rw [hsize, Nat.mul_one] at hrun
 obtain ⟨cur', q1, q2, q3, q4⟩ := setCells_heap g e (0, 0) news (o + xs.length) w cur hh (by omega)
 refine ⟨_, _, hrun, .inr ⟨g, o, cap, cur', by simp, hb', q1, by simpa using hroom, hm, by omega, fun j x hj => ?_⟩, setCells_grown g news _ w, .inl rfl⟩
 rw [List.getElem?_append] at hj
 split at hj
 · (
 rename_i hjl
 rw [q4 _ (by omega)]
 exact hc j x hj)
 · (
 rename_i hjl
 rw [show o + j = o + xs.length + (j - xs.length) by omega]
 exact q3 _ x hj))
 · (
 have holds : ∀ j u, xs[j]? = some u → w.cell? ((⟨g, o, none⟩ : Addr).add j) = some u := fun j u hj => by (
 rw [Addr.add_lit]
 simp [World.cell?, hh, hc j u hj])
 obtain ⟨v', w', hrun, h2, h3⟩ := run_append_arg_grows (P := P) w t ty e i z 1 bytes ht hi hz hsize hby hzs (by omega) ⟨g, o, none⟩ xs.length cap xs (by simp) holds ⟨b, off, none⟩ news.length c news (by simp) hnews (by omega) h63 hbytes
 have hr' := Row.of_own h2
 exact ⟨v', w', hrun, hr'.mono hbase, ⟨h3.os, h3.tape, h3.output, h3.size, fun k hk _ => h3.block k hk (by simp)⟩, .inr fun k hk => (hr'.lt k hk).1⟩))))
theorem wp_append_row {P : Program} {o : Oper} {a : Act} {K : Act → World → Prop} {Q : Exit → Act → World → Prop} (s x : Operand) (t : TypeId)
 (ho : o.op = .call { callee := .builtin .append, args := #[s, x], argTypes := #[t, t] })
 (i : TypeInfo) (z : Value) (bytes : Nat) (ht : P.underlying t = some (.slice e)) (hi : P.info? e = some i) (hz : i.zero = some z)
 (hsize : i.size = 1) (hby : i.bytes = bytes) (hzs : z.cells.size = 1) (hs : a.eval s = v) (hr : Row w base e v xs) (A : Option Addr) (n c : Nat) (news : List Value) (hx : a.eval x = .slice A n c)
 (hnl : n = news.length) (hn : ValsAt w A news)
 (h1 : ∀ u ∈ news, u.oneCell' = true) (h63 : xs.length + news.length ≤ maxLen) (hbytes : (xs.length + news.length) * bytes ≤ 140737488355328) (hbase : base ≤ w.heap.size)
 (h : ∀ v' w', Row w' base e v' (xs ++ news) → w.grownBy w' v.ownBlock → (v'.ownBlock = v.ownBlock ∨ ∀ k, v'.ownBlock = some k → w.heap.size ≤ k) → K (a.put o.dst v') w') : o.wp P a w K Q := by (
 subst hnl
 obtain ⟨v', w', hrun, h2, h3, h4⟩ := run_append_row (P := P) t o.type i z bytes ht hi hz hsize hby hzs hr A c news hn h1 h63 hbytes hbase
 unfold Oper.wp execOp
 simp only [ho, resolve, invoke, builtin, Sem.run_bind, Sem.run_pure, Result.andThen_ok, List.map_toArray, List.map_cons, List.map_nil, hs, hx, hrun]
 exact h v' w' h2 h3 h4)
theorem wpList_append_row {P : Program} {ops : Array Oper} {rest : List Oper} {o : Oper} {a : Act} {Q : Exit → Act → World → Prop} (hgd : o.guard = none) (s x : Operand) (t : TypeId)
 (ho : o.op = .call { callee := .builtin .append, args := #[s, x], argTypes := #[t, t] })
 (i : TypeInfo) (z : Value) (bytes : Nat) (ht : P.underlying t = some (.slice e)) (hi : P.info? e = some i) (hz : i.zero = some z)
 (hsize : i.size = 1) (hby : i.bytes = bytes) (hzs : z.cells.size = 1) (hs : a.eval s = v) (hr : Row w base e v xs) (A : Option Addr) (n c : Nat) (news : List Value) (hx : a.eval x = .slice A n c)
 (hnl : n = news.length) (hn : ValsAt w A news)
 (h1 : ∀ u ∈ news, u.oneCell' = true) (h63 : xs.length + news.length ≤ maxLen) (hbytes : (xs.length + news.length) * bytes ≤ 140737488355328) (hbase : base ≤ w.heap.size)
 (h : ∀ v' w', Row w' base e v' (xs ++ news) → w.grownBy w' v.ownBlock → (v'.ownBlock = v.ownBlock ∨ ∀ k, v'.ownBlock = some k → w.heap.size ≤ k) → wpList P ops Q rest (a.put o.dst v') w') :
 wpList P ops Q (o :: rest) a w :=
 wpList_plain hgd fun _ hK => wp_append_row s x t ho i z bytes ht hi hz hsize hby hzs hs hr A n c news hx hnl hn h1 h63 hbytes hbase fun v' w' h2 h3 h4=> hK _ _ (h v' w' h2 h3 h4)
theorem step_append_row {P : Program} {ops : Array Oper} {o : Oper} {a : Act} {K : Act → World → Prop} {Q : Exit → Act → World → Prop} {E : Prop} (hgd : o.guard = none) (s x : Operand) (t : TypeId)
 (ho : o.op = .call { callee := .builtin .append, args := #[s, x], argTypes := #[t, t] })
 (i : TypeInfo) (z : Value) (bytes : Nat) (ht : P.underlying t = some (.slice e)) (hi : P.info? e = some i) (hz : i.zero = some z)
 (hsize : i.size = 1) (hby : i.bytes = bytes) (hzs : z.cells.size = 1) (hs : a.eval s = v) (hr : Row w base e v xs) (A : Option Addr) (n c : Nat) (news : List Value) (hx : a.eval x = .slice A n c)
 (hnl : n = news.length) (hn : ValsAt w A news)
 (h1 : ∀ u ∈ news, u.oneCell' = true) (h63 : xs.length + news.length ≤ maxLen) (hbytes : (xs.length + news.length) * bytes ≤ 140737488355328) (hbase : base ≤ w.heap.size)
 (h : ∀ v' w', Row w' base e v' (xs ++ news) → w.grownBy w' v.ownBlock → (v'.ownBlock = v.ownBlock ∨ ∀ k, v'.ownBlock = some k → w.heap.size ≤ k) → K (a.put o.dst v') w') :
 if Region.wanted o (yielded ops a.tmps) = true then Oper.wp P o a w K Q else E := by (
 have hw : Region.wanted o (yielded ops a.tmps) = true := by simp [Region.wanted, hgd]
 rw [if_pos hw]
 exact wp_append_row s x t ho i z bytes ht hi hz hsize hby hzs hs hr A n c news hx hnl hn h1 h63 hbytes hbase h)
theorem vals_one (w : World) (x : Value) (t : TypeId) : ValsAt (w.alloc (.cells #[x] t)) (some ⟨w.heap.size, 0, none⟩) [x] :=
 ValsAt.mk (by simp) fun i v hi => by (
 rcases i with _ | i
 · (
 simp at hi
 subst hi
 simp)
 · simp at hi)
theorem ValsAt.nil {A : Option Addr} : ValsAt w A [] := fun h => absurd rfl h
end
theorem Row.lit1 {w : World} {base g : Nat} {e : TypeId} {x : Value} (h : g = w.heap.size) (hb : base ≤ w.heap.size) : Row (w.alloc (.cells #[x] e)) base e (.slice (some ⟨g, 0, none⟩) 1 1) [x] := by (
 subst h
 exact Row.made hb (by simp) (by unfold maxLen; omega))
theorem vals_one' {w : World} {x : Value} {t : TypeId} {g : Nat} (h : g = w.heap.size) : ValsAt (w.alloc (.cells #[x] t)).drew (some ⟨g, 0, none⟩) [x] := by subst h; exact vals_one w x t
end
section
open Go.RowKit
def inB (n lo hi : Int) : Bool := decide (lo ≤ n) && decide (n ≤ hi)
def opOk (op : Int) : Bool := inB op 0 12
def hasD (op : Int) : Bool := inB op 1 9
def hasA (op : Int) : Bool := inB op 2 8 || inB op 10 12
def hasB (op : Int) : Bool := inB op 3 8
def isSet (op : Int) : Bool := op == 1
def hasT (op : Int) : Bool := op != 12
def hasE (op : Int) : Bool := op == 11
def shT (op : Int) : Bool := opOk op && op != 12
def exitsL (n : Nd) : List Int := if n.op = 12 then [] else if n.op = 11 ∧ n.e ≠ n.t then [n.t, n.e] else [n.t]
theorem exitsL_len (n : Nd) : (exitsL n).length ≤ 2 := by (
 unfold exitsL
 split
 · simp
 · split <;> simp)
def okR (regs n : Int) (has : Bool) : Bool := !has || (decide (0 ≤ n) && decide (n < regs))
def okN (len n : Int) (has : Bool) : Bool := !has || (decide (1 ≤ n) && decide (n < len))
def okF (n : Int) (has : Bool) : Bool := has || n == 0
def badR (regs len : Int) (n : Nd) : Bool := !okR regs n.d (hasD n.op) || !okR regs n.a (hasA n.op) || !okR regs n.b (hasB n.op) || !okN len n.t (shT n.op) || !okN len n.e (hasE n.op)
def badF (n : Nd) : Bool := !okF n.d (hasD n.op) || !okF n.a (hasA n.op || isSet n.op) || !okF n.b (hasB n.op) || !okF n.t (shT n.op) || !okF n.e (hasE n.op)
def chk (regs : Int) (l : List Nd) : Int :=
 if (l.length : Int) < 1 ∨ 256 < (l.length : Int) ∨ regs < 1 ∨ 64 < regs then 2
 else if (l.any fun n => !opOk n.op) = true then 4
 else if (l.any (badR regs l.length)) = true then 3
 else if (l.any badF) = true then 1
 else 0
def leadsB (n : Nd) (m : Int) : Bool := n.op != 12 && n.t == m || n.op == 11 && n.e == m
def sel (p : Nat → Bool) (k : Nat) : List Int := ((List.range k).filter p).map Int.ofNat
theorem sel_succ_true {p : Nat → Bool} {k : Nat} (h : p k = true) : sel p (k + 1) = sel p k ++ [(k : Int)] := by (
 simp [sel, List.range_succ, List.filter_append, h])
theorem sel_succ_false {p : Nat → Bool} {k : Nat} (h : p k = false) : sel p (k + 1) = sel p k := by (
 simp [sel, List.range_succ, List.filter_append, h])
theorem sel_len (p : Nat → Bool) (k : Nat) : (sel p k).length ≤ k := by (
 unfold sel
 rw [List.length_map]
 have := List.length_filter_le p (List.range k)
 simpa using this)
theorem mem_sel {p : Nat → Bool} {k : Nat} {m : Int} : m ∈ sel p k ↔ ∃ i : Nat, i < k ∧ p i = true ∧ m = i := by (
 unfold sel
 simp only [List.mem_map, List.mem_filter, List.mem_range]
 constructor
 · rintro ⟨i, ⟨h1, h2⟩, rfl⟩; exact ⟨i, h1, h2, rfl⟩
 · rintro ⟨i, h1, h2, rfl⟩; exact ⟨i, ⟨h1, h2⟩, rfl⟩)
def nextP (l : List Nd) (n : Nat) (m : Nat) : Bool := match l[n]? with | some x => leadsB x m | none => false
def aheadP (l : List Nd) (n : Nat) (m : Nat) : Bool := match l[m]? with | some x => leadsB x n | none => false
theorem nextP_eq {l : List Nd} {n : Nat} {x : Nd} (h : l[n]? = some x) (m : Nat) : nextP l n m = leadsB x m := by simp [nextP, h]
theorem aheadP_eq {l : List Nd} {n m : Nat} {x : Nd} (h : l[m]? = some x) : aheadP l n m = leadsB x n := by simp [aheadP, h]
structure Right (regs : Int) (l : List Nd) : Prop where
 lo : 1 ≤ l.length
 hi : l.length ≤ 256
 rlo : 1 ≤ regs
 rhi : regs ≤ 64
 ok : ∀ n ∈ l, opOk n.op = true
 rng : ∀ n ∈ l, badR regs l.length n = false
 frm : ∀ n ∈ l, badF n = false
theorem right_of_chk {regs : Int} {l : List Nd} (h : chk regs l = 0) : Right regs l := by (
 unfold chk at h
 split at h
 · cases h
 · (
 rename_i h1
 split at h
 · cases h
 · (
 rename_i h2
 split at h
 · cases h
 · (
 rename_i h3
 split at h
 · cases h
 · (
 rename_i h4
 refine ⟨by omega, by omega, by omega, by omega, fun n hn => ?_, fun n hn => ?_, fun n hn => ?_⟩
 · (
 have := List.any_eq_false.1 (Bool.not_eq_true _ ▸ h2) n hn
 simpa using this)
 · (
 have := List.any_eq_false.1 (Bool.not_eq_true _ ▸ h3) n hn
 simpa using this)
 · (
 have := List.any_eq_false.1 (Bool.not_eq_true _ ▸ h4) n hn
 simpa using this))))))
theorem Right.then_ {regs : Int} {l : List Nd} (h : Right regs l) {n : Nd} (hn : n ∈ l) (h12 : n.op ≠ 12) : 1 ≤ n.t ∧ n.t < l.length := by (
 have h1 := h.rng n hn
 have h2 := h.ok n hn
 simp only [badR, Bool.or_eq_false_iff, Bool.not_eq_false'] at h1
 have h3 := h1.1.2
 have h4 : shT n.op = true := by simp [shT, h2, h12]
 simpa [okN, h4] using h3)
theorem Right.else_ {regs : Int} {l : List Nd} (h : Right regs l) {n : Nd} (hn : n ∈ l) (h11 : n.op = 11) : 1 ≤ n.e ∧ n.e < l.length := by (
 have h1 := h.rng n hn
 simp only [badR, Bool.or_eq_false_iff, Bool.not_eq_false'] at h1
 have h3 := h1.2
 have h4 : hasE n.op = true := by simp [hasE, h11]
 simpa [okN, h4] using h3)
theorem mem_exitsL {n : Nd} {m : Int} : m ∈ exitsL n ↔ leadsB n m = true := by (
 unfold exitsL leadsB
 simp only [Bool.or_eq_true, Bool.and_eq_true, bne_iff_ne, beq_iff_eq, ne_eq]
 split
 · (
 constructor
 · intro h; cases h
 · omega)
 · (
 split
 · (
 simp only [List.mem_cons, List.not_mem_nil, or_false]
 omega)
 · (
 simp only [List.mem_cons, List.not_mem_nil, or_false]
 omega)))
theorem Right.exits {regs : Int} {l : List Nd} (h : Right regs l) (k : Nat) (n : Nd) (hk : l[k]? = some n) : ∀ m ∈ exitsL n, 0 ≤ m ∧ m < l.length := by (
 have hn := List.mem_of_getElem? hk
 intro m hm
 rw [mem_exitsL] at hm
 simp only [leadsB, Bool.or_eq_true, Bool.and_eq_true, bne_iff_ne, beq_iff_eq, ne_eq] at hm
 rcases hm with ⟨h1, h2⟩ | ⟨h1, h2⟩
 · have := h.then_ hn h1; omega
 · have := h.else_ hn h1; omega)
end
section
open Go.RowKit
def Blk (w : World) (g : Nat) (t : TypeId) (cs : Array Value) : Prop := w.heap[g]? = some (.cells cs t (0, 0))
section
variable {w w' : World} {g : Nat} {t : TypeId} {cs : Array Value}
theorem Blk.lt (h : Blk w g t cs) : g < w.heap.size := lt_of_heap h
theorem Blk.cell (h : Blk w g t cs) (i : Nat) : w.cell? ⟨g, i, none⟩ = cs[i]? := by unfold Blk at h; simp [World.cell?, h]
theorem Blk.frozen (h : Blk w g t cs) (i : Nat) : w.frozen? ⟨g, i, none⟩ = false := by unfold Blk at h; simp [World.frozen?, h]
theorem Blk.new (w : World) (t : TypeId) (cs : Array Value) : Blk (w.alloc (.cells cs t)) w.heap.size t cs := heap_alloc_new w _
theorem Blk.alloc (h : Blk w g t cs) (o : Obj) : Blk (w.alloc o) g t cs := (Below.heap_alloc w o g h.lt).trans h
theorem Blk.drewN (h : Blk w g t cs) (n : Nat) : Blk (w.drewN n) g t cs := h
theorem Blk.drew (h : Blk w g t cs) : Blk w.drew g t cs := h
theorem Blk.set_ (h : Blk w g t cs) (i : Nat) (u : Value) : Blk (w.setCell ⟨g, i, none⟩ u) g t (cs.setIfInBounds i u) := heap_setCell_own h u
theorem Blk.far (h : Blk w g t cs) {p : Addr} (hp : g ≠ p.block) (u : Value) : Blk (w.setCell p u) g t cs := (Below.heap_setCell w p u g hp).trans h
theorem Blk.below {B : Nat} (h : Blk w g t cs) (hb : Below B w w') (hg : g < B) : Blk w' g t cs := (hb.block g hg).trans h
theorem Blk.grown {row : Option Nat} (h : Blk w g t cs) (hb : w.grownBy w' row) (hg : row ≠ some g) : Blk w' g t cs := (hb.block g h.lt (fun e => hg e.symm)).trans h
theorem Blk.ne_ {g' : Nat} {t' : TypeId} {cs' : Array Value} (h : Blk w g t cs) (h' : Blk w g' t' cs') (hne : t ≠ t') : g ≠ g' := by (
 rintro rfl
 unfold Blk at h h'
 rw [h] at h'
 injection h' with h'
 injection h' with _ ht
 exact hne ht)
theorem Row.ne_blk {base : Nat} {e : TypeId} {v : Value} {xs : List Value} (h : Row w base e v xs) (hg : Blk w g t cs) (hne : e ≠ t) : v.ownBlock ≠ some g := by (
 rcases h with ⟨rfl, _⟩ | ⟨g', o, cap, cur, rfl, _, hh, _⟩
 · simp [Value.ownBlock]
 · (
 intro he
 simp [Value.ownBlock] at he
 subst he
 exact Blk.ne_ (t := e) hh hg hne rfl))
theorem Row.ne_row {base base' : Nat} {e e' : TypeId} {v u : Value} {xs ys : List Value} (h : Row w base e v xs) (h' : Row w base' e' u ys) (hne : e ≠ e') : v.ownBlock = none ∨ v.ownBlock ≠ u.ownBlock := by (
 rcases h' with ⟨rfl, _⟩ | ⟨g', o, cap, cur, rfl, _, hh, _⟩
 · (
 rcases hv : v.ownBlock with _ | k
 · exact .inl rfl
 · exact .inr (by simp [Value.ownBlock]))
 · exact .inr (h.ne_blk (cs := cur) hh hne))
theorem Row.blk {base : Nat} {e : TypeId} {g o n cap : Nat} {xs : List Value} (h : Row w base e (.slice (some ⟨g, o, none⟩) n cap) xs) : ∃ cs, Blk w g e cs := by (
 rcases h with ⟨h, _⟩ | ⟨g', o', cap', cur, hv, _, hh, _⟩
 · cases h
 · (
 injection hv with hA
 injection hA with hA
 injection hA with hg
 subst hg
 exact ⟨cur, hh⟩))
end
def upd {α : Type} (f : Nat → α) (i : Nat) (x : α) : Nat → α := fun j => if j = i then x else f j
theorem upd_same {α : Type} (f : Nat → α) (i : Nat) (x : α) : upd f i x i = x := by simp [upd]
theorem upd_other {α : Type} (f : Nat → α) {i j : Nat} (x : α) (h : j ≠ i) : upd f i x j = f j := by simp [upd, h]
def Tab (w : World) (base : Nat) (e : TypeId) (N : Nat) (vs : Nat → Value) (xs : Nat → List Value) : Prop :=
 (∀ i, i < N → Row w base e (vs i) (xs i)) ∧ ∀ i j, i < N → j < N → i ≠ j → (vs i).ownBlock = none ∨ (vs i).ownBlock ≠ (vs j).ownBlock
section
variable {w w' : World} {base N : Nat} {e : TypeId} {vs : Nat → Value} {xs : Nat → List Value}
theorem Tab.below (h : Tab w base e N vs xs) (hb : Below w.heap.size w w') : Tab w' base e N vs xs := ⟨fun i hi => (h.1 i hi).below' hb, h.2⟩
theorem Tab.alloc (h : Tab w base e N vs xs) (o : Obj) : Tab (w.alloc o) base e N vs xs := ⟨fun i hi => (h.1 i hi).alloc o, h.2⟩
theorem Tab.drew (h : Tab w base e N vs xs) : Tab w.drew base e N vs xs := h
theorem Tab.drewN (h : Tab w base e N vs xs) (n : Nat) : Tab (w.drewN n) base e N vs xs := h
theorem Tab.far (h : Tab w base e N vs xs) {p : Addr} {t : TypeId} {cs : Array Value} (hp : Blk w p.block t cs) (hne : e ≠ t) (u : Value) : Tab (w.setCell p u) base e N vs xs :=
 ⟨fun i hi => (h.1 i hi).far ((h.1 i hi).ne_blk hp hne) u, h.2⟩
theorem Tab.nils (w : World) (base : Nat) (e : TypeId) (N : Nat) : Tab w base e N (fun _ => .slice none 0 0) (fun _ => []) := ⟨fun _ _ => Row.nil_ w base e, fun _ _ _ _ _ => .inl rfl⟩
theorem Tab.put (h : Tab w base e N vs xs) {i : Nat} (hi : i < N) {v' : Value} {ys : List Value} (hr : Row w' base e v' ys) (hg : w.grownBy w' (vs i).ownBlock)
 (hb : v'.ownBlock = (vs i).ownBlock ∨ ∀ k, v'.ownBlock = some k → w.heap.size ≤ k) : Tab w' base e N (upd vs i v') (upd xs i ys) := by (
 refine ⟨fun j hj => ?_, fun j k hj hk hne => ?_⟩
 · (
 by_cases hji : j = i
 · subst hji; rw [upd_same, upd_same]; exact hr
 · (
 rw [upd_other _ _ hji, upd_other _ _ hji]
 exact (h.1 j hj).kept hg (h.2 j i hj hi hji)))
 · (
 by_cases hji : j = i
 · (
 subst hji
 rw [upd_same, upd_other _ _ (Ne.symm hne)]
 rcases hv : v'.ownBlock with _ | b
 · exact .inl rfl
 · (
 refine .inr fun he => ?_
 rcases hb with hb | hb
 · (
 rw [hv] at hb
 rcases h.2 j k hj hk hne with h0 | h0
 · rw [h0] at hb; cases hb
 · exact h0 (hb.symm.trans he))
 · (
 have := hb b hv
 have := ((h.1 k hk).lt b he.symm).2
 omega)))
 · (
 rw [upd_other _ _ hji]
 by_cases hki : k = i
 · (
 subst hki
 rw [upd_same]
 rcases hb with hb | hb
 · rw [hb]; exact h.2 j k hj hk hne
 · (
 rcases hv : (vs j).ownBlock with _ | b
 · exact .inl rfl
 · (
 refine .inr fun he => ?_
 have := hb b he.symm
 have := ((h.1 j hj).lt b hv).2
 omega)))
 · (
 rw [upd_other _ _ hki]
 exact h.2 j k hj hk hne))))
end
def ints (l : List Int) : List Value := l.map (Value.int .i64)
theorem ints_append (a b : List Int) : ints (a ++ b) = ints a ++ ints b := List.map_append
theorem ints_length (a : List Int) : (ints a).length = a.length := List.length_map _
theorem ints_get (a : List Int) (k : Nat) : (ints a)[k]? = a[k]?.map (Value.int .i64) := List.getElem?_map
def fst (back : Bool) (i : Nat) (m : Int) : Int := if back then (i : Int) else m
def snd (back : Bool) (i : Nat) (m : Int) : Int := if back then m else (i : Int)
structure Edges (back : Bool) (n : Nat) (PE : Nat → Int → Prop) (xs : Nat → List Int) : Prop where
 asks : ∀ a, a < n → ∀ b : Int, b ∈ xs a ↔ ∃ i m, PE i m ∧ (a : Int) = fst back i m ∧ b = snd back i m
 asked : ∀ b, b < n → ∀ a : Int, a ∈ xs (n + b) ↔ ∃ i m, PE i m ∧ a = fst back i m ∧ (b : Int) = snd back i m
theorem Edges.start (back : Bool) (n : Nat) : Edges back n (fun _ _ => False) (fun _ => []) :=
 ⟨fun a _ b => by
  constructor
  · intro h; cases h
  · rintro ⟨_, _, h, _⟩; exact h.elim, fun a _ b => by
  constructor
  · intro h; cases h
  · rintro ⟨_, _, h, _⟩; exact h.elim⟩
theorem Edges.congr {back : Bool} {n : Nat} {PE PE' : Nat → Int → Prop} {xs : Nat → List Int} (h : Edges back n PE xs) (he : ∀ i m, PE i m ↔ PE' i m) : Edges back n PE' xs :=
 ⟨fun a ha b => (h.asks a ha b).trans ⟨fun ⟨i, m, hp, r⟩ => ⟨i, m, (he i m).1 hp, r⟩, fun ⟨i, m, hp, r⟩ => ⟨i, m, (he i m).2 hp, r⟩⟩,
  fun a ha b => (h.asked a ha b).trans ⟨fun ⟨i, m, hp, r⟩ => ⟨i, m, (he i m).1 hp, r⟩, fun ⟨i, m, hp, r⟩ => ⟨i, m, (he i m).2 hp, r⟩⟩⟩
theorem Edges.step {back : Bool} {n : Nat} {PE : Nat → Int → Prop} {xs : Nat → List Int} (h : Edges back n PE xs) (k : Nat) (m : Int) (a b : Nat) (ha : a < n) (hb : b < n)
 (hfa : (a : Int) = fst back k m) (hfb : (b : Int) = snd back k m) :
 Edges back n (fun i m' => PE i m' ∨ (i = k ∧ m' = m)) (upd (upd xs a (xs a ++ [(b : Int)])) (n + b) (xs (n + b) ++ [(a : Int)])) := by (
 refine ⟨fun a' ha' b' => ?_, fun b' hb' a' => ?_⟩
 · (
 rw [upd_other _ _ (show a' ≠ n + b by omega)]
 by_cases he : a' = a
 · (
 subst he
 rw [upd_same, List.mem_append, h.asks a' ha' b', List.mem_singleton]
 constructor
 · (
 rintro (⟨i, m', hp, r⟩ | rfl)
 · exact ⟨i, m', .inl hp, r⟩
 · exact ⟨k, m, .inr ⟨rfl, rfl⟩, hfa, hfb⟩)
 · (
 rintro ⟨i, m', hp | ⟨rfl, rfl⟩, r1, r2⟩
 · exact .inl ⟨i, m', hp, r1, r2⟩
 · exact .inr (r2.trans hfb.symm)))
 · (
 rw [upd_other _ _ he, h.asks a' ha' b']
 constructor
 · rintro ⟨i, m', hp, r⟩; exact ⟨i, m', .inl hp, r⟩
 · (
 rintro ⟨i, m', hp | ⟨rfl, rfl⟩, r1, r2⟩
 · exact ⟨i, m', hp, r1, r2⟩
 · exact absurd (by have := r1.trans hfa.symm; omega) he)))
 · (
 by_cases he : b' = b
 · (
 subst he
 rw [upd_same, List.mem_append, h.asked b' hb' a', List.mem_singleton]
 constructor
 · (
 rintro (⟨i, m', hp, r⟩ | rfl)
 · exact ⟨i, m', .inl hp, r⟩
 · exact ⟨k, m, .inr ⟨rfl, rfl⟩, hfa, hfb⟩)
 · (
 rintro ⟨i, m', hp | ⟨rfl, rfl⟩, r1, r2⟩
 · exact .inl ⟨i, m', hp, r1, r2⟩
 · exact .inr (r1.trans hfa.symm)))
 · (
 rw [upd_other _ _ (show n + b' ≠ n + b by omega), upd_other _ _ (show n + b' ≠ a by omega), h.asked b' hb' a']
 constructor
 · rintro ⟨i, m', hp, r⟩; exact ⟨i, m', .inl hp, r⟩
 · (
 rintro ⟨i, m', hp | ⟨rfl, rfl⟩, r1, r2⟩
 · exact ⟨i, m', hp, r1, r2⟩
 · exact absurd (by have := r2.trans hfb.symm; omega) he))))
theorem run_make1 {P : Program} (t e : TypeId) (i : TypeInfo) (z : Value) (bytes : Nat) (ht : P.underlying t = some (.slice e)) (hi : P.info? e = some i) (hz : i.zero = some z) (hsize : i.size = 1) (hby : i.bytes = bytes)
 (hb : bytes ≤ 64) (hzc : z.cells = #[z]) (n : Nat) (hn : n ≤ 65536) (w : World) :
 (Instr.makeSlice t (.int .i64 (n : Int)) (.int .i64 (n : Int))).run P w = .ok (.slice (some ⟨w.heap.size, 0, none⟩) n n) (w.alloc (.cells (madeCells #[z] n) e)) := by (
 have hbb : (i.bytes : Int) * (n : Int) ≤ 281474976710656 := by (
 have h : i.bytes * n ≤ 64 * 65536 := Nat.mul_le_mul (by omega) hn
 have h' : ((i.bytes * n : Nat) : Int) ≤ 281474976710656 := by omega
 rwa [Int.natCast_mul] at h')
 have h := run_make (P := P) w t e i z ht hi hz .i64 .i64 (n : Int) (n : Int) (by omega) (Int.le_refl _) hbb (by omega)
 simpa [hsize, hzc] using h)
theorem Row.made1 {w : World} {base : Nat} {e : TypeId} {z : Value} {n : Nat} (hb : base ≤ w.heap.size) (hm : n ≤ 65536) :
 Row (w.alloc (.cells (madeCells #[z] n) e)) base e (.slice (some ⟨w.heap.size, 0, none⟩) n n) (List.replicate n z) := by (
 have h := Row.made (w := w) (base := base) (e := e) (cs := madeCells #[z] n) (n := n) hb (by simp [size_madeCells]) (by unfold maxLen; omega)
 rwa [toList_madeCells_one] at h)
theorem Blk.new' {w : World} {g : Nat} {t : TypeId} {cs : Array Value} (h : g = w.heap.size) : Blk (w.alloc (.cells cs t)) g t cs := by (
 subst h
 exact Blk.new w t cs)
theorem Row.made1' {w : World} {base g : Nat} {e : TypeId} {z : Value} {n : Nat} (h : g = w.heap.size) (hb : base ≤ w.heap.size) (hm : n ≤ 65536) :
 Row (w.alloc (.cells (madeCells #[z] n) e)) base e (.slice (some ⟨g, 0, none⟩) n n) (List.replicate n z) := by (
 subst h
 exact Row.made1 hb hm)
theorem Tab.sub {w : World} {base N M : Nat} {e : TypeId} {vs : Nat → Value} {xs : Nat → List Value} (h : Tab w base e N vs xs) (hM : M ≤ N) : Tab w base e M vs xs :=
 ⟨fun i hi => h.1 i (by omega), fun i j hi hj => h.2 i j (by omega) (by omega)⟩
theorem Tab.row {w : World} {base N : Nat} {e : TypeId} {vs : Nat → Value} {xs : Nat → List Value} (h : Tab w base e N vs xs) {i : Nat} (hi : i < N) : Row w base e (vs i) (xs i) := h.1 i hi
theorem Tab.add {w w' : World} {base N : Nat} {e : TypeId} {vs : Nat → Value} {xs : Nat → List Value} (h : Tab w base e N vs xs) (hb : Below w.heap.size w w') {v : Value} {ys : List Value}
 (hr : Row w' base e v ys) (hn : ∀ k, v.ownBlock = some k → w.heap.size ≤ k) : Tab w' base e (N + 1) (upd vs N v) (upd xs N ys) := by (
 have hold := h.below hb
 refine ⟨fun i hi => ?_, fun i j hi hj hne => ?_⟩
 · (
 by_cases hiN : i = N
 · subst hiN; rw [upd_same, upd_same]; exact hr
 · rw [upd_other _ _ hiN, upd_other _ _ hiN]; exact hold.1 i (by omega))
 · (
 by_cases hiN : i = N
 · (
 subst hiN
 rw [upd_same, upd_other _ _ (show j ≠ i by omega)]
 rcases hv : v.ownBlock with _ | b
 · exact .inl rfl
 · (
 refine .inr fun he => ?_
 have := hn b hv
 have := ((h.1 j (by omega)).lt b he.symm).2
 omega))
 · (
 rw [upd_other _ _ hiN]
 by_cases hjN : j = N
 · (
 subst hjN
 rw [upd_same]
 rcases hv : (vs i).ownBlock with _ | b
 · exact .inl rfl
 · (
 refine .inr fun he => ?_
 have := hn b he.symm
 have := ((h.1 i (by omega)).lt b hv).2
 omega))
 · (
 rw [upd_other _ _ hjN]
 exact h.2 i j (by omega) (by omega) hne))))
structure GInv (tG tS tI : TypeId) (B : Nat) (w : World) (G5 GA GB : Nat) (bk : Bool) (n M : Nat) (PE : Nat → Int → Prop) (cnt : Nat) (wr : World) (vs : Nat → Value) (ys : Nat → List Value) (xs : Nat → List Int) : Prop where
 g5 : Blk wr G5 tG #[.slice (some ⟨GA, 0, none⟩) n n, .slice (some ⟨GB, 0, none⟩) n n]
 ra : Row wr B tS (.slice (some ⟨GA, 0, none⟩) n n) ((List.range n).map vs)
 rb : Row wr B tS (.slice (some ⟨GB, 0, none⟩) n n) ((List.range n).map fun i => vs (n + i))
 tab : Tab wr B tI M vs ys
 ysx : ∀ i, i < 2 * n → ys i = ints (xs i)
 edges : Edges bk n PE xs
 len : ∀ i, i < 2 * n → (xs i).length ≤ cnt
 r4 : Blk wr (B + 1) tG #[.slice none 0 0, .slice none 0 0]
 below : Below B w wr
section
variable {tG tS tI : TypeId} {B : Nat} {w : World} {G5 GA GB : Nat} {bk : Bool} {n M : Nat} {PE : Nat → Int → Prop} {cnt : Nat} {wr : World} {vs : Nat → Value} {ys : Nat → List Value} {xs : Nat → List Int}
theorem GInv.alloc (h : GInv tG tS tI B w G5 GA GB bk n M PE cnt wr vs ys xs) (hB : B ≤ wr.heap.size) (o : Obj) : GInv tG tS tI B w G5 GA GB bk n M PE cnt (wr.alloc o) vs ys xs :=
 ⟨h.g5.alloc o, h.ra.alloc o, h.rb.alloc o, h.tab.alloc o, h.ysx, h.edges, h.len, h.r4.alloc o, h.below.alloc hB o⟩
theorem GInv.drew (h : GInv tG tS tI B w G5 GA GB bk n M PE cnt wr vs ys xs) : GInv tG tS tI B w G5 GA GB bk n M PE cnt wr.drew vs ys xs :=
 ⟨h.g5.drew, h.ra.drew, h.rb.drew, h.tab.drew, h.ysx, h.edges, h.len, h.r4.drew, h.below.drew⟩
theorem GInv.congr {PE' : Nat → Int → Prop} {cnt' : Nat} (h : GInv tG tS tI B w G5 GA GB bk n M PE cnt wr vs ys xs) (he : ∀ i m, PE i m ↔ PE' i m) (hc : cnt ≤ cnt') : GInv tG tS tI B w G5 GA GB bk n M PE' cnt' wr vs ys xs :=
 ⟨h.g5, h.ra, h.rb, h.tab, h.ysx, h.edges.congr he, fun i hi => Nat.le_trans (h.len i hi) hc, h.r4, h.below⟩
theorem GInv.sub {M' : Nat} (h : GInv tG tS tI B w G5 GA GB bk n M PE cnt wr vs ys xs) (hM : M' ≤ M) : GInv tG tS tI B w G5 GA GB bk n M' PE cnt wr vs ys xs :=
 ⟨h.g5, h.ra, h.rb, h.tab.sub hM, h.ysx, h.edges, h.len, h.r4, h.below⟩
end
theorem GInv.add {tG tS tI : TypeId} {B : Nat} {w : World} {G5 GA GB : Nat} {bk : Bool} {n : Nat} {PE : Nat → Int → Prop} {cnt : Nat} {wr w' : World} {vs : Nat → Value} {ys : Nat → List Value} {xs : Nat → List Int}
 (h : GInv tG tS tI B w G5 GA GB bk n (2 * n) PE cnt wr vs ys xs) (hB : B ≤ wr.heap.size) (hb : Below wr.heap.size wr w') {v : Value} {zs : List Value} (hr : Row w' B tI v zs) (hn : ∀ k, v.ownBlock = some k → wr.heap.size ≤ k) :
 GInv tG tS tI B w G5 GA GB bk n (2 * n + 1) PE cnt w' (upd vs (2 * n) v) (upd ys (2 * n) zs) xs :=
⟨h.g5.below hb h.g5.lt, by
 have := h.ra.below' hb
 rwa [show (List.range n).map (upd vs (2 * n) v) = (List.range n).map vs from List.map_congr_left fun i hi => upd_other _ _ (by have := List.mem_range.1 hi; omega)], by
 have := h.rb.below' hb
 rwa [show ((List.range n).map fun i => upd vs (2 * n) v (n + i)) = (List.range n).map fun i => vs (n + i) from List.map_congr_left fun i hi => upd_other _ _ (by have := List.mem_range.1 hi; omega)],
 h.tab.add hb hr hn, fun i hi=> by rw [upd_other _ _ (by omega)]; exact h.ysx i hi, h.edges, h.len, h.r4.below hb h.r4.lt, h.below.trans (hb.mono hB)⟩
theorem tabcell {w : World} {B g n : Nat} {e : TypeId} {vs : Nat → Value} {i : Nat} (h : Row w B e (.slice (some ⟨g, 0, none⟩) n n) ((List.range n).map vs)) (hi : i < n) : w.cell? ⟨g, i, none⟩ = some (vs i) := by (
 obtain ⟨b, off, e, _, hc⟩ := h.vals (by intro h0; have := congrArg List.length h0; simp at this; omega)
 injection e with e
 injection e with e1 e2
 subst e1 e2
 have := hc i (vs i) (by simp [hi])
 rwa [Nat.zero_add] at this)
theorem tabfree {w : World} {B g n : Nat} {e : TypeId} {vs : Nat → Value} {i : Nat} (h : Row w B e (.slice (some ⟨g, 0, none⟩) n n) ((List.range n).map vs)) (hi : i < n) : w.frozen? ⟨g, i, none⟩ = false := by (
 obtain ⟨b, off, cap, x, e, _, _, _, _, hf⟩ := h.get (k := i) (by simpa using hi)
 injection e with e
 injection e with e
 injection e with e1 e2
 subst e1 e2
 rwa [Nat.zero_add] at hf)
theorem rowlt {w : World} {B g o n c : Nat} {e : TypeId} {xs : List Value} (h : Row w B e (.slice (some ⟨g, o, none⟩) n c) xs) : g < w.heap.size := (h.lt g rfl).2
theorem rowge {w : World} {B g o n c : Nat} {e : TypeId} {xs : List Value} (h : Row w B e (.slice (some ⟨g, o, none⟩) n c) xs) : B ≤ g := (h.lt g rfl).1
theorem map_range_set {α : Type} (vs : Nat → α) (x : α) {n i : Nat} (_hi : i < n) : ((List.range n).map vs).set i x = (List.range n).map (upd vs i x) := by (
 apply List.ext_getElem?
 intro j
 rw [List.getElem?_set]
 simp only [List.getElem?_map, List.length_map, List.length_range]
 by_cases hij : i = j
 · (
 subst hij
 simp [_hi, upd])
 · (
 rw [if_neg hij]
 by_cases hj : j < n
 · simp [hj, upd_other _ _ (Ne.symm hij)]
 · simp [hj]))
theorem map_range_set' {α : Type} (vs : Nat → α) (x : α) {n i : Nat} (hi : i < n) : ((List.range n).map fun j => vs (n + j)).set i x = (List.range n).map fun j => upd vs (n + i) x (n + j) := by (
 rw [map_range_set (fun j => vs (n + j)) x hi]
 refine List.map_congr_left fun j _ => ?_
 unfold upd
 by_cases h : j = i
 · simp [h]
 · rw [if_neg h, if_neg (by omega)])
structure GTab (tG tS tI : TypeId) (B : Nat) (w : World) (G5 GA GB : Nat) (n M : Nat) (wr : World) (vs : Nat → Value) (ys : Nat → List Value) : Prop where
 g5 : Blk wr G5 tG #[.slice (some ⟨GA, 0, none⟩) n n, .slice (some ⟨GB, 0, none⟩) n n]
 ra : Row wr B tS (.slice (some ⟨GA, 0, none⟩) n n) ((List.range n).map vs)
 rb : Row wr B tS (.slice (some ⟨GB, 0, none⟩) n n) ((List.range n).map fun i => vs (n + i))
 tab : Tab wr B tI M vs ys
 r4 : Blk wr (B + 1) tG #[.slice none 0 0, .slice none 0 0]
 below : Below B w wr
section
variable {tG tS tI : TypeId} {B : Nat} {w : World} {G5 GA GB : Nat} {bk : Bool} {n M : Nat} {PE : Nat → Int → Prop} {cnt : Nat} {wr wr1 w2 : World} {vs : Nat → Value} {ys : Nat → List Value} {xs : Nat → List Int} {v1 : Value} {zs : List Value}
theorem GInv.gt (h : GInv tG tS tI B w G5 GA GB bk n M PE cnt wr vs ys xs) : GTab tG tS tI B w G5 GA GB n M wr vs ys := ⟨h.g5, h.ra, h.rb, h.tab, h.r4, h.below⟩
theorem GTab.inv (h : GTab tG tS tI B w G5 GA GB n M wr vs ys) (hy : ∀ i, i < 2 * n → ys i = ints (xs i)) (he : Edges bk n PE xs) (hl : ∀ i, i < 2 * n → (xs i).length ≤ cnt) :
 GInv tG tS tI B w G5 GA GB bk n M PE cnt wr vs ys xs := ⟨h.g5, h.ra, h.rb, h.tab, hy, he, hl, h.r4, h.below⟩
theorem GTab.later (h : GTab tG tS tI B w G5 GA GB n M wr vs ys) (hB : B ≤ wr.heap.size) (hb : Below wr.heap.size wr wr1) : GTab tG tS tI B w G5 GA GB n M wr1 vs ys :=
 ⟨h.g5.below hb h.g5.lt, h.ra.below' hb, h.rb.below' hb, h.tab.below hb, h.r4.below hb h.r4.lt, h.below.trans (hb.mono hB)⟩
theorem GTab.putA (h : GTab tG tS tI B w G5 GA GB n M wr vs ys) (n1 : tI ≠ tG) (n2 : tI ≠ tS) (n3 : tS ≠ tG) (hAB : GA ≠ GB) (hM : 2 * n ≤ M) {i : Nat} (hi : i < n)
 (hB0 : B ≤ wr.heap.size) (hr : Row w2 B tI v1 zs) (hg : wr.grownBy w2 (vs i).ownBlock) (hat : v1.ownBlock = (vs i).ownBlock ∨ ∀ k, v1.ownBlock = some k → wr.heap.size ≤ k) :
 GTab tG tS tI B w G5 GA GB n M (w2.setCell ⟨GA, i, none⟩ v1) (upd vs i v1) (upd ys i zs) := by (
 have hri := h.tab.row (i := i) (by omega)
 have a1 : (vs i).ownBlock ≠ some G5 := hri.ne_blk h.g5 n1
 have a2 : (vs i).ownBlock ≠ some (B + 1) := hri.ne_blk h.r4 n1
 obtain ⟨ca, hca⟩ := h.ra.blk
 obtain ⟨cb, hcb⟩ := h.rb.blk
 have a3 : (vs i).ownBlock ≠ some GA := hri.ne_blk hca n2
 have a4 : (vs i).ownBlock ≠ some GB := hri.ne_blk hcb n2
 have g5' := h.g5.grown hg a1
 have r4' := h.r4.grown hg a2
 have ca' := hca.grown hg a3
 have ra' := h.ra.kept hg (.inr (by simp [Value.ownBlock]; exact fun e => a3 e.symm))
 have rb' := h.rb.kept hg (.inr (by simp [Value.ownBlock]; exact fun e => a4 e.symm))
 have tab' := h.tab.put (by omega) hr hg hat
 have hB := rowge h.ra
 refine ⟨g5'.far (Blk.ne_ g5' ca' (Ne.symm n3)) _, ?_, ?_, tab'.far (p := ⟨GA, i, none⟩) ca' n2 _, r4'.far (Blk.ne_ r4' ca' (Ne.symm n3)) _, ?_⟩
 · (
 have := ra'.store i v1
 rw [Nat.zero_add] at this
 rwa [map_range_set _ _ hi] at this)
 · (
 have := rb'.far (p := ⟨GA, i, none⟩) (by simp [Value.ownBlock]; exact fun e => hAB e.symm) v1
 rwa [show ((List.range n).map fun j => upd vs i v1 (n + j)) = (List.range n).map fun j => vs (n + j) from List.map_congr_left fun j hj => upd_other _ _ (by omega)])
 · exact (h.below.grown hg hB0 fun k hk => (hri.lt k hk).1).setCell hB _)
theorem GTab.putB (h : GTab tG tS tI B w G5 GA GB n M wr vs ys) (n1 : tI ≠ tG) (n2 : tI ≠ tS) (n3 : tS ≠ tG) (hAB : GA ≠ GB) (hM : 2 * n ≤ M) {i : Nat} (hi : i < n)
 (hB0 : B ≤ wr.heap.size) (hr : Row w2 B tI v1 zs) (hg : wr.grownBy w2 (vs (n + i)).ownBlock) (hat : v1.ownBlock = (vs (n + i)).ownBlock ∨ ∀ k, v1.ownBlock = some k → wr.heap.size ≤ k) :
 GTab tG tS tI B w G5 GA GB n M (w2.setCell ⟨GB, i, none⟩ v1) (upd vs (n + i) v1) (upd ys (n + i) zs) := by (
 have hri := h.tab.row (i := n + i) (by omega)
 have a1 : (vs (n + i)).ownBlock ≠ some G5 := hri.ne_blk h.g5 n1
 have a2 : (vs (n + i)).ownBlock ≠ some (B + 1) := hri.ne_blk h.r4 n1
 obtain ⟨ca, hca⟩ := h.ra.blk
 obtain ⟨cb, hcb⟩ := h.rb.blk
 have a3 : (vs (n + i)).ownBlock ≠ some GA := hri.ne_blk hca n2
 have a4 : (vs (n + i)).ownBlock ≠ some GB := hri.ne_blk hcb n2
 have g5' := h.g5.grown hg a1
 have r4' := h.r4.grown hg a2
 have cb' := hcb.grown hg a4
 have ra' := h.ra.kept hg (.inr (by simp [Value.ownBlock]; exact fun e => a3 e.symm))
 have rb' := h.rb.kept hg (.inr (by simp [Value.ownBlock]; exact fun e => a4 e.symm))
 have tab' := h.tab.put (by omega) hr hg hat
 have hB := rowge h.rb
 refine ⟨g5'.far (Blk.ne_ g5' cb' (Ne.symm n3)) _, ?_, ?_, tab'.far (p := ⟨GB, i, none⟩) cb' n2 _, r4'.far (Blk.ne_ r4' cb' (Ne.symm n3)) _, ?_⟩
 · (
 have := ra'.far (p := ⟨GB, i, none⟩) (by simp [Value.ownBlock]; exact hAB) v1
 rwa [show (List.range n).map (upd vs (n + i) v1) = (List.range n).map vs from List.map_congr_left fun j hj => upd_other _ _ (by have := List.mem_range.1 hj; omega)])
 · (
 have := rb'.store i v1
 rw [Nat.zero_add] at this
 rwa [map_range_set' _ _ hi] at this)
 · exact (h.below.grown hg hB0 fun k hk => (hri.lt k hk).1).setCell hB _)
theorem GInv.done (h : GInv tG tS tI B w G5 GA GB bk n M PE cnt wr vs ys xs) {k : Nat} {m : Int} {a b : Nat} {vs' : Nat → Value}
 (hT : GTab tG tS tI B w G5 GA GB n M w2 vs' (upd (upd ys a (ys a ++ [.int .i64 (b : Int)])) (n + b) (upd ys a (ys a ++ [.int .i64 (b : Int)]) (n + b) ++ [.int .i64 (a : Int)])))
 (ha : a < n) (hb : b < n) (hfa : (a : Int) = fst bk k m) (hfb : (b : Int) = snd bk k m) :
 GInv tG tS tI B w G5 GA GB bk n M (fun i m' => PE i m' ∨ (i = k ∧ m' = m)) (cnt + 1) w2 vs' (upd (upd ys a (ys a ++ [.int .i64 (b : Int)])) (n + b) (upd ys a (ys a ++ [.int .i64 (b : Int)]) (n + b) ++ [.int .i64 (a : Int)]))
  (upd (upd xs a (xs a ++ [(b : Int)])) (n + b) (xs (n + b) ++ [(a : Int)])) := by (
 refine hT.inv (fun i hi => ?_) (h.edges.step k m a b ha hb hfa hfb) (fun i hi => ?_)
 · (
 by_cases h1 : i = n + b
 · (
 subst h1
 rw [upd_same, upd_same, upd_other _ _ (by omega), h.ysx _ hi, ints_append]
 rfl)
 · (
 rw [upd_other _ _ h1, upd_other _ _ h1]
 by_cases h2 : i = a
 · (
 subst h2
 rw [upd_same, upd_same, h.ysx _ hi, ints_append]
 rfl)
 · (
 rw [upd_other _ _ h2, upd_other _ _ h2]
 exact h.ysx i hi)))
 · (
 by_cases h1 : i = n + b
 · (
 subst h1
 rw [upd_same, List.length_append]
 have := h.len _ hi
 simp
 omega)
 · (
 rw [upd_other _ _ h1]
 by_cases h2 : i = a
 · (
 subst h2
 rw [upd_same, List.length_append]
 have := h.len _ hi
 simp
 omega)
 · (
 rw [upd_other _ _ h2]
 have := h.len _ hi
 omega))))
end
structure Graph (tS tI : TypeId) (B : Nat) (GA GB : Nat) (bk : Bool) (n : Nat) (PE : Nat → Int → Prop) (wr : World) (vs : Nat → Value) (xs : Nat → List Int) : Prop where
 ra : Row wr B tS (.slice (some ⟨GA, 0, none⟩) n n) ((List.range n).map vs)
 rb : Row wr B tS (.slice (some ⟨GB, 0, none⟩) n n) ((List.range n).map fun i => vs (n + i))
 tab : Tab wr B tI (2 * n) vs (fun i => ints (xs i))
 edges : Edges bk n PE xs
 len : ∀ i, i < 2 * n → (xs i).length ≤ 2 * n
theorem GInv.out {tG tS tI : TypeId} {B : Nat} {w : World} {G5 GA GB : Nat} {bk : Bool} {n : Nat} {PE : Nat → Int → Prop} {wr : World} {vs : Nat → Value} {ys : Nat → List Value} {xs : Nat → List Int}
 (h : GInv tG tS tI B w G5 GA GB bk n (2 * n) PE (2 * n) wr vs ys xs) (n1 : tI ≠ tG) (n3 : tS ≠ tG) (u v : Value) :
 Graph tS tI B GA GB bk n PE ((wr.setCell ⟨B + 1, 0, none⟩ u).setCell ⟨B + 1, 1, none⟩ v) vs xs ∧ Below B w ((wr.setCell ⟨B + 1, 0, none⟩ u).setCell ⟨B + 1, 1, none⟩ v) := by (
 obtain ⟨ca, hca⟩ := h.ra.blk
 obtain ⟨cb, hcb⟩ := h.rb.blk
 have e1 : GA ≠ B + 1 := Blk.ne_ hca h.r4 n3
 have e2 : GB ≠ B + 1 := Blk.ne_ hcb h.r4 n3
 have q := h.r4.set_ 0 u
 have t1 := (h.tab.far (p := ⟨B + 1, 0, none⟩) h.r4 n1 u).far (p := ⟨B + 1, 1, none⟩) q n1 v
 refine ⟨⟨(h.ra.far (by simp [Value.ownBlock]; exact e1) u).far (by simp [Value.ownBlock]; exact e1) v, (h.rb.far (by simp [Value.ownBlock]; exact e2) u).far (by simp [Value.ownBlock]; exact e2) v, ?_, h.edges, h.len⟩,
  (h.below.setCell (by simp) u).setCell (by simp) v⟩
 exact ⟨fun i hi => by have := t1.row hi; rw [h.ysx i hi] at this; exact this, fun i j hi hj hne => t1.2 i j hi hj hne⟩)
attribute [irreducible] Blk Tab
end
section
open Go.RowKit
def bools (l : List Bool) : List Value := l.map Value.bool
theorem bools_length (a : List Bool) : (bools a).length = a.length := List.length_map _
theorem bools_get (a : List Bool) (k : Nat) : (bools a)[k]? = a[k]?.map Value.bool := List.getElem?_map
def yn (l : List Bool) (k : Nat) : Bool := l.getD k false
theorem ValsAt.bool {w : World} {A : Option Addr} {l : List Bool} (h : ValsAt w A (bools l)) {k : Nat} (hk : k < l.length) :
 ∃ b off, A = some ⟨b, off, none⟩ ∧ b < w.heap.size ∧ w.cell? ⟨b, off + k, none⟩ = some (.bool (yn l k)) := by (
 obtain ⟨b, off, v, e, hb, hv, hc⟩ := h.get (k := k) (by rw [bools_length]; exact hk)
 rw [bools_get, List.getElem?_eq_getElem hk] at hv
 simp at hv
 subst hv
 exact ⟨b, off, e, hb, by rw [hc]; simp [yn, hk]⟩)
theorem yn_set (x : List Bool) (k i : Nat) (b : Bool) (hk : k < x.length) : yn (x.set k b) i = if i = k then b else yn x i := by (
 unfold yn
 rw [List.getD_eq_getElem?_getD, List.getD_eq_getElem?_getD, List.getElem?_set]
 by_cases h : i = k
 · subst h; simp [hk]
 · rw [if_neg (fun e => h e.symm), if_neg h])
theorem yn_out {x : List Bool} {i : Nat} (h : x.length ≤ i) : yn x i = false := by simp [yn, h]
theorem ext_yn {x y : List Bool} (hl : x.length = y.length) (h : ∀ i, i < x.length → yn x i = yn y i) : x = y := by (
 apply List.ext_getElem hl
 intro i h1 h2
 have := h i h1
 simpa [yn, h1, h2] using this)
def leB (x y : List Bool) : Prop := ∀ i, yn x i = true → yn y i = true
section
variable (S : List Bool → Nat → Bool) (n : Nat)
def Post (x : List Bool) : Prop := x.length = n ∧ ∀ i, i < n → yn x i = true → S x i = true
def Ans (x : List Bool) : Prop := x.length = n ∧ ∀ i, i < n → yn x i = S x i
def Above (x : List Bool) : Prop := x.length = n ∧ ∀ z, Post S n z → leB z x
def Great (x : List Bool) : Prop := Ans S n x ∧ Above S n x
def Mono : Prop := ∀ x y i, leB x y → S x i = true → S y i = true
variable {S n}
theorem Above.start {x : List Bool} (hl : x.length = n) (h : ∀ i, i < n → yn x i = true) : Above S n x := ⟨hl, fun z hz i hi => by
 by_cases hin : i < n
 · exact h i hin
 · rw [yn_out (by rw [hz.1]; omega)] at hi; cases hi⟩
theorem Above.drop (hm : Mono S) {x : List Bool} (h : Above S n x) {k : Nat} (hk : k < n) (hs : S x k = false) : Above S n (x.set k false) := by (
 refine ⟨by simpa using h.1, fun z hz i hi => ?_⟩
 rw [yn_set _ _ _ _ (by rw [h.1]; exact hk)]
 by_cases hik : i = k
 · (
 subst hik
 have := hm z x i (h.2 z hz) (hz.2 i hk hi)
 rw [hs] at this
 cases this)
 · (
 rw [if_neg hik]
 exact h.2 z hz i hi))
theorem Above.great (hm : Mono S) {x : List Bool} (h : Above S n x) (hp : ∀ i, i < n → yn x i = true → S x i = true) : Great S n x := by (
 refine ⟨⟨h.1, fun i hi => ?_⟩, h⟩
 rw [Bool.eq_iff_iff]
 refine ⟨hp i hi, fun hs => ?_⟩
 by_cases hx : yn x i = true
 · exact hx
 · (
 have hle : leB x (x.set i true) := fun j hj => by (
 rw [yn_set _ _ _ _ (by rw [h.1]; exact hi)]
 split
 · rfl
 · exact hj)
 have hz : Post S n (x.set i true) := by (
 refine ⟨by simpa using h.1, fun j hj hjz => ?_⟩
 rw [yn_set _ _ _ _ (by rw [h.1]; exact hi)] at hjz
 by_cases hji : j = i
 · (
 subst hji
 exact hm _ _ _ hle hs)
 · (
 rw [if_neg hji] at hjz
 exact hm _ _ _ hle (hp j hj hjz)))
 exact h.2 _ hz i (by rw [yn_set _ _ _ _ (by rw [h.1]; exact hi), if_pos rfl])))
theorem Great.unique {x y : List Bool} (hx : Great S n x) (hy : Great S n y) : x = y := by (
 refine ext_yn (hx.1.1.trans hy.1.1.symm) fun i hi => ?_
 rw [hx.1.1] at hi
 rw [Bool.eq_iff_iff]
 exact ⟨hy.2.2 x ⟨hx.1.1, fun j hj h => by rw [← hx.1.2 j hj]; exact h⟩ i, hx.2.2 y ⟨hy.1.1, fun j hj h => by rw [← hy.1.2 j hj]; exact h⟩ i⟩)
end
def cnt (x : List Bool) : Nat := x.count true
theorem cnt_set {x : List Bool} {k : Nat} (hk : k < x.length) (hx : yn x k = true) : cnt (x.set k false) + 1 = cnt x := by (
 unfold cnt
 rw [List.count_set hk]
 have h1 : x[k] = true := by simpa [yn, hk] using hx
 have h2 : 0 < x.count true := List.count_pos_iff.2 (by rw [← h1]; exact List.getElem_mem hk)
 simp [h1]
 omega)
theorem cnt_le (x : List Bool) : cnt x ≤ x.length := List.count_le_length
theorem bools_set (x : List Bool) (k : Nat) (b : Bool) : (bools x).set k (.bool b) = bools (x.set k b) := (List.map_set).symm
theorem Row.bool {w : World} {B : Nat} {e : TypeId} {v : Value} {x : List Bool} (h : Row w B e v (bools x)) {k : Nat} (hk : k < x.length) :
 ∃ g o cap, v = .slice (some ⟨g, o, none⟩) x.length cap ∧ B ≤ g ∧ g < w.heap.size ∧ w.cell? ⟨g, o + k, none⟩ = some (.bool (yn x k)) ∧ w.frozen? ⟨g, o + k, none⟩ = false := by (
 obtain ⟨g, o, cap, u, e1, hb, hl, hu, hc, hf⟩ := h.get (k := k) (by rw [bools_length]; exact hk)
 rw [bools_get, List.getElem?_eq_getElem hk] at hu
 simp at hu
 subst hu
 rw [bools_length] at e1
 exact ⟨g, o, cap, e1, hb, hl, by rw [hc]; simp [yn, hk], hf⟩)
theorem Row.setb {w : World} {B : Nat} {e : TypeId} {g o n cap : Nat} {x : List Bool} (h : Row w B e (.slice (some ⟨g, o, none⟩) n cap) (bools x)) (k : Nat) (b : Bool) :
 Row (w.setCell ⟨g, o + k, none⟩ (.bool b)) B e (.slice (some ⟨g, o, none⟩) n cap) (bools (x.set k b)) := by (
 rw [← bools_set]
 exact h.store k _)
end
section
open Go.RowKit Go.ChangeShapes Go.WideShapes Go.Deep
section
variable {H : Type} {enc : TypeId × Value → H} {P : Program} {w : World} {base : Nat} {spare : Nat → Bool} {held : Bool}
theorem add_flat (b off k : Nat) : (Addr.mk b off none).add k = ⟨b, off + k, none⟩ := by (
 unfold Addr.add
 split
 · rename_i h; subst h; rfl
 · rfl)
theorem agg_reads {r : Reach} {b0 : Nat} {t : TypeId} {fs : Array Field} {v : Value} {d : DataW H} {p : List MemPlace} (hs : P.underlying t = some (.struct fs)) (hone : oneCellFields P fs = true) (hC : P.cellsOf t = fs.size)
 (hv : Value.okWide P w r b0 t v) (h : DataW.Trod enc P w base spare held t v d p) :
 ∃ cs : Array Value, v = .agg cs ∧ cs.size = fs.size ∧ ∃ n, ∀ (i : Nat) (f : Field), fs[i]? = some f → ∃ (c : Value) (y : DataW H × List MemPlace), cs[i]? = some c ∧ DataW.trod enc P w base spare held n f.type [c] = some y := by (
 obtain ⟨cs, rfl, hsz⟩ := okWide_struct hs hv
 obtain ⟨fuel, hf⟩ := h
 obtain ⟨xs, n, _, _, hl, hlen, hx⟩ := DataW.trod_struct hs hf
 refine ⟨cs, rfl, hsz.trans hC, n, fun i f hi => ?_⟩
 have hlt : i < fs.size := (Array.getElem?_eq_some_iff.1 hi).1
 obtain ⟨ho, hc⟩ := hone_of hone i f hi
 have hx := hx i f hi
 rw [ho, hc] at hx
 have hic : i < cs.size := by omega
 refine ⟨cs[i], xs[i], Array.getElem?_eq_getElem hic, ?_⟩
 rw [List.getElem?_eq_getElem (by omega)] at hx
 have hcell : ((Value.agg cs).cells.toList.drop i).take 1 = [cs[i]] := by (
 have hl : i < cs.toList.length := by simpa using hic
 show (cs.toList.drop i).take 1 = _
 rw [List.drop_eq_getElem_cons hl]
 simp)
 rw [hcell] at hx
 exact hx)
theorem open_bools {t e : TypeId} {fuel : Nat} {cs : List Value} {x : DataW H × List MemPlace} (ht : P.underlying t = some (.slice e)) (he : P.underlying e = some .bool) (hc : P.cellsOf e = 1)
 (h : DataW.trod enc P w base spare held fuel t cs = some x) :
 ∃ (S : Option Addr) (n c : Nat) (bs : List Bool), cs = [.slice S n c] ∧ bs.length = n ∧ n ≤ maxLen ∧ ValsAt w S (bools bs) := by (
 rcases open_slice1 ht hc h with ⟨rfl, _⟩ | ⟨a, len, cap, m, n, V, D, Pl, rfl, _, hl, hm, hmm, _, hx⟩
 · exact ⟨none, 0, 0, [], rfl, rfl, by simp, ValsAt.nil⟩
 have hlm : len ≤ m := by rw [hmm]; split <;> omega
 obtain ⟨Z, hZ⟩ := choose_lt (α := Bool) (n := len) (p := fun i z => w.cell? (a.add i) = some (.bool z)) (fun i hi => by
  obtain ⟨h1, h2⟩ := hx i (by omega)
  obtain ⟨z, hz, _⟩ := DataW.trod_bool he h2
  simp at hz
  exact ⟨z, hz ▸ h1⟩)
 refine ⟨some a, len, cap, (List.range len).map Z, rfl, by simp, by omega, ?_⟩
 intro hn
 have hpos : 0 < len := by (
 rcases Nat.eq_zero_or_pos len with h0 | h0
 · subst h0; exact absurd rfl hn
 · exact h0)
 have h0 := hZ 0 hpos
 have hsp : a.spot = none := World.cell?_spot (a := a) (by simpa [Addr.add] using h0)
 obtain ⟨b, off, sp⟩ := a
 simp only at hsp
 subst hsp
 refine ⟨b, off, rfl, World.block_lt_of_cell? w ⟨b, off + 0, none⟩ (by rw [add_flat] at h0; exact h0), fun i v hi => ?_⟩
 rw [bools_get] at hi
 by_cases hil : i < len
 · (
 simp [hil] at hi
 subst hi
 have := hZ i hil
 rwa [add_flat] at this)
 · simp [hil] at hi)
theorem node_cell {fuel : Nat} {t : TypeId} {cs : List Value} {o : Nat} {y : Option (DataW H × List MemPlace)} (ht : P.underlying t = some (.int .i64)) (hy : y.isSome = true)
 (h : DataW.trod enc P w base spare held fuel t ((cs.drop o).take 1) = y) : ∃ z, cs[o]? = some (.int .i64 z) := by (
 obtain ⟨y, rfl⟩ := Option.isSome_iff_exists.1 hy
 obtain ⟨z, hz, _⟩ := DataW.trod_int ht h
 refine ⟨z, ?_⟩
 rcases Nat.lt_or_ge o cs.length with hlt | hge
 · (
 rw [List.drop_eq_getElem_cons hlt] at hz
 rw [List.take_succ_cons] at hz
 rw [List.getElem?_eq_getElem hlt, (List.cons.inj hz).1])
 · (
 rw [List.drop_of_length_le hge] at hz
 simp at hz))
theorem open_nodes {t e : TypeId} {f0 f1 f2 f3 f4 f5 : Field} {fuel : Nat} {cs : List Value} {x : DataW H × List MemPlace} (ht : P.underlying t = some (.slice e)) (he : P.underlying e = some (.struct #[f0, f1, f2, f3, f4, f5]))
 (hone : oneCellFields P #[f0, f1, f2, f3, f4, f5] = true) (hC : P.cellsOf e = 6) (hint : ∀ f ∈ [f0, f1, f2, f3, f4, f5], P.underlying f.type = some (.int .i64))
 (h : DataW.trod enc P w base spare held fuel t cs = some x) :
 ∃ (A : Option Addr) (c : Nat) (l : List Nd), cs = [.slice A l.length c] ∧ l.length ≤ maxLen ∧ NodesAt w A l := by (
 rcases open_slice ht h with ⟨rfl, _⟩ | ⟨a, len, cap, m, n, D, Pl, rfl, _, hl, hm, hmm, _, hx⟩
 · exact ⟨none, 0, [], rfl, by simp, fun h => absurd rfl h⟩
 have hlm : len ≤ m := by rw [hmm]; split <;> omega
 rw [hC] at hx
 obtain ⟨Z, hZ⟩ := choose_lt (α := Nd) (n := len) (p := fun i z => ∀ j, j < 6 → w.cell? ((a.add (i * 6)).add j) = z.cells[j]?) (fun i hi => by
  obtain ⟨cs', h1, h2⟩ := hx i (by omega)
  obtain ⟨_, hlen, hcell⟩ := World.cells?_some h1
  obtain ⟨xs, k, _, _, _, hxl, hf⟩ := DataW.trod_struct he h2
  have hxl : xs.length = 6 := hxl
  have one : ∀ (o : Nat) (f : Field), #[f0, f1, f2, f3, f4, f5][o]? = some f → f ∈ [f0, f1, f2, f3, f4, f5] → ∃ z, cs'[o]? = some (.int .i64 z) := by (
 intro o f ho hm
 have hlt : o < 6 := (Array.getElem?_eq_some_iff.1 ho).1
 obtain ⟨h3, h4⟩ := hone_of hone o f ho
 have := hf o f ho
 rw [h3, h4] at this
 exact node_cell (hint f hm) (by rw [List.getElem?_eq_getElem (by omega)]; rfl) this)
  obtain ⟨z0, e0⟩ := one 0 f0 rfl (by simp)
  obtain ⟨z1, e1⟩ := one 1 f1 rfl (by simp)
  obtain ⟨z2, e2⟩ := one 2 f2 rfl (by simp)
  obtain ⟨z3, e3⟩ := one 3 f3 rfl (by simp)
  obtain ⟨z4, e4⟩ := one 4 f4 rfl (by simp)
  obtain ⟨z5, e5⟩ := one 5 f5 rfl (by simp)
  refine ⟨⟨z0, z1, z2, z3, z4, z5⟩, fun j hj => ?_⟩
  rw [hcell j hj]
  match j, hj with
  | 0, _ => exact e0
  | 1, _ => exact e1
  | 2, _ => exact e2
  | 3, _ => exact e3
  | 4, _ => exact e4
  | 5, _ => exact e5)
 have hll : ((List.range len).map Z).length = len := by simp
 refine ⟨some a, cap, (List.range len).map Z, by rw [hll], by omega, ?_⟩
 intro hn
 have hpos : 0 < len := by (
 rcases Nat.eq_zero_or_pos len with h0 | h0
 · subst h0; exact absurd rfl hn
 · exact h0)
 have h0 := hZ 0 hpos 0 (by omega)
 have hsp : a.spot = none := World.cell?_spot (a := a) (v := .int .i64 (Z 0).op) (by simpa [Addr.add, Nd.cells] using h0)
 obtain ⟨b, off, sp⟩ := a
 simp only at hsp
 subst hsp
 refine ⟨b, off, rfl, World.block_lt_of_cell? w ⟨b, off, none⟩ (u := .int .i64 (Z 0).op) (by simpa [Addr.add, Nd.cells] using h0), fun i v hi => ?_⟩
 by_cases hil : i < len
 · (
 simp [hil] at hi
 subst hi
 have hz := hZ i hil
 refine ⟨?_, ?_, ?_, ?_, ?_, ?_⟩
 · have := hz 0 (by omega); rw [add_flat, add_flat] at this; exact this
 · have := hz 1 (by omega); rw [add_flat, add_flat] at this; exact this
 · have := hz 2 (by omega); rw [add_flat, add_flat] at this; exact this
 · have := hz 3 (by omega); rw [add_flat, add_flat] at this; exact this
 · have := hz 4 (by omega); rw [add_flat, add_flat] at this; exact this
 · have := hz 5 (by omega); rw [add_flat, add_flat] at this; exact this)
 · simp [hil] at hi)
end
theorem arr2 {α : Type} {cs : Array α} (h : cs.size = 2) : ∃ a b, cs = #[a, b] := by (
 obtain ⟨l⟩ := cs
 match l, h with
 | [a, b], _ => exact ⟨a, b, rfl⟩)
section
variable {H : Type} {enc : TypeId × Value → H} {P : Program}
theorem post_low {f : Func} {s : ChangeSpec} {apart fresh handsOn again : Bool} {W W' : World} {args : Array Value} {v : Value} {ds gs : List (DataW H)} {before pa pv : List MemPlace}
 (hW : DataW.Whole enc P f.params.toList s.vars apart W args.toList ds gs before)
 (hres : ∀ (b : Nat) (sp : Nat → Bool) (hd : Bool), DataW.TrodAll enc P W' b sp hd f.resultTypes.toList (v.resultList f.resultTypes.size) (s.fn H (ds ++ gs)).results [])
 (hargs : ∀ sp : Nat → Bool, (∀ p ∈ before, sp p.block = true) → DataW.TrodAll enc P W' 0 sp true f.params.toList args.toList (s.fn H (ds ++ gs)).args pa)
 (hvars : ∀ sp : Nat → Bool, (∀ p ∈ before, sp p.block = true) → DataW.TrodVars enc P W' sp s.vars (s.fn H (ds ++ gs)).vars pv)
 (hps : before = pa ++ pv) (hb : Below W.heap.size W W')
 (hok : ∀ (j : Nat) (t : TypeId) (r : Value), f.resultTypes[j]? = some t → (v.resultList f.resultTypes.size)[j]? = some r → Value.okWide P W' .any 0 t r) :
 s.post enc P f apart fresh handsOn again W args v W' := by (
 have low : ∀ p ∈ before, p.block < W.heap.size := fun p hp => hW.lt p hp
 have old : ∀ p ∈ before, (fun b => decide (b < W.heap.size)) p.block = true := fun p hp => by simpa using low p hp
 subst hps
 refine ⟨ds, gs, _, [], pa, pv, hW, hres _ _ _, hargs _ old, hvars _ old, World.keptBut_mono (fun p hp => ⟨hp, Or.inr (by simpa using hp)⟩) (hb.frame (· ∈ pa ++ pv)), fun _ => ?_⟩
 obtain ⟨_, _, _, _, _, hz, hn⟩ := hW
 refine ⟨hok, _, _, ([] ++ pa) ++ pv, ⟨[] ++ pa, pv, trodAll_append (hargs _ (fun _ _ => rfl)) (hres _ _ _), hvars _ (fun _ _ => rfl), rfl, ?_, ?_⟩, ?_⟩
 · (
 intro b off hp
 have hin : MemPlace.cell b off ∈ pa ++ pv := by simpa using hp
 rw [hb.frozen (low _ hin)]
 exact hz b off hin)
 · (
 intro ha
 simpa using hn ha)
 · (
 intro p hp _
 simpa using hp))
end
end
section
open Go.RowKit Go.ChangeShapes Go.WideShapes Go.Deep
section
variable {H : Type} {enc : TypeId × Value → H} {w : World} {base : Nat} {spare : Nat → Bool} {held : Bool} {r : Reach} {b0 : Nat} {v : Value} {d : DataW H} {p : List MemPlace}
theorem prog_in (hv : Value.okWide Tryz.prog w r b0 24 v) (h : DataW.Trod enc Tryz.prog w base spare held 24 v d p) :
 ∃ (regs : Int) (A : Option Addr) (l : List Nd) (cap : Nat), v = .agg #[.int .i64 regs, .slice A l.length cap] ∧ l.length ≤ maxLen ∧ NodesAt w A l := by (
 obtain ⟨cs, rfl, hsz, n, hf⟩ := agg_reads Tryz.underlying24 (by kernel_rfl) (by kernel_rfl) hv h
 obtain ⟨c0, c1, rfl⟩ := arr2 hsz
 obtain ⟨_, y0, e0, h0⟩ := hf 0 _ rfl
 obtain ⟨_, y1, e1, h1⟩ := hf 1 _ rfl
 simp at e0 e1
 subst e0; subst e1
 obtain ⟨z, hz, _⟩ := DataW.trod_int Tryz.underlying3 h0
 obtain ⟨A, c, l, hl, hm, hA⟩ := open_nodes Tryz.underlying22 Tryz.underlying57 (by kernel_rfl) (by kernel_rfl) (by simp [Tryz.underlying3]) h1
 simp at hz hl
 subst hz; subst hl
 exact ⟨z, A, l, c, rfl, hm, hA⟩)
end
end
section
structure Tm where
 op : Int
 a : Int
 b : Int
def recB (t : Tm) (n : Nd) : Bool := n.op == t.op && n.a == t.a && n.b == t.b
def keepB (t : Tm) (n : Nd) : Bool := !hasD n.op || n.d != t.a && n.d != t.b
def nd (l : List Nd) (k : Nat) : Nd := l.getD k ⟨0, 0, 0, 0, 0, 0⟩
theorem nd_get {l : List Nd} {k : Nat} {n : Nd} (h : l[k]? = some n) : nd l k = n := by simp [nd, List.getD_eq_getElem?_getD, h]
def Nd.tm (n : Nd) : Tm := ⟨n.op, n.a, n.b⟩
end
section
open Go.RowKit Go.ChangeShapes Go.WideShapes Go.Deep
theorem arr3 {α : Type} {cs : Array α} (h : cs.size = 3) : ∃ a b c, cs = #[a, b, c] := by (
 obtain ⟨l⟩ := cs
 simp at h
 match l, h with
 | [a, b, c], _ => exact ⟨a, b, c, rfl⟩)
section
variable {H : Type} {enc : TypeId × Value → H} {w : World} {base : Nat} {spare : Nat → Bool} {held : Bool} {r : Reach} {b0 : Nat} {v : Value} {d : DataW H} {p : List MemPlace}
theorem term_in (hv : Value.okWide Tryz.prog w r b0 26 v) (h : DataW.Trod enc Tryz.prog w base spare held 26 v d p) :
 ∃ t : Tm, v = .agg #[.int .i64 t.op, .int .i64 t.a, .int .i64 t.b] := by (
 obtain ⟨cs, rfl, hsz, n, hf⟩ := agg_reads Tryz.underlying26 (by kernel_rfl) (by kernel_rfl) hv h
 obtain ⟨c0, c1, c2, rfl⟩ := arr3 hsz
 obtain ⟨_, y0, e0, h0⟩ := hf 0 _ rfl
 obtain ⟨_, y1, e1, h1⟩ := hf 1 _ rfl
 obtain ⟨_, y2, e2, h2⟩ := hf 2 _ rfl
 simp at e0 e1 e2
 subst e0; subst e1; subst e2
 obtain ⟨z0, hz0, _⟩ := DataW.trod_int Tryz.underlying3 h0
 obtain ⟨z1, hz1, _⟩ := DataW.trod_int Tryz.underlying3 h1
 obtain ⟨z2, hz2, _⟩ := DataW.trod_int Tryz.underlying3 h2
 simp at hz0 hz1 hz2
 subst hz0; subst hz1; subst hz2
 exact ⟨⟨z0, z1, z2⟩, rfl⟩)
end
end
section
open Go.RowKit Go.ChangeShapes Go.WideShapes Go.Deep
section
variable {H : Type} {enc : TypeId × Value → H} {w : World} {base : Nat} {spare : Nat → Bool} {held : Bool} {r : Reach} {b0 : Nat} {v : Value} {d : DataW H} {p : List MemPlace}
theorem places_in (hv : Value.okWide Tryz.prog w r b0 29 v) (h : DataW.Trod enc Tryz.prog w base spare held 29 v d p) :
 ∃ (X Y : Option Addr) (xc yc : Nat) (x y : List Bool), v = .agg #[.slice X x.length xc, .slice Y y.length yc] ∧ ValsAt w X (bools x) ∧ ValsAt w Y (bools y) := by (
 obtain ⟨cs, rfl, hsz, n, hf⟩ := agg_reads Tryz.underlying29 (by kernel_rfl) (by kernel_rfl) hv h
 obtain ⟨c0, c1, rfl⟩ := arr2 hsz
 obtain ⟨_, y0, e0, h0⟩ := hf 0 _ rfl
 obtain ⟨_, y1, e1, h1⟩ := hf 1 _ rfl
 simp at e0 e1
 subst e0; subst e1
 obtain ⟨X, n0, xc, x, k0, l0, _, hx⟩ := open_bools Tryz.underlying27 Tryz.underlying4 (by kernel_rfl) h0
 obtain ⟨Y, n1, yc, y, k1, l1, _, hy⟩ := open_bools Tryz.underlying27 Tryz.underlying4 (by kernel_rfl) h1
 simp at k0 k1
 subst k0; subst k1
 exact ⟨X, Y, xc, yc, x, y, by rw [l0, l1], hx, hy⟩)
end
end
section
open Go.RowKit
section
variable (S : List Bool → Nat → Bool) (n : Nat)
def Closed (x : List Bool) : Prop := x.length = n ∧ ∀ i, i < n → S x i = true → yn x i = true
def Under (x : List Bool) : Prop := x.length = n ∧ ∀ z, Closed S n z → leB x z
def Least (x : List Bool) : Prop := Ans S n x ∧ Under S n x
variable {S n}
theorem Under.start {x : List Bool} (hl : x.length = n) (h : ∀ i, yn x i = false) : Under S n x := ⟨hl, fun z hz i hi => by rw [h i] at hi; cases hi⟩
theorem Under.put (hm : Mono S) {x : List Bool} (h : Under S n x) {k : Nat} (hk : k < n) : Under S n (x.set k (S x k)) := by (
 refine ⟨by simpa using h.1, fun z hz i hi => ?_⟩
 rw [yn_set _ _ _ _ (by rw [h.1]; exact hk)] at hi
 by_cases hik : i = k
 · (
 subst hik
 rw [if_pos rfl] at hi
 exact hz.2 i hk (hm x z i (h.2 z hz) hi))
 · (
 rw [if_neg hik] at hi
 exact h.2 z hz i hi))
theorem leB_put {x : List Bool} {k : Nat} (hk : k < x.length) (hp : yn x k = true → S x k = true) : leB x (x.set k (S x k)) := fun i hi => by (
 rw [yn_set _ _ _ _ hk]
 split
 · rename_i h; subst h; exact hp hi
 · exact hi)
theorem Post.put (hm : Mono S) {x : List Bool} (h : Post S n x) {k : Nat} (hk : k < n) : Post S n (x.set k (S x k)) := by (
 have hkx : k < x.length := by rw [h.1]; exact hk
 have hle := leB_put (S := S) hkx (h.2 k hk)
 refine ⟨by simpa using h.1, fun i hi hs => ?_⟩
 rw [yn_set _ _ _ _ hkx] at hs
 by_cases hik : i = k
 · (
 subst hik
 rw [if_pos rfl] at hs
 exact hm _ _ _ hle hs)
 · (
 rw [if_neg hik] at hs
 exact hm _ _ _ hle (h.2 i hi hs)))
theorem cnt_put {x : List Bool} {k : Nat} (hk : k < x.length) (h0 : yn x k = false) : cnt (x.set k true) = cnt x + 1 := by (
 unfold cnt
 rw [List.count_set hk]
 have h1 : x[k] = false := by simpa [yn, hk] using h0
 simp [h1])
theorem Least.unique {x y : List Bool} (hx : Least S n x) (hy : Least S n y) : x = y := by (
 refine ext_yn (hx.1.1.trans hy.1.1.symm) fun i hi => ?_
 rw [Bool.eq_iff_iff]
 exact ⟨hx.2.2 y ⟨hy.1.1, fun j hj h => by rw [hy.1.2 j hj]; exact h⟩ i, hy.2.2 x ⟨hx.1.1, fun j hj h => by rw [hx.1.2 j hj]; exact h⟩ i⟩)
def Turning (S : List Bool → Nat → Bool) (n c k : Nat) (x : List Bool) : Prop := Post S n x ∧ Under S n x ∧ (c < cnt x ∨ (c ≤ cnt x ∧ ∀ i, k ≤ i → i < n → yn x i = S x i) ∨ Ans S n x)
theorem set_yn {x : List Bool} {k : Nat} {b : Bool} (hk : k < x.length) (h : yn x k = b) : x.set k b = x := ext_yn (by simp) fun i _ => by (
 rw [yn_set _ _ _ _ hk]
 split
 · rename_i h'; subst h'; exact h.symm
 · rfl)
theorem Turning.step (hm : Mono S) {c k : Nat} {x : List Bool} (h : Turning S n c (k + 1) x) (hk : k < n) : Turning S n c k (x.set k (S x k)) := by (
 obtain ⟨hp, hu, hr⟩ := h
 have hkx : k < x.length := by rw [hp.1]; exact hk
 refine ⟨hp.put hm hk, hu.put hm hk, ?_⟩
 by_cases he : yn x k = S x k
 · (
 rw [set_yn hkx he]
 refine hr.imp id fun h => h.imp (fun ⟨hc, h⟩ => ⟨hc, fun i hi hin => ?_⟩) id
 rcases Nat.lt_or_ge k i with hlt | hge
 · exact h i hlt hin
 · (
 obtain rfl : i = k := by omega
 exact he))
 · (
 cases hx : yn x k with
 | true => exact absurd (hx.trans (hp.2 k hk hx).symm) he
 | false =>
  cases hs : S x k with
  | false => exact absurd (hx.trans hs.symm) he
  | true =>
   rw [cnt_put hkx hx]
   rcases hr with hc | ⟨hc, _⟩ | ha
   · exact .inl (by omega)
   · exact .inl (by omega)
   · exact absurd (ha.2 k hk) he))
def Turned (S : List Bool → Nat → Bool) (n c : Nat) (x : List Bool) : Prop := Post S n x ∧ Under S n x ∧ (c ≤ cnt x ∨ Ans S n x)
theorem Turned.start {x : List Bool} (hl : x.length = n) (h : ∀ i, yn x i = false) : Turned S n 0 x := ⟨⟨hl, fun i _ hi => by rw [h i] at hi; cases hi⟩, Under.start hl h, .inl (Nat.zero_le _)⟩
theorem Turned.begin_ {c : Nat} {x : List Bool} (h : Turned S n c x) : Turning S n c n x := ⟨h.1, h.2.1, h.2.2.elim (fun h => .inr (.inl ⟨h, fun i hi hin => absurd hin (by omega)⟩)) fun h => .inr (.inr h)⟩
theorem Turning.end_ {c : Nat} {x : List Bool} (h : Turning S n c 0 x) : Turned S n (c + 1) x :=
 ⟨h.1, h.2.1, h.2.2.elim (fun h => .inl (by omega)) fun h => .inr (h.elim (fun h => ⟨‹Turning S n c 0 x›.1.1, fun i hi => h.2 i (Nat.zero_le _) hi⟩) id)⟩
theorem Turned.least {x : List Bool} (h : Turned S n (n + 1) x) : Least S n x := by (
 refine ⟨h.2.2.resolve_left fun hc => ?_, h.2.1⟩
 have := cnt_le x
 rw [h.1.1] at this
 omega)
end
def sweep (S : List Bool → Nat → Bool) : Nat → List Bool → List Bool
 | 0, x => x
 | k + 1, x => sweep S k (x.set k (S x k))
def sweeps (S : List Bool → Nat → Bool) (n : Nat) : Nat → List Bool
 | 0 => List.replicate n false
 | c + 1 => sweep S n (sweeps S n c)
theorem Turning.sweep {S : List Bool → Nat → Bool} (hm : Mono S) {n c : Nat} : ∀ (k : Nat) (x : List Bool), k ≤ n → Turning S n c k x → Turning S n c 0 (sweep S k x)
 | 0, x, _, h => h
 | k + 1, x, hk, h => Turning.sweep hm k _ (by omega) (h.step hm (by omega))
theorem sweeps_turned {S : List Bool → Nat → Bool} (hm : Mono S) (n : Nat) : ∀ c, Turned S n c (sweeps S n c)
 | 0 => Turned.start (by simp [sweeps]) (fun i => by simp [sweeps, yn, List.getD_eq_getElem?_getD, List.getElem?_replicate]; split <;> simp)
 | c + 1 => (Turning.sweep hm n _ (Nat.le_refl _) (sweeps_turned hm n c).begin_).end_
def leastL (S : List Bool → Nat → Bool) (n : Nat) : List Bool := sweeps S n (n + 1)
theorem leastL_least {S : List Bool → Nat → Bool} (hm : Mono S) (n : Nat) : Least S n (leastL S n) := (sweeps_turned hm n (n + 1)).least
theorem closed_under {S : List Bool → Nat → Bool} (hm : Mono S) {n : Nat} {x : List Bool} (hc : Closed S n x) (hu : Under S n x) : x = leastL S n := by (
 have hl := leastL_least hm n
 refine ext_yn (hc.1.trans hl.1.1.symm) fun i hi => ?_
 rw [Bool.eq_iff_iff]
 exact ⟨hu.2 _ ⟨hl.1.1, fun j hj h => by rw [hl.1.2 j hj]; exact h⟩ i, hl.2.2 x hc i⟩)
end
end Go.Proofs.YtmghkonmfbpjcabGreat
