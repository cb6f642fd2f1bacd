/- Parts. -/
import Derived.Deep.RegionHeld
import Derived.WalkKit
import Derived.Deep.Draws
import Derived.Deep.AppendLies
set_option linter.unusedVariables false
set_option linter.unusedSimpArgs false
set_option maxRecDepth 100000
namespace Go.Proofs.YtmghkonmfbpjcabGreatDoor
open Go.RowKit
section

theorem Sz : (∀ (w : World) (o : Obj), (w.alloc o).heap.size = w.heap.size + 1) ∧ (∀ (w : World) (a : Addr) (v : Value), (w.setCell a v).heap.size = w.heap.size) ∧ (∀ w : World, w.drew.heap.size = w.heap.size) ∧ ∀ (w : World) (n : Nat), (w.drewN n).heap = w.heap :=
  ⟨World.size_alloc, World.size_setCell, World.size_drew, World.heap_drewN⟩
theorem Nm : (∀ (α : Type) (xs : List α) (i : Nat) (h : i < xs.toArray.size), xs.toArray[i] = xs[i]) ∧ (∀ (α : Type) (a : α) (l : List α) (h : 0 < (a :: l).length), (a :: l)[0] = a) ∧ (∀ (α : Type) (a : α) (l : List α) (i : Nat) (h : i + 1 < (a :: l).length), (a :: l)[i + 1] = l[i]'(Nat.lt_of_succ_lt_succ h)) ∧
    (∀ (α : Type) (l : List α) (i : Nat) (a : α), l.toArray.setIfInBounds i a = (l.set i a).toArray) ∧ (∀ (α : Type) (x : α) (xs : List α) (a : α), (x :: xs).set 0 a = a :: xs) ∧ (∀ (α : Type) (x : α) (xs : List α) (i : Nat) (a : α), (x :: xs).set (i + 1) a = x :: xs.set i a) ∧
    (∀ (a : Act) (v : Value), a.put none v = a) ∧ ∀ (a : Act) (i : Nat) (v : Value), a.put (some i) v = { a with tmps := a.tmps.setIfInBounds i v } :=
  ⟨fun _ _ _ h => List.getElem_toArray h, fun _ => List.getElem_cons_zero, fun _ => List.getElem_cons_succ, fun _ => List.setIfInBounds_toArray, fun _ _ _ _ => List.set_cons_zero, fun _ _ _ _ _ => List.set_cons_succ, fun _ _ => rfl, fun _ _ _ => rfl⟩
theorem Yl {α : Type} : (∀ (xs : List α) (i : Nat), xs.toArray[i]? = xs[i]?) ∧ (∀ (a : α) (l : List α), (a :: l)[0]? = some a) ∧ ∀ (a : α) (i : Nat) (l : List α), (a :: l)[i + 1]? = l[i]? :=
  ⟨fun _ _ => List.getElem?_toArray, fun _ _ => List.getElem?_cons_zero, fun _ _ _ => List.getElem?_cons_succ⟩
theorem Exq {α : Sort _} (a : α) : ∃ x, x = a := ⟨a, rfl⟩
theorem Bnq (w : World) (o : Obj) : Below w.heap.size w (w.alloc o) := (Below.refl _ _).alloc (Nat.le_refl _) _
theorem Ikq {k n : Nat} (h : k < n) : (0 : Int) ≤ (k : Int) ∧ (k : Int) < (n : Int) := ⟨by omega, by omega⟩
theorem _root_.Go.RowKit.Hid.o {p : Prop} (h : Hid p) : p := h
abbrev Vv := @World.cell?_setCell_other
abbrev Vw := @World.cell?_setCell_same
abbrev Vx := @List.getElem?_eq_getElem
abbrev Vy := @List.getD_eq_getElem?_getD
abbrev Vz := @List.length_append
abbrev V4 := @List.mem_of_getElem?
abbrev V5 := @List.getElem?_eq_some_iff
abbrev V6 := @Nat.lt_of_lt_of_le
abbrev V7 := @Int.eq_ofNat_of_zero_le
abbrev V8 := @List.length_singleton
abbrev V9 := @Bool.and_eq_true
abbrev Ue := @Int.toNat_of_nonneg
abbrev Uf := @Bool.or_eq_false_iff
abbrev Ug := @AllReadyH.cons
abbrev Uh := @AllReadyH.nil
abbrev Uj := @List.length_map
abbrev Uk := @List.getElem?_append_left
abbrev Ul := @List.getElem?_append_right
abbrev Um := @List.mem_append
abbrev Uo := @List.mem_cons
section
variable {B C : Nat} {a w w' : World}
theorem Qa (B : Nat) (w : World) : Below B w w := Below.refl B w
theorem Qb (h : Below B a w) : Below B a w.drew := h.drew
theorem Qc (h : Below B a w) (n : Nat) : Below B a (w.drewN n) := ⟨h.os, h.tape, h.output, h.size, h.block⟩
theorem Qd (h : Below B a w) (hB : B ≤ w.heap.size) (o : Obj) : Below B a (w.alloc o) := h.alloc hB o
theorem Qe {p : Addr} (h : Below B a w) (hp : B ≤ p.block) (v : Value) : Below B a (w.setCell p v) := h.setCell hp v
theorem Qf (h : Below B a w) (h2 : Below C w w') (hB : B ≤ C) : Below B a w' := h.trans (h2.mono hB)
end
section
variable {P : Program} {ops : Array Oper} {Q : Exit → Act → World → Prop} {md : Region.Mode} {S : World → Prop} {oi : Oper} {fuel : Nat} {listed : Array Bool} {a : Act} {w : World}
theorem Ui (i : Nat) (v : Value) (hi : ops[i]? = some oi) (hc : (Region.noSelect ops && Region.free md ops listed i && (Region.ready md ops listed).contains i) = true)
    (hQ : ∀ c a w, Q (.panic c) (a.put oi.dst v) w → Q (.panic c) a w) (hg : Region.wanted oi (yielded ops a.tmps) = true) (hr : ∀ w, S w → (execOp a.eval oi).run P w = .ok (.value v) w) (hS : S w)
    (h : wpAnyH P md ops Q S fuel (listed.setIfInBounds i true) (a.put oi.dst v) w) : wpAnyH P md ops Q S (fuel + 1) listed a w := by
  simp only [Bool.and_eq_true] at hc
  exact wpAnyH_take hi hc.1.1 hc.1.2 hc.2 hQ (.inl ⟨hg, hr⟩) hS h
theorem Uq (i : Nat) (v : Value) (hi : ops[i]? = some oi) (hc : (Region.noSelect ops && Region.free md ops listed i && (Region.ready md ops listed).contains i) = true)
    (hQ : ∀ c a w, Q (.panic c) (a.put oi.dst v) w → Q (.panic c) a w) (hg : Region.wanted oi (yielded ops a.tmps) = true) (hr : ∀ w, (execOp a.eval oi).run P w = .ok (.value v) w) (hS : S w)
    (h : wpAnyH P md ops Q S fuel (listed.setIfInBounds i true) (a.put oi.dst v) w) : wpAnyH P md ops Q S (fuel + 1) listed a w :=
  Ui i v hi hc hQ hg (fun w _ => hr w) hS h
theorem Un (i : Nat) (hi : ops[i]? = some oi) (hc : (Region.noSelect ops && Region.free md ops listed i && (Region.ready md ops listed).contains i) = true)
    (hQ : ∀ c a w, Q (.panic c) (a.put oi.dst undef) w → Q (.panic c) a w) (hg : Region.wanted oi (yielded ops a.tmps) = false) (hS : S w)
    (h : wpAnyH P md ops Q S fuel (listed.setIfInBounds i true) (a.put oi.dst undef) w) : wpAnyH P md ops Q S (fuel + 1) listed a w := by
  simp only [Bool.and_eq_true] at hc
  exact wpAnyH_take hi hc.1.1 hc.1.2 hc.2 hQ (.inr ⟨hg, rfl⟩) hS h
structure Pq (Q : Exit → Act → World → Prop) : Prop where
  out : ∀ c t u ds w, Q (.panic c) ⟨t, ds⟩ w → Q (.panic c) ⟨u, ds⟩ w
theorem Pq.put (h : Pq Q) (i : Option Nat) (v : Value) (c) (a : Act) (w) : Q (.panic c) (a.put i v) w → Q (.panic c) a w := by
  cases i
  · exact id
  · exact h.out _ _ _ _ _
theorem Up (hP : ∀ c t u ds w, Q (.panic c) ⟨t, ds⟩ w → Q (.panic c) ⟨u, ds⟩ w) (h : Pq Q → wpAnyH P md ops Q S fuel listed a w) : wpAnyH P md ops Q S fuel listed a w := h ⟨hP⟩
theorem Vi (i : Nat) (v : Value) (hi : ops[i]? = some oi) (hc : (Region.noSelect ops && Region.free md ops listed i && (Region.ready md ops listed).contains i) = true)
    (hQ : Pq Q) (hg : Region.wanted oi (yielded ops a.tmps) = true) (hr : ∀ w, S w → (execOp a.eval oi).run P w = .ok (.value v) w) (hS : S w)
    (h : wpAnyH P md ops Q S fuel (listed.setIfInBounds i true) (a.put oi.dst v) w) : wpAnyH P md ops Q S (fuel + 1) listed a w := by
  simp only [Bool.and_eq_true] at hc
  exact wpAnyH_take hi hc.1.1 hc.1.2 hc.2 (fun c a w => hQ.put _ _ c a w) (.inl ⟨hg, hr⟩) hS h
theorem Vq (i : Nat) (v : Value) (hi : ops[i]? = some oi) (hc : (Region.noSelect ops && Region.free md ops listed i && (Region.ready md ops listed).contains i) = true)
    (hQ : Pq Q) (hg : Region.wanted oi (yielded ops a.tmps) = true) (hr : ∀ w, (execOp a.eval oi).run P w = .ok (.value v) w) (hS : S w)
    (h : wpAnyH P md ops Q S fuel (listed.setIfInBounds i true) (a.put oi.dst v) w) : wpAnyH P md ops Q S (fuel + 1) listed a w :=
  Vi i v hi hc hQ hg (fun w _ => hr w) hS h
theorem Vn (i : Nat) (hi : ops[i]? = some oi) (hc : (Region.noSelect ops && Region.free md ops listed i && (Region.ready md ops listed).contains i) = true)
    (hQ : Pq Q) (hg : Region.wanted oi (yielded ops a.tmps) = false) (hS : S w)
    (h : wpAnyH P md ops Q S fuel (listed.setIfInBounds i true) (a.put oi.dst undef) w) : wpAnyH P md ops Q S (fuel + 1) listed a w := by
  simp only [Bool.and_eq_true] at hc
  exact wpAnyH_take hi hc.1.1 hc.1.2 hc.2 (fun c a w => hQ.put _ _ c a w) (.inr ⟨hg, rfl⟩) hS h
theorem Rd (i : Nat) (hr : Region.ready md ops listed = [i]) (hi : ops[i]? = some oi)
    (h : ∀ K' : Act → World → Prop, Shut (∀ a w, S w → (S w → wpAnyH P md ops Q S fuel (listed.setIfInBounds i true) a w) → K' a w) → if Region.wanted oi (yielded ops a.tmps) = true then Oper.wp P oi a w K' Q else K' (a.put oi.dst undef) w) : wpAnyH P md ops Q S (fuel + 1) listed a w :=
  wpAnyH_ready hr (by simp) (AllReadyH.cons hi h AllReadyH.nil)
end
/-- the first operation that is not listed -/
def nxt : List Bool → Nat → Option Nat
  | true :: r, k => nxt r (k + 1)
  | false :: _, k => some k
  | [], _ => none
section
variable {P : Program} {ops : Array Oper} {Q : Exit → Act → World → Prop} {md : Region.Mode} {S : World → Prop} {oi : Oper} {fuel : Nat} {listed : Array Bool} {a : Act} {w : World}
theorem Va (i : Nat) (v : Value) (hi : ops[i]? = some oi) (hQ : Pq Q) (hS : S w) (h : wpAnyH P md ops Q S fuel (listed.setIfInBounds i true) (a.put oi.dst v) w) (hc : (Region.noSelect ops && Region.free md ops listed i && (Region.ready md ops listed).contains i) = true := by kernel_rfl) (hg : Region.wanted oi (yielded ops a.tmps) = true := by rfl) (hr : ∀ w, S w → (execOp a.eval oi).run P w = .ok (.value v) w := by intro w' h; (try dsimp only at h); go_simp; try with_reducible rfl) : wpAnyH P md ops Q S (fuel + 1) listed a w :=
  Vi i v hi hc hQ hg hr hS h
theorem Vb (i : Nat) (v : Value) (hi : ops[i]? = some oi) (hQ : Pq Q) (hS : S w) (h : wpAnyH P md ops Q S fuel (listed.setIfInBounds i true) (a.put oi.dst v) w) (hc : (Region.noSelect ops && Region.free md ops listed i && (Region.ready md ops listed).contains i) = true := by kernel_rfl) (hg : Region.wanted oi (yielded ops a.tmps) = true := by rfl) (hr : ∀ w, S w → (execOp a.eval oi).run P w = .ok (.value v) w := by intro w' h; (try dsimp only at h); (try go_split_ands); go_simp; try with_reducible rfl) : wpAnyH P md ops Q S (fuel + 1) listed a w :=
  Vi i v hi hc hQ hg hr hS h
theorem Ve (i : Nat) (v : Value) (hi : ops[i]? = some oi) (hQ : Pq Q) (hS : S w) (h : wpAnyH P md ops Q S fuel (listed.setIfInBounds i true) (a.put oi.dst v) w) (hc : (Region.noSelect ops && Region.free md ops listed i && (Region.ready md ops listed).contains i) = true := by kernel_rfl) (hg : Region.wanted oi (yielded ops a.tmps) = true := by rfl) (hr : ∀ w, S w → (execOp a.eval oi).run P w = .ok (.value v) w := by intro w' h; rw [ES.out] at h; (try dsimp only at h); (try go_split_ands); go_simp; try with_reducible rfl) : wpAnyH P md ops Q S (fuel + 1) listed a w :=
  Vi i v hi hc hQ hg hr hS h
theorem Vc (i : Nat) (v : Value) (hi : ops[i]? = some oi) (hQ : Pq Q) (hS : S w) (h : wpAnyH P md ops Q S fuel (listed.setIfInBounds i true) (a.put oi.dst v) w) (hc : (Region.noSelect ops && Region.free md ops listed i && (Region.ready md ops listed).contains i) = true := by kernel_rfl) (hg : Region.wanted oi (yielded ops a.tmps) = true := by rfl) (hr : ∀ w, (execOp a.eval oi).run P w = .ok (.value v) w := by intro w'; go_simp; try with_reducible rfl) : wpAnyH P md ops Q S (fuel + 1) listed a w :=
  Vq i v hi hc hQ hg hr hS h
theorem Vd (i : Nat) (hi : ops[i]? = some oi) (hQ : Pq Q) (hS : S w) (h : wpAnyH P md ops Q S fuel (listed.setIfInBounds i true) (a.put oi.dst undef) w) (hc : (Region.noSelect ops && Region.free md ops listed i && (Region.ready md ops listed).contains i) = true := by kernel_rfl) (hg : Region.wanted oi (yielded ops a.tmps) = false := by rfl)  : wpAnyH P md ops Q S (fuel + 1) listed a w :=
  Vn i hi hc hQ hg hS h
theorem Ua (i : Nat) (v : Value) (hi : ops[i]? = some oi) (hS : S w) (h : wpAnyH P md ops Q S fuel (listed.setIfInBounds i true) (a.put oi.dst v) w) (hc : (Region.noSelect ops && Region.free md ops listed i && (Region.ready md ops listed).contains i) = true := by kernel_rfl) (hg : Region.wanted oi (yielded ops a.tmps) = true := by rfl) (hQ : ∀ c a w, Q (.panic c) (a.put oi.dst v) w → Q (.panic c) a w := by exact fun _ _ _ h => h) (hr : ∀ w, S w → (execOp a.eval oi).run P w = .ok (.value v) w := by intro w' h; (try dsimp only at h); go_simp; try with_reducible rfl) : wpAnyH P md ops Q S (fuel + 1) listed a w :=
  Ui i v hi hc hQ hg hr hS h
theorem Ub (i : Nat) (v : Value) (hi : ops[i]? = some oi) (hS : S w) (h : wpAnyH P md ops Q S fuel (listed.setIfInBounds i true) (a.put oi.dst v) w) (hc : (Region.noSelect ops && Region.free md ops listed i && (Region.ready md ops listed).contains i) = true := by kernel_rfl) (hg : Region.wanted oi (yielded ops a.tmps) = true := by rfl) (hQ : ∀ c a w, Q (.panic c) (a.put oi.dst v) w → Q (.panic c) a w := by exact fun _ _ _ h => h) (hr : ∀ w, S w → (execOp a.eval oi).run P w = .ok (.value v) w := by intro w' h; (try dsimp only at h); (try go_split_ands); go_simp; try with_reducible rfl) : wpAnyH P md ops Q S (fuel + 1) listed a w :=
  Ui i v hi hc hQ hg hr hS h
theorem Uc (i : Nat) (v : Value) (hi : ops[i]? = some oi) (hS : S w) (h : wpAnyH P md ops Q S fuel (listed.setIfInBounds i true) (a.put oi.dst v) w) (hc : (Region.noSelect ops && Region.free md ops listed i && (Region.ready md ops listed).contains i) = true := by kernel_rfl) (hg : Region.wanted oi (yielded ops a.tmps) = true := by rfl) (hQ : ∀ c a w, Q (.panic c) (a.put oi.dst v) w → Q (.panic c) a w := by exact fun _ _ _ h => h) (hr : ∀ w, (execOp a.eval oi).run P w = .ok (.value v) w := by intro w'; go_simp; try with_reducible rfl) : wpAnyH P md ops Q S (fuel + 1) listed a w :=
  Uq i v hi hc hQ hg hr hS h
theorem Ud (i : Nat) (hi : ops[i]? = some oi) (hS : S w) (h : wpAnyH P md ops Q S fuel (listed.setIfInBounds i true) (a.put oi.dst undef) w) (hc : (Region.noSelect ops && Region.free md ops listed i && (Region.ready md ops listed).contains i) = true := by kernel_rfl) (hg : Region.wanted oi (yielded ops a.tmps) = false := by rfl) (hQ : ∀ c a w, Q (.panic c) (a.put oi.dst undef) w → Q (.panic c) a w := by exact fun _ _ _ h => h)  : wpAnyH P md ops Q S (fuel + 1) listed a w :=
  Un i hi hc hQ hg hS h
theorem Wa {i : Nat} {v : Value} (hQ : Pq Q) (hS : S w) (h : wpAnyH P md ops Q S fuel (listed.setIfInBounds i true) (a.put oi.dst v) w) (hn : nxt listed.toList 0 = some i := by exact rfl) (hi : ops[i]? = some oi := by exact rfl) (hc : (Region.noSelect ops && Region.free md ops listed i && (Region.ready md ops listed).contains i) = true := by kernel_rfl) (hg : Region.wanted oi (yielded ops a.tmps) = true := by rfl) (hr : ∀ w, S w → (execOp a.eval oi).run P w = .ok (.value v) w := by intro w' h; (try dsimp only at h); go_simp; try with_reducible rfl) : wpAnyH P md ops Q S (fuel + 1) listed a w :=
  Vi i v hi hc hQ hg hr hS h
theorem Wb {i : Nat} {v : Value} (hQ : Pq Q) (hS : S w) (h : wpAnyH P md ops Q S fuel (listed.setIfInBounds i true) (a.put oi.dst v) w) (hn : nxt listed.toList 0 = some i := by exact rfl) (hi : ops[i]? = some oi := by exact rfl) (hc : (Region.noSelect ops && Region.free md ops listed i && (Region.ready md ops listed).contains i) = true := by kernel_rfl) (hg : Region.wanted oi (yielded ops a.tmps) = true := by rfl) (hr : ∀ w, S w → (execOp a.eval oi).run P w = .ok (.value v) w := by intro w' h; (try dsimp only at h); (try go_split_ands); go_simp; try with_reducible rfl) : wpAnyH P md ops Q S (fuel + 1) listed a w :=
  Vi i v hi hc hQ hg hr hS h
theorem We {i : Nat} {v : Value} (hQ : Pq Q) (hS : S w) (h : wpAnyH P md ops Q S fuel (listed.setIfInBounds i true) (a.put oi.dst v) w) (hn : nxt listed.toList 0 = some i := by exact rfl) (hi : ops[i]? = some oi := by exact rfl) (hc : (Region.noSelect ops && Region.free md ops listed i && (Region.ready md ops listed).contains i) = true := by kernel_rfl) (hg : Region.wanted oi (yielded ops a.tmps) = true := by rfl) (hr : ∀ w, S w → (execOp a.eval oi).run P w = .ok (.value v) w := by intro w' h; rw [ES.out] at h; (try dsimp only at h); (try go_split_ands); go_simp; try with_reducible rfl) : wpAnyH P md ops Q S (fuel + 1) listed a w :=
  Vi i v hi hc hQ hg hr hS h
theorem Wc {i : Nat} {v : Value} (hQ : Pq Q) (hS : S w) (h : wpAnyH P md ops Q S fuel (listed.setIfInBounds i true) (a.put oi.dst v) w) (hn : nxt listed.toList 0 = some i := by exact rfl) (hi : ops[i]? = some oi := by exact rfl) (hc : (Region.noSelect ops && Region.free md ops listed i && (Region.ready md ops listed).contains i) = true := by kernel_rfl) (hg : Region.wanted oi (yielded ops a.tmps) = true := by rfl) (hr : ∀ w, (execOp a.eval oi).run P w = .ok (.value v) w := by intro w'; go_simp; try with_reducible rfl) : wpAnyH P md ops Q S (fuel + 1) listed a w :=
  Vq i v hi hc hQ hg hr hS h
theorem Wd {i : Nat} (hQ : Pq Q) (hS : S w) (h : wpAnyH P md ops Q S fuel (listed.setIfInBounds i true) (a.put oi.dst undef) w) (hn : nxt listed.toList 0 = some i := by exact rfl) (hi : ops[i]? = some oi := by exact rfl) (hc : (Region.noSelect ops && Region.free md ops listed i && (Region.ready md ops listed).contains i) = true := by kernel_rfl) (hg : Region.wanted oi (yielded ops a.tmps) = false := by rfl)  : wpAnyH P md ops Q S (fuel + 1) listed a w :=
  Vn i hi hc hQ hg hS h
theorem Ta {i : Nat} {v : Value} (hS : S w) (h : wpAnyH P md ops Q S fuel (listed.setIfInBounds i true) (a.put oi.dst v) w) (hn : nxt listed.toList 0 = some i := by exact rfl) (hi : ops[i]? = some oi := by exact rfl) (hc : (Region.noSelect ops && Region.free md ops listed i && (Region.ready md ops listed).contains i) = true := by kernel_rfl) (hg : Region.wanted oi (yielded ops a.tmps) = true := by rfl) (hQ : ∀ c a w, Q (.panic c) (a.put oi.dst v) w → Q (.panic c) a w := by exact fun _ _ _ h => h) (hr : ∀ w, S w → (execOp a.eval oi).run P w = .ok (.value v) w := by intro w' h; (try dsimp only at h); go_simp; try with_reducible rfl) : wpAnyH P md ops Q S (fuel + 1) listed a w :=
  Ui i v hi hc hQ hg hr hS h
theorem Tb {i : Nat} {v : Value} (hS : S w) (h : wpAnyH P md ops Q S fuel (listed.setIfInBounds i true) (a.put oi.dst v) w) (hn : nxt listed.toList 0 = some i := by exact rfl) (hi : ops[i]? = some oi := by exact rfl) (hc : (Region.noSelect ops && Region.free md ops listed i && (Region.ready md ops listed).contains i) = true := by kernel_rfl) (hg : Region.wanted oi (yielded ops a.tmps) = true := by rfl) (hQ : ∀ c a w, Q (.panic c) (a.put oi.dst v) w → Q (.panic c) a w := by exact fun _ _ _ h => h) (hr : ∀ w, S w → (execOp a.eval oi).run P w = .ok (.value v) w := by intro w' h; (try dsimp only at h); (try go_split_ands); go_simp; try with_reducible rfl) : wpAnyH P md ops Q S (fuel + 1) listed a w :=
  Ui i v hi hc hQ hg hr hS h
theorem Tc {i : Nat} {v : Value} (hS : S w) (h : wpAnyH P md ops Q S fuel (listed.setIfInBounds i true) (a.put oi.dst v) w) (hn : nxt listed.toList 0 = some i := by exact rfl) (hi : ops[i]? = some oi := by exact rfl) (hc : (Region.noSelect ops && Region.free md ops listed i && (Region.ready md ops listed).contains i) = true := by kernel_rfl) (hg : Region.wanted oi (yielded ops a.tmps) = true := by rfl) (hQ : ∀ c a w, Q (.panic c) (a.put oi.dst v) w → Q (.panic c) a w := by exact fun _ _ _ h => h) (hr : ∀ w, (execOp a.eval oi).run P w = .ok (.value v) w := by intro w'; go_simp; try with_reducible rfl) : wpAnyH P md ops Q S (fuel + 1) listed a w :=
  Uq i v hi hc hQ hg hr hS h
theorem Td {i : Nat} (hS : S w) (h : wpAnyH P md ops Q S fuel (listed.setIfInBounds i true) (a.put oi.dst undef) w) (hn : nxt listed.toList 0 = some i := by exact rfl) (hi : ops[i]? = some oi := by exact rfl) (hc : (Region.noSelect ops && Region.free md ops listed i && (Region.ready md ops listed).contains i) = true := by kernel_rfl) (hg : Region.wanted oi (yielded ops a.tmps) = false := by rfl) (hQ : ∀ c a w, Q (.panic c) (a.put oi.dst undef) w → Q (.panic c) a w := by exact fun _ _ _ h => h)  : wpAnyH P md ops Q S (fuel + 1) listed a w :=
  Un i hi hc hQ hg hS h
end
section
variable {P : Prop}
theorem Za (h : P := by (try simp only [Sz]); first | done | omega | (try simp only [Sz] at *); omega) : P := h
theorem Zb (h : P := by omega) : P := h
theorem Zc (h : P := by kernel_rfl) : P := h
theorem Zd (h : P := by simp <;> omega) : P := h
theorem Ze (h : P := by decide) : P := h
theorem Zf (h : P := by simp) : P := h
theorem Zg (h : P := by assumption) : P := h
theorem Zh (h : P := by simp; omega) : P := h
theorem Zi (h : P := by simp only; omega) : P := h
theorem Zj (h : P := by rfl) : P := h
theorem Zk (h : P := by simp [Value.oneCell']) : P := h
theorem Zl (h : P := by simp; exact fun e => dA e.symm) : P := h
theorem Zm (h : P := by repeat (first | exact HW.out | (with_reducible refine Row.alloc ?_ _) | (with_reducible refine Blk.alloc ?_ _))) : P := h
theorem Zn (h : P := by repeat (first | exact HQ.out | (with_reducible refine Row.alloc ?_ _) | (with_reducible refine Blk.alloc ?_ _))) : P := h
theorem Zo (h : P := by repeat (first | exact HX.out | (with_reducible refine Row.alloc ?_ _) | (with_reducible refine Blk.alloc ?_ _))) : P := h
theorem Zp (h : P := by show _ < s.regs.length; omega) : P := h
theorem Zq (h : P := by simp [maxLen]; omega) : P := h
theorem Zr (h : P := by simp [maxLen] <;> omega) : P := h
theorem Zs (h : P := by repeat (first | exact HN.out | (with_reducible refine bO.alloc ?_ _) | (with_reducible refine bO.drew ?_) | (with_reducible refine bO.drewN ?_ _))) : P := h
theorem Zt (h : P := by simp [Value.ownBlock] <;> omega) : P := h
theorem Zu (h : P := by unfold bN; intro h; rw [List.map_eq_nil_iff] at h; rw [h] at hlt; exact absurd hlt (Nat.not_lt_zero _)) : P := h
theorem Zv (h : P := by rw [e]; rfl) : P := h
theorem Zw (h : P := by unfold maxLen; omega) : P := h
theorem Zx (h : P := by simp; exact fun e => dG e.symm) : P := h
theorem Zy (h : P := by repeat (first | exact HP.out | (with_reducible refine Row.alloc ?_ _) | (with_reducible refine Blk.alloc ?_ _))) : P := h
theorem Zz (h : P := by repeat (first | exact HO.out | (with_reducible refine Row.alloc ?_ _) | (with_reducible refine Blk.alloc ?_ _))) : P := h
theorem Z0 (h : P := by have := Hpi.out; rw [e1, e2] at this; exact this) : P := h
theorem Z1 (h : P := by repeat (first | exact hP1 | (with_reducible refine Blk.drew ?_) | (with_reducible refine Blk.drewN ?_ _) | (with_reducible refine Blk.alloc ?_ _))) : P := h
theorem Z2 (h : P := by rw [hW2]; exact (Below.refl _ _).alloc (Nat.le_refl _) _) : P := h
theorem Z3 (h : P := by intro e; rcases hxw with h | h; (simp [Value.ownBlock] at h); exact h e.symm) : P := h
theorem Z4 (h : P := by repeat (first | exact HQ.out | (with_reducible refine Blk.alloc ?_ _))) : P := h
theorem Z5 (h : P := by rw [hyl]; exact hlt) : P := h
theorem Z6 (h : P := by simp; exact fun e => hob e.symm) : P := h
theorem Z7 (h : P := by show (-9223372036854775808 : Int) ≤ _; omega) : P := h
theorem Z8 (h : P := by unfold bN; rw [List.getElem?_map, hn]; rfl) : P := h
theorem Z9 (h : P := by show _ ≤ (9223372036854775807 : Int); omega) : P := h
theorem Xa (h : P := by rw [hg5]; simp) : P := h
theorem Xb (h : P := by rw [lB]; omega) : P := h
theorem Xc (h : P := by have := HS2.out.below.size; simp <;> omega) : P := h
theorem Xd (h : P := by simp; exact fun e => hgm5 e.symm) : P := h
theorem Xe (h : P := by simp only [List.length_append, List.length_cons]; omega) : P := h
theorem Xf (h : P := by rw [HHu.out.len]; omega) : P := h
theorem Xg (h : P := by simp [Value.ownBlock]; exact fun e => a3 e.symm) : P := h
theorem Xh (h : P := by simp [Value.ownBlock]; exact fun e => a4 e.symm) : P := h
theorem Xi (h : P := by rw [h]; simp) : P := h
theorem Xj (h : P := by rw [← Hes.out]; exact hjl) : P := h
theorem Xk (h : P := by rw [bD, hm2]; simp [maxLen]; omega) : P := h
theorem Xl (h : P := by rw [hxl]; exact hlt) : P := h
theorem Xm (h : P := by simp; exact fun e => dX e.symm) : P := h
theorem Xn (h : P := by rw [hfl]; simp [maxLen]; omega) : P := h
theorem Xo (h : P := by rw [e]; simp) : P := h
theorem Xp (h : P := by have := Hgk.out; omega) : P := h
theorem Xq (h : P := by simp only [List.length_map, bJ]; unfold maxLen; omega) : P := h
theorem Xr (h : P := by rw [bD]; simp [maxLen]; omega) : P := h
theorem Xs (h : P := by rw [← Hes.out]; omega) : P := h
theorem Xt (h : P := by first | rfl | trivial) : P := h
theorem Xu (h : P := by simp [maxLen]) : P := h
theorem Xv (h : P := by simp [H0.out]) : P := h
theorem Xw (h : P := by unfold Blk; exact hh) : P := h
theorem Xx (h : P := by rw [bD, hm2]; simp; omega) : P := h
theorem Xy (h : P := by rw [List.getElem?_eq_getElem hj, e]) : P := h
theorem Xz (h : P := by simp [Value.ownBlock, e]) : P := h
theorem X0 (h : P := by have := hC2.size; omega) : P := h
theorem X1 (h : P := by simp [dE, inB]; omega) : P := h
theorem X2 (h : P := by rw [hl]; exact hi) : P := h
theorem X3 (h : P := by intro h0; subst h0; simp at hk) : P := h
theorem X4 (h : P := by rw [bD]; simp; omega) : P := h
theorem X5 (h : P := by simp [Value.ownBlock]) : P := h
theorem X6 (h : P := by rw [hfl]; simp; omega) : P := h
theorem X7 (h : P := by have := h.bq; simp <;> omega) : P := h
theorem X8 (h : P := by simpa using hk) : P := h
theorem Ya (h : P := by simp at hD'; omega) : P := h
theorem Yb (h : P := by exact ⟨_, rfl⟩) : P := h
theorem Yc (h : P := by (with_reducible repeat first | apply Qa | assumption | apply Qb | apply Qc | apply Qd | apply Qe | refine Qf ?_ Zg ?_); all_goals (try simp only [Sz]); first | done | omega | (try simp only [Sz] at *); omega) : P := h
theorem Yd (h : P := by repeat (first | ((with_reducible refine Blk.new' ?_); exact Za) | (with_reducible refine Blk.drew ?_) | (with_reducible refine Blk.drewN ?_ _) | (with_reducible refine Blk.alloc ?_ _) | with_reducible assumption)) : P := h
theorem Ye (h : P := by repeat (first | ((with_reducible refine Blk.new' ?_); exact Za) | (with_reducible refine Blk.alloc ?_ _))) : P := h
theorem Yf (h : P := by repeat (first | ((with_reducible refine Row.made1' ?_ ?_ ?_); exact Za; exact Za; exact Za) | (with_reducible refine Row.drew ?_) | (with_reducible refine Row.drewN ?_ _) | (with_reducible refine Row.alloc ?_ _) | with_reducible assumption)) : P := h
theorem Yg (h : P := by unfold tmA; repeat (first | ((with_reducible refine Blk.new' ?_); exact Za) | (with_reducible refine Blk.alloc ?_ _))) : P := h
theorem Yh (h : P := by rw [cL _ _ _ _ Z5]; (by_cases h : i = k); (rw [if_pos h, h]; exact HbY.out); (rw [if_neg h]; exact HyY.out i Zb)) : P := h
theorem Yi (h : P := by rw [hg1.frozen_far _ Zd Zl]; exact (bIN lA).trans f0) : P := h
theorem Yj (h : P := by rw [hg1.cell_far _ Zd Zx]; exact (oN lG).trans r0) : P := h
theorem Yk (h : P := by rw [hg1.cell_far _ Zd Zl]; exact (oN lA).trans q0) : P := h
theorem Ym (h : P := by rw [Hy.out]; exact cH Zf) : P := h
end
section
variable {P : Prop}
theorem Jb (h : P := by simp [Value.ownBlock]) : P := h
theorem Jc (h : P := by exact .inl rfl) : P := h
theorem Jd (h : P := by exact ⟨0, Nat.zero_le _, rfl, Zf, Below.refl _ _⟩) : P := h
theorem Je (h : P := by exact ⟨by simpa using h1, hp, h3, Nat.le_succ_of_le h4, Nat.le_succ_of_le h5, h6⟩) : P := h
theorem Jf (h : P := by have := Hgk2.out; omega) : P := h
theorem Jg (h : P := by have := Hgk.out; omega) : P := h
theorem Jh (h : P := by exact ⟨0, Nat.zero_le _, rfl, rfl, List.replicate n false, Zf, fun j hj => by omega, by rw [bE, List.map_replicate]; exact Yf, Yc⟩) : P := h
theorem Ji (h : P := by have := Hgk.out; simp at this; omega) : P := h
theorem Jj (h : P := by rw [h, bI, bI]) : P := h
theorem Jk (h : P := by unfold dB bY; split <;> split <;> rfl) : P := h
theorem Jl (h : P := by have := Hgk3.out; omega) : P := h
theorem Jm (h : P := by exact ⟨0, y, Nat.zero_le _, rfl, rfl, HSw.out, HS1.out⟩) : P := h
theorem Jn (h : P := by exact ⟨b.trans b'.symm, c.trans c'.symm, d.trans d'.symm⟩) : P := h
theorem Jo (h : P := by exact ⟨2, 0, [], _, rfl, .inl ⟨rfl, .inl ⟨h1, rfl, rfl, rfl⟩⟩, bO.nil_ _ _ _, hb⟩) : P := h
theorem Jp (h : P := by exact ⟨mW r l, 0, [], _, rfl, .inr (.inl ⟨rfl, .inl ⟨h1, rfl, rfl, rfl⟩⟩), bO.nil_ _ _ _, hb⟩) : P := h
theorem Jq (h : P := by exact (hB1.setCell Zf _).setCell Zf _) : P := h
theorem Jr (h : P := by exact (hB7.setCell Zf _).setCell Zf _) : P := h
theorem Js (h : P := by exact (hB6.setCell (Nat.le_refl _) _).setCell (Nat.le_refl _) _) : P := h
theorem Jt (h : P := by exact ((hBw.trans ((hB.trans (hb6.mono hB.size)).mono (Nat.le_of_lt hw1))).setCell (Nat.le_refl _) _).setCell (Nat.le_refl _) _) : P := h
end
structure Hq (A : Prop) : Prop where
  out : A
section
variable {A B : Prop}
theorem J0 (k : A) (h : A → B := by have k8 := hM.box.cell 8; have kf := hM.box.frozen 8; have lmb := hM.box.lt; simp only [Yl] at k1 k8; have q0 := hN.cell 0; have q1 := hN.cell 1; have q2 := hN.cell 2; have q3 := hN.cell 3; have q4 := hN.cell 4; have q5 := hN.cell 5; have c1 := hM2.box.cell 1; have c2 := hM2.box.cell 2; have c3 := hM2.box.cell 3; have c5 := hM2.box.cell 5; have c6 := hM2.box.cell 6; have c7 := hM2.box.cell 7; have cf2 := hM2.box.frozen 2; have cf5 := hM2.box.frozen 5; have cf6 := hM2.box.frozen 6; have cf7 := hM2.box.frozen 7; have lN := hN.lt; have lM2 := hM2.box.lt; simp only [Yl] at q0 q1 q2 q3 q4 q5 c1 c2 c3 c5 c6 c7; have nbr := hM2.nbr; have nbr' : ¬ (gr = mb) := fun e => nbr e.symm; have ngr : ¬ (g5 = gr) := fun e => (hM2.regs.ne_blk hN Ze) Zv; have ngr' : ¬ (gr = g5) := fun e => ngr e.symm; have hmg' : ¬ (mb = g5) := fun e => hmg e.symm; have rdf := (hM2.regs.int_ (k := d.toNat) Zp).2; have rdc := (hM2.regs.int_ (k := d.toNat) Zp).1; intro kk; revert kf lmb k1 k8 cf2 cf5 cf6 cf7 lN lM2 q0 q1 q2 q3 q4 q5 c1 c2 c3 c5 c6 c7 nbr nbr' ngr ngr' hmg' rdf rdc; exact kk) : B := h k
theorem J1 (k : A) (h : A → B := by have k8 := hM.box.cell 8; have kf := hM.box.frozen 8; have lmb := hM.box.lt; simp only [Yl] at k1 k8; have q0 := hN.cell 0; have q1 := hN.cell 1; have q2 := hN.cell 2; have q3 := hN.cell 3; have q4 := hN.cell 4; have q5 := hN.cell 5; have c1 := hM2.box.cell 1; have c2 := hM2.box.cell 2; have c3 := hM2.box.cell 3; have c5 := hM2.box.cell 5; have c6 := hM2.box.cell 6; have c7 := hM2.box.cell 7; have cf2 := hM2.box.frozen 2; have cf5 := hM2.box.frozen 5; have cf6 := hM2.box.frozen 6; have cf7 := hM2.box.frozen 7; have lN := hN.lt; have lM2 := hM2.box.lt; simp only [Yl] at q0 q1 q2 q3 q4 q5 c1 c2 c3 c5 c6 c7; have nbr := hM2.nbr; have nbr' : ¬ (gr = mb) := fun e => nbr e.symm; have ngr : ¬ (g5 = gr) := fun e => (hM2.regs.ne_blk hN Ze) Zv; have ngr' : ¬ (gr = g5) := fun e => ngr e.symm; have hmg' : ¬ (mb = g5) := fun e => hmg e.symm; have ra := (hM2.regs.int_ (k := a.toNat) Zp).1; rw [Int.toNat_of_nonneg ha.1] at ra; intro kk; revert ra; revert hmg'; revert ngr'; revert ngr; revert nbr'; revert nbr; revert c7; revert c6; revert c5; revert c3; revert c2; revert c1; revert q5; revert q4; revert q3; revert q2; revert q1; revert q0; revert lM2; revert lN; revert cf7; revert cf6; revert cf5; revert cf2; revert k8; revert k1; revert lmb; revert kf; exact kk) : B := h k
theorem J2 (k : A) (h : A → B := by have k1 := hM.box.cell 1; have k8 := hM.box.cell 8; have kf := hM.box.frozen 8; have lmb := hM.box.lt; simp only [Yl] at k1 k8; have q0 := hN.cell 0; have q1 := hN.cell 1; have q2 := hN.cell 2; have q3 := hN.cell 3; have q4 := hN.cell 4; have q5 := hN.cell 5; have c1 := hM2.box.cell 1; have c2 := hM2.box.cell 2; have c3 := hM2.box.cell 3; have c5 := hM2.box.cell 5; have c6 := hM2.box.cell 6; have c7 := hM2.box.cell 7; have cf2 := hM2.box.frozen 2; have cf5 := hM2.box.frozen 5; have cf6 := hM2.box.frozen 6; have cf7 := hM2.box.frozen 7; have lN := hN.lt; have lM2 := hM2.box.lt; simp only [Yl] at q0 q1 q2 q3 q4 q5 c1 c2 c3 c5 c6 c7; have nbr := hM2.nbr; have nbr' : ¬ (gr = mb) := fun e => nbr e.symm; have ngr : ¬ (g5 = gr) := fun e => (hM2.regs.ne_blk hN Ze) Zv; have ngr' : ¬ (gr = g5) := fun e => ngr e.symm; have hmg' : ¬ (mb = g5) := fun e => hmg e.symm; intro kk; revert kf lmb k1 k8 cf2 cf5 cf6 cf7 lN lM2 q0 q1 q2 q3 q4 q5 c1 c2 c3 c5 c6 c7 nbr nbr' ngr ngr' hmg'; exact kk) : B := h k
theorem J3 (k : A) (h : A → B := by have g0 := hX4.frozen 0; have g1 := hX4.frozen 1; have g2 := hX4.frozen 2; have g3 := hX4.frozen 3; have g4 := hX4.frozen 4; have g5 := hX4.frozen 5; have z0 := hX4.cell 0; have z1 := hX4.cell 1; have z2 := hX4.cell 2; have z3 := hX4.cell 3; have z4 := hX4.cell 4; have z5 := hX4.cell 5; have lX4 := hX4.lt; simp only [Yl] at z0 z1 z2 z3 z4 z5; have hT := HT.out.below hS4.below HT.out.lt; have hL := HL.out.below hS4.below HL.out.lt; have t0 := hT.cell 0; have t1 := hT.cell 1; have t2 := hT.cell 2; simp only [Yl] at t0 t1 t2; have lt' := hT.lt; have HS4 := bA hS4; have HX4 := bA hX4; intro kk; revert g0 g1 g2 g3 g4 g5 lX4 z0 z1 z2 z3 z4 z5 hT hL t0 t1 t2 lt' HS4 HX4; exact kk) : B := h k
theorem J4 (k : A) (h : A → B := by have hg := Hgo.out; rw [List.drop_length] at hg; (have hgo : gM (tR l) regs l = (0, r, ls) := by rw [← Hts.out, ← hg]; rfl); (have hE : mW regs l = 0 := by rw [HE.out, hgo]); have HE2 := bA hE; have Hgo2 := bA hgo; have hO := HO.out.below hS.below lo0; have q0 := hS.box.cell 0; have q1 := hS.box.cell 1; simp only [Yl] at q0 q1; have hnO := hS.row.ne_blk hO Ze; have Q := bA ((hS.row.far (p := ⟨w.heap.size + 1, 0, none⟩) hnO (.int .i64 r)).far (p := ⟨w.heap.size + 1, 1, none⟩) hnO (.slice Lv ls.length lc)); have hB := HB.out.trans (hS.below.mono hbw); have o0 := hO.cell 0; have o1 := hO.cell 1; have f0 := hO.frozen 0; have f1 := hO.frozen 1; simp only [Yl] at o0 o1; have lO := hO.lt; have HBf := bA hB; intro kk; revert HBf; revert lO; revert o1; revert o0; revert f1; revert f0; revert Q; revert q1; revert q0; revert Hgo2; revert HE2; exact kk) : B := h k
theorem J5 (k : A) (h : A → B := by have han : mN t l = true := Han.out; (have hE : gH regs l t = apE regs (eK l) t (iE t l) (iD t l) := by unfold gH; rw [if_neg Xv, if_neg H6.out, if_pos han, ap_ma]); (have hRr : pG regs l t = regs + 1 := by unfold pG; rw [if_pos han]); (have hLl : pH regs l t = dF regs t (iE t l) (iD t l) (eK l) := by unfold pH; rw [if_pos han]); have HE := bA hE; have HRr := bA hRr; have HLl := bA hLl; have t0 := hT.cell 0; have t1 := hT.cell 1; have t2 := hT.cell 2; have q0 := hQ.cell 0; have q1 := hQ.cell 1; have l0 := hL.cell 0; have l1 := hL.cell 1; simp only [tmA, Yl] at t0 t1 t2 q0 q1 l0 l1; have lt' := hT.lt; have lq := hQ.lt; have lL := hL.lt; intro kk; revert HE HRr HLl t0 t1 t2 q0 q1 l0 l1 lt' lq lL; exact kk) : B := h k
theorem J6 (k : A) (h : A → B := by have hS6 := ((hS3).later ((Below.refl _ _).drew)).later hbw6; have hE6 := hE3.drew.below' hbw6; have p1 := hS6.p.cell 1; have t0 := hS6.t.cell 0; have t1 := hS6.t.cell 1; have t2 := hS6.t.cell 2; have lp := hS6.p.lt; have lt' := hS6.t.lt; simp only [Yl] at p1 t0 t1 t2; have n0 := ((bB hS6.below).1 nb _ hnb).trans d0; have n1 := ((bB hS6.below).1 nb _ hnb).trans d1; have n2 := ((bB hS6.below).1 nb _ hnb).trans d2; have n3 := ((bB hS6.below).1 nb _ hnb).trans d3; have n4 := ((bB hS6.below).1 nb _ hnb).trans d4; have n5 := ((bB hS6.below).1 nb _ hnb).trans d5; have ln := Nat.lt_of_lt_of_le hnb hS6.below.size; intro kk; revert hS6 hE6 lp lt' p1 t0 t1 t2 n0 n1 n2 n3 n4 n5 ln; exact kk) : B := h k
theorem J7 (k : A) (h : A → B := by have hS6 := ((hS3).later ((Below.refl _ _).drew)).later hbw6; have hE6 := hE3.drew.below' hbw6; have p1 := hS6.p.cell 1; have t0 := hS6.t.cell 0; have t1 := hS6.t.cell 1; have t2 := hS6.t.cell 2; have lp := hS6.p.lt; have lt' := hS6.t.lt; simp only [Yl] at p1 t0 t1 t2; have n0 := ((bB hS6.below).1 nb _ hnb).trans d0; have n1 := ((bB hS6.below).1 nb _ hnb).trans d1; have n2 := ((bB hS6.below).1 nb _ hnb).trans d2; have n3 := ((bB hS6.below).1 nb _ hnb).trans d3; have n4 := ((bB hS6.below).1 nb _ hnb).trans d4; have n5 := ((bB hS6.below).1 nb _ hnb).trans d5; have ln := Nat.lt_of_lt_of_le hnb hS6.below.size; intro kk; revert hS6 hE6 lp lt' p1 t0 t1 t2 n0 n1 n2 n3 n4 n5 ln; exact kk) : B := h k
theorem J8 (k : A) (h : A → B := by have hS6 := ((hS3).later ((Below.refl _ _).drew)).later hbw6; have hE6 := hE3.drew.below' hbw6; have p1 := hS6.p.cell 1; have t0 := hS6.t.cell 0; have t1 := hS6.t.cell 1; have t2 := hS6.t.cell 2; have lp := hS6.p.lt; have lt' := hS6.t.lt; simp only [Yl] at p1 t0 t1 t2; have n0 := ((bB hS6.below).1 nb _ hnb).trans d0; have n1 := ((bB hS6.below).1 nb _ hnb).trans d1; have n2 := ((bB hS6.below).1 nb _ hnb).trans d2; have n3 := ((bB hS6.below).1 nb _ hnb).trans d3; have n4 := ((bB hS6.below).1 nb _ hnb).trans d4; have n5 := ((bB hS6.below).1 nb _ hnb).trans d5; have ln := Nat.lt_of_lt_of_le hnb hS6.below.size; intro kk; revert hS6 hE6 lp lt' p1 t0 t1 t2 n0 n1 n2 n3 n4 n5 ln; exact kk) : B := h k
theorem J9 (k : A) (h : A → B := by have hS6 := ((hS3).later ((Below.refl _ _).drew)).later hbw6; have p1 := hS6.p.cell 1; have t0 := hS6.t.cell 0; have t1 := hS6.t.cell 1; have t2 := hS6.t.cell 2; have lp := hS6.p.lt; have lt' := hS6.t.lt; simp only [Yl] at p1 t0 t1 t2; have n0 := ((bB hS6.below).1 nb _ hnb).trans d0; have n1 := ((bB hS6.below).1 nb _ hnb).trans d1; have n2 := ((bB hS6.below).1 nb _ hnb).trans d2; have n3 := ((bB hS6.below).1 nb _ hnb).trans d3; have n4 := ((bB hS6.below).1 nb _ hnb).trans d4; have n5 := ((bB hS6.below).1 nb _ hnb).trans d5; have ln := Nat.lt_of_lt_of_le hnb hS6.below.size; intro kk; revert hS6 lp lt' p1 t0 t1 t2 n0 n1 n2 n3 n4 n5 ln; exact kk) : B := h k
theorem Ka (k : A) (h : A → B := by have p1 := hS3.p.cell 1; have t0 := hS3.t.cell 0; have t1 := hS3.t.cell 1; have t2 := hS3.t.cell 2; have lp := hS3.p.lt; have lt' := hS3.t.lt; simp only [Yl] at p1 t0 t1 t2; have n0 := ((bB hS3.below).1 nb _ hnb).trans d0; have n1 := ((bB hS3.below).1 nb _ hnb).trans d1; have n2 := ((bB hS3.below).1 nb _ hnb).trans d2; have n3 := ((bB hS3.below).1 nb _ hnb).trans d3; have n4 := ((bB hS3.below).1 nb _ hnb).trans d4; have n5 := ((bB hS3.below).1 nb _ hnb).trans d5; have ln := Nat.lt_of_lt_of_le hnb hS3.below.size; intro kk; revert lp lt' p1 t0 t1 t2 n0 n1 n2 n3 n4 n5 ln; exact kk) : B := h k
theorem Kb (k : A) (h : A → B := by have z0 := hX2.cell 0; have z1 := hX2.cell 1; have z2 := hX2.cell 2; have z3 := hX2.cell 3; have z4 := hX2.cell 4; have z5 := hX2.cell 5; have g0 := hX2.frozen 0; have g1 := hX2.frozen 1; have g2 := hX2.frozen 2; have g3 := hX2.frozen 3; have g4 := hX2.frozen 4; have g5 := hX2.frozen 5; have lX2 := hX2.lt; simp only [Yl] at z0 z1 z2 z3 z4 z5; intro kk; revert g0 g1 g2 g3 g4 g5 lX2 z0 z1 z2 z3 z4 z5; exact kk) : B := h k
theorem Kc (k : A) (h : A → B := by have p1 := ((bB hS.below).1 _ _ lp).trans p1; have n0 := ((bB hS.below).1 _ _ hnb).trans n0; have n1 := ((bB hS.below).1 _ _ hnb).trans n1; have n2 := ((bB hS.below).1 _ _ hnb).trans n2; have n3 := ((bB hS.below).1 _ _ hnb).trans n3; have n4 := ((bB hS.below).1 _ _ hnb).trans n4; have n5 := ((bB hS.below).1 _ _ hnb).trans n5; have t0 := ((bB hS.below).1 _ _ ltb).trans t0; have t1 := ((bB hS.below).1 _ _ ltb).trans t1; have t2 := ((bB hS.below).1 _ _ ltb).trans t2; have f4 := ((bB hS.below).1 _ _ hfl).trans f4; have f5 := ((bB hS.below).1 _ _ hfl).trans f5; have e4 := ((bB hS.below).1 _ _ l4).trans e4; have e5 := ((bB hS.below).1 _ _ l5).trans e5; have HS := bA hS; intro kk; revert p1 n0 n1 n2 n3 n4 n5 t0 t1 t2 f4 f5 e4 e5 HS; exact kk) : B := h k
theorem Kd (k : A) (h : A → B := by have hQ6 := hQ.below hb6 hQ.lt; have q0 := hQ6.cell 0; have q1 := hQ6.cell 1; have qf0 := hQ6.frozen 0; have qf1 := hQ6.frozen 1; simp only [Yl] at q0 q1; have hZ7 := ((hZ.below hb6 hZ.lt).far (p := ⟨GQ, 0, none⟩) Zi (.int .i64 r')).far (p := ⟨GQ, 1, none⟩) Zi (.slice A6 l'.length c6); have hB7 := ((hB.trans (hb6.mono hB.size)).setCell (p := ⟨GQ, 0, none⟩) Zi (.int .i64 r')).setCell (p := ⟨GQ, 1, none⟩) Zi (.slice A6 l'.length c6); have hQ7 := (hQ6.set_ 0 (.int .i64 r')).set_ 1 (.slice A6 l'.length c6); have hN7 := bA (((hN6.far (p := ⟨GQ, 0, none⟩) (hN6.ne_blk hQ6 Ze) (.int .i64 r')).far (p := ⟨GQ, 1, none⟩) (hN6.ne_blk hQ6 Ze) (.slice A6 l'.length c6)).mono hB.size); have Hpi := bA hpi; have lq6 := hQ6.lt; intro kk; revert qf0 qf1 q0 q1 hZ7 hB7 hQ7 hN7 Hpi lq6; exact kk) : B := h k
theorem Ke (k : A) (h : A → B := by have hB : Below w.heap.size w w1 := Yc; have hP : Blk w1 (w.heap.size + 1) 50 #[.slice none 0 0, .int .i64 0, .bool false, .int .i64 0, .slice none 0 0] := Blk.below (Blk.new' Zf) hb1 Zf; have p0 := hP.cell 0; have p1 := hP.cell 1; have p2 := hP.cell 2; have p3 := hP.cell 3; have p4 := hP.cell 4; have f0 := hP.frozen 0; have f1 := hP.frozen 1; have f2 := hP.frozen 2; have f3 := hP.frozen 3; have f4 := hP.frozen 4; have lp := hP.lt; simp only [Yl] at p0 p1 p2 p3 p4; intro kk; revert hB hP f0 f1 f2 f3 f4 lp p0 p1 p2 p3 p4; exact kk) : B := h k
theorem Kf (k : A) (h : A → B := by have F1 := (G1.out.below hb3 G1.out.lt).grown hg4 (E4'.ne_blk (G1.out.below hb3 G1.out.lt) Ze); have F2 := (G2.out.below hb3 G2.out.lt).grown hg4 (hnb _ Zb); have F3 := (G3.out.below hb3 G3.out.lt).grown hg4 (hnb _ Zb); have F4 := (G4.out.below hb3 G4.out.lt).grown hg4 (hnb _ Zb); have F5 := (G5.out.below' hb3).kept hg4 (.inr (fun e => hnb gv Zb e.symm)); have F6 := (G6.out.below hb3 G6.out.lt).grown hg4 (hnb _ Zb); have F7 := (G7.out.later hb3).turn (E4'.mono Zb) Ze Ze Ze hg4; have hk4 := hk3.trans (E4'.keeps hg4); have F8 := G8.out.keeps hk4; have r4 := F4.cell 0; have q4 := F4.frozen 0; have l4 := F4.lt; have lx := F3.lt; intro kk; revert F1 F2 F3 F4 F5 F6 F7 hk4 F8 r4 q4 l4 lx; exact kk) : B := h k
theorem Kg (k : A) (h : A → B := by rw [hva] at hrowA; have hcellB : wr.cell? ⟨GB, i, none⟩ = some (vs (l.length + i)) := ((bB hB).1 _ _ (cZ hgr.rb)).trans (fB (vs := fun j => vs (l.length + j)) hgr.rb hil); rw [hva] at hcellB; have hlB : GB < wr.heap.size := Nat.lt_of_lt_of_le (cZ hgr.rb) hz; have hlen2 := hgr.len (l.length + i) Zb; (have hal : (bN (xs (l.length + i))).length ≤ 512 := by rw [bJ]; omega); rw [bJ] at hcellB; (have hlA : ∀ q, (Value.slice RA (bN (xs (l.length + i))).length rca).ownBlock = some q → q < w2.heap.size := fun q hq => (hgr.tab.row (i := l.length + i) Zb).lt q (by rw [hva]; exact hq) |>.2); have HlA := bA hlA; have HA2 := bA hrowA; have Hva := bA hva; intro kk; revert Hva; revert HA2; revert HlA; revert hcellB; revert hal; revert hlen2; revert hlB; exact kk) : B := h k
theorem Kh (k : A) (h : A → B := by have z0 := hZ.cell 0; have z1 := hZ.cell 1; have z2 := hZ.cell 2; have z3 := hZ.cell 3; have z4 := hZ.cell 4; have z5 := hZ.cell 5; have zf := hZ.frozen 0; have zf1 := hZ.frozen 1; have zf2 := hZ.frozen 2; have zf3 := hZ.frozen 3; have zf4 := hZ.frozen 4; have zf5 := hZ.frozen 5; have lZ := hZ.lt; intro kk; revert z0 z1 z2 z3 z4 z5 zf zf1 zf2 zf3 zf4 zf5 lZ; exact kk) : B := h k
theorem Ki (k : A) (h : A → B := by have Htk := bA htk; have hlt1 := Nat.lt_of_lt_of_le htb hwz; replace c0 := ((bB hS.below).1 _ _ htb).trans c0; replace c1 := ((bB hS.below).1 _ _ htb).trans c1; replace c2 := ((bB hS.below).1 _ _ htb).trans c2; have u0 : (0 : Int) ≤ (k : Int) := Zb; have u1 : (k : Int) < (ts.length : Int) := Zb; have q0 := hS.box.cell 0; have q1 := hS.box.cell 1; simp only [Yl] at q0 q1; intro kk; revert q1; revert q0; revert u1; revert u0; revert c2; revert c1; revert c0; revert hlt1; revert Htk; exact kk) : B := h k
theorem Kj (k : A) (h : A → B := by have Hc0 := bA hc0; have z0 := hZ7.cell 0; have z1 := hZ7.cell 1; have zf0 := hZ7.frozen 0; have zf1 := hZ7.frozen 1; have lZ := hZ7.lt; simp only [Yl] at z0 z1; intro kk; revert Hc0 zf0 zf1 lZ z0 z1; exact kk) : B := h k
theorem Kk (k : A) (h : A → B := by have p0 := hP.cell 0; have p1 := hP.cell 1; have t0 := hT.cell 0; have t1 := hT.cell 1; have t2 := hT.cell 2; simp only [tmA, Yl] at p0 p1 t0 t1 t2; have lp := hP.lt; have lt' := hT.lt; intro kk; revert p0 p1 t0 t1 t2 lp lt'; exact kk) : B := h k
theorem Kl (k : A) (h : A → B := by (have hwset := bBM (len := fun i => (xs (l.length + i)).length) (x := x) (i := i) (by rw [Hxl.out]; exact hil) Hyi.out l.length hil); have hgk' := Hgk.out; have hG3 := (HG.out.below hb3 HG.out.lt).far (p := ⟨w2.heap.size + 1, i, none⟩) n1 (.bool false); (have hF3 := (HF.out.below hb3 HF.out.lt).far (p := ⟨w2.heap.size + 1, i, none⟩) (show w.heap.size + 1 ≠ w2.heap.size + 1 by omega) (.bool false)); have hx3 := HR3.out.setb i false; rw [Nat.zero_add] at hx3; (have hB3 : Below w2.heap.size w2 (w3.setCell ⟨w2.heap.size + 1, i, none⟩ (.bool false)) := (hB.trans (hb3.mono hz)).setCell (show w2.heap.size ≤ w2.heap.size + 1 by omega) _); intro kk; revert hB3; revert hx3; revert hF3; revert hG3; revert hgk'; revert hwset; exact kk) : B := h k
theorem Km (k : A) (h : A → B := by have hz1 := hb1.size; simp only [World.size_alloc] at hz1; have hB1 : Below w.heap.size w w1 := Yc; have hP1 : Blk w1 w.heap.size 24 #[.int .i64 regs, .slice A l.length cap] := Blk.below Ye hb1 Zd; have hT1 : Blk w1 (w.heap.size + 1) 56 (tmA t) := Blk.below Yg hb1 Zd; have hO1 : Blk w1 (w.heap.size + 1 + 1) 133 #[.slice none 0 0, .slice none 0 0] := Blk.below Ye hb1 Zd; intro kk; revert hz1 hB1 hP1 hT1 hO1; exact kk) : B := h k
theorem Kn (k : A) (h : A → B := by have n0 := hOn.cell 0; have n1 := hOn.cell 1; have n2 := hOn.cell 2; have n3 := hOn.cell 3; have n4 := hOn.cell 4; have n5 := hOn.cell 5; simp only [Yl] at n0 n1 n2 n3 n4 n5; intro kk; revert n0 n1 n2 n3 n4 n5; exact kk) : B := h k
theorem Ko (k : A) (h : A → B := by have hZ7 := ((hZ.below hb6' hZ.lt).far (p := ⟨GQ, 0, none⟩) Zi (.int .i64 r')).far (p := ⟨GQ, 1, none⟩) Zi (.slice A6 l'.length c6); have hB7 := ((hB.trans (hb6'.mono hB.size)).setCell (p := ⟨GQ, 0, none⟩) Zi (.int .i64 r')).setCell (p := ⟨GQ, 1, none⟩) Zi (.slice A6 l'.length c6); have hQ7 := (hQ6.set_ 0 (.int .i64 r')).set_ 1 (.slice A6 l'.length c6); have hN7 := bA (((hN6.far (p := ⟨GQ, 0, none⟩) (hN6.ne_blk hQ6 Ze) (.int .i64 r')).far (p := ⟨GQ, 1, none⟩) (hN6.ne_blk hQ6 Ze) (.slice A6 l'.length c6)).mono (Nat.le_trans hB.size hb5'.size)); have Hpi := bA hpi; intro kk; revert hZ7 hB7 hQ7 hN7 Hpi; exact kk) : B := h k
theorem Kp (k : A) (h : A → B := by have o0 := hO.cell 0; have o1 := hO.cell 1; have f0 := hO.frozen 0; have f1 := hO.frozen 1; simp only [Yl] at o0 o1; have lO := hO.lt; intro kk; revert f0 f1 o0 o1 lO; exact kk) : B := h k
theorem Kq (k : A) (h : A → B := by have cA := (hG.node 0).1; have kA := hG.cnt.1; have kF := hG.cnt.2; simp only [Yl] at cA; have HN := bA (nF gc g7 3 _ _ _ ps hpsl.out Zb wk hG.2.2.1 hG.1 hG.2.2.2.1 hpl9); have k1 := hG.cnt.1; intro kk; revert kA kF cA HN k1; exact kk) : B := h k
theorem Kr (k : A) (h : A → B := by have cA := (hG.node 0).1; have kA := hG.cnt.1; have kF := hG.cnt.2; simp only [Yl] at cA; have HN := bA (nF gc g7 2 _ _ _ ps hpsl.out Zb wk hG.2.2.1 hG.1 hG.2.2.2.1 hpl9); have k1 := hG.cnt.1; intro kk; revert kA kF cA HN k1; exact kk) : B := h k
theorem Ks (k : A) (h : A → B := by have z0 := hZ1.cell 0; have z1 := hZ1.cell 1; have zf0 := hZ1.frozen 0; have zf1 := hZ1.frozen 1; have lZ := hZ1.lt; simp only [Yl] at z0 z1; intro kk; revert zf0 zf1 lZ z0 z1; exact kk) : B := h k
theorem Kt (k : A) (h : A → B := by have z0 := hZ6.cell 0; have z1 := hZ6.cell 1; have zf0 := hZ6.frozen 0; have zf1 := hZ6.frozen 1; have lZ := hZ6.lt; simp only [Yl] at z0 z1; intro kk; revert zf0 zf1 lZ z0 z1; exact kk) : B := h k
theorem Ku (k : A) (h : A → B := by have Hq := bA hq; (have HH : ∀ V : World, Below W.heap.size W V → (V.cell? ⟨bn, 0, none⟩ = some (.int .i64 nn.op) ∧ V.cell? ⟨bn, 1, none⟩ = some (.int .i64 nn.d) ∧ V.cell? ⟨bn, 2, none⟩ = some (.int .i64 nn.a) ∧ V.cell? ⟨bn, 3, none⟩ = some (.int .i64 nn.b) ∧ V.cell? ⟨bn, 4, none⟩ = some (.int .i64 nn.t) ∧ V.cell? ⟨bn, 5, none⟩ = some (.int .i64 nn.e) ∧ V.cell? ⟨w.heap.size + 1, 0, none⟩ = some (.int .i64 t.op) ∧ V.cell? ⟨w.heap.size + 1, 1, none⟩ = some (.int .i64 t.a) ∧ V.cell? ⟨w.heap.size + 1, 2, none⟩ = some (.int .i64 t.b)) := by exact Yr); (have HG : ∀ V w9 : World, Below W.heap.size W V → V.grownBy w9 v2.ownBlock → (w9.cell? ⟨bn, 0, none⟩ = some (.int .i64 nn.op) ∧ w9.cell? ⟨bn, 1, none⟩ = some (.int .i64 nn.d) ∧ w9.cell? ⟨bn, 2, none⟩ = some (.int .i64 nn.a) ∧ w9.cell? ⟨bn, 3, none⟩ = some (.int .i64 nn.b) ∧ w9.cell? ⟨bn, 4, none⟩ = some (.int .i64 nn.t) ∧ w9.cell? ⟨bn, 5, none⟩ = some (.int .i64 nn.e) ∧ w9.cell? ⟨w.heap.size + 1, 0, none⟩ = some (.int .i64 t.op) ∧ w9.cell? ⟨w.heap.size + 1, 1, none⟩ = some (.int .i64 t.a) ∧ w9.cell? ⟨w.heap.size + 1, 2, none⟩ = some (.int .i64 t.b)) := by exact Yq); (have HZ : ∀ (V : World) (u : Value), (V.cell? ⟨bn, 0, none⟩ = some (.int .i64 nn.op) ∧ V.cell? ⟨bn, 1, none⟩ = some (.int .i64 nn.d) ∧ V.cell? ⟨bn, 2, none⟩ = some (.int .i64 nn.a) ∧ V.cell? ⟨bn, 3, none⟩ = some (.int .i64 nn.b) ∧ V.cell? ⟨bn, 4, none⟩ = some (.int .i64 nn.t) ∧ V.cell? ⟨bn, 5, none⟩ = some (.int .i64 nn.e) ∧ V.cell? ⟨w.heap.size + 1, 0, none⟩ = some (.int .i64 t.op) ∧ V.cell? ⟨w.heap.size + 1, 1, none⟩ = some (.int .i64 t.a) ∧ V.cell? ⟨w.heap.size + 1, 2, none⟩ = some (.int .i64 t.b)) → ((V.setCell ⟨w.heap.size + 3, 1, none⟩ u).cell? ⟨bn, 0, none⟩ = some (.int .i64 nn.op) ∧ (V.setCell ⟨w.heap.size + 3, 1, none⟩ u).cell? ⟨bn, 1, none⟩ = some (.int .i64 nn.d) ∧ (V.setCell ⟨w.heap.size + 3, 1, none⟩ u).cell? ⟨bn, 2, none⟩ = some (.int .i64 nn.a) ∧ (V.setCell ⟨w.heap.size + 3, 1, none⟩ u).cell? ⟨bn, 3, none⟩ = some (.int .i64 nn.b) ∧ (V.setCell ⟨w.heap.size + 3, 1, none⟩ u).cell? ⟨bn, 4, none⟩ = some (.int .i64 nn.t) ∧ (V.setCell ⟨w.heap.size + 3, 1, none⟩ u).cell? ⟨bn, 5, none⟩ = some (.int .i64 nn.e) ∧ (V.setCell ⟨w.heap.size + 3, 1, none⟩ u).cell? ⟨w.heap.size + 1, 0, none⟩ = some (.int .i64 t.op) ∧ (V.setCell ⟨w.heap.size + 3, 1, none⟩ u).cell? ⟨w.heap.size + 1, 1, none⟩ = some (.int .i64 t.a) ∧ (V.setCell ⟨w.heap.size + 3, 1, none⟩ u).cell? ⟨w.heap.size + 1, 2, none⟩ = some (.int .i64 t.b)) := by exact Ys); intro kk; revert Hq HH HG HZ; exact kk) : B := h k
theorem Kv (k : A) (h : A → B := by (have HH : ∀ V : World, Below wc.heap.size wc V → S V := by rw [eS]; exact fun V hV => ⟨((bB hV).1 _ _ Zb).trans p1, ((bB hV).1 _ _ Zb).trans n0, ((bB hV).1 _ _ Zb).trans n1, ((bB hV).1 _ _ Zb).trans n2, ((bB hV).1 _ _ Zb).trans n3, ((bB hV).1 _ _ Zb).trans n4, ((bB hV).1 _ _ Zb).trans n5, ((bB hV).1 _ _ Zb).trans t0, ((bB hV).1 _ _ Zb).trans t1, ((bB hV).1 _ _ Zb).trans t2, ((bB hV).1 _ _ Zb).trans f4, ((bB hV).1 _ _ Zb).trans f5, ((bB hV).1 _ _ Zb).trans e4, ((bB hV).1 _ _ Zb).trans e5⟩); (have HG : ∀ V w9 : World, Below wc.heap.size wc V → V.grownBy w9 v2.ownBlock → S w9 := by exact Yx); (have HZ : ∀ (V : World) (u : Value), S V → S (V.setCell ⟨lb, 1, none⟩ u) := by rw [eS]; exact fun V u ⟨p1, n0, n1, n2, n3, n4, n5, t0, t1, t2, f4, f5, e4, e5⟩ => ⟨(bL Zb _ _).trans p1, (bL Zb _ _).trans n0, (bL Zb _ _).trans n1, (bL Zb _ _).trans n2, (bL Zb _ _).trans n3, (bL Zb _ _).trans n4, (bL Zb _ _).trans n5, (bL Zb _ _).trans t0, (bL Zb _ _).trans t1, (bL Zb _ _).trans t2, (bL Zb _ _).trans f4, (bL Zb _ _).trans f5, (bL Zb _ _).trans e4, (bL Zb _ _).trans e5⟩); have ES := bA eS; intro kk; revert HH HG HZ ES; exact kk) : B := h k
theorem Kw (k : A) (h : A → B := by (have HH : ∀ V : World, Below wr.heap.size wr V → S V := by rw [eS]; exact fun V hV => ⟨((bB hV).1 _ _ Zb).trans f4, ((bB hV).1 _ _ Zb).trans f5, ((bB hV).1 _ _ Zb).trans e4, ((bB hV).1 _ _ Zb).trans e5⟩); (have HG : ∀ V w9 : World, Below wr.heap.size wr V → V.grownBy w9 v1.ownBlock → S w9 := by exact Yy); (have HZ : ∀ (V : World) (u : Value), S V → S (V.setCell ⟨lb, 0, none⟩ u) := by rw [eS]; exact fun V u ⟨f4, f5, e4, e5⟩ => ⟨(bL Zb _ _).trans f4, (bL Zb _ _).trans f5, (bL Zb _ _).trans e4, (bL Zb _ _).trans e5⟩); have ES := bA eS; intro kk; revert HH HG HZ ES; exact kk) : B := h k
theorem Kx (k : A) (h : A → B := by have X9 := HG _ _ hC2 hg9; have hq9 := Blk.grown (HS.out.L.below hC2 HS.out.L.lt) hg9 (HS.out.r2.ne_blk HS.out.L Ze); have hP9 := HS.out.put2 hC2 hr9 hg9 hat9; have HP9 := bA hP9; intro kk; revert X9 hq9 HP9; exact kk) : B := h k
theorem Ky (k : A) (h : A → B := by have hz1 := hb1.size; simp only [World.size_alloc] at hz1; have hP1 : Blk w1 w.heap.size 24 #[.int .i64 regs, .slice A l.length cap] := Blk.below Yd hb1 Zd; have hO1 : Blk w1 (w.heap.size + 1) 24 #[.int .i64 0, .slice none 0 0] := Blk.below Yd hb1 Zd; have hB1 : Below w.heap.size w w1 := Below.trans Yc (hb1.mono Zd); intro kk; revert hz1 hP1 hO1 hB1; exact kk) : B := h k
theorem Kz (k : A) (h : A → B := by have u0 : (0 : Int) ≤ (k : Int) := Zb; have u1 : (k : Int) < (l.length : Int) := Zb; have hel : (bF false l k).length ≤ l.length := wU _ _ _; have hS2 := hS1; intro kk; revert u0 u1 hel hS2; exact kk) : B := h k
theorem K0 (k : A) (h : A → B := by have hz1 := hb1.size; simp only [World.size_alloc] at hz1; have hB : Below w.heap.size w w1 := Yc; have hP : Blk w1 w.heap.size 24 #[.int .i64 regs, .slice A l.length cap] := Blk.below Ye hb1 Zd; have hO : Blk w1 (w.heap.size + 1) 24 #[.int .i64 0, .slice none 0 0] := Blk.below Ye hb1 Zd; intro kk; revert hz1 hB hP hO; exact kk) : B := h k
theorem K1 (k : A) (h : A → B := by have hz1 := hb1.size; simp only [World.size_alloc] at hz1; have hB1 : Below w.heap.size w w1 := Yc; have hP1 : Blk w1 w.heap.size 24 #[.int .i64 regs, .slice A l.length cap] := Blk.below Ye hb1 Zd; have hT1 : Blk w1 (w.heap.size + 1) 56 (tmA t) := Blk.below Yg hb1 Zd; intro kk; revert hz1 hB1 hP1 hT1; exact kk) : B := h k
theorem K2 (k : A) (h : A → B := by have cA := (hG.node 0).1; have kA := hG.cnt.1; have kF := hG.cnt.2; simp only [Yl] at cA; intro kk; revert kA kF cA; exact kk) : B := h k
theorem K3 (k : A) (h : A → B := by (have n1b : v1.ownBlock ≠ some qb := fun e => by have := (hS.r1.lt _ e).2; omega); (have n2b : v2.ownBlock ≠ some qb := fun e => by have := (hS.r2.lt _ e).2; omega); have hqg : W0.heap.size ≤ qb := Zb; (have hqo : ob ≠ qb := by have := hS.box.lt; omega); intro kk; revert n1b n2b hqg hqo; exact kk) : B := h k
theorem K4 (k : A) (h : A → B := by (have G5 := bA (by rw [hW1]; exact H5.out.drew : cO W1 w.heap.size 39 (.slice (some ⟨gv, 0, none⟩) out.length cN) out)); (have G6 := bA (by rw [hW1]; exact H6.out.drew : Blk W1 GQ 24 #[.int .i64 regs, .slice (some ⟨gv, 0, none⟩) out.length cN])); (have G7 := bA (by rw [hW1]; exact H7.out.later ((Below.refl _ _).drew) : jM 3 25 24 w.heap.size w regs (.slice (some ⟨nb, no, none⟩) l.length cap) g l.length (fun (m : Nat) => eE l m) W1)); have G8 := bA (H8.out.keeps hk1); intro kk; revert G5 G6 G7 G8; exact kk) : B := h k
theorem K5 (k : A) (h : A → B := by have v0 : (0 : Int) ≤ (j : Int) := Zb; have v1 : (j : Int) < (es.length : Int) := Zb; have m0 : (0 : Int) ≤ (mm : Int) := Zb; have m1 : (mm : Int) < (l.length : Int) := Zb; intro kk; revert v0 v1 m0 m1; exact kk) : B := h k
theorem K6 (k : A) (h : A → B := by (have hM2 : MSt w regs (some ⟨nb, no, none⟩) l cap inp mb gr gm Ai ci ov { s with steps := s.steps + 1 } W2 := by rw [hW2]; exact (hM.steps_ (s.steps + 1)).later ((Below.refl _ _).alloc (Nat.le_refl _) _)); (have hmg : ¬ (g5 = mb) := by have := hM.box.lt; omega); (have hN : Blk W2 g5 39 #[.int .i64 11, .int .i64 d, .int .i64 a, .int .i64 b, .int .i64 t, .int .i64 e] := by exact Y8); have k1 := hM.box.cell 1; intro kk; revert hM2 hmg hN k1; exact kk) : B := h k
theorem K7 (k : A) (h : A → B := by (have hM2 : MSt w regs (some ⟨nb, no, none⟩) l cap inp mb gr gm Ai ci ov { s with steps := s.steps + 1 } W2 := by rw [hW2]; exact (hM.steps_ (s.steps + 1)).later ((Below.refl _ _).alloc (Nat.le_refl _) _)); (have hmg : ¬ (g5 = mb) := by have := hM.box.lt; omega); (have hN : Blk W2 g5 39 #[.int .i64 9, .int .i64 d, .int .i64 a, .int .i64 b, .int .i64 t, .int .i64 e] := by exact Y8); have k1 := hM.box.cell 1; intro kk; revert hM2 hmg hN k1; exact kk) : B := h k
theorem K8 (k : A) (h : A → B := by have cN := (hG.node 4).1; have fN := (hG.node 4).2; have cA := (hG.node 0).1; simp only [Yl] at cN cA; intro kk; revert fN cN cA; exact kk) : B := h k
theorem K9 (k : A) (h : A → B := by have HK1 := bA hK; have hx := (HS.out.L.below hC0 HS.out.L.lt).cell 1; simp only [Yl] at hx; intro kk; revert HK1 hx; exact kk) : B := h k
theorem Wf (k : A) (h : A → B := by have HK1 := bA hK; have hx := (HS.out.L.below hC1 HS.out.L.lt).cell 1; simp only [Yl] at hx; intro kk; revert HK1 hx; exact kk) : B := h k
theorem Wg (k : A) (h : A → B := by have HK1 := bA hK; have hx := (HS.out.L.below hC2 HS.out.L.lt).cell 1; simp only [Yl] at hx; intro kk; revert HK1 hx; exact kk) : B := h k
theorem Wh (k : A) (h : A → B := by have cN := (hG.node 2).1; have fN := (hG.node 2).2; have cA := (hG.node 0).1; simp only [Yl] at cN cA; intro kk; revert fN cN cA; exact kk) : B := h k
theorem Wi (k : A) (h : A → B := by have HM2 := bA hM2; have HW2 := bA hW2; have Hg5 := bA hg5; intro kk; revert HM2 HW2 Hg5; exact kk) : B := h k
theorem Wj (k : A) (h : A → B := by (have hb3 : Below W1.heap.size W1 W3 := by rw [hW3]; exact ((Below.refl _ _).drew).alloc Zf _); (have hk3 : KeepsOthers W1 W3 := by rw [hW3]; exact (KeepsOthers.drew _).trans (KeepsOthers.alloc _ _)); have E4' := G4'.out.below' hb3; intro kk; revert hb3 hk3 E4'; exact kk) : B := h k
theorem Wk (k : A) (h : A → B := by have hB0 : Below w.heap.size w ((w.alloc (.cells #[.int .i64 regs, .slice A l.length cap] 24)).alloc (.cells #[.int .i64 0, .slice none 0 0] 24)) := ((Below.refl _ _).alloc (Nat.le_refl _) _).alloc Zf _; have hP0 : Blk ((w.alloc (.cells #[.int .i64 regs, .slice A l.length cap] 24)).alloc (.cells #[.int .i64 0, .slice none 0 0] 24)) w.heap.size 24 #[.int .i64 regs, .slice A l.length cap] := (Blk.new w _ _).alloc _; have hZ0 : Blk ((w.alloc (.cells #[.int .i64 regs, .slice A l.length cap] 24)).alloc (.cells #[.int .i64 0, .slice none 0 0] 24)) (w.heap.size + 1) 24 #[.int .i64 0, .slice none 0 0] := Blk.new' Zf; intro kk; revert hB0 hP0 hZ0; exact kk) : B := h k
theorem Wl (k : A) (h : A → B := by have p0 := hP.cell 0; have p1 := hP.cell 1; simp only [Yl] at p0 p1; intro kk; revert p0 p1; exact kk) : B := h k
theorem Wm (k : A) (h : A → B := by (have hC3 : Below W.heap.size W V3 := by rw [hV3]; exact Below.alloc hC2 hC2.size _); (have hv1 : bG V3 (some ⟨V2.heap.size, 0, none⟩) [.bool (g k)] := by rw [hV3]; exact dK _ _ _); intro kk; revert hC3 hv1; exact kk) : B := h k
theorem Wo (k : A) (h : A → B := by have hS5 := HS4.out.far6 (u0 := .int .i64 t.op) (u1 := .int .i64 regs) (u2 := .int .i64 t.a) (u3 := .int .i64 t.b) (u4 := .int .i64 ((l.length : Int) + (rk pt k : Int))) (u5 := .int .i64 0) HX4.out n1b n4b hqg; rw [← hW5] at hS5; (have hX5 : Blk W5 qb 39 #[.int .i64 t.op, .int .i64 regs, .int .i64 t.a, .int .i64 t.b, .int .i64 ((l.length : Int) + (rk pt k : Int)), .int .i64 0] := by rw [hW5]; exact (((((HX4.out.set_ 0 _).set_ 1 _).set_ 2 _).set_ 3 _).set_ 4 _).set_ 5 _); intro kk; revert hX5; revert hS5; exact kk) : B := h k
theorem Wp (k : A) (h : A → B := by (have hC2 : Below wc.heap.size wc V2 := by rw [hV2]; exact Below.alloc hC1 hC1.size _); (have hv1 : bG V2 (some ⟨V1.heap.size, 0, none⟩) [.bool (!yn F.alone k)] := by rw [hV2]; exact dK _ _ _); intro kk; revert hC2 hv1; exact kk) : B := h k
theorem Wq (k : A) (h : A → B := by (have hC2 : Below wc.heap.size wc V2 := by rw [hV2]; exact Below.alloc hC1 hC1.size _); (have hv1 : bG V2 (some ⟨V1.heap.size, 0, none⟩) [.bool (false)] := by rw [hV2]; exact dK _ _ _); intro kk; revert hC2 hv1; exact kk) : B := h k
theorem Wr (k : A) (h : A → B := by (have hC2 : Below wc.heap.size wc V2 := by rw [hV2]; exact Below.alloc hC1 hC1.size _); (have hv1 : bG V2 (some ⟨V1.heap.size, 0, none⟩) [.bool (true)] := by rw [hV2]; exact dK _ _ _); intro kk; revert hC2 hv1; exact kk) : B := h k
theorem Ws (k : A) (h : A → B := by (have hC2 : Below W.heap.size W V2 := by rw [hV2]; exact Below.alloc hC1 hC1.size _); (have hv1 : bG V2 (some ⟨V1.heap.size, 0, none⟩) [.bool (f k)] := by rw [hV2]; exact dK _ _ _); intro kk; revert hC2 hv1; exact kk) : B := h k
theorem Wt (k : A) (h : A → B := by (have hC2 : Below W.heap.size W V2 := by rw [hV2]; exact Below.alloc hC1 hC1.size _); (have hv1 : bG V2 (some ⟨V1.heap.size, 0, none⟩) [.bool false] := by rw [hV2]; exact dK _ _ _); intro kk; revert hC2 hv1; exact kk) : B := h k
theorem Wu (k : A) (h : A → B := by (have hC2 : Below wr.heap.size wr V2 := by rw [hV2]; exact Below.alloc hC1 hC1.size _); (have hv1 : bH V2 (some ⟨V1.heap.size, 0, none⟩) [x] := by rw [hV2]; exact cH rfl); intro kk; revert hC2 hv1; exact kk) : B := h k
theorem Wv (k : A) (h : A → B := by have hC := fun W (hW : Below w.heap.size w W) => fZ regs A l cap W hl (hA.below hW); rw [h0] at hC; have HC := bA hC; intro kk; revert HC; revert hC; exact kk) : B := h k
theorem Ww (k : A) (h : A → B := by have hz1 := hb1.size; simp only [World.size_alloc] at hz1; have hB1 : Below w.heap.size w w1 := Yc; intro kk; revert hz1 hB1; exact kk) : B := h k
theorem Wx (k : A) (h : A → B := by (have hk1 : KeepsOthers W W1 := by rw [hW1]; exact KeepsOthers.drew _); (have G1 := bA (by rw [hW1]; exact H1.out.drew : Blk W1 (bx + 1 + 1 + 1) 96 #[.pointer (some ⟨bx + 1, 0, none⟩)])); (have G2 := bA (by rw [hW1]; exact H2.out.drew : Blk W1 bx 39 (ndA n))); intro kk; revert hk1 G1 G2; exact kk) : B := h k
theorem Wy (k : A) (h : A → B := by have hB2 : Below w.heap.size w (w1.alloc (.cells #[.int .i64 regs, .slice A1 l.length c1] 24)) := hb1.alloc hb1.size _; have hQ2 := Blk.new w1 24 #[.int .i64 regs, .slice A1 l.length c1]; have hN2 := hN1.alloc (.cells #[.int .i64 regs, .slice A1 l.length c1] 24); intro kk; revert hB2 hQ2 hN2; exact kk) : B := h k
theorem Wz (k : A) (h : A → B := by have hB4 : Below w.heap.size w (w3.alloc (.cells #[.int .i64 r', .slice A3 l'.length c3] 24)) := hB3.alloc hB3.size _; have hQ4 := Blk.new w3 24 #[.int .i64 r', .slice A3 l'.length c3]; have hN4 := hN3.alloc (.cells #[.int .i64 r', .slice A3 l'.length c3] 24); intro kk; revert hB4 hQ4 hN4; exact kk) : B := h k
theorem Vf (k : A) (h : A → B := by have u0 : (0 : Int) ≤ (k : Int) := Zb; have u1 : (k : Int) < (l.length : Int) := Zb; have Hn := bA hn; intro kk; revert u0 u1 Hn; exact kk) : B := h k
theorem Vg (k : A) (h : A → B := by have hG : eU Sf l.length y := HSw.out.great HM.out Zb; have HG := bA hG; intro kk; revert HG; exact kk) : B := h k
theorem Vh (k : A) (h : A → B := by (have hM2 : MSt w regs (some ⟨nb, no, none⟩) l cap inp mb gr gm Ai ci ov { s with steps := s.steps + 1 } W2 := by rw [hW2]; exact (hM.steps_ (s.steps + 1)).later ((Below.refl _ _).alloc (Nat.le_refl _) _)); (have hmg : ¬ (g5 = mb) := by have := hM.box.lt; omega); intro kk; revert hM2 hmg; exact kk) : B := h k
theorem Vj (k : A) (h : A → B := by have u0 : (0 : Int) ≤ (s.pos : Int) := Zb; have u1 : (s.pos : Int) < (l.length : Int) := Zb; intro kk; revert u0 u1; exact kk) : B := h k
theorem Vk (k : A) (h : A → B := by have u0 : (0 : Int) ≤ (k : Int) := Zb; have u1 : (k : Int) < (l.length : Int) := Zb; intro kk; revert u0 u1; exact kk) : B := h k
theorem Vl (k : A) (h : A → B := by have HN := bA (nF gc g7 1 _ _ _ ps hpsl.out Zb wk hG.2.2.1 hG.1 hG.2.2.2.1 hpl9); have k1 := hG.cnt.1; intro kk; revert HN k1; exact kk) : B := h k
theorem Vm (k : A) (h : A → B := by (have h := Row.made (w := w.alloc (.cells #[.int .i64 regs, .slice A l.length cap] 24)) (base := w.heap.size) (e := 4) (cs := (madeCells #[.bool false] l.length).setIfInBounds 0 (.bool true)) (n := l.length) Zf (by simp [size_madeCells]) Zw); rw [Array.toList_setIfInBounds, toList_madeCells_one] at h; intro kk; revert h; exact kk) : B := h k
theorem Vo (k : A) (h : A → B := by have hC1 : Below wc.heap.size wc V1 := hC0.trans (hbV1.mono hC0.size); intro kk; revert hC1; exact kk) : B := h k
theorem Vp (k : A) (h : A → B := by have hC := fun W (hW : Below w.heap.size w W) => fZ regs A l cap W hl (hA.below hW); have HC := bA hC; intro kk; revert hC HC; exact kk) : B := h k
theorem Vr (k : A) (h : A → B := by have hC1 : Below W.heap.size W V1 := hC0.trans (hbV1.mono hC0.size); intro kk; revert hC1; exact kk) : B := h k
theorem Vs (k : A) (h : A → B := by have u0 : (0 : Int) ≤ (k : Int) := Zb; have u1 : (k : Int) < (n : Int) := Zb; intro kk; revert u0 u1; exact kk) : B := h k
theorem Vt (k : A) (h : A → B := by have HX := bA (fun W (hW : Below w.heap.size w W) => hX.below hW); have HY := bA (fun W (hW : Below w.heap.size w W) => hY.below hW); intro kk; revert HX HY; exact kk) : B := h k
theorem Vu (k : A) (h : A → B := by have q0 : (0 : Int) ≤ (k : Int) := Zb; have q1 : (k : Int) < (l.length : Int) := Zb; intro kk; revert q0 q1; exact kk) : B := h k
end
section
variable {A B : Prop}
theorem Ju (k : A) (h : Hq A → B := by intro kk; refine wp_region_held_drew (S := fun w' => (w'.cell? ⟨bn, 0, none⟩ = some (.int .i64 nn.op) ∧ w'.cell? ⟨bn, 1, none⟩ = some (.int .i64 nn.d) ∧ w'.cell? ⟨bn, 2, none⟩ = some (.int .i64 nn.a) ∧ w'.cell? ⟨bn, 3, none⟩ = some (.int .i64 nn.b) ∧ w'.cell? ⟨bn, 4, none⟩ = some (.int .i64 nn.t) ∧ w'.cell? ⟨bn, 5, none⟩ = some (.int .i64 nn.e) ∧ w'.cell? ⟨w.heap.size + 1, 0, none⟩ = some (.int .i64 t.op) ∧ w'.cell? ⟨w.heap.size + 1, 1, none⟩ = some (.int .i64 t.a) ∧ w'.cell? ⟨w.heap.size + 1, 2, none⟩ = some (.int .i64 t.b))) Zc ⟨n0, n1, n2, n3, n4, n5, t0, t1, t2⟩ ?_; exact kk.out) : B := h ⟨k⟩
theorem Jv (k : A) (h : Hq A → B := by intro kk; refine wp_region_held_drew (S := fun w' => (w'.cell? ⟨w.heap.size, 1, none⟩ = some (.slice (some ⟨nb, no, none⟩) l.length cap) ∧ w'.cell? ⟨w.heap.size + 1, 0, none⟩ = some (.int .i64 t.op) ∧ w'.cell? ⟨w.heap.size + 1, 1, none⟩ = some (.int .i64 t.a) ∧ w'.cell? ⟨w.heap.size + 1, 2, none⟩ = some (.int .i64 t.b) ∧ w'.cell? ⟨nb, no + k * 6, none⟩ = some (.int .i64 n.op) ∧ w'.cell? ⟨nb, no + k * 6 + 1, none⟩ = some (.int .i64 n.d) ∧ w'.cell? ⟨nb, no + k * 6 + 2, none⟩ = some (.int .i64 n.a) ∧ w'.cell? ⟨nb, no + k * 6 + 3, none⟩ = some (.int .i64 n.b) ∧ w'.cell? ⟨nb, no + k * 6 + 4, none⟩ = some (.int .i64 n.t) ∧ w'.cell? ⟨nb, no + k * 6 + 5, none⟩ = some (.int .i64 n.e))) Zc ⟨p1, t0, t1, t2, n0, n1, n2, n3, n4, n5⟩ ?_; exact kk.out) : B := h ⟨k⟩
theorem Jw (k : A) (h : Hq A → B := by intro kk; refine wp_region_held_drew (S := fun w' => (w'.cell? ⟨w.heap.size, 1, none⟩ = some (.slice (some ⟨nb, no, none⟩) l.length cap) ∧ w'.cell? ⟨w.heap.size + 1, 0, none⟩ = some (.int .i64 t.op) ∧ w'.cell? ⟨w.heap.size + 1, 1, none⟩ = some (.int .i64 t.a) ∧ w'.cell? ⟨w.heap.size + 1, 2, none⟩ = some (.int .i64 t.b) ∧ w'.cell? ⟨nb, no + mm * 6, none⟩ = some (.int .i64 n.op) ∧ w'.cell? ⟨nb, no + mm * 6 + 1, none⟩ = some (.int .i64 n.d) ∧ w'.cell? ⟨nb, no + mm * 6 + 2, none⟩ = some (.int .i64 n.a) ∧ w'.cell? ⟨nb, no + mm * 6 + 3, none⟩ = some (.int .i64 n.b) ∧ w'.cell? ⟨nb, no + mm * 6 + 4, none⟩ = some (.int .i64 n.t) ∧ w'.cell? ⟨nb, no + mm * 6 + 5, none⟩ = some (.int .i64 n.e) ∧ w'.cell? ⟨rb, ro + j, none⟩ = some (.int .i64 (mm : Int)))) Zc ⟨p1, t0, t1, t2, n0, n1, n2, n3, n4, n5, es0⟩ ?_; exact kk.out) : B := h ⟨k⟩
theorem Jx (k : A) (h : Hq A → B := by intro kk; refine wp_region_held_drew (S := S) Zc (HH _ (Below.refl _ _).drew) ?_; exact kk.out) : B := h ⟨k⟩
theorem Jy (k : A) (h : Hq A → B := by intro kk; refine wp_region_held_drew (S := fun w' => (w'.cell? ⟨w.heap.size, 0, none⟩ = some (.int .i64 regs) ∧ w'.cell? ⟨w.heap.size, 1, none⟩ = some (.slice A l.length cap))) Zc ⟨p0, p1⟩ ?_; exact kk.out) : B := h ⟨k⟩
theorem Jz (k : A) (h : Hq A → B := by intro kk; refine wp_region_held_drew (S := fun w' => w'.cell? ⟨g9, 0, none⟩ = some (.int .i64 x.op) ∧ w'.cell? ⟨g9, 1, none⟩ = some (.int .i64 x.a) ∧ w'.cell? ⟨g9, 2, none⟩ = some (.int .i64 x.b)) Zc ⟨t0, t1, t2⟩ ?_; exact kk.out) : B := h ⟨k⟩
end

end
theorem Yn {P : Prop} (h : P := by (
 obtain ⟨b, off, e, hb, hc⟩ := h X3
 exact ⟨b, off, l[k], e, hb, Vx hk, hc k _ (Vx hk)⟩)) : P := h
structure Nd where
 op : Int
 d : Int
 a : Int
 b : Int
 t : Int
 e : Int
deriving DecidableEq, Inhabited
def Nd.cells (n : Nd) : List Value := [.int .i64 n.op, .int .i64 n.d, .int .i64 n.a, .int .i64 n.b, .int .i64 n.t, .int .i64 n.e]
def Nd.lies (n : Nd) (w : World) (b off : Nat) : Prop :=
 w.cell? ⟨b, off, none⟩ = some (.int .i64 n.op) ∧ w.cell? ⟨b, off + 1, none⟩ = some (.int .i64 n.d) ∧ w.cell? ⟨b, off + 2, none⟩ = some (.int .i64 n.a) ∧
 w.cell? ⟨b, off + 3, none⟩ = some (.int .i64 n.b) ∧ w.cell? ⟨b, off + 4, none⟩ = some (.int .i64 n.t) ∧ w.cell? ⟨b, off + 5, none⟩ = some (.int .i64 n.e)
def bH (w : World) (A : Option Addr) (l : List Nd) : Prop :=
 l ≠ [] → ∃ b off, A = some ⟨b, off, none⟩ ∧ b < w.heap.size ∧ ∀ (i : Nat) (n : Nd), l[i]? = some n → n.lies w b (off + i * 6)
def bG (w : World) (A : Option Addr) (l : List Value) : Prop :=
 l ≠ [] → ∃ b off, A = some ⟨b, off, none⟩ ∧ b < w.heap.size ∧ ∀ (i : Nat) (v : Value), l[i]? = some v → w.cell? ⟨b, off + i, none⟩ = some v
theorem bB {B : Nat} {W w1 : World} (hb : Below B W w1) : (∀ b o, b < B → w1.cell? ⟨b, o, none⟩ = W.cell? ⟨b, o, none⟩) ∧ (∀ b o, b < B → w1.frozen? ⟨b, o, none⟩ = W.frozen? ⟨b, o, none⟩) :=
 ⟨fun b o h => hb.cell (p := ⟨b, o, none⟩) h, fun b o h => hb.frozen (p := ⟨b, o, none⟩) h⟩
theorem Nd.lies.below {n : Nd} {B : Nat} {w w' : World} {b off : Nat} (h : n.lies w b off) (hb : Below B w w') (hl : b < B) : n.lies w' b off := by (
 obtain ⟨hc, _⟩ := bB hb
 obtain ⟨h0, h1, h2, h3, h4, h5⟩ := h
 exact ⟨(hc _ _ hl).trans h0, (hc _ _ hl).trans h1, (hc _ _ hl).trans h2, (hc _ _ hl).trans h3, (hc _ _ hl).trans h4, (hc _ _ hl).trans h5⟩)
theorem bH.below {w w' : World} {A : Option Addr} {l : List Nd} (h : bH w A l) (hb : Below w.heap.size w w') : bH w' A l := fun hn => by (
 obtain ⟨b, off, e, hl, hc⟩ := h hn
 exact ⟨b, off, e, V6 hl hb.size, fun i n hi => (hc i n hi).below hb hl⟩)
theorem bG.below {w w' : World} {A : Option Addr} {l : List Value} (h : bG w A l) (hb : Below w.heap.size w w') : bG w' A l := fun hn => by (
 obtain ⟨b, off, e, hl, hc⟩ := h hn
 exact ⟨b, off, e, V6 hl hb.size, fun i v hi => ((bB hb).1 _ _ hl).trans (hc i v hi)⟩)
theorem bH.mk {w : World} {b off : Nat} {l : List Nd} (hb : b < w.heap.size) (h : ∀ (i : Nat) (n : Nd), l[i]? = some n → n.lies w b (off + i * 6)) : bH w (some ⟨b, off, none⟩) l :=
 fun _ => ⟨b, off, rfl, hb, h⟩
theorem bG.mk {w : World} {b off : Nat} {l : List Value} (hb : b < w.heap.size) (h : ∀ (i : Nat) (v : Value), l[i]? = some v → w.cell? ⟨b, off + i, none⟩ = some v) : bG w (some ⟨b, off, none⟩) l :=
 fun _ => ⟨b, off, rfl, hb, h⟩
theorem oN {w : World} {o : Obj} {b i : Nat} (h : b < w.heap.size) : (w.alloc o).cell? ⟨b, i, none⟩ = w.cell? ⟨b, i, none⟩ := World.cell?_of_block (Below.heap_alloc w o b h)
theorem bIN {w : World} {o : Obj} {b i : Nat} (h : b < w.heap.size) : (w.alloc o).frozen? ⟨b, i, none⟩ = w.frozen? ⟨b, i, none⟩ := World.frozen?_of_block (Below.heap_alloc w o b h)
theorem bA {p : Prop} (h : p) : Hid p := h
theorem bZ {B : Nat} {a w : World} (h : Below B a w) (n : Nat) : Below B a (w.drewN n) := ⟨h.os, h.tape, h.output, h.size, h.block⟩
theorem bIF {k : IntKind} {a b : Int} (h : a = b) : Ending.returned (.int k a) = .returned (.int k b) := by rw [h]
theorem bML {a b : Bool} (h : a = b) : Ending.returned (.bool a) = .returned (.bool b) := by rw [h]
def cB (n : Int) : Prop := -9223372036854775808 ≤ n ∧ n ≤ 9223372036854775807
theorem dQ {α : Type} (p : α → Bool) (l : List α) (k : Nat) (x : α) (h : l[k]? = some x) : (l.take (k + 1)).any p = ((l.take k).any p || p x) := by (
 rw [List.take_add_one, h]; simp)
theorem fQ {α : Type} (p : α → Bool) (l : List α) (k : Nat) (x : α) (h : l[k]? = some x) (hp : p x = true) : l.any p = true :=
 List.any_eq_true.2 ⟨x, V4 h, hp⟩
theorem eF {α : Type} (p : α → Bool) (l : List α) (k : Nat) (h : ¬ k < l.length) : (l.take k).any p = l.any p := by (
 rw [List.take_of_length_le Zb])
theorem bH.get {w : World} {A : Option Addr} {l : List Nd} (h : bH w A l) {k : Nat} (hk : k < l.length) :
 ∃ b off n, A = some ⟨b, off, none⟩ ∧ b < w.heap.size ∧ l[k]? = some n ∧ n.lies w b (off + k * 6) := by exact Yn
theorem bG.get {w : World} {A : Option Addr} {l : List Value} (h : bG w A l) {k : Nat} (hk : k < l.length) :
 ∃ b off v, A = some ⟨b, off, none⟩ ∧ b < w.heap.size ∧ l[k]? = some v ∧ w.cell? ⟨b, off + k, none⟩ = some v := by exact Yn
section
def Row (w : World) (base : Nat) (e : TypeId) (v : Value) (xs : List Value) : Prop :=
 (v = .slice none 0 0 ∧ xs = []) ∨
 ∃ g o cap cur, v = .slice (some ⟨g, o, none⟩) xs.length cap ∧ base ≤ g ∧ w.heap[g]? = some (.cells cur e (0, 0)) ∧ xs.length ≤ cap ∧ cap ≤ maxLen ∧ o + cap ≤ cur.size ∧
  ∀ j x, xs[j]? = some x → cur[o + j]? = some x
section
variable {w w' : World} {base : Nat} {e : TypeId} {v : Value} {xs : List Value}
theorem Row.nil_ (w : World) (base : Nat) (e : TypeId) : Row w base e (.slice none 0 0) [] := .inl ⟨rfl, rfl⟩
theorem cJ {g : Nat} {o : Obj} (h : w.heap[g]? = some o) : g < w.heap.size := by (
 rcases Nat.lt_or_ge g w.heap.size with hl | hl
 · exact hl
 · rw [Array.getElem?_eq_none hl] at h; cases h)
theorem Row.lt (h : Row w base e v xs) : ∀ k, v.ownBlock = some k → base ≤ k ∧ k < w.heap.size := by (
 rintro k hk
 rcases h with ⟨rfl, _⟩ | ⟨g, o, cap, cur, rfl, hb, hh, _⟩
 · simp [Value.ownBlock] at hk
 · (
 simp [Value.ownBlock] at hk
 subst hk
 exact ⟨hb, cJ hh⟩))
theorem Row.of_block (h : Row w base e v xs) (hk : ∀ k, v.ownBlock = some k → w'.heap[k]? = w.heap[k]?) : Row w' base e v xs := by (
 rcases h with h | ⟨g, o, cap, cur, hv, hb, hh, r⟩
 · exact .inl h
 · exact .inr ⟨g, o, cap, cur, hv, hb, (hk g (by rw [hv]; rfl)).trans hh, r⟩)
theorem Row.kept {row : Option Nat} (h : Row w base e v xs) (hg : w.grownBy w' row) (hne : v.ownBlock = none ∨ v.ownBlock ≠ row) : Row w' base e v xs :=
 h.of_block fun k hk => hg.block k (h.lt k hk).2 (by
  rcases hne with hn | hn
  · rw [hn] at hk; cases hk
  · rw [← hk]; exact hn)
theorem Row.below {B : Nat} (h : Row w base e v xs) (hb : Below B w w') (hB : ∀ k, v.ownBlock = some k → k < B) : Row w' base e v xs :=
 h.of_block fun k hk => hb.block k (hB k hk)
theorem Row.below' (h : Row w base e v xs) (hb : Below w.heap.size w w') : Row w' base e v xs :=
 h.of_block fun k hk => hb.block k (h.lt k hk).2
theorem Row.alloc (h : Row w base e v xs) (o : Obj) : Row (w.alloc o) base e v xs := h.of_block fun k hk => Below.heap_alloc w o k (h.lt k hk).2
theorem Row.drew (h : Row w base e v xs) : Row w.drew base e v xs := h
theorem Row.drewN (h : Row w base e v xs) (n : Nat) : Row (w.drewN n) base e v xs := h
theorem Row.far (h : Row w base e v xs) {p : Addr} (hp : v.ownBlock ≠ some p.block) (u : Value) : Row (w.setCell p u) base e v xs :=
 h.of_block fun k hk => Below.heap_setCell w p u k (by rintro rfl; exact hp hk)
theorem Row.mono {base' : Nat} (h : Row w base e v xs) (hb : base' ≤ base) : Row w base' e v xs := by (
 rcases h with h | ⟨g, o, cap, cur, hv, hg, r⟩
 · exact .inl h
 · exact .inr ⟨g, o, cap, cur, hv, Nat.le_trans hb hg, r⟩)
theorem Row.shape (h : Row w base e v xs) : ∃ A cap, v = .slice A xs.length cap ∧ xs.length ≤ cap ∧ cap ≤ maxLen := by (
 rcases h with ⟨rfl, rfl⟩ | ⟨g, o, cap, cur, rfl, _, _, hc, hm, _⟩
 · exact ⟨none, 0, rfl, Nat.le_refl _, Nat.zero_le _⟩
 · exact ⟨_, cap, rfl, hc, hm⟩)
theorem Row.vals {A : Option Addr} {n cap : Nat} (h : Row w base e (.slice A n cap) xs) : bG w A xs := fun hn => by (
 rcases h with ⟨_, rfl⟩ | ⟨g, o, cap, cur, hv, hb, hh, _, _, _, hc⟩
 · exact absurd rfl hn
 · (
 injection hv with hA
 subst hA
 refine ⟨g, o, rfl, cJ hh, fun i x hi => ?_⟩
 have := hc i x hi
 simp [World.cell?, hh, this]))
theorem Row.get (h : Row w base e v xs) {k : Nat} (hk : k < xs.length) :
 ∃ g o cap x, v = .slice (some ⟨g, o, none⟩) xs.length cap ∧ base ≤ g ∧ g < w.heap.size ∧ xs[k]? = some x ∧ w.cell? ⟨g, o + k, none⟩ = some x ∧ w.frozen? ⟨g, o + k, none⟩ = false := by (
 rcases h with ⟨_, rfl⟩ | ⟨g, o, cap, cur, rfl, hb, hh, _, _, _, hc⟩
 · simp at hk
 · (
 have hx : xs[k]? = some xs[k] := Vx hk
 exact ⟨g, o, cap, xs[k], rfl, hb, cJ hh, hx, by simp [World.cell?, hh, hc k _ hx], by simp [World.frozen?, hh]⟩))
theorem gS {c : Array Value} {t : TypeId} {fr : Nat × Nat} {g o : Nat} (h : w.heap[g]? = some (.cells c t fr)) (u : Value) :
 (w.setCell ⟨g, o, none⟩ u).heap[g]? = some (.cells (c.setIfInBounds o u) t fr) := by (
 simp [World.setCell, Array.getElem?_modify, h])
theorem Row.store {g o n cap : Nat} (h : Row w base e (.slice (some ⟨g, o, none⟩) n cap) xs) (k : Nat) (u : Value) :
 Row (w.setCell ⟨g, o + k, none⟩ u) base e (.slice (some ⟨g, o, none⟩) n cap) (xs.set k u) := by (
 rcases h with ⟨hv, _⟩ | ⟨g', o', cap', cur, hv, hb, hh, h1, h2, h3, hc⟩
 · cases hv
 · (
 injection hv with hA hn hcp
 injection hA with hA
 injection hA with hg ho
 subst hg ho hn hcp
 refine .inr ⟨g, o, cap, _, Zf, hb, gS hh u, by simpa using h1, h2, by simpa using h3, fun j x hj => ?_⟩
 rw [List.getElem?_set] at hj
 rw [Array.getElem?_setIfInBounds]
 split at hj
 · (
 rename_i he
 subst he
 split at hj
 · (
 rename_i hk
 simp only [↓reduceIte]
 rw [if_pos Zb]
 exact hj)
 · cases hj)
 · (
 rename_i he
 rw [if_neg Zb]
 exact hc j x hj)))
theorem Row.tail {g o n cap : Nat} {x : Value} (h : Row w base e (.slice (some ⟨g, o, none⟩) n cap) (x :: xs)) :
 Row w base e (.slice (some (if cap = 1 then ⟨g, o, none⟩ else ⟨g, o + 1, none⟩)) (n - 1) (cap - 1)) xs := by (
 rcases h with ⟨hv, _⟩ | ⟨g', o', cap', cur, hv, hb, hh, h1, h2, h3, hc⟩
 · cases hv
 · (
 injection hv with hA hn hcp
 injection hA with hA
 injection hA with hg ho
 subst hg ho hn hcp
 simp only [List.length_cons] at h1 ⊢
 by_cases h1c : cap = 1
 · (
 refine .inr ⟨g, o, cap - 1, cur, by simp [h1c], hb, hh, Zb, Zb, Zb, fun j x hj => ?_⟩
 have hl : xs.length = 0 := Zb
 rw [List.length_eq_zero_iff] at hl
 subst hl
 simp at hj)
 · (
 refine .inr ⟨g, o + 1, cap - 1, cur, by simp [h1c], hb, hh, Zb, Zb, Zb, fun j y hj => ?_⟩
 rw [show o + 1 + j = o + (j + 1) by omega]
 exact hc (j + 1) y (by simpa using hj))))
theorem Row.of_own {n : Nat} (h : w.ownsRow base e 1 v n xs) : Row w base e v xs := by (
 obtain ⟨hl, ⟨hv, hn⟩ | ⟨g, cap, cur, hv, hb, hh, h1, h2, h3, h4⟩⟩ := h
 · (
 subst hn
 exact .inl ⟨hv, List.eq_nil_of_length_eq_zero (by simpa using hl)⟩)
 · (
 have hn : n = xs.length := Zb
 subst hn
 refine .inr ⟨g, 0, cap, cur, hv, hb, hh, h1, h2, Zb, fun j x hj => ?_⟩
 rw [Nat.zero_add, ← Array.getElem?_toList]
 have : (cur.toList.take (xs.length * 1))[j]? = some x := by rw [h4]; exact hj
 rw [List.getElem?_take] at this
 split at this
 · exact this
 · cases this))
theorem Row.made {cs : Array Value} {n : Nat} (hb : base ≤ w.heap.size) (hn : n = cs.size) (hm : n ≤ maxLen) :
 Row (w.alloc (.cells cs e)) base e (.slice (some ⟨w.heap.size, 0, none⟩) n n) cs.toList :=
.inr ⟨w.heap.size, 0, n, cs, by simp [hn], hb, heap_alloc_new w _, by simp [hn], hm, Zb, fun j x hj => by rw [Nat.zero_add]; simpa using hj⟩
theorem qP (g : Nat) (t : TypeId) (fr : Nat × Nat) : ∀ (vs : List Value) (o : Nat) (w : World) (cur : Array Value), w.heap[g]? = some (.cells cur t fr) → o + vs.length ≤ cur.size →
 ∃ cur', (w.setCells g o vs).heap[g]? = some (.cells cur' t fr) ∧ cur'.size = cur.size ∧ (∀ j x, vs[j]? = some x → cur'[o + j]? = some x) ∧ ∀ i, i < o → cur'[i]? = cur[i]?
| [], o, w, cur, h, _ => ⟨cur, h, rfl, Zf, fun _ _ => rfl⟩
| u :: vs, o, w, cur, h, hl => by (
 simp only [List.length_cons] at hl
 obtain ⟨cur', h1, h2, h3, h4⟩ := qP g t fr vs (o + 1) (w.setCell ⟨g, o, none⟩ u) _ (gS h u) Zh
 refine ⟨cur', h1, by simpa using h2, fun j x hj => ?_, fun i hi => ?_⟩
 · (
 rcases j with _ | j
 · (
 simp at hj
 subst hj
 rw [Nat.add_zero, h4 o Zb, Array.getElem?_setIfInBounds]
 simp
 omega)
 · (
 rw [show o + (j + 1) = o + 1 + j by omega]
 exact h3 j x (by simpa using hj)))
 · rw [h4 i Zb, Array.getElem?_setIfInBounds, if_neg Zb])
theorem pC (g : Nat) : ∀ (vs : List Value) (o : Nat) (w : World), w.grownBy (w.setCells g o vs) (some g)
 | [], _, w => World.grownBy.refl w _
 | u :: vs, o, w => by (
 have h1 : w.grownBy (w.setCell ⟨g, o, none⟩ u) (some g) := ⟨rfl, rfl, rfl, Zf, fun k _ hne => Below.heap_setCell w _ u k (by rintro rfl; exact hne rfl)⟩
 exact h1.trans (pC g vs (o + 1) _))
theorem pE {P : Program} (t ty : TypeId) (i : TypeInfo) (z : Value) (bytes : Nat) (ht : P.underlying t = some (.slice e)) (hi : P.info? e = some i) (hz : i.zero = some z)
 (hsize : i.size = 1) (hby : i.bytes = bytes) (hzs : z.cells.size = 1) (hr : Row w base e v xs) (A : Option Addr) (c : Nat) (news : List Value) (hn : bG w A news)
 (h1 : ∀ u ∈ news, u.oneCell' = true) (h63 : xs.length + news.length ≤ maxLen) (hbytes : (xs.length + news.length) * bytes ≤ 140737488355328) (hbase : base ≤ w.heap.size) :
 ∃ v' w', (Builtin.append_ #[t, t] ty #[v, .slice A news.length c]).run P w = .ok v' w' ∧ Row w' base e v' (xs ++ news) ∧ w.grownBy w' v.ownBlock ∧ (v'.ownBlock = v.ownBlock ∨ ∀ k, v'.ownBlock = some k → w.heap.size ≤ k) := by (
 by_cases hne : news = []
 · (
 subst hne
 refine ⟨v, w, ?_, by simpa using hr, World.grownBy.refl w _, .inl rfl⟩
 rcases hr with ⟨rfl, rfl⟩ | ⟨g, o, cap, cur, rfl, _, _, hnc, _⟩
 · rcases A with _ | A <;> simp [Builtin.append_, run_underlying ht, sizeOf, typeInfo, hi, Builtin.lenOf, Builtin.firstCells, loadCells, loadCellsFrom]
 · rcases A with _ | A <;> simp [Builtin.append_, run_underlying ht, sizeOf, typeInfo, hi, Builtin.lenOf, Builtin.firstCells, loadCells, loadCellsFrom, hnc, storeCells])
 · (
 obtain ⟨b, off, rfl, hb, hcell⟩ := hn hne
 have hnews : ∀ j u, news[j]? = some u → w.cell? ((⟨b, off, none⟩ : Addr).add j) = some u := fun j u hj => by rw [Addr.add_lit]; exact hcell j u hj
 rcases hr with ⟨rfl, rfl⟩ | ⟨g, o, cap, cur, rfl, hb', hh, hnc, hm, hcs, hc⟩
 · (
 obtain ⟨v', w', hrun, h2, h3, h4, h5⟩ := run_append_own_at (P := P) w base t ty e i z 1 bytes ht hi hz hsize hby hzs Zb (.slice none 0 0) 0 [] (World.ownsRow_nil w _ e 1) ⟨b, off, none⟩ news.length c news Zf hnews h1 (by simpa using h63) (by simpa using hbytes) hbase
 exact ⟨v', w', hrun, Row.of_own h2, h3, h5.imp id fun h k hk => by rw [h] at hk; injection hk with hk; omega⟩)
 · (
 by_cases hroom : xs.length + news.length ≤ cap
 · (
 have hrun := run_append_room_cells (P := P) w t ty e i ht hi g o xs.length cap ⟨b, off, none⟩ news.length c news (by rw [hsize]; simp) hnews h1 hroom
  (fun j hj => by
   rw [hsize]
   have hlt : o + xs.length * 1 + j < cur.size := Zb
   simp [World.cell?, hh]
   omega)
  (fun j hj => by simp [World.frozen?, hh])
 rw [hsize, Nat.mul_one] at hrun
 obtain ⟨cur', q1, q2, q3, q4⟩ := qP g e (0, 0) news (o + xs.length) w cur hh Zb
 refine ⟨_, _, hrun, .inr ⟨g, o, cap, cur', Zf, hb', q1, by simpa using hroom, hm, Zb, fun j x hj => ?_⟩, pC g news _ w, .inl rfl⟩
 rw [List.getElem?_append] at hj
 split at hj
 · (
 rename_i hjl
 rw [q4 _ Zb]
 exact hc j x hj)
 · (
 rename_i hjl
 rw [show o + j = o + xs.length + (j - xs.length) by omega]
 exact q3 _ x hj))
 · (
 have holds : ∀ j u, xs[j]? = some u → w.cell? ((⟨g, o, none⟩ : Addr).add j) = some u := fun j u hj => by (
 rw [Addr.add_lit]
 simp [World.cell?, hh, hc j u hj])
 obtain ⟨v', w', hrun, h2, h3⟩ := run_append_arg_grows (P := P) w t ty e i z 1 bytes ht hi hz hsize hby hzs Zb ⟨g, o, none⟩ xs.length cap xs Zf holds ⟨b, off, none⟩ news.length c news Zf hnews Zb h63 hbytes
 have hr' := Row.of_own h2
 exact ⟨v', w', hrun, hr'.mono hbase, ⟨h3.os, h3.tape, h3.output, h3.size, fun k hk _ => h3.block k hk Zf⟩, .inr fun k hk => (hr'.lt k hk).1⟩))))
theorem qM {P : Program} {o : Oper} {a : Act} {K : Act → World → Prop} {Q : Exit → Act → World → Prop} (s x : Operand) (t : TypeId)
 (ho : o.op = .call { callee := .builtin .append, args := #[s, x], argTypes := #[t, t] })
 (i : TypeInfo) (z : Value) (bytes : Nat) (ht : P.underlying t = some (.slice e)) (hi : P.info? e = some i) (hz : i.zero = some z)
 (hsize : i.size = 1) (hby : i.bytes = bytes) (hzs : z.cells.size = 1) (hs : a.eval s = v) (hr : Row w base e v xs) (A : Option Addr) (n c : Nat) (news : List Value) (hx : a.eval x = .slice A n c)
 (hnl : n = news.length) (hn : bG w A news)
 (h1 : ∀ u ∈ news, u.oneCell' = true) (h63 : xs.length + news.length ≤ maxLen) (hbytes : (xs.length + news.length) * bytes ≤ 140737488355328) (hbase : base ≤ w.heap.size)
 (h : ∀ v' w', Row w' base e v' (xs ++ news) → w.grownBy w' v.ownBlock → (v'.ownBlock = v.ownBlock ∨ ∀ k, v'.ownBlock = some k → w.heap.size ≤ k) → K (a.put o.dst v') w') : o.wp P a w K Q := by (
 subst hnl
 obtain ⟨v', w', hrun, h2, h3, h4⟩ := pE (P := P) t o.type i z bytes ht hi hz hsize hby hzs hr A c news hn h1 h63 hbytes hbase
 unfold Oper.wp execOp
 simp only [ho, resolve, invoke, builtin, Sem.run_bind, Sem.run_pure, Result.andThen_ok, List.map_toArray, List.map_cons, List.map_nil, hs, hx, hrun]
 exact h v' w' h2 h3 h4)
theorem bV {P : Program} {ops : Array Oper} {rest : List Oper} {o : Oper} {a : Act} {Q : Exit → Act → World → Prop} (hgd : o.guard = none) (s x : Operand) (t : TypeId)
 (ho : o.op = .call { callee := .builtin .append, args := #[s, x], argTypes := #[t, t] })
 (i : TypeInfo) (z : Value) (bytes : Nat) (ht : P.underlying t = some (.slice e)) (hi : P.info? e = some i) (hz : i.zero = some z)
 (hsize : i.size = 1) (hby : i.bytes = bytes) (hzs : z.cells.size = 1) (hs : a.eval s = v) (hr : Row w base e v xs) (A : Option Addr) (n c : Nat) (news : List Value) (hx : a.eval x = .slice A n c)
 (hnl : n = news.length) (hn : bG w A news)
 (h1 : ∀ u ∈ news, u.oneCell' = true) (h63 : xs.length + news.length ≤ maxLen) (hbytes : (xs.length + news.length) * bytes ≤ 140737488355328) (hbase : base ≤ w.heap.size)
 (h : ∀ v' w', Row w' base e v' (xs ++ news) → w.grownBy w' v.ownBlock → (v'.ownBlock = v.ownBlock ∨ ∀ k, v'.ownBlock = some k → w.heap.size ≤ k) → wpList P ops Q rest (a.put o.dst v') w') :
 wpList P ops Q (o :: rest) a w :=
 wpList_plain hgd fun _ hK => qM s x t ho i z bytes ht hi hz hsize hby hzs hs hr A n c news hx hnl hn h1 h63 hbytes hbase fun v' w' h2 h3 h4=> hK _ _ (h v' w' h2 h3 h4)
theorem bP {P : Program} {ops : Array Oper} {o : Oper} {a : Act} {K : Act → World → Prop} {Q : Exit → Act → World → Prop} {E : Prop} (hgd : o.guard = none) (s x : Operand) (t : TypeId)
 (ho : o.op = .call { callee := .builtin .append, args := #[s, x], argTypes := #[t, t] })
 (i : TypeInfo) (z : Value) (bytes : Nat) (ht : P.underlying t = some (.slice e)) (hi : P.info? e = some i) (hz : i.zero = some z)
 (hsize : i.size = 1) (hby : i.bytes = bytes) (hzs : z.cells.size = 1) (hs : a.eval s = v) (hr : Row w base e v xs) (A : Option Addr) (n c : Nat) (news : List Value) (hx : a.eval x = .slice A n c)
 (hnl : n = news.length) (hn : bG w A news)
 (h1 : ∀ u ∈ news, u.oneCell' = true) (h63 : xs.length + news.length ≤ maxLen) (hbytes : (xs.length + news.length) * bytes ≤ 140737488355328) (hbase : base ≤ w.heap.size)
 (h : ∀ v' w', Row w' base e v' (xs ++ news) → w.grownBy w' v.ownBlock → (v'.ownBlock = v.ownBlock ∨ ∀ k, v'.ownBlock = some k → w.heap.size ≤ k) → K (a.put o.dst v') w') :
 if Region.wanted o (yielded ops a.tmps) = true then Oper.wp P o a w K Q else E := by (
 have hw : Region.wanted o (yielded ops a.tmps) = true := by simp [Region.wanted, hgd]
 rw [if_pos hw]
 exact qM s x t ho i z bytes ht hi hz hsize hby hzs hs hr A n c news hx hnl hn h1 h63 hbytes hbase h)
theorem dK (w : World) (x : Value) (t : TypeId) : bG (w.alloc (.cells #[x] t)) (some ⟨w.heap.size, 0, none⟩) [x] :=
 bG.mk Zf fun i v hi => by (
 rcases i with _ | i
 · (
 simp at hi
 subst hi
 simp)
 · simp at hi)
theorem bG.nil {A : Option Addr} : bG w A [] := fun h => absurd rfl h
end
theorem Row.lit1 {w : World} {base g : Nat} {e : TypeId} {x : Value} (h : g = w.heap.size) (hb : base ≤ w.heap.size) : Row (w.alloc (.cells #[x] e)) base e (.slice (some ⟨g, 0, none⟩) 1 1) [x] := by (
 subst h
 exact Row.made hb Zf Zw)
theorem dU {w : World} {x : Value} {t : TypeId} {g : Nat} (h : g = w.heap.size) : bG (w.alloc (.cells #[x] t)).drew (some ⟨g, 0, none⟩) [x] := by subst h; exact dK w x t
end
end Go.Proofs.YtmghkonmfbpjcabGreatDoor
