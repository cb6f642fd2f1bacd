/- Plain law: the nodes that may be come to. No program in sight. -/
import Derived.Test.YtmghkonmfbpjcabDoorLeast
namespace Go.Proofs.YtmghkonmfbpjcabDoor
set_option linter.unusedVariables false
set_option linter.unusedSimpArgs false
open Go.RowKit

/-- what must be come to -/
def reachS (l : List Nd) (x : List Bool) (i : Nat) : Bool := i == 0 || (List.range l.length).any fun j => yn x j && leadsB (l.getD j default) i
theorem reachS_mono (l : List Nd) : Mono (reachS l) := fun x y i h hs => by
  unfold reachS at *
  simp only [Bool.or_eq_true, List.any_eq_true, Bool.and_eq_true] at *
  exact hs.imp id fun ⟨j, hj, h1, h2⟩ => ⟨j, hj, h j h1, h2⟩
/-- where a program may come to -/
def reachL (l : List Nd) : List Bool := leastL (reachS l) l.length
theorem reachL_len (l : List Nd) : (reachL l).length = l.length := (leastL_least (reachS_mono l) l.length).1.1
/-- all that one node leads to is there -/
def shutAt (l : List Nd) (x : List Bool) (j : Nat) : Prop := ∀ n, l[j]? = some n → ∀ m : Nat, leadsB n m = true → yn x m = true
theorem reach_closed {l : List Nd} {x : List Bool} (hl : x.length = l.length) (h0 : yn x 0 = true) (h : ∀ j, j < l.length → yn x j = true → shutAt l x j) : Closed (reachS l) l.length x := by
  refine ⟨hl, fun i hi hs => ?_⟩
  unfold reachS at hs
  simp only [Bool.or_eq_true, List.any_eq_true, Bool.and_eq_true, beq_iff_eq, List.mem_range] at hs
  rcases hs with rfl | ⟨j, hj, h1, h2⟩
  · exact h0
  · have hn : l[j]? = some l[j] := List.getElem?_eq_getElem hj
    rw [List.getD_eq_getElem?_getD, hn] at h2
    exact h j hj h1 _ hn i h2
theorem Closed.shut {l : List Nd} {x : List Bool} (h : Closed (reachS l) l.length x) {j : Nat} (hj : yn x j = true) (hb : ∀ n, l[j]? = some n → ∀ m : Nat, leadsB n m = true → m < l.length) : shutAt l x j := fun n hn m hm => by
  refine h.2 m (hb n hn m hm) ?_
  unfold reachS
  simp only [Bool.or_eq_true, List.any_eq_true, Bool.and_eq_true, beq_iff_eq, List.mem_range]
  refine .inr ⟨j, (List.getElem?_eq_some_iff.1 hn).1, hj, ?_⟩
  rw [List.getD_eq_getElem?_getD, hn]
  exact hm
theorem under_start (l : List Nd) (hl : 1 ≤ l.length) : Under (reachS l) l.length ((List.replicate l.length false).set 0 true) := by
  refine ⟨by simp, fun z hz i hi => ?_⟩
  rw [yn_set _ _ _ _ (by simp; omega)] at hi
  by_cases h0 : i = 0
  · subst h0
    exact hz.2 0 (by omega) (by simp [reachS])
  · rw [if_neg h0] at hi
    simp [yn, List.getD_eq_getElem?_getD, List.getElem?_replicate] at hi
    split at hi <;> simp at hi
theorem under_add {l : List Nd} {x : List Bool} (h : Under (reachS l) l.length x) {j m : Nat} {n : Nd} (hj : yn x j = true) (hn : l[j]? = some n) (hm : leadsB n m = true) (hml : m < l.length) : Under (reachS l) l.length (x.set m true) := by
  refine ⟨by simpa using h.1, fun z hz i hi => ?_⟩
  rw [yn_set _ _ _ _ (by rw [h.1]; exact hml)] at hi
  by_cases him : i = m
  · subst him
    refine hz.2 i hml ?_
    unfold reachS
    simp only [Bool.or_eq_true, List.any_eq_true, Bool.and_eq_true, beq_iff_eq, List.mem_range]
    refine .inr ⟨j, (List.getElem?_eq_some_iff.1 hn).1, h.2 z hz j hj, ?_⟩
    rw [List.getD_eq_getElem?_getD, hn]
    exact hm
  · rw [if_neg him] at hi
    exact h.2 z hz i hi
theorem yn_set_mono {x : List Bool} {m i : Nat} (hm : m < x.length) (h : yn x i = true) : yn (x.set m true) i = true := by
  rw [yn_set _ _ _ _ hm]
  split
  · rfl
  · exact h
theorem leads_then {n : Nd} (h : n.op ≠ 12) : leadsB n n.t = true := by simp [leadsB, h]
theorem leads_else {n : Nd} (h : n.op = 11) : leadsB n n.e = true := by simp [leadsB, h]
theorem leads_cases {n : Nd} {m : Int} (h : leadsB n m = true) : (n.op ≠ 12 ∧ m = n.t) ∨ (n.op = 11 ∧ m = n.e) := by
  simp only [leadsB, Bool.or_eq_true, Bool.and_eq_true, bne_iff_ne, beq_iff_eq, ne_eq] at h
  rcases h with ⟨h1, h2⟩ | ⟨h1, h2⟩
  · exact .inl ⟨h1, h2.symm⟩
  · exact .inr ⟨h1, h2.symm⟩
theorem set_same_true {x : List Bool} {k : Nat} (hk : k < x.length) (h : yn x k = true) : x.set k true = x := set_yn hk h

/-- in the midst of a turn of ReachOf -/
structure Reaching (l : List Nd) (c k : Nat) (x : List Bool) : Prop where
  under : Under (reachS l) l.length x
  zero : yn x 0 = true
  way : c + 1 < cnt x ∨ (c + 1 ≤ cnt x ∧ ∀ j, j < k → yn x j = true → shutAt l x j) ∨ Closed (reachS l) l.length x
theorem cnt_set_true {x : List Bool} {m : Nat} (hm : m < x.length) : cnt (x.set m true) = if yn x m = true then cnt x else cnt x + 1 := by
  split
  · rename_i h; rw [set_same_true hm h]
  · rename_i h; exact cnt_put hm (by simpa using h)
theorem cnt_pos {x : List Bool} {i : Nat} (h : yn x i = true) : 1 ≤ cnt x := by
  have hi : i < x.length := by
    rcases Nat.lt_or_ge i x.length with h1 | h1
    · exact h1
    · rw [yn_out h1] at h; cases h
  unfold cnt
  refine List.count_pos_iff.2 ?_
  have : x[i] = true := by simpa [yn, hi] using h
  rw [← this]
  exact List.getElem_mem hi
/-- one more is come to -/
theorem Reaching.add {l : List Nd} {c k : Nat} {x : List Bool} (h : Reaching l c k x) {j m : Nat} {n : Nd} (hj : yn x j = true) (hn : l[j]? = some n) (hm : leadsB n m = true) (hml : m < l.length) (hb : ∀ n, l[j]? = some n → ∀ m : Nat, leadsB n m = true → m < l.length) :
    Reaching l c k (x.set m true) := by
  have hxl : m < x.length := by rw [h.under.1]; exact hml
  refine ⟨under_add h.under hj hn hm hml, yn_set_mono hxl h.zero, ?_⟩
  cases hy : yn x m with
  | true => rw [set_same_true hxl hy]; exact h.way
  | false =>
    have hcnt : cnt (x.set m true) = cnt x + 1 := cnt_put hxl hy
    rcases h.way with h1 | ⟨h1, _⟩ | h1
    · exact .inl (by omega)
    · exact .inl (by omega)
    · have := h1.shut hj hb n hn m hm
      rw [hy] at this
      cases this
theorem Reaching.start {l : List Nd} {c : Nat} {x : List Bool} (h : Under (reachS l) l.length x) (h0 : yn x 0 = true) (hw : c + 1 ≤ cnt x ∨ Closed (reachS l) l.length x) : Reaching l c 0 x :=
  ⟨h, h0, hw.elim (fun h => .inr (.inl ⟨h, fun j hj => absurd hj (by omega)⟩)) fun h => .inr (.inr h)⟩
theorem Reaching.next {l : List Nd} {c k : Nat} {x : List Bool} (h : Reaching l c k x) (hs : yn x k = true → shutAt l x k) : Reaching l c (k + 1) x :=
  ⟨h.under, h.zero, h.way.imp id fun h => h.imp (fun ⟨h1, h2⟩ => ⟨h1, fun j hj hy => by
    by_cases hjk : j = k
    · subst hjk; exact hs hy
    · exact h2 j (by omega) hy⟩) id⟩
theorem Reaching.end_ {l : List Nd} {c : Nat} {x : List Bool} (h : Reaching l c l.length x) : c + 1 + 1 ≤ cnt x ∨ Closed (reachS l) l.length x := by
  rcases h.way with h1 | ⟨h1, h2⟩ | h1
  · exact .inl (by omega)
  · exact .inr (reach_closed h.under.1 h.zero h2)
  · exact .inr h1
theorem reach_done {l : List Nd} {x : List Bool} (h : Under (reachS l) l.length x) (hw : l.length + 1 ≤ cnt x ∨ Closed (reachS l) l.length x) : x = reachL l := by
  rcases hw with h1 | h1
  · have := cnt_le x
    rw [h.1] at this
    omega
  · exact closed_under (reachS_mono l) h1 h
end Go.Proofs.YtmghkonmfbpjcabDoor
