/- Plain law: a list of work: what is come to and not yet looked at. No program in sight. -/
import Derived.Test.YtmghkonmfbpjcabJB
import Derived.Test.YtmghkonmfbpjcabNRow
import Derived.RangeFuncOwn
import Derived.RangeFuncCalls
import Derived.RangeFuncWrites
import Derived.RangeFuncFrom
namespace Go.Proofs.Ytmghkonmfbpjcab
set_option linter.unusedVariables false
set_option linter.unusedSimpArgs false
open Go.RowKit

def natV (l : List Nat) : List Value := l.map fun (j : Nat) => Value.int .i64 (Int.ofNat j)
theorem natV_len (l : List Nat) : (natV l).length = l.length := List.length_map _
theorem natV_snoc (l : List Nat) (m : Nat) : natV (l ++ [m]) = natV l ++ [.int .i64 (m : Int)] := by rw [natV, List.map_append]; rfl
/-- the work that is left -/
structure Working (l : List Nd) (x : List Bool) (wk : List Nat) : Prop where
  under : Under (reachS l) l.length x
  zero : yn x 0 = true
  mem : ∀ j ∈ wk, yn x j = true
  shut : ∀ j, yn x j = true → j ∈ wk ∨ shutAt l x j
  len : wk.length ≤ cnt x
/-- node k is looked at; its first i ways are come to -/
structure Going (l : List Nd) (x : List Bool) (wk : List Nat) (k : Nat) (n : Nd) (i : Nat) : Prop where
  under : Under (reachS l) l.length x
  zero : yn x 0 = true
  mem : ∀ j ∈ wk, yn x j = true
  self : yn x k = true
  shut : ∀ j, yn x j = true → j ∈ wk ∨ j = k ∨ shutAt l x j
  len : wk.length + 1 ≤ cnt x
  way0 : 1 ≤ i → ∀ m : Nat, n.t = m → yn x m = true
  way1 : 2 ≤ i → ∀ m : Nat, n.e = m → yn x m = true
theorem Working.lt {l : List Nd} {x : List Bool} {wk : List Nat} (h : Working l x wk) {j : Nat} (hj : j ∈ wk) : j < l.length := by
  have h1 := h.mem j hj
  rcases Nat.lt_or_ge j x.length with h2 | h2
  · rw [← h.under.1]; exact h2
  · rw [yn_out h2] at h1; cases h1
theorem Working.start {l : List Nd} (hl : 1 ≤ l.length) : Working l ((List.replicate l.length false).set 0 true) [0] := by
  have h0 : yn ((List.replicate l.length false).set 0 true) 0 = true := by rw [yn_set _ _ _ _ (by simp; omega)]; simp
  refine ⟨under_start l hl, h0, fun j hj => ?_, fun j hj => ?_, ?_⟩
  · simp at hj; subst hj; exact h0
  · rw [yn_set _ _ _ _ (by simp; omega)] at hj
    by_cases hj0 : j = 0
    · subst hj0; exact .inl (by simp)
    · rw [if_neg hj0] at hj
      simp [yn, List.getD_eq_getElem?_getD, List.getElem?_replicate] at hj
      split at hj <;> simp at hj
  · exact cnt_pos h0
theorem Working.done {l : List Nd} {x : List Bool} (h : Working l x []) : x = reachL l := by
  refine closed_under (reachS_mono l) (reach_closed h.under.1 h.zero fun j _ hy => ?_) h.under
  rcases h.shut j hy with h1 | h1
  · cases h1
  · exact h1
theorem Working.take {l : List Nd} {x : List Bool} {wk : List Nat} {k : Nat} (h : Working l x (wk ++ [k])) (n : Nd) : Going l x wk k n 0 := by
  refine ⟨h.under, h.zero, fun j hj => h.mem j (by simp [hj]), h.mem k (by simp), fun j hj => ?_, by have := h.len; simpa using this, fun h => absurd h (by omega), fun h => absurd h (by omega)⟩
  rcases h.shut j hj with h1 | h1
  · simp only [List.mem_append, List.mem_singleton] at h1
    rcases h1 with h1 | h1
    · exact .inl h1
    · exact .inr (.inl h1)
  · exact .inr (.inr h1)
theorem shutAt_mono {l : List Nd} {x : List Bool} {j m : Nat} (hm : m < x.length) (h : shutAt l x j) : shutAt l (x.set m true) j := fun n hn q hq => yn_set_mono hm (h n hn q hq)
/-- a way that was come to -/
theorem Going.old {l : List Nd} {x : List Bool} {wk : List Nat} {k i m : Nat} {n : Nd} (h : Going l x wk k n i) (hy : yn x m = true) (hi : (i = 0 ∧ n.t = m) ∨ (i = 1 ∧ n.e = m)) : Going l x wk k n (i + 1) :=
  ⟨h.under, h.zero, h.mem, h.self, h.shut, h.len, fun _ q hq => by
    rcases hi with ⟨rfl, h1⟩ | ⟨rfl, h1⟩
    · obtain rfl : q = m := by omega
      exact hy
    · exact h.way0 (by omega) q hq, fun h2 q hq => by
    rcases hi with ⟨rfl, h1⟩ | ⟨rfl, h1⟩
    · omega
    · obtain rfl : q = m := by omega
      exact hy⟩
/-- a way that was not -/
theorem Going.new {l : List Nd} {x : List Bool} {wk : List Nat} {k i m : Nat} {n : Nd} (h : Going l x wk k n i) (hk : l[k]? = some n) (hl : leadsB n m = true) (hm : m < l.length) (hy : yn x m = false) (hi : (i = 0 ∧ n.t = m) ∨ (i = 1 ∧ n.e = m)) :
    Going l (x.set m true) (wk ++ [m]) k n (i + 1) := by
  have hxl : m < x.length := by rw [h.under.1]; exact hm
  have hyy : yn (x.set m true) m = true := by rw [yn_set _ _ _ _ hxl]; simp
  refine ⟨under_add h.under h.self hk hl hm, yn_set_mono hxl h.zero, fun j hj => ?_, yn_set_mono hxl h.self, fun j hj => ?_, ?_, fun _ q hq => ?_, fun h2 q hq => ?_⟩
  · simp only [List.mem_append, List.mem_singleton] at hj
    rcases hj with hj | rfl
    · exact yn_set_mono hxl (h.mem j hj)
    · exact hyy
  · rw [yn_set _ _ _ _ hxl] at hj
    by_cases hjm : j = m
    · exact .inl (by simp [hjm])
    · rw [if_neg hjm] at hj
      rcases h.shut j hj with h1 | h1 | h1
      · exact .inl (by simp [h1])
      · exact .inr (.inl h1)
      · exact .inr (.inr (shutAt_mono hxl h1))
  · rw [cnt_put hxl hy]
    have := h.len
    simp
    omega
  · rcases hi with ⟨rfl, h1⟩ | ⟨rfl, h1⟩
    · obtain rfl : q = m := by omega
      exact hyy
    · exact yn_set_mono hxl (h.way0 (by omega) q hq)
  · rcases hi with ⟨rfl, h1⟩ | ⟨rfl, h1⟩
    · omega
    · obtain rfl : q = m := by omega
      exact hyy
theorem Going.end_ {l : List Nd} {x : List Bool} {wk : List Nat} {k i : Nat} {n : Nd} (h : Going l x wk k n i) (hk : l[k]? = some n) (h0 : n.op ≠ 12 → 1 ≤ i) (h1 : n.op = 11 → 2 ≤ i) : Working l x wk := by
  refine ⟨h.under, h.zero, h.mem, fun j hj => ?_, by have := h.len; omega⟩
  rcases h.shut j hj with h2 | h2 | h2
  · exact .inl h2
  · subst h2
    refine .inr fun n2 hn q hq => ?_
    rw [hk] at hn
    injection hn with hn
    subst hn
    rcases leads_cases hq with ⟨h3, h4⟩ | ⟨h3, h4⟩
    · exact h.way0 (h0 h3) q h4.symm
    · exact h.way1 (h1 h3) q h4.symm
  · exact .inr h2
/-- what the work measures -/
def todo (l : List Nd) (x : List Bool) (wk : List Nat) : Nat := 2 * (l.length - cnt x) + wk.length
theorem todo_old (l : List Nd) (x : List Bool) (wk : List Nat) (k : Nat) : todo l x wk + 1 = todo l x (wk ++ [k]) := by simp [todo]; omega
theorem Going.todo_new {l : List Nd} {x : List Bool} {wk : List Nat} {k i m : Nat} {n : Nd} (h : Going l x wk k n i) (hm : m < l.length) (hy : yn x m = false) : todo l (x.set m true) (wk ++ [m]) + 1 = todo l x wk := by
  have hxl : m < x.length := by rw [h.under.1]; exact hm
  have h1 := cnt_put hxl hy
  have h2 := cnt_le (x.set m true)
  rw [List.length_set, h.under.1] at h2
  simp only [todo, List.length_append, List.length_singleton]
  omega
theorem Row.pop {w : World} {B : Nat} {e : TypeId} {A : Option Addr} {n c : Nat} {xs : List Value} {u : Value} (h : Row w B e (.slice A n c) (xs ++ [u])) : Row w B e (.slice A xs.length c) xs := by
  rcases h with ⟨_, h⟩ | ⟨g, o, cap, cur, hv, hb, hh, h1, h2, h3, h4⟩
  · simp at h
  · injection hv with hA hn hc
    subst hA hc
    simp only [List.length_append, List.length_singleton] at h1
    refine .inr ⟨g, o, c, cur, rfl, hb, hh, by omega, h2, h3, fun j x hj => h4 j x ?_⟩
    rw [List.getElem?_append_left (List.getElem?_eq_some_iff.1 hj).1]
    exact hj
/-- a block that is no cells is none of ours -/
theorem Row.own {W W' : World} {row : Option Nat} {B : Nat} {e : TypeId} {v : Value} {xs : List Value} (h : Row W B e v xs) (hg : W.grownBy W' row) (hr : ∀ r, row = some r → ∃ o : Obj, W.heap[r]? = some o ∧ o.isCells = false) : Row W' B e v xs :=
  h.kept hg (by
    rcases h with ⟨rfl, _⟩ | ⟨g, o, cap, cur, rfl, _, hh, _⟩
    · exact .inl rfl
    · refine .inr fun e => ?_
      obtain ⟨o2, h2, h3⟩ := hr g (by rw [← e]; rfl)
      rw [hh] at h2
      cases h2
      cases h3)
theorem NRow.own {W W' : World} {row : Option Nat} {B : Nat} {e : TypeId} {v : Value} {xs : List Nd} (h : NRow W B e v xs) (hg : W.grownBy W' row) (hr : ∀ r, row = some r → ∃ o : Obj, W.heap[r]? = some o ∧ o.isCells = false) : NRow W' B e v xs :=
  h.kept hg (by
    rcases h.open with ⟨rfl, _⟩ | ⟨g, cap, cur, rfl, _, hh, _⟩
    · exact .inl rfl
    · refine .inr fun e => ?_
      obtain ⟨o2, h2, h3⟩ := hr g (by rw [← e]; rfl)
      rw [hh] at h2
      cases h2
      cases h3)
theorem Blk.own {W W' : World} {row : Option Nat} {g : Nat} {t : TypeId} {cs : Array Value} (h : Blk W g t cs) (hg : W.grownBy W' row) (hr : ∀ r, row = some r → ∃ o : Obj, W.heap[r]? = some o ∧ o.isCells = false) : Blk W' g t cs :=
  h.grown hg (fun e => by
    obtain ⟨o2, h2, h3⟩ := hr g e
    unfold Blk at h
    rw [h] at h2
    cases h2
    cases h3)
theorem below_own {W W' w : World} {row : Option Nat} {B D : Nat} (h : Below B w W) (hg : W.grownBy W' row) (hB : B ≤ W.heap.size) (hr : ∀ r, row = some r → D ≤ r) (hD : B ≤ D) : Below B w W' := h.grown hg hB fun k hk => by have := hr k hk; omega
theorem Row.keeps {W W' : World} {B : Nat} {e : TypeId} {v : Value} {xs : List Value} (h : Row W B e v xs) (hg : W.grownBy W' v.ownBlock) : KeepsOthers W W' :=
  KeepsOthers.of_grownBy hg fun j o e ho => by
    rcases h with ⟨rfl, _⟩ | ⟨g, o2, cap, cur, rfl, _, hh, _⟩
    · cases e
    · injection e with e
      subst e
      rw [hh] at ho
      cases ho
      rfl
theorem NRow.keeps {W W' : World} {B : Nat} {e : TypeId} {v : Value} {xs : List Nd} (h : NRow W B e v xs) (hg : W.grownBy W' v.ownBlock) : KeepsOthers W W' :=
  KeepsOthers.of_grownBy hg fun j o e ho => by
    rcases h.open with ⟨rfl, _⟩ | ⟨g, cap, cur, rfl, _, hh, _⟩
    · cases e
    · injection e with e
      subst e
      rw [hh] at ho
      cases ho
      rfl
end Go.Proofs.Ytmghkonmfbpjcab
