/- Plain law: the map from the nodes that are kept to their new numbers. No program in sight. -/
import Derived.Test.YtmghkonmfbpjcabJG
import Derived.Test.YtmghkonmfbpjcabWork
import Derived.Maps.OwnSet
namespace Go.Proofs.Ytmghkonmfbpjcab
set_option linter.unusedVariables false
set_option linter.unusedSimpArgs false
open Go.RowKit Go.Maps

def keyI (k : Nat) : Lit := .int .i64 (k : Int)
theorem keyI_ne {j k : Nat} (h : j ≠ k) : keyI j ≠ keyI k := by
  unfold keyI
  intro e
  injection e with e1 e2
  omega
def mapD (x : List Bool) : Nat → DataW Unit
  | 0 => .map []
  | k + 1 => if yn x k = true then (mapD x k).put (keyI k) (.lit (.int .i64 (rk x k))) else mapD x k
theorem mapD_is (x : List Bool) : ∀ k, IsMap (mapD x k)
  | 0 => isMap_empty
  | k + 1 => by
    unfold mapD
    split
    · exact (mapD_is x k).put _ _
    · exact mapD_is x k
theorem mapD_yes {x : List Bool} {k : Nat} (h : yn x k = true) : mapD x (k + 1) = (mapD x k).put (keyI k) (.lit (.int .i64 (rk x k))) := by rw [mapD, if_pos h]
theorem mapD_no {x : List Bool} {k : Nat} (h : yn x k = false) : mapD x (k + 1) = mapD x k := by rw [mapD, if_neg (by rw [h]; simp)]
theorem mapD_has (x : List Bool) : ∀ (k j : Nat), k ≤ j → Maps.has (mapD x k) (keyI j) = false
  | 0, j, _ => rfl
  | k + 1, j, h => by
    cases hy : yn x k with
    | true => rw [mapD_yes hy, has_put_other (keyI_ne (by omega))]; exact mapD_has x k j (by omega)
    | false => rw [mapD_no hy]; exact mapD_has x k j (by omega)
theorem mapD_at (x : List Bool) (z : DataW Unit) : ∀ (k j : Nat), j < k → yn x j = true → (mapD x k).atKey (keyI j) z = .lit (.int .i64 (rk x j))
  | 0, j, h, _ => absurd h (Nat.not_lt_zero _)
  | k + 1, j, h, hy => by
    by_cases hjk : j = k
    · subst hjk
      rw [mapD_yes hy]
      exact atKey_put_same (mapD_is x j) (by unfold keyI; trivial) _ _
    · cases hk : yn x k with
      | true => rw [mapD_yes hk, atKey_put_other (keyI_ne hjk)]; exact mapD_at x z k j (by omega) hy
      | false => rw [mapD_no hk]; exact mapD_at x z k j (by omega) hy
theorem mapD_size_step {x : List Bool} {k : Nat} (ht : Tidy (mapD x k)) (h : Maps.size (mapD x k) = rk x k) : Maps.size (mapD x (k + 1)) = rk x (k + 1) := by
  cases hk : yn x k with
  | true => rw [mapD_yes hk, rk_yes hk, size_put ht, h, mapD_has x k k (Nat.le_refl _)]; simp
  | false => rw [mapD_no hk, rk_no hk]; exact h
theorem ownsMap_own {W W' : World} {row : Option Nat} {P : Program} {k : TypeId} {R : Value → Option (DataW Unit × List MemPlace)} {b m : Nat} {D : DataW Unit} (h : W.ownsMap P k R b m D) (hg : W.grownBy W' row) (hr : row ≠ some b) : W'.ownsMap P k R b m D := by
  obtain ⟨es, clock, hb, F, r⟩ := h
  exact ⟨es, clock, (hg.block b (lt_of_heap hb) (fun e => hr e.symm)).trans hb, F, r⟩
theorem ownsMap_below {W W' : World} {P : Program} {k : TypeId} {R : Value → Option (DataW Unit × List MemPlace)} {b m : Nat} {D : DataW Unit} (h : W.ownsMap P k R b m D) (hb : Below W.heap.size W W') : W'.ownsMap P k R b m D := by
  obtain ⟨es, clock, hh, F, r⟩ := h
  exact ⟨es, clock, (hb.block b (lt_of_heap hh)).trans hh, F, r⟩
theorem ownsMap_lt {W : World} {P : Program} {k : TypeId} {R : Value → Option (DataW Unit × List MemPlace)} {b m : Nat} {D : DataW Unit} (h : W.ownsMap P k R b m D) : b < W.heap.size := by
  obtain ⟨es, clock, hh, F, r⟩ := h
  exact lt_of_heap hh
theorem ownsMap_ne {W : World} {P : Program} {k : TypeId} {R : Value → Option (DataW Unit × List MemPlace)} {b m g : Nat} {D : DataW Unit} {t : TypeId} {cs : Array Value} (h : W.ownsMap P k R b m D) (hg : Blk W g t cs) : b ≠ g := by
  obtain ⟨es, clock, hh, F, r⟩ := h
  rintro rfl
  unfold Blk at hg
  rw [hh] at hg
  cases hg
theorem ownsMap_set {W : World} {P : Program} {k : TypeId} {R : Value → Option (DataW Unit × List MemPlace)} {b m : Nat} {D : DataW Unit} (h : W.ownsMap P k R b m D) (p : Addr) (u : Value) : (W.setCell p u).ownsMap P k R b m D := by
  obtain ⟨es, clock, hh, F, r⟩ := h
  refine ⟨es, clock, (KeepsOthers.setCell W p u).same b _ hh rfl, F, r⟩
theorem ownsMap_keeps {W W' : World} {P : Program} {k : TypeId} {R : Value → Option (DataW Unit × List MemPlace)} {b m : Nat} {D : DataW Unit} (h : W.ownsMap P k R b m D) (hk : KeepsOthers W W') : W'.ownsMap P k R b m D := by
  obtain ⟨es, clock, hh, F, r⟩ := h
  exact ⟨es, clock, hk.same b _ hh rfl, F, r⟩
theorem row_ne_map {W : World} {B g m : Nat} {D : DataW Unit} {P : Program} {k : TypeId} {R : Value → Option (DataW Unit × List MemPlace)} {e : TypeId} {v : Value} {xs : List Value} (h : Row W B e v xs) (hm : W.ownsMap P k R g m D) : v.ownBlock ≠ some g := by
  rcases h with ⟨rfl, _⟩ | ⟨g', o, cap, cur, rfl, _, hh, _⟩
  · simp [Value.ownBlock]
  · intro he
    simp [Value.ownBlock] at he
    subst he
    exact ownsMap_ne (t := e) (cs := cur) hm (by unfold Blk; exact hh) rfl
theorem nrow_ne_map {W : World} {B g m : Nat} {D : DataW Unit} {P : Program} {k : TypeId} {R : Value → Option (DataW Unit × List MemPlace)} {e : TypeId} {v : Value} {xs : List Nd} (h : NRow W B e v xs) (hm : W.ownsMap P k R g m D) : v.ownBlock ≠ some g := by
  rcases h.open with ⟨rfl, _⟩ | ⟨g', cap, cur, rfl, _, hh, _⟩
  · simp [Value.ownBlock]
  · intro he
    simp [Value.ownBlock] at he
    subst he
    exact ownsMap_ne (t := e) (cs := cur) hm (by unfold Blk; exact hh) rfl
end Go.Proofs.Ytmghkonmfbpjcab
