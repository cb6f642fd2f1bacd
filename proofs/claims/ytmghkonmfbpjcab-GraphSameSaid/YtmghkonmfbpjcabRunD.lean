/- One count more: the reference's onceMore. -/
import Derived.Test.YtmghkonmfbpjcabRunC
import Derived.Test.YtmghkonmfbpjcabCRow2
import Derived.Deep.RegionHeld3
import Derived.Deep.QuietTactic
import Derived.Deep.DeepCutAuto
import Derived.BigQuiet
namespace Go.Proofs.Ytmghkonmfbpjcab
set_option linter.unusedVariables false
set_option linter.unusedSimpArgs false
open Go.RowKit
set_option maxHeartbeats 8000000
attribute [local irreducible] Row CRow madeCells

/-- where a term belongs -/
def posT (cs : List Ct) (t : Tm) : Nat := (cs.takeWhile fun x => ltT x.1 t).length
theorem onceL_at : ∀ (cs : List Ct) (t : Tm) (k : Nat), k ≤ cs.length → (∀ j y, j < k → cs[j]? = some y → ltT y.1 t = true) → (∀ y, cs[k]? = some y → ltT y.1 t = false) →
    onceL cs t = match cs[k]? with
      | some y => if y.1 = t then cs.set k (t, y.2 + 1) else cs.take k ++ (t, 1) :: cs.drop k
      | none => cs ++ [(t, 1)]
  | [], t, k, hk, _, _ => by
    have : k = 0 := by simpa using hk
    subst this
    rfl
  | (u, n) :: cs, t, 0, _, _, h2 => by
    have h := h2 (u, n) rfl
    simp only at h
    simp only [List.getElem?_cons_zero, onceL, h]
    by_cases hu : u = t
    · subst hu
      simp
    · simp [hu]
  | (u, n) :: cs, t, k + 1, hk, h1, h2 => by
    have h := h1 0 (u, n) (by omega) rfl
    simp only at h
    have ih := onceL_at cs t k (by simpa using hk) (fun j y hj hy => h1 (j + 1) y (by omega) (by simpa using hy)) (fun y hy => h2 y (by simpa using hy))
    rw [onceL, if_pos h, ih, List.getElem?_cons_succ]
    cases cs[k]? with
    | none => rfl
    | some y =>
      simp only
      by_cases hy : y.1 = t
      · rw [if_pos hy, if_pos hy]; rfl
      · rw [if_neg hy, if_neg hy]; rfl
theorem infoCount : (Try.prog.info? 75).map (fun i => (i.zero, i.size, i.bytes)) = some (some (.agg #[.int .i64 0, .int .i64 0, .int .i64 0, .int .i64 0]), 4, 32) := by kernel_rfl
theorem grown_c (W : World) (b o : Nat) (u : Value) : W.grownBy (W.setCell ⟨b, o, none⟩ u) (some b) :=
  ⟨rfl, rfl, rfl, by simp, fun k _ hk => Below.heap_setCell W ⟨b, o, none⟩ u k (by rintro rfl; exact hk rfl)⟩
theorem grown_drew1 {w w' : World} {row : Option Nat} (h : w.grownBy w' row) : w.grownBy w'.drew row := ⟨h.os, h.tape, h.output, h.size, h.block⟩
theorem grown_of_below {w w' : World} {row : Option Nat} (h : Below w.heap.size w w') : w.grownBy w' row := ⟨h.os, h.tape, h.output, h.size, fun k hk _ => h.block k hk⟩
theorem grown_drewN (w : World) (n : Nat) (row : Option Nat) : w.grownBy (w.drewN n) row := ⟨rfl, rfl, rfl, Nat.le_refl _, fun _ _ _ => rfl⟩
theorem ins_list (cs : List Ct) (z x : Ct) (k : Nat) (hk : k ≤ cs.length) : ((cs ++ [z]).take (k + 1) ++ ((cs ++ [z]).drop k).take (cs.length + 1 - (k + 1))).set k x = cs.take k ++ x :: cs.drop k := by
  have h1 : (cs ++ [z]).drop k = cs.drop k ++ [z] := List.drop_append_of_le_length hk
  have h2 : (cs.drop k ++ [z]).take (cs.length + 1 - (k + 1)) = cs.drop k := by rw [List.take_append_of_le_length (by simp), List.take_of_length_le (by simp)]
  have hlt : k < (cs ++ [z]).length := by simp; omega
  have h3 : (cs ++ [z]).take (k + 1) = cs.take k ++ [(cs ++ [z])[k]] := by
    rw [List.take_succ_eq_append_getElem hlt, List.take_append_of_le_length hk]
  rw [h1, h2, h3, List.append_assoc, List.set_append, if_neg (by rw [List.length_take]; omega), List.length_take, Nat.min_eq_left hk, Nat.sub_self]
  rfl
/-- onceMore's answer -/
def OncePost (tC : TypeId) (B : Nat) (v : Value) (cs : List Ct) (t : Tm) (w : World) (e : Ending) (w' : World) : Prop :=
  ∃ v', e = .returned v' ∧ CRow w' B tC v' (onceL cs t) ∧ w.grownBy w' v.ownBlock ∧ (v'.ownBlock = v.ownBlock ∨ ∀ k, v'.ownBlock = some k → w.heap.size ≤ k)
end Go.Proofs.Ytmghkonmfbpjcab
