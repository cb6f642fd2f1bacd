/- text.node: what a line shows. -/
import Derived.Test.YtmghkonmfbpjcabDoorTxK
import Derived.Deep.DeepCutAuto
import Derived.Deep.RegionWith
import Derived.RegionTactic
namespace Go.Proofs.YtmghkonmfbpjcabDoor
set_option linter.unusedVariables false
set_option linter.unusedSimpArgs false
open Go.RowKit
set_option maxHeartbeats 8000000
open Go.Lib Go.Maps

/-- what the closure 'next' answers -/
def TakePost (gw gi base : Nat) (r : List (List UInt8)) (w : World) (e : Ending) (w' : World) : Prop :=
  (r = [] ∧ e = .returned (strB []) ∧ w' = w.setCell ⟨gi, 0, none⟩ (.bool false)) ∨
  ∃ x r' A' c', r = x :: r' ∧ e = .returned (strB x) ∧ w' = w.setCell ⟨gw, 0, none⟩ (.slice A' r'.length c') ∧ Row w base 9 (.slice A' r'.length c') (r'.map strB)
set_option maxRecDepth 100000 in
theorem take_any (gw gi base : Nat) (A : Option Addr) (c : Nat) (r : List (List UInt8)) (b : Bool) (w : World) (h1 : Blk w gw 105 #[.slice A r.length c]) (h2 : Blk w gi 4 #[.bool b])
    (hR : Row w base 9 (.slice A r.length c) (r.map strB)) :
    Calls Tryd.prog 72 #[.pointer (some ⟨gw, 0, none⟩), .pointer (some ⟨gi, 0, none⟩)] w (TakePost gw gi base r w) := by
  have a0 := h1.cell 0
  have af := h1.frozen 0
  have b0 := h2.cell 0
  have bf := h2.frozen 0
  simp only [List.getElem?_toArray, List.getElem?_cons_zero] at a0 b0
  cases r with
  | nil =>
    go_enter Tryd.func72, Tryd.ntmps72
    go_wp2_with fail
    go_ret
    exact .inl ⟨rfl, rfl, rfl⟩
  | cons x r' =>
    obtain ⟨bk, off, rfl, hbk, hv⟩ := hR.vals (by simp)
    have hc : w.cell? ⟨bk, off, none⟩ = some (strB x) := by have := hv 0 (strB x) rfl; simpa using this
    have hsh := hR.shape
    rw [List.length_map] at hsh
    obtain ⟨A0, c0, hsv, hcl, hcm⟩ := hsh
    injection hsv with hA0 hn0 hcc
    subst hcc
    clear hA0 hn0
    have hT := hide (Row.tail (x := strB x) (xs := r'.map strB) hR)
    clear hv hR
    rw [List.length_cons] at *
    have l0 : ((r'.length + 1 : Nat) : Int) = (r'.length : Int) + 1 := by omega
    have l1 : ((r'.length : Int) + 1 == 0) = false := by rw [beq_eq_false_iff_ne]; omega
    have l2 : (0 : Int) < (r'.length : Int) + 1 := by omega
    have l3 : (1 : Int) ≤ (r'.length : Int) + 1 := by omega
    go_enter Tryd.func72, Tryd.ntmps72
    go_wp2_with fail
    all_goals go_ret
    all_goals refine .inr ⟨x, r', _, _, rfl, rfl, rfl, ?_⟩
    all_goals have hT2 := hT.out
    all_goals clear hT
    all_goals split at hT2
    all_goals first | exact hT2 | (exfalso; omega) | (subst_vars; exact hT2)
end Go.Proofs.YtmghkonmfbpjcabDoor
