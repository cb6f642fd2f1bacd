/- Plain law: the greatest answer. No program in sight. -/
import Derived.Test.YtmghkonmfbpjcaaRefS
namespace Go.Proofs.Ytmghkonmfbpjcaa
set_option linter.unusedVariables false
set_option linter.unusedSimpArgs false
open Go.RowKit

theorem askOne_mono {plus lt x y : List Bool} (h : leB x y) {m : Nat} (ha : askOne plus lt x m = true) : askOne plus lt y m = true := by
  simp only [askOne, Bool.or_eq_true, Bool.and_eq_true] at *
  rcases ha with ha | ⟨h1, h2⟩
  · exact .inl ha
  · exact .inr ⟨h1, h m h2⟩
theorem saysB_mono {em : Bool} {gen pass plus lt x y : List Bool} {rs : List Int} {n : Nat} (h : leB x y) (hs : saysB em gen pass plus lt x rs n = true) : saysB em gen pass plus lt y rs n = true := by
  unfold saysB at *
  split at hs
  · rename_i h1; rw [if_pos h1]
  · rename_i h1
    rw [if_neg h1]
    split at hs
    · rename_i h2
      rw [if_pos h2]
      split at hs
      · rename_i h3; rw [if_pos h3]; exact hs
      · rename_i h3
        rw [if_neg h3]
        rw [List.all_eq_true] at *
        exact fun r hr => askOne_mono h (hs r hr)
    · cases hs
theorem saysB_congr {em : Bool} {gen pass plus lt x : List Bool} {rs rs' : List Int} {n : Nat} (h : ∀ m, m ∈ rs ↔ m ∈ rs') : saysB em gen pass plus lt x rs n = saysB em gen pass plus lt x rs' n := by
  unfold saysB
  have h0 : (rs.length = 0) = (rs'.length = 0) := by
    simp only [List.length_eq_zero_iff, List.eq_nil_iff_forall_not_mem, h]
  have h1 : (rs.all fun r => askOne plus lt x r.toNat) = (rs'.all fun r => askOne plus lt x r.toNat) := by
    rw [Bool.eq_iff_iff, List.all_eq_true, List.all_eq_true]
    simp only [h]
  simp only [h0, h1]
theorem saysB_local {em : Bool} {gen pass plus lt x y : List Bool} {rs : List Int} {n : Nat} (h : ∀ m ∈ rs, yn x m.toNat = yn y m.toNat) : saysB em gen pass plus lt x rs n = saysB em gen pass plus lt y rs n := by
  unfold saysB
  have h1 : (rs.all fun r => askOne plus lt x r.toNat) = (rs.all fun r => askOne plus lt y r.toNat) := by
    rw [Bool.eq_iff_iff, List.all_eq_true, List.all_eq_true]
    refine forall_congr' fun m => forall_congr' fun hm => ?_
    unfold askOne
    rw [h m hm]
  rw [h1]

/-- what a flow asks -/
def flowS (bk em : Bool) (gen pass plus lt : List Bool) (l : List Nd) (x : List Bool) (n : Nat) : Bool := saysB em gen pass plus lt x (edgesOf bk l n) n
theorem flowS_mono (bk em : Bool) (gen pass plus lt : List Bool) (l : List Nd) : Mono (flowS bk em gen pass plus lt l) := fun _ _ _ h hs => saysB_mono h hs

end Go.Proofs.Ytmghkonmfbpjcaa
