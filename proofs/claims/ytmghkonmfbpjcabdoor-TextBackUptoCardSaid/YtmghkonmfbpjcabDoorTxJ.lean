/- Plain law: a text read line by line. No program in sight. -/
import Derived.Test.YtmghkonmfbpjcabDoorTxH
namespace Go.Proofs.YtmghkonmfbpjcabDoor
set_option linter.unusedVariables false
set_option linter.unusedSimpArgs false
open Go.Lib

theorem lines_split : ∀ {l l' : List Nd} {rest : List UInt8}, (∀ m ∈ l, Shaped m) → (∀ m ∈ l', Shaped m) → linesL l ++ rest = linesL l' → ∃ t, l' = l ++ t ∧ rest = linesL t
  | [], l', rest, _, _, h => ⟨l', rfl, h⟩
  | a :: l, [], rest, _, _, h => by simp [linesL, lineL] at h
  | a :: l, b :: l', rest, h1, h2, h => by
    have h : nodeL a ++ 10 :: (linesL l ++ rest) = nodeL b ++ 10 :: linesL l' := by simpa [linesL, lineL] using h
    obtain ⟨e1, e2⟩ := head_inj (node_clean (h1 a (by simp)).op) (node_clean (h2 b (by simp)).op) h
    obtain ⟨t, e3, e4⟩ := lines_split (fun m hm => h1 m (by simp [hm])) (fun m hm => h2 m (by simp [hm])) e2
    exact ⟨t, by rw [node_inj (h1 a (by simp)) (h2 b (by simp)) e1, e3]; rfl, e4⟩
theorem showL_eq (n : Int) (l : List Nd) (rest : List UInt8) : showL n l ++ rest = (regsW ++ itoa n) ++ 10 :: (linesL l ++ rest) := by
  unfold showL
  simp
theorem head_clean (n : Int) : (10 : UInt8) ∉ regsW ++ itoa n := by
  intro hm
  rcases List.mem_append.1 hm with h1 | h1
  · revert h1; decide
  · exact itoa_clean n 10 (by decide) h1
theorem show_split {n r : Int} {l l' : List Nd} {rest : List UInt8} (hl : ∀ m ∈ l, Shaped m) (hl' : ∀ m ∈ l', Shaped m) (h : showL n l ++ rest = showL r l') : r = n ∧ ∃ t, l' = l ++ t ∧ rest = linesL t := by
  have h2 := showL_eq r l' []
  rw [List.append_nil, List.append_nil] at h2
  rw [showL_eq, h2] at h
  obtain ⟨e1, e2⟩ := head_inj (head_clean n) (head_clean r) h
  exact ⟨(itoa_inj (List.append_cancel_left e1)).symm, lines_split hl hl' e2⟩
theorem no_head {s : List UInt8} (H : ∀ r t, i64ok r → s ≠ (regsW ++ itoa r) ++ 10 :: t) : NoText s := by
  intro r l hc hf hs
  obtain ⟨_, _, h1, h2, _⟩ := chk_small hc
  have h3 := showL_eq r l []
  rw [List.append_nil, List.append_nil] at h3
  exact H r (linesL l) ⟨by omega, by omega⟩ (hs.trans h3)
theorem no_rest {s : List UInt8} {n : Int} {l : List Nd} {rest : List UInt8} (hs : s = showL n l ++ rest) (hl : ∀ m ∈ l, Shaped m) (hne : rest ≠ []) (H : ∀ m t, Shaped m → rest ≠ nodeL m ++ 10 :: t) : NoText s := by
  intro r l' hc hf hs'
  have hl' := right_fit hc hf
  obtain ⟨_, t, h1, h2⟩ := show_split hl hl' (hs.symm.trans hs')
  cases t with
  | nil => exact hne h2
  | cons m t => exact H m (linesL t) (hl' m (by rw [h1]; simp)) (by rw [h2]; simp [linesL, lineL])
theorem no_chk {s : List UInt8} {n : Int} {l : List Nd} {rest : List UInt8} (hs : s = showL n l ++ rest) (hl : ∀ m ∈ l, Shaped m) (h : (rest = [] ∧ chk n l ≠ 0) ∨ 256 < l.length) : NoText s := by
  intro r l' hc hf hs'
  have hl' := right_fit hc hf
  obtain ⟨h0, t, h1, h2⟩ := show_split hl hl' (hs.symm.trans hs')
  rcases h with ⟨h3, h4⟩ | h3
  · cases t with
    | nil => rw [List.append_nil] at h1; rw [← h0, ← h1] at h4; exact h4 hc
    | cons m t => rw [h3] at h2; simp [linesL, lineL] at h2
  · obtain ⟨_, h4, _⟩ := chk_small hc
    rw [h1, List.length_append] at h4
    omega
theorem showL_next {n : Int} {l : List Nd} {m : Nd} {r : List UInt8} : showL n l ++ (nodeL m ++ 10 :: r) = showL n (l ++ [m]) ++ r := by
  rw [showL_eq, showL_eq]
  simp [linesL, lineL]
end Go.Proofs.YtmghkonmfbpjcabDoor
