/- Plain law: numbers as text, and words with a byte between them: each is read but one way. No program in sight. -/
import Derived.Test.YtmghkonmfbpjcabDoorTm
import Derived.Lib.ItoaNum
import Derived.Lib.AtoiAll
namespace Go.Proofs.YtmghkonmfbpjcabDoor
set_option linter.unusedVariables false
set_option linter.unusedSimpArgs false
open Go.Lib

/-! numbers -/
theorem digit_nat {i : Nat} (h : i < 10) : (UInt8.ofNat (48 + i)).toNat = 48 + i := by
  rw [UInt8.toNat_ofNat']
  omega
theorem dec_small {u : Nat} (h : u < 10) : decDigits u = [UInt8.ofNat (48 + u)] := by rw [decDigits, dif_pos h]
theorem dec_big {u : Nat} (h : ¬ u < 10) : decDigits u = decDigits (u / 10) ++ [UInt8.ofNat (48 + u % 10)] := by
  conv => lhs; rw [decDigits]
  rw [dif_neg h]
theorem dec_bytes (u : Nat) : ∀ b ∈ decDigits u, 48 ≤ b.toNat ∧ b.toNat ≤ 57 := by
  induction u using Nat.strongRecOn with
  | _ u ih =>
    intro b hb
    by_cases h : u < 10
    · rw [dec_small h] at hb
      have : b = UInt8.ofNat (48 + u) := by simpa using hb
      rw [this, digit_nat h]; omega
    · rw [dec_big h] at hb
      rcases List.mem_append.1 hb with e | e
      · exact ih (u / 10) (by omega) b e
      · have : b = UInt8.ofNat (48 + u % 10) := by simpa using e
        rw [this, digit_nat (by omega)]; omega
theorem dec_ne (u : Nat) : decDigits u ≠ [] := by
  by_cases h : u < 10
  · rw [dec_small h]; simp
  · rw [dec_big h]; simp
/-- what digits say, behind what was said -/
def decVal : Nat → List UInt8 → Nat
  | acc, [] => acc
  | acc, b :: r => decVal (acc * 10 + (b.toNat - 48)) r
theorem decVal_snoc (l : List UInt8) (b : UInt8) : ∀ acc, decVal acc (l ++ [b]) = decVal acc l * 10 + (b.toNat - 48) := by
  induction l with
  | nil => intro acc; rfl
  | cons a l ih => intro acc; exact ih _
theorem decVal_dec (u : Nat) : decVal 0 (decDigits u) = u := by
  induction u using Nat.strongRecOn with
  | _ u ih =>
    by_cases h : u < 10
    · rw [dec_small h]
      show 0 * 10 + ((UInt8.ofNat (48 + u)).toNat - 48) = u
      rw [digit_nat h]; omega
    · rw [dec_big h, decVal_snoc, ih (u / 10) (by omega), digit_nat (by omega)]
      omega
theorem decVal_ge (l : List UInt8) : ∀ acc, acc ≤ decVal acc l := by
  induction l with
  | nil => intro acc; exact Nat.le_refl _
  | cons b l ih => intro acc; exact Nat.le_trans (by omega) (ih (acc * 10 + (b.toNat - 48)))
theorem parse_dec (l : List UInt8) : ∀ acc, (∀ b ∈ l, 48 ≤ b.toNat ∧ b.toNat ≤ 57) → decVal acc l < 18446744073709551616 → parseUint10 acc l = .ok (decVal acc l) := by
  induction l with
  | nil => intro acc _ _; rfl
  | cons b l ih =>
    intro acc hb hv
    have h1 := hb b (by simp)
    have h2 := decVal_ge l (acc * 10 + (b.toNat - 48))
    have hv' : decVal (acc * 10 + (b.toNat - 48)) l < 18446744073709551616 := hv
    rw [parseUint10, if_pos h1, if_neg (by omega), if_neg (by omega)]
    exact ih _ (fun c hc => hb c (by simp [hc])) hv
theorem itoa_bytes (n : Int) : ∀ b ∈ itoa n, b.toNat = 45 ∨ 48 ≤ b.toNat ∧ b.toNat ≤ 57 := by
  intro b hb
  unfold itoa at hb
  split at hb
  · rcases List.mem_cons.1 hb with e | e
    · left; rw [e]; decide
    · exact .inr (dec_bytes _ b e)
  · exact .inr (dec_bytes _ b hb)
theorem itoa_ne (n : Int) : itoa n ≠ [] := by
  unfold itoa
  split
  · simp
  · exact dec_ne _
theorem dec_inj {u v : Nat} (h : decDigits u = decDigits v) : u = v := by rw [← decVal_dec u, ← decVal_dec v, h]
theorem itoa_inj {a b : Int} (h : itoa a = itoa b) : a = b := by
  have hd : ∀ (u v : Nat), decDigits u ≠ 45 :: decDigits v := fun u v e => by
    have := dec_bytes u 45 (by rw [e]; simp)
    simp at this
  unfold itoa at h
  split at h
  · split at h
    · injection h with _ h
      have := dec_inj h
      omega
    · exact absurd h.symm (hd _ _)
  · split at h
    · exact absurd h (hd _ _)
    · have := dec_inj h
      omega
/-- what is written as a number is read as it -/
theorem atoi_itoa {n : Int} (h0 : -9223372036854775808 ≤ n) (h1 : n ≤ 9223372036854775807) : atoiAll (itoa n) = .ok n := by
  have key : ∀ u : Nat, u < 18446744073709551616 → parseMag (decDigits u) = .ok u := fun u hu => by
    unfold parseMag
    rw [if_neg (dec_ne u), parse_dec _ 0 (dec_bytes u) (by rw [decVal_dec]; exact hu), decVal_dec]
  by_cases h : n < 0
  · have e : itoa n = 45 :: decDigits n.natAbs := if_pos h
    rw [e]
    unfold atoiAll
    have h45 : (45 : UInt8).toNat = 45 := by decide
    simp only [h45]
    rw [if_pos (by simp), key n.natAbs (by omega)]
    have a : ¬ (9223372036854775808 < n.natAbs) := by omega
    have e2 : -(n.natAbs : Int) = n := by omega
    simp [a, e2]
  · have e : itoa n = decDigits n.toNat := if_neg h
    rw [e]
    have hb := dec_bytes n.toNat
    have hk := key n.toNat (by omega)
    rcases hD : decDigits n.toNat with _ | ⟨c, r⟩
    · exact absurd hD (dec_ne _)
    · rw [hD] at hb hk
      have hc := hb c (by simp)
      unfold atoiAll
      simp only
      rw [if_neg (by omega), hk]
      simp only
      rw [if_neg (by omega), if_neg (by omega), if_neg (by omega)]
      congr 1
      omega

/-! words -/
/-- words, with a byte between them -/
def joinB (c : UInt8) : List (List UInt8) → List UInt8
  | [] => []
  | [x] => x
  | x :: y :: r => x ++ c :: joinB c (y :: r)
theorem joinB_cons (c : UInt8) (x : List UInt8) {r : List (List UInt8)} (h : r ≠ []) : joinB c (x :: r) = x ++ c :: joinB c r := by
  cases r with
  | nil => exact absurd rfl h
  | cons y r => rfl
/-- a text up to the first such byte is one -/
theorem head_inj {c : UInt8} : ∀ {x y s u : List UInt8}, c ∉ x → c ∉ y → x ++ c :: s = y ++ c :: u → x = y ∧ s = u
  | [], [], s, u, _, _, h => by simpa using h
  | [], b :: y, s, u, _, hy, h => by
    injection h with h1 _
    exact absurd (by rw [h1]; simp) hy
  | a :: x, [], s, u, hx, _, h => by
    injection h with h1 _
    exact absurd (by rw [← h1]; simp) hx
  | a :: x, b :: y, s, u, hx, hy, h => by
    injection h with h1 h2
    obtain ⟨e1, e2⟩ := head_inj (fun e => hx (by simp [e])) (fun e => hy (by simp [e])) h2
    exact ⟨by rw [h1, e1], e2⟩
theorem joinB_inj {c : UInt8} : ∀ {p q : List (List UInt8)}, p ≠ [] → q ≠ [] → (∀ x ∈ p, c ∉ x) → (∀ x ∈ q, c ∉ x) → joinB c p = joinB c q → p = q
  | [], _, h, _, _, _, _ => absurd rfl h
  | _, [], _, h, _, _, _ => absurd rfl h
  | [x], [y], _, _, _, _, h => by rw [show x = y from h]
  | [x], y :: z :: r, _, _, hp, _, h => by
    have h : x = y ++ c :: joinB c (z :: r) := h
    exact absurd (by rw [h]; simp) (hp x (by simp))
  | x :: z :: r, [y], _, _, _, hq, h => by
    have h : x ++ c :: joinB c (z :: r) = y := h
    exact absurd (by rw [← h]; simp) (hq y (by simp))
  | x :: x2 :: r, y :: y2 :: q, _, _, hp, hq, h => by
    obtain ⟨e1, e2⟩ := head_inj (hp x (by simp)) (hq y (by simp)) (show x ++ c :: joinB c (x2 :: r) = y ++ c :: joinB c (y2 :: q) from h)
    rw [e1, joinB_inj (by simp) (by simp) (fun z hz => hp z (by simp [hz])) (fun z hz => hq z (by simp [hz])) e2]
end Go.Proofs.YtmghkonmfbpjcabDoor
