/- The reference's Said: what a number's text says. -/
import Derived.Test.YtmghkonmfbpjcabDoorTxC
namespace Go.Proofs.YtmghkonmfbpjcabDoor
set_option linter.unusedVariables false
set_option linter.unusedSimpArgs false
open Go.RowKit
set_option maxHeartbeats 4000000
open Go.Lib

theorem dec_len : ∀ (k u : Nat), u < 10 ^ k → 1 ≤ k → (decDigits u).length ≤ k
  | 0, _, _, h => by omega
  | k + 1, u, hu, _ => by
    by_cases h : u < 10
    · rw [dec_small h]; simp
    · rw [dec_big h, List.length_append]
      rcases k with _ | k
      · omega
      · have := dec_len (k + 1) (u / 10) (by rw [Nat.pow_succ] at hu; omega) (by omega)
        simp
        omega
theorem itoa_split (n : Int) : itoa n = (if n < 0 then [45] else []) ++ decDigits n.natAbs := by
  unfold itoa
  split
  · rfl
  · rw [show n.toNat = n.natAbs by omega]; rfl
theorem itoa_len20 {n : Int} (h : i64ok n) : (itoa n).length ≤ 20 := by
  obtain ⟨h1, h2⟩ := h
  have := dec_len 19 n.natAbs (by omega) (by omega)
  rw [itoa_split, List.length_append]
  split <;> simp <;> omega
theorem itoa_at {n : Int} {k : Nat} {c : UInt8} (h : (itoa n)[k]? = some c) : (k = 0 ∧ c = 45) ∨ (48 ≤ c.toNat ∧ c.toNat ≤ 57) := by
  rw [itoa_split] at h
  split at h
  · rcases k with _ | k
    · exact .inl ⟨rfl, by simpa using h.symm⟩
    · exact .inr (dec_bytes _ c (List.mem_of_getElem? (by simpa using h)))
  · exact .inr (dec_bytes _ c (List.mem_of_getElem? (by simpa using h)))
/-- what the digits among the first k bytes say -/
def saidV (s : List UInt8) (k : Nat) : Nat := decVal 0 ((s.take k).filter (· != 45))
theorem decVal_app (a b : List UInt8) : ∀ acc, decVal acc (a ++ b) = decVal (decVal acc a) b := by
  induction a with
  | nil => intro acc; rfl
  | cons x a ih => intro acc; exact ih _
theorem saidV_mono (s : List UInt8) (k : Nat) : saidV s k ≤ saidV s s.length := by
  unfold saidV
  conv => rhs; rw [List.take_length, ← List.take_append_drop k s, List.filter_append, decVal_app]
  exact decVal_ge _ _
theorem saidV_skip {s : List UInt8} {k : Nat} (h : s[k]? = some 45) : saidV s (k + 1) = saidV s k := by
  unfold saidV
  rw [List.take_add_one, h]
  simp
theorem saidV_digit {s : List UInt8} {k : Nat} {c : UInt8} (h : s[k]? = some c) (hc : c ≠ 45) : saidV s (k + 1) = saidV s k * 10 + (c.toNat - 48) := by
  unfold saidV
  rw [List.take_add_one, h]
  have : (([c] : List UInt8).filter (· != 45)) = [c] := by simp [hc]
  rw [List.filter_append, show (some c).toList = [c] from rfl, this, decVal_snoc]
theorem saidV_all (n : Int) : saidV (itoa n) (itoa n).length = n.natAbs := by
  unfold saidV
  rw [List.take_length, itoa_split, List.filter_append]
  have h1 : ((if n < 0 then [45] else [] : List UInt8).filter (· != 45)) = [] := by split <;> rfl
  have h2 : (decDigits n.natAbs).filter (· != 45) = decDigits n.natAbs := by
    rw [List.filter_eq_self]
    intro a ha
    have := dec_bytes _ a ha
    rw [bne_iff_ne]
    rintro rfl
    simp at this
  rw [h1, h2, List.nil_append, decVal_dec]
theorem itoa_first {n : Int} : (itoa n ≠ []) ∧ ((itoa n)[0]? = some 45 ↔ n < 0) := by
  rw [itoa_split]
  split
  · rename_i h; simp [h]
  · rename_i h
    refine ⟨by simpa using dec_ne _, ?_⟩
    simp only [List.nil_append, h, iff_false]
    intro e
    have := dec_bytes _ 45 (List.mem_of_getElem? e)
    simp at this

theorem wrap64_ok (x : Int) : i64ok (RowKit.wrap64 x) := by unfold RowKit.wrap64; constructor <;> omega
theorem wrap64_id {x : Int} (h : i64ok x) : RowKit.wrap64 x = x := by obtain ⟨h1, h2⟩ := h; unfold RowKit.wrap64; omega
/-- one digit more -/
theorem said_step {s : List UInt8} {k : Nat} {c : UInt8} {a : Int} (hb : s[k]? = some c) (h1 : 48 ≤ c.toNat ∧ c.toNat ≤ 57) (hP : ∀ n, i64ok n → s = itoa n → a = -(saidV s k : Int)) :
    ∀ n, i64ok n → s = itoa n → RowKit.wrap64 (RowKit.wrap64 (10 * a) - ((c.toNat : Int) - 48)) = -(saidV s (k + 1) : Int) := by
  intro n hn e
  have ha := hP n hn e
  have hd := saidV_digit hb (by rintro rfl; simp at h1)
  have hm := saidV_mono s (k + 1)
  have ht : saidV s s.length = n.natAbs := by rw [e]; exact saidV_all n
  obtain ⟨n1, n2⟩ := hn
  rw [wrap64_id (x := 10 * a) ⟨by omega, by omega⟩, wrap64_id ⟨by omega, by omega⟩]
  omega
set_option maxRecDepth 100000 in
theorem Said_any (s : List UInt8) (hs : s.length ≤ 4294967280) (w : World) : Calls Tryd.prog 47 #[strB s] w fun e w' =>
    ∃ v ok, e = .returned (.tuple #[.int .i64 v, .bool ok]) ∧ i64ok v ∧ (∀ n, i64ok n → s = itoa n → v = n) ∧ Below w.heap.size w w' := by
  by_cases h20 : 20 < s.length
  · have d0 : decide ((s.length : Int) > 20) = true := decide_eq_true (by omega)
    go_enter Tryd.func47, Tryd.ntmps47
    go_wp2_with fail
    go_ret2
    refine ⟨_, _, rfl, ⟨by omega, by omega⟩, fun n hn e => ?_, Below.refl _ _⟩
    have := itoa_len20 hn
    rw [← e] at this
    omega
  · have d0 : decide ((s.length : Int) > 20) = false := decide_eq_false (by omega)
    go_enter Tryd.func47, Tryd.ntmps47
    go_wp2_with fail
    go_loopg [4, 5] (s.length) (fun gk v i wr => ∃ (k : Nat) (a : Int), k ≤ s.length ∧ i = .int .i64 k ∧ v = .int .i64 a ∧ gk = s.length - k ∧ i64ok a ∧ (∀ n, i64ok n → s = itoa n → a = -(saidV s k : Int)) ∧ wr = w)
    case atStart => exact ⟨0, 0, by omega, rfl, rfl, by omega, ⟨by omega, by omega⟩, fun n _ _ => rfl, rfl⟩
    case round =>
      obtain ⟨k, a, hk, rfl, rfl, hgk, ha, hP, rfl⟩ := hrel
      have Hgk := hide hgk
      have HP := hide hP
      clear hgk hP
      by_cases hlt : k < s.length
      · by_cases hk0 : k = 0
        · subst hk0
          obtain ⟨b, hb⟩ : ∃ b, s[0]? = some b := ⟨_, List.getElem?_eq_getElem hlt⟩
          have hks : 0 < (⟨s.toArray⟩ : ByteArray).size := hlt
          have hbk : (⟨s.toArray⟩ : ByteArray)[0] = b := (List.getElem?_eq_some_iff.1 hb).2
          by_cases hm : b = 45
          · subst hm
            go_wp2_with fail
            go_roundg (s.length - (0 + 1))
            case measure => have := Hgk.out; omega
            case rel => exact ⟨1, a, by omega, rfl, rfl, by omega, ha, fun n h1 h2 => by rw [saidV_skip hb]; exact HP.out n h1 h2, rfl⟩
          · have hmi : ((b.toNat : Int) == 45) = false := by
              rw [beq_eq_false_iff_ne]
              intro h
              exact hm (UInt8.toNat_inj.1 (by simp; omega))
            by_cases hdg : 48 ≤ b.toNat ∧ b.toNat ≤ 57
            · have d48 : decide ((b.toNat : Int) < 48) = false := decide_eq_false (by omega)
              have d57 : decide (57 < (b.toNat : Int)) = false := decide_eq_false (by omega)
              have d57' : decide ((b.toNat : Int) > 57) = false := decide_eq_false (by omega)
              have e48 : (48 : Int) ≤ b.toNat := by omega
              go_wp2_with fail
              go_roundg (s.length - (0 + 1))
              case measure => have := Hgk.out; omega
              case rel => exact ⟨0 + 1, _, by omega, by go_num, rfl, by omega, wrap64_ok _, said_step hb hdg HP.out, rfl⟩
            · have hno : ∀ n, i64ok n → s = itoa n → (0 : Int) = n := by
                intro n hn e
                rw [e] at hb
                rcases itoa_at hb with h | h
                · first | exact absurd h hm | exact absurd h.2 hm
                · exact absurd h hdg
              by_cases hlo : b.toNat < 48
              · have d48 : decide ((b.toNat : Int) < 48) = true := decide_eq_true (by omega)
                go_wp2_with fail
                go_ret2
                exact ⟨_, _, rfl, ⟨by omega, by omega⟩, hno, Below.refl _ _⟩
              · have d48 : decide ((b.toNat : Int) < 48) = false := decide_eq_false (by omega)
                have d57 : decide (57 < (b.toNat : Int)) = true := decide_eq_true (by omega)
                have d57' : decide ((b.toNat : Int) > 57) = true := decide_eq_true (by omega)
                go_wp2_with fail
                go_ret2
                exact ⟨_, _, rfl, ⟨by omega, by omega⟩, hno, Below.refl _ _⟩
        · obtain ⟨b, hb⟩ : ∃ b, s[k]? = some b := ⟨_, List.getElem?_eq_getElem hlt⟩
          have hks : k < (⟨s.toArray⟩ : ByteArray).size := hlt
          have hbk : (⟨s.toArray⟩ : ByteArray)[k] = b := (List.getElem?_eq_some_iff.1 hb).2
          have hki : ((k : Int) == 0) = false := by simp; omega
          have hm : ¬ (k = 0 ∧ b = 45) := fun h => hk0 h.1
          by_cases hdg : 48 ≤ b.toNat ∧ b.toNat ≤ 57
          · have d48 : decide ((b.toNat : Int) < 48) = false := decide_eq_false (by omega)
            have d57 : decide (57 < (b.toNat : Int)) = false := decide_eq_false (by omega)
            have d57' : decide ((b.toNat : Int) > 57) = false := decide_eq_false (by omega)
            have e48 : (48 : Int) ≤ b.toNat := by omega
            go_wp2_with fail
            go_roundg (s.length - (k + 1))
            case measure => have := Hgk.out; omega
            case rel => exact ⟨k + 1, _, by omega, by go_num, rfl, by omega, wrap64_ok _, said_step hb hdg HP.out, rfl⟩
          · have hno : ∀ n, i64ok n → s = itoa n → (0 : Int) = n := by
              intro n hn e
              rw [e] at hb
              rcases itoa_at hb with h | h
              · first | exact absurd h hm | exact absurd h.2 hm
              · exact absurd h hdg
            by_cases hlo : b.toNat < 48
            · have d48 : decide ((b.toNat : Int) < 48) = true := decide_eq_true (by omega)
              go_wp2_with fail
              go_ret2
              exact ⟨_, _, rfl, ⟨by omega, by omega⟩, hno, Below.refl _ _⟩
            · have d48 : decide ((b.toNat : Int) < 48) = false := decide_eq_false (by omega)
              have d57 : decide (57 < (b.toNat : Int)) = true := decide_eq_true (by omega)
              have d57' : decide ((b.toNat : Int) > 57) = true := decide_eq_true (by omega)
              go_wp2_with fail
              go_ret2
              exact ⟨_, _, rfl, ⟨by omega, by omega⟩, hno, Below.refl _ _⟩
      · obtain rfl : k = s.length := by omega
        have hall : ∀ n, i64ok n → s = itoa n → a = -(n.natAbs : Int) := fun n hn e => by
          rw [HP.out n hn e]
          have ht : saidV s s.length = n.natAbs := by rw [e]; exact saidV_all n
          rw [ht]
        have D1 := fun W => hide (Digits_any _ (RowKit.wrap64 (-a)) W (Nat.le_refl _) (wrap64_ok _))
        have D2 := fun W => hide (Digits_any _ a W (Nat.le_refl _) ha)
        have hpos : ∀ n, i64ok n → s = itoa n → 0 ≤ n → RowKit.wrap64 (-a) = n := fun n hn e h0 => by
          have := hall n hn e
          obtain ⟨n1, n2⟩ := hn
          rw [wrap64_id ⟨by omega, by omega⟩]
          omega
        by_cases hnil : s = []
        · subst hnil
          go_wp2_with (refine ((D1 _).out).mono ?_; rintro e w3 ⟨rfl, hb3⟩)
          go_ret2
          exact ⟨_, _, rfl, wrap64_ok _, fun n hn e => absurd e.symm itoa_first.1, hb3⟩
        · have hlen : 0 < s.length := List.length_pos_iff.2 hnil
          have hl0 : ((s.length : Int) == 0) = false := by rw [beq_eq_false_iff_ne]; omega
          obtain ⟨b, hb⟩ : ∃ b, s[0]? = some b := ⟨_, List.getElem?_eq_getElem hlen⟩
          have hks : 0 < (⟨s.toArray⟩ : ByteArray).size := hlen
          have hbk : (⟨s.toArray⟩ : ByteArray)[0] = b := (List.getElem?_eq_some_iff.1 hb).2
          by_cases hm : b = 45
          · subst hm
            go_wp2_with (refine ((D2 _).out).mono ?_; rintro e w3 ⟨rfl, hb3⟩)
            go_ret2
            refine ⟨_, _, rfl, ha, fun n hn e => ?_, hb3⟩
            have h0 : n < 0 := itoa_first.2.1 (by rw [← e]; exact hb)
            have := hall n hn e
            omega
          · have hmi : ((b.toNat : Int) == 45) = false := by
              rw [beq_eq_false_iff_ne]
              intro h
              exact hm (UInt8.toNat_inj.1 (by simp; omega))
            have hmi2 : ((b.toNat : Int) != 45) = true := by rw [bne, hmi]; rfl
            go_wp2_with (refine ((D1 _).out).mono ?_; rintro e w3 ⟨rfl, hb3⟩)
            go_ret2
            refine ⟨_, _, rfl, wrap64_ok _, fun n hn e => hpos n hn e ?_, hb3⟩
            rcases Int.lt_or_le n 0 with h0 | h0
            · have := itoa_first.2.2 h0
              rw [← e, hb] at this
              exact absurd (Option.some.inj this) hm
            · exact h0
end Go.Proofs.YtmghkonmfbpjcabDoor
