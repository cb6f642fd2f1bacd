/- The reference's Digits: a number's digits. -/
import Derived.Test.YtmghkonmfbpjcabDoorTx2
import Derived.Test.YtmghkonmfbpjcabDoorProg
import Derived.Test.YtmghkonmfbpjcabDoorRow
import Derived.Lib.ItoaLen
import Derived.Laws.BytesString
namespace Go.Proofs.YtmghkonmfbpjcabDoor
set_option linter.unusedVariables false
set_option linter.unusedSimpArgs false
open Go.RowKit
set_option maxHeartbeats 4000000
open Go.Lib

/-- a text's bytes as a string -/
abbrev strB (l : List UInt8) : Value := .string ⟨l.toArray⟩
theorem itoa_small {n : Int} (h0 : 0 ≤ n) (h1 : n < 10) : itoa n = [UInt8.ofNat (48 + n.toNat)] := by
  have : itoa n = decDigits n.toNat := if_neg (by omega)
  rw [this, dec_small (by omega)]
theorem itoa_nat (u : Nat) : itoa (u : Int) = decDigits u := by unfold itoa; rw [if_neg (by omega), Int.toNat_natCast]
theorem itoa_mns {u : Nat} (h : 1 ≤ u) : itoa (-(u : Int)) = 45 :: decDigits u := by
  unfold itoa
  rw [if_pos (by omega)]
  congr 2
  omega
theorem itoa_big {u : Nat} (h : 10 ≤ u) : itoa (u : Int) = itoa ((u / 10 : Nat) : Int) ++ itoa ((u % 10 : Nat) : Int) := by
  rw [itoa_nat, itoa_nat, itoa_nat, dec_big (by omega), dec_small (u := u % 10) (by omega)]
theorem itoa_neg1 {n : Int} (h0 : n < 0) (h1 : -10 < n) : itoa n = 45 :: itoa (-n) := by
  have e1 : itoa n = 45 :: decDigits n.natAbs := if_pos h0
  have e2 : itoa (-n) = decDigits (-n).toNat := if_neg (by omega)
  rw [e1, e2]
  congr 2
  omega
theorem itoa_neg2 {u : Nat} (h : 10 ≤ u) : itoa (-(u : Int)) = itoa (-((u / 10 : Nat) : Int)) ++ itoa ((u % 10 : Nat) : Int) := by
  rw [itoa_mns (by omega), itoa_mns (by omega), itoa_nat, dec_big (by omega), dec_small (u := u % 10) (by omega)]
  rfl
theorem str_app (a b : List UInt8) : (⟨a.toArray⟩ : ByteArray) ++ ⟨b.toArray⟩ = ⟨(a ++ b).toArray⟩ := by
  apply ByteArray.ext
  simp
theorem one_byte_str (w : World) (x : Int) (h0 : 0 ≤ x) (h1 : x < 256) : (convert 76 9 (.slice (some ⟨w.heap.size, 0, none⟩) 1 1)).run Tryd.prog (w.alloc (.cells #[.int .u8 x] 5)) = .ok (.string ⟨#[UInt8.ofNat x.toNat]⟩) (w.alloc (.cells #[.int .u8 x] 5)) := by
  rw [run_convert_bytes_string _ _ _ 5 _ _ _ (by simp [Tryd.underlying76]) (by simp [Tryd.underlying5]) (by simp [Tryd.underlying9])]
  rw [run_bytesToString _ _ _ _ [x] (by simp [go_sem]; try rfl)]
  rfl
set_option maxRecDepth 100000 in
theorem Digits_any : ∀ (k : Nat) (n : Int) (w : World), 2 * n.natAbs + (if n < 0 then 1 else 0) ≤ k → i64ok n → Calls Tryd.prog 40 #[.int .i64 n] w fun e w' => e = .returned (strB (itoa n)) ∧ Below w.heap.size w w' := by
  intro k
  induction k using Nat.strongRecOn with
  | _ k ih =>
    intro n w hk hn
    obtain ⟨hn1, hn2⟩ := hn
    have IH := fun (m : Int) (W : World) (hm : 2 * m.natAbs + (if m < 0 then 1 else 0) < 2 * n.natAbs + (if n < 0 then 1 else 0)) (h : i64ok m) => hide (ih (2 * m.natAbs + (if m < 0 then 1 else 0)) (by omega) m W (Nat.le_refl _) h)
    clear ih
    by_cases h0 : n < 0
    · have d0 : decide (n < 0) = true := decide_eq_true h0
      by_cases h1 : -10 < n
      · have d1 : decide (n > -10) = true := decide_eq_true h1
        have w1 : IntKind.i64.wrap (-n) = -n := by rw [IntKind.wrap_i64]; omega
        have I1 := fun W => IH (-n) W (by rw [if_pos h0, if_neg (by omega)]; omega) ⟨by omega, by omega⟩
        have e1 := itoa_neg1 h0 h1
        have l1 : ¬ 9223372036854775807 < 1 + (itoa (-n)).length := by have := itoa_length_le (-n) (by omega) (by omega); omega
        clear IH h0 h1 hk
        go_enter Tryd.func40, Tryd.ntmps40
        go_wp2_with fail
        refine ((I1 _).out).mono ?_
        rintro e w1 ⟨rfl, hb1⟩
        go_wp2_with fail
        go_ret
        refine ⟨?_, hb1⟩
        rw [e1]
        exact congrArg (fun z => Ending.returned (.string z)) (str_app [45] _)
      · obtain ⟨u, rfl⟩ : ∃ u : Nat, n = -(u : Int) := ⟨n.natAbs, by omega⟩
        have d1 : decide (-(u : Int) > -10) = false := decide_eq_false h1
        have c1 : ((u / 10 : Nat) : Int) = (u : Int) / 10 := by omega
        have c2 : ((u % 10 : Nat) : Int) = (u : Int) % 10 := by omega
        have e1 := itoa_neg2 (u := u) (by omega)
        have I1 := fun W => IH (-((u : Int) / 10)) W (by rw [if_pos h0]; split <;> omega) ⟨by omega, by omega⟩
        have I2 := fun W => IH ((u : Int) % 10) W (by rw [if_pos h0, if_neg (by omega)]; omega) ⟨by omega, by omega⟩
        have l1 := itoa_length_le (-((u : Int) / 10)) (by omega) (by omega)
        have l2 := itoa_length_le ((u : Int) % 10) (by omega) (by omega)
        have l3 : ¬ 9223372036854775807 < (itoa (-((u : Int) / 10))).length + (itoa ((u : Int) % 10)).length := by omega
        rw [c1, c2] at e1
        clear IH hk c1 c2 l1 l2
        go_enter Tryd.func40, Tryd.ntmps40
        go_wp2_with fail
        refine ((I1 _).out).mono ?_
        rintro e w1 ⟨rfl, hb1⟩
        go_wp2_with fail
        refine ((I2 _).out).mono ?_
        rintro e w2 ⟨rfl, hb2⟩
        go_wp2_with fail
        go_ret
        refine ⟨?_, hb1.trans (hb2.mono hb1.size)⟩
        rw [e1]
        exact congrArg (fun z => Ending.returned (.string z)) (str_app _ _)
    · obtain ⟨u, rfl⟩ : ∃ u : Nat, n = (u : Int) := ⟨n.toNat, by omega⟩
      have d0 : decide ((u : Int) < 0) = false := decide_eq_false h0
      by_cases h1 : (u : Int) < 10
      · have d1 : decide ((u : Int) < 10) = true := decide_eq_true h1
        have e1 := itoa_small (n := (u : Int)) (by omega) h1
        have hcv := one_byte_str w (48 + (u : Int)) (by omega) (by omega)
        have c3 : (48 + (u : Int)).toNat = 48 + u := by omega
        rw [c3] at hcv
        rw [Int.toNat_natCast] at e1
        clear IH hk
        go_enter Tryd.func40, Tryd.ntmps40
        go_wp2_with fail
        go_ret
        refine ⟨?_, (Below.refl _ _).alloc (Nat.le_refl _) _⟩
        rfl
      · have d1 : decide ((u : Int) < 10) = false := decide_eq_false h1
        have c1 : ((u / 10 : Nat) : Int) = (u : Int) / 10 := by omega
        have c2 : ((u % 10 : Nat) : Int) = (u : Int) % 10 := by omega
        have e1 := itoa_big (u := u) (by omega)
        have I1 := fun W => IH ((u : Int) / 10) W (by rw [if_neg h0, if_neg (by omega)]; omega) ⟨by omega, by omega⟩
        have I2 := fun W => IH ((u : Int) % 10) W (by rw [if_neg h0, if_neg (by omega)]; omega) ⟨by omega, by omega⟩
        have l1 := itoa_length_le ((u : Int) / 10) (by omega) (by omega)
        have l2 := itoa_length_le ((u : Int) % 10) (by omega) (by omega)
        have l3 : ¬ 9223372036854775807 < (itoa ((u : Int) / 10)).length + (itoa ((u : Int) % 10)).length := by omega
        rw [c1, c2] at e1
        clear IH hk c1 c2 l1 l2
        go_enter Tryd.func40, Tryd.ntmps40
        go_wp2_with fail
        refine ((I1 _).out).mono ?_
        rintro e w1 ⟨rfl, hb1⟩
        go_wp2_with fail
        refine ((I2 _).out).mono ?_
        rintro e w2 ⟨rfl, hb2⟩
        go_wp2_with fail
        go_ret
        refine ⟨?_, hb1.trans (hb2.mono hb1.size)⟩
        rw [e1]
        exact congrArg (fun z => Ending.returned (.string z)) (str_app _ _)
end Go.Proofs.YtmghkonmfbpjcabDoor
