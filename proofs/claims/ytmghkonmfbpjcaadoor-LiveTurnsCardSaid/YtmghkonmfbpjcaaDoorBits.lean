/- Sets of registers as numbers of 64 bits: what is left of one without another, one register's set. No program in sight. -/
import Derived.Test.YtmghkonmfbpjcaaDoorLiveP
namespace Go.Proofs.YtmghkonmfbpjcaaDoor
set_option linter.unusedVariables false
set_option linter.unusedSimpArgs false
open Go.RowKit

theorem u64_without (a b : Nat) (ha : a < 18446744073709551616) (hb : b < 18446744073709551616) : bits .andNot .u64 (a : Int) (b : Int) = ((a &&& (18446744073709551615 - b) : Nat) : Int) := by
  have e : ∀ c : Nat, c < 18446744073709551616 → (BitVec.ofInt 64 (c : Int)).toNat = c := fun c hc => by
    rw [BitVec.ofInt_natCast, BitVec.toNat_ofNat]; exact Nat.mod_eq_of_lt hc
  have hx : a &&& (18446744073709551615 - b) ≤ a := Nat.and_le_left
  show IntKind.u64.wrap ((BitVec.ofInt 64 (a : Int) &&& ~~~ BitVec.ofInt 64 (b : Int)).toNat : Int) = _
  rw [BitVec.toNat_and, BitVec.toNat_not, e a ha, e b hb, IntKind.wrap_u64]
  have : 2 ^ 64 - 1 - b = 18446744073709551615 - b := by omega
  rw [this]
  omega
theorem bit_without {b r : Nat} (hb : b < 18446744073709551616) (hr : r < 64) : (18446744073709551615 - b).testBit r = !b.testBit r := by
  have := Nat.testBit_two_pow_sub_succ (n := 64) (x := b) (by omega) r
  rw [show 2 ^ 64 - (b + 1) = 18446744073709551615 - b by omega] at this
  rw [this]
  simp [hr]
theorem bit_one (k r : Nat) : (2 ^ k).testBit r = decide (k = r) := Nat.testBit_two_pow
end Go.Proofs.YtmghkonmfbpjcaaDoor
