/- Registers that a node uses and sets: the reference's uses and sets. -/
import Derived.Test.YtmghkonmfbpjcabDoorOps
import Derived.Test.YtmghkonmfbpjcabDoorJC
namespace Go.Proofs.YtmghkonmfbpjcabDoor
set_option linter.unusedVariables false
set_option linter.unusedSimpArgs false
open Go.RowKit



theorem one_any (k : Nat) (hk : k < 64) (w : World) :
    Calls Tryd.prog 25 #[.int .i64 k] w fun e w' => e = .returned (.int .u64 ((2 ^ k : Nat) : Int)) ∧ w' = w := by
  have hw : IntKind.u64.wrap (2 ^ k) = ((2 ^ k : Nat) : Int) := by
    have h1 : (2 : Int) ^ k = ((2 ^ k : Nat) : Int) := by simp
    have h2 : 2 ^ k < 2 ^ 64 := Nat.pow_lt_pow_right (by omega) hk
    rw [h1, IntKind.wrap_u64]
    generalize (2 ^ k : Nat) = z at h2
    omega
  have Hw := hide hw
  clear hw
  go_enter Tryd.func25, Tryd.ntmps25
  go_wp2
  all_goals go_ret
  all_goals exact ⟨by rw [← Hw.out]; rfl, rfl⟩

theorem made_any (n : Nd) (w : World) (hd : hasD n.op = true → 0 ≤ n.d ∧ n.d < 64) :
    Calls Tryd.prog 57 #[.agg #[.int .i64 n.op, .int .i64 n.d, .int .i64 n.a, .int .i64 n.b, .int .i64 n.t, .int .i64 n.e]] w
      fun e w' => e = .returned (.int .u64 (madeN n : Int)) ∧ Below w.heap.size w w' := by
  cases h : hasD n.op with
  | true =>
    obtain ⟨d0, d1⟩ := hd h
    have hone := fun W => one_any n.d.toNat (by omega) W
    rw [Int.toNat_of_nonneg d0] at hone
    have hm : madeN n = 2 ^ n.d.toNat := by simp [madeN, h]
    rw [hm]
    generalize (2 ^ n.d.toNat : Nat) = z at *
    have o1 : 1 ≤ n.op := by simp [hasD, inB] at h; omega
    have o2 : n.op ≤ 9 := by simp [hasD, inB] at h; omega
    have H1 := hide hone
    clear hone hm hd h
    go_enter Tryd.func57, Tryd.ntmps57
    go_wp2_with (go_at_call 25; refine (H1.out _).mono ?_; rintro e w1 ⟨rfl, rfl⟩)
    all_goals go_tidy
    all_goals go_ret
    all_goals exact ⟨rfl, (by repeat (first | (with_reducible exact Below.refl _ _) | (with_reducible assumption) | (with_reducible refine Below.drew ?_) | (with_reducible refine below_drewN ?_ _) | (with_reducible refine Below.alloc ?_ (by (try simp only [World.size_alloc, World.size_setCell, World.size_drew, World.heap_drewN]); (first | done | omega | ((try simp only [World.size_alloc, World.size_setCell, World.size_drew, World.heap_drewN] at *); omega))) _) | (with_reducible refine Below.setCell ?_ (by (try simp only [World.size_alloc, World.size_setCell, World.size_drew, World.heap_drewN]); (first | done | omega | ((try simp only [World.size_alloc, World.size_setCell, World.size_drew, World.heap_drewN] at *); omega))) _) | (with_reducible refine Below.trans ?_ (Below.mono (by assumption) (by (try simp only [World.size_alloc, World.size_setCell, World.size_drew, World.heap_drewN]); (first | done | omega | ((try simp only [World.size_alloc, World.size_setCell, World.size_drew, World.heap_drewN] at *); omega)))))))⟩
  | false =>
    have hm : madeN n = 0 := by simp [madeN, h]
    rw [hm]
    have o1 : ¬ (1 ≤ n.op ∧ n.op ≤ 9) := by simp [hasD, inB] at h; omega
    clear hm hd h
    by_cases o2 : 1 ≤ n.op
    · have o3 : ¬ n.op ≤ 9 := by omega
      clear o1
      go_enter Tryd.func57, Tryd.ntmps57
      go_wp2
      all_goals go_tidy
      all_goals go_ret
      all_goals exact ⟨rfl, (by repeat (first | (with_reducible exact Below.refl _ _) | (with_reducible assumption) | (with_reducible refine Below.drew ?_) | (with_reducible refine below_drewN ?_ _) | (with_reducible refine Below.alloc ?_ (by (try simp only [World.size_alloc, World.size_setCell, World.size_drew, World.heap_drewN]); (first | done | omega | ((try simp only [World.size_alloc, World.size_setCell, World.size_drew, World.heap_drewN] at *); omega))) _) | (with_reducible refine Below.setCell ?_ (by (try simp only [World.size_alloc, World.size_setCell, World.size_drew, World.heap_drewN]); (first | done | omega | ((try simp only [World.size_alloc, World.size_setCell, World.size_drew, World.heap_drewN] at *); omega))) _) | (with_reducible refine Below.trans ?_ (Below.mono (by assumption) (by (try simp only [World.size_alloc, World.size_setCell, World.size_drew, World.heap_drewN]); (first | done | omega | ((try simp only [World.size_alloc, World.size_setCell, World.size_drew, World.heap_drewN] at *); omega)))))))⟩
    · clear o1
      go_enter Tryd.func57, Tryd.ntmps57
      go_wp2
      all_goals go_tidy
      all_goals go_ret
      all_goals exact ⟨rfl, (by repeat (first | (with_reducible exact Below.refl _ _) | (with_reducible assumption) | (with_reducible refine Below.drew ?_) | (with_reducible refine below_drewN ?_ _) | (with_reducible refine Below.alloc ?_ (by (try simp only [World.size_alloc, World.size_setCell, World.size_drew, World.heap_drewN]); (first | done | omega | ((try simp only [World.size_alloc, World.size_setCell, World.size_drew, World.heap_drewN] at *); omega))) _) | (with_reducible refine Below.setCell ?_ (by (try simp only [World.size_alloc, World.size_setCell, World.size_drew, World.heap_drewN]); (first | done | omega | ((try simp only [World.size_alloc, World.size_setCell, World.size_drew, World.heap_drewN] at *); omega))) _) | (with_reducible refine Below.trans ?_ (Below.mono (by assumption) (by (try simp only [World.size_alloc, World.size_setCell, World.size_drew, World.heap_drewN]); (first | done | omega | ((try simp only [World.size_alloc, World.size_setCell, World.size_drew, World.heap_drewN] at *); omega)))))))⟩
end Go.Proofs.YtmghkonmfbpjcabDoor
