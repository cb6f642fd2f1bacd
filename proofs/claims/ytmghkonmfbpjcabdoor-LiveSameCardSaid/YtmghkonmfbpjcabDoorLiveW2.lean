/- live.used. -/
import Derived.Test.YtmghkonmfbpjcabDoorLiveW
import Derived.Laws.Bits64b
import Derived.BigQuiet
namespace Go.Proofs.YtmghkonmfbpjcabDoor
set_option linter.unusedVariables false
set_option linter.unusedSimpArgs false
open Go.RowKit

set_option maxRecDepth 100000 in
theorem used_any (n : Nd) (w : World) (h1 : hasA n.op = true → 0 ≤ n.a ∧ n.a < 64) (h2 : hasB n.op = true → 0 ≤ n.b ∧ n.b < 64) :
    Calls Tryd.prog 55 #[.agg #[.int .i64 n.op, .int .i64 n.d, .int .i64 n.a, .int .i64 n.b, .int .i64 n.t, .int .i64 n.e]] w
      fun e w' => e = .returned (.int .u64 (usedN n : Int)) ∧ Below w.heap.size w w' := by
  cases hb : hasB n.op with
  | true =>
    have ho : 3 ≤ n.op ∧ n.op ≤ 8 := by simp [hasB, inB] at hb; omega
    obtain ⟨o1, o2⟩ := ho
    obtain ⟨a0, a1⟩ := h1 (by simp [hasA, inB]; omega)
    obtain ⟨b0, b1⟩ := h2 hb
    have ca := fun W => one_any n.a.toNat (by omega) W
    have cb := fun W => one_any n.b.toNat (by omega) W
    rw [Int.toNat_of_nonneg a0] at ca
    rw [Int.toNat_of_nonneg b0] at cb
    have hm : usedN n = 2 ^ n.a.toNat ||| 2 ^ n.b.toNat := by simp [usedN, hb]
    have hx : 2 ^ n.a.toNat < 2 ^ 64 := Nat.pow_lt_pow_right (by omega) (by omega)
    have hy : 2 ^ n.b.toNat < 2 ^ 64 := Nat.pow_lt_pow_right (by omega) (by omega)
    rw [hm]
    generalize (2 ^ n.a.toNat : Nat) = x at *
    generalize (2 ^ n.b.toNat : Nat) = y at *
    have hor := bits_or_u64_nat x y (by omega) (by omega)
    have CA := hide ca
    have CB := hide cb
    have HO := hide hor
    clear ca cb hor hm hb h1 h2 hx hy
    go_enter Tryd.func55, Tryd.ntmps55
    go_wp2_with fail
    go_quiet ((go_at_call 25; first | exact Calls.quiet_of_same (CA.out _) | exact Calls.quiet_of_same (CB.out _)))
    go_wp2_with fail
    go_ret
    exact ⟨by rw [← HO.out]; rfl, (by repeat (first | (with_reducible exact Below.refl _ _) | (with_reducible assumption) | (with_reducible refine Below.drew ?_) | (with_reducible refine below_drewN ?_ _) | (with_reducible refine Below.alloc ?_ (by (try simp only [World.size_alloc, World.size_setCell, World.size_drew, World.heap_drewN]); (first | done | omega | ((try simp only [World.size_alloc, World.size_setCell, World.size_drew, World.heap_drewN] at *); omega))) _) | (with_reducible refine Below.setCell ?_ (by (try simp only [World.size_alloc, World.size_setCell, World.size_drew, World.heap_drewN]); (first | done | omega | ((try simp only [World.size_alloc, World.size_setCell, World.size_drew, World.heap_drewN] at *); omega))) _) | (with_reducible refine Below.trans ?_ (Below.mono (by assumption) (by (try simp only [World.size_alloc, World.size_setCell, World.size_drew, World.heap_drewN]); (first | done | omega | ((try simp only [World.size_alloc, World.size_setCell, World.size_drew, World.heap_drewN] at *); omega)))))))⟩
  | false =>
    have hn : ¬ (3 ≤ n.op ∧ n.op ≤ 8) := by simp [hasB, inB] at hb; omega
    cases ha : hasA n.op with
    | true =>
      obtain ⟨a0, a1⟩ := h1 ha
      have ca := fun W => one_any n.a.toNat (by omega) W
      rw [Int.toNat_of_nonneg a0] at ca
      have hm : usedN n = 2 ^ n.a.toNat := by simp [usedN, hb, ha]
      rw [hm]
      generalize (2 ^ n.a.toNat : Nat) = x at *
      have CA := hide ca
      have ho : n.op = 2 ∨ n.op = 10 ∨ n.op = 11 ∨ n.op = 12 := by simp [hasA, inB] at ha; omega
      obtain ⟨op, d, a, b, t, e⟩ := n
      simp only at *
      clear ca hm hb ha h1 h2 hn
      rcases ho with rfl | rfl | rfl | rfl <;>
      · go_enter Tryd.func55, Tryd.ntmps55
        go_wp2_with (go_at_call 25; refine (CA.out _).mono ?_; rintro e w1 ⟨rfl, rfl⟩)
        all_goals go_tidy
        all_goals go_ret
        all_goals exact ⟨rfl, (by repeat (first | (with_reducible exact Below.refl _ _) | (with_reducible assumption) | (with_reducible refine Below.drew ?_) | (with_reducible refine below_drewN ?_ _) | (with_reducible refine Below.alloc ?_ (by (try simp only [World.size_alloc, World.size_setCell, World.size_drew, World.heap_drewN]); (first | done | omega | ((try simp only [World.size_alloc, World.size_setCell, World.size_drew, World.heap_drewN] at *); omega))) _) | (with_reducible refine Below.setCell ?_ (by (try simp only [World.size_alloc, World.size_setCell, World.size_drew, World.heap_drewN]); (first | done | omega | ((try simp only [World.size_alloc, World.size_setCell, World.size_drew, World.heap_drewN] at *); omega))) _) | (with_reducible refine Below.trans ?_ (Below.mono (by assumption) (by (try simp only [World.size_alloc, World.size_setCell, World.size_drew, World.heap_drewN]); (first | done | omega | ((try simp only [World.size_alloc, World.size_setCell, World.size_drew, World.heap_drewN] at *); omega)))))))⟩
    | false =>
      have hm : usedN n = 0 := by simp [usedN, hb, ha]
      rw [hm]
      have q2 : (n.op == 2) = false := by simp [hasA, inB] at ha; simp; omega
      have q10 : (n.op == 10) = false := by simp [hasA, inB] at ha; simp; omega
      have q11 : (n.op == 11) = false := by simp [hasA, inB] at ha; simp; omega
      have q12 : (n.op == 12) = false := by simp [hasA, inB] at ha; simp; omega
      have q3 : (decide (3 ≤ n.op) && decide (n.op ≤ 8)) = false := by simp; omega
      clear hm hb ha h1 h2 
      by_cases h3 : 3 ≤ n.op
      · have h8 : ¬ n.op ≤ 8 := by omega
        clear hn q3
        go_enter Tryd.func55, Tryd.ntmps55
        go_wp2
        all_goals go_tidy
        all_goals go_ret
        all_goals exact ⟨rfl, (by repeat (first | (with_reducible exact Below.refl _ _) | (with_reducible assumption) | (with_reducible refine Below.drew ?_) | (with_reducible refine below_drewN ?_ _) | (with_reducible refine Below.alloc ?_ (by (try simp only [World.size_alloc, World.size_setCell, World.size_drew, World.heap_drewN]); (first | done | omega | ((try simp only [World.size_alloc, World.size_setCell, World.size_drew, World.heap_drewN] at *); omega))) _) | (with_reducible refine Below.setCell ?_ (by (try simp only [World.size_alloc, World.size_setCell, World.size_drew, World.heap_drewN]); (first | done | omega | ((try simp only [World.size_alloc, World.size_setCell, World.size_drew, World.heap_drewN] at *); omega))) _) | (with_reducible refine Below.trans ?_ (Below.mono (by assumption) (by (try simp only [World.size_alloc, World.size_setCell, World.size_drew, World.heap_drewN]); (first | done | omega | ((try simp only [World.size_alloc, World.size_setCell, World.size_drew, World.heap_drewN] at *); omega)))))))⟩
      · clear hn q3
        go_enter Tryd.func55, Tryd.ntmps55
        go_wp2
        all_goals go_tidy
        all_goals go_ret
        all_goals exact ⟨rfl, (by repeat (first | (with_reducible exact Below.refl _ _) | (with_reducible assumption) | (with_reducible refine Below.drew ?_) | (with_reducible refine below_drewN ?_ _) | (with_reducible refine Below.alloc ?_ (by (try simp only [World.size_alloc, World.size_setCell, World.size_drew, World.heap_drewN]); (first | done | omega | ((try simp only [World.size_alloc, World.size_setCell, World.size_drew, World.heap_drewN] at *); omega))) _) | (with_reducible refine Below.setCell ?_ (by (try simp only [World.size_alloc, World.size_setCell, World.size_drew, World.heap_drewN]); (first | done | omega | ((try simp only [World.size_alloc, World.size_setCell, World.size_drew, World.heap_drewN] at *); omega))) _) | (with_reducible refine Below.trans ?_ (Below.mono (by assumption) (by (try simp only [World.size_alloc, World.size_setCell, World.size_drew, World.heap_drewN]); (first | done | omega | ((try simp only [World.size_alloc, World.size_setCell, World.size_drew, World.heap_drewN] at *); omega)))))))⟩
end Go.Proofs.YtmghkonmfbpjcabDoor
