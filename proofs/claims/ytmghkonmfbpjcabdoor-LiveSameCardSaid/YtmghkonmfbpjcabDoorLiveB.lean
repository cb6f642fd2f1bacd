/- live.behind. -/
import Derived.Test.YtmghkonmfbpjcabDoorLiveW2
import Derived.Deep.QuietTactic
import Derived.BigQuiet
namespace Go.Proofs.YtmghkonmfbpjcabDoor
set_option linter.unusedVariables false
set_option linter.unusedSimpArgs false
open Go.RowKit
set_option maxHeartbeats 1000000

theorem behind_any (n : Nd) (S : Option Addr) (ats : List Nat) (cap : Nat) (w : World) (hS : ValsAt w S (u64s ats)) (hl : ats.length ≤ 256) (hz : ∀ z ∈ ats, z < 2 ^ 64)
    (ht : n.op ≠ 12 → 0 ≤ n.t ∧ n.t < ats.length) (he : n.op = 11 → 0 ≤ n.e ∧ n.e < ats.length) :
    Calls Tryd.prog 56 #[.agg #[.int .i64 n.op, .int .i64 n.d, .int .i64 n.a, .int .i64 n.b, .int .i64 n.t, .int .i64 n.e], .slice S ats.length cap] w
      fun e w' => e = .returned (.int .u64 (behindN n ats : Int)) ∧ Below w.heap.size w w' := by
  by_cases h12 : n.op = 12
  · have hm : behindN n ats = 0 := by simp [behindN, h12]
    have q12 : (n.op == 12) = true := by simp [h12]
    rw [hm]
    clear hm h12 ht he
    go_enter Tryd.func56, Tryd.ntmps56
    go_wp2
    all_goals go_tidy
    all_goals go_ret
    all_goals exact ⟨rfl, (by repeat (first | (with_reducible exact Below.refl _ _) | (with_reducible assumption) | (with_reducible refine Below.drew ?_) | (with_reducible refine below_drewN ?_ _) | (with_reducible refine Below.alloc ?_ (by (try simp only [World.size_alloc, World.size_setCell, World.size_drew, World.heap_drewN]); (first | done | omega | ((try simp only [World.size_alloc, World.size_setCell, World.size_drew, World.heap_drewN] at *); omega))) _) | (with_reducible refine Below.setCell ?_ (by (try simp only [World.size_alloc, World.size_setCell, World.size_drew, World.heap_drewN]); (first | done | omega | ((try simp only [World.size_alloc, World.size_setCell, World.size_drew, World.heap_drewN] at *); omega))) _) | (with_reducible refine Below.trans ?_ (Below.mono (by assumption) (by (try simp only [World.size_alloc, World.size_setCell, World.size_drew, World.heap_drewN]); (first | done | omega | ((try simp only [World.size_alloc, World.size_setCell, World.size_drew, World.heap_drewN] at *); omega)))))))⟩
  · obtain ⟨t0, t1⟩ := ht h12
    obtain ⟨tt, htt⟩ := Int.eq_ofNat_of_zero_le t0
    obtain ⟨b, off, rfl, hb, ct⟩ := hS.u64 (k := tt) (by omega)
    have q12 : (n.op == 12) = false := by simp [h12]
    have xt := getD_lt hz tt
    by_cases h11 : n.op = 11
    · obtain ⟨e0, e1⟩ := he h11
      obtain ⟨ee, hee⟩ := Int.eq_ofNat_of_zero_le e0
      obtain ⟨b', off', e', _, ce⟩ := hS.u64 (k := ee) (by omega)
      injection e' with e'
      injection e' with e1' e2'
      subst e1' e2'
      have q11 : (n.op == 11) = true := by simp [h11]
      have xe := getD_lt hz ee
      have hm : behindN n ats = ats.getD tt 0 ||| ats.getD ee 0 := by simp [behindN, h11, htt, hee]
      rw [hm]
      generalize ats.getD tt 0 = x at *
      generalize ats.getD ee 0 = y at *
      have hor := bits_or_u64_nat x y xt xe
      obtain ⟨op, d, a, b0, t, e⟩ := n
      simp only at *
      subst htt hee
      have HO := hide hor
      clear hor hm h12 h11 ht he hz hS xt xe
      go_enter Tryd.func56, Tryd.ntmps56
      go_wp2_with fail
      go_quiet (fail)
      go_wp2_with fail
      go_ret
      exact ⟨by rw [← HO.out]; rfl, (by repeat (first | (with_reducible exact Below.refl _ _) | (with_reducible assumption) | (with_reducible refine Below.drew ?_) | (with_reducible refine below_drewN ?_ _) | (with_reducible refine Below.alloc ?_ (by (try simp only [World.size_alloc, World.size_setCell, World.size_drew, World.heap_drewN]); (first | done | omega | ((try simp only [World.size_alloc, World.size_setCell, World.size_drew, World.heap_drewN] at *); omega))) _) | (with_reducible refine Below.setCell ?_ (by (try simp only [World.size_alloc, World.size_setCell, World.size_drew, World.heap_drewN]); (first | done | omega | ((try simp only [World.size_alloc, World.size_setCell, World.size_drew, World.heap_drewN] at *); omega))) _) | (with_reducible refine Below.trans ?_ (Below.mono (by assumption) (by (try simp only [World.size_alloc, World.size_setCell, World.size_drew, World.heap_drewN]); (first | done | omega | ((try simp only [World.size_alloc, World.size_setCell, World.size_drew, World.heap_drewN] at *); omega)))))))⟩
    · have q11 : (n.op == 11) = false := by simp [h11]
      have hm : behindN n ats = ats.getD tt 0 := by simp [behindN, h11, h12, htt]
      rw [hm]
      generalize ats.getD tt 0 = x at *
      obtain ⟨op, d, a, b0, t, e⟩ := n
      simp only at *
      subst htt
      clear hm h12 h11 ht he hz hS xt
      go_enter Tryd.func56, Tryd.ntmps56
      go_wp2
      all_goals go_tidy
      all_goals go_ret
      all_goals exact ⟨rfl, (by repeat (first | (with_reducible exact Below.refl _ _) | (with_reducible assumption) | (with_reducible refine Below.drew ?_) | (with_reducible refine below_drewN ?_ _) | (with_reducible refine Below.alloc ?_ (by (try simp only [World.size_alloc, World.size_setCell, World.size_drew, World.heap_drewN]); (first | done | omega | ((try simp only [World.size_alloc, World.size_setCell, World.size_drew, World.heap_drewN] at *); omega))) _) | (with_reducible refine Below.setCell ?_ (by (try simp only [World.size_alloc, World.size_setCell, World.size_drew, World.heap_drewN]); (first | done | omega | ((try simp only [World.size_alloc, World.size_setCell, World.size_drew, World.heap_drewN] at *); omega))) _) | (with_reducible refine Below.trans ?_ (Below.mono (by assumption) (by (try simp only [World.size_alloc, World.size_setCell, World.size_drew, World.heap_drewN]); (first | done | omega | ((try simp only [World.size_alloc, World.size_setCell, World.size_drew, World.heap_drewN] at *); omega)))))))⟩
end Go.Proofs.YtmghkonmfbpjcabDoor
