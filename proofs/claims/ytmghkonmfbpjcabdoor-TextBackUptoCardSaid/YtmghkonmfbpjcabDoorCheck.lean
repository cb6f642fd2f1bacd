/- prog.Check: what its closures answer, and what it answers. -/
import Derived.Test.YtmghkonmfbpjcabDoorOps
import Derived.Deep.LoopGhost
namespace Go.Proofs.YtmghkonmfbpjcabDoor
set_option linter.unusedVariables false
set_option linter.unusedSimpArgs false
open Go.RowKit
set_option maxHeartbeats 1000000

theorem check1_any (n : Nd) (w : World) :
    Calls Tryd.prog 50 #[.agg n.cells.toArray] w fun e w' => e = .returned (.bool (!opOk n.op)) ∧ Below w.heap.size w w' := by
  unfold Nd.cells
  go_enter Tryd.func50, Tryd.ntmps50
  go_wp2_with (go_at_call 51; refine (of_any _ _).mono ?_; rintro e w1 ⟨rfl, hbw1⟩; obtain ⟨hcw1, hfw1⟩ := bcell hbw1; have hzw1 := hbw1.size; simp only [World.size_alloc, World.size_setCell, World.size_drew, World.heap_drewN] at hzw1 hcw1 hfw1; (try have hyw1 := Nat.lt_of_succ_le hzw1); (try have hxw1 := Nat.lt_of_succ_lt hyw1))
  go_ret
  exact ⟨rfl, (by repeat (first | (with_reducible exact Below.refl _ _) | (with_reducible assumption) | (with_reducible refine Below.drew ?_) | (with_reducible refine below_drewN ?_ _) | (with_reducible refine Below.alloc ?_ (by (try simp only [World.size_alloc, World.size_setCell, World.size_drew, World.heap_drewN]); (first | done | omega | ((try simp only [World.size_alloc, World.size_setCell, World.size_drew, World.heap_drewN] at *); omega))) _) | (with_reducible refine Below.setCell ?_ (by (try simp only [World.size_alloc, World.size_setCell, World.size_drew, World.heap_drewN]); (first | done | omega | ((try simp only [World.size_alloc, World.size_setCell, World.size_drew, World.heap_drewN] at *); omega))) _) | (with_reducible refine Below.trans ?_ (Below.mono (by assumption) (by (try simp only [World.size_alloc, World.size_setCell, World.size_drew, World.heap_drewN]); (first | done | omega | ((try simp only [World.size_alloc, World.size_setCell, World.size_drew, World.heap_drewN] at *); omega)))))))⟩
theorem check2_any (n regs : Int) (has : Bool) (g : Nat) (w : World) (h0 : w.cell? ⟨g, 0, none⟩ = some (.int .i64 regs)) :
    Calls Tryd.prog 52 #[.int .i64 n, .bool has, .pointer (some ⟨g, 0, none⟩)] w fun e w' => e = .returned (.bool (okR regs n has)) ∧ w = w' := by
  cases has <;> go_enter Tryd.func52, Tryd.ntmps52 <;> go_wp2
  all_goals go_tidy
  all_goals go_ret
  all_goals exact ⟨by simp_all [okR]; try omega, rfl⟩
theorem check3_any (n : Int) (A : Option Addr) (len cap : Nat) (has : Bool) (g : Nat) (w : World) (h0 : w.cell? ⟨g, 1, none⟩ = some (.slice A len cap)) :
    Calls Tryd.prog 53 #[.int .i64 n, .bool has, .pointer (some ⟨g, 0, none⟩)] w fun e w' => e = .returned (.bool (okN len n has)) ∧ w = w' := by
  cases has <;> go_enter Tryd.func53, Tryd.ntmps53 <;> go_wp2
  all_goals go_tidy
  all_goals go_ret
  all_goals exact ⟨by simp_all [okN]; try omega, rfl⟩
theorem check4_any (n : Int) (has : Bool) (w : World) :
    Calls Tryd.prog 54 #[.int .i64 n, .bool has] w fun e w' => e = .returned (.bool (okF n has)) ∧ w = w' := by
  cases has <;> go_enter Tryd.func54, Tryd.ntmps54 <;> go_wp2
  all_goals go_tidy
  all_goals go_ret
  all_goals exact ⟨by simp_all [okF], rfl⟩

def IdxPost (q : Bool) (w : World) (e : Ending) (w' : World) : Prop := ∃ r : Int, e = .returned (.int .i64 r) ∧ decide (0 ≤ r) = q ∧ Below w.heap.size w w'

theorem idxNodes_any (A : Option Addr) (l : List Nd) (cap : Nat) (w : World) (hl : l.length ≤ maxLen) (hA : NodesAt w A l) :
    Calls Tryd.prog 23 #[.slice A l.length cap, .func (.func 50) #[] #[]] w
      (IdxPost (l.any fun n => !opOk n.op) w) := by
  unfold maxLen at hl
  go_enter Tryd.func23, Tryd.ntmps23
  go_wp2
  go_loopw [8] (fun i wr => ∃ k : Nat, k ≤ l.length ∧ i = .int .i64 k ∧ (l.take k).any (fun n => !opOk n.op) = false ∧ Below w.heap.size w wr) (fun i _ => l.length - (intOf i).toNat)
  case atStart => exact ⟨0, Nat.zero_le _, rfl, by simp, Below.refl _ _⟩
  case round =>
    obtain ⟨k, hk, rfl, hno, hbr⟩ := hrel
    have hzr := hbr.size
    have Hno := hide hno
    clear hno
    by_cases hlt : k < l.length
    · obtain ⟨b, off, n, rfl, hbl, hkn, hn⟩ := hA.get hlt
      have Hkn := hide hkn
      clear hkn
      obtain ⟨c0, c1, c2, c3, c4, c5⟩ := hn.below hbr hbl
      have hp := check1_any n wr
      simp only [Nd.cells] at hp
      have Hp := hide hp
      clear hp
      have hbw : b < wr.heap.size := by omega
      cases ho : opOk n.op
      · rw [ho] at Hp
        go_wp2_with (go_at_call 50; refine (Hp.out).mono ?_; rintro e w1 ⟨rfl, hb1⟩)
        go_ret
        exact ⟨k, rfl, by rw [any_of_take _ l k n Hkn.out (by simp [ho])]; simp, (by repeat (first | (with_reducible exact Below.refl _ _) | (with_reducible assumption) | (with_reducible refine Below.drew ?_) | (with_reducible refine below_drewN ?_ _) | (with_reducible refine Below.alloc ?_ (by (try simp only [World.size_alloc, World.size_setCell, World.size_drew, World.heap_drewN]); (first | done | omega | ((try simp only [World.size_alloc, World.size_setCell, World.size_drew, World.heap_drewN] at *); omega))) _) | (with_reducible refine Below.setCell ?_ (by (try simp only [World.size_alloc, World.size_setCell, World.size_drew, World.heap_drewN]); (first | done | omega | ((try simp only [World.size_alloc, World.size_setCell, World.size_drew, World.heap_drewN] at *); omega))) _) | (with_reducible refine Below.trans ?_ (Below.mono (by assumption) (by (try simp only [World.size_alloc, World.size_setCell, World.size_drew, World.heap_drewN]); (first | done | omega | ((try simp only [World.size_alloc, World.size_setCell, World.size_drew, World.heap_drewN] at *); omega)))))))⟩
      · rw [ho] at Hp
        go_wp2_with (go_at_call 50; refine (Hp.out).mono ?_; rintro e w1 ⟨rfl, hb1⟩)
        go_roundw
        case rel => exact ⟨k + 1, by omega, by go_num, by rw [any_take_succ _ l k n Hkn.out, Hno.out]; simp [ho], (by repeat (first | (with_reducible exact Below.refl _ _) | (with_reducible assumption) | (with_reducible refine Below.drew ?_) | (with_reducible refine below_drewN ?_ _) | (with_reducible refine Below.alloc ?_ (by (try simp only [World.size_alloc, World.size_setCell, World.size_drew, World.heap_drewN]); (first | done | omega | ((try simp only [World.size_alloc, World.size_setCell, World.size_drew, World.heap_drewN] at *); omega))) _) | (with_reducible refine Below.setCell ?_ (by (try simp only [World.size_alloc, World.size_setCell, World.size_drew, World.heap_drewN]); (first | done | omega | ((try simp only [World.size_alloc, World.size_setCell, World.size_drew, World.heap_drewN] at *); omega))) _) | (with_reducible refine Below.trans ?_ (Below.mono (by assumption) (by (try simp only [World.size_alloc, World.size_setCell, World.size_drew, World.heap_drewN]); (first | done | omega | ((try simp only [World.size_alloc, World.size_setCell, World.size_drew, World.heap_drewN] at *); omega)))))))⟩
        case measure => simp [intOf]; omega
    · go_wp2
      go_ret
      exact ⟨-1, rfl, by rw [← any_take_all _ l k hlt, Hno.out]; rfl, hbr⟩

theorem anyNodes_any (A : Option Addr) (l : List Nd) (cap : Nat) (w : World) (hl : l.length ≤ maxLen) (hA : NodesAt w A l) :
    Calls Tryd.prog 49 #[.slice A l.length cap, .func (.func 50) #[] #[]] w
      fun e w' => e = .returned (.bool (l.any fun n => !opOk n.op)) ∧ Below w.heap.size w w' := by
  have h := idxNodes_any A l cap w hl hA
  have H := hide h
  clear h
  generalize (l.any fun n => !opOk n.op) = q at *
  go_enter Tryd.func49, Tryd.ntmps49
  go_wp2_with (go_at_call 23; refine (H.out).mono ?_; rintro e w1 ⟨r, rfl, hr, hb1⟩)
  go_ret
  exact ⟨by rw [← hr]; rfl, hb1⟩

end Go.Proofs.YtmghkonmfbpjcabDoor
