/- Which of two counts comes first: cmp.Compare, cmp.Or, run.order, the closure that Run hands to the sort. -/
import Derived.Test.YtmghkonmfbpjcabRunC
import Derived.Deep.RegionHeld3
import Derived.Shelf.SlSortCmp.WholeK
namespace Go.Proofs.Ytmghkonmfbpjcab
set_option linter.unusedVariables false
set_option linter.unusedSimpArgs false
open Go.RowKit
set_option maxHeartbeats 4000000

def cmpI (x y : Int) : Int := if x < y then -1 else if y < x then 1 else 0
theorem Compare_any (x y : Int) (w : World) : Calls Try.prog 62 #[.int .i64 x, .int .i64 y] w fun e w' => e = .returned (.int .i64 (cmpI x y)) ∧ w' = w := by
  go_enter Try.func62, Try.ntmps62
  go_wp2
  all_goals (go_ret; refine ⟨?_, rfl⟩; unfold cmpI; (repeat' split) <;> first | rfl | (exfalso; omega))
def orL : List Int → Int
  | [] => 0
  | x :: l => if x = 0 then orL l else x
theorem Or_any (x y z : Int) (g c : Nat) (w : World) (h0 : w.cell? ⟨g, 0, none⟩ = some (.int .i64 x)) (h1 : w.cell? ⟨g, 1, none⟩ = some (.int .i64 y)) (h2 : w.cell? ⟨g, 2, none⟩ = some (.int .i64 z)) :
    Calls Try.prog 61 #[.slice (some ⟨g, 0, none⟩) 3 c] w fun e w' => e = .returned (.int .i64 (orL [x, y, z])) ∧ w' = w := by
  have hV : ValsAt w (some ⟨g, 0, none⟩) (ints [x, y, z]) := fun _ => ⟨g, 0, rfl, by
    rcases Nat.lt_or_ge g w.heap.size with hl | hl
    · exact hl
    · rw [World.cell?] at h0
      simp [Array.getElem?_eq_none hl] at h0, fun i v hi => by
    rcases i with _ | _ | _ | i
    · simp [ints] at hi; subst hi; exact h0
    · simp [ints] at hi; subst hi; exact h1
    · simp [ints] at hi; subst hi; exact h2
    · simp [ints] at hi⟩
  clear h0 h1 h2
  go_enter Try.func61, Try.ntmps61
  go_wp2_with fail
  go_loopg [8] (3) (fun gk i wr => ∃ k : Nat, k ≤ 3 ∧ i = .int .i64 k ∧ gk = 3 - k ∧ (∀ j u, j < k → [x, y, z][j]? = some u → u = 0) ∧ wr = w)
  case atStart => exact ⟨0, by omega, rfl, rfl, fun j u hj => by omega, rfl⟩
  case round =>
    obtain ⟨k, hk, rfl, hgk, hno, rfl⟩ := hrel
    have Hgk := hide hgk
    have Hno := hide hno
    clear hgk hno
    by_cases hlt : k < 3
    · obtain ⟨b, o, u, e1, hb, hu, cu⟩ := hV.int (k := k) hlt
      injection e1 with e1
      injection e1 with e1 e2 _
      subst e1 e2
      have Hu := hide hu
      rw [Nat.zero_add] at cu
      have k0 : (0 : Int) ≤ (k : Int) := by omega
      have k1 : (k : Int) < 3 := by omega
      clear hV hu
      by_cases hq : u = 0
      · subst hq
        go_wp2_with fail
        go_roundg (3 - (k + 1))
        case measure => have := Hgk.out; omega
        case rel =>
          refine ⟨k + 1, by omega, by go_num, rfl, fun j v hj hv => ?_, rfl⟩
          by_cases hjk : j = k
          · subst hjk
            rw [Hu.out] at hv
            exact (Option.some.inj hv).symm
          · exact Hno.out j v (by omega) hv
      · have hq2 : (u != 0) = true := by simpa using hq
        have hr : orL [x, y, z] = u := by
          have hno := Hno.out
          have hu := Hu.out
          rcases k with _ | _ | _ | k
          · simp at hu; subst hu; simp [orL, hq]
          · have := hno 0 x (by omega) rfl; simp at hu; subst hu; simp [orL, hq, this]
          · have h1 := hno 0 x (by omega) rfl; have h2 := hno 1 y (by omega) rfl; simp at hu; subst hu; simp [orL, hq, h1, h2]
          · omega
        have Hr := hide hr
        clear hr
        go_wp2_with fail
        go_ret
        exact ⟨by rw [Hr.out]; rfl, rfl⟩
    · have hr : orL [x, y, z] = 0 := by
        have hno := Hno.out
        have h1 := hno 0 x (by omega) rfl
        have h2 := hno 1 y (by omega) rfl
        have h3 := hno 2 z (by omega) rfl
        simp [orL, h1, h2, h3]
      have Hr := hide hr
      clear hr hV
      go_wp2_with fail
      go_ret
      exact ⟨by rw [Hr.out]; rfl, rfl⟩
def cmpT (a b : Tm) : Int := orL [cmpI a.op b.op, cmpI a.a b.a, cmpI a.b b.b]
theorem cmpT_lt (a b : Tm) : decide (cmpT a b < 0) = ltT a b := by
  unfold cmpT ltT orL orL orL orL cmpI
  repeat' split
  all_goals simp
  all_goals omega
open Go.Shelf Go.Lib Go.Sort in
theorem order_any (a b : Tm) (w : World) : Calls Try.prog 34 #[.agg #[.int .i64 a.op, .int .i64 a.a, .int .i64 a.b], .agg #[.int .i64 b.op, .int .i64 b.a, .int .i64 b.b]] w fun e w' => e = .returned (.int .i64 (cmpT a b)) ∧ ∃ q os', w' = grow (w.drewN q) os' := by
  have HC := fun x y W => hide (Compare_any x y W)
  have HO := fun x y z g c W (hB : Blk W g 3 #[.int .i64 x, .int .i64 y, .int .i64 z]) => hide (Or_any x y z g c W (hB.cell 0) (hB.cell 1) (hB.cell 2))
  go_enter Try.func34, Try.ntmps34
  go_upto_region 1 with fail
  go_region_held3 (fun w' => w'.cell? ⟨w.heap.size, 0, none⟩ = some (.int .i64 a.op) ∧ w'.cell? ⟨w.heap.size, 1, none⟩ = some (.int .i64 a.a) ∧ w'.cell? ⟨w.heap.size, 2, none⟩ = some (.int .i64 a.b) ∧ w'.cell? ⟨w.heap.size + 1, 0, none⟩ = some (.int .i64 b.op) ∧ w'.cell? ⟨w.heap.size + 1, 1, none⟩ = some (.int .i64 b.a) ∧ w'.cell? ⟨w.heap.size + 1, 2, none⟩ = some (.int .i64 b.b)) (((try go_split_ands); (try dsimp only); (repeat' apply And.intro) <;> (first | assumption | go_keep)))
    (first | (go_at_call 62; refine ((HC _ _ _).out).mono ?_; rintro e w3 ⟨rfl, rfl⟩) | (go_at_call 61; refine ((HO _ _ _ _ _ _ (by repeat (first | ((with_reducible refine Blk.new' ?_); exact (by (try simp only [World.size_alloc, World.size_setCell, World.size_drew, World.heap_drewN]); (first | done | omega | ((try simp only [World.size_alloc, World.size_setCell, World.size_drew, World.heap_drewN] at *); omega)))) | (with_reducible refine Blk.drew ?_) | (with_reducible refine Blk.drewN ?_ _) | (with_reducible refine Blk.alloc ?_ _) | with_reducible assumption))).out).mono ?_; rintro e w3 ⟨rfl, rfl⟩))
  all_goals go_wp2_with fail
  all_goals go_tidy
  all_goals go_ret
  exact ⟨rfl, 1, _, by rw [alloc_eq_grow, alloc_eq_grow, alloc_eq_grow, grow_grow, grow_grow]; rfl⟩
open Go.Shelf Go.Lib Go.Sort in
theorem closure_any (x y : Ct) (w : World) : Calls Try.prog 33 #[.agg #[.int .i64 x.1.op, .int .i64 x.1.a, .int .i64 x.1.b, .int .i64 x.2], .agg #[.int .i64 y.1.op, .int .i64 y.1.a, .int .i64 y.1.b, .int .i64 y.2]] w fun e w' => e = .returned (.int .i64 (cmpT x.1 y.1)) ∧ ∃ q os', w' = grow (w.drewN q) os' := by
  have HO := fun W => hide (order_any x.1 y.1 W)
  go_enter Try.func33, Try.ntmps33
  go_wp2_with (go_at_call 34; refine ((HO _).out).mono ?_; rintro e w3 ⟨rfl, q, os, rfl⟩)
  go_ret
  exact ⟨rfl, q, _, by rw [alloc_eq_grow, alloc_eq_grow, grow_grow]; exact grow_grow (w.drewN q) _ os⟩
instance : Inhabited Ct := ⟨(⟨0, 0, 0⟩, 0)⟩
open Go.Shelf Go.Lib Go.Sort in
theorem cmpLays_run (blk off size : Nat) (w : World) : CmpLays Try.prog 33 #[] Ct.cells 4 (fun x y => cmpT x.1 y.1) blk off size w :=
  fun _ _ _ _ x y => closure_any x y _
open Go.Shelf Go.Lib Go.Sort in
theorem swo_run : SWO (ltOf fun x y : Ct => cmpT x.1 y.1) where
  irrefl x := by unfold ltOf; rw [cmpT_lt]; exact ltT_irrefl _
  trans x y z h1 h2 := by unfold ltOf at *; rw [cmpT_lt] at *; exact ltT_trans h1 h2
  ntrans x y z h1 h2 := by
    unfold ltOf at *
    rw [cmpT_lt] at *
    simp only [ltT, decide_eq_false_iff_not] at *
    omega
end Go.Proofs.Ytmghkonmfbpjcab
