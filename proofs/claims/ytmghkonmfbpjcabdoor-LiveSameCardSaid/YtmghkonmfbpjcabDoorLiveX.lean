/- liveBegun: true, in whatever memory. -/
import Derived.Test.YtmghkonmfbpjcabDoorLiveD
import Derived.Test.YtmghkonmfbpjcabDoorSmall
namespace Go.Proofs.YtmghkonmfbpjcabDoor
set_option linter.unusedVariables false
set_option linter.unusedSimpArgs false
open Go.RowKit
set_option maxHeartbeats 4000000

def small4 : List Nd := smallL.set 4 ⟨0, 0, 0, 0, 5, 0⟩
def small3 : List Nd := small4.set 3 ⟨0, 0, 0, 0, 4, 0⟩
theorem chk_small4 : chk 3 small4 = 0 := by decide
theorem chk_small3 : chk 3 small3 = 0 := by decide
theorem live_small_2 : liveL 3 small4 2 = [0, 1] := by decide +kernel
theorem live_small_6 : liveL 3 small4 6 = [2] := by decide +kernel
theorem dead_small : DeadIs small4 small3 := by
  refine ⟨.one _ _ 3 ((deadX_iff (right_of_chk chk_small4) (n := ⟨3, 2, 0, 1, 4, 0⟩) rfl).1 (by decide +kernel)) ?_, not_dead (right_of_chk chk_small3) (by decide +kernel)⟩
  exact Hushes.nil _

theorem vals_lit {w : World} {cs : Array Value} {t : TypeId} {g : Nat} {xs : List Value} (h : g = w.heap.size) (hc : cs = xs.toArray) : ValsAt (w.alloc (.cells cs t)) (some ⟨g, 0, none⟩) xs := by
  subst hc
  have hb := Blk.new' (w := w) (t := t) (cs := xs.toArray) h
  refine ValsAt.mk hb.lt fun i v hi => ?_
  rw [Nat.zero_add, hb.cell]
  simpa using hi

set_option maxRecDepth 100000 in
theorem liveBegun_any (w : World) (hT : Tz w) : Calls Tryd.prog 7 #[] w fun e w' => e = .returned (.bool true) ∧ Below w.heap.size w w' := by
  go_enter Tryd.func7, Tryd.ntmps7
  go_wp2_with fail
  refine (small_row w).mono ?_
  rintro e w1 ⟨g, rfl, hN, hb1⟩
  have hz1 := hb1.size
  have hgB : w.heap.size ≤ g := (hN.lt g rfl).1
  have hgl : g < w1.heap.size := (hN.lt g rfl).2
  obtain ⟨g', c', x', e1, _, _, hx', hl4, hfr⟩ := hN.get (k := 4) (by simp [smallL])
  injection e1 with e1 e2 e3
  injection e1 with e1
  injection e1 with e1 e4
  subst e1
  clear e2 e3 e4
  simp [smallL] at hx'
  subst hx'
  obtain ⟨c0, c1, c2, c3, c4, c5⟩ := hl4
  have f0 := hfr 24 (by simp [smallL])
  have f1 := hfr 25 (by simp [smallL])
  have f2 := hfr 26 (by simp [smallL])
  have f3 := hfr 27 (by simp [smallL])
  have f4 := hfr 28 (by simp [smallL])
  have f5 := hfr 29 (by simp [smallL])
  simp only [Nat.reduceMul, Nat.reduceAdd] at c0 c1 c2 c3 c4 c5
  have HN := hide hN
  clear hN hfr
  go_wp2_with fail
  obtain ⟨W2, hW2⟩ : ∃ W2 : World, W2 = ((((((w1.setCell ⟨g, 24, none⟩ (.int .i64 0)).setCell ⟨g, 25, none⟩ (.int .i64 0)).setCell ⟨g, 26, none⟩ (.int .i64 0)).setCell ⟨g, 27, none⟩ (.int .i64 0)).setCell ⟨g, 28, none⟩ (.int .i64 5)).setCell ⟨g, 29, none⟩ (.int .i64 0)).alloc (.cells #[.int .i64 3, .slice (some ⟨g, 0, none⟩) 7 7] 24) := ⟨_, rfl⟩
  rw [← hW2]
  have hN2 : NRow W2 w.heap.size 55 (.slice (some ⟨g, 0, none⟩) 7 7) small4 := by
    rw [hW2]
    refine NRow.alloc ?_ _
    exact HN.out.put6 (k := 4) (x := ⟨10, 0, 2, 0, 5, 0⟩) rfl ⟨0, 0, 0, 0, 5, 0⟩
  have gne : w1.heap.size ≠ g := by omega
  have hP2 : Blk W2 w1.heap.size 24 #[.int .i64 3, .slice (some ⟨g, 0, none⟩) 7 7] := by
    rw [hW2]
    exact Blk.new' (by simp)
  have hB2 : Below w.heap.size w W2 := by
    rw [hW2]
    exact ((((((hb1.setCell hgB _).setCell hgB _).setCell hgB _).setCell hgB _).setCell hgB _).setCell hgB _).alloc (by simp; omega) _
  clear hW2 c0 c1 c2 c3 c4 c5 f0 f1 f2 f3 f4 f5 HN hb1 hgl
  have hz2 := hB2.size
  have hR4 := right_of_chk chk_small4
  have hT2 := hT.below' hB2
  have p0 := hP2.cell 0
  have p1 := hP2.cell 1
  have lp := hP2.lt
  simp only [List.getElem?_toArray, List.getElem?_cons_zero, List.getElem?_cons_succ] at p0 p1
  have HP2 := hide hP2
  have HN2 := hide hN2
  have HT2 := hide hT2
  have HR4 := hide hR4
  have HT := hide hT
  clear hP2 hN2 hT2 hR4 hT gne
  refine (Live_ok 3 (some ⟨g, 0, none⟩) small4 7 W2 HN2.out.nodes HR4.out chk_small4 HT2.out).mono ?_
  rintro e w3 ⟨v3, rfl, hL3, hb3⟩
  have hz3 := hb3.size
  have HP3 := hide (HP2.out.below hb3 lp)
  have HN3 := hide (HN2.out.below' hb3)
  have hB3 : Below w.heap.size w w3 := hB2.trans (hb3.mono hz2)
  have HL3 := hide hL3
  have p0' := HP3.out.cell 0
  have p1' := HP3.out.cell 1
  simp only [List.getElem?_toArray, List.getElem?_cons_zero, List.getElem?_cons_succ] at p0' p1'
  have lp' := HP3.out.lt
  clear p0 p1 hL3 hb3
  go_wp2_with fail
  refine (Dead_ok 3 (some ⟨g, 0, none⟩) small4 7 w3 HN3.out.nodes HR4.out chk_small4).mono ?_
  rintro e w4 ⟨v4, l4, rfl, hD, hl4', hN4, hb4⟩
  have hl4 : l4 = small3 := hD.unique dead_small
  subst hl4
  have hz4 := hb4.size
  obtain ⟨A4, c4, rfl, _, _⟩ := hN4.shape
  have hB4 : Below w.heap.size w w4 := hB3.trans (hb4.mono (by omega))
  have HL4 := hide (HL3.out.below hb4)
  have h7 : small3.length = 7 := rfl
  rw [h7] at *
  clear h7
  obtain ⟨gT, oT, cT, R2, k2, hv3, hgT, hc2, hr2⟩ := HL4.out.row (i := 2) (by simp [small4, smallL])
  obtain ⟨gT', oT', cT', R6, k6, hv3', _, hc6, hr6⟩ := HL4.out.row (i := 6) (by simp [small4, smallL])
  rw [hv3] at hv3'
  injection hv3' with e1 e2 e3
  injection e1 with e1
  injection e1 with e1 e4
  subst e1 e4 e3
  subst hv3
  have e2 : liveL (Int.toNat 3) small4 2 = [0, 1] := live_small_2
  have e6 : liveL (Int.toNat 3) small4 6 = [2] := live_small_6
  have e7 : small4.length = 7 := rfl
  rw [e2] at hc2 hr2
  rw [e6] at hc6 hr6
  rw [e7]
  have e8 : ([0, 1] : List Int).length = 2 := rfl
  have e9 : ([2] : List Int).length = 1 := rfl
  rw [e8] at hc2
  rw [e9] at hc6
  obtain ⟨g3, cp3, x3, ev, hg3B, hg3, hx3, hl3, _⟩ := hN4.get (k := 3) (by simp [small3, small4, smallL])
  obtain ⟨_, _, x5, ev', _, _, hx5, hl5, _⟩ := hN4.get (k := 5) (by simp [small3, small4, smallL])
  injection ev with ev ev2 ev3
  injection ev' with ev' ev2' ev3'
  subst ev
  injection ev' with ev'
  injection ev' with ev' _
  subst ev'
  simp [small3, small4, smallL] at hx3 hx5
  subst hx3 hx5
  obtain ⟨n0, n1, n2, n3, n4, n5⟩ := hl3
  obtain ⟨m0, _⟩ := hl5
  simp only [Nat.reduceMul, Nat.reduceAdd] at n0 n1 n2 n3 n4 n5 m0
  clear e2 e6 e7 e8 e9 ev2 ev3 ev2' ev3' hD hl4' HL4 HL3 hN4 hb4
  have hgd := guardNode
  have hEq := fun W => run_eq_node ⟨0, 0, 0, 0, 4, 0⟩ ⟨0, 0, 0, 0, 4, 0⟩ W
  simp only [Nd.val, beq_self_eq_true] at hEq
  go_wp2_with fail
  refine (SameInts_any R2 (some ⟨w4.heap.size + 1, 0, none⟩) k2 2 [0, 1] [0, 1] _ (hr2.below (((Below.refl _ _).alloc (Nat.le_refl _) _).alloc (by simp) _)) (vals_lit (by simp) rfl) (by simp [maxLen]) (by simp [maxLen])).mono ?_
  rintro e w5 ⟨rfl, hd⟩
  have hb5 : Below ((w4.alloc (.cells #[.int .i64 3, .slice (some ⟨g3, 0, none⟩) 7 c4] 24)).alloc (.cells (ints [0, 1]).toArray 3)).heap.size ((w4.alloc (.cells #[.int .i64 3, .slice (some ⟨g3, 0, none⟩) 7 c4] 24)).alloc (.cells (ints [0, 1]).toArray 3)) w5 := by
    obtain ⟨d, rfl⟩ := hd
    exact below_drewN (Below.refl _ _) _
  have hz5 := hb5.size
  simp only [World.size_alloc] at hz5
  have hb45 : Below w4.heap.size w4 w5 := ((((Below.refl _ _).alloc (Nat.le_refl _) _).alloc (by simp) _)).trans (hb5.mono (by simp; omega))
  have hq5 : Blk w5 w4.heap.size 24 #[.int .i64 3, .slice (some ⟨g3, 0, none⟩) 7 c4] := Blk.below ((Blk.new' rfl).alloc _) hb5 (by simp <;> omega)
  have s0 := hq5.cell 0
  have s1 := hq5.cell 1
  simp only [List.getElem?_toArray, List.getElem?_cons_zero, List.getElem?_cons_succ] at s0 s1
  have lq5 := hq5.lt
  have hc6' := ((bcell hb45).1 _ _ hgT).trans hc6
  have hgT5 := Nat.lt_of_lt_of_le hgT hb45.size
  have hr6' := hr6.below hb45
  have n0' := ((bcell hb45).1 _ _ hg3).trans n0
  have n1' := ((bcell hb45).1 _ _ hg3).trans n1
  have n2' := ((bcell hb45).1 _ _ hg3).trans n2
  have n3' := ((bcell hb45).1 _ _ hg3).trans n3
  have n4' := ((bcell hb45).1 _ _ hg3).trans n4
  have n5' := ((bcell hb45).1 _ _ hg3).trans n5
  have m0' := ((bcell hb45).1 _ _ hg3).trans m0
  have hg35 := Nat.lt_of_lt_of_le hg3 hb45.size
  have hB5 := hB4.trans (hb45.mono hB4.size)
  clear hd hb5 hc2 hr2 hc6 hr6 n0 n1 n2 n3 n4 n5 m0 hgT hg3 hb45 hq5
  go_wp2_with fail
  refine (SameInts_any R6 (some ⟨w5.heap.size, 0, none⟩) k6 1 [2] [2] _ (hr6'.below ((Below.refl _ _).alloc (Nat.le_refl _) _)) (vals_lit rfl rfl) (by simp [maxLen]) (by simp [maxLen])).mono ?_
  rintro e w6 ⟨rfl, hd⟩
  have hb6 : Below (w5.alloc (.cells (ints [2]).toArray 3)).heap.size (w5.alloc (.cells (ints [2]).toArray 3)) w6 := by
    obtain ⟨d, rfl⟩ := hd
    exact below_drewN (Below.refl _ _) _
  have hb56 : Below w5.heap.size w5 w6 := ((Below.refl _ _).alloc (Nat.le_refl _) _).trans (hb6.mono (by simp))
  have s0' := ((bcell hb56).1 _ _ lq5).trans s0
  have s1' := ((bcell hb56).1 _ _ lq5).trans s1
  have n0 := ((bcell hb56).1 _ _ hg35).trans n0'
  have n1 := ((bcell hb56).1 _ _ hg35).trans n1'
  have n2 := ((bcell hb56).1 _ _ hg35).trans n2'
  have n3 := ((bcell hb56).1 _ _ hg35).trans n3'
  have n4 := ((bcell hb56).1 _ _ hg35).trans n4'
  have n5 := ((bcell hb56).1 _ _ hg35).trans n5'
  have m0 := ((bcell hb56).1 _ _ hg35).trans m0'
  have hB6 := hB5.trans (hb56.mono hB5.size)
  clear hd hb6 hb56 n0' n1' n2' n3' n4' n5' m0' s0 s1
  go_wp2_with fail
  go_tidy
  go_ret
  exact ⟨rfl, hB6⟩
end Go.Proofs.YtmghkonmfbpjcabDoor
