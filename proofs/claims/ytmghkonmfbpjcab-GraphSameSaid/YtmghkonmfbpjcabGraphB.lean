/- graphBegun: true, in whatever memory. -/
import Derived.Test.YtmghkonmfbpjcabReachT
import Derived.Test.YtmghkonmfbpjcabTrimG
import Derived.Test.YtmghkonmfbpjcabSplitG
import Derived.Test.YtmghkonmfbpjcabSmall
import Derived.Test.YtmghkonmfbpjcabJA
import Derived.Deep.RegionHeld3
namespace Go.Proofs.Ytmghkonmfbpjcab
set_option linter.unusedVariables false
set_option linter.unusedSimpArgs false
open Go.RowKit
set_option maxHeartbeats 4000000
attribute [local irreducible] Row madeCells NRow

def small8 : List Nd := smallL ++ [⟨0, 0, 0, 0, 6, 0⟩]
def small9 : List Nd := [⟨9, 0, 0, 0, 1, 0⟩, ⟨9, 1, 0, 0, 2, 0⟩, ⟨11, 0, 0, 0, 3, 7⟩, ⟨3, 2, 0, 1, 4, 0⟩, ⟨10, 0, 2, 0, 8, 0⟩, ⟨3, 2, 0, 1, 6, 0⟩, ⟨12, 0, 2, 0, 0, 0⟩, ⟨0, 0, 0, 0, 5, 0⟩, ⟨0, 0, 0, 0, 5, 0⟩]
theorem chk_small8 : chk 3 small8 = 0 := by decide
theorem chk_small7 : chk 3 smallL = 0 := by decide
theorem reach_small8 : reachL small8 = [true, true, true, true, true, true, true, false] := by decide +kernel
theorem trim_small8 : trimL small8 = smallL := by decide +kernel
theorem split_small : splitL smallL = small9 := by decide +kernel

theorem two_bools {w : World} {B : Nat} {e : TypeId} {A : Option Addr} {n c : Nat} {x : List Bool} (h : Row w B e (.slice A n c) (bools x)) {i j : Nat} (hi : i < x.length) (hj : j < x.length) :
    ∃ r o, A = some ⟨r, o, none⟩ ∧ r < w.heap.size ∧ w.cell? ⟨r, o + i, none⟩ = some (.bool (yn x i)) ∧ w.cell? ⟨r, o + j, none⟩ = some (.bool (yn x j)) := by
  obtain ⟨r, o, cp, ev, _, hl, ci, _⟩ := h.bool hi
  obtain ⟨r', o', cp', ev', _, _, cj, _⟩ := h.bool hj
  injection ev with ev _ _
  injection ev' with ev' _ _
  rw [ev] at ev'
  injection ev' with ev'
  injection ev' with e1 e2 _
  subst e1 e2
  exact ⟨r, o, ev, hl, ci, cj⟩
theorem nrow_addr {w : World} {B : Nat} {e : TypeId} {A : Option Addr} {n c : Nat} {l : List Nd} (h : NRow w B e (.slice A n c) l) (hl : 0 < l.length) : ∃ g, A = some ⟨g, 0, none⟩ ∧ g < w.heap.size := by
  obtain ⟨g, cp, x, ev, _, hg, _⟩ := h.get hl
  injection ev with ev _ _
  exact ⟨g, ev, hg⟩

set_option maxRecDepth 100000 in
theorem graphBegun_any (w : World) : Calls Try.prog 10 #[] w fun e w' => e = .returned (.bool true) ∧ Below w.heap.size w w' := by
  obtain ⟨i3, h3i, h3z, h3s, h3b⟩ := info_parts infoNode
  go_enter Try.func10, Try.ntmps10
  go_wp2_with fail
  refine (small_row w).mono ?_
  rintro e w1 ⟨g, rfl, hN, hb1⟩
  have hz1 := hb1.size
  have hgB : w.heap.size ≤ g := (hN.lt g rfl).1
  have hgl : g < w1.heap.size := (hN.lt g rfl).2
  have HN := hide hN
  clear hN
  go_wp2_with (at_builtin; refine wpList_append_nodes (v := .slice (some ⟨g, 0, none⟩) 7 7) (l := smallL) (base := w.heap.size) rfl _ _ _ rfl i3 _ 48 Try.underlying22 h3i h3z h3s h3b rfl rfl ((HN.out.alloc _).alloc _) (some ⟨w1.heap.size + 1, 0, none⟩) 1 1 [⟨0, 0, 0, 0, 6, 0⟩] rfl rfl (nodes_one' (by simp)) (by simp [maxLen, smallL]) (by simp [smallL]) (by simp; omega) ?_; intro v2 w2 hr2 hg2 hat2; obtain ⟨A2, c2, hv2, -, -⟩ := hr2.shape; subst hv2; have hP2 : Blk w2 w1.heap.size 24 #[.int .i64 3, .slice (some ⟨g, 0, none⟩) 7 7] := Blk.grown ((Blk.new' rfl).alloc _) hg2 (by simp [Value.ownBlock]; omega); have l2 := hP2.lt; have q0 := hP2.cell 0; have q1 := hP2.cell 1; have f1 := hP2.frozen 1; have e8 : (smallL ++ [(⟨0, 0, 0, 0, 6, 0⟩ : Nd)]).length = 8 := rfl; rw [e8] at hr2 ⊢; simp only [List.getElem?_toArray, List.getElem?_cons_zero, List.getElem?_cons_succ] at q0 q1)
  obtain ⟨W2, hW2⟩ : ∃ W2 : World, W2 = w2.setCell ⟨w1.heap.size, 1, none⟩ (.slice A2 8 c2) := ⟨_, rfl⟩
  rw [← hW2]
  have hne : (Value.slice A2 8 c2).ownBlock ≠ some w1.heap.size := hr2.ne_blk hP2 (by decide)
  have hN2 : NRow W2 w.heap.size 60 (.slice A2 8 c2) small8 := by rw [hW2]; exact hr2.far hne _
  have hP3 : Blk W2 w1.heap.size 24 #[.int .i64 3, .slice A2 8 c2] := by rw [hW2]; exact hP2.set_ 1 _
  have hB2 : Below w.heap.size w W2 := by
    rw [hW2]
    refine Below.setCell ?_ (by simp; omega) _
    exact ((hb1.alloc hz1 _).alloc (by simp; omega) _).grown hg2 (by simp; omega) (fun k hk => by simp [Value.ownBlock] at hk; omega)
  clear e8 hW2 hr2 hg2 hat2 hP2 q0 q1 f1 l2 hne HN hgl hgB hb1
  have l2 := hP3.lt
  have q0 := hP3.cell 0
  have q1 := hP3.cell 1
  simp only [List.getElem?_toArray, List.getElem?_cons_zero, List.getElem?_cons_succ] at q0 q1
  refine (Reach_any 3 A2 small8 c2 W2 (by simp [maxLen, small8, smallL]) hN2.nodes).mono ?_
  rintro e w3 ⟨hb3, h3⟩
  obtain ⟨v3, rfl, hr3⟩ := (h3.resolve_left (fun h => h.1 chk_small8)).2
  rw [reach_small8] at hr3
  have hz3 := hb3.size
  have hN3 := hN2.below' hb3
  have hP3 := hP3.below hb3 l2
  have hB3 := hB2.trans (hb3.mono hB2.size)
  clear h3 hb3 q0 q1 l2 hN2
  have l2 := hP3.lt
  have q0 := hP3.cell 0
  have q1 := hP3.cell 1
  simp only [List.getElem?_toArray, List.getElem?_cons_zero, List.getElem?_cons_succ] at q0 q1
  obtain ⟨A3, c3, hv3, -, -⟩ := hr3.shape
  have e8 : (bools [true, true, true, true, true, true, true, false]).length = 8 := rfl
  rw [e8] at hv3
  subst hv3
  have HR3 := hide hr3
  have HN3 := hide hN3
  have HP3 := hide hP3
  have HB3 := hide hB3
  clear hr3 hN3 hP3 hB3
  go_wp2_with fail
  refine (Trim_any 3 A2 small8 c2 w3 (by simp [maxLen, small8, smallL]) HN3.out.nodes).mono ?_
  rintro e w4 ⟨hb4, h4⟩
  obtain ⟨v4, rfl, hr4⟩ := (h4.resolve_left (fun h => h.1 chk_small8)).2
  rw [trim_small8] at hr4
  have hz4 := hb4.size
  obtain ⟨A4, c4, hv4, -, -⟩ := hr4.shape
  have e7 : smallL.length = 7 := rfl
  rw [e7] at hv4
  subst hv4
  have HB4 := hide (HB3.out.trans (hb4.mono HB3.out.size))
  have HR4 := hide (HR3.out.below' hb4)
  have HT4 := hide hr4
  clear h4 hb4 q0 q1 l2 hr4 HB3 HR3 HN3 HP3
  go_wp2_with fail
  refine (small_row _).mono ?_
  rintro e w5 ⟨g5, rfl, hN5, hb5⟩
  have hz5 := hb5.size
  have hb45 : Below w4.heap.size w4 w5 := ((Below.refl _ _).alloc (Nat.le_refl _) _).trans (hb5.mono (by simp))
  have HQ5 := hide (Blk.below (Blk.new' rfl) hb5 (by simp) : Blk w5 w4.heap.size 24 #[.int .i64 3, .slice A4 7 c4])
  have HB5 := hide (HB4.out.trans (hb45.mono HB4.out.size))
  have HR5 := hide (HR4.out.below' hb45)
  have HT5 := hide (HT4.out.below' hb45)
  have HN5 := hide hN5
  simp only [World.size_alloc] at hz5
  clear hb5 hb45 hN5 HB4 HR4 HT4
  go_wp2_with fail
  refine (Split_any 3 (some ⟨g5, 0, none⟩) smallL 7 w5 (by simp [maxLen, smallL]) HN5.out.nodes).mono ?_
  rintro e w6 ⟨hb6, h6⟩
  have h6' := (h6.resolve_left (fun h => h.1 chk_small7)).resolve_left (fun h => by have := h.2.1; rw [split_small] at this; simp [small9] at this)
  obtain ⟨v6, rfl, hr6⟩ := h6'.2.2
  rw [split_small] at hr6
  have hz6 := hb6.size
  obtain ⟨A6, c6, hv6, -, -⟩ := hr6.shape
  have e9 : small9.length = 9 := rfl
  rw [e9] at hv6
  subst hv6
  have lq5 := HQ5.out.lt
  have HQ6 := hide (HQ5.out.below hb6 lq5)
  have HB6 := hide (HB5.out.trans (hb6.mono HB5.out.size))
  have HR6 := hide (HR5.out.below' hb6)
  have HT6 := hide (HT5.out.below' hb6)
  have HS6 := hide hr6
  clear h6 h6' hb6 hr6 HQ5 HB5 HR5 HT5 HN5
  obtain ⟨r3, o3, rfl, hl3, ck6, ck7⟩ := two_bools HR6.out (i := 6) (j := 7) (by simp) (by simp)
  have y6 : yn [true, true, true, true, true, true, true, false] 6 = true := rfl
  have y7 : yn [true, true, true, true, true, true, true, false] 7 = false := rfl
  rw [y6] at ck6
  rw [y7] at ck7
  clear y6 y7
  go_wp2_with fail
  obtain ⟨W7, hW7⟩ : ∃ W7 : World, W7 = w6.alloc (.cells #[.int .i64 3, .slice A6 9 c6] 24) := ⟨_, rfl⟩
  rw [← hW7]
  have hb67 : Below w6.heap.size w6 W7 := by rw [hW7]; exact (Below.refl _ _).alloc (Nat.le_refl _) _
  have HY7 := hide (by rw [hW7]; exact Blk.new' rfl : Blk W7 w6.heap.size 24 #[.int .i64 3, .slice A6 9 c6])
  have l6 := HQ6.out.lt
  have HQ7 := hide (HQ6.out.below hb67 l6)
  have HB7 := hide (HB6.out.trans (hb67.mono HB6.out.size))
  have HT7 := hide (HT6.out.below' hb67)
  have HS7 := hide (HS6.out.below' hb67)
  have ck6 := ((bcell hb67).1 _ _ hl3).trans ck6
  have ck7 := ((bcell hb67).1 _ _ hl3).trans ck7
  have lr3 := Nat.lt_of_lt_of_le hl3 hb67.size
  have p0 := HQ7.out.cell 0
  have p1 := HQ7.out.cell 1
  have y0 := HY7.out.cell 0
  have y1 := HY7.out.cell 1
  simp only [List.getElem?_toArray, List.getElem?_cons_zero, List.getElem?_cons_succ] at p0 p1 y0 y1
  obtain ⟨g6, rfl, hg6⟩ := nrow_addr HS7.out (by simp [small9])
  have hl2 := (HS7.out.at_ (k := 2) (y := ⟨11, 0, 0, 0, 3, 7⟩) rfl).1
  have hl4 := (HS7.out.at_ (k := 4) (y := ⟨10, 0, 2, 0, 8, 0⟩) rfl).1
  have hl7 := (HS7.out.at_ (k := 7) (y := ⟨0, 0, 0, 0, 5, 0⟩) rfl).1
  have hl8 := (HS7.out.at_ (k := 8) (y := ⟨0, 0, 0, 0, 5, 0⟩) rfl).1
  obtain ⟨-, -, -, -, -, m2⟩ := hl2
  obtain ⟨-, -, -, -, m4, -⟩ := hl4
  obtain ⟨n0, n1, n2, n3, n4, n5⟩ := hl7
  obtain ⟨k0, k1, k2, k3, k4, k5⟩ := hl8
  simp only [Nat.reduceMul, Nat.reduceAdd] at m2 m4 n0 n1 n2 n3 n4 n5 k0 k1 k2 k3 k4 k5
  have hgd := guardNode
  have hEq := fun W => run_eq_node ⟨0, 0, 0, 0, 5, 0⟩ ⟨0, 0, 0, 0, 5, 0⟩ W
  simp only [Nd.val, beq_self_eq_true] at hEq
  have lq7 := HQ7.out.lt
  have ly7 := HY7.out.lt
  have hL7 : Lies W7 W7 := Lies.refl _
  clear hW7 hb67 HQ6 HB6 HR6 HT6 HS6 hl3 l6 HS7 HQ7 HY7 hz5 hz6 hz3 hz4 hz1 lq5 e7 e8 e9
  simp only [List.append_eq, List.cons_append, List.nil_append]
  go_region_held3 (fun w' => w'.cell? ⟨w4.heap.size, 0, none⟩ = some (.int .i64 3) ∧ w'.cell? ⟨w4.heap.size, 1, none⟩ = some (.slice A4 7 c4) ∧ w'.cell? ⟨w6.heap.size, 0, none⟩ = some (.int .i64 3) ∧ w'.cell? ⟨w6.heap.size, 1, none⟩ = some (.slice (some ⟨g6, 0, none⟩) 9 c6) ∧
      w'.cell? ⟨r3, o3 + 6, none⟩ = some (.bool true) ∧ w'.cell? ⟨r3, o3 + 7, none⟩ = some (.bool false) ∧ w'.cell? ⟨g6, 17, none⟩ = some (.int .i64 7) ∧ w'.cell? ⟨g6, 28, none⟩ = some (.int .i64 8) ∧
      w'.cell? ⟨g6, 42, none⟩ = some (.int .i64 0) ∧ w'.cell? ⟨g6, 43, none⟩ = some (.int .i64 0) ∧ w'.cell? ⟨g6, 44, none⟩ = some (.int .i64 0) ∧ w'.cell? ⟨g6, 45, none⟩ = some (.int .i64 0) ∧ w'.cell? ⟨g6, 46, none⟩ = some (.int .i64 5) ∧ w'.cell? ⟨g6, 47, none⟩ = some (.int .i64 0) ∧
      w'.cell? ⟨g6, 48, none⟩ = some (.int .i64 0) ∧ w'.cell? ⟨g6, 49, none⟩ = some (.int .i64 0) ∧ w'.cell? ⟨g6, 50, none⟩ = some (.int .i64 0) ∧ w'.cell? ⟨g6, 51, none⟩ = some (.int .i64 0) ∧ w'.cell? ⟨g6, 52, none⟩ = some (.int .i64 5) ∧ w'.cell? ⟨g6, 53, none⟩ = some (.int .i64 0) ∧ Lies W7 w')
    (((try go_split_ands); (try dsimp only); (repeat' apply And.intro) <;> (first | assumption | go_keep | (exact Lies.drew (by assumption)) | (exact Lies.step (by assumption) (by assumption)) | (rw [hc7 _ _ (Nat.lt_of_lt_of_le (by first | exact lq7 | exact ly7 | exact lr3 | exact hg6) (Below.size (by assumption : Lies W7 _)))]; assumption))))
    (first
      | (go_at_call 29; (try go_split_ands); refine (small_row _).mono ?_; rintro e w8 ⟨g8, rfl, hN8, hb8⟩; obtain ⟨hc7, hf7⟩ := bcell hb8)
      | (go_at_call 15; (try go_split_ands); have hS := SameProgs_any 3 3 A4 (some ⟨g8, 0, none⟩) smallL smallL c4 7 _ (HT7.out.nodes.below (Lies.below_ (by assumption))) hN8.nodes (by simp [maxLen, smallL]) (by simp [maxLen, smallL]); rw [show ((3 : Int) == 3 && smallL == smallL) = true by simp] at hS; refine hS.mono ?_; rintro e w9 ⟨rfl, hb9⟩; obtain ⟨hc7, hf7⟩ := bcell hb9))
  all_goals (try go_split_ands)
  all_goals (go_wp2_with fail)
  all_goals go_ret
  all_goals exact ⟨rfl, Lies.from_ HB7.out (by assumption)⟩
end Go.Proofs.Ytmghkonmfbpjcab
