/- progBegun: true, in whatever memory. -/
import Derived.Test.YtmghkonmfbpjcaaPgV
import Derived.Test.YtmghkonmfbpjcaaSmall
namespace Go.Proofs.Ytmghkonmfbpjcaa
set_option linter.unusedVariables false
set_option linter.unusedSimpArgs false
open Go.RowKit
set_option maxHeartbeats 8000000
attribute [local irreducible] Row TRow madeCells

theorem chk_small : chk 3 smallL = 0 := by decide
theorem chk_empty : chk 0 [] = 2 := by decide
theorem next_small : nxE 3 smallL 2 = 0 ∧ nxL 3 smallL 2 nextP = [3, 5] := by decide
theorem ahead_small : nxE 3 smallL 5 = 0 ∧ nxL 3 smallL 5 aheadP = [2, 4] := by decide
theorem tms_small : tmsOf smallL 7 = [⟨3, 0, 1⟩] := by decide
theorem vals_lit {w : World} {cs : Array Value} {t : TypeId} {g : Nat} {xs : List Value} (h : g = w.heap.size) (hc : cs = xs.toArray) : ValsAt (w.alloc (.cells cs t)) (some ⟨g, 0, none⟩) xs := by
  subst hc
  have hb := Blk.new' (w := w) (t := t) (cs := xs.toArray) h
  refine ValsAt.mk hb.lt fun i v hi => ?_
  rw [Nat.zero_add, hb.cell]
  simpa using hi

set_option maxRecDepth 100000 in
theorem progBegun_any (w : World) : Calls Try.prog 39 #[] w fun e w' => e = .returned (.bool true) ∧ Below w.heap.size w w' := by
  go_enter Try.func39, Try.ntmps39
  go_wp2_with fail
  refine (small_any w).mono ?_
  rintro e w1 ⟨g1, rfl, hN1, hb1⟩
  have hz1 := hb1.size
  go_wp2_with fail
  refine (Next_any 3 (some ⟨g1, 0, none⟩) smallL 7 2 w1 (by simp [maxLen, smallL]) hN1).mono ?_
  rintro e v1 ⟨hc1, u1, rfl, hr1⟩
  rw [next_small.1, next_small.2] at *
  obtain ⟨D1, q1, rfl, _, _⟩ := hr1.shape
  have hB1 := hb1.trans (hc1.mono hz1)
  have H1 := hide hr1.vals
  clear hN1 hr1 hb1 hc1
  go_wp2_with fail
  refine (small_any v1).mono ?_
  rintro e w2 ⟨g2, rfl, hN2, hb2⟩
  have H1 := hide (H1.out.below hb2)
  have hB2 := hB1.trans (hb2.mono hB1.size)
  go_wp2_with fail
  refine (Ahead_any 3 (some ⟨g2, 0, none⟩) smallL 7 5 w2 (by simp [maxLen, smallL]) hN2).mono ?_
  rintro e v2 ⟨hc2, u2, rfl, hr2⟩
  rw [ahead_small.1, ahead_small.2] at *
  obtain ⟨D2, q2, rfl, _, _⟩ := hr2.shape
  have H1 := hide (H1.out.below hc2)
  have H2 := hide hr2.vals
  have hB2' := hB2.trans (hc2.mono hB2.size)
  clear hN2 hr2 hb2 hc2 hB1
  go_wp2_with fail
  refine (small_any v2).mono ?_
  rintro e w22 ⟨g3, rfl, hN3, hb3⟩
  have H1 := hide (H1.out.below hb3)
  have H2 := hide (H2.out.below hb3)
  have hB22 := hB2'.trans (hb3.mono hB2'.size)
  go_wp2_with fail
  refine (Terms_any 3 (some ⟨g3, 0, none⟩) smallL 7 w22 (by simp [maxLen, smallL]) hN3).mono ?_
  rintro e w3 ⟨hc3, u3, rfl, hr3⟩
  rw [chk_small, if_pos rfl] at hr3
  rw [chk_small]
  have hr3 : TRow w3 w22.heap.size 47 u3 [⟨3, 0, 1⟩] := by rw [← tms_small]; exact hr3
  obtain ⟨D3, q3, rfl, _, _⟩ := hr3.shape
  obtain ⟨tb, q3', tt, hD3, _, ltb, htt, htl, _⟩ := hr3.get (k := 0) (by simp)
  injection hD3 with hD3 _ _
  subst hD3
  simp only [List.getElem?_cons_zero, Option.some.injEq] at htt
  subst htt
  obtain ⟨k0, k1, k2⟩ := htl
  have H1 := hide (H1.out.below hc3)
  have H2 := hide (H2.out.below hc3)
  have hB3 := hB22.trans (hc3.mono hB22.size)
  have hgd := guardTerm
  have hEq := fun W => run_eq_term ⟨3, 0, 1⟩ ⟨3, 0, 1⟩ W
  have hEq : ∀ W, (Op.equalIn 10000 47 (.agg #[.int .i64 3, .int .i64 0, .int .i64 1]) (.agg #[.int .i64 3, .int .i64 0, .int .i64 1])).run Try.prog W = .ok true W := hEq
  clear hN3 hr3 hb3 hc3 hB2 hB2' hB22
  go_upto_region 4 with fail
  refine wp_region_held_drew (S := fun w' => w'.cell? ⟨tb, 0, none⟩ = some (.int .i64 3) ∧ w'.cell? ⟨tb, 1, none⟩ = some (.int .i64 0) ∧ w'.cell? ⟨tb, 2, none⟩ = some (.int .i64 1)) (by kernel_rfl) ⟨k0, k1, k2⟩ ?_
  intro hHeld
  have hC0 : Below w3.heap.size w3 w3.drew := (Below.refl _ _).drew
  refine wpAnyH_ready (rs := [0]) (by kernel_rfl) (by simp) ?_
  refine AllReadyH.cons rfl (fun K hK => ?_) AllReadyH.nil
  have HK0 := hide hK
  clear hK
  go_simp
  go_at_call 54
  refine (small_any _).mono ?_
  rintro e w4 ⟨g4, rfl, hN4, hb4⟩
  have hC4 : Below w3.heap.size w3 w4 := hC0.trans (hb4.mono hC0.size)
  clear hHeld
  have hHeld : w4.cell? ⟨tb, 0, none⟩ = some (.int .i64 3) ∧ w4.cell? ⟨tb, 1, none⟩ = some (.int .i64 0) ∧ w4.cell? ⟨tb, 2, none⟩ = some (.int .i64 1) := ⟨((bcell hC4).1 _ _ ltb).trans k0, ((bcell hC4).1 _ _ ltb).trans k1, ((bcell hC4).1 _ _ ltb).trans k2⟩
  refine Shut.out HK0.out _ _ hHeld (fun _ => ?_)
  try simp only [List.getElem_toArray, List.getElem_cons_zero, List.getElem_cons_succ, Act.put, List.setIfInBounds_toArray, List.set_cons_zero, List.set_cons_succ]
  clear HK0
  refine wpAnyH_ready (rs := [1]) (by kernel_rfl) (by simp) ?_
  refine AllReadyH.cons rfl (fun K hK => ?_) AllReadyH.nil
  have HK1 := hide hK
  clear hK
  go_simp
  go_at_call 40
  refine (Check_any 3 (some ⟨g4, 0, none⟩) smallL 7 w4 (by simp [maxLen, smallL]) hN4).mono ?_
  rw [chk_small]
  rintro e w5 ⟨rfl, hb5⟩
  have hC5 : Below w3.heap.size w3 w5 := hC4.trans (hb5.mono hC4.size)
  clear hHeld
  have hHeld : w5.cell? ⟨tb, 0, none⟩ = some (.int .i64 3) ∧ w5.cell? ⟨tb, 1, none⟩ = some (.int .i64 0) ∧ w5.cell? ⟨tb, 2, none⟩ = some (.int .i64 1) := ⟨((bcell hC5).1 _ _ ltb).trans k0, ((bcell hC5).1 _ _ ltb).trans k1, ((bcell hC5).1 _ _ ltb).trans k2⟩
  refine Shut.out HK1.out _ _ hHeld (fun _ => ?_)
  try simp only [List.getElem_toArray, List.getElem_cons_zero, List.getElem_cons_succ, Act.put, List.setIfInBounds_toArray, List.set_cons_zero, List.set_cons_succ]
  clear HK1
  refine wpAnyH_take (i := 2) (v := ?_) rfl (by kernel_rfl) (by kernel_rfl) (by kernel_rfl) (fun _ _ _ h => h) (Or.inl ⟨by rfl, ?_⟩) hHeld ?_; rotate_left; (focus (intro w' hSw; (try dsimp only at hSw); go_simp; try with_reducible rfl))
  try simp only [List.getElem_toArray, List.getElem_cons_zero, List.getElem_cons_succ, Act.put, List.setIfInBounds_toArray, List.set_cons_zero, List.set_cons_succ]
  refine wpAnyH_take (i := 3) (v := ?_) rfl (by kernel_rfl) (by kernel_rfl) (by kernel_rfl) (fun _ _ _ h => h) (Or.inl ⟨by rfl, ?_⟩) hHeld ?_; rotate_left; (focus (intro w' hSw; (try dsimp only at hSw); go_simp; try with_reducible rfl))
  try simp only [List.getElem_toArray, List.getElem_cons_zero, List.getElem_cons_succ, Act.put, List.setIfInBounds_toArray, List.set_cons_zero, List.set_cons_succ]
  refine wpAnyH_take (i := 4) (v := ?_) rfl (by kernel_rfl) (by kernel_rfl) (by kernel_rfl) (fun _ _ _ h => h) (Or.inl ⟨by rfl, ?_⟩) hHeld ?_; rotate_left; (focus (intro w' hSw; (try dsimp only at hSw); go_simp; try with_reducible rfl))
  try simp only [List.getElem_toArray, List.getElem_cons_zero, List.getElem_cons_succ, Act.put, List.setIfInBounds_toArray, List.set_cons_zero, List.set_cons_succ]
  refine wpAnyH_ready (rs := [5]) (by kernel_rfl) (by simp) ?_
  refine AllReadyH.cons rfl (fun K hK => ?_) AllReadyH.nil
  have HK5 := hide hK
  clear hK
  go_simp
  go_at_call 40
  refine (Check_any 0 none [] 0 w5 (by simp) (fun h => absurd rfl h)).mono ?_
  rw [chk_empty]
  rintro e w6 ⟨rfl, hb6⟩
  have hC6 : Below w3.heap.size w3 w6 := hC5.trans (hb6.mono hC5.size)
  clear hHeld
  have hHeld : w6.cell? ⟨tb, 0, none⟩ = some (.int .i64 3) ∧ w6.cell? ⟨tb, 1, none⟩ = some (.int .i64 0) ∧ w6.cell? ⟨tb, 2, none⟩ = some (.int .i64 1) := ⟨((bcell hC6).1 _ _ ltb).trans k0, ((bcell hC6).1 _ _ ltb).trans k1, ((bcell hC6).1 _ _ ltb).trans k2⟩
  refine Shut.out HK5.out _ _ hHeld (fun _ => ?_)
  try simp only [List.getElem_toArray, List.getElem_cons_zero, List.getElem_cons_succ, Act.put, List.setIfInBounds_toArray, List.set_cons_zero, List.set_cons_succ]
  clear HK5
  refine wpAnyH_take (i := 6) (v := ?_) rfl (by kernel_rfl) (by kernel_rfl) (by kernel_rfl) (fun _ _ _ h => h) (Or.inl ⟨by rfl, ?_⟩) hHeld ?_; rotate_left; (focus (intro w' hSw; (try dsimp only at hSw); go_simp; try with_reducible rfl))
  try simp only [List.getElem_toArray, List.getElem_cons_zero, List.getElem_cons_succ, Act.put, List.setIfInBounds_toArray, List.set_cons_zero, List.set_cons_succ]
  refine wpAnyH_take (i := 7) (v := ?_) rfl (by kernel_rfl) (by kernel_rfl) (by kernel_rfl) (fun _ _ _ h => h) (Or.inl ⟨by rfl, ?_⟩) hHeld ?_; rotate_left; (focus (intro w' hSw; (try dsimp only at hSw); go_simp; try with_reducible rfl))
  try simp only [List.getElem_toArray, List.getElem_cons_zero, List.getElem_cons_succ, Act.put, List.setIfInBounds_toArray, List.set_cons_zero, List.set_cons_succ]
  refine wpAnyH_take (i := 8) (v := ?_) rfl (by kernel_rfl) (by kernel_rfl) (by kernel_rfl) (fun _ _ _ h => h) (Or.inl ⟨by rfl, ?_⟩) hHeld ?_; rotate_left; (focus (intro w' hSw; (try dsimp only at hSw); go_simp; try with_reducible rfl))
  try simp only [List.getElem_toArray, List.getElem_cons_zero, List.getElem_cons_succ, Act.put, List.setIfInBounds_toArray, List.set_cons_zero, List.set_cons_succ]
  refine wpAnyH_take (i := 9) (v := ?_) rfl (by kernel_rfl) (by kernel_rfl) (by kernel_rfl) (fun _ _ _ h => h) (Or.inl ⟨by rfl, ?_⟩) hHeld ?_; rotate_left; (focus (intro w' hSw; (try dsimp only at hSw); go_simp; try with_reducible rfl))
  try simp only [List.getElem_toArray, List.getElem_cons_zero, List.getElem_cons_succ, Act.put, List.setIfInBounds_toArray, List.set_cons_zero, List.set_cons_succ]
  refine wpAnyH_take (i := 10) (v := ?_) rfl (by kernel_rfl) (by kernel_rfl) (by kernel_rfl) (fun _ _ _ h => h) (Or.inl ⟨by rfl, ?_⟩) hHeld ?_; rotate_left; (focus (intro w' hSw; (try dsimp only at hSw); go_simp; try with_reducible rfl))
  try simp only [List.getElem_toArray, List.getElem_cons_zero, List.getElem_cons_succ, Act.put, List.setIfInBounds_toArray, List.set_cons_zero, List.set_cons_succ]
  refine wpAnyH_take (i := 11) (v := ?_) rfl (by kernel_rfl) (by kernel_rfl) (by kernel_rfl) (fun _ _ _ h => h) (Or.inl ⟨by rfl, ?_⟩) hHeld ?_; rotate_left; (focus (intro w' hSw; (try dsimp only at hSw); go_simp; try with_reducible rfl))
  try simp only [List.getElem_toArray, List.getElem_cons_zero, List.getElem_cons_succ, Act.put, List.setIfInBounds_toArray, List.set_cons_zero, List.set_cons_succ]
  refine wpAnyH_take (i := 12) (v := ?_) rfl (by kernel_rfl) (by kernel_rfl) (by kernel_rfl) (fun _ _ _ h => h) (Or.inl ⟨by rfl, ?_⟩) hHeld ?_; rotate_left; (focus (intro w' hSw; (try dsimp only at hSw); go_simp; try with_reducible rfl))
  try simp only [List.getElem_toArray, List.getElem_cons_zero, List.getElem_cons_succ, Act.put, List.setIfInBounds_toArray, List.set_cons_zero, List.set_cons_succ]
  refine wpAnyH_take (i := 13) (v := ?_) rfl (by kernel_rfl) (by kernel_rfl) (by kernel_rfl) (fun _ _ _ h => h) (Or.inl ⟨by rfl, ?_⟩) hHeld ?_; rotate_left; (focus (intro w' hSw; (try dsimp only at hSw); go_simp; try with_reducible rfl))
  try simp only [List.getElem_toArray, List.getElem_cons_zero, List.getElem_cons_succ, Act.put, List.setIfInBounds_toArray, List.set_cons_zero, List.set_cons_succ]
  refine wpAnyH_take (i := 14) (v := ?_) rfl (by kernel_rfl) (by kernel_rfl) (by kernel_rfl) (fun _ _ _ h => h) (Or.inl ⟨by rfl, ?_⟩) hHeld ?_; rotate_left; (focus (intro w' hSw; (try dsimp only at hSw); go_simp; try with_reducible rfl))
  try simp only [List.getElem_toArray, List.getElem_cons_zero, List.getElem_cons_succ, Act.put, List.setIfInBounds_toArray, List.set_cons_zero, List.set_cons_succ]
  refine wpAnyH_take (i := 15) (v := ?_) rfl (by kernel_rfl) (by kernel_rfl) (by kernel_rfl) (fun _ _ _ h => h) (Or.inl ⟨by rfl, ?_⟩) hHeld ?_; rotate_left; (focus (intro w' hSw; (try dsimp only at hSw); go_simp; try with_reducible rfl))
  try simp only [List.getElem_toArray, List.getElem_cons_zero, List.getElem_cons_succ, Act.put, List.setIfInBounds_toArray, List.set_cons_zero, List.set_cons_succ]
  refine wpAnyH_take (i := 16) (v := ?_) rfl (by kernel_rfl) (by kernel_rfl) (by kernel_rfl) (fun _ _ _ h => h) (Or.inl ⟨by rfl, ?_⟩) hHeld ?_; rotate_left; (focus (intro w' hSw; (try dsimp only at hSw); go_simp; try with_reducible rfl))
  try simp only [List.getElem_toArray, List.getElem_cons_zero, List.getElem_cons_succ, Act.put, List.setIfInBounds_toArray, List.set_cons_zero, List.set_cons_succ]
  refine wpAnyH_take (i := 17) (v := ?_) rfl (by kernel_rfl) (by kernel_rfl) (by kernel_rfl) (fun _ _ _ h => h) (Or.inl ⟨by rfl, ?_⟩) hHeld ?_; rotate_left; (focus (intro w' hSw; (try dsimp only at hSw); go_simp; try with_reducible rfl))
  try simp only [List.getElem_toArray, List.getElem_cons_zero, List.getElem_cons_succ, Act.put, List.setIfInBounds_toArray, List.set_cons_zero, List.set_cons_succ]
  refine wpAnyH_take (i := 18) (v := ?_) rfl (by kernel_rfl) (by kernel_rfl) (by kernel_rfl) (fun _ _ _ h => h) (Or.inl ⟨by rfl, ?_⟩) hHeld ?_; rotate_left; (focus (intro w' hSw; (try dsimp only at hSw); go_simp; try with_reducible rfl))
  try simp only [List.getElem_toArray, List.getElem_cons_zero, List.getElem_cons_succ, Act.put, List.setIfInBounds_toArray, List.set_cons_zero, List.set_cons_succ]
  refine wpAnyH_take (i := 19) (v := ?_) rfl (by kernel_rfl) (by kernel_rfl) (by kernel_rfl) (fun _ _ _ h => h) (Or.inl ⟨by rfl, ?_⟩) hHeld ?_; rotate_left; (focus (intro w' hSw; (try dsimp only at hSw); go_simp; try with_reducible rfl))
  try simp only [List.getElem_toArray, List.getElem_cons_zero, List.getElem_cons_succ, Act.put, List.setIfInBounds_toArray, List.set_cons_zero, List.set_cons_succ]
  refine wpAnyH_take (i := 20) (v := ?_) rfl (by kernel_rfl) (by kernel_rfl) (by kernel_rfl) (fun _ _ _ h => h) (Or.inl ⟨by rfl, ?_⟩) hHeld ?_; rotate_left; (focus (intro w' hSw; (try dsimp only at hSw); go_simp; try with_reducible rfl))
  try simp only [List.getElem_toArray, List.getElem_cons_zero, List.getElem_cons_succ, Act.put, List.setIfInBounds_toArray, List.set_cons_zero, List.set_cons_succ]
  refine wpAnyH_take (i := 21) (v := ?_) rfl (by kernel_rfl) (by kernel_rfl) (by kernel_rfl) (fun _ _ _ h => h) (Or.inl ⟨by rfl, ?_⟩) hHeld ?_; rotate_left; (focus (intro w' hSw; (try dsimp only at hSw); go_simp; try with_reducible rfl))
  try simp only [List.getElem_toArray, List.getElem_cons_zero, List.getElem_cons_succ, Act.put, List.setIfInBounds_toArray, List.set_cons_zero, List.set_cons_succ]
  refine wpAnyH_ready (rs := [22]) (by kernel_rfl) (by simp) ?_
  refine AllReadyH.cons rfl (fun K hK => ?_) AllReadyH.nil
  have HK22 := hide hK
  clear hK
  go_simp
  obtain ⟨W7, hW7⟩ : ∃ W : World, W = (w6).alloc (.cells #[.int .i64 3, .int .i64 5] 3) := ⟨_, rfl⟩
  rw [← hW7]
  have hC7 : Below w3.heap.size w3 W7 := by rw [hW7]; exact hC6.alloc (by have := hC6.size; simpa using this) _
  have hvW7 : ValsAt W7 (some ⟨(w6).heap.size, 0, none⟩) (ints [3, 5]) := by rw [hW7]; exact vals_lit rfl rfl
  clear hHeld hW7
  have hHeld : W7.cell? ⟨tb, 0, none⟩ = some (.int .i64 3) ∧ W7.cell? ⟨tb, 1, none⟩ = some (.int .i64 0) ∧ W7.cell? ⟨tb, 2, none⟩ = some (.int .i64 1) := ⟨((bcell hC7).1 _ _ ltb).trans k0, ((bcell hC7).1 _ _ ltb).trans k1, ((bcell hC7).1 _ _ ltb).trans k2⟩
  refine Shut.out HK22.out _ _ hHeld (fun _ => ?_)
  try simp only [List.getElem_toArray, List.getElem_cons_zero, List.getElem_cons_succ, Act.put, List.setIfInBounds_toArray, List.set_cons_zero, List.set_cons_succ]
  clear HK22
  refine wpAnyH_ready (rs := [23]) (by kernel_rfl) (by simp) ?_
  refine AllReadyH.cons rfl (fun K hK => ?_) AllReadyH.nil
  have HK23 := hide hK
  clear hK
  go_simp
  go_at_call 41
  refine (SameInts_any D1 (some ⟨(w6).heap.size, 0, none⟩) q1 2 [3, 5] [3, 5] W7 (H1.out.below hC7) hvW7 (by simp [maxLen]) (by simp [maxLen])).mono ?_
  rintro e W80 ⟨rfl, dW8, hW8⟩
  have hC8 : Below w3.heap.size w3 W80 := by rw [hW8]; exact below_drewN hC7 _
  clear hHeld hW8
  have hHeld : W80.cell? ⟨tb, 0, none⟩ = some (.int .i64 3) ∧ W80.cell? ⟨tb, 1, none⟩ = some (.int .i64 0) ∧ W80.cell? ⟨tb, 2, none⟩ = some (.int .i64 1) := ⟨((bcell hC8).1 _ _ ltb).trans k0, ((bcell hC8).1 _ _ ltb).trans k1, ((bcell hC8).1 _ _ ltb).trans k2⟩
  refine Shut.out HK23.out _ _ hHeld (fun _ => ?_)
  try simp only [List.getElem_toArray, List.getElem_cons_zero, List.getElem_cons_succ, Act.put, List.setIfInBounds_toArray, List.set_cons_zero, List.set_cons_succ]
  clear HK23
  refine wpAnyH_take (i := 24) (v := ?_) rfl (by kernel_rfl) (by kernel_rfl) (by kernel_rfl) (fun _ _ _ h => h) (Or.inl ⟨by rfl, ?_⟩) hHeld ?_; rotate_left; (focus (intro w' hSw; (try dsimp only at hSw); go_simp; try with_reducible rfl))
  try simp only [List.getElem_toArray, List.getElem_cons_zero, List.getElem_cons_succ, Act.put, List.setIfInBounds_toArray, List.set_cons_zero, List.set_cons_succ]
  refine wpAnyH_take (i := 25) (v := ?_) rfl (by kernel_rfl) (by kernel_rfl) (by kernel_rfl) (fun _ _ _ h => h) (Or.inl ⟨by rfl, ?_⟩) hHeld ?_; rotate_left; (focus (intro w' hSw; (try dsimp only at hSw); go_simp; try with_reducible rfl))
  try simp only [List.getElem_toArray, List.getElem_cons_zero, List.getElem_cons_succ, Act.put, List.setIfInBounds_toArray, List.set_cons_zero, List.set_cons_succ]
  refine wpAnyH_take (i := 26) (v := ?_) rfl (by kernel_rfl) (by kernel_rfl) (by kernel_rfl) (fun _ _ _ h => h) (Or.inl ⟨by rfl, ?_⟩) hHeld ?_; rotate_left; (focus (intro w' hSw; (try dsimp only at hSw); go_simp; try with_reducible rfl))
  try simp only [List.getElem_toArray, List.getElem_cons_zero, List.getElem_cons_succ, Act.put, List.setIfInBounds_toArray, List.set_cons_zero, List.set_cons_succ]
  refine wpAnyH_ready (rs := [27]) (by kernel_rfl) (by simp) ?_
  refine AllReadyH.cons rfl (fun K hK => ?_) AllReadyH.nil
  have HK27 := hide hK
  clear hK
  go_simp
  obtain ⟨W9, hW9⟩ : ∃ W : World, W = (W80).alloc (.cells #[.int .i64 2, .int .i64 4] 3) := ⟨_, rfl⟩
  rw [← hW9]
  have hC9 : Below w3.heap.size w3 W9 := by rw [hW9]; exact hC8.alloc (by have := hC8.size; simpa using this) _
  have hvW9 : ValsAt W9 (some ⟨(W80).heap.size, 0, none⟩) (ints [2, 4]) := by rw [hW9]; exact vals_lit rfl rfl
  clear hHeld hW9
  have hHeld : W9.cell? ⟨tb, 0, none⟩ = some (.int .i64 3) ∧ W9.cell? ⟨tb, 1, none⟩ = some (.int .i64 0) ∧ W9.cell? ⟨tb, 2, none⟩ = some (.int .i64 1) := ⟨((bcell hC9).1 _ _ ltb).trans k0, ((bcell hC9).1 _ _ ltb).trans k1, ((bcell hC9).1 _ _ ltb).trans k2⟩
  refine Shut.out HK27.out _ _ hHeld (fun _ => ?_)
  try simp only [List.getElem_toArray, List.getElem_cons_zero, List.getElem_cons_succ, Act.put, List.setIfInBounds_toArray, List.set_cons_zero, List.set_cons_succ]
  clear HK27
  refine wpAnyH_ready (rs := [28]) (by kernel_rfl) (by simp) ?_
  refine AllReadyH.cons rfl (fun K hK => ?_) AllReadyH.nil
  have HK28 := hide hK
  clear hK
  go_simp
  go_at_call 41
  refine (SameInts_any D2 (some ⟨(W80).heap.size, 0, none⟩) q2 2 [2, 4] [2, 4] W9 (H2.out.below hC9) hvW9 (by simp [maxLen]) (by simp [maxLen])).mono ?_
  rintro e W100 ⟨rfl, dW10, hW10⟩
  have hC10 : Below w3.heap.size w3 W100 := by rw [hW10]; exact below_drewN hC9 _
  clear hHeld hW10
  have hHeld : W100.cell? ⟨tb, 0, none⟩ = some (.int .i64 3) ∧ W100.cell? ⟨tb, 1, none⟩ = some (.int .i64 0) ∧ W100.cell? ⟨tb, 2, none⟩ = some (.int .i64 1) := ⟨((bcell hC10).1 _ _ ltb).trans k0, ((bcell hC10).1 _ _ ltb).trans k1, ((bcell hC10).1 _ _ ltb).trans k2⟩
  refine Shut.out HK28.out _ _ hHeld (fun _ => ?_)
  try simp only [List.getElem_toArray, List.getElem_cons_zero, List.getElem_cons_succ, Act.put, List.setIfInBounds_toArray, List.set_cons_zero, List.set_cons_succ]
  clear HK28
  refine wpAnyH_take (i := 29) (v := ?_) rfl (by kernel_rfl) (by kernel_rfl) (by kernel_rfl) (fun _ _ _ h => h) (Or.inl ⟨by rfl, ?_⟩) hHeld ?_; rotate_left; (focus (intro w' hSw; (try dsimp only at hSw); go_simp; try with_reducible rfl))
  try simp only [List.getElem_toArray, List.getElem_cons_zero, List.getElem_cons_succ, Act.put, List.setIfInBounds_toArray, List.set_cons_zero, List.set_cons_succ]
  refine wpAnyH_take (i := 30) (v := ?_) rfl (by kernel_rfl) (by kernel_rfl) (by kernel_rfl) (fun _ _ _ h => h) (Or.inl ⟨by rfl, ?_⟩) hHeld ?_; rotate_left; (focus (intro w' hSw; (try dsimp only at hSw); go_simp; try with_reducible rfl))
  try simp only [List.getElem_toArray, List.getElem_cons_zero, List.getElem_cons_succ, Act.put, List.setIfInBounds_toArray, List.set_cons_zero, List.set_cons_succ]
  refine wpAnyH_take (i := 31) (v := ?_) rfl (by kernel_rfl) (by kernel_rfl) (by kernel_rfl) (fun _ _ _ h => h) (Or.inl ⟨by rfl, ?_⟩) hHeld ?_; rotate_left; (focus (intro w' hSw; (try dsimp only at hSw); go_simp; try with_reducible rfl))
  try simp only [List.getElem_toArray, List.getElem_cons_zero, List.getElem_cons_succ, Act.put, List.setIfInBounds_toArray, List.set_cons_zero, List.set_cons_succ]
  refine wpAnyH_take (i := 32) (v := ?_) rfl (by kernel_rfl) (by kernel_rfl) (by kernel_rfl) (fun _ _ _ h => h) (Or.inl ⟨by rfl, ?_⟩) hHeld ?_; rotate_left; (focus (intro w' hSw; (try dsimp only at hSw); go_simp; try with_reducible rfl))
  try simp only [List.getElem_toArray, List.getElem_cons_zero, List.getElem_cons_succ, Act.put, List.setIfInBounds_toArray, List.set_cons_zero, List.set_cons_succ]
  refine wpAnyH_take (i := 33) (v := ?_) rfl (by kernel_rfl) (by kernel_rfl) (by kernel_rfl) (fun _ _ _ h => h) (Or.inl ⟨by rfl, ?_⟩) hHeld ?_; rotate_left; (focus (intro w' hSw; (try dsimp only at hSw); go_simp; try with_reducible rfl))
  try simp only [List.getElem_toArray, List.getElem_cons_zero, List.getElem_cons_succ, Act.put, List.setIfInBounds_toArray, List.set_cons_zero, List.set_cons_succ]
  refine wpAnyH_take (i := 34) (v := ?_) rfl (by kernel_rfl) (by kernel_rfl) (by kernel_rfl) (fun _ _ _ h => h) (Or.inl ⟨by rfl, ?_⟩) hHeld ?_; rotate_left; (focus (intro w' hSw; (try dsimp only at hSw); go_simp; try with_reducible rfl))
  try simp only [List.getElem_toArray, List.getElem_cons_zero, List.getElem_cons_succ, Act.put, List.setIfInBounds_toArray, List.set_cons_zero, List.set_cons_succ]
  refine wpAnyH_take (i := 35) (v := ?_) rfl (by kernel_rfl) (by kernel_rfl) (by kernel_rfl) (fun _ _ _ h => h) (Or.inl ⟨by rfl, ?_⟩) hHeld ?_; rotate_left; (focus (intro w' hSw; (try dsimp only at hSw); go_simp; try with_reducible rfl))
  try simp only [List.getElem_toArray, List.getElem_cons_zero, List.getElem_cons_succ, Act.put, List.setIfInBounds_toArray, List.set_cons_zero, List.set_cons_succ]
  refine wpAnyH_take (i := 36) (v := ?_) rfl (by kernel_rfl) (by kernel_rfl) (by kernel_rfl) (fun _ _ _ h => h) (Or.inl ⟨by rfl, ?_⟩) hHeld ?_; rotate_left; (focus (intro w' hSw; (try dsimp only at hSw); go_simp; try with_reducible rfl))
  try simp only [List.getElem_toArray, List.getElem_cons_zero, List.getElem_cons_succ, Act.put, List.setIfInBounds_toArray, List.set_cons_zero, List.set_cons_succ]
  refine wpAnyH_take (i := 37) (v := ?_) rfl (by kernel_rfl) (by kernel_rfl) (by kernel_rfl) (fun _ _ _ h => h) (Or.inl ⟨by rfl, ?_⟩) hHeld ?_; rotate_left; (focus (intro w' hSw; (try dsimp only at hSw); go_simp; try with_reducible rfl))
  try simp only [List.getElem_toArray, List.getElem_cons_zero, List.getElem_cons_succ, Act.put, List.setIfInBounds_toArray, List.set_cons_zero, List.set_cons_succ]
  refine wpAnyH_take (i := 38) (v := ?_) rfl (by kernel_rfl) (by kernel_rfl) (by kernel_rfl) (fun _ _ _ h => h) (Or.inl ⟨by rfl, ?_⟩) hHeld ?_; rotate_left; (focus (intro w' hSw; (try dsimp only at hSw); go_simp; try with_reducible rfl))
  try simp only [List.getElem_toArray, List.getElem_cons_zero, List.getElem_cons_succ, Act.put, List.setIfInBounds_toArray, List.set_cons_zero, List.set_cons_succ]
  refine wpAnyH_ready (rs := [39]) (by kernel_rfl) (by simp) ?_
  refine AllReadyH.cons rfl (fun K hK => ?_) AllReadyH.nil
  have HK39 := hide hK
  clear hK
  go_simp
  go_at_call 79
  refine (sum_any _).mono ?_
  rintro e w11 ⟨rfl, hb11⟩
  have hC11 : Below w3.heap.size w3 w11 := hC10.trans (hb11.mono hC10.size)
  clear hHeld
  have hHeld : w11.cell? ⟨tb, 0, none⟩ = some (.int .i64 3) ∧ w11.cell? ⟨tb, 1, none⟩ = some (.int .i64 0) ∧ w11.cell? ⟨tb, 2, none⟩ = some (.int .i64 1) := ⟨((bcell hC11).1 _ _ ltb).trans k0, ((bcell hC11).1 _ _ ltb).trans k1, ((bcell hC11).1 _ _ ltb).trans k2⟩
  refine Shut.out HK39.out _ _ hHeld (fun _ => ?_)
  try simp only [List.getElem_toArray, List.getElem_cons_zero, List.getElem_cons_succ, Act.put, List.setIfInBounds_toArray, List.set_cons_zero, List.set_cons_succ]
  clear HK39
  refine wpAnyH_take (i := 40) (v := ?_) rfl (by kernel_rfl) (by kernel_rfl) (by kernel_rfl) (fun _ _ _ h => h) (Or.inl ⟨by rfl, ?_⟩) hHeld ?_; rotate_left; (focus (intro w' hSw; (try dsimp only at hSw); go_simp; try with_reducible rfl))
  try simp only [List.getElem_toArray, List.getElem_cons_zero, List.getElem_cons_succ, Act.put, List.setIfInBounds_toArray, List.set_cons_zero, List.set_cons_succ]
  refine wpAnyH_take (i := 41) (v := ?_) rfl (by kernel_rfl) (by kernel_rfl) (by kernel_rfl) (fun _ _ _ h => h) (Or.inl ⟨by rfl, ?_⟩) hHeld ?_; rotate_left; (focus (intro w' hSw; (try dsimp only at hSw); go_simp; try with_reducible rfl))
  try simp only [List.getElem_toArray, List.getElem_cons_zero, List.getElem_cons_succ, Act.put, List.setIfInBounds_toArray, List.set_cons_zero, List.set_cons_succ]
  refine wpAnyH_take (i := 42) (v := ?_) rfl (by kernel_rfl) (by kernel_rfl) (by kernel_rfl) (fun _ _ _ h => h) (Or.inl ⟨by rfl, ?_⟩) hHeld ?_; rotate_left; (focus (intro w' hSw; (try dsimp only at hSw); go_simp; try with_reducible rfl))
  try simp only [List.getElem_toArray, List.getElem_cons_zero, List.getElem_cons_succ, Act.put, List.setIfInBounds_toArray, List.set_cons_zero, List.set_cons_succ]
  refine wpAnyH_done (by kernel_rfl) ?_ _
  go_wp2_with fail
  go_ret
  exact ⟨rfl, hB3.trans (hC11.mono hB3.size)⟩
end Go.Proofs.Ytmghkonmfbpjcaa
