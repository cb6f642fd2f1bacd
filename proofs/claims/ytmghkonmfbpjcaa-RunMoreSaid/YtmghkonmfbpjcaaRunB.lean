/- runBegun: true, in whatever memory. -/
import Derived.Test.YtmghkonmfbpjcaaRunJ
import Derived.Test.YtmghkonmfbpjcaaRunE
import Derived.Test.YtmghkonmfbpjcaaSmall
namespace Go.Proofs.Ytmghkonmfbpjcaa
set_option linter.unusedVariables false
set_option linter.unusedSimpArgs false
open Go.RowKit
set_option maxHeartbeats 8000000
attribute [local irreducible] Row CRow madeCells

theorem runE_small1 : runE 3 smallL [4, 5] 99 = 0 := by decide
theorem runE_small2 : runE 3 smallL [0, 5] 4 = 0 := by decide
theorem runS_small1 : runS 3 smallL [4, 5] 99 = ⟨[9], 9, true, 7, [(⟨3, 0, 1⟩, 2)]⟩ := of_decide_eq_true (by kernel_rfl)
theorem runS_small2 : runS 3 smallL [0, 5] 4 = ⟨[], 0, false, 4, [(⟨3, 0, 1⟩, 1)]⟩ := of_decide_eq_true (by kernel_rfl)
theorem vals_lit_ {w : World} {cs : Array Value} {t : TypeId} {g : Nat} {xs : List Value} (h : g = w.heap.size) (hc : cs = xs.toArray) : ValsAt (w.alloc (.cells cs t)) (some ⟨g, 0, none⟩) xs := by
  subst hc
  have hb := Blk.new' (w := w) (t := t) (cs := xs.toArray) h
  refine ValsAt.mk hb.lt fun i v hi => ?_
  rw [Nat.zero_add, hb.cell]
  simpa using hi
theorem sumL_any (w : World) : Calls Try.prog 79 #[] w fun e w' => e = .returned (.agg #[.int .i64 3, .int .i64 0, .int .i64 1]) ∧ Below w.heap.size w w' := by
  go_enter Try.func79, Try.ntmps79
  go_wp2
  refine bodyPost_ret (v := .agg #[.int .i64 3, .int .i64 0, .int .i64 1]) (by simp [results, Try.results79, go_sem]) rfl ⟨rfl, (by repeat (first | (with_reducible exact Below.refl _ _) | (with_reducible assumption) | (with_reducible refine Below.drew ?_) | (with_reducible refine below_drewN ?_ _) | (with_reducible refine Below.alloc ?_ (by (try simp only [World.size_alloc, World.size_setCell, World.size_drew, World.heap_drewN]); (first | done | omega | ((try simp only [World.size_alloc, World.size_setCell, World.size_drew, World.heap_drewN] at *); omega))) _) | (with_reducible refine Below.setCell ?_ (by (try simp only [World.size_alloc, World.size_setCell, World.size_drew, World.heap_drewN]); (first | done | omega | ((try simp only [World.size_alloc, World.size_setCell, World.size_drew, World.heap_drewN] at *); omega))) _) | (with_reducible refine Below.trans ?_ (Below.mono (by assumption) (by (try simp only [World.size_alloc, World.size_setCell, World.size_drew, World.heap_drewN]); (first | done | omega | ((try simp only [World.size_alloc, World.size_setCell, World.size_drew, World.heap_drewN] at *); omega)))))))⟩
set_option maxRecDepth 100000 in
theorem runBegun_any (w : World) : Calls Try.prog 45 #[] w fun e w' => e = .returned (.bool true) ∧ Below w.heap.size w w' := by
  go_enter Try.func45, Try.ntmps45
  go_wp2_with fail
  refine (small_any w).mono ?_
  rintro e w1 ⟨g1, rfl, hN1, hb1⟩
  have hz1 := hb1.size
  go_wp2_with fail
  refine (Run_any 3 (some ⟨g1, 0, none⟩) smallL 7 (some ⟨w1.heap.size, 0, none⟩) [4, 5] 2 99 _ (by simp [maxLen, smallL]) (hN1.below (by repeat (first | (with_reducible exact Below.refl _ _) | (with_reducible assumption) | (with_reducible refine Below.drew ?_) | (with_reducible refine below_drewN ?_ _) | (with_reducible refine Below.alloc ?_ (by (try simp only [World.size_alloc, World.size_setCell, World.size_drew, World.heap_drewN]); (first | done | omega | ((try simp only [World.size_alloc, World.size_setCell, World.size_drew, World.heap_drewN] at *); omega))) _) | (with_reducible refine Below.setCell ?_ (by (try simp only [World.size_alloc, World.size_setCell, World.size_drew, World.heap_drewN]); (first | done | omega | ((try simp only [World.size_alloc, World.size_setCell, World.size_drew, World.heap_drewN] at *); omega))) _) | (with_reducible refine Below.trans ?_ (Below.mono (by assumption) (by (try simp only [World.size_alloc, World.size_setCell, World.size_drew, World.heap_drewN]); (first | done | omega | ((try simp only [World.size_alloc, World.size_setCell, World.size_drew, World.heap_drewN] at *); omega)))))))) (vals_lit_ rfl rfl) ⟨by simp, by simp [maxLen]⟩).mono ?_
  rintro e v1 ⟨hc1, u1, rfl, ov1, cv1, rfl, hO1, hC1⟩
  rw [runS_small1] at hO1 hC1 ⊢
  rw [runE_small1]
  obtain ⟨D1, q1, rfl, _, _⟩ := hO1.shape
  obtain ⟨E1, p1, rfl, _, _⟩ := hC1.shape
  have hB1 : Below w.heap.size w v1 := hb1.trans (((Below.refl _ _).alloc hz1 _).trans (hc1.mono (by simp <;> omega)))
  have H1 := hide hO1.vals
  have G1 := hide hC1.nodes
  have hy1 := hB1.size
  clear hN1 hO1 hC1 hb1 hc1 hz1
  go_wp2_with fail
  obtain ⟨W2, hW2⟩ : ∃ W2, W2 = v1.alloc (.cells #[.slice D1 (ints [9]).length q1, .int .i64 9, .bool true, .int .i64 7, .slice E1 1 p1] 68) := ⟨_, rfl⟩
  have b2 : Blk W2 v1.heap.size 68 #[.slice D1 (ints [9]).length q1, .int .i64 9, .bool true, .int .i64 7, .slice E1 1 p1] := by rw [hW2]; exact Blk.new' rfl
  have hB2 : Below v1.heap.size v1 W2 := by rw [hW2]; exact (Below.refl _ _).alloc (Nat.le_refl _) _
  have hy2 := hB2.size
  have hz2 := b2.lt
  refine (small_any _).mono ?_
  rintro e w3 ⟨g3, rfl, hN3, hb3⟩
  rw [← hW2] at hb3
  have hz3 := hb3.size
  have b3 := b2.below hb3 b2.lt
  have hB3 := hB2.trans (hb3.mono hy2)
  clear hW2 b2 hb3 hB2
  go_wp2_with fail
  refine (Run_any 3 (some ⟨g3, 0, none⟩) smallL 7 (some ⟨w3.heap.size, 0, none⟩) [0, 5] 2 4 _ (by simp [maxLen, smallL]) (hN3.below (by repeat (first | (with_reducible exact Below.refl _ _) | (with_reducible assumption) | (with_reducible refine Below.drew ?_) | (with_reducible refine below_drewN ?_ _) | (with_reducible refine Below.alloc ?_ (by (try simp only [World.size_alloc, World.size_setCell, World.size_drew, World.heap_drewN]); (first | done | omega | ((try simp only [World.size_alloc, World.size_setCell, World.size_drew, World.heap_drewN] at *); omega))) _) | (with_reducible refine Below.setCell ?_ (by (try simp only [World.size_alloc, World.size_setCell, World.size_drew, World.heap_drewN]); (first | done | omega | ((try simp only [World.size_alloc, World.size_setCell, World.size_drew, World.heap_drewN] at *); omega))) _) | (with_reducible refine Below.trans ?_ (Below.mono (by assumption) (by (try simp only [World.size_alloc, World.size_setCell, World.size_drew, World.heap_drewN]); (first | done | omega | ((try simp only [World.size_alloc, World.size_setCell, World.size_drew, World.heap_drewN] at *); omega)))))))) (vals_lit_ rfl rfl) ⟨by simp, by simp [maxLen]⟩).mono ?_
  rintro e v4 ⟨hc4, u4, rfl, ov4, cv4, rfl, hO4, hC4⟩
  rw [runS_small2] at hO4 hC4 ⊢
  rw [runE_small2]
  obtain ⟨D4, q4, rfl, _, _⟩ := hO4.shape
  obtain ⟨E4, p4, rfl, _, _⟩ := hC4.shape
  have hb4 : Below w3.heap.size w3 v4 := ((Below.refl _ _).alloc (Nat.le_refl _) _).trans (hc4.mono (by simp))
  have hz4 := hb4.size
  have b4 := b3.below hb4 b3.lt
  have hB4 := hB3.trans (hb4.mono (by omega))
  have G4 := hide hC4.nodes
  clear hN3 hO4 hC4 hc4 hb4 b3 hB3
  go_upto_region 3 with fail
  obtain ⟨W5, hW5⟩ : ∃ W5, W5 = v4.alloc (.cells #[.slice D4 (ints []).length q4, .int .i64 0, .bool false, .int .i64 4, .slice E4 1 p4] 68) := ⟨_, rfl⟩
  have b5 : Blk W5 v4.heap.size 68 #[.slice D4 (ints []).length q4, .int .i64 0, .bool false, .int .i64 4, .slice E4 1 p4] := by rw [hW5]; exact Blk.new' rfl
  have hB5 : Below v4.heap.size v4 W5 := by rw [hW5]; exact (Below.refl _ _).alloc (Nat.le_refl _) _
  have hz5 := hB5.size
  have b1 := b4.below hB5 b4.lt
  have hB15 := hB4.trans (hB5.mono (by omega))
  have hBw : Below w.heap.size w W5 := hB1.trans (hB15.mono hy1)
  have HI := fun (V : World) (hV : Below W5.heap.size W5 V) (g : Nat) (hg : Blk V g 3 #[.int .i64 9]) => hide (SameInts_any D1 (some ⟨g, 0, none⟩) q1 1 [9] [9] V ((H1.out.below hB15).below hV) (fun _ => ⟨g, 0, rfl, hg.lt, fun i v hi => by rw [Nat.zero_add, hg.cell]; simpa [ints] using hi⟩) (by simp [maxLen]) (by simp [maxLen]))
  have HT1 := fun (V : World) (hV : Below W5.heap.size W5 V) => hide (by have h := Times_any D1 (ints [9]).length q1 9 true 7 E1 p1 [(⟨3, 0, 1⟩, 2)] ⟨3, 0, 1⟩ V ((G1.out.below hB15).below hV) (by simp [maxLen]); rw [show cntOf [((⟨3, 0, 1⟩ : Tm), (2 : Int))] ⟨3, 0, 1⟩ = 2 from by decide] at h; exact h)
  have HT2 := fun (V : World) (hV : Below W5.heap.size W5 V) => hide (by have h := Times_any D4 (ints []).length q4 0 false 4 E4 p4 [(⟨3, 0, 1⟩, 1)] ⟨3, 0, 1⟩ V ((G4.out.below hB5).below hV) (by simp [maxLen]); rw [show cntOf [((⟨3, 0, 1⟩ : Tm), (1 : Int))] ⟨3, 0, 1⟩ = 1 from by decide] at h; exact h)
  have HS := fun V => hide (sumL_any V)
  rw [← hW5]
  have c0 := b1.cell 0
  have c1 := b1.cell 1
  have c2 := b1.cell 2
  have c3 := b1.cell 3
  have c4 := b1.cell 4
  have d0 := b5.cell 0
  have d1 := b5.cell 1
  have d2 := b5.cell 2
  have d3 := b5.cell 3
  have d4 := b5.cell 4
  have l1 := b1.lt
  have l5 := b5.lt
  simp only [List.getElem?_toArray, List.getElem?_cons_zero, List.getElem?_cons_succ] at c0 c1 c2 c3 c4 d0 d1 d2 d3 d4
  clear hW5 b5 b4 b1 hB5 hB15 hB4 hB1
  obtain ⟨a1, ha1⟩ : ∃ a, a = v1.heap.size := ⟨_, rfl⟩
  obtain ⟨a5, ha5⟩ : ∃ a, a = v4.heap.size := ⟨_, rfl⟩
  rw [← ha1] at c0 c1 c2 c3 c4 l1
  rw [← ha5] at d0 d1 d2 d3 d4 l5
  rw [← ha1, ← ha5]
  clear ha1 ha5
  refine wp_region_held_drew (S := fun w' => w'.cell? ⟨a1, 0, none⟩ = some (.slice D1 (ints [9]).length q1) ∧ w'.cell? ⟨a1, 1, none⟩ = some (.int .i64 9) ∧ w'.cell? ⟨a1, 2, none⟩ = some (.bool true) ∧ w'.cell? ⟨a1, 3, none⟩ = some (.int .i64 7) ∧ w'.cell? ⟨a1, 4, none⟩ = some (.slice E1 1 p1) ∧ w'.cell? ⟨a5, 0, none⟩ = some (.slice D4 (ints []).length q4) ∧ w'.cell? ⟨a5, 1, none⟩ = some (.int .i64 0) ∧ w'.cell? ⟨a5, 2, none⟩ = some (.bool false) ∧ w'.cell? ⟨a5, 3, none⟩ = some (.int .i64 4) ∧ w'.cell? ⟨a5, 4, none⟩ = some (.slice E4 1 p4)) (by kernel_rfl) ⟨c0, c1, c2, c3, c4, d0, d1, d2, d3, d4⟩ ?_
  intro hHeld
  have hC0 : Below W5.heap.size W5 W5.drew := (Below.refl _ _).drew
  refine wpAnyH_take (i := 0) (v := ?_) rfl (by kernel_rfl) (by kernel_rfl) (by kernel_rfl) (fun _ _ _ h => h) (Or.inl ⟨by rfl, ?_⟩) hHeld ?_; rotate_left; (focus (intro w' hSw; (try dsimp only at hSw); (try go_split_ands); go_simp; try with_reducible rfl))
  try simp only [List.getElem_toArray, List.getElem_cons_zero, List.getElem_cons_succ, Act.put, List.setIfInBounds_toArray, List.set_cons_zero, List.set_cons_succ]
  refine wpAnyH_take (i := 1) (v := ?_) rfl (by kernel_rfl) (by kernel_rfl) (by kernel_rfl) (fun _ _ _ h => h) (Or.inl ⟨by rfl, ?_⟩) hHeld ?_; rotate_left; (focus (intro w' hSw; (try dsimp only at hSw); (try go_split_ands); go_simp; try with_reducible rfl))
  try simp only [List.getElem_toArray, List.getElem_cons_zero, List.getElem_cons_succ, Act.put, List.setIfInBounds_toArray, List.set_cons_zero, List.set_cons_succ]
  refine wpAnyH_take (i := 2) (v := ?_) rfl (by kernel_rfl) (by kernel_rfl) (by kernel_rfl) (fun _ _ _ h => h) (Or.inl ⟨by rfl, ?_⟩) hHeld ?_; rotate_left; (focus (intro w' hSw; (try dsimp only at hSw); (try go_split_ands); go_simp; try with_reducible rfl))
  try simp only [List.getElem_toArray, List.getElem_cons_zero, List.getElem_cons_succ, Act.put, List.setIfInBounds_toArray, List.set_cons_zero, List.set_cons_succ]
  refine wpAnyH_take (i := 3) (v := ?_) rfl (by kernel_rfl) (by kernel_rfl) (by kernel_rfl) (fun _ _ _ h => h) (Or.inl ⟨by rfl, ?_⟩) hHeld ?_; rotate_left; (focus (intro w' hSw; (try dsimp only at hSw); (try go_split_ands); go_simp; try with_reducible rfl))
  try simp only [List.getElem_toArray, List.getElem_cons_zero, List.getElem_cons_succ, Act.put, List.setIfInBounds_toArray, List.set_cons_zero, List.set_cons_succ]
  refine wpAnyH_take (i := 4) (v := ?_) rfl (by kernel_rfl) (by kernel_rfl) (by kernel_rfl) (fun _ _ _ h => h) (Or.inl ⟨by rfl, ?_⟩) hHeld ?_; rotate_left; (focus (intro w' hSw; (try dsimp only at hSw); (try go_split_ands); go_simp; try with_reducible rfl))
  try simp only [List.getElem_toArray, List.getElem_cons_zero, List.getElem_cons_succ, Act.put, List.setIfInBounds_toArray, List.set_cons_zero, List.set_cons_succ]
  refine wpAnyH_take (i := 5) (v := ?_) rfl (by kernel_rfl) (by kernel_rfl) (by kernel_rfl) (fun _ _ _ h => h) (Or.inl ⟨by rfl, ?_⟩) hHeld ?_; rotate_left; (focus (intro w' hSw; (try dsimp only at hSw); (try go_split_ands); go_simp; try with_reducible rfl))
  try simp only [List.getElem_toArray, List.getElem_cons_zero, List.getElem_cons_succ, Act.put, List.setIfInBounds_toArray, List.set_cons_zero, List.set_cons_succ]
  refine wpAnyH_take (i := 6) (v := ?_) rfl (by kernel_rfl) (by kernel_rfl) (by kernel_rfl) (fun _ _ _ h => h) (Or.inl ⟨by rfl, ?_⟩) hHeld ?_; rotate_left; (focus (intro w' hSw; (try dsimp only at hSw); (try go_split_ands); go_simp; try with_reducible rfl))
  try simp only [List.getElem_toArray, List.getElem_cons_zero, List.getElem_cons_succ, Act.put, List.setIfInBounds_toArray, List.set_cons_zero, List.set_cons_succ]
  refine wpAnyH_take (i := 7) (v := ?_) rfl (by kernel_rfl) (by kernel_rfl) (by kernel_rfl) (fun _ _ _ h => h) (Or.inl ⟨by rfl, ?_⟩) hHeld ?_; rotate_left; (focus (intro w' hSw; (try dsimp only at hSw); (try go_split_ands); go_simp; try with_reducible rfl))
  try simp only [List.getElem_toArray, List.getElem_cons_zero, List.getElem_cons_succ, Act.put, List.setIfInBounds_toArray, List.set_cons_zero, List.set_cons_succ]
  refine wpAnyH_take (i := 8) (v := ?_) rfl (by kernel_rfl) (by kernel_rfl) (by kernel_rfl) (fun _ _ _ h => h) (Or.inl ⟨by rfl, ?_⟩) hHeld ?_; rotate_left; (focus (intro w' hSw; (try dsimp only at hSw); (try go_split_ands); go_simp; try with_reducible rfl))
  try simp only [List.getElem_toArray, List.getElem_cons_zero, List.getElem_cons_succ, Act.put, List.setIfInBounds_toArray, List.set_cons_zero, List.set_cons_succ]
  refine wpAnyH_ready (rs := [9]) (by kernel_rfl) (by simp) ?_
  refine AllReadyH.cons rfl (fun K hK => ?_) AllReadyH.nil
  have HK9 := hide hK
  clear hK
  go_simp
  obtain ⟨W6, hW6⟩ : ∃ W6 : World, W6 = (W5.alloc (.cells #[.int .i64 9] 3)).drew := ⟨_, rfl⟩
  rw [← hW6]
  have hC6 : Below W5.heap.size W5 W6 := by rw [hW6]; exact Below.drew ((Below.refl _ _).alloc (Nat.le_refl _) _)
  have hB6 : Blk W6 W5.heap.size 3 #[.int .i64 9] := by rw [hW6]; exact (Blk.new' rfl).drew
  clear hHeld hW6
  have hHeld : W6.cell? ⟨a1, 0, none⟩ = some (.slice D1 (ints [9]).length q1) ∧ W6.cell? ⟨a1, 1, none⟩ = some (.int .i64 9) ∧ W6.cell? ⟨a1, 2, none⟩ = some (.bool true) ∧ W6.cell? ⟨a1, 3, none⟩ = some (.int .i64 7) ∧ W6.cell? ⟨a1, 4, none⟩ = some (.slice E1 1 p1) ∧ W6.cell? ⟨a5, 0, none⟩ = some (.slice D4 (ints []).length q4) ∧ W6.cell? ⟨a5, 1, none⟩ = some (.int .i64 0) ∧ W6.cell? ⟨a5, 2, none⟩ = some (.bool false) ∧ W6.cell? ⟨a5, 3, none⟩ = some (.int .i64 4) ∧ W6.cell? ⟨a5, 4, none⟩ = some (.slice E4 1 p4) := ⟨((bcell hC6).1 _ _ l1).trans c0, ((bcell hC6).1 _ _ l1).trans c1, ((bcell hC6).1 _ _ l1).trans c2, ((bcell hC6).1 _ _ l1).trans c3, ((bcell hC6).1 _ _ l1).trans c4, ((bcell hC6).1 _ _ l5).trans d0, ((bcell hC6).1 _ _ l5).trans d1, ((bcell hC6).1 _ _ l5).trans d2, ((bcell hC6).1 _ _ l5).trans d3, ((bcell hC6).1 _ _ l5).trans d4⟩
  refine Shut.out HK9.out _ _ hHeld (fun _ => ?_)
  try simp only [List.getElem_toArray, List.getElem_cons_zero, List.getElem_cons_succ, Act.put, List.setIfInBounds_toArray, List.set_cons_zero, List.set_cons_succ]
  clear HK9
  refine wpAnyH_ready (rs := [10]) (by kernel_rfl) (by simp) ?_
  refine AllReadyH.cons rfl (fun K hK => ?_) AllReadyH.nil
  have HK10 := hide hK
  clear hK
  go_simp
  go_at_call 41
  refine ((HI _ hC6 _ hB6).out).mono ?_
  rintro e W7 ⟨rfl, dd, h7⟩
  have hC7 : Below W5.heap.size W5 W7 := by rw [h7]; exact below_drewN hC6 _
  clear hHeld h7 hB6
  have hHeld : W7.cell? ⟨a1, 0, none⟩ = some (.slice D1 (ints [9]).length q1) ∧ W7.cell? ⟨a1, 1, none⟩ = some (.int .i64 9) ∧ W7.cell? ⟨a1, 2, none⟩ = some (.bool true) ∧ W7.cell? ⟨a1, 3, none⟩ = some (.int .i64 7) ∧ W7.cell? ⟨a1, 4, none⟩ = some (.slice E1 1 p1) ∧ W7.cell? ⟨a5, 0, none⟩ = some (.slice D4 (ints []).length q4) ∧ W7.cell? ⟨a5, 1, none⟩ = some (.int .i64 0) ∧ W7.cell? ⟨a5, 2, none⟩ = some (.bool false) ∧ W7.cell? ⟨a5, 3, none⟩ = some (.int .i64 4) ∧ W7.cell? ⟨a5, 4, none⟩ = some (.slice E4 1 p4) := ⟨((bcell hC7).1 _ _ l1).trans c0, ((bcell hC7).1 _ _ l1).trans c1, ((bcell hC7).1 _ _ l1).trans c2, ((bcell hC7).1 _ _ l1).trans c3, ((bcell hC7).1 _ _ l1).trans c4, ((bcell hC7).1 _ _ l5).trans d0, ((bcell hC7).1 _ _ l5).trans d1, ((bcell hC7).1 _ _ l5).trans d2, ((bcell hC7).1 _ _ l5).trans d3, ((bcell hC7).1 _ _ l5).trans d4⟩
  refine Shut.out HK10.out _ _ hHeld (fun _ => ?_)
  try simp only [List.getElem_toArray, List.getElem_cons_zero, List.getElem_cons_succ, Act.put, List.setIfInBounds_toArray, List.set_cons_zero, List.set_cons_succ]
  clear HK10
  refine wpAnyH_take (i := 11) (v := ?_) rfl (by kernel_rfl) (by kernel_rfl) (by kernel_rfl) (fun _ _ _ h => h) (Or.inl ⟨by rfl, ?_⟩) hHeld ?_; rotate_left; (focus (intro w' hSw; (try dsimp only at hSw); (try go_split_ands); go_simp; try with_reducible rfl))
  try simp only [List.getElem_toArray, List.getElem_cons_zero, List.getElem_cons_succ, Act.put, List.setIfInBounds_toArray, List.set_cons_zero, List.set_cons_succ]
  refine wpAnyH_take (i := 12) (v := ?_) rfl (by kernel_rfl) (by kernel_rfl) (by kernel_rfl) (fun _ _ _ h => h) (Or.inl ⟨by rfl, ?_⟩) hHeld ?_; rotate_left; (focus (intro w' hSw; (try dsimp only at hSw); (try go_split_ands); go_simp; try with_reducible rfl))
  try simp only [List.getElem_toArray, List.getElem_cons_zero, List.getElem_cons_succ, Act.put, List.setIfInBounds_toArray, List.set_cons_zero, List.set_cons_succ]
  refine wpAnyH_take (i := 13) (v := ?_) rfl (by kernel_rfl) (by kernel_rfl) (by kernel_rfl) (fun _ _ _ h => h) (Or.inl ⟨by rfl, ?_⟩) hHeld ?_; rotate_left; (focus (intro w' hSw; (try dsimp only at hSw); (try go_split_ands); go_simp; try with_reducible rfl))
  try simp only [List.getElem_toArray, List.getElem_cons_zero, List.getElem_cons_succ, Act.put, List.setIfInBounds_toArray, List.set_cons_zero, List.set_cons_succ]
  refine wpAnyH_take (i := 14) (v := ?_) rfl (by kernel_rfl) (by kernel_rfl) (by kernel_rfl) (fun _ _ _ h => h) (Or.inl ⟨by rfl, ?_⟩) hHeld ?_; rotate_left; (focus (intro w' hSw; (try dsimp only at hSw); (try go_split_ands); go_simp; try with_reducible rfl))
  try simp only [List.getElem_toArray, List.getElem_cons_zero, List.getElem_cons_succ, Act.put, List.setIfInBounds_toArray, List.set_cons_zero, List.set_cons_succ]
  refine wpAnyH_take (i := 15) (v := ?_) rfl (by kernel_rfl) (by kernel_rfl) (by kernel_rfl) (fun _ _ _ h => h) (Or.inl ⟨by rfl, ?_⟩) hHeld ?_; rotate_left; (focus (intro w' hSw; (try dsimp only at hSw); (try go_split_ands); go_simp; try with_reducible rfl))
  try simp only [List.getElem_toArray, List.getElem_cons_zero, List.getElem_cons_succ, Act.put, List.setIfInBounds_toArray, List.set_cons_zero, List.set_cons_succ]
  refine wpAnyH_take (i := 16) (v := ?_) rfl (by kernel_rfl) (by kernel_rfl) (by kernel_rfl) (fun _ _ _ h => h) (Or.inl ⟨by rfl, ?_⟩) hHeld ?_; rotate_left; (focus (intro w' hSw; (try dsimp only at hSw); (try go_split_ands); go_simp; try with_reducible rfl))
  try simp only [List.getElem_toArray, List.getElem_cons_zero, List.getElem_cons_succ, Act.put, List.setIfInBounds_toArray, List.set_cons_zero, List.set_cons_succ]
  refine wpAnyH_take (i := 17) (v := ?_) rfl (by kernel_rfl) (by kernel_rfl) (by kernel_rfl) (fun _ _ _ h => h) (Or.inl ⟨by rfl, ?_⟩) hHeld ?_; rotate_left; (focus (intro w' hSw; (try dsimp only at hSw); (try go_split_ands); go_simp; try with_reducible rfl))
  try simp only [List.getElem_toArray, List.getElem_cons_zero, List.getElem_cons_succ, Act.put, List.setIfInBounds_toArray, List.set_cons_zero, List.set_cons_succ]
  refine wpAnyH_take (i := 18) (v := ?_) rfl (by kernel_rfl) (by kernel_rfl) (by kernel_rfl) (fun _ _ _ h => h) (Or.inl ⟨by rfl, ?_⟩) hHeld ?_; rotate_left; (focus (intro w' hSw; (try dsimp only at hSw); (try go_split_ands); go_simp; try with_reducible rfl))
  try simp only [List.getElem_toArray, List.getElem_cons_zero, List.getElem_cons_succ, Act.put, List.setIfInBounds_toArray, List.set_cons_zero, List.set_cons_succ]
  refine wpAnyH_take (i := 19) (v := ?_) rfl (by kernel_rfl) (by kernel_rfl) (by kernel_rfl) (fun _ _ _ h => h) (Or.inl ⟨by rfl, ?_⟩) hHeld ?_; rotate_left; (focus (intro w' hSw; (try dsimp only at hSw); (try go_split_ands); go_simp; try with_reducible rfl))
  try simp only [List.getElem_toArray, List.getElem_cons_zero, List.getElem_cons_succ, Act.put, List.setIfInBounds_toArray, List.set_cons_zero, List.set_cons_succ]
  refine wpAnyH_take (i := 20) (v := ?_) rfl (by kernel_rfl) (by kernel_rfl) (by kernel_rfl) (fun _ _ _ h => h) (Or.inl ⟨by rfl, ?_⟩) hHeld ?_; rotate_left; (focus (intro w' hSw; (try dsimp only at hSw); (try go_split_ands); go_simp; try with_reducible rfl))
  try simp only [List.getElem_toArray, List.getElem_cons_zero, List.getElem_cons_succ, Act.put, List.setIfInBounds_toArray, List.set_cons_zero, List.set_cons_succ]
  refine wpAnyH_take (i := 21) (v := ?_) rfl (by kernel_rfl) (by kernel_rfl) (by kernel_rfl) (fun _ _ _ h => h) (Or.inl ⟨by rfl, ?_⟩) hHeld ?_; rotate_left; (focus (intro w' hSw; (try dsimp only at hSw); (try go_split_ands); go_simp; try with_reducible rfl))
  try simp only [List.getElem_toArray, List.getElem_cons_zero, List.getElem_cons_succ, Act.put, List.setIfInBounds_toArray, List.set_cons_zero, List.set_cons_succ]
  refine wpAnyH_take (i := 22) (v := ?_) rfl (by kernel_rfl) (by kernel_rfl) (by kernel_rfl) (fun _ _ _ h => h) (Or.inl ⟨by rfl, ?_⟩) hHeld ?_; rotate_left; (focus (intro w' hSw; (try dsimp only at hSw); (try go_split_ands); go_simp; try with_reducible rfl))
  try simp only [List.getElem_toArray, List.getElem_cons_zero, List.getElem_cons_succ, Act.put, List.setIfInBounds_toArray, List.set_cons_zero, List.set_cons_succ]
  refine wpAnyH_take (i := 23) (v := ?_) rfl (by kernel_rfl) (by kernel_rfl) (by kernel_rfl) (fun _ _ _ h => h) (Or.inl ⟨by rfl, ?_⟩) hHeld ?_; rotate_left; (focus (intro w' hSw; (try dsimp only at hSw); (try go_split_ands); go_simp; try with_reducible rfl))
  try simp only [List.getElem_toArray, List.getElem_cons_zero, List.getElem_cons_succ, Act.put, List.setIfInBounds_toArray, List.set_cons_zero, List.set_cons_succ]
  refine wpAnyH_take (i := 24) (v := ?_) rfl (by kernel_rfl) (by kernel_rfl) (by kernel_rfl) (fun _ _ _ h => h) (Or.inl ⟨by rfl, ?_⟩) hHeld ?_; rotate_left; (focus (intro w' hSw; (try dsimp only at hSw); (try go_split_ands); go_simp; try with_reducible rfl))
  try simp only [List.getElem_toArray, List.getElem_cons_zero, List.getElem_cons_succ, Act.put, List.setIfInBounds_toArray, List.set_cons_zero, List.set_cons_succ]
  refine wpAnyH_take (i := 25) (v := ?_) rfl (by kernel_rfl) (by kernel_rfl) (by kernel_rfl) (fun _ _ _ h => h) (Or.inl ⟨by rfl, ?_⟩) hHeld ?_; rotate_left; (focus (intro w' hSw; (try dsimp only at hSw); (try go_split_ands); go_simp; try with_reducible rfl))
  try simp only [List.getElem_toArray, List.getElem_cons_zero, List.getElem_cons_succ, Act.put, List.setIfInBounds_toArray, List.set_cons_zero, List.set_cons_succ]
  refine wpAnyH_take (i := 26) (v := ?_) rfl (by kernel_rfl) (by kernel_rfl) (by kernel_rfl) (fun _ _ _ h => h) (Or.inl ⟨by rfl, ?_⟩) hHeld ?_; rotate_left; (focus (intro w' hSw; (try dsimp only at hSw); (try go_split_ands); go_simp; try with_reducible rfl))
  try simp only [List.getElem_toArray, List.getElem_cons_zero, List.getElem_cons_succ, Act.put, List.setIfInBounds_toArray, List.set_cons_zero, List.set_cons_succ]
  refine wpAnyH_take (i := 27) (v := ?_) rfl (by kernel_rfl) (by kernel_rfl) (by kernel_rfl) (fun _ _ _ h => h) (Or.inl ⟨by rfl, ?_⟩) hHeld ?_; rotate_left; (focus (intro w' hSw; (try dsimp only at hSw); (try go_split_ands); go_simp; try with_reducible rfl))
  try simp only [List.getElem_toArray, List.getElem_cons_zero, List.getElem_cons_succ, Act.put, List.setIfInBounds_toArray, List.set_cons_zero, List.set_cons_succ]
  refine wpAnyH_ready (rs := [28]) (by kernel_rfl) (by simp) ?_
  refine AllReadyH.cons rfl (fun K hK => ?_) AllReadyH.nil
  have HK28 := hide hK
  clear hK
  go_simp
  go_at_call 79
  refine ((HS _).out).mono ?_
  rintro e W8 ⟨rfl, hbW8⟩
  have hC8 : Below W5.heap.size W5 W8 := hC7.trans (hbW8.mono hC7.size)
  clear hHeld
  have hHeld : W8.cell? ⟨a1, 0, none⟩ = some (.slice D1 (ints [9]).length q1) ∧ W8.cell? ⟨a1, 1, none⟩ = some (.int .i64 9) ∧ W8.cell? ⟨a1, 2, none⟩ = some (.bool true) ∧ W8.cell? ⟨a1, 3, none⟩ = some (.int .i64 7) ∧ W8.cell? ⟨a1, 4, none⟩ = some (.slice E1 1 p1) ∧ W8.cell? ⟨a5, 0, none⟩ = some (.slice D4 (ints []).length q4) ∧ W8.cell? ⟨a5, 1, none⟩ = some (.int .i64 0) ∧ W8.cell? ⟨a5, 2, none⟩ = some (.bool false) ∧ W8.cell? ⟨a5, 3, none⟩ = some (.int .i64 4) ∧ W8.cell? ⟨a5, 4, none⟩ = some (.slice E4 1 p4) := ⟨((bcell hC8).1 _ _ l1).trans c0, ((bcell hC8).1 _ _ l1).trans c1, ((bcell hC8).1 _ _ l1).trans c2, ((bcell hC8).1 _ _ l1).trans c3, ((bcell hC8).1 _ _ l1).trans c4, ((bcell hC8).1 _ _ l5).trans d0, ((bcell hC8).1 _ _ l5).trans d1, ((bcell hC8).1 _ _ l5).trans d2, ((bcell hC8).1 _ _ l5).trans d3, ((bcell hC8).1 _ _ l5).trans d4⟩
  refine Shut.out HK28.out _ _ hHeld (fun _ => ?_)
  try simp only [List.getElem_toArray, List.getElem_cons_zero, List.getElem_cons_succ, Act.put, List.setIfInBounds_toArray, List.set_cons_zero, List.set_cons_succ]
  clear HK28
  refine wpAnyH_ready (rs := [29]) (by kernel_rfl) (by simp) ?_
  refine AllReadyH.cons rfl (fun K hK => ?_) AllReadyH.nil
  have HK29 := hide hK
  clear hK
  go_simp
  go_at_call 47
  refine ((HT1 _ hC8).out).mono ?_
  rintro e W9 ⟨rfl, hbW9⟩
  have hC9 : Below W5.heap.size W5 W9 := hC8.trans (hbW9.mono hC8.size)
  clear hHeld
  have hHeld : W9.cell? ⟨a1, 0, none⟩ = some (.slice D1 (ints [9]).length q1) ∧ W9.cell? ⟨a1, 1, none⟩ = some (.int .i64 9) ∧ W9.cell? ⟨a1, 2, none⟩ = some (.bool true) ∧ W9.cell? ⟨a1, 3, none⟩ = some (.int .i64 7) ∧ W9.cell? ⟨a1, 4, none⟩ = some (.slice E1 1 p1) ∧ W9.cell? ⟨a5, 0, none⟩ = some (.slice D4 (ints []).length q4) ∧ W9.cell? ⟨a5, 1, none⟩ = some (.int .i64 0) ∧ W9.cell? ⟨a5, 2, none⟩ = some (.bool false) ∧ W9.cell? ⟨a5, 3, none⟩ = some (.int .i64 4) ∧ W9.cell? ⟨a5, 4, none⟩ = some (.slice E4 1 p4) := ⟨((bcell hC9).1 _ _ l1).trans c0, ((bcell hC9).1 _ _ l1).trans c1, ((bcell hC9).1 _ _ l1).trans c2, ((bcell hC9).1 _ _ l1).trans c3, ((bcell hC9).1 _ _ l1).trans c4, ((bcell hC9).1 _ _ l5).trans d0, ((bcell hC9).1 _ _ l5).trans d1, ((bcell hC9).1 _ _ l5).trans d2, ((bcell hC9).1 _ _ l5).trans d3, ((bcell hC9).1 _ _ l5).trans d4⟩
  refine Shut.out HK29.out _ _ hHeld (fun _ => ?_)
  try simp only [List.getElem_toArray, List.getElem_cons_zero, List.getElem_cons_succ, Act.put, List.setIfInBounds_toArray, List.set_cons_zero, List.set_cons_succ]
  clear HK29
  refine wpAnyH_take (i := 30) (v := ?_) rfl (by kernel_rfl) (by kernel_rfl) (by kernel_rfl) (fun _ _ _ h => h) (Or.inl ⟨by rfl, ?_⟩) hHeld ?_; rotate_left; (focus (intro w' hSw; (try dsimp only at hSw); (try go_split_ands); go_simp; try with_reducible rfl))
  try simp only [List.getElem_toArray, List.getElem_cons_zero, List.getElem_cons_succ, Act.put, List.setIfInBounds_toArray, List.set_cons_zero, List.set_cons_succ]
  refine wpAnyH_take (i := 31) (v := ?_) rfl (by kernel_rfl) (by kernel_rfl) (by kernel_rfl) (fun _ _ _ h => h) (Or.inl ⟨by rfl, ?_⟩) hHeld ?_; rotate_left; (focus (intro w' hSw; (try dsimp only at hSw); (try go_split_ands); go_simp; try with_reducible rfl))
  try simp only [List.getElem_toArray, List.getElem_cons_zero, List.getElem_cons_succ, Act.put, List.setIfInBounds_toArray, List.set_cons_zero, List.set_cons_succ]
  refine wpAnyH_take (i := 32) (v := ?_) rfl (by kernel_rfl) (by kernel_rfl) (by kernel_rfl) (fun _ _ _ h => h) (Or.inl ⟨by rfl, ?_⟩) hHeld ?_; rotate_left; (focus (intro w' hSw; (try dsimp only at hSw); (try go_split_ands); go_simp; try with_reducible rfl))
  try simp only [List.getElem_toArray, List.getElem_cons_zero, List.getElem_cons_succ, Act.put, List.setIfInBounds_toArray, List.set_cons_zero, List.set_cons_succ]
  refine wpAnyH_take (i := 33) (v := ?_) rfl (by kernel_rfl) (by kernel_rfl) (by kernel_rfl) (fun _ _ _ h => h) (Or.inl ⟨by rfl, ?_⟩) hHeld ?_; rotate_left; (focus (intro w' hSw; (try dsimp only at hSw); (try go_split_ands); go_simp; try with_reducible rfl))
  try simp only [List.getElem_toArray, List.getElem_cons_zero, List.getElem_cons_succ, Act.put, List.setIfInBounds_toArray, List.set_cons_zero, List.set_cons_succ]
  refine wpAnyH_take (i := 34) (v := ?_) rfl (by kernel_rfl) (by kernel_rfl) (by kernel_rfl) (fun _ _ _ h => h) (Or.inl ⟨by rfl, ?_⟩) hHeld ?_; rotate_left; (focus (intro w' hSw; (try dsimp only at hSw); (try go_split_ands); go_simp; try with_reducible rfl))
  try simp only [List.getElem_toArray, List.getElem_cons_zero, List.getElem_cons_succ, Act.put, List.setIfInBounds_toArray, List.set_cons_zero, List.set_cons_succ]
  refine wpAnyH_take (i := 35) (v := ?_) rfl (by kernel_rfl) (by kernel_rfl) (by kernel_rfl) (fun _ _ _ h => h) (Or.inl ⟨by rfl, ?_⟩) hHeld ?_; rotate_left; (focus (intro w' hSw; (try dsimp only at hSw); (try go_split_ands); go_simp; try with_reducible rfl))
  try simp only [List.getElem_toArray, List.getElem_cons_zero, List.getElem_cons_succ, Act.put, List.setIfInBounds_toArray, List.set_cons_zero, List.set_cons_succ]
  refine wpAnyH_take (i := 36) (v := ?_) rfl (by kernel_rfl) (by kernel_rfl) (by kernel_rfl) (fun _ _ _ h => h) (Or.inl ⟨by rfl, ?_⟩) hHeld ?_; rotate_left; (focus (intro w' hSw; (try dsimp only at hSw); (try go_split_ands); go_simp; try with_reducible rfl))
  try simp only [List.getElem_toArray, List.getElem_cons_zero, List.getElem_cons_succ, Act.put, List.setIfInBounds_toArray, List.set_cons_zero, List.set_cons_succ]
  refine wpAnyH_take (i := 37) (v := ?_) rfl (by kernel_rfl) (by kernel_rfl) (by kernel_rfl) (fun _ _ _ h => h) (Or.inl ⟨by rfl, ?_⟩) hHeld ?_; rotate_left; (focus (intro w' hSw; (try dsimp only at hSw); (try go_split_ands); go_simp; try with_reducible rfl))
  try simp only [List.getElem_toArray, List.getElem_cons_zero, List.getElem_cons_succ, Act.put, List.setIfInBounds_toArray, List.set_cons_zero, List.set_cons_succ]
  refine wpAnyH_take (i := 38) (v := ?_) rfl (by kernel_rfl) (by kernel_rfl) (by kernel_rfl) (fun _ _ _ h => h) (Or.inl ⟨by rfl, ?_⟩) hHeld ?_; rotate_left; (focus (intro w' hSw; (try dsimp only at hSw); (try go_split_ands); go_simp; try with_reducible rfl))
  try simp only [List.getElem_toArray, List.getElem_cons_zero, List.getElem_cons_succ, Act.put, List.setIfInBounds_toArray, List.set_cons_zero, List.set_cons_succ]
  refine wpAnyH_take (i := 39) (v := ?_) rfl (by kernel_rfl) (by kernel_rfl) (by kernel_rfl) (fun _ _ _ h => h) (Or.inl ⟨by rfl, ?_⟩) hHeld ?_; rotate_left; (focus (intro w' hSw; (try dsimp only at hSw); (try go_split_ands); go_simp; try with_reducible rfl))
  try simp only [List.getElem_toArray, List.getElem_cons_zero, List.getElem_cons_succ, Act.put, List.setIfInBounds_toArray, List.set_cons_zero, List.set_cons_succ]
  refine wpAnyH_take (i := 40) (v := ?_) rfl (by kernel_rfl) (by kernel_rfl) (by kernel_rfl) (fun _ _ _ h => h) (Or.inl ⟨by rfl, ?_⟩) hHeld ?_; rotate_left; (focus (intro w' hSw; (try dsimp only at hSw); (try go_split_ands); go_simp; try with_reducible rfl))
  try simp only [List.getElem_toArray, List.getElem_cons_zero, List.getElem_cons_succ, Act.put, List.setIfInBounds_toArray, List.set_cons_zero, List.set_cons_succ]
  refine wpAnyH_take (i := 41) (v := ?_) rfl (by kernel_rfl) (by kernel_rfl) (by kernel_rfl) (fun _ _ _ h => h) (Or.inl ⟨by rfl, ?_⟩) hHeld ?_; rotate_left; (focus (intro w' hSw; (try dsimp only at hSw); (try go_split_ands); go_simp; try with_reducible rfl))
  try simp only [List.getElem_toArray, List.getElem_cons_zero, List.getElem_cons_succ, Act.put, List.setIfInBounds_toArray, List.set_cons_zero, List.set_cons_succ]
  refine wpAnyH_take (i := 42) (v := ?_) rfl (by kernel_rfl) (by kernel_rfl) (by kernel_rfl) (fun _ _ _ h => h) (Or.inl ⟨by rfl, ?_⟩) hHeld ?_; rotate_left; (focus (intro w' hSw; (try dsimp only at hSw); (try go_split_ands); go_simp; try with_reducible rfl))
  try simp only [List.getElem_toArray, List.getElem_cons_zero, List.getElem_cons_succ, Act.put, List.setIfInBounds_toArray, List.set_cons_zero, List.set_cons_succ]
  refine wpAnyH_take (i := 43) (v := ?_) rfl (by kernel_rfl) (by kernel_rfl) (by kernel_rfl) (fun _ _ _ h => h) (Or.inl ⟨by rfl, ?_⟩) hHeld ?_; rotate_left; (focus (intro w' hSw; (try dsimp only at hSw); (try go_split_ands); go_simp; try with_reducible rfl))
  try simp only [List.getElem_toArray, List.getElem_cons_zero, List.getElem_cons_succ, Act.put, List.setIfInBounds_toArray, List.set_cons_zero, List.set_cons_succ]
  refine wpAnyH_ready (rs := [44]) (by kernel_rfl) (by simp) ?_
  refine AllReadyH.cons rfl (fun K hK => ?_) AllReadyH.nil
  have HK44 := hide hK
  clear hK
  go_simp
  go_at_call 79
  refine ((HS _).out).mono ?_
  rintro e W10 ⟨rfl, hbW10⟩
  have hC10 : Below W5.heap.size W5 W10 := hC9.trans (hbW10.mono hC9.size)
  clear hHeld
  have hHeld : W10.cell? ⟨a1, 0, none⟩ = some (.slice D1 (ints [9]).length q1) ∧ W10.cell? ⟨a1, 1, none⟩ = some (.int .i64 9) ∧ W10.cell? ⟨a1, 2, none⟩ = some (.bool true) ∧ W10.cell? ⟨a1, 3, none⟩ = some (.int .i64 7) ∧ W10.cell? ⟨a1, 4, none⟩ = some (.slice E1 1 p1) ∧ W10.cell? ⟨a5, 0, none⟩ = some (.slice D4 (ints []).length q4) ∧ W10.cell? ⟨a5, 1, none⟩ = some (.int .i64 0) ∧ W10.cell? ⟨a5, 2, none⟩ = some (.bool false) ∧ W10.cell? ⟨a5, 3, none⟩ = some (.int .i64 4) ∧ W10.cell? ⟨a5, 4, none⟩ = some (.slice E4 1 p4) := ⟨((bcell hC10).1 _ _ l1).trans c0, ((bcell hC10).1 _ _ l1).trans c1, ((bcell hC10).1 _ _ l1).trans c2, ((bcell hC10).1 _ _ l1).trans c3, ((bcell hC10).1 _ _ l1).trans c4, ((bcell hC10).1 _ _ l5).trans d0, ((bcell hC10).1 _ _ l5).trans d1, ((bcell hC10).1 _ _ l5).trans d2, ((bcell hC10).1 _ _ l5).trans d3, ((bcell hC10).1 _ _ l5).trans d4⟩
  refine Shut.out HK44.out _ _ hHeld (fun _ => ?_)
  try simp only [List.getElem_toArray, List.getElem_cons_zero, List.getElem_cons_succ, Act.put, List.setIfInBounds_toArray, List.set_cons_zero, List.set_cons_succ]
  clear HK44
  refine wpAnyH_ready (rs := [45]) (by kernel_rfl) (by simp) ?_
  refine AllReadyH.cons rfl (fun K hK => ?_) AllReadyH.nil
  have HK45 := hide hK
  clear hK
  go_simp
  go_at_call 47
  refine ((HT2 _ hC10).out).mono ?_
  rintro e W11 ⟨rfl, hbW11⟩
  have hC11 : Below W5.heap.size W5 W11 := hC10.trans (hbW11.mono hC10.size)
  clear hHeld
  have hHeld : W11.cell? ⟨a1, 0, none⟩ = some (.slice D1 (ints [9]).length q1) ∧ W11.cell? ⟨a1, 1, none⟩ = some (.int .i64 9) ∧ W11.cell? ⟨a1, 2, none⟩ = some (.bool true) ∧ W11.cell? ⟨a1, 3, none⟩ = some (.int .i64 7) ∧ W11.cell? ⟨a1, 4, none⟩ = some (.slice E1 1 p1) ∧ W11.cell? ⟨a5, 0, none⟩ = some (.slice D4 (ints []).length q4) ∧ W11.cell? ⟨a5, 1, none⟩ = some (.int .i64 0) ∧ W11.cell? ⟨a5, 2, none⟩ = some (.bool false) ∧ W11.cell? ⟨a5, 3, none⟩ = some (.int .i64 4) ∧ W11.cell? ⟨a5, 4, none⟩ = some (.slice E4 1 p4) := ⟨((bcell hC11).1 _ _ l1).trans c0, ((bcell hC11).1 _ _ l1).trans c1, ((bcell hC11).1 _ _ l1).trans c2, ((bcell hC11).1 _ _ l1).trans c3, ((bcell hC11).1 _ _ l1).trans c4, ((bcell hC11).1 _ _ l5).trans d0, ((bcell hC11).1 _ _ l5).trans d1, ((bcell hC11).1 _ _ l5).trans d2, ((bcell hC11).1 _ _ l5).trans d3, ((bcell hC11).1 _ _ l5).trans d4⟩
  refine Shut.out HK45.out _ _ hHeld (fun _ => ?_)
  try simp only [List.getElem_toArray, List.getElem_cons_zero, List.getElem_cons_succ, Act.put, List.setIfInBounds_toArray, List.set_cons_zero, List.set_cons_succ]
  clear HK45
  refine wpAnyH_take (i := 46) (v := ?_) rfl (by kernel_rfl) (by kernel_rfl) (by kernel_rfl) (fun _ _ _ h => h) (Or.inl ⟨by rfl, ?_⟩) hHeld ?_; rotate_left; (focus (intro w' hSw; (try dsimp only at hSw); (try go_split_ands); go_simp; try with_reducible rfl))
  try simp only [List.getElem_toArray, List.getElem_cons_zero, List.getElem_cons_succ, Act.put, List.setIfInBounds_toArray, List.set_cons_zero, List.set_cons_succ]
  refine wpAnyH_take (i := 47) (v := ?_) rfl (by kernel_rfl) (by kernel_rfl) (by kernel_rfl) (fun _ _ _ h => h) (Or.inl ⟨by rfl, ?_⟩) hHeld ?_; rotate_left; (focus (intro w' hSw; (try dsimp only at hSw); (try go_split_ands); go_simp; try with_reducible rfl))
  try simp only [List.getElem_toArray, List.getElem_cons_zero, List.getElem_cons_succ, Act.put, List.setIfInBounds_toArray, List.set_cons_zero, List.set_cons_succ]
  refine wpAnyH_take (i := 48) (v := ?_) rfl (by kernel_rfl) (by kernel_rfl) (by kernel_rfl) (fun _ _ _ h => h) (Or.inl ⟨by rfl, ?_⟩) hHeld ?_; rotate_left; (focus (intro w' hSw; (try dsimp only at hSw); (try go_split_ands); go_simp; try with_reducible rfl))
  try simp only [List.getElem_toArray, List.getElem_cons_zero, List.getElem_cons_succ, Act.put, List.setIfInBounds_toArray, List.set_cons_zero, List.set_cons_succ]
  refine wpAnyH_done (by kernel_rfl) ?_ _
  go_wp2_with fail
  go_ret
  exact ⟨rfl, hBw.trans (hC11.mono hBw.size)⟩
end Go.Proofs.Ytmghkonmfbpjcaa
