/- The laws of the text: what must be in any case. -/
import Derived.Test.YtmghkonmfbpjcabDoorTxY
import Derived.Test.YtmghkonmfbpjcabDoorTxF
import Derived.Test.YtmghkonmfbpjcabDoorSmall
import Derived.Deep.RegionHeld3
import Derived.Deep.MidRow
namespace Go.Proofs.YtmghkonmfbpjcabDoor
set_option linter.unusedVariables false
set_option linter.unusedSimpArgs false
open Go.RowKit
set_option maxHeartbeats 8000000
open Go.Lib

theorem small_chk : chk 3 smallL = 0 := by decide
theorem small_fit : Fit smallL := by
  have h : smallL.all (fun n => decide (-9223372036854775808 ≤ n.op ∧ n.op ≤ 9223372036854775807) && decide (-9223372036854775808 ≤ n.d ∧ n.d ≤ 9223372036854775807) && decide (-9223372036854775808 ≤ n.a ∧ n.a ≤ 9223372036854775807) && decide (-9223372036854775808 ≤ n.b ∧ n.b ≤ 9223372036854775807) && decide (-9223372036854775808 ≤ n.t ∧ n.t ≤ 9223372036854775807) && decide (-9223372036854775808 ≤ n.e ∧ n.e ≤ 9223372036854775807)) = true := by decide
  intro n hn i hi
  have := List.all_eq_true.1 h n hn
  simp only [Bool.and_eq_true, decide_eq_true_eq] at this
  rcases i with _ | _ | _ | _ | _ | _ | i <;> first | exact this.1.1.1.1.1 | exact this.1.1.1.1.2 | exact this.1.1.1.2 | exact this.1.1.2 | exact this.1.2 | exact this.2 | omega
theorem itoa_d {k : Nat} (h : k < 10) : itoa (k : Int) = [UInt8.ofNat (48 + k)] := by
  rw [itoa_split, if_neg (by omega), List.nil_append, Int.natAbs_natCast, dec_small h]
theorem small_text : showL 3 smallL = [114, 101, 103, 115, 32, 51, 10, 105, 110, 32, 48, 32, 116, 111, 32, 49, 10, 105, 110, 32, 49, 32, 116, 111, 32, 50, 10, 105, 102, 32, 48, 32, 116, 111, 32, 51, 32, 101, 108, 115, 101, 32, 53, 10, 97, 100, 100, 32, 50, 32, 48, 32, 49, 32, 116, 111, 32, 52, 10, 111, 117, 116, 32, 50, 32, 116, 111, 32, 53, 10, 97, 100, 100, 32, 50, 32, 48, 32, 49, 32, 116, 111, 32, 54, 10, 101, 110, 100, 32, 50, 10] := by
  have h0 : itoa 0 = [48] := itoa_d (k := 0) (by omega)
  have h1 : itoa 1 = [49] := itoa_d (k := 1) (by omega)
  have h2 : itoa 2 = [50] := itoa_d (k := 2) (by omega)
  have h3 : itoa 3 = [51] := itoa_d (k := 3) (by omega)
  have h4 : itoa 4 = [52] := itoa_d (k := 4) (by omega)
  have h5 : itoa 5 = [53] := itoa_d (k := 5) (by omega)
  have h6 : itoa 6 = [54] := itoa_d (k := 6) (by omega)
  simp [showL, linesL, smallL, lineL, nodeL, wordsL, partsL, partW, joinB, Nd.fld, regsW, toW, elseW, opW, opNames, h0, h1, h2, h3, h4, h5, h6]
theorem small_len : (showL 3 smallL).length ≤ 4294967280 := by
  rw [small_text]
  decide
set_option maxRecDepth 100000 in
theorem textBegun_any (w : World) (hT : Tv w) : Calls Tryd.prog 19 #[] w fun e w' => e = .returned (.bool true) ∧ Below w.heap.size w w' := by
  have HSm := fun W => hide (small_row W)
  go_enter Tryd.func19, Tryd.ntmps19
  go_wp2_with fail
  refine Calls.mono (HSm _).out ?_
  rintro e w1 ⟨g1, rfl, hN1, hb1⟩
  have hT1 := hT.below hb1
  have HSh := hide (Show_ok 3 (some ⟨g1, 0, none⟩) smallL 7 w1 (by unfold maxLen; decide) hN1.nodes small_chk hT1 small_fit)
  go_wp2_with fail
  refine Calls.mono HSh.out ?_
  rintro e w2 ⟨rfl, hb2⟩
  have hT2 := hT1.below hb2
  have HR := hide (Read_any (showL 3 smallL) small_len w2 hT2)
  go_wp2_with fail
  refine Calls.mono HR.out ?_
  rintro e w3 ⟨regs, l, v, ok, rfl, hN3, hb3, hgot⟩
  obtain ⟨hok, rfl, rfl⟩ := hgot.same (Or.inl ⟨rfl, small_chk, small_fit, rfl⟩ : Got (showL 3 smallL) 3 smallL true)
  subst hok
  obtain ⟨A3, c3, rfl, _, _⟩ := hN3.shape
  rw [small_text]
  have hl7 : smallL.length = 7 := rfl
  rw [hl7] at *
  clear HR HSh
  go_upto_region 3 with fail
  have hX := Blk.new w3 24 #[.int .i64 3, .slice A3 7 c3]
  have hN4 := hN3.alloc (.cells #[.int .i64 3, .slice A3 7 c3] 24)
  have hB4 : Below w.heap.size w (w3.alloc (.cells #[.int .i64 3, .slice A3 7 c3] 24)) := (hb1.trans ((hb2.trans (hb3.mono hb2.size)).mono hb1.size)).alloc (by have := hb1.size; have := hb2.size; have := hb3.size; omega) _
  generalize w3.alloc (.cells #[.int .i64 3, .slice A3 7 c3] 24) = w4 at *
  generalize w3.heap.size = gx at *
  have x0 := hX.cell 0
  have x1 := hX.cell 1
  have lX := hX.lt
  simp only [List.getElem?_toArray, List.getElem?_cons_zero, List.getElem?_cons_succ] at x0 x1
  have HN4 := hide hN4
  have HX := hide hX
  clear hN3 hN1 hb1 hb2 hb3 hN4 hX
  -- region 3
  refine wp_region_held_drew (S := fun w' => w'.cell? ⟨gx, 0, none⟩ = some (.int .i64 3) ∧ w'.cell? ⟨gx, 1, none⟩ = some (.slice A3 7 c3)) (by kernel_rfl) ⟨x0, x1⟩ ?_
  intro hHeld
  have hC0 : Below w4.heap.size w4 w4.drew := (Below.refl _ _).drew
  refine wpAnyH_take (i := 0) (v := ?_) rfl (by kernel_rfl) (by kernel_rfl) (by kernel_rfl) (fun _ _ _ h => h) (Or.inl ⟨by rfl, ?_⟩) hHeld ?_; rotate_left; (focus (intro w' hSw; clear hSw; go_simp; try with_reducible rfl))
  try simp only [List.getElem_toArray, List.getElem_cons_zero, List.getElem_cons_succ, Act.put, List.setIfInBounds_toArray, List.set_cons_zero, List.set_cons_succ]
  refine wpAnyH_take (i := 1) (v := ?_) rfl (by kernel_rfl) (by kernel_rfl) (by kernel_rfl) (fun _ _ _ h => h) (Or.inl ⟨by rfl, ?_⟩) hHeld ?_; rotate_left; (focus (intro w' hSw; clear hSw; go_simp; try with_reducible rfl))
  try simp only [List.getElem_toArray, List.getElem_cons_zero, List.getElem_cons_succ, Act.put, List.setIfInBounds_toArray, List.set_cons_zero, List.set_cons_succ]
  refine wpAnyH_take (i := 2) (v := ?_) rfl (by kernel_rfl) (by kernel_rfl) (by kernel_rfl) (fun _ _ _ h => h) (Or.inl ⟨by rfl, ?_⟩) hHeld ?_; rotate_left; (focus (intro w' hSw; clear hSw; go_simp; try with_reducible rfl))
  try simp only [List.getElem_toArray, List.getElem_cons_zero, List.getElem_cons_succ, Act.put, List.setIfInBounds_toArray, List.set_cons_zero, List.set_cons_succ]
  refine wpAnyH_take (i := 3) (v := ?_) rfl (by kernel_rfl) (by kernel_rfl) (by kernel_rfl) (fun _ _ _ h => h) (Or.inl ⟨by rfl, ?_⟩) hHeld ?_; rotate_left; (focus (intro w' hSw; clear hSw; go_simp; try with_reducible rfl))
  try simp only [List.getElem_toArray, List.getElem_cons_zero, List.getElem_cons_succ, Act.put, List.setIfInBounds_toArray, List.set_cons_zero, List.set_cons_succ]
  refine wpAnyH_take (i := 4) (v := ?_) rfl (by kernel_rfl) (by kernel_rfl) (by kernel_rfl) (fun _ _ _ h => h) (Or.inl ⟨by rfl, ?_⟩) hHeld ?_; rotate_left; (focus (intro w' hSw; clear hSw; go_simp; try with_reducible rfl))
  try simp only [List.getElem_toArray, List.getElem_cons_zero, List.getElem_cons_succ, Act.put, List.setIfInBounds_toArray, List.set_cons_zero, List.set_cons_succ]
  refine wpAnyH_take (i := 5) (v := ?_) rfl (by kernel_rfl) (by kernel_rfl) (by kernel_rfl) (fun _ _ _ h => h) (Or.inl ⟨by rfl, ?_⟩) hHeld ?_; rotate_left; (focus (intro w' hSw; clear hSw; go_simp; try with_reducible rfl))
  try simp only [List.getElem_toArray, List.getElem_cons_zero, List.getElem_cons_succ, Act.put, List.setIfInBounds_toArray, List.set_cons_zero, List.set_cons_succ]
  refine wpAnyH_take (i := 6) (v := ?_) rfl (by kernel_rfl) (by kernel_rfl) (by kernel_rfl) (fun _ _ _ h => h) (Or.inl ⟨by rfl, ?_⟩) hHeld ?_; rotate_left; (focus (intro w' hSw; clear hSw; go_simp; try with_reducible rfl))
  try simp only [List.getElem_toArray, List.getElem_cons_zero, List.getElem_cons_succ, Act.put, List.setIfInBounds_toArray, List.set_cons_zero, List.set_cons_succ]
  refine wpAnyH_take (i := 7) (v := ?_) rfl (by kernel_rfl) (by kernel_rfl) (by kernel_rfl) (fun _ _ _ h => h) (Or.inl ⟨by rfl, ?_⟩) hHeld ?_; rotate_left; (focus (intro w' hSw; clear hSw; go_simp; try with_reducible rfl))
  try simp only [List.getElem_toArray, List.getElem_cons_zero, List.getElem_cons_succ, Act.put, List.setIfInBounds_toArray, List.set_cons_zero, List.set_cons_succ]
  refine wpAnyH_take (i := 8) (v := .bool true) rfl (by kernel_rfl) (by kernel_rfl) (by kernel_rfl) (fun _ _ _ h => h) (Or.inl ⟨by rfl, ?_⟩) hHeld ?_; (focus (intro w' hSw; clear hSw; kernel_rfl))
  try simp only [List.getElem_toArray, List.getElem_cons_zero, List.getElem_cons_succ, Act.put, List.setIfInBounds_toArray, List.set_cons_zero, List.set_cons_succ]
  refine wpAnyH_take (i := 9) (v := ?_) rfl (by kernel_rfl) (by kernel_rfl) (by kernel_rfl) (fun _ _ _ h => h) (Or.inl ⟨by rfl, ?_⟩) hHeld ?_; rotate_left; (focus (intro w' hSw; clear hSw; go_simp; try with_reducible rfl))
  try simp only [List.getElem_toArray, List.getElem_cons_zero, List.getElem_cons_succ, Act.put, List.setIfInBounds_toArray, List.set_cons_zero, List.set_cons_succ]
  refine wpAnyH_take (i := 10) (v := ?_) rfl (by kernel_rfl) (by kernel_rfl) (by kernel_rfl) (fun _ _ _ h => h) (Or.inl ⟨by rfl, ?_⟩) hHeld ?_; rotate_left; (focus (intro w' hSw; clear hSw; go_simp; try with_reducible rfl))
  try simp only [List.getElem_toArray, List.getElem_cons_zero, List.getElem_cons_succ, Act.put, List.setIfInBounds_toArray, List.set_cons_zero, List.set_cons_succ]
  refine wpAnyH_take (i := 11) (v := ?_) rfl (by kernel_rfl) (by kernel_rfl) (by kernel_rfl) (fun _ _ _ h => h) (Or.inl ⟨by rfl, ?_⟩) hHeld ?_; rotate_left; (focus (intro w' hSw; (try dsimp only at hSw); (try go_split_ands); go_simp; try with_reducible rfl))
  try simp only [List.getElem_toArray, List.getElem_cons_zero, List.getElem_cons_succ, Act.put, List.setIfInBounds_toArray, List.set_cons_zero, List.set_cons_succ]
  refine wpAnyH_ready (rs := [12]) (by kernel_rfl) (by simp) ?_
  refine AllReadyH.cons rfl (fun K hK => ?_) AllReadyH.nil
  have HK12 := hide hK
  clear hK
  go_simp
  go_at_call 26
  refine ((HSm _).out).mono ?_
  rintro e V1 ⟨g6, rfl, hN6, hbV1⟩
  have hC1 : Below w4.heap.size w4 V1 := hC0.trans (hbV1.mono hC0.size)
  clear hHeld
  have hHeld : V1.cell? ⟨gx, 0, none⟩ = some (.int .i64 3) ∧ V1.cell? ⟨gx, 1, none⟩ = some (.slice A3 7 c3) := ⟨((bcell hC1).1 _ _ lX).trans x0, ((bcell hC1).1 _ _ lX).trans x1⟩
  refine Shut.out HK12.out _ _ hHeld (fun _ => ?_)
  try simp only [List.getElem_toArray, List.getElem_cons_zero, List.getElem_cons_succ, Act.put, List.setIfInBounds_toArray, List.set_cons_zero, List.set_cons_succ]
  clear HK12
  refine wpAnyH_ready (rs := [13]) (by kernel_rfl) (by simp) ?_
  refine AllReadyH.cons rfl (fun K hK => ?_) AllReadyH.nil
  have HK13 := hide hK
  clear hK
  go_simp
  go_at_call 11
  refine (SameProgs_any 3 3 A3 (some ⟨g6, 0, none⟩) smallL smallL c3 7 _ (HN4.out.nodes.below hC1) hN6.nodes (by unfold maxLen; decide) (by unfold maxLen; decide)).mono ?_
  rintro e V2 ⟨rfl, hbV2⟩
  have hC2 : Below w4.heap.size w4 V2 := hC1.trans (hbV2.mono hC1.size)
  clear hHeld
  have hHeld : V2.cell? ⟨gx, 0, none⟩ = some (.int .i64 3) ∧ V2.cell? ⟨gx, 1, none⟩ = some (.slice A3 7 c3) := ⟨((bcell hC2).1 _ _ lX).trans x0, ((bcell hC2).1 _ _ lX).trans x1⟩
  refine Shut.out HK13.out _ _ hHeld (fun _ => ?_)
  try simp only [List.getElem_toArray, List.getElem_cons_zero, List.getElem_cons_succ, Act.put, List.setIfInBounds_toArray, List.set_cons_zero, List.set_cons_succ]
  clear HK13
  refine wpAnyH_take (i := 14) (v := ?_) rfl (by kernel_rfl) (by kernel_rfl) (by kernel_rfl) (fun _ _ _ h => h) (Or.inl ⟨by rfl, ?_⟩) hHeld ?_; rotate_left; (focus (intro w' hSw; clear hSw; go_simp; try with_reducible rfl))
  try simp only [List.getElem_toArray, List.getElem_cons_zero, List.getElem_cons_succ, Act.put, List.setIfInBounds_toArray, List.set_cons_zero, List.set_cons_succ]
  refine wpAnyH_take (i := 15) (v := ?_) rfl (by kernel_rfl) (by kernel_rfl) (by kernel_rfl) (fun _ _ _ h => h) (Or.inl ⟨by rfl, ?_⟩) hHeld ?_; rotate_left; (focus (intro w' hSw; clear hSw; go_simp; try with_reducible rfl))
  try simp only [List.getElem_toArray, List.getElem_cons_zero, List.getElem_cons_succ, Act.put, List.setIfInBounds_toArray, List.set_cons_zero, List.set_cons_succ]
  refine wpAnyH_done (by kernel_rfl) ?_ _
  -- end of region 3
  go_wp2_with fail
  go_ret
  exact ⟨rfl, hB4.trans (hC2.mono hB4.size)⟩
end Go.Proofs.YtmghkonmfbpjcabDoor
