/- WpW RunZ ResS RunW Does MsD. -/
import Derived.Test.YtmghkonmfbpjcaaGreatDoorGK
import Derived.Test.YtmghkonmfbpjcaaGreatDoorGA
import Derived.Test.YtmghkonmfbpjcaaGreatDoorGM
import Derived.Test.YtmghkonmfbpjcaaGreatDoorGC
import Derived.Test.YtmghkonmfbpjcaaGreatDoorGD
import Derived.Test.YtmghkonmfbpjcaaGreatDoorGE
import Derived.Test.YtmghkonmfbpjcaaGreatDoorGG
set_option linter.unusedVariables false
set_option linter.unusedSimpArgs false
namespace Go.Proofs.YtmghkonmfbpjcaaGreatDoor
section
open Go.RowKit
set_option maxHeartbeats 16000000
def smallW : List Nd := [⟨9, 0, 0, 0, 1, 0⟩, ⟨9, 1, 0, 0, 2, 0⟩, ⟨11, 0, 0, 0, 3, 7⟩, ⟨3, 3, 0, 1, 9, 0⟩, ⟨10, 0, 2, 0, 8, 0⟩, ⟨2, 2, 3, 0, 6, 0⟩, ⟨12, 0, 2, 0, 0, 0⟩, ⟨3, 3, 0, 1, 10, 0⟩, ⟨0, 0, 0, 0, 5, 0⟩, ⟨2, 2, 3, 0, 4, 0⟩, ⟨0, 0, 0, 0, 5, 0⟩]
theorem allE_smallW : allE 3 smallL = 0 := by decide +kernel
theorem allGo_smallW : allGo (allT smallL) 3 smallL = (0, 4, smallW) := by decide +kernel
theorem chk_smallW : chk 4 smallW = 0 := by decide
theorem trim_smallW : trimL smallW = smallW := by decide +kernel
theorem runE_smallW : runE 4 smallW [4, 5] 99 = 0 := by decide +kernel
theorem runS_smallW : runS 4 smallW [4, 5] 99 = ⟨[9], 9, true, 9, [(⟨3, 0, 1⟩, 1)]⟩ := of_decide_eq_true (by kernel_rfl)
theorem passes_smallW : PassesIs 3 smallL [2, 3, 4] 0 4 smallW := by
  refine .inr (.inr (.inr ⟨small_chk, by simp, ?_, ?_⟩))
  · intro n hn
    simp only [List.mem_cons, List.not_mem_nil, or_false] at hn
    omega
  · refine .next (r1 := 4) (l1 := smallW) (.inr (.inl ⟨rfl, .inr ⟨allE_smallW, rfl, ?_, ?_⟩⟩)) (.next (r1 := 4) (l1 := smallW) (.inr (.inr (.inl ⟨rfl, rfl, rfl, ?_⟩))) (.next (r1 := 4) (l1 := smallW) (.inr (.inr (.inr ⟨rfl, rfl, rfl, trim_smallW.symm⟩))) .nil))
    · rw [allGo_smallW]
    · rw [allGo_smallW]
    · exact ⟨.nil _, not_dead (right_of_chk chk_smallW) (by decide +kernel)⟩
theorem opt_small {t : List UInt8} {code : Int} (h : OptIs (showL 3 smallL) [2, 3, 4] t code) : t = showL 4 smallW ∧ code = 0 := by
  rcases h with ⟨h, _⟩ | ⟨r, l, c, r', l', hc, hf, hs, hp, h⟩
  · exact absurd rfl (h _ _ small_chk small_fit)
  · obtain ⟨e1, e2⟩ := show_inj (right_fit small_chk small_fit) (right_fit hc hf) hs
    subst e1 e2
    obtain ⟨e3, e4, e5⟩ := hp.same passes_smallW
    subst e3 e4 e5
    rcases h with ⟨h, _⟩ | ⟨_, h1, h2, _⟩
    · exact absurd rfl h
    · exact ⟨h2, h1⟩
theorem fit_smallW : Fit smallW := (passes_smallW.fine small_fit).2.2.2.2
set_option maxRecDepth 100000 in
theorem wholeBegun_any (w : World) (hT : Tv w) : Calls Tryz.prog 6 #[] w fun e w' => e = .returned (.bool true) ∧ Below w.heap.size w w' := by
  have HSm := fun W => hide (small_row W)
  go_enter Tryz.func6, Tryz.ntmps6
  go_wp2_with fail
  refine Calls.mono (HSm _).out ?_
  rintro e w1 ⟨g1, rfl, hN1, hb1⟩
  have hT1 := hT.below hb1
  have HSh := hide (Show_ok 3 (some ⟨g1, 0, none⟩) smallL 7 w1 (by unfold maxLen; decide) hN1.nodes small_chk hT1 small_fit)
  go_wp2_with fail
  refine Calls.mono HSh.out ?_
  rintro e w2 ⟨rfl, hb2⟩
  have hB2 := hb1.trans (hb2.mono hb1.size)
  have hB3 : Below w.heap.size w (w2.alloc (.cells #[.int .i64 2, .int .i64 3, .int .i64 4] 3)) := hB2.alloc hB2.size _
  have HO := hide (Optimise_any (showL 3 smallL) small_len (some ⟨w2.heap.size, 0, none⟩) [2, 3, 4] 3 _ (vals_lit_ (w := w2) (t := 3) (xs := ints [2, 3, 4]) rfl rfl) (by simp [maxLen]) (by intro n hn; simp only [List.mem_cons, List.not_mem_nil, or_false] at hn; rcases hn with rfl | rfl | rfl <;> decide) (hT.below hB3))
  clear HSh hb1 hb2 hN1 hT1
  go_wp2_with fail
  refine Calls.mono HO.out ?_
  rintro e w3 ⟨tx, code, rfl, hb3, hopt⟩
  obtain ⟨e1, e2⟩ := opt_small hopt
  subst e1 e2
  have hB4 := hB3.trans (hb3.mono hB3.size)
  have hlen : (showL 4 smallW).length ≤ 4294967280 := by
    have := showL_len (l := smallW) (regs := 4) ⟨by omega, by omega⟩ fit_smallW
    have h11 : smallW.length = 11 := rfl
    omega
  have HR := hide (Read_any (showL 4 smallW) hlen w3 (hT.below hB4))
  clear HO hopt hB3 hB2 hb3 hlen
  go_wp2_with fail
  refine Calls.mono HR.out ?_
  rintro e w4 ⟨r4, l4, v4, ok4, rfl, hN4, hb4, hg4⟩
  have hgW : TxGot (showL 4 smallW) 4 smallW true := Or.inl ⟨rfl, chk_smallW, fit_smallW, rfl⟩
  obtain ⟨e1, e2, e3⟩ := hg4.same hgW
  subst e1 e2 e3
  rw [if_pos rfl]
  obtain ⟨A4, c4, rfl, _, _⟩ := hN4.shape
  rw [show smallW.length = 11 from rfl] at *
  have hB5 := hB4.trans (hb4.mono hB4.size)
  clear HR hg4 hgW hB4 hb4
  have hX5 := Blk.new w4 24 #[.int .i64 4, .slice A4 11 c4]
  have hN5 := hN4.alloc (.cells #[.int .i64 4, .slice A4 11 c4] 24)
  have hB6 := hB5.alloc hB5.size (.cells #[.int .i64 4, .slice A4 11 c4] 24)
  have x0 := hX5.cell 0
  have x1 := hX5.cell 1
  simp only [Yl] at x0 x1
  clear hN4 hB5
  go_wp2_with fail
  have hnd := hN5.nodes
  refine Calls.mono (Run_any 4 A4 smallW c4 (some ⟨w4.heap.size + 1, 0, none⟩) [4, 5] 2 99 _ (by simp [maxLen, smallW]) (hnd.below ((Below.refl _ _).alloc (Nat.le_refl _) _)) (vals_lit_ (by simp) rfl) ⟨by simp, by simp [maxLen]⟩) ?_
  rintro e v1 ⟨hc1, u1, rfl, ov1, cv1, rfl, hO1, hC1⟩
  rw [runS_smallW] at hO1 hC1 ⊢
  rw [runE_smallW]
  obtain ⟨D1, q1, rfl, _, _⟩ := hO1.shape
  obtain ⟨E1, p1, rfl, _, _⟩ := hC1.shape
  have hB1 : Below w.heap.size w v1 := hB6.trans (((Below.refl _ _).alloc (Nat.le_refl _) _).trans (hc1.mono (by simp)) |>.mono hB6.size)
  have H1 := hide hO1.vals
  have G1 := hide hC1.nodes
  clear hN5 hnd hO1 hC1 hc1 hX5 x0 x1 hB6
  go_upto_region 5 with fail
  obtain ⟨W5, hW5⟩ : ∃ W5, W5 = v1.alloc (.cells #[.slice D1 (ints [9]).length q1, .int .i64 9, .bool true, .int .i64 9, .slice E1 1 p1] 33) := ⟨_, rfl⟩
  have b1 : Blk W5 v1.heap.size 33 #[.slice D1 (ints [9]).length q1, .int .i64 9, .bool true, .int .i64 9, .slice E1 1 p1] := by rw [hW5]; exact Blk.new' rfl
  have hB5 : Below v1.heap.size v1 W5 := by rw [hW5]; exact (Below.refl _ _).alloc (Nat.le_refl _) _
  have hBw : Below w.heap.size w W5 := hB1.trans (hB5.mono hB1.size)
  have HI := fun (V : World) (hV : Below W5.heap.size W5 V) (g : Nat) (hg : Blk V g 3 #[.int .i64 9]) => hide (SameInts_any D1 (some ⟨g, 0, none⟩) q1 1 [9] [9] V ((H1.out.below hB5).below hV) (fun _ => ⟨g, 0, rfl, hg.lt, fun i v hi => by rw [Nat.zero_add, hg.cell]; simpa [ints] using hi⟩) (by simp [maxLen]) (by simp [maxLen]))
  have HT1 := fun (V : World) (hV : Below W5.heap.size W5 V) => hide (by have h := Times_any D1 (ints [9]).length q1 9 true 9 E1 p1 [(⟨3, 0, 1⟩, 1)] ⟨3, 0, 1⟩ V ((G1.out.below hB5).below hV) (by simp [maxLen]); rw [show cntOf [((⟨3, 0, 1⟩ : Tm), (1 : Int))] ⟨3, 0, 1⟩ = 1 from by decide] at h; exact h)
  have HS := fun V => hide (sumL_any V)
  rw [← hW5]
  have c0 := b1.cell 0
  have c1 := b1.cell 1
  have c2 := b1.cell 2
  have c3 := b1.cell 3
  have c4' := b1.cell 4
  have l1 := b1.lt
  simp only [Yl] at c0 c1 c2 c3 c4'
  clear hW5 b1 hB5 hB1
  obtain ⟨a1, ha1⟩ : ∃ a, a = v1.heap.size := ⟨_, rfl⟩
  rw [← ha1] at c0 c1 c2 c3 c4' l1
  rw [← ha1]
  clear ha1
  -- region 5
  refine wp_region_held_drew (S := fun w' => w'.cell? ⟨a1, 0, none⟩ = some (.slice D1 (ints [9]).length q1) ∧ w'.cell? ⟨a1, 1, none⟩ = some (.int .i64 9) ∧ w'.cell? ⟨a1, 2, none⟩ = some (.bool true) ∧ w'.cell? ⟨a1, 3, none⟩ = some (.int .i64 9) ∧ w'.cell? ⟨a1, 4, none⟩ = some (.slice E1 1 p1)) (by kernel_rfl) ⟨c0, c1, c2, c3, c4'⟩ ?_
  intro hH
  have hC0 : Below W5.heap.size W5 W5.drew := (Below.refl _ _).drew
  refine Up (fun _ _ _ _ _ => id) fun hP => ?_
  refine Vi 0 ?_ rfl (by kernel_rfl) hP (by rfl) ?r hH ?_; case r => intro w' h; (try dsimp only at h); (try go_split_ands); go_simp; try with_reducible rfl
  try simp only [Nm]
  refine Vi 1 ?_ rfl (by kernel_rfl) hP (by rfl) ?r hH ?_; case r => intro w' h; (try dsimp only at h); (try go_split_ands); go_simp; try with_reducible rfl
  try simp only [Nm]
  refine Vi 2 ?_ rfl (by kernel_rfl) hP (by rfl) ?r hH ?_; case r => intro w' h; (try dsimp only at h); (try go_split_ands); go_simp; try with_reducible rfl
  try simp only [Nm]
  refine Vi 3 ?_ rfl (by kernel_rfl) hP (by rfl) ?r hH ?_; case r => intro w' h; (try dsimp only at h); (try go_split_ands); go_simp; try with_reducible rfl
  try simp only [Nm]
  refine Vi 4 ?_ rfl (by kernel_rfl) hP (by rfl) ?r hH ?_; case r => intro w' h; (try dsimp only at h); (try go_split_ands); go_simp; try with_reducible rfl
  try simp only [Nm]
  refine Vi 5 ?_ rfl (by kernel_rfl) hP (by rfl) ?r hH ?_; case r => intro w' h; (try dsimp only at h); (try go_split_ands); go_simp; try with_reducible rfl
  try simp only [Nm]
  refine Vi 6 ?_ rfl (by kernel_rfl) hP (by rfl) ?r hH ?_; case r => intro w' h; (try dsimp only at h); (try go_split_ands); go_simp; try with_reducible rfl
  try simp only [Nm]
  refine Vi 7 ?_ rfl (by kernel_rfl) hP (by rfl) ?r hH ?_; case r => intro w' h; (try dsimp only at h); (try go_split_ands); go_simp; try with_reducible rfl
  try simp only [Nm]
  refine Vi 8 ?_ rfl (by kernel_rfl) hP (by rfl) ?r hH ?_; case r => intro w' h; (try dsimp only at h); (try go_split_ands); go_simp; try with_reducible rfl
  try simp only [Nm]
  refine Vi 9 ?_ rfl (by kernel_rfl) hP (by rfl) ?r hH ?_; case r => intro w' h; (try dsimp only at h); (try go_split_ands); go_simp; try with_reducible rfl
  try simp only [Nm]
  refine Vi 10 ?_ rfl (by kernel_rfl) hP (by rfl) ?r hH ?_; case r => intro w' h; (try dsimp only at h); (try go_split_ands); go_simp; try with_reducible rfl
  try simp only [Nm]
  refine Vi 11 ?_ rfl (by kernel_rfl) hP (by rfl) ?r hH ?_; case r => intro w' h; (try dsimp only at h); (try go_split_ands); go_simp; try with_reducible rfl
  try simp only [Nm]
  refine Vi 12 ?_ rfl (by kernel_rfl) hP (by rfl) ?r hH ?_; case r => intro w' h; (try dsimp only at h); (try go_split_ands); go_simp; try with_reducible rfl
  try simp only [Nm]
  refine Vi 13 ?_ rfl (by kernel_rfl) hP (by rfl) ?r hH ?_; case r => intro w' h; (try dsimp only at h); (try go_split_ands); go_simp; try with_reducible rfl
  try simp only [Nm]
  refine Vi 14 ?_ rfl (by kernel_rfl) hP (by rfl) ?r hH ?_; case r => intro w' h; (try dsimp only at h); (try go_split_ands); go_simp; try with_reducible rfl
  try simp only [Nm]
  refine Vi 15 ?_ rfl (by kernel_rfl) hP (by rfl) ?r hH ?_; case r => intro w' h; (try dsimp only at h); (try go_split_ands); go_simp; try with_reducible rfl
  try simp only [Nm]
  refine Vi 16 ?_ rfl (by kernel_rfl) hP (by rfl) ?r hH ?_; case r => intro w' h; (try dsimp only at h); (try go_split_ands); go_simp; try with_reducible rfl
  try simp only [Nm]
  refine Vi 17 ?_ rfl (by kernel_rfl) hP (by rfl) ?r hH ?_; case r => intro w' h; (try dsimp only at h); (try go_split_ands); go_simp; try with_reducible rfl
  try simp only [Nm]
  refine Vi 18 ?_ rfl (by kernel_rfl) hP (by rfl) ?r hH ?_; case r => intro w' h; (try dsimp only at h); (try go_split_ands); go_simp; try with_reducible rfl
  try simp only [Nm]
  refine Vi 19 ?_ rfl (by kernel_rfl) hP (by rfl) ?r hH ?_; case r => intro w' h; (try dsimp only at h); (try go_split_ands); go_simp; try with_reducible rfl
  try simp only [Nm]
  refine Vi 20 ?_ rfl (by kernel_rfl) hP (by rfl) ?r hH ?_; case r => intro w' h; (try dsimp only at h); (try go_split_ands); go_simp; try with_reducible rfl
  try simp only [Nm]
  refine Vi 21 ?_ rfl (by kernel_rfl) hP (by rfl) ?r hH ?_; case r => intro w' h; (try dsimp only at h); (try go_split_ands); go_simp; try with_reducible rfl
  try simp only [Nm]
  refine Vi 22 ?_ rfl (by kernel_rfl) hP (by rfl) ?r hH ?_; case r => intro w' h; (try dsimp only at h); (try go_split_ands); go_simp; try with_reducible rfl
  try simp only [Nm]
  refine Vi 23 ?_ rfl (by kernel_rfl) hP (by rfl) ?r hH ?_; case r => intro w' h; (try dsimp only at h); (try go_split_ands); go_simp; try with_reducible rfl
  try simp only [Nm]
  refine Vi 24 ?_ rfl (by kernel_rfl) hP (by rfl) ?r hH ?_; case r => intro w' h; (try dsimp only at h); (try go_split_ands); go_simp; try with_reducible rfl
  try simp only [Nm]
  refine Vi 25 ?_ rfl (by kernel_rfl) hP (by rfl) ?r hH ?_; case r => intro w' h; (try dsimp only at h); (try go_split_ands); go_simp; try with_reducible rfl
  try simp only [Nm]
  refine Rd 26 (by kernel_rfl) rfl (fun K hK => ?_)
  have HK26 := hide hK
  clear hK
  go_simp
  obtain ⟨W6, hW6⟩ : ∃ W6 : World, W6 = (W5.alloc (.cells #[.int .i64 9] 3)).drew := ⟨_, rfl⟩
  rw [← hW6]
  have hC6 : Below W5.heap.size W5 W6 := by rw [hW6]; exact Below.drew ((Below.refl _ _).alloc (Nat.le_refl _) _)
  have hB6 : Blk W6 W5.heap.size 3 #[.int .i64 9] := by rw [hW6]; exact (Blk.new' rfl).drew
  clear hH hW6
  have hH : W6.cell? ⟨a1, 0, none⟩ = some (.slice D1 (ints [9]).length q1) ∧ W6.cell? ⟨a1, 1, none⟩ = some (.int .i64 9) ∧ W6.cell? ⟨a1, 2, none⟩ = some (.bool true) ∧ W6.cell? ⟨a1, 3, none⟩ = some (.int .i64 9) ∧ W6.cell? ⟨a1, 4, none⟩ = some (.slice E1 1 p1) := ⟨((bcell hC6).1 _ _ l1).trans c0, ((bcell hC6).1 _ _ l1).trans c1, ((bcell hC6).1 _ _ l1).trans c2, ((bcell hC6).1 _ _ l1).trans c3, ((bcell hC6).1 _ _ l1).trans c4'⟩
  refine Shut.out HK26.out _ _ hH (fun _ => ?_)
  try simp only [Nm]
  clear HK26
  refine Rd 27 (by kernel_rfl) rfl (fun K hK => ?_)
  have HK27 := hide hK
  clear hK
  go_simp
  go_at_call 25
  refine ((HI _ hC6 _ hB6).out).mono ?_
  rintro e W7 ⟨rfl, dd, h7⟩
  have hC7 : Below W5.heap.size W5 W7 := by rw [h7]; exact below_drewN hC6 _
  clear hH h7 hB6
  have hH : W7.cell? ⟨a1, 0, none⟩ = some (.slice D1 (ints [9]).length q1) ∧ W7.cell? ⟨a1, 1, none⟩ = some (.int .i64 9) ∧ W7.cell? ⟨a1, 2, none⟩ = some (.bool true) ∧ W7.cell? ⟨a1, 3, none⟩ = some (.int .i64 9) ∧ W7.cell? ⟨a1, 4, none⟩ = some (.slice E1 1 p1) := ⟨((bcell hC7).1 _ _ l1).trans c0, ((bcell hC7).1 _ _ l1).trans c1, ((bcell hC7).1 _ _ l1).trans c2, ((bcell hC7).1 _ _ l1).trans c3, ((bcell hC7).1 _ _ l1).trans c4'⟩
  refine Shut.out HK27.out _ _ hH (fun _ => ?_)
  try simp only [Nm]
  clear HK27
  refine Vi 28 ?_ rfl (by kernel_rfl) hP (by rfl) ?r hH ?_; case r => intro w' h; (try dsimp only at h); (try go_split_ands); go_simp; try with_reducible rfl
  try simp only [Nm]
  refine Vi 29 ?_ rfl (by kernel_rfl) hP (by rfl) ?r hH ?_; case r => intro w' h; (try dsimp only at h); (try go_split_ands); go_simp; try with_reducible rfl
  try simp only [Nm]
  refine Vi 30 ?_ rfl (by kernel_rfl) hP (by rfl) ?r hH ?_; case r => intro w' h; (try dsimp only at h); (try go_split_ands); go_simp; try with_reducible rfl
  try simp only [Nm]
  refine Rd 31 (by kernel_rfl) rfl (fun K hK => ?_)
  have HK31 := hide hK
  clear hK
  go_simp
  go_at_call 27
  refine ((HS _).out).mono ?_
  rintro e W8 ⟨rfl, hbW8⟩
  have hC8 : Below W5.heap.size W5 W8 := hC7.trans (hbW8.mono hC7.size)
  clear hH
  have hH : W8.cell? ⟨a1, 0, none⟩ = some (.slice D1 (ints [9]).length q1) ∧ W8.cell? ⟨a1, 1, none⟩ = some (.int .i64 9) ∧ W8.cell? ⟨a1, 2, none⟩ = some (.bool true) ∧ W8.cell? ⟨a1, 3, none⟩ = some (.int .i64 9) ∧ W8.cell? ⟨a1, 4, none⟩ = some (.slice E1 1 p1) := ⟨((bcell hC8).1 _ _ l1).trans c0, ((bcell hC8).1 _ _ l1).trans c1, ((bcell hC8).1 _ _ l1).trans c2, ((bcell hC8).1 _ _ l1).trans c3, ((bcell hC8).1 _ _ l1).trans c4'⟩
  refine Shut.out HK31.out _ _ hH (fun _ => ?_)
  try simp only [Nm]
  clear HK31
  refine Rd 32 (by kernel_rfl) rfl (fun K hK => ?_)
  have HK32 := hide hK
  clear hK
  go_simp
  go_at_call 26
  refine ((HT1 _ hC8).out).mono ?_
  rintro e W9 ⟨rfl, hbW9⟩
  have hC9 : Below W5.heap.size W5 W9 := hC8.trans (hbW9.mono hC8.size)
  clear hH
  have hH : W9.cell? ⟨a1, 0, none⟩ = some (.slice D1 (ints [9]).length q1) ∧ W9.cell? ⟨a1, 1, none⟩ = some (.int .i64 9) ∧ W9.cell? ⟨a1, 2, none⟩ = some (.bool true) ∧ W9.cell? ⟨a1, 3, none⟩ = some (.int .i64 9) ∧ W9.cell? ⟨a1, 4, none⟩ = some (.slice E1 1 p1) := ⟨((bcell hC9).1 _ _ l1).trans c0, ((bcell hC9).1 _ _ l1).trans c1, ((bcell hC9).1 _ _ l1).trans c2, ((bcell hC9).1 _ _ l1).trans c3, ((bcell hC9).1 _ _ l1).trans c4'⟩
  refine Shut.out HK32.out _ _ hH (fun _ => ?_)
  try simp only [Nm]
  clear HK32
  refine Vi 33 ?_ rfl (by kernel_rfl) hP (by rfl) ?r hH ?_; case r => intro w' h; (try dsimp only at h); (try go_split_ands); go_simp; try with_reducible rfl
  try simp only [Nm]
  refine Vi 34 ?_ rfl (by kernel_rfl) hP (by rfl) ?r hH ?_; case r => intro w' h; (try dsimp only at h); (try go_split_ands); go_simp; try with_reducible rfl
  try simp only [Nm]
  refine Vi 35 ?_ rfl (by kernel_rfl) hP (by rfl) ?r hH ?_; case r => intro w' h; (try dsimp only at h); (try go_split_ands); go_simp; try with_reducible rfl
  try simp only [Nm]
  refine wpAnyH_done (by kernel_rfl) ?_ _
  -- end of region 5
  go_wp2_with fail
  go_ret
  exact ⟨rfl, hBw.trans (hC9.mono hBw.size)⟩
end
section
open Go.RowKit
set_option maxHeartbeats 4000000
structure ResRow (tI tC : TypeId) (B : Nat) (W : World) (O : Option Addr) (oc : Nat) (C : Option Addr) (cc : Nat) (r : Rs) : Prop where
 out : Row W B tI (.slice O r.out.length oc) (ints r.out)
 cts : CRow W B tC (.slice C r.cts.length cc) r.cts
section
variable {tI tC : TypeId} {B : Nat} {W W' : World} {O : Option Addr} {oc : Nat} {C : Option Addr} {cc : Nat} {r : Rs}
theorem ResAt.rows {v : Value} (h : ResAt tI tC B W v r) : ∃ O oc C cc, v = .agg #[.slice O r.out.length oc, .int .i64 r.ret, .bool r.ended, .int .i64 r.steps, .slice C r.cts.length cc] ∧ ResRow tI tC B W O oc C cc r := by (
 obtain ⟨ov, cv, rfl, hO, hC⟩ := h
 obtain ⟨O, oc, hov, h1, h2⟩ := hO.shape
 obtain ⟨C, cc, hcv, h3, h4⟩ := hC.shape
 rw [ints_length] at hov
 subst hov hcv
 exact ⟨O, oc, C, cc, rfl, hO, hC⟩)
theorem ResRow.below (h : ResRow tI tC B W O oc C cc r) (hb : Below W.heap.size W W') : ResRow tI tC B W' O oc C cc r := ⟨h.out.below' hb, h.cts.below' hb⟩
theorem ResRow.far (h : ResRow tI tC B W O oc C cc r) {g : Nat} (h1 : (Value.slice O r.out.length oc).ownBlock ≠ some g) (h2 : (Value.slice C r.cts.length cc).ownBlock ≠ some g) (i : Nat) (u : Value) : ResRow tI tC B (W.setCell ⟨g, i, none⟩ u) O oc C cc r :=
 ⟨h.out.far (p := ⟨g, i, none⟩) h1 u, h.cts.far (p := ⟨g, i, none⟩) h2 u⟩
theorem ResRow.ne (h : ResRow tI tC B W O oc C cc r) {g : Nat} (hg : g < B ∨ W.heap.size ≤ g) : (Value.slice O r.out.length oc).ownBlock ≠ some g ∧ (Value.slice C r.cts.length cc).ownBlock ≠ some g :=
 ⟨fun e => by have := h.out.lt _ e; omega, fun e => by have := h.cts.lt _ e; omega⟩
theorem ResRow.lens (h : ResRow tI tC B W O oc C cc r) : r.out.length ≤ maxLen ∧ r.cts.length ≤ maxLen := by (
 obtain ⟨_, _, e, h1, h2⟩ := h.out.shape
 obtain ⟨_, _, e', h3, h4⟩ := h.cts.shape
 rw [ints_length] at h1
 exact ⟨by omega, by omega⟩)
end
end
section
open Go.RowKit
set_option maxHeartbeats 4000000
attribute [local irreducible] Row CRow madeCells
def fewL (inp : List Int) : List Int := inp.take 256
theorem fewL_len (inp : List Int) : (fewL inp).length ≤ 256 := by simp [fewL]; omega
theorem ValsAt.few {w : World} {A : Option Addr} {inp : List Int} (h : ValsAt w A (ints inp)) : ValsAt w A (ints (fewL inp)) := fun hne => by (
 have h0 : ints inp ≠ [] := by (
 intro e
 apply hne
 have : inp = [] := by simpa [ints] using e
 simp [this, fewL, ints])
 obtain ⟨b, o, e, hb, hc⟩ := h h0
 refine ⟨b, o, e, hb, fun i v hi => hc i v ?_⟩
 rw [ints_get] at hi ⊢
 unfold fewL at hi
 rw [List.getElem?_take] at hi
 split at hi
 · exact hi
 · simp at hi)
theorem few_any (Ai : Option Addr) (inp : List Int) (ci : Nat) (w : World) (hic : inp.length ≤ ci ∧ ci ≤ maxLen) :
 Calls Tryz.prog 9 #[.slice Ai inp.length ci] w fun e w' => e = .returned (.slice Ai (fewL inp).length ci) ∧ w' = w := by (
 obtain ⟨h1, h2⟩ := hic
 have hlen : (fewL inp).length = if 256 < inp.length then 256 else inp.length := by (
 unfold fewL
 rw [List.length_take]
 split <;> omega)
 rw [hlen]
 generalize inp.length = n at *
 clear hlen
 by_cases h : 256 < n
 · (
 rw [if_pos h]
 have k0 : (256 : Int) < (n : Int) := by omega
 have k1 : (256 : Int) ≤ (ci : Int) := by omega
 unfold maxLen at h2
 go_enter Tryz.func9, Tryz.ntmps9
 go_wp2_with fail
 go_ret
 exact ⟨rfl, rfl⟩)
 · (
 rw [if_neg h]
 have k0 : ¬ (256 : Int) < (n : Int) := by omega
 go_enter Tryz.func9, Tryz.ntmps9
 go_wp2_with fail
 go_ret
 exact ⟨rfl, rfl⟩))
theorem ResRow.mono_ {tI tC : TypeId} {B B' : Nat} {W : World} {O : Option Addr} {oc : Nat} {C : Option Addr} {cc : Nat} {r : Rs} (h : ResRow tI tC B W O oc C cc r) (hb : B' ≤ B) : ResRow tI tC B' W O oc C cc r := ⟨h.out.mono hb, h.cts.mono hb⟩
theorem set5_cell {V : World} {a b : Nat} (h : ¬ (a = b)) (o : Nat) (u0 u1 u2 u3 u4 : Value) : (((((V.setCell ⟨b, 0, none⟩ u0).setCell ⟨b, 1, none⟩ u1).setCell ⟨b, 2, none⟩ u2).setCell ⟨b, 3, none⟩ u3).setCell ⟨b, 4, none⟩ u4).cell? ⟨a, o, none⟩ = V.cell? ⟨a, o, none⟩ := by (
 have hne : ∀ k : Nat, (⟨a, o, none⟩ : Addr) ≠ ⟨b, k, none⟩ := fun k e => h (by injection e)
 simp [World.cell?_setCell_other, h])
structure ResSt (tI tC tR : TypeId) (w : World) (b : Nat) (O : Option Addr) (oc : Nat) (C : Option Addr) (cc : Nat) (R : Rs) (W : World) : Prop where
 box : Blk W b tR #[.slice O R.out.length oc, .int .i64 R.ret, .bool R.ended, .int .i64 R.steps, .slice C R.cts.length cc]
 row : ResRow tI tC w.heap.size W O oc C cc R
 below : Below w.heap.size w W
 young : w.heap.size ≤ b
theorem ResSt.later {tI tC tR : TypeId} {w : World} {b : Nat} {O : Option Addr} {oc : Nat} {C : Option Addr} {cc : Nat} {R : Rs} {W W' : World} (h : ResSt tI tC tR w b O oc C cc R W) (hb : Below W.heap.size W W') : ResSt tI tC tR w b O oc C cc R W' :=
 ⟨h.box.below hb h.box.lt, h.row.below hb, h.below.trans (hb.mono h.below.size), h.young⟩
theorem ResSt.mk5 {tI tC tR : TypeId} {w : World} {b : Nat} {O : Option Addr} {oc : Nat} {C : Option Addr} {cc : Nat} {R : Rs} {V : World} {z0 z1 z2 z3 z4 : Value}
 (hQ : Blk V b tR #[z0, z1, z2, z3, z4]) (r : ResRow tI tC w.heap.size V O oc C cc R)
 (n : (Value.slice O R.out.length oc).ownBlock ≠ some b ∧ (Value.slice C R.cts.length cc).ownBlock ≠ some b) (hB : Below w.heap.size w V) (hwb : w.heap.size ≤ b) :
 ResSt tI tC tR w b O oc C cc R (((((V.setCell ⟨b, 0, none⟩ (.slice O R.out.length oc)).setCell ⟨b, 1, none⟩ (.int .i64 R.ret)).setCell ⟨b, 2, none⟩ (.bool R.ended)).setCell ⟨b, 3, none⟩ (.int .i64 R.steps)).setCell ⟨b, 4, none⟩ (.slice C R.cts.length cc)) :=
⟨((((hQ.set_ 0 _).set_ 1 _).set_ 2 _).set_ 3 _).set_ 4 _,
 ((((r.far n.1 n.2 0 _).far n.1 n.2 1 _).far n.1 n.2 2 _).far n.1 n.2 3 _).far n.1 n.2 4 _,
 ((((hB.setCell hwb _).setCell hwb _).setCell hwb _).setCell hwb _).setCell hwb _, hwb⟩
def RunGot (tI tC : TypeId) (R : Rs) (w : World) (e : Ending) (w' : World) : Prop :=
 Below w.heap.size w w' ∧ ∃ O oc C cc, e = .returned (.tuple #[.agg #[.slice O R.out.length oc, .int .i64 R.ret, .bool R.ended, .int .i64 R.steps, .slice C R.cts.length cc], .int .i64 0]) ∧ ResRow tI tC w.heap.size w' O oc C cc R
theorem Run_got {regs : Int} {A : Option Addr} {l : List Nd} {cap : Nat} {Ai : Option Addr} {inp : List Int} {ci : Nat} {n : Nat} {w : World} (hl : l.length ≤ maxLen) (hA : NodesAt w A l) (hI : ValsAt w Ai (ints inp)) (hic : inp.length ≤ ci ∧ ci ≤ maxLen)
 (hc : chk regs l = 0) (h2 : inp.length ≤ 256) (h3 : n ≤ 131072) :
 Calls Tryz.prog 8 #[.agg #[.int .i64 regs, .slice A l.length cap], .slice Ai inp.length ci, .int .i64 (n : Int)] w (RunGot 3 66 (runR regs l inp n).told w) := by (
 have h := Run_any regs A l cap Ai inp ci (n : Int) w hl hA hI hic
 have hE : runE regs l inp (n : Int) = 0 := by unfold runE; rw [if_pos hc, if_neg (by omega), if_neg (by omega)]
 have hS : runS regs l inp (n : Int) = (runR regs l inp n).told := by unfold runS; rw [if_pos hE]; rfl
 refine h.mono ?_
 rintro e w' ⟨hb, v, rfl, hr⟩
 rw [hE, hS] at *
 obtain ⟨O, oc, C, cc, rfl, hO⟩ := hr.rows
 exact ⟨hb, O, oc, C, cc, rfl, hO⟩)
end
section
open Go.RowKit
set_option maxHeartbeats 4000000
theorem choose_any (c n : Int) (hn : 0 < n) (hn2 : n ≤ 1000000) (hc : i64ok c) (w : World) : Calls Tryz.prog 7 #[.int .i64 c, .int .i64 n] w fun e w' => e = .returned (.int .i64 (chV c n)) ∧ w' = w := by (
 obtain ⟨hc1, hc2⟩ := hc
 have hz : ¬ (n = 0) := by omega
 unfold chV
 by_cases h : c < 0
 · (
 rw [if_pos h]
 have e1 : IntKind.i64.wrap (c + 1) = c + 1 := by rw [IntKind.wrap_i64]; omega
 have e2 : IntKind.i64.wrap (-(c + 1)) = -(c + 1) := by rw [IntKind.wrap_i64]; omega
 go_enter Tryz.func7, Tryz.ntmps7
 go_wp2
 go_ret
 have e3 : -(c + 1).tmod n = -(c + 1) % n := by rw [← Int.neg_tmod, Int.tmod_eq_emod_of_nonneg (by omega)]
 exact ⟨ret_int e3, rfl⟩)
 · (
 rw [if_neg h]
 go_enter Tryz.func7, Tryz.ntmps7
 go_wp2
 go_ret
 exact ⟨rfl, rfl⟩))
theorem begins_any (X Y : Option Addr) (xc yc : Nat) (y z : List Int) (w : World) (hX : ValsAt w X (ints (y ++ z))) (hY : ValsAt w Y (ints y)) (h1 : (y ++ z).length ≤ xc) (h2 : xc ≤ maxLen) :
 Calls Tryz.prog 32 #[.slice X (y ++ z).length xc, .slice Y y.length yc] w fun e w' => e = .returned (.bool true) ∧ ∃ d, w' = w.drewN d := by (
 have hl : y.length ≤ (y ++ z).length := by simp
 have hX' : ValsAt w X (ints y) := fun hne => by (
 obtain ⟨b, o, e, hb, hc⟩ := hX (by intro e; apply hne; simp [ints] at e ⊢; exact e.1)
 exact ⟨b, o, e, hb, fun i v hi => hc i v (by
  have hil : i < y.length := by (
 have := (List.getElem?_eq_some_iff.1 hi).1
 rwa [ints_length] at this)
  rw [ints_get] at hi ⊢
  rw [List.getElem?_append_left hil]
  exact hi)⟩)
 have HS := hide (SameInts_any X Y xc yc y y w hX' hY (by unfold maxLen at *; omega) (by unfold maxLen at *; omega))
 generalize (y ++ z).length = n at *
 have hd : decide ((y.length : Int) ≤ (n : Int)) = true := decide_eq_true (by omega)
 have k0 : (0 : Int) ≤ (y.length : Int) := by omega
 have k1 : (y.length : Int) ≤ (xc : Int) := by omega
 clear hX hX' hY
 go_enter Tryz.func32, Tryz.ntmps32
 go_wp2_with fail
 refine (HS.out).mono ?_
 rintro e w1 ⟨rfl, d, rfl⟩
 rw [beq_self_eq_true]
 go_wp2_with fail
 go_ret
 exact ⟨rfl, d, rfl⟩)
end
section
open Go.RowKit
set_option maxHeartbeats 8000000
attribute [local irreducible] Row CRow madeCells
def Does (a b c : Rs) : Prop := (b.ended = true → a.ended = true ∧ a.ret = b.ret ∧ a.out = b.out) ∧ (∃ x, a.out = b.out ++ x) ∧ (a.ended = true → c.ended = true ∧ a.ret = c.ret ∧ a.out = c.out) ∧ (∃ x, c.out = a.out ++ x)
theorem Sim.does_ {l m : List Nd} {inp : List Int} {K : Nat} {Rel : Rn → Rn → Prop} (h : Sim l m inp K Rel) {regs regs' : Int} (hr : Rel (startR regs) (startR regs')) (hK : K ≤ m.length + 1) (n : Nat) :
    Does (runR regs l inp n).told (runR regs' m inp n).told (runR regs' m inp (n * (m.length + 1) + m.length)).told := by
  have hN : K * n ≤ n * (m.length + 1) + m.length := by
    have := Nat.mul_le_mul_right n hK
    rw [Nat.mul_comm (m.length + 1) n] at this
    omega
  exact h.does hr n _ hN
set_option maxRecDepth 100000 in
theorem does_any {regs regs' : Int} {A B : Option Addr} {l m : List Nd} {cap mcap : Nat} {Ai : Option Addr} {inp : List Int} {ci n : Nat} {w : World} (hml : l.length ≤ maxLen) (hmm : m.length ≤ 256) (hA : NodesAt w A l) (hB : NodesAt w B m) (hI : ValsAt w Ai (ints inp)) (hic : inp.length ≤ ci ∧ ci ≤ maxLen)
    (hcl : chk regs l = 0) (hcm : chk regs' m = 0) (hin : inp.length ≤ 256) (hn : n ≤ 400) (hD : Does (runR regs l inp n).told (runR regs' m inp n).told (runR regs' m inp (n * (m.length + 1) + m.length)).told) :
    Calls Tryz.prog 11 #[.agg #[.int .i64 regs, .slice A l.length cap], .agg #[.int .i64 regs', .slice B m.length mcap], .slice Ai inp.length ci, .int .i64 (n : Int)] w fun e w' => e = .returned (.bool true) ∧ Below w.heap.size w w' := by
  have hK : n * (m.length + 1) + m.length ≤ 131072 := by
    have : n * (m.length + 1) ≤ 400 * 257 := Nat.mul_le_mul hn (by omega)
    omega
  have e1 : IntKind.i64.wrap ((m.length : Int) + 1) = (m.length : Int) + 1 := by rw [IntKind.wrap_i64]; omega
  have e2 : IntKind.i64.wrap ((n : Int) * ((m.length : Int) + 1)) = ((n * (m.length + 1) : Nat) : Int) := by
    have : (n : Int) * ((m.length : Int) + 1) = ((n * (m.length + 1) : Nat) : Int) := by simp
    rw [this, IntKind.wrap_i64]; omega
  have e3 : IntKind.i64.wrap (((n * (m.length + 1) : Nat) : Int) + (m.length : Int)) = ((n * (m.length + 1) + m.length : Nat) : Int) := by rw [IntKind.wrap_i64]; omega
  have HR1 := fun (V : World) (hV : Below w.heap.size w V) => hide (Run_got (cap := cap) (n := n) (w := V) hml (hA.below hV) (hI.below hV) hic hcl hin (by omega))
  have HR2 := fun (V : World) (hV : Below w.heap.size w V) => hide (Run_got (cap := mcap) (n := n) (w := V) (by unfold maxLen; omega) (hB.below hV) (hI.below hV) hic hcm hin (by omega))
  have HR3 := fun (V : World) (hV : Below w.heap.size w V) => hide (Run_got (cap := mcap) (n := n * (m.length + 1) + m.length) (w := V) (by unfold maxLen; omega) (hB.below hV) (hI.below hV) hic hcm hin hK)
  generalize (runR regs l inp n).told = R1 at *
  generalize (runR regs' m inp n).told = R2 at *
  generalize (runR regs' m inp (n * (m.length + 1) + m.length)).told = R3 at *
  generalize hKK : n * (m.length + 1) + m.length = K at *
  generalize hNN : n * (m.length + 1) = N at *
  have HD := hide hD
  clear hA hB hI hcl hcm hD hKK hNN
  go_enter Tryz.func11, Tryz.ntmps11
  go_wp2_with fail
  refine ((HR1 _ (by (with_reducible repeat first | apply Qa | assumption | apply Qb | apply Qc | apply Qd | apply Qe | refine Qf ?_ (by assumption) ?_); all_goals (try simp only [Sz]); first | done | omega | (try simp only [Sz] at *); omega)).out).mono ?_
  rintro e w1 ⟨hb1, O1, oc1, C1, cc1, rfl, hO1⟩
  have hz1 := hb1.size
  simp only [World.size_alloc] at hz1
  have hQ1 : Blk w1 (w.heap.size + 1) 24 #[.int .i64 regs', .slice B m.length mcap] := Blk.below (Blk.new' (by simp)) hb1 (by simp)
  have hB1 : Below w.heap.size w w1 := (by (with_reducible repeat first | apply Qa | assumption | apply Qb | apply Qc | apply Qd | apply Qe | refine Qf ?_ (by assumption) ?_); all_goals (try simp only [Sz]); first | done | omega | (try simp only [Sz] at *); omega)
  have hO1 := hO1.mono_ (B' := w.heap.size) (by simp; omega)
  have q0 := hQ1.cell 0
  have q1 := hQ1.cell 1
  have lq := hQ1.lt
  simp only [Yl] at q0 q1
  clear hb1
  go_upto_region 2 with fail
  obtain ⟨W1, hW1⟩ : ∃ W1, W1 = w1.alloc (.cells #[.slice O1 R1.out.length oc1, .int .i64 R1.ret, .bool R1.ended, .int .i64 R1.steps, .slice C1 R1.cts.length cc1] 33) := ⟨_, rfl⟩
  have hbx1 : Blk W1 w1.heap.size 33 #[.slice O1 R1.out.length oc1, .int .i64 R1.ret, .bool R1.ended, .int .i64 R1.steps, .slice C1 R1.cts.length cc1] := by rw [hW1]; exact Blk.new' rfl
  have hBW : Below w1.heap.size w1 W1 := by rw [hW1]; exact (Below.refl _ _).alloc (Nat.le_refl _) _
  rw [← hW1]
  have hO1 := hO1.below hBW
  have hB1 := hB1.trans (hBW.mono (by omega))
  have hQ1 := hQ1.below hBW lq
  have q0 := hQ1.cell 0
  have q1 := hQ1.cell 1
  have lq := hQ1.lt
  have hz1 := hB1.size
  simp only [Yl] at q0 q1
  obtain ⟨a1, ha1⟩ : ∃ a, a = w1.heap.size := ⟨_, rfl⟩
  rw [← ha1] at hbx1 ⊢
  clear hW1 hBW ha1
  go_wp2_with fail
  refine ((HR2 _ hB1).out).mono ?_
  rintro e w2 ⟨hb2, O2, oc2, C2, cc2, rfl, hO2⟩
  have hz2 := hb2.size
  have hB2 := hB1.trans (hb2.mono (by omega))
  have hO1 := hO1.below hb2
  have hbx1 := hbx1.below hb2 hbx1.lt
  have hQ2 := hQ1.below hb2 lq
  have hO2 := hO2.mono_ (B' := w.heap.size) (by omega)
  have q0 := hQ2.cell 0
  have q1 := hQ2.cell 1
  have lq := hQ2.lt
  simp only [Yl] at q0 q1
  clear hb2 hQ1
  go_upto_region 3 with fail
  obtain ⟨W2, hW2⟩ : ∃ W2, W2 = w2.alloc (.cells #[.slice O2 R2.out.length oc2, .int .i64 R2.ret, .bool R2.ended, .int .i64 R2.steps, .slice C2 R2.cts.length cc2] 33) := ⟨_, rfl⟩
  have hbx2 : Blk W2 w2.heap.size 33 #[.slice O2 R2.out.length oc2, .int .i64 R2.ret, .bool R2.ended, .int .i64 R2.steps, .slice C2 R2.cts.length cc2] := by rw [hW2]; exact Blk.new' rfl
  have hBW : Below w2.heap.size w2 W2 := by rw [hW2]; exact (Below.refl _ _).alloc (Nat.le_refl _) _
  rw [← hW2]
  have hO1 := hO1.below hBW
  have hO2 := hO2.below hBW
  have hbx1 := hbx1.below hBW hbx1.lt
  have hB2 := hB2.trans (hBW.mono (by omega))
  have hQ2 := hQ2.below hBW lq
  have q0 := hQ2.cell 0
  have q1 := hQ2.cell 1
  have lq := hQ2.lt
  have hz2 := hB2.size
  simp only [Yl] at q0 q1
  obtain ⟨a2, ha2⟩ : ∃ a, a = w2.heap.size := ⟨_, rfl⟩
  rw [← ha2] at hbx2 ⊢
  clear hW2 hBW ha2
  go_wp2_with fail
  refine ((HR3 _ hB2).out).mono ?_
  rintro e w3 ⟨hb3, O3, oc3, C3, cc3, rfl, hO3⟩
  have hz3 := hb3.size
  have hB3 := hB2.trans (hb3.mono (by omega))
  have hO1 := hO1.below hb3
  have hO2 := hO2.below hb3
  have hbx1 := hbx1.below hb3 hbx1.lt
  have hbx2 := hbx2.below hb3 hbx2.lt
  have hO3 := hO3.mono_ (B' := w.heap.size) (by omega)
  clear hb3 hQ2 q0 q1 lq
  go_upto_region 4 with fail
  obtain ⟨W3, hW3⟩ : ∃ W3, W3 = w3.alloc (.cells #[.slice O3 R3.out.length oc3, .int .i64 R3.ret, .bool R3.ended, .int .i64 R3.steps, .slice C3 R3.cts.length cc3] 33) := ⟨_, rfl⟩
  have hbx3 : Blk W3 w3.heap.size 33 #[.slice O3 R3.out.length oc3, .int .i64 R3.ret, .bool R3.ended, .int .i64 R3.steps, .slice C3 R3.cts.length cc3] := by rw [hW3]; exact Blk.new' rfl
  have hBW : Below w3.heap.size w3 W3 := by rw [hW3]; exact (Below.refl _ _).alloc (Nat.le_refl _) _
  rw [← hW3]
  have hO1 := hO1.below hBW
  have hO2 := hO2.below hBW
  have hO3 := hO3.below hBW
  have hbx1 := hbx1.below hBW hbx1.lt
  have hbx2 := hbx2.below hBW hbx2.lt
  have hB3 := hB3.trans (hBW.mono (by omega))
  obtain ⟨a3, ha3⟩ : ∃ a, a = w3.heap.size := ⟨_, rfl⟩
  rw [← ha3] at hbx3 ⊢
  clear hW3 hBW ha3
  have p0 := hbx1.cell 0
  have p1 := hbx1.cell 1
  have p2 := hbx1.cell 2
  have p3 := hbx1.cell 3
  have p4 := hbx1.cell 4
  simp only [Yl] at p0 p1 p2 p3 p4
  have q0 := hbx2.cell 0
  have q1 := hbx2.cell 1
  have q2 := hbx2.cell 2
  have q3 := hbx2.cell 3
  have q4 := hbx2.cell 4
  simp only [Yl] at q0 q1 q2 q3 q4
  have r0 := hbx3.cell 0
  have r1 := hbx3.cell 1
  have r2 := hbx3.cell 2
  have r3 := hbx3.cell 3
  have r4 := hbx3.cell 4
  simp only [Yl] at r0 r1 r2 r3 r4
  obtain ⟨_, _, s1, g1, g2⟩ := hO1.out.shape
  injection s1 with sa sb sc
  subst sc
  clear sa sb
  obtain ⟨_, _, s1, g3, g4⟩ := hO3.out.shape
  injection s1 with sa sb sc
  subst sc
  clear sa sb
  rw [ints_length] at g1 g3
  obtain ⟨D1, ⟨x, D2⟩, D3, ⟨y, D4⟩⟩ := HD.out
  have l1 := hO1.lens.1
  have l2 := hO2.lens.1
  have l3 := hO3.lens.1
  have HS1 := fun (h : R1.out = R2.out) (V : World) (d : Nat) (hV : V = W3.drewN d) => hide (by
    have h0 := SameInts_any O1 O2 oc1 oc2 R1.out R2.out V (by rw [hV]; exact hO1.out.vals) (by rw [hV]; exact hO2.out.vals) l1 l2
    rw [show (R1.out == R2.out) = true by rw [h]; exact beq_self_eq_true _] at h0
    exact h0)
  have HS2 := fun (h : R1.out = R3.out) (V : World) (d : Nat) (hV : V = W3.drewN d) => hide (by
    have h0 := SameInts_any O1 O3 oc1 oc3 R1.out R3.out V (by rw [hV]; exact hO1.out.vals) (by rw [hV]; exact hO3.out.vals) l1 l3
    rw [show (R1.out == R3.out) = true by rw [h]; exact beq_self_eq_true _] at h0
    exact h0)
  have HB1 := fun (V : World) (d : Nat) (hV : V = W3.drewN d) => hide (by
    have h0 := begins_any O1 O2 oc1 oc2 R2.out x V (by rw [← D2, hV]; exact hO1.out.vals) (by rw [hV]; exact hO2.out.vals) (by rw [← D2]; exact g1) g2
    rw [← D2] at h0
    exact h0)
  have HB2 := fun (V : World) (d : Nat) (hV : V = W3.drewN d) => hide (by
    have h0 := begins_any O3 O1 oc3 oc1 R1.out y V (by rw [← D4, hV]; exact hO3.out.vals) (by rw [hV]; exact hO1.out.vals) (by rw [← D4]; exact g3) g4
    rw [← D4] at h0
    exact h0)
  clear HD D2 D4 hO1 hO2 hO3 hbx1 hbx2 hbx3 HR1 HR2 HR3 g1 g2 g3 g4 l1 l2 l3 e1 e2 e3
  have n1 : (R1.ret != R1.ret) = false := by simp
  cases hb : R2.ended
  case true =>
    obtain ⟨f1, f2, f3⟩ := D1 hb
    obtain ⟨k1, k2, k3⟩ := D3 f1
    rw [hb] at q2
    rw [f1] at p2
    rw [k1] at r2
    rw [← f2] at q1
    rw [← k2] at r1
    have HS1 := HS1 f3
    have HS2 := HS2 k3
    clear hb f1 f2 f3 k1 k2 k3 D1 D3
    go_wp2_with fail
    refine ((HS1 _ 0 rfl).out).mono ?_
    rintro e V1 ⟨rfl, d1, rfl⟩
    go_wp2_with fail
    refine ((HB1 _ _ rfl).out).mono ?_
    rintro e V2 ⟨rfl, d2, rfl⟩
    go_wp2_with fail
    refine ((HS2 _ _ rfl).out).mono ?_
    rintro e V3 ⟨rfl, d3, rfl⟩
    go_wp2_with fail
    refine ((HB2 _ _ rfl).out).mono ?_
    rintro e V4 ⟨rfl, d4, rfl⟩
    go_wp2_with fail
    go_ret
    exact ⟨rfl, below_drewN hB3 _⟩
  case false =>
    cases ha : R1.ended
    case true =>
      obtain ⟨k1, k2, k3⟩ := D3 ha
      rw [hb] at q2
      rw [ha] at p2
      rw [k1] at r2
      rw [← k2] at r1
      have HS2 := HS2 k3
      clear hb ha k1 k2 k3 D1 D3 HS1
      go_wp2_with fail
      refine ((HB1 _ 0 rfl).out).mono ?_
      rintro e V2 ⟨rfl, d2, rfl⟩
      go_wp2_with fail
      refine ((HS2 _ _ rfl).out).mono ?_
      rintro e V3 ⟨rfl, d3, rfl⟩
      go_wp2_with fail
      refine ((HB2 _ _ rfl).out).mono ?_
      rintro e V4 ⟨rfl, d4, rfl⟩
      go_wp2_with fail
      go_ret
      exact ⟨rfl, below_drewN hB3 _⟩
    case false =>
      rw [hb] at q2
      rw [ha] at p2
      clear hb ha D1 D3 HS1 HS2
      go_wp2_with fail
      refine ((HB1 _ 0 rfl).out).mono ?_
      rintro e V2 ⟨rfl, d2, rfl⟩
      go_wp2_with fail
      refine ((HB2 _ _ rfl).out).mono ?_
      rintro e V4 ⟨rfl, d4, rfl⟩
      go_wp2_with fail
      go_ret
      exact ⟨rfl, below_drewN hB3 _⟩
end
section
theorem Doing.does {inp : List Int} {r1 r2 : Int} {l m : List Nd} (h : Doing r1 l r2 m inp) (n : Nat) : Does (runR r1 l inp n).told (runR r2 m inp n).told (runR r2 m inp (n * (m.length + 1) + m.length)).told := by
  obtain ⟨p, th, Rel, h1, h2⟩ := h
  exact h1.sim.does_ h2 (Nat.le_refl _) n
end
end Go.Proofs.YtmghkonmfbpjcaaGreatDoor
