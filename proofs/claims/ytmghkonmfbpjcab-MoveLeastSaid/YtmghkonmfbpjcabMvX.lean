/- MvX. -/
import Derived.Test.YtmghkonmfbpjcabMvW
import Derived.Test.YtmghkonmfbpjcabGJ
import Derived.Test.YtmghkonmfbpjcabGI
import Derived.Test.YtmghkonmfbpjcabGA
set_option linter.unusedVariables false
set_option linter.unusedSimpArgs false
namespace Go.Proofs.Ytmghkonmfbpjcab
section
open Go.RowKit
set_option maxHeartbeats 8000000
attribute [local irreducible] Row CRow madeCells NRow
def smallM : List Nd := [⟨9, 0, 0, 0, 1, 0⟩, ⟨9, 1, 0, 0, 2, 0⟩, ⟨11, 0, 0, 0, 3, 7⟩, ⟨3, 3, 0, 1, 9, 0⟩, ⟨10, 0, 2, 0, 8, 0⟩, ⟨2, 2, 3, 0, 6, 0⟩, ⟨12, 0, 2, 0, 0, 0⟩, ⟨3, 3, 0, 1, 10, 0⟩, ⟨0, 0, 0, 0, 5, 0⟩, ⟨2, 2, 3, 0, 4, 0⟩, ⟨0, 0, 0, 0, 5, 0⟩]
theorem oneE_small : oneE 3 smallL sumT = 0 := by decide +kernel
theorem oneR_small : oneR 3 smallL sumT = 4 := by decide +kernel
theorem oneL_small : oneL 3 smallL sumT = smallM := by decide +kernel
theorem fxE_smallM : fxE 3 smallL sumT = 0 := by decide
theorem runE_smallM : runE 4 smallM [4, 5] 99 = 0 := by decide +kernel
theorem runS_smallM : runS 4 smallM [4, 5] 99 = ⟨[9], 9, true, 9, [(⟨3, 0, 1⟩, 1)]⟩ := of_decide_eq_true (by kernel_rfl)
theorem busyX_small (F : Fx) (h : IsFx sumT smallL F) : (busyX smallL F).length = 7 ∧ yn (busyX smallL F) 2 = true := by (
 have h2 := (fx_small F h).2.1
 unfold busyX
 rw [h2]
 decide)
theorem vals_lit4 {w : World} {cs : Array Value} {t : TypeId} {g : Nat} {xs : List Value} (h : g = w.heap.size) (hc : cs = xs.toArray) : ValsAt (w.alloc (.cells cs t)) (some ⟨g, 0, none⟩) xs := by (
 subst hc
 have hb := Blk.new' (w := w) (t := t) (cs := xs.toArray) h
 refine ValsAt.mk hb.lt fun i v hi => ?_
 rw [Nat.zero_add, hb.cell]
 simpa using hi)
set_option maxRecDepth 100000 in
theorem moveBegun_any (w : World) : Calls Try.prog 18 #[] w fun e w' => e = .returned (.bool true) ∧ Below w.heap.size w w' := by (
 go_enter Try.func18, Try.ntmps18
 go_wp2_with fail
 refine (small_any w).mono ?_
 rintro e w1 ⟨g1, rfl, hN1, hb1⟩
 have hz1 := hb1.size
 go_wp2_with fail
 refine (sum_any w1).mono ?_
 rintro e w2 ⟨rfl, hb2⟩
 have hz2 := hb2.size
 have hB2 := hb1.trans (hb2.mono hz1)
 go_wp2_with fail
 refine (One_any 3 (some ⟨g1, 0, none⟩) smallL 7 sumT w2 (by simp [maxLen, smallL]) (hN1.below hb2)).mono ?_
 rintro e w3 ⟨hb3, h⟩
 obtain ⟨-, v, rfl, hr⟩ := h.resolve_left (fun h => h.1 oneE_small)
 clear h
 rw [oneR_small]
 rw [oneL_small] at hr
 obtain ⟨A3, c3, ev, _, _⟩ := hr.shape
 rw [show smallM.length = 11 from rfl] at ev
 subst ev
 have hB3 := hB2.trans (hb3.mono (hB2.size))
 have hz3 := hB3.size
 clear hb1 hb2 hb3 hB2 hz1 hz2 hN1
 go_upto_region 2 with fail
 obtain ⟨W3, hW3⟩ : ∃ W : World, W = w3.alloc (.cells #[.int .i64 4, .slice A3 11 c3] 24) := ⟨_, rfl⟩
 have hB4 : Below w.heap.size w W3 := by rw [hW3]; exact hB3.alloc hz3 _
 have hQ4 : Blk W3 w3.heap.size 24 #[.int .i64 4, .slice A3 11 c3] := by rw [hW3]; exact Blk.new' rfl
 have hr4 := hr.alloc (.cells #[.int .i64 4, .slice A3 11 c3] 24)
 rw [← hW3] at hr4 ⊢
 obtain ⟨qb, hqb⟩ : ∃ b, b = w3.heap.size := ⟨_, rfl⟩
 rw [← hqb] at hQ4 ⊢
 clear hW3 hqb hr hB3 hz3
 have q0 := hQ4.cell 0
 have q1 := hQ4.cell 1
 simp only [Yl] at q0 q1
 have lq := hQ4.lt
 have hn4 := hr4.nodes
 clear hr4
 go_wp2_with fail
 refine (Run_any 4 A3 smallM c3 (some ⟨W3.heap.size, 0, none⟩) [4, 5] 2 99 _ (by simp [maxLen, smallM]) (hn4.below ((Below.refl _ _).alloc (Nat.le_refl _) _)) (vals_lit4 rfl rfl) ⟨by simp, by simp [maxLen]⟩).mono ?_
 rintro e v1 ⟨hc1, u1, rfl, ov1, cv1, rfl, hO1, hC1⟩
 rw [runS_smallM] at hO1 hC1 ⊢
 rw [runE_smallM]
 obtain ⟨D1, d1, rfl, _, _⟩ := hO1.shape
 obtain ⟨E1, p1, rfl, _, _⟩ := hC1.shape
 have hb5 : Below W3.heap.size W3 v1 := ((Below.refl _ _).alloc (Nat.le_refl _) _).trans (hc1.mono (by simp))
 have G1 := hide hC1.nodes
 have hz4 := hB4.size
 have hB5 := hB4.trans (hb5.mono hz4)
 have hQ5 := hQ4.below hb5 hQ4.lt
 have hz5 := hB5.size
 clear hO1 hC1 hc1 hb5 hn4 q0 q1 lq hQ4 hB4 hz4
 go_upto_region 3 with fail
 obtain ⟨W5, hW5⟩ : ∃ W : World, W = v1.alloc (.cells #[.slice D1 (ints [9]).length d1, .int .i64 9, .bool true, .int .i64 9, .slice E1 1 p1] 33) := ⟨_, rfl⟩
 have hb6 : Below v1.heap.size v1 W5 := by rw [hW5]; exact (Below.refl _ _).alloc (Nat.le_refl _) _
 have hB6 := hB5.trans (hb6.mono hz5)
 have hQ6 := hQ5.below hb6 hQ5.lt
 have hR6 : Blk W5 v1.heap.size 33 #[.slice D1 (ints [9]).length d1, .int .i64 9, .bool true, .int .i64 9, .slice E1 1 p1] := by rw [hW5]; exact Blk.new' rfl
 have g6 := G1.out.below hb6
 rw [← hW5]
 obtain ⟨rb, hrb⟩ : ∃ b, b = v1.heap.size := ⟨_, rfl⟩
 rw [← hrb] at hR6 ⊢
 clear hW5 hrb hQ5 hB5 hb6 G1 hz5
 go_wp2_with fail
 refine (small_any W5).mono ?_
 rintro e w6 ⟨g6', rfl, hN6, hb6⟩
 have hz6 := hb6.size
 go_wp2_with fail
 refine (sum_any w6).mono ?_
 rintro e w7 ⟨rfl, hb7⟩
 have hz7 := hb7.size
 have hb57 := hb6.trans (hb7.mono hz6)
 go_wp2_with fail
 refine (Busy_any 3 (some ⟨g6', 0, none⟩) smallL 7 sumT w7 (by simp [maxLen, smallL]) (hN6.below hb7)).mono ?_
 rintro e w8 ⟨hb8, h⟩
 obtain ⟨-, F, v1', v2', hF, rfl, hr1, hr2, -⟩ := h.resolve_left (fun h => h.1 fxE_smallM)
 clear h
 obtain ⟨hl7, hy2⟩ := busyX_small F hF
 obtain ⟨b2, o2, k2, ev, _, hl2, cb2, _⟩ := hr1.bool (k := 2) (by rw [hl7]; omega)
 rw [hl7] at ev
 rw [hy2] at cb2
 subst ev
 obtain ⟨X2, x2, ev2, _, _⟩ := hr2.shape
 subst ev2
 have hb58 := hb57.trans (hb8.mono (hb57.size))
 have hz58 := hb58.size
 clear hb6 hb7 hz6 hz7 hb57 hr1 hr2 hl7 hy2 hF hN6
 go_upto_region 4 with fail
 obtain ⟨W8, hW8⟩ : ∃ W : World, W = w8.alloc (.cells #[.slice (some ⟨b2, o2, none⟩) 7 k2, .slice X2 (bools (busyY sumT smallL)).length x2] 50) := ⟨_, rfl⟩
 have hb88 : Below w8.heap.size w8 W8 := by rw [hW8]; exact (Below.refl _ _).alloc (Nat.le_refl _) _
 have hb59 := hb58.trans (hb88.mono hz58)
 have hB9 := hB6.trans (hb59.mono hB6.size)
 have hQ9 := hQ6.below hb59 hQ6.lt
 have hR9 := hR6.below hb59 hR6.lt
 have g9 := g6.below hb59
 have hL9 : Blk W8 w8.heap.size 50 #[.slice (some ⟨b2, o2, none⟩) 7 k2, .slice X2 (bools (busyY sumT smallL)).length x2] := by rw [hW8]; exact Blk.new' rfl
 have cb2 := ((bcell hb88).1 _ _ hl2).trans cb2
 have hl2 := Nat.lt_of_lt_of_le hl2 hb88.size
 rw [← hW8]
 obtain ⟨lb, hlb⟩ : ∃ b, b = w8.heap.size := ⟨_, rfl⟩
 rw [← hlb] at hL9 ⊢
 have HT := fun (V : World) (hV : Below W8.heap.size W8 V) => hide (by have h := Times_any D1 (ints [9]).length d1 9 true 9 E1 p1 [(⟨3, 0, 1⟩, 1)] ⟨3, 0, 1⟩ V (g9.below hV) (by simp [maxLen]); rw [show cntOf [((⟨3, 0, 1⟩ : Tm), (1 : Int))] ⟨3, 0, 1⟩ = 1 from by decide] at h; exact h)
 have r0 := hQ9.cell 0
 have s0 := hR9.cell 0
 have s1 := hR9.cell 1
 have s2 := hR9.cell 2
 have s3 := hR9.cell 3
 have s4 := hR9.cell 4
 have l0 := hL9.cell 0
 simp only [Yl] at r0 s0 s1 s2 s3 s4 l0
 have lr := hQ9.lt
 have ls := hR9.lt
 have lL := hL9.lt
 clear hW8 hlb hb88 hb59 hB6 hb58 hb8 hQ6 hR6 g6 hQ9 hR9 g9 hL9
 have HH : ∀ (V : World), Below W8.heap.size W8 V → (V.cell? ⟨qb, 0, none⟩ = some (.int .i64 4) ∧ V.cell? ⟨rb, 0, none⟩ = some (.slice D1 (ints [9]).length d1) ∧ V.cell? ⟨rb, 1, none⟩ = some (.int .i64 9) ∧ V.cell? ⟨rb, 2, none⟩ = some (.bool true) ∧ V.cell? ⟨rb, 3, none⟩ = some (.int .i64 9) ∧ V.cell? ⟨rb, 4, none⟩ = some (.slice E1 1 p1) ∧ V.cell? ⟨lb, 0, none⟩ = some (.slice (some ⟨b2, o2, none⟩) 7 k2) ∧ V.cell? ⟨b2, o2 + 2, none⟩ = some (.bool true)) := fun V hV => ⟨((bcell hV).1 _ _ (by omega)).trans r0, ((bcell hV).1 _ _ (by omega)).trans s0, ((bcell hV).1 _ _ (by omega)).trans s1, ((bcell hV).1 _ _ (by omega)).trans s2, ((bcell hV).1 _ _ (by omega)).trans s3, ((bcell hV).1 _ _ (by omega)).trans s4, ((bcell hV).1 _ _ (by omega)).trans l0, ((bcell hV).1 _ _ (by omega)).trans cb2⟩
 refine wp_region_held_drew (S := fun w' => (w'.cell? ⟨qb, 0, none⟩ = some (.int .i64 4) ∧ w'.cell? ⟨rb, 0, none⟩ = some (.slice D1 (ints [9]).length d1) ∧ w'.cell? ⟨rb, 1, none⟩ = some (.int .i64 9) ∧ w'.cell? ⟨rb, 2, none⟩ = some (.bool true) ∧ w'.cell? ⟨rb, 3, none⟩ = some (.int .i64 9) ∧ w'.cell? ⟨rb, 4, none⟩ = some (.slice E1 1 p1) ∧ w'.cell? ⟨lb, 0, none⟩ = some (.slice (some ⟨b2, o2, none⟩) 7 k2) ∧ w'.cell? ⟨b2, o2 + 2, none⟩ = some (.bool true))) (by kernel_rfl) ?_ ?_
 · exact ⟨r0, s0, s1, s2, s3, s4, l0, cb2⟩
 intro hH
 have hC0 : Below W8.heap.size W8 W8.drew := (Below.refl _ _).drew
 generalize W8.drew = V0 at hH hC0 ⊢
 refine Up (fun _ _ _ _ _ => id) fun hP => ?_
 refine Vq 0 ?_ rfl (by kernel_rfl) hP (by rfl) ?r hH ?_; case r => intro w'; go_simp; try with_reducible rfl
 try simp only [Nm]
 refine Vq 1 ?_ rfl (by kernel_rfl) hP (by rfl) ?r hH ?_; case r => intro w'; go_simp; try with_reducible rfl
 try simp only [Nm]
 refine Vq 2 ?_ rfl (by kernel_rfl) hP (by rfl) ?r hH ?_; case r => intro w'; go_simp; try with_reducible rfl
 try simp only [Nm]
 refine Vq 3 ?_ rfl (by kernel_rfl) hP (by rfl) ?r hH ?_; case r => intro w'; go_simp; try with_reducible rfl
 try simp only [Nm]
 refine Vq 4 ?_ rfl (by kernel_rfl) hP (by rfl) ?r hH ?_; case r => intro w'; go_simp; try with_reducible rfl
 try simp only [Nm]
 refine Vq 5 ?_ rfl (by kernel_rfl) hP (by rfl) ?r hH ?_; case r => intro w'; go_simp; try with_reducible rfl
 try simp only [Nm]
 refine Vq 6 ?_ rfl (by kernel_rfl) hP (by rfl) ?r hH ?_; case r => intro w'; go_simp; try with_reducible rfl
 try simp only [Nm]
 refine Vq 7 ?_ rfl (by kernel_rfl) hP (by rfl) ?r hH ?_; case r => intro w'; go_simp; try with_reducible rfl
 try simp only [Nm]
 refine Vq 8 ?_ rfl (by kernel_rfl) hP (by rfl) ?r hH ?_; case r => intro w'; go_simp; try with_reducible rfl
 try simp only [Nm]
 refine Vq 9 ?_ rfl (by kernel_rfl) hP (by rfl) ?r hH ?_; case r => intro w'; go_simp; try with_reducible rfl
 try simp only [Nm]
 refine Vq 10 ?_ rfl (by kernel_rfl) hP (by rfl) ?r hH ?_; case r => intro w'; go_simp; try with_reducible rfl
 try simp only [Nm]
 refine Vq 11 ?_ rfl (by kernel_rfl) hP (by rfl) ?r hH ?_; case r => intro w'; go_simp; try with_reducible rfl
 try simp only [Nm]
 refine Vi 12 ?_ rfl (by kernel_rfl) hP (by rfl) ?r hH ?_; case r => intro w' h; (try dsimp only at h); (try go_split_ands); go_simp; try with_reducible rfl
 try simp only [Nm]
 refine Vq 13 ?_ rfl (by kernel_rfl) hP (by rfl) ?r hH ?_; case r => intro w'; go_simp; try with_reducible rfl
 try simp only [Nm]
 refine Vq 14 ?_ rfl (by kernel_rfl) hP (by rfl) ?r hH ?_; case r => intro w'; go_simp; try with_reducible rfl
 try simp only [Nm]
 refine Vq 15 ?_ rfl (by kernel_rfl) hP (by rfl) ?r hH ?_; case r => intro w'; go_simp; try with_reducible rfl
 try simp only [Nm]
 refine Vq 16 ?_ rfl (by kernel_rfl) hP (by rfl) ?r hH ?_; case r => intro w'; go_simp; try with_reducible rfl
 try simp only [Nm]
 refine Vi 17 ?_ rfl (by kernel_rfl) hP (by rfl) ?r hH ?_; case r => intro w' h; (try dsimp only at h); (try go_split_ands); go_simp; try with_reducible rfl
 try simp only [Nm]
 refine Vq 18 ?_ rfl (by kernel_rfl) hP (by rfl) ?r hH ?_; case r => intro w'; go_simp; try with_reducible rfl
 try simp only [Nm]
 refine Vq 19 ?_ rfl (by kernel_rfl) hP (by rfl) ?r hH ?_; case r => intro w'; go_simp; try with_reducible rfl
 try simp only [Nm]
 refine Vq 20 ?_ rfl (by kernel_rfl) hP (by rfl) ?r hH ?_; case r => intro w'; go_simp; try with_reducible rfl
 try simp only [Nm]
 refine Vi 21 ?_ rfl (by kernel_rfl) hP (by rfl) ?r hH ?_; case r => intro w' h; (try dsimp only at h); (try go_split_ands); go_simp; try with_reducible rfl
 try simp only [Nm]
 refine Vq 22 ?_ rfl (by kernel_rfl) hP (by rfl) ?r hH ?_; case r => intro w'; go_simp; try with_reducible rfl
 try simp only [Nm]
 refine Vq 23 ?_ rfl (by kernel_rfl) hP (by rfl) ?r hH ?_; case r => intro w'; go_simp; try with_reducible rfl
 try simp only [Nm]
 refine Vq 24 ?_ rfl (by kernel_rfl) hP (by rfl) ?r hH ?_; case r => intro w'; go_simp; try with_reducible rfl
 try simp only [Nm]
 refine Vi 25 ?_ rfl (by kernel_rfl) hP (by rfl) ?r hH ?_; case r => intro w' h; (try dsimp only at h); (try go_split_ands); go_simp; try with_reducible rfl
 try simp only [Nm]
 refine Rd 26 (by kernel_rfl) rfl (fun K hK => ?_)
 have HK26 := hide hK
 clear hK
 go_simp
 go_at_call 42
 refine (sum_any _).mono ?_
 rintro e V1 ⟨rfl, hbV1⟩
 have hC1 : Below W8.heap.size W8 V1 := hC0.trans (hbV1.mono hC0.size)
 clear hH
 refine Shut.out HK26.out _ _ (HH _ hC1) (fun hH => ?_)
 try simp only [Nm]
 clear HK26
 refine Rd 27 (by kernel_rfl) rfl (fun K hK => ?_)
 have HK27 := hide hK
 clear hK
 go_simp
 go_at_call 19
 refine ((HT _ hC1).out).mono ?_
 rintro e V2 ⟨rfl, hbV2⟩
 have hC2 : Below W8.heap.size W8 V2 := hC1.trans (hbV2.mono hC1.size)
 clear hH
 refine Shut.out HK27.out _ _ (HH _ hC2) (fun hH => ?_)
 try simp only [Nm]
 clear HK27
 refine Vq 28 ?_ rfl (by kernel_rfl) hP (by rfl) ?r hH ?_; case r => intro w'; go_simp; try with_reducible rfl
 try simp only [Nm]
 refine Vq 29 ?_ rfl (by kernel_rfl) hP (by rfl) ?r hH ?_; case r => intro w'; go_simp; try with_reducible rfl
 try simp only [Nm]
 refine Vq 30 ?_ rfl (by kernel_rfl) hP (by rfl) ?r hH ?_; case r => intro w'; go_simp; try with_reducible rfl
 try simp only [Nm]
 refine Vq 31 ?_ rfl (by kernel_rfl) hP (by rfl) ?r hH ?_; case r => intro w'; go_simp; try with_reducible rfl
 try simp only [Nm]
 refine Vi 32 ?_ rfl (by kernel_rfl) hP (by rfl) ?r hH ?_; case r => intro w' h; (try dsimp only at h); (try go_split_ands); go_simp; try with_reducible rfl
 try simp only [Nm]
 refine Vq 33 ?_ rfl (by kernel_rfl) hP (by rfl) ?r hH ?_; case r => intro w'; go_simp; try with_reducible rfl
 try simp only [Nm]
 refine Vq 34 ?_ rfl (by kernel_rfl) hP (by rfl) ?r hH ?_; case r => intro w'; go_simp; try with_reducible rfl
 try simp only [Nm]
 refine Vq 35 ?_ rfl (by kernel_rfl) hP (by rfl) ?r hH ?_; case r => intro w'; go_simp; try with_reducible rfl
 try simp only [Nm]
 refine Vq 36 ?_ rfl (by kernel_rfl) hP (by rfl) ?r hH ?_; case r => intro w'; go_simp; try with_reducible rfl
 try simp only [Nm]
 refine Vq 37 ?_ rfl (by kernel_rfl) hP (by rfl) ?r hH ?_; case r => intro w'; go_simp; try with_reducible rfl
 try simp only [Nm]
 refine Vi 38 ?_ rfl (by kernel_rfl) hP (by rfl) ?r hH ?_; case r => intro w' h; (try dsimp only at h); (try go_split_ands); go_simp; try with_reducible rfl
 try simp only [Nm]
 refine Vq 39 ?_ rfl (by kernel_rfl) hP (by rfl) ?r hH ?_; case r => intro w'; go_simp; try with_reducible rfl
 try simp only [Nm]
 refine Vi 40 ?_ rfl (by kernel_rfl) hP (by rfl) ?r hH ?_; case r => intro w' h; (try dsimp only at h); (try go_split_ands); go_simp; try with_reducible rfl
 try simp only [Nm]
 refine Vq 41 ?_ rfl (by kernel_rfl) hP (by rfl) ?r hH ?_; case r => intro w'; go_simp; try with_reducible rfl
 try simp only [Nm]
 refine Vq 42 ?_ rfl (by kernel_rfl) hP (by rfl) ?r hH ?_; case r => intro w'; go_simp; try with_reducible rfl
 try simp only [Nm]
 refine wpAnyH_done (by kernel_rfl) ?_ _
 go_wp2_with fail
 go_ret
 exact ⟨rfl, hB9.trans (hC2.mono hB9.size)⟩)
end
end Go.Proofs.Ytmghkonmfbpjcab
