/- factsBegun: true, in whatever memory. -/
import Derived.Test.YtmghkonmfbpjcaaFactI
import Derived.Test.YtmghkonmfbpjcaaFactO
import Derived.Test.YtmghkonmfbpjcaaSameB
namespace Go.Proofs.Ytmghkonmfbpjcaa
set_option linter.unusedVariables false
set_option linter.unusedSimpArgs false
open Go.RowKit
set_option maxHeartbeats 4000000
attribute [local irreducible] Row madeCells

theorem fxE_small : fxE 3 smallL sumT = 0 := by decide
theorem vals_of {w : World} {cs : Array Value} {t : TypeId} {g : Nat} {xs : List Value} (h : g = w.heap.size) (hc : cs = xs.toArray) : ValsAt (w.alloc (.cells cs t)) (some ⟨g, 0, none⟩) xs := by
  subst hc
  have hb := Blk.new' (w := w) (t := t) (cs := xs.toArray) h
  refine ValsAt.mk hb.lt fun i v hi => ?_
  rw [Nat.zero_add, hb.cell]
  simpa using hi

set_option maxRecDepth 100000 in
theorem factsBegun_any (w : World) : Calls Try.prog 31 #[] w fun e w' => e = .returned (.bool true) ∧ Below w.heap.size w w' := by
  go_enter Try.func31, Try.ntmps31
  go_wp2_with fail
  refine (small_any w).mono ?_
  rintro e w1 ⟨g1, rfl, hN1, hb1⟩
  have hz1 := hb1.size
  go_wp2_with fail
  refine (sum_any w1).mono ?_
  rintro e w2 ⟨rfl, hb2⟩
  have hz2 := hb2.size
  have hB2 := hb1.trans (hb2.mono hz1)
  go_wp2_with fail
  refine (Facts_any 3 (some ⟨g1, 0, none⟩) smallL 7 sumT w2 (by simp [maxLen, smallL]) (hN1.below hb2)).mono ?_
  rintro e w3 ⟨hb3, h3⟩
  obtain ⟨F, v0, v1, v2, v3, v4, v5, rfl, hF, hr0, hr1, hr2, hr3, hr4, hr5⟩ := (h3.resolve_left (fun h => h.1 fxE_small)).2
  obtain ⟨e0, e2, e3, e4, e5⟩ := fx_small F hF
  obtain ⟨_, n1, _, _, n4, n5⟩ := hF.len
  rw [e0] at hr0
  rw [e2] at hr2
  obtain ⟨D0, k0, hv0, _, _⟩ := hr0.shape
  obtain ⟨D1, k1, hv1, _, _⟩ := hr1.shape
  obtain ⟨D2, k2, hv2, _, _⟩ := hr2.shape
  obtain ⟨D4, k4, hv4, _, _⟩ := hr4.shape
  obtain ⟨D5, k5, hv5, _, _⟩ := hr5.shape
  obtain ⟨D3, o3, k3, hv3, _, hl3, c3, _⟩ := hr3.bool (k := 3) (by rw [e3]; omega)
  obtain ⟨D3', o3', k3', hv3', _, _, c4, _⟩ := hr3.bool (k := 4) (by rw [e3]; omega)
  obtain ⟨ea, eb⟩ : D3' = D3 ∧ o3' = o3 := by
    rw [hv3] at hv3'
    injection hv3' with h _ _
    injection h with h
    injection h with h1 h2 _
    exact ⟨h1.symm, h2.symm⟩
  subst ea eb
  rw [e3] at hv3
  rw [e4] at c3
  rw [e5] at c4
  have l0 : (bools [false, false, true, true, true, true, false]).length = 7 := rfl
  have l2 : (bools [false, false, true, false, false, false, false]).length = 7 := rfl
  rw [l0] at hv0
  rw [l2] at hv2
  subst hv0 hv1 hv2 hv3 hv4 hv5
  have hz3 := hb3.size
  have hB3 := hB2.trans (hb3.mono (by omega))
  have H0 := hide hr0.vals
  have H2 := hide hr2.vals
  clear e0 e2 e3 e4 e5 n1 n4 n5 l0 l2 hv3' hr0 hr1 hr2 hr3 hr4 hr5 h3 hF
  go_wp2_with fail
  obtain ⟨W3, hW3⟩ : ∃ W3 : World, W3 = (w3.alloc (.cells #[.slice D0 7 k0, .slice D1 (bools F.up).length k1, .slice D2 7 k2, .slice (some ⟨D3', o3', none⟩) 7 k3, .slice D4 (bools F.late).length k4, .slice D5 (bools F.alone).length k5] 49)).alloc (.cells #[.bool false, .bool false, .bool true, .bool true, .bool true, .bool true, .bool false] 4) := ⟨_, rfl⟩
  rw [← hW3]
  have hb33 : Below w3.heap.size w3 W3 := by rw [hW3]; exact ((Below.refl _ _).alloc (Nat.le_refl _) _).alloc (by simp) _
  have hQ : Blk W3 w3.heap.size 49 #[.slice D0 7 k0, .slice D1 (bools F.up).length k1, .slice D2 7 k2, .slice (some ⟨D3', o3', none⟩) 7 k3, .slice D4 (bools F.late).length k4, .slice D5 (bools F.alone).length k5] := by rw [hW3]; exact (Blk.new' rfl).alloc _
  have hlit : ValsAt W3 (some ⟨w3.heap.size + 1, 0, none⟩) (bools [false, false, true, true, true, true, false]) := by rw [hW3]; exact vals_of (by simp) rfl
  have hBW := hB3.trans (hb33.mono (by omega))
  have H0' := H0.out.below hb33
  have H2' := hide (H2.out.below hb33)
  have c3 := ((bcell hb33).1 _ _ hl3).trans c3
  have c4 := ((bcell hb33).1 _ _ hl3).trans c4
  have hl3 := Nat.lt_of_lt_of_le hl3 hb33.size
  clear hW3 hb33
  refine (SameBools_any D0 (some ⟨w3.heap.size + 1, 0, none⟩) k0 7 [false, false, true, true, true, true, false] [false, false, true, true, true, true, false] W3 H0' hlit (by simp [maxLen]) (by simp [maxLen])).mono ?_
  rintro e w4 ⟨rfl, d, rfl⟩
  have q2 := hQ.cell 2
  have q3 := hQ.cell 3
  have lQ := hQ.lt
  simp only [List.getElem?_toArray, List.getElem?_cons_zero, List.getElem?_cons_succ] at q2 q3
  clear hlit H0'
  go_wp2_with fail
  obtain ⟨W4, hW4⟩ : ∃ W4 : World, W4 = (W3.drewN d).alloc (.cells #[.bool false, .bool false, .bool true, .bool false, .bool false, .bool false, .bool false] 4) := ⟨_, rfl⟩
  rw [← hW4]
  have hb34 : Below W3.heap.size W3 W4 := by rw [hW4]; exact (below_drewN (Below.refl _ _) d).alloc (Nat.le_refl _) _
  have hlit2 : ValsAt W4 (some ⟨W3.heap.size, 0, none⟩) (bools [false, false, true, false, false, false, false]) := by rw [hW4]; exact vals_of rfl rfl
  have hQ4 := hQ.below hb34 lQ
  have q3 := hQ4.cell 3
  have lQ := hQ4.lt
  simp only [List.getElem?_toArray, List.getElem?_cons_zero, List.getElem?_cons_succ] at q3
  have c3 := ((bcell hb34).1 _ _ hl3).trans c3
  have c4 := ((bcell hb34).1 _ _ hl3).trans c4
  have hl3 := Nat.lt_of_lt_of_le hl3 hb34.size
  have hB4 := hBW.trans (hb34.mono hBW.size)
  have H2'' := H2'.out.below hb34
  clear hW4 hb34 q2 hQ
  refine (SameBools_any D2 (some ⟨W3.heap.size, 0, none⟩) k2 7 [false, false, true, false, false, false, false] [false, false, true, false, false, false, false] W4 H2'' hlit2 (by simp [maxLen]) (by simp [maxLen])).mono ?_
  rintro e w5 ⟨rfl, d2, rfl⟩
  clear H2'' hlit2
  go_wp2_with fail
  go_ret
  exact ⟨rfl, below_drewN hB4 d2⟩
end Go.Proofs.Ytmghkonmfbpjcaa
