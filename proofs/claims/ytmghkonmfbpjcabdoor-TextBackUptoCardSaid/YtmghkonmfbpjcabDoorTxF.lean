/- The reference's reading of a text. -/
import Derived.Test.YtmghkonmfbpjcabDoorTxG
import Derived.Test.YtmghkonmfbpjcabDoorTxH
import Derived.Test.YtmghkonmfbpjcabDoorTxP
import Derived.Test.YtmghkonmfbpjcabDoorCheckP
import Derived.Test.YtmghkonmfbpjcabDoorSame
import Derived.Deep.DeepCutAuto
import Derived.Deep.RegionWith
import Derived.Deep.RegionHeld3
import Derived.Deep.MidRow
import Derived.RegionTactic
namespace Go.Proofs.YtmghkonmfbpjcabDoor
set_option linter.unusedVariables false
set_option linter.unusedSimpArgs false
open Go.RowKit
set_option maxHeartbeats 8000000
open Go.Lib

/-- what the nodes read so far are, should the text show a right program -/
def Soon (s : List UInt8) (L : List (List UInt8)) (regs : Int) (ns : List Nd) (j : Nat) : Prop :=
  ∀ r l, chk r l = 0 → Fit l → s = showL r l → regs = r ∧ L.length = l.length + 2 ∧ ns = l.take (j - 1)
theorem setx_cell {V : World} {a b i : Nat} (h : ¬ (a = b)) (o : Nat) (u : Value) : (V.setCell ⟨b, i, none⟩ u).cell? ⟨a, o, none⟩ = V.cell? ⟨a, o, none⟩ := by simp [World.cell?_setCell_other, h]
theorem fit_app {l : List Nd} {x : Nd} (h : Fit l) (hx : ∀ i, i < 6 → i64ok (x.fld i)) : Fit (l ++ [x]) := fun n hn i hi => by
  rcases List.mem_append.1 hn with h1 | h1
  · exact h n h1 i hi
  · rw [List.mem_singleton.1 h1]; exact hx i hi
theorem Soon.next {s : List UInt8} {L : List (List UInt8)} {regs : Int} {ns : List Nd} {j : Nat} {xs : List UInt8} {x : Nd} (hL : (splB 10 s).take 259 = L) (hxs : L[j]? = some xs) (hn : ns.length = j - 1) (hj : 1 ≤ j)
    (hxm : ∀ m, Shaped m → xs = nodeL m → x = m) (hlt : j + 1 < L.length) (h : Soon s L regs ns j) : Soon s L regs (ns ++ [x]) (j + 1) := by
  intro r l hc hf hs
  obtain ⟨h1, h2, h3⟩ := h r l hc hf hs
  refine ⟨h1, h2, ?_⟩
  have hl := (text_lines hL hc hs).1
  obtain ⟨m, hm⟩ : ∃ m, l[j - 1]? = some m := ⟨_, List.getElem?_eq_getElem (by omega)⟩
  have hx : xs = nodeL m := by
    rw [hl] at hxs
    obtain ⟨i, rfl⟩ : ∃ i, j = i + 1 := ⟨j - 1, by omega⟩
    rw [List.getElem?_cons_succ, List.getElem?_append_left (by rw [List.length_map]; omega), List.getElem?_map] at hxs
    simp only [Nat.add_sub_cancel] at hm
    rw [hm] at hxs
    exact (Option.some.inj hxs).symm
  rw [h3, hxm m (right_fit hc hf m (List.mem_of_getElem? hm)) hx, show j + 1 - 1 = j - 1 + 1 by omega, List.take_add_one, hm]
  rfl
set_option maxRecDepth 100000 in
theorem ProgFrom_any (s : List UInt8) (hs : s.length ≤ 4294967280) (w : World) : Calls Tryd.prog 18 #[strB s] w fun e w' =>
    ∃ regs l v ok, e = .returned (.tuple #[.agg #[.int .i64 regs, v], .bool ok]) ∧ NRow w' w.heap.size 55 v l ∧ Below w.heap.size w w' ∧ Got s regs l ok := by
  obtain ⟨i3, h3i, h3z, h3s, h3b⟩ := info_parts infoNode
  have HC := fun W => hide (cut_any 10 259 (by omega) s hs W)
  go_enter Tryd.func18, Tryd.ntmps18
  go_upto_region 2 with fail
  refine Calls.mono (HC _).out ?_
  rintro e w1 ⟨v1, rfl, hR1, hb1⟩
  generalize hL : (splB 10 s).take 259 = L at *
  obtain ⟨A1, c1, rfl, _, _⟩ := hR1.shape
  rw [List.length_map] at *
  have hZ := (Blk.new w 24 #[.int .i64 0, .slice none 0 0]).below hb1 (by simp)
  have hBw : Below w.heap.size w w1 := ((Below.refl _ _).alloc (Nat.le_refl _) _).trans (hb1.mono (by simp))
  obtain ⟨L0, Lr, hLc⟩ : ∃ x r, L = x :: r := by
    cases h : L with
    | nil =>
      rw [h] at hL
      exact absurd ((List.take_eq_nil_iff.1 hL).resolve_left (by omega)) (splB_ne 10 s)
    | cons x r => exact ⟨x, r, rfl⟩
  have hL259 : L.length ≤ 259 := by rw [← hL, List.length_take]; omega
  have hLs : ∀ p ∈ L, p.length ≤ 4294967280 := by
    intro p hp
    rw [← hL] at hp
    have := splB_len 10 s p (List.mem_of_mem_take hp)
    omega
  have hLp : 0 < L.length := by rw [hLc]; simp
  have HC2 := fun W => hide (cut_any 32 3 (by omega) L0 (hLs _ (by rw [hLc]; simp)) W)
  have HL := hide hL
  have HLc := hide hLc
  have HLs := hide hLs
  clear hL hLs HC hb1
  have hRw := hR1.vals (by rw [hLc]; simp)
  clear hLc
  obtain ⟨b0, o0, rfl, hb0, hv0⟩ := hRw
  have Hv := hide hv0
  have hv0 : w1.cell? ⟨b0, o0, none⟩ = some (strB L0) := by have := hv0 0 (strB L0) (by rw [HLc.out]; rfl); simpa using this
  have hl0 : (0 : Int) < (L.length : Int) := by omega
  have hw1 : w.heap.size < w1.heap.size := hZ.lt
  go_upto_region 4 with fail
  refine Calls.mono (HC2 _).out ?_
  rintro e w2 ⟨v2, rfl, hR2, hb2⟩
  generalize hW : (splB 32 L0).take 3 = W at *
  obtain ⟨A2, c2, rfl, _, _⟩ := hR2.shape
  rw [List.length_map] at *
  have hP := (Blk.new w1 24 #[.int .i64 0, .slice none 0 0]).below hb2 (by simp)
  have hZ2 := (hZ.alloc (.cells #[.int .i64 0, .slice none 0 0] 24)).below hb2 (by simp; omega)
  have hB2 : Below w1.heap.size w1 w2 := ((Below.refl _ _).alloc (Nat.le_refl _) _).trans (hb2.mono (by simp))
  have HW := hide hW
  have hws : ∀ p ∈ W, p.length ≤ 4294967280 := by
    intro p hp
    rw [← hW] at hp
    have h1 := splB_len 32 L0 p (List.mem_of_mem_take hp)
    have h2 := HLs.out L0 (by rw [HLc.out]; simp)
    omega
  have HWs := hide hws
  clear hW hws HC2 hb2
  go_upto_if 17 with fail
  go_cut [] (fun wx => ∃ regs, (∀ r l, chk r l = 0 → s = showL r l → regs = r) ∧ i64ok regs ∧ Blk wx w1.heap.size 24 #[.int .i64 regs, .slice none 0 0] ∧ Blk wx w.heap.size 24 #[.int .i64 0, .slice none 0 0] ∧ Below w1.heap.size w1 wx)
  case first =>
    by_cases h2 : W.length = 2
    · have e2 : ((W.length : Int) == 2) = true := by rw [beq_iff_eq]; omega
      obtain ⟨W0, W1, hWc⟩ : ∃ x y, W = [x, y] := by
        match W, h2 with
        | [x, y], _ => exact ⟨x, y, rfl⟩
      subst hWc
      obtain ⟨b2, o2, rfl, hb2, hv2⟩ := hR2.vals (by simp)
      have hv2 : w2.cell? ⟨b2, o2 + 1, none⟩ = some (strB W1) := hv2 1 (strB W1) rfl
      have HS := hide (Said_any W1 (HWs.out _ (by simp)) w2)
      clear e2 h2
      simp only [List.length_cons, List.length_nil] at *
      go_upto_region 6 with fail
      refine Calls.mono HS.out ?_
      rintro e w3 ⟨z, ok, rfl, hz, hzn, hb3⟩
      have hP3 := hP.below hb3 hP.lt
      have q0 := hP3.cell 0
      have qf := hP3.frozen 0
      simp only [List.getElem?_toArray, List.getElem?_cons_zero] at q0
      have Hz := hide hzn
      clear hzn
      go_wp2_with fail
      go_meet
      refine ⟨z, fun r l hc hs' => Hz.out r (text_lines HL.out hc hs').2 ?_, hz, hP3.set_ 0 _, (hZ2.below hb3 hZ2.lt).far (by simp; omega) _, (hB2.trans (hb3.mono hB2.size)).setCell (by simp) _⟩
      have h1 := (text_lines HL.out hc hs').1
      rw [HLc.out] at h1
      injection h1 with h1 _
      have h3 := HW.out
      rw [h1, head_words] at h3
      injection h3 with _ h3
      injection h3 with h3 _
      exact h3.symm
    · have e2 : ((W.length : Int) == 2) = false := by rw [beq_eq_false_iff_ne]; omega
      go_wp2_with fail
      go_meet
      refine ⟨0, fun r l hc hs' => ?_, ⟨by omega, by omega⟩, hP, hZ2, hB2⟩
      exfalso
      apply h2
      have h1 := (text_lines HL.out hc hs').1
      rw [HLc.out] at h1
      injection h1 with h1 _
      rw [← HW.out, h1, head_words]
      rfl
  case rest =>
    obtain ⟨regs, hsoon, hrg, hP, hZ, hB⟩ := hcut
    clear hR2 hZ2 hB2 hv0 HW HWs
    have Hsoon := hide hsoon
    have Hrg := hide hrg
    clear hsoon hrg
    go_wp2_with fail
    go_loopg [7] (L.length) (fun gk i wr => ∃ (j : Nat) (ns : List Nd) (v : Value), 1 ≤ j ∧ j ≤ L.length + 1 ∧ i = .int .i64 j ∧ gk = L.length + 1 - j ∧ ns.length = j - 1 ∧ Fit ns ∧ Soon s L regs ns j ∧ NRow wr (w1.heap.size + 1) 55 v ns ∧ Blk wr w1.heap.size 24 #[.int .i64 regs, v] ∧ Blk wr w.heap.size 24 #[.int .i64 0, .slice none 0 0] ∧ Below w1.heap.size w1 wr)
    case atStart => exact ⟨1, [], .slice none 0 0, by omega, by omega, rfl, by omega, rfl, fun n hn => absurd hn (by simp), fun r l hc hf hs' => ⟨Hsoon.out r l hc hs', by rw [(text_lines HL.out hc hs').1]; simp, by simp⟩, NRow.nil_ _ _ _, hP, hZ, hB⟩
    case round =>
      obtain ⟨j, ns, v, hj1, hjL, rfl, hgk, hnl, hfit, hsn, hN, hP, hZ, hB⟩ := hrel
      have Hgk := hide hgk
      have Hsn := hide hsn
      have Hfit := hide hfit
      have hn3 : ns.length ≤ 259 := by omega
      have Hnl := hide hnl
      clear hgk hsn hfit hnl
      have lP := hP.lt
      have p0 := hP.cell 0
      have p1 := hP.cell 1
      have pf := hP.frozen 1
      simp only [List.getElem?_toArray, List.getElem?_cons_zero, List.getElem?_cons_succ] at p0 p1
      obtain ⟨An, cn, rfl, _, _⟩ := hN.shape
      by_cases hlt : j + 1 < L.length
      · have d1 : decide ((j : Int) + 1 < (L.length : Int)) = true := decide_eq_true (by omega)
        obtain ⟨xs, hxs⟩ : ∃ x, L[j]? = some x := ⟨_, List.getElem?_eq_getElem (by omega)⟩
        have hcj : wr.cell? ⟨b0, o0 + j, none⟩ = some (strB xs) := (hB.cell (p := ⟨b0, o0 + j, none⟩) hb0).trans (Hv.out j (strB xs) (by rw [List.getElem?_map, hxs]; rfl))
        have HG := fun W => hide (guess_any xs (HLs.out _ (List.mem_of_getElem? hxs)) W)
        have Hxs := hide hxs
        clear hxs
        have j0 : (0 : Int) ≤ (j : Int) := by omega
        have j1 : (j : Int) < (L.length : Int) := by omega
        go_upto_region 9 with fail
        have hz := hB.size
        -- region 9
        refine wp_region_held_drew (S := fun w' => (w'.cell? ⟨b0, o0 + j, none⟩ = some (strB xs))) (by kernel_rfl) ?_ ?_
        · exact (hcj)
        intro hHeld
        have hC0 : Below wr.heap.size wr wr.drew := (Below.refl _ _).drew
        generalize wr.drew = V0 at hHeld hC0 ⊢
        refine wpAnyH_take (i := 0) (v := ?_) rfl (by kernel_rfl) (by kernel_rfl) (by kernel_rfl) (fun _ _ _ h => h) (Or.inl ⟨by rfl, ?_⟩) hHeld ?_; rotate_left; (focus (intro w' hSw; clear hSw; go_simp; try with_reducible rfl))
        try simp only [List.getElem_toArray, List.getElem_cons_zero, List.getElem_cons_succ, Act.put, List.setIfInBounds_toArray, List.set_cons_zero, List.set_cons_succ]
        refine wpAnyH_take (i := 2) (v := ?_) rfl (by kernel_rfl) (by kernel_rfl) (by kernel_rfl) (fun _ _ _ h => h) (Or.inl ⟨by rfl, ?_⟩) hHeld ?_; rotate_left; (focus (intro w' hSw; clear hSw; go_simp; try with_reducible rfl))
        try simp only [List.getElem_toArray, List.getElem_cons_zero, List.getElem_cons_succ, Act.put, List.setIfInBounds_toArray, List.set_cons_zero, List.set_cons_succ]
        refine wpAnyH_take (i := 3) (v := ?_) rfl (by kernel_rfl) (by kernel_rfl) (by kernel_rfl) (fun _ _ _ h => h) (Or.inl ⟨by rfl, ?_⟩) hHeld ?_; rotate_left; (focus (intro w' hSw; clear hSw; go_simp; try with_reducible rfl))
        try simp only [List.getElem_toArray, List.getElem_cons_zero, List.getElem_cons_succ, Act.put, List.setIfInBounds_toArray, List.set_cons_zero, List.set_cons_succ]
        refine wpAnyH_take (i := 4) (v := ?_) rfl (by kernel_rfl) (by kernel_rfl) (by kernel_rfl) (fun _ _ _ h => h) (Or.inl ⟨by rfl, ?_⟩) hHeld ?_; rotate_left; (focus (intro w' hSw; clear hSw; go_simp; try with_reducible rfl))
        try simp only [List.getElem_toArray, List.getElem_cons_zero, List.getElem_cons_succ, Act.put, List.setIfInBounds_toArray, List.set_cons_zero, List.set_cons_succ]
        refine wpAnyH_take (i := 5) (v := ?_) rfl (by kernel_rfl) (by kernel_rfl) (by kernel_rfl) (fun _ _ _ h => h) (Or.inl ⟨by rfl, ?_⟩) hHeld ?_; rotate_left; (focus (intro w' hSw; (try dsimp only at hSw); (try go_split_ands); go_simp; try with_reducible rfl))
        try simp only [List.getElem_toArray, List.getElem_cons_zero, List.getElem_cons_succ, Act.put, List.setIfInBounds_toArray, List.set_cons_zero, List.set_cons_succ]
        refine wpAnyH_ready (rs := [1, 6]) (by kernel_rfl) (by simp) ?_
        refine AllReadyH.cons rfl (fun K hK => ?_) (AllReadyH.cons rfl (fun K hK => ?_) AllReadyH.nil)
        focus
          have HK1 := hide hK
          clear hK
          have hx := (hP.below hC0 hP.lt).cell 1
          simp only [List.getElem?_toArray, List.getElem?_cons_zero, List.getElem?_cons_succ] at hx
          go_simp
          clear hx hHeld
          refine Shut.out HK1.out _ _ (((bcell hC0).1 _ _ (by omega)).trans hcj) (fun hHeld => ?_)
          try simp only [List.getElem_toArray, List.getElem_cons_zero, List.getElem_cons_succ, Act.put, List.setIfInBounds_toArray, List.set_cons_zero, List.set_cons_succ]
          clear HK1
          refine wpAnyH_ready (rs := [6]) (by kernel_rfl) (by simp) ?_
          refine AllReadyH.cons rfl (fun K hK => ?_) AllReadyH.nil
          have HK6 := hide hK
          clear hK
          go_simp
          go_at_call 48
          refine ((HG _).out).mono ?_
          rintro e V1 ⟨x, rfl, hxf, hxm, hbV1⟩
          have hC1 : Below wr.heap.size wr V1 := hC0.trans (hbV1.mono hC0.size)
          clear hHeld
          refine Shut.out HK6.out _ _ (((bcell hC1).1 _ _ (by omega)).trans hcj) (fun hHeld => ?_)
          try simp only [List.getElem_toArray, List.getElem_cons_zero, List.getElem_cons_succ, Act.put, List.setIfInBounds_toArray, List.set_cons_zero, List.set_cons_succ]
          clear HK6
          refine wpAnyH_ready (rs := [7]) (by kernel_rfl) (by simp) ?_
          refine AllReadyH.cons rfl (fun K hK => ?_) AllReadyH.nil
          have HK7 := hide hK
          clear hK
          go_simp
          obtain ⟨V2, hV2⟩ : ∃ V : World, V = V1.alloc (.cells #[.int .i64 x.op, .int .i64 x.d, .int .i64 x.a, .int .i64 x.b, .int .i64 x.t, .int .i64 x.e] 55) := ⟨_, rfl⟩
          rw [← hV2]
          have hC2 : Below wr.heap.size wr V2 := by rw [hV2]; exact Below.alloc hC1 hC1.size _
          have hv1 : NodesAt V2 (some ⟨V1.heap.size, 0, none⟩) [x] := by rw [hV2]; exact nodes_one' rfl
          clear hHeld hV2
          refine Shut.out HK7.out _ _ (((bcell hC2).1 _ _ (by omega)).trans hcj) (fun hHeld => ?_)
          try simp only [List.getElem_toArray, List.getElem_cons_zero, List.getElem_cons_succ, Act.put, List.setIfInBounds_toArray, List.set_cons_zero, List.set_cons_succ]
          clear HK7
        rotate_left
        focus
          have HK6 := hide hK
          clear hK
          go_simp
          go_at_call 48
          refine ((HG _).out).mono ?_
          rintro e V1 ⟨x, rfl, hxf, hxm, hbV1⟩
          have hC1 : Below wr.heap.size wr V1 := hC0.trans (hbV1.mono hC0.size)
          clear hHeld
          refine Shut.out HK6.out _ _ (((bcell hC1).1 _ _ (by omega)).trans hcj) (fun hHeld => ?_)
          try simp only [List.getElem_toArray, List.getElem_cons_zero, List.getElem_cons_succ, Act.put, List.setIfInBounds_toArray, List.set_cons_zero, List.set_cons_succ]
          clear HK6
          refine wpAnyH_ready (rs := [1, 7]) (by kernel_rfl) (by simp) ?_
          refine AllReadyH.cons rfl (fun K hK => ?_) (AllReadyH.cons rfl (fun K hK => ?_) AllReadyH.nil)
          focus
            have HK1 := hide hK
            clear hK
            have hx := (hP.below hC1 hP.lt).cell 1
            simp only [List.getElem?_toArray, List.getElem?_cons_zero, List.getElem?_cons_succ] at hx
            go_simp
            clear hx hHeld
            refine Shut.out HK1.out _ _ (((bcell hC1).1 _ _ (by omega)).trans hcj) (fun hHeld => ?_)
            try simp only [List.getElem_toArray, List.getElem_cons_zero, List.getElem_cons_succ, Act.put, List.setIfInBounds_toArray, List.set_cons_zero, List.set_cons_succ]
            clear HK1
            refine wpAnyH_ready (rs := [7]) (by kernel_rfl) (by simp) ?_
            refine AllReadyH.cons rfl (fun K hK => ?_) AllReadyH.nil
            have HK7 := hide hK
            clear hK
            go_simp
            obtain ⟨V2, hV2⟩ : ∃ V : World, V = V1.alloc (.cells #[.int .i64 x.op, .int .i64 x.d, .int .i64 x.a, .int .i64 x.b, .int .i64 x.t, .int .i64 x.e] 55) := ⟨_, rfl⟩
            rw [← hV2]
            have hC2 : Below wr.heap.size wr V2 := by rw [hV2]; exact Below.alloc hC1 hC1.size _
            have hv1 : NodesAt V2 (some ⟨V1.heap.size, 0, none⟩) [x] := by rw [hV2]; exact nodes_one' rfl
            clear hHeld hV2
            refine Shut.out HK7.out _ _ (((bcell hC2).1 _ _ (by omega)).trans hcj) (fun hHeld => ?_)
            try simp only [List.getElem_toArray, List.getElem_cons_zero, List.getElem_cons_succ, Act.put, List.setIfInBounds_toArray, List.set_cons_zero, List.set_cons_succ]
            clear HK7
          rotate_left
          focus
            have HK7 := hide hK
            clear hK
            go_simp
            obtain ⟨V2, hV2⟩ : ∃ V : World, V = V1.alloc (.cells #[.int .i64 x.op, .int .i64 x.d, .int .i64 x.a, .int .i64 x.b, .int .i64 x.t, .int .i64 x.e] 55) := ⟨_, rfl⟩
            rw [← hV2]
            have hC2 : Below wr.heap.size wr V2 := by rw [hV2]; exact Below.alloc hC1 hC1.size _
            have hv1 : NodesAt V2 (some ⟨V1.heap.size, 0, none⟩) [x] := by rw [hV2]; exact nodes_one' rfl
            clear hHeld hV2
            refine Shut.out HK7.out _ _ (((bcell hC2).1 _ _ (by omega)).trans hcj) (fun hHeld => ?_)
            try simp only [List.getElem_toArray, List.getElem_cons_zero, List.getElem_cons_succ, Act.put, List.setIfInBounds_toArray, List.set_cons_zero, List.set_cons_succ]
            clear HK7
            refine wpAnyH_ready (rs := [1]) (by kernel_rfl) (by simp) ?_
            refine AllReadyH.cons rfl (fun K hK => ?_) AllReadyH.nil
            have HK1 := hide hK
            clear hK
            have hx := (hP.below hC2 hP.lt).cell 1
            simp only [List.getElem?_toArray, List.getElem?_cons_zero, List.getElem?_cons_succ] at hx
            go_simp
            clear hx hHeld
            refine Shut.out HK1.out _ _ (((bcell hC2).1 _ _ (by omega)).trans hcj) (fun hHeld => ?_)
            try simp only [List.getElem_toArray, List.getElem_cons_zero, List.getElem_cons_succ, Act.put, List.setIfInBounds_toArray, List.set_cons_zero, List.set_cons_succ]
            clear HK1
        all_goals
          refine wpAnyH_ready (rs := [8]) (by kernel_rfl) (by simp) ?_
          refine AllReadyH.cons rfl (fun K hK => ?_) AllReadyH.nil
          have HK8 := hide hK
          clear hK
          refine step_append_nodes (v := .slice An ns.length cn) (l := ns) (base := w1.heap.size + 1) (by rfl) _ _ _ (by rfl) i3 _ 48 Tryd.underlying22 h3i h3z h3s h3b rfl (by rfl) (hN.below' hC2) (some ⟨_, 0, none⟩) 1 1 [x] (by rfl) (by rfl) hv1 (by simp [maxLen]; omega) (by simp; omega) (by have := hC2.size; omega) ?_
          intro v9 w9 hr9 hg9 hat9
          obtain ⟨A9, c9, hv9, _, _⟩ := hr9.shape
          subst hv9
          simp only [List.length_append, List.length_singleton] at hr9 hat9 ⊢
          have hown : ∀ b, b < w1.heap.size → (some b) ≠ (Value.slice An ns.length cn).ownBlock := fun b hb e => by have := (hN.lt b e.symm).1; omega
          have hsz2 := hC2.size
          have X9 := (hg9.cell_far ⟨b0, o0 + j, none⟩ (by simp; omega) (hown _ (by omega))).trans (((bcell hC2).1 _ _ (by omega)).trans hcj)
          have hq9 := Blk.grown (hP.below hC2 hP.lt) hg9 (hN.ne_blk hP (by decide))
          have hZ9 := Blk.grown (hZ.below hC2 hZ.lt) hg9 (hN.ne_blk hZ (by decide))
          have hB9 : Below w1.heap.size w1 w9 := Below.grown (hB.trans (hC2.mono hB.size)) hg9 (by have := hB.size; omega) (fun q hq => by have := (hN.lt q hq).1; omega)
          clear hat9 hHeld
          refine Shut.out HK8.out _ _ X9 (fun hHeld => ?_)
          try simp only [List.getElem_toArray, List.getElem_cons_zero, List.getElem_cons_succ, Act.put, List.setIfInBounds_toArray, List.set_cons_zero, List.set_cons_succ]
          clear HK8
          refine wpAnyH_take (i := 9) (v := ?_) rfl (by kernel_rfl) (by kernel_rfl) (by kernel_rfl) (fun _ _ _ h => h) (Or.inl ⟨by rfl, ?_⟩) hHeld ?_; rotate_left; (focus (intro w' hSw; clear hSw; go_simp; try with_reducible rfl))
          try simp only [List.getElem_toArray, List.getElem_cons_zero, List.getElem_cons_succ, Act.put, List.setIfInBounds_toArray, List.set_cons_zero, List.set_cons_succ]
          refine wpAnyH_ready (rs := [10]) (by kernel_rfl) (by simp) ?_
          refine AllReadyH.cons rfl (fun K hK => ?_) AllReadyH.nil
          have HK10 := hide hK
          clear hK
          have hx := hq9.cell 1
          have fx := hq9.frozen 1
          simp only [List.getElem?_toArray, List.getElem?_cons_zero, List.getElem?_cons_succ] at hx
          go_simp
          refine Shut.out HK10.out _ _ ((setx_cell (by omega) _ _).trans X9) (fun hHeld => ?_)
          try simp only [List.getElem_toArray, List.getElem_cons_zero, List.getElem_cons_succ, Act.put, List.setIfInBounds_toArray, List.set_cons_zero, List.set_cons_succ]
          clear HK10
          refine wpAnyH_done (by kernel_rfl) ?_ _
          go_wp2_with fail
          go_roundg (L.length + 1 - (j + 1))
          case measure => have := Hgk.out; omega
          case rel => exact ⟨j + 1, ns ++ [x], _, by omega, by omega, by go_num, rfl, by have := Hnl.out; simp; omega, fit_app Hfit.out hxf, Soon.next HL.out Hxs.out Hnl.out hj1 hxm hlt Hsn.out, hr9.far (hr9.ne_blk hq9 (by decide)) _, hq9.set_ 1 _, hZ9.far (by simp; omega) _, hB9.setCell (by simp) _⟩
        -- end of region 9
      · have d1 : decide ((j : Int) + 1 < (L.length : Int)) = false := decide_eq_false (by omega)
        have HK := fun W (hb : Below wr.heap.size wr W) => hide (CheckProg_any regs An ns cn W (hN.nodes.below hb))
        have z0 := hZ.cell 0
        have z1 := hZ.cell 1
        have zf0 := hZ.frozen 0
        have zf1 := hZ.frozen 1
        simp only [List.getElem?_toArray, List.getElem?_cons_zero, List.getElem?_cons_succ] at z0 z1
        by_cases hc : chk regs ns = 0
        · have hR := right_of_chk hc
          obtain ⟨hm1, hm256, hr1, hr64, hmo⟩ := chk_small hc
          rw [hc] at HK
          have HT := fun W (hb : Below wr.heap.size wr W) => hide (ProgText_any regs An ns cn W (hN.nodes.below hb) hm256 ⟨by omega, by omega⟩ hmo Hfit.out)
          have Hc := hide hc
          clear hR hc hmo
          go_wp2_with fail
          refine Calls.mono (HK _ (Below.refl _ _)).out ?_
          rintro e w5 ⟨rfl, hb5⟩
          have hP5 := hP.below hb5 hP.lt
          have p0 := hP5.cell 0
          have p1 := hP5.cell 1
          simp only [List.getElem?_toArray, List.getElem?_cons_zero, List.getElem?_cons_succ] at p0 p1
          go_wp2_with fail
          refine Calls.mono (HT _ hb5).out ?_
          rintro e w6 ⟨rfl, hb6⟩
          have hb6 := hb5.trans (hb6.mono hb5.size)
          have hP6 := hP.below hb6 hP.lt
          have hZ6 := hZ.below hb6 hZ.lt
          have p0 := hP6.cell 0
          have p1 := hP6.cell 1
          have z0 := hZ6.cell 0
          have z1 := hZ6.cell 1
          have zf0 := hZ6.frozen 0
          have zf1 := hZ6.frozen 1
          have hZ6 := hide hZ6
          simp only [List.getElem?_toArray, List.getElem?_cons_zero, List.getElem?_cons_succ] at p0 p1 z0 z1
          by_cases hE : showL regs ns = s
          · rw [hE]
            go_wp2_with fail
            refine bodyPost_ret (v := .tuple #[.agg #[.int .i64 regs, .slice An ns.length cn], .bool true]) (by simp [results, Tryd.results18, go_sem, p0, p1, z0, z1, zf0, zf1, World.cell?_setCell_same, World.cell?_setCell_other]; try rfl) rfl ⟨regs, ns, _, true, rfl, ?_, ?_, .inl ⟨rfl, Hc.out, Hfit.out, hE.symm⟩⟩
            · exact ((hN.below' hb6).far (fun e => by have := (hN.lt _ e).1; simp only at this; omega) _).far (fun e => by have := (hN.lt _ e).1; simp only at this; omega) _ |>.mono (by omega)
            · exact ((hBw.trans ((hB.trans (hb6.mono hB.size)).mono (Nat.le_of_lt hw1))).setCell (Nat.le_refl _) _).setCell (Nat.le_refl _) _
          · have hne : (showL regs ns == s) = false := by rw [beq_eq_false_iff_ne]; exact hE
            have Hne := hide hE
            clear hE
            generalize hgs : showL regs ns = sh at *
            have Hgs := hide hgs
            clear hgs
            go_wp2_with fail
            refine bodyPost_ret (v := .tuple #[.agg #[.int .i64 0, .slice none 0 0], .bool false]) (by simp [results, Tryd.results18, go_sem, p0, p1, z0, z1, zf0, zf1, World.cell?_setCell_same, World.cell?_setCell_other]; try rfl) rfl ⟨0, [], _, false, rfl, NRow.nil_ _ _ _, ?_, .inr ⟨rfl, rfl, rfl, ?_⟩⟩
            · exact ((hBw.trans ((hB.trans (hb6.mono hB.size)).mono (Nat.le_of_lt hw1))).setCell (Nat.le_refl _) _).setCell (Nat.le_refl _) _
            · intro r l h1 h2 h3
              obtain ⟨e1, e2, e3⟩ := Hsn.out r l h1 h2 h3
              have hx := Hnl.out
              have e4 : ns = l := by rw [e3, List.take_of_length_le (by omega)]
              apply Hne.out
              rw [← Hgs.out, h3, e1, e4]
        · have hn0 : (chk regs ns != 0) = true := by simp [hc]
          have Hc := hide hc
          clear hc
          generalize hgz : chk regs ns = cz at *
          have Hgz := hide hgz
          clear hgz
          go_wp2_with fail
          refine Calls.mono (HK _ (Below.refl _ _)).out ?_
          rintro e w6 ⟨rfl, hb6⟩
          have hZ6 := hZ.below hb6 hZ.lt
          have z0 := hZ6.cell 0
          have z1 := hZ6.cell 1
          have zf0 := hZ6.frozen 0
          have zf1 := hZ6.frozen 1
          simp only [List.getElem?_toArray, List.getElem?_cons_zero, List.getElem?_cons_succ] at z0 z1
          go_wp2_with fail
          refine bodyPost_ret (v := .tuple #[.agg #[.int .i64 0, .slice none 0 0], .bool false]) (by simp [results, Tryd.results18, go_sem, z0, z1, zf0, zf1, World.cell?_setCell_same, World.cell?_setCell_other]; try rfl) rfl ⟨0, [], _, false, rfl, NRow.nil_ _ _ _, ?_, .inr ⟨rfl, rfl, rfl, ?_⟩⟩
          · exact ((hBw.trans ((hB.trans (hb6.mono hB.size)).mono (Nat.le_of_lt hw1))).setCell (Nat.le_refl _) _).setCell (Nat.le_refl _) _
          · intro r l h1 h2 h3
            obtain ⟨e1, e2, e3⟩ := Hsn.out r l h1 h2 h3
            have hx := Hnl.out
            have e4 : ns = l := by rw [e3, List.take_of_length_le (by omega)]
            apply Hc.out
            rw [Hgz.out.symm, e1, e4, h1]
end Go.Proofs.YtmghkonmfbpjcabDoor
