/- The law LiveSame, walked. PRINTED by mklsame.py. -/
import Derived.Test.YtmghkonmfbpjcabDoorJE
import Derived.Test.YtmghkonmfbpjcabDoorRunW
import Derived.Test.YtmghkonmfbpjcabDoorLiveX
import Derived.Test.YtmghkonmfbpjcabDoorHushP
import Derived.Test.YtmghkonmfbpjcabDoorJA
import Derived.Deep.RegionHeld3
namespace Go.Proofs.YtmghkonmfbpjcabDoor
set_option linter.unusedVariables false
set_option linter.unusedSimpArgs false
open Go.RowKit
set_option maxHeartbeats 8000000
attribute [local irreducible] Row CRow madeCells NRow

/-- a program in a box of the law's own, its nodes younger than a world -/
structure ProgSt (tP tN : TypeId) (B b : Nat) (regs : Int) (A : Option Addr) (c : Nat) (l : List Nd) (W : World) : Prop where
  box : Blk W b tP #[.int .i64 regs, .slice A l.length c]
  row : NRow W B tN (.slice A l.length c) l
theorem ProgSt.later {tP tN : TypeId} {B b : Nat} {regs : Int} {A : Option Addr} {c : Nat} {l : List Nd} {W W' : World} (h : ProgSt tP tN B b regs A c l W) (hb : Below W.heap.size W W') : ProgSt tP tN B b regs A c l W' := ⟨h.box.below hb h.box.lt, h.row.below' hb⟩
/-- no term is reckoned more often -/
theorem hush_counts {a b : Rn} (h : HushRun a b) {k : Nat} {x : Tm × Int} (hx : (countsL b.ts)[k]? = some x) : ¬ (cntOf (countsL a.ts) x.1 < x.2) := by
  have h1 := cntOf_mem (countsL_asc b.ts) (List.mem_of_getElem? hx)
  rw [countsL_cnt] at h1
  rw [countsL_cnt]
  have := h.cnt x.1
  omega
set_option maxRecDepth 100000 in
theorem lsame_err (regs : Int) (A : Option Addr) (l : List Nd) (cap : Nat) (Ai : Option Addr) (inp : List Int) (ci : Nat) (fuel : Int) (w : World) (hA : NodesAt w A l) (hml : l.length ≤ maxLen) (hT : Tz w) (hc : chk regs l ≠ 0) :
    Calls Tryd.prog 3 #[.agg #[.int .i64 regs, .slice A l.length cap], .slice Ai inp.length ci, .int .i64 fuel] w fun e w' => e = .returned (.bool true) ∧ Below w.heap.size w w' := by
  have Hc := hide hc
  have hne : (chk regs l != 0) = true := by simpa using hc
  have HD := hide (fun W (hW : Below w.heap.size w W) => Dead_err regs A l cap W (hA.below hW) hml hc)
  have HB := hide (fun W (hW : Below w.heap.size w W) => liveBegun_any W (hT.below' hW))
  clear hc hA hT
  generalize chk regs l = c at *
  go_enter Tryd.func3, Tryd.ntmps3
  go_wp2_with fail
  refine (HD.out _ (by repeat (first | (with_reducible exact Below.refl _ _) | (with_reducible assumption) | (with_reducible refine Below.drew ?_) | (with_reducible refine below_drewN ?_ _) | (with_reducible refine Below.alloc ?_ (by (try simp only [World.size_alloc, World.size_setCell, World.size_drew, World.heap_drewN]); (first | done | omega | ((try simp only [World.size_alloc, World.size_setCell, World.size_drew, World.heap_drewN] at *); omega))) _) | (with_reducible refine Below.setCell ?_ (by (try simp only [World.size_alloc, World.size_setCell, World.size_drew, World.heap_drewN]); (first | done | omega | ((try simp only [World.size_alloc, World.size_setCell, World.size_drew, World.heap_drewN] at *); omega))) _) | (with_reducible refine Below.trans ?_ (Below.mono (by assumption) (by (try simp only [World.size_alloc, World.size_setCell, World.size_drew, World.heap_drewN]); (first | done | omega | ((try simp only [World.size_alloc, World.size_setCell, World.size_drew, World.heap_drewN] at *); omega)))))))).mono ?_
  rintro e w1 ⟨rfl, hb1⟩
  have hz1 := hb1.size
  simp only [World.size_alloc] at hz1
  have hB1 : Below w.heap.size w w1 := (by repeat (first | (with_reducible exact Below.refl _ _) | (with_reducible assumption) | (with_reducible refine Below.drew ?_) | (with_reducible refine below_drewN ?_ _) | (with_reducible refine Below.alloc ?_ (by (try simp only [World.size_alloc, World.size_setCell, World.size_drew, World.heap_drewN]); (first | done | omega | ((try simp only [World.size_alloc, World.size_setCell, World.size_drew, World.heap_drewN] at *); omega))) _) | (with_reducible refine Below.setCell ?_ (by (try simp only [World.size_alloc, World.size_setCell, World.size_drew, World.heap_drewN]); (first | done | omega | ((try simp only [World.size_alloc, World.size_setCell, World.size_drew, World.heap_drewN] at *); omega))) _) | (with_reducible refine Below.trans ?_ (Below.mono (by assumption) (by (try simp only [World.size_alloc, World.size_setCell, World.size_drew, World.heap_drewN]); (first | done | omega | ((try simp only [World.size_alloc, World.size_setCell, World.size_drew, World.heap_drewN] at *); omega)))))))
  clear hb1
  go_wp2_with fail
  refine (HB.out _ (hB1.alloc (by omega) _)).mono ?_
  rintro e w3 ⟨rfl, hb3⟩
  go_wp2_with fail
  go_ret
  exact ⟨rfl, (hB1.alloc (by omega) _).trans (hb3.mono (by simp; omega))⟩
set_option maxRecDepth 100000 in
theorem lsame_ok (regs : Int) (A : Option Addr) (l : List Nd) (cap : Nat) (Ai : Option Addr) (inp : List Int) (ci : Nat) (fuel : Int) (w : World) (hA : NodesAt w A l) (hml : l.length ≤ maxLen) (hT : Tz w) (hI : ValsAt w Ai (ints inp)) (hic : inp.length ≤ ci ∧ ci ≤ maxLen) (hf : i64ok fuel) (hc : chk regs l = 0) :
    Calls Tryd.prog 3 #[.agg #[.int .i64 regs, .slice A l.length cap], .slice Ai inp.length ci, .int .i64 fuel] w fun e w' => e = .returned (.bool true) ∧ Below w.heap.size w w' := by
  have hR := right_of_chk hc
  have hlo := hR.lo
  have hhi := hR.hi
  have HD := hide (fun W (hW : Below w.heap.size w W) => Dead_ok regs A l cap W (hA.below hW) hR hc)
  have HB := hide (fun W (hW : Below w.heap.size w W) => liveBegun_any W (hT.below' hW))
  have HCh := fun V => hide (choose_any fuel 4096 (by omega) (by omega) hf V)
  have hn := chV_in fuel (show (0 : Int) < 4096 by omega)
  generalize chV fuel 4096 = n at *
  obtain ⟨n', rfl⟩ : ∃ n' : Nat, n = n' := ⟨n.toNat, by omega⟩
  have hfi : (fewL inp).length ≤ ci ∧ ci ≤ maxLen := ⟨by have : (fewL inp).length ≤ inp.length := (by unfold fewL; rw [List.length_take]; omega); omega, hic.2⟩
  have HF := fun V => hide (few_any Ai inp ci V hic)
  have hfl := fewL_len inp
  have HV := hide (fun (V : World) (hV : Below w.heap.size w V) => (hI.below hV).few)
  have HR0 := fun (V : World) (hV : Below w.heap.size w V) => hide (Run_got (cap := cap) (n := n') (w := V) hml (hA.below hV) ((hI.below hV).few) hfi hc hfl (by omega))
  have HRt := hide hR
  have Hfi := hide hfi
  clear hA hT hI hc hR hf hfi
  go_enter Tryd.func3, Tryd.ntmps3
  go_wp2_with fail
  refine (HD.out _ (by repeat (first | (with_reducible exact Below.refl _ _) | (with_reducible assumption) | (with_reducible refine Below.drew ?_) | (with_reducible refine below_drewN ?_ _) | (with_reducible refine Below.alloc ?_ (by (try simp only [World.size_alloc, World.size_setCell, World.size_drew, World.heap_drewN]); (first | done | omega | ((try simp only [World.size_alloc, World.size_setCell, World.size_drew, World.heap_drewN] at *); omega))) _) | (with_reducible refine Below.setCell ?_ (by (try simp only [World.size_alloc, World.size_setCell, World.size_drew, World.heap_drewN]); (first | done | omega | ((try simp only [World.size_alloc, World.size_setCell, World.size_drew, World.heap_drewN] at *); omega))) _) | (with_reducible refine Below.trans ?_ (Below.mono (by assumption) (by (try simp only [World.size_alloc, World.size_setCell, World.size_drew, World.heap_drewN]); (first | done | omega | ((try simp only [World.size_alloc, World.size_setCell, World.size_drew, World.heap_drewN] at *); omega)))))))).mono ?_
  rintro e w1 ⟨v1, l2, rfl, hDl, hll, hN1, hb1⟩
  obtain ⟨A1, c1, rfl, _, _⟩ := hN1.shape
  have hz1 := hb1.size
  simp only [World.size_alloc] at hz1
  have hP1 : Blk w1 w.heap.size 24 #[.int .i64 regs, .slice A l.length cap] := Blk.below (Blk.new' rfl) hb1 (by simp)
  have hB1 : Below w.heap.size w w1 := (by repeat (first | (with_reducible exact Below.refl _ _) | (with_reducible assumption) | (with_reducible refine Below.drew ?_) | (with_reducible refine below_drewN ?_ _) | (with_reducible refine Below.alloc ?_ (by (try simp only [World.size_alloc, World.size_setCell, World.size_drew, World.heap_drewN]); (first | done | omega | ((try simp only [World.size_alloc, World.size_setCell, World.size_drew, World.heap_drewN] at *); omega))) _) | (with_reducible refine Below.setCell ?_ (by (try simp only [World.size_alloc, World.size_setCell, World.size_drew, World.heap_drewN]); (first | done | omega | ((try simp only [World.size_alloc, World.size_setCell, World.size_drew, World.heap_drewN] at *); omega))) _) | (with_reducible refine Below.trans ?_ (Below.mono (by assumption) (by (try simp only [World.size_alloc, World.size_setCell, World.size_drew, World.heap_drewN]); (first | done | omega | ((try simp only [World.size_alloc, World.size_setCell, World.size_drew, World.heap_drewN] at *); omega)))))))
  have hN1 := hN1.mono (base' := w.heap.size) (by simp)
  clear hb1
  obtain ⟨hR2, hl2, hH⟩ := run_hush (inp := fewL inp) hDl.1 HRt.out n'
  have hc2 := hR2.chk
  obtain ⟨R, hRd⟩ : ∃ R, R = (runR regs l (fewL inp) n').told := ⟨_, rfl⟩
  obtain ⟨qc, hqc⟩ : ∃ qc, qc = countsL (runR regs l2 (fewL inp) n').ts := ⟨_, rfl⟩
  obtain ⟨Q, hQd⟩ : ∃ Q : Rs, Q = ⟨R.out, R.ret, R.ended, R.steps, qc⟩ := ⟨_, rfl⟩
  have hQt : (runR regs l2 (fewL inp) n').told = Q := by rw [hQd, hRd, hqc]; simp only [Rn.told, hH.out, hH.ret, hH.ended, hH.steps]
  have Hcnt := hide (show ∀ (k : Nat) (x : Ct), qc[k]? = some x → ¬ (cntOf R.cts x.1 < x.2) from fun k x hx => by rw [hqc] at hx; rw [hRd]; exact hush_counts hH hx)
  have HR1 := fun (V : World) (hV : Below w.heap.size w V) => hide (by
    have h := (HR0 V hV).out
    rw [← hRd] at h
    exact h)
  have Hc2 := hide hc2
  have HR2' := hide hR2
  have HQt := hide hQt
  have HDl := hide hDl
  have HQd := hide hQd
  have Hll := hide hll
  clear hRd hqc hH hQt hc2 hR2 hDl HR0 hQd hl2
  have hl256 : l2.length ≤ 256 := by omega
  clear hll
  go_upto_region 2 with fail
  obtain ⟨W1, hW1⟩ : ∃ W1, W1 = w1.alloc (.cells #[.int .i64 regs, .slice A1 l2.length c1] 24) := ⟨_, rfl⟩
  have hQ1 : ProgSt 24 55 w.heap.size w1.heap.size regs A1 c1 l2 W1 := by rw [hW1]; exact ⟨Blk.new' rfl, hN1.alloc _⟩
  have hBW : Below w1.heap.size w1 W1 := by rw [hW1]; exact (Below.refl _ _).alloc (Nat.le_refl _) _
  rw [← hW1]
  have hB1 := hB1.trans (hBW.mono (by omega))
  have hP1 := hP1.below hBW hP1.lt
  have p0 := hP1.cell 0
  have p1 := hP1.cell 1
  simp only [List.getElem?_toArray, List.getElem?_cons_zero, List.getElem?_cons_succ] at p0 p1
  have lp := hP1.lt
  have hz1 := hB1.size
  obtain ⟨bq, hbq⟩ : ∃ a, a = w1.heap.size := ⟨_, rfl⟩
  rw [← hbq] at hQ1 ⊢
  clear hW1 hBW hbq hN1
  go_wp2_with (go_at_call 8; refine ((HCh _).out).mono ?_; rintro e w0 ⟨rfl, hw0⟩; rw [hw0]; clear hw0 w0)
  have HR2 := fun (V : World) (hV : Below W1.heap.size W1 V) => HR1 V (hB1.trans (hV.mono hz1))
  go_cut [10, 11] (fun s10 s11 wy => ∃ (b : Nat) (O : Option Addr) (oc : Nat) (C : Option Addr) (cc : Nat), s10 = .pointer (some ⟨b, 0, none⟩) ∧ s11 = .int .i64 0 ∧ ResSt 3 42 33 W1 b O oc C cc R wy)
  case first =>
    refine wp_region_held_drew (S := fun w' => w'.cell? ⟨w.heap.size, 0, none⟩ = some (.int .i64 regs) ∧ w'.cell? ⟨w.heap.size, 1, none⟩ = some (.slice A l.length cap)) (by kernel_rfl) ⟨p0, p1⟩ ?_
    intro hHeld
    have hC0 : Below W1.heap.size W1 W1.drew := (Below.refl _ _).drew
    refine wpAnyH_take (i := 0) (v := ?_) rfl (by kernel_rfl) (by kernel_rfl) (by kernel_rfl) (fun _ _ _ h => h) (Or.inl ⟨by rfl, ?_⟩) hHeld ?_; rotate_left; (focus (intro w' hSw; (try dsimp only at hSw); (try go_split_ands); go_simp; try with_reducible rfl))
    try simp only [List.getElem_toArray, List.getElem_cons_zero, List.getElem_cons_succ, Act.put, List.setIfInBounds_toArray, List.set_cons_zero, List.set_cons_succ]
    refine wpAnyH_take (i := 1) (v := ?_) rfl (by kernel_rfl) (by kernel_rfl) (by kernel_rfl) (fun _ _ _ h => h) (Or.inl ⟨by rfl, ?_⟩) hHeld ?_; rotate_left; (focus (intro w' hSw; clear hSw; go_simp; try with_reducible rfl))
    try simp only [List.getElem_toArray, List.getElem_cons_zero, List.getElem_cons_succ, Act.put, List.setIfInBounds_toArray, List.set_cons_zero, List.set_cons_succ]
    refine wpAnyH_take (i := 3) (v := ?_) rfl (by kernel_rfl) (by kernel_rfl) (by kernel_rfl) (fun _ _ _ h => h) (Or.inl ⟨by rfl, ?_⟩) hHeld ?_; rotate_left; (focus (intro w' hSw; clear hSw; go_simp; try with_reducible rfl))
    try simp only [List.getElem_toArray, List.getElem_cons_zero, List.getElem_cons_succ, Act.put, List.setIfInBounds_toArray, List.set_cons_zero, List.set_cons_succ]
    refine wpAnyH_ready (rs := [2, 8]) (by kernel_rfl) (by simp) ?_
    refine AllReadyH.cons rfl (fun K hK => ?_) (AllReadyH.cons rfl (fun K hK => ?_) AllReadyH.nil)
    · have HK2 := hide hK
      clear hK
      go_simp
      go_at_call 10
      refine ((HF _).out).mono ?_
      rintro e w0 ⟨rfl, rfl⟩
      refine Shut.out HK2.out _ _ hHeld (fun _ => ?_)
      try simp only [List.getElem_toArray, List.getElem_cons_zero, List.getElem_cons_succ, Act.put, List.setIfInBounds_toArray, List.set_cons_zero, List.set_cons_succ]
      clear HK2
      refine wpAnyH_ready (rs := [4, 8]) (by kernel_rfl) (by simp) ?_
      refine AllReadyH.cons rfl (fun K hK => ?_) (AllReadyH.cons rfl (fun K hK => ?_) AllReadyH.nil)
      · have HK4 := hide hK
        clear hK
        go_simp
        go_at_call 9
        refine ((HR2 _ hC0).out).mono ?_
        rintro e w5 ⟨hc5, O5, oc5, C5, cc5, rfl, hO5⟩
        have hC5 : Below W1.heap.size W1 w5 := hC0.trans (hc5.mono hC0.size)
        clear hHeld
        have hHeld : w5.cell? ⟨w.heap.size, 0, none⟩ = some (.int .i64 regs) ∧ w5.cell? ⟨w.heap.size, 1, none⟩ = some (.slice A l.length cap) := ⟨((bcell hC5).1 _ _ lp).trans p0, ((bcell hC5).1 _ _ lp).trans p1⟩
        refine Shut.out HK4.out _ _ hHeld (fun _ => ?_)
        try simp only [List.getElem_toArray, List.getElem_cons_zero, List.getElem_cons_succ, Act.put, List.setIfInBounds_toArray, List.set_cons_zero, List.set_cons_succ]
        clear HK4
        refine wpAnyH_take (i := 5) (v := ?_) rfl (by kernel_rfl) (by kernel_rfl) (by kernel_rfl) (fun _ _ _ h => h) (Or.inl ⟨by rfl, ?_⟩) hHeld ?_; rotate_left; (focus (intro w' hSw; clear hSw; go_simp; try with_reducible rfl))
        try simp only [List.getElem_toArray, List.getElem_cons_zero, List.getElem_cons_succ, Act.put, List.setIfInBounds_toArray, List.set_cons_zero, List.set_cons_succ]
        refine wpAnyH_take (i := 6) (v := ?_) rfl (by kernel_rfl) (by kernel_rfl) (by kernel_rfl) (fun _ _ _ h => h) (Or.inl ⟨by rfl, ?_⟩) hHeld ?_; rotate_left; (focus (intro w' hSw; clear hSw; go_simp; try with_reducible rfl))
        try simp only [List.getElem_toArray, List.getElem_cons_zero, List.getElem_cons_succ, Act.put, List.setIfInBounds_toArray, List.set_cons_zero, List.set_cons_succ]
        refine wpAnyH_take (i := 7) (v := ?_) rfl (by kernel_rfl) (by kernel_rfl) (by kernel_rfl) (fun _ _ _ h => h) (Or.inl ⟨by rfl, ?_⟩) hHeld ?_; rotate_left; (focus (intro w' hSw; clear hSw; go_simp; try with_reducible rfl))
        try simp only [List.getElem_toArray, List.getElem_cons_zero, List.getElem_cons_succ, Act.put, List.setIfInBounds_toArray, List.set_cons_zero, List.set_cons_succ]
        refine wpAnyH_ready (rs := [8]) (by kernel_rfl) (by simp) ?_
        refine AllReadyH.cons rfl (fun K hK => ?_) AllReadyH.nil
        have HK8 := hide hK
        clear hK
        go_simp
        obtain ⟨V6, hV6⟩ : ∃ V : World, V = (w5).alloc (.cells #[.slice none 0 0, .int .i64 0, .bool false, .int .i64 0, .slice none 0 0] 33) := ⟨_, rfl⟩
        rw [← hV6]
        have hC6 : Below W1.heap.size W1 V6 := by rw [hV6]; exact Below.alloc hC5 hC5.size _
        have hzV6 : Blk V6 (w5).heap.size 33 #[.slice none 0 0, .int .i64 0, .bool false, .int .i64 0, .slice none 0 0] := by rw [hV6]; exact Blk.new' rfl
        have hbV6 : Below (w5).heap.size (w5) V6 := by rw [hV6]; exact (Below.refl _ _).alloc (Nat.le_refl _) _
        clear hHeld hV6
        have hHeld : V6.cell? ⟨w.heap.size, 0, none⟩ = some (.int .i64 regs) ∧ V6.cell? ⟨w.heap.size, 1, none⟩ = some (.slice A l.length cap) := ⟨((bcell hC6).1 _ _ lp).trans p0, ((bcell hC6).1 _ _ lp).trans p1⟩
        refine Shut.out HK8.out _ _ hHeld (fun _ => ?_)
        try simp only [List.getElem_toArray, List.getElem_cons_zero, List.getElem_cons_succ, Act.put, List.setIfInBounds_toArray, List.set_cons_zero, List.set_cons_succ]
        clear HK8
        have hQz := hzV6
        have rQ := (hO5.mono_ (B' := W1.heap.size) (by have := hC0.size; omega)).below hbV6
        have n2 := hO5.ne (g := w5.heap.size) (.inr (Nat.le_refl _))
        have hwb : W1.heap.size ≤ w5.heap.size := hC5.size
        have nwb : ¬ (w.heap.size = w5.heap.size) := by have := hC5.size; have := lp; omega
        have nwb' : ¬ (w5.heap.size = w.heap.size) := fun e => nwb e.symm
        have hfin := ResSt.mk5 (R := R) hQz rQ n2 hC6 hwb
        obtain ⟨b, hb⟩ : ∃ b, b = w5.heap.size := ⟨_, rfl⟩
        rw [← hb] at hQz hfin nwb nwb' ⊢
        have Hfin := hide hfin
        clear hzV6 hb hbV6 rQ n2 hfin hO5
        refine wpAnyH_ready (rs := [9]) (by kernel_rfl) (by simp) ?_
        refine AllReadyH.cons rfl (fun K hK => ?_) AllReadyH.nil
        have d0 := hQz.cell 0
        have d1 := hQz.cell 1
        have d2 := hQz.cell 2
        have d3 := hQz.cell 3
        have d4 := hQz.cell 4
        have f0 := hQz.frozen 0
        have f1 := hQz.frozen 1
        have f2 := hQz.frozen 2
        have f3 := hQz.frozen 3
        have f4 := hQz.frozen 4
        simp only [List.getElem?_toArray, List.getElem?_cons_zero, List.getElem?_cons_succ] at d0 d1 d2 d3 d4
        have HK9 := hide hK
        clear hK
        go_simp
        refine Shut.out HK9.out _ _ ?_ (fun hHeld => ?_)
        · (try dsimp only)
          refine And.intro ?_ ?_
          · rw [set5_cell nwb]; exact hHeld.1
          · rw [set5_cell nwb]; exact hHeld.2
        try simp only [List.getElem_toArray, List.getElem_cons_zero, List.getElem_cons_succ, Act.put, List.setIfInBounds_toArray, List.set_cons_zero, List.set_cons_succ]
        clear HK9
        refine wpAnyH_take (i := 10) (v := ?_) rfl (by kernel_rfl) (by kernel_rfl) (by kernel_rfl) (fun _ _ _ h => h) (Or.inl ⟨by rfl, ?_⟩) hHeld ?_; rotate_left; (focus (intro w' hSw; clear hSw; go_simp; try with_reducible rfl))
        try simp only [List.getElem_toArray, List.getElem_cons_zero, List.getElem_cons_succ, Act.put, List.setIfInBounds_toArray, List.set_cons_zero, List.set_cons_succ]
        refine wpAnyH_done (by kernel_rfl) ?_ _
        go_wp2_with fail
        go_meet
        go_tidy
        exact ⟨b, O5, oc5, C5, cc5, rfl, rfl, Hfin.out⟩
      · have HK8 := hide hK
        clear hK
        go_simp
        obtain ⟨V6, hV6⟩ : ∃ V : World, V = (W1.alloc (.cells #[.slice none 0 0, .int .i64 0, .bool false, .int .i64 0, .slice none 0 0] 33)).drew := ⟨_, rfl⟩
        rw [← hV6]
        have hC6 : Below W1.heap.size W1 V6 := by rw [hV6]; exact Below.drew ((Below.refl _ _).alloc (Nat.le_refl _) _)
        have hzV6 : Blk V6 W1.heap.size 33 #[.slice none 0 0, .int .i64 0, .bool false, .int .i64 0, .slice none 0 0] := by rw [hV6]; exact (Blk.new' rfl).drew
        clear hHeld hV6
        have hHeld : V6.cell? ⟨w.heap.size, 0, none⟩ = some (.int .i64 regs) ∧ V6.cell? ⟨w.heap.size, 1, none⟩ = some (.slice A l.length cap) := ⟨((bcell hC6).1 _ _ lp).trans p0, ((bcell hC6).1 _ _ lp).trans p1⟩
        refine Shut.out HK8.out _ _ hHeld (fun _ => ?_)
        try simp only [List.getElem_toArray, List.getElem_cons_zero, List.getElem_cons_succ, Act.put, List.setIfInBounds_toArray, List.set_cons_zero, List.set_cons_succ]
        clear HK8
        refine wpAnyH_ready (rs := [4]) (by kernel_rfl) (by simp) ?_
        refine AllReadyH.cons rfl (fun K hK => ?_) AllReadyH.nil
        have HK4 := hide hK
        clear hK
        go_simp
        go_at_call 9
        refine ((HR2 _ hC6).out).mono ?_
        rintro e w5 ⟨hc5, O5, oc5, C5, cc5, rfl, hO5⟩
        have hC5 : Below W1.heap.size W1 w5 := hC6.trans (hc5.mono hC6.size)
        clear hHeld
        have hHeld : w5.cell? ⟨w.heap.size, 0, none⟩ = some (.int .i64 regs) ∧ w5.cell? ⟨w.heap.size, 1, none⟩ = some (.slice A l.length cap) := ⟨((bcell hC5).1 _ _ lp).trans p0, ((bcell hC5).1 _ _ lp).trans p1⟩
        refine Shut.out HK4.out _ _ hHeld (fun _ => ?_)
        try simp only [List.getElem_toArray, List.getElem_cons_zero, List.getElem_cons_succ, Act.put, List.setIfInBounds_toArray, List.set_cons_zero, List.set_cons_succ]
        clear HK4
        refine wpAnyH_take (i := 5) (v := ?_) rfl (by kernel_rfl) (by kernel_rfl) (by kernel_rfl) (fun _ _ _ h => h) (Or.inl ⟨by rfl, ?_⟩) hHeld ?_; rotate_left; (focus (intro w' hSw; clear hSw; go_simp; try with_reducible rfl))
        try simp only [List.getElem_toArray, List.getElem_cons_zero, List.getElem_cons_succ, Act.put, List.setIfInBounds_toArray, List.set_cons_zero, List.set_cons_succ]
        refine wpAnyH_take (i := 6) (v := ?_) rfl (by kernel_rfl) (by kernel_rfl) (by kernel_rfl) (fun _ _ _ h => h) (Or.inl ⟨by rfl, ?_⟩) hHeld ?_; rotate_left; (focus (intro w' hSw; clear hSw; go_simp; try with_reducible rfl))
        try simp only [List.getElem_toArray, List.getElem_cons_zero, List.getElem_cons_succ, Act.put, List.setIfInBounds_toArray, List.set_cons_zero, List.set_cons_succ]
        refine wpAnyH_take (i := 7) (v := ?_) rfl (by kernel_rfl) (by kernel_rfl) (by kernel_rfl) (fun _ _ _ h => h) (Or.inl ⟨by rfl, ?_⟩) hHeld ?_; rotate_left; (focus (intro w' hSw; clear hSw; go_simp; try with_reducible rfl))
        try simp only [List.getElem_toArray, List.getElem_cons_zero, List.getElem_cons_succ, Act.put, List.setIfInBounds_toArray, List.set_cons_zero, List.set_cons_succ]
        have hQz := hzV6.below hc5 hzV6.lt
        have rQ := hO5.mono_ (B' := W1.heap.size) (by have := hC6.size; omega)
        have n2 := hO5.ne (g := W1.heap.size) (.inl hzV6.lt)
        have nwb : ¬ (w.heap.size = W1.heap.size) := by have := lp; omega
        have nwb' : ¬ (W1.heap.size = w.heap.size) := fun e => nwb e.symm
        have hfin := ResSt.mk5 (R := R) hQz rQ n2 hC5 (Nat.le_refl _)
        obtain ⟨b, hb⟩ : ∃ b, b = W1.heap.size := ⟨_, rfl⟩
        have hQz : Blk w5 W1.heap.size 33 #[.slice none 0 0, .int .i64 0, .bool false, .int .i64 0, .slice none 0 0] := hQz
        rw [← hb] at hQz hfin nwb nwb'
        try rw [← hb]
        have Hfin := hide hfin
        clear hzV6 hb rQ n2 hfin hO5
        refine wpAnyH_ready (rs := [9]) (by kernel_rfl) (by simp) ?_
        refine AllReadyH.cons rfl (fun K hK => ?_) AllReadyH.nil
        have d0 := hQz.cell 0
        have d1 := hQz.cell 1
        have d2 := hQz.cell 2
        have d3 := hQz.cell 3
        have d4 := hQz.cell 4
        have f0 := hQz.frozen 0
        have f1 := hQz.frozen 1
        have f2 := hQz.frozen 2
        have f3 := hQz.frozen 3
        have f4 := hQz.frozen 4
        simp only [List.getElem?_toArray, List.getElem?_cons_zero, List.getElem?_cons_succ] at d0 d1 d2 d3 d4
        have HK9 := hide hK
        clear hK
        go_simp
        refine Shut.out HK9.out _ _ ?_ (fun hHeld => ?_)
        · (try dsimp only)
          refine And.intro ?_ ?_
          · rw [set5_cell nwb]; exact hHeld.1
          · rw [set5_cell nwb]; exact hHeld.2
        try simp only [List.getElem_toArray, List.getElem_cons_zero, List.getElem_cons_succ, Act.put, List.setIfInBounds_toArray, List.set_cons_zero, List.set_cons_succ]
        clear HK9
        refine wpAnyH_take (i := 10) (v := ?_) rfl (by kernel_rfl) (by kernel_rfl) (by kernel_rfl) (fun _ _ _ h => h) (Or.inl ⟨by rfl, ?_⟩) hHeld ?_; rotate_left; (focus (intro w' hSw; clear hSw; go_simp; try with_reducible rfl))
        try simp only [List.getElem_toArray, List.getElem_cons_zero, List.getElem_cons_succ, Act.put, List.setIfInBounds_toArray, List.set_cons_zero, List.set_cons_succ]
        refine wpAnyH_done (by kernel_rfl) ?_ _
        go_wp2_with fail
        go_meet
        go_tidy
        exact ⟨b, O5, oc5, C5, cc5, rfl, rfl, Hfin.out⟩
    · have HK8 := hide hK
      clear hK
      go_simp
      obtain ⟨V6, hV6⟩ : ∃ V : World, V = (W1.alloc (.cells #[.slice none 0 0, .int .i64 0, .bool false, .int .i64 0, .slice none 0 0] 33)).drew := ⟨_, rfl⟩
      rw [← hV6]
      have hC6 : Below W1.heap.size W1 V6 := by rw [hV6]; exact Below.drew ((Below.refl _ _).alloc (Nat.le_refl _) _)
      have hzV6 : Blk V6 W1.heap.size 33 #[.slice none 0 0, .int .i64 0, .bool false, .int .i64 0, .slice none 0 0] := by rw [hV6]; exact (Blk.new' rfl).drew
      clear hHeld hV6
      have hHeld : V6.cell? ⟨w.heap.size, 0, none⟩ = some (.int .i64 regs) ∧ V6.cell? ⟨w.heap.size, 1, none⟩ = some (.slice A l.length cap) := ⟨((bcell hC6).1 _ _ lp).trans p0, ((bcell hC6).1 _ _ lp).trans p1⟩
      refine Shut.out HK8.out _ _ hHeld (fun _ => ?_)
      try simp only [List.getElem_toArray, List.getElem_cons_zero, List.getElem_cons_succ, Act.put, List.setIfInBounds_toArray, List.set_cons_zero, List.set_cons_succ]
      clear HK8
      refine wpAnyH_ready (rs := [2]) (by kernel_rfl) (by simp) ?_
      refine AllReadyH.cons rfl (fun K hK => ?_) AllReadyH.nil
      have HK2 := hide hK
      clear hK
      go_simp
      go_at_call 10
      refine ((HF _).out).mono ?_
      rintro e w0 ⟨rfl, rfl⟩
      refine Shut.out HK2.out _ _ hHeld (fun _ => ?_)
      try simp only [List.getElem_toArray, List.getElem_cons_zero, List.getElem_cons_succ, Act.put, List.setIfInBounds_toArray, List.set_cons_zero, List.set_cons_succ]
      clear HK2
      refine wpAnyH_ready (rs := [4]) (by kernel_rfl) (by simp) ?_
      refine AllReadyH.cons rfl (fun K hK => ?_) AllReadyH.nil
      have HK4 := hide hK
      clear hK
      go_simp
      go_at_call 9
      refine ((HR2 _ hC6).out).mono ?_
      rintro e w5 ⟨hc5, O5, oc5, C5, cc5, rfl, hO5⟩
      have hC5 : Below W1.heap.size W1 w5 := hC6.trans (hc5.mono hC6.size)
      clear hHeld
      have hHeld : w5.cell? ⟨w.heap.size, 0, none⟩ = some (.int .i64 regs) ∧ w5.cell? ⟨w.heap.size, 1, none⟩ = some (.slice A l.length cap) := ⟨((bcell hC5).1 _ _ lp).trans p0, ((bcell hC5).1 _ _ lp).trans p1⟩
      refine Shut.out HK4.out _ _ hHeld (fun _ => ?_)
      try simp only [List.getElem_toArray, List.getElem_cons_zero, List.getElem_cons_succ, Act.put, List.setIfInBounds_toArray, List.set_cons_zero, List.set_cons_succ]
      clear HK4
      refine wpAnyH_take (i := 5) (v := ?_) rfl (by kernel_rfl) (by kernel_rfl) (by kernel_rfl) (fun _ _ _ h => h) (Or.inl ⟨by rfl, ?_⟩) hHeld ?_; rotate_left; (focus (intro w' hSw; clear hSw; go_simp; try with_reducible rfl))
      try simp only [List.getElem_toArray, List.getElem_cons_zero, List.getElem_cons_succ, Act.put, List.setIfInBounds_toArray, List.set_cons_zero, List.set_cons_succ]
      refine wpAnyH_take (i := 6) (v := ?_) rfl (by kernel_rfl) (by kernel_rfl) (by kernel_rfl) (fun _ _ _ h => h) (Or.inl ⟨by rfl, ?_⟩) hHeld ?_; rotate_left; (focus (intro w' hSw; clear hSw; go_simp; try with_reducible rfl))
      try simp only [List.getElem_toArray, List.getElem_cons_zero, List.getElem_cons_succ, Act.put, List.setIfInBounds_toArray, List.set_cons_zero, List.set_cons_succ]
      refine wpAnyH_take (i := 7) (v := ?_) rfl (by kernel_rfl) (by kernel_rfl) (by kernel_rfl) (fun _ _ _ h => h) (Or.inl ⟨by rfl, ?_⟩) hHeld ?_; rotate_left; (focus (intro w' hSw; clear hSw; go_simp; try with_reducible rfl))
      try simp only [List.getElem_toArray, List.getElem_cons_zero, List.getElem_cons_succ, Act.put, List.setIfInBounds_toArray, List.set_cons_zero, List.set_cons_succ]
      have hQz := hzV6.below hc5 hzV6.lt
      have rQ := hO5.mono_ (B' := W1.heap.size) (by have := hC6.size; omega)
      have n2 := hO5.ne (g := W1.heap.size) (.inl hzV6.lt)
      have nwb : ¬ (w.heap.size = W1.heap.size) := by have := lp; omega
      have nwb' : ¬ (W1.heap.size = w.heap.size) := fun e => nwb e.symm
      have hfin := ResSt.mk5 (R := R) hQz rQ n2 hC5 (Nat.le_refl _)
      obtain ⟨b, hb⟩ : ∃ b, b = W1.heap.size := ⟨_, rfl⟩
      have hQz : Blk w5 W1.heap.size 33 #[.slice none 0 0, .int .i64 0, .bool false, .int .i64 0, .slice none 0 0] := hQz
      rw [← hb] at hQz hfin nwb nwb'
      try rw [← hb]
      have Hfin := hide hfin
      clear hzV6 hb rQ n2 hfin hO5
      refine wpAnyH_ready (rs := [9]) (by kernel_rfl) (by simp) ?_
      refine AllReadyH.cons rfl (fun K hK => ?_) AllReadyH.nil
      have d0 := hQz.cell 0
      have d1 := hQz.cell 1
      have d2 := hQz.cell 2
      have d3 := hQz.cell 3
      have d4 := hQz.cell 4
      have f0 := hQz.frozen 0
      have f1 := hQz.frozen 1
      have f2 := hQz.frozen 2
      have f3 := hQz.frozen 3
      have f4 := hQz.frozen 4
      simp only [List.getElem?_toArray, List.getElem?_cons_zero, List.getElem?_cons_succ] at d0 d1 d2 d3 d4
      have HK9 := hide hK
      clear hK
      go_simp
      refine Shut.out HK9.out _ _ ?_ (fun hHeld => ?_)
      · (try dsimp only)
        refine And.intro ?_ ?_
        · rw [set5_cell nwb]; exact hHeld.1
        · rw [set5_cell nwb]; exact hHeld.2
      try simp only [List.getElem_toArray, List.getElem_cons_zero, List.getElem_cons_succ, Act.put, List.setIfInBounds_toArray, List.set_cons_zero, List.set_cons_succ]
      clear HK9
      refine wpAnyH_take (i := 10) (v := ?_) rfl (by kernel_rfl) (by kernel_rfl) (by kernel_rfl) (fun _ _ _ h => h) (Or.inl ⟨by rfl, ?_⟩) hHeld ?_; rotate_left; (focus (intro w' hSw; clear hSw; go_simp; try with_reducible rfl))
      try simp only [List.getElem_toArray, List.getElem_cons_zero, List.getElem_cons_succ, Act.put, List.setIfInBounds_toArray, List.set_cons_zero, List.set_cons_succ]
      refine wpAnyH_done (by kernel_rfl) ?_ _
      go_wp2_with fail
      go_meet
      go_tidy
      exact ⟨b, O5, oc5, C5, cc5, rfl, rfl, Hfin.out⟩
  case rest =>
    obtain ⟨W3, rfl⟩ : ∃ W3 : World, W3 = wc := ⟨_, rfl⟩
    obtain ⟨ba, Oa, oca, Ca, cca, rfl, rfl, hS1⟩ := hcut
    have hb := hS1.below
    have hB3 := hB1.trans (hb.mono hz1)
    have hQ3 := hQ1.later hb
    have hz3 := hB3.size
    have q0 := hQ3.box.cell 0
    have q1 := hQ3.box.cell 1
    simp only [List.getElem?_toArray, List.getElem?_cons_zero, List.getElem?_cons_succ] at q0 q1
    have lq := hQ3.box.lt
    have HR3 := fun (V : World) (hV : Below W3.heap.size W3 V) => hide (by
      have h := Run_got (regs := regs) (cap := c1) (n := n') (w := V) (by unfold maxLen; omega) (hQ3.row.nodes.below hV) (HV.out _ (hB3.trans (hV.mono hz3))) Hfi.out Hc2.out hfl (by omega)
      rw [HQt.out] at h
      exact h)
    have HS1 := hide hS1
    clear hS1 hb HR1 HR2 p0 p1 lp hP1 hQ1 hB1 hz1
    go_upto_region 6 with fail
    go_cut [12, 13] (fun s12 s13 wy => ∃ (b : Nat) (O : Option Addr) (oc : Nat) (C : Option Addr) (cc : Nat), s12 = .pointer (some ⟨b, 0, none⟩) ∧ s13 = .int .i64 0 ∧ ResSt 3 42 33 W3 b O oc C cc Q wy)
    case first =>
      refine wp_region_held_drew (S := fun w' => w'.cell? ⟨bq, 0, none⟩ = some (.int .i64 regs) ∧ w'.cell? ⟨bq, 1, none⟩ = some (.slice A1 l2.length c1)) (by kernel_rfl) ⟨q0, q1⟩ ?_
      intro hHeld
      have hC0 : Below W3.heap.size W3 W3.drew := (Below.refl _ _).drew
      refine wpAnyH_take (i := 0) (v := ?_) rfl (by kernel_rfl) (by kernel_rfl) (by kernel_rfl) (fun _ _ _ h => h) (Or.inl ⟨by rfl, ?_⟩) hHeld ?_; rotate_left; (focus (intro w' hSw; (try dsimp only at hSw); (try go_split_ands); go_simp; try with_reducible rfl))
      try simp only [List.getElem_toArray, List.getElem_cons_zero, List.getElem_cons_succ, Act.put, List.setIfInBounds_toArray, List.set_cons_zero, List.set_cons_succ]
      refine wpAnyH_take (i := 1) (v := ?_) rfl (by kernel_rfl) (by kernel_rfl) (by kernel_rfl) (fun _ _ _ h => h) (Or.inl ⟨by rfl, ?_⟩) hHeld ?_; rotate_left; (focus (intro w' hSw; clear hSw; go_simp; try with_reducible rfl))
      try simp only [List.getElem_toArray, List.getElem_cons_zero, List.getElem_cons_succ, Act.put, List.setIfInBounds_toArray, List.set_cons_zero, List.set_cons_succ]
      refine wpAnyH_take (i := 3) (v := ?_) rfl (by kernel_rfl) (by kernel_rfl) (by kernel_rfl) (fun _ _ _ h => h) (Or.inl ⟨by rfl, ?_⟩) hHeld ?_; rotate_left; (focus (intro w' hSw; clear hSw; go_simp; try with_reducible rfl))
      try simp only [List.getElem_toArray, List.getElem_cons_zero, List.getElem_cons_succ, Act.put, List.setIfInBounds_toArray, List.set_cons_zero, List.set_cons_succ]
      refine wpAnyH_ready (rs := [2, 8]) (by kernel_rfl) (by simp) ?_
      refine AllReadyH.cons rfl (fun K hK => ?_) (AllReadyH.cons rfl (fun K hK => ?_) AllReadyH.nil)
      · have HK2 := hide hK
        clear hK
        go_simp
        go_at_call 10
        refine ((HF _).out).mono ?_
        rintro e w0 ⟨rfl, rfl⟩
        refine Shut.out HK2.out _ _ hHeld (fun _ => ?_)
        try simp only [List.getElem_toArray, List.getElem_cons_zero, List.getElem_cons_succ, Act.put, List.setIfInBounds_toArray, List.set_cons_zero, List.set_cons_succ]
        clear HK2
        refine wpAnyH_ready (rs := [4, 8]) (by kernel_rfl) (by simp) ?_
        refine AllReadyH.cons rfl (fun K hK => ?_) (AllReadyH.cons rfl (fun K hK => ?_) AllReadyH.nil)
        · have HK4 := hide hK
          clear hK
          go_simp
          go_at_call 9
          refine ((HR3 _ hC0).out).mono ?_
          rintro e w5 ⟨hc5, O5, oc5, C5, cc5, rfl, hO5⟩
          have hC5 : Below W3.heap.size W3 w5 := hC0.trans (hc5.mono hC0.size)
          clear hHeld
          have hHeld : w5.cell? ⟨bq, 0, none⟩ = some (.int .i64 regs) ∧ w5.cell? ⟨bq, 1, none⟩ = some (.slice A1 l2.length c1) := ⟨((bcell hC5).1 _ _ lq).trans q0, ((bcell hC5).1 _ _ lq).trans q1⟩
          refine Shut.out HK4.out _ _ hHeld (fun _ => ?_)
          try simp only [List.getElem_toArray, List.getElem_cons_zero, List.getElem_cons_succ, Act.put, List.setIfInBounds_toArray, List.set_cons_zero, List.set_cons_succ]
          clear HK4
          refine wpAnyH_take (i := 5) (v := ?_) rfl (by kernel_rfl) (by kernel_rfl) (by kernel_rfl) (fun _ _ _ h => h) (Or.inl ⟨by rfl, ?_⟩) hHeld ?_; rotate_left; (focus (intro w' hSw; clear hSw; go_simp; try with_reducible rfl))
          try simp only [List.getElem_toArray, List.getElem_cons_zero, List.getElem_cons_succ, Act.put, List.setIfInBounds_toArray, List.set_cons_zero, List.set_cons_succ]
          refine wpAnyH_take (i := 6) (v := ?_) rfl (by kernel_rfl) (by kernel_rfl) (by kernel_rfl) (fun _ _ _ h => h) (Or.inl ⟨by rfl, ?_⟩) hHeld ?_; rotate_left; (focus (intro w' hSw; clear hSw; go_simp; try with_reducible rfl))
          try simp only [List.getElem_toArray, List.getElem_cons_zero, List.getElem_cons_succ, Act.put, List.setIfInBounds_toArray, List.set_cons_zero, List.set_cons_succ]
          refine wpAnyH_take (i := 7) (v := ?_) rfl (by kernel_rfl) (by kernel_rfl) (by kernel_rfl) (fun _ _ _ h => h) (Or.inl ⟨by rfl, ?_⟩) hHeld ?_; rotate_left; (focus (intro w' hSw; clear hSw; go_simp; try with_reducible rfl))
          try simp only [List.getElem_toArray, List.getElem_cons_zero, List.getElem_cons_succ, Act.put, List.setIfInBounds_toArray, List.set_cons_zero, List.set_cons_succ]
          refine wpAnyH_ready (rs := [8]) (by kernel_rfl) (by simp) ?_
          refine AllReadyH.cons rfl (fun K hK => ?_) AllReadyH.nil
          have HK8 := hide hK
          clear hK
          go_simp
          obtain ⟨V6, hV6⟩ : ∃ V : World, V = (w5).alloc (.cells #[.slice none 0 0, .int .i64 0, .bool false, .int .i64 0, .slice none 0 0] 33) := ⟨_, rfl⟩
          rw [← hV6]
          have hC6 : Below W3.heap.size W3 V6 := by rw [hV6]; exact Below.alloc hC5 hC5.size _
          have hzV6 : Blk V6 (w5).heap.size 33 #[.slice none 0 0, .int .i64 0, .bool false, .int .i64 0, .slice none 0 0] := by rw [hV6]; exact Blk.new' rfl
          have hbV6 : Below (w5).heap.size (w5) V6 := by rw [hV6]; exact (Below.refl _ _).alloc (Nat.le_refl _) _
          clear hHeld hV6
          have hHeld : V6.cell? ⟨bq, 0, none⟩ = some (.int .i64 regs) ∧ V6.cell? ⟨bq, 1, none⟩ = some (.slice A1 l2.length c1) := ⟨((bcell hC6).1 _ _ lq).trans q0, ((bcell hC6).1 _ _ lq).trans q1⟩
          refine Shut.out HK8.out _ _ hHeld (fun _ => ?_)
          try simp only [List.getElem_toArray, List.getElem_cons_zero, List.getElem_cons_succ, Act.put, List.setIfInBounds_toArray, List.set_cons_zero, List.set_cons_succ]
          clear HK8
          have hQz := hzV6
          have rQ := (hO5.mono_ (B' := W3.heap.size) (by have := hC0.size; omega)).below hbV6
          have n2 := hO5.ne (g := w5.heap.size) (.inr (Nat.le_refl _))
          have hwb : W3.heap.size ≤ w5.heap.size := hC5.size
          have nwb : ¬ (bq = w5.heap.size) := by have := hC5.size; have := lq; omega
          have nwb' : ¬ (w5.heap.size = bq) := fun e => nwb e.symm
          have hfin := ResSt.mk5 (R := Q) hQz rQ n2 hC6 hwb
          obtain ⟨b, hb⟩ : ∃ b, b = w5.heap.size := ⟨_, rfl⟩
          rw [← hb] at hQz hfin nwb nwb' ⊢
          have Hfin := hide hfin
          clear hzV6 hb hbV6 rQ n2 hfin hO5
          refine wpAnyH_ready (rs := [9]) (by kernel_rfl) (by simp) ?_
          refine AllReadyH.cons rfl (fun K hK => ?_) AllReadyH.nil
          have d0 := hQz.cell 0
          have d1 := hQz.cell 1
          have d2 := hQz.cell 2
          have d3 := hQz.cell 3
          have d4 := hQz.cell 4
          have f0 := hQz.frozen 0
          have f1 := hQz.frozen 1
          have f2 := hQz.frozen 2
          have f3 := hQz.frozen 3
          have f4 := hQz.frozen 4
          simp only [List.getElem?_toArray, List.getElem?_cons_zero, List.getElem?_cons_succ] at d0 d1 d2 d3 d4
          have HK9 := hide hK
          clear hK
          go_simp
          refine Shut.out HK9.out _ _ ?_ (fun hHeld => ?_)
          · (try dsimp only)
            refine And.intro ?_ ?_
            · rw [set5_cell nwb]; exact hHeld.1
            · rw [set5_cell nwb]; exact hHeld.2
          try simp only [List.getElem_toArray, List.getElem_cons_zero, List.getElem_cons_succ, Act.put, List.setIfInBounds_toArray, List.set_cons_zero, List.set_cons_succ]
          clear HK9
          refine wpAnyH_take (i := 10) (v := ?_) rfl (by kernel_rfl) (by kernel_rfl) (by kernel_rfl) (fun _ _ _ h => h) (Or.inl ⟨by rfl, ?_⟩) hHeld ?_; rotate_left; (focus (intro w' hSw; clear hSw; go_simp; try with_reducible rfl))
          try simp only [List.getElem_toArray, List.getElem_cons_zero, List.getElem_cons_succ, Act.put, List.setIfInBounds_toArray, List.set_cons_zero, List.set_cons_succ]
          refine wpAnyH_done (by kernel_rfl) ?_ _
          go_wp2_with fail
          go_meet
          go_tidy
          exact ⟨b, O5, oc5, C5, cc5, rfl, rfl, Hfin.out⟩
        · have HK8 := hide hK
          clear hK
          go_simp
          obtain ⟨V6, hV6⟩ : ∃ V : World, V = (W3.alloc (.cells #[.slice none 0 0, .int .i64 0, .bool false, .int .i64 0, .slice none 0 0] 33)).drew := ⟨_, rfl⟩
          rw [← hV6]
          have hC6 : Below W3.heap.size W3 V6 := by rw [hV6]; exact Below.drew ((Below.refl _ _).alloc (Nat.le_refl _) _)
          have hzV6 : Blk V6 W3.heap.size 33 #[.slice none 0 0, .int .i64 0, .bool false, .int .i64 0, .slice none 0 0] := by rw [hV6]; exact (Blk.new' rfl).drew
          clear hHeld hV6
          have hHeld : V6.cell? ⟨bq, 0, none⟩ = some (.int .i64 regs) ∧ V6.cell? ⟨bq, 1, none⟩ = some (.slice A1 l2.length c1) := ⟨((bcell hC6).1 _ _ lq).trans q0, ((bcell hC6).1 _ _ lq).trans q1⟩
          refine Shut.out HK8.out _ _ hHeld (fun _ => ?_)
          try simp only [List.getElem_toArray, List.getElem_cons_zero, List.getElem_cons_succ, Act.put, List.setIfInBounds_toArray, List.set_cons_zero, List.set_cons_succ]
          clear HK8
          refine wpAnyH_ready (rs := [4]) (by kernel_rfl) (by simp) ?_
          refine AllReadyH.cons rfl (fun K hK => ?_) AllReadyH.nil
          have HK4 := hide hK
          clear hK
          go_simp
          go_at_call 9
          refine ((HR3 _ hC6).out).mono ?_
          rintro e w5 ⟨hc5, O5, oc5, C5, cc5, rfl, hO5⟩
          have hC5 : Below W3.heap.size W3 w5 := hC6.trans (hc5.mono hC6.size)
          clear hHeld
          have hHeld : w5.cell? ⟨bq, 0, none⟩ = some (.int .i64 regs) ∧ w5.cell? ⟨bq, 1, none⟩ = some (.slice A1 l2.length c1) := ⟨((bcell hC5).1 _ _ lq).trans q0, ((bcell hC5).1 _ _ lq).trans q1⟩
          refine Shut.out HK4.out _ _ hHeld (fun _ => ?_)
          try simp only [List.getElem_toArray, List.getElem_cons_zero, List.getElem_cons_succ, Act.put, List.setIfInBounds_toArray, List.set_cons_zero, List.set_cons_succ]
          clear HK4
          refine wpAnyH_take (i := 5) (v := ?_) rfl (by kernel_rfl) (by kernel_rfl) (by kernel_rfl) (fun _ _ _ h => h) (Or.inl ⟨by rfl, ?_⟩) hHeld ?_; rotate_left; (focus (intro w' hSw; clear hSw; go_simp; try with_reducible rfl))
          try simp only [List.getElem_toArray, List.getElem_cons_zero, List.getElem_cons_succ, Act.put, List.setIfInBounds_toArray, List.set_cons_zero, List.set_cons_succ]
          refine wpAnyH_take (i := 6) (v := ?_) rfl (by kernel_rfl) (by kernel_rfl) (by kernel_rfl) (fun _ _ _ h => h) (Or.inl ⟨by rfl, ?_⟩) hHeld ?_; rotate_left; (focus (intro w' hSw; clear hSw; go_simp; try with_reducible rfl))
          try simp only [List.getElem_toArray, List.getElem_cons_zero, List.getElem_cons_succ, Act.put, List.setIfInBounds_toArray, List.set_cons_zero, List.set_cons_succ]
          refine wpAnyH_take (i := 7) (v := ?_) rfl (by kernel_rfl) (by kernel_rfl) (by kernel_rfl) (fun _ _ _ h => h) (Or.inl ⟨by rfl, ?_⟩) hHeld ?_; rotate_left; (focus (intro w' hSw; clear hSw; go_simp; try with_reducible rfl))
          try simp only [List.getElem_toArray, List.getElem_cons_zero, List.getElem_cons_succ, Act.put, List.setIfInBounds_toArray, List.set_cons_zero, List.set_cons_succ]
          have hQz := hzV6.below hc5 hzV6.lt
          have rQ := hO5.mono_ (B' := W3.heap.size) (by have := hC6.size; omega)
          have n2 := hO5.ne (g := W3.heap.size) (.inl hzV6.lt)
          have nwb : ¬ (bq = W3.heap.size) := by have := lq; omega
          have nwb' : ¬ (W3.heap.size = bq) := fun e => nwb e.symm
          have hfin := ResSt.mk5 (R := Q) hQz rQ n2 hC5 (Nat.le_refl _)
          obtain ⟨b, hb⟩ : ∃ b, b = W3.heap.size := ⟨_, rfl⟩
          have hQz : Blk w5 W3.heap.size 33 #[.slice none 0 0, .int .i64 0, .bool false, .int .i64 0, .slice none 0 0] := hQz
          rw [← hb] at hQz hfin nwb nwb'
          try rw [← hb]
          have Hfin := hide hfin
          clear hzV6 hb rQ n2 hfin hO5
          refine wpAnyH_ready (rs := [9]) (by kernel_rfl) (by simp) ?_
          refine AllReadyH.cons rfl (fun K hK => ?_) AllReadyH.nil
          have d0 := hQz.cell 0
          have d1 := hQz.cell 1
          have d2 := hQz.cell 2
          have d3 := hQz.cell 3
          have d4 := hQz.cell 4
          have f0 := hQz.frozen 0
          have f1 := hQz.frozen 1
          have f2 := hQz.frozen 2
          have f3 := hQz.frozen 3
          have f4 := hQz.frozen 4
          simp only [List.getElem?_toArray, List.getElem?_cons_zero, List.getElem?_cons_succ] at d0 d1 d2 d3 d4
          have HK9 := hide hK
          clear hK
          go_simp
          refine Shut.out HK9.out _ _ ?_ (fun hHeld => ?_)
          · (try dsimp only)
            refine And.intro ?_ ?_
            · rw [set5_cell nwb]; exact hHeld.1
            · rw [set5_cell nwb]; exact hHeld.2
          try simp only [List.getElem_toArray, List.getElem_cons_zero, List.getElem_cons_succ, Act.put, List.setIfInBounds_toArray, List.set_cons_zero, List.set_cons_succ]
          clear HK9
          refine wpAnyH_take (i := 10) (v := ?_) rfl (by kernel_rfl) (by kernel_rfl) (by kernel_rfl) (fun _ _ _ h => h) (Or.inl ⟨by rfl, ?_⟩) hHeld ?_; rotate_left; (focus (intro w' hSw; clear hSw; go_simp; try with_reducible rfl))
          try simp only [List.getElem_toArray, List.getElem_cons_zero, List.getElem_cons_succ, Act.put, List.setIfInBounds_toArray, List.set_cons_zero, List.set_cons_succ]
          refine wpAnyH_done (by kernel_rfl) ?_ _
          go_wp2_with fail
          go_meet
          go_tidy
          exact ⟨b, O5, oc5, C5, cc5, rfl, rfl, Hfin.out⟩
      · have HK8 := hide hK
        clear hK
        go_simp
        obtain ⟨V6, hV6⟩ : ∃ V : World, V = (W3.alloc (.cells #[.slice none 0 0, .int .i64 0, .bool false, .int .i64 0, .slice none 0 0] 33)).drew := ⟨_, rfl⟩
        rw [← hV6]
        have hC6 : Below W3.heap.size W3 V6 := by rw [hV6]; exact Below.drew ((Below.refl _ _).alloc (Nat.le_refl _) _)
        have hzV6 : Blk V6 W3.heap.size 33 #[.slice none 0 0, .int .i64 0, .bool false, .int .i64 0, .slice none 0 0] := by rw [hV6]; exact (Blk.new' rfl).drew
        clear hHeld hV6
        have hHeld : V6.cell? ⟨bq, 0, none⟩ = some (.int .i64 regs) ∧ V6.cell? ⟨bq, 1, none⟩ = some (.slice A1 l2.length c1) := ⟨((bcell hC6).1 _ _ lq).trans q0, ((bcell hC6).1 _ _ lq).trans q1⟩
        refine Shut.out HK8.out _ _ hHeld (fun _ => ?_)
        try simp only [List.getElem_toArray, List.getElem_cons_zero, List.getElem_cons_succ, Act.put, List.setIfInBounds_toArray, List.set_cons_zero, List.set_cons_succ]
        clear HK8
        refine wpAnyH_ready (rs := [2]) (by kernel_rfl) (by simp) ?_
        refine AllReadyH.cons rfl (fun K hK => ?_) AllReadyH.nil
        have HK2 := hide hK
        clear hK
        go_simp
        go_at_call 10
        refine ((HF _).out).mono ?_
        rintro e w0 ⟨rfl, rfl⟩
        refine Shut.out HK2.out _ _ hHeld (fun _ => ?_)
        try simp only [List.getElem_toArray, List.getElem_cons_zero, List.getElem_cons_succ, Act.put, List.setIfInBounds_toArray, List.set_cons_zero, List.set_cons_succ]
        clear HK2
        refine wpAnyH_ready (rs := [4]) (by kernel_rfl) (by simp) ?_
        refine AllReadyH.cons rfl (fun K hK => ?_) AllReadyH.nil
        have HK4 := hide hK
        clear hK
        go_simp
        go_at_call 9
        refine ((HR3 _ hC6).out).mono ?_
        rintro e w5 ⟨hc5, O5, oc5, C5, cc5, rfl, hO5⟩
        have hC5 : Below W3.heap.size W3 w5 := hC6.trans (hc5.mono hC6.size)
        clear hHeld
        have hHeld : w5.cell? ⟨bq, 0, none⟩ = some (.int .i64 regs) ∧ w5.cell? ⟨bq, 1, none⟩ = some (.slice A1 l2.length c1) := ⟨((bcell hC5).1 _ _ lq).trans q0, ((bcell hC5).1 _ _ lq).trans q1⟩
        refine Shut.out HK4.out _ _ hHeld (fun _ => ?_)
        try simp only [List.getElem_toArray, List.getElem_cons_zero, List.getElem_cons_succ, Act.put, List.setIfInBounds_toArray, List.set_cons_zero, List.set_cons_succ]
        clear HK4
        refine wpAnyH_take (i := 5) (v := ?_) rfl (by kernel_rfl) (by kernel_rfl) (by kernel_rfl) (fun _ _ _ h => h) (Or.inl ⟨by rfl, ?_⟩) hHeld ?_; rotate_left; (focus (intro w' hSw; clear hSw; go_simp; try with_reducible rfl))
        try simp only [List.getElem_toArray, List.getElem_cons_zero, List.getElem_cons_succ, Act.put, List.setIfInBounds_toArray, List.set_cons_zero, List.set_cons_succ]
        refine wpAnyH_take (i := 6) (v := ?_) rfl (by kernel_rfl) (by kernel_rfl) (by kernel_rfl) (fun _ _ _ h => h) (Or.inl ⟨by rfl, ?_⟩) hHeld ?_; rotate_left; (focus (intro w' hSw; clear hSw; go_simp; try with_reducible rfl))
        try simp only [List.getElem_toArray, List.getElem_cons_zero, List.getElem_cons_succ, Act.put, List.setIfInBounds_toArray, List.set_cons_zero, List.set_cons_succ]
        refine wpAnyH_take (i := 7) (v := ?_) rfl (by kernel_rfl) (by kernel_rfl) (by kernel_rfl) (fun _ _ _ h => h) (Or.inl ⟨by rfl, ?_⟩) hHeld ?_; rotate_left; (focus (intro w' hSw; clear hSw; go_simp; try with_reducible rfl))
        try simp only [List.getElem_toArray, List.getElem_cons_zero, List.getElem_cons_succ, Act.put, List.setIfInBounds_toArray, List.set_cons_zero, List.set_cons_succ]
        have hQz := hzV6.below hc5 hzV6.lt
        have rQ := hO5.mono_ (B' := W3.heap.size) (by have := hC6.size; omega)
        have n2 := hO5.ne (g := W3.heap.size) (.inl hzV6.lt)
        have nwb : ¬ (bq = W3.heap.size) := by have := lq; omega
        have nwb' : ¬ (W3.heap.size = bq) := fun e => nwb e.symm
        have hfin := ResSt.mk5 (R := Q) hQz rQ n2 hC5 (Nat.le_refl _)
        obtain ⟨b, hb⟩ : ∃ b, b = W3.heap.size := ⟨_, rfl⟩
        have hQz : Blk w5 W3.heap.size 33 #[.slice none 0 0, .int .i64 0, .bool false, .int .i64 0, .slice none 0 0] := hQz
        rw [← hb] at hQz hfin nwb nwb'
        try rw [← hb]
        have Hfin := hide hfin
        clear hzV6 hb rQ n2 hfin hO5
        refine wpAnyH_ready (rs := [9]) (by kernel_rfl) (by simp) ?_
        refine AllReadyH.cons rfl (fun K hK => ?_) AllReadyH.nil
        have d0 := hQz.cell 0
        have d1 := hQz.cell 1
        have d2 := hQz.cell 2
        have d3 := hQz.cell 3
        have d4 := hQz.cell 4
        have f0 := hQz.frozen 0
        have f1 := hQz.frozen 1
        have f2 := hQz.frozen 2
        have f3 := hQz.frozen 3
        have f4 := hQz.frozen 4
        simp only [List.getElem?_toArray, List.getElem?_cons_zero, List.getElem?_cons_succ] at d0 d1 d2 d3 d4
        have HK9 := hide hK
        clear hK
        go_simp
        refine Shut.out HK9.out _ _ ?_ (fun hHeld => ?_)
        · (try dsimp only)
          refine And.intro ?_ ?_
          · rw [set5_cell nwb]; exact hHeld.1
          · rw [set5_cell nwb]; exact hHeld.2
        try simp only [List.getElem_toArray, List.getElem_cons_zero, List.getElem_cons_succ, Act.put, List.setIfInBounds_toArray, List.set_cons_zero, List.set_cons_succ]
        clear HK9
        refine wpAnyH_take (i := 10) (v := ?_) rfl (by kernel_rfl) (by kernel_rfl) (by kernel_rfl) (fun _ _ _ h => h) (Or.inl ⟨by rfl, ?_⟩) hHeld ?_; rotate_left; (focus (intro w' hSw; clear hSw; go_simp; try with_reducible rfl))
        try simp only [List.getElem_toArray, List.getElem_cons_zero, List.getElem_cons_succ, Act.put, List.setIfInBounds_toArray, List.set_cons_zero, List.set_cons_succ]
        refine wpAnyH_done (by kernel_rfl) ?_ _
        go_wp2_with fail
        go_meet
        go_tidy
        exact ⟨b, O5, oc5, C5, cc5, rfl, rfl, Hfin.out⟩
    case rest =>
      obtain ⟨W4, rfl⟩ : ∃ W4 : World, W4 = wc := ⟨_, rfl⟩
      obtain ⟨bb, Ob, ocb, Cb, ccb, rfl, rfl, hS2⟩ := hcut
      have hb := hS2.below
      have hB4 := hB3.trans (hb.mono hz3)
      have hQ4 := hQ3.later hb
      have hS1 := HS1.out.later hb
      have hz4 := hB4.size
      have p0 := hQ4.box.cell 0
      have p1 := hQ4.box.cell 1
      simp only [List.getElem?_toArray, List.getElem?_cons_zero, List.getElem?_cons_succ] at p0 p1
      have lp := hQ4.box.lt
      clear hb HR3 q0 q1 lq hQ3 hB3 hz3 HS1 HD HCh
      have HDD := hide (fun W (hW : Below W4.heap.size W4 W) => Dead_ok regs A1 l2 c1 W (hQ4.row.nodes.below hW) HR2'.out Hc2.out)
      go_wp2_with fail
      refine (HDD.out _ (Below.refl _ _)).mono ?_
      rintro e w5 ⟨v5, l3, rfl, hD5, hl5, hN5, hb5⟩
      have e23 : l2 = l3 := (HDl.out.again).unique hD5
      subst e23
      clear hD5 hl5
      obtain ⟨A5, c5, rfl, _, _⟩ := hN5.shape
      have hz5 := hb5.size
      have hN5 := hN5.mono (base' := w.heap.size) (by omega)
      clear p0 p1 lp
      go_upto_region 8 with fail
      obtain ⟨W5, hW5⟩ : ∃ W5, W5 = w5.alloc (.cells #[.int .i64 regs, .slice A5 l2.length c5] 24) := ⟨_, rfl⟩
      have hU5 : ProgSt 24 55 w.heap.size w5.heap.size regs A5 c5 l2 W5 := by rw [hW5]; exact ⟨Blk.new' rfl, hN5.alloc _⟩
      have hBW : Below w5.heap.size w5 W5 := by rw [hW5]; exact (Below.refl _ _).alloc (Nat.le_refl _) _
      rw [← hW5]
      have hb := hb5.trans (hBW.mono hz5)
      have hB5 := hB4.trans (hb.mono hz4)
      have hQ5 := hQ4.later hb
      have hS1 := hS1.later hb
      have hS2 := hS2.later hb
      have hz5 := hB5.size
      obtain ⟨bs, hbs⟩ : ∃ a, a = w5.heap.size := ⟨_, rfl⟩
      rw [← hbs] at hU5 ⊢
      have q0 := hQ5.box.cell 0
      have q1 := hQ5.box.cell 1
      simp only [List.getElem?_toArray, List.getElem?_cons_zero, List.getElem?_cons_succ] at q0 q1
      have s0 := hU5.box.cell 0
      have s1 := hU5.box.cell 1
      simp only [List.getElem?_toArray, List.getElem?_cons_zero, List.getElem?_cons_succ] at s0 s1
      clear hW5 hBW hbs hN5 hQ4 hb5 HDD hb hB4 hz4
      have HSP := hide (by
        have h := SameProgs_any regs regs A1 A5 l2 l2 c1 c5 W5 hQ5.row.nodes hU5.row.nodes (by unfold maxLen; omega) (by unfold maxLen; omega)
        rw [show (regs == regs && l2 == l2) = true by simp] at h
        exact h)
      clear hQ5 hU5
      go_wp2_with fail
      refine (HSP.out).mono ?_
      rintro e W7 ⟨rfl, hb7⟩
      have hB7 := hB5.trans (hb7.mono hz5)
      have hS1 := hS1.later hb7
      have hS2 := hS2.later hb7
      have hz7 := hB7.size
      clear HSP q0 q1 s0 s1 hb7 hB5 hz5
      have hQd := HQd.out
      clear HQd HQt
      subst hQd
      obtain ⟨_, lb2⟩ := hS2.row.lens
      obtain ⟨la1, la2⟩ := hS1.row.lens
      have hml2 : qc.length ≤ maxLen := lb2
      unfold maxLen at lb2 hml2 la1 la2
      have HS1 := hide hS1
      have HS2 := hide hS2
      have HB7 := hide hB7
      have b4 := hS2.box.cell 4
      simp only [List.getElem?_toArray, List.getElem?_cons_zero, List.getElem?_cons_succ] at b4
      clear hS1 hS2 hB7
      go_wp2_with fail
      go_loopg [16] (qc.length) (fun gk i wr => ∃ k : Nat, k ≤ qc.length ∧ i = .int .i64 k ∧ gk = qc.length - k ∧ Lies W7 wr)
      case atStart => exact ⟨0, Nat.zero_le _, rfl, rfl, Lies.refl _⟩
      case round =>
        obtain ⟨k, hk, rfl, hgk, hL⟩ := hrel
        have Hgk := hide hgk
        clear hgk b4
        have hS1 := HS1.out.later hL
        have hS2 := HS2.out.later hL
        have a0 := hS1.box.cell 0
        have a1 := hS1.box.cell 1
        have a2 := hS1.box.cell 2
        have a3 := hS1.box.cell 3
        have a4 := hS1.box.cell 4
        simp only [List.getElem?_toArray, List.getElem?_cons_zero, List.getElem?_cons_succ] at a0 a1 a2 a3 a4
        have b0 := hS2.box.cell 0
        have b1 := hS2.box.cell 1
        have b2 := hS2.box.cell 2
        have b3 := hS2.box.cell 3
        have b4 := hS2.box.cell 4
        simp only [List.getElem?_toArray, List.getElem?_cons_zero, List.getElem?_cons_succ] at b0 b1 b2 b3 b4
        by_cases hlt : k < qc.length
        · obtain ⟨bc, oc', x, eC, hbc, hx, hxl⟩ := (hS2.row.cts.nodes).get (k := k) hlt
          subst eC
          obtain ⟨x0, x1, x2, x3⟩ := hxl
          have hcn := Hcnt.out k x hx
          have HTm := fun (V : World) (hV : Lies wr V) => hide (Times_any Oa R.out.length oca R.ret R.ended (R.steps : Int) Ca cca R.cts x.1 V (hS1.row.cts.nodes.below hV) (by unfold maxLen; omega))
          have la := hS1.box.lt
          have lb := hS2.box.lt
          have k0 : (0 : Int) ≤ (k : Int) := by omega
          have k1 : (k : Int) < (qc.length : Int) := by omega
          have hdec : decide (cntOf R.cts x.1 < x.2) = false := decide_eq_false (by omega)
          clear hcn hx hS1 hS2
          go_upto_region 13 with fail
          go_cut [85] (fun s85 wx => s85 = .bool false ∧ Lies W7 wx)
          case first =>
            have hLr : Lies wr wr := Lies.refl _
            go_region_held3 (fun w' => w'.cell? ⟨ba, 0, none⟩ = some (.slice Oa R.out.length oca) ∧ w'.cell? ⟨ba, 1, none⟩ = some (.int .i64 R.ret) ∧ w'.cell? ⟨ba, 2, none⟩ = some (.bool R.ended) ∧ w'.cell? ⟨ba, 3, none⟩ = some (.int .i64 R.steps) ∧ w'.cell? ⟨ba, 4, none⟩ = some (.slice Ca R.cts.length cca) ∧ w'.cell? ⟨bb, 4, none⟩ = some (.slice (some ⟨bc, oc', none⟩) qc.length ccb) ∧ w'.cell? ⟨bc, oc' + k * 4, none⟩ = some (.int .i64 x.1.op) ∧ w'.cell? ⟨bc, oc' + k * 4 + 1, none⟩ = some (.int .i64 x.1.a) ∧ w'.cell? ⟨bc, oc' + k * 4 + 2, none⟩ = some (.int .i64 x.1.b) ∧ w'.cell? ⟨bc, oc' + k * 4 + 3, none⟩ = some (.int .i64 x.2) ∧ Lies wr w')
              (((try go_split_ands); (try dsimp only); (repeat' apply And.intro) <;> (first | assumption | go_keep | (exact Lies.drew (by assumption)) | (exact Lies.step (by assumption) (by assumption)) | (rw [hc7 _ _ (Nat.lt_of_lt_of_le la (Below.size (by assumption : Lies wr _)))]; assumption) | (rw [hc7 _ _ (Nat.lt_of_lt_of_le lb (Below.size (by assumption : Lies wr _)))]; assumption) | (rw [hc7 _ _ (Nat.lt_of_lt_of_le hbc (Below.size (by assumption : Lies wr _)))]; assumption))))
              ((go_at_call 12; (try go_split_ands); refine ((HTm _ (by assumption)).out).mono ?_; rintro e w7 ⟨rfl, hb7⟩; obtain ⟨hc7, hf7⟩ := bcell hb7))
            all_goals (try go_split_ands)
            all_goals (go_wp2_with fail)
            all_goals go_meet
            all_goals go_tidy
            all_goals exact ⟨rfl, hL.trans (Below.mono (by assumption : Lies wr _) hL.size)⟩
          case rest =>
            obtain ⟨rfl, hLc⟩ := hcut
            go_wp2_with fail
            go_roundg (qc.length - (k + 1))
            case measure => have := Hgk.out; omega
            case rel => exact ⟨k + 1, by omega, by go_num, rfl, hLc⟩
        · have k2 : ¬ (k : Int) < (qc.length : Int) := by omega
          have hB8 := HB7.out.trans (Below.mono hL hz7)
          have hz8 := hB8.size
          clear a0 a1 a2 a3 a4 b0 b1 b2 b3 hk hlt
          go_wp2_with fail
          refine (HB.out _ hB8).mono ?_
          rintro e Y ⟨rfl, hbY⟩
          have hS1 := hS1.later hbY
          have hS2 := hS2.later hbY
          have hBY := hB8.trans (hbY.mono hz8)
          have a0 := hS1.box.cell 0
          have a1 := hS1.box.cell 1
          have a2 := hS1.box.cell 2
          have a3 := hS1.box.cell 3
          have a4 := hS1.box.cell 4
          simp only [List.getElem?_toArray, List.getElem?_cons_zero, List.getElem?_cons_succ] at a0 a1 a2 a3 a4
          have b0 := hS2.box.cell 0
          have b1 := hS2.box.cell 1
          have b2 := hS2.box.cell 2
          have b3 := hS2.box.cell 3
          have b4 := hS2.box.cell 4
          simp only [List.getElem?_toArray, List.getElem?_cons_zero, List.getElem?_cons_succ] at b0 b1 b2 b3 b4
          have HS := hide (SameInts_any Oa Ob oca ocb R.out R.out Y hS1.row.out.vals hS2.row.out.vals (by unfold maxLen; omega) (by unfold maxLen; omega))
          have r1 : (R.ended == R.ended) = true := beq_self_eq_true _
          have r2 : (R.ret == R.ret) = true := beq_self_eq_true _
          have r3 : ((R.steps : Int) == (R.steps : Int)) = true := beq_self_eq_true _
          clear hS1 hS2 hbY
          go_wp2_with fail
          refine (HS.out).mono ?_
          rintro e Z ⟨rfl, d, rfl⟩
          rw [beq_self_eq_true]
          go_wp2_with fail
          go_ret
          exact ⟨rfl, below_drewN hBY _⟩
/-- the law, whatever its input -/
theorem LiveSame_any (regs : Int) (A : Option Addr) (l : List Nd) (cap : Nat) (Ai : Option Addr) (inp : List Int) (ci : Nat) (fuel : Int) (w : World) (hA : NodesAt w A l) (hml : l.length ≤ maxLen) (hI : ValsAt w Ai (ints inp)) (hic : inp.length ≤ ci ∧ ci ≤ maxLen) (hf : i64ok fuel) (hT : Tz w) :
    Calls Tryd.prog 3 #[.agg #[.int .i64 regs, .slice A l.length cap], .slice Ai inp.length ci, .int .i64 fuel] w fun e w' => e = .returned (.bool true) ∧ Below w.heap.size w w' := by
  by_cases hc : chk regs l = 0
  · exact lsame_ok regs A l cap Ai inp ci fuel w hA hml hT hI hic hf hc
  · exact lsame_err regs A l cap Ai inp ci fuel w hA hml hT hc
end Go.Proofs.YtmghkonmfbpjcabDoor
