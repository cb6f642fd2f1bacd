/- The law LiveLess, walked. -/
import Derived.Test.YtmghkonmfbpjcaaDoorLessA
import Derived.Test.YtmghkonmfbpjcaaDoorJE
namespace Go.Proofs.YtmghkonmfbpjcaaDoor
set_option linter.unusedVariables false
set_option linter.unusedSimpArgs false
open Go.RowKit
set_option maxHeartbeats 8000000
attribute [local irreducible] Row madeCells
set_option maxRecDepth 100000 in
theorem less_ok (regs : Int) (A : Option Addr) (l : List Nd) (cap : Nat) (reg val : Int) (Ai : Option Addr) (inp : List Int) (ci : Nat) (fuel : Int) (w : World) (hA : NodesAt w A l) (hml : l.length ≤ maxLen) (hI : ValsAt w Ai (ints inp)) (hic : inp.length ≤ ci ∧ ci ≤ maxLen) (hc : chk regs l = 0) (h256 : l.length < 256) (hT : Tz w) (hrg : i64ok reg) (hf : i64ok fuel) :
    Calls Tryd.prog 4 #[.agg #[.int .i64 regs, .slice A l.length cap], .int .i64 reg, .int .i64 val, .slice Ai inp.length ci, .int .i64 fuel] w fun e w' => e = .returned (.bool true) ∧ Below w.heap.size w w' := by
  have hR := right_of_chk hc
  have hlo := hR.lo
  have hrlo := hR.rlo
  have hrhi := hR.rhi
  obtain ⟨i3, h3i, h3z, h3s, h3b⟩ := info_parts infoNode
  have HL := hide (fun W (hW : Below w.heap.size w W) => Live_ok regs A l cap W (hA.below hW) hR hc (hT.below' hW))
  have HB := hide (fun W (hW : Below w.heap.size w W) => liveBegun_any W (hT.below' hW))
  have HO := hide (fun W (hW : Below w.heap.size w W) => OwnProg_any regs A l cap W (hA.below hW) (by omega))
  have HCh1 := fun V => hide (choose_any reg regs (by omega) (by omega) hrg V)
  have HCh2 := fun V => hide (choose_any fuel 4096 (by omega) (by omega) hf V)
  have hr := chV_in reg (show (0 : Int) < regs by omega)
  have hn := chV_in fuel (show (0 : Int) < 4096 by omega)
  have Hlz := hide (fun h => live_zero hR hr h)
  generalize chV reg regs = r at *
  generalize chV fuel 4096 = n at *
  obtain ⟨n', rfl⟩ : ∃ n' : Nat, n = n' := ⟨n.toNat, by omega⟩
  have hd : ((l.length : Int) == 256) = false := by rw [beq_eq_false_iff_ne]; omega
  have HR := hide hR
  have HN := hide (fun W (hW : Below w.heap.size w W) => hA.below hW)
  have HV := hide (fun W (hW : Below w.heap.size w W) => hI.below hW)
  clear hc hT hA hI hR
  go_enter Tryd.func4, Tryd.ntmps4
  go_wp2_with fail
  refine (HL.out _ (by repeat (first | (with_reducible exact Below.refl _ _) | (with_reducible assumption) | (with_reducible refine Below.drew ?_) | (with_reducible refine below_drewN ?_ _) | (with_reducible refine Below.alloc ?_ (by (try simp only [World.size_alloc, World.size_setCell, World.size_drew, World.heap_drewN]); (first | done | omega | ((try simp only [World.size_alloc, World.size_setCell, World.size_drew, World.heap_drewN] at *); omega))) _) | (with_reducible refine Below.setCell ?_ (by (try simp only [World.size_alloc, World.size_setCell, World.size_drew, World.heap_drewN]); (first | done | omega | ((try simp only [World.size_alloc, World.size_setCell, World.size_drew, World.heap_drewN] at *); omega))) _) | (with_reducible refine Below.trans ?_ (Below.mono (by assumption) (by (try simp only [World.size_alloc, World.size_setCell, World.size_drew, World.heap_drewN]); (first | done | omega | ((try simp only [World.size_alloc, World.size_setCell, World.size_drew, World.heap_drewN] at *); omega)))))))).mono ?_
  rintro e w1 ⟨v1, rfl, hI1, hb1⟩
  obtain ⟨g1, o1, cp1, R1, k1, rfl, hg1, hc1, hr1⟩ := hI1.row (i := 0) (by omega)
  have hz1 := hb1.size
  simp only [World.size_alloc] at hz1
  have hP1 : Blk w1 w.heap.size 24 #[.int .i64 regs, .slice A l.length cap] := Blk.below (Blk.new' rfl) hb1 (by simp)
  have hB1 : Below w.heap.size w w1 := (by repeat (first | (with_reducible exact Below.refl _ _) | (with_reducible assumption) | (with_reducible refine Below.drew ?_) | (with_reducible refine below_drewN ?_ _) | (with_reducible refine Below.alloc ?_ (by (try simp only [World.size_alloc, World.size_setCell, World.size_drew, World.heap_drewN]); (first | done | omega | ((try simp only [World.size_alloc, World.size_setCell, World.size_drew, World.heap_drewN] at *); omega))) _) | (with_reducible refine Below.setCell ?_ (by (try simp only [World.size_alloc, World.size_setCell, World.size_drew, World.heap_drewN]); (first | done | omega | ((try simp only [World.size_alloc, World.size_setCell, World.size_drew, World.heap_drewN] at *); omega))) _) | (with_reducible refine Below.trans ?_ (Below.mono (by assumption) (by (try simp only [World.size_alloc, World.size_setCell, World.size_drew, World.heap_drewN]); (first | done | omega | ((try simp only [World.size_alloc, World.size_setCell, World.size_drew, World.heap_drewN] at *); omega)))))))
  have p0 := hP1.cell 0
  have p1 := hP1.cell 1
  have lp := hP1.lt
  simp only [List.getElem?_toArray, List.getElem?_cons_zero, List.getElem?_cons_succ] at p0 p1
  have hne : ((l.length : Int) != (l.length : Int)) = false := by simp
  rw [Nat.add_zero] at hc1
  clear hb1 hI1
  go_wp2_with (go_at_call 13; refine ((HCh1 _).out).mono ?_; rintro e w0 ⟨rfl, hw0⟩; rw [hw0]; clear hw0 w0)
  have hL64 : (liveL regs.toNat l 0).length ≤ 64 := by
    have := sel_len (fun r => yn (lvx l r) 0) regs.toNat
    unfold liveL
    omega
  generalize liveL regs.toNat l 0 = L at *
  have i0 : (0 : Int) < (l.length : Int) := by omega
  go_loopg [14] (L.length) (fun gk i wr => ∃ k : Nat, k ≤ L.length ∧ i = .int .i64 k ∧ gk = L.length - k ∧ (∀ j, j < k → L[j]? ≠ some r) ∧ wr = w1)
  case atStart => exact ⟨0, Nat.zero_le _, rfl, rfl, fun j hj => by omega, rfl⟩
  case round =>
    obtain ⟨k, hk, rfl, hgk, hno, rfl⟩ := hrel
    have Hgk := hide hgk
    clear hgk
    by_cases hlt : k < L.length
    · obtain ⟨b, off, z, rfl, hbl, hz, hcz⟩ := hr1.int hlt
      have Hz := hide hz
      have Hno := hide hno
      have k0 : (0 : Int) ≤ (k : Int) := by omega
      have k2 : (k : Int) < (L.length : Int) := by omega
      clear hz hno
      by_cases hzr : z = r
      · subst hzr
        go_wp2_with fail
        refine (HB.out _ hB1).mono ?_
        rintro e w2 ⟨rfl, hb2⟩
        go_wp2_with fail
        go_ret
        exact ⟨rfl, hB1.trans (hb2.mono (by omega))⟩
      · have hzr' : (z == r) = false := by simpa using hzr
        go_wp2_with fail
        go_roundg (L.length - (k + 1))
        case measure => have := Hgk.out; omega
        case rel =>
          refine ⟨k + 1, by omega, by go_num, rfl, ?_, rfl⟩
          intro j hj
          by_cases e : j = k
          · rw [e, Hz.out]; intro h; injection h with h; exact hzr h
          · have hj2 : j < k := by omega
            exact Hno.out j hj2
    · have hmem : r ∉ L := fun hm => by
        obtain ⟨j, hj⟩ := List.mem_iff_getElem?.1 hm
        have := (List.getElem?_eq_some_iff.1 hj).1
        exact hno j (by omega) hj
      have Hdead := hide (Hlz.out hmem)
      have k2 : ¬ (k : Int) < (L.length : Int) := by omega
      clear hno Hgk Hlz HL hmem hr1 hk hlt
      go_wp2_with fail
      refine (HO.out _ hB1).mono ?_
      rintro e w2 ⟨vq, rfl, hN2, hb2⟩
      obtain ⟨g, cq, n0, rfl, hgB, hgl, hn0, hl0, hfr0⟩ := hN2.get (k := 0) (by omega)
      have hz2 := hb2.size
      have hB2 : Below w.heap.size w w2 := hB1.trans (hb2.mono (by omega))
      have hP2 := hP1.below hb2 lp
      have hN2 := hN2.mono (base' := w.heap.size) (by omega)
      clear hP1 p0 p1 lp hc1 hg1 hfr0 hl0 hB1 hb2 hne
      go_upto_region 13 with fail
      obtain ⟨W3, hW3⟩ : ∃ W3, W3 = w2.alloc (.cells #[.int .i64 regs, .slice (some ⟨g, 0, none⟩) l.length cq] 24) := ⟨_, rfl⟩
      have hQ3 : Blk W3 w2.heap.size 24 #[.int .i64 regs, .slice (some ⟨g, 0, none⟩) l.length cq] := by rw [hW3]; exact Blk.new' rfl
      have hN3 : NRow W3 w.heap.size 41 (.slice (some ⟨g, 0, none⟩) l.length cq) l := by rw [hW3]; exact hN2.alloc _
      have hP3 : Blk W3 w.heap.size 24 #[.int .i64 regs, .slice A l.length cap] := by rw [hW3]; exact hP2.alloc _
      have hB3 : Below w.heap.size w W3 := by rw [hW3]; exact hB2.alloc (by omega) _
      rw [← hW3]
      obtain ⟨bq, hbq⟩ : ∃ b, b = w2.heap.size := ⟨_, rfl⟩
      rw [← hbq] at hQ3 ⊢
      have hgbq : ¬ (g = bq) := by omega
      have hwg : w.heap.size ≤ g := by omega
      have hpg : ¬ (w.heap.size = g) := by omega
      have hpg' : ¬ (g = w.heap.size) := by omega
      have hwbq : w.heap.size ≤ bq := by omega
      have hpq : ¬ (w.heap.size = bq) := by
        intro e
        have := hP2.lt
        omega
      clear hW3 hN2 hP2 hB2 hgl hgB hbq
      go_cut [15] (fun s15 wx => ∃ (g' cq' : Nat), s15 = .pointer (some ⟨bq, 0, none⟩) ∧ Blk wx bq 24 #[.int .i64 regs, .slice (some ⟨g', 0, none⟩) (l.length + 1) cq'] ∧ NRow wx w.heap.size 41 (.slice (some ⟨g', 0, none⟩) (l.length + 1) cq') (l ++ [n0]) ∧ Blk wx w.heap.size 24 #[.int .i64 regs, .slice A l.length cap] ∧ Below w.heap.size w wx)
      case first =>
        have hz3 := hB3.size
        have n00 : 0 < l.length := by omega
        have lq := hQ3.lt
        have q0 := hQ3.cell 0
        have q1 := hQ3.cell 1
        have fq0 := hQ3.frozen 0
        have fq1 := hQ3.frozen 1
        obtain ⟨g', cq', n1, e1, _, hgl, hn1, hl1, hfr1⟩ := hN3.get (k := 0) (by omega)
        injection e1 with e1 e2 e3
        injection e1 with e1
        injection e1 with e1 e4
        subst e1
        clear e2 e3 e4
        rw [hn0] at hn1
        injection hn1 with hn1
        subst hn1
        obtain ⟨c0, c1, c2, c3, c4, c5⟩ := hl1
        simp only [List.getElem?_toArray, List.getElem?_cons_zero, List.getElem?_cons_succ, Nat.zero_mul, Nat.zero_add] at q0 q1 c0 c1 c2 c3 c4 c5
        clear hfr1
        go_region_law ((refine step_append_nodes (v := .slice (some ⟨g, 0, none⟩) l.length cq) (l := l) (base := w.heap.size) (by rfl) _ _ _ (by rfl) i3 _ 48 Tryd.underlying22 h3i h3z h3s h3b rfl (by rfl) (by repeat (first | exact hN3 | (with_reducible refine NRow.drew ?_) | (with_reducible refine NRow.alloc ?_ _))) (some ⟨W3.heap.size, 0, none⟩) 1 1 [n0] (by rfl) (by rfl) (nodes_one' (by simp)) (by simp [maxLen] <;> omega) (by simp <;> omega) (by simp <;> omega) ?_; intro v4 w4 hr4 hg4 hat4; obtain ⟨g4, c4', x4, hv4, hgB4, hgl4, _, _, _⟩ := hr4.get (k := 0) (by simp); subst hv4; have hQ4 : Blk w4 bq 24 #[.int .i64 regs, .slice (some ⟨g, 0, none⟩) l.length cq] := Blk.grown (by repeat (first | exact hQ3 | (with_reducible refine Blk.drew ?_) | (with_reducible refine Blk.alloc ?_ _))) hg4 (by simp [Value.ownBlock] <;> omega); have hP4 : Blk w4 w.heap.size 24 #[.int .i64 regs, .slice A l.length cap] := Blk.grown (by repeat (first | exact hP3 | (with_reducible refine Blk.drew ?_) | (with_reducible refine Blk.alloc ?_ _))) hg4 (by simp [Value.ownBlock] <;> omega); have r1 := hQ4.cell 1; have r2 := hQ4.frozen 1; simp only [List.getElem?_toArray, List.getElem?_cons_zero, List.getElem?_cons_succ] at r1; have e4 : (l ++ [n0]).length = l.length + 1 := (by simp); rw [e4] at hr4; have hB4 : Below w.heap.size w w4 := Below.grown (by repeat (first | exact hB3 | (with_reducible refine Below.drew ?_) | (with_reducible refine Below.alloc ?_ (by (try simp only [World.size_alloc, World.size_setCell, World.size_drew, World.heap_drewN]); (first | done | omega | ((try simp only [World.size_alloc, World.size_setCell, World.size_drew, World.heap_drewN] at *); omega))) _))) hg4 (by simp <;> omega) (fun q hq => by simp [Value.ownBlock] at hq; omega)))
        all_goals (go_wp2_with fail)
        all_goals go_meet
        all_goals go_tidy
        all_goals exact ⟨g4, c4', rfl, hQ4.set_ 1 _, hr4.far (hr4.ne_blk hQ4 (by decide)) _, hP4.far (by exact hpq) _, hB4.setCell (by omega) _⟩
      case rest =>
        obtain ⟨g', cq', rfl, hQ4, hN4, hP4, hB4⟩ := hcut
        have hz4 := hB4.size
        obtain ⟨g5, c5', x5, e1, hgB5, hgl5, hn5, hl5, hfr5⟩ := hN4.get (k := 0) (by simp)
        injection e1 with e1 e2 e3
        injection e1 with e1
        injection e1 with e1 e4
        subst e1
        clear e2 e3 e4
        have hx5 : (l ++ [n0])[0]? = some x5 := hn5
        obtain ⟨c0, c1, c2, c3, c4, c5⟩ := hl5
        have e6 : (l ++ [n0]).length = l.length + 1 := by simp
        have f0 := hfr5 0 (by omega)
        have f1 := hfr5 1 (by omega)
        have f2 := hfr5 2 (by omega)
        have f3 := hfr5 3 (by omega)
        have f4 := hfr5 4 (by omega)
        have f5 := hfr5 5 (by omega)
        have p0 := hP4.cell 0
        have p1 := hP4.cell 1
        have q0 := hQ4.cell 0
        have q1 := hQ4.cell 1
        have i1 : (0 : Int) < ((l.length + 1 : Nat) : Int) := by omega
        have n1 : 0 < l.length + 1 := by omega
        simp only [List.getElem?_toArray, List.getElem?_cons_zero, List.getElem?_cons_succ, Nat.zero_mul, Nat.zero_add] at p0 p1 q0 q1 c0 c1 c2 c3 c4 c5
        have hgq : ¬ (g' = bq) := fun e => (hN4.ne_blk hQ4 (by decide)) (by rw [e]; rfl)
        have hgp : ¬ (g' = w.heap.size) := fun e => (hN4.ne_blk hP4 (by decide)) (by rw [e]; rfl)
        clear hfr5 hn5
        go_upto_region 15 with fail
        obtain ⟨W5, hW5⟩ : ∃ W5 : World, W5 = (((((wc.setCell ⟨g', 0, none⟩ (.int .i64 1)).setCell ⟨g', 1, none⟩ (.int .i64 r)).setCell ⟨g', 2, none⟩ (.int .i64 val)).setCell ⟨g', 3, none⟩ (.int .i64 0)).setCell ⟨g', 4, none⟩ (.int .i64 (l.length : Int))).setCell ⟨g', 5, none⟩ (.int .i64 0) := ⟨_, rfl⟩
        rw [← hW5]
        have hN5 : NRow W5 w.heap.size 41 (.slice (some ⟨g', 0, none⟩) (l.length + 1) cq') (lessL l r val) := by
          rw [hW5]
          have h := hN4.put6 (k := 0) hx5 ⟨1, r, val, 0, (l.length : Int), 0⟩
          rw [show (l ++ [n0]).set 0 ⟨1, r, val, 0, (l.length : Int), 0⟩ = lessL l r val by unfold lessL; rw [nd_get hn0]] at h
          exact h
        have hQ5 : Blk W5 bq 24 #[.int .i64 regs, .slice (some ⟨g', 0, none⟩) (l.length + 1) cq'] := by
          rw [hW5]
          have hgq' : bq ≠ g' := fun e => hgq e.symm
          exact (((((hQ4.far (p := ⟨g', 0, none⟩) hgq' _).far (p := ⟨g', 1, none⟩) hgq' _).far (p := ⟨g', 2, none⟩) hgq' _).far (p := ⟨g', 3, none⟩) hgq' _).far (p := ⟨g', 4, none⟩) hgq' _).far (p := ⟨g', 5, none⟩) hgq' _
        have hP5 : Blk W5 w.heap.size 24 #[.int .i64 regs, .slice A l.length cap] := by
          rw [hW5]
          have hgp' : w.heap.size ≠ g' := fun e => hgp e.symm
          exact (((((hP4.far (p := ⟨g', 0, none⟩) hgp' _).far (p := ⟨g', 1, none⟩) hgp' _).far (p := ⟨g', 2, none⟩) hgp' _).far (p := ⟨g', 3, none⟩) hgp' _).far (p := ⟨g', 4, none⟩) hgp' _).far (p := ⟨g', 5, none⟩) hgp' _
        have hB5 : Below w.heap.size w W5 := by
          rw [hW5]
          exact (((((hB4.setCell hgB5 _).setCell hgB5 _).setCell hgB5 _).setCell hgB5 _).setCell hgB5 _).setCell hgB5 _
        clear hW5 c0 c1 c2 c3 c4 c5 f0 f1 f2 f3 f4 f5 p0 p1 q0 q1 hN4 hQ4 hP4 hB4 hz4 hgl5 hx5 i1 n1
        go_wp2_with (go_at_call 13; refine ((HCh2 _).out).mono ?_; rintro e w0 ⟨rfl, hw0⟩; rw [hw0]; clear hw0 w0)
        have hc0 : chk regs l = 0 := HR.out.chk
        have hcq : chk regs (lessL l r val) = 0 := (HR.out.less hr h256).chk
        obtain ⟨R, hR⟩ : ∃ R, R = (runR regs l (fewL inp) n').told := ⟨_, rfl⟩
        obtain ⟨st, hQt⟩ : ∃ st, (runR regs (lessL l r val) (fewL inp) (n' + 1)).told = ⟨R.out, R.ret, R.ended, st, R.cts⟩ := by
          obtain ⟨t1, t2, t3, t4⟩ := run_less (inp := fewL inp) (v := val) HR.out hr Hdead.out n'
          refine ⟨(runR regs (lessL l r val) (fewL inp) (n' + 1)).steps, ?_⟩
          rw [hR]
          simp only [Rn.told, t1, t2, t3, t4]
        obtain ⟨Q, hQ⟩ : ∃ Q : Rs, Q = ⟨R.out, R.ret, R.ended, st, R.cts⟩ := ⟨_, rfl⟩
        rw [← hQ] at hQt
        have HQ := hide hQ
        clear hQ
        have hfi : (fewL inp).length ≤ ci ∧ ci ≤ maxLen := ⟨by have : (fewL inp).length ≤ inp.length := (by unfold fewL; rw [List.length_take]; omega); omega, hic.2⟩
        have HF := fun V => hide (few_any Ai inp ci V hic)
        have HR1 := fun (V : World) (hV : Below W5.heap.size W5 V) => hide (by
          have h := Run_got (cap := cap) (n := n') (w := V) hml (HN.out _ (hB5.trans (hV.mono hB5.size))) ((HV.out _ (hB5.trans (hV.mono hB5.size))).few) hfi hc0 (fewL_len inp) (by omega)
          rw [← hR] at h
          exact h)
        have HR2 := fun (V : World) (hV : Below W5.heap.size W5 V) => hide (by
          have h := Run_got (cap := cq') (n := n' + 1) (w := V) (l := lessL l r val) (regs := regs) (A := some ⟨g', 0, none⟩) (by rw [lessL_len]; unfold maxLen; omega) ((hN5.nodes).below hV) ((HV.out _ (hB5.trans (hV.mono hB5.size))).few) hfi hcq (fewL_len inp) (by omega)
          rw [hQt, lessL_len] at h
          exact h)
        have hz5 := hB5.size
        clear hR hQt hc0 hcq hfi hN5 Hdead HN HV
        have p0 := hP5.cell 0
        have p1 := hP5.cell 1
        have lp := hP5.lt
        simp only [List.getElem?_toArray, List.getElem?_cons_zero, List.getElem?_cons_succ] at p0 p1
        go_cut [17, 18] (fun s17 s18 wy => ∃ (b : Nat) (O : Option Addr) (oc : Nat) (C : Option Addr) (cc : Nat), s17 = .pointer (some ⟨b, 0, none⟩) ∧ s18 = .int .i64 0 ∧ ResSt 3 73 44 W5 b O oc C cc R wy)
        case first =>
          refine wp_region_held_drew (S := fun w' => w'.cell? ⟨w.heap.size, 0, none⟩ = some (.int .i64 regs) ∧ w'.cell? ⟨w.heap.size, 1, none⟩ = some (.slice A l.length cap)) (by kernel_rfl) ⟨p0, p1⟩ ?_
          intro hHeld
          have hC0 : Below W5.heap.size W5 W5.drew := (Below.refl _ _).drew
          refine wpAnyH_take (i := 0) (v := ?_) rfl (by kernel_rfl) (by kernel_rfl) (by kernel_rfl) (fun _ _ _ h => h) (Or.inl ⟨by rfl, ?_⟩) hHeld ?_; rotate_left; (focus (intro w' hSw; (try dsimp only at hSw); (try go_split_ands); go_simp; try with_reducible rfl))
          try simp only [List.getElem_toArray, List.getElem_cons_zero, List.getElem_cons_succ, Act.put, List.setIfInBounds_toArray, List.set_cons_zero, List.set_cons_succ]
          refine wpAnyH_take (i := 1) (v := ?_) rfl (by kernel_rfl) (by kernel_rfl) (by kernel_rfl) (fun _ _ _ h => h) (Or.inl ⟨by rfl, ?_⟩) hHeld ?_; rotate_left; (focus (intro w' hSw; (try dsimp only at hSw); (try go_split_ands); go_simp; try with_reducible rfl))
          try simp only [List.getElem_toArray, List.getElem_cons_zero, List.getElem_cons_succ, Act.put, List.setIfInBounds_toArray, List.set_cons_zero, List.set_cons_succ]
          refine wpAnyH_take (i := 3) (v := ?_) rfl (by kernel_rfl) (by kernel_rfl) (by kernel_rfl) (fun _ _ _ h => h) (Or.inl ⟨by rfl, ?_⟩) hHeld ?_; rotate_left; (focus (intro w' hSw; (try dsimp only at hSw); (try go_split_ands); go_simp; try with_reducible rfl))
          try simp only [List.getElem_toArray, List.getElem_cons_zero, List.getElem_cons_succ, Act.put, List.setIfInBounds_toArray, List.set_cons_zero, List.set_cons_succ]
          refine wpAnyH_ready (rs := [2, 8]) (by kernel_rfl) (by simp) ?_
          refine AllReadyH.cons rfl (fun K hK => ?_) (AllReadyH.cons rfl (fun K hK => ?_) AllReadyH.nil)
          · have HK2 := hide hK
            clear hK
            go_simp
            go_at_call 16
            refine ((HF _).out).mono ?_
            rintro e w0 ⟨rfl, rfl⟩
            refine Shut.out HK2.out _ _ hHeld (fun _ => ?_)
            try simp only [List.getElem_toArray, List.getElem_cons_zero, List.getElem_cons_succ, Act.put, List.setIfInBounds_toArray, List.set_cons_zero, List.set_cons_succ]
            clear HK2
            refine wpAnyH_ready (rs := [4, 8]) (by kernel_rfl) (by simp) ?_
            refine AllReadyH.cons rfl (fun K hK => ?_) (AllReadyH.cons rfl (fun K hK => ?_) AllReadyH.nil)
            · have HK4 := hide hK
              clear hK
              go_simp
              go_at_call 15
              refine ((HR1 _ hC0).out).mono ?_
              rintro e w5 ⟨hc5, O5, oc5, C5, cc5, rfl, hO5⟩
              have hC5 : Below W5.heap.size W5 w5 := hC0.trans (hc5.mono hC0.size)
              clear hHeld
              have hHeld : w5.cell? ⟨w.heap.size, 0, none⟩ = some (.int .i64 regs) ∧ w5.cell? ⟨w.heap.size, 1, none⟩ = some (.slice A l.length cap) := ⟨((bcell hC5).1 _ _ lp).trans p0, ((bcell hC5).1 _ _ lp).trans p1⟩
              refine Shut.out HK4.out _ _ hHeld (fun _ => ?_)
              try simp only [List.getElem_toArray, List.getElem_cons_zero, List.getElem_cons_succ, Act.put, List.setIfInBounds_toArray, List.set_cons_zero, List.set_cons_succ]
              clear HK4
              refine wpAnyH_take (i := 5) (v := ?_) rfl (by kernel_rfl) (by kernel_rfl) (by kernel_rfl) (fun _ _ _ h => h) (Or.inl ⟨by rfl, ?_⟩) hHeld ?_; rotate_left; (focus (intro w' hSw; (try dsimp only at hSw); (try go_split_ands); go_simp; try with_reducible rfl))
              try simp only [List.getElem_toArray, List.getElem_cons_zero, List.getElem_cons_succ, Act.put, List.setIfInBounds_toArray, List.set_cons_zero, List.set_cons_succ]
              refine wpAnyH_take (i := 6) (v := ?_) rfl (by kernel_rfl) (by kernel_rfl) (by kernel_rfl) (fun _ _ _ h => h) (Or.inl ⟨by rfl, ?_⟩) hHeld ?_; rotate_left; (focus (intro w' hSw; (try dsimp only at hSw); (try go_split_ands); go_simp; try with_reducible rfl))
              try simp only [List.getElem_toArray, List.getElem_cons_zero, List.getElem_cons_succ, Act.put, List.setIfInBounds_toArray, List.set_cons_zero, List.set_cons_succ]
              refine wpAnyH_take (i := 7) (v := ?_) rfl (by kernel_rfl) (by kernel_rfl) (by kernel_rfl) (fun _ _ _ h => h) (Or.inl ⟨by rfl, ?_⟩) hHeld ?_; rotate_left; (focus (intro w' hSw; (try dsimp only at hSw); (try go_split_ands); go_simp; try with_reducible rfl))
              try simp only [List.getElem_toArray, List.getElem_cons_zero, List.getElem_cons_succ, Act.put, List.setIfInBounds_toArray, List.set_cons_zero, List.set_cons_succ]
              refine wpAnyH_ready (rs := [8]) (by kernel_rfl) (by simp) ?_
              refine AllReadyH.cons rfl (fun K hK => ?_) AllReadyH.nil
              have HK8 := hide hK
              clear hK
              go_simp
              obtain ⟨V6, hV6⟩ : ∃ V : World, V = (w5).alloc (.cells #[.slice none 0 0, .int .i64 0, .bool false, .int .i64 0, .slice none 0 0] 44) := ⟨_, rfl⟩
              rw [← hV6]
              have hC6 : Below W5.heap.size W5 V6 := by rw [hV6]; exact Below.alloc hC5 hC5.size _
              have hzV6 : Blk V6 (w5).heap.size 44 #[.slice none 0 0, .int .i64 0, .bool false, .int .i64 0, .slice none 0 0] := by rw [hV6]; exact Blk.new' rfl
              have hbV6 : Below (w5).heap.size (w5) V6 := by rw [hV6]; exact (Below.refl _ _).alloc (Nat.le_refl _) _
              clear hHeld hV6
              have hHeld : V6.cell? ⟨w.heap.size, 0, none⟩ = some (.int .i64 regs) ∧ V6.cell? ⟨w.heap.size, 1, none⟩ = some (.slice A l.length cap) := ⟨((bcell hC6).1 _ _ lp).trans p0, ((bcell hC6).1 _ _ lp).trans p1⟩
              refine Shut.out HK8.out _ _ hHeld (fun _ => ?_)
              try simp only [List.getElem_toArray, List.getElem_cons_zero, List.getElem_cons_succ, Act.put, List.setIfInBounds_toArray, List.set_cons_zero, List.set_cons_succ]
              clear HK8
              have hQz := hzV6
              have rQ := (hO5.mono_ (B' := W5.heap.size) (by have := hC0.size; omega)).below hbV6
              have n2 := hO5.ne (g := w5.heap.size) (.inr (Nat.le_refl _))
              have hwb : W5.heap.size ≤ w5.heap.size := hC5.size
              have nwb : ¬ (w.heap.size = w5.heap.size) := by have := hC5.size; have := lp; omega
              have nwb' : ¬ (w5.heap.size = w.heap.size) := fun e => nwb e.symm
              have hfin := ResSt.mk5 (R := R) hQz rQ n2 hC6 hwb
              obtain ⟨b, hb⟩ : ∃ b, b = w5.heap.size := ⟨_, rfl⟩
              rw [← hb] at hQz hfin nwb nwb' ⊢
              have Hfin := hide hfin
              clear hzV6 hb hbV6 rQ n2 hfin hO5
              refine wpAnyH_ready (rs := [9]) (by kernel_rfl) (by simp) ?_
              refine AllReadyH.cons rfl (fun K hK => ?_) AllReadyH.nil
              have d0 := hQz.cell 0
              have d1 := hQz.cell 1
              have d2 := hQz.cell 2
              have d3 := hQz.cell 3
              have d4 := hQz.cell 4
              have f0 := hQz.frozen 0
              have f1 := hQz.frozen 1
              have f2 := hQz.frozen 2
              have f3 := hQz.frozen 3
              have f4 := hQz.frozen 4
              simp only [List.getElem?_toArray, List.getElem?_cons_zero, List.getElem?_cons_succ] at d0 d1 d2 d3 d4
              have HK9 := hide hK
              clear hK
              go_simp
              refine Shut.out HK9.out _ _ ?_ (fun hHeld => ?_)
              · (try dsimp only)
                refine And.intro ?_ ?_
                · rw [set5_cell nwb]; exact hHeld.1
                · rw [set5_cell nwb]; exact hHeld.2
              try simp only [List.getElem_toArray, List.getElem_cons_zero, List.getElem_cons_succ, Act.put, List.setIfInBounds_toArray, List.set_cons_zero, List.set_cons_succ]
              clear HK9
              refine wpAnyH_take (i := 10) (v := ?_) rfl (by kernel_rfl) (by kernel_rfl) (by kernel_rfl) (fun _ _ _ h => h) (Or.inl ⟨by rfl, ?_⟩) hHeld ?_; rotate_left; (focus (intro w' hSw; (try dsimp only at hSw); (try go_split_ands); go_simp; try with_reducible rfl))
              try simp only [List.getElem_toArray, List.getElem_cons_zero, List.getElem_cons_succ, Act.put, List.setIfInBounds_toArray, List.set_cons_zero, List.set_cons_succ]
              refine wpAnyH_done (by kernel_rfl) ?_ _
              go_wp2_with fail
              go_meet
              go_tidy
              exact ⟨b, O5, oc5, C5, cc5, rfl, rfl, Hfin.out⟩
            · have HK8 := hide hK
              clear hK
              go_simp
              obtain ⟨V6, hV6⟩ : ∃ V : World, V = (W5.alloc (.cells #[.slice none 0 0, .int .i64 0, .bool false, .int .i64 0, .slice none 0 0] 44)).drew := ⟨_, rfl⟩
              rw [← hV6]
              have hC6 : Below W5.heap.size W5 V6 := by rw [hV6]; exact Below.drew ((Below.refl _ _).alloc (Nat.le_refl _) _)
              have hzV6 : Blk V6 W5.heap.size 44 #[.slice none 0 0, .int .i64 0, .bool false, .int .i64 0, .slice none 0 0] := by rw [hV6]; exact (Blk.new' rfl).drew
              clear hHeld hV6
              have hHeld : V6.cell? ⟨w.heap.size, 0, none⟩ = some (.int .i64 regs) ∧ V6.cell? ⟨w.heap.size, 1, none⟩ = some (.slice A l.length cap) := ⟨((bcell hC6).1 _ _ lp).trans p0, ((bcell hC6).1 _ _ lp).trans p1⟩
              refine Shut.out HK8.out _ _ hHeld (fun _ => ?_)
              try simp only [List.getElem_toArray, List.getElem_cons_zero, List.getElem_cons_succ, Act.put, List.setIfInBounds_toArray, List.set_cons_zero, List.set_cons_succ]
              clear HK8
              refine wpAnyH_ready (rs := [4]) (by kernel_rfl) (by simp) ?_
              refine AllReadyH.cons rfl (fun K hK => ?_) AllReadyH.nil
              have HK4 := hide hK
              clear hK
              go_simp
              go_at_call 15
              refine ((HR1 _ hC6).out).mono ?_
              rintro e w5 ⟨hc5, O5, oc5, C5, cc5, rfl, hO5⟩
              have hC5 : Below W5.heap.size W5 w5 := hC6.trans (hc5.mono hC6.size)
              clear hHeld
              have hHeld : w5.cell? ⟨w.heap.size, 0, none⟩ = some (.int .i64 regs) ∧ w5.cell? ⟨w.heap.size, 1, none⟩ = some (.slice A l.length cap) := ⟨((bcell hC5).1 _ _ lp).trans p0, ((bcell hC5).1 _ _ lp).trans p1⟩
              refine Shut.out HK4.out _ _ hHeld (fun _ => ?_)
              try simp only [List.getElem_toArray, List.getElem_cons_zero, List.getElem_cons_succ, Act.put, List.setIfInBounds_toArray, List.set_cons_zero, List.set_cons_succ]
              clear HK4
              refine wpAnyH_take (i := 5) (v := ?_) rfl (by kernel_rfl) (by kernel_rfl) (by kernel_rfl) (fun _ _ _ h => h) (Or.inl ⟨by rfl, ?_⟩) hHeld ?_; rotate_left; (focus (intro w' hSw; (try dsimp only at hSw); (try go_split_ands); go_simp; try with_reducible rfl))
              try simp only [List.getElem_toArray, List.getElem_cons_zero, List.getElem_cons_succ, Act.put, List.setIfInBounds_toArray, List.set_cons_zero, List.set_cons_succ]
              refine wpAnyH_take (i := 6) (v := ?_) rfl (by kernel_rfl) (by kernel_rfl) (by kernel_rfl) (fun _ _ _ h => h) (Or.inl ⟨by rfl, ?_⟩) hHeld ?_; rotate_left; (focus (intro w' hSw; (try dsimp only at hSw); (try go_split_ands); go_simp; try with_reducible rfl))
              try simp only [List.getElem_toArray, List.getElem_cons_zero, List.getElem_cons_succ, Act.put, List.setIfInBounds_toArray, List.set_cons_zero, List.set_cons_succ]
              refine wpAnyH_take (i := 7) (v := ?_) rfl (by kernel_rfl) (by kernel_rfl) (by kernel_rfl) (fun _ _ _ h => h) (Or.inl ⟨by rfl, ?_⟩) hHeld ?_; rotate_left; (focus (intro w' hSw; (try dsimp only at hSw); (try go_split_ands); go_simp; try with_reducible rfl))
              try simp only [List.getElem_toArray, List.getElem_cons_zero, List.getElem_cons_succ, Act.put, List.setIfInBounds_toArray, List.set_cons_zero, List.set_cons_succ]
              have hQz := hzV6.below hc5 hzV6.lt
              have rQ := hO5.mono_ (B' := W5.heap.size) (by have := hC6.size; omega)
              have n2 := hO5.ne (g := W5.heap.size) (.inl hzV6.lt)
              have nwb : ¬ (w.heap.size = W5.heap.size) := by have := lp; omega
              have nwb' : ¬ (W5.heap.size = w.heap.size) := fun e => nwb e.symm
              have hfin := ResSt.mk5 (R := R) hQz rQ n2 hC5 (Nat.le_refl _)
              obtain ⟨b, hb⟩ : ∃ b, b = W5.heap.size := ⟨_, rfl⟩
              have hQz : Blk w5 W5.heap.size 44 #[.slice none 0 0, .int .i64 0, .bool false, .int .i64 0, .slice none 0 0] := hQz
              rw [← hb] at hQz hfin nwb nwb'
              try rw [← hb]
              have Hfin := hide hfin
              clear hzV6 hb rQ n2 hfin hO5
              refine wpAnyH_ready (rs := [9]) (by kernel_rfl) (by simp) ?_
              refine AllReadyH.cons rfl (fun K hK => ?_) AllReadyH.nil
              have d0 := hQz.cell 0
              have d1 := hQz.cell 1
              have d2 := hQz.cell 2
              have d3 := hQz.cell 3
              have d4 := hQz.cell 4
              have f0 := hQz.frozen 0
              have f1 := hQz.frozen 1
              have f2 := hQz.frozen 2
              have f3 := hQz.frozen 3
              have f4 := hQz.frozen 4
              simp only [List.getElem?_toArray, List.getElem?_cons_zero, List.getElem?_cons_succ] at d0 d1 d2 d3 d4
              have HK9 := hide hK
              clear hK
              go_simp
              refine Shut.out HK9.out _ _ ?_ (fun hHeld => ?_)
              · (try dsimp only)
                refine And.intro ?_ ?_
                · rw [set5_cell nwb]; exact hHeld.1
                · rw [set5_cell nwb]; exact hHeld.2
              try simp only [List.getElem_toArray, List.getElem_cons_zero, List.getElem_cons_succ, Act.put, List.setIfInBounds_toArray, List.set_cons_zero, List.set_cons_succ]
              clear HK9
              refine wpAnyH_take (i := 10) (v := ?_) rfl (by kernel_rfl) (by kernel_rfl) (by kernel_rfl) (fun _ _ _ h => h) (Or.inl ⟨by rfl, ?_⟩) hHeld ?_; rotate_left; (focus (intro w' hSw; (try dsimp only at hSw); (try go_split_ands); go_simp; try with_reducible rfl))
              try simp only [List.getElem_toArray, List.getElem_cons_zero, List.getElem_cons_succ, Act.put, List.setIfInBounds_toArray, List.set_cons_zero, List.set_cons_succ]
              refine wpAnyH_done (by kernel_rfl) ?_ _
              go_wp2_with fail
              go_meet
              go_tidy
              exact ⟨b, O5, oc5, C5, cc5, rfl, rfl, Hfin.out⟩
          · have HK8 := hide hK
            clear hK
            go_simp
            obtain ⟨V6, hV6⟩ : ∃ V : World, V = (W5.alloc (.cells #[.slice none 0 0, .int .i64 0, .bool false, .int .i64 0, .slice none 0 0] 44)).drew := ⟨_, rfl⟩
            rw [← hV6]
            have hC6 : Below W5.heap.size W5 V6 := by rw [hV6]; exact Below.drew ((Below.refl _ _).alloc (Nat.le_refl _) _)
            have hzV6 : Blk V6 W5.heap.size 44 #[.slice none 0 0, .int .i64 0, .bool false, .int .i64 0, .slice none 0 0] := by rw [hV6]; exact (Blk.new' rfl).drew
            clear hHeld hV6
            have hHeld : V6.cell? ⟨w.heap.size, 0, none⟩ = some (.int .i64 regs) ∧ V6.cell? ⟨w.heap.size, 1, none⟩ = some (.slice A l.length cap) := ⟨((bcell hC6).1 _ _ lp).trans p0, ((bcell hC6).1 _ _ lp).trans p1⟩
            refine Shut.out HK8.out _ _ hHeld (fun _ => ?_)
            try simp only [List.getElem_toArray, List.getElem_cons_zero, List.getElem_cons_succ, Act.put, List.setIfInBounds_toArray, List.set_cons_zero, List.set_cons_succ]
            clear HK8
            refine wpAnyH_ready (rs := [2]) (by kernel_rfl) (by simp) ?_
            refine AllReadyH.cons rfl (fun K hK => ?_) AllReadyH.nil
            have HK2 := hide hK
            clear hK
            go_simp
            go_at_call 16
            refine ((HF _).out).mono ?_
            rintro e w0 ⟨rfl, rfl⟩
            refine Shut.out HK2.out _ _ hHeld (fun _ => ?_)
            try simp only [List.getElem_toArray, List.getElem_cons_zero, List.getElem_cons_succ, Act.put, List.setIfInBounds_toArray, List.set_cons_zero, List.set_cons_succ]
            clear HK2
            refine wpAnyH_ready (rs := [4]) (by kernel_rfl) (by simp) ?_
            refine AllReadyH.cons rfl (fun K hK => ?_) AllReadyH.nil
            have HK4 := hide hK
            clear hK
            go_simp
            go_at_call 15
            refine ((HR1 _ hC6).out).mono ?_
            rintro e w5 ⟨hc5, O5, oc5, C5, cc5, rfl, hO5⟩
            have hC5 : Below W5.heap.size W5 w5 := hC6.trans (hc5.mono hC6.size)
            clear hHeld
            have hHeld : w5.cell? ⟨w.heap.size, 0, none⟩ = some (.int .i64 regs) ∧ w5.cell? ⟨w.heap.size, 1, none⟩ = some (.slice A l.length cap) := ⟨((bcell hC5).1 _ _ lp).trans p0, ((bcell hC5).1 _ _ lp).trans p1⟩
            refine Shut.out HK4.out _ _ hHeld (fun _ => ?_)
            try simp only [List.getElem_toArray, List.getElem_cons_zero, List.getElem_cons_succ, Act.put, List.setIfInBounds_toArray, List.set_cons_zero, List.set_cons_succ]
            clear HK4
            refine wpAnyH_take (i := 5) (v := ?_) rfl (by kernel_rfl) (by kernel_rfl) (by kernel_rfl) (fun _ _ _ h => h) (Or.inl ⟨by rfl, ?_⟩) hHeld ?_; rotate_left; (focus (intro w' hSw; (try dsimp only at hSw); (try go_split_ands); go_simp; try with_reducible rfl))
            try simp only [List.getElem_toArray, List.getElem_cons_zero, List.getElem_cons_succ, Act.put, List.setIfInBounds_toArray, List.set_cons_zero, List.set_cons_succ]
            refine wpAnyH_take (i := 6) (v := ?_) rfl (by kernel_rfl) (by kernel_rfl) (by kernel_rfl) (fun _ _ _ h => h) (Or.inl ⟨by rfl, ?_⟩) hHeld ?_; rotate_left; (focus (intro w' hSw; (try dsimp only at hSw); (try go_split_ands); go_simp; try with_reducible rfl))
            try simp only [List.getElem_toArray, List.getElem_cons_zero, List.getElem_cons_succ, Act.put, List.setIfInBounds_toArray, List.set_cons_zero, List.set_cons_succ]
            refine wpAnyH_take (i := 7) (v := ?_) rfl (by kernel_rfl) (by kernel_rfl) (by kernel_rfl) (fun _ _ _ h => h) (Or.inl ⟨by rfl, ?_⟩) hHeld ?_; rotate_left; (focus (intro w' hSw; (try dsimp only at hSw); (try go_split_ands); go_simp; try with_reducible rfl))
            try simp only [List.getElem_toArray, List.getElem_cons_zero, List.getElem_cons_succ, Act.put, List.setIfInBounds_toArray, List.set_cons_zero, List.set_cons_succ]
            have hQz := hzV6.below hc5 hzV6.lt
            have rQ := hO5.mono_ (B' := W5.heap.size) (by have := hC6.size; omega)
            have n2 := hO5.ne (g := W5.heap.size) (.inl hzV6.lt)
            have nwb : ¬ (w.heap.size = W5.heap.size) := by have := lp; omega
            have nwb' : ¬ (W5.heap.size = w.heap.size) := fun e => nwb e.symm
            have hfin := ResSt.mk5 (R := R) hQz rQ n2 hC5 (Nat.le_refl _)
            obtain ⟨b, hb⟩ : ∃ b, b = W5.heap.size := ⟨_, rfl⟩
            have hQz : Blk w5 W5.heap.size 44 #[.slice none 0 0, .int .i64 0, .bool false, .int .i64 0, .slice none 0 0] := hQz
            rw [← hb] at hQz hfin nwb nwb'
            try rw [← hb]
            have Hfin := hide hfin
            clear hzV6 hb rQ n2 hfin hO5
            refine wpAnyH_ready (rs := [9]) (by kernel_rfl) (by simp) ?_
            refine AllReadyH.cons rfl (fun K hK => ?_) AllReadyH.nil
            have d0 := hQz.cell 0
            have d1 := hQz.cell 1
            have d2 := hQz.cell 2
            have d3 := hQz.cell 3
            have d4 := hQz.cell 4
            have f0 := hQz.frozen 0
            have f1 := hQz.frozen 1
            have f2 := hQz.frozen 2
            have f3 := hQz.frozen 3
            have f4 := hQz.frozen 4
            simp only [List.getElem?_toArray, List.getElem?_cons_zero, List.getElem?_cons_succ] at d0 d1 d2 d3 d4
            have HK9 := hide hK
            clear hK
            go_simp
            refine Shut.out HK9.out _ _ ?_ (fun hHeld => ?_)
            · (try dsimp only)
              refine And.intro ?_ ?_
              · rw [set5_cell nwb]; exact hHeld.1
              · rw [set5_cell nwb]; exact hHeld.2
            try simp only [List.getElem_toArray, List.getElem_cons_zero, List.getElem_cons_succ, Act.put, List.setIfInBounds_toArray, List.set_cons_zero, List.set_cons_succ]
            clear HK9
            refine wpAnyH_take (i := 10) (v := ?_) rfl (by kernel_rfl) (by kernel_rfl) (by kernel_rfl) (fun _ _ _ h => h) (Or.inl ⟨by rfl, ?_⟩) hHeld ?_; rotate_left; (focus (intro w' hSw; (try dsimp only at hSw); (try go_split_ands); go_simp; try with_reducible rfl))
            try simp only [List.getElem_toArray, List.getElem_cons_zero, List.getElem_cons_succ, Act.put, List.setIfInBounds_toArray, List.set_cons_zero, List.set_cons_succ]
            refine wpAnyH_done (by kernel_rfl) ?_ _
            go_wp2_with fail
            go_meet
            go_tidy
            exact ⟨b, O5, oc5, C5, cc5, rfl, rfl, Hfin.out⟩
        case rest =>
          obtain ⟨wy, rfl⟩ : ∃ wy : World, wy = wc := ⟨_, rfl⟩
          obtain ⟨b1, O1, oc1, C1, cc1, rfl, rfl, hS1⟩ := hcut
          have hQ6 := hQ5.below hS1.below hQ5.lt
          have q0 := hQ6.cell 0
          have q1 := hQ6.cell 1
          have lq := hQ6.lt
          have hz6 := hS1.below.size
          simp only [List.getElem?_toArray, List.getElem?_cons_zero, List.getElem?_cons_succ] at q0 q1
          have HR3 := fun (V : World) (hV : Below wy.heap.size wy V) => HR2 V (hS1.below.trans (hV.mono hz6))
          have hwr : IntKind.i64.wrap ((n' : Int) + 1) = ((n' + 1 : Nat) : Int) := by rw [IntKind.wrap_i64]; omega
          have HS1 := hide hS1
          clear hS1 HR1 HR2 p0 p1 lp hP5 hQ5
          go_upto_region 17 with fail
          go_cut [19, 20] (fun s19 s20 wz => ∃ (b : Nat) (O : Option Addr) (oc : Nat) (C : Option Addr) (cc : Nat), s19 = .pointer (some ⟨b, 0, none⟩) ∧ s20 = .int .i64 0 ∧ ResSt 3 73 44 wy b O oc C cc Q wz)
          case first =>
            refine wp_region_held_drew (S := fun w' => w'.cell? ⟨bq, 0, none⟩ = some (.int .i64 regs) ∧ w'.cell? ⟨bq, 1, none⟩ = some (.slice (some ⟨g', 0, none⟩) (l.length + 1) cq')) (by kernel_rfl) ⟨q0, q1⟩ ?_
            intro hHeld
            have hC0 : Below wy.heap.size wy wy.drew := (Below.refl _ _).drew
            refine wpAnyH_take (i := 0) (v := ?_) rfl (by kernel_rfl) (by kernel_rfl) (by kernel_rfl) (fun _ _ _ h => h) (Or.inl ⟨by rfl, ?_⟩) hHeld ?_; rotate_left; (focus (intro w' hSw; (try dsimp only at hSw); (try go_split_ands); go_simp; try with_reducible rfl))
            try simp only [List.getElem_toArray, List.getElem_cons_zero, List.getElem_cons_succ, Act.put, List.setIfInBounds_toArray, List.set_cons_zero, List.set_cons_succ]
            refine wpAnyH_take (i := 1) (v := ?_) rfl (by kernel_rfl) (by kernel_rfl) (by kernel_rfl) (fun _ _ _ h => h) (Or.inl ⟨by rfl, ?_⟩) hHeld ?_; rotate_left; (focus (intro w' hSw; (try dsimp only at hSw); (try go_split_ands); go_simp; try with_reducible rfl))
            try simp only [List.getElem_toArray, List.getElem_cons_zero, List.getElem_cons_succ, Act.put, List.setIfInBounds_toArray, List.set_cons_zero, List.set_cons_succ]
            refine wpAnyH_take (i := 3) (v := ?_) rfl (by kernel_rfl) (by kernel_rfl) (by kernel_rfl) (fun _ _ _ h => h) (Or.inl ⟨by rfl, ?_⟩) hHeld ?_; rotate_left; (focus (intro w' hSw; (try dsimp only at hSw); (try go_split_ands); go_simp; try with_reducible rfl))
            try simp only [List.getElem_toArray, List.getElem_cons_zero, List.getElem_cons_succ, Act.put, List.setIfInBounds_toArray, List.set_cons_zero, List.set_cons_succ]
            refine wpAnyH_take (i := 4) (v := ?_) rfl (by kernel_rfl) (by kernel_rfl) (by kernel_rfl) (fun _ _ _ h => h) (Or.inl ⟨by rfl, ?_⟩) hHeld ?_; rotate_left; (focus (intro w' hSw; (try dsimp only at hSw); (try go_split_ands); go_simp; try with_reducible rfl))
            try simp only [List.getElem_toArray, List.getElem_cons_zero, List.getElem_cons_succ, Act.put, List.setIfInBounds_toArray, List.set_cons_zero, List.set_cons_succ]
            refine wpAnyH_ready (rs := [2, 9]) (by kernel_rfl) (by simp) ?_
            refine AllReadyH.cons rfl (fun K hK => ?_) (AllReadyH.cons rfl (fun K hK => ?_) AllReadyH.nil)
            · have HK2 := hide hK
              clear hK
              go_simp
              go_at_call 16
              refine ((HF _).out).mono ?_
              rintro e w0 ⟨rfl, rfl⟩
              refine Shut.out HK2.out _ _ hHeld (fun _ => ?_)
              try simp only [List.getElem_toArray, List.getElem_cons_zero, List.getElem_cons_succ, Act.put, List.setIfInBounds_toArray, List.set_cons_zero, List.set_cons_succ]
              clear HK2
              refine wpAnyH_ready (rs := [5, 9]) (by kernel_rfl) (by simp) ?_
              refine AllReadyH.cons rfl (fun K hK => ?_) (AllReadyH.cons rfl (fun K hK => ?_) AllReadyH.nil)
              · have HK5 := hide hK
                clear hK
                go_simp
                go_at_call 15
                refine ((HR3 _ hC0).out).mono ?_
                rintro e w5 ⟨hc5, O5, oc5, C5, cc5, rfl, hO5⟩
                have hC5 : Below wy.heap.size wy w5 := hC0.trans (hc5.mono hC0.size)
                clear hHeld
                have hHeld : w5.cell? ⟨bq, 0, none⟩ = some (.int .i64 regs) ∧ w5.cell? ⟨bq, 1, none⟩ = some (.slice (some ⟨g', 0, none⟩) (l.length + 1) cq') := ⟨((bcell hC5).1 _ _ lq).trans q0, ((bcell hC5).1 _ _ lq).trans q1⟩
                refine Shut.out HK5.out _ _ hHeld (fun _ => ?_)
                try simp only [List.getElem_toArray, List.getElem_cons_zero, List.getElem_cons_succ, Act.put, List.setIfInBounds_toArray, List.set_cons_zero, List.set_cons_succ]
                clear HK5
                refine wpAnyH_take (i := 6) (v := ?_) rfl (by kernel_rfl) (by kernel_rfl) (by kernel_rfl) (fun _ _ _ h => h) (Or.inl ⟨by rfl, ?_⟩) hHeld ?_; rotate_left; (focus (intro w' hSw; (try dsimp only at hSw); (try go_split_ands); go_simp; try with_reducible rfl))
                try simp only [List.getElem_toArray, List.getElem_cons_zero, List.getElem_cons_succ, Act.put, List.setIfInBounds_toArray, List.set_cons_zero, List.set_cons_succ]
                refine wpAnyH_take (i := 7) (v := ?_) rfl (by kernel_rfl) (by kernel_rfl) (by kernel_rfl) (fun _ _ _ h => h) (Or.inl ⟨by rfl, ?_⟩) hHeld ?_; rotate_left; (focus (intro w' hSw; (try dsimp only at hSw); (try go_split_ands); go_simp; try with_reducible rfl))
                try simp only [List.getElem_toArray, List.getElem_cons_zero, List.getElem_cons_succ, Act.put, List.setIfInBounds_toArray, List.set_cons_zero, List.set_cons_succ]
                refine wpAnyH_take (i := 8) (v := ?_) rfl (by kernel_rfl) (by kernel_rfl) (by kernel_rfl) (fun _ _ _ h => h) (Or.inl ⟨by rfl, ?_⟩) hHeld ?_; rotate_left; (focus (intro w' hSw; (try dsimp only at hSw); (try go_split_ands); go_simp; try with_reducible rfl))
                try simp only [List.getElem_toArray, List.getElem_cons_zero, List.getElem_cons_succ, Act.put, List.setIfInBounds_toArray, List.set_cons_zero, List.set_cons_succ]
                refine wpAnyH_ready (rs := [9]) (by kernel_rfl) (by simp) ?_
                refine AllReadyH.cons rfl (fun K hK => ?_) AllReadyH.nil
                have HK9 := hide hK
                clear hK
                go_simp
                obtain ⟨V6, hV6⟩ : ∃ V : World, V = (w5).alloc (.cells #[.slice none 0 0, .int .i64 0, .bool false, .int .i64 0, .slice none 0 0] 44) := ⟨_, rfl⟩
                rw [← hV6]
                have hC6 : Below wy.heap.size wy V6 := by rw [hV6]; exact Below.alloc hC5 hC5.size _
                have hzV6 : Blk V6 (w5).heap.size 44 #[.slice none 0 0, .int .i64 0, .bool false, .int .i64 0, .slice none 0 0] := by rw [hV6]; exact Blk.new' rfl
                have hbV6 : Below (w5).heap.size (w5) V6 := by rw [hV6]; exact (Below.refl _ _).alloc (Nat.le_refl _) _
                clear hHeld hV6
                have hHeld : V6.cell? ⟨bq, 0, none⟩ = some (.int .i64 regs) ∧ V6.cell? ⟨bq, 1, none⟩ = some (.slice (some ⟨g', 0, none⟩) (l.length + 1) cq') := ⟨((bcell hC6).1 _ _ lq).trans q0, ((bcell hC6).1 _ _ lq).trans q1⟩
                refine Shut.out HK9.out _ _ hHeld (fun _ => ?_)
                try simp only [List.getElem_toArray, List.getElem_cons_zero, List.getElem_cons_succ, Act.put, List.setIfInBounds_toArray, List.set_cons_zero, List.set_cons_succ]
                clear HK9
                have hQz := hzV6
                have rQ := (hO5.mono_ (B' := wy.heap.size) (by have := hC0.size; omega)).below hbV6
                have n2 := hO5.ne (g := w5.heap.size) (.inr (Nat.le_refl _))
                have hwb : wy.heap.size ≤ w5.heap.size := hC5.size
                have nwb : ¬ (bq = w5.heap.size) := by have := hC5.size; have := lq; omega
                have nwb' : ¬ (w5.heap.size = bq) := fun e => nwb e.symm
                have hfin := ResSt.mk5 (R := Q) hQz rQ n2 hC6 hwb
                obtain ⟨b, hb⟩ : ∃ b, b = w5.heap.size := ⟨_, rfl⟩
                rw [← hb] at hQz hfin nwb nwb' ⊢
                have Hfin := hide hfin
                clear hzV6 hb hbV6 rQ n2 hfin hO5
                refine wpAnyH_ready (rs := [10]) (by kernel_rfl) (by simp) ?_
                refine AllReadyH.cons rfl (fun K hK => ?_) AllReadyH.nil
                have d0 := hQz.cell 0
                have d1 := hQz.cell 1
                have d2 := hQz.cell 2
                have d3 := hQz.cell 3
                have d4 := hQz.cell 4
                have f0 := hQz.frozen 0
                have f1 := hQz.frozen 1
                have f2 := hQz.frozen 2
                have f3 := hQz.frozen 3
                have f4 := hQz.frozen 4
                simp only [List.getElem?_toArray, List.getElem?_cons_zero, List.getElem?_cons_succ] at d0 d1 d2 d3 d4
                have HK10 := hide hK
                clear hK
                go_simp
                refine Shut.out HK10.out _ _ ?_ (fun hHeld => ?_)
                · (try dsimp only)
                  refine And.intro ?_ ?_
                  · rw [set5_cell nwb]; exact hHeld.1
                  · rw [set5_cell nwb]; exact hHeld.2
                try simp only [List.getElem_toArray, List.getElem_cons_zero, List.getElem_cons_succ, Act.put, List.setIfInBounds_toArray, List.set_cons_zero, List.set_cons_succ]
                clear HK10
                refine wpAnyH_take (i := 11) (v := ?_) rfl (by kernel_rfl) (by kernel_rfl) (by kernel_rfl) (fun _ _ _ h => h) (Or.inl ⟨by rfl, ?_⟩) hHeld ?_; rotate_left; (focus (intro w' hSw; (try dsimp only at hSw); (try go_split_ands); go_simp; try with_reducible rfl))
                try simp only [List.getElem_toArray, List.getElem_cons_zero, List.getElem_cons_succ, Act.put, List.setIfInBounds_toArray, List.set_cons_zero, List.set_cons_succ]
                refine wpAnyH_done (by kernel_rfl) ?_ _
                go_wp2_with fail
                go_meet
                go_tidy
                exact ⟨b, O5, oc5, C5, cc5, rfl, rfl, Hfin.out⟩
              · have HK9 := hide hK
                clear hK
                go_simp
                obtain ⟨V6, hV6⟩ : ∃ V : World, V = (wy.alloc (.cells #[.slice none 0 0, .int .i64 0, .bool false, .int .i64 0, .slice none 0 0] 44)).drew := ⟨_, rfl⟩
                rw [← hV6]
                have hC6 : Below wy.heap.size wy V6 := by rw [hV6]; exact Below.drew ((Below.refl _ _).alloc (Nat.le_refl _) _)
                have hzV6 : Blk V6 wy.heap.size 44 #[.slice none 0 0, .int .i64 0, .bool false, .int .i64 0, .slice none 0 0] := by rw [hV6]; exact (Blk.new' rfl).drew
                clear hHeld hV6
                have hHeld : V6.cell? ⟨bq, 0, none⟩ = some (.int .i64 regs) ∧ V6.cell? ⟨bq, 1, none⟩ = some (.slice (some ⟨g', 0, none⟩) (l.length + 1) cq') := ⟨((bcell hC6).1 _ _ lq).trans q0, ((bcell hC6).1 _ _ lq).trans q1⟩
                refine Shut.out HK9.out _ _ hHeld (fun _ => ?_)
                try simp only [List.getElem_toArray, List.getElem_cons_zero, List.getElem_cons_succ, Act.put, List.setIfInBounds_toArray, List.set_cons_zero, List.set_cons_succ]
                clear HK9
                refine wpAnyH_ready (rs := [5]) (by kernel_rfl) (by simp) ?_
                refine AllReadyH.cons rfl (fun K hK => ?_) AllReadyH.nil
                have HK5 := hide hK
                clear hK
                go_simp
                go_at_call 15
                refine ((HR3 _ hC6).out).mono ?_
                rintro e w5 ⟨hc5, O5, oc5, C5, cc5, rfl, hO5⟩
                have hC5 : Below wy.heap.size wy w5 := hC6.trans (hc5.mono hC6.size)
                clear hHeld
                have hHeld : w5.cell? ⟨bq, 0, none⟩ = some (.int .i64 regs) ∧ w5.cell? ⟨bq, 1, none⟩ = some (.slice (some ⟨g', 0, none⟩) (l.length + 1) cq') := ⟨((bcell hC5).1 _ _ lq).trans q0, ((bcell hC5).1 _ _ lq).trans q1⟩
                refine Shut.out HK5.out _ _ hHeld (fun _ => ?_)
                try simp only [List.getElem_toArray, List.getElem_cons_zero, List.getElem_cons_succ, Act.put, List.setIfInBounds_toArray, List.set_cons_zero, List.set_cons_succ]
                clear HK5
                refine wpAnyH_take (i := 6) (v := ?_) rfl (by kernel_rfl) (by kernel_rfl) (by kernel_rfl) (fun _ _ _ h => h) (Or.inl ⟨by rfl, ?_⟩) hHeld ?_; rotate_left; (focus (intro w' hSw; (try dsimp only at hSw); (try go_split_ands); go_simp; try with_reducible rfl))
                try simp only [List.getElem_toArray, List.getElem_cons_zero, List.getElem_cons_succ, Act.put, List.setIfInBounds_toArray, List.set_cons_zero, List.set_cons_succ]
                refine wpAnyH_take (i := 7) (v := ?_) rfl (by kernel_rfl) (by kernel_rfl) (by kernel_rfl) (fun _ _ _ h => h) (Or.inl ⟨by rfl, ?_⟩) hHeld ?_; rotate_left; (focus (intro w' hSw; (try dsimp only at hSw); (try go_split_ands); go_simp; try with_reducible rfl))
                try simp only [List.getElem_toArray, List.getElem_cons_zero, List.getElem_cons_succ, Act.put, List.setIfInBounds_toArray, List.set_cons_zero, List.set_cons_succ]
                refine wpAnyH_take (i := 8) (v := ?_) rfl (by kernel_rfl) (by kernel_rfl) (by kernel_rfl) (fun _ _ _ h => h) (Or.inl ⟨by rfl, ?_⟩) hHeld ?_; rotate_left; (focus (intro w' hSw; (try dsimp only at hSw); (try go_split_ands); go_simp; try with_reducible rfl))
                try simp only [List.getElem_toArray, List.getElem_cons_zero, List.getElem_cons_succ, Act.put, List.setIfInBounds_toArray, List.set_cons_zero, List.set_cons_succ]
                have hQz := hzV6.below hc5 hzV6.lt
                have rQ := hO5.mono_ (B' := wy.heap.size) (by have := hC6.size; omega)
                have n2 := hO5.ne (g := wy.heap.size) (.inl hzV6.lt)
                have nwb : ¬ (bq = wy.heap.size) := by have := lq; omega
                have nwb' : ¬ (wy.heap.size = bq) := fun e => nwb e.symm
                have hfin := ResSt.mk5 (R := Q) hQz rQ n2 hC5 (Nat.le_refl _)
                obtain ⟨b, hb⟩ : ∃ b, b = wy.heap.size := ⟨_, rfl⟩
                have hQz : Blk w5 wy.heap.size 44 #[.slice none 0 0, .int .i64 0, .bool false, .int .i64 0, .slice none 0 0] := hQz
                rw [← hb] at hQz hfin nwb nwb'
                try rw [← hb]
                have Hfin := hide hfin
                clear hzV6 hb rQ n2 hfin hO5
                refine wpAnyH_ready (rs := [10]) (by kernel_rfl) (by simp) ?_
                refine AllReadyH.cons rfl (fun K hK => ?_) AllReadyH.nil
                have d0 := hQz.cell 0
                have d1 := hQz.cell 1
                have d2 := hQz.cell 2
                have d3 := hQz.cell 3
                have d4 := hQz.cell 4
                have f0 := hQz.frozen 0
                have f1 := hQz.frozen 1
                have f2 := hQz.frozen 2
                have f3 := hQz.frozen 3
                have f4 := hQz.frozen 4
                simp only [List.getElem?_toArray, List.getElem?_cons_zero, List.getElem?_cons_succ] at d0 d1 d2 d3 d4
                have HK10 := hide hK
                clear hK
                go_simp
                refine Shut.out HK10.out _ _ ?_ (fun hHeld => ?_)
                · (try dsimp only)
                  refine And.intro ?_ ?_
                  · rw [set5_cell nwb]; exact hHeld.1
                  · rw [set5_cell nwb]; exact hHeld.2
                try simp only [List.getElem_toArray, List.getElem_cons_zero, List.getElem_cons_succ, Act.put, List.setIfInBounds_toArray, List.set_cons_zero, List.set_cons_succ]
                clear HK10
                refine wpAnyH_take (i := 11) (v := ?_) rfl (by kernel_rfl) (by kernel_rfl) (by kernel_rfl) (fun _ _ _ h => h) (Or.inl ⟨by rfl, ?_⟩) hHeld ?_; rotate_left; (focus (intro w' hSw; (try dsimp only at hSw); (try go_split_ands); go_simp; try with_reducible rfl))
                try simp only [List.getElem_toArray, List.getElem_cons_zero, List.getElem_cons_succ, Act.put, List.setIfInBounds_toArray, List.set_cons_zero, List.set_cons_succ]
                refine wpAnyH_done (by kernel_rfl) ?_ _
                go_wp2_with fail
                go_meet
                go_tidy
                exact ⟨b, O5, oc5, C5, cc5, rfl, rfl, Hfin.out⟩
            · have HK9 := hide hK
              clear hK
              go_simp
              obtain ⟨V6, hV6⟩ : ∃ V : World, V = (wy.alloc (.cells #[.slice none 0 0, .int .i64 0, .bool false, .int .i64 0, .slice none 0 0] 44)).drew := ⟨_, rfl⟩
              rw [← hV6]
              have hC6 : Below wy.heap.size wy V6 := by rw [hV6]; exact Below.drew ((Below.refl _ _).alloc (Nat.le_refl _) _)
              have hzV6 : Blk V6 wy.heap.size 44 #[.slice none 0 0, .int .i64 0, .bool false, .int .i64 0, .slice none 0 0] := by rw [hV6]; exact (Blk.new' rfl).drew
              clear hHeld hV6
              have hHeld : V6.cell? ⟨bq, 0, none⟩ = some (.int .i64 regs) ∧ V6.cell? ⟨bq, 1, none⟩ = some (.slice (some ⟨g', 0, none⟩) (l.length + 1) cq') := ⟨((bcell hC6).1 _ _ lq).trans q0, ((bcell hC6).1 _ _ lq).trans q1⟩
              refine Shut.out HK9.out _ _ hHeld (fun _ => ?_)
              try simp only [List.getElem_toArray, List.getElem_cons_zero, List.getElem_cons_succ, Act.put, List.setIfInBounds_toArray, List.set_cons_zero, List.set_cons_succ]
              clear HK9
              refine wpAnyH_ready (rs := [2]) (by kernel_rfl) (by simp) ?_
              refine AllReadyH.cons rfl (fun K hK => ?_) AllReadyH.nil
              have HK2 := hide hK
              clear hK
              go_simp
              go_at_call 16
              refine ((HF _).out).mono ?_
              rintro e w0 ⟨rfl, rfl⟩
              refine Shut.out HK2.out _ _ hHeld (fun _ => ?_)
              try simp only [List.getElem_toArray, List.getElem_cons_zero, List.getElem_cons_succ, Act.put, List.setIfInBounds_toArray, List.set_cons_zero, List.set_cons_succ]
              clear HK2
              refine wpAnyH_ready (rs := [5]) (by kernel_rfl) (by simp) ?_
              refine AllReadyH.cons rfl (fun K hK => ?_) AllReadyH.nil
              have HK5 := hide hK
              clear hK
              go_simp
              go_at_call 15
              refine ((HR3 _ hC6).out).mono ?_
              rintro e w5 ⟨hc5, O5, oc5, C5, cc5, rfl, hO5⟩
              have hC5 : Below wy.heap.size wy w5 := hC6.trans (hc5.mono hC6.size)
              clear hHeld
              have hHeld : w5.cell? ⟨bq, 0, none⟩ = some (.int .i64 regs) ∧ w5.cell? ⟨bq, 1, none⟩ = some (.slice (some ⟨g', 0, none⟩) (l.length + 1) cq') := ⟨((bcell hC5).1 _ _ lq).trans q0, ((bcell hC5).1 _ _ lq).trans q1⟩
              refine Shut.out HK5.out _ _ hHeld (fun _ => ?_)
              try simp only [List.getElem_toArray, List.getElem_cons_zero, List.getElem_cons_succ, Act.put, List.setIfInBounds_toArray, List.set_cons_zero, List.set_cons_succ]
              clear HK5
              refine wpAnyH_take (i := 6) (v := ?_) rfl (by kernel_rfl) (by kernel_rfl) (by kernel_rfl) (fun _ _ _ h => h) (Or.inl ⟨by rfl, ?_⟩) hHeld ?_; rotate_left; (focus (intro w' hSw; (try dsimp only at hSw); (try go_split_ands); go_simp; try with_reducible rfl))
              try simp only [List.getElem_toArray, List.getElem_cons_zero, List.getElem_cons_succ, Act.put, List.setIfInBounds_toArray, List.set_cons_zero, List.set_cons_succ]
              refine wpAnyH_take (i := 7) (v := ?_) rfl (by kernel_rfl) (by kernel_rfl) (by kernel_rfl) (fun _ _ _ h => h) (Or.inl ⟨by rfl, ?_⟩) hHeld ?_; rotate_left; (focus (intro w' hSw; (try dsimp only at hSw); (try go_split_ands); go_simp; try with_reducible rfl))
              try simp only [List.getElem_toArray, List.getElem_cons_zero, List.getElem_cons_succ, Act.put, List.setIfInBounds_toArray, List.set_cons_zero, List.set_cons_succ]
              refine wpAnyH_take (i := 8) (v := ?_) rfl (by kernel_rfl) (by kernel_rfl) (by kernel_rfl) (fun _ _ _ h => h) (Or.inl ⟨by rfl, ?_⟩) hHeld ?_; rotate_left; (focus (intro w' hSw; (try dsimp only at hSw); (try go_split_ands); go_simp; try with_reducible rfl))
              try simp only [List.getElem_toArray, List.getElem_cons_zero, List.getElem_cons_succ, Act.put, List.setIfInBounds_toArray, List.set_cons_zero, List.set_cons_succ]
              have hQz := hzV6.below hc5 hzV6.lt
              have rQ := hO5.mono_ (B' := wy.heap.size) (by have := hC6.size; omega)
              have n2 := hO5.ne (g := wy.heap.size) (.inl hzV6.lt)
              have nwb : ¬ (bq = wy.heap.size) := by have := lq; omega
              have nwb' : ¬ (wy.heap.size = bq) := fun e => nwb e.symm
              have hfin := ResSt.mk5 (R := Q) hQz rQ n2 hC5 (Nat.le_refl _)
              obtain ⟨b, hb⟩ : ∃ b, b = wy.heap.size := ⟨_, rfl⟩
              have hQz : Blk w5 wy.heap.size 44 #[.slice none 0 0, .int .i64 0, .bool false, .int .i64 0, .slice none 0 0] := hQz
              rw [← hb] at hQz hfin nwb nwb'
              try rw [← hb]
              have Hfin := hide hfin
              clear hzV6 hb rQ n2 hfin hO5
              refine wpAnyH_ready (rs := [10]) (by kernel_rfl) (by simp) ?_
              refine AllReadyH.cons rfl (fun K hK => ?_) AllReadyH.nil
              have d0 := hQz.cell 0
              have d1 := hQz.cell 1
              have d2 := hQz.cell 2
              have d3 := hQz.cell 3
              have d4 := hQz.cell 4
              have f0 := hQz.frozen 0
              have f1 := hQz.frozen 1
              have f2 := hQz.frozen 2
              have f3 := hQz.frozen 3
              have f4 := hQz.frozen 4
              simp only [List.getElem?_toArray, List.getElem?_cons_zero, List.getElem?_cons_succ] at d0 d1 d2 d3 d4
              have HK10 := hide hK
              clear hK
              go_simp
              refine Shut.out HK10.out _ _ ?_ (fun hHeld => ?_)
              · (try dsimp only)
                refine And.intro ?_ ?_
                · rw [set5_cell nwb]; exact hHeld.1
                · rw [set5_cell nwb]; exact hHeld.2
              try simp only [List.getElem_toArray, List.getElem_cons_zero, List.getElem_cons_succ, Act.put, List.setIfInBounds_toArray, List.set_cons_zero, List.set_cons_succ]
              clear HK10
              refine wpAnyH_take (i := 11) (v := ?_) rfl (by kernel_rfl) (by kernel_rfl) (by kernel_rfl) (fun _ _ _ h => h) (Or.inl ⟨by rfl, ?_⟩) hHeld ?_; rotate_left; (focus (intro w' hSw; (try dsimp only at hSw); (try go_split_ands); go_simp; try with_reducible rfl))
              try simp only [List.getElem_toArray, List.getElem_cons_zero, List.getElem_cons_succ, Act.put, List.setIfInBounds_toArray, List.set_cons_zero, List.set_cons_succ]
              refine wpAnyH_done (by kernel_rfl) ?_ _
              go_wp2_with fail
              go_meet
              go_tidy
              exact ⟨b, O5, oc5, C5, cc5, rfl, rfl, Hfin.out⟩
          case rest =>
            obtain ⟨wz, rfl⟩ : ∃ wz : World, wz = wc := ⟨_, rfl⟩
            obtain ⟨b2, O2, oc2, C2, cc2, rfl, rfl, hS2⟩ := hcut
            have hB7 : Below w.heap.size w wz := hB5.trans ((HS1.out.below.trans (hS2.below.mono hz6)).mono hz5)
            have hS1 := HS1.out.later hS2.below
            clear HS1 HR3 q0 q1 lq hQ6
            go_wp2_with fail
            refine (HB.out _ hB7).mono ?_
            rintro e Y ⟨rfl, hbY⟩
            have hz7 := hB7.size
            have hM1 := hS1.later hbY
            have hM2 := hS2.later hbY
            have hBY := hB7.trans (hbY.mono hz7)
            have hQ := HQ.out
            clear HQ
            subst hQ
            have b0 := hM1.box.cell 0
            have b1' := hM1.box.cell 1
            have b2' := hM1.box.cell 2
            have b4 := hM1.box.cell 4
            have d0 := hM2.box.cell 0
            have d1 := hM2.box.cell 1
            have d2 := hM2.box.cell 2
            have d4 := hM2.box.cell 4
            simp only [List.getElem?_toArray, List.getElem?_cons_zero, List.getElem?_cons_succ] at b0 b1' b2' b4 d0 d1 d2 d4
            obtain ⟨l1, l2⟩ := hM1.row.lens
            have HS := hide (SameInts_any O1 O2 oc1 oc2 R.out R.out Y hM1.row.out.vals hM2.row.out.vals l1 l1)
            have HC := fun n => hide (SameCounts_any C1 C2 cc1 cc2 R.cts R.cts (Y.drewN n) (hM1.row.cts.nodes) (hM2.row.cts.nodes) l2 l2)
            have r1 : (R.ended == R.ended) = true := beq_self_eq_true _
            have r2 : (R.ret == R.ret) = true := beq_self_eq_true _
            clear hM1 hM2 hS1 hS2 hbY
            go_wp2_with fail
            refine (HS.out).mono ?_
            rintro e Z ⟨rfl, d, rfl⟩
            rw [beq_self_eq_true]
            go_wp2_with fail
            refine ((HC _).out).mono ?_
            rintro e Z ⟨rfl, d', rfl⟩
            rw [beq_self_eq_true]
            go_wp2_with fail
            go_ret
            exact ⟨rfl, below_drewN hBY _⟩
end Go.Proofs.YtmghkonmfbpjcaaDoor
