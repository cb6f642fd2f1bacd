/- The laws of the text. -/
import Derived.Test.YtmghkonmfbpjcabDoorTxZ
import Derived.Test.YtmghkonmfbpjcabDoorCheck2
import Derived.Test.YtmghkonmfbpjcabDoorCheckP
namespace Go.Proofs.YtmghkonmfbpjcabDoor
set_option linter.unusedVariables false
set_option linter.unusedSimpArgs false
open Go.RowKit
set_option maxHeartbeats 16000000
open Go.Lib

set_option maxRecDepth 100000 in
theorem TextShows_any (regs : Int) (A : Option Addr) (l : List Nd) (cap : Nat) (s : List UInt8) (w : World) (hA : NodesAt w A l) (hl : l.length ≤ maxLen) (hf : Fit l) (hs : s.length ≤ 4294967280) (hT : Tv w) :
    Calls Tryd.prog 4 #[.agg #[.int .i64 regs, .slice A l.length cap], strB s] w fun e w' => e = .returned (.bool true) ∧ Below w.heap.size w w' := by
  by_cases hc : chk regs l = 0
  · obtain ⟨hm1, hm256, hr1, hr64, hmo⟩ := chk_small hc
    have hSh := fun W (hb : Below w.heap.size w W) => hide (Show_ok regs A l cap W hl (hA.below hb) hc (hT.below hb) hf)
    have hCk := fun W (hb : Below w.heap.size w W) => hide (CheckProg_any regs A l cap W (hA.below hb))
    rw [hc] at hCk
    have hPt := fun W (hb : Below w.heap.size w W) => hide (ProgText_any regs A l cap W (hA.below hb) hm256 ⟨by omega, by omega⟩ hmo hf)
    have hB0 : Below w.heap.size w (w.alloc (.cells #[.int .i64 regs, .slice A l.length cap] 24)) := (Below.refl _ _).alloc (Nat.le_refl _) _
    have hP0 := Blk.new w 24 #[.int .i64 regs, .slice A l.length cap]
    clear hc hmo
    go_enter Tryd.func4, Tryd.ntmps4
    go_wp2_with fail
    refine Calls.mono (hSh _ hB0).out ?_
    rintro e w1 ⟨rfl, hb1⟩
    have hB1 := hB0.trans (hb1.mono hB0.size)
    have hP1 := hP0.below hb1 hP0.lt
    have p0 := hP1.cell 0
    have p1 := hP1.cell 1
    simp only [List.getElem?_toArray, List.getElem?_cons_zero, List.getElem?_cons_succ] at p0 p1
    clear hP0 hb1 hSh hB0
    go_wp2_with fail
    refine Calls.mono (hCk _ hB1).out ?_
    rintro e w2 ⟨rfl, hb2⟩
    have hB2 := hB1.trans (hb2.mono hB1.size)
    have hP2 := hP1.below hb2 hP1.lt
    have p0 := hP2.cell 0
    have p1 := hP2.cell 1
    simp only [List.getElem?_toArray, List.getElem?_cons_zero, List.getElem?_cons_succ] at p0 p1
    clear hb2 hCk hP1 hB1
    go_wp2_with fail
    refine Calls.mono (hPt _ hB2).out ?_
    rintro e w3 ⟨rfl, hb3⟩
    have hBa := hB2.trans (hb3.mono hB2.size)
    clear hb3 hPt hB2 hP2 p0 p1
    generalize showL regs l = sh at *
    have hRd := hide (Read_any s hs _ (hT.below hBa))
    go_wp2_with fail
    refine Calls.mono hRd.out ?_
    rintro e w4 ⟨rq, lq, vq, okq, rfl, hNq, hb4, hgq⟩
    obtain ⟨Aq, cq, rfl, hq1, hq2⟩ := hNq.shape
    have hB4 := hBa.trans (hb4.mono hBa.size)
    clear hRd hb4
    have hPf := hide (ProgFrom_any s hs (w4.alloc (.cells #[.int .i64 rq, .slice Aq lq.length cq] 24)))
    have hQ5 := Blk.new w4 24 #[.int .i64 rq, .slice Aq lq.length cq]
    have hNq5 := hNq.alloc (.cells #[.int .i64 rq, .slice Aq lq.length cq] 24)
    have hB5 := hB4.alloc hB4.size (.cells #[.int .i64 rq, .slice Aq lq.length cq] 24)
    have hTb := fun W (hb : Below w.heap.size w W) => hide (textBegun_any W (hT.below hb))
    have Hgq := hide hgq
    clear hgq hNq hB4
    cases okq with
    | true =>
      rw [if_pos rfl]
      go_wp2_with fail
      refine Calls.mono hPf.out ?_
      rintro e w6 ⟨rx, lx, vx, okx, rfl, hNx, hb6, hgx⟩
      obtain ⟨Ax, cx, rfl, hx1, hx2⟩ := hNx.shape
      obtain ⟨h1, h2, h3⟩ := Hgq.out.same hgx
      subst h1 h2 h3
      have hQ6 := hQ5.below hb6 hQ5.lt
      have hNq6 := hNq5.below' hb6
      have hB6 := hB5.trans (hb6.mono hB5.size)
      clear hPf hQ5 hNq5 hB5 hb6 hgx
      have hX7 := Blk.new w6 24 #[.int .i64 rq, .slice Ax lq.length cx]
      have hQ7 := hQ6.alloc (.cells #[.int .i64 rq, .slice Ax lq.length cx] 24)
      have hNq7 := hNq6.alloc (.cells #[.int .i64 rq, .slice Ax lq.length cx] 24)
      have hNx7 := hNx.alloc (.cells #[.int .i64 rq, .slice Ax lq.length cx] 24)
      have hB7 := hB6.alloc hB6.size (.cells #[.int .i64 rq, .slice Ax lq.length cx] 24)
      clear hQ6 hNq6 hB6 hNx
      go_wp2_with fail
      refine Calls.mono (hTb _ hB7).out ?_
      rintro e w8 ⟨rfl, hb8⟩
      have hQ8 := hQ7.below hb8 hQ7.lt
      have hX8 := hX7.below hb8 hX7.lt
      have hSm := hide (SameProgs_any rq rq Aq Ax lq lq cq cx w8 (hNq7.below' hb8).nodes (hNx7.below' hb8).nodes (by omega) (by omega))
      have hB8 := hB7.trans (hb8.mono hB7.size)
      have q0 := hQ8.cell 0
      have q1 := hQ8.cell 1
      have x0 := hX8.cell 0
      have x1 := hX8.cell 1
      simp only [List.getElem?_toArray, List.getElem?_cons_zero, List.getElem?_cons_succ] at q0 q1 x0 x1
      clear hQ7 hX7 hNq7 hNx7 hb8 hB7 hTb
      go_wp2_with fail
      refine Calls.mono hSm.out ?_
      rintro e w9 ⟨rfl, hb9⟩
      have hB9 := hB8.trans (hb9.mono hB8.size)
      go_wp2_with fail
      go_ret
      exact ⟨by simp, hB9⟩
    | false =>
      rw [if_neg (by simp)]
      go_wp2_with fail
      refine Calls.mono hPf.out ?_
      rintro e w6 ⟨rx, lx, vx, okx, rfl, hNx, hb6, hgx⟩
      obtain ⟨Ax, cx, rfl, hx1, hx2⟩ := hNx.shape
      obtain ⟨h1, h2, h3⟩ := Hgq.out.same hgx
      subst h1 h2 h3
      have hQ6 := hQ5.below hb6 hQ5.lt
      have hNq6 := hNq5.below' hb6
      have hB6 := hB5.trans (hb6.mono hB5.size)
      clear hPf hQ5 hNq5 hB5 hb6 hgx
      have hX7 := Blk.new w6 24 #[.int .i64 rq, .slice Ax lq.length cx]
      have hQ7 := hQ6.alloc (.cells #[.int .i64 rq, .slice Ax lq.length cx] 24)
      have hNq7 := hNq6.alloc (.cells #[.int .i64 rq, .slice Ax lq.length cx] 24)
      have hNx7 := hNx.alloc (.cells #[.int .i64 rq, .slice Ax lq.length cx] 24)
      have hB7 := hB6.alloc hB6.size (.cells #[.int .i64 rq, .slice Ax lq.length cx] 24)
      clear hQ6 hNq6 hB6 hNx
      go_wp2_with fail
      refine Calls.mono (hTb _ hB7).out ?_
      rintro e w8 ⟨rfl, hb8⟩
      have hQ8 := hQ7.below hb8 hQ7.lt
      have hX8 := hX7.below hb8 hX7.lt
      have hSm := hide (SameProgs_any rq rq Aq Ax lq lq cq cx w8 (hNq7.below' hb8).nodes (hNx7.below' hb8).nodes (by omega) (by omega))
      have hB8 := hB7.trans (hb8.mono hB7.size)
      have q0 := hQ8.cell 0
      have q1 := hQ8.cell 1
      have x0 := hX8.cell 0
      have x1 := hX8.cell 1
      simp only [List.getElem?_toArray, List.getElem?_cons_zero, List.getElem?_cons_succ] at q0 q1 x0 x1
      clear hQ7 hX7 hNq7 hNx7 hb8 hB7 hTb
      go_wp2_with fail
      refine Calls.mono hSm.out ?_
      rintro e w9 ⟨rfl, hb9⟩
      have hB9 := hB8.trans (hb9.mono hB8.size)
      go_wp2_with fail
      go_ret
      exact ⟨by simp, hB9⟩
  · have hSh := fun W (hb : Below w.heap.size w W) => hide (Show_bad regs A l cap W hl (hA.below hb) hc)
    have hCk := fun W (hb : Below w.heap.size w W) => hide (CheckProg_any regs A l cap W (hA.below hb))
    have hn0 : (chk regs l == 0) = false := by rw [beq_eq_false_iff_ne]; exact hc
    have hB0 : Below w.heap.size w (w.alloc (.cells #[.int .i64 regs, .slice A l.length cap] 24)) := (Below.refl _ _).alloc (Nat.le_refl _) _
    have hP0 := Blk.new w 24 #[.int .i64 regs, .slice A l.length cap]
    generalize chk regs l = cz at *
    clear hc
    go_enter Tryd.func4, Tryd.ntmps4
    go_wp2_with fail
    refine Calls.mono (hSh _ hB0).out ?_
    rintro e w1 ⟨rfl, hb1⟩
    have hB1 := hB0.trans (hb1.mono hB0.size)
    have hP1 := hP0.below hb1 hP0.lt
    have p0 := hP1.cell 0
    have p1 := hP1.cell 1
    simp only [List.getElem?_toArray, List.getElem?_cons_zero, List.getElem?_cons_succ] at p0 p1
    clear hP0 hb1 hSh hB0
    go_wp2_with fail
    refine Calls.mono (hCk _ hB1).out ?_
    rintro e w2 ⟨rfl, hb2⟩
    have hB2 := hB1.trans (hb2.mono hB1.size)
    have hP2 := hP1.below hb2 hP1.lt
    have p0 := hP2.cell 0
    have p1 := hP2.cell 1
    simp only [List.getElem?_toArray, List.getElem?_cons_zero, List.getElem?_cons_succ] at p0 p1
    clear hb2 hCk hP1 hB1
    have hBa := hB2
    clear hB2 hP2 p0 p1
    have hRd := hide (Read_any s hs _ (hT.below hBa))
    go_wp2_with fail
    refine Calls.mono hRd.out ?_
    rintro e w4 ⟨rq, lq, vq, okq, rfl, hNq, hb4, hgq⟩
    obtain ⟨Aq, cq, rfl, hq1, hq2⟩ := hNq.shape
    have hB4 := hBa.trans (hb4.mono hBa.size)
    clear hRd hb4
    have hPf := hide (ProgFrom_any s hs (w4.alloc (.cells #[.int .i64 rq, .slice Aq lq.length cq] 24)))
    have hQ5 := Blk.new w4 24 #[.int .i64 rq, .slice Aq lq.length cq]
    have hNq5 := hNq.alloc (.cells #[.int .i64 rq, .slice Aq lq.length cq] 24)
    have hB5 := hB4.alloc hB4.size (.cells #[.int .i64 rq, .slice Aq lq.length cq] 24)
    have hTb := fun W (hb : Below w.heap.size w W) => hide (textBegun_any W (hT.below hb))
    have Hgq := hide hgq
    clear hgq hNq hB4
    cases okq with
    | true =>
      rw [if_pos rfl]
      go_wp2_with fail
      refine Calls.mono hPf.out ?_
      rintro e w6 ⟨rx, lx, vx, okx, rfl, hNx, hb6, hgx⟩
      obtain ⟨Ax, cx, rfl, hx1, hx2⟩ := hNx.shape
      obtain ⟨h1, h2, h3⟩ := Hgq.out.same hgx
      subst h1 h2 h3
      have hQ6 := hQ5.below hb6 hQ5.lt
      have hNq6 := hNq5.below' hb6
      have hB6 := hB5.trans (hb6.mono hB5.size)
      clear hPf hQ5 hNq5 hB5 hb6 hgx
      have hX7 := Blk.new w6 24 #[.int .i64 rq, .slice Ax lq.length cx]
      have hQ7 := hQ6.alloc (.cells #[.int .i64 rq, .slice Ax lq.length cx] 24)
      have hNq7 := hNq6.alloc (.cells #[.int .i64 rq, .slice Ax lq.length cx] 24)
      have hNx7 := hNx.alloc (.cells #[.int .i64 rq, .slice Ax lq.length cx] 24)
      have hB7 := hB6.alloc hB6.size (.cells #[.int .i64 rq, .slice Ax lq.length cx] 24)
      clear hQ6 hNq6 hB6 hNx
      go_wp2_with fail
      refine Calls.mono (hTb _ hB7).out ?_
      rintro e w8 ⟨rfl, hb8⟩
      have hQ8 := hQ7.below hb8 hQ7.lt
      have hX8 := hX7.below hb8 hX7.lt
      have hSm := hide (SameProgs_any rq rq Aq Ax lq lq cq cx w8 (hNq7.below' hb8).nodes (hNx7.below' hb8).nodes (by omega) (by omega))
      have hB8 := hB7.trans (hb8.mono hB7.size)
      have q0 := hQ8.cell 0
      have q1 := hQ8.cell 1
      have x0 := hX8.cell 0
      have x1 := hX8.cell 1
      simp only [List.getElem?_toArray, List.getElem?_cons_zero, List.getElem?_cons_succ] at q0 q1 x0 x1
      clear hQ7 hX7 hNq7 hNx7 hb8 hB7 hTb
      go_wp2_with fail
      refine Calls.mono hSm.out ?_
      rintro e w9 ⟨rfl, hb9⟩
      have hB9 := hB8.trans (hb9.mono hB8.size)
      go_wp2_with fail
      go_ret
      exact ⟨by simp, hB9⟩
    | false =>
      rw [if_neg (by simp)]
      go_wp2_with fail
      refine Calls.mono hPf.out ?_
      rintro e w6 ⟨rx, lx, vx, okx, rfl, hNx, hb6, hgx⟩
      obtain ⟨Ax, cx, rfl, hx1, hx2⟩ := hNx.shape
      obtain ⟨h1, h2, h3⟩ := Hgq.out.same hgx
      subst h1 h2 h3
      have hQ6 := hQ5.below hb6 hQ5.lt
      have hNq6 := hNq5.below' hb6
      have hB6 := hB5.trans (hb6.mono hB5.size)
      clear hPf hQ5 hNq5 hB5 hb6 hgx
      have hX7 := Blk.new w6 24 #[.int .i64 rq, .slice Ax lq.length cx]
      have hQ7 := hQ6.alloc (.cells #[.int .i64 rq, .slice Ax lq.length cx] 24)
      have hNq7 := hNq6.alloc (.cells #[.int .i64 rq, .slice Ax lq.length cx] 24)
      have hNx7 := hNx.alloc (.cells #[.int .i64 rq, .slice Ax lq.length cx] 24)
      have hB7 := hB6.alloc hB6.size (.cells #[.int .i64 rq, .slice Ax lq.length cx] 24)
      clear hQ6 hNq6 hB6 hNx
      go_wp2_with fail
      refine Calls.mono (hTb _ hB7).out ?_
      rintro e w8 ⟨rfl, hb8⟩
      have hQ8 := hQ7.below hb8 hQ7.lt
      have hX8 := hX7.below hb8 hX7.lt
      have hSm := hide (SameProgs_any rq rq Aq Ax lq lq cq cx w8 (hNq7.below' hb8).nodes (hNx7.below' hb8).nodes (by omega) (by omega))
      have hB8 := hB7.trans (hb8.mono hB7.size)
      have q0 := hQ8.cell 0
      have q1 := hQ8.cell 1
      have x0 := hX8.cell 0
      have x1 := hX8.cell 1
      simp only [List.getElem?_toArray, List.getElem?_cons_zero, List.getElem?_cons_succ] at q0 q1 x0 x1
      clear hQ7 hX7 hNq7 hNx7 hb8 hB7 hTb
      go_wp2_with fail
      refine Calls.mono hSm.out ?_
      rintro e w9 ⟨rfl, hb9⟩
      have hB9 := hB8.trans (hb9.mono hB8.size)
      go_wp2_with fail
      go_ret
      exact ⟨by simp, hB9⟩
set_option maxRecDepth 100000 in
theorem TextBack_any (regs : Int) (A : Option Addr) (l : List Nd) (cap : Nat) (s : List UInt8) (w : World) (hA : NodesAt w A l) (hl : l.length ≤ maxLen) (hf : Fit l) (hs : s.length ≤ 4294967280) (hT : Tv w) :
    Calls Tryd.prog 5 #[.agg #[.int .i64 regs, .slice A l.length cap], strB s] w fun e w' => e = .returned (.bool true) ∧ Below w.heap.size w w' := by
  have hB0 : Below w.heap.size w (w.alloc (.cells #[.int .i64 regs, .slice A l.length cap] 24)) := (Below.refl _ _).alloc (Nat.le_refl _) _
  have hP0 := Blk.new w 24 #[.int .i64 regs, .slice A l.length cap]
  by_cases hc : chk regs l = 0
  · obtain ⟨hm1, hm256, hr1, hr64, hmo⟩ := chk_small hc
    have hSh := fun W (hb : Below w.heap.size w W) => hide (Show_ok regs A l cap W hl (hA.below hb) hc (hT.below hb) hf)
    have hlen : (showL regs l).length ≤ 4294967280 := by
      have := showL_len (l := l) (regs := regs) ⟨by omega, by omega⟩ hf
      omega
    have hR1 := fun W (hb : Below w.heap.size w W) => hide (Read_any (showL regs l) hlen W (hT.below hb))
    have hGot : Got (showL regs l) regs l true := Or.inl ⟨rfl, hc, hf, rfl⟩
    have Hgot := hide hGot
    clear hc hmo hlen hGot
    go_enter Tryd.func5, Tryd.ntmps5
    go_wp2_with fail
    refine Calls.mono (hSh _ hB0).out ?_
    rintro e w1 ⟨rfl, hb1⟩
    have hB1 := hB0.trans (hb1.mono hB0.size)
    have hP1 := hP0.below hb1 hP0.lt
    clear hP0 hb1 hSh hB0
    go_wp2_with fail
    refine Calls.mono (hR1 _ hB1).out ?_
    rintro e w2 ⟨r2, l2, v2, ok2, rfl, hN2, hb2, hg2⟩
    obtain ⟨h1, h2, h3⟩ := hg2.same Hgot.out
    subst h1 h2 h3
    rw [if_pos rfl]
    obtain ⟨A2, c2, rfl, _, _⟩ := hN2.shape
    have hB2 := hB1.trans (hb2.mono hB1.size)
    have hP2 := hP1.below hb2 hP1.lt
    clear hP1 hb2 hR1 hg2 hB1
    have hQ3 := Blk.new w2 24 #[.int .i64 r2, .slice A2 l2.length c2]
    have hP3 := hP2.alloc (.cells #[.int .i64 r2, .slice A2 l2.length c2] 24)
    have hN3 := hN2.alloc (.cells #[.int .i64 r2, .slice A2 l2.length c2] 24)
    have hB3 := hB2.alloc hB2.size (.cells #[.int .i64 r2, .slice A2 l2.length c2] 24)
    have hSp := hide (SameProgs_any r2 r2 A2 A l2 l2 c2 cap _ hN3.nodes (hA.below hB3) hl hl)
    have q0 := hQ3.cell 0
    have q1 := hQ3.cell 1
    have p0 := hP3.cell 0
    have p1 := hP3.cell 1
    simp only [List.getElem?_toArray, List.getElem?_cons_zero, List.getElem?_cons_succ] at q0 q1 p0 p1
    clear hP2 hB2 hN2 hQ3 hP3 hN3
    go_wp2_with fail
    refine Calls.mono hSp.out ?_
    rintro e w3 ⟨rfl, hb3⟩
    have hBa := hB3.trans (hb3.mono hB3.size)
    clear hSp hb3 hB3 q0 q1 p0 p1
    simp only [beq_self_eq_true, Bool.and_self]
    have hRd := hide (Read_any s hs _ (hT.below hBa))
    go_wp2_with fail
    refine Calls.mono hRd.out ?_
    rintro e w4 ⟨rq, lq, vq, okq, rfl, hNq, hb4, hgq⟩
    obtain ⟨Aq, cq, rfl, hq1, hq2⟩ := hNq.shape
    have hB4 := hBa.trans (hb4.mono hBa.size)
    clear hRd hb4
    have hQ5 := Blk.new w4 24 #[.int .i64 rq, .slice Aq lq.length cq]
    have hNq5 := hNq.alloc (.cells #[.int .i64 rq, .slice Aq lq.length cq] 24)
    have hB5 := hB4.alloc hB4.size (.cells #[.int .i64 rq, .slice Aq lq.length cq] 24)
    have hTb := fun W (hb : Below w.heap.size w W) => hide (textBegun_any W (hT.below hb))
    have Hgq := hide hgq
    have q0 := hQ5.cell 0
    have q1 := hQ5.cell 1
    simp only [List.getElem?_toArray, List.getElem?_cons_zero, List.getElem?_cons_succ] at q0 q1
    clear hgq hNq hB4
    cases okq with
    | false =>
      rw [if_neg (by simp)]
      clear hQ5 hNq5 q0 q1
      go_wp2_with fail
      refine Calls.mono (hTb _ hB5).out ?_
      rintro e w6 ⟨rfl, hb6⟩
      go_wp2_with fail
      go_ret
      exact ⟨rfl, hB5.trans (hb6.mono hB5.size)⟩
    | true =>
      rw [if_pos rfl]
      obtain ⟨hqc, hqf, hqs⟩ : chk rq lq = 0 ∧ Fit lq ∧ s = showL rq lq := by
        rcases Hgq.out with ⟨_, h1, h2, h3⟩ | ⟨h1, _⟩
        · exact ⟨h1, h2, h3⟩
        · cases h1
      have hSq := hide (Show_ok rq Aq lq cq _ (by omega) hNq5.nodes hqc (hT.below hB5) hqf)
      clear hqc hqf
      rw [← hqs] at hSq
      clear hqs
      go_wp2_with fail
      refine Calls.mono hSq.out ?_
      rintro e w6 ⟨rfl, hb6⟩
      have hB6 := hB5.trans (hb6.mono hB5.size)
      clear hSq hb6 hQ5 hNq5 q0 q1
      go_wp2_with fail
      refine Calls.mono (hTb _ hB6).out ?_
      rintro e w7 ⟨rfl, hb7⟩
      go_wp2_with fail
      go_ret
      exact ⟨rfl, hB6.trans (hb7.mono hB6.size)⟩
  · have hSh := fun W (hb : Below w.heap.size w W) => hide (Show_bad regs A l cap W hl (hA.below hb) hc)
    have hn0 : (chk regs l == 0) = false := by rw [beq_eq_false_iff_ne]; exact hc
    generalize chk regs l = cz at *
    clear hc
    go_enter Tryd.func5, Tryd.ntmps5
    go_wp2_with fail
    refine Calls.mono (hSh _ hB0).out ?_
    rintro e w1 ⟨rfl, hb1⟩
    have hBa := hB0.trans (hb1.mono hB0.size)
    clear hP0 hb1 hSh hB0
    have hRd := hide (Read_any s hs _ (hT.below hBa))
    go_wp2_with fail
    refine Calls.mono hRd.out ?_
    rintro e w4 ⟨rq, lq, vq, okq, rfl, hNq, hb4, hgq⟩
    obtain ⟨Aq, cq, rfl, hq1, hq2⟩ := hNq.shape
    have hB4 := hBa.trans (hb4.mono hBa.size)
    clear hRd hb4
    have hQ5 := Blk.new w4 24 #[.int .i64 rq, .slice Aq lq.length cq]
    have hNq5 := hNq.alloc (.cells #[.int .i64 rq, .slice Aq lq.length cq] 24)
    have hB5 := hB4.alloc hB4.size (.cells #[.int .i64 rq, .slice Aq lq.length cq] 24)
    have hTb := fun W (hb : Below w.heap.size w W) => hide (textBegun_any W (hT.below hb))
    have Hgq := hide hgq
    have q0 := hQ5.cell 0
    have q1 := hQ5.cell 1
    simp only [List.getElem?_toArray, List.getElem?_cons_zero, List.getElem?_cons_succ] at q0 q1
    clear hgq hNq hB4
    cases okq with
    | false =>
      rw [if_neg (by simp)]
      clear hQ5 hNq5 q0 q1
      go_wp2_with fail
      refine Calls.mono (hTb _ hB5).out ?_
      rintro e w6 ⟨rfl, hb6⟩
      go_wp2_with fail
      go_ret
      exact ⟨rfl, hB5.trans (hb6.mono hB5.size)⟩
    | true =>
      rw [if_pos rfl]
      obtain ⟨hqc, hqf, hqs⟩ : chk rq lq = 0 ∧ Fit lq ∧ s = showL rq lq := by
        rcases Hgq.out with ⟨_, h1, h2, h3⟩ | ⟨h1, _⟩
        · exact ⟨h1, h2, h3⟩
        · cases h1
      have hSq := hide (Show_ok rq Aq lq cq _ (by omega) hNq5.nodes hqc (hT.below hB5) hqf)
      clear hqc hqf
      rw [← hqs] at hSq
      clear hqs
      go_wp2_with fail
      refine Calls.mono hSq.out ?_
      rintro e w6 ⟨rfl, hb6⟩
      have hB6 := hB5.trans (hb6.mono hB5.size)
      clear hSq hb6 hQ5 hNq5 q0 q1
      go_wp2_with fail
      refine Calls.mono (hTb _ hB6).out ?_
      rintro e w7 ⟨rfl, hb7⟩
      go_wp2_with fail
      go_ret
      exact ⟨rfl, hB6.trans (hb7.mono hB6.size)⟩
end Go.Proofs.YtmghkonmfbpjcabDoor
