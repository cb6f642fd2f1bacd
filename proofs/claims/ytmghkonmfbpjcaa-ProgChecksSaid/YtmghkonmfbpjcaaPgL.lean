/- ProgChecks: the law, walked. -/
import Derived.Test.YtmghkonmfbpjcaaPgB
import Derived.Test.YtmghkonmfbpjcaaCheckP
namespace Go.Proofs.Ytmghkonmfbpjcaa
set_option linter.unusedVariables false
set_option linter.unusedSimpArgs false
open Go.RowKit
set_option maxHeartbeats 8000000
attribute [local irreducible] Row TRow madeCells

set_option maxRecDepth 100000 in
theorem progLaw_err (regs : Int) (A : Option Addr) (l : List Nd) (cap : Nat) (n : Int) (w : World) (hA : NodesAt w A l) (hml : l.length ≤ maxLen) (hc : chk regs l ≠ 0) :
    Calls Try.prog 7 #[.agg #[.int .i64 regs, .slice A l.length cap], .int .i64 n] w fun e w' => e = .returned (.bool true) ∧ Below w.heap.size w w' := by
  have hN := fun W (hW : Below w.heap.size w W) => Next_any regs A l cap n W hml (hA.below hW)
  have hAh := fun W (hW : Below w.heap.size w W) => Ahead_any regs A l cap n W hml (hA.below hW)
  have hT := fun W (hW : Below w.heap.size w W) => Terms_any regs A l cap W hml (hA.below hW)
  have hCp := fun W (hW : Below w.heap.size w W) => CheckProg_any regs A l cap W (hA.below hW)
  have hCk := fun W (hW : Below w.heap.size w W) => Check_any regs A l cap W hml (hA.below hW)
  unfold NxPost at hN hAh
  unfold TmPost at hT
  have hE : nxE regs l n = chk regs l := by rw [nxE, if_neg hc]
  have hX : nxL regs l n nextP = [] := by rw [nxL, hE, if_neg hc]
  have hY : nxL regs l n aheadP = [] := by rw [nxL, hE, if_neg hc]
  rw [hE, hX] at hN
  rw [hE, hY] at hAh
  rw [if_neg hc] at hT
  have b0 : (chk regs l == 0) = false := by simpa using hc
  clear hE hX hY hc
  generalize chk regs l = c at *
  have HN := hide hN
  have HAh := hide hAh
  have HT := hide hT
  have HCp := hide hCp
  have HCk := hide hCk
  clear hN hAh hT hCp hCk
  go_enter Try.func7, Try.ntmps7
  go_wp2_with fail
  refine (HN.out _ (by repeat (first | (with_reducible exact Below.refl _ _) | (with_reducible assumption) | (with_reducible refine Below.drew ?_) | (with_reducible refine below_drewN ?_ _) | (with_reducible refine Below.alloc ?_ (by (try simp only [World.size_alloc, World.size_setCell, World.size_drew, World.heap_drewN]); (first | done | omega | ((try simp only [World.size_alloc, World.size_setCell, World.size_drew, World.heap_drewN] at *); omega))) _) | (with_reducible refine Below.setCell ?_ (by (try simp only [World.size_alloc, World.size_setCell, World.size_drew, World.heap_drewN]); (first | done | omega | ((try simp only [World.size_alloc, World.size_setCell, World.size_drew, World.heap_drewN] at *); omega))) _) | (with_reducible refine Below.trans ?_ (Below.mono (by assumption) (by (try simp only [World.size_alloc, World.size_setCell, World.size_drew, World.heap_drewN]); (first | done | omega | ((try simp only [World.size_alloc, World.size_setCell, World.size_drew, World.heap_drewN] at *); omega)))))))).mono ?_
  rintro e w1 ⟨hb1, v1, rfl, hr1⟩
  obtain ⟨D1, q1, rfl, _, _⟩ := hr1.shape
  rw [ints_length] at hr1 ⊢
  have hP : Blk w1 w.heap.size 24 #[.int .i64 regs, .slice A l.length cap] := Blk.below (Blk.new' rfl) hb1 (by simp)
  have hB : Below w.heap.size w w1 := (by repeat (first | (with_reducible exact Below.refl _ _) | (with_reducible assumption) | (with_reducible refine Below.drew ?_) | (with_reducible refine below_drewN ?_ _) | (with_reducible refine Below.alloc ?_ (by (try simp only [World.size_alloc, World.size_setCell, World.size_drew, World.heap_drewN]); (first | done | omega | ((try simp only [World.size_alloc, World.size_setCell, World.size_drew, World.heap_drewN] at *); omega))) _) | (with_reducible refine Below.setCell ?_ (by (try simp only [World.size_alloc, World.size_setCell, World.size_drew, World.heap_drewN]); (first | done | omega | ((try simp only [World.size_alloc, World.size_setCell, World.size_drew, World.heap_drewN] at *); omega))) _) | (with_reducible refine Below.trans ?_ (Below.mono (by assumption) (by (try simp only [World.size_alloc, World.size_setCell, World.size_drew, World.heap_drewN]); (first | done | omega | ((try simp only [World.size_alloc, World.size_setCell, World.size_drew, World.heap_drewN] at *); omega)))))))
  have p0 := hP.cell 0
  have p1 := hP.cell 1
  have lp := hP.lt
  simp only [List.getElem?_toArray, List.getElem?_cons_zero, List.getElem?_cons_succ] at p0 p1
  have H1 := hide hr1.vals
  clear hr1 hb1
  go_wp2_with fail
  refine (HAh.out _ hB).mono ?_
  rintro e w2 ⟨hb2, v2, rfl, hr2⟩
  obtain ⟨D2, q2, rfl, _, _⟩ := hr2.shape
  rw [ints_length] at hr2 ⊢
  have hP := hP.below hb2 lp
  have hB := hB.trans (hb2.mono hB.size)
  have p0 := hP.cell 0
  have p1 := hP.cell 1
  have lp := hP.lt
  simp only [List.getElem?_toArray, List.getElem?_cons_zero, List.getElem?_cons_succ] at p0 p1
  have H1 := hide (H1.out.below hb2)
  have H2 := hide hr2.vals
  clear hr2 hb2
  go_wp2_with fail
  refine (HT.out _ hB).mono ?_
  rintro e w3 ⟨hb3, v3, rfl, hr3⟩
  obtain ⟨D3, q3, rfl, _, _⟩ := hr3.shape
  have hP := hP.below hb3 lp
  have hB := hB.trans (hb3.mono hB.size)
  have p0 := hP.cell 0
  have p1 := hP.cell 1
  have lp := hP.lt
  simp only [List.getElem?_toArray, List.getElem?_cons_zero, List.getElem?_cons_succ] at p0 p1
  have H1 := hide (H1.out.below hb3)
  have H2 := hide (H2.out.below hb3)
  have H3 := hide hr3.nodes
  clear hr3 hb3
  go_wp2_with fail
  refine (HCp.out _ hB).mono ?_
  rintro e w4 ⟨rfl, hb4⟩
  have hP := hP.below hb4 lp
  have hB := hB.trans (hb4.mono hB.size)
  have p0 := hP.cell 0
  have p1 := hP.cell 1
  have lp := hP.lt
  simp only [List.getElem?_toArray, List.getElem?_cons_zero, List.getElem?_cons_succ] at p0 p1
  have H1 := hide (H1.out.below hb4)
  have H2 := hide (H2.out.below hb4)
  have H3 := hide (H3.out.below hb4)
  clear hb4
  go_wp2_with fail
  refine wp_loop_rounds 1 ?_
  rw [rounds_succ]
  go_wp2_with fail
  refine (progBegun_any _).mono ?_
  rintro e w6 ⟨rfl, hb6⟩
  have hP := hP.below hb6 lp
  have hB := hB.trans (hb6.mono hB.size)
  have p0 := hP.cell 0
  have p1 := hP.cell 1
  have lp := hP.lt
  simp only [List.getElem?_toArray, List.getElem?_cons_zero, List.getElem?_cons_succ] at p0 p1
  have H1 := hide (H1.out.below hb6)
  have H2 := hide (H2.out.below hb6)
  clear hb6
  go_wp2_with fail
  refine (HCk.out _ hB).mono ?_
  rintro e w7 ⟨rfl, hb7⟩
  have hP := hP.below hb7 lp
  have hB := hB.trans (hb7.mono hB.size)
  have p0 := hP.cell 0
  have p1 := hP.cell 1
  have lp := hP.lt
  simp only [List.getElem?_toArray, List.getElem?_cons_zero, List.getElem?_cons_succ] at p0 p1
  have H1 := hide (H1.out.below hb7)
  have H2 := hide (H2.out.below hb7)
  clear hb7
  go_wp2_with fail
  refine (SameInts_any D1 none q1 0 [] [] w7 H1.out (fun h => absurd rfl h) (by simp) (by simp)).mono ?_
  rintro e w8 ⟨rfl, d1, rfl⟩
  go_wp2_with fail
  refine (SameInts_any D2 none q2 0 [] [] (w7.drewN d1) H2.out (fun h => absurd rfl h) (by simp) (by simp)).mono ?_
  rintro e w9 ⟨rfl, d2, rfl⟩
  go_wp2_with fail
  go_ret
  exact ⟨rfl, below_drewN hB _⟩
set_option maxRecDepth 100000 in
theorem progLaw_neg (regs : Int) (A : Option Addr) (l : List Nd) (cap : Nat) (n : Int) (w : World) (hA : NodesAt w A l) (hml : l.length ≤ maxLen) (hc : chk regs l = 0) (hn : n < 0) :
    Calls Try.prog 7 #[.agg #[.int .i64 regs, .slice A l.length cap], .int .i64 n] w fun e w' => e = .returned (.bool true) ∧ Below w.heap.size w w' := by
  have hN := fun W (hW : Below w.heap.size w W) => Next_any regs A l cap n W hml (hA.below hW)
  have hAh := fun W (hW : Below w.heap.size w W) => Ahead_any regs A l cap n W hml (hA.below hW)
  have hT := fun W (hW : Below w.heap.size w W) => Terms_any regs A l cap W hml (hA.below hW)
  have hCp := fun W (hW : Below w.heap.size w W) => CheckProg_any regs A l cap W (hA.below hW)
  have hCk := fun W (hW : Below w.heap.size w W) => Check_any regs A l cap W hml (hA.below hW)
  unfold NxPost at hN hAh
  unfold TmPost at hT
  have hR := right_of_chk hc
  have hE : nxE regs l n = 3 := by rw [nxE, if_pos hc, if_pos (by omega)]
  have hX : nxL regs l n nextP = [] := by rw [nxL, hE]; rfl
  have hY : nxL regs l n aheadP = [] := by rw [nxL, hE]; rfl
  rw [hE, hX] at hN
  rw [hE, hY] at hAh
  rw [if_pos hc, hc] at hT
  rw [hc] at hCp hCk
  have d0 : decide (n < 0) = true := decide_eq_true hn
  have hTo := fun W (hW : Below w.heap.size w W) => TermsOf_any regs A l cap W hR.hi (hA.below hW)
  obtain ⟨ts, hts⟩ : ∃ ts, ts = tmsOf l l.length := ⟨_, rfl⟩
  have hlts : ts.length ≤ 256 := by rw [hts]; have := tmsOf_len l l.length; have := hR.hi; omega
  rw [← hts] at hT hTo
  have HTo := hide hTo
  clear hE hX hY hc hts hTo hR hn
  have HN := hide hN
  have HAh := hide hAh
  have HT := hide hT
  have HCp := hide hCp
  have HCk := hide hCk
  clear hN hAh hT hCp hCk
  go_enter Try.func7, Try.ntmps7
  go_wp2_with fail
  refine (HN.out _ (by repeat (first | (with_reducible exact Below.refl _ _) | (with_reducible assumption) | (with_reducible refine Below.drew ?_) | (with_reducible refine below_drewN ?_ _) | (with_reducible refine Below.alloc ?_ (by (try simp only [World.size_alloc, World.size_setCell, World.size_drew, World.heap_drewN]); (first | done | omega | ((try simp only [World.size_alloc, World.size_setCell, World.size_drew, World.heap_drewN] at *); omega))) _) | (with_reducible refine Below.setCell ?_ (by (try simp only [World.size_alloc, World.size_setCell, World.size_drew, World.heap_drewN]); (first | done | omega | ((try simp only [World.size_alloc, World.size_setCell, World.size_drew, World.heap_drewN] at *); omega))) _) | (with_reducible refine Below.trans ?_ (Below.mono (by assumption) (by (try simp only [World.size_alloc, World.size_setCell, World.size_drew, World.heap_drewN]); (first | done | omega | ((try simp only [World.size_alloc, World.size_setCell, World.size_drew, World.heap_drewN] at *); omega)))))))).mono ?_
  rintro e w1 ⟨hb1, v1, rfl, hr1⟩
  obtain ⟨D1, q1, rfl, _, _⟩ := hr1.shape
  rw [ints_length] at hr1 ⊢
  have hP : Blk w1 w.heap.size 24 #[.int .i64 regs, .slice A l.length cap] := Blk.below (Blk.new' rfl) hb1 (by simp)
  have hB : Below w.heap.size w w1 := (by repeat (first | (with_reducible exact Below.refl _ _) | (with_reducible assumption) | (with_reducible refine Below.drew ?_) | (with_reducible refine below_drewN ?_ _) | (with_reducible refine Below.alloc ?_ (by (try simp only [World.size_alloc, World.size_setCell, World.size_drew, World.heap_drewN]); (first | done | omega | ((try simp only [World.size_alloc, World.size_setCell, World.size_drew, World.heap_drewN] at *); omega))) _) | (with_reducible refine Below.setCell ?_ (by (try simp only [World.size_alloc, World.size_setCell, World.size_drew, World.heap_drewN]); (first | done | omega | ((try simp only [World.size_alloc, World.size_setCell, World.size_drew, World.heap_drewN] at *); omega))) _) | (with_reducible refine Below.trans ?_ (Below.mono (by assumption) (by (try simp only [World.size_alloc, World.size_setCell, World.size_drew, World.heap_drewN]); (first | done | omega | ((try simp only [World.size_alloc, World.size_setCell, World.size_drew, World.heap_drewN] at *); omega)))))))
  have p0 := hP.cell 0
  have p1 := hP.cell 1
  have lp := hP.lt
  simp only [List.getElem?_toArray, List.getElem?_cons_zero, List.getElem?_cons_succ] at p0 p1
  have H1 := hide hr1.vals
  clear hr1 hb1
  go_wp2_with fail
  refine (HAh.out _ hB).mono ?_
  rintro e w2 ⟨hb2, v2, rfl, hr2⟩
  obtain ⟨D2, q2, rfl, _, _⟩ := hr2.shape
  rw [ints_length] at hr2 ⊢
  have hP := hP.below hb2 lp
  have hB := hB.trans (hb2.mono hB.size)
  have p0 := hP.cell 0
  have p1 := hP.cell 1
  have lp := hP.lt
  simp only [List.getElem?_toArray, List.getElem?_cons_zero, List.getElem?_cons_succ] at p0 p1
  have H1 := hide (H1.out.below hb2)
  have H2 := hide hr2.vals
  clear hr2 hb2
  go_wp2_with fail
  refine (HT.out _ hB).mono ?_
  rintro e w3 ⟨hb3, v3, rfl, hr3⟩
  obtain ⟨D3, q3, rfl, _, _⟩ := hr3.shape
  have hP := hP.below hb3 lp
  have hB := hB.trans (hb3.mono hB.size)
  have p0 := hP.cell 0
  have p1 := hP.cell 1
  have lp := hP.lt
  simp only [List.getElem?_toArray, List.getElem?_cons_zero, List.getElem?_cons_succ] at p0 p1
  have H1 := hide (H1.out.below hb3)
  have H2 := hide (H2.out.below hb3)
  have H3 := hide hr3.nodes
  clear hr3 hb3
  go_wp2_with fail
  refine (HCp.out _ hB).mono ?_
  rintro e w4 ⟨rfl, hb4⟩
  have hP := hP.below hb4 lp
  have hB := hB.trans (hb4.mono hB.size)
  have p0 := hP.cell 0
  have p1 := hP.cell 1
  have lp := hP.lt
  simp only [List.getElem?_toArray, List.getElem?_cons_zero, List.getElem?_cons_succ] at p0 p1
  have H1 := hide (H1.out.below hb4)
  have H2 := hide (H2.out.below hb4)
  have H3 := hide (H3.out.below hb4)
  clear hb4
  go_wp2_with fail
  refine (HTo.out _ hB).mono ?_
  rintro e w5 ⟨hb5, v5, rfl, hr5⟩
  obtain ⟨D5, q5, rfl, _, _⟩ := hr5.shape
  have hP := hP.below hb5 lp
  have hB := hB.trans (hb5.mono hB.size)
  have p0 := hP.cell 0
  have p1 := hP.cell 1
  have lp := hP.lt
  simp only [List.getElem?_toArray, List.getElem?_cons_zero, List.getElem?_cons_succ] at p0 p1
  have H1 := hide (H1.out.below hb5)
  have H2 := hide (H2.out.below hb5)
  have H3 := hide (H3.out.below hb5)
  have H5 := hide hr5.nodes
  clear hr5 hb5
  have hgd := guardTerm
  have hnn : ((ts.length : Int) != (ts.length : Int)) = false := by simp
  go_wp2_with fail
  go_loopg [16] (ts.length) (fun gk i wr => ∃ j : Nat, j ≤ ts.length ∧ i = .int .i64 j ∧ gk = ts.length - j ∧ ∃ d, wr = w5.drewN d)
  case atStart => exact ⟨0, Nat.zero_le _, rfl, rfl, 0, rfl⟩
  case round =>
    obtain ⟨j, hj, rfl, hgk, d, rfl⟩ := hrel
    have Hgk := hide hgk
    clear hgk
    by_cases hjl : j < ts.length
    · obtain ⟨a1, a2, y, rfl, ha, hy, hyl⟩ := H3.out.get hjl
      obtain ⟨b1, b2, y', rfl, hb, hy', hyl'⟩ := H5.out.get hjl
      obtain rfl : y = y' := by rw [hy] at hy'; injection hy'
      obtain ⟨y0, y1, y2⟩ := hyl
      obtain ⟨z0, z1, z2⟩ := hyl'
      have v0 : (0 : Int) ≤ (j : Int) := by omega
      have v1 : (j : Int) < (ts.length : Int) := by omega
      have hEq : ∀ W, (Op.equalIn 10000 47 (.agg #[.int .i64 y.op, .int .i64 y.a, .int .i64 y.b]) (.agg #[.int .i64 y.op, .int .i64 y.a, .int .i64 y.b])).run Try.prog W = .ok true W := fun W => by have h := run_eq_term y y W; rw [show (y == y) = true by simp] at h; exact h
      clear hy hy'
      go_upto_region 19 with fail
      go_quiet (fail)
      go_wp2_with fail
      go_roundg (ts.length - (j + 1))
      case measure => have := Hgk.out; omega
      case rel => exact ⟨j + 1, by omega, by go_num, rfl, _, rfl⟩
    · have hjj : j = ts.length := by omega
      subst hjj
      have hB := below_drewN hB d
      have H1 := hide (H1.out.below (below_drewN (Below.refl _ _) d))
      have H2 := hide (H2.out.below (below_drewN (Below.refl _ _) d))
      have hP : Blk (w5.drewN d) w.heap.size 24 #[.int .i64 regs, .slice A l.length cap] := hP.drewN d
      have p0 := hP.cell 0
      have p1 := hP.cell 1
      have lp := hP.lt
      simp only [List.getElem?_toArray, List.getElem?_cons_zero, List.getElem?_cons_succ] at p0 p1
      go_wp2_with fail
      refine (progBegun_any _).mono ?_
      rintro e w6 ⟨rfl, hb6⟩
      have hP := hP.below hb6 lp
      have hB := hB.trans (hb6.mono hB.size)
      have p0 := hP.cell 0
      have p1 := hP.cell 1
      have lp := hP.lt
      simp only [List.getElem?_toArray, List.getElem?_cons_zero, List.getElem?_cons_succ] at p0 p1
      have H1 := hide (H1.out.below hb6)
      have H2 := hide (H2.out.below hb6)
      clear hb6
      go_wp2_with fail
      refine (HCk.out _ hB).mono ?_
      rintro e w7 ⟨rfl, hb7⟩
      have hP := hP.below hb7 lp
      have hB := hB.trans (hb7.mono hB.size)
      have p0 := hP.cell 0
      have p1 := hP.cell 1
      have lp := hP.lt
      simp only [List.getElem?_toArray, List.getElem?_cons_zero, List.getElem?_cons_succ] at p0 p1
      have H1 := hide (H1.out.below hb7)
      have H2 := hide (H2.out.below hb7)
      clear hb7
      go_wp2_with fail
      refine (SameInts_any D1 none q1 0 [] [] w7 H1.out (fun h => absurd rfl h) (by simp [maxLen] <;> omega) (by simp [maxLen] <;> omega)).mono ?_
      rw [show ([] == []) = true by simp]
      rintro e w8 ⟨rfl, d1, rfl⟩
      go_wp2_with fail
      refine (SameInts_any D2 none q2 0 [] [] (w7.drewN d1) (H2.out.below (below_drewN (Below.refl _ _) d1)) (fun h => absurd rfl h) (by simp [maxLen] <;> omega) (by simp [maxLen] <;> omega)).mono ?_
      rw [show ([] == []) = true by simp]
      rintro e w9 ⟨rfl, d2, rfl⟩
      go_wp2_with fail
      go_ret
      exact ⟨rfl, below_drewN hB _⟩
set_option maxRecDepth 100000 in
theorem progLaw_far (regs : Int) (A : Option Addr) (l : List Nd) (cap : Nat) (n : Int) (w : World) (hA : NodesAt w A l) (hml : l.length ≤ maxLen) (hc : chk regs l = 0) (hn0 : ¬ n < 0) (hn : (l.length : Int) ≤ n) :
    Calls Try.prog 7 #[.agg #[.int .i64 regs, .slice A l.length cap], .int .i64 n] w fun e w' => e = .returned (.bool true) ∧ Below w.heap.size w w' := by
  have hN := fun W (hW : Below w.heap.size w W) => Next_any regs A l cap n W hml (hA.below hW)
  have hAh := fun W (hW : Below w.heap.size w W) => Ahead_any regs A l cap n W hml (hA.below hW)
  have hT := fun W (hW : Below w.heap.size w W) => Terms_any regs A l cap W hml (hA.below hW)
  have hCp := fun W (hW : Below w.heap.size w W) => CheckProg_any regs A l cap W (hA.below hW)
  have hCk := fun W (hW : Below w.heap.size w W) => Check_any regs A l cap W hml (hA.below hW)
  unfold NxPost at hN hAh
  unfold TmPost at hT
  have hR := right_of_chk hc
  have hE : nxE regs l n = 3 := by rw [nxE, if_pos hc, if_pos (by omega)]
  have hX : nxL regs l n nextP = [] := by rw [nxL, hE]; rfl
  have hY : nxL regs l n aheadP = [] := by rw [nxL, hE]; rfl
  rw [hE, hX] at hN
  rw [hE, hY] at hAh
  rw [if_pos hc, hc] at hT
  rw [hc] at hCp hCk
  have d0 : decide (n < 0) = false := decide_eq_false hn0
  have d1 : decide (n ≥ (l.length : Int)) = true := decide_eq_true hn
  have d2 : decide ((l.length : Int) ≤ n) = true := decide_eq_true hn
  have hTo := fun W (hW : Below w.heap.size w W) => TermsOf_any regs A l cap W hR.hi (hA.below hW)
  obtain ⟨ts, hts⟩ : ∃ ts, ts = tmsOf l l.length := ⟨_, rfl⟩
  have hlts : ts.length ≤ 256 := by rw [hts]; have := tmsOf_len l l.length; have := hR.hi; omega
  rw [← hts] at hT hTo
  have HTo := hide hTo
  clear hE hX hY hc hts hTo hR hn hn0
  have HN := hide hN
  have HAh := hide hAh
  have HT := hide hT
  have HCp := hide hCp
  have HCk := hide hCk
  clear hN hAh hT hCp hCk
  go_enter Try.func7, Try.ntmps7
  go_wp2_with fail
  refine (HN.out _ (by repeat (first | (with_reducible exact Below.refl _ _) | (with_reducible assumption) | (with_reducible refine Below.drew ?_) | (with_reducible refine below_drewN ?_ _) | (with_reducible refine Below.alloc ?_ (by (try simp only [World.size_alloc, World.size_setCell, World.size_drew, World.heap_drewN]); (first | done | omega | ((try simp only [World.size_alloc, World.size_setCell, World.size_drew, World.heap_drewN] at *); omega))) _) | (with_reducible refine Below.setCell ?_ (by (try simp only [World.size_alloc, World.size_setCell, World.size_drew, World.heap_drewN]); (first | done | omega | ((try simp only [World.size_alloc, World.size_setCell, World.size_drew, World.heap_drewN] at *); omega))) _) | (with_reducible refine Below.trans ?_ (Below.mono (by assumption) (by (try simp only [World.size_alloc, World.size_setCell, World.size_drew, World.heap_drewN]); (first | done | omega | ((try simp only [World.size_alloc, World.size_setCell, World.size_drew, World.heap_drewN] at *); omega)))))))).mono ?_
  rintro e w1 ⟨hb1, v1, rfl, hr1⟩
  obtain ⟨D1, q1, rfl, _, _⟩ := hr1.shape
  rw [ints_length] at hr1 ⊢
  have hP : Blk w1 w.heap.size 24 #[.int .i64 regs, .slice A l.length cap] := Blk.below (Blk.new' rfl) hb1 (by simp)
  have hB : Below w.heap.size w w1 := (by repeat (first | (with_reducible exact Below.refl _ _) | (with_reducible assumption) | (with_reducible refine Below.drew ?_) | (with_reducible refine below_drewN ?_ _) | (with_reducible refine Below.alloc ?_ (by (try simp only [World.size_alloc, World.size_setCell, World.size_drew, World.heap_drewN]); (first | done | omega | ((try simp only [World.size_alloc, World.size_setCell, World.size_drew, World.heap_drewN] at *); omega))) _) | (with_reducible refine Below.setCell ?_ (by (try simp only [World.size_alloc, World.size_setCell, World.size_drew, World.heap_drewN]); (first | done | omega | ((try simp only [World.size_alloc, World.size_setCell, World.size_drew, World.heap_drewN] at *); omega))) _) | (with_reducible refine Below.trans ?_ (Below.mono (by assumption) (by (try simp only [World.size_alloc, World.size_setCell, World.size_drew, World.heap_drewN]); (first | done | omega | ((try simp only [World.size_alloc, World.size_setCell, World.size_drew, World.heap_drewN] at *); omega)))))))
  have p0 := hP.cell 0
  have p1 := hP.cell 1
  have lp := hP.lt
  simp only [List.getElem?_toArray, List.getElem?_cons_zero, List.getElem?_cons_succ] at p0 p1
  have H1 := hide hr1.vals
  clear hr1 hb1
  go_wp2_with fail
  refine (HAh.out _ hB).mono ?_
  rintro e w2 ⟨hb2, v2, rfl, hr2⟩
  obtain ⟨D2, q2, rfl, _, _⟩ := hr2.shape
  rw [ints_length] at hr2 ⊢
  have hP := hP.below hb2 lp
  have hB := hB.trans (hb2.mono hB.size)
  have p0 := hP.cell 0
  have p1 := hP.cell 1
  have lp := hP.lt
  simp only [List.getElem?_toArray, List.getElem?_cons_zero, List.getElem?_cons_succ] at p0 p1
  have H1 := hide (H1.out.below hb2)
  have H2 := hide hr2.vals
  clear hr2 hb2
  go_wp2_with fail
  refine (HT.out _ hB).mono ?_
  rintro e w3 ⟨hb3, v3, rfl, hr3⟩
  obtain ⟨D3, q3, rfl, _, _⟩ := hr3.shape
  have hP := hP.below hb3 lp
  have hB := hB.trans (hb3.mono hB.size)
  have p0 := hP.cell 0
  have p1 := hP.cell 1
  have lp := hP.lt
  simp only [List.getElem?_toArray, List.getElem?_cons_zero, List.getElem?_cons_succ] at p0 p1
  have H1 := hide (H1.out.below hb3)
  have H2 := hide (H2.out.below hb3)
  have H3 := hide hr3.nodes
  clear hr3 hb3
  go_wp2_with fail
  refine (HCp.out _ hB).mono ?_
  rintro e w4 ⟨rfl, hb4⟩
  have hP := hP.below hb4 lp
  have hB := hB.trans (hb4.mono hB.size)
  have p0 := hP.cell 0
  have p1 := hP.cell 1
  have lp := hP.lt
  simp only [List.getElem?_toArray, List.getElem?_cons_zero, List.getElem?_cons_succ] at p0 p1
  have H1 := hide (H1.out.below hb4)
  have H2 := hide (H2.out.below hb4)
  have H3 := hide (H3.out.below hb4)
  clear hb4
  go_wp2_with fail
  refine (HTo.out _ hB).mono ?_
  rintro e w5 ⟨hb5, v5, rfl, hr5⟩
  obtain ⟨D5, q5, rfl, _, _⟩ := hr5.shape
  have hP := hP.below hb5 lp
  have hB := hB.trans (hb5.mono hB.size)
  have p0 := hP.cell 0
  have p1 := hP.cell 1
  have lp := hP.lt
  simp only [List.getElem?_toArray, List.getElem?_cons_zero, List.getElem?_cons_succ] at p0 p1
  have H1 := hide (H1.out.below hb5)
  have H2 := hide (H2.out.below hb5)
  have H3 := hide (H3.out.below hb5)
  have H5 := hide hr5.nodes
  clear hr5 hb5
  have hgd := guardTerm
  have hnn : ((ts.length : Int) != (ts.length : Int)) = false := by simp
  go_wp2_with fail
  go_loopg [16] (ts.length) (fun gk i wr => ∃ j : Nat, j ≤ ts.length ∧ i = .int .i64 j ∧ gk = ts.length - j ∧ ∃ d, wr = w5.drewN d)
  case atStart => exact ⟨0, Nat.zero_le _, rfl, rfl, 0, rfl⟩
  case round =>
    obtain ⟨j, hj, rfl, hgk, d, rfl⟩ := hrel
    have Hgk := hide hgk
    clear hgk
    by_cases hjl : j < ts.length
    · obtain ⟨a1, a2, y, rfl, ha, hy, hyl⟩ := H3.out.get hjl
      obtain ⟨b1, b2, y', rfl, hb, hy', hyl'⟩ := H5.out.get hjl
      obtain rfl : y = y' := by rw [hy] at hy'; injection hy'
      obtain ⟨y0, y1, y2⟩ := hyl
      obtain ⟨z0, z1, z2⟩ := hyl'
      have v0 : (0 : Int) ≤ (j : Int) := by omega
      have v1 : (j : Int) < (ts.length : Int) := by omega
      have hEq : ∀ W, (Op.equalIn 10000 47 (.agg #[.int .i64 y.op, .int .i64 y.a, .int .i64 y.b]) (.agg #[.int .i64 y.op, .int .i64 y.a, .int .i64 y.b])).run Try.prog W = .ok true W := fun W => by have h := run_eq_term y y W; rw [show (y == y) = true by simp] at h; exact h
      clear hy hy'
      go_upto_region 19 with fail
      go_quiet (fail)
      go_wp2_with fail
      go_roundg (ts.length - (j + 1))
      case measure => have := Hgk.out; omega
      case rel => exact ⟨j + 1, by omega, by go_num, rfl, _, rfl⟩
    · have hjj : j = ts.length := by omega
      subst hjj
      have hB := below_drewN hB d
      have H1 := hide (H1.out.below (below_drewN (Below.refl _ _) d))
      have H2 := hide (H2.out.below (below_drewN (Below.refl _ _) d))
      have hP : Blk (w5.drewN d) w.heap.size 24 #[.int .i64 regs, .slice A l.length cap] := hP.drewN d
      have p0 := hP.cell 0
      have p1 := hP.cell 1
      have lp := hP.lt
      simp only [List.getElem?_toArray, List.getElem?_cons_zero, List.getElem?_cons_succ] at p0 p1
      go_wp2_with fail
      refine (progBegun_any _).mono ?_
      rintro e w6 ⟨rfl, hb6⟩
      have hP := hP.below hb6 lp
      have hB := hB.trans (hb6.mono hB.size)
      have p0 := hP.cell 0
      have p1 := hP.cell 1
      have lp := hP.lt
      simp only [List.getElem?_toArray, List.getElem?_cons_zero, List.getElem?_cons_succ] at p0 p1
      have H1 := hide (H1.out.below hb6)
      have H2 := hide (H2.out.below hb6)
      clear hb6
      go_wp2_with fail
      refine (HCk.out _ hB).mono ?_
      rintro e w7 ⟨rfl, hb7⟩
      have hP := hP.below hb7 lp
      have hB := hB.trans (hb7.mono hB.size)
      have p0 := hP.cell 0
      have p1 := hP.cell 1
      have lp := hP.lt
      simp only [List.getElem?_toArray, List.getElem?_cons_zero, List.getElem?_cons_succ] at p0 p1
      have H1 := hide (H1.out.below hb7)
      have H2 := hide (H2.out.below hb7)
      clear hb7
      go_wp2_with fail
      refine (SameInts_any D1 none q1 0 [] [] w7 H1.out (fun h => absurd rfl h) (by simp [maxLen] <;> omega) (by simp [maxLen] <;> omega)).mono ?_
      rw [show ([] == []) = true by simp]
      rintro e w8 ⟨rfl, d1, rfl⟩
      go_wp2_with fail
      refine (SameInts_any D2 none q2 0 [] [] (w7.drewN d1) (H2.out.below (below_drewN (Below.refl _ _) d1)) (fun h => absurd rfl h) (by simp [maxLen] <;> omega) (by simp [maxLen] <;> omega)).mono ?_
      rw [show ([] == []) = true by simp]
      rintro e w9 ⟨rfl, d2, rfl⟩
      go_wp2_with fail
      go_ret
      exact ⟨rfl, below_drewN hB _⟩
set_option maxRecDepth 100000 in
theorem progLaw_in (regs : Int) (A : Option Addr) (l : List Nd) (cap : Nat) (k : Nat) (w : World) (hA : NodesAt w A l) (hml : l.length ≤ maxLen) (hc : chk regs l = 0) (hk : k < l.length) :
    Calls Try.prog 7 #[.agg #[.int .i64 regs, .slice A l.length cap], .int .i64 (k : Int)] w fun e w' => e = .returned (.bool true) ∧ Below w.heap.size w w' := by
  have hN := fun W (hW : Below w.heap.size w W) => Next_any regs A l cap ((k : Nat) : Int) W hml (hA.below hW)
  have hAh := fun W (hW : Below w.heap.size w W) => Ahead_any regs A l cap ((k : Nat) : Int) W hml (hA.below hW)
  have hT := fun W (hW : Below w.heap.size w W) => Terms_any regs A l cap W hml (hA.below hW)
  have hCp := fun W (hW : Below w.heap.size w W) => CheckProg_any regs A l cap W (hA.below hW)
  have hCk := fun W (hW : Below w.heap.size w W) => Check_any regs A l cap W hml (hA.below hW)
  unfold NxPost at hN hAh
  unfold TmPost at hT
  have hR := right_of_chk hc
  have hE : nxE regs l (k : Int) = 0 := by rw [nxE, if_pos hc, if_neg (by omega)]
  have hX : nxL regs l (k : Int) nextP = sel (nextP l k) l.length := by rw [nxL, hE, if_pos rfl, Int.toNat_natCast]
  have hY : nxL regs l (k : Int) aheadP = sel (aheadP l k) l.length := by rw [nxL, hE, if_pos rfl, Int.toNat_natCast]
  rw [hE, hX] at hN
  rw [hE, hY] at hAh
  rw [if_pos hc, hc] at hT
  rw [hc] at hCp hCk
  have d0 : decide ((k : Int) < 0) = false := decide_eq_false (by omega)
  have d1 : decide ((k : Int) ≥ (l.length : Int)) = false := decide_eq_false (by omega)
  have d2 : decide (l.length ≤ k) = false := decide_eq_false (by omega)
  have hTo := fun W (hW : Below w.heap.size w W) => TermsOf_any regs A l cap W hR.hi (hA.below hW)
  have hNo := fun W (hW : Below w.heap.size w W) => NextOf_any regs A l cap W k hk hR.hi (hA.below hW)
  have hAo := fun W (hW : Below w.heap.size w W) => AheadOf_any regs A l cap W k hk hR.hi (hA.below hW)
  unfold RowPost at hNo hAo
  obtain ⟨ts, hts⟩ : ∃ ts, ts = tmsOf l l.length := ⟨_, rfl⟩
  obtain ⟨X, hXX⟩ : ∃ X, X = sel (nextP l k) l.length := ⟨_, rfl⟩
  obtain ⟨Y, hYY⟩ : ∃ Y, Y = sel (aheadP l k) l.length := ⟨_, rfl⟩
  have hlts : ts.length ≤ 256 := by rw [hts]; have := tmsOf_len l l.length; have := hR.hi; omega
  have hlX : X.length ≤ 256 := by rw [hXX]; have := sel_len (nextP l k) l.length; have := hR.hi; omega
  have hlY : Y.length ≤ 256 := by rw [hYY]; have := sel_len (aheadP l k) l.length; have := hR.hi; omega
  rw [← hts] at hT hTo
  rw [← hXX] at hN hNo
  rw [← hYY] at hAh hAo
  have HTo := hide hTo
  have HNo := hide hNo
  have HAo := hide hAo
  clear hE hX hY hc hts hXX hYY hTo hNo hAo hR hk
  have HN := hide hN
  have HAh := hide hAh
  have HT := hide hT
  have HCp := hide hCp
  have HCk := hide hCk
  clear hN hAh hT hCp hCk
  go_enter Try.func7, Try.ntmps7
  go_wp2_with fail
  refine (HN.out _ (by repeat (first | (with_reducible exact Below.refl _ _) | (with_reducible assumption) | (with_reducible refine Below.drew ?_) | (with_reducible refine below_drewN ?_ _) | (with_reducible refine Below.alloc ?_ (by (try simp only [World.size_alloc, World.size_setCell, World.size_drew, World.heap_drewN]); (first | done | omega | ((try simp only [World.size_alloc, World.size_setCell, World.size_drew, World.heap_drewN] at *); omega))) _) | (with_reducible refine Below.setCell ?_ (by (try simp only [World.size_alloc, World.size_setCell, World.size_drew, World.heap_drewN]); (first | done | omega | ((try simp only [World.size_alloc, World.size_setCell, World.size_drew, World.heap_drewN] at *); omega))) _) | (with_reducible refine Below.trans ?_ (Below.mono (by assumption) (by (try simp only [World.size_alloc, World.size_setCell, World.size_drew, World.heap_drewN]); (first | done | omega | ((try simp only [World.size_alloc, World.size_setCell, World.size_drew, World.heap_drewN] at *); omega)))))))).mono ?_
  rintro e w1 ⟨hb1, v1, rfl, hr1⟩
  obtain ⟨D1, q1, rfl, _, _⟩ := hr1.shape
  rw [ints_length] at hr1 ⊢
  have hP : Blk w1 w.heap.size 24 #[.int .i64 regs, .slice A l.length cap] := Blk.below (Blk.new' rfl) hb1 (by simp)
  have hB : Below w.heap.size w w1 := (by repeat (first | (with_reducible exact Below.refl _ _) | (with_reducible assumption) | (with_reducible refine Below.drew ?_) | (with_reducible refine below_drewN ?_ _) | (with_reducible refine Below.alloc ?_ (by (try simp only [World.size_alloc, World.size_setCell, World.size_drew, World.heap_drewN]); (first | done | omega | ((try simp only [World.size_alloc, World.size_setCell, World.size_drew, World.heap_drewN] at *); omega))) _) | (with_reducible refine Below.setCell ?_ (by (try simp only [World.size_alloc, World.size_setCell, World.size_drew, World.heap_drewN]); (first | done | omega | ((try simp only [World.size_alloc, World.size_setCell, World.size_drew, World.heap_drewN] at *); omega))) _) | (with_reducible refine Below.trans ?_ (Below.mono (by assumption) (by (try simp only [World.size_alloc, World.size_setCell, World.size_drew, World.heap_drewN]); (first | done | omega | ((try simp only [World.size_alloc, World.size_setCell, World.size_drew, World.heap_drewN] at *); omega)))))))
  have p0 := hP.cell 0
  have p1 := hP.cell 1
  have lp := hP.lt
  simp only [List.getElem?_toArray, List.getElem?_cons_zero, List.getElem?_cons_succ] at p0 p1
  have H1 := hide hr1.vals
  clear hr1 hb1
  go_wp2_with fail
  refine (HAh.out _ hB).mono ?_
  rintro e w2 ⟨hb2, v2, rfl, hr2⟩
  obtain ⟨D2, q2, rfl, _, _⟩ := hr2.shape
  rw [ints_length] at hr2 ⊢
  have hP := hP.below hb2 lp
  have hB := hB.trans (hb2.mono hB.size)
  have p0 := hP.cell 0
  have p1 := hP.cell 1
  have lp := hP.lt
  simp only [List.getElem?_toArray, List.getElem?_cons_zero, List.getElem?_cons_succ] at p0 p1
  have H1 := hide (H1.out.below hb2)
  have H2 := hide hr2.vals
  clear hr2 hb2
  go_wp2_with fail
  refine (HT.out _ hB).mono ?_
  rintro e w3 ⟨hb3, v3, rfl, hr3⟩
  obtain ⟨D3, q3, rfl, _, _⟩ := hr3.shape
  have hP := hP.below hb3 lp
  have hB := hB.trans (hb3.mono hB.size)
  have p0 := hP.cell 0
  have p1 := hP.cell 1
  have lp := hP.lt
  simp only [List.getElem?_toArray, List.getElem?_cons_zero, List.getElem?_cons_succ] at p0 p1
  have H1 := hide (H1.out.below hb3)
  have H2 := hide (H2.out.below hb3)
  have H3 := hide hr3.nodes
  clear hr3 hb3
  go_wp2_with fail
  refine (HCp.out _ hB).mono ?_
  rintro e w4 ⟨rfl, hb4⟩
  have hP := hP.below hb4 lp
  have hB := hB.trans (hb4.mono hB.size)
  have p0 := hP.cell 0
  have p1 := hP.cell 1
  have lp := hP.lt
  simp only [List.getElem?_toArray, List.getElem?_cons_zero, List.getElem?_cons_succ] at p0 p1
  have H1 := hide (H1.out.below hb4)
  have H2 := hide (H2.out.below hb4)
  have H3 := hide (H3.out.below hb4)
  clear hb4
  go_upto_region 10 with fail
  refine wp_region_held_drew (S := fun w' => w'.cell? ⟨w.heap.size, 0, none⟩ = some (.int .i64 regs) ∧ w'.cell? ⟨w.heap.size, 1, none⟩ = some (.slice A l.length cap)) (by kernel_rfl) ⟨p0, p1⟩ ?_
  intro hHeld
  refine wpAnyH_take (i := 0) (v := ?_) rfl (by kernel_rfl) (by kernel_rfl) (by kernel_rfl) (fun _ _ _ h => h) (Or.inl ⟨by rfl, ?_⟩) hHeld ?_; rotate_left; (focus (intro w' hSw; (try dsimp only at hSw); go_simp; try with_reducible rfl))
  try simp only [List.getElem_toArray, List.getElem_cons_zero, List.getElem_cons_succ, Act.put, List.setIfInBounds_toArray, List.set_cons_zero, List.set_cons_succ]
  refine wpAnyH_take (i := 1) (v := ?_) rfl (by kernel_rfl) (by kernel_rfl) (by kernel_rfl) (fun _ _ _ h => h) (Or.inl ⟨by rfl, ?_⟩) hHeld ?_; rotate_left; (focus (intro w' hSw; (try dsimp only at hSw); go_simp; try with_reducible rfl))
  try simp only [List.getElem_toArray, List.getElem_cons_zero, List.getElem_cons_succ, Act.put, List.setIfInBounds_toArray, List.set_cons_zero, List.set_cons_succ]
  refine wpAnyH_take (i := 3) (v := ?_) rfl (by kernel_rfl) (by kernel_rfl) (by kernel_rfl) (fun _ _ _ h => h) (Or.inl ⟨by rfl, ?_⟩) hHeld ?_; rotate_left; (focus (intro w' hSw; (try dsimp only at hSw); go_simp; try with_reducible rfl))
  try simp only [List.getElem_toArray, List.getElem_cons_zero, List.getElem_cons_succ, Act.put, List.setIfInBounds_toArray, List.set_cons_zero, List.set_cons_succ]
  refine wpAnyH_take (i := 4) (v := ?_) rfl (by kernel_rfl) (by kernel_rfl) (by kernel_rfl) (fun _ _ _ h => h) (Or.inl ⟨by rfl, ?_⟩) hHeld ?_; rotate_left; (focus (intro w' hSw; (try dsimp only at hSw); go_simp; try with_reducible rfl))
  try simp only [List.getElem_toArray, List.getElem_cons_zero, List.getElem_cons_succ, Act.put, List.setIfInBounds_toArray, List.set_cons_zero, List.set_cons_succ]
  refine wpAnyH_ready (rs := [2]) (by kernel_rfl) (by simp) ?_
  refine AllReadyH.cons rfl (fun K hK => ?_) AllReadyH.nil
  have HK2 := hide hK
  clear hK
  go_simp
  go_at_call 36
  refine (HNo.out _ hB.drew).mono ?_
  rintro e w41 ⟨v41, rfl, hr41, hb41⟩
  obtain ⟨D41, q41, rfl, _, _⟩ := hr41.shape
  rw [ints_length] at hr41 ⊢
  have hb41 : Below w4.heap.size w4 w41 := ((Below.refl w4.heap.size w4).drew).trans hb41
  clear hHeld
  have hP := hP.below hb41 lp
  have hB := hB.trans (hb41.mono hB.size)
  have p0 := hP.cell 0
  have p1 := hP.cell 1
  have lp := hP.lt
  simp only [List.getElem?_toArray, List.getElem?_cons_zero, List.getElem?_cons_succ] at p0 p1
  have H1 := hide (H1.out.below hb41)
  have H2 := hide (H2.out.below hb41)
  have H3 := hide (H3.out.below hb41)
  have H13 := hide hr41.vals
  clear hr41 hb41
  have hHeld : w41.cell? ⟨w.heap.size, 0, none⟩ = some (.int .i64 regs) ∧ w41.cell? ⟨w.heap.size, 1, none⟩ = some (.slice A l.length cap) := ⟨p0, p1⟩
  refine Shut.out HK2.out _ _ hHeld (fun _ => ?_)
  try simp only [List.getElem_toArray, List.getElem_cons_zero, List.getElem_cons_succ, Act.put, List.setIfInBounds_toArray, List.set_cons_zero, List.set_cons_succ]
  clear HK2
  refine wpAnyH_ready (rs := [5]) (by kernel_rfl) (by simp) ?_
  refine AllReadyH.cons rfl (fun K hK => ?_) AllReadyH.nil
  have HK5 := hide hK
  clear hK
  go_simp
  go_at_call 37
  refine (HAo.out _ hB).mono ?_
  rintro e w42 ⟨v42, rfl, hr42, hb42⟩
  obtain ⟨D42, q42, rfl, _, _⟩ := hr42.shape
  rw [ints_length] at hr42 ⊢
  clear hHeld
  have hP := hP.below hb42 lp
  have hB := hB.trans (hb42.mono hB.size)
  have p0 := hP.cell 0
  have p1 := hP.cell 1
  have lp := hP.lt
  simp only [List.getElem?_toArray, List.getElem?_cons_zero, List.getElem?_cons_succ] at p0 p1
  have H1 := hide (H1.out.below hb42)
  have H2 := hide (H2.out.below hb42)
  have H3 := hide (H3.out.below hb42)
  have H13 := hide (H13.out.below hb42)
  have H14 := hide hr42.vals
  clear hr42 hb42
  have hHeld : w42.cell? ⟨w.heap.size, 0, none⟩ = some (.int .i64 regs) ∧ w42.cell? ⟨w.heap.size, 1, none⟩ = some (.slice A l.length cap) := ⟨p0, p1⟩
  refine Shut.out HK5.out _ _ hHeld (fun _ => ?_)
  try simp only [List.getElem_toArray, List.getElem_cons_zero, List.getElem_cons_succ, Act.put, List.setIfInBounds_toArray, List.set_cons_zero, List.set_cons_succ]
  clear HK5
  refine wpAnyH_take (i := 6) (v := ?_) rfl (by kernel_rfl) (by kernel_rfl) (by kernel_rfl) (fun _ _ _ h => h) (Or.inl ⟨by rfl, ?_⟩) hHeld ?_; rotate_left; (focus (intro w' hSw; (try dsimp only at hSw); go_simp; try with_reducible rfl))
  try simp only [List.getElem_toArray, List.getElem_cons_zero, List.getElem_cons_succ, Act.put, List.setIfInBounds_toArray, List.set_cons_zero, List.set_cons_succ]
  refine wpAnyH_take (i := 7) (v := ?_) rfl (by kernel_rfl) (by kernel_rfl) (by kernel_rfl) (fun _ _ _ h => h) (Or.inl ⟨by rfl, ?_⟩) hHeld ?_; rotate_left; (focus (intro w' hSw; (try dsimp only at hSw); go_simp; try with_reducible rfl))
  try simp only [List.getElem_toArray, List.getElem_cons_zero, List.getElem_cons_succ, Act.put, List.setIfInBounds_toArray, List.set_cons_zero, List.set_cons_succ]
  refine wpAnyH_done (by kernel_rfl) ?_ _
  clear hHeld
  go_wp2_with fail
  refine (HTo.out _ hB).mono ?_
  rintro e w5 ⟨hb5, v5, rfl, hr5⟩
  obtain ⟨D5, q5, rfl, _, _⟩ := hr5.shape
  have hP := hP.below hb5 lp
  have hB := hB.trans (hb5.mono hB.size)
  have p0 := hP.cell 0
  have p1 := hP.cell 1
  have lp := hP.lt
  simp only [List.getElem?_toArray, List.getElem?_cons_zero, List.getElem?_cons_succ] at p0 p1
  have H1 := hide (H1.out.below hb5)
  have H2 := hide (H2.out.below hb5)
  have H3 := hide (H3.out.below hb5)
  have H13 := hide (H13.out.below hb5)
  have H14 := hide (H14.out.below hb5)
  have H5 := hide hr5.nodes
  clear hr5 hb5
  have hgd := guardTerm
  have hnn : ((ts.length : Int) != (ts.length : Int)) = false := by simp
  go_wp2_with fail
  go_loopg [16] (ts.length) (fun gk i wr => ∃ j : Nat, j ≤ ts.length ∧ i = .int .i64 j ∧ gk = ts.length - j ∧ ∃ d, wr = w5.drewN d)
  case atStart => exact ⟨0, Nat.zero_le _, rfl, rfl, 0, rfl⟩
  case round =>
    obtain ⟨j, hj, rfl, hgk, d, rfl⟩ := hrel
    have Hgk := hide hgk
    clear hgk
    by_cases hjl : j < ts.length
    · obtain ⟨a1, a2, y, rfl, ha, hy, hyl⟩ := H3.out.get hjl
      obtain ⟨b1, b2, y', rfl, hb, hy', hyl'⟩ := H5.out.get hjl
      obtain rfl : y = y' := by rw [hy] at hy'; injection hy'
      obtain ⟨y0, y1, y2⟩ := hyl
      obtain ⟨z0, z1, z2⟩ := hyl'
      have v0 : (0 : Int) ≤ (j : Int) := by omega
      have v1 : (j : Int) < (ts.length : Int) := by omega
      have hEq : ∀ W, (Op.equalIn 10000 47 (.agg #[.int .i64 y.op, .int .i64 y.a, .int .i64 y.b]) (.agg #[.int .i64 y.op, .int .i64 y.a, .int .i64 y.b])).run Try.prog W = .ok true W := fun W => by have h := run_eq_term y y W; rw [show (y == y) = true by simp] at h; exact h
      clear hy hy'
      go_upto_region 19 with fail
      go_quiet (fail)
      go_wp2_with fail
      go_roundg (ts.length - (j + 1))
      case measure => have := Hgk.out; omega
      case rel => exact ⟨j + 1, by omega, by go_num, rfl, _, rfl⟩
    · have hjj : j = ts.length := by omega
      subst hjj
      have hB := below_drewN hB d
      have H1 := hide (H1.out.below (below_drewN (Below.refl _ _) d))
      have H2 := hide (H2.out.below (below_drewN (Below.refl _ _) d))
      have hP : Blk (w5.drewN d) w.heap.size 24 #[.int .i64 regs, .slice A l.length cap] := hP.drewN d
      have p0 := hP.cell 0
      have p1 := hP.cell 1
      have lp := hP.lt
      simp only [List.getElem?_toArray, List.getElem?_cons_zero, List.getElem?_cons_succ] at p0 p1
      have H13 := hide (H13.out.below (below_drewN (Below.refl _ _) d))
      have H14 := hide (H14.out.below (below_drewN (Below.refl _ _) d))
      go_wp2_with fail
      refine (progBegun_any _).mono ?_
      rintro e w6 ⟨rfl, hb6⟩
      have hP := hP.below hb6 lp
      have hB := hB.trans (hb6.mono hB.size)
      have p0 := hP.cell 0
      have p1 := hP.cell 1
      have lp := hP.lt
      simp only [List.getElem?_toArray, List.getElem?_cons_zero, List.getElem?_cons_succ] at p0 p1
      have H1 := hide (H1.out.below hb6)
      have H2 := hide (H2.out.below hb6)
      have H13 := hide (H13.out.below hb6)
      have H14 := hide (H14.out.below hb6)
      clear hb6
      go_wp2_with fail
      refine (HCk.out _ hB).mono ?_
      rintro e w7 ⟨rfl, hb7⟩
      have hP := hP.below hb7 lp
      have hB := hB.trans (hb7.mono hB.size)
      have p0 := hP.cell 0
      have p1 := hP.cell 1
      have lp := hP.lt
      simp only [List.getElem?_toArray, List.getElem?_cons_zero, List.getElem?_cons_succ] at p0 p1
      have H1 := hide (H1.out.below hb7)
      have H2 := hide (H2.out.below hb7)
      have H13 := hide (H13.out.below hb7)
      have H14 := hide (H14.out.below hb7)
      clear hb7
      go_wp2_with fail
      refine (SameInts_any D1 D41 q1 q41 X X w7 H1.out H13.out (by simp [maxLen] <;> omega) (by simp [maxLen] <;> omega)).mono ?_
      rw [show (X == X) = true by simp]
      rintro e w8 ⟨rfl, d1, rfl⟩
      go_wp2_with fail
      refine (SameInts_any D2 D42 q2 q42 Y Y (w7.drewN d1) (H2.out.below (below_drewN (Below.refl _ _) d1)) (H14.out.below (below_drewN (Below.refl _ _) d1)) (by simp [maxLen] <;> omega) (by simp [maxLen] <;> omega)).mono ?_
      rw [show (Y == Y) = true by simp]
      rintro e w9 ⟨rfl, d2, rfl⟩
      go_wp2_with fail
      go_ret
      exact ⟨rfl, below_drewN hB _⟩
theorem ProgChecks_any (regs : Int) (A : Option Addr) (l : List Nd) (cap : Nat) (n : Int) (w : World) (hA : NodesAt w A l) (hml : l.length ≤ maxLen) :
    Calls Try.prog 7 #[.agg #[.int .i64 regs, .slice A l.length cap], .int .i64 n] w fun e w' => e = .returned (.bool true) ∧ Below w.heap.size w w' := by
  by_cases hc : chk regs l = 0
  · by_cases h0 : n < 0
    · exact progLaw_neg regs A l cap n w hA hml hc h0
    · by_cases h1 : (l.length : Int) ≤ n
      · exact progLaw_far regs A l cap n w hA hml hc h0 h1
      · obtain ⟨k, rfl⟩ := Int.eq_ofNat_of_zero_le (show 0 ≤ n by omega)
        exact progLaw_in regs A l cap k w hA hml hc (by omega)
  · exact progLaw_err regs A l cap n w hA hml hc
end Go.Proofs.Ytmghkonmfbpjcaa
