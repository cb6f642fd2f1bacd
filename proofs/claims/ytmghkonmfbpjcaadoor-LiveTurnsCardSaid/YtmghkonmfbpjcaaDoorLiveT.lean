/- LiveTurns: the law, walked. -/
import Derived.Test.YtmghkonmfbpjcaaDoorLiveX
import Derived.Test.YtmghkonmfbpjcaaDoorCheckP
namespace Go.Proofs.YtmghkonmfbpjcaaDoor
set_option linter.unusedVariables false
set_option linter.unusedSimpArgs false
open Go.RowKit
set_option maxHeartbeats 4000000
attribute [local irreducible] Row madeCells

theorem Lies.from_ {w w4 W : World} (h : Below w.heap.size w w4) (hL : Lies w4 W) : Below w.heap.size w W := Below.trans h (Below.mono hL h.size)
theorem Lies.below_ {w4 W : World} (hL : Lies w4 W) : Below w4.heap.size w4 W := hL

set_option maxRecDepth 100000 in
theorem turns_err (regs : Int) (A : Option Addr) (l : List Nd) (cap : Nat) (w : World) (hA : NodesAt w A l) (hml : l.length ≤ maxLen) (hc : chk regs l ≠ 0) (hT : Tz w) :
    Calls Tryd.prog 3 #[.agg #[.int .i64 regs, .slice A l.length cap]] w fun e w' => e = .returned (.bool true) ∧ Below w.heap.size w w' := by
  have hL := fun W (hW : Below w.heap.size w W) => Live_err regs A l cap W (hA.below hW) hml hc
  have hD := fun W (hW : Below w.heap.size w W) => Dead_err regs A l cap W (hA.below hW) hml hc
  have hC := fun W (hW : Below w.heap.size w W) => CheckProg_any regs A l cap W (hA.below hW)
  have HL := hide hL
  have HD := hide hD
  have HC := hide hC
  have HT := hide hT
  clear hL hD hC hT
  generalize chk regs l = fe at *
  have hne : (fe != 0) = true := by simpa using hc
  have hself : (fe == fe) = true := by simp
  clear hc
  go_enter Tryd.func3, Tryd.ntmps3
  go_wp2_with fail
  refine (HL.out _ (by repeat (first | (with_reducible exact Below.refl _ _) | (with_reducible assumption) | (with_reducible refine Below.drew ?_) | (with_reducible refine below_drewN ?_ _) | (with_reducible refine Below.alloc ?_ (by (try simp only [World.size_alloc, World.size_setCell, World.size_drew, World.heap_drewN]); (first | done | omega | ((try simp only [World.size_alloc, World.size_setCell, World.size_drew, World.heap_drewN] at *); omega))) _) | (with_reducible refine Below.setCell ?_ (by (try simp only [World.size_alloc, World.size_setCell, World.size_drew, World.heap_drewN]); (first | done | omega | ((try simp only [World.size_alloc, World.size_setCell, World.size_drew, World.heap_drewN] at *); omega))) _) | (with_reducible refine Below.trans ?_ (Below.mono (by assumption) (by (try simp only [World.size_alloc, World.size_setCell, World.size_drew, World.heap_drewN]); (first | done | omega | ((try simp only [World.size_alloc, World.size_setCell, World.size_drew, World.heap_drewN] at *); omega)))))))).mono ?_
  rintro e w1 ⟨rfl, hb1⟩
  have hz1 := hb1.size
  simp only [World.size_alloc] at hz1
  have hP1 : Blk w1 w.heap.size 24 #[.int .i64 regs, .slice A l.length cap] := Blk.below (Blk.new' rfl) hb1 (by simp)
  have hB1 : Below w.heap.size w w1 := (by repeat (first | (with_reducible exact Below.refl _ _) | (with_reducible assumption) | (with_reducible refine Below.drew ?_) | (with_reducible refine below_drewN ?_ _) | (with_reducible refine Below.alloc ?_ (by (try simp only [World.size_alloc, World.size_setCell, World.size_drew, World.heap_drewN]); (first | done | omega | ((try simp only [World.size_alloc, World.size_setCell, World.size_drew, World.heap_drewN] at *); omega))) _) | (with_reducible refine Below.setCell ?_ (by (try simp only [World.size_alloc, World.size_setCell, World.size_drew, World.heap_drewN]); (first | done | omega | ((try simp only [World.size_alloc, World.size_setCell, World.size_drew, World.heap_drewN] at *); omega))) _) | (with_reducible refine Below.trans ?_ (Below.mono (by assumption) (by (try simp only [World.size_alloc, World.size_setCell, World.size_drew, World.heap_drewN]); (first | done | omega | ((try simp only [World.size_alloc, World.size_setCell, World.size_drew, World.heap_drewN] at *); omega)))))))
  have p0 := hP1.cell 0
  have p1 := hP1.cell 1
  have lp := hP1.lt
  simp only [List.getElem?_toArray, List.getElem?_cons_zero, List.getElem?_cons_succ] at p0 p1
  clear hb1
  go_wp2_with fail
  refine (HD.out _ hB1).mono ?_
  rintro e w2 ⟨rfl, hb2⟩
  have hz2 := hb2.size
  have hB2 : Below w.heap.size w w2 := hB1.trans (hb2.mono (by omega))
  have hP2 := hP1.below hb2 lp
  have q0 := hP2.cell 0
  have q1 := hP2.cell 1
  have lq := hP2.lt
  simp only [List.getElem?_toArray, List.getElem?_cons_zero, List.getElem?_cons_succ] at q0 q1
  clear hb2 p0 p1
  go_wp2_with fail
  refine (HC.out _ (hB2.alloc (by omega) _)).mono ?_
  rintro e w3 ⟨rfl, hb3⟩
  have hz3 := hb3.size
  simp only [World.size_alloc] at hz3
  have hQ3 : Blk w3 w2.heap.size 24 #[.int .i64 0, .slice none 0 0] := Blk.below (Blk.new' rfl) hb3 (by simp)
  have r0 := hQ3.cell 0
  have r1 := hQ3.cell 1
  have lr := hQ3.lt
  simp only [List.getElem?_toArray, List.getElem?_cons_zero, List.getElem?_cons_succ] at r0 r1
  have hB3 : Below w.heap.size w w3 := (hB2.alloc (by omega) _).trans (hb3.mono (by simp; omega))
  clear hb3
  go_wp2_with fail
  refine (liveBegun_any w3 (HT.out.below' hB3)).mono ?_
  rintro e w4 ⟨rfl, hb4⟩
  have hz4 := hb4.size
  have hB4 := hB3.trans (hb4.mono (by omega))
  have hQ4 := hQ3.below hb4 lr
  have s0 := hQ4.cell 0
  have s1 := hQ4.cell 1
  simp only [List.getElem?_toArray, List.getElem?_cons_zero, List.getElem?_cons_succ] at s0 s1
  clear hb4 r0 r1
  go_wp2_with fail
  refine (SameProgs_any 0 0 none none [] [] 0 0 w4 NodesAt.nil NodesAt.nil (by simp) (by simp)).mono ?_
  rintro e w5 ⟨rfl, hb5⟩
  go_wp2_with fail
  go_ret
  exact ⟨rfl, (by repeat (first | (with_reducible exact Below.refl _ _) | (with_reducible assumption) | (with_reducible refine Below.drew ?_) | (with_reducible refine below_drewN ?_ _) | (with_reducible refine Below.alloc ?_ (by (try simp only [World.size_alloc, World.size_setCell, World.size_drew, World.heap_drewN]); (first | done | omega | ((try simp only [World.size_alloc, World.size_setCell, World.size_drew, World.heap_drewN] at *); omega))) _) | (with_reducible refine Below.setCell ?_ (by (try simp only [World.size_alloc, World.size_setCell, World.size_drew, World.heap_drewN]); (first | done | omega | ((try simp only [World.size_alloc, World.size_setCell, World.size_drew, World.heap_drewN] at *); omega))) _) | (with_reducible refine Below.trans ?_ (Below.mono (by assumption) (by (try simp only [World.size_alloc, World.size_setCell, World.size_drew, World.heap_drewN]); (first | done | omega | ((try simp only [World.size_alloc, World.size_setCell, World.size_drew, World.heap_drewN] at *); omega)))))))⟩

set_option maxRecDepth 100000 in
theorem turns_ok (regs : Int) (A : Option Addr) (l : List Nd) (cap : Nat) (w : World) (hA : NodesAt w A l) (hml : l.length ≤ maxLen) (hc : chk regs l = 0) (hT : Tz w) :
    Calls Tryd.prog 3 #[.agg #[.int .i64 regs, .slice A l.length cap]] w fun e w' => e = .returned (.bool true) ∧ Below w.heap.size w w' := by
  have hR := right_of_chk hc
  have hlo := hR.lo
  have hhi := hR.hi
  have hL := fun W (hW : Below w.heap.size w W) => Live_ok regs A l cap W (hA.below hW) hR hc (hT.below' hW)
  have hD := fun W (hW : Below w.heap.size w W) => Dead_ok regs A l cap W (hA.below hW) hR hc
  have hC := fun W (hW : Below w.heap.size w W) => CheckProg_any regs A l cap W (hA.below hW)
  have hLO := fun W (hW : Below w.heap.size w W) => LiveOf_any regs A l cap W (hA.below hW) hR
  have hDO := fun W (hW : Below w.heap.size w W) => DeadOf_any regs A l cap W (hA.below hW) hR
  rw [hc] at hC
  have HL := hide hL
  have HD := hide hD
  have HC := hide hC
  have HLO := hide hLO
  have HDO := hide hDO
  have HT := hide hT
  have HR := hR
  clear hL hD hC hLO hDO hT hc hR hA
  go_enter Tryd.func3, Tryd.ntmps3
  go_wp2_with fail
  refine (HL.out _ (by repeat (first | (with_reducible exact Below.refl _ _) | (with_reducible assumption) | (with_reducible refine Below.drew ?_) | (with_reducible refine below_drewN ?_ _) | (with_reducible refine Below.alloc ?_ (by (try simp only [World.size_alloc, World.size_setCell, World.size_drew, World.heap_drewN]); (first | done | omega | ((try simp only [World.size_alloc, World.size_setCell, World.size_drew, World.heap_drewN] at *); omega))) _) | (with_reducible refine Below.setCell ?_ (by (try simp only [World.size_alloc, World.size_setCell, World.size_drew, World.heap_drewN]); (first | done | omega | ((try simp only [World.size_alloc, World.size_setCell, World.size_drew, World.heap_drewN] at *); omega))) _) | (with_reducible refine Below.trans ?_ (Below.mono (by assumption) (by (try simp only [World.size_alloc, World.size_setCell, World.size_drew, World.heap_drewN]); (first | done | omega | ((try simp only [World.size_alloc, World.size_setCell, World.size_drew, World.heap_drewN] at *); omega)))))))).mono ?_
  rintro e w1 ⟨v1, rfl, hI1, hb1⟩
  have hz1 := hb1.size
  simp only [World.size_alloc] at hz1
  have hP1 : Blk w1 w.heap.size 24 #[.int .i64 regs, .slice A l.length cap] := Blk.below (Blk.new' rfl) hb1 (by simp)
  have hB1 : Below w.heap.size w w1 := (by repeat (first | (with_reducible exact Below.refl _ _) | (with_reducible assumption) | (with_reducible refine Below.drew ?_) | (with_reducible refine below_drewN ?_ _) | (with_reducible refine Below.alloc ?_ (by (try simp only [World.size_alloc, World.size_setCell, World.size_drew, World.heap_drewN]); (first | done | omega | ((try simp only [World.size_alloc, World.size_setCell, World.size_drew, World.heap_drewN] at *); omega))) _) | (with_reducible refine Below.setCell ?_ (by (try simp only [World.size_alloc, World.size_setCell, World.size_drew, World.heap_drewN]); (first | done | omega | ((try simp only [World.size_alloc, World.size_setCell, World.size_drew, World.heap_drewN] at *); omega))) _) | (with_reducible refine Below.trans ?_ (Below.mono (by assumption) (by (try simp only [World.size_alloc, World.size_setCell, World.size_drew, World.heap_drewN]); (first | done | omega | ((try simp only [World.size_alloc, World.size_setCell, World.size_drew, World.heap_drewN] at *); omega)))))))
  have p0 := hP1.cell 0
  have p1 := hP1.cell 1
  have lp := hP1.lt
  simp only [List.getElem?_toArray, List.getElem?_cons_zero, List.getElem?_cons_succ] at p0 p1
  have HI1 := hide hI1
  clear hb1 hI1
  go_wp2_with fail
  refine (HD.out _ hB1).mono ?_
  rintro e w2 ⟨v2, l2, rfl, hDl, hll, hN2, hb2⟩
  obtain ⟨A2, c2, rfl, _, _⟩ := hN2.shape
  have Hll := hide hll
  rw [hll] at hN2 ⊢
  clear hll
  have hz2 := hb2.size
  have hB2 : Below w.heap.size w w2 := hB1.trans (hb2.mono (by omega))
  have hP2 := hP1.below hb2 lp
  have q0 := hP2.cell 0
  have q1 := hP2.cell 1
  have lq := hP2.lt
  simp only [List.getElem?_toArray, List.getElem?_cons_zero, List.getElem?_cons_succ] at q0 q1
  have HI2 := hide (HI1.out.below hb2)
  have HN2 := hide hN2
  have HDl := hide hDl
  have ln2 : ∀ k, (Value.slice A2 l.length c2).ownBlock = some k → k < w2.heap.size := fun k hk => (hN2.lt k hk).2
  clear hb2 p0 p1 hDl hN2 hP1
  go_wp2_with fail
  refine (HC.out _ (hB2.alloc (by omega) _)).mono ?_
  rintro e w3 ⟨rfl, hb3⟩
  have hz3 := hb3.size
  simp only [World.size_alloc] at hz3
  have hb23 : Below w2.heap.size w2 w3 := ((Below.refl _ _).alloc (Nat.le_refl _) _).trans (hb3.mono (by simp))
  have hQ3 : Blk w3 w2.heap.size 24 #[.int .i64 regs, .slice A2 l.length c2] := Blk.below (Blk.new' rfl) hb3 (by simp)
  have hP3 := hP2.below hb23 lq
  have HI3 := hide (HI2.out.below hb23)
  have HN3 := hide (HN2.out.below' hb23)
  have lq3 := hP3.lt
  have q0' := hP3.cell 0
  have q1' := hP3.cell 1
  simp only [List.getElem?_toArray, List.getElem?_cons_zero, List.getElem?_cons_succ] at q0' q1'
  have lr := hQ3.lt
  have hB3 : Below w.heap.size w w3 := hB2.trans (hb23.mono (by omega))
  have HQ3 := hide hQ3
  have HP3 := hide hP3
  clear hb3 hb23 q0 q1 HI2 HN2 hQ3 hP2 hP3
  go_wp2_with fail
  refine (HLO.out _ hB3).mono ?_
  rintro e w4 ⟨v4, rfl, hI4, hb4⟩
  have hz4 := hb4.size
  have hB4 : Below w.heap.size w w4 := hB3.trans (hb4.mono (by omega))
  have HI1' := hide (HI3.out.below hb4)
  have HI4 := hide hI4
  have HN4 := hide (HN3.out.below' hb4)
  have HQ4 := hide (HQ3.out.below hb4 lr)
  have HP4 := hide (HP3.out.below hb4 lq3)
  obtain ⟨g1, o1, cp1, _, _, hv1, _, _, _⟩ := HI1'.out.row (i := 0) (by omega)
  obtain ⟨g4, o4, cp4, _, _, hv4, _, _, _⟩ := HI4.out.row (i := 0) (by omega)
  subst hv1 hv4
  have hne : ((l.length : Int) != (l.length : Int)) = false := by simp
  clear hb4 hI4 q0' q1' HI3 HN3 HQ3 HP3 lq3 lr
  go_wp2_with fail
  go_loopg [9] (l.length) (fun gk i wr => ∃ k : Nat, k ≤ l.length ∧ i = .int .i64 k ∧ gk = l.length - k ∧ Below w4.heap.size w4 wr)
  case atStart => exact ⟨0, Nat.zero_le _, rfl, rfl, Below.refl _ _⟩
  case round =>
    obtain ⟨k, hk, rfl, hgk, hbr⟩ := hrel
    have Hgk := hide hgk
    clear hgk
    by_cases hlt : k < l.length
    · obtain ⟨_, _, _, R1, k1, e1, hg1, hc1, hr1⟩ := HI1'.out.row (i := k) hlt
      obtain ⟨_, _, _, R4, k4, e4, hg4, hc4, hr4⟩ := HI4.out.row (i := k) hlt
      injection e1 with e1 e2 e3
      injection e1 with e1
      injection e1 with e1 e5
      subst e1 e5
      injection e4 with e4 e6 e7
      injection e4 with e4
      injection e4 with e4 e8
      subst e4 e8
      clear e2 e3 e6 e7
      have hll2 : (liveL regs.toNat l k).length ≤ maxLen := by
        have := sel_len (fun r => yn (lvx l r) k) regs.toNat
        have := HR.rhi
        unfold liveL maxLen
        omega
      have hc1' := ((bcell hbr).1 _ _ hg1).trans hc1
      have hc4' := ((bcell hbr).1 _ _ hg4).trans hc4
      have hr1' := hr1.below hbr
      have hr4' := hr4.below hbr
      have hS := fun (n : Nat) => SameInts_any R1 R4 k1 k4 (liveL regs.toNat l k) (liveL regs.toNat l k) (wr.drewN n) hr1' hr4' hll2 hll2
      have hself : (liveL regs.toNat l k == liveL regs.toNat l k) = true := by simp
      rw [hself] at hS
      have HS := hide hS
      have i0 : (0 : Int) ≤ (k : Int) := by omega
      have i1 : (k : Int) < (l.length : Int) := by omega
      have hg1' := Nat.lt_of_lt_of_le hg1 hbr.size
      have hg4' := Nat.lt_of_lt_of_le hg4 hbr.size
      clear hS hself hr1 hr4 hll2 hr1' hr4' hc1 hc4 hg1 hg4
      generalize liveL regs.toNat l k = L at *
      go_wp2_with fail
      go_quiet ((go_at_call 11; exact Calls.quiet_of (HS.out _)))
      go_wp2_with fail
      go_roundg (l.length - (k + 1))
      case measure => have := Hgk.out; omega
      case rel => exact ⟨k + 1, by omega, by go_num, rfl, below_drewN hbr _⟩
    · go_wp2_with fail
      have q0 := (HQ4.out.below hbr HQ4.out.lt).cell 0
      have q1 := (HQ4.out.below hbr HQ4.out.lt).cell 1
      have p0 := (HP4.out.below hbr HP4.out.lt).cell 0
      have p1 := (HP4.out.below hbr HP4.out.lt).cell 1
      simp only [List.getElem?_toArray, List.getElem?_cons_zero, List.getElem?_cons_succ] at q0 q1 p0 p1
      have lq4 := HQ4.out.lt
      have lp4 := HP4.out.lt
      have hL4 : Lies w4 wr := hbr
      have HB4 := hide hB4
      clear hbr hB4
      go_region_held3 (fun w' => w'.cell? ⟨w.heap.size, 0, none⟩ = some (.int .i64 regs) ∧ w'.cell? ⟨w.heap.size, 1, none⟩ = some (.slice A l.length cap) ∧
          w'.cell? ⟨w2.heap.size, 0, none⟩ = some (.int .i64 regs) ∧ w'.cell? ⟨w2.heap.size, 1, none⟩ = some (.slice A2 l.length c2) ∧ Lies w4 w')
        (((try go_split_ands); (try dsimp only); (repeat' apply And.intro) <;> (first | assumption | go_keep | (exact Lies.drew (by assumption)) | (exact Lies.step (by assumption) (by assumption)) | (rw [hc7 _ _ (Nat.lt_of_lt_of_le lq4 (Below.size (by assumption : Lies w4 _)))]; assumption) | (rw [hc7 _ _ (Nat.lt_of_lt_of_le lp4 (Below.size (by assumption : Lies w4 _)))]; assumption))))
        (first
          | (go_at_call 8; (try go_split_ands); refine (liveBegun_any _ (HT.out.below' (Lies.from_ HB4.out (by assumption)))).mono ?_; rintro e w7 ⟨rfl, hb7⟩; obtain ⟨hc7, hf7⟩ := bcell hb7)
          | (go_at_call 12; (try go_split_ands); refine (HDO.out _ (Lies.from_ HB4.out (by assumption))).mono ?_; rintro e w7 ⟨v8, l8, rfl, hD8, hl8, hN8, hb7⟩; obtain ⟨A8, c8, rfl, _, _⟩ := hN8.shape; rw [hl8]; have hl28 := HDl.out.unique hD8; subst hl28; obtain ⟨hc7, hf7⟩ := bcell hb7)
          | (go_at_call 9; (try go_split_ands); have hS := SameProgs_any regs regs A2 A8 l2 l2 c2 c8 _ (HN4.out.nodes.below (Lies.below_ (by assumption))) hN8.nodes (by rw [Hll.out]; exact hml) (by rw [Hll.out]; exact hml); rw [Hll.out, show (regs == regs && l2 == l2) = true by simp] at hS; refine hS.mono ?_; rintro e w7 ⟨rfl, hb7⟩; obtain ⟨hc7, hf7⟩ := bcell hb7))
      all_goals (try go_split_ands)
      all_goals (go_wp2_with fail)
      all_goals go_ret
      all_goals exact ⟨rfl, Lies.from_ HB4.out (by assumption)⟩
end Go.Proofs.YtmghkonmfbpjcaaDoor
