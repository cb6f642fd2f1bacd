/- Mz. -/
import Derived.Test.YtmghkonmfbpjcabGreatGI
import Derived.Test.YtmghkonmfbpjcabGreatMvX
import Derived.Deep.DeepCutAuto
import Derived.Test.YtmghkonmfbpjcabGreatGA
set_option linter.unusedVariables false
set_option linter.unusedSimpArgs false
set_option maxRecDepth 100000
namespace Go.Proofs.YtmghkonmfbpjcabGreat
section
open Go.RowKit
set_option maxHeartbeats 8000000
attribute [local irreducible] Row madeCells NRow
theorem appliesLaw_any (regs : Int) (A : Option Addr) (l : List Nd) (cap : Nat) (t : Tm) (X Y : Option Addr) (pt tk : List Bool) (xc yc : Nat) (w : World) (hml : l.length ≤ maxLen) (hA : NodesAt w A l) (hX : ValsAt w X (bools pt)) (hY : ValsAt w Y (bools tk)) :
 Calls Tryz.prog 4 #[.agg #[.int .i64 regs, .slice A l.length cap], .agg #[.int .i64 t.op, .int .i64 t.a, .int .i64 t.b], .agg #[.slice X pt.length xc, .slice Y tk.length yc]] w fun e w' => e = .returned (.bool true) ∧ Below w.heap.size w w' := by (
 have HAp := hide (fun W (hW : Below w.heap.size w W) => (Apply_any regs A l cap t X Y pt tk xc yc W hml (hA.below hW) (hX.below hW) (hY.below hW)).mono fun _ _ h => MaPost.pg h)
 have HOn := hide (fun W (hW : Below w.heap.size w W) => (One_any regs A l cap t W hml (hA.below hW)).mono fun _ _ h => OnePost.pg h)
 have HAl := hide (fun W (hW : Below w.heap.size w W) => (All_any regs A l cap W hml (hA.below hW)).mono fun _ _ h => AllPost.pg h)
 have HAe := hide (fun W (hW : Below w.heap.size w W) => ApplyError_any regs A l cap t X Y pt tk xc yc W (hA.below hW) (hX.below hW) (hY.below hW))
 have HOo := hide (fun W (hW : Below w.heap.size w W) => (OneOf_any regs A l cap t W (hA.below hW)).mono fun _ _ h => OnePost.pg h)
 have HAlo := hide (fun W (hW : Below w.heap.size w W) => (AllOf_any regs A l cap W hml (hA.below hW)).mono fun _ _ h => AllPost.pg h)
 have HA0 := hide hA
 have HX0 := hide hX
 have HY0 := hide hY
 clear hA hX hY
 go_enter Tryz.func4, Tryz.ntmps4
 go_wp2_with fail
 refine (HAp.out _ (by (with_reducible repeat first | apply Qa | assumption | apply Qb | apply Qc | apply Qd | apply Qe | refine Qf ?_ (by assumption) ?_); all_goals (try simp only [Sz]); first | done | omega | (try simp only [Sz] at *); omega)).mono ?_
 rintro e w1 ⟨hb1, v, rfl, hr⟩
 obtain ⟨aL, haL⟩ : ∃ z, z = maL regs l t pt tk := ⟨_, rfl⟩
 obtain ⟨aR, haR⟩ : ∃ z, z = maR regs l t pt tk := ⟨_, rfl⟩
 rw [← haL] at hr
 rw [← haR]
 have HaL := hide haL
 have HaR := hide haR
 obtain ⟨aA, aa, ae, am, an⟩ := hr.shape
 subst ae
 have Na : aL.length ≤ maxLen := Nat.le_trans am an
 have qa := hr
 clear hr haL haR
 have hz1 := hb1.size
 simp only [World.size_alloc] at hz1
 have hB : Below w.heap.size w w1 := (by (with_reducible repeat first | apply Qa | assumption | apply Qb | apply Qc | apply Qd | apply Qe | refine Qf ?_ (by assumption) ?_); all_goals (try simp only [Sz]); first | done | omega | (try simp only [Sz] at *); omega)
 have hP : Blk w1 w.heap.size 24 #[.int .i64 regs, .slice A l.length cap] := Blk.below (by repeat (first | ((with_reducible refine Blk.new' ?_); exact (by (try simp only [Sz]); first | done | omega | (try simp only [Sz] at *); omega)) | (with_reducible refine Blk.alloc ?_ _))) hb1 (by simp <;> omega)
 have hT : Blk w1 (w.heap.size + 1) 26 (tmA t) := Blk.below (by unfold tmA; repeat (first | ((with_reducible refine Blk.new' ?_); exact (by (try simp only [Sz]); first | done | omega | (try simp only [Sz] at *); omega)) | (with_reducible refine Blk.alloc ?_ _))) hb1 (by simp <;> omega)
 have hL : Blk w1 (w.heap.size + 1 + 1) 29 #[.slice X pt.length xc, .slice Y tk.length yc] := Blk.below (by repeat (first | ((with_reducible refine Blk.new' ?_); exact (by (try simp only [Sz]); first | done | omega | (try simp only [Sz] at *); omega)) | (with_reducible refine Blk.alloc ?_ _))) hb1 (by simp <;> omega)
 clear hb1 hz1
 have hT0 := hL.lt
 go_upto_region 2 with fail
 obtain ⟨W1, hW1⟩ : ∃ W : World, W = w1.alloc (.cells #[.int .i64 aR, .slice aA aL.length aa] 24) := ⟨_, rfl⟩
 have hbW1 : Below w1.heap.size w1 W1 := by rw [hW1]; exact (Below.refl _ _).alloc (Nat.le_refl _) _
 have hKa : Blk W1 w1.heap.size 24 #[.int .i64 aR, .slice aA aL.length aa] := by rw [hW1]; exact Blk.new' rfl
 rw [← hW1]
 replace hP := hP.below hbW1 hP.lt
 replace hT := hT.below hbW1 hT.lt
 replace hL := hL.below hbW1 hL.lt
 replace qa := qa.below' hbW1
 replace hB := hB.trans (hbW1.mono hB.size)
 obtain ⟨ga, hga⟩ : ∃ b, b = w1.heap.size := ⟨_, rfl⟩
 rw [← hga] at hKa ⊢
 have Ga : w.heap.size + 1 + 1 < ga := by omega
 clear hW1 hga hbW1 hT0
 have p0 := hP.cell 0
 have p1 := hP.cell 1
 have t0 := hT.cell 0
 have t1 := hT.cell 1
 have t2 := hT.cell 2
 have l0 := hL.cell 0
 have l1 := hL.cell 1
 simp only [tmA, Yl] at p0 p1 t0 t1 t2 l0 l1
 have lp := hP.lt
 have lt' := hT.lt
 have lL := hL.lt
 go_wp2_with fail
 refine (HOn.out _ hB).mono ?_
 rintro e w2 ⟨hbw2, v, rfl, hr⟩
 clear p0 p1 t0 t1 t2 l0 l1 lp lt' lL
 replace hP := hP.below hbw2 hP.lt
 replace hT := hT.below hbw2 hT.lt
 replace hL := hL.below hbw2 hL.lt
 replace hKa := hKa.below hbw2 hKa.lt
 replace qa := qa.below' hbw2
 replace hB := hB.trans (hbw2.mono hB.size)
 clear hbw2
 obtain ⟨bL, hbL⟩ : ∃ z, z = onL regs l t := ⟨_, rfl⟩
 obtain ⟨bR, hbR⟩ : ∃ z, z = onR regs l t := ⟨_, rfl⟩
 rw [← hbL] at hr
 rw [← hbR]
 have HbL := hide hbL
 have HbR := hide hbR
 obtain ⟨bA, ba, be, bm, bn⟩ := hr.shape
 subst be
 have Nb : bL.length ≤ maxLen := Nat.le_trans bm bn
 have qb := hr
 clear hr hbL hbR
 have hT0 := hL.lt
 go_upto_region 3 with fail
 obtain ⟨W2, hW2⟩ : ∃ W : World, W = w2.alloc (.cells #[.int .i64 bR, .slice bA bL.length ba] 24) := ⟨_, rfl⟩
 have hbW2 : Below w2.heap.size w2 W2 := by rw [hW2]; exact (Below.refl _ _).alloc (Nat.le_refl _) _
 have hKb : Blk W2 w2.heap.size 24 #[.int .i64 bR, .slice bA bL.length ba] := by rw [hW2]; exact Blk.new' rfl
 rw [← hW2]
 replace hP := hP.below hbW2 hP.lt
 replace hT := hT.below hbW2 hT.lt
 replace hL := hL.below hbW2 hL.lt
 replace hKa := hKa.below hbW2 hKa.lt
 replace qa := qa.below' hbW2
 replace qb := qb.below' hbW2
 replace hB := hB.trans (hbW2.mono hB.size)
 obtain ⟨gb, hgb⟩ : ∃ b, b = w2.heap.size := ⟨_, rfl⟩
 rw [← hgb] at hKb ⊢
 have Gb : w.heap.size + 1 + 1 < gb := by omega
 clear hW2 hgb hbW2 hT0
 have p0 := hP.cell 0
 have p1 := hP.cell 1
 have t0 := hT.cell 0
 have t1 := hT.cell 1
 have t2 := hT.cell 2
 have l0 := hL.cell 0
 have l1 := hL.cell 1
 simp only [tmA, Yl] at p0 p1 t0 t1 t2 l0 l1
 have lp := hP.lt
 have lt' := hT.lt
 have lL := hL.lt
 go_wp2_with fail
 refine (HAl.out _ hB).mono ?_
 rintro e w3 ⟨hbw3, v, rfl, hr⟩
 clear p0 p1 t0 t1 t2 l0 l1 lp lt' lL
 replace hP := hP.below hbw3 hP.lt
 replace hT := hT.below hbw3 hT.lt
 replace hL := hL.below hbw3 hL.lt
 replace hKa := hKa.below hbw3 hKa.lt
 replace hKb := hKb.below hbw3 hKb.lt
 replace qa := qa.below' hbw3
 replace qb := qb.below' hbw3
 replace hB := hB.trans (hbw3.mono hB.size)
 clear hbw3
 obtain ⟨cL, hcL⟩ : ∃ z, z = alL regs l := ⟨_, rfl⟩
 obtain ⟨cR, hcR⟩ : ∃ z, z = alR regs l := ⟨_, rfl⟩
 rw [← hcL] at hr
 rw [← hcR]
 have HcL := hide hcL
 have HcR := hide hcR
 obtain ⟨cA, ca, ce, cm, cn⟩ := hr.shape
 subst ce
 have Nc : cL.length ≤ maxLen := Nat.le_trans cm cn
 have qc := hr
 clear hr hcL hcR
 have hT0 := hL.lt
 go_upto_region 4 with fail
 obtain ⟨W3, hW3⟩ : ∃ W : World, W = w3.alloc (.cells #[.int .i64 cR, .slice cA cL.length ca] 24) := ⟨_, rfl⟩
 have hbW3 : Below w3.heap.size w3 W3 := by rw [hW3]; exact (Below.refl _ _).alloc (Nat.le_refl _) _
 have hKc : Blk W3 w3.heap.size 24 #[.int .i64 cR, .slice cA cL.length ca] := by rw [hW3]; exact Blk.new' rfl
 rw [← hW3]
 replace hP := hP.below hbW3 hP.lt
 replace hT := hT.below hbW3 hT.lt
 replace hL := hL.below hbW3 hL.lt
 replace hKa := hKa.below hbW3 hKa.lt
 replace hKb := hKb.below hbW3 hKb.lt
 replace qa := qa.below' hbW3
 replace qb := qb.below' hbW3
 replace qc := qc.below' hbW3
 replace hB := hB.trans (hbW3.mono hB.size)
 obtain ⟨gc, hgc⟩ : ∃ b, b = w3.heap.size := ⟨_, rfl⟩
 rw [← hgc] at hKc ⊢
 have Gc : w.heap.size + 1 + 1 < gc := by omega
 clear hW3 hgc hbW3 hT0
 have p0 := hP.cell 0
 have p1 := hP.cell 1
 have t0 := hT.cell 0
 have t1 := hT.cell 1
 have t2 := hT.cell 2
 have l0 := hL.cell 0
 have l1 := hL.cell 1
 simp only [tmA, Yl] at p0 p1 t0 t1 t2 l0 l1
 have lp := hP.lt
 have lt' := hT.lt
 have lL := hL.lt
 go_wp2_with fail
 refine (HAe.out _ hB).mono ?_
 rintro e w4 ⟨rfl, hb4⟩
 clear p0 p1 t0 t1 t2 l0 l1 lp lt' lL
 replace hP := hP.below hb4 hP.lt
 replace hT := hT.below hb4 hT.lt
 replace hL := hL.below hb4 hL.lt
 replace hKa := hKa.below hb4 hKa.lt
 replace hKb := hKb.below hb4 hKb.lt
 replace hKc := hKc.below hb4 hKc.lt
 replace qa := qa.below' hb4
 replace qb := qb.below' hb4
 replace qc := qc.below' hb4
 replace hB := hB.trans (hb4.mono hB.size)
 clear hb4
 rw [ap_ma]
 obtain ⟨me, hme⟩ : ∃ z, z = maE regs l t pt tk := ⟨_, rfl⟩
 rw [← hme]
 have Hme := hide hme
 clear hme
 have la0 := hKa.lt
 have lb0 := hKb.lt
 have lc0 := hKc.lt
 have hT0 := hL.lt
 go_upto_if 42 with fail
 obtain ⟨W4, hW4⟩ : ∃ W : World, W = w4.alloc (.cells #[.int .i64 0, .slice none 0 0] 24) := ⟨_, rfl⟩
 have hb44 : Below w4.heap.size w4 W4 := by rw [hW4]; exact (Below.refl _ _).alloc (Nat.le_refl _) _
 have hKd : Blk W4 w4.heap.size 24 #[.int .i64 0, .slice none 0 0] := by rw [hW4]; exact Blk.new' rfl
 rw [← hW4]
 obtain ⟨gd, hgd⟩ : ∃ b, b = w4.heap.size := ⟨_, rfl⟩
 rw [← hgd] at hKd ⊢
 have hgd' : w4.heap.size ≤ gd := by omega
 have Gd : w.heap.size + 1 + 1 < gd := by omega
 clear hW4 hgd
 go_cut [14] (fun s14 wx => s14 = .pointer (some ⟨gd, 0, none⟩) ∧ Below w4.heap.size w4 wx ∧ ∃ dA da, Blk wx gd 24 #[.int .i64 (maR regs l t pt tk), .slice dA (maL regs l t pt tk).length da] ∧ NRow wx w.heap.size 57 (.slice dA (maL regs l t pt tk).length da) (maL regs l t pt tk))
 case first => (
 by_cases hz : maE regs l t pt tk = 0
 · (
 obtain ⟨h0, h1, h2⟩ := maE_len hz
 have hR := right_of_chk (fxE_chk h0)
 have hd : (me == 0) = true := by rw [Hme.out, hz]; rfl
 have hBW := hB.trans (hb44.mono hB.size)
 have HAo := hide (ApplyOf_any regs A l cap t X Y pt tk xc yc W4 (HA0.out.below hBW) (HX0.out.below hBW) (HY0.out.below hBW) hR h1 h2)
 have Hz := hide hz
 clear h0 h1 h2 hR hz
 replace hP := hP.below hb44 hP.lt
 replace hT := hT.below hb44 hT.lt
 replace hL := hL.below hb44 hL.lt
 have p0 := hP.cell 0
 have p1 := hP.cell 1
 have t0 := hT.cell 0
 have t1 := hT.cell 1
 have t2 := hT.cell 2
 have l0 := hL.cell 0
 have l1 := hL.cell 1
 simp only [tmA, Yl] at p0 p1 t0 t1 t2 l0 l1
 have lp := hP.lt
 have lt' := hT.lt
 have lL := hL.lt
 go_wp2_with fail
 refine (HAo.out).mono ?_
 rintro e w5 ⟨v, rfl, hr, hb5⟩
 clear p0 p1 t0 t1 t2 l0 l1 lp lt' lL
 obtain ⟨dL, hdL⟩ : ∃ z, z = applyL regs t pt tk l := ⟨_, rfl⟩
 rw [← hdL] at hr
 have HdL := hide hdL
 obtain ⟨dA, da, de, dm, dn⟩ := hr.shape
 subst de
 replace hKd := hKd.below hb5 hKd.lt
 replace hr := hr.mono hBW.size
 have k0 := hKd.cell 0
 have k1 := hKd.cell 1
 have fk0 := hKd.frozen 0
 have fk1 := hKd.frozen 1
 simp only [Yl] at k0 k1
 have lk := hKd.lt
 have hnd := hr.ne_blk hKd (by decide)
 have HKd := hide ((hKd.set_ 0 (.int .i64 (regs + 1))).set_ 1 (.slice dA dL.length da))
 have HQd := hide ((hr.far (p := ⟨gd, 0, none⟩) hnd (.int .i64 (regs + 1))).far (p := ⟨gd, 1, none⟩) hnd (.slice dA dL.length da))
 have HBd := hide (((hb44.trans (hb5.mono hb44.size)).setCell (p := ⟨gd, 0, none⟩) hgd' (.int .i64 (regs + 1))).setCell (p := ⟨gd, 1, none⟩) hgd' (.slice dA dL.length da))
 clear hKd hr hnd hb5 hdL hBW
 go_wp2_with fail
 go_meet
 go_tidy
 have e1 : maR regs l t pt tk = regs + 1 := by unfold maR; rw [if_pos Hz.out]
 have e2 : maL regs l t pt tk = dL := by unfold maL; rw [if_pos Hz.out, HdL.out]
 rw [e1, e2]
 exact ⟨rfl, HBd.out, dA, da, HKd.out, HQd.out⟩)
 · (
 have hd : (me == 0) = false := by rw [Hme.out]; simpa using hz
 have e1 : maR regs l t pt tk = 0 := by unfold maR; rw [if_neg hz]
 have e2 : maL regs l t pt tk = [] := by unfold maL; rw [if_neg hz]
 clear hz
 have HKd := hide hKd
 have E1 := hide e1
 have E2 := hide e2
 clear e1 e2 hKd
 go_wp2_with fail
 go_meet
 go_tidy
 rw [E1.out, E2.out]
 exact ⟨rfl, hb44, none, 0, HKd.out, NRow.nil_ _ _ _⟩))
 case rest => (
 obtain ⟨rfl, hbc, dA, da, hKd', qd⟩ := hcut
 obtain ⟨W7, rfl⟩ : ∃ W : World, W = wc := ⟨_, rfl⟩
 replace hP := hP.below hbc hP.lt
 replace hT := hT.below hbc hT.lt
 replace hL := hL.below hbc hL.lt
 replace hKa := hKa.below hbc hKa.lt
 replace hKb := hKb.below hbc hKb.lt
 replace hKc := hKc.below hbc hKc.lt
 replace qa := qa.below' hbc
 replace qb := qb.below' hbc
 replace qc := qc.below' hbc
 replace hB := hB.trans (hbc.mono hB.size)
 replace hKd := hKd'
 clear hbc hb44 hKd'
 obtain ⟨dL, hdL⟩ : ∃ z, z = maL regs l t pt tk := ⟨_, rfl⟩
 obtain ⟨dR, hdR⟩ : ∃ z, z = maR regs l t pt tk := ⟨_, rfl⟩
 rw [← hdL] at qd hKd
 rw [← hdR] at hKd
 have HdL := hide hdL
 have HdR := hide hdR
 obtain ⟨dB, db, de, dm, dn⟩ := qd.shape
 have Nd' : dL.length ≤ maxLen := Nat.le_trans dm dn
 clear de dm dn hdL hdR
 have p0 := hP.cell 0
 have p1 := hP.cell 1
 have t0 := hT.cell 0
 have t1 := hT.cell 1
 have t2 := hT.cell 2
 have l0 := hL.cell 0
 have l1 := hL.cell 1
 simp only [tmA, Yl] at p0 p1 t0 t1 t2 l0 l1
 have lp := hP.lt
 have lt' := hT.lt
 have lL := hL.lt
 go_wp2_with fail
 refine (HOo.out _ hB).mono ?_
 rintro e w6 ⟨hbw6, v, rfl, hr⟩
 clear p0 p1 t0 t1 t2 l0 l1 lp lt' lL
 replace hP := hP.below hbw6 hP.lt
 replace hT := hT.below hbw6 hT.lt
 replace hL := hL.below hbw6 hL.lt
 replace hKa := hKa.below hbw6 hKa.lt
 replace hKb := hKb.below hbw6 hKb.lt
 replace hKc := hKc.below hbw6 hKc.lt
 replace hKd := hKd.below hbw6 hKd.lt
 replace qa := qa.below' hbw6
 replace qb := qb.below' hbw6
 replace qc := qc.below' hbw6
 replace qd := qd.below' hbw6
 replace hB := hB.trans (hbw6.mono hB.size)
 clear hbw6
 obtain ⟨eL, heL⟩ : ∃ z, z = onL regs l t := ⟨_, rfl⟩
 obtain ⟨eR, heR⟩ : ∃ z, z = onR regs l t := ⟨_, rfl⟩
 rw [← heL] at hr
 rw [← heR]
 have HeL := hide heL
 have HeR := hide heR
 obtain ⟨eA, ea, ee, em, en⟩ := hr.shape
 subst ee
 have Ne : eL.length ≤ maxLen := Nat.le_trans em en
 have qe := hr
 clear hr heL heR
 have hT0 := hL.lt
 go_upto_region 9 with fail
 obtain ⟨W6, hW6⟩ : ∃ W : World, W = w6.alloc (.cells #[.int .i64 eR, .slice eA eL.length ea] 24) := ⟨_, rfl⟩
 have hbW6 : Below w6.heap.size w6 W6 := by rw [hW6]; exact (Below.refl _ _).alloc (Nat.le_refl _) _
 have hKe : Blk W6 w6.heap.size 24 #[.int .i64 eR, .slice eA eL.length ea] := by rw [hW6]; exact Blk.new' rfl
 rw [← hW6]
 replace hP := hP.below hbW6 hP.lt
 replace hT := hT.below hbW6 hT.lt
 replace hL := hL.below hbW6 hL.lt
 replace hKa := hKa.below hbW6 hKa.lt
 replace hKb := hKb.below hbW6 hKb.lt
 replace hKc := hKc.below hbW6 hKc.lt
 replace hKd := hKd.below hbW6 hKd.lt
 replace qa := qa.below' hbW6
 replace qb := qb.below' hbW6
 replace qc := qc.below' hbW6
 replace qd := qd.below' hbW6
 replace qe := qe.below' hbW6
 replace hB := hB.trans (hbW6.mono hB.size)
 obtain ⟨ge, hge⟩ : ∃ b, b = w6.heap.size := ⟨_, rfl⟩
 rw [← hge] at hKe ⊢
 have Ge : w.heap.size + 1 + 1 < ge := by omega
 clear hW6 hge hbW6 hT0
 have p0 := hP.cell 0
 have p1 := hP.cell 1
 have t0 := hT.cell 0
 have t1 := hT.cell 1
 have t2 := hT.cell 2
 have l0 := hL.cell 0
 have l1 := hL.cell 1
 simp only [tmA, Yl] at p0 p1 t0 t1 t2 l0 l1
 have lp := hP.lt
 have lt' := hT.lt
 have lL := hL.lt
 go_wp2_with fail
 refine (HAlo.out _ hB).mono ?_
 rintro e w8 ⟨hbw8, v, rfl, hr⟩
 clear p0 p1 t0 t1 t2 l0 l1 lp lt' lL
 replace hP := hP.below hbw8 hP.lt
 replace hT := hT.below hbw8 hT.lt
 replace hL := hL.below hbw8 hL.lt
 replace hKa := hKa.below hbw8 hKa.lt
 replace hKb := hKb.below hbw8 hKb.lt
 replace hKc := hKc.below hbw8 hKc.lt
 replace hKd := hKd.below hbw8 hKd.lt
 replace hKe := hKe.below hbw8 hKe.lt
 replace qa := qa.below' hbw8
 replace qb := qb.below' hbw8
 replace qc := qc.below' hbw8
 replace qd := qd.below' hbw8
 replace qe := qe.below' hbw8
 replace hB := hB.trans (hbw8.mono hB.size)
 clear hbw8
 obtain ⟨fL, hfL⟩ : ∃ z, z = alL regs l := ⟨_, rfl⟩
 obtain ⟨fR, hfR⟩ : ∃ z, z = alR regs l := ⟨_, rfl⟩
 rw [← hfL] at hr
 rw [← hfR]
 have HfL := hide hfL
 have HfR := hide hfR
 obtain ⟨fA, fa, fe, fm, fn⟩ := hr.shape
 subst fe
 have Nf : fL.length ≤ maxLen := Nat.le_trans fm fn
 have qf := hr
 clear hr hfL hfR
 have hT0 := hL.lt
 go_upto_region 10 with fail
 obtain ⟨W8, hW8⟩ : ∃ W : World, W = w8.alloc (.cells #[.int .i64 fR, .slice fA fL.length fa] 24) := ⟨_, rfl⟩
 have hbW8 : Below w8.heap.size w8 W8 := by rw [hW8]; exact (Below.refl _ _).alloc (Nat.le_refl _) _
 have hKf : Blk W8 w8.heap.size 24 #[.int .i64 fR, .slice fA fL.length fa] := by rw [hW8]; exact Blk.new' rfl
 rw [← hW8]
 replace hP := hP.below hbW8 hP.lt
 replace hT := hT.below hbW8 hT.lt
 replace hL := hL.below hbW8 hL.lt
 replace hKa := hKa.below hbW8 hKa.lt
 replace hKb := hKb.below hbW8 hKb.lt
 replace hKc := hKc.below hbW8 hKc.lt
 replace hKd := hKd.below hbW8 hKd.lt
 replace hKe := hKe.below hbW8 hKe.lt
 replace qa := qa.below' hbW8
 replace qb := qb.below' hbW8
 replace qc := qc.below' hbW8
 replace qd := qd.below' hbW8
 replace qe := qe.below' hbW8
 replace qf := qf.below' hbW8
 replace hB := hB.trans (hbW8.mono hB.size)
 obtain ⟨gf, hgf⟩ : ∃ b, b = w8.heap.size := ⟨_, rfl⟩
 rw [← hgf] at hKf ⊢
 have Gf : w.heap.size + 1 + 1 < gf := by omega
 clear hW8 hgf hbW8 hT0
 have hE1 : aR = dR ∧ aL = dL := ⟨by rw [HaR.out, HdR.out], by rw [HaL.out, HdL.out]⟩
 have hE2 : bR = eR ∧ bL = eL := ⟨by rw [HbR.out, HeR.out], by rw [HbL.out, HeL.out]⟩
 have hE3 : cR = fR ∧ cL = fL := ⟨by rw [HcR.out, HfR.out], by rw [HcL.out, HfL.out]⟩
 have HE1 := hide hE1
 have HE2 := hide hE2
 have HE3 := hide hE3
 clear hE1 hE2 hE3 hP hT hL
 go_wp2_with fail
 refine (moveBegun_any _).mono ?_
 rintro e w9 ⟨rfl, hb9⟩
 replace hKa := hKa.below hb9 hKa.lt
 replace hKb := hKb.below hb9 hKb.lt
 replace hKc := hKc.below hb9 hKc.lt
 replace hKd := hKd.below hb9 hKd.lt
 replace hKe := hKe.below hb9 hKe.lt
 replace hKf := hKf.below hb9 hKf.lt
 replace qa := qa.below' hb9
 replace qb := qb.below' hb9
 replace qc := qc.below' hb9
 replace qd := qd.below' hb9
 replace qe := qe.below' hb9
 replace qf := qf.below' hb9
 replace hB := hB.trans (hb9.mono hB.size)
 clear hb9
 have x0 := hKa.cell 0
 have x1 := hKa.cell 1
 have y0 := hKd.cell 0
 have y1 := hKd.cell 1
 simp only [Yl] at x0 x1 y0 y1
 have lx := hKa.lt
 have ly := hKd.lt
 go_wp2_with fail
 refine (SameProgs_any aR dR aA dA aL dL aa da _ qa.nodes qd.nodes Na Nd').mono ?_
 rintro e w10 ⟨rfl, hbw10⟩
 rw [show (aR == dR && aL == dL) = true by rw [HE1.out.1, HE1.out.2]; simp]
 clear x0 x1 y0 y1 lx ly
 replace hKa := hKa.below hbw10 hKa.lt
 replace hKb := hKb.below hbw10 hKb.lt
 replace hKc := hKc.below hbw10 hKc.lt
 replace hKd := hKd.below hbw10 hKd.lt
 replace hKe := hKe.below hbw10 hKe.lt
 replace hKf := hKf.below hbw10 hKf.lt
 replace qa := qa.below' hbw10
 replace qb := qb.below' hbw10
 replace qc := qc.below' hbw10
 replace qd := qd.below' hbw10
 replace qe := qe.below' hbw10
 replace qf := qf.below' hbw10
 replace hB := hB.trans (hbw10.mono hB.size)
 clear hbw10
 have x0 := hKb.cell 0
 have x1 := hKb.cell 1
 have y0 := hKe.cell 0
 have y1 := hKe.cell 1
 simp only [Yl] at x0 x1 y0 y1
 have lx := hKb.lt
 have ly := hKe.lt
 go_wp2_with fail
 refine (SameProgs_any bR eR bA eA bL eL ba ea _ qb.nodes qe.nodes Nb Ne).mono ?_
 rintro e w11 ⟨rfl, hbw11⟩
 rw [show (bR == eR && bL == eL) = true by rw [HE2.out.1, HE2.out.2]; simp]
 clear x0 x1 y0 y1 lx ly
 replace hKa := hKa.below hbw11 hKa.lt
 replace hKb := hKb.below hbw11 hKb.lt
 replace hKc := hKc.below hbw11 hKc.lt
 replace hKd := hKd.below hbw11 hKd.lt
 replace hKe := hKe.below hbw11 hKe.lt
 replace hKf := hKf.below hbw11 hKf.lt
 replace qa := qa.below' hbw11
 replace qb := qb.below' hbw11
 replace qc := qc.below' hbw11
 replace qd := qd.below' hbw11
 replace qe := qe.below' hbw11
 replace qf := qf.below' hbw11
 replace hB := hB.trans (hbw11.mono hB.size)
 clear hbw11
 have x0 := hKc.cell 0
 have x1 := hKc.cell 1
 have y0 := hKf.cell 0
 have y1 := hKf.cell 1
 simp only [Yl] at x0 x1 y0 y1
 have lx := hKc.lt
 have ly := hKf.lt
 go_wp2_with fail
 refine (SameProgs_any cR fR cA fA cL fL ca fa _ qc.nodes qf.nodes Nc Nf).mono ?_
 rintro e w12 ⟨rfl, hbw12⟩
 rw [show (cR == fR && cL == fL) = true by rw [HE3.out.1, HE3.out.2]; simp]
 clear x0 x1 y0 y1 lx ly
 replace hKa := hKa.below hbw12 hKa.lt
 replace hKb := hKb.below hbw12 hKb.lt
 replace hKc := hKc.below hbw12 hKc.lt
 replace hKd := hKd.below hbw12 hKd.lt
 replace hKe := hKe.below hbw12 hKe.lt
 replace hKf := hKf.below hbw12 hKf.lt
 replace qa := qa.below' hbw12
 replace qb := qb.below' hbw12
 replace qc := qc.below' hbw12
 replace qd := qd.below' hbw12
 replace qe := qe.below' hbw12
 replace qf := qf.below' hbw12
 replace hB := hB.trans (hbw12.mono hB.size)
 clear hbw12
 go_wp2_with fail
 go_ret
 exact ⟨rfl, hB⟩))
theorem MoveApplies_any (regs : Int) (A : Option Addr) (l : List Nd) (cap : Nat) (t : Tm) (X Y : Option Addr) (pt tk : List Bool) (xc yc : Nat) (w : World) (hA : NodesAt w A l) (hml : l.length ≤ maxLen) (hX : ValsAt w X (bools pt)) (hY : ValsAt w Y (bools tk)) :
 Calls Tryz.prog 4 #[.agg #[.int .i64 regs, .slice A l.length cap], tmV t, .agg #[.slice X pt.length xc, .slice Y tk.length yc]] w fun e w' => e = .returned (.bool true) ∧ Below w.heap.size w w' := by (
 exact appliesLaw_any regs A l cap t X Y pt tk xc yc w hml hA hX hY)
end
end Go.Proofs.YtmghkonmfbpjcabGreat
