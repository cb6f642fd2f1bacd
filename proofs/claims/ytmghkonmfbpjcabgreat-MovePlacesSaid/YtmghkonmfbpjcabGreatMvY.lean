/- MvY. -/
import Derived.Test.YtmghkonmfbpjcabGreatMvX
import Derived.Test.YtmghkonmfbpjcabGreatMvG
import Derived.Test.YtmghkonmfbpjcabGreatGH
import Derived.Test.YtmghkonmfbpjcabGreatMvU
import Derived.Test.YtmghkonmfbpjcabGreatMvE
import Derived.Test.YtmghkonmfbpjcabGreatGA
set_option linter.unusedVariables false
set_option linter.unusedSimpArgs false
namespace Go.Proofs.YtmghkonmfbpjcabGreat
section
open Go.RowKit
set_option maxHeartbeats 8000000
attribute [local irreducible] Row madeCells NRow
theorem Blk.far4_is {w W : World} {a b k : Nat} {u1 u2 u3 u4 : Value} {t : TypeId} {cs : Array Value} (e : W = (((w.setCell ⟨a, 0, none⟩ u1).setCell ⟨a, 1, none⟩ u2).setCell ⟨b, 0, none⟩ u3).setCell ⟨b, 1, none⟩ u4) (h : Blk w k t cs) (n1 : k ≠ a) (n2 : k ≠ b) : Blk W k t cs := by rw [e]; exact (((h.far n1 _).far n1 _).far n2 _).far n2 _
theorem Row.far4_is {w W : World} {a b base : Nat} {u1 u2 u3 u4 v : Value} {t : TypeId} {xs : List Value} (e : W = (((w.setCell ⟨a, 0, none⟩ u1).setCell ⟨a, 1, none⟩ u2).setCell ⟨b, 0, none⟩ u3).setCell ⟨b, 1, none⟩ u4) (h : Row w base t v xs) (n1 : v.ownBlock ≠ some a) (n2 : v.ownBlock ≠ some b) : Row W base t v xs := by rw [e]; exact (((h.far (p := ⟨a, 0, none⟩) n1 _).far (p := ⟨a, 1, none⟩) n1 _).far (p := ⟨b, 0, none⟩) n2 _).far (p := ⟨b, 1, none⟩) n2 _
theorem Row.far2_is {w W : World} {a base : Nat} {u1 u2 v : Value} {t : TypeId} {xs : List Value} (e : W = (w.setCell ⟨a, 0, none⟩ u1).setCell ⟨a, 1, none⟩ u2) (h : Row w base t v xs) (n1 : v.ownBlock ≠ some a) : Row W base t v xs := by rw [e]; exact (h.far (p := ⟨a, 0, none⟩) n1 _).far (p := ⟨a, 1, none⟩) n1 _
theorem busyX_eq {t : Tm} {l : List Nd} {F : Fx} (h : IsFx t l F) : busyX l F = F.early := mk_yn h.len.2.2.1
theorem busyY_eq {regs : Int} {t : Tm} {l : List Nd} (hR : Right regs l) (ht : 3 ≤ t.op ∧ t.op ≤ 8) : busyY t l = recL t l := by (
 unfold busyY recL
 refine mk_congr fun k hk => ?_
 have hn : l[k]? = some (nd l k) := by rw [nd, List.getD_eq_getElem?_getD, List.getElem?_eq_getElem hk]; rfl
 rw [rkB_eq hR (List.mem_of_getElem? hn) ht, Bool.and_true])
theorem rivY_eq {regs : Int} {t : Tm} {l : List Nd} (th : List Bool) (hR : Right regs l) (ht : 3 ≤ t.op ∧ t.op ≤ 8) : rivY t l th = mk l.length fun k => yn th k && recB t (nd l k) := by (
 unfold rivY
 refine mk_congr fun k hk => ?_
 have hn : l[k]? = some (nd l k) := by rw [nd, List.getD_eq_getElem?_getD, List.getElem?_eq_getElem hk]; rfl
 rw [rkB_eq hR (List.mem_of_getElem? hn) ht, Bool.and_comm])
set_option maxRecDepth 100000 in
theorem placesLaw_E (regs : Int) (A : Option Addr) (l : List Nd) (cap : Nat) (t : Tm) (X : Option Addr) (x : List Bool) (xc : Nat) (w : World) (hml : l.length ≤ maxLen) (hA : NodesAt w A l) (hX : ValsAt w X (bools x)) (hc : fxE regs l t ≠ 0) :
 Calls Tryz.prog 3 #[.agg #[.int .i64 regs, .slice A l.length cap], .agg #[.int .i64 t.op, .int .i64 t.a, .int .i64 t.b], .slice X x.length xc] w fun e w' => e = .returned (.bool true) ∧ Below w.heap.size w w' := by (
 have HLz := hide (fun W (hW : Below w.heap.size w W) => Lazy_any regs A l cap t W hml (hA.below hW))
 have HBu := hide (fun W (hW : Below w.heap.size w W) => Busy_any regs A l cap t W hml (hA.below hW))
 have HRv := hide (fun W (hW : Below w.heap.size w W) => Rival_any regs A l cap t X x xc W hml (hA.below hW) (hX.below hW))
 have HFE := hide (fun W (hW : Below w.heap.size w W) => factsError_any regs A l cap t W (hA.below hW))
 have hne : (fxE regs l t == 0) = false := by simpa using hc
 clear hA hX
 have Hc := hide hc
 clear hc
 go_enter Tryz.func3, Tryz.ntmps3
 go_wp2_with fail
 refine (HLz.out _ (by (with_reducible repeat first | apply Qa | assumption | apply Qb | apply Qc | apply Qd | apply Qe | refine Qf ?_ (by assumption) ?_); all_goals (try simp only [Sz]); first | done | omega | (try simp only [Sz] at *); omega)).mono ?_
 rintro e w1 ⟨hb1, h⟩
 obtain ⟨-, rfl⟩ := h.resolve_right (fun h => Hc.out h.1)
 clear h
 have hz1 := hb1.size
 simp only [World.size_alloc] at hz1
 have hB : Below w.heap.size w w1 := (by (with_reducible repeat first | apply Qa | assumption | apply Qb | apply Qc | apply Qd | apply Qe | refine Qf ?_ (by assumption) ?_); all_goals (try simp only [Sz]); first | done | omega | (try simp only [Sz] at *); omega)
 have hP : Blk w1 w.heap.size 24 #[.int .i64 regs, .slice A l.length cap] := Blk.below (by repeat (first | ((with_reducible refine Blk.new' ?_); exact (by (try simp only [Sz]); first | done | omega | (try simp only [Sz] at *); omega)) | (with_reducible refine Blk.alloc ?_ _))) hb1 (by simp <;> omega)
 have hT : Blk w1 (w.heap.size + 1) 26 (tmA t) := Blk.below (by unfold tmA; repeat (first | ((with_reducible refine Blk.new' ?_); exact (by (try simp only [Sz]); first | done | omega | (try simp only [Sz] at *); omega)) | (with_reducible refine Blk.alloc ?_ _))) hb1 (by simp <;> omega)
 clear hb1 hz1
 have hT0 := hT.lt
 go_upto_region 2 with fail
 obtain ⟨W1, hW1⟩ : ∃ W : World, W = w1.alloc (.cells #[.slice none 0 0, .slice none 0 0] 29) := ⟨_, rfl⟩
 have hbW1 : Below w1.heap.size w1 W1 := by rw [hW1]; exact (Below.refl _ _).alloc (Nat.le_refl _) _
 have hKa : Blk W1 w1.heap.size 29 #[.slice none 0 0, .slice none 0 0] := by rw [hW1]; exact Blk.new' rfl
 rw [← hW1]
 replace hP := hP.below hbW1 hP.lt
 replace hT := hT.below hbW1 hT.lt
 replace hB := hB.trans (hbW1.mono hB.size)
 obtain ⟨ga, hga⟩ : ∃ b, b = w1.heap.size := ⟨_, rfl⟩
 rw [← hga] at hKa ⊢
 clear hW1 hga hT0
 have p0 := hP.cell 0
 have p1 := hP.cell 1
 have t0 := hT.cell 0
 have t1 := hT.cell 1
 have t2 := hT.cell 2
 simp only [tmA, Yl] at p0 p1 t0 t1 t2
 have lp := hP.lt
 have lt' := hT.lt
 go_wp2_with fail
 refine (HBu.out _ hB).mono ?_
 rintro e w2 ⟨hb2, h⟩
 clear p0 p1 t0 t1 t2 lp lt'
 obtain ⟨-, rfl⟩ := h.resolve_right (fun h => Hc.out h.1)
 clear h
 replace hP := hP.below hb2 hP.lt
 replace hT := hT.below hb2 hT.lt
 replace hKa := hKa.below hb2 hKa.lt
 have hbb := hbW1.trans (hb2.mono hbW1.size)
 replace hB := hB.trans (hb2.mono hB.size)
 clear hbb hbW1
 clear hb2
 have hT0 := hT.lt
 go_upto_region 3 with fail
 obtain ⟨W2, hW2⟩ : ∃ W : World, W = w2.alloc (.cells #[.slice none 0 0, .slice none 0 0] 29) := ⟨_, rfl⟩
 have hbW2 : Below w2.heap.size w2 W2 := by rw [hW2]; exact (Below.refl _ _).alloc (Nat.le_refl _) _
 have hKb : Blk W2 w2.heap.size 29 #[.slice none 0 0, .slice none 0 0] := by rw [hW2]; exact Blk.new' rfl
 rw [← hW2]
 replace hP := hP.below hbW2 hP.lt
 replace hT := hT.below hbW2 hT.lt
 replace hB := hB.trans (hbW2.mono hB.size)
 obtain ⟨gb, hgb⟩ : ∃ b, b = w2.heap.size := ⟨_, rfl⟩
 rw [← hgb] at hKb ⊢
 clear hW2 hgb hT0
 have p0 := hP.cell 0
 have p1 := hP.cell 1
 have t0 := hT.cell 0
 have t1 := hT.cell 1
 have t2 := hT.cell 2
 simp only [tmA, Yl] at p0 p1 t0 t1 t2
 have lp := hP.lt
 have lt' := hT.lt
 go_wp2_with fail
 refine (HRv.out _ hB).mono ?_
 rintro e w3 ⟨hb3, h⟩
 clear p0 p1 t0 t1 t2 lp lt'
 obtain ⟨-, rfl⟩ := h.resolve_right (fun h => by rcases h with h | h <;> exact Hc.out h.1)
 clear h
 replace hP := hP.below hb3 hP.lt
 replace hT := hT.below hb3 hT.lt
 replace hKb := hKb.below hb3 hKb.lt
 have hbb := hbW2.trans (hb3.mono hbW2.size)
 replace hKa := hKa.below hbb hKa.lt
 replace hB := hB.trans (hb3.mono hB.size)
 clear hbb hbW2
 clear hb3
 have hT0 := hT.lt
 go_upto_region 4 with fail
 obtain ⟨W3, hW3⟩ : ∃ W : World, W = w3.alloc (.cells #[.slice none 0 0, .slice none 0 0] 29) := ⟨_, rfl⟩
 have hbW3 : Below w3.heap.size w3 W3 := by rw [hW3]; exact (Below.refl _ _).alloc (Nat.le_refl _) _
 have hKc : Blk W3 w3.heap.size 29 #[.slice none 0 0, .slice none 0 0] := by rw [hW3]; exact Blk.new' rfl
 rw [← hW3]
 replace hP := hP.below hbW3 hP.lt
 replace hT := hT.below hbW3 hT.lt
 replace hB := hB.trans (hbW3.mono hB.size)
 obtain ⟨gc, hgc⟩ : ∃ b, b = w3.heap.size := ⟨_, rfl⟩
 rw [← hgc] at hKc ⊢
 clear hW3 hgc hT0
 have p0 := hP.cell 0
 have p1 := hP.cell 1
 have t0 := hT.cell 0
 have t1 := hT.cell 1
 have t2 := hT.cell 2
 simp only [tmA, Yl] at p0 p1 t0 t1 t2
 have lp := hP.lt
 have lt' := hT.lt
 go_wp2_with fail
 refine (HFE.out _ hB).mono ?_
 rintro e w4 ⟨rfl, hb4⟩
 clear p0 p1 t0 t1 t2 lp lt'
 replace hP := hP.below hb4 hP.lt
 replace hT := hT.below hb4 hT.lt
 replace hKc := hKc.below hb4 hKc.lt
 have hbb := hbW3.trans (hb4.mono hbW3.size)
 replace hKa := hKa.below hbb hKa.lt
 replace hKb := hKb.below hbb hKb.lt
 replace hB := hB.trans (hb4.mono hB.size)
 clear hbb hbW3
 clear hb4
 have hT0 := hT.lt
 have p1 := hP.cell 1
 simp only [Yl] at p1
 have lp := hP.lt
 go_upto_region 9 with fail
 clear p1 lp
 obtain ⟨W4, hW4⟩ : ∃ W : World, W = ((w4.alloc (.cells #[.slice none 0 0, .slice none 0 0] 29)).alloc (.cells #[.slice none 0 0, .slice none 0 0] 29)).alloc (.cells #[.slice none 0 0, .slice none 0 0] 29) := ⟨_, rfl⟩
 have hbW4 : Below w4.heap.size w4 W4 := by rw [hW4]; exact (((Below.refl _ _).alloc (Nat.le_refl _) _).alloc (by simp) _).alloc (by simp <;> omega) _
 have hKd : Blk W4 w4.heap.size 29 #[.slice none 0 0, .slice none 0 0] := by rw [hW4]; exact ((Blk.new' rfl).alloc _).alloc _
 have hKe : Blk W4 (w4.heap.size + 1) 29 #[.slice none 0 0, .slice none 0 0] := by rw [hW4]; exact (Blk.new' (by simp)).alloc _
 have hKf : Blk W4 (w4.heap.size + 1 + 1) 29 #[.slice none 0 0, .slice none 0 0] := by rw [hW4]; exact Blk.new' (by simp)
 rw [← hW4]
 have la0 := hKa.lt
 have lb0 := hKb.lt
 have lc0 := hKc.lt
 replace hP := hP.below hbW4 hP.lt
 replace hT := hT.below hbW4 hT.lt
 replace hKa := hKa.below hbW4 hKa.lt
 replace hKb := hKb.below hbW4 hKb.lt
 replace hKc := hKc.below hbW4 hKc.lt
 replace hB := hB.trans (hbW4.mono hB.size)
 obtain ⟨g, hg⟩ : ∃ b, b = w4.heap.size := ⟨_, rfl⟩
 rw [← hg] at hKd hKe hKf la0 lb0 lc0 hT0 ⊢
 clear hW4 hg hbW4
 go_upto_region 13 with fail
 clear hT0 hP hT
 go_wp2_with fail
 refine (moveBegun_any _).mono ?_
 rintro e w7 ⟨rfl, hb7⟩
 replace hKa := hKa.below hb7 hKa.lt
 replace hKb := hKb.below hb7 hKb.lt
 replace hKc := hKc.below hb7 hKc.lt
 replace hKd := hKd.below hb7 hKd.lt
 replace hKe := hKe.below hb7 hKe.lt
 replace hKf := hKf.below hb7 hKf.lt
 replace hB := hB.trans (hb7.mono hB.size)
 clear hb7
 have x0 := hKa.cell 0
 have x1 := hKa.cell 1
 have y0 := hKd.cell 0
 have y1 := hKd.cell 1
 simp only [Yl] at x0 x1 y0 y1
 have lx := hKa.lt
 have ly := hKd.lt
 go_wp2_with fail
 refine (samePlaces_any none none none none 0 0 0 0 [] [] [] [] _ ValsAt.nil ValsAt.nil ValsAt.nil ValsAt.nil (by simp) (by simp) (by simp) (by simp)).mono ?_
 rintro e w8 ⟨rfl, hbw8⟩
 rw [show (([] : List Bool) == [] && ([] : List Bool) == []) = true from rfl]
 clear x0 x1 y0 y1 lx ly
 replace hKa := hKa.below hbw8 hKa.lt
 replace hKb := hKb.below hbw8 hKb.lt
 replace hKc := hKc.below hbw8 hKc.lt
 replace hKd := hKd.below hbw8 hKd.lt
 replace hKe := hKe.below hbw8 hKe.lt
 replace hKf := hKf.below hbw8 hKf.lt
 replace hB := hB.trans (hbw8.mono hB.size)
 clear hbw8
 have x0 := hKb.cell 0
 have x1 := hKb.cell 1
 have y0 := hKe.cell 0
 have y1 := hKe.cell 1
 simp only [Yl] at x0 x1 y0 y1
 have lx := hKb.lt
 have ly := hKe.lt
 go_wp2_with fail
 refine (samePlaces_any none none none none 0 0 0 0 [] [] [] [] _ ValsAt.nil ValsAt.nil ValsAt.nil ValsAt.nil (by simp) (by simp) (by simp) (by simp)).mono ?_
 rintro e w9 ⟨rfl, hbw9⟩
 rw [show (([] : List Bool) == [] && ([] : List Bool) == []) = true from rfl]
 clear x0 x1 y0 y1 lx ly
 replace hKa := hKa.below hbw9 hKa.lt
 replace hKb := hKb.below hbw9 hKb.lt
 replace hKc := hKc.below hbw9 hKc.lt
 replace hKd := hKd.below hbw9 hKd.lt
 replace hKe := hKe.below hbw9 hKe.lt
 replace hKf := hKf.below hbw9 hKf.lt
 replace hB := hB.trans (hbw9.mono hB.size)
 clear hbw9
 have x0 := hKc.cell 0
 have x1 := hKc.cell 1
 have y0 := hKf.cell 0
 have y1 := hKf.cell 1
 simp only [Yl] at x0 x1 y0 y1
 have lx := hKc.lt
 have ly := hKf.lt
 go_wp2_with fail
 refine (samePlaces_any none none none none 0 0 0 0 [] [] [] [] _ ValsAt.nil ValsAt.nil ValsAt.nil ValsAt.nil (by simp) (by simp) (by simp) (by simp)).mono ?_
 rintro e w10 ⟨rfl, hbw10⟩
 rw [show (([] : List Bool) == [] && ([] : List Bool) == []) = true from rfl]
 clear x0 x1 y0 y1 lx ly
 replace hKa := hKa.below hbw10 hKa.lt
 replace hKb := hKb.below hbw10 hKb.lt
 replace hKc := hKc.below hbw10 hKc.lt
 replace hKd := hKd.below hbw10 hKd.lt
 replace hKe := hKe.below hbw10 hKe.lt
 replace hKf := hKf.below hbw10 hKf.lt
 replace hB := hB.trans (hbw10.mono hB.size)
 clear hbw10
 go_wp2_with fail
 go_ret
 exact ⟨rfl, hB⟩)
set_option maxRecDepth 100000 in
theorem placesLaw_L (regs : Int) (A : Option Addr) (l : List Nd) (cap : Nat) (t : Tm) (X : Option Addr) (x : List Bool) (xc : Nat) (w : World) (hml : l.length ≤ maxLen) (hA : NodesAt w A l) (hX : ValsAt w X (bools x)) (hc : fxE regs l t = 0) (hpl : x.length ≠ l.length) :
 Calls Tryz.prog 3 #[.agg #[.int .i64 regs, .slice A l.length cap], .agg #[.int .i64 t.op, .int .i64 t.a, .int .i64 t.b], .slice X x.length xc] w fun e w' => e = .returned (.bool true) ∧ Below w.heap.size w w' := by (
 have HLz := hide (fun W (hW : Below w.heap.size w W) => Lazy_any regs A l cap t W hml (hA.below hW))
 have HBu := hide (fun W (hW : Below w.heap.size w W) => Busy_any regs A l cap t W hml (hA.below hW))
 have HRv := hide (fun W (hW : Below w.heap.size w W) => Rival_any regs A l cap t X x xc W hml (hA.below hW) (hX.below hW))
 have HFE := hide (fun W (hW : Below w.heap.size w W) => factsError_any regs A l cap t W (hA.below hW))
 have hk := fxE_chk hc
 have hR := right_of_chk hk
 have hop := fxE_op hc
 have HLo := hide (fun W (hW : Below w.heap.size w W) => LazyOf_any regs A l cap t W (hA.below hW) hR)
 have HBo := hide (fun W (hW : Below w.heap.size w W) => BusyOf_any regs A l cap t W (hA.below hW) hR)
 have HR := hide hR
 have Hop := hide hop
 clear hk hR hop hA hX
 have hd : ((x.length : Int) != (l.length : Int)) = true := by simp; omega
 have Hpl := hide hpl
 clear hpl
 have Hc := hide hc
 clear hc
 go_enter Tryz.func3, Tryz.ntmps3
 go_wp2_with fail
 refine (HLz.out _ (by (with_reducible repeat first | apply Qa | assumption | apply Qb | apply Qc | apply Qd | apply Qe | refine Qf ?_ (by assumption) ?_); all_goals (try simp only [Sz]); first | done | omega | (try simp only [Sz] at *); omega)).mono ?_
 rintro e w1 ⟨hb1, h⟩
 obtain ⟨-, F, v1, v2, hF, rfl, r1, r2, -⟩ := h.resolve_left (fun h => h.1 Hc.out)
 clear h
 have HF := hide hF
 clear hF
 obtain ⟨aX, haX⟩ : ∃ z, z = lazyX l F := ⟨_, rfl⟩
 obtain ⟨aY, haY⟩ : ∃ z, z = lazyY t l F := ⟨_, rfl⟩
 rw [← haX] at r1
 rw [← haY] at r2
 have HaX := hide haX
 have HaY := hide haY
 clear haX haY
 obtain ⟨aA, aa, ae, am, an⟩ := r1.shape
 rw [bools_length] at ae am
 subst ae
 have LaX : aX.length ≤ maxLen := Nat.le_trans am an
 obtain ⟨aB, ab, af, am, an⟩ := r2.shape
 rw [bools_length] at af am
 subst af
 have LaY : aY.length ≤ maxLen := Nat.le_trans am an
 have qa1 := r1
 have qa2 := r2
 clear r1 r2
 have hz1 := hb1.size
 simp only [World.size_alloc] at hz1
 have hB : Below w.heap.size w w1 := (by (with_reducible repeat first | apply Qa | assumption | apply Qb | apply Qc | apply Qd | apply Qe | refine Qf ?_ (by assumption) ?_); all_goals (try simp only [Sz]); first | done | omega | (try simp only [Sz] at *); omega)
 have hP : Blk w1 w.heap.size 24 #[.int .i64 regs, .slice A l.length cap] := Blk.below (by repeat (first | ((with_reducible refine Blk.new' ?_); exact (by (try simp only [Sz]); first | done | omega | (try simp only [Sz] at *); omega)) | (with_reducible refine Blk.alloc ?_ _))) hb1 (by simp <;> omega)
 have hT : Blk w1 (w.heap.size + 1) 26 (tmA t) := Blk.below (by unfold tmA; repeat (first | ((with_reducible refine Blk.new' ?_); exact (by (try simp only [Sz]); first | done | omega | (try simp only [Sz] at *); omega)) | (with_reducible refine Blk.alloc ?_ _))) hb1 (by simp <;> omega)
 clear hb1 hz1
 have hT0 := hT.lt
 go_upto_region 2 with fail
 obtain ⟨W1, hW1⟩ : ∃ W : World, W = w1.alloc (.cells #[.slice aA aX.length aa, .slice aB aY.length ab] 29) := ⟨_, rfl⟩
 have hbW1 : Below w1.heap.size w1 W1 := by rw [hW1]; exact (Below.refl _ _).alloc (Nat.le_refl _) _
 have hKa : Blk W1 w1.heap.size 29 #[.slice aA aX.length aa, .slice aB aY.length ab] := by rw [hW1]; exact Blk.new' rfl
 rw [← hW1]
 replace hP := hP.below hbW1 hP.lt
 replace hT := hT.below hbW1 hT.lt
 replace hB := hB.trans (hbW1.mono hB.size)
 obtain ⟨ga, hga⟩ : ∃ b, b = w1.heap.size := ⟨_, rfl⟩
 rw [← hga] at hKa ⊢
 clear hW1 hga hT0
 have p0 := hP.cell 0
 have p1 := hP.cell 1
 have t0 := hT.cell 0
 have t1 := hT.cell 1
 have t2 := hT.cell 2
 simp only [tmA, Yl] at p0 p1 t0 t1 t2
 have lp := hP.lt
 have lt' := hT.lt
 go_wp2_with fail
 refine (HBu.out _ hB).mono ?_
 rintro e w2 ⟨hb2, h⟩
 clear p0 p1 t0 t1 t2 lp lt'
 obtain ⟨-, F2, v1, v2, hF, rfl, r1, r2, -⟩ := h.resolve_left (fun h => h.1 Hc.out)
 clear h
 have HF2 := hide hF
 clear hF
 replace hP := hP.below hb2 hP.lt
 replace hT := hT.below hb2 hT.lt
 replace hKa := hKa.below hb2 hKa.lt
 have hbb := hbW1.trans (hb2.mono hbW1.size)
 replace qa1 := qa1.below' hbb
 replace qa2 := qa2.below' hbb
 replace hB := hB.trans (hb2.mono hB.size)
 clear hbb hbW1
 clear hb2
 obtain ⟨bX, hbX⟩ : ∃ z, z = busyX l F2 := ⟨_, rfl⟩
 obtain ⟨bY, hbY⟩ : ∃ z, z = busyY t l := ⟨_, rfl⟩
 rw [← hbX] at r1
 rw [← hbY] at r2
 have HbX := hide hbX
 have HbY := hide hbY
 clear hbX hbY
 obtain ⟨bA, ba, be, bm, bn⟩ := r1.shape
 rw [bools_length] at be bm
 subst be
 have LbX : bX.length ≤ maxLen := Nat.le_trans bm bn
 obtain ⟨bB, bb, bf, bm, bn⟩ := r2.shape
 rw [bools_length] at bf bm
 subst bf
 have LbY : bY.length ≤ maxLen := Nat.le_trans bm bn
 have qb1 := r1
 have qb2 := r2
 clear r1 r2
 have hT0 := hT.lt
 go_upto_region 3 with fail
 obtain ⟨W2, hW2⟩ : ∃ W : World, W = w2.alloc (.cells #[.slice bA bX.length ba, .slice bB bY.length bb] 29) := ⟨_, rfl⟩
 have hbW2 : Below w2.heap.size w2 W2 := by rw [hW2]; exact (Below.refl _ _).alloc (Nat.le_refl _) _
 have hKb : Blk W2 w2.heap.size 29 #[.slice bA bX.length ba, .slice bB bY.length bb] := by rw [hW2]; exact Blk.new' rfl
 rw [← hW2]
 replace hP := hP.below hbW2 hP.lt
 replace hT := hT.below hbW2 hT.lt
 replace hB := hB.trans (hbW2.mono hB.size)
 obtain ⟨gb, hgb⟩ : ∃ b, b = w2.heap.size := ⟨_, rfl⟩
 rw [← hgb] at hKb ⊢
 clear hW2 hgb hT0
 have p0 := hP.cell 0
 have p1 := hP.cell 1
 have t0 := hT.cell 0
 have t1 := hT.cell 1
 have t2 := hT.cell 2
 simp only [tmA, Yl] at p0 p1 t0 t1 t2
 have lp := hP.lt
 have lt' := hT.lt
 go_wp2_with fail
 refine (HRv.out _ hB).mono ?_
 rintro e w3 ⟨hb3, h⟩
 clear p0 p1 t0 t1 t2 lp lt'
 obtain ⟨-, -, rfl⟩ := (h.resolve_left (fun h => h.1 Hc.out)).resolve_right (fun h => Hpl.out h.2.1)
 clear h
 replace hP := hP.below hb3 hP.lt
 replace hT := hT.below hb3 hT.lt
 replace hKb := hKb.below hb3 hKb.lt
 have hbb := hbW2.trans (hb3.mono hbW2.size)
 replace hKa := hKa.below hbb hKa.lt
 replace qa1 := qa1.below' hbb
 replace qa2 := qa2.below' hbb
 replace qb1 := qb1.below' hbb
 replace qb2 := qb2.below' hbb
 replace hB := hB.trans (hb3.mono hB.size)
 clear hbb hbW2
 clear hb3
 have hT0 := hT.lt
 go_upto_region 4 with fail
 obtain ⟨W3, hW3⟩ : ∃ W : World, W = w3.alloc (.cells #[.slice none 0 0, .slice none 0 0] 29) := ⟨_, rfl⟩
 have hbW3 : Below w3.heap.size w3 W3 := by rw [hW3]; exact (Below.refl _ _).alloc (Nat.le_refl _) _
 have hKc : Blk W3 w3.heap.size 29 #[.slice none 0 0, .slice none 0 0] := by rw [hW3]; exact Blk.new' rfl
 rw [← hW3]
 replace hP := hP.below hbW3 hP.lt
 replace hT := hT.below hbW3 hT.lt
 replace hB := hB.trans (hbW3.mono hB.size)
 obtain ⟨gc, hgc⟩ : ∃ b, b = w3.heap.size := ⟨_, rfl⟩
 rw [← hgc] at hKc ⊢
 clear hW3 hgc hT0
 have p0 := hP.cell 0
 have p1 := hP.cell 1
 have t0 := hT.cell 0
 have t1 := hT.cell 1
 have t2 := hT.cell 2
 simp only [tmA, Yl] at p0 p1 t0 t1 t2
 have lp := hP.lt
 have lt' := hT.lt
 go_wp2_with fail
 refine (HFE.out _ hB).mono ?_
 rintro e w4 ⟨rfl, hb4⟩
 clear p0 p1 t0 t1 t2 lp lt'
 replace hP := hP.below hb4 hP.lt
 replace hT := hT.below hb4 hT.lt
 replace hKc := hKc.below hb4 hKc.lt
 have hbb := hbW3.trans (hb4.mono hbW3.size)
 replace hKa := hKa.below hbb hKa.lt
 replace hKb := hKb.below hbb hKb.lt
 replace qa1 := qa1.below' hbb
 replace qa2 := qa2.below' hbb
 replace qb1 := qb1.below' hbb
 replace qb2 := qb2.below' hbb
 replace hB := hB.trans (hb4.mono hB.size)
 clear hbb hbW3
 clear hb4
 rw [Hc.out]
 have hT0 := hT.lt
 have p1 := hP.cell 1
 simp only [Yl] at p1
 have lp := hP.lt
 go_upto_region 9 with fail
 clear p1 lp
 obtain ⟨W4, hW4⟩ : ∃ W : World, W = ((w4.alloc (.cells #[.slice none 0 0, .slice none 0 0] 29)).alloc (.cells #[.slice none 0 0, .slice none 0 0] 29)).alloc (.cells #[.slice none 0 0, .slice none 0 0] 29) := ⟨_, rfl⟩
 have hbW4 : Below w4.heap.size w4 W4 := by rw [hW4]; exact (((Below.refl _ _).alloc (Nat.le_refl _) _).alloc (by simp) _).alloc (by simp <;> omega) _
 have hKd : Blk W4 w4.heap.size 29 #[.slice none 0 0, .slice none 0 0] := by rw [hW4]; exact ((Blk.new' rfl).alloc _).alloc _
 have hKe : Blk W4 (w4.heap.size + 1) 29 #[.slice none 0 0, .slice none 0 0] := by rw [hW4]; exact (Blk.new' (by simp)).alloc _
 have hKf : Blk W4 (w4.heap.size + 1 + 1) 29 #[.slice none 0 0, .slice none 0 0] := by rw [hW4]; exact Blk.new' (by simp)
 rw [← hW4]
 have la0 := hKa.lt
 have lb0 := hKb.lt
 have lc0 := hKc.lt
 replace hP := hP.below hbW4 hP.lt
 replace hT := hT.below hbW4 hT.lt
 replace hKa := hKa.below hbW4 hKa.lt
 replace hKb := hKb.below hbW4 hKb.lt
 replace hKc := hKc.below hbW4 hKc.lt
 replace qa1 := qa1.below' hbW4
 replace qa2 := qa2.below' hbW4
 replace qb1 := qb1.below' hbW4
 replace qb2 := qb2.below' hbW4
 replace hB := hB.trans (hbW4.mono hB.size)
 obtain ⟨g, hg⟩ : ∃ b, b = w4.heap.size := ⟨_, rfl⟩
 rw [← hg] at hKd hKe hKf la0 lb0 lc0 hT0 ⊢
 clear hW4 hg hbW4
 go_upto_region 10 with fail
 have p0 := hP.cell 0
 have p1 := hP.cell 1
 have t0 := hT.cell 0
 have t1 := hT.cell 1
 have t2 := hT.cell 2
 simp only [tmA, Yl] at p0 p1 t0 t1 t2
 have lp := hP.lt
 have lt' := hT.lt
 have HH : ∀ (V : World), Below W4.heap.size W4 V → (V.cell? ⟨w.heap.size, 0, none⟩ = some (.int .i64 regs) ∧ V.cell? ⟨w.heap.size, 1, none⟩ = some (.slice A l.length cap) ∧ V.cell? ⟨w.heap.size + 1, 0, none⟩ = some (.int .i64 t.op) ∧ V.cell? ⟨w.heap.size + 1, 1, none⟩ = some (.int .i64 t.a) ∧ V.cell? ⟨w.heap.size + 1, 2, none⟩ = some (.int .i64 t.b)) := fun V hV => ⟨((bcell hV).1 _ _ (by omega)).trans p0, ((bcell hV).1 _ _ (by omega)).trans p1, ((bcell hV).1 _ _ (by omega)).trans t0, ((bcell hV).1 _ _ (by omega)).trans t1, ((bcell hV).1 _ _ (by omega)).trans t2⟩
 refine wp_region_held_drew (S := fun w' => (w'.cell? ⟨w.heap.size, 0, none⟩ = some (.int .i64 regs) ∧ w'.cell? ⟨w.heap.size, 1, none⟩ = some (.slice A l.length cap) ∧ w'.cell? ⟨w.heap.size + 1, 0, none⟩ = some (.int .i64 t.op) ∧ w'.cell? ⟨w.heap.size + 1, 1, none⟩ = some (.int .i64 t.a) ∧ w'.cell? ⟨w.heap.size + 1, 2, none⟩ = some (.int .i64 t.b))) (by kernel_rfl) ?_ ?_
 · exact ⟨p0, p1, t0, t1, t2⟩
 intro hH
 have hC0 : Below W4.heap.size W4 W4.drew := (Below.refl _ _).drew
 generalize W4.drew = V0 at hH hC0 ⊢
 refine Up (fun _ _ _ _ _ => id) fun hPq => ?_
 refine Vi 0 ?_ rfl (by kernel_rfl) hPq (by rfl) ?r hH ?_; case r => intro w' h; (try dsimp only at h); (try go_split_ands); go_simp; try with_reducible rfl
 try simp only [Nm]
 refine Vi 1 ?_ rfl (by kernel_rfl) hPq (by rfl) ?r hH ?_; case r => intro w' h; (try dsimp only at h); (try go_split_ands); go_simp; try with_reducible rfl
 try simp only [Nm]
 refine Vi 3 ?_ rfl (by kernel_rfl) hPq (by rfl) ?r hH ?_; case r => intro w' h; (try dsimp only at h); (try go_split_ands); go_simp; try with_reducible rfl
 try simp only [Nm]
 refine Vi 4 ?_ rfl (by kernel_rfl) hPq (by rfl) ?r hH ?_; case r => intro w' h; (try dsimp only at h); (try go_split_ands); go_simp; try with_reducible rfl
 try simp only [Nm]
 refine Rd 2 (by kernel_rfl) rfl (fun K hK => ?_)
 have HK2 := hide hK
 clear hK
 go_simp
 go_at_call 9
 refine (HLo.out _ (hB.trans (hC0.mono hB.size))).mono ?_
 rintro e V1 ⟨hbV1, F4, v1, v2, hF, rfl, r1, r2⟩
 have hC1 : Below W4.heap.size W4 V1 := hC0.trans (hbV1.mono hC0.size)
 clear hH
 have HF4 := hide hF
 clear hF
 obtain ⟨dX, hdX⟩ : ∃ z, z = lazyX l F4 := ⟨_, rfl⟩
 obtain ⟨dY, hdY⟩ : ∃ z, z = lazyZ t l F4 := ⟨_, rfl⟩
 rw [← hdX] at r1
 rw [← hdY] at r2
 have HdX := hide hdX
 have HdY := hide hdY
 clear hdX hdY
 obtain ⟨dA, da, de, dm, dn⟩ := r1.shape
 rw [bools_length] at de dm
 subst de
 have LdX : dX.length ≤ maxLen := Nat.le_trans dm dn
 obtain ⟨dB, db, df, dm, dn⟩ := r2.shape
 rw [bools_length] at df dm
 subst df
 have LdY : dY.length ≤ maxLen := Nat.le_trans dm dn
 have qd1 := r1
 have qd2 := r2
 clear r1 r2
 refine Shut.out HK2.out _ _ (HH _ hC1) (fun hH => ?_)
 try simp only [Nm]
 clear HK2
 refine Rd 5 (by kernel_rfl) rfl (fun K hK => ?_)
 have HK5 := hide hK
 clear hK
 go_simp
 go_at_call 10
 refine (HBo.out _ (hB.trans (hC1.mono hB.size))).mono ?_
 rintro e V2 ⟨hbV2, F5, v1, v2, hF, rfl, r1, r2⟩
 have hC2 : Below W4.heap.size W4 V2 := hC1.trans (hbV2.mono hC1.size)
 clear hH
 have HF5 := hide hF
 clear hF
 obtain ⟨eX, heX⟩ : ∃ z, z = F5.early := ⟨_, rfl⟩
 obtain ⟨eY, heY⟩ : ∃ z, z = recL t l := ⟨_, rfl⟩
 rw [← heX] at r1
 rw [← heY] at r2
 have HeX := hide heX
 have HeY := hide heY
 clear heX heY
 obtain ⟨eA, ea, ee, em, en⟩ := r1.shape
 rw [bools_length] at ee em
 subst ee
 have LeX : eX.length ≤ maxLen := Nat.le_trans em en
 obtain ⟨eB, eb, ef, em, en⟩ := r2.shape
 rw [bools_length] at ef em
 subst ef
 have LeY : eY.length ≤ maxLen := Nat.le_trans em en
 have qe1 := r1
 have qe2 := r2
 clear r1 r2
 replace qd1 := qd1.below' hbV2
 replace qd2 := qd2.below' hbV2
 clear hbV2
 refine Shut.out HK5.out _ _ (HH _ hC2) (fun hH => ?_)
 try simp only [Nm]
 clear HK5
 refine Rd 6 (by kernel_rfl) rfl (fun K hK => ?_)
 have HK6 := hide hK
 clear hK
 have fd0 := (hKd.below hC2 hKd.lt).frozen 0
 have fd1 := (hKd.below hC2 hKd.lt).frozen 1
 have kd0 := (hKd.below hC2 hKd.lt).cell 0
 have kd1 := (hKd.below hC2 hKd.lt).cell 1
 simp only [Yl] at kd0 kd1
 go_simp
 refine Shut.out HK6.out _ _ ⟨(set1_cell (by omega) _ _).trans ((set1_cell (by omega) _ _).trans (((bcell hC2).1 _ _ (by omega)).trans p0)), (set1_cell (by omega) _ _).trans ((set1_cell (by omega) _ _).trans (((bcell hC2).1 _ _ (by omega)).trans p1)), (set1_cell (by omega) _ _).trans ((set1_cell (by omega) _ _).trans (((bcell hC2).1 _ _ (by omega)).trans t0)), (set1_cell (by omega) _ _).trans ((set1_cell (by omega) _ _).trans (((bcell hC2).1 _ _ (by omega)).trans t1)), (set1_cell (by omega) _ _).trans ((set1_cell (by omega) _ _).trans (((bcell hC2).1 _ _ (by omega)).trans t2))⟩ (fun hH => ?_)
 try simp only [Nm]
 clear HK6
 clear fd0 fd1 kd0 kd1
 refine Rd 7 (by kernel_rfl) rfl (fun K hK => ?_)
 have HK7 := hide hK
 clear hK
 have fd0 := (hKe.below hC2 hKe.lt).frozen 0
 have fd1 := (hKe.below hC2 hKe.lt).frozen 1
 have kd0 := (hKe.below hC2 hKe.lt).cell 0
 have kd1 := (hKe.below hC2 hKe.lt).cell 1
 simp only [Yl] at kd0 kd1
 go_simp
 refine Shut.out HK7.out _ _ ⟨(set1_cell (by omega) _ _).trans ((set1_cell (by omega) _ _).trans ((set1_cell (by omega) _ _).trans ((set1_cell (by omega) _ _).trans (((bcell hC2).1 _ _ (by omega)).trans p0)))), (set1_cell (by omega) _ _).trans ((set1_cell (by omega) _ _).trans ((set1_cell (by omega) _ _).trans ((set1_cell (by omega) _ _).trans (((bcell hC2).1 _ _ (by omega)).trans p1)))), (set1_cell (by omega) _ _).trans ((set1_cell (by omega) _ _).trans ((set1_cell (by omega) _ _).trans ((set1_cell (by omega) _ _).trans (((bcell hC2).1 _ _ (by omega)).trans t0)))), (set1_cell (by omega) _ _).trans ((set1_cell (by omega) _ _).trans ((set1_cell (by omega) _ _).trans ((set1_cell (by omega) _ _).trans (((bcell hC2).1 _ _ (by omega)).trans t1)))), (set1_cell (by omega) _ _).trans ((set1_cell (by omega) _ _).trans ((set1_cell (by omega) _ _).trans ((set1_cell (by omega) _ _).trans (((bcell hC2).1 _ _ (by omega)).trans t2))))⟩ (fun hH => ?_)
 try simp only [Nm]
 clear HK7
 clear fd0 fd1 kd0 kd1
 refine wpAnyH_done (by kernel_rfl) ?_ _
 clear p0 p1 t0 t1 t2 lp lt' hH
 obtain ⟨W5, hW5⟩ : ∃ W : World, W = (((V2.setCell ⟨g, 0, none⟩ (.slice dA dX.length da)).setCell ⟨g, 1, none⟩ (.slice dB dY.length db)).setCell ⟨g + 1, 0, none⟩ (.slice eA eX.length ea)).setCell ⟨g + 1, 1, none⟩ (.slice eB eY.length eb) := ⟨_, rfl⟩
 rw [← hW5]
 have hBV := hB.trans (hC2.mono hB.size)
 replace hP := hP.below hC2 hP.lt
 replace hT := hT.below hC2 hT.lt
 replace hKa := hKa.below hC2 hKa.lt
 replace hKb := hKb.below hC2 hKb.lt
 replace hKc := hKc.below hC2 hKc.lt
 replace hKd := hKd.below hC2 hKd.lt
 replace hKe := hKe.below hC2 hKe.lt
 replace hKf := hKf.below hC2 hKf.lt
 replace qa1 := qa1.below' hC2
 replace qa2 := qa2.below' hC2
 replace qb1 := qb1.below' hC2
 replace qb2 := qb2.below' hC2
 replace hB : Below w.heap.size w W5 := by rw [hW5]; exact (((hBV.setCell (by simp <;> omega) _).setCell (by simp <;> omega) _).setCell (by simp <;> omega) _).setCell (by simp <;> omega) _
 replace qa1 := Row.far4_is hW5 qa1 (qa1.ne_blk hKd (by decide)) (qa1.ne_blk hKe (by decide))
 replace qa2 := Row.far4_is hW5 qa2 (qa2.ne_blk hKd (by decide)) (qa2.ne_blk hKe (by decide))
 replace qb1 := Row.far4_is hW5 qb1 (qb1.ne_blk hKd (by decide)) (qb1.ne_blk hKe (by decide))
 replace qb2 := Row.far4_is hW5 qb2 (qb2.ne_blk hKd (by decide)) (qb2.ne_blk hKe (by decide))
 replace qd1 := Row.far4_is hW5 qd1 (qd1.ne_blk hKd (by decide)) (qd1.ne_blk hKe (by decide))
 replace qd2 := Row.far4_is hW5 qd2 (qd2.ne_blk hKd (by decide)) (qd2.ne_blk hKe (by decide))
 replace qe1 := Row.far4_is hW5 qe1 (qe1.ne_blk hKd (by decide)) (qe1.ne_blk hKe (by decide))
 replace qe2 := Row.far4_is hW5 qe2 (qe2.ne_blk hKd (by decide)) (qe2.ne_blk hKe (by decide))
 replace hP := Blk.far4_is hW5 hP (by omega) (by omega)
 replace hT := Blk.far4_is hW5 hT (by omega) (by omega)
 replace hKa := Blk.far4_is hW5 hKa (by omega) (by omega)
 replace hKb := Blk.far4_is hW5 hKb (by omega) (by omega)
 replace hKc := Blk.far4_is hW5 hKc (by omega) (by omega)
 replace hKf := Blk.far4_is hW5 hKf (by omega) (by omega)
 have hKd5 : Blk W5 g 29 #[.slice dA dX.length da, .slice dB dY.length db] := by rw [hW5]; exact (((hKd.set_ 0 _).set_ 1 _).far (by simp) _).far (by simp) _
 have hKe5 : Blk W5 (g + 1) 29 #[.slice eA eX.length ea, .slice eB eY.length eb] := by rw [hW5]; exact ((((hKe.far (by simp) _).far (by simp) _).set_ 0 _).set_ 1 _)
 replace hKd := hKd5
 replace hKe := hKe5
 clear hW5 hC2 hC1 hC0 hBV hKd5 hKe5
 go_upto_region 13 with fail
 have hdF : aX = dX ∧ aY = dY := by (
 rw [HaX.out, HaY.out, HdX.out, HdY.out, HF4.out.unique HF.out]
 exact ⟨rfl, (lazyZ_eq F HR.out Hop.out).symm⟩)
 have heF : bX = eX ∧ bY = eY := by (
 rw [HbX.out, HbY.out, HeX.out, HeY.out, HF5.out.unique HF2.out]
 exact ⟨busyX_eq HF2.out, busyY_eq HR.out Hop.out⟩)
 have HdF := hide hdF
 clear hdF
 have HeF := hide heF
 clear heF
 clear hT0 hP hT
 go_wp2_with fail
 refine (moveBegun_any _).mono ?_
 rintro e w7 ⟨rfl, hb7⟩
 replace hKa := hKa.below hb7 hKa.lt
 replace hKb := hKb.below hb7 hKb.lt
 replace hKc := hKc.below hb7 hKc.lt
 replace hKd := hKd.below hb7 hKd.lt
 replace hKe := hKe.below hb7 hKe.lt
 replace hKf := hKf.below hb7 hKf.lt
 replace qa1 := qa1.below' hb7
 replace qa2 := qa2.below' hb7
 replace qb1 := qb1.below' hb7
 replace qb2 := qb2.below' hb7
 replace qd1 := qd1.below' hb7
 replace qd2 := qd2.below' hb7
 replace qe1 := qe1.below' hb7
 replace qe2 := qe2.below' hb7
 replace hB := hB.trans (hb7.mono hB.size)
 clear hb7
 have x0 := hKa.cell 0
 have x1 := hKa.cell 1
 have y0 := hKd.cell 0
 have y1 := hKd.cell 1
 simp only [Yl] at x0 x1 y0 y1
 have lx := hKa.lt
 have ly := hKd.lt
 go_wp2_with fail
 refine (samePlaces_any aA aB dA dB aa ab da db aX aY dX dY _ qa1.vals qa2.vals qd1.vals qd2.vals LaX LaY LdX LdY).mono ?_
 rintro e w8 ⟨rfl, hbw8⟩
 rw [show (aX == dX && aY == dY) = true by rw [HdF.out.1, HdF.out.2]; simp]
 clear x0 x1 y0 y1 lx ly
 replace hKa := hKa.below hbw8 hKa.lt
 replace hKb := hKb.below hbw8 hKb.lt
 replace hKc := hKc.below hbw8 hKc.lt
 replace hKd := hKd.below hbw8 hKd.lt
 replace hKe := hKe.below hbw8 hKe.lt
 replace hKf := hKf.below hbw8 hKf.lt
 replace qa1 := qa1.below' hbw8
 replace qa2 := qa2.below' hbw8
 replace qb1 := qb1.below' hbw8
 replace qb2 := qb2.below' hbw8
 replace qd1 := qd1.below' hbw8
 replace qd2 := qd2.below' hbw8
 replace qe1 := qe1.below' hbw8
 replace qe2 := qe2.below' hbw8
 replace hB := hB.trans (hbw8.mono hB.size)
 clear hbw8
 have x0 := hKb.cell 0
 have x1 := hKb.cell 1
 have y0 := hKe.cell 0
 have y1 := hKe.cell 1
 simp only [Yl] at x0 x1 y0 y1
 have lx := hKb.lt
 have ly := hKe.lt
 go_wp2_with fail
 refine (samePlaces_any bA bB eA eB ba bb ea eb bX bY eX eY _ qb1.vals qb2.vals qe1.vals qe2.vals LbX LbY LeX LeY).mono ?_
 rintro e w9 ⟨rfl, hbw9⟩
 rw [show (bX == eX && bY == eY) = true by rw [HeF.out.1, HeF.out.2]; simp]
 clear x0 x1 y0 y1 lx ly
 replace hKa := hKa.below hbw9 hKa.lt
 replace hKb := hKb.below hbw9 hKb.lt
 replace hKc := hKc.below hbw9 hKc.lt
 replace hKd := hKd.below hbw9 hKd.lt
 replace hKe := hKe.below hbw9 hKe.lt
 replace hKf := hKf.below hbw9 hKf.lt
 replace qa1 := qa1.below' hbw9
 replace qa2 := qa2.below' hbw9
 replace qb1 := qb1.below' hbw9
 replace qb2 := qb2.below' hbw9
 replace qd1 := qd1.below' hbw9
 replace qd2 := qd2.below' hbw9
 replace qe1 := qe1.below' hbw9
 replace qe2 := qe2.below' hbw9
 replace hB := hB.trans (hbw9.mono hB.size)
 clear hbw9
 have x0 := hKc.cell 0
 have x1 := hKc.cell 1
 have y0 := hKf.cell 0
 have y1 := hKf.cell 1
 simp only [Yl] at x0 x1 y0 y1
 have lx := hKc.lt
 have ly := hKf.lt
 go_wp2_with fail
 refine (samePlaces_any none none none none 0 0 0 0 [] [] [] [] _ ValsAt.nil ValsAt.nil ValsAt.nil ValsAt.nil (by simp) (by simp) (by simp) (by simp)).mono ?_
 rintro e w10 ⟨rfl, hbw10⟩
 rw [show (([] : List Bool) == [] && ([] : List Bool) == []) = true from rfl]
 clear x0 x1 y0 y1 lx ly
 replace hKa := hKa.below hbw10 hKa.lt
 replace hKb := hKb.below hbw10 hKb.lt
 replace hKc := hKc.below hbw10 hKc.lt
 replace hKd := hKd.below hbw10 hKd.lt
 replace hKe := hKe.below hbw10 hKe.lt
 replace hKf := hKf.below hbw10 hKf.lt
 replace qa1 := qa1.below' hbw10
 replace qa2 := qa2.below' hbw10
 replace qb1 := qb1.below' hbw10
 replace qb2 := qb2.below' hbw10
 replace qd1 := qd1.below' hbw10
 replace qd2 := qd2.below' hbw10
 replace qe1 := qe1.below' hbw10
 replace qe2 := qe2.below' hbw10
 replace hB := hB.trans (hbw10.mono hB.size)
 clear hbw10
 go_wp2_with fail
 go_ret
 exact ⟨rfl, hB⟩)
set_option maxRecDepth 100000 in
theorem placesLaw_K (regs : Int) (A : Option Addr) (l : List Nd) (cap : Nat) (t : Tm) (X : Option Addr) (x : List Bool) (xc : Nat) (w : World) (hml : l.length ≤ maxLen) (hA : NodesAt w A l) (hX : ValsAt w X (bools x)) (hc : fxE regs l t = 0) (hpl : x.length = l.length) :
 Calls Tryz.prog 3 #[.agg #[.int .i64 regs, .slice A l.length cap], .agg #[.int .i64 t.op, .int .i64 t.a, .int .i64 t.b], .slice X x.length xc] w fun e w' => e = .returned (.bool true) ∧ Below w.heap.size w w' := by (
 have HLz := hide (fun W (hW : Below w.heap.size w W) => Lazy_any regs A l cap t W hml (hA.below hW))
 have HBu := hide (fun W (hW : Below w.heap.size w W) => Busy_any regs A l cap t W hml (hA.below hW))
 have HRv := hide (fun W (hW : Below w.heap.size w W) => Rival_any regs A l cap t X x xc W hml (hA.below hW) (hX.below hW))
 have HFE := hide (fun W (hW : Below w.heap.size w W) => factsError_any regs A l cap t W (hA.below hW))
 have hk := fxE_chk hc
 have hR := right_of_chk hk
 have hop := fxE_op hc
 have HLo := hide (fun W (hW : Below w.heap.size w W) => LazyOf_any regs A l cap t W (hA.below hW) hR)
 have HBo := hide (fun W (hW : Below w.heap.size w W) => BusyOf_any regs A l cap t W (hA.below hW) hR)
 have HRo := hide (fun W (hW : Below w.heap.size w W) => RivalOf_any regs A l cap t X x xc W (hA.below hW) hR (hX.below hW) hpl)
 have HR := hide hR
 have Hop := hide hop
 clear hk hR hop hA hX
 have hd : ((x.length : Int) != (l.length : Int)) = false := by simp [hpl]
 have Hpl := hide hpl
 clear hpl
 have Hc := hide hc
 clear hc
 go_enter Tryz.func3, Tryz.ntmps3
 go_wp2_with fail
 refine (HLz.out _ (by (with_reducible repeat first | apply Qa | assumption | apply Qb | apply Qc | apply Qd | apply Qe | refine Qf ?_ (by assumption) ?_); all_goals (try simp only [Sz]); first | done | omega | (try simp only [Sz] at *); omega)).mono ?_
 rintro e w1 ⟨hb1, h⟩
 obtain ⟨-, F, v1, v2, hF, rfl, r1, r2, -⟩ := h.resolve_left (fun h => h.1 Hc.out)
 clear h
 have HF := hide hF
 clear hF
 obtain ⟨aX, haX⟩ : ∃ z, z = lazyX l F := ⟨_, rfl⟩
 obtain ⟨aY, haY⟩ : ∃ z, z = lazyY t l F := ⟨_, rfl⟩
 rw [← haX] at r1
 rw [← haY] at r2
 have HaX := hide haX
 have HaY := hide haY
 clear haX haY
 obtain ⟨aA, aa, ae, am, an⟩ := r1.shape
 rw [bools_length] at ae am
 subst ae
 have LaX : aX.length ≤ maxLen := Nat.le_trans am an
 obtain ⟨aB, ab, af, am, an⟩ := r2.shape
 rw [bools_length] at af am
 subst af
 have LaY : aY.length ≤ maxLen := Nat.le_trans am an
 have qa1 := r1
 have qa2 := r2
 clear r1 r2
 have hz1 := hb1.size
 simp only [World.size_alloc] at hz1
 have hB : Below w.heap.size w w1 := (by (with_reducible repeat first | apply Qa | assumption | apply Qb | apply Qc | apply Qd | apply Qe | refine Qf ?_ (by assumption) ?_); all_goals (try simp only [Sz]); first | done | omega | (try simp only [Sz] at *); omega)
 have hP : Blk w1 w.heap.size 24 #[.int .i64 regs, .slice A l.length cap] := Blk.below (by repeat (first | ((with_reducible refine Blk.new' ?_); exact (by (try simp only [Sz]); first | done | omega | (try simp only [Sz] at *); omega)) | (with_reducible refine Blk.alloc ?_ _))) hb1 (by simp <;> omega)
 have hT : Blk w1 (w.heap.size + 1) 26 (tmA t) := Blk.below (by unfold tmA; repeat (first | ((with_reducible refine Blk.new' ?_); exact (by (try simp only [Sz]); first | done | omega | (try simp only [Sz] at *); omega)) | (with_reducible refine Blk.alloc ?_ _))) hb1 (by simp <;> omega)
 clear hb1 hz1
 have hT0 := hT.lt
 go_upto_region 2 with fail
 obtain ⟨W1, hW1⟩ : ∃ W : World, W = w1.alloc (.cells #[.slice aA aX.length aa, .slice aB aY.length ab] 29) := ⟨_, rfl⟩
 have hbW1 : Below w1.heap.size w1 W1 := by rw [hW1]; exact (Below.refl _ _).alloc (Nat.le_refl _) _
 have hKa : Blk W1 w1.heap.size 29 #[.slice aA aX.length aa, .slice aB aY.length ab] := by rw [hW1]; exact Blk.new' rfl
 rw [← hW1]
 replace hP := hP.below hbW1 hP.lt
 replace hT := hT.below hbW1 hT.lt
 replace hB := hB.trans (hbW1.mono hB.size)
 obtain ⟨ga, hga⟩ : ∃ b, b = w1.heap.size := ⟨_, rfl⟩
 rw [← hga] at hKa ⊢
 clear hW1 hga hT0
 have p0 := hP.cell 0
 have p1 := hP.cell 1
 have t0 := hT.cell 0
 have t1 := hT.cell 1
 have t2 := hT.cell 2
 simp only [tmA, Yl] at p0 p1 t0 t1 t2
 have lp := hP.lt
 have lt' := hT.lt
 go_wp2_with fail
 refine (HBu.out _ hB).mono ?_
 rintro e w2 ⟨hb2, h⟩
 clear p0 p1 t0 t1 t2 lp lt'
 obtain ⟨-, F2, v1, v2, hF, rfl, r1, r2, -⟩ := h.resolve_left (fun h => h.1 Hc.out)
 clear h
 have HF2 := hide hF
 clear hF
 replace hP := hP.below hb2 hP.lt
 replace hT := hT.below hb2 hT.lt
 replace hKa := hKa.below hb2 hKa.lt
 have hbb := hbW1.trans (hb2.mono hbW1.size)
 replace qa1 := qa1.below' hbb
 replace qa2 := qa2.below' hbb
 replace hB := hB.trans (hb2.mono hB.size)
 clear hbb hbW1
 clear hb2
 obtain ⟨bX, hbX⟩ : ∃ z, z = busyX l F2 := ⟨_, rfl⟩
 obtain ⟨bY, hbY⟩ : ∃ z, z = busyY t l := ⟨_, rfl⟩
 rw [← hbX] at r1
 rw [← hbY] at r2
 have HbX := hide hbX
 have HbY := hide hbY
 clear hbX hbY
 obtain ⟨bA, ba, be, bm, bn⟩ := r1.shape
 rw [bools_length] at be bm
 subst be
 have LbX : bX.length ≤ maxLen := Nat.le_trans bm bn
 obtain ⟨bB, bb, bf, bm, bn⟩ := r2.shape
 rw [bools_length] at bf bm
 subst bf
 have LbY : bY.length ≤ maxLen := Nat.le_trans bm bn
 have qb1 := r1
 have qb2 := r2
 clear r1 r2
 have hT0 := hT.lt
 go_upto_region 3 with fail
 obtain ⟨W2, hW2⟩ : ∃ W : World, W = w2.alloc (.cells #[.slice bA bX.length ba, .slice bB bY.length bb] 29) := ⟨_, rfl⟩
 have hbW2 : Below w2.heap.size w2 W2 := by rw [hW2]; exact (Below.refl _ _).alloc (Nat.le_refl _) _
 have hKb : Blk W2 w2.heap.size 29 #[.slice bA bX.length ba, .slice bB bY.length bb] := by rw [hW2]; exact Blk.new' rfl
 rw [← hW2]
 replace hP := hP.below hbW2 hP.lt
 replace hT := hT.below hbW2 hT.lt
 replace hB := hB.trans (hbW2.mono hB.size)
 obtain ⟨gb, hgb⟩ : ∃ b, b = w2.heap.size := ⟨_, rfl⟩
 rw [← hgb] at hKb ⊢
 clear hW2 hgb hT0
 have p0 := hP.cell 0
 have p1 := hP.cell 1
 have t0 := hT.cell 0
 have t1 := hT.cell 1
 have t2 := hT.cell 2
 simp only [tmA, Yl] at p0 p1 t0 t1 t2
 have lp := hP.lt
 have lt' := hT.lt
 go_wp2_with fail
 refine (HRv.out _ hB).mono ?_
 rintro e w3 ⟨hb3, h⟩
 clear p0 p1 t0 t1 t2 lp lt'
 obtain ⟨-, -, F3, th, v1, v2, hF, hG, rfl, r1, r2, -⟩ := (h.resolve_left (fun h => h.1 Hc.out)).resolve_left (fun h => h.2.1 Hpl.out)
 clear h
 have HF3 := hide hF
 have HG3 := hide hG
 clear hF hG
 replace hP := hP.below hb3 hP.lt
 replace hT := hT.below hb3 hT.lt
 replace hKb := hKb.below hb3 hKb.lt
 have hbb := hbW2.trans (hb3.mono hbW2.size)
 replace hKa := hKa.below hbb hKa.lt
 replace qa1 := qa1.below' hbb
 replace qa2 := qa2.below' hbb
 replace qb1 := qb1.below' hbb
 replace qb2 := qb2.below' hbb
 replace hB := hB.trans (hb3.mono hB.size)
 clear hbb hbW2
 clear hb3
 obtain ⟨cX, hcX⟩ : ∃ z, z = rivG l F3 x := ⟨_, rfl⟩
 obtain ⟨cY, hcY⟩ : ∃ z, z = rivY t l th := ⟨_, rfl⟩
 rw [← hcX] at r1
 rw [← hcY] at r2
 have HcX := hide hcX
 have HcY := hide hcY
 clear hcX hcY
 obtain ⟨cA, ca, ce, cm, cn⟩ := r1.shape
 rw [bools_length] at ce cm
 subst ce
 have LcX : cX.length ≤ maxLen := Nat.le_trans cm cn
 obtain ⟨cB, cb, cf, cm, cn⟩ := r2.shape
 rw [bools_length] at cf cm
 subst cf
 have LcY : cY.length ≤ maxLen := Nat.le_trans cm cn
 have qc1 := r1
 have qc2 := r2
 clear r1 r2
 have hT0 := hT.lt
 go_upto_region 4 with fail
 obtain ⟨W3, hW3⟩ : ∃ W : World, W = w3.alloc (.cells #[.slice cA cX.length ca, .slice cB cY.length cb] 29) := ⟨_, rfl⟩
 have hbW3 : Below w3.heap.size w3 W3 := by rw [hW3]; exact (Below.refl _ _).alloc (Nat.le_refl _) _
 have hKc : Blk W3 w3.heap.size 29 #[.slice cA cX.length ca, .slice cB cY.length cb] := by rw [hW3]; exact Blk.new' rfl
 rw [← hW3]
 replace hP := hP.below hbW3 hP.lt
 replace hT := hT.below hbW3 hT.lt
 replace hB := hB.trans (hbW3.mono hB.size)
 obtain ⟨gc, hgc⟩ : ∃ b, b = w3.heap.size := ⟨_, rfl⟩
 rw [← hgc] at hKc ⊢
 clear hW3 hgc hT0
 have p0 := hP.cell 0
 have p1 := hP.cell 1
 have t0 := hT.cell 0
 have t1 := hT.cell 1
 have t2 := hT.cell 2
 simp only [tmA, Yl] at p0 p1 t0 t1 t2
 have lp := hP.lt
 have lt' := hT.lt
 go_wp2_with fail
 refine (HFE.out _ hB).mono ?_
 rintro e w4 ⟨rfl, hb4⟩
 clear p0 p1 t0 t1 t2 lp lt'
 replace hP := hP.below hb4 hP.lt
 replace hT := hT.below hb4 hT.lt
 replace hKc := hKc.below hb4 hKc.lt
 have hbb := hbW3.trans (hb4.mono hbW3.size)
 replace hKa := hKa.below hbb hKa.lt
 replace hKb := hKb.below hbb hKb.lt
 replace qa1 := qa1.below' hbb
 replace qa2 := qa2.below' hbb
 replace qb1 := qb1.below' hbb
 replace qb2 := qb2.below' hbb
 replace qc1 := qc1.below' hbb
 replace qc2 := qc2.below' hbb
 replace hB := hB.trans (hb4.mono hB.size)
 clear hbb hbW3
 clear hb4
 rw [Hc.out]
 have hT0 := hT.lt
 have p1 := hP.cell 1
 simp only [Yl] at p1
 have lp := hP.lt
 go_upto_region 9 with fail
 clear p1 lp
 obtain ⟨W4, hW4⟩ : ∃ W : World, W = ((w4.alloc (.cells #[.slice none 0 0, .slice none 0 0] 29)).alloc (.cells #[.slice none 0 0, .slice none 0 0] 29)).alloc (.cells #[.slice none 0 0, .slice none 0 0] 29) := ⟨_, rfl⟩
 have hbW4 : Below w4.heap.size w4 W4 := by rw [hW4]; exact (((Below.refl _ _).alloc (Nat.le_refl _) _).alloc (by simp) _).alloc (by simp <;> omega) _
 have hKd : Blk W4 w4.heap.size 29 #[.slice none 0 0, .slice none 0 0] := by rw [hW4]; exact ((Blk.new' rfl).alloc _).alloc _
 have hKe : Blk W4 (w4.heap.size + 1) 29 #[.slice none 0 0, .slice none 0 0] := by rw [hW4]; exact (Blk.new' (by simp)).alloc _
 have hKf : Blk W4 (w4.heap.size + 1 + 1) 29 #[.slice none 0 0, .slice none 0 0] := by rw [hW4]; exact Blk.new' (by simp)
 rw [← hW4]
 have la0 := hKa.lt
 have lb0 := hKb.lt
 have lc0 := hKc.lt
 replace hP := hP.below hbW4 hP.lt
 replace hT := hT.below hbW4 hT.lt
 replace hKa := hKa.below hbW4 hKa.lt
 replace hKb := hKb.below hbW4 hKb.lt
 replace hKc := hKc.below hbW4 hKc.lt
 replace qa1 := qa1.below' hbW4
 replace qa2 := qa2.below' hbW4
 replace qb1 := qb1.below' hbW4
 replace qb2 := qb2.below' hbW4
 replace qc1 := qc1.below' hbW4
 replace qc2 := qc2.below' hbW4
 replace hB := hB.trans (hbW4.mono hB.size)
 obtain ⟨g, hg⟩ : ∃ b, b = w4.heap.size := ⟨_, rfl⟩
 rw [← hg] at hKd hKe hKf la0 lb0 lc0 hT0 ⊢
 clear hW4 hg hbW4
 go_upto_region 10 with fail
 have p0 := hP.cell 0
 have p1 := hP.cell 1
 have t0 := hT.cell 0
 have t1 := hT.cell 1
 have t2 := hT.cell 2
 simp only [tmA, Yl] at p0 p1 t0 t1 t2
 have lp := hP.lt
 have lt' := hT.lt
 have HH : ∀ (V : World), Below W4.heap.size W4 V → (V.cell? ⟨w.heap.size, 0, none⟩ = some (.int .i64 regs) ∧ V.cell? ⟨w.heap.size, 1, none⟩ = some (.slice A l.length cap) ∧ V.cell? ⟨w.heap.size + 1, 0, none⟩ = some (.int .i64 t.op) ∧ V.cell? ⟨w.heap.size + 1, 1, none⟩ = some (.int .i64 t.a) ∧ V.cell? ⟨w.heap.size + 1, 2, none⟩ = some (.int .i64 t.b)) := fun V hV => ⟨((bcell hV).1 _ _ (by omega)).trans p0, ((bcell hV).1 _ _ (by omega)).trans p1, ((bcell hV).1 _ _ (by omega)).trans t0, ((bcell hV).1 _ _ (by omega)).trans t1, ((bcell hV).1 _ _ (by omega)).trans t2⟩
 refine wp_region_held_drew (S := fun w' => (w'.cell? ⟨w.heap.size, 0, none⟩ = some (.int .i64 regs) ∧ w'.cell? ⟨w.heap.size, 1, none⟩ = some (.slice A l.length cap) ∧ w'.cell? ⟨w.heap.size + 1, 0, none⟩ = some (.int .i64 t.op) ∧ w'.cell? ⟨w.heap.size + 1, 1, none⟩ = some (.int .i64 t.a) ∧ w'.cell? ⟨w.heap.size + 1, 2, none⟩ = some (.int .i64 t.b))) (by kernel_rfl) ?_ ?_
 · exact ⟨p0, p1, t0, t1, t2⟩
 intro hH
 have hC0 : Below W4.heap.size W4 W4.drew := (Below.refl _ _).drew
 generalize W4.drew = V0 at hH hC0 ⊢
 refine Up (fun _ _ _ _ _ => id) fun hPq => ?_
 refine Vi 0 ?_ rfl (by kernel_rfl) hPq (by rfl) ?r hH ?_; case r => intro w' h; (try dsimp only at h); (try go_split_ands); go_simp; try with_reducible rfl
 try simp only [Nm]
 refine Vi 1 ?_ rfl (by kernel_rfl) hPq (by rfl) ?r hH ?_; case r => intro w' h; (try dsimp only at h); (try go_split_ands); go_simp; try with_reducible rfl
 try simp only [Nm]
 refine Vi 3 ?_ rfl (by kernel_rfl) hPq (by rfl) ?r hH ?_; case r => intro w' h; (try dsimp only at h); (try go_split_ands); go_simp; try with_reducible rfl
 try simp only [Nm]
 refine Vi 4 ?_ rfl (by kernel_rfl) hPq (by rfl) ?r hH ?_; case r => intro w' h; (try dsimp only at h); (try go_split_ands); go_simp; try with_reducible rfl
 try simp only [Nm]
 refine Rd 2 (by kernel_rfl) rfl (fun K hK => ?_)
 have HK2 := hide hK
 clear hK
 go_simp
 go_at_call 9
 refine (HLo.out _ (hB.trans (hC0.mono hB.size))).mono ?_
 rintro e V1 ⟨hbV1, F4, v1, v2, hF, rfl, r1, r2⟩
 have hC1 : Below W4.heap.size W4 V1 := hC0.trans (hbV1.mono hC0.size)
 clear hH
 have HF4 := hide hF
 clear hF
 obtain ⟨dX, hdX⟩ : ∃ z, z = lazyX l F4 := ⟨_, rfl⟩
 obtain ⟨dY, hdY⟩ : ∃ z, z = lazyZ t l F4 := ⟨_, rfl⟩
 rw [← hdX] at r1
 rw [← hdY] at r2
 have HdX := hide hdX
 have HdY := hide hdY
 clear hdX hdY
 obtain ⟨dA, da, de, dm, dn⟩ := r1.shape
 rw [bools_length] at de dm
 subst de
 have LdX : dX.length ≤ maxLen := Nat.le_trans dm dn
 obtain ⟨dB, db, df, dm, dn⟩ := r2.shape
 rw [bools_length] at df dm
 subst df
 have LdY : dY.length ≤ maxLen := Nat.le_trans dm dn
 have qd1 := r1
 have qd2 := r2
 clear r1 r2
 refine Shut.out HK2.out _ _ (HH _ hC1) (fun hH => ?_)
 try simp only [Nm]
 clear HK2
 refine Rd 5 (by kernel_rfl) rfl (fun K hK => ?_)
 have HK5 := hide hK
 clear hK
 go_simp
 go_at_call 10
 refine (HBo.out _ (hB.trans (hC1.mono hB.size))).mono ?_
 rintro e V2 ⟨hbV2, F5, v1, v2, hF, rfl, r1, r2⟩
 have hC2 : Below W4.heap.size W4 V2 := hC1.trans (hbV2.mono hC1.size)
 clear hH
 have HF5 := hide hF
 clear hF
 obtain ⟨eX, heX⟩ : ∃ z, z = F5.early := ⟨_, rfl⟩
 obtain ⟨eY, heY⟩ : ∃ z, z = recL t l := ⟨_, rfl⟩
 rw [← heX] at r1
 rw [← heY] at r2
 have HeX := hide heX
 have HeY := hide heY
 clear heX heY
 obtain ⟨eA, ea, ee, em, en⟩ := r1.shape
 rw [bools_length] at ee em
 subst ee
 have LeX : eX.length ≤ maxLen := Nat.le_trans em en
 obtain ⟨eB, eb, ef, em, en⟩ := r2.shape
 rw [bools_length] at ef em
 subst ef
 have LeY : eY.length ≤ maxLen := Nat.le_trans em en
 have qe1 := r1
 have qe2 := r2
 clear r1 r2
 replace qd1 := qd1.below' hbV2
 replace qd2 := qd2.below' hbV2
 clear hbV2
 refine Shut.out HK5.out _ _ (HH _ hC2) (fun hH => ?_)
 try simp only [Nm]
 clear HK5
 refine Rd 6 (by kernel_rfl) rfl (fun K hK => ?_)
 have HK6 := hide hK
 clear hK
 have fd0 := (hKd.below hC2 hKd.lt).frozen 0
 have fd1 := (hKd.below hC2 hKd.lt).frozen 1
 have kd0 := (hKd.below hC2 hKd.lt).cell 0
 have kd1 := (hKd.below hC2 hKd.lt).cell 1
 simp only [Yl] at kd0 kd1
 go_simp
 refine Shut.out HK6.out _ _ ⟨(set1_cell (by omega) _ _).trans ((set1_cell (by omega) _ _).trans (((bcell hC2).1 _ _ (by omega)).trans p0)), (set1_cell (by omega) _ _).trans ((set1_cell (by omega) _ _).trans (((bcell hC2).1 _ _ (by omega)).trans p1)), (set1_cell (by omega) _ _).trans ((set1_cell (by omega) _ _).trans (((bcell hC2).1 _ _ (by omega)).trans t0)), (set1_cell (by omega) _ _).trans ((set1_cell (by omega) _ _).trans (((bcell hC2).1 _ _ (by omega)).trans t1)), (set1_cell (by omega) _ _).trans ((set1_cell (by omega) _ _).trans (((bcell hC2).1 _ _ (by omega)).trans t2))⟩ (fun hH => ?_)
 try simp only [Nm]
 clear HK6
 clear fd0 fd1 kd0 kd1
 refine Rd 7 (by kernel_rfl) rfl (fun K hK => ?_)
 have HK7 := hide hK
 clear hK
 have fd0 := (hKe.below hC2 hKe.lt).frozen 0
 have fd1 := (hKe.below hC2 hKe.lt).frozen 1
 have kd0 := (hKe.below hC2 hKe.lt).cell 0
 have kd1 := (hKe.below hC2 hKe.lt).cell 1
 simp only [Yl] at kd0 kd1
 go_simp
 refine Shut.out HK7.out _ _ ⟨(set1_cell (by omega) _ _).trans ((set1_cell (by omega) _ _).trans ((set1_cell (by omega) _ _).trans ((set1_cell (by omega) _ _).trans (((bcell hC2).1 _ _ (by omega)).trans p0)))), (set1_cell (by omega) _ _).trans ((set1_cell (by omega) _ _).trans ((set1_cell (by omega) _ _).trans ((set1_cell (by omega) _ _).trans (((bcell hC2).1 _ _ (by omega)).trans p1)))), (set1_cell (by omega) _ _).trans ((set1_cell (by omega) _ _).trans ((set1_cell (by omega) _ _).trans ((set1_cell (by omega) _ _).trans (((bcell hC2).1 _ _ (by omega)).trans t0)))), (set1_cell (by omega) _ _).trans ((set1_cell (by omega) _ _).trans ((set1_cell (by omega) _ _).trans ((set1_cell (by omega) _ _).trans (((bcell hC2).1 _ _ (by omega)).trans t1)))), (set1_cell (by omega) _ _).trans ((set1_cell (by omega) _ _).trans ((set1_cell (by omega) _ _).trans ((set1_cell (by omega) _ _).trans (((bcell hC2).1 _ _ (by omega)).trans t2))))⟩ (fun hH => ?_)
 try simp only [Nm]
 clear HK7
 clear fd0 fd1 kd0 kd1
 refine wpAnyH_done (by kernel_rfl) ?_ _
 clear p0 p1 t0 t1 t2 lp lt' hH
 obtain ⟨W5, hW5⟩ : ∃ W : World, W = (((V2.setCell ⟨g, 0, none⟩ (.slice dA dX.length da)).setCell ⟨g, 1, none⟩ (.slice dB dY.length db)).setCell ⟨g + 1, 0, none⟩ (.slice eA eX.length ea)).setCell ⟨g + 1, 1, none⟩ (.slice eB eY.length eb) := ⟨_, rfl⟩
 rw [← hW5]
 have hBV := hB.trans (hC2.mono hB.size)
 replace hP := hP.below hC2 hP.lt
 replace hT := hT.below hC2 hT.lt
 replace hKa := hKa.below hC2 hKa.lt
 replace hKb := hKb.below hC2 hKb.lt
 replace hKc := hKc.below hC2 hKc.lt
 replace hKd := hKd.below hC2 hKd.lt
 replace hKe := hKe.below hC2 hKe.lt
 replace hKf := hKf.below hC2 hKf.lt
 replace qa1 := qa1.below' hC2
 replace qa2 := qa2.below' hC2
 replace qb1 := qb1.below' hC2
 replace qb2 := qb2.below' hC2
 replace qc1 := qc1.below' hC2
 replace qc2 := qc2.below' hC2
 replace hB : Below w.heap.size w W5 := by rw [hW5]; exact (((hBV.setCell (by simp <;> omega) _).setCell (by simp <;> omega) _).setCell (by simp <;> omega) _).setCell (by simp <;> omega) _
 replace qa1 := Row.far4_is hW5 qa1 (qa1.ne_blk hKd (by decide)) (qa1.ne_blk hKe (by decide))
 replace qa2 := Row.far4_is hW5 qa2 (qa2.ne_blk hKd (by decide)) (qa2.ne_blk hKe (by decide))
 replace qb1 := Row.far4_is hW5 qb1 (qb1.ne_blk hKd (by decide)) (qb1.ne_blk hKe (by decide))
 replace qb2 := Row.far4_is hW5 qb2 (qb2.ne_blk hKd (by decide)) (qb2.ne_blk hKe (by decide))
 replace qc1 := Row.far4_is hW5 qc1 (qc1.ne_blk hKd (by decide)) (qc1.ne_blk hKe (by decide))
 replace qc2 := Row.far4_is hW5 qc2 (qc2.ne_blk hKd (by decide)) (qc2.ne_blk hKe (by decide))
 replace qd1 := Row.far4_is hW5 qd1 (qd1.ne_blk hKd (by decide)) (qd1.ne_blk hKe (by decide))
 replace qd2 := Row.far4_is hW5 qd2 (qd2.ne_blk hKd (by decide)) (qd2.ne_blk hKe (by decide))
 replace qe1 := Row.far4_is hW5 qe1 (qe1.ne_blk hKd (by decide)) (qe1.ne_blk hKe (by decide))
 replace qe2 := Row.far4_is hW5 qe2 (qe2.ne_blk hKd (by decide)) (qe2.ne_blk hKe (by decide))
 replace hP := Blk.far4_is hW5 hP (by omega) (by omega)
 replace hT := Blk.far4_is hW5 hT (by omega) (by omega)
 replace hKa := Blk.far4_is hW5 hKa (by omega) (by omega)
 replace hKb := Blk.far4_is hW5 hKb (by omega) (by omega)
 replace hKc := Blk.far4_is hW5 hKc (by omega) (by omega)
 replace hKf := Blk.far4_is hW5 hKf (by omega) (by omega)
 have hKd5 : Blk W5 g 29 #[.slice dA dX.length da, .slice dB dY.length db] := by rw [hW5]; exact (((hKd.set_ 0 _).set_ 1 _).far (by simp) _).far (by simp) _
 have hKe5 : Blk W5 (g + 1) 29 #[.slice eA eX.length ea, .slice eB eY.length eb] := by rw [hW5]; exact ((((hKe.far (by simp) _).far (by simp) _).set_ 0 _).set_ 1 _)
 replace hKd := hKd5
 replace hKe := hKe5
 clear hW5 hC2 hC1 hC0 hBV hKd5 hKe5
 have p0 := hP.cell 0
 have p1 := hP.cell 1
 have t0 := hT.cell 0
 have t1 := hT.cell 1
 have t2 := hT.cell 2
 simp only [tmA, Yl] at p0 p1 t0 t1 t2
 have lp := hP.lt
 have lt' := hT.lt
 go_wp2_with fail
 refine (HRo.out _ hB).mono ?_
 rintro e w6 ⟨hb6, F6, th6, v1, v2, hF, hG, rfl, r1, r2⟩
 clear p0 p1 t0 t1 t2 lp lt'
 have HF6 := hide hF
 have HG6 := hide hG
 clear hF hG
 replace hP := hP.below hb6 hP.lt
 replace hT := hT.below hb6 hT.lt
 replace hKa := hKa.below hb6 hKa.lt
 replace hKb := hKb.below hb6 hKb.lt
 replace hKc := hKc.below hb6 hKc.lt
 replace hKd := hKd.below hb6 hKd.lt
 replace hKe := hKe.below hb6 hKe.lt
 replace hKf := hKf.below hb6 hKf.lt
 replace qa1 := qa1.below' hb6
 replace qa2 := qa2.below' hb6
 replace qb1 := qb1.below' hb6
 replace qb2 := qb2.below' hb6
 replace qc1 := qc1.below' hb6
 replace qc2 := qc2.below' hb6
 replace qd1 := qd1.below' hb6
 replace qd2 := qd2.below' hb6
 replace qe1 := qe1.below' hb6
 replace qe2 := qe2.below' hb6
 replace hB := hB.trans (hb6.mono hB.size)
 clear hb6
 obtain ⟨fX, hfX⟩ : ∃ z, z = rivG l F6 x := ⟨_, rfl⟩
 obtain ⟨fY, hfY⟩ : ∃ z, z = mk l.length fun k => yn th6 k && recB t (nd l k) := ⟨_, rfl⟩
 rw [← hfX] at r1
 rw [← hfY] at r2
 have HfX := hide hfX
 have HfY := hide hfY
 clear hfX hfY
 obtain ⟨fA, fa, fe, fm, fn⟩ := r1.shape
 rw [bools_length] at fe fm
 subst fe
 have LfX : fX.length ≤ maxLen := Nat.le_trans fm fn
 obtain ⟨fB, fb, ff, fm, fn⟩ := r2.shape
 rw [bools_length] at ff fm
 subst ff
 have LfY : fY.length ≤ maxLen := Nat.le_trans fm fn
 have qf1 := r1
 have qf2 := r2
 clear r1 r2
 have k0 := hKf.cell 0
 have k1 := hKf.cell 1
 have fk0 := hKf.frozen 0
 have fk1 := hKf.frozen 1
 simp only [Yl] at k0 k1
 have lk := hKf.lt
 go_upto_region 13 with fail
 obtain ⟨W6, hW6⟩ : ∃ W : World, W = (w6.setCell ⟨g + 1 + 1, 0, none⟩ (.slice fA fX.length fa)).setCell ⟨g + 1 + 1, 1, none⟩ (.slice fB fY.length fb) := ⟨_, rfl⟩
 rw [← hW6]
 clear k0 k1 fk0 fk1 lk
 replace hB : Below w.heap.size w W6 := by rw [hW6]; exact (hB.setCell (by simp <;> omega) _).setCell (by simp <;> omega) _
 replace qa1 := Row.far2_is hW6 qa1 (qa1.ne_blk hKf (by decide))
 replace qa2 := Row.far2_is hW6 qa2 (qa2.ne_blk hKf (by decide))
 replace qb1 := Row.far2_is hW6 qb1 (qb1.ne_blk hKf (by decide))
 replace qb2 := Row.far2_is hW6 qb2 (qb2.ne_blk hKf (by decide))
 replace qc1 := Row.far2_is hW6 qc1 (qc1.ne_blk hKf (by decide))
 replace qc2 := Row.far2_is hW6 qc2 (qc2.ne_blk hKf (by decide))
 replace qd1 := Row.far2_is hW6 qd1 (qd1.ne_blk hKf (by decide))
 replace qd2 := Row.far2_is hW6 qd2 (qd2.ne_blk hKf (by decide))
 replace qe1 := Row.far2_is hW6 qe1 (qe1.ne_blk hKf (by decide))
 replace qe2 := Row.far2_is hW6 qe2 (qe2.ne_blk hKf (by decide))
 replace qf1 := Row.far2_is hW6 qf1 (qf1.ne_blk hKf (by decide))
 replace qf2 := Row.far2_is hW6 qf2 (qf2.ne_blk hKf (by decide))
 replace hP := Blk.far2_is hW6 hP (by simp <;> omega) (by simp <;> omega)
 replace hT := Blk.far2_is hW6 hT (by simp <;> omega) (by simp <;> omega)
 replace hKa := Blk.far2_is hW6 hKa (by simp <;> omega) (by simp <;> omega)
 replace hKb := Blk.far2_is hW6 hKb (by simp <;> omega) (by simp <;> omega)
 replace hKc := Blk.far2_is hW6 hKc (by simp <;> omega) (by simp <;> omega)
 replace hKd := Blk.far2_is hW6 hKd (by simp <;> omega) (by simp <;> omega)
 replace hKe := Blk.far2_is hW6 hKe (by simp <;> omega) (by simp <;> omega)
 have hKf6 : Blk W6 (g + 1 + 1) 29 #[.slice fA fX.length fa, .slice fB fY.length fb] := by rw [hW6]; exact (hKf.set_ 0 _).set_ 1 _
 replace hKf := hKf6
 clear hW6 hKf6
 have hdF : aX = dX ∧ aY = dY := by (
 rw [HaX.out, HaY.out, HdX.out, HdY.out, HF4.out.unique HF.out]
 exact ⟨rfl, (lazyZ_eq F HR.out Hop.out).symm⟩)
 have heF : bX = eX ∧ bY = eY := by (
 rw [HbX.out, HbY.out, HeX.out, HeY.out, HF5.out.unique HF2.out]
 exact ⟨busyX_eq HF2.out, busyY_eq HR.out Hop.out⟩)
 have hfF : cX = fX ∧ cY = fY := by (
 have hF36 := HF6.out.unique HF3.out
 have hg := HG6.out
 rw [hF36] at hg
 rw [HcX.out, HcY.out, HfX.out, HfY.out, hF36, hg.unique HG3.out]
 exact ⟨rfl, rivY_eq th HR.out Hop.out⟩)
 have HdF := hide hdF
 clear hdF
 have HeF := hide heF
 clear heF
 have HfF := hide hfF
 clear hfF
 clear hT0 hP hT
 go_wp2_with fail
 refine (moveBegun_any _).mono ?_
 rintro e w7 ⟨rfl, hb7⟩
 replace hKa := hKa.below hb7 hKa.lt
 replace hKb := hKb.below hb7 hKb.lt
 replace hKc := hKc.below hb7 hKc.lt
 replace hKd := hKd.below hb7 hKd.lt
 replace hKe := hKe.below hb7 hKe.lt
 replace hKf := hKf.below hb7 hKf.lt
 replace qa1 := qa1.below' hb7
 replace qa2 := qa2.below' hb7
 replace qb1 := qb1.below' hb7
 replace qb2 := qb2.below' hb7
 replace qc1 := qc1.below' hb7
 replace qc2 := qc2.below' hb7
 replace qd1 := qd1.below' hb7
 replace qd2 := qd2.below' hb7
 replace qe1 := qe1.below' hb7
 replace qe2 := qe2.below' hb7
 replace qf1 := qf1.below' hb7
 replace qf2 := qf2.below' hb7
 replace hB := hB.trans (hb7.mono hB.size)
 clear hb7
 have x0 := hKa.cell 0
 have x1 := hKa.cell 1
 have y0 := hKd.cell 0
 have y1 := hKd.cell 1
 simp only [Yl] at x0 x1 y0 y1
 have lx := hKa.lt
 have ly := hKd.lt
 go_wp2_with fail
 refine (samePlaces_any aA aB dA dB aa ab da db aX aY dX dY _ qa1.vals qa2.vals qd1.vals qd2.vals LaX LaY LdX LdY).mono ?_
 rintro e w8 ⟨rfl, hbw8⟩
 rw [show (aX == dX && aY == dY) = true by rw [HdF.out.1, HdF.out.2]; simp]
 clear x0 x1 y0 y1 lx ly
 replace hKa := hKa.below hbw8 hKa.lt
 replace hKb := hKb.below hbw8 hKb.lt
 replace hKc := hKc.below hbw8 hKc.lt
 replace hKd := hKd.below hbw8 hKd.lt
 replace hKe := hKe.below hbw8 hKe.lt
 replace hKf := hKf.below hbw8 hKf.lt
 replace qa1 := qa1.below' hbw8
 replace qa2 := qa2.below' hbw8
 replace qb1 := qb1.below' hbw8
 replace qb2 := qb2.below' hbw8
 replace qc1 := qc1.below' hbw8
 replace qc2 := qc2.below' hbw8
 replace qd1 := qd1.below' hbw8
 replace qd2 := qd2.below' hbw8
 replace qe1 := qe1.below' hbw8
 replace qe2 := qe2.below' hbw8
 replace qf1 := qf1.below' hbw8
 replace qf2 := qf2.below' hbw8
 replace hB := hB.trans (hbw8.mono hB.size)
 clear hbw8
 have x0 := hKb.cell 0
 have x1 := hKb.cell 1
 have y0 := hKe.cell 0
 have y1 := hKe.cell 1
 simp only [Yl] at x0 x1 y0 y1
 have lx := hKb.lt
 have ly := hKe.lt
 go_wp2_with fail
 refine (samePlaces_any bA bB eA eB ba bb ea eb bX bY eX eY _ qb1.vals qb2.vals qe1.vals qe2.vals LbX LbY LeX LeY).mono ?_
 rintro e w9 ⟨rfl, hbw9⟩
 rw [show (bX == eX && bY == eY) = true by rw [HeF.out.1, HeF.out.2]; simp]
 clear x0 x1 y0 y1 lx ly
 replace hKa := hKa.below hbw9 hKa.lt
 replace hKb := hKb.below hbw9 hKb.lt
 replace hKc := hKc.below hbw9 hKc.lt
 replace hKd := hKd.below hbw9 hKd.lt
 replace hKe := hKe.below hbw9 hKe.lt
 replace hKf := hKf.below hbw9 hKf.lt
 replace qa1 := qa1.below' hbw9
 replace qa2 := qa2.below' hbw9
 replace qb1 := qb1.below' hbw9
 replace qb2 := qb2.below' hbw9
 replace qc1 := qc1.below' hbw9
 replace qc2 := qc2.below' hbw9
 replace qd1 := qd1.below' hbw9
 replace qd2 := qd2.below' hbw9
 replace qe1 := qe1.below' hbw9
 replace qe2 := qe2.below' hbw9
 replace qf1 := qf1.below' hbw9
 replace qf2 := qf2.below' hbw9
 replace hB := hB.trans (hbw9.mono hB.size)
 clear hbw9
 have x0 := hKc.cell 0
 have x1 := hKc.cell 1
 have y0 := hKf.cell 0
 have y1 := hKf.cell 1
 simp only [Yl] at x0 x1 y0 y1
 have lx := hKc.lt
 have ly := hKf.lt
 go_wp2_with fail
 refine (samePlaces_any cA cB fA fB ca cb fa fb cX cY fX fY _ qc1.vals qc2.vals qf1.vals qf2.vals LcX LcY LfX LfY).mono ?_
 rintro e w10 ⟨rfl, hbw10⟩
 rw [show (cX == fX && cY == fY) = true by rw [HfF.out.1, HfF.out.2]; simp]
 clear x0 x1 y0 y1 lx ly
 replace hKa := hKa.below hbw10 hKa.lt
 replace hKb := hKb.below hbw10 hKb.lt
 replace hKc := hKc.below hbw10 hKc.lt
 replace hKd := hKd.below hbw10 hKd.lt
 replace hKe := hKe.below hbw10 hKe.lt
 replace hKf := hKf.below hbw10 hKf.lt
 replace qa1 := qa1.below' hbw10
 replace qa2 := qa2.below' hbw10
 replace qb1 := qb1.below' hbw10
 replace qb2 := qb2.below' hbw10
 replace qc1 := qc1.below' hbw10
 replace qc2 := qc2.below' hbw10
 replace qd1 := qd1.below' hbw10
 replace qd2 := qd2.below' hbw10
 replace qe1 := qe1.below' hbw10
 replace qe2 := qe2.below' hbw10
 replace qf1 := qf1.below' hbw10
 replace qf2 := qf2.below' hbw10
 replace hB := hB.trans (hbw10.mono hB.size)
 clear hbw10
 go_wp2_with fail
 go_ret
 exact ⟨rfl, hB⟩)
theorem placesLaw_any (regs : Int) (A : Option Addr) (l : List Nd) (cap : Nat) (t : Tm) (X : Option Addr) (x : List Bool) (xc : Nat) (w : World) (hml : l.length ≤ maxLen) (hA : NodesAt w A l) (hX : ValsAt w X (bools x)) :
 Calls Tryz.prog 3 #[.agg #[.int .i64 regs, .slice A l.length cap], .agg #[.int .i64 t.op, .int .i64 t.a, .int .i64 t.b], .slice X x.length xc] w fun e w' => e = .returned (.bool true) ∧ Below w.heap.size w w' := by (
 by_cases h0 : fxE regs l t = 0
 · (
 by_cases hx : x.length = l.length
 · exact placesLaw_K regs A l cap t X x xc w hml hA hX h0 hx
 · exact placesLaw_L regs A l cap t X x xc w hml hA hX h0 hx)
 · exact placesLaw_E regs A l cap t X x xc w hml hA hX h0)
theorem MovePlaces_any (regs : Int) (A : Option Addr) (l : List Nd) (cap : Nat) (t : Tm) (X : Option Addr) (x : List Bool) (xc : Nat) (w : World) (hA : NodesAt w A l) (hml : l.length ≤ maxLen) (hX : ValsAt w X (bools x)) :
 Calls Tryz.prog 3 #[.agg #[.int .i64 regs, .slice A l.length cap], tmV t, .slice X x.length xc] w fun e w' => e = .returned (.bool true) ∧ Below w.heap.size w w' := placesLaw_any regs A l cap t X x xc w hml hA hX
end
end Go.Proofs.YtmghkonmfbpjcabGreat
