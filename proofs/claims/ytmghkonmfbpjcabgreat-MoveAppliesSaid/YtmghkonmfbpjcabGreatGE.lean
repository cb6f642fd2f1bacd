/- MvC GraphT MvP MvH MvK MvQ FactR Loops FactU Small FactI RunV SimP. -/
import Derived.Test.YtmghkonmfbpjcabGreatMvB
import Derived.Test.YtmghkonmfbpjcabGreatFactO
import Derived.Test.YtmghkonmfbpjcabGreatGA
import Derived.Test.YtmghkonmfbpjcabGreatGB
import Derived.Test.YtmghkonmfbpjcabGreatGC
import Derived.Deep.DeepCutAuto
import Derived.Deep.RegionHeld3
import Derived.Deep.RegionLaw
import Derived.Test.YtmghkonmfbpjcabGreatGD
set_option linter.unusedVariables false
set_option linter.unusedSimpArgs false
set_option maxRecDepth 100000
namespace Go.Proofs.YtmghkonmfbpjcabGreat
section
open Go.RowKit
set_option maxHeartbeats 8000000
attribute [local irreducible] Row madeCells
def lazyX (l : List Nd) (F : Fx) : List Bool := mk l.length fun k => yn F.late k && !yn F.alone k
def lazyY (t : Tm) (l : List Nd) (F : Fx) : List Bool := mk l.length fun k => rkB t (nd l k) && (!yn F.late k || !yn F.alone k)
def busyX (l : List Nd) (F : Fx) : List Bool := mk l.length fun k => yn F.early k
def busyY (t : Tm) (l : List Nd) : List Bool := mk l.length fun k => rkB t (nd l k) && true
def MvPost (tB : TypeId) (regs : Int) (l : List Nd) (t : Tm) (x y : Fx → List Bool) (w : World) (e : Ending) (w' : World) : Prop :=
 Below w.heap.size w w' ∧ ((fxE regs l t ≠ 0 ∧ e = .returned (.tuple #[.agg #[.slice none 0 0, .slice none 0 0], .int .i64 (fxE regs l t)])) ∨
  (fxE regs l t = 0 ∧ ∃ F v1 v2, IsFx t l F ∧ e = .returned (.tuple #[.agg #[v1, v2], .int .i64 0]) ∧ Row w' w.heap.size tB v1 (bools (x F)) ∧ Row w' w.heap.size tB v2 (bools (y F)) ∧ (v1.ownBlock = none ∨ v1.ownBlock ≠ v2.ownBlock)))
theorem fxE_hi {regs : Int} {l : List Nd} {t : Tm} (h : fxE regs l t = 0) : l.length ≤ 256 := by (
 by_cases hc : chk regs l = 0
 · exact (right_of_chk hc).hi
 · (
 unfold fxE at h
 rw [if_pos hc] at h
 exact absurd h hc))
theorem enter_Lazy1 (W : World) (args : Array Value) : (callFunc 24 args).run Tryz.prog W = .ok (.enter 24 args) W := by (
 have h := Tryz.func24
 simp [callFunc, go_sem, h]; try rfl)
theorem enter_Lazy2 (W : World) (args : Array Value) : (callFunc 25 args).run Tryz.prog W = .ok (.enter 25 args) W := by (
 have h := Tryz.func25
 simp [callFunc, go_sem, h]; try rfl)
theorem Lazy_any (regs : Int) (A : Option Addr) (l : List Nd) (cap : Nat) (t : Tm) (w : World) (hl : l.length ≤ maxLen) (hA : NodesAt w A l) :
 Calls Tryz.prog 5 #[.agg #[.int .i64 regs, .slice A l.length cap], .agg #[.int .i64 t.op, .int .i64 t.a, .int .i64 t.b]] w (MvPost 4 regs l t (lazyX l) (lazyY t l) w) := by (
 have HX := hide (fun W (hW : Below w.heap.size w W) => Facts_any regs A l cap t W hl (hA.below hW))
 have HN := hide (fun W (hW : Below w.heap.size w W) => hA.below hW)
 clear hA
 by_cases h0 : fxE regs l t = 0
 · (
 have H0 := hide h0
 clear h0
 go_enter Tryz.func5, Tryz.ntmps5
 go_wp2_with fail
 refine (HX.out _ (by (with_reducible repeat first | apply Qa | assumption | apply Qb | apply Qc | apply Qd | apply Qe | refine Qf ?_ (by assumption) ?_); all_goals (try simp only [Sz]); first | done | omega | (try simp only [Sz] at *); omega)).mono ?_
 rintro e w1 ⟨hb1, h⟩
 obtain ⟨-, F, v0, v1, v2, v3, v4, v5, rfl, hF, r0, r1, r2, r3, r4, r5⟩ := h.resolve_left (fun h => h.1 H0.out)
 clear h
 obtain ⟨L0, L1, L2, L3, L4, L5⟩ := hF.len
 obtain ⟨A0, c0, e0, _, _⟩ := r0.shape
 rw [bools_length, L0] at e0
 subst e0
 obtain ⟨A1, c1, e1, _, _⟩ := r1.shape
 rw [bools_length, L1] at e1
 subst e1
 obtain ⟨A2, c2, e2, _, _⟩ := r2.shape
 rw [bools_length, L2] at e2
 subst e2
 obtain ⟨A3, c3, e3, _, _⟩ := r3.shape
 rw [bools_length, L3] at e3
 subst e3
 obtain ⟨A4, c4, e4, _, _⟩ := r4.shape
 rw [bools_length, L4] at e4
 subst e4
 obtain ⟨A5, c5, e5, _, _⟩ := r5.shape
 rw [bools_length, L5] at e5
 subst e5
 have hz1 := hb1.size
 simp only [World.size_alloc] at hz1
 have hB1 : Below w.heap.size w w1 := (by (with_reducible repeat first | apply Qa | assumption | apply Qb | apply Qc | apply Qd | apply Qe | refine Qf ?_ (by assumption) ?_); all_goals (try simp only [Sz]); first | done | omega | (try simp only [Sz] at *); omega)
 have hP1 : Blk w1 w.heap.size 24 #[.int .i64 regs, .slice A l.length cap] := Blk.below (by repeat (first | ((with_reducible refine Blk.new' ?_); exact (by (try simp only [Sz]); first | done | omega | (try simp only [Sz] at *); omega)) | (with_reducible refine Blk.alloc ?_ _))) hb1 (by simp <;> omega)
 have hT1 : Blk w1 (w.heap.size + 1) 26 (tmA t) := Blk.below (by unfold tmA; repeat (first | ((with_reducible refine Blk.new' ?_); exact (by (try simp only [Sz]); first | done | omega | (try simp only [Sz] at *); omega)) | (with_reducible refine Blk.alloc ?_ _))) hb1 (by simp <;> omega)
 have hO1 : Blk w1 (w.heap.size + 1 + 1) 29 #[.slice none 0 0, .slice none 0 0] := Blk.below (by repeat (first | ((with_reducible refine Blk.new' ?_); exact (by (try simp only [Sz]); first | done | omega | (try simp only [Sz] at *); omega)) | (with_reducible refine Blk.alloc ?_ _))) hb1 (by simp <;> omega)
 clear hb1
 have hn64 : l.length ≤ 65536 := by have := fxE_hi H0.out; omega
 go_upto_region 2 with fail
 obtain ⟨W1, hW1⟩ : ∃ W1 : World, W1 = w1.alloc (.cells #[.slice A0 l.length c0, .slice A1 l.length c1, .slice A2 l.length c2, .slice A3 l.length c3, .slice A4 l.length c4, .slice A5 l.length c5] 49) := ⟨_, rfl⟩
 have hBW : Below w1.heap.size w1 W1 := by rw [hW1]; exact (Below.refl _ _).alloc (Nat.le_refl _) _
 have hbx : Blk W1 w1.heap.size 49 #[.slice A0 l.length c0, .slice A1 l.length c1, .slice A2 l.length c2, .slice A3 l.length c3, .slice A4 l.length c4, .slice A5 l.length c5] := by rw [hW1]; exact Blk.new' rfl
 rw [← hW1]
 obtain ⟨fb, hfb⟩ : ∃ b, b = w1.heap.size := ⟨_, rfl⟩
 rw [← hfb] at hbx ⊢
 have hFx : FxBox 49 fb l.length A0 A1 A2 A3 A4 A5 c0 c1 c2 c3 c4 c5 F W1 := ⟨hbx, ⟨(r0.below' hBW).vals, L0⟩, ⟨(r2.below' hBW).vals, L2⟩, ⟨(r4.below' hBW).vals, L4⟩, ⟨(r5.below' hBW).vals, L5⟩⟩
 have hB2 := hB1.trans (hBW.mono (by omega))
 have hP2 := hP1.below hBW hP1.lt
 have hT2 := hT1.below hBW hT1.lt
 have hO2 := hO1.below hBW hO1.lt
 have p0 := hP2.cell 0
 have p1 := hP2.cell 1
 have t0 := hT2.cell 0
 have t1 := hT2.cell 1
 have t2 := hT2.cell 2
 simp only [tmA, Yl] at p0 p1 t0 t1 t2
 have lp := hP2.lt
 have lt_ := hT2.lt
 have lO := hO2.lt
 have hz2 := hB2.size
 have HPl := hide (places_any 24 25 #[.pointer (some ⟨fb, 0, none⟩)] #[.pointer (some ⟨fb, 0, none⟩)] (fun k => yn F.late k && !yn F.alone k) (fun k => !yn F.late k || !yn F.alone k) regs A l cap t W1 (HN.out _ hB2) hn64 enter_Lazy1 enter_Lazy2 (fun k hk => lazy1_says hFx hk) (fun k hk => lazy2_says hFx hk))
 have HF := hide hF
 have HO2 := hide hO2
 have HB2 := hide hB2
 clear r0 r1 r2 r3 r4 r5 hF hFx hbx hW1 hBW hP1 hT1 hO1 hB1 hO2 hB2 hfb L0 L1 L2 L3 L4 L5
 unfold tmA at HPl
 go_wp2_with fail
 refine (HPl.out).mono ?_
 rintro e w3 ⟨x1, x2, rfl, q1, q2, qne, hb3⟩
 have hO3 := HO2.out.below hb3 HO2.out.lt
 have hz3 := hb3.size
 obtain ⟨D1, d1, e1, _, _⟩ := q1.shape
 obtain ⟨D2, d2, e2, _, _⟩ := q2.shape
 rw [bools_length, mk_len] at e1 e2
 subst e1 e2
 have o0 := hO3.cell 0
 have o1 := hO3.cell 1
 have f0 := hO3.frozen 0
 have f1 := hO3.frozen 1
 simp only [Yl] at o0 o1
 have lO3 := hO3.lt
 have hB3 := HB2.out.trans (hb3.mono hz2)
 have hne1 := q1.ne_blk hO3 (by decide)
 have hne2 := q2.ne_blk hO3 (by decide)
 have Q1 := hide ((q1.far (p := ⟨w.heap.size + 1 + 1, 0, none⟩) hne1 (.slice D1 l.length d1)).far (p := ⟨w.heap.size + 1 + 1, 1, none⟩) hne1 (.slice D2 l.length d2))
 have Q2 := hide ((q2.far (p := ⟨w.heap.size + 1 + 1, 0, none⟩) hne2 (.slice D1 l.length d1)).far (p := ⟨w.heap.size + 1 + 1, 1, none⟩) hne2 (.slice D2 l.length d2))
 have Qne := hide qne
 have HB3 := hide hB3
 clear q1 q2 qne hb3 hB3 HPl hne1 hne2 p0 p1 t0 t1 t2 hP2 hT2 hO3
 go_wp2_with fail
 go_tidy
 refine bodyPost_ret (v := .tuple #[.agg #[.slice D1 l.length d1, .slice D2 l.length d2], .int .i64 0]) (by simp [results, Tryz.results5, go_sem, o0, o1, f0, f1, World.cell?_setCell_same, World.cell?_setCell_other]; try rfl) rfl ?_
 exact ⟨(HB3.out.setCell (by simp <;> omega) _).setCell (by simp <;> omega) _, .inr ⟨H0.out, F, _, _, HF.out, rfl, Q1.out.mono (by omega), Q2.out.mono (by omega), Qne.out⟩⟩)
 · (
 have h0' : (fxE regs l t != 0) = true := by simp [h0]
 have H0 := hide h0
 clear h0
 go_enter Tryz.func5, Tryz.ntmps5
 go_wp2_with fail
 refine (HX.out _ (by (with_reducible repeat first | apply Qa | assumption | apply Qb | apply Qc | apply Qd | apply Qe | refine Qf ?_ (by assumption) ?_); all_goals (try simp only [Sz]); first | done | omega | (try simp only [Sz] at *); omega)).mono ?_
 rintro e w1 ⟨hb1, h⟩
 obtain ⟨-, rfl⟩ := h.resolve_right (fun h => H0.out h.1)
 clear h
 have hz1 := hb1.size
 simp only [World.size_alloc] at hz1
 have hB1 : Below w.heap.size w w1 := (by (with_reducible repeat first | apply Qa | assumption | apply Qb | apply Qc | apply Qd | apply Qe | refine Qf ?_ (by assumption) ?_); all_goals (try simp only [Sz]); first | done | omega | (try simp only [Sz] at *); omega)
 have hO1 : Blk w1 (w.heap.size + 1 + 1) 29 #[.slice none 0 0, .slice none 0 0] := Blk.below (by repeat (first | ((with_reducible refine Blk.new' ?_); exact (by (try simp only [Sz]); first | done | omega | (try simp only [Sz] at *); omega)) | (with_reducible refine Blk.alloc ?_ _))) hb1 (by simp <;> omega)
 clear hb1
 unfold nil6
 go_upto_region 2 with fail
 obtain ⟨W1, hW1⟩ : ∃ W1 : World, W1 = w1.alloc (.cells #[.slice none 0 0, .slice none 0 0, .slice none 0 0, .slice none 0 0, .slice none 0 0, .slice none 0 0] 49) := ⟨_, rfl⟩
 have hB2 : Below w.heap.size w W1 := by rw [hW1]; exact hB1.alloc (by omega) _
 have hO1 : Blk W1 (w.heap.size + 1 + 1) 29 #[.slice none 0 0, .slice none 0 0] := by rw [hW1]; exact hO1.alloc _
 rw [← hW1]
 clear hW1 hB1
 have o0 := hO1.cell 0
 have o1 := hO1.cell 1
 have f0 := hO1.frozen 0
 have f1 := hO1.frozen 1
 simp only [Yl] at o0 o1
 have lO := hO1.lt
 go_wp2_with fail
 go_tidy
 refine bodyPost_ret (v := .tuple #[.agg #[.slice none 0 0, .slice none 0 0], .int .i64 (fxE regs l t)]) (by simp [results, Tryz.results5, go_sem, o0, o1, f0, f1, World.cell?_setCell_same, World.cell?_setCell_other]; try rfl) rfl ?_
 exact ⟨(hB2.setCell (by simp <;> omega) _).setCell (by simp <;> omega) _, .inl ⟨H0.out, rfl⟩⟩))
theorem enter_Busy1 (W : World) (args : Array Value) : (callFunc 26 args).run Tryz.prog W = .ok (.enter 26 args) W := by (
 have h := Tryz.func26
 simp [callFunc, go_sem, h]; try rfl)
theorem enter_Busy2 (W : World) (args : Array Value) : (callFunc 27 args).run Tryz.prog W = .ok (.enter 27 args) W := by (
 have h := Tryz.func27
 simp [callFunc, go_sem, h]; try rfl)
theorem Busy_any (regs : Int) (A : Option Addr) (l : List Nd) (cap : Nat) (t : Tm) (w : World) (hl : l.length ≤ maxLen) (hA : NodesAt w A l) :
 Calls Tryz.prog 6 #[.agg #[.int .i64 regs, .slice A l.length cap], .agg #[.int .i64 t.op, .int .i64 t.a, .int .i64 t.b]] w (MvPost 4 regs l t (busyX l) (fun _ => busyY t l) w) := by (
 have HX := hide (fun W (hW : Below w.heap.size w W) => Facts_any regs A l cap t W hl (hA.below hW))
 have HN := hide (fun W (hW : Below w.heap.size w W) => hA.below hW)
 clear hA
 by_cases h0 : fxE regs l t = 0
 · (
 have H0 := hide h0
 clear h0
 go_enter Tryz.func6, Tryz.ntmps6
 go_wp2_with fail
 refine (HX.out _ (by (with_reducible repeat first | apply Qa | assumption | apply Qb | apply Qc | apply Qd | apply Qe | refine Qf ?_ (by assumption) ?_); all_goals (try simp only [Sz]); first | done | omega | (try simp only [Sz] at *); omega)).mono ?_
 rintro e w1 ⟨hb1, h⟩
 obtain ⟨-, F, v0, v1, v2, v3, v4, v5, rfl, hF, r0, r1, r2, r3, r4, r5⟩ := h.resolve_left (fun h => h.1 H0.out)
 clear h
 obtain ⟨L0, L1, L2, L3, L4, L5⟩ := hF.len
 obtain ⟨A0, c0, e0, _, _⟩ := r0.shape
 rw [bools_length, L0] at e0
 subst e0
 obtain ⟨A1, c1, e1, _, _⟩ := r1.shape
 rw [bools_length, L1] at e1
 subst e1
 obtain ⟨A2, c2, e2, _, _⟩ := r2.shape
 rw [bools_length, L2] at e2
 subst e2
 obtain ⟨A3, c3, e3, _, _⟩ := r3.shape
 rw [bools_length, L3] at e3
 subst e3
 obtain ⟨A4, c4, e4, _, _⟩ := r4.shape
 rw [bools_length, L4] at e4
 subst e4
 obtain ⟨A5, c5, e5, _, _⟩ := r5.shape
 rw [bools_length, L5] at e5
 subst e5
 have hz1 := hb1.size
 simp only [World.size_alloc] at hz1
 have hB1 : Below w.heap.size w w1 := (by (with_reducible repeat first | apply Qa | assumption | apply Qb | apply Qc | apply Qd | apply Qe | refine Qf ?_ (by assumption) ?_); all_goals (try simp only [Sz]); first | done | omega | (try simp only [Sz] at *); omega)
 have hP1 : Blk w1 w.heap.size 24 #[.int .i64 regs, .slice A l.length cap] := Blk.below (by repeat (first | ((with_reducible refine Blk.new' ?_); exact (by (try simp only [Sz]); first | done | omega | (try simp only [Sz] at *); omega)) | (with_reducible refine Blk.alloc ?_ _))) hb1 (by simp <;> omega)
 have hT1 : Blk w1 (w.heap.size + 1) 26 (tmA t) := Blk.below (by unfold tmA; repeat (first | ((with_reducible refine Blk.new' ?_); exact (by (try simp only [Sz]); first | done | omega | (try simp only [Sz] at *); omega)) | (with_reducible refine Blk.alloc ?_ _))) hb1 (by simp <;> omega)
 have hO1 : Blk w1 (w.heap.size + 1 + 1) 29 #[.slice none 0 0, .slice none 0 0] := Blk.below (by repeat (first | ((with_reducible refine Blk.new' ?_); exact (by (try simp only [Sz]); first | done | omega | (try simp only [Sz] at *); omega)) | (with_reducible refine Blk.alloc ?_ _))) hb1 (by simp <;> omega)
 clear hb1
 have hn64 : l.length ≤ 65536 := by have := fxE_hi H0.out; omega
 go_upto_region 2 with fail
 obtain ⟨W1, hW1⟩ : ∃ W1 : World, W1 = w1.alloc (.cells #[.slice A0 l.length c0, .slice A1 l.length c1, .slice A2 l.length c2, .slice A3 l.length c3, .slice A4 l.length c4, .slice A5 l.length c5] 49) := ⟨_, rfl⟩
 have hBW : Below w1.heap.size w1 W1 := by rw [hW1]; exact (Below.refl _ _).alloc (Nat.le_refl _) _
 have hbx : Blk W1 w1.heap.size 49 #[.slice A0 l.length c0, .slice A1 l.length c1, .slice A2 l.length c2, .slice A3 l.length c3, .slice A4 l.length c4, .slice A5 l.length c5] := by rw [hW1]; exact Blk.new' rfl
 rw [← hW1]
 obtain ⟨fb, hfb⟩ : ∃ b, b = w1.heap.size := ⟨_, rfl⟩
 rw [← hfb] at hbx ⊢
 have hFx : FxBox 49 fb l.length A0 A1 A2 A3 A4 A5 c0 c1 c2 c3 c4 c5 F W1 := ⟨hbx, ⟨(r0.below' hBW).vals, L0⟩, ⟨(r2.below' hBW).vals, L2⟩, ⟨(r4.below' hBW).vals, L4⟩, ⟨(r5.below' hBW).vals, L5⟩⟩
 have hB2 := hB1.trans (hBW.mono (by omega))
 have hP2 := hP1.below hBW hP1.lt
 have hT2 := hT1.below hBW hT1.lt
 have hO2 := hO1.below hBW hO1.lt
 have p0 := hP2.cell 0
 have p1 := hP2.cell 1
 have t0 := hT2.cell 0
 have t1 := hT2.cell 1
 have t2 := hT2.cell 2
 simp only [tmA, Yl] at p0 p1 t0 t1 t2
 have lp := hP2.lt
 have lt_ := hT2.lt
 have lO := hO2.lt
 have hz2 := hB2.size
 have HPl := hide (places_any 26 27 #[.pointer (some ⟨fb, 0, none⟩)] #[] (fun k => yn F.early k) (fun _ => true) regs A l cap t W1 (HN.out _ hB2) hn64 enter_Busy1 enter_Busy2 (fun k hk => busy1_says hFx hk) (fun k hk => busy2_says))
 have HF := hide hF
 have HO2 := hide hO2
 have HB2 := hide hB2
 clear r0 r1 r2 r3 r4 r5 hF hFx hbx hW1 hBW hP1 hT1 hO1 hB1 hO2 hB2 hfb L0 L1 L2 L3 L4 L5
 unfold tmA at HPl
 go_wp2_with fail
 refine (HPl.out).mono ?_
 rintro e w3 ⟨x1, x2, rfl, q1, q2, qne, hb3⟩
 have hO3 := HO2.out.below hb3 HO2.out.lt
 have hz3 := hb3.size
 obtain ⟨D1, d1, e1, _, _⟩ := q1.shape
 obtain ⟨D2, d2, e2, _, _⟩ := q2.shape
 rw [bools_length, mk_len] at e1 e2
 subst e1 e2
 have o0 := hO3.cell 0
 have o1 := hO3.cell 1
 have f0 := hO3.frozen 0
 have f1 := hO3.frozen 1
 simp only [Yl] at o0 o1
 have lO3 := hO3.lt
 have hB3 := HB2.out.trans (hb3.mono hz2)
 have hne1 := q1.ne_blk hO3 (by decide)
 have hne2 := q2.ne_blk hO3 (by decide)
 have Q1 := hide ((q1.far (p := ⟨w.heap.size + 1 + 1, 0, none⟩) hne1 (.slice D1 l.length d1)).far (p := ⟨w.heap.size + 1 + 1, 1, none⟩) hne1 (.slice D2 l.length d2))
 have Q2 := hide ((q2.far (p := ⟨w.heap.size + 1 + 1, 0, none⟩) hne2 (.slice D1 l.length d1)).far (p := ⟨w.heap.size + 1 + 1, 1, none⟩) hne2 (.slice D2 l.length d2))
 have Qne := hide qne
 have HB3 := hide hB3
 clear q1 q2 qne hb3 hB3 HPl hne1 hne2 p0 p1 t0 t1 t2 hP2 hT2 hO3
 go_wp2_with fail
 go_tidy
 refine bodyPost_ret (v := .tuple #[.agg #[.slice D1 l.length d1, .slice D2 l.length d2], .int .i64 0]) (by simp [results, Tryz.results6, go_sem, o0, o1, f0, f1, World.cell?_setCell_same, World.cell?_setCell_other]; try rfl) rfl ?_
 exact ⟨(HB3.out.setCell (by simp <;> omega) _).setCell (by simp <;> omega) _, .inr ⟨H0.out, F, _, _, HF.out, rfl, Q1.out.mono (by omega), Q2.out.mono (by omega), Qne.out⟩⟩)
 · (
 have h0' : (fxE regs l t != 0) = true := by simp [h0]
 have H0 := hide h0
 clear h0
 go_enter Tryz.func6, Tryz.ntmps6
 go_wp2_with fail
 refine (HX.out _ (by (with_reducible repeat first | apply Qa | assumption | apply Qb | apply Qc | apply Qd | apply Qe | refine Qf ?_ (by assumption) ?_); all_goals (try simp only [Sz]); first | done | omega | (try simp only [Sz] at *); omega)).mono ?_
 rintro e w1 ⟨hb1, h⟩
 obtain ⟨-, rfl⟩ := h.resolve_right (fun h => H0.out h.1)
 clear h
 have hz1 := hb1.size
 simp only [World.size_alloc] at hz1
 have hB1 : Below w.heap.size w w1 := (by (with_reducible repeat first | apply Qa | assumption | apply Qb | apply Qc | apply Qd | apply Qe | refine Qf ?_ (by assumption) ?_); all_goals (try simp only [Sz]); first | done | omega | (try simp only [Sz] at *); omega)
 have hO1 : Blk w1 (w.heap.size + 1 + 1) 29 #[.slice none 0 0, .slice none 0 0] := Blk.below (by repeat (first | ((with_reducible refine Blk.new' ?_); exact (by (try simp only [Sz]); first | done | omega | (try simp only [Sz] at *); omega)) | (with_reducible refine Blk.alloc ?_ _))) hb1 (by simp <;> omega)
 clear hb1
 unfold nil6
 go_upto_region 2 with fail
 obtain ⟨W1, hW1⟩ : ∃ W1 : World, W1 = w1.alloc (.cells #[.slice none 0 0, .slice none 0 0, .slice none 0 0, .slice none 0 0, .slice none 0 0, .slice none 0 0] 49) := ⟨_, rfl⟩
 have hB2 : Below w.heap.size w W1 := by rw [hW1]; exact hB1.alloc (by omega) _
 have hO1 : Blk W1 (w.heap.size + 1 + 1) 29 #[.slice none 0 0, .slice none 0 0] := by rw [hW1]; exact hO1.alloc _
 rw [← hW1]
 clear hW1 hB1
 have o0 := hO1.cell 0
 have o1 := hO1.cell 1
 have f0 := hO1.frozen 0
 have f1 := hO1.frozen 1
 simp only [Yl] at o0 o1
 have lO := hO1.lt
 go_wp2_with fail
 go_tidy
 refine bodyPost_ret (v := .tuple #[.agg #[.slice none 0 0, .slice none 0 0], .int .i64 (fxE regs l t)]) (by simp [results, Tryz.results6, go_sem, o0, o1, f0, f1, World.cell?_setCell_same, World.cell?_setCell_other]; try rfl) rfl ?_
 exact ⟨(hB2.setCell (by simp <;> omega) _).setCell (by simp <;> omega) _, .inl ⟨H0.out, rfl⟩⟩))
end
section
open Go.RowKit
def rk (x : List Bool) : Nat → Nat
 | 0 => 0
 | k + 1 => rk x k + (if yn x k = true then 1 else 0)
theorem rk_le (x : List Bool) : ∀ k, rk x k ≤ k
 | 0 => Nat.le_refl _
 | k + 1 => by (
 have := rk_le x k
 unfold rk
 split <;> omega)
theorem rk_yes {x : List Bool} {k : Nat} (h : yn x k = true) : rk x (k + 1) = rk x k + 1 := by simp [rk, h]
theorem rk_no {x : List Bool} {k : Nat} (h : yn x k = false) : rk x (k + 1) = rk x k := by simp [rk, h]
def trimN (x : List Bool) (n : Nd) : Nd := { n with t := if n.op = 12 then n.t else (rk x n.t.toNat : Nat), e := if n.op = 11 then (rk x n.e.toNat : Nat) else n.e }
def trimTo (x : List Bool) (l : List Nd) : Nat → List Nd
 | 0 => []
 | k + 1 => trimTo x l k ++ (if yn x k = true then [trimN x (l.getD k default)] else [])
theorem trimTo_len (x : List Bool) (l : List Nd) : ∀ k, (trimTo x l k).length = rk x k
 | 0 => rfl
 | k + 1 => by (
 unfold trimTo rk
 rw [List.length_append, trimTo_len x l k]
 split <;> simp)
theorem trimTo_yes {x : List Bool} {l : List Nd} {k : Nat} {n : Nd} (h : yn x k = true) (hn : l[k]? = some n) : trimTo x l (k + 1) = trimTo x l k ++ [trimN x n] := by (
 have : l.getD k default = n := by rw [List.getD_eq_getElem?_getD, hn]; rfl
 rw [trimTo, if_pos h, this])
theorem trimTo_no {x : List Bool} {l : List Nd} {k : Nat} (h : yn x k = false) : trimTo x l (k + 1) = trimTo x l k := by rw [trimTo, if_neg (by rw [h]; simp), List.append_nil]
def trimL (l : List Nd) : List Nd := trimTo (reachL l) l l.length
theorem trimL_len (l : List Nd) : (trimL l).length ≤ l.length := by (
 unfold trimL
 rw [trimTo_len]
 exact rk_le _ _)
theorem reach_shut {l : List Nd} {k : Nat} {n : Nd} (hk : yn (reachL l) k = true) (hn : l[k]? = some n) {m : Nat} (hm : leadsB n m = true) (hb : ∀ m : Nat, leadsB n m = true → m < l.length) : yn (reachL l) m = true := by (
 have hc : Closed (reachS l) l.length (reachL l) := by have h := (leastL_least (reachS_mono l) l.length).1; exact ⟨h.1, fun i hi hs => (h.2 i hi).trans hs⟩
 refine Closed.shut hc hk (fun n2 h2 m hm => ?_) n hn m hm
 rw [hn] at h2
 injection h2 with h2
 subst h2
 exact hb m hm)
end
section
open Go.RowKit
def takeN (h : Int) (tk : List Bool) (l : List Nd) (k : Nat) : Nd := if yn tk k = true then ⟨2, (nd l k).d, h, 0, (nd l k).t, 0⟩ else nd l k
def takeTo (h : Int) (tk : List Bool) (l : List Nd) (k : Nat) : List Nd := (List.range l.length).map fun i => if i < k then takeN h tk l i else nd l i
def takeL (h : Int) (tk : List Bool) (l : List Nd) : List Nd := (List.range l.length).map (takeN h tk l)
def putN (h : Int) (t : Tm) (m : Nat) : Nd := ⟨t.op, h, t.a, t.b, (m : Int), 0⟩
def putStep (h : Int) (t : Tm) (out : List Nd) (k : Nat) : List Nd := (out ++ [nd out k]).set k (putN h t out.length)
def putTo (h : Int) (t : Tm) (pt : List Bool) (out : List Nd) : Nat → List Nd
 | 0 => out
 | k + 1 => if yn pt k = true then putStep h t (putTo h t pt out k) k else putTo h t pt out k
def applyL (h : Int) (t : Tm) (pt tk : List Bool) (l : List Nd) : List Nd := putTo h t pt (takeL h tk l) l.length
theorem takeTo_zero (h : Int) (tk : List Bool) (l : List Nd) : takeTo h tk l 0 = l := by (
 refine List.ext_getElem? fun i => ?_
 by_cases hi : i < l.length
 · simp [takeTo, hi, nd, List.getD_eq_getElem?_getD]
 · rw [List.getElem?_eq_none (by simp [takeTo]; omega), List.getElem?_eq_none (by omega)])
theorem takeTo_all (h : Int) (tk : List Bool) (l : List Nd) : takeTo h tk l l.length = takeL h tk l := by (
 unfold takeTo takeL
 apply List.map_congr_left
 intro i hi
 rw [if_pos (List.mem_range.1 hi)])
theorem takeTo_len (h : Int) (tk : List Bool) (l : List Nd) (k : Nat) : (takeTo h tk l k).length = l.length := by simp [takeTo]
theorem takeTo_get (h : Int) (tk : List Bool) (l : List Nd) (k : Nat) {i : Nat} (hi : i < l.length) : (takeTo h tk l k)[i]? = some (if i < k then takeN h tk l i else nd l i) := by simp [takeTo, hi]
theorem takeTo_succ {h : Int} {tk : List Bool} {l : List Nd} {k : Nat} (hk : k < l.length) : takeTo h tk l (k + 1) = (takeTo h tk l k).set k (takeN h tk l k) := by (
 refine List.ext_getElem? fun i => ?_
 by_cases hi : i < l.length
 · (
 rw [takeTo_get _ _ _ _ hi, List.getElem?_set, takeTo_len, takeTo_get _ _ _ _ hi]
 by_cases e : k = i
 · subst e; simp [hk]
 · (
 rw [if_neg e]
 by_cases h2 : i < k
 · rw [if_pos h2, if_pos (by omega)]
 · rw [if_neg h2, if_neg (by omega)]))
 · rw [List.getElem?_eq_none (by rw [takeTo_len]; omega), List.getElem?_eq_none (by rw [List.length_set, takeTo_len]; omega)])
theorem takeTo_same {h : Int} {tk : List Bool} {l : List Nd} {k : Nat} (hk : yn tk k = false) : takeTo h tk l (k + 1) = takeTo h tk l k := by (
 unfold takeTo
 apply List.map_congr_left
 intro i hi
 by_cases e : i = k
 · (
 subst e
 rw [if_pos (by omega), if_neg (by omega), takeN, if_neg (by rw [hk]; simp)])
 · (
 by_cases h2 : i < k
 · rw [if_pos h2, if_pos (by omega)]
 · rw [if_neg h2, if_neg (by omega)]))
theorem putTo_eq (h : Int) (t : Tm) (pt : List Bool) (out : List Nd) : ∀ k, k ≤ out.length →
 putTo h t pt out k = ((List.range out.length).map fun i => if i < k ∧ yn pt i = true then putN h t (out.length + rk pt i) else nd out i) ++ ((List.range k).filter fun i => yn pt i).map (nd out)
| 0, _ => by (
 rw [putTo]
 refine List.ext_getElem? fun i => ?_
 by_cases hi : i < out.length
 · simp [hi, nd, List.getD_eq_getElem?_getD]
 · rw [List.getElem?_eq_none (by omega), List.getElem?_eq_none (by simp; omega)])
| k + 1, hk => by (
 have ih := putTo_eq h t pt out k (by omega)
 have hlen : (((List.range k).filter fun i => yn pt i).map (nd out)).length = rk pt k := by (
 rw [List.length_map]
 clear ih hk
 induction k with
 | zero => rfl
 | succ k ih => rw [List.range_succ, List.filter_append, List.length_append, ih, rk]; by_cases e : yn pt k = true <;> simp [e])
 by_cases hy : yn pt k = true
 · (
 rw [putTo, if_pos hy, putStep, ih]
 have hnd : nd ((List.range out.length).map (fun i => if i < k ∧ yn pt i = true then putN h t (out.length + rk pt i) else nd out i) ++ ((List.range k).filter fun i => yn pt i).map (nd out)) k = nd out k := by (
 refine nd_get ?_
 rw [List.getElem?_append_left (by simp; omega)]
 have : k < out.length := by omega
 simp [this])
 rw [hnd, List.length_append, hlen, List.length_map, List.length_range, List.append_assoc, List.set_append_left _ _ (by simp; omega)]
 congr 1
 · (
 refine List.ext_getElem? fun i => ?_
 rw [List.getElem?_set]
 by_cases hi : i < out.length
 · (
 by_cases e : k = i
 · subst e; simp [hi, hy]
 · (
 rw [if_neg e]
 simp only [List.getElem?_map, List.getElem?_range hi, Option.map_some]
 by_cases h2 : i < k ∧ yn pt i = true
 · rw [if_pos h2, if_pos ⟨by omega, h2.2⟩]
 · rw [if_neg h2, if_neg (fun h3 => h2 ⟨by omega, h3.2⟩)]))
 · rw [if_neg (by omega), List.getElem?_eq_none (by simp; omega), List.getElem?_eq_none (by simp; omega)])
 · (
 rw [List.range_succ, List.filter_append, List.map_append]
 simp [hy]))
 · (
 have hy : yn pt k = false := by simpa using hy
 rw [putTo, if_neg (by rw [hy]; simp), ih]
 congr 1
 · (
 apply List.map_congr_left
 intro i hi
 by_cases e : i = k
 · subst e; simp [hy]
 · (
 by_cases h2 : i < k ∧ yn pt i = true
 · rw [if_pos h2, if_pos ⟨by omega, h2.2⟩]
 · rw [if_neg h2, if_neg (fun h3 => h2 ⟨by omega, h3.2⟩)]))
 · (
 rw [List.range_succ, List.filter_append, List.map_append]
 simp [hy])))
end
section
open Go.RowKit
set_option maxHeartbeats 8000000
attribute [local irreducible] Row madeCells NRow
def badTake (t : Tm) (tk : List Bool) (l : List Nd) : Bool := (List.range l.length).any fun k => yn tk k && !rkB t (nd l k)
def maE (regs : Int) (l : List Nd) (t : Tm) (pt tk : List Bool) : Int :=
 if fxE regs l t ≠ 0 then fxE regs l t else if pt.length ≠ l.length ∨ tk.length ≠ l.length then 1 else if badTake t tk l = true then 1 else if 256 < (applyL regs t pt tk l).length ∨ 64 < regs + 1 then 2 else 0
def MaPost (tN : TypeId) (regs : Int) (l : List Nd) (t : Tm) (pt tk : List Bool) (w : World) (e : Ending) (w' : World) : Prop :=
 Below w.heap.size w w' ∧ ((maE regs l t pt tk ≠ 0 ∧ e = .returned (.tuple #[.agg #[.int .i64 0, .slice none 0 0], .int .i64 (maE regs l t pt tk)])) ∨
  (maE regs l t pt tk = 0 ∧ ∃ v, e = .returned (.tuple #[.agg #[.int .i64 (regs + 1), v], .int .i64 0]) ∧ NRow w' w.heap.size tN v (applyL regs t pt tk l)))
theorem Apply_err (regs : Int) (A : Option Addr) (l : List Nd) (cap : Nat) (t : Tm) (X Y : Option Addr) (pt tk : List Bool) (xc yc : Nat) (w : World) (hl : l.length ≤ maxLen) (hA : NodesAt w A l) (h0 : fxE regs l t ≠ 0) :
 Calls Tryz.prog 14 #[.agg #[.int .i64 regs, .slice A l.length cap], .agg #[.int .i64 t.op, .int .i64 t.a, .int .i64 t.b], .agg #[.slice X pt.length xc, .slice Y tk.length yc]] w (MaPost 57 regs l t pt tk w) := by (
 have HX := hide (fun W (hW : Below w.heap.size w W) => Facts_any regs A l cap t W hl (hA.below hW))
 have hE : maE regs l t pt tk = fxE regs l t := by unfold maE; rw [if_pos h0]
 unfold MaPost
 rw [hE]
 clear hA hE
 have h0' : (fxE regs l t != 0) = true := by simp [h0]
 have H0 := hide h0
 clear h0
 go_enter Tryz.func14, Tryz.ntmps14
 go_wp2_with fail
 refine (HX.out _ (by (with_reducible repeat first | apply Qa | assumption | apply Qb | apply Qc | apply Qd | apply Qe | refine Qf ?_ (by assumption) ?_); all_goals (try simp only [Sz]); first | done | omega | (try simp only [Sz] at *); omega)).mono ?_
 rintro e w1 ⟨hb1, h⟩
 obtain ⟨-, rfl⟩ := h.resolve_right (fun h => H0.out h.1)
 clear h
 have hz1 := hb1.size
 simp only [World.size_alloc] at hz1
 have hB1 : Below w.heap.size w w1 := (by (with_reducible repeat first | apply Qa | assumption | apply Qb | apply Qc | apply Qd | apply Qe | refine Qf ?_ (by assumption) ?_); all_goals (try simp only [Sz]); first | done | omega | (try simp only [Sz] at *); omega)
 have hO1 : Blk w1 (w.heap.size + 1 + 1 + 1) 24 #[.int .i64 0, .slice none 0 0] := Blk.below (by repeat (first | ((with_reducible refine Blk.new' ?_); exact (by (try simp only [Sz]); first | done | omega | (try simp only [Sz] at *); omega)) | (with_reducible refine Blk.alloc ?_ _))) hb1 (by simp <;> omega)
 clear hb1
 unfold nil6
 go_upto_region 2 with fail
 obtain ⟨W1, hW1⟩ : ∃ W1 : World, W1 = w1.alloc (.cells #[.slice none 0 0, .slice none 0 0, .slice none 0 0, .slice none 0 0, .slice none 0 0, .slice none 0 0] 49) := ⟨_, rfl⟩
 have hB2 : Below w.heap.size w W1 := by rw [hW1]; exact hB1.alloc (by omega) _
 have hO1 : Blk W1 (w.heap.size + 1 + 1 + 1) 24 #[.int .i64 0, .slice none 0 0] := by rw [hW1]; exact hO1.alloc _
 rw [← hW1]
 clear hW1 hB1
 have o0 := hO1.cell 0
 have o1 := hO1.cell 1
 have f0 := hO1.frozen 0
 have f1 := hO1.frozen 1
 simp only [Yl] at o0 o1
 have lO := hO1.lt
 go_wp2_with fail
 go_tidy
 refine bodyPost_ret (v := .tuple #[.agg #[.int .i64 0, .slice none 0 0], .int .i64 (fxE regs l t)]) (by simp [results, Tryz.results14, go_sem, o0, o1, f0, f1, World.cell?_setCell_same, World.cell?_setCell_other]; try rfl) rfl ?_
 exact ⟨(hB2.setCell (by simp <;> omega) _).setCell (by simp <;> omega) _, .inl ⟨H0.out, rfl⟩⟩)
theorem Apply_len (regs : Int) (A : Option Addr) (l : List Nd) (cap : Nat) (t : Tm) (X Y : Option Addr) (pt tk : List Bool) (xc yc : Nat) (w : World) (hl : l.length ≤ maxLen) (hA : NodesAt w A l) (h0 : fxE regs l t = 0) (h1 : pt.length ≠ l.length ∨ tk.length ≠ l.length) :
 Calls Tryz.prog 14 #[.agg #[.int .i64 regs, .slice A l.length cap], .agg #[.int .i64 t.op, .int .i64 t.a, .int .i64 t.b], .agg #[.slice X pt.length xc, .slice Y tk.length yc]] w (MaPost 57 regs l t pt tk w) := by (
 have HX := hide (fun W (hW : Below w.heap.size w W) => Facts_any regs A l cap t W hl (hA.below hW))
 have hE : maE regs l t pt tk = 1 := by unfold maE; rw [if_neg (by rw [h0]; simp), if_pos h1]
 unfold MaPost
 rw [hE]
 clear hA hE
 have H0 := hide h0
 clear h0
 go_enter Tryz.func14, Tryz.ntmps14
 go_wp2_with fail
 refine (HX.out _ (by (with_reducible repeat first | apply Qa | assumption | apply Qb | apply Qc | apply Qd | apply Qe | refine Qf ?_ (by assumption) ?_); all_goals (try simp only [Sz]); first | done | omega | (try simp only [Sz] at *); omega)).mono ?_
 rintro e w1 ⟨hb1, h⟩
 obtain ⟨-, F, v0, v1, v2, v3, v4, v5, rfl, hF, r0, r1, r2, r3, r4, r5⟩ := h.resolve_left (fun h => h.1 H0.out)
 clear h
 obtain ⟨A0, c0, e0, _, _⟩ := r0.shape
 subst e0
 obtain ⟨A1, c1, e1, _, _⟩ := r1.shape
 subst e1
 obtain ⟨A2, c2, e2, _, _⟩ := r2.shape
 subst e2
 obtain ⟨A3, c3, e3, _, _⟩ := r3.shape
 subst e3
 obtain ⟨A4, c4, e4, _, _⟩ := r4.shape
 subst e4
 obtain ⟨A5, c5, e5, _, _⟩ := r5.shape
 subst e5
 have hz1 := hb1.size
 simp only [World.size_alloc] at hz1
 have hB1 : Below w.heap.size w w1 := (by (with_reducible repeat first | apply Qa | assumption | apply Qb | apply Qc | apply Qd | apply Qe | refine Qf ?_ (by assumption) ?_); all_goals (try simp only [Sz]); first | done | omega | (try simp only [Sz] at *); omega)
 have hP1 : Blk w1 w.heap.size 24 #[.int .i64 regs, .slice A l.length cap] := Blk.below (by repeat (first | ((with_reducible refine Blk.new' ?_); exact (by (try simp only [Sz]); first | done | omega | (try simp only [Sz] at *); omega)) | (with_reducible refine Blk.alloc ?_ _))) hb1 (by simp <;> omega)
 have hL1 : Blk w1 (w.heap.size + 1 + 1) 29 #[.slice X pt.length xc, .slice Y tk.length yc] := Blk.below (by repeat (first | ((with_reducible refine Blk.new' ?_); exact (by (try simp only [Sz]); first | done | omega | (try simp only [Sz] at *); omega)) | (with_reducible refine Blk.alloc ?_ _))) hb1 (by simp <;> omega)
 have hO1 : Blk w1 (w.heap.size + 1 + 1 + 1) 24 #[.int .i64 0, .slice none 0 0] := Blk.below (by repeat (first | ((with_reducible refine Blk.new' ?_); exact (by (try simp only [Sz]); first | done | omega | (try simp only [Sz] at *); omega)) | (with_reducible refine Blk.alloc ?_ _))) hb1 (by simp <;> omega)
 clear hb1 r0 r1 r2 r3 r4 r5 hF
 go_upto_region 2 with fail
 obtain ⟨W1, hW1⟩ : ∃ W1 : World, W1 = w1.alloc (.cells #[.slice A0 (bools F.down).length c0, .slice A1 (bools F.up).length c1, .slice A2 (bools F.early).length c2, .slice A3 (bools F.delay).length c3, .slice A4 (bools F.late).length c4, .slice A5 (bools F.alone).length c5] 49) := ⟨_, rfl⟩
 have hB2 : Below w.heap.size w W1 := by rw [hW1]; exact hB1.alloc (by omega) _
 have hO1 : Blk W1 (w.heap.size + 1 + 1 + 1) 24 #[.int .i64 0, .slice none 0 0] := by rw [hW1]; exact hO1.alloc _
 have hP1 : Blk W1 w.heap.size 24 #[.int .i64 regs, .slice A l.length cap] := by rw [hW1]; exact hP1.alloc _
 have hL1 : Blk W1 (w.heap.size + 1 + 1) 29 #[.slice X pt.length xc, .slice Y tk.length yc] := by rw [hW1]; exact hL1.alloc _
 rw [← hW1]
 clear hW1 hB1
 have o0 := hO1.cell 0
 have o1 := hO1.cell 1
 have f0 := hO1.frozen 0
 have f1 := hO1.frozen 1
 simp only [Yl] at o0 o1
 have lO := hO1.lt
 have p1 := hP1.cell 1
 have x0 := hL1.cell 0
 have x1 := hL1.cell 1
 simp only [Yl] at p1 x0 x1
 have lp := hP1.lt
 have lx := hL1.lt
 by_cases h2 : pt.length = l.length
 · (
 have h3 : tk.length ≠ l.length := h1.resolve_left (fun h => h h2)
 have d1 : ((pt.length : Int) != (l.length : Int)) = false := by simp [h2]
 have d2 : ((tk.length : Int) != (l.length : Int)) = true := by simp; omega
 have D1 := hide d1
 clear h1 h2 h3
 go_wp2_with fail
 go_tidy
 refine bodyPost_ret (v := .tuple #[.agg #[.int .i64 0, .slice none 0 0], .int .i64 1]) (by simp [results, Tryz.results14, go_sem, o0, o1, f0, f1, World.cell?_setCell_same, World.cell?_setCell_other]; try rfl) rfl ?_
 exact ⟨(hB2.setCell (by simp <;> omega) _).setCell (by simp <;> omega) _, .inl ⟨by decide, rfl⟩⟩)
 · (
 have d1 : ((pt.length : Int) != (l.length : Int)) = true := by simp; omega
 clear h1 h2
 go_wp2_with fail
 go_tidy
 refine bodyPost_ret (v := .tuple #[.agg #[.int .i64 0, .slice none 0 0], .int .i64 1]) (by simp [results, Tryz.results14, go_sem, o0, o1, f0, f1, World.cell?_setCell_same, World.cell?_setCell_other]; try rfl) rfl ?_
 exact ⟨(hB2.setCell (by simp <;> omega) _).setCell (by simp <;> omega) _, .inl ⟨by decide, rfl⟩⟩))
end
section
open Go.RowKit
set_option maxHeartbeats 8000000
attribute [local irreducible] Row madeCells
def badRec (t : Tm) (tk : List Bool) (l : List Nd) : Bool := (List.range l.length).any fun k => yn tk k && !recB t (nd l k)
def apE (regs : Int) (l : List Nd) (t : Tm) (pt tk : List Bool) : Int :=
 if fxE regs l t ≠ 0 then fxE regs l t else if pt.length ≠ l.length ∨ tk.length ≠ l.length then 1 else if badRec t tk l = true then 1 else if 256 < l.length + rk pt l.length ∨ regs = 64 then 2 else 0
theorem ApplyError_ok (regs : Int) (A : Option Addr) (l : List Nd) (cap : Nat) (t : Tm) (X Y : Option Addr) (pt tk : List Bool) (xc yc : Nat) (w : World) (hl : l.length ≤ 256) (hA : NodesAt w A l) (hX : ValsAt w X (bools pt)) (hY : ValsAt w Y (bools tk)) (h0 : fxE regs l t = 0) (h1 : pt.length = l.length) (h2 : tk.length = l.length) :
 Calls Tryz.prog 17 #[.agg #[.int .i64 regs, .slice A l.length cap], .agg #[.int .i64 t.op, .int .i64 t.a, .int .i64 t.b], .agg #[.slice X pt.length xc, .slice Y tk.length yc]] w fun e w' => e = .returned (.int .i64 (apE regs l t pt tk)) ∧ Below w.heap.size w w' := by (
 have HE := hide (fun W (hW : Below w.heap.size w W) => factsError_any regs A l cap t W (hA.below hW))
 rw [h0] at HE
 have hE : apE regs l t pt tk = if badRec t tk l = true then 1 else if 256 < l.length + rk pt l.length ∨ regs = 64 then 2 else 0 := by unfold apE; rw [if_neg (by rw [h0]; simp), if_neg (by rw [h1, h2]; simp)]
 rw [hE]
 obtain ⟨ev, hev⟩ : ∃ ev : Int, ev = (if badRec t tk l = true then 1 else if 256 < l.length + rk pt l.length ∨ regs = 64 then 2 else 0) := ⟨_, rfl⟩
 rw [← hev]
 have Hev := hide hev
 clear hev
 have HN := hide hA
 have HX := hide hX
 have HY := hide hY
 have Hp := hide h1
 have Hk := hide h2
 have d1 : ((l.length : Int) != (l.length : Int)) = false := by simp
 rw [h1, h2]
 clear hA hX hY h0 h1 h2 hE
 go_enter Tryz.func17, Tryz.ntmps17
 go_wp2_with fail
 refine (HE.out _ (by (with_reducible repeat first | apply Qa | assumption | apply Qb | apply Qc | apply Qd | apply Qe | refine Qf ?_ (by assumption) ?_); all_goals (try simp only [Sz]); first | done | omega | (try simp only [Sz] at *); omega)).mono ?_
 rintro e w1 ⟨rfl, hb1⟩
 have hz1 := hb1.size
 simp only [World.size_alloc] at hz1
 have hB1 : Below w.heap.size w w1 := (by (with_reducible repeat first | apply Qa | assumption | apply Qb | apply Qc | apply Qd | apply Qe | refine Qf ?_ (by assumption) ?_); all_goals (try simp only [Sz]); first | done | omega | (try simp only [Sz] at *); omega)
 have hP : Blk w1 w.heap.size 24 #[.int .i64 regs, .slice A l.length cap] := Blk.below (by repeat (first | ((with_reducible refine Blk.new' ?_); exact (by (try simp only [Sz]); first | done | omega | (try simp only [Sz] at *); omega)) | (with_reducible refine Blk.alloc ?_ _))) hb1 (by simp <;> omega)
 have hT : Blk w1 (w.heap.size + 1) 26 #[.int .i64 t.op, .int .i64 t.a, .int .i64 t.b] := Blk.below (by repeat (first | ((with_reducible refine Blk.new' ?_); exact (by (try simp only [Sz]); first | done | omega | (try simp only [Sz] at *); omega)) | (with_reducible refine Blk.alloc ?_ _))) hb1 (by simp <;> omega)
 have hL : Blk w1 (w.heap.size + 1 + 1) 29 #[.slice X l.length xc, .slice Y l.length yc] := Blk.below (by repeat (first | ((with_reducible refine Blk.new' ?_); exact (by (try simp only [Sz]); first | done | omega | (try simp only [Sz] at *); omega)) | (with_reducible refine Blk.alloc ?_ _))) hb1 (by simp <;> omega)
 clear hb1
 have p0 := hP.cell 0
 have p1 := hP.cell 1
 have x0 := hL.cell 0
 have x1 := hL.cell 1
 have lp := hP.lt
 have lx := hL.lt
 simp only [Yl] at p0 p1 x0 x1
 have HP := hide hP
 have HT := hide hT
 have HL := hide hL
 have HB := hide hB1
 clear hP hT hL hB1
 go_wp2_with fail
 go_loopg [8, 9] (l.length) (fun gk s8 i wr => ∃ k : Nat, k ≤ l.length ∧ s8 = .int .i64 ((l.length + rk pt k : Nat) : Int) ∧ i = .int .i64 k ∧ gk = l.length - k ∧ Below w1.heap.size w1 wr ∧ ∀ j, j < k → (yn tk j && !recB t (nd l j)) = false)
 case atStart => exact ⟨0, Nat.zero_le _, rfl, rfl, rfl, Below.refl _ _, fun j hj => by omega⟩
 case round => (
 clear p0 p1 x0 x1 lp lx
 obtain ⟨k, hk, rfl, rfl, hgk, hS, hno⟩ := hrel
 have Hgk := hide hgk
 have Hno := hide hno
 clear hgk hno
 have hP := HP.out.below hS HP.out.lt
 have hL := HL.out.below hS HL.out.lt
 have p0 := hP.cell 0
 have p1 := hP.cell 1
 have x0 := hL.cell 0
 have x1 := hL.cell 1
 have lp := hP.lt
 have lx := hL.lt
 simp only [Yl] at p0 p1 x0 x1
 have hB := HB.out.trans (hS.mono HB.out.size)
 have hrk := rk_le pt k
 by_cases hlt : k < l.length
 · (
 obtain ⟨nb, no, nn, rfl, hnb, hn, hnl⟩ := (HN.out.below hB).get hlt
 obtain ⟨n0, n1, n2, n3, n4, n5⟩ := hnl
 obtain ⟨yb, yo, ey, ly, yv⟩ := (HY.out.below hB).bool (k := k) (by rw [Hk.out]; exact hlt)
 subst ey
 obtain ⟨xb, xo, ex, lxb, xv⟩ := (HX.out.below hB).bool (k := k) (by rw [Hp.out]; exact hlt)
 subst ex
 have hT := HT.out.below hS HT.out.lt
 have t0 := hT.cell 0
 have t1 := hT.cell 1
 have t2 := hT.cell 2
 have ltb := hT.lt
 simp only [Yl] at t0 t1 t2
 have u0 : (0 : Int) ≤ (k : Int) := by omega
 have u1 : (k : Int) < (l.length : Int) := by omega
 have Hn := hide hn
 have HS := hide hS
 have HBk := hide hB
 clear hn hS hB hP hL hT
 go_upto_region 10 with fail
 go_cut [9, 56] (fun s9 s56 wx => s9 = .int .i64 k ∧ s56 = .bool (yn tk k && !recB t nn) ∧ Below wr.heap.size wr wx)
 case first => (
 have hc0 : Below wr.heap.size wr wr.drew := (Below.refl _ _).drew
 cases hy : yn tk k
 case false => (
 rw [hy] at yv
 refine wp_region_held_drew (S := fun w' => (w'.cell? ⟨w.heap.size + 1 + 1, 1, none⟩ = some (.slice (some ⟨yb, yo, none⟩) l.length yc) ∧ w'.cell? ⟨yb, yo + k, none⟩ = some (.bool false) ∧ w'.cell? ⟨w.heap.size, 1, none⟩ = some (.slice (some ⟨nb, no, none⟩) l.length cap) ∧ w'.cell? ⟨nb, no + k * 6, none⟩ = some (.int .i64 nn.op) ∧ w'.cell? ⟨nb, no + k * 6 + 1, none⟩ = some (.int .i64 nn.d) ∧ w'.cell? ⟨nb, no + k * 6 + 2, none⟩ = some (.int .i64 nn.a) ∧ w'.cell? ⟨nb, no + k * 6 + 3, none⟩ = some (.int .i64 nn.b) ∧ w'.cell? ⟨nb, no + k * 6 + 4, none⟩ = some (.int .i64 nn.t) ∧ w'.cell? ⟨nb, no + k * 6 + 5, none⟩ = some (.int .i64 nn.e) ∧ w'.cell? ⟨w.heap.size + 1, 0, none⟩ = some (.int .i64 t.op) ∧ w'.cell? ⟨w.heap.size + 1, 1, none⟩ = some (.int .i64 t.a) ∧ w'.cell? ⟨w.heap.size + 1, 2, none⟩ = some (.int .i64 t.b))) (by kernel_rfl) ?_ ?_
 · exact ⟨x1, yv, p1, n0, n1, n2, n3, n4, n5, t0, t1, t2⟩
 intro hH
 refine Up (fun _ _ _ _ _ => id) fun hPq => ?_
 refine Vq 0 ?_ rfl (by kernel_rfl) hPq (by rfl) ?r hH ?_; case r => intro w'; go_simp; try with_reducible rfl
 try simp only [Nm]
 refine Vi 1 ?_ rfl (by kernel_rfl) hPq (by rfl) ?r hH ?_; case r => intro w' h; (try dsimp only at h); (try go_split_ands); go_simp; try with_reducible rfl
 try simp only [Nm]
 refine Vq 2 ?_ rfl (by kernel_rfl) hPq (by rfl) ?r hH ?_; case r => intro w'; go_simp; try with_reducible rfl
 try simp only [Nm]
 refine Vq 3 ?_ rfl (by kernel_rfl) hPq (by rfl) ?r hH ?_; case r => intro w'; go_simp; try with_reducible rfl
 try simp only [Nm]
 refine Vi 4 ?_ rfl (by kernel_rfl) hPq (by rfl) ?r hH ?_; case r => intro w' h; (try dsimp only at h); (try go_split_ands); go_simp; try with_reducible rfl
 try simp only [Nm]
 refine Vq 5 ?_ rfl (by kernel_rfl) hPq (by rfl) ?r hH ?_; case r => intro w'; go_simp; try with_reducible rfl
 try simp only [Nm]
 refine Vn 6 rfl (by kernel_rfl) hPq (by rfl) hH ?_
 try simp only [Nm]
 refine Vn 7 rfl (by kernel_rfl) hPq (by rfl) hH ?_
 try simp only [Nm]
 refine Vn 8 rfl (by kernel_rfl) hPq (by rfl) hH ?_
 try simp only [Nm]
 refine Vn 9 rfl (by kernel_rfl) hPq (by rfl) hH ?_
 try simp only [Nm]
 refine Vn 10 rfl (by kernel_rfl) hPq (by rfl) hH ?_
 try simp only [Nm]
 refine Vn 11 rfl (by kernel_rfl) hPq (by rfl) hH ?_
 try simp only [Nm]
 refine Vn 12 rfl (by kernel_rfl) hPq (by rfl) hH ?_
 try simp only [Nm]
 refine Vn 13 rfl (by kernel_rfl) hPq (by rfl) hH ?_
 try simp only [Nm]
 refine Vq 14 ?_ rfl (by kernel_rfl) hPq (by rfl) ?r hH ?_; case r => intro w'; go_simp; try with_reducible rfl
 try simp only [Nm]
 refine wpAnyH_done (by kernel_rfl) ?_ _
 go_wp2_with fail
 go_meet
 go_tidy
 exact ⟨rfl, by rw [hy]; rfl, hc0⟩)
 case true => (
 rw [hy] at yv
 refine wp_region_held_drew (S := fun w' => (w'.cell? ⟨w.heap.size + 1 + 1, 1, none⟩ = some (.slice (some ⟨yb, yo, none⟩) l.length yc) ∧ w'.cell? ⟨yb, yo + k, none⟩ = some (.bool true) ∧ w'.cell? ⟨w.heap.size, 1, none⟩ = some (.slice (some ⟨nb, no, none⟩) l.length cap) ∧ w'.cell? ⟨nb, no + k * 6, none⟩ = some (.int .i64 nn.op) ∧ w'.cell? ⟨nb, no + k * 6 + 1, none⟩ = some (.int .i64 nn.d) ∧ w'.cell? ⟨nb, no + k * 6 + 2, none⟩ = some (.int .i64 nn.a) ∧ w'.cell? ⟨nb, no + k * 6 + 3, none⟩ = some (.int .i64 nn.b) ∧ w'.cell? ⟨nb, no + k * 6 + 4, none⟩ = some (.int .i64 nn.t) ∧ w'.cell? ⟨nb, no + k * 6 + 5, none⟩ = some (.int .i64 nn.e) ∧ w'.cell? ⟨w.heap.size + 1, 0, none⟩ = some (.int .i64 t.op) ∧ w'.cell? ⟨w.heap.size + 1, 1, none⟩ = some (.int .i64 t.a) ∧ w'.cell? ⟨w.heap.size + 1, 2, none⟩ = some (.int .i64 t.b))) (by kernel_rfl) ?_ ?_
 · exact ⟨x1, yv, p1, n0, n1, n2, n3, n4, n5, t0, t1, t2⟩
 intro hH
 refine Up (fun _ _ _ _ _ => id) fun hPq => ?_
 refine Vq 0 ?_ rfl (by kernel_rfl) hPq (by rfl) ?r hH ?_; case r => intro w'; go_simp; try with_reducible rfl
 try simp only [Nm]
 refine Vi 1 ?_ rfl (by kernel_rfl) hPq (by rfl) ?r hH ?_; case r => intro w' h; (try dsimp only at h); (try go_split_ands); go_simp; try with_reducible rfl
 try simp only [Nm]
 refine Vq 2 ?_ rfl (by kernel_rfl) hPq (by rfl) ?r hH ?_; case r => intro w'; go_simp; try with_reducible rfl
 try simp only [Nm]
 refine Vq 3 ?_ rfl (by kernel_rfl) hPq (by rfl) ?r hH ?_; case r => intro w'; go_simp; try with_reducible rfl
 try simp only [Nm]
 refine Vi 4 ?_ rfl (by kernel_rfl) hPq (by rfl) ?r hH ?_; case r => intro w' h; (try dsimp only at h); (try go_split_ands); go_simp; try with_reducible rfl
 try simp only [Nm]
 refine Vq 5 ?_ rfl (by kernel_rfl) hPq (by rfl) ?r hH ?_; case r => intro w'; go_simp; try with_reducible rfl
 try simp only [Nm]
 refine Vq 6 ?_ rfl (by kernel_rfl) hPq (by rfl) ?r hH ?_; case r => intro w'; go_simp; try with_reducible rfl
 try simp only [Nm]
 refine Vi 7 ?_ rfl (by kernel_rfl) hPq (by rfl) ?r hH ?_; case r => intro w' h; (try dsimp only at h); (try go_split_ands); go_simp; try with_reducible rfl
 try simp only [Nm]
 refine Vq 8 ?_ rfl (by kernel_rfl) hPq (by rfl) ?r hH ?_; case r => intro w'; go_simp; try with_reducible rfl
 try simp only [Nm]
 refine Vq 9 ?_ rfl (by kernel_rfl) hPq (by rfl) ?r hH ?_; case r => intro w'; go_simp; try with_reducible rfl
 try simp only [Nm]
 refine Vi 10 ?_ rfl (by kernel_rfl) hPq (by rfl) ?r hH ?_; case r => intro w' h; (try dsimp only at h); (try go_split_ands); go_simp; try with_reducible rfl
 try simp only [Nm]
 refine Vi 11 ?_ rfl (by kernel_rfl) hPq (by rfl) ?r hH ?_; case r => intro w' h; (try dsimp only at h); (try go_split_ands); go_simp; try with_reducible rfl
 try simp only [Nm]
 refine Rd 12 (by kernel_rfl) rfl (fun K hK => ?_)
 have HK12 := hide hK
 clear hK
 go_simp
 go_at_call 35
 refine (reckonsIt_any nn t _).mono ?_
 rintro e V1 ⟨rfl, hbV⟩
 have hC1 : Below wr.heap.size wr V1 := hc0.trans (hbV.mono hc0.size)
 clear hH
 refine Shut.out HK12.out _ _ ⟨((bcell hC1).1 _ _ (by omega)).trans x1, ((bcell hC1).1 _ _ (by omega)).trans yv, ((bcell hC1).1 _ _ (by omega)).trans p1, ((bcell hC1).1 _ _ (by omega)).trans n0, ((bcell hC1).1 _ _ (by omega)).trans n1, ((bcell hC1).1 _ _ (by omega)).trans n2, ((bcell hC1).1 _ _ (by omega)).trans n3, ((bcell hC1).1 _ _ (by omega)).trans n4, ((bcell hC1).1 _ _ (by omega)).trans n5, ((bcell hC1).1 _ _ (by omega)).trans t0, ((bcell hC1).1 _ _ (by omega)).trans t1, ((bcell hC1).1 _ _ (by omega)).trans t2⟩ (fun hH => ?_)
 try simp only [Nm]
 clear HK12
 refine Vq 13 ?_ rfl (by kernel_rfl) hPq (by rfl) ?r hH ?_; case r => intro w'; go_simp; try with_reducible rfl
 try simp only [Nm]
 refine Vq 14 ?_ rfl (by kernel_rfl) hPq (by rfl) ?r hH ?_; case r => intro w'; go_simp; try with_reducible rfl
 try simp only [Nm]
 refine wpAnyH_done (by kernel_rfl) ?_ _
 go_wp2_with fail
 go_meet
 go_tidy
 exact ⟨rfl, by rw [hy]; simp, hC1⟩))
 case rest => (
 obtain ⟨rfl, rfl, hbc⟩ := hcut
 have hSc := HS.out.trans (hbc.mono HS.out.size)
 have hBc := HBk.out.trans (hbc.mono HBk.out.size)
 have x0 := ((bcell hbc).1 _ _ lx).trans x0
 have lx := Nat.lt_of_lt_of_le lx hbc.size
 have xv := ((bcell hbc).1 _ _ lxb).trans xv
 have lxb := Nat.lt_of_lt_of_le lxb hbc.size
 clear yv x1 p0 p1 n0 n1 n2 n3 n4 n5 t0 t1 t2 lp ltb ly hnb
 cases hq : (yn tk k && !recB t nn)
 case true => (
 have hbad : badRec t tk l = true := by (
 unfold badRec
 rw [List.any_eq_true]
 exact ⟨k, List.mem_range.2 hlt, by rw [nd_get Hn.out]; exact hq⟩)
 have Hbad := hide hbad
 have HBc := hide hBc
 clear hq hbad hBc hbc hSc
 go_wp2_with fail
 go_ret
 exact ⟨by rw [Hev.out, if_pos Hbad.out]; rfl, HBc.out⟩)
 case false => (
 have Hq := hide hq
 have HSc := hide hSc
 clear hq hbc hSc hBc
 have hno' : ∀ j, j < k + 1 → (yn tk j && !recB t (nd l j)) = false := fun j hj => by (
 by_cases e : j = k
 · rw [e, nd_get Hn.out]; exact Hq.out
 · exact Hno.out j (by omega))
 have Hno' := hide hno'
 clear hno'
 cases hp : yn pt k
 case false => (
 rw [hp] at xv
 have Hpk := hide (rk_no hp)
 clear hp
 go_wp2_with fail
 go_roundg (l.length - (k + 1))
 case measure => have := Hgk.out; omega
 case rel => exact ⟨k + 1, by omega, by rw [Hpk.out], by go_num, rfl, HSc.out, Hno'.out⟩)
 case true => (
 rw [hp] at xv
 have Hpk := hide (rk_yes hp)
 clear hp
 have hw8 : IntKind.i64.wrap (((l.length + rk pt k : Nat) : Int) + 1) = ((l.length + (rk pt k + 1) : Nat) : Int) := by rw [IntKind.wrap_i64]; omega
 go_wp2_with fail
 go_roundg (l.length - (k + 1))
 case measure => have := Hgk.out; omega
 case rel => exact ⟨k + 1, by omega, by rw [Hpk.out]; first | rfl | (congr 1; omega) | go_num, by go_num, rfl, HSc.out, Hno'.out⟩))))
 · (
 have hkk : k = l.length := by omega
 subst hkk
 have hbad : badRec t tk l = false := by (
 unfold badRec
 rw [List.any_eq_false]
 intro j hj
 rw [Hno.out j (List.mem_range.1 hj)]; simp)
 have hv : (if badRec t tk l = true then (1 : Int) else if 256 < l.length + rk pt l.length ∨ regs = 64 then 2 else 0) = if 256 < l.length + rk pt l.length ∨ regs = 64 then 2 else 0 := by rw [if_neg (by rw [hbad]; simp)]
 have HBf := hide hB
 have Hv := hide hv
 clear hbad hv hB hS hP hL Hno Hgk hk hlt
 by_cases h1 : 256 < l.length + rk pt l.length
 · (
 have y0 : (256 : Int) < ((l.length + rk pt l.length : Nat) : Int) := by omega
 have Hw := hide (Hv.out.trans (if_pos (.inl h1)))
 go_wp2_with fail
 go_ret
 exact ⟨by rw [Hev.out, Hw.out]; rfl, HBf.out⟩)
 · (
 have y0 : ¬ (256 : Int) < ((l.length + rk pt l.length : Nat) : Int) := by omega
 by_cases h2 : regs = 64
 · (
 have Hw := hide (Hv.out.trans (if_pos (.inr h2)))
 have y1 : (regs == 64) = true := by simpa using h2
 clear h2
 go_wp2_with fail
 go_ret
 exact ⟨by rw [Hev.out, Hw.out]; rfl, HBf.out⟩)
 · (
 have Hw := hide (Hv.out.trans (if_neg (fun h => h.elim h1 h2)))
 have y1 : (regs == 64) = false := by simpa using h2
 clear h2
 go_wp2_with fail
 go_ret
 exact ⟨by rw [Hev.out, Hw.out]; rfl, HBf.out⟩)))))
theorem ApplyError_err (regs : Int) (A : Option Addr) (l : List Nd) (cap : Nat) (t : Tm) (X Y : Option Addr) (pt tk : List Bool) (xc yc : Nat) (w : World) (hA : NodesAt w A l) (h0 : fxE regs l t ≠ 0) :
 Calls Tryz.prog 17 #[.agg #[.int .i64 regs, .slice A l.length cap], .agg #[.int .i64 t.op, .int .i64 t.a, .int .i64 t.b], .agg #[.slice X pt.length xc, .slice Y tk.length yc]] w fun e w' => e = .returned (.int .i64 (apE regs l t pt tk)) ∧ Below w.heap.size w w' := by (
 have HE := hide (fun W (hW : Below w.heap.size w W) => factsError_any regs A l cap t W (hA.below hW))
 have hE : apE regs l t pt tk = fxE regs l t := by unfold apE; rw [if_pos h0]
 rw [hE]
 have h0' : (fxE regs l t != 0) = true := by simp [h0]
 clear hA hE h0
 generalize fxE regs l t = c at *
 go_enter Tryz.func17, Tryz.ntmps17
 go_wp2_with fail
 refine (HE.out _ (by (with_reducible repeat first | apply Qa | assumption | apply Qb | apply Qc | apply Qd | apply Qe | refine Qf ?_ (by assumption) ?_); all_goals (try simp only [Sz]); first | done | omega | (try simp only [Sz] at *); omega)).mono ?_
 rintro e w1 ⟨rfl, hb1⟩
 have hB1 : Below w.heap.size w w1 := (by (with_reducible repeat first | apply Qa | assumption | apply Qb | apply Qc | apply Qd | apply Qe | refine Qf ?_ (by assumption) ?_); all_goals (try simp only [Sz]); first | done | omega | (try simp only [Sz] at *); omega)
 clear hb1
 go_wp2_with fail
 go_ret
 exact ⟨rfl, hB1⟩)
theorem ApplyError_len (regs : Int) (A : Option Addr) (l : List Nd) (cap : Nat) (t : Tm) (X Y : Option Addr) (pt tk : List Bool) (xc yc : Nat) (w : World) (hA : NodesAt w A l) (h0 : fxE regs l t = 0) (h1 : pt.length ≠ l.length ∨ tk.length ≠ l.length) :
 Calls Tryz.prog 17 #[.agg #[.int .i64 regs, .slice A l.length cap], .agg #[.int .i64 t.op, .int .i64 t.a, .int .i64 t.b], .agg #[.slice X pt.length xc, .slice Y tk.length yc]] w fun e w' => e = .returned (.int .i64 (apE regs l t pt tk)) ∧ Below w.heap.size w w' := by (
 have HE := hide (fun W (hW : Below w.heap.size w W) => factsError_any regs A l cap t W (hA.below hW))
 rw [h0] at HE
 have hE : apE regs l t pt tk = 1 := by unfold apE; rw [if_neg (by rw [h0]; simp), if_pos h1]
 rw [hE]
 clear hA hE h0
 go_enter Tryz.func17, Tryz.ntmps17
 go_wp2_with fail
 refine (HE.out _ (by (with_reducible repeat first | apply Qa | assumption | apply Qb | apply Qc | apply Qd | apply Qe | refine Qf ?_ (by assumption) ?_); all_goals (try simp only [Sz]); first | done | omega | (try simp only [Sz] at *); omega)).mono ?_
 rintro e w1 ⟨rfl, hb1⟩
 have hB1 : Below w.heap.size w w1 := (by (with_reducible repeat first | apply Qa | assumption | apply Qb | apply Qc | apply Qd | apply Qe | refine Qf ?_ (by assumption) ?_); all_goals (try simp only [Sz]); first | done | omega | (try simp only [Sz] at *); omega)
 have hz1 := hb1.size
 simp only [World.size_alloc] at hz1
 have hP : Blk w1 w.heap.size 24 #[.int .i64 regs, .slice A l.length cap] := Blk.below (by repeat (first | ((with_reducible refine Blk.new' ?_); exact (by (try simp only [Sz]); first | done | omega | (try simp only [Sz] at *); omega)) | (with_reducible refine Blk.alloc ?_ _))) hb1 (by simp <;> omega)
 have hL : Blk w1 (w.heap.size + 1 + 1) 29 #[.slice X pt.length xc, .slice Y tk.length yc] := Blk.below (by repeat (first | ((with_reducible refine Blk.new' ?_); exact (by (try simp only [Sz]); first | done | omega | (try simp only [Sz] at *); omega)) | (with_reducible refine Blk.alloc ?_ _))) hb1 (by simp <;> omega)
 clear hb1
 have p1 := hP.cell 1
 have x0 := hL.cell 0
 have x1 := hL.cell 1
 have lp := hP.lt
 have lx := hL.lt
 simp only [Yl] at p1 x0 x1
 by_cases h2 : pt.length = l.length
 · (
 have h3 : tk.length ≠ l.length := h1.resolve_left (fun h => h h2)
 have d1 : ((pt.length : Int) != (l.length : Int)) = false := by simp [h2]
 have d2 : ((tk.length : Int) != (l.length : Int)) = true := by simp; omega
 clear h1 h2 h3
 go_wp2_with fail
 go_ret
 exact ⟨rfl, hB1⟩)
 · (
 have d1 : ((pt.length : Int) != (l.length : Int)) = true := by simp; omega
 clear h1 h2
 go_wp2_with fail
 go_ret
 exact ⟨rfl, hB1⟩))
theorem ApplyError_any (regs : Int) (A : Option Addr) (l : List Nd) (cap : Nat) (t : Tm) (X Y : Option Addr) (pt tk : List Bool) (xc yc : Nat) (w : World) (hA : NodesAt w A l) (hX : ValsAt w X (bools pt)) (hY : ValsAt w Y (bools tk)) :
 Calls Tryz.prog 17 #[.agg #[.int .i64 regs, .slice A l.length cap], .agg #[.int .i64 t.op, .int .i64 t.a, .int .i64 t.b], .agg #[.slice X pt.length xc, .slice Y tk.length yc]] w fun e w' => e = .returned (.int .i64 (apE regs l t pt tk)) ∧ Below w.heap.size w w' := by (
 by_cases h0 : fxE regs l t = 0
 · (
 have hl : l.length ≤ 256 := by (
 by_cases hc : chk regs l = 0
 · exact (right_of_chk hc).hi
 · (
 unfold fxE at h0
 rw [if_pos hc] at h0
 exact absurd h0 hc))
 by_cases h1 : pt.length = l.length
 · (
 by_cases h2 : tk.length = l.length
 · exact ApplyError_ok regs A l cap t X Y pt tk xc yc w hl hA hX hY h0 h1 h2
 · exact ApplyError_len regs A l cap t X Y pt tk xc yc w hA h0 (.inr h2))
 · exact ApplyError_len regs A l cap t X Y pt tk xc yc w hA h0 (.inl h1))
 · exact ApplyError_err regs A l cap t X Y pt tk xc yc w hA h0)
end
section
open Go.RowKit
theorem fxE_chk {regs : Int} {l : List Nd} {t : Tm} (h : fxE regs l t = 0) : chk regs l = 0 := by (
 by_cases hc : chk regs l = 0
 · exact hc
 · (
 unfold fxE at h
 rw [if_pos hc] at h
 exact h))
theorem fxE_op {regs : Int} {l : List Nd} {t : Tm} (h : fxE regs l t = 0) : 3 ≤ t.op ∧ t.op ≤ 8 := by (
 have hc := fxE_chk h
 unfold fxE at h
 rw [if_neg (by rw [hc]; simp)] at h
 by_cases ho : inB t.op 3 8 = false
 · rw [if_pos ho] at h; cases h
 · (
 have : inB t.op 3 8 = true := by simpa using ho
 simpa [inB] using this))
theorem applyL_len (h : Int) (t : Tm) (pt tk : List Bool) (l : List Nd) : (applyL h t pt tk l).length = l.length + rk pt l.length := by (
 have hl : (takeL h tk l).length = l.length := by simp [takeL]
 unfold applyL
 rw [putTo_eq h t pt (takeL h tk l) l.length (by omega), List.length_append, List.length_map, List.length_map, List.length_range, hl]
 congr 1
 generalize l.length = k
 induction k with
 | zero => rfl
 | succ k ih => rw [List.range_succ, List.filter_append, List.length_append, ih, rk]; by_cases e : yn pt k = true <;> simp [e])
theorem ap_ma {regs : Int} {l : List Nd} {t : Tm} {pt tk : List Bool} : apE regs l t pt tk = maE regs l t pt tk := by (
 unfold apE maE
 by_cases h0 : fxE regs l t = 0
 · (
 have hR := right_of_chk (fxE_chk h0)
 have hop := fxE_op h0
 have hb : badRec t tk l = badTake t tk l := by (
 have h1 : ∀ k ∈ List.range l.length, (yn tk k && !recB t (nd l k)) = (yn tk k && !rkB t (nd l k)) := fun k hk => by (
 have hk := List.mem_range.1 hk
 have hn : l[k]? = some (nd l k) := by rw [nd, List.getD_eq_getElem?_getD, List.getElem?_eq_getElem hk]; rfl
 rw [rkB_eq hR (List.mem_of_getElem? hn) hop])
 unfold badRec badTake
 rw [Bool.eq_iff_iff, List.any_eq_true, List.any_eq_true]
 exact ⟨fun ⟨k, hk, h⟩ => ⟨k, hk, (h1 k hk) ▸ h⟩, fun ⟨k, hk, h⟩ => ⟨k, hk, (h1 k hk).symm ▸ h⟩⟩)
 have hr : (256 < l.length + rk pt l.length ∨ regs = 64) ↔ (256 < l.length + rk pt l.length ∨ 64 < regs + 1) := by (
 have := hR.rhi
 omega)
 rw [hb, applyL_len]
 simp only [hr])
 · rw [if_pos h0, if_pos h0])
end
section
open Go.RowKit
set_option maxHeartbeats 8000000
attribute [local irreducible] Row madeCells
theorem info_intsR : (Tryz.prog.info? 65).map (fun i => (i.zero, i.size, i.bytes)) = some (some (.slice none 0 0), 1, 24) := by kernel_rfl
theorem yesF_any (n S : Nat) (w : World) (hn : n ≤ 256) (hS : Blk w S 3 #[.int .i64 (n : Int)]) :
 Calls Tryz.prog 71 #[.pointer (some ⟨S, 0, none⟩)] w (fun e w' => e = .returned (.slice (some ⟨w.heap.size, 0, none⟩) n n) ∧ Row w' w.heap.size 4 (.slice (some ⟨w.heap.size, 0, none⟩) n n) (bools (List.replicate n true)) ∧ Below w.heap.size w w') := by (
 obtain ⟨ib, hbi, hbz, hbs, hbb⟩ := info_parts infoBoolG
 have hmk := run_make1 (P := Tryz.prog) 27 4 ib _ 1 Tryz.underlying27 hbi hbz hbs hbb (by omega) rfl n (by omega)
 have s0 := hS.cell 0
 have ls := hS.lt
 simp only [List.getElem?_toArray, List.getElem?_cons_zero] at s0
 go_enter Tryz.func71, Tryz.ntmps71
 go_wp2_with fail
 go_loopg [3] (n) (fun gk i wr => ∃ k : Nat, k ≤ n ∧ i = .int .i64 k ∧ gk = n - k ∧ ∃ x : List Bool, x.length = n ∧ (∀ j, j < k → yn x j = true) ∧ Row wr w.heap.size 4 (.slice (some ⟨w.heap.size, 0, none⟩) n n) (bools x) ∧ Below w.heap.size w wr)
 case atStart => exact ⟨0, Nat.zero_le _, rfl, rfl, List.replicate n false, by simp, fun j hj => by omega, by rw [bools, List.map_replicate]; exact (by repeat (first | ((with_reducible refine Row.made1' ?_ ?_ ?_); exact (by (try simp only [Sz]); first | done | omega | (try simp only [Sz] at *); omega); exact (by (try simp only [Sz]); first | done | omega | (try simp only [Sz] at *); omega); exact (by (try simp only [Sz]); first | done | omega | (try simp only [Sz] at *); omega)) | (with_reducible refine Row.drew ?_) | (with_reducible refine Row.drewN ?_ _) | (with_reducible refine Row.alloc ?_ _) | with_reducible assumption)), (by (with_reducible repeat first | apply Qa | assumption | apply Qb | apply Qc | apply Qd | apply Qe | refine Qf ?_ (by assumption) ?_); all_goals (try simp only [Sz]); first | done | omega | (try simp only [Sz] at *); omega)⟩
 case round => (
 obtain ⟨k, hk, rfl, hgk, x, hxl, hxf, hR, hB⟩ := hrel
 have Hgk := hide hgk
 have Hxf := hide hxf
 have hxlt := (hR.lt _ rfl).2
 have s0 := ((bcell hB).1 _ _ ls).trans s0
 have ls := Nat.lt_of_lt_of_le ls hB.size
 clear hgk hxf hmk
 by_cases hlt : k < n
 · (
 obtain ⟨g0, o0, cp0, e0, _, _, cx, fx⟩ := hR.bool (k := k) (by rw [hxl]; exact hlt)
 injection e0 with e0 e1 e2
 injection e0 with e0
 injection e0 with e0 e3
 subst e0 e3
 simp only [Nat.zero_add] at cx fx
 clear e1 e2
 have HR := hide hR
 clear hR
 have u0 : (0 : Int) ≤ (k : Int) := by omega
 have u1 : (k : Int) < (n : Int) := by omega
 go_wp2_with fail
 go_roundg (n - (k + 1))
 case measure => have := Hgk.out; omega
 case rel => (
 have hs := HR.out.setb k true
 rw [Nat.zero_add] at hs
 refine ⟨k + 1, by omega, by go_num, rfl, x.set k true, by simpa using hxl, fun j hj => ?_, hs, hB.setCell (by simp <;> omega) _⟩
 rw [yn_set _ _ _ _ (by rw [hxl]; exact hlt)]
 split
 · rfl
 · exact Hxf.out j (by omega)))
 · (
 have hkk : k = n := by omega
 subst hkk
 have hxe : x = List.replicate k true := ext_yn (by simp [hxl]) fun j hj => (by
  have hj' : j < k := by omega
  rw [Hxf.out j hj']
  simp [yn, List.getD_eq_getElem?_getD, List.getElem?_replicate, hj'])
 subst hxe
 have HR := hide hR
 clear hR
 go_wp2_with fail
 go_ret
 exact ⟨rfl, HR.out, hB⟩)))
def RTab (tS tI : TypeId) (B : Nat) (b : Bool) (l : List Nd) (m : Nat) (v : Value) (W : World) : Prop :=
 ∃ vals : List Value, vals.length = m ∧ Row W B tS v vals ∧ ∀ k, k < m → ∃ (R : Option Addr) (c : Nat), vals[k]? = some (.slice R (edgesOf b l k).length c) ∧ Row W B tI (.slice R (edgesOf b l k).length c) (ints (edgesOf b l k))
theorem RTab.later {tS tI : TypeId} {B : Nat} {b : Bool} {l : List Nd} {m : Nat} {v : Value} {W W' : World} (h : RTab tS tI B b l m v W) (hb : Below W.heap.size W W') : RTab tS tI B b l m v W' := by (
 obtain ⟨vals, h1, h2, h3⟩ := h
 refine ⟨vals, h1, h2.below' hb, fun k hk => ?_⟩
 obtain ⟨R, c, e, hr⟩ := h3 k hk
 exact ⟨R, c, e, hr.below' hb⟩)
theorem RTab.far {tS tI t : TypeId} {B : Nat} {b : Bool} {l : List Nd} {m : Nat} {v : Value} {W : World} {p : Addr} {cs : Array Value} (h : RTab tS tI B b l m v W) (hp : Blk W p.block t cs) (n1 : tS ≠ t) (n2 : tI ≠ t) (u : Value) : RTab tS tI B b l m v (W.setCell p u) := by (
 obtain ⟨vals, h1, h2, h3⟩ := h
 refine ⟨vals, h1, h2.far (h2.ne_blk hp n1) u, fun k hk => ?_⟩
 obtain ⟨R, c, e, hr⟩ := h3 k hk
 exact ⟨R, c, e, hr.far (hr.ne_blk hp n2) u⟩)
theorem RTab.nil (tS tI : TypeId) (B : Nat) (b : Bool) (l : List Nd) (W : World) : RTab tS tI B b l 0 (.slice none 0 0) W := ⟨[], rfl, Row.nil_ _ _ _, fun k hk => by omega⟩
theorem RTab.add {tS tI : TypeId} {B : Nat} {b : Bool} {l : List Nd} {m : Nat} {v v' : Value} {W W' : World} {vals : List Value} (h1 : vals.length = m) (h2 : Row W B tS v vals)
 (h3 : ∀ k, k < m → ∃ (R : Option Addr) (c : Nat), vals[k]? = some (.slice R (edgesOf b l k).length c) ∧ Row W B tI (.slice R (edgesOf b l k).length c) (ints (edgesOf b l k)))
 (n1 : tI ≠ tS) {R : Option Addr} {c : Nat} (hr : Row W B tI (.slice R (edgesOf b l m).length c) (ints (edgesOf b l m)))
 (hg : W.grownBy W' v.ownBlock) (ha : Row W' B tS v' (vals ++ [.slice R (edgesOf b l m).length c])) : RTab tS tI B b l (m + 1) v' W' := by (
 refine ⟨_, by simp [h1], ha, fun k hk => ?_⟩
 by_cases hkm : k = m
 · (
 subst hkm
 exact ⟨R, c, by rw [List.getElem?_append_right (by omega), h1, Nat.sub_self]; rfl, hr.kept hg (hr.ne_row h2 n1)⟩)
 · (
 obtain ⟨R', c', e, hr'⟩ := h3 k (by omega)
 exact ⟨R', c', by rw [List.getElem?_append_left (by omega)]; exact e, hr'.kept hg (hr'.ne_row h2 n1)⟩))
theorem RTab.grown {tS tI : TypeId} {B : Nat} {b : Bool} {l : List Nd} {m : Nat} {v u : Value} {ys : List Value} {W W' : World} (h : RTab tS tI B b l m v W) (n1 : tI ≠ tS) (hu : Row W B tS u ys) (hg : W.grownBy W' u.ownBlock) (hne : v.ownBlock = none ∨ v.ownBlock ≠ u.ownBlock) : RTab tS tI B b l m v W' := by (
 obtain ⟨vals, h1, h2, h3⟩ := h
 refine ⟨vals, h1, h2.kept hg hne, fun k hk => ?_⟩
 obtain ⟨R, c, e, hr⟩ := h3 k hk
 exact ⟨R, c, e, hr.kept hg (hr.ne_row hu n1)⟩)
def six {α : Type} (a b c d e f : α) : Nat → α
 | 0 => a
 | 1 => b
 | 2 => c
 | 3 => d
 | 4 => e
 | _ => f
structure RSt (tP tT tF tZ tB tS tI : TypeId) (B : Nat) (w : World) (pc tc : Array Value) (n : Nat) (l : List Nd) (nx ax : Value) (m1 m2 : Nat) (g : Nat → Nat) (x : Nat → List Bool) (W : World) : Prop where
 p : Blk W B tP pc
 t : Blk W (B + 1) tT tc
 o : Blk W (B + 1 + 1) tF nil6
 s : Blk W (B + 1 + 1 + 1) tZ #[.int .i64 (n : Int)]
 rows : ∀ i, i < 6 → Row W B tB (.slice (some ⟨g i, 0, none⟩) n n) (bools (x i)) ∧ (x i).length = n
 inj : ∀ i j, i < 6 → j < 6 → g i = g j → i = j
 nxt : RTab tS tI B true l m1 nx W
 ahd : RTab tS tI B false l m2 ax W
 apart : nx.ownBlock = none ∨ nx.ownBlock ≠ ax.ownBlock
 below : Below B w W
 sz : B ≤ W.heap.size
 ty : tP ≠ tB ∧ tT ≠ tB ∧ tF ≠ tB ∧ tZ ≠ tB ∧ tS ≠ tB ∧ tI ≠ tB ∧ tP ≠ tS ∧ tT ≠ tS ∧ tF ≠ tS ∧ tZ ≠ tS ∧ tI ≠ tS
section
variable {tP tT tF tZ tB tS tI : TypeId} {B : Nat} {w : World} {pc tc : Array Value} {n : Nat} {l : List Nd} {nx ax : Value} {m1 m2 : Nat} {g : Nat → Nat} {x : Nat → List Bool} {W W' : World}
theorem RSt.later (h : RSt tP tT tF tZ tB tS tI B w pc tc n l nx ax m1 m2 g x W) (hb : Below W.heap.size W W') : RSt tP tT tF tZ tB tS tI B w pc tc n l nx ax m1 m2 g x W' :=
 ⟨h.p.below hb h.p.lt, h.t.below hb h.t.lt, h.o.below hb h.o.lt, h.s.below hb h.s.lt, fun i hi => ⟨(h.rows i hi).1.below' hb, (h.rows i hi).2⟩, h.inj, h.nxt.later hb, h.ahd.later hb, h.apart, h.below.trans (hb.mono h.sz), Nat.le_trans h.sz hb.size, h.ty⟩
theorem RSt.set (h : RSt tP tT tF tZ tB tS tI B w pc tc n l nx ax m1 m2 g x W) {i : Nat} (hi : i < 6) (k : Nat) (b : Bool) :
 RSt tP tT tF tZ tB tS tI B w pc tc n l nx ax m1 m2 g (upd x i ((x i).set k b)) (W.setCell ⟨g i, k, none⟩ (.bool b)) := by (
 obtain ⟨hr, hl⟩ := h.rows i hi
 obtain ⟨cs, hc⟩ := hr.blk
 have hge := rowge hr
 obtain ⟨n1, n2, n3, n4, n5, n6, _⟩ := h.ty
 refine ⟨h.p.far (Blk.ne_ h.p hc n1) _, h.t.far (Blk.ne_ h.t hc n2) _, h.o.far (Blk.ne_ h.o hc n3) _, h.s.far (Blk.ne_ h.s hc n4) _, fun j hj => ?_, h.inj, h.nxt.far (p := ⟨g i, k, none⟩) hc n5 n6 _, h.ahd.far (p := ⟨g i, k, none⟩) hc n5 n6 _, h.apart, h.below.setCell hge _, by simpa using h.sz, h.ty⟩
 by_cases hji : j = i
 · (
 subst hji
 rw [upd_same]
 have := hr.setb k b
 rw [Nat.zero_add] at this
 exact ⟨this, by simpa using hl⟩)
 · (
 rw [upd_other _ _ hji]
 exact ⟨(h.rows j hj).1.far (by simp [Value.ownBlock]; exact fun e => hji (h.inj j i hj hi e)) _, (h.rows j hj).2⟩))
theorem RSt.addN (h : RSt tP tT tF tZ tB tS tI B w pc tc n l nx ax m1 m2 g x W) {v' R : Value} {vals : List Value} {Rr : Option Addr} {c : Nat} (h1 : vals.length = m1) (h2 : Row W B tS nx vals)
 (h3 : ∀ k, k < m1 → ∃ (R : Option Addr) (c : Nat), vals[k]? = some (.slice R (edgesOf true l k).length c) ∧ Row W B tI (.slice R (edgesOf true l k).length c) (ints (edgesOf true l k)))
 (hr : Row W B tI (.slice Rr (edgesOf true l m1).length c) (ints (edgesOf true l m1))) (hg : W.grownBy W' nx.ownBlock) (ha : Row W' B tS v' (vals ++ [.slice Rr (edgesOf true l m1).length c]))
 (hat : v'.ownBlock = nx.ownBlock ∨ ∀ k, v'.ownBlock = some k → W.heap.size ≤ k) : RSt tP tT tF tZ tB tS tI B w pc tc n l v' ax (m1 + 1) m2 g x W' := by (
 obtain ⟨n1, n2, n3, n4, n5, n6, n7, n8, n9, n10, n11⟩ := h.ty
 obtain ⟨va, a1, a2, a3⟩ := h.ahd
 have hap : ax.ownBlock = none ∨ ax.ownBlock ≠ nx.ownBlock := by (
 rcases hq : ax.ownBlock with _ | q
 · exact .inl rfl
 · (
 rcases h.apart with e | e
 · exact .inr (by rw [e]; simp)
 · exact .inr (fun e' => e (by rw [hq]; exact e'.symm))))
 refine ⟨h.p.grown hg (h2.ne_blk h.p (Ne.symm n7)), h.t.grown hg (h2.ne_blk h.t (Ne.symm n8)), h.o.grown hg (h2.ne_blk h.o (Ne.symm n9)), h.s.grown hg (h2.ne_blk h.s (Ne.symm n10)), fun i hi => ⟨(h.rows i hi).1.kept hg ((h.rows i hi).1.ne_row h2 (Ne.symm n5)), (h.rows i hi).2⟩, h.inj,
  RTab.add h1 h2 h3 n11 hr hg ha, h.ahd.grown n11 h2 hg hap, ?_, h.below.grown hg h.sz fun k hk => (h2.lt k hk).1, Nat.le_trans h.sz hg.size, h.ty⟩
 rcases hat with e | e
 · rw [e]; exact h.apart
 · (
 rcases hq : v'.ownBlock with _ | q
 · exact .inl rfl
 · (
 refine .inr fun e' => ?_
 have h1 := e q hq
 have h2 := (a2.lt q e'.symm).2
 omega)))
theorem RSt.addA (h : RSt tP tT tF tZ tB tS tI B w pc tc n l nx ax m1 m2 g x W) {v' R : Value} {vals : List Value} {Rr : Option Addr} {c : Nat} (h1 : vals.length = m2) (h2 : Row W B tS ax vals)
 (h3 : ∀ k, k < m2 → ∃ (R : Option Addr) (c : Nat), vals[k]? = some (.slice R (edgesOf false l k).length c) ∧ Row W B tI (.slice R (edgesOf false l k).length c) (ints (edgesOf false l k)))
 (hr : Row W B tI (.slice Rr (edgesOf false l m2).length c) (ints (edgesOf false l m2))) (hg : W.grownBy W' ax.ownBlock) (ha : Row W' B tS v' (vals ++ [.slice Rr (edgesOf false l m2).length c]))
 (hat : v'.ownBlock = ax.ownBlock ∨ ∀ k, v'.ownBlock = some k → W.heap.size ≤ k) : RSt tP tT tF tZ tB tS tI B w pc tc n l nx v' m1 (m2 + 1) g x W' := by (
 obtain ⟨n1, n2, n3, n4, n5, n6, n7, n8, n9, n10, n11⟩ := h.ty
 obtain ⟨va, a1, a2, a3⟩ := h.nxt
 refine ⟨h.p.grown hg (h2.ne_blk h.p (Ne.symm n7)), h.t.grown hg (h2.ne_blk h.t (Ne.symm n8)), h.o.grown hg (h2.ne_blk h.o (Ne.symm n9)), h.s.grown hg (h2.ne_blk h.s (Ne.symm n10)), fun i hi => ⟨(h.rows i hi).1.kept hg ((h.rows i hi).1.ne_row h2 (Ne.symm n5)), (h.rows i hi).2⟩, h.inj,
  h.nxt.grown n11 h2 hg h.apart, RTab.add h1 h2 h3 n11 hr hg ha, ?_, h.below.grown hg h.sz fun k hk => (h2.lt k hk).1, Nat.le_trans h.sz hg.size, h.ty⟩
 rcases hat with e | e
 · rw [e]; exact h.apart
 · (
 rcases hq : nx.ownBlock with _ | q
 · exact .inl rfl
 · (
 refine .inr fun e' => ?_
 have h1 := e q e'.symm
 have h2 := (a2.lt q hq).2
 omega)))
end
def FxVPost (tB : TypeId) (l : List Nd) (t : Tm) (w : World) (e : Ending) (w' : World) : Prop :=
 Below w.heap.size w w' ∧ ∃ (F : Fx) (v0 v1 v2 v3 v4 v5 : Value), e = .returned (.agg #[v0, v1, v2, v3, v4, v5]) ∧ IsFx t l F ∧ Row w' w.heap.size tB v0 (bools F.down) ∧ Row w' w.heap.size tB v1 (bools F.up) ∧ Row w' w.heap.size tB v2 (bools F.early) ∧ Row w' w.heap.size tB v3 (bools F.delay) ∧ Row w' w.heap.size tB v4 (bools F.late) ∧ Row w' w.heap.size tB v5 (bools F.alone)
end
section
open Go.RowKit
def loopsOf : Code → List Code
 | .loop c => [c]
 | .seq a b => loopsOf a ++ loopsOf b
 | .block _ c => loopsOf c
 | .scope c => loopsOf c
 | .cond _ a b => loopsOf a ++ loopsOf b
 | _ => []
noncomputable def loopAt (c : Option Code) (k : Nat) : Code := ((c.map loopsOf).getD []).getD k .skip
def lets (a : Array Value) (j : Nat) : Value := a.getD j undef
def onlyExit (n : Nat) (R : Act → World → Prop) : Exit → Act → World → Prop
 | .exit m, a, w => m = n ∧ R a w
 | _, _, _ => False
theorem wp_onlyExit {P : Program} {c : Code} {Q : Exit → Act → World → Prop} {a : Act} {w : World} {n : Nat} (R : Act → World → Prop) (h : c.wp P (onlyExit n R) a w) (hq : ∀ a' w', R a' w' → Q (.exit n) a' w') : c.wp P Q a w :=
 Code.wp_mono (fun e a' w' hr => by
  cases e with
  | exit m => obtain ⟨rfl, hr⟩ := hr; exact hq _ _ hr
  | _ => exact hr.elim) h
end
section
open Go.RowKit
theorem take_all {es : List Int} {j : Nat} {m : Int} (h : es[j]? = some m) (q : Int → Bool) : (es.take (j + 1)).all q = ((es.take j).all q && q m) := by (
 rw [List.take_add_one, h, List.all_append]
 simp)
theorem take_any {es : List Int} {j : Nat} {m : Int} (h : es[j]? = some m) (q : Int → Bool) : (es.take (j + 1)).any q = ((es.take j).any q || q m) := by (
 rw [List.take_add_one, h, List.any_append]
 simp)
theorem take_full {es : List Int} {j : Nat} (h : es.length ≤ j) : es.take j = es := List.take_of_length_le h
theorem edge_in {bk : Bool} {l : List Nd} {k j : Nat} (hj : j < (edgesOf bk l k).length) : ∃ (mm : Nat) (n : Nd), (edgesOf bk l k)[j]? = some (mm : Int) ∧ mm < l.length ∧ l[mm]? = some n := by (
 obtain ⟨x, hx⟩ : ∃ x, (edgesOf bk l k)[j]? = some x := ⟨_, List.getElem?_eq_getElem hj⟩
 have hm : x ∈ edgesOf bk l k := List.mem_of_getElem? hx
 unfold edgesOf at hm
 obtain ⟨i, hi, _, rfl⟩ := mem_sel.1 hm
 exact ⟨i, l[i], hx, hi, List.getElem?_eq_getElem hi⟩)
theorem edges_le (bk : Bool) (l : List Nd) (k : Nat) : (edgesOf bk l k).length ≤ l.length := by (
 unfold edgesOf
 exact sel_len _ _)
def upQ (t : Tm) (l : List Nd) (y : List Bool) (k : Nat) (m : Int) : Bool := yn (keepL t l) m.toNat && ((yn y m.toNat || m.toNat == k) || yn (recL t l) m.toNat)
def upA (t : Tm) (l : List Nd) (y : List Bool) (k j : Nat) : Bool := decide (0 < (edgesOf false l k).length) && ((edgesOf false l k).take j).all (upQ t l y k)
theorem upA_zero (t : Tm) (l : List Nd) (y : List Bool) (k : Nat) : upA t l y k 0 = decide (0 < (edgesOf false l k).length) := by simp [upA]
theorem upA_end (t : Tm) (l : List Nd) (y : List Bool) (k j : Nat) (h : (edgesOf false l k).length ≤ j) : upA t l y k j = upV t l y k := by (
 unfold upA upV
 rw [take_full h]
 rfl)
theorem upA_step {t : Tm} {l : List Nd} {y : List Bool} {k j mm : Nat} {n : Nd} (h : (edgesOf false l k)[j]? = some (mm : Int)) (hn : l[mm]? = some n) :
 upA t l y k (j + 1) = (upA t l y k j && (keepB t n && ((yn y mm || mm == k) || recB t n))) := by (
 unfold upA
 rw [take_all h, ← Bool.and_assoc]
 congr 1
 unfold upQ
 rw [Int.toNat_natCast, yn_keep hn, yn_rec hn])
theorem run_read {y : List Bool} {n k mm : Nat} (hl : y.length = n) (hk : k < n) : yn (y.set k true) mm = (yn y mm || mm == k) := by (
 rw [yn_set _ _ _ _ (by rw [hl]; exact hk)]
 by_cases h : mm = k
 · simp [h]
 · simp [h])
def earlyQ (t : Tm) (l : List Nd) (d u : List Bool) (m : Int) : Bool := !yn (keepL t l) m.toNat || !yn d m.toNat && !yn u m.toNat
def earlyA (t : Tm) (l : List Nd) (d u : List Bool) (k j : Nat) : Bool := decide ((edgesOf false l k).length = 0) || ((edgesOf false l k).take j).any (earlyQ t l d u)
theorem earlyA_zero (t : Tm) (l : List Nd) (d u : List Bool) (k : Nat) : earlyA t l d u k 0 = decide ((edgesOf false l k).length = 0) := by simp [earlyA]
theorem earlyA_end (t : Tm) (l : List Nd) (d u : List Bool) (k j : Nat) (h : (edgesOf false l k).length ≤ j) (hk : k < l.length) : yn (earlyL t l d u) k = (yn d k && earlyA t l d u k j) := by (
 unfold earlyA earlyL
 rw [take_full h, yn_mk hk]
 congr 1)
theorem earlyA_step {t : Tm} {l : List Nd} {d u : List Bool} {k j mm : Nat} {n : Nd} (h : (edgesOf false l k)[j]? = some (mm : Int)) (hn : l[mm]? = some n) :
 earlyA t l d u k (j + 1) = (earlyA t l d u k j || (!keepB t n || !yn d mm && !yn u mm)) := by (
 unfold earlyA
 rw [take_any h, ← Bool.or_assoc]
 congr 1
 unfold earlyQ
 rw [Int.toNat_natCast, yn_keep hn])
def delayQ (t : Tm) (l : List Nd) (x : List Bool) (m : Int) : Bool := yn x m.toNat && !yn (recL t l) m.toNat
def delayA (t : Tm) (l : List Nd) (x : List Bool) (k j : Nat) : Bool := decide (0 < (edgesOf false l k).length) && ((edgesOf false l k).take j).all (delayQ t l x)
theorem delayA_zero (t : Tm) (l : List Nd) (x : List Bool) (k : Nat) : delayA t l x k 0 = decide (0 < (edgesOf false l k).length) := by simp [delayA]
theorem delayA_end (t : Tm) (l : List Nd) (e x : List Bool) (k j : Nat) (h : (edgesOf false l k).length ≤ j) : delayV t l e x k = (yn e k || delayA t l x k j) := by (
 unfold delayA delayV
 rw [take_full h]
 rfl)
theorem delayA_step {t : Tm} {l : List Nd} {x : List Bool} {k j mm : Nat} {n : Nd} (h : (edgesOf false l k)[j]? = some (mm : Int)) (hn : l[mm]? = some n) :
 delayA t l x k (j + 1) = (delayA t l x k j && (yn x mm && !recB t n)) := by (
 unfold delayA
 rw [take_all h, ← Bool.and_assoc]
 congr 1
 unfold delayQ
 rw [Int.toNat_natCast, yn_rec hn])
def lateA (l : List Nd) (y : List Bool) (k j : Nat) : Bool := ((edgesOf true l k).take j).any fun m => !yn y m.toNat
theorem lateA_zero (l : List Nd) (y : List Bool) (k : Nat) : lateA l y k 0 = false := by simp [lateA]
theorem lateA_end {t : Tm} {l : List Nd} {y : List Bool} {k j : Nat} {n : Nd} (h : (edgesOf true l k).length ≤ j) (hk : k < l.length) (hn : l[k]? = some n) : yn (lateL t l y) k = (yn y k && (recB t n || lateA l y k j)) := by (
 unfold lateA lateL
 rw [take_full h, yn_mk hk, yn_rec hn])
theorem lateA_step {l : List Nd} {y : List Bool} {k j mm : Nat} (h : (edgesOf true l k)[j]? = some (mm : Int)) : lateA l y k (j + 1) = (lateA l y k j || !yn y mm) := by (
 unfold lateA
 rw [take_any h, Int.toNat_natCast])
def aloneQ (t : Tm) (l : List Nd) (f y : List Bool) (k : Nat) (m : Int) : Bool := yn f m.toNat || !yn (recL t l) m.toNat && (yn y m.toNat || m.toNat == k)
def aloneA (t : Tm) (l : List Nd) (f y : List Bool) (k j : Nat) : Bool := ((edgesOf true l k).take j).all (aloneQ t l f y k)
theorem aloneA_zero (t : Tm) (l : List Nd) (f y : List Bool) (k : Nat) : aloneA t l f y k 0 = true := by simp [aloneA]
theorem aloneA_end (t : Tm) (l : List Nd) (f y : List Bool) (k j : Nat) (h : (edgesOf true l k).length ≤ j) : aloneA t l f y k j = aloneV t l f y k := by (
 unfold aloneA aloneV
 rw [take_full h]
 rfl)
theorem aloneA_step {t : Tm} {l : List Nd} {f y : List Bool} {k j mm : Nat} {n : Nd} (h : (edgesOf true l k)[j]? = some (mm : Int)) (hn : l[mm]? = some n) :
 aloneA t l f y k (j + 1) = (aloneA t l f y k j && (yn f mm || !recB t n && (yn y mm || mm == k))) := by (
 unfold aloneA
 rw [take_all h]
 congr 1
 unfold aloneQ
 rw [Int.toNat_natCast, yn_rec hn])
theorem sweep_exists {S : List Bool → Nat → Bool} {n : Nat} (hm : Mono S) : ∀ c k, k ≤ n → ∃ x, Sweep S n c k x := by (
 intro c
 induction c with
 | zero =>
  intro k
  induction k with
  | zero => exact fun _ => ⟨List.replicate n true, Sweep.start (by simp) fun i hi => by simp [yn, List.getD_eq_getElem?_getD, List.getElem?_replicate, hi]⟩
  | succ k ih => exact fun hk => (ih (by omega)).elim fun x hx => ⟨_, hx.step hm (by omega) rfl⟩
 | succ c ihc =>
  intro k
  induction k with
  | zero => exact fun _ => (ihc n (Nat.le_refl _)).elim fun x hx => ⟨x, hx.turn⟩
  | succ k ih => exact fun hk => (ih (by omega)).elim fun x hx => ⟨_, hx.step hm (by omega) rfl⟩)
theorem great_exists {S : List Bool → Nat → Bool} {n : Nat} (hm : Mono S) : ∃ y, Great S n y := (sweep_exists hm (n + 1) 0 (Nat.zero_le _)).elim fun x hx => ⟨x, hx.great hm (by omega)⟩
theorem Great.unself {S : List Bool → Nat → Bool} {n : Nat} (hm : Mono S) {y : List Bool} (h : Great (selfT S n) n y) : Great S n y := by (
 obtain ⟨x, hx⟩ := great_exists (n := n) hm
 rw [h.unique (hx.self hm)]
 exact hx)
theorem Row.int_at_ {w : World} {B : Nat} {e : TypeId} {R : Option Addr} {n c : Nat} {es : List Int} (h : Row w B e (.slice R n c) (ints es)) {j : Nat} {m : Int} (hj : es[j]? = some m) :
 ∃ g o, R = some ⟨g, o, none⟩ ∧ g < w.heap.size ∧ w.cell? ⟨g, o + j, none⟩ = some (.int .i64 m) := by (
 obtain ⟨g, o, v, e1, h1, h2, h3⟩ := h.vals.get (k := j) (by rw [ints_length]; exact (List.getElem?_eq_some_iff.1 hj).1)
 rw [ints_get, hj] at h2
 refine ⟨g, o, e1, h1, ?_⟩
 rw [h3, ← Option.some.inj h2])
theorem upd_upd {α : Type} (f : Nat → α) (i : Nat) (x y : α) : upd (upd f i x) i y = upd f i y := funext fun j => by (
 by_cases h : j = i
 · rw [h, upd_same, upd_same]
 · rw [upd_other _ _ h, upd_other _ _ h, upd_other _ _ h])
theorem upd_self {α : Type} (f : Nat → α) (i : Nat) : upd f i (f i) = f := funext fun j => by (
 by_cases h : j = i
 · rw [h, upd_same]
 · rw [upd_other _ _ h])
theorem Row.cell_at {w : World} {B g o : Nat} {e : TypeId} {n c : Nat} {es : List Int} (h : Row w B e (.slice (some ⟨g, o, none⟩) n c) (ints es)) {j : Nat} {m : Int} (hj : es[j]? = some m) :
 w.cell? ⟨g, o + j, none⟩ = some (.int .i64 m) := by (
 obtain ⟨g', o', e1, _, h2⟩ := h.int_at_ hj
 injection e1 with e1
 injection e1 with ea eb _
 subst ea eb
 exact h2)
end
section
open Go.RowKit
set_option maxHeartbeats 4000000
def smallL : List Nd := [⟨9, 0, 0, 0, 1, 0⟩, ⟨9, 1, 0, 0, 2, 0⟩, ⟨11, 0, 0, 0, 3, 5⟩, ⟨3, 2, 0, 1, 4, 0⟩, ⟨10, 0, 2, 0, 5, 0⟩, ⟨3, 2, 0, 1, 6, 0⟩, ⟨12, 0, 2, 0, 0, 0⟩]
theorem small_row (w : World) : Calls Tryz.prog 38 #[] w fun e w' => ∃ g, e = .returned (.agg #[.int .i64 3, .slice (some ⟨g, 0, none⟩) 7 7]) ∧ NRow w' w.heap.size 57 (.slice (some ⟨g, 0, none⟩) 7 7) smallL ∧ Below w.heap.size w w' := by (
 go_enter Tryz.func38, Tryz.ntmps38
 go_wp2
 refine bodyPost_ret (v := .agg #[.int .i64 3, .slice (some ⟨w.heap.size + 1, 0, none⟩) 7 7]) (by simp [results, Tryz.results38, go_sem]) rfl ⟨_, rfl, ?_, (by (with_reducible repeat first | apply Qa | assumption | apply Qb | apply Qc | apply Qd | apply Qe | refine Qf ?_ (by assumption) ?_); all_goals (try simp only [Sz]); first | done | omega | (try simp only [Sz] at *); omega)⟩
 refine NRow.close (l := smallL) (cur := (ncells smallL).toArray) (g := w.heap.size + 1) (cap := 7) (by omega) ?_ (by simp [smallL]) (by simp [maxLen]) (by simp [ncells_len, smallL]) (fun k _ => by simp)
 have h := Blk.new' (w := w.alloc (.cells #[.int .i64 3, .slice (some ⟨w.heap.size + 1, 0, none⟩) 7 7] 24)) (g := w.heap.size + 1) (t := 57) (cs := (ncells smallL).toArray) (by simp)
 unfold Blk at h
 exact h)
theorem small_any (w : World) : Calls Tryz.prog 38 #[] w fun e w' => ∃ g, e = .returned (.agg #[.int .i64 3, .slice (some ⟨g, 0, none⟩) 7 7]) ∧ NodesAt w' (some ⟨g, 0, none⟩) smallL ∧ Below w.heap.size w w' :=
 (small_row w).mono fun _ _ ⟨g, h1, h2, h3⟩ => ⟨g, h1, h2.nodes, h3⟩
end
section
open Go.RowKit
def turnL (S : List Bool → Nat → Bool) : Nat → List Bool → List Bool
 | 0, x => x
 | k + 1, x => let y := turnL S k x; y.set k (S y k)
def turnsL (S : List Bool → Nat → Bool) (n : Nat) : Nat → List Bool → List Bool
 | 0, x => x
 | c + 1, x => turnL S n (turnsL S n c x)
theorem turnOk {S : List Bool → Nat → Bool} {n c : Nat} (hm : Mono S) {x : List Bool} (h : Sweep S n c 0 x) : ∀ k, k ≤ n → Sweep S n c k (turnL S k x)
 | 0, _ => h
 | k + 1, hk => (turnOk hm h k (by omega)).step hm (by omega) rfl
theorem turnsOk {S : List Bool → Nat → Bool} {n : Nat} (hm : Mono S) : ∀ c, Sweep S n c 0 (turnsL S n c (List.replicate n true))
 | 0 => by (
 unfold turnsL
 exact Sweep.start (by simp) fun i hi => by simp [yn, List.getD_eq_getElem?_getD, List.getElem?_replicate, hi])
 | c + 1 => (turnOk hm (turnsOk hm c) n (Nat.le_refl _)).turn
theorem great_turns {S : List Bool → Nat → Bool} {n : Nat} (hm : Mono S) : Great S n (turnsL S n (n + 1) (List.replicate n true)) := (turnsOk hm (n + 1)).great hm (by omega)
def sumT : Tm := ⟨3, 0, 1⟩
def fxOf (t : Tm) (l : List Nd) : Fx :=
 let d := turnsL (flowS true false (recL t l) (keepL t l) (noL l.length) (notL (noL l.length)) l) l.length (l.length + 1) (List.replicate l.length true)
 let u := turnsL (flowS false false (noL l.length) (notL (noL l.length)) (mk l.length fun k => yn (keepL t l) k && yn (recL t l) k) (keepL t l) l) l.length (l.length + 1) (List.replicate l.length true)
 let e := earlyL t l d u
 let y := turnsL (flowS false false e (notL (noL l.length)) (noL l.length) (notL (recL t l)) l) l.length (l.length + 1) (List.replicate l.length true)
 let f := lateL t l y
 ⟨d, u, e, y, f, turnsL (flowS true true (noL l.length) (notL (noL l.length)) f (notL (recL t l)) l) l.length (l.length + 1) (List.replicate l.length true)⟩
theorem fxOf_is (t : Tm) (l : List Nd) : IsFx t l (fxOf t l) :=
 ⟨great_turns (flowS_mono _ _ _ _ _ _ _), great_turns (flowS_mono _ _ _ _ _ _ _), rfl, great_turns (flowS_mono _ _ _ _ _ _ _), rfl, great_turns (flowS_mono _ _ _ _ _ _ _)⟩
theorem fx_small (F : Fx) (h : IsFx sumT smallL F) : F.down = [false, false, true, true, true, true, false] ∧ F.early = [false, false, true, false, false, false, false] ∧ F.delay.length = 7 ∧ yn F.delay 3 = true ∧ yn F.delay 4 = false := by (
 have e : F = fxOf sumT smallL := h.unique (fxOf_is _ _)
 subst e
 decide +kernel)
end
section
open Go.RowKit
theorem goR_add (l : List Nd) (inp : List Int) : ∀ (k m : Nat) (s : Rn), goR l inp (k + m) s = goR l inp m (goR l inp k s)
 | 0, m, s => by rw [Nat.zero_add]; rfl
 | k + 1, m, s => by (
 rw [show k + 1 + m = (k + m) + 1 by omega]
 by_cases h : s.ended = true
 · rw [goR_ended h, goR_ended h, goR_ended h]
 · (
 have h : s.ended = false := by simpa using h
 rw [goR_step h, goR_step h]
 exact goR_add l inp k m _))
def chV (c n : Int) : Int := (if c < 0 then -(c + 1) else c) % n
theorem Right.chk {regs : Int} {l : List Nd} (h : Right regs l) : chk regs l = 0 := by (
 obtain ⟨h1, h2, h3, h4, h5, h6, h7⟩ := h
 unfold Go.Proofs.YtmghkonmfbpjcabGreat.chk
 rw [if_neg (by omega), if_neg, if_neg, if_neg]
 · (
 simp only [List.any_eq_true, not_exists, not_and]
 intro n hn; rw [h7 n hn]; simp)
 · (
 simp only [List.any_eq_true, not_exists, not_and]
 intro n hn; rw [h6 n hn]; simp)
 · (
 simp only [List.any_eq_true, not_exists, not_and]
 intro n hn; rw [h5 n hn]; simp))
end
section
open Go.RowKit
structure Sim (l m : List Nd) (inp : List Int) (K : Nat) (Rel : Rn → Rn → Prop) : Prop where
 one : 1 ≤ K
 same : ∀ {s t}, Rel s t → s.out = t.out ∧ s.ret = t.ret ∧ s.ended = t.ended
 step : ∀ {s t}, Rel s t → s.ended = false → ∃ k, 1 ≤ k ∧ k ≤ K ∧ Rel (stepR l inp s) (goR m inp k t)
theorem Sim.run {l m : List Nd} {inp : List Int} {K : Nat} {Rel : Rn → Rn → Prop} (h : Sim l m inp K Rel) : ∀ (n : Nat) {s t : Rn}, Rel s t → ∃ k, n ≤ k ∧ k ≤ K * n ∧ Rel (goR l inp n s) (goR m inp k t)
 | 0, s, t, hr => ⟨0, Nat.le_refl _, by simp, hr⟩
 | n + 1, s, t, hr => by (
 by_cases he : s.ended = true
 · (
 refine ⟨n + 1, Nat.le_refl _, Nat.le_mul_of_pos_left _ h.one, ?_⟩
 rw [goR_ended he, goR_ended (by rw [← (h.same hr).2.2]; exact he)]
 exact hr)
 · (
 have he : s.ended = false := by simpa using he
 obtain ⟨k, h1, h2, h3⟩ := h.step hr he
 obtain ⟨j, h4, h5, h6⟩ := h.run n h3
 refine ⟨k + j, by omega, ?_, ?_⟩
 · rw [Nat.mul_succ]; omega
 · rw [goR_step he, goR_add]; exact h6))
end
end Go.Proofs.YtmghkonmfbpjcabGreat
