/- MvC MvP MvH MvK MvQ MvR Ms3 MvD SimP. -/
import Derived.Test.YtmghkonmfbpjcaaGreatDoorMvB
import Derived.Test.YtmghkonmfbpjcaaGreatDoorFactO
import Derived.Test.YtmghkonmfbpjcaaGreatDoorGA
import Derived.Test.YtmghkonmfbpjcaaGreatDoorGB
import Derived.Test.YtmghkonmfbpjcaaGreatDoorGD
import Derived.Deep.DeepCutAuto
import Derived.Deep.RegionHeld3
import Derived.Test.YtmghkonmfbpjcaaGreatDoorGC
set_option linter.unusedVariables false
set_option linter.unusedSimpArgs false
namespace Go.Proofs.YtmghkonmfbpjcaaGreatDoor
section
open Go.RowKit
set_option maxHeartbeats 8000000
attribute [local irreducible] Row madeCells
def lazyX (l : List Nd) (F : Fx) : List Bool := mk l.length fun k => yn F.late k && !yn F.alone k
def lazyY (t : Tm) (l : List Nd) (F : Fx) : List Bool := mk l.length fun k => rkB t (nd l k) && (!yn F.late k || !yn F.alone k)
def busyX (l : List Nd) (F : Fx) : List Bool := mk l.length fun k => yn F.early k
def busyY (t : Tm) (l : List Nd) : List Bool := mk l.length fun k => rkB t (nd l k) && true
def MvPost (tB : TypeId) (regs : Int) (l : List Nd) (t : Tm) (x y : Fx → List Bool) (w : World) (e : Ending) (w' : World) : Prop :=
 Below w.heap.size w w' ∧ ((fxE regs l t ≠ 0 ∧ e = .returned (.tuple #[.agg #[.slice none 0 0, .slice none 0 0], .int .i64 (fxE regs l t)])) ∨
  (fxE regs l t = 0 ∧ ∃ F v1 v2, IsFx t l F ∧ e = .returned (.tuple #[.agg #[v1, v2], .int .i64 0]) ∧ Row w' w.heap.size tB v1 (bools (x F)) ∧ Row w' w.heap.size tB v2 (bools (y F)) ∧ (v1.ownBlock = none ∨ v1.ownBlock ≠ v2.ownBlock)))
theorem fxE_hi {regs : Int} {l : List Nd} {t : Tm} (h : fxE regs l t = 0) : l.length ≤ 256 := by (
 by_cases hc : chk regs l = 0
 · exact (right_of_chk hc).hi
 · (
 unfold fxE at h
 rw [if_pos hc] at h
 exact absurd h hc))
theorem enter_Lazy1 (W : World) (args : Array Value) : (callFunc 89 args).run Tryz.prog W = .ok (.enter 89 args) W := by (
 have h := Tryz.func89
 simp [callFunc, go_sem, h]; try rfl)
theorem enter_Lazy2 (W : World) (args : Array Value) : (callFunc 90 args).run Tryz.prog W = .ok (.enter 90 args) W := by (
 have h := Tryz.func90
 simp [callFunc, go_sem, h]; try rfl)
set_option maxRecDepth 100000 in
theorem Lazy_any (regs : Int) (A : Option Addr) (l : List Nd) (cap : Nat) (t : Tm) (w : World) (hl : l.length ≤ maxLen) (hA : NodesAt w A l) :
 Calls Tryz.prog 35 #[.agg #[.int .i64 regs, .slice A l.length cap], .agg #[.int .i64 t.op, .int .i64 t.a, .int .i64 t.b]] w (MvPost 4 regs l t (lazyX l) (lazyY t l) w) := by (
 have HX := hide (fun W (hW : Below w.heap.size w W) => Facts_any regs A l cap t W hl (hA.below hW))
 have HN := hide (fun W (hW : Below w.heap.size w W) => hA.below hW)
 clear hA
 by_cases h0 : fxE regs l t = 0
 · (
 have H0 := hide h0
 clear h0
 go_enter Tryz.func35, Tryz.ntmps35
 go_wp2_with fail
 refine (HX.out _ (by (with_reducible repeat first | apply Qa | assumption | apply Qb | apply Qc | apply Qd | apply Qe | refine Qf ?_ (by assumption) ?_); all_goals (try simp only [Sz]); first | done | omega | (try simp only [Sz] at *); omega)).mono ?_
 rintro e w1 ⟨hb1, h⟩
 obtain ⟨-, F, v0, v1, v2, v3, v4, v5, rfl, hF, r0, r1, r2, r3, r4, r5⟩ := h.resolve_left (fun h => h.1 H0.out)
 clear h
 obtain ⟨L0, L1, L2, L3, L4, L5⟩ := hF.len
 obtain ⟨A0, c0, e0, _, _⟩ := r0.shape
 rw [bools_length, L0] at e0
 subst e0
 obtain ⟨A1, c1, e1, _, _⟩ := r1.shape
 rw [bools_length, L1] at e1
 subst e1
 obtain ⟨A2, c2, e2, _, _⟩ := r2.shape
 rw [bools_length, L2] at e2
 subst e2
 obtain ⟨A3, c3, e3, _, _⟩ := r3.shape
 rw [bools_length, L3] at e3
 subst e3
 obtain ⟨A4, c4, e4, _, _⟩ := r4.shape
 rw [bools_length, L4] at e4
 subst e4
 obtain ⟨A5, c5, e5, _, _⟩ := r5.shape
 rw [bools_length, L5] at e5
 subst e5
 have hz1 := hb1.size
 simp only [World.size_alloc] at hz1
 have hB1 : Below w.heap.size w w1 := (by (with_reducible repeat first | apply Qa | assumption | apply Qb | apply Qc | apply Qd | apply Qe | refine Qf ?_ (by assumption) ?_); all_goals (try simp only [Sz]); first | done | omega | (try simp only [Sz] at *); omega)
 have hP1 : Blk w1 w.heap.size 24 #[.int .i64 regs, .slice A l.length cap] := Blk.below (by repeat (first | ((with_reducible refine Blk.new' ?_); exact (by (try simp only [Sz]); first | done | omega | (try simp only [Sz] at *); omega)) | (with_reducible refine Blk.alloc ?_ _))) hb1 (by simp <;> omega)
 have hT1 : Blk w1 (w.heap.size + 1) 41 (tmA t) := Blk.below (by unfold tmA; repeat (first | ((with_reducible refine Blk.new' ?_); exact (by (try simp only [Sz]); first | done | omega | (try simp only [Sz] at *); omega)) | (with_reducible refine Blk.alloc ?_ _))) hb1 (by simp <;> omega)
 have hO1 : Blk w1 (w.heap.size + 1 + 1) 76 #[.slice none 0 0, .slice none 0 0] := Blk.below (by repeat (first | ((with_reducible refine Blk.new' ?_); exact (by (try simp only [Sz]); first | done | omega | (try simp only [Sz] at *); omega)) | (with_reducible refine Blk.alloc ?_ _))) hb1 (by simp <;> omega)
 clear hb1
 have hn64 : l.length ≤ 65536 := by have := fxE_hi H0.out; omega
 go_upto_region 2 with fail
 obtain ⟨W1, hW1⟩ : ∃ W1 : World, W1 = w1.alloc (.cells #[.slice A0 l.length c0, .slice A1 l.length c1, .slice A2 l.length c2, .slice A3 l.length c3, .slice A4 l.length c4, .slice A5 l.length c5] 72) := ⟨_, rfl⟩
 have hBW : Below w1.heap.size w1 W1 := by rw [hW1]; exact (Below.refl _ _).alloc (Nat.le_refl _) _
 have hbx : Blk W1 w1.heap.size 72 #[.slice A0 l.length c0, .slice A1 l.length c1, .slice A2 l.length c2, .slice A3 l.length c3, .slice A4 l.length c4, .slice A5 l.length c5] := by rw [hW1]; exact Blk.new' rfl
 rw [← hW1]
 obtain ⟨fb, hfb⟩ : ∃ b, b = w1.heap.size := ⟨_, rfl⟩
 rw [← hfb] at hbx ⊢
 have hFx : FxBox 72 fb l.length A0 A1 A2 A3 A4 A5 c0 c1 c2 c3 c4 c5 F W1 := ⟨hbx, ⟨(r0.below' hBW).vals, L0⟩, ⟨(r2.below' hBW).vals, L2⟩, ⟨(r4.below' hBW).vals, L4⟩, ⟨(r5.below' hBW).vals, L5⟩⟩
 have hB2 := hB1.trans (hBW.mono (by omega))
 have hP2 := hP1.below hBW hP1.lt
 have hT2 := hT1.below hBW hT1.lt
 have hO2 := hO1.below hBW hO1.lt
 have p0 := hP2.cell 0
 have p1 := hP2.cell 1
 have t0 := hT2.cell 0
 have t1 := hT2.cell 1
 have t2 := hT2.cell 2
 simp only [tmA, Yl] at p0 p1 t0 t1 t2
 have lp := hP2.lt
 have lt_ := hT2.lt
 have lO := hO2.lt
 have hz2 := hB2.size
 have HPl := hide (places_any 89 90 #[.pointer (some ⟨fb, 0, none⟩)] #[.pointer (some ⟨fb, 0, none⟩)] (fun k => yn F.late k && !yn F.alone k) (fun k => !yn F.late k || !yn F.alone k) regs A l cap t W1 (HN.out _ hB2) hn64 enter_Lazy1 enter_Lazy2 (fun k hk => lazy1_says hFx hk) (fun k hk => lazy2_says hFx hk))
 have HF := hide hF
 have HO2 := hide hO2
 have HB2 := hide hB2
 clear r0 r1 r2 r3 r4 r5 hF hFx hbx hW1 hBW hP1 hT1 hO1 hB1 hO2 hB2 hfb L0 L1 L2 L3 L4 L5
 unfold tmA at HPl
 go_wp2_with fail
 refine (HPl.out).mono ?_
 rintro e w3 ⟨x1, x2, rfl, q1, q2, qne, hb3⟩
 have hO3 := HO2.out.below hb3 HO2.out.lt
 have hz3 := hb3.size
 obtain ⟨D1, d1, e1, _, _⟩ := q1.shape
 obtain ⟨D2, d2, e2, _, _⟩ := q2.shape
 rw [bools_length, mk_len] at e1 e2
 subst e1 e2
 have o0 := hO3.cell 0
 have o1 := hO3.cell 1
 have f0 := hO3.frozen 0
 have f1 := hO3.frozen 1
 simp only [Yl] at o0 o1
 have lO3 := hO3.lt
 have hB3 := HB2.out.trans (hb3.mono hz2)
 have hne1 := q1.ne_blk hO3 (by decide)
 have hne2 := q2.ne_blk hO3 (by decide)
 have Q1 := hide ((q1.far (p := ⟨w.heap.size + 1 + 1, 0, none⟩) hne1 (.slice D1 l.length d1)).far (p := ⟨w.heap.size + 1 + 1, 1, none⟩) hne1 (.slice D2 l.length d2))
 have Q2 := hide ((q2.far (p := ⟨w.heap.size + 1 + 1, 0, none⟩) hne2 (.slice D1 l.length d1)).far (p := ⟨w.heap.size + 1 + 1, 1, none⟩) hne2 (.slice D2 l.length d2))
 have Qne := hide qne
 have HB3 := hide hB3
 clear q1 q2 qne hb3 hB3 HPl hne1 hne2 p0 p1 t0 t1 t2 hP2 hT2 hO3
 go_wp2_with fail
 go_tidy
 refine bodyPost_ret (v := .tuple #[.agg #[.slice D1 l.length d1, .slice D2 l.length d2], .int .i64 0]) (by simp [results, Tryz.results35, go_sem, o0, o1, f0, f1, World.cell?_setCell_same, World.cell?_setCell_other]; try rfl) rfl ?_
 exact ⟨(HB3.out.setCell (by simp <;> omega) _).setCell (by simp <;> omega) _, .inr ⟨H0.out, F, _, _, HF.out, rfl, Q1.out.mono (by omega), Q2.out.mono (by omega), Qne.out⟩⟩)
 · (
 have h0' : (fxE regs l t != 0) = true := by simp [h0]
 have H0 := hide h0
 clear h0
 go_enter Tryz.func35, Tryz.ntmps35
 go_wp2_with fail
 refine (HX.out _ (by (with_reducible repeat first | apply Qa | assumption | apply Qb | apply Qc | apply Qd | apply Qe | refine Qf ?_ (by assumption) ?_); all_goals (try simp only [Sz]); first | done | omega | (try simp only [Sz] at *); omega)).mono ?_
 rintro e w1 ⟨hb1, h⟩
 obtain ⟨-, rfl⟩ := h.resolve_right (fun h => H0.out h.1)
 clear h
 have hz1 := hb1.size
 simp only [World.size_alloc] at hz1
 have hB1 : Below w.heap.size w w1 := (by (with_reducible repeat first | apply Qa | assumption | apply Qb | apply Qc | apply Qd | apply Qe | refine Qf ?_ (by assumption) ?_); all_goals (try simp only [Sz]); first | done | omega | (try simp only [Sz] at *); omega)
 have hO1 : Blk w1 (w.heap.size + 1 + 1) 76 #[.slice none 0 0, .slice none 0 0] := Blk.below (by repeat (first | ((with_reducible refine Blk.new' ?_); exact (by (try simp only [Sz]); first | done | omega | (try simp only [Sz] at *); omega)) | (with_reducible refine Blk.alloc ?_ _))) hb1 (by simp <;> omega)
 clear hb1
 unfold nil6
 go_upto_region 2 with fail
 obtain ⟨W1, hW1⟩ : ∃ W1 : World, W1 = w1.alloc (.cells #[.slice none 0 0, .slice none 0 0, .slice none 0 0, .slice none 0 0, .slice none 0 0, .slice none 0 0] 72) := ⟨_, rfl⟩
 have hB2 : Below w.heap.size w W1 := by rw [hW1]; exact hB1.alloc (by omega) _
 have hO1 : Blk W1 (w.heap.size + 1 + 1) 76 #[.slice none 0 0, .slice none 0 0] := by rw [hW1]; exact hO1.alloc _
 rw [← hW1]
 clear hW1 hB1
 have o0 := hO1.cell 0
 have o1 := hO1.cell 1
 have f0 := hO1.frozen 0
 have f1 := hO1.frozen 1
 simp only [Yl] at o0 o1
 have lO := hO1.lt
 go_wp2_with fail
 go_tidy
 refine bodyPost_ret (v := .tuple #[.agg #[.slice none 0 0, .slice none 0 0], .int .i64 (fxE regs l t)]) (by simp [results, Tryz.results35, go_sem, o0, o1, f0, f1, World.cell?_setCell_same, World.cell?_setCell_other]; try rfl) rfl ?_
 exact ⟨(hB2.setCell (by simp <;> omega) _).setCell (by simp <;> omega) _, .inl ⟨H0.out, rfl⟩⟩))
end
section
open Go.RowKit
def takeN (h : Int) (tk : List Bool) (l : List Nd) (k : Nat) : Nd := if yn tk k = true then ⟨2, (nd l k).d, h, 0, (nd l k).t, 0⟩ else nd l k
def takeTo (h : Int) (tk : List Bool) (l : List Nd) (k : Nat) : List Nd := (List.range l.length).map fun i => if i < k then takeN h tk l i else nd l i
def takeL (h : Int) (tk : List Bool) (l : List Nd) : List Nd := (List.range l.length).map (takeN h tk l)
def putN (h : Int) (t : Tm) (m : Nat) : Nd := ⟨t.op, h, t.a, t.b, (m : Int), 0⟩
def putStep (h : Int) (t : Tm) (out : List Nd) (k : Nat) : List Nd := (out ++ [nd out k]).set k (putN h t out.length)
def putTo (h : Int) (t : Tm) (pt : List Bool) (out : List Nd) : Nat → List Nd
 | 0 => out
 | k + 1 => if yn pt k = true then putStep h t (putTo h t pt out k) k else putTo h t pt out k
def applyL (h : Int) (t : Tm) (pt tk : List Bool) (l : List Nd) : List Nd := putTo h t pt (takeL h tk l) l.length
theorem takeTo_zero (h : Int) (tk : List Bool) (l : List Nd) : takeTo h tk l 0 = l := by (
 refine List.ext_getElem? fun i => ?_
 by_cases hi : i < l.length
 · simp [takeTo, hi, nd, List.getD_eq_getElem?_getD]
 · rw [List.getElem?_eq_none (by simp [takeTo]; omega), List.getElem?_eq_none (by omega)])
theorem takeTo_all (h : Int) (tk : List Bool) (l : List Nd) : takeTo h tk l l.length = takeL h tk l := by (
 unfold takeTo takeL
 apply List.map_congr_left
 intro i hi
 rw [if_pos (List.mem_range.1 hi)])
theorem takeTo_len (h : Int) (tk : List Bool) (l : List Nd) (k : Nat) : (takeTo h tk l k).length = l.length := by simp [takeTo]
theorem takeTo_get (h : Int) (tk : List Bool) (l : List Nd) (k : Nat) {i : Nat} (hi : i < l.length) : (takeTo h tk l k)[i]? = some (if i < k then takeN h tk l i else nd l i) := by simp [takeTo, hi]
theorem takeTo_succ {h : Int} {tk : List Bool} {l : List Nd} {k : Nat} (hk : k < l.length) : takeTo h tk l (k + 1) = (takeTo h tk l k).set k (takeN h tk l k) := by (
 refine List.ext_getElem? fun i => ?_
 by_cases hi : i < l.length
 · (
 rw [takeTo_get _ _ _ _ hi, List.getElem?_set, takeTo_len, takeTo_get _ _ _ _ hi]
 by_cases e : k = i
 · subst e; simp [hk]
 · (
 rw [if_neg e]
 by_cases h2 : i < k
 · rw [if_pos h2, if_pos (by omega)]
 · rw [if_neg h2, if_neg (by omega)]))
 · rw [List.getElem?_eq_none (by rw [takeTo_len]; omega), List.getElem?_eq_none (by rw [List.length_set, takeTo_len]; omega)])
theorem takeTo_same {h : Int} {tk : List Bool} {l : List Nd} {k : Nat} (hk : yn tk k = false) : takeTo h tk l (k + 1) = takeTo h tk l k := by (
 unfold takeTo
 apply List.map_congr_left
 intro i hi
 by_cases e : i = k
 · (
 subst e
 rw [if_pos (by omega), if_neg (by omega), takeN, if_neg (by rw [hk]; simp)])
 · (
 by_cases h2 : i < k
 · rw [if_pos h2, if_pos (by omega)]
 · rw [if_neg h2, if_neg (by omega)]))
theorem putTo_eq (h : Int) (t : Tm) (pt : List Bool) (out : List Nd) : ∀ k, k ≤ out.length →
 putTo h t pt out k = ((List.range out.length).map fun i => if i < k ∧ yn pt i = true then putN h t (out.length + rk pt i) else nd out i) ++ ((List.range k).filter fun i => yn pt i).map (nd out)
| 0, _ => by (
 rw [putTo]
 refine List.ext_getElem? fun i => ?_
 by_cases hi : i < out.length
 · simp [hi, nd, List.getD_eq_getElem?_getD]
 · rw [List.getElem?_eq_none (by omega), List.getElem?_eq_none (by simp; omega)])
| k + 1, hk => by (
 have ih := putTo_eq h t pt out k (by omega)
 have hlen : (((List.range k).filter fun i => yn pt i).map (nd out)).length = rk pt k := by (
 rw [List.length_map]
 clear ih hk
 induction k with
 | zero => rfl
 | succ k ih => rw [List.range_succ, List.filter_append, List.length_append, ih, rk]; by_cases e : yn pt k = true <;> simp [e])
 by_cases hy : yn pt k = true
 · (
 rw [putTo, if_pos hy, putStep, ih]
 have hnd : nd ((List.range out.length).map (fun i => if i < k ∧ yn pt i = true then putN h t (out.length + rk pt i) else nd out i) ++ ((List.range k).filter fun i => yn pt i).map (nd out)) k = nd out k := by (
 refine nd_get ?_
 rw [List.getElem?_append_left (by simp; omega)]
 have : k < out.length := by omega
 simp [this])
 rw [hnd, List.length_append, hlen, List.length_map, List.length_range, List.append_assoc, List.set_append_left _ _ (by simp; omega)]
 congr 1
 · (
 refine List.ext_getElem? fun i => ?_
 rw [List.getElem?_set]
 by_cases hi : i < out.length
 · (
 by_cases e : k = i
 · subst e; simp [hi, hy]
 · (
 rw [if_neg e]
 simp only [List.getElem?_map, List.getElem?_range hi, Option.map_some]
 by_cases h2 : i < k ∧ yn pt i = true
 · rw [if_pos h2, if_pos ⟨by omega, h2.2⟩]
 · rw [if_neg h2, if_neg (fun h3 => h2 ⟨by omega, h3.2⟩)]))
 · rw [if_neg (by omega), List.getElem?_eq_none (by simp; omega), List.getElem?_eq_none (by simp; omega)])
 · (
 rw [List.range_succ, List.filter_append, List.map_append]
 simp [hy]))
 · (
 have hy : yn pt k = false := by simpa using hy
 rw [putTo, if_neg (by rw [hy]; simp), ih]
 congr 1
 · (
 apply List.map_congr_left
 intro i hi
 by_cases e : i = k
 · subst e; simp [hy]
 · (
 by_cases h2 : i < k ∧ yn pt i = true
 · rw [if_pos h2, if_pos ⟨by omega, h2.2⟩]
 · rw [if_neg h2, if_neg (fun h3 => h2 ⟨by omega, h3.2⟩)]))
 · (
 rw [List.range_succ, List.filter_append, List.map_append]
 simp [hy])))
end
section
open Go.RowKit
set_option maxHeartbeats 8000000
attribute [local irreducible] Row madeCells NRow
def badTake (t : Tm) (tk : List Bool) (l : List Nd) : Bool := (List.range l.length).any fun k => yn tk k && !rkB t (nd l k)
def maE (regs : Int) (l : List Nd) (t : Tm) (pt tk : List Bool) : Int :=
 if fxE regs l t ≠ 0 then fxE regs l t else if pt.length ≠ l.length ∨ tk.length ≠ l.length then 1 else if badTake t tk l = true then 1 else if 256 < (applyL regs t pt tk l).length ∨ 64 < regs + 1 then 2 else 0
def MaPost (tN : TypeId) (regs : Int) (l : List Nd) (t : Tm) (pt tk : List Bool) (w : World) (e : Ending) (w' : World) : Prop :=
 Below w.heap.size w w' ∧ ((maE regs l t pt tk ≠ 0 ∧ e = .returned (.tuple #[.agg #[.int .i64 0, .slice none 0 0], .int .i64 (maE regs l t pt tk)])) ∨
  (maE regs l t pt tk = 0 ∧ ∃ v, e = .returned (.tuple #[.agg #[.int .i64 (regs + 1), v], .int .i64 0]) ∧ NRow w' w.heap.size tN v (applyL regs t pt tk l)))
set_option maxRecDepth 100000 in
theorem Apply_err (regs : Int) (A : Option Addr) (l : List Nd) (cap : Nat) (t : Tm) (X Y : Option Addr) (pt tk : List Bool) (xc yc : Nat) (w : World) (hl : l.length ≤ maxLen) (hA : NodesAt w A l) (h0 : fxE regs l t ≠ 0) :
 Calls Tryz.prog 38 #[.agg #[.int .i64 regs, .slice A l.length cap], .agg #[.int .i64 t.op, .int .i64 t.a, .int .i64 t.b], .agg #[.slice X pt.length xc, .slice Y tk.length yc]] w (MaPost 44 regs l t pt tk w) := by (
 have HX := hide (fun W (hW : Below w.heap.size w W) => Facts_any regs A l cap t W hl (hA.below hW))
 have hE : maE regs l t pt tk = fxE regs l t := by unfold maE; rw [if_pos h0]
 unfold MaPost
 rw [hE]
 clear hA hE
 have h0' : (fxE regs l t != 0) = true := by simp [h0]
 have H0 := hide h0
 clear h0
 go_enter Tryz.func38, Tryz.ntmps38
 go_wp2_with fail
 refine (HX.out _ (by (with_reducible repeat first | apply Qa | assumption | apply Qb | apply Qc | apply Qd | apply Qe | refine Qf ?_ (by assumption) ?_); all_goals (try simp only [Sz]); first | done | omega | (try simp only [Sz] at *); omega)).mono ?_
 rintro e w1 ⟨hb1, h⟩
 obtain ⟨-, rfl⟩ := h.resolve_right (fun h => H0.out h.1)
 clear h
 have hz1 := hb1.size
 simp only [World.size_alloc] at hz1
 have hB1 : Below w.heap.size w w1 := (by (with_reducible repeat first | apply Qa | assumption | apply Qb | apply Qc | apply Qd | apply Qe | refine Qf ?_ (by assumption) ?_); all_goals (try simp only [Sz]); first | done | omega | (try simp only [Sz] at *); omega)
 have hO1 : Blk w1 (w.heap.size + 1 + 1 + 1) 24 #[.int .i64 0, .slice none 0 0] := Blk.below (by repeat (first | ((with_reducible refine Blk.new' ?_); exact (by (try simp only [Sz]); first | done | omega | (try simp only [Sz] at *); omega)) | (with_reducible refine Blk.alloc ?_ _))) hb1 (by simp <;> omega)
 clear hb1
 unfold nil6
 go_upto_region 2 with fail
 obtain ⟨W1, hW1⟩ : ∃ W1 : World, W1 = w1.alloc (.cells #[.slice none 0 0, .slice none 0 0, .slice none 0 0, .slice none 0 0, .slice none 0 0, .slice none 0 0] 72) := ⟨_, rfl⟩
 have hB2 : Below w.heap.size w W1 := by rw [hW1]; exact hB1.alloc (by omega) _
 have hO1 : Blk W1 (w.heap.size + 1 + 1 + 1) 24 #[.int .i64 0, .slice none 0 0] := by rw [hW1]; exact hO1.alloc _
 rw [← hW1]
 clear hW1 hB1
 have o0 := hO1.cell 0
 have o1 := hO1.cell 1
 have f0 := hO1.frozen 0
 have f1 := hO1.frozen 1
 simp only [Yl] at o0 o1
 have lO := hO1.lt
 go_wp2_with fail
 go_tidy
 refine bodyPost_ret (v := .tuple #[.agg #[.int .i64 0, .slice none 0 0], .int .i64 (fxE regs l t)]) (by simp [results, Tryz.results38, go_sem, o0, o1, f0, f1, World.cell?_setCell_same, World.cell?_setCell_other]; try rfl) rfl ?_
 exact ⟨(hB2.setCell (by simp <;> omega) _).setCell (by simp <;> omega) _, .inl ⟨H0.out, rfl⟩⟩)
set_option maxRecDepth 100000 in
theorem Apply_len (regs : Int) (A : Option Addr) (l : List Nd) (cap : Nat) (t : Tm) (X Y : Option Addr) (pt tk : List Bool) (xc yc : Nat) (w : World) (hl : l.length ≤ maxLen) (hA : NodesAt w A l) (h0 : fxE regs l t = 0) (h1 : pt.length ≠ l.length ∨ tk.length ≠ l.length) :
 Calls Tryz.prog 38 #[.agg #[.int .i64 regs, .slice A l.length cap], .agg #[.int .i64 t.op, .int .i64 t.a, .int .i64 t.b], .agg #[.slice X pt.length xc, .slice Y tk.length yc]] w (MaPost 44 regs l t pt tk w) := by (
 have HX := hide (fun W (hW : Below w.heap.size w W) => Facts_any regs A l cap t W hl (hA.below hW))
 have hE : maE regs l t pt tk = 1 := by unfold maE; rw [if_neg (by rw [h0]; simp), if_pos h1]
 unfold MaPost
 rw [hE]
 clear hA hE
 have H0 := hide h0
 clear h0
 go_enter Tryz.func38, Tryz.ntmps38
 go_wp2_with fail
 refine (HX.out _ (by (with_reducible repeat first | apply Qa | assumption | apply Qb | apply Qc | apply Qd | apply Qe | refine Qf ?_ (by assumption) ?_); all_goals (try simp only [Sz]); first | done | omega | (try simp only [Sz] at *); omega)).mono ?_
 rintro e w1 ⟨hb1, h⟩
 obtain ⟨-, F, v0, v1, v2, v3, v4, v5, rfl, hF, r0, r1, r2, r3, r4, r5⟩ := h.resolve_left (fun h => h.1 H0.out)
 clear h
 obtain ⟨A0, c0, e0, _, _⟩ := r0.shape
 subst e0
 obtain ⟨A1, c1, e1, _, _⟩ := r1.shape
 subst e1
 obtain ⟨A2, c2, e2, _, _⟩ := r2.shape
 subst e2
 obtain ⟨A3, c3, e3, _, _⟩ := r3.shape
 subst e3
 obtain ⟨A4, c4, e4, _, _⟩ := r4.shape
 subst e4
 obtain ⟨A5, c5, e5, _, _⟩ := r5.shape
 subst e5
 have hz1 := hb1.size
 simp only [World.size_alloc] at hz1
 have hB1 : Below w.heap.size w w1 := (by (with_reducible repeat first | apply Qa | assumption | apply Qb | apply Qc | apply Qd | apply Qe | refine Qf ?_ (by assumption) ?_); all_goals (try simp only [Sz]); first | done | omega | (try simp only [Sz] at *); omega)
 have hP1 : Blk w1 w.heap.size 24 #[.int .i64 regs, .slice A l.length cap] := Blk.below (by repeat (first | ((with_reducible refine Blk.new' ?_); exact (by (try simp only [Sz]); first | done | omega | (try simp only [Sz] at *); omega)) | (with_reducible refine Blk.alloc ?_ _))) hb1 (by simp <;> omega)
 have hL1 : Blk w1 (w.heap.size + 1 + 1) 76 #[.slice X pt.length xc, .slice Y tk.length yc] := Blk.below (by repeat (first | ((with_reducible refine Blk.new' ?_); exact (by (try simp only [Sz]); first | done | omega | (try simp only [Sz] at *); omega)) | (with_reducible refine Blk.alloc ?_ _))) hb1 (by simp <;> omega)
 have hO1 : Blk w1 (w.heap.size + 1 + 1 + 1) 24 #[.int .i64 0, .slice none 0 0] := Blk.below (by repeat (first | ((with_reducible refine Blk.new' ?_); exact (by (try simp only [Sz]); first | done | omega | (try simp only [Sz] at *); omega)) | (with_reducible refine Blk.alloc ?_ _))) hb1 (by simp <;> omega)
 clear hb1 r0 r1 r2 r3 r4 r5 hF
 go_upto_region 2 with fail
 obtain ⟨W1, hW1⟩ : ∃ W1 : World, W1 = w1.alloc (.cells #[.slice A0 (bools F.down).length c0, .slice A1 (bools F.up).length c1, .slice A2 (bools F.early).length c2, .slice A3 (bools F.delay).length c3, .slice A4 (bools F.late).length c4, .slice A5 (bools F.alone).length c5] 72) := ⟨_, rfl⟩
 have hB2 : Below w.heap.size w W1 := by rw [hW1]; exact hB1.alloc (by omega) _
 have hO1 : Blk W1 (w.heap.size + 1 + 1 + 1) 24 #[.int .i64 0, .slice none 0 0] := by rw [hW1]; exact hO1.alloc _
 have hP1 : Blk W1 w.heap.size 24 #[.int .i64 regs, .slice A l.length cap] := by rw [hW1]; exact hP1.alloc _
 have hL1 : Blk W1 (w.heap.size + 1 + 1) 76 #[.slice X pt.length xc, .slice Y tk.length yc] := by rw [hW1]; exact hL1.alloc _
 rw [← hW1]
 clear hW1 hB1
 have o0 := hO1.cell 0
 have o1 := hO1.cell 1
 have f0 := hO1.frozen 0
 have f1 := hO1.frozen 1
 simp only [Yl] at o0 o1
 have lO := hO1.lt
 have p1 := hP1.cell 1
 have x0 := hL1.cell 0
 have x1 := hL1.cell 1
 simp only [Yl] at p1 x0 x1
 have lp := hP1.lt
 have lx := hL1.lt
 by_cases h2 : pt.length = l.length
 · (
 have h3 : tk.length ≠ l.length := h1.resolve_left (fun h => h h2)
 have d1 : ((pt.length : Int) != (l.length : Int)) = false := by simp [h2]
 have d2 : ((tk.length : Int) != (l.length : Int)) = true := by simp; omega
 have D1 := hide d1
 clear h1 h2 h3
 go_wp2_with fail
 go_tidy
 refine bodyPost_ret (v := .tuple #[.agg #[.int .i64 0, .slice none 0 0], .int .i64 1]) (by simp [results, Tryz.results38, go_sem, o0, o1, f0, f1, World.cell?_setCell_same, World.cell?_setCell_other]; try rfl) rfl ?_
 exact ⟨(hB2.setCell (by simp <;> omega) _).setCell (by simp <;> omega) _, .inl ⟨by decide, rfl⟩⟩)
 · (
 have d1 : ((pt.length : Int) != (l.length : Int)) = true := by simp; omega
 clear h1 h2
 go_wp2_with fail
 go_tidy
 refine bodyPost_ret (v := .tuple #[.agg #[.int .i64 0, .slice none 0 0], .int .i64 1]) (by simp [results, Tryz.results38, go_sem, o0, o1, f0, f1, World.cell?_setCell_same, World.cell?_setCell_other]; try rfl) rfl ?_
 exact ⟨(hB2.setCell (by simp <;> omega) _).setCell (by simp <;> omega) _, .inl ⟨by decide, rfl⟩⟩))
end
section
open Go.RowKit
set_option maxHeartbeats 8000000
attribute [local irreducible] Row madeCells
def badRec (t : Tm) (tk : List Bool) (l : List Nd) : Bool := (List.range l.length).any fun k => yn tk k && !recB t (nd l k)
def apE (regs : Int) (l : List Nd) (t : Tm) (pt tk : List Bool) : Int :=
 if fxE regs l t ≠ 0 then fxE regs l t else if pt.length ≠ l.length ∨ tk.length ≠ l.length then 1 else if badRec t tk l = true then 1 else if 256 < l.length + rk pt l.length ∨ regs = 64 then 2 else 0
end
section
open Go.RowKit
theorem fxE_chk {regs : Int} {l : List Nd} {t : Tm} (h : fxE regs l t = 0) : chk regs l = 0 := by (
 by_cases hc : chk regs l = 0
 · exact hc
 · (
 unfold fxE at h
 rw [if_pos hc] at h
 exact h))
theorem fxE_op {regs : Int} {l : List Nd} {t : Tm} (h : fxE regs l t = 0) : 3 ≤ t.op ∧ t.op ≤ 8 := by (
 have hc := fxE_chk h
 unfold fxE at h
 rw [if_neg (by rw [hc]; simp)] at h
 by_cases ho : inB t.op 3 8 = false
 · rw [if_pos ho] at h; cases h
 · (
 have : inB t.op 3 8 = true := by simpa using ho
 simpa [inB] using this))
theorem applyL_len (h : Int) (t : Tm) (pt tk : List Bool) (l : List Nd) : (applyL h t pt tk l).length = l.length + rk pt l.length := by (
 have hl : (takeL h tk l).length = l.length := by simp [takeL]
 unfold applyL
 rw [putTo_eq h t pt (takeL h tk l) l.length (by omega), List.length_append, List.length_map, List.length_map, List.length_range, hl]
 congr 1
 generalize l.length = k
 induction k with
 | zero => rfl
 | succ k ih => rw [List.range_succ, List.filter_append, List.length_append, ih, rk]; by_cases e : yn pt k = true <;> simp [e])
end
section
open Go.RowKit
def frontL (h : Int) (t : Tm) (pt tk : List Bool) (l : List Nd) (k : Nat) : List Nd := (List.range k).map fun i => if yn pt i = true then putN h t (l.length + rk pt i) else takeN h tk l i
def backL (h : Int) (pt tk : List Bool) (l : List Nd) (k : Nat) : List Nd := ((List.range k).filter fun i => yn pt i).map (takeN h tk l)
theorem frontL_len (h : Int) (t : Tm) (pt tk : List Bool) (l : List Nd) (k : Nat) : (frontL h t pt tk l k).length = k := by simp [frontL]
theorem backL_len (h : Int) (pt tk : List Bool) (l : List Nd) : ∀ k, (backL h pt tk l k).length = rk pt k
 | 0 => rfl
 | k + 1 => by (
 have ih := backL_len h pt tk l k
 unfold backL at *
 rw [List.range_succ, List.filter_append, List.map_append, List.length_append, ih, rk]
 by_cases e : yn pt k = true <;> simp [e])
theorem backL_yes {h : Int} {pt tk : List Bool} {l : List Nd} {k : Nat} (hy : yn pt k = true) : backL h pt tk l (k + 1) = backL h pt tk l k ++ [takeN h tk l k] := by (
 simp [backL, List.range_succ, List.filter_append, hy])
theorem backL_no {h : Int} {pt tk : List Bool} {l : List Nd} {k : Nat} (hy : yn pt k = false) : backL h pt tk l (k + 1) = backL h pt tk l k := by (
 simp [backL, List.range_succ, List.filter_append, hy])
theorem applyL_front (h : Int) (t : Tm) (pt tk : List Bool) (l : List Nd) : applyL h t pt tk l = frontL h t pt tk l l.length ++ backL h pt tk l l.length := by (
 have hl : (takeL h tk l).length = l.length := by simp [takeL]
 have hn : ∀ i, i < l.length → nd (takeL h tk l) i = takeN h tk l i := fun i hi => nd_get (by simp [takeL, hi])
 unfold applyL
 rw [putTo_eq h t pt (takeL h tk l) l.length (by omega), hl]
 congr 1
 · (
 unfold frontL
 apply List.map_congr_left
 intro i hi
 have hi := List.mem_range.1 hi
 rw [hn i hi]
 by_cases e : yn pt i = true
 · rw [if_pos ⟨hi, e⟩, if_pos e]
 · rw [if_neg (fun h => e h.2), if_neg e])
 · (
 unfold backL
 apply List.map_congr_left
 intro i hi
 exact hn i (List.mem_range.1 (List.mem_filter.1 hi).1)))
end
section
open Go.RowKit
section
variable (l : List Nd) (inp : List Int) (s : Rn)
def valR (inp : List Int) (n : Nd) (r : List Int) (k : Nat) : Int := if n.op = 1 then n.a else if n.op = 2 then rg r n.a else if hasB n.op = true then reckV n.op (rg r n.a) (rg r n.b) else if k < inp.length then inp.getD k 0 else 0
theorem sr_regs : (stepR l inp s).regs = if hasD (nd l s.pos).op = true then s.regs.set (nd l s.pos).d.toNat (valR inp (nd l s.pos) s.regs s.read) else s.regs := by
  unfold stepR valR
  generalize nd l s.pos = n
  have h2 : hasD n.op = true ↔ 1 ≤ n.op ∧ n.op ≤ 9 := by simp [hasD, inB]
  have h3 : hasB n.op = true ↔ 3 ≤ n.op ∧ n.op ≤ 8 := by simp [hasB, inB]
  simp only [h2, h3]
  repeat' split
  all_goals first | rfl | (exfalso; omega)
theorem sr_read : (stepR l inp s).read = if (nd l s.pos).op = 9 ∧ s.read < inp.length then s.read + 1 else s.read := by
  unfold stepR
  generalize nd l s.pos = n
  have h3 : hasB n.op = true ↔ 3 ≤ n.op ∧ n.op ≤ 8 := by simp [hasB, inB]
  simp only [h3]
  repeat' split
  all_goals first | rfl | (exfalso; omega)
theorem sr_out : (stepR l inp s).out = if (nd l s.pos).op = 10 then s.out ++ [rg s.regs (nd l s.pos).a] else s.out := by
  unfold stepR
  generalize nd l s.pos = n
  have h3 : hasB n.op = true ↔ 3 ≤ n.op ∧ n.op ≤ 8 := by simp [hasB, inB]
  simp only [h3]
  repeat' split
  all_goals first | rfl | (exfalso; omega)
theorem sr_ret : (stepR l inp s).ret = if (nd l s.pos).op = 12 then rg s.regs (nd l s.pos).a else s.ret := by
  unfold stepR
  generalize nd l s.pos = n
  have h3 : hasB n.op = true ↔ 3 ≤ n.op ∧ n.op ≤ 8 := by simp [hasB, inB]
  simp only [h3]
  repeat' split
  all_goals first | rfl | (exfalso; omega)
theorem sr_ended : (stepR l inp s).ended = if (nd l s.pos).op = 12 then true else s.ended := by
  unfold stepR
  generalize nd l s.pos = n
  have h3 : hasB n.op = true ↔ 3 ≤ n.op ∧ n.op ≤ 8 := by simp [hasB, inB]
  simp only [h3]
  repeat' split
  all_goals first | rfl | (exfalso; omega)
theorem sr_at : (stepR l inp s).pos = if (nd l s.pos).op = 11 ∧ rg s.regs (nd l s.pos).a = 0 then (nd l s.pos).e.toNat else (nd l s.pos).t.toNat := by
  unfold stepR
  generalize nd l s.pos = n
  have h3 : hasB n.op = true ↔ 3 ≤ n.op ∧ n.op ≤ 8 := by simp [hasB, inB]
  simp only [h3]
  repeat' split
  all_goals first | rfl | (exfalso; omega)
theorem sr_ts : (stepR l inp s).ts = if hasB (nd l s.pos).op = true then s.ts ++ [(nd l s.pos).tm] else s.ts := by
  unfold stepR
  generalize nd l s.pos = n
  have h3 : hasB n.op = true ↔ 3 ≤ n.op ∧ n.op ≤ 8 := by simp [hasB, inB]
  simp only [h3]
  repeat' split
  all_goals first | rfl | (exfalso; omega)
end
theorem rg_put {r : List Int} {d i : Int} {v : Int} (hd : 0 ≤ d) (hi : 0 ≤ i) (hl : d.toNat < r.length) : rg (r.set d.toNat v) i = if i = d then v else rg r i := by
  unfold rg
  rw [List.getD_eq_getElem?_getD, List.getD_eq_getElem?_getD, List.getElem?_set]
  by_cases h : i = d
  · subst h; simp [hl]
  · rw [if_neg (by omega), if_neg h]
theorem Right.regA {regs : Int} {l : List Nd} (hR : Right regs l) {n : Nd} (hn : n ∈ l) : (hasD n.op = true → 0 ≤ n.d ∧ n.d < regs) ∧ (hasA n.op = true → 0 ≤ n.a ∧ n.a < regs) ∧ (hasB n.op = true → 0 ≤ n.b ∧ n.b < regs) := by
  have h := hR.rng n hn
  simp only [badR, Bool.or_eq_false_iff, Bool.not_eq_false'] at h
  obtain ⟨⟨⟨⟨h1, h2⟩, h3⟩, _⟩, _⟩ := h
  refine ⟨fun e => ?_, fun e => ?_, fun e => ?_⟩
  · simpa [okR, e] using h1
  · simpa [okR, e] using h2
  · simpa [okR, e] using h3
theorem hasB_A {o : Int} (h : hasB o = true) : hasA o = true ∧ hasD o = true ∧ o ≠ 11 ∧ o ≠ 12 ∧ o ≠ 10 ∧ o ≠ 9 ∧ o ≠ 1 ∧ o ≠ 2 := by
  simp only [hasB, hasA, hasD, inB, Bool.and_eq_true, Bool.or_eq_true, decide_eq_true_eq] at *
  omega
theorem valR_same {regs : Int} {l : List Nd} (hR : Right regs l) {n : Nd} (hn : n ∈ l) {r r' : List Int} (h : ∀ i : Int, 0 ≤ i → i < regs → rg r' i = rg r i) (inp : List Int) (k : Nat) : valR inp n r' k = valR inp n r k := by
  obtain ⟨_, hA, hB⟩ := hR.regA hn
  unfold valR
  split
  · rfl
  · split
    · rename_i h2
      have := hA (by rw [h2]; decide)
      rw [h _ this.1 this.2]
    · split
      · rename_i h3
        have h4 := hA (hasB_A h3).1
        have h5 := hB h3
        rw [h _ h4.1 h4.2, h _ h5.1 h5.2]
      · rfl
section
variable {regs : Int} {t : Tm} {l : List Nd} {pt tk th : List Bool} {inp : List Int}
structure Held (t : Tm) (l : List Nd) (pt tk th : List Bool) : Prop where
  from_ : ∀ n, n < l.length → yn th n = true → yn pt n = true ∨ (∃ m, Edge l m n) ∧ ∀ m, Edge l m n → yn th m = true ∧ Kp t l m
  take : ∀ n, n < l.length → yn tk n = true → yn th n = true ∧ Rc t l n
theorem backL_get (h : Int) (pt tk : List Bool) (l : List Nd) {n : Nat} (hp : yn pt n = true) : ∀ {k : Nat}, n < k → (backL h pt tk l k)[rk pt n]? = some (takeN h tk l n)
  | 0, hk => by omega
  | k + 1, hk => by
    by_cases e : n = k
    · subst e
      rw [backL_yes hp, List.getElem?_append_right (by rw [backL_len]; exact Nat.le_refl _), backL_len]
      simp
    · have ih := backL_get h pt tk l hp (k := k) (by omega)
      have hlt := (List.getElem?_eq_some_iff.1 ih).1
      by_cases e2 : yn pt k = true
      · rw [backL_yes e2, List.getElem?_append_left hlt, ih]
      · rw [backL_no (by simpa using e2), ih]
theorem applyL_at {h : Int} {n : Nat} (hn : n < l.length) : nd (applyL h t pt tk l) n = if yn pt n = true then putN h t (l.length + rk pt n) else takeN h tk l n := by
  rw [applyL_front]
  refine nd_get ?_
  rw [List.getElem?_append_left (by rw [frontL_len]; exact hn)]
  simp [frontL, hn]
theorem applyL_behind {h : Int} {n : Nat} (hn : n < l.length) (hp : yn pt n = true) : nd (applyL h t pt tk l) (l.length + rk pt n) = takeN h tk l n := by
  rw [applyL_front]
  refine nd_get ?_
  rw [List.getElem?_append_right (by rw [frontL_len]; omega), frontL_len, Nat.add_sub_cancel_left]
  exact backL_get h pt tk l hp hn
structure Mvd (regs : Int) (t : Tm) (l : List Nd) (pt th : List Bool) (s u : Rn) : Prop where
  lens : s.regs.length = regs.toNat
  lenu : u.regs.length = regs.toNat + 1
  same : ∀ i : Int, 0 ≤ i → i < regs → rg u.regs i = rg s.regs i
  read : s.read = u.read
  out : s.out = u.out
  ret : s.ret = u.ret
  ended : s.ended = u.ended
  ts : ∀ v, v ≠ t → s.ts.count v = u.ts.count v
  lt : s.ended = false → s.pos < l.length
  at_ : s.ended = false → (u.pos = s.pos ∧ (yn th s.pos = true → yn pt s.pos = true ∨ rg u.regs regs = reckV t.op (rg s.regs t.a) (rg s.regs t.b))) ∨ (yn pt s.pos = true ∧ u.pos = l.length + rk pt s.pos ∧ rg u.regs regs = reckV t.op (rg s.regs t.a) (rg s.regs t.b))
structure TmOk (regs : Int) (t : Tm) : Prop where
  op : 3 ≤ t.op ∧ t.op ≤ 8
  a : 0 ≤ t.a ∧ t.a < regs
  b : 0 ≤ t.b ∧ t.b < regs
theorem TmOk.hasB (h : TmOk regs t) : hasB t.op = true := by have := h.op; simp [Go.Proofs.YtmghkonmfbpjcaaGreatDoor.hasB, inB, this.1, this.2]
theorem Mvd.put (hT : TmOk regs t) {s u : Rn} (h : Mvd regs t l pt th s u) (he : s.ended = false) (hu : u.pos = s.pos) (hp : yn pt s.pos = true) :
    Mvd regs t l pt th s (stepR (applyL regs t pt tk l) inp u) ∧ (stepR (applyL regs t pt tk l) inp u).pos = l.length + rk pt s.pos ∧ (stepR (applyL regs t pt tk l) inp u).ts.count t = u.ts.count t + 1 := by
  have hlt := h.lt he
  have hB := hT.hasB
  obtain ⟨_, hD, h11, h12, h10, h9, h1, h2⟩ := hasB_A hB
  have hn : nd (applyL regs t pt tk l) u.pos = putN regs t (l.length + rk pt s.pos) := by rw [hu, applyL_at hlt, if_pos hp]
  have hr0 : 0 ≤ regs := by have := hT.a; omega
  have hgs : ∀ i : Int, 0 ≤ i → rg (stepR (applyL regs t pt tk l) inp u).regs i = if i = regs then reckV t.op (rg u.regs t.a) (rg u.regs t.b) else rg u.regs i := fun i hi => by
    rw [sr_regs, hn]
    simp only [putN, hD, if_pos]
    rw [rg_put hr0 hi (by rw [h.lenu]; omega)]
    simp only [valR, h1, h2, hB, if_true, if_false]
  have hpos : (stepR (applyL regs t pt tk l) inp u).pos = l.length + rk pt s.pos := by
    rw [sr_at, hn, if_neg (by simp [putN, h11])]
    simp [putN]
    omega
  have hts : (stepR (applyL regs t pt tk l) inp u).ts = u.ts ++ [t] := by
    rw [sr_ts, hn]
    simp [putN, hB, Nd.tm]
  refine ⟨⟨h.lens, ?_, fun i h0 h3 => ?_, ?_, ?_, ?_, ?_, fun v hv => ?_, h.lt, fun _ => .inr ⟨hp, hpos, ?_⟩⟩, hpos, by rw [hts]; simp⟩
  · rw [sr_regs]; split
    · rw [List.length_set]; exact h.lenu
    · exact h.lenu
  · rw [hgs i h0, if_neg (by omega)]; exact h.same i h0 h3
  · rw [sr_read, hn, if_neg (by simp [putN, h9])]; exact h.read
  · rw [sr_out, hn, if_neg (by simp [putN, h10])]; exact h.out
  · rw [sr_ret, hn, if_neg (by simp [putN, h12])]; exact h.ret
  · rw [sr_ended, hn, if_neg (by simp [putN, h12])]; exact h.ended
  · rw [hts, List.count_append, h.ts v hv, List.count_singleton, if_neg (by simpa using fun e => hv e.symm)]; omega
  · rw [hgs regs hr0, if_pos rfl, h.same _ hT.a.1 hT.a.2, h.same _ hT.b.1 hT.b.2]
theorem Mvd.take (hR : Right regs l) (hT : TmOk regs t) (hH : Held t l pt tk th) {s u : Rn} (h : Mvd regs t l pt th s u) (he : s.ended = false) (hu : (u.pos = s.pos ∧ yn pt s.pos = false) ∨ (yn pt s.pos = true ∧ u.pos ≠ s.pos)) :
    Mvd regs t l pt th (stepR l inp s) (stepR (applyL regs t pt tk l) inp u) ∧ (stepR (applyL regs t pt tk l) inp u).ts.count t = u.ts.count t + (recB t (nd l s.pos) && !yn tk s.pos).toNat ∧ ((stepR l inp s).ended = false → (stepR (applyL regs t pt tk l) inp u).pos = (stepR l inp s).pos) ∧
    ((nd (applyL regs t pt tk l) u.pos).op = 11 → (nd l s.pos).op = 11) := by
  have hlt := h.lt he
  have hn : nd (applyL regs t pt tk l) u.pos = takeN regs tk l s.pos := by
    rcases h.at_ he with ⟨h1, _⟩ | ⟨h1, h2, _⟩
    · rcases hu with ⟨_, h2⟩ | ⟨_, h2⟩
      · rw [h1, applyL_at hlt, if_neg (by rw [h2]; simp)]
      · exact absurd h1 h2
    · rw [h2, applyL_behind hlt h1]
  have hold : yn th s.pos = true → rg u.regs regs = reckV t.op (rg s.regs t.a) (rg s.regs t.b) := fun e => by
    rcases h.at_ he with ⟨h1, h2⟩ | ⟨_, _, h2⟩
    · rcases hu with ⟨_, h3⟩ | ⟨_, h3⟩
      · exact (h2 e).resolve_left (by rw [h3]; simp)
      · exact absurd h1 h3
    · exact h2
  have hm := nd_mem hlt
  obtain ⟨hrD, hrA, hrB⟩ := hR.regA hm
  have hB0 := hT.hasB
  have hr0 : 0 ≤ regs := by have := hT.a; omega
  -- what the two nodes have in common
  have hc : ∃ n' : Nd, nd (applyL regs t pt tk l) u.pos = n' ∧ n'.d = (nd l s.pos).d ∧ hasD n'.op = hasD (nd l s.pos).op ∧ valR inp n' u.regs u.read = valR inp (nd l s.pos) s.regs s.read ∧ (n'.op = 9 ↔ (nd l s.pos).op = 9) ∧ (n'.op = 10 ↔ (nd l s.pos).op = 10) ∧ (n'.op = 11 ↔ (nd l s.pos).op = 11) ∧ (n'.op = 12 ↔ (nd l s.pos).op = 12) ∧
      ((nd l s.pos).op = 10 ∨ (nd l s.pos).op = 11 ∨ (nd l s.pos).op = 12 → rg u.regs n'.a = rg s.regs (nd l s.pos).a) ∧ n'.t = (nd l s.pos).t ∧ ((nd l s.pos).op = 11 → n'.e = (nd l s.pos).e) ∧
      (stepR (applyL regs t pt tk l) inp u).ts = (if yn tk s.pos = true then u.ts else if hasB (nd l s.pos).op = true then u.ts ++ [(nd l s.pos).tm] else u.ts) := by
    refine ⟨_, rfl, ?_⟩
    rw [sr_ts, hn]
    unfold takeN
    by_cases htk : yn tk s.pos = true
    · obtain ⟨e1, e2⟩ := hH.take _ hlt htk
      have e3 : (nd l s.pos).op = t.op ∧ (nd l s.pos).a = t.a ∧ (nd l s.pos).b = t.b := by
        unfold Rc recB at e2
        simp only [Bool.and_eq_true, beq_iff_eq] at e2
        exact ⟨e2.1.1, e2.1.2, e2.2⟩
      obtain ⟨o1, o2, o3⟩ := e3
      obtain ⟨_, hD, h11, h12, h10, h9, h1, h2⟩ := hasB_A hB0
      rw [if_pos htk, if_pos htk, o1]
      refine ⟨rfl, by rw [hD]; rfl, ?_, ?_, ?_, ?_, ?_, fun e => by omega, rfl, fun e => by omega, ?_⟩
      · show rg u.regs regs = _
        unfold valR
        simp only [o1, o2, o3, h1, h2, hB0, if_true, if_false]
        exact hold e1
      · show (2 : Int) = 9 ↔ t.op = 9; omega
      · show (2 : Int) = 10 ↔ t.op = 10; omega
      · show (2 : Int) = 11 ↔ t.op = 11; omega
      · show (2 : Int) = 12 ↔ t.op = 12; omega
      · rw [if_neg (by simp [hasB, inB])]
    · rw [if_neg htk, if_neg htk]
      refine ⟨rfl, rfl, ?_, Iff.rfl, Iff.rfl, Iff.rfl, Iff.rfl, fun e => ?_, rfl, fun _ => rfl, rfl⟩
      · rw [← h.read]
        exact valR_same hR hm h.same inp s.read
      · have h2 := hrA (by simp only [hasA, inB, Bool.and_eq_true, Bool.or_eq_true, decide_eq_true_eq]; omega)
        exact h.same _ h2.1 h2.2
  obtain ⟨n', hn', c1, c2, c3, c4, c5, c6, c7, c8, c9, c10, c11⟩ := hc
  have hgu : ∀ i : Int, 0 ≤ i → rg (stepR (applyL regs t pt tk l) inp u).regs i = if hasD (nd l s.pos).op = true ∧ i = (nd l s.pos).d then valR inp (nd l s.pos) s.regs s.read else rg u.regs i := fun i hi => by
    rw [sr_regs, hn', c1, c2, c3]
    by_cases hD : hasD (nd l s.pos).op = true
    · have := hrD hD
      rw [if_pos hD, rg_put this.1 hi (by rw [h.lenu]; omega)]
      by_cases e : i = (nd l s.pos).d
      · rw [if_pos e, if_pos ⟨hD, e⟩]
      · rw [if_neg e, if_neg (fun x => e x.2)]
    · rw [if_neg hD, if_neg (fun x => hD x.1)]
  have hgs : ∀ i : Int, 0 ≤ i → rg (stepR l inp s).regs i = if hasD (nd l s.pos).op = true ∧ i = (nd l s.pos).d then valR inp (nd l s.pos) s.regs s.read else rg s.regs i := fun i hi => by
    rw [sr_regs]
    by_cases hD : hasD (nd l s.pos).op = true
    · have := hrD hD
      rw [if_pos hD, rg_put this.1 hi (by rw [h.lens]; omega)]
      by_cases e : i = (nd l s.pos).d
      · rw [if_pos e, if_pos ⟨hD, e⟩]
      · rw [if_neg e, if_neg (fun x => e x.2)]
    · rw [if_neg hD, if_neg (fun x => hD x.1)]
  have hpos : (stepR (applyL regs t pt tk l) inp u).pos = (stepR l inp s).pos := by
    rw [sr_at, sr_at, hn', c9]
    by_cases h11 : (nd l s.pos).op = 11
    · rw [c8 (.inr (.inl h11)), c10 h11]
      simp only [h11, c6.2 h11, true_and]
    · rw [if_neg (fun x => h11 (c6.1 x.1)), if_neg (fun x => h11 x.1)]
  have hend : (stepR l inp s).ended = (stepR (applyL regs t pt tk l) inp u).ended := by
    rw [sr_ended, sr_ended, hn', h.ended]
    simp only [c7]
  have hcount : ∀ v, (stepR (applyL regs t pt tk l) inp u).ts.count v = u.ts.count v + (if yn tk s.pos = true then 0 else if hasB (nd l s.pos).op = true ∧ (nd l s.pos).tm = v then 1 else 0) := fun v => by
    rw [c11]
    by_cases htk : yn tk s.pos = true
    · rw [if_pos htk, if_pos htk]; rfl
    · rw [if_neg htk, if_neg htk]
      by_cases hB : hasB (nd l s.pos).op = true
      · rw [if_pos hB, List.count_append, List.count_singleton]
        by_cases e : (nd l s.pos).tm = v
        · rw [if_pos (by simpa using e), if_pos ⟨hB, e⟩]
        · rw [if_neg (by simpa using e), if_neg (fun x => e x.2)]
      · rw [if_neg hB, if_neg (fun x => hB x.1)]; rfl
  have hcs : ∀ v, (stepR l inp s).ts.count v = s.ts.count v + (if hasB (nd l s.pos).op = true ∧ (nd l s.pos).tm = v then 1 else 0) := fun v => by
    rw [sr_ts]
    by_cases hB : hasB (nd l s.pos).op = true
    · rw [if_pos hB, List.count_append, List.count_singleton]
      by_cases e : (nd l s.pos).tm = v
      · rw [if_pos (by simpa using e), if_pos ⟨hB, e⟩]
      · rw [if_neg (by simpa using e), if_neg (fun x => e x.2)]
    · rw [if_neg hB, if_neg (fun x => hB x.1)]; rfl
  have htm : (hasB (nd l s.pos).op = true ∧ (nd l s.pos).tm = t) ↔ Rc t l s.pos := by
    unfold Rc recB Nd.tm
    simp only [Bool.and_eq_true, beq_iff_eq]
    constructor
    · rintro ⟨_, e⟩
      have e1 := congrArg Tm.op e
      have e2 := congrArg Tm.a e
      have e3 := congrArg Tm.b e
      exact ⟨⟨e1, e2⟩, e3⟩
    · rintro ⟨⟨e1, e2⟩, e3⟩
      exact ⟨by rw [e1]; exact hB0, by rw [e1, e2, e3]⟩
  refine ⟨⟨?_, ?_, fun i h0 h3 => ?_, ?_, ?_, ?_, hend, fun v hv => ?_, fun e => ?_, fun e => .inl ⟨hpos, fun e2 => ?_⟩⟩, ?_, fun _ => hpos, fun e => c6.1 (by rw [← hn']; exact e)⟩
  · rw [sr_regs]; split
    · rw [List.length_set]; exact h.lens
    · exact h.lens
  · rw [sr_regs]; split
    · rw [List.length_set]; exact h.lenu
    · exact h.lenu
  · rw [hgu i h0, hgs i h0, h.same i h0 h3]
  · rw [sr_read, sr_read, hn', h.read]
    simp only [c4]
  · rw [sr_out, sr_out, hn', h.out]
    by_cases h10 : (nd l s.pos).op = 10
    · rw [if_pos h10, if_pos (c5.2 h10), c8 (.inl h10)]
    · rw [if_neg h10, if_neg (fun x => h10 (c5.1 x))]
  · rw [sr_ret, sr_ret, hn', h.ret]
    by_cases h12 : (nd l s.pos).op = 12
    · rw [if_pos h12, if_pos (c7.2 h12), c8 (.inr (.inr h12))]
    · rw [if_neg h12, if_neg (fun x => h12 (c7.1 x))]
  · rw [hcount, hcs, h.ts v hv]
    by_cases htk : yn tk s.pos = true
    · have e2 := htm.2 (hH.take _ hlt htk).2
      rw [if_pos htk, if_neg (fun x => hv (x.2.symm.trans e2.2))]
    · rw [if_neg htk]
  · exact (sr_edge hR hlt e).2.1
  · have hE := sr_edge hR hlt e
    rcases hH.from_ _ hE.2.1 e2 with e3 | ⟨_, e3⟩
    · exact .inl e3
    · obtain ⟨e4, e5⟩ := e3 _ hE
      have hk : hasD (nd l s.pos).op = true → t.a ≠ (nd l s.pos).d ∧ t.b ≠ (nd l s.pos).d := fun hD => by
        unfold Kp keepB at e5
        simp only [hD, Bool.not_true, Bool.false_or, Bool.and_eq_true, bne_iff_ne] at e5
        exact ⟨fun x => e5.1 x.symm, fun x => e5.2 x.symm⟩
      have hd : ¬ (hasD (nd l s.pos).op = true ∧ regs = (nd l s.pos).d) := fun x => by have := hrD x.1; omega
      rw [hgu regs hr0, if_neg hd, hold e4, hgs _ hT.a.1, hgs _ hT.b.1, if_neg (fun x => (hk x.1).1 x.2), if_neg (fun x => (hk x.1).2 x.2)]
      exact .inr rfl
  · rw [hcount]
    by_cases htk : yn tk s.pos = true
    · rw [if_pos htk, htk]; simp
    · rw [if_neg htk]
      have e1 : yn tk s.pos = false := by simpa using htk
      by_cases e : Rc t l s.pos
      · have e2 : recB t (nd l s.pos) = true := e
        rw [if_pos (htm.2 e), e1, e2]; rfl
      · have e2 : recB t (nd l s.pos) = false := yno e
        rw [if_neg (fun x => e (htm.1 x)), e1, e2]; rfl
end
end
section
open Go.RowKit
set_option maxHeartbeats 8000000
attribute [local irreducible] Row madeCells
end
section
open Go.RowKit
structure Sim (l m : List Nd) (inp : List Int) (K : Nat) (Rel : Rn → Rn → Prop) : Prop where
 one : 1 ≤ K
 same : ∀ {s t}, Rel s t → s.out = t.out ∧ s.ret = t.ret ∧ s.ended = t.ended
 step : ∀ {s t}, Rel s t → s.ended = false → ∃ k, 1 ≤ k ∧ k ≤ K ∧ Rel (stepR l inp s) (goR m inp k t)
theorem Sim.run {l m : List Nd} {inp : List Int} {K : Nat} {Rel : Rn → Rn → Prop} (h : Sim l m inp K Rel) : ∀ (n : Nat) {s t : Rn}, Rel s t → ∃ k, n ≤ k ∧ k ≤ K * n ∧ Rel (goR l inp n s) (goR m inp k t)
 | 0, s, t, hr => ⟨0, Nat.le_refl _, by simp, hr⟩
 | n + 1, s, t, hr => by (
 by_cases he : s.ended = true
 · (
 refine ⟨n + 1, Nat.le_refl _, Nat.le_mul_of_pos_left _ h.one, ?_⟩
 rw [goR_ended he, goR_ended (by rw [← (h.same hr).2.2]; exact he)]
 exact hr)
 · (
 have he : s.ended = false := by simpa using he
 obtain ⟨k, h1, h2, h3⟩ := h.step hr he
 obtain ⟨j, h4, h5, h6⟩ := h.run n h3
 refine ⟨k + j, by omega, ?_, ?_⟩
 · rw [Nat.mul_succ]; omega
 · rw [goR_step he, goR_add]; exact h6))
theorem Sim.does {l m : List Nd} {inp : List Int} {K : Nat} {Rel : Rn → Rn → Prop} (h : Sim l m inp K Rel) {s t : Rn} (hr : Rel s t) (n N : Nat) (hN : K * n ≤ N) :
 ((goR m inp n t).ended = true → (goR l inp n s).ended = true ∧ (goR l inp n s).ret = (goR m inp n t).ret ∧ (goR l inp n s).out = (goR m inp n t).out) ∧ (∃ x, (goR l inp n s).out = (goR m inp n t).out ++ x) ∧
 ((goR l inp n s).ended = true → (goR m inp N t).ended = true ∧ (goR l inp n s).ret = (goR m inp N t).ret ∧ (goR l inp n s).out = (goR m inp N t).out) ∧ (∃ x, (goR m inp N t).out = (goR l inp n s).out ++ x) := by (
 obtain ⟨k, h1, h2, h3⟩ := h.run n hr
 obtain ⟨e1, e2, e3⟩ := h.same h3
 have a1 : goR m inp k t = goR m inp (k - n) (goR m inp n t) := by rw [← goR_add]; congr 1; omega
 have a2 : goR m inp N t = goR m inp (N - k) (goR m inp k t) := by rw [← goR_add]; congr 1; omega
 refine ⟨fun hb => ?_, ?_, fun ha => ?_, ?_⟩
 · (
 rw [goR_ended hb] at a1
 rw [e1, e2, e3, a1]
 exact ⟨hb, rfl, rfl⟩)
 · (
 rw [e1, a1]
 exact goR_out m inp _ _)
 · (
 rw [e3] at ha
 rw [goR_ended ha] at a2
 rw [a2, e1, e2]
 exact ⟨ha, rfl, rfl⟩)
 · (
 rw [a2, e1]
 exact goR_out m inp _ _))
end
end Go.Proofs.YtmghkonmfbpjcaaGreatDoor
