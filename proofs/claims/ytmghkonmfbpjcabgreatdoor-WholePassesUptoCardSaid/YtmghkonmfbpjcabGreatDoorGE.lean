/- Parts. -/
import Derived.Test.YtmghkonmfbpjcabGreatDoorMvB
import Derived.Test.YtmghkonmfbpjcabGreatDoorFactO
set_option linter.unusedVariables false
set_option linter.unusedSimpArgs false
set_option maxRecDepth 100000
set_option maxHeartbeats 8000000
namespace Go.Proofs.YtmghkonmfbpjcabGreatDoor
open Go.RowKit
open Go.Proofs.Tryz
section
attribute [local irreducible] Row madeCells
def bNH (l : List Nd) (F : Fx) : List Bool := mk l.length fun k => yn F.late k && !yn F.alone k
def bII (t : Tm) (l : List Nd) (F : Fx) : List Bool := mk l.length fun k => rkB t (nd l k) && (!yn F.late k || !yn F.alone k)
def bSH (tB : TypeId) (regs : Int) (l : List Nd) (t : Tm) (x y : Fx → List Bool) (w : World) (e : Ending) (w' : World) : Prop :=
 Below w.heap.size w w' ∧ ((fxE regs l t ≠ 0 ∧ e = .returned (.tuple #[.agg #[.slice none 0 0, .slice none 0 0], .int .i64 (fxE regs l t)])) ∨
  (fxE regs l t = 0 ∧ ∃ F v1 v2, yG t l F ∧ e = .returned (.tuple #[.agg #[v1, v2], .int .i64 0]) ∧ Row w' w.heap.size tB v1 (bE (x F)) ∧ Row w' w.heap.size tB v2 (bE (y F)) ∧ (v1.ownBlock = none ∨ v1.ownBlock ≠ v2.ownBlock)))
theorem bRQ {regs : Int} {l : List Nd} {t : Tm} (h : fxE regs l t = 0) : l.length ≤ 256 := by (
 by_cases hc : chk regs l = 0
 · exact (bS hc).hi
 · (
 unfold fxE at h
 rw [if_pos hc] at h
 exact absurd h hc))
theorem bDS (W : World) (args : Array Value) : (callFunc 143 args).run prog W = .ok (.enter 143 args) W := by (
 have h := func143
 simp [callFunc, go_sem, h]; try rfl)
theorem bDR (W : World) (args : Array Value) : (callFunc 144 args).run prog W = .ok (.enter 144 args) W := by (
 have h := func144
 simp [callFunc, go_sem, h]; try rfl)
theorem bOR (regs : Int) (A : Option Addr) (l : List Nd) (cap : Nat) (t : Tm) (w : World) (hl : l.length ≤ maxLen) (hA : bH w A l) :
 Calls prog 97 #[.agg #[.int .i64 regs, .slice A l.length cap], .agg #[.int .i64 t.op, .int .i64 t.a, .int .i64 t.b]] w (bSH 4 regs l t (bNH l) (bII t l) w) := by (
 have HX := bA (fun W (hW : Below w.heap.size w W) => kT regs A l cap t W hl (hA.below hW))
 have HN := bA (fun W (hW : Below w.heap.size w W) => hA.below hW)
 clear hA
 by_cases h0 : fxE regs l t = 0
 · (
 have H0 := bA h0
 clear h0
 go_enter func97, ntmps97
 go_wp2_with fail
 refine (HX.o _ Yc).mono ?_
 rintro e w1 ⟨hb1, h⟩
 obtain ⟨-, F, v0, v1, v2, v3, v4, v5, rfl, hF, r0, r1, r2, r3, r4, r5⟩ := h.resolve_left (fun h => h.1 H0.o)
 clear h
 obtain ⟨L0, L1, L2, L3, L4, L5⟩ := hF.len
 obtain ⟨A0, c0, e0, _, _⟩ := r0.shape
 rw [bD, L0] at e0
 subst e0
 obtain ⟨A1, c1, e1, _, _⟩ := r1.shape
 rw [bD, L1] at e1
 subst e1
 obtain ⟨A2, c2, e2, _, _⟩ := r2.shape
 rw [bD, L2] at e2
 subst e2
 obtain ⟨A3, c3, e3, _, _⟩ := r3.shape
 rw [bD, L3] at e3
 subst e3
 obtain ⟨A4, c4, e4, _, _⟩ := r4.shape
 rw [bD, L4] at e4
 subst e4
 obtain ⟨A5, c5, e5, _, _⟩ := r5.shape
 rw [bD, L5] at e5
 subst e5
 refine Km fun hz1 hB1 hP1 hT1 hO1 => ?_; clear hb1
 have hn64 : l.length ≤ 65536 := by have := bRQ H0.o; omega
 go_upto_region 2 with fail
 obtain ⟨W1, hW1⟩ := Exq (w1.alloc (.cells #[.slice A0 l.length c0, .slice A1 l.length c1, .slice A2 l.length c2, .slice A3 l.length c3, .slice A4 l.length c4, .slice A5 l.length c5] 152))
 have hBW : Below w1.heap.size w1 W1 := by rw [hW1]; exact (Bnq _ _)
 have hbx : Blk W1 w1.heap.size 152 #[.slice A0 l.length c0, .slice A1 l.length c1, .slice A2 l.length c2, .slice A3 l.length c3, .slice A4 l.length c4, .slice A5 l.length c5] := by rw [hW1]; exact Blk.new' rfl
 rw [← hW1]
 obtain ⟨fb, hfb⟩ := Exq w1.heap.size
 rw [← hfb] at hbx ⊢
 have hFx : xL 152 fb l.length A0 A1 A2 A3 A4 A5 c0 c1 c2 c3 c4 c5 F W1 := ⟨hbx, ⟨(r0.below' hBW).vals, L0⟩, ⟨(r2.below' hBW).vals, L2⟩, ⟨(r4.below' hBW).vals, L4⟩, ⟨(r5.below' hBW).vals, L5⟩⟩
 have hB2 := hB1.trans (hBW.mono Zb)
 have hP2 := hP1.below hBW hP1.lt
 have hT2 := hT1.below hBW hT1.lt
 have hO2 := hO1.below hBW hO1.lt
 have p0 := hP2.cell 0
 have p1 := hP2.cell 1
 have t0 := hT2.cell 0
 have t1 := hT2.cell 1
 have t2 := hT2.cell 2
 simp only [tmA, Yl] at p0 p1 t0 t1 t2
 have lp := hP2.lt
 have lt_ := hT2.lt
 have lO := hO2.lt
 have hz2 := hB2.size
 have HPl := bA (bGC 143 144 #[.pointer (some ⟨fb, 0, none⟩)] #[.pointer (some ⟨fb, 0, none⟩)] (fun k => yn F.late k && !yn F.alone k) (fun k => !yn F.late k || !yn F.alone k) regs A l cap t W1 (HN.o _ hB2) hn64 bDS bDR (fun k hk => bGM hFx hk) (fun k hk => bGL hFx hk))
 have HF := bA hF
 have HO2 := bA hO2
 have HB2 := bA hB2
 clear r0 r1 r2 r3 r4 r5 hF hFx hbx hW1 hBW hP1 hT1 hO1 hB1 hO2 hB2 hfb L0 L1 L2 L3 L4 L5
 unfold tmA at HPl
 go_wp2_with fail
 refine (HPl.o).mono ?_
 rintro e w3 ⟨x1, x2, rfl, q1, q2, qne, hb3⟩
 have hO3 := HO2.o.below hb3 HO2.o.lt
 have hz3 := hb3.size
 obtain ⟨D1, d1, e1, _, _⟩ := q1.shape
 obtain ⟨D2, d2, e2, _, _⟩ := q2.shape
 rw [bD, dD] at e1 e2
 subst e1 e2
 have o0 := hO3.cell 0
 have o1 := hO3.cell 1
 have f0 := hO3.frozen 0
 have f1 := hO3.frozen 1
 simp only [Yl] at o0 o1
 have lO3 := hO3.lt
 have hB3 := HB2.o.trans (hb3.mono hz2)
 have hne1 := q1.ne_blk hO3 Ze
 have hne2 := q2.ne_blk hO3 Ze
 have Q1 := bA ((q1.far (p := ⟨w.heap.size + 1 + 1, 0, none⟩) hne1 (.slice D1 l.length d1)).far (p := ⟨w.heap.size + 1 + 1, 1, none⟩) hne1 (.slice D2 l.length d2))
 have Q2 := bA ((q2.far (p := ⟨w.heap.size + 1 + 1, 0, none⟩) hne2 (.slice D1 l.length d1)).far (p := ⟨w.heap.size + 1 + 1, 1, none⟩) hne2 (.slice D2 l.length d2))
 have Qne := bA qne
 have HB3 := bA hB3
 clear q1 q2 qne hb3 hB3 HPl hne1 hne2 p0 p1 t0 t1 t2 hP2 hT2 hO3
 go_wp2_with fail
 go_tidy
 refine bodyPost_ret (v := .tuple #[.agg #[.slice D1 l.length d1, .slice D2 l.length d2], .int .i64 0]) (by simp [results, results97, go_sem, o0, o1, f0, f1, Vw, Vv]; try rfl) rfl ?_
 exact ⟨(HB3.o.setCell Zd _).setCell Zd _, .inr ⟨H0.o, F, _, _, HF.o, rfl, Q1.out.mono Zb, Q2.out.mono Zb, Qne.out⟩⟩)
 · (
 have h0' : (fxE regs l t != 0) = true := by simp [h0]
 have H0 := bA h0
 clear h0
 go_enter func97, ntmps97
 go_wp2_with fail
 refine (HX.o _ Yc).mono ?_
 rintro e w1 ⟨hb1, h⟩
 obtain ⟨-, rfl⟩ := h.resolve_right (fun h => H0.o h.1)
 clear h
 refine Ww fun hz1 hB1 => ?_
 have hO1 : Blk w1 (w.heap.size + 1 + 1) 133 #[.slice none 0 0, .slice none 0 0] := Blk.below Ye hb1 Zd
 clear hb1
 unfold nil6
 go_upto_region 2 with fail
 obtain ⟨W1, hW1⟩ := Exq (w1.alloc (.cells #[.slice none 0 0, .slice none 0 0, .slice none 0 0, .slice none 0 0, .slice none 0 0, .slice none 0 0] 152))
 have hB2 : Below w.heap.size w W1 := by rw [hW1]; exact hB1.alloc Zb _
 have hO1 : Blk W1 (w.heap.size + 1 + 1) 133 #[.slice none 0 0, .slice none 0 0] := by rw [hW1]; exact hO1.alloc _
 rw [← hW1]
 clear hW1 hB1
 have o0 := hO1.cell 0
 have o1 := hO1.cell 1
 have f0 := hO1.frozen 0
 have f1 := hO1.frozen 1
 simp only [Yl] at o0 o1
 have lO := hO1.lt
 go_wp2_with fail
 go_tidy
 refine bodyPost_ret (v := .tuple #[.agg #[.slice none 0 0, .slice none 0 0], .int .i64 (fxE regs l t)]) (by simp [results, results97, go_sem, o0, o1, f0, f1, Vw, Vv]; try rfl) rfl ?_
 exact ⟨(hB2.setCell Zd _).setCell Zd _, .inl ⟨H0.o, rfl⟩⟩))
end
def jA (h : Int) (tk : List Bool) (l : List Nd) (k : Nat) : Nd := if yn tk k = true then ⟨2, (nd l k).d, h, 0, (nd l k).t, 0⟩ else nd l k
def gD (h : Int) (tk : List Bool) (l : List Nd) (k : Nat) : List Nd := (List.range l.length).map fun i => if i < k then jA h tk l i else nd l i
def lC (h : Int) (tk : List Bool) (l : List Nd) : List Nd := (List.range l.length).map (jA h tk l)
def vW (h : Int) (t : Tm) (m : Nat) : Nd := ⟨t.op, h, t.a, t.b, (m : Int), 0⟩
def uX (h : Int) (t : Tm) (out : List Nd) (k : Nat) : List Nd := (out ++ [nd out k]).set k (vW h t out.length)
def jD (h : Int) (t : Tm) (pt : List Bool) (out : List Nd) : Nat → List Nd
 | 0 => out
 | k + 1 => if yn pt k = true then uX h t (jD h t pt out k) k else jD h t pt out k
def dF (h : Int) (t : Tm) (pt tk : List Bool) (l : List Nd) : List Nd := jD h t pt (lC h tk l) l.length
theorem bBT (h : Int) (tk : List Bool) (l : List Nd) : gD h tk l 0 = l := by (
 refine List.ext_getElem? fun i => ?_
 by_cases hi : i < l.length
 · simp [gD, hi, nd, Vy]
 · rw [List.getElem?_eq_none (by simp [gD]; omega), List.getElem?_eq_none Zb])
theorem bFN (h : Int) (tk : List Bool) (l : List Nd) : gD h tk l l.length = lC h tk l := by (
 unfold gD lC
 apply List.map_congr_left
 intro i hi
 rw [if_pos (List.mem_range.1 hi)])
theorem lB (h : Int) (tk : List Bool) (l : List Nd) (k : Nat) : (gD h tk l k).length = l.length := by simp [gD]
theorem qY (h : Int) (tk : List Bool) (l : List Nd) (k : Nat) {i : Nat} (hi : i < l.length) : (gD h tk l k)[i]? = some (if i < k then jA h tk l i else nd l i) := by simp [gD, hi]
theorem bBU {h : Int} {tk : List Bool} {l : List Nd} {k : Nat} (hk : k < l.length) : gD h tk l (k + 1) = (gD h tk l k).set k (jA h tk l k) := by (
 refine List.ext_getElem? fun i => ?_
 by_cases hi : i < l.length
 · (
 rw [qY _ _ _ _ hi, List.getElem?_set, lB, qY _ _ _ _ hi]
 by_cases e : k = i
 · subst e; simp [hk]
 · (
 rw [if_neg e]
 by_cases h2 : i < k
 · rw [if_pos h2, if_pos Zb]
 · rw [if_neg h2, if_neg Zb]))
 · rw [List.getElem?_eq_none Xb, List.getElem?_eq_none (by rw [List.length_set, lB]; omega)])
theorem bBV {h : Int} {tk : List Bool} {l : List Nd} {k : Nat} (hk : yn tk k = false) : gD h tk l (k + 1) = gD h tk l k := by (
 unfold gD
 apply List.map_congr_left
 intro i hi
 by_cases e : i = k
 · (
 subst e
 rw [if_pos Zb, if_neg Zb, jA, if_neg (by rw [hk]; simp)])
 · (
 by_cases h2 : i < k
 · rw [if_pos h2, if_pos Zb]
 · rw [if_neg h2, if_neg Zb]))
theorem vV (h : Int) (t : Tm) (pt : List Bool) (out : List Nd) : ∀ k, k ≤ out.length →
 jD h t pt out k = ((List.range out.length).map fun i => if i < k ∧ yn pt i = true then vW h t (out.length + rk pt i) else nd out i) ++ ((List.range k).filter fun i => yn pt i).map (nd out)
| 0, _ => by (
 rw [jD]
 refine List.ext_getElem? fun i => ?_
 by_cases hi : i < out.length
 · simp [hi, nd, Vy]
 · rw [List.getElem?_eq_none Zb, List.getElem?_eq_none Zh])
| k + 1, hk => by (
 have ih := vV h t pt out k Zb
 have hlen : (((List.range k).filter fun i => yn pt i).map (nd out)).length = rk pt k := by (
 rw [Uj]
 clear ih hk
 induction k with
 | zero => rfl
 | succ k ih => rw [List.range_succ, List.filter_append, Vz, ih, rk]; by_cases e : yn pt k = true <;> simp [e])
 by_cases hy : yn pt k = true
 · (
 rw [jD, if_pos hy, uX, ih]
 have hnd : nd ((List.range out.length).map (fun i => if i < k ∧ yn pt i = true then vW h t (out.length + rk pt i) else nd out i) ++ ((List.range k).filter fun i => yn pt i).map (nd out)) k = nd out k := by (
 refine dJ ?_
 rw [Uk Zh]
 have : k < out.length := Zb
 simp [this])
 rw [hnd, Vz, hlen, Uj, List.length_range, List.append_assoc, List.set_append_left _ _ Zh]
 congr 1
 · (
 refine List.ext_getElem? fun i => ?_
 rw [List.getElem?_set]
 by_cases hi : i < out.length
 · (
 by_cases e : k = i
 · subst e; simp [hi, hy]
 · (
 rw [if_neg e]
 simp only [List.getElem?_map, List.getElem?_range hi, Option.map_some]
 by_cases h2 : i < k ∧ yn pt i = true
 · rw [if_pos h2, if_pos ⟨Zb, h2.2⟩]
 · rw [if_neg h2, if_neg (fun h3 => h2 ⟨Zb, h3.2⟩)]))
 · rw [if_neg Zb, List.getElem?_eq_none Zh, List.getElem?_eq_none Zh])
 · (
 rw [List.range_succ, List.filter_append, List.map_append]
 simp [hy]))
 · (
 have hy : yn pt k = false := by simpa using hy
 rw [jD, if_neg (by rw [hy]; simp), ih]
 congr 1
 · (
 apply List.map_congr_left
 intro i hi
 by_cases e : i = k
 · subst e; simp [hy]
 · (
 by_cases h2 : i < k ∧ yn pt i = true
 · rw [if_pos h2, if_pos ⟨Zb, h2.2⟩]
 · rw [if_neg h2, if_neg (fun h3 => h2 ⟨Zb, h3.2⟩)]))
 · (
 rw [List.range_succ, List.filter_append, List.map_append]
 simp [hy])))
section
attribute [local irreducible] Row madeCells bO
def mK (t : Tm) (tk : List Bool) (l : List Nd) : Bool := (List.range l.length).any fun k => yn tk k && !rkB t (nd l k)
def maE (regs : Int) (l : List Nd) (t : Tm) (pt tk : List Bool) : Int :=
 if fxE regs l t ≠ 0 then fxE regs l t else if pt.length ≠ l.length ∨ tk.length ≠ l.length then 1 else if mK t tk l = true then 1 else if 256 < (dF regs t pt tk l).length ∨ 64 < regs + 1 then 2 else 0
def pQ (tN : TypeId) (regs : Int) (l : List Nd) (t : Tm) (pt tk : List Bool) (w : World) (e : Ending) (w' : World) : Prop :=
 Below w.heap.size w w' ∧ ((maE regs l t pt tk ≠ 0 ∧ e = .returned (.tuple #[.agg #[.int .i64 0, .slice none 0 0], .int .i64 (maE regs l t pt tk)])) ∨
  (maE regs l t pt tk = 0 ∧ ∃ v, e = .returned (.tuple #[.agg #[.int .i64 (regs + 1), v], .int .i64 0]) ∧ cO w' w.heap.size tN v (dF regs t pt tk l)))
theorem bLA (regs : Int) (A : Option Addr) (l : List Nd) (cap : Nat) (t : Tm) (X Y : Option Addr) (pt tk : List Bool) (xc yc : Nat) (w : World) (hl : l.length ≤ maxLen) (hA : bH w A l) (h0 : fxE regs l t ≠ 0) :
 Calls prog 100 #[.agg #[.int .i64 regs, .slice A l.length cap], .agg #[.int .i64 t.op, .int .i64 t.a, .int .i64 t.b], .agg #[.slice X pt.length xc, .slice Y tk.length yc]] w (pQ 39 regs l t pt tk w) := by (
 have HX := bA (fun W (hW : Below w.heap.size w W) => kT regs A l cap t W hl (hA.below hW))
 have hE : maE regs l t pt tk = fxE regs l t := by unfold maE; rw [if_pos h0]
 unfold pQ
 rw [hE]
 clear hA hE
 have h0' : (fxE regs l t != 0) = true := by simp [h0]
 have H0 := bA h0
 clear h0
 go_enter func100, ntmps100
 go_wp2_with fail
 refine (HX.o _ Yc).mono ?_
 rintro e w1 ⟨hb1, h⟩
 obtain ⟨-, rfl⟩ := h.resolve_right (fun h => H0.o h.1)
 clear h
 refine Ww fun hz1 hB1 => ?_
 have hO1 : Blk w1 (w.heap.size + 1 + 1 + 1) 24 #[.int .i64 0, .slice none 0 0] := Blk.below Ye hb1 Zd
 clear hb1
 unfold nil6
 go_upto_region 2 with fail
 obtain ⟨W1, hW1⟩ := Exq (w1.alloc (.cells #[.slice none 0 0, .slice none 0 0, .slice none 0 0, .slice none 0 0, .slice none 0 0, .slice none 0 0] 152))
 have hB2 : Below w.heap.size w W1 := by rw [hW1]; exact hB1.alloc Zb _
 have hO1 : Blk W1 (w.heap.size + 1 + 1 + 1) 24 #[.int .i64 0, .slice none 0 0] := by rw [hW1]; exact hO1.alloc _
 rw [← hW1]
 clear hW1 hB1
 have o0 := hO1.cell 0
 have o1 := hO1.cell 1
 have f0 := hO1.frozen 0
 have f1 := hO1.frozen 1
 simp only [Yl] at o0 o1
 have lO := hO1.lt
 go_wp2_with fail
 go_tidy
 refine bodyPost_ret (v := .tuple #[.agg #[.int .i64 0, .slice none 0 0], .int .i64 (fxE regs l t)]) (by simp [results, results100, go_sem, o0, o1, f0, f1, Vw, Vv]; try rfl) rfl ?_
 exact ⟨(hB2.setCell Zd _).setCell Zd _, .inl ⟨H0.o, rfl⟩⟩)
theorem zW (regs : Int) (A : Option Addr) (l : List Nd) (cap : Nat) (t : Tm) (X Y : Option Addr) (pt tk : List Bool) (xc yc : Nat) (w : World) (hl : l.length ≤ maxLen) (hA : bH w A l) (h0 : fxE regs l t = 0) (h1 : pt.length ≠ l.length ∨ tk.length ≠ l.length) :
 Calls prog 100 #[.agg #[.int .i64 regs, .slice A l.length cap], .agg #[.int .i64 t.op, .int .i64 t.a, .int .i64 t.b], .agg #[.slice X pt.length xc, .slice Y tk.length yc]] w (pQ 39 regs l t pt tk w) := by (
 have HX := bA (fun W (hW : Below w.heap.size w W) => kT regs A l cap t W hl (hA.below hW))
 have hE : maE regs l t pt tk = 1 := by unfold maE; rw [if_neg (by rw [h0]; simp), if_pos h1]
 unfold pQ
 rw [hE]
 clear hA hE
 have H0 := bA h0
 clear h0
 go_enter func100, ntmps100
 go_wp2_with fail
 refine (HX.o _ Yc).mono ?_
 rintro e w1 ⟨hb1, h⟩
 obtain ⟨-, F, v0, v1, v2, v3, v4, v5, rfl, hF, r0, r1, r2, r3, r4, r5⟩ := h.resolve_left (fun h => h.1 H0.o)
 clear h
 obtain ⟨A0, c0, e0, _, _⟩ := r0.shape
 subst e0
 obtain ⟨A1, c1, e1, _, _⟩ := r1.shape
 subst e1
 obtain ⟨A2, c2, e2, _, _⟩ := r2.shape
 subst e2
 obtain ⟨A3, c3, e3, _, _⟩ := r3.shape
 subst e3
 obtain ⟨A4, c4, e4, _, _⟩ := r4.shape
 subst e4
 obtain ⟨A5, c5, e5, _, _⟩ := r5.shape
 subst e5
 refine Ww fun hz1 hB1 => ?_
 have hP1 : Blk w1 w.heap.size 24 #[.int .i64 regs, .slice A l.length cap] := Blk.below Ye hb1 Zd
 have hL1 : Blk w1 (w.heap.size + 1 + 1) 133 #[.slice X pt.length xc, .slice Y tk.length yc] := Blk.below Ye hb1 Zd
 have hO1 : Blk w1 (w.heap.size + 1 + 1 + 1) 24 #[.int .i64 0, .slice none 0 0] := Blk.below Ye hb1 Zd
 clear hb1 r0 r1 r2 r3 r4 r5 hF
 go_upto_region 2 with fail
 obtain ⟨W1, hW1⟩ := Exq (w1.alloc (.cells #[.slice A0 (bE F.down).length c0, .slice A1 (bE F.up).length c1, .slice A2 (bE F.early).length c2, .slice A3 (bE F.delay).length c3, .slice A4 (bE F.late).length c4, .slice A5 (bE F.alone).length c5] 152))
 have hB2 : Below w.heap.size w W1 := by rw [hW1]; exact hB1.alloc Zb _
 have hO1 : Blk W1 (w.heap.size + 1 + 1 + 1) 24 #[.int .i64 0, .slice none 0 0] := by rw [hW1]; exact hO1.alloc _
 have hP1 : Blk W1 w.heap.size 24 #[.int .i64 regs, .slice A l.length cap] := by rw [hW1]; exact hP1.alloc _
 have hL1 : Blk W1 (w.heap.size + 1 + 1) 133 #[.slice X pt.length xc, .slice Y tk.length yc] := by rw [hW1]; exact hL1.alloc _
 rw [← hW1]
 clear hW1 hB1
 have o0 := hO1.cell 0
 have o1 := hO1.cell 1
 have f0 := hO1.frozen 0
 have f1 := hO1.frozen 1
 simp only [Yl] at o0 o1
 have lO := hO1.lt
 have p1 := hP1.cell 1
 have x0 := hL1.cell 0
 have x1 := hL1.cell 1
 simp only [Yl] at p1 x0 x1
 have lp := hP1.lt
 have lx := hL1.lt
 by_cases h2 : pt.length = l.length
 · (
 have h3 : tk.length ≠ l.length := h1.resolve_left (fun h => h h2)
 have d1 : ((pt.length : Int) != (l.length : Int)) = false := by simp [h2]
 have d2 : ((tk.length : Int) != (l.length : Int)) = true := by simp; omega
 have D1 := bA d1
 clear h1 h2 h3
 go_wp2_with fail
 go_tidy
 refine bodyPost_ret (v := .tuple #[.agg #[.int .i64 0, .slice none 0 0], .int .i64 1]) (by simp [results, results100, go_sem, o0, o1, f0, f1, Vw, Vv]; try rfl) rfl ?_
 exact ⟨(hB2.setCell Zd _).setCell Zd _, .inl ⟨Ze, rfl⟩⟩)
 · (
 have d1 : ((pt.length : Int) != (l.length : Int)) = true := by simp; omega
 clear h1 h2
 go_wp2_with fail
 go_tidy
 refine bodyPost_ret (v := .tuple #[.agg #[.int .i64 0, .slice none 0 0], .int .i64 1]) (by simp [results, results100, go_sem, o0, o1, f0, f1, Vw, Vv]; try rfl) rfl ?_
 exact ⟨(hB2.setCell Zd _).setCell Zd _, .inl ⟨Ze, rfl⟩⟩))
end
section
attribute [local irreducible] Row madeCells
def mU (t : Tm) (tk : List Bool) (l : List Nd) : Bool := (List.range l.length).any fun k => yn tk k && !fJ t (nd l k)
def apE (regs : Int) (l : List Nd) (t : Tm) (pt tk : List Bool) : Int :=
 if fxE regs l t ≠ 0 then fxE regs l t else if pt.length ≠ l.length ∨ tk.length ≠ l.length then 1 else if mU t tk l = true then 1 else if 256 < l.length + rk pt l.length ∨ regs = 64 then 2 else 0
theorem yJ (regs : Int) (A : Option Addr) (l : List Nd) (cap : Nat) (t : Tm) (X Y : Option Addr) (pt tk : List Bool) (xc yc : Nat) (w : World) (hl : l.length ≤ 256) (hA : bH w A l) (hX : bG w X (bE pt)) (hY : bG w Y (bE tk)) (h0 : fxE regs l t = 0) (h1 : pt.length = l.length) (h2 : tk.length = l.length) :
 Calls prog 77 #[.agg #[.int .i64 regs, .slice A l.length cap], .agg #[.int .i64 t.op, .int .i64 t.a, .int .i64 t.b], .agg #[.slice X pt.length xc, .slice Y tk.length yc]] w fun e w' => e = .returned (.int .i64 (apE regs l t pt tk)) ∧ Below w.heap.size w w' := by (
 have HE := bA (fun W (hW : Below w.heap.size w W) => iX regs A l cap t W (hA.below hW))
 rw [h0] at HE
 have hE : apE regs l t pt tk = if mU t tk l = true then 1 else if 256 < l.length + rk pt l.length ∨ regs = 64 then 2 else 0 := by unfold apE; rw [if_neg (by rw [h0]; simp), if_neg (by rw [h1, h2]; simp)]
 rw [hE]
 obtain ⟨ev, hev⟩ := Exq ((if mU t tk l = true then 1 else if 256 < l.length + rk pt l.length ∨ regs = 64 then 2 else 0) : Int)
 rw [← hev]
 have Hev := bA hev
 clear hev
 have HN := bA hA
 have HX := bA hX
 have HY := bA hY
 have Hp := bA h1
 have Hk := bA h2
 have d1 : ((l.length : Int) != (l.length : Int)) = false := Zf
 rw [h1, h2]
 clear hA hX hY h0 h1 h2 hE
 go_enter func77, ntmps77
 go_wp2_with fail
 refine (HE.o _ Yc).mono ?_
 rintro e w1 ⟨rfl, hb1⟩
 refine Ww fun hz1 hB1 => ?_
 have hP : Blk w1 w.heap.size 24 #[.int .i64 regs, .slice A l.length cap] := Blk.below Ye hb1 Zd
 have hT : Blk w1 (w.heap.size + 1) 56 #[.int .i64 t.op, .int .i64 t.a, .int .i64 t.b] := Blk.below Ye hb1 Zd
 have hL : Blk w1 (w.heap.size + 1 + 1) 133 #[.slice X l.length xc, .slice Y l.length yc] := Blk.below Ye hb1 Zd
 clear hb1
 have p0 := hP.cell 0
 have p1 := hP.cell 1
 have x0 := hL.cell 0
 have x1 := hL.cell 1
 have lp := hP.lt
 have lx := hL.lt
 simp only [Yl] at p0 p1 x0 x1
 have HP := bA hP
 have HT := bA hT
 have HL := bA hL
 have HB := bA hB1
 clear hP hT hL hB1
 go_wp2_with fail
 go_loopg [8, 9] (l.length) (fun gk s8 i wr => ∃ k : Nat, k ≤ l.length ∧ s8 = .int .i64 ((l.length + rk pt k : Nat) : Int) ∧ i = .int .i64 k ∧ gk = l.length - k ∧ Below w1.heap.size w1 wr ∧ ∀ j, j < k → (yn tk j && !fJ t (nd l j)) = false)
 case atStart => exact ⟨0, Nat.zero_le _, rfl, rfl, rfl, Below.refl _ _, fun j hj => by omega⟩
 case round => (
 clear p0 p1 x0 x1 lp lx
 obtain ⟨k, hk, rfl, rfl, hgk, hS, hno⟩ := hrel
 have Hgk := bA hgk
 have Hno := bA hno
 clear hgk hno
 have hP := HP.o.below hS HP.o.lt
 have hL := HL.o.below hS HL.o.lt
 have p0 := hP.cell 0
 have p1 := hP.cell 1
 have x0 := hL.cell 0
 have x1 := hL.cell 1
 have lp := hP.lt
 have lx := hL.lt
 simp only [Yl] at p0 p1 x0 x1
 have hB := HB.o.trans (hS.mono HB.o.size)
 have hrk := rU pt k
 by_cases hlt : k < l.length
 · (
 obtain ⟨nb, no, nn, rfl, hnb, hn, hnl⟩ := (HN.o.below hB).get hlt
 obtain ⟨n0, n1, n2, n3, n4, n5⟩ := hnl
 obtain ⟨yb, yo, ey, ly, yv⟩ := (HY.o.below hB).bool (k := k) (by rw [Hk.o]; exact hlt)
 subst ey
 obtain ⟨xb, xo, ex, lxb, xv⟩ := (HX.o.below hB).bool (k := k) (by rw [Hp.o]; exact hlt)
 subst ex
 have hT := HT.o.below hS HT.o.lt
 have t0 := hT.cell 0
 have t1 := hT.cell 1
 have t2 := hT.cell 2
 have ltb := hT.lt
 simp only [Yl] at t0 t1 t2
 refine Vf fun u0 u1 Hn => ?_
 have HS := bA hS
 have HBk := bA hB
 clear hn hS hB hP hL hT
 go_upto_region 10 with fail
 go_cut [9, 56] (fun s9 s56 wx => s9 = .int .i64 k ∧ s56 = .bool (yn tk k && !fJ t nn) ∧ Below wr.heap.size wr wx)
 case first => (
 have hc0 : Below wr.heap.size wr wr.drew := (Below.refl _ _).drew
 cases hy : yn tk k
 case false => (
 rw [hy] at yv
 refine wp_region_held_drew (S := fun w' => (w'.cell? ⟨w.heap.size + 1 + 1, 1, none⟩ = some (.slice (some ⟨yb, yo, none⟩) l.length yc) ∧ w'.cell? ⟨yb, yo + k, none⟩ = some (.bool false) ∧ w'.cell? ⟨w.heap.size, 1, none⟩ = some (.slice (some ⟨nb, no, none⟩) l.length cap) ∧ w'.cell? ⟨nb, no + k * 6, none⟩ = some (.int .i64 nn.op) ∧ w'.cell? ⟨nb, no + k * 6 + 1, none⟩ = some (.int .i64 nn.d) ∧ w'.cell? ⟨nb, no + k * 6 + 2, none⟩ = some (.int .i64 nn.a) ∧ w'.cell? ⟨nb, no + k * 6 + 3, none⟩ = some (.int .i64 nn.b) ∧ w'.cell? ⟨nb, no + k * 6 + 4, none⟩ = some (.int .i64 nn.t) ∧ w'.cell? ⟨nb, no + k * 6 + 5, none⟩ = some (.int .i64 nn.e) ∧ w'.cell? ⟨w.heap.size + 1, 0, none⟩ = some (.int .i64 t.op) ∧ w'.cell? ⟨w.heap.size + 1, 1, none⟩ = some (.int .i64 t.a) ∧ w'.cell? ⟨w.heap.size + 1, 2, none⟩ = some (.int .i64 t.b))) Zc ⟨x1, yv, p1, n0, n1, n2, n3, n4, n5, t0, t1, t2⟩ ?_
 intro hH
 refine Up (fun _ _ _ _ _ => id) fun hPq => ?_
 iterate 1 (refine Wc hPq hH ?_; try simp only [Nm])
 iterate 1 (refine Wb hPq hH ?_; try simp only [Nm])
 iterate 2 (refine Wc hPq hH ?_; try simp only [Nm])
 iterate 1 (refine Wb hPq hH ?_; try simp only [Nm])
 iterate 10 ((first | refine Wd hPq hH ?_ | refine Wc hPq hH ?_); try simp only [Nm])
 refine wpAnyH_done Zc ?_ _
 go_wp2_with fail
 go_meet
 go_tidy
 exact ⟨rfl, by rw [hy]; rfl, hc0⟩)
 case true => (
 rw [hy] at yv
 refine wp_region_held_drew (S := fun w' => (w'.cell? ⟨w.heap.size + 1 + 1, 1, none⟩ = some (.slice (some ⟨yb, yo, none⟩) l.length yc) ∧ w'.cell? ⟨yb, yo + k, none⟩ = some (.bool true) ∧ w'.cell? ⟨w.heap.size, 1, none⟩ = some (.slice (some ⟨nb, no, none⟩) l.length cap) ∧ w'.cell? ⟨nb, no + k * 6, none⟩ = some (.int .i64 nn.op) ∧ w'.cell? ⟨nb, no + k * 6 + 1, none⟩ = some (.int .i64 nn.d) ∧ w'.cell? ⟨nb, no + k * 6 + 2, none⟩ = some (.int .i64 nn.a) ∧ w'.cell? ⟨nb, no + k * 6 + 3, none⟩ = some (.int .i64 nn.b) ∧ w'.cell? ⟨nb, no + k * 6 + 4, none⟩ = some (.int .i64 nn.t) ∧ w'.cell? ⟨nb, no + k * 6 + 5, none⟩ = some (.int .i64 nn.e) ∧ w'.cell? ⟨w.heap.size + 1, 0, none⟩ = some (.int .i64 t.op) ∧ w'.cell? ⟨w.heap.size + 1, 1, none⟩ = some (.int .i64 t.a) ∧ w'.cell? ⟨w.heap.size + 1, 2, none⟩ = some (.int .i64 t.b))) Zc ⟨x1, yv, p1, n0, n1, n2, n3, n4, n5, t0, t1, t2⟩ ?_
 intro hH
 refine Up (fun _ _ _ _ _ => id) fun hPq => ?_
 iterate 1 (refine Wc hPq hH ?_; try simp only [Nm])
 iterate 1 (refine Wb hPq hH ?_; try simp only [Nm])
 iterate 2 (refine Wc hPq hH ?_; try simp only [Nm])
 iterate 1 (refine Wb hPq hH ?_; try simp only [Nm])
 iterate 2 (refine Wc hPq hH ?_; try simp only [Nm])
 iterate 1 (refine Wb hPq hH ?_; try simp only [Nm])
 iterate 2 (refine Wc hPq hH ?_; try simp only [Nm])
 iterate 2 (refine Wb hPq hH ?_; try simp only [Nm])
 refine Rd 12 Zc rfl (fun K hK => ?_)
 have HK12 := bA hK
 clear hK
 go_simp
 go_at_call 105
 refine (bW nn t _).mono ?_
 rintro e V1 ⟨rfl, hbV⟩
 have hC1 : Below wr.heap.size wr V1 := hc0.trans (hbV.mono hc0.size)
 clear hH
 refine Shut.out HK12.o _ _ ⟨((bB hC1).1 _ _ Zb).trans x1, ((bB hC1).1 _ _ Zb).trans yv, ((bB hC1).1 _ _ Zb).trans p1, ((bB hC1).1 _ _ Zb).trans n0, ((bB hC1).1 _ _ Zb).trans n1, ((bB hC1).1 _ _ Zb).trans n2, ((bB hC1).1 _ _ Zb).trans n3, ((bB hC1).1 _ _ Zb).trans n4, ((bB hC1).1 _ _ Zb).trans n5, ((bB hC1).1 _ _ Zb).trans t0, ((bB hC1).1 _ _ Zb).trans t1, ((bB hC1).1 _ _ Zb).trans t2⟩ (fun hH => ?_)
 try simp only [Nm]
 clear HK12
 iterate 2 (refine Wc hPq hH ?_; try simp only [Nm])
 refine wpAnyH_done Zc ?_ _
 go_wp2_with fail
 go_meet
 go_tidy
 exact ⟨rfl, by rw [hy]; simp, hC1⟩))
 case rest => (
 obtain ⟨rfl, rfl, hbc⟩ := hcut
 have hSc := HS.o.trans (hbc.mono HS.o.size)
 have hBc := HBk.o.trans (hbc.mono HBk.o.size)
 have x0 := ((bB hbc).1 _ _ lx).trans x0
 have lx := V6 lx hbc.size
 have xv := ((bB hbc).1 _ _ lxb).trans xv
 have lxb := V6 lxb hbc.size
 clear yv x1 p0 p1 n0 n1 n2 n3 n4 n5 t0 t1 t2 lp ltb ly hnb
 cases hq : (yn tk k && !fJ t nn)
 case true => (
 have hbad : mU t tk l = true := by (
 unfold mU
 rw [List.any_eq_true]
 exact ⟨k, List.mem_range.2 hlt, by rw [dJ Hn.o]; exact hq⟩)
 have Hbad := bA hbad
 have HBc := bA hBc
 clear hq hbad hBc hbc hSc
 go_wp2_with fail
 go_ret
 exact ⟨by rw [Hev.o, if_pos Hbad.o]; rfl, HBc.o⟩)
 case false => (
 have Hq := bA hq
 have HSc := bA hSc
 clear hq hbc hSc hBc
 have hno' : ∀ j, j < k + 1 → (yn tk j && !fJ t (nd l j)) = false := fun j hj => by (
 by_cases e : j = k
 · rw [e, dJ Hn.o]; exact Hq.o
 · exact Hno.o j Zb)
 have Hno' := bA hno'
 clear hno'
 cases hp : yn pt k
 case false => (
 rw [hp] at xv
 have Hpk := bA (bMK hp)
 clear hp
 go_wp2_with fail
 go_roundg (l.length - (k + 1))
 case measure => exact Jg
 case rel => exact ⟨k + 1, Zb, by rw [Hpk.o], by go_num, rfl, HSc.o, Hno'.o⟩)
 case true => (
 rw [hp] at xv
 have Hpk := bA (vT hp)
 clear hp
 have hw8 : IntKind.i64.wrap (((l.length + rk pt k : Nat) : Int) + 1) = ((l.length + (rk pt k + 1) : Nat) : Int) := by rw [IntKind.wrap_i64]; omega
 go_wp2_with fail
 go_roundg (l.length - (k + 1))
 case measure => exact Jg
 case rel => exact ⟨k + 1, Zb, by rw [Hpk.o]; first | rfl | (congr 1; omega) | go_num, by go_num, rfl, HSc.o, Hno'.o⟩))))
 · (
 have hkk : k = l.length := Zb
 subst hkk
 have hbad : mU t tk l = false := by (
 unfold mU
 rw [List.any_eq_false]
 intro j hj
 rw [Hno.o j (List.mem_range.1 hj)]; simp)
 have hv : (if mU t tk l = true then (1 : Int) else if 256 < l.length + rk pt l.length ∨ regs = 64 then 2 else 0) = if 256 < l.length + rk pt l.length ∨ regs = 64 then 2 else 0 := by rw [if_neg (by rw [hbad]; simp)]
 have HBf := bA hB
 have Hv := bA hv
 clear hbad hv hB hS hP hL Hno Hgk hk hlt
 by_cases h1 : 256 < l.length + rk pt l.length
 · (
 have y0 : (256 : Int) < ((l.length + rk pt l.length : Nat) : Int) := Zb
 have Hw := bA (Hv.o.trans (if_pos (.inl h1)))
 go_wp2_with fail
 go_ret
 exact ⟨by rw [Hev.o, Hw.o]; rfl, HBf.o⟩)
 · (
 have y0 : ¬ (256 : Int) < ((l.length + rk pt l.length : Nat) : Int) := Zb
 by_cases h2 : regs = 64
 · (
 have Hw := bA (Hv.o.trans (if_pos (.inr h2)))
 have y1 : (regs == 64) = true := by simpa using h2
 clear h2
 go_wp2_with fail
 go_ret
 exact ⟨by rw [Hev.o, Hw.o]; rfl, HBf.o⟩)
 · (
 have Hw := bA (Hv.o.trans (if_neg (fun h => h.elim h1 h2)))
 have y1 : (regs == 64) = false := by simpa using h2
 clear h2
 go_wp2_with fail
 go_ret
 exact ⟨by rw [Hev.o, Hw.o]; rfl, HBf.o⟩)))))
theorem xP (regs : Int) (A : Option Addr) (l : List Nd) (cap : Nat) (t : Tm) (X Y : Option Addr) (pt tk : List Bool) (xc yc : Nat) (w : World) (hA : bH w A l) (h0 : fxE regs l t ≠ 0) :
 Calls prog 77 #[.agg #[.int .i64 regs, .slice A l.length cap], .agg #[.int .i64 t.op, .int .i64 t.a, .int .i64 t.b], .agg #[.slice X pt.length xc, .slice Y tk.length yc]] w fun e w' => e = .returned (.int .i64 (apE regs l t pt tk)) ∧ Below w.heap.size w w' := by (
 have HE := bA (fun W (hW : Below w.heap.size w W) => iX regs A l cap t W (hA.below hW))
 have hE : apE regs l t pt tk = fxE regs l t := by unfold apE; rw [if_pos h0]
 rw [hE]
 have h0' : (fxE regs l t != 0) = true := by simp [h0]
 clear hA hE h0
 generalize fxE regs l t = c at *
 go_enter func77, ntmps77
 go_wp2_with fail
 refine (HE.o _ Yc).mono ?_
 rintro e w1 ⟨rfl, hb1⟩
 have hB1 : Below w.heap.size w w1 := Yc
 clear hb1
 go_wp2_with fail
 go_ret
 exact ⟨rfl, hB1⟩)
theorem pS (regs : Int) (A : Option Addr) (l : List Nd) (cap : Nat) (t : Tm) (X Y : Option Addr) (pt tk : List Bool) (xc yc : Nat) (w : World) (hA : bH w A l) (h0 : fxE regs l t = 0) (h1 : pt.length ≠ l.length ∨ tk.length ≠ l.length) :
 Calls prog 77 #[.agg #[.int .i64 regs, .slice A l.length cap], .agg #[.int .i64 t.op, .int .i64 t.a, .int .i64 t.b], .agg #[.slice X pt.length xc, .slice Y tk.length yc]] w fun e w' => e = .returned (.int .i64 (apE regs l t pt tk)) ∧ Below w.heap.size w w' := by (
 have HE := bA (fun W (hW : Below w.heap.size w W) => iX regs A l cap t W (hA.below hW))
 rw [h0] at HE
 have hE : apE regs l t pt tk = 1 := by unfold apE; rw [if_neg (by rw [h0]; simp), if_pos h1]
 rw [hE]
 clear hA hE h0
 go_enter func77, ntmps77
 go_wp2_with fail
 refine (HE.o _ Yc).mono ?_
 rintro e w1 ⟨rfl, hb1⟩
 have hB1 : Below w.heap.size w w1 := Yc
 have hz1 := hb1.size
 simp only [World.size_alloc] at hz1
 have hP : Blk w1 w.heap.size 24 #[.int .i64 regs, .slice A l.length cap] := Blk.below Ye hb1 Zd
 have hL : Blk w1 (w.heap.size + 1 + 1) 133 #[.slice X pt.length xc, .slice Y tk.length yc] := Blk.below Ye hb1 Zd
 clear hb1
 have p1 := hP.cell 1
 have x0 := hL.cell 0
 have x1 := hL.cell 1
 have lp := hP.lt
 have lx := hL.lt
 simp only [Yl] at p1 x0 x1
 by_cases h2 : pt.length = l.length
 · (
 have h3 : tk.length ≠ l.length := h1.resolve_left (fun h => h h2)
 have d1 : ((pt.length : Int) != (l.length : Int)) = false := by simp [h2]
 have d2 : ((tk.length : Int) != (l.length : Int)) = true := by simp; omega
 clear h1 h2 h3
 go_wp2_with fail
 go_ret
 exact ⟨rfl, hB1⟩)
 · (
 have d1 : ((pt.length : Int) != (l.length : Int)) = true := by simp; omega
 clear h1 h2
 go_wp2_with fail
 go_ret
 exact ⟨rfl, hB1⟩))
theorem pT (regs : Int) (A : Option Addr) (l : List Nd) (cap : Nat) (t : Tm) (X Y : Option Addr) (pt tk : List Bool) (xc yc : Nat) (w : World) (hA : bH w A l) (hX : bG w X (bE pt)) (hY : bG w Y (bE tk)) :
 Calls prog 77 #[.agg #[.int .i64 regs, .slice A l.length cap], .agg #[.int .i64 t.op, .int .i64 t.a, .int .i64 t.b], .agg #[.slice X pt.length xc, .slice Y tk.length yc]] w fun e w' => e = .returned (.int .i64 (apE regs l t pt tk)) ∧ Below w.heap.size w w' := by (
 by_cases h0 : fxE regs l t = 0
 · (
 have hl : l.length ≤ 256 := by (
 by_cases hc : chk regs l = 0
 · exact (bS hc).hi
 · (
 unfold fxE at h0
 rw [if_pos hc] at h0
 exact absurd h0 hc))
 by_cases h1 : pt.length = l.length
 · (
 by_cases h2 : tk.length = l.length
 · exact yJ regs A l cap t X Y pt tk xc yc w hl hA hX hY h0 h1 h2
 · exact pS regs A l cap t X Y pt tk xc yc w hA h0 (.inr h2))
 · exact pS regs A l cap t X Y pt tk xc yc w hA h0 (.inl h1))
 · exact xP regs A l cap t X Y pt tk xc yc w hA h0)
end
theorem mH {regs : Int} {l : List Nd} {t : Tm} (h : fxE regs l t = 0) : chk regs l = 0 := by (
 by_cases hc : chk regs l = 0
 · exact hc
 · (
 unfold fxE at h
 rw [if_pos hc] at h
 exact h))
theorem bAS {regs : Int} {l : List Nd} {t : Tm} (h : fxE regs l t = 0) : 3 ≤ t.op ∧ t.op ≤ 8 := by (
 have hc := mH h
 unfold fxE at h
 rw [if_neg (by rw [hc]; simp)] at h
 by_cases ho : inB t.op 3 8 = false
 · rw [if_pos ho] at h; cases h
 · (
 have : inB t.op 3 8 = true := by simpa using ho
 simpa [inB] using this))
theorem xC (h : Int) (t : Tm) (pt tk : List Bool) (l : List Nd) : (dF h t pt tk l).length = l.length + rk pt l.length := by (
 have hl : (lC h tk l).length = l.length := by simp [lC]
 unfold dF
 rw [vV h t pt (lC h tk l) l.length Zb, Vz, Uj, Uj, List.length_range, hl]
 congr 1
 generalize l.length = k
 induction k with
 | zero => rfl
 | succ k ih => rw [List.range_succ, List.filter_append, Vz, ih, rk]; by_cases e : yn pt k = true <;> simp [e])
theorem ap_ma {regs : Int} {l : List Nd} {t : Tm} {pt tk : List Bool} : apE regs l t pt tk = maE regs l t pt tk := by (
 unfold apE maE
 by_cases h0 : fxE regs l t = 0
 · (
 have hR := bS (mH h0)
 have hop := bAS h0
 have hb : mU t tk l = mK t tk l := by (
 have h1 : ∀ k ∈ List.range l.length, (yn tk k && !fJ t (nd l k)) = (yn tk k && !rkB t (nd l k)) := fun k hk => by (
 have hk := List.mem_range.1 hk
 have hn : l[k]? = some (nd l k) := by rw [nd, Vy, Vx hk]; rfl
 rw [bFY hR (V4 hn) hop])
 unfold mU mK
 rw [Bool.eq_iff_iff, List.any_eq_true, List.any_eq_true]
 exact ⟨fun ⟨k, hk, h⟩ => ⟨k, hk, (h1 k hk) ▸ h⟩, fun ⟨k, hk, h⟩ => ⟨k, hk, (h1 k hk).symm ▸ h⟩⟩)
 have hr : (256 < l.length + rk pt l.length ∨ regs = 64) ↔ (256 < l.length + rk pt l.length ∨ 64 < regs + 1) := by (
 have := hR.rhi
 omega)
 rw [hb, xC]
 simp only [hr])
 · rw [if_pos h0, if_pos h0])
def eC (h : Int) (t : Tm) (pt tk : List Bool) (l : List Nd) (k : Nat) : List Nd := (List.range k).map fun i => if yn pt i = true then vW h t (l.length + rk pt i) else jA h tk l i
def gW (h : Int) (pt tk : List Bool) (l : List Nd) (k : Nat) : List Nd := ((List.range k).filter fun i => yn pt i).map (jA h tk l)
theorem wP (h : Int) (t : Tm) (pt tk : List Bool) (l : List Nd) (k : Nat) : (eC h t pt tk l k).length = k := by simp [eC]
theorem tQ (h : Int) (pt tk : List Bool) (l : List Nd) : ∀ k, (gW h pt tk l k).length = rk pt k
 | 0 => rfl
 | k + 1 => by (
 have ih := tQ h pt tk l k
 unfold gW at *
 rw [List.range_succ, List.filter_append, List.map_append, Vz, ih, rk]
 by_cases e : yn pt k = true <;> simp [e])
theorem mI (h : Int) (t : Tm) (pt tk : List Bool) (l : List Nd) (k : Nat) : eC h t pt tk l (k + 1) = eC h t pt tk l k ++ [if yn pt k = true then vW h t (l.length + rk pt k) else jA h tk l k] := by (
 simp [eC, List.range_succ])
theorem zQ {h : Int} {pt tk : List Bool} {l : List Nd} {k : Nat} (hy : yn pt k = true) : gW h pt tk l (k + 1) = gW h pt tk l k ++ [jA h tk l k] := by (
 simp [gW, List.range_succ, List.filter_append, hy])
theorem bEI {h : Int} {pt tk : List Bool} {l : List Nd} {k : Nat} (hy : yn pt k = false) : gW h pt tk l (k + 1) = gW h pt tk l k := by (
 simp [gW, List.range_succ, List.filter_append, hy])
theorem sE (h : Int) (t : Tm) (pt tk : List Bool) (l : List Nd) : dF h t pt tk l = eC h t pt tk l l.length ++ gW h pt tk l l.length := by (
 have hl : (lC h tk l).length = l.length := by simp [lC]
 have hn : ∀ i, i < l.length → nd (lC h tk l) i = jA h tk l i := fun i hi => dJ (by simp [lC, hi])
 unfold dF
 rw [vV h t pt (lC h tk l) l.length Zb, hl]
 congr 1
 · (
 unfold eC
 apply List.map_congr_left
 intro i hi
 have hi := List.mem_range.1 hi
 rw [hn i hi]
 by_cases e : yn pt i = true
 · rw [if_pos ⟨hi, e⟩, if_pos e]
 · rw [if_neg (fun h => e h.2), if_neg e])
 · (
 unfold gW
 apply List.map_congr_left
 intro i hi
 exact hn i (List.mem_range.1 (List.mem_filter.1 hi).1)))
section
section
variable (l : List Nd) (inp : List Int) (s : Rn)
end
theorem bM.regA {regs : Int} {l : List Nd} (hR : bM regs l) {n : Nd} (hn : n ∈ l) : (dE n.op = true → 0 ≤ n.d ∧ n.d < regs) ∧ (dC n.op = true → 0 ≤ n.a ∧ n.a < regs) ∧ (cG n.op = true → 0 ≤ n.b ∧ n.b < regs) := by
 have h := hR.rng n hn
 simp only [kI, Uf, Bool.not_eq_false'] at h
 obtain ⟨⟨⟨⟨h1, h2⟩, h3⟩, _⟩, _⟩ := h
 refine ⟨fun e => ?_, fun e => ?_, fun e => ?_⟩
 ·simpa [okR, e] using h1
 ·simpa [okR, e] using h2
 ·simpa [okR, e] using h3
theorem bGV {o : Int} (h : cG o = true) : dC o = true ∧ dE o = true ∧ o ≠ 11 ∧ o ≠ 12 ∧ o ≠ 10 ∧ o ≠ 9 ∧ o ≠ 1 ∧ o ≠ 2 := by
 simp only [cG, dC, dE, inB, V9, Bool.or_eq_true, decide_eq_true_eq] at *
 omega
section
variable {regs : Int} {t : Tm} {l : List Nd} {pt tk th : List Bool} {inp : List Int}
structure TmOk (regs : Int) (t : Tm) : Prop where
 op : 3 ≤ t.op ∧ t.op ≤ 8
 a : 0 ≤ t.a ∧ t.a < regs
 b : 0 ≤ t.b ∧ t.b < regs
theorem TmOk.hasB (h : TmOk regs t) : cG t.op = true := by have := h.op; simp [Go.Proofs.YtmghkonmfbpjcabGreatDoor.cG, inB, this.1, this.2]
end
end
section
attribute [local irreducible] Row madeCells
end
section
attribute [local irreducible] Row madeCells
theorem bIO {a b : Option Nat} (h : a = none ∨ a ≠ b) : b = none ∨ b ≠ a := by (
 rcases b with _ | b
 · exact Jc
 · (
 rcases h with h | h
 · exact .inr Xi
 · exact .inr h.symm))
theorem uS (z : Value) (n : Nat) : ((List.range n).map fun _ => z) = List.replicate n z := by rw [List.map_const', List.length_range]
theorem xE (regs : Int) (A : Option Addr) (l : List Nd) (cap : Nat) (w : World) (hA : bH w A l) (hR : bM regs l) :
 Calls prog 19 #[.agg #[.int .i64 regs, .slice A l.length cap]] w (sI w.heap.size 39 regs (iS l) w) := by (
 have hlo := hR.lo
 have hhi := hR.hi
 have hO := fun W (hW : Below w.heap.size w W) => bFA regs A l cap W (hA.below hW) hR
 have HO := bA hO
 have HR := bA hR
 clear hO hR
 obtain ⟨ib, hbi, hbz, hbs, hbb⟩ := info_parts nS
 have hmk := dN (P := prog) 25 3 ib _ 8 underlying25 hbi hbz hbs hbb Zb rfl l.length Zb
 obtain ⟨i3, h3i, h3z, h3s, h3b⟩ := info_parts iG
 go_enter func19, ntmps19
 go_wp2_with fail
 refine (HO.o _ Yc).mono ?_
 rintro e w1 ⟨v1, rfl, hX1, hb1⟩
 obtain ⟨A1, c1, rfl, _, _⟩ := hX1.shape
 rw [bD, lF] at hX1 ⊢
 have hxl : (dO l).length = l.length := lF l
 refine Ky fun hz1 hP1 hO1 hB1 => ?_
 have hX1' := hX1.mono (base' := w.heap.size) Zd
 have p0 := hP1.cell 0
 have p1 := hP1.cell 1
 simp only [Yl] at p0 p1
 generalize hx : dO l = x at *
 have Hx := bA hx
 clear hx hb1 HO hX1
 go_wp2_with fail
 have hW0 : Row (w1.alloc (.cells (madeCells #[.int .i64 0] l.length) 3)) w.heap.size 3 (.slice (some ⟨w1.heap.size, 0, none⟩) l.length l.length) ((List.range l.length).map fun _ => .int .i64 0) := by (
 have h : Row (w1.alloc (.cells (madeCells #[.int .i64 0] l.length) 3)) w.heap.size 3 (.slice (some ⟨w1.heap.size, 0, none⟩) l.length l.length) (List.replicate l.length (.int .i64 0)) := Row.made1' rfl Zb Zb
 rwa [← uS] at h)
 go_loopg [5, 6] (l.length) (fun gk m i wr => ∃ (k : Nat) (vs : Nat → Value), k ≤ l.length ∧ m = .int .i64 (rk x k) ∧ i = .int .i64 k ∧ gk = l.length - k ∧ (∀ j, j < k → yn x j = true → vs j = .int .i64 (rk x j)) ∧
  Row wr w.heap.size 3 (.slice (some ⟨w1.heap.size, 0, none⟩) l.length l.length) ((List.range l.length).map vs) ∧ Row wr w.heap.size 4 (.slice A1 l.length c1) (bE x) ∧
  Blk wr w.heap.size 24 #[.int .i64 regs, .slice A l.length cap] ∧ Blk wr (w.heap.size + 1) 24 #[.int .i64 0, .slice none 0 0] ∧ Below w.heap.size w wr)
 case atStart => exact ⟨0, _, Nat.zero_le _, rfl, rfl, rfl, fun j hj => absurd hj (Nat.not_lt_zero _), hW0, hX1'.alloc _, hP1.alloc _, hO1.alloc _, Yc⟩
 case round => (
 clear hmk hW0 hX1' hP1 hO1 hB1 p0 p1
 obtain ⟨k, vs, hk, rfl, rfl, hgk, hv, hW, hX, hP, hO, hB⟩ := hrel
 have Hgk := bA hgk
 have Hv := bA hv
 refine Wl fun p0 p1 => ?_
 clear hgk hv
 have hrl := rU x k
 by_cases hlt : k < l.length
 · (
 obtain ⟨gx, ox, cx, ex, hgx, hlx, ck, fk⟩ := hX.bool (k := k) Xl
 injection ex with ex e1 e2
 subst ex e2
 clear e1
 refine Vu fun q0 q1 => ?_
 have fw := jQ hW hlt
 have cw := fB hW hlt
 have hne := hW.ne_blk hP Ze
 have hne2 := hW.ne_blk hO Ze
 have hne3 := hX.ne_row hW Ze
 have HW := bA hW
 have HX := bA hX
 have HP := bA hP
 have HO := bA hO
 have Hne := bA hne
 have Hne2 := bA hne2
 have Hne3 := bA hne3
 clear hW hX hP hO hne hne2 hne3
 cases hxk : yn x k
 case false => (
 rw [hxk] at ck
 have Hxk := bA hxk
 clear hxk
 go_wp2_with fail
 go_roundg (l.length - (k + 1))
 case measure => exact Jg
 case rel => exact ⟨k + 1, vs, Zb, by rw [bMK Hxk.o], by go_num, rfl, fun j hj hy => Hv.o j (by
  by_cases hjk : j = k
  · subst hjk; rw [Hxk.o] at hy; cases hy
  · omega) hy, HW.o, HX.o, HP.o, HO.o, hB⟩)
 case true => (
 rw [hxk] at ck
 have Hxk := bA hxk
 clear hxk
 go_wp2_with fail
 go_roundg (l.length - (k + 1))
 case measure => exact Jg
 case rel => (
 have hst := HW.o.store k (.int .i64 (rk x k))
 rw [Nat.zero_add, fY _ _ hlt] at hst
 refine ⟨k + 1, upd vs k (.int .i64 (rk x k)), Zb, by rw [vT Hxk.o]; go_num, by go_num, rfl, fun j hj hy => ?_, hst, HX.o.far ?_ _, HP.o.far ?_ _, HO.o.far ?_ _, hB.setCell Zd _⟩
 · (
 by_cases hjk : j = k
 · subst hjk; rw [bI]
 · rw [bC _ _ hjk]; exact Hv.o j Zb hy)
 · (
 have := Hne3.o
 rcases this with h | h
 · rw [h]; simp
 · exact h)
 · intro e; exact Hne.o (by simp only [Value.ownBlock]; exact congrArg some e.symm)
 · intro e; exact Hne2.o (by simp only [Value.ownBlock]; exact congrArg some e.symm))))
 · (
 have hkk : k = l.length := Zb
 subst hkk
 have HW := bA hW
 have HX := bA hX
 have HP := bA hP
 have HO := bA hO
 clear Hgk hlt hk hW hX hP hO
 go_wp2_with fail
 obtain ⟨wo, rfl⟩ := Exq wr
 obtain ⟨gk3, rfl⟩ := Exq gk
 have hzo := HO.o.lt
 go_loopg [8] (l.length) (fun gk i wr => ∃ (k : Nat) (v : Value), k ≤ l.length ∧ i = .int .i64 k ∧ gk = l.length - k ∧ cO wr w.heap.size 39 v (eA x l k) ∧ Blk wr wo.heap.size 24 #[.int .i64 regs, v] ∧
  Row wr w.heap.size 3 (.slice (some ⟨w1.heap.size, 0, none⟩) l.length l.length) ((List.range l.length).map vs) ∧ Row wr w.heap.size 4 (.slice A1 l.length c1) (bE x) ∧
  Blk wr w.heap.size 24 #[.int .i64 regs, .slice A l.length cap] ∧ Blk wr (w.heap.size + 1) 24 #[.int .i64 0, .slice none 0 0] ∧ Below w.heap.size w wr)
 case atStart => exact ⟨0, _, Nat.zero_le _, rfl, rfl, bO.nil_ _ _ _, Yd, HW.o.alloc _, HX.o.alloc _, HP.o.alloc _, HO.o.alloc _, Yc⟩
 case round => (
 clear HW HX HP HO hB p0 p1
 obtain ⟨k, v, hk, rfl, hgk, hN, hQ, hW, hX, hP, hO, hB⟩ := hrel
 have Hgk := bA hgk
 have hz := hB.size
 have p0 := hP.cell 0
 have p1 := hP.cell 1
 have q0 := hQ.cell 0
 have q1 := hQ.cell 1
 have fq := hQ.frozen 1
 simp only [Yl] at p0 p1 q0 q1
 clear hgk
 by_cases hlt : k < l.length
 · (
 obtain ⟨n, hn⟩ : ∃ n, l[k]? = some n := ⟨_, Vx hlt⟩
 obtain ⟨nb, no, n', rfl, hnb, hn', hnl⟩ := (hA.below hB).get (k := k) hlt
 rw [hn] at hn'
 injection hn' with hn'
 subst hn'
 obtain ⟨c0, c1, c2, c3, c4, c5⟩ := hnl
 have hm := V4 hn
 obtain ⟨gx, ox, cx, ex, hgx, hlx, ck, fk⟩ := hX.bool (k := k) Xl
 injection ex with ex e1 e2
 subst ex e2
 clear e1
 refine Vu fun q0 q1 => ?_
 have Hn := bA hn
 have HN := bA hN
 have HQ := bA hQ
 have HW := bA hW
 have HX := bA hX
 have HP := bA hP
 have HO := bA hO
 clear hn hN hQ hW hX hP hO hA
 cases hxk : yn x k
 case false => (
 rw [hxk] at ck
 have Hxk := bA hxk
 clear hxk
 go_wp2_with fail
 go_roundg (l.length - (k + 1))
 case measure => exact Jg
 case rel => exact ⟨k + 1, v, Zb, by go_num, rfl, by rw [sU Hxk.o]; exact HN.o, HQ.o, HW.o, HX.o, HP.o, HO.o, hB⟩)
 case true => (
 rw [hxk] at ck
 have Hxk := bA hxk
 have hlen := kY x l k
 have hlen2 : (eA x l k ++ [kK x n]).length = rk x k + 1 := by simp [hlen]
 have hneP := HN.o.ne_blk HP.o Ze
 have hneO := HN.o.ne_blk HO.o Ze
 have hneW := bIO (HN.o.ne_row HW.o Ze)
 have hneX := bIO (HN.o.ne_row HX.o Ze)
 have hrl := rU x k
 have lq := HQ.o.lt
 clear hxk
 have hneQ := HN.o.ne_blk HQ.o Ze
 by_cases h12 : n.op = 12
 · (
 have t12 : (n.op != 12) = false := by simp [h12]
 have t11 : (n.op == 11) = false := by simp [h12]
 have hy : kK x n = ⟨n.op, n.d, n.a, n.b, n.t, n.e⟩ := by simp [kK, h12]
 have Hy := bA hy
 clear h12 hy
 (go_wp2_with (at_builtin; refine bK (v := v) (l := eA x l k) (base := w.heap.size) rfl _ _ _ rfl i3 _ 48 underlying22 h3i h3z h3s h3b rfl rfl Zs (some ⟨wr.heap.size + 1, 0, none⟩) 1 1 [kK x n] rfl rfl Ym Zq Zh Zh ?_; intro v2 w2 hr2 hg2 hat2; obtain ⟨A2, c2, hv2, _, _⟩ := hr2.shape; subst hv2; rw [hlen2] at hr2 hat2; try rw [hlen2]; have hQ2 : Blk w2 wo.heap.size 24 #[.int .i64 regs, v] := Blk.grown Z4 hg2 hneQ; have r1 := hQ2.cell 1; have r2 := hQ2.frozen 1; simp only [Yl] at r1); go_roundg (l.length - (k + 1)); (case measure => (have := Hgk.o; omega)); (case rel => exact ⟨k + 1, .slice A2 (rk x k + 1) c2, Zb, by go_num, rfl, by rw [kW Hxk.o Hn.o]; exact hr2.far (hr2.ne_blk hQ2 Ze) _, hQ2.set_ 1 _, (Row.kept Zm hg2 hneW).far (Row.ne_blk Zm Zn Ze) _, (Row.kept Zo hg2 hneX).far (Row.ne_blk Zo Zn Ze) _, (Blk.grown Zy hg2 hneP).far Zd _, (Blk.grown Zz hg2 hneO).far Zd _, (((hB.alloc hz _).alloc Zd _).grown hg2 Zd (fun q hq => (HN.o.lt q hq).1)).setCell Zd _⟩)))
 · (
 obtain ⟨t0, t1⟩ := HR.o.then_ hm h12
 obtain ⟨tt, htt⟩ := V7 (show 0 ≤ n.t by omega)
 have hld := gK h12
 rw [htt] at hld
 have hbnd : ∀ m : Nat, bU n m = true → m < l.length := by (
 intro m hlm
 rcases dI hlm with ⟨h12, rfl'⟩ | ⟨h11, rfl'⟩
 · have := HR.o.then_ hm h12; omega
 · have := HR.o.else_ hm h11; omega)
 have htl : tt < l.length := Zb
 have hyt : yn x tt = true := by rw [← Hx.o]; exact nO (by rw [Hx.o]; exact Hxk.o) Hn.o hld hbnd
 have ct := fB HW.o htl
 rw [Hv.o tt htl hyt] at ct
 obtain ⟨t0', t1'⟩ := Ikq (k := tt) (n := l.length) (by omega)
 have t12 : (n.op != 12) = true := by simp [h12]
 rw [htt] at c4
 have htn : n.t.toNat = tt := Zb
 have lw := cZ HW.o
 by_cases h11 : n.op = 11
 · (
 obtain ⟨s0, s1⟩ := HR.o.else_ hm h11
 obtain ⟨ee, hee⟩ := V7 (show 0 ≤ n.e by omega)
 have hld2 := iK h11
 rw [hee] at hld2
 have hel : ee < l.length := Zb
 have hye : yn x ee = true := by rw [← Hx.o]; exact nO (by rw [Hx.o]; exact Hxk.o) Hn.o hld2 hbnd
 have ce := fB HW.o hel
 rw [Hv.o ee hel hye] at ce
 obtain ⟨e0', e1'⟩ := Ikq (k := ee) (n := l.length) (by omega)
 have t11 : (n.op == 11) = true := by simp [h11]
 rw [hee] at c5
 have hen : n.e.toNat = ee := Zb
 have hy : kK x n = ⟨n.op, n.d, n.a, n.b, (rk x tt : Nat), (rk x ee : Nat)⟩ := by simp [kK, h11, htn, hen]
 have Hy := bA hy
 clear h12 h11 hy htt hee hld hld2 hbnd hyt hye t0 t1 s0 s1 htn hen
 (go_wp2_with (at_builtin; refine bK (v := v) (l := eA x l k) (base := w.heap.size) rfl _ _ _ rfl i3 _ 48 underlying22 h3i h3z h3s h3b rfl rfl Zs (some ⟨wr.heap.size + 1, 0, none⟩) 1 1 [kK x n] rfl rfl Ym Zq Zh Zh ?_; intro v2 w2 hr2 hg2 hat2; obtain ⟨A2, c2, hv2, _, _⟩ := hr2.shape; subst hv2; rw [hlen2] at hr2 hat2; try rw [hlen2]; have hQ2 : Blk w2 wo.heap.size 24 #[.int .i64 regs, v] := Blk.grown Z4 hg2 hneQ; have r1 := hQ2.cell 1; have r2 := hQ2.frozen 1; simp only [Yl] at r1); go_roundg (l.length - (k + 1)); (case measure => (have := Hgk.o; omega)); (case rel => exact ⟨k + 1, .slice A2 (rk x k + 1) c2, Zb, by go_num, rfl, by rw [kW Hxk.o Hn.o]; exact hr2.far (hr2.ne_blk hQ2 Ze) _, hQ2.set_ 1 _, (Row.kept Zm hg2 hneW).far (Row.ne_blk Zm Zn Ze) _, (Row.kept Zo hg2 hneX).far (Row.ne_blk Zo Zn Ze) _, (Blk.grown Zy hg2 hneP).far Zd _, (Blk.grown Zz hg2 hneO).far Zd _, (((hB.alloc hz _).alloc Zd _).grown hg2 Zd (fun q hq => (HN.o.lt q hq).1)).setCell Zd _⟩)))
 · (
 have t11 : (n.op == 11) = false := by simp [h11]
 have hy : kK x n = ⟨n.op, n.d, n.a, n.b, (rk x tt : Nat), n.e⟩ := by simp [kK, h11, h12, htn]
 have Hy := bA hy
 clear h12 h11 hy htt hld hbnd hyt t0 t1 htn
 (go_wp2_with (at_builtin; refine bK (v := v) (l := eA x l k) (base := w.heap.size) rfl _ _ _ rfl i3 _ 48 underlying22 h3i h3z h3s h3b rfl rfl Zs (some ⟨wr.heap.size + 1, 0, none⟩) 1 1 [kK x n] rfl rfl Ym Zq Zh Zh ?_; intro v2 w2 hr2 hg2 hat2; obtain ⟨A2, c2, hv2, _, _⟩ := hr2.shape; subst hv2; rw [hlen2] at hr2 hat2; try rw [hlen2]; have hQ2 : Blk w2 wo.heap.size 24 #[.int .i64 regs, v] := Blk.grown Z4 hg2 hneQ; have r1 := hQ2.cell 1; have r2 := hQ2.frozen 1; simp only [Yl] at r1); go_roundg (l.length - (k + 1)); (case measure => (have := Hgk.o; omega)); (case rel => exact ⟨k + 1, .slice A2 (rk x k + 1) c2, Zb, by go_num, rfl, by rw [kW Hxk.o Hn.o]; exact hr2.far (hr2.ne_blk hQ2 Ze) _, hQ2.set_ 1 _, (Row.kept Zm hg2 hneW).far (Row.ne_blk Zm Zn Ze) _, (Row.kept Zo hg2 hneX).far (Row.ne_blk Zo Zn Ze) _, (Blk.grown Zy hg2 hneP).far Zd _, (Blk.grown Zz hg2 hneO).far Zd _, (((hB.alloc hz _).alloc Zd _).grown hg2 Zd (fun q hq => (HN.o.lt q hq).1)).setCell Zd _⟩))))))
 · (
 have hkk : k = l.length := Zb
 subst hkk
 have r0 := hO.cell 0
 have r1 := hO.cell 1
 have r2 := hO.frozen 0
 have r3 := hO.frozen 1
 simp only [Yl] at r0 r1
 have hne2 := hN.ne_blk hO Ze
 obtain ⟨A2, c2, hv2, _, _⟩ := hN.shape
 subst hv2
 have HN := bA hN
 have HQ := bA hQ
 have HO := bA hO
 have Hne := bA hne2
 clear hN hQ hW hX hP hO hA hne2
 go_wp2_with fail
 go_tidy
 refine bodyPost_ret (v := .agg #[.int .i64 regs, .slice A2 _ c2]) (by simp [results, results19, go_sem, r0, r1, Vw, Vv]; rfl) rfl ?_
 refine ⟨_, rfl, ?_, (hB.setCell Zf _).setCell Zf _⟩
 unfold iS
 rw [Hx.o]
 exact (HN.o.far Hne.o _).far Hne.o _)))))
end
end Go.Proofs.YtmghkonmfbpjcabGreatDoor
