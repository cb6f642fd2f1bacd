/- SplitG. -/
import Derived.Test.YtmghkonmfbpjcaaGreatDoorGH
import Derived.Test.YtmghkonmfbpjcaaGreatDoorTrimG
import Derived.Test.YtmghkonmfbpjcaaGreatDoorSplitR
import Derived.Test.YtmghkonmfbpjcaaGreatDoorReachG
import Derived.Test.YtmghkonmfbpjcaaGreatDoorGB
import Derived.LaidEqlPtr
import Derived.Test.YtmghkonmfbpjcaaGreatDoorGA
set_option linter.unusedVariables false
set_option linter.unusedSimpArgs false
namespace Go.Proofs.YtmghkonmfbpjcaaGreatDoor
section
open Go.RowKit
set_option maxHeartbeats 8000000
attribute [local irreducible] Row madeCells NRow
attribute [local go_sem] Oper.semAt_some
def intN (f : Nat → Nat) (n : Nat) : List Value := (List.range n).map fun m => Value.int .i64 (Int.ofNat (f m))
structure WySt (tI tSI tP : TypeId) (B : Nat) (w : World) (regs : Int) (pv : Value) (g n : Nat) (f : Nat → Nat) (W : World) : Prop where
 row : Row W B tI (.slice (some ⟨g, 0, none⟩) n n) (intN f n)
 box : Blk W (g + 1) tSI #[.slice (some ⟨g, 0, none⟩) n n]
 p : Blk W B tP #[.int .i64 regs, pv]
 o : Blk W (B + 1) tP #[.int .i64 0, .slice none 0 0]
 below : Below B w W
 bg : B + 1 < g
 sz : B ≤ W.heap.size
section
variable {tI tSI tP : TypeId} {B : Nat} {w W W' : World} {regs : Int} {pv : Value} {g n : Nat} {f : Nat → Nat}
theorem WySt.later (h : WySt tI tSI tP B w regs pv g n f W) (hb : Below W.heap.size W W') : WySt tI tSI tP B w regs pv g n f W' :=
 ⟨h.row.below' hb, h.box.below hb h.box.lt, h.p.below hb h.p.lt, h.o.below hb h.o.lt, h.below.trans (hb.mono h.sz), h.bg, Nat.le_trans h.sz hb.size⟩
theorem WySt.own {row : Option Nat} {E : Nat} (h : WySt tI tSI tP B w regs pv g n f W) (hg : W.grownBy W' row) (hr : ∀ r, row = some r → E ≤ r ∧ ∃ o : Obj, W.heap[r]? = some o ∧ o.isCells = false) (hE : B ≤ E) : WySt tI tSI tP B w regs pv g n f W' :=
 have hr' := fun r e => (hr r e).2
 ⟨h.row.own hg hr', h.box.own hg hr', h.p.own hg hr', h.o.own hg hr', below_own h.below hg h.sz (fun r e => (hr r e).1) hE, h.bg, Nat.le_trans h.sz hg.size⟩
theorem intN_set (f : Nat → Nat) {n m : Nat} (hm : m < n) (z : Nat) : (intN f n).set m (.int .i64 (z : Int)) = intN (fun q => if q = m then z else f q) n := by (
 unfold intN
 rw [map_range_set _ _ hm]
 refine List.map_congr_left fun q _ => ?_
 by_cases hq : q = m
 · simp [upd, hq]
 · simp [upd, hq])
theorem intN_congr {f f' : Nat → Nat} {n : Nat} (h : ∀ m, m < n → f m = f' m) : intN f n = intN f' n := by (
 unfold intN
 refine List.map_congr_left fun q hq => ?_
 rw [h q (by simpa using hq)])
theorem WySt.congr {f' : Nat → Nat} (h : WySt tI tSI tP B w regs pv g n f W) (e : ∀ m, m < n → f m = f' m) : WySt tI tSI tP B w regs pv g n f' W := ⟨intN_congr e ▸ h.row, h.box, h.p, h.o, h.below, h.bg, h.sz⟩
theorem WySt.cell (h : WySt tI tSI tP B w regs pv g n f W) {m : Nat} (hm : m < n) : W.cell? ⟨g, m, none⟩ = some (.int .i64 (f m : Int)) ∧ W.frozen? ⟨g, m, none⟩ = false := ⟨tabcell h.row hm, tabfree h.row hm⟩
theorem WySt.put (h : WySt tI tSI tP B w regs pv g n f W) {m : Nat} (hm : m < n) (z : Nat) : WySt tI tSI tP B w regs pv g n (fun q => if q = m then z else f q) (W.setCell ⟨g, m, none⟩ (.int .i64 (z : Int))) := by (
 have hs := h.row.store m (.int .i64 (z : Int))
 rw [Nat.zero_add, intN_set f hm z] at hs
 have := h.bg
 exact ⟨hs, h.box.far (by simp) _, h.p.far (by simp <;> omega) _, h.o.far (by simp <;> omega) _, h.below.setCell (by simp <;> omega) _, h.bg, by simpa using h.sz⟩)
theorem WySt.far {q : Addr} (h : WySt tI tSI tP B w regs pv g n f W) (h1 : g + 1 < q.block) (u : Value) : WySt tI tSI tP B w regs pv g n f (W.setCell q u) := by (
 have := h.bg
 exact ⟨h.row.far (by simp [Value.ownBlock] <;> omega) _, h.box.far (by omega) _, h.p.far (by omega) _, h.o.far (by omega) _, h.below.setCell (by omega) _, h.bg, by simpa using h.sz⟩)
end
theorem grown_at (W : World) (b o : Nat) (u : Value) : W.grownBy (W.setCell ⟨b, o, none⟩ u) (some b) :=
 ⟨rfl, rfl, rfl, by simp, fun k _ hk => Below.heap_setCell W ⟨b, o, none⟩ u k (by rintro rfl; exact hk rfl)⟩
theorem grown_more {W W2 : World} {b : Nat} (h : W.grownBy W2 (some b)) (o : Nat) (u : Value) : W.grownBy (W2.setCell ⟨b, o, none⟩ u) (some b) := h.trans (grown_at W2 b o u)
theorem put6_grown (W : World) (g k : Nat) (y : Nd) : W.grownBy ((((((W.setCell ⟨g, k * 6, none⟩ (.int .i64 y.op)).setCell ⟨g, k * 6 + 1, none⟩ (.int .i64 y.d)).setCell ⟨g, k * 6 + 2, none⟩ (.int .i64 y.a)).setCell ⟨g, k * 6 + 3, none⟩ (.int .i64 y.b)).setCell ⟨g, k * 6 + 4, none⟩ (.int .i64 y.t)).setCell ⟨g, k * 6 + 5, none⟩ (.int .i64 y.e)) (some g) := by (
 exact grown_more (grown_more (grown_more (grown_more (grown_more (grown_at W g _ _) _ _) _ _) _ _) _ _) _ _)
theorem WySt.turn {tI tSI tP tN : TypeId} {B : Nat} {w W W2 : World} {regs : Int} {pv v : Value} {g n : Nat} {f : Nat → Nat} {out : List Nd} (h : WySt tI tSI tP B w regs pv g n f W) (hN : NRow W B tN v out) (n1 : tN ≠ tI) (n2 : tN ≠ tSI) (n3 : tN ≠ tP) (hg : W.grownBy W2 v.ownBlock) : WySt tI tSI tP B w regs pv g n f W2 :=
 ⟨h.row.kept hg ((hN.ne_row h.row n1).elim (fun e => .inr (by rw [e]; simp [Value.ownBlock])) fun e => .inr (Ne.symm e)), h.box.grown hg (hN.ne_blk h.box n2), h.p.grown hg (hN.ne_blk h.p n3), h.o.grown hg (hN.ne_blk h.o n3), h.below.grown hg h.sz (fun q hq => (hN.lt q hq).1), h.bg, Nat.le_trans h.sz hg.size⟩
theorem ndA_put4 (n : Nd) (z : Int) : (ndA n).setIfInBounds 4 (.int .i64 z) = ndA (n.put 4 z) := by simp [ndA, Nd.put]
theorem ndA_put5 (n : Nd) (z : Int) : (ndA n).setIfInBounds 5 (.int .i64 z) = ndA (n.put 5 z) := by simp [ndA, Nd.put]
def SplitGPost (t : TypeId) (regs : Int) (l : List Nd) (w : World) (e : Ending) (w' : World) : Prop :=
 Below w.heap.size w w' ∧ ((chk regs l ≠ 0 ∧ e = .returned (.tuple #[.agg #[.int .i64 0, .slice none 0 0], .int .i64 (chk regs l)])) ∨
  (chk regs l = 0 ∧ 256 < (splitL l).length ∧ e = .returned (.tuple #[.agg #[.int .i64 0, .slice none 0 0], .int .i64 2])) ∨
  (chk regs l = 0 ∧ (splitL l).length ≤ 256 ∧ ∃ v, e = .returned (.tuple #[.agg #[.int .i64 regs, v], .int .i64 0]) ∧ NRow w' w.heap.size t v (splitL l)))
set_option maxRecDepth 100000 in
theorem Split_any (regs : Int) (A : Option Addr) (l : List Nd) (cap : Nat) (w : World) (hl : l.length ≤ maxLen) (hA : NodesAt w A l) :
 Calls Tryz.prog 14 #[.agg #[.int .i64 regs, .slice A l.length cap]] w (SplitGPost 44 regs l w) := by (
 have hC := fun W (hW : Below w.heap.size w W) => Check_any regs A l cap W hl (hA.below hW)
 have HC := hide hC
 clear hC
 obtain ⟨ib, hbi, hbz, hbs, hbb⟩ := info_parts infoInt
 obtain ⟨i3, h3i, h3z, h3s, h3b⟩ := info_parts infoNode
 refine calls_marks Tryz.func14 rfl ?_
 simp only [Tryz.ntmps14, List.size_toArray, List.length_cons, List.length_nil, Nat.reduceAdd, Nat.reduceSub, Array.replicate_succ, Array.replicate_zero, List.push_toArray, List.append_toArray, List.nil_append, List.cons_append]
 by_cases h0 : chk regs l = 0
 · (
 have H0 := hide h0
 have hR := right_of_chk h0
 have h0' : ((chk regs l) != 0) = false := by simp [h0]
 clear h0
 have hlo := hR.lo
 have hhi := hR.hi
 have HR := hide hR
 clear hR
 have hmk := run_make1 (P := Tryz.prog) 25 3 ib _ 8 Tryz.underlying25 hbi hbz hbs hbb (by omega) rfl l.length (by omega)
 go_wp2_with (go_at_call 18; refine (HC.out _ (by (with_reducible repeat first | apply Qa | assumption | apply Qb | apply Qc | apply Qd | apply Qe | refine Qf ?_ (by assumption) ?_); all_goals (try simp only [Sz]); first | done | omega | (try simp only [Sz] at *); omega)).mono ?_; rintro e w1 ⟨rfl, hb1⟩; have hP1 : Blk w1 w.heap.size 24 #[.int .i64 regs, .slice A l.length cap] := Blk.below (by repeat (first | ((with_reducible refine Blk.new' ?_); exact (by (try simp only [Sz]); first | done | omega | (try simp only [Sz] at *); omega)) | (with_reducible refine Blk.drew ?_) | (with_reducible refine Blk.drewN ?_ _) | (with_reducible refine Blk.alloc ?_ _) | with_reducible assumption)) hb1 (by simp <;> omega); have hO1 : Blk w1 (w.heap.size + 1) 24 #[.int .i64 0, .slice none 0 0] := Blk.below (by repeat (first | ((with_reducible refine Blk.new' ?_); exact (by (try simp only [Sz]); first | done | omega | (try simp only [Sz] at *); omega)) | (with_reducible refine Blk.drew ?_) | (with_reducible refine Blk.drewN ?_ _) | (with_reducible refine Blk.alloc ?_ _) | with_reducible assumption)) hb1 (by simp <;> omega); have lp1 := hP1.lt; have lo1 := hO1.lt; have p0 := hP1.cell 0; have p1 := hP1.cell 1; have hz1 := hb1.size; simp only [World.size_alloc] at hz1; simp only [Yl] at p0 p1)
 have hS0 : WySt 3 25 24 w.heap.size w regs (.slice A l.length cap) w1.heap.size l.length (wcnt l 0) ((w1.alloc (.cells (madeCells #[.int .i64 0] l.length) 3)).alloc (.cells #[.slice (some ⟨w1.heap.size, 0, none⟩) l.length l.length] 25)) := by (
 refine ⟨?_, Blk.new' (by simp), (hP1.alloc _).alloc _, (hO1.alloc _).alloc _, (by (with_reducible repeat first | apply Qa | assumption | apply Qb | apply Qc | apply Qd | apply Qe | refine Qf ?_ (by assumption) ?_); all_goals (try simp only [Sz]); first | done | omega | (try simp only [Sz] at *); omega), by omega, by simp <;> omega⟩
 have h : Row (w1.alloc (.cells (madeCells #[.int .i64 0] l.length) 3)) w.heap.size 3 (.slice (some ⟨w1.heap.size, 0, none⟩) l.length l.length) (List.replicate l.length (.int .i64 0)) := Row.made1' rfl (by omega) (by omega)
 have e : intN (wcnt l 0) l.length = List.replicate l.length (.int .i64 0) := by (
 unfold intN
 rw [show (fun m => Value.int .i64 (Int.ofNat (wcnt l 0 m))) = fun _ => Value.int .i64 0 from rfl, List.map_const', List.length_range])
 rw [e]
 exact h.alloc _)
 have lp := hP1.lt
 clear hP1 hO1 hmk
 obtain ⟨g, hg⟩ : ∃ g, g = w1.heap.size := ⟨_, rfl⟩
 rw [← hg] at hS0 ⊢
 have hbg : w.heap.size + 1 < g := by omega
 clear hg
 refine wp_loop_ghost_k (fun gk a wr => ∃ (ds : List Deferred) (k : Nat) (u7 u8 u9 u30 u31 u32 u33 u34 u35 u36 u37 u38 u39 u40 u41 u42 u43 u44 u45 u46 u47 u48 u49 u50 u51 : Value), (k ≤ l.length ∧ gk = l.length - k ∧ WySt 3 25 24 w.heap.size w regs (.slice A l.length cap) g l.length (wcnt l k) wr ∧ Marks w.heap.size wr.heap.size ds wr) ∧
  a = { tmps := #[.agg #[.int .i64 regs, .slice A l.length cap], .pointer (some ⟨w.heap.size, 0, none⟩), .pointer (some ⟨w.heap.size + 1, 0, none⟩), .int .i64 0, .int .i64 (chk regs l), .pointer (some ⟨g + 1, 0, none⟩), undef, u7, u8, u9, undef, undef, undef, undef, undef, undef, .agg #[.int .i64 regs, .slice A l.length cap], .int .i64 (chk regs l), .int .i64 (chk regs l), .bool false, undef, undef,
   .pointer (some ⟨w.heap.size, 1, none⟩), .slice A l.length cap, .int .i64 l.length, .slice (some ⟨g, 0, none⟩) l.length l.length, .pointer (some ⟨w.heap.size, 1, none⟩), .slice A l.length cap, .int .i64 l.length, .int .i64 k, u30, u31, u32, u33, u34, u35, u36, u37, u38, u39, u40, u41, u42, u43, u44, u45, u46, u47, u48, u49, u50, u51, undef, undef, undef, undef, undef, undef, undef, undef, undef, undef, undef, undef, undef, undef, undef, undef, undef, undef, undef, undef, undef, undef, undef, undef, undef, undef, undef, undef, undef, undef, undef, undef, undef, undef, undef, undef, undef, undef, undef, undef, undef, undef, undef, undef, undef, undef, undef, undef, undef, undef, undef, undef, undef, undef, undef, undef, undef, undef, undef, undef, undef, undef, undef, undef, undef, undef, undef, undef, undef, undef, undef, undef, undef, undef, undef, undef], defers := ds }) l.length ?atStart ?round
 case atStart => (
 exact ⟨[], 0, _, _, _, _, _, _, _, _, _, _, _, _, _, _, _, _, _, _, _, _, _, _, _, _, _, ⟨Nat.zero_le _, rfl, hS0, trivial⟩, rfl⟩)
 case round => (
 rintro gk a wr ⟨ds, k, hI⟩ J K hJ hK
 obtain ⟨u7, hI⟩ := hI; obtain ⟨u8, hI⟩ := hI; obtain ⟨u9, hI⟩ := hI; obtain ⟨u30, hI⟩ := hI; obtain ⟨u31, hI⟩ := hI; obtain ⟨u32, hI⟩ := hI; obtain ⟨u33, hI⟩ := hI; obtain ⟨u34, hI⟩ := hI; obtain ⟨u35, hI⟩ := hI; obtain ⟨u36, hI⟩ := hI; obtain ⟨u37, hI⟩ := hI; obtain ⟨u38, hI⟩ := hI; obtain ⟨u39, hI⟩ := hI; obtain ⟨u40, hI⟩ := hI; obtain ⟨u41, hI⟩ := hI; obtain ⟨u42, hI⟩ := hI; obtain ⟨u43, hI⟩ := hI; obtain ⟨u44, hI⟩ := hI; obtain ⟨u45, hI⟩ := hI; obtain ⟨u46, hI⟩ := hI; obtain ⟨u47, hI⟩ := hI; obtain ⟨u48, hI⟩ := hI; obtain ⟨u49, hI⟩ := hI; obtain ⟨u50, hI⟩ := hI; obtain ⟨u51, hI⟩ := hI
 obtain ⟨⟨hk, hgk, hS, hD⟩, rfl⟩ := hI
 have HJ := hide hJ
 have HK := hide hK
 clear hJ hK
 have Hgk := hide hgk
 have b0 := hS.box.cell 0
 have lb := hS.box.lt
 have p0 := hS.p.cell 0
 have p1 := hS.p.cell 1
 simp only [Yl] at b0 p0 p1
 clear hgk hS0
 by_cases hlt : k < l.length
 · (
 obtain ⟨n, hn⟩ : ∃ n, l[k]? = some n := ⟨_, List.getElem?_eq_getElem hlt⟩
 obtain ⟨nb, no, n', rfl, hnb, hn', hnl⟩ := (hA.below hS.below).get (k := k) hlt
 rw [hn] at hn'
 injection hn' with hn'
 subst hn'
 obtain ⟨c0, c1, c2', c3, c4, c5⟩ := hnl
 have hm := List.mem_of_getElem? hn
 have u0' : (0 : Int) ≤ (k : Int) := by omega
 have u1' : (k : Int) < (l.length : Int) := by omega
 have hwl := wcnt_le l k
 have Hn := hide hn
 have HS := hide hS
 have HD := hide hD
 have Hwl := hide hwl
 clear hn hS hD hA hwl
 go_wp2_with (go_at_call 39; refine (exits_any _ _).mono ?_; rintro e w3 ⟨rfl, rfl⟩)
 obtain ⟨wn, hwn⟩ : ∃ wn : World, wn = (wr.alloc (.cells #[.int .i64 n.op, .int .i64 n.d, .int .i64 n.a, .int .i64 n.b, .int .i64 n.t, .int .i64 n.e] 44)).alloc (.cells #[.int .i64 0] 3) := ⟨_, rfl⟩
 have hbW : Below wr.heap.size wr wn := by rw [hwn]; exact (by (with_reducible repeat first | apply Qa | assumption | apply Qb | apply Qc | apply Qd | apply Qe | refine Qf ?_ (by assumption) ?_); all_goals (try simp only [Sz]); first | done | omega | (try simp only [Sz] at *); omega)
 have hX2 : Blk wn wr.heap.size 44 (ndA n) := by rw [hwn]; exact (Blk.new' rfl).alloc _
 have hL2 : Blk wn (wr.heap.size + 1) 3 #[.int .i64 0] := by rw [hwn]; exact Blk.new' (by simp)
 have hzn : wn.heap.size = wr.heap.size + 1 + 1 := by rw [hwn]; simp
 have hS2 := HS.out.later hbW
 have hD2 := HD.out.below hbW
 have hzs := HS.out.sz
 rw [← hwn]
 clear hwn
 refine wp_range_exits (wr.heap.size + 1 + 1) wr.heap.size n.op rfl (fun i W => Blk W (wr.heap.size + 1 + 1) 84 #[.pointer (some ⟨wr.heap.size, 0, none⟩)] ∧ Blk W wr.heap.size 44 (ndA n) ∧ Blk W (wr.heap.size + 1) 3 #[.int .i64 (lastOf n i)] ∧
  WySt 3 25 24 w.heap.size w regs (.slice (some ⟨nb, no, none⟩) l.length cap) g l.length (fun m => wcnt l k m + wmid n i m) W ∧ Marks w.heap.size wr.heap.size ds W) ?_ ?_ ?_ ?_ ?_
 case refine_1 => (
 rintro i W W' row ⟨h1, h2, h3, h4, h5⟩ hg hr
 have hr' := fun r e => (hr r e).2
 exact ⟨h1.own hg hr', h2.own hg hr', h3.own hg hr', h4.own hg hr (by (try simp only [Sz]); first | done | omega | (try simp only [Sz] at *); omega), h5.own hg (fun r e => by have := (hr r e).1; simp at this; omega)⟩)
 case refine_2 => (
 rintro i W ⟨h1, h2, h3, h4, h5⟩
 exact ⟨h1.cell 0, h2.cell 0⟩)
 case refine_3 => (
 exact ⟨Blk.new' hzn.symm, hX2.alloc _, hL2.alloc _, (hS2.later ((Below.refl _ _).alloc (Nat.le_refl _) _)).congr (fun m _ => by rw [wmid_zero]; rfl), hD2.keeps (KeepsOthers.alloc _ _)⟩)
 case refine_4 => (
 intro L i hi
 refine ⟨?act, ?asg, ?bdy⟩
 case asg => (
 intro W K h
 gi_wp2
 exact h)
 rintro W ⟨h1, h2, h3, h4, h5⟩
 obtain ⟨mm, cz, hm1, hml, hi2⟩ : ∃ mm : Nat, W.cell? ⟨wr.heap.size, 4 + i, none⟩ = some (.int .i64 (mm : Int)) ∧ 1 ≤ mm ∧ mm < l.length ∧ ((i = 0 ∧ n.t = mm) ∨ (i = 1 ∧ n.e = mm)) := by (
 rcases hi with ⟨rfl, h12⟩ | ⟨rfl, h11⟩
 · (
 obtain ⟨t0, t1⟩ := HR.out.then_ hm h12
 obtain ⟨tt, htt⟩ := Int.eq_ofNat_of_zero_le (show 0 ≤ n.t by omega)
 exact ⟨tt, by have := h2.cell 4; rw [← htt]; simpa [ndA] using this, by omega, by omega, .inl ⟨rfl, htt⟩⟩)
 · (
 obtain ⟨t0, t1⟩ := HR.out.else_ hm h11
 obtain ⟨tt, htt⟩ := Int.eq_ofNat_of_zero_le (show 0 ≤ n.e by omega)
 exact ⟨tt, by have := h2.cell 5; rw [← htt]; simpa [ndA] using this, by omega, by omega, .inr ⟨rfl, htt⟩⟩))
 have hcl := Nat.add_le_add (Hwl.out mm) (wmid_le n i mm)
 obtain ⟨cm, fm⟩ := h4.cell hml
 obtain ⟨c, hc⟩ : ∃ c, c = wcnt l k mm + wmid n i mm := ⟨_, rfl⟩
 rw [← hc] at cm hcl
 have b0 := h4.box.cell 0
 have lb2 := h4.box.lt
 have z0 := h3.cell 0
 have fz := h3.frozen 0
 have lz := h3.lt
 have lx := h2.lt
 simp only [Yl] at b0 z0
 have v0 : (0 : Int) ≤ (mm : Int) := by omega
 have v1 : (mm : Int) < (l.length : Int) := by omega
 have Hi2 := hide hi2
 have H4 := hide h4
 have Hc := hide hc
 clear hi2 h4 hc
 by_cases hll : (mm : Int) = lastOf n i
 · (
 have t1 : ((mm : Int) != lastOf n i) = false := by simp [hll]
 have Hll := hide hll
 clear hll
 gi_wp2
 apply wpIn_mid (W := W.drew)
 case h => gi_region; all_goals exact ⟨rfl, rfl, rfl⟩
 gi_wp2
 exact ⟨((KeepsOthers.drew _).trans (KeepsOthers.setCell _ _ _)).from _, h1.drew.far (by simp) _, h2.drew.far (by simp) _, by rw [lastOf_succ Hi2.out]; exact h3.drew.set_ 0 _, ((H4.out.later ((Below.refl _ _).drew)).far (by simp <;> omega) _).congr (fun m _ => by rw [wmid_old Hi2.out hm1 Hll.out]), h5.keeps ((KeepsOthers.drew _).trans (KeepsOthers.setCell _ _ _))⟩)
 · (
 have t1 : ((mm : Int) != lastOf n i) = true := by simp [hll]
 have Hll := hide hll
 clear hll
 gi_wp2
 apply wpIn_mid (W := W.drew)
 case h => gi_region; all_goals exact ⟨rfl, rfl, rfl⟩
 gi_wp2
 have e1 : IntKind.i64.wrap ((c : Int) + 1) = ((c + 1 : Nat) : Int) := by rw [IntKind.wrap_i64]; omega
 apply wpIn_mid (W := W.drew.drew.setCell ⟨g, mm, none⟩ (.int .i64 ((c + 1 : Nat) : Int)))
 case h => gi_region; all_goals exact ⟨rfl, rfl, rfl⟩
 have hk2 : KeepsOthers W (W.drew.drew.setCell ⟨g, mm, none⟩ (.int .i64 ((c + 1 : Nat) : Int))) := ((KeepsOthers.drew _).trans (KeepsOthers.drew _)).trans (KeepsOthers.setCell _ _ _)
 have hP2 := (H4.out.later (((Below.refl _ _).drew).drew)).put hml (c + 1)
 have hX3 := (h2.drew.drew).far (p := ⟨g, mm, none⟩) (by simp <;> omega) (.int .i64 ((c + 1 : Nat) : Int))
 have hG3 := (h1.drew.drew).far (p := ⟨g, mm, none⟩) (by simp <;> omega) (.int .i64 ((c + 1 : Nat) : Int))
 have hL3 := (h3.drew.drew).far (p := ⟨g, mm, none⟩) (by simp <;> omega) (.int .i64 ((c + 1 : Nat) : Int))
 obtain ⟨W2, hW2⟩ : ∃ W2 : World, W2 = W.drew.drew.setCell ⟨g, mm, none⟩ (.int .i64 ((c + 1 : Nat) : Int)) := ⟨_, rfl⟩
 rw [← hW2] at hk2 hP2 hX3 hG3 hL3 ⊢
 have cz2 : W2.cell? ⟨wr.heap.size, 4 + i, none⟩ = some (.int .i64 (mm : Int)) := (hX3.cell (4 + i)).trans ((h2.cell (4 + i)).symm.trans cz)
 clear hW2
 have z9 := hL3.cell 0
 have fz9 := hL3.frozen 0
 have lz9 := hL3.lt
 have lx9 := hX3.lt
 simp only [Yl] at z9
 have HP2 := hide hP2
 clear hP2
 gi_wp2
 exact ⟨(hk2.trans (KeepsOthers.setCell _ _ _)).from _, hG3.far (by simp) _, hX3.far (by simp) _, by rw [lastOf_succ Hi2.out]; exact hL3.set_ 0 _, (HP2.out.far (by simp <;> omega) _).congr (fun m _ => by
  rw [wmid_new Hi2.out hm1 Hll.out]
  by_cases hmm : m = mm
  · subst hmm; have := Hc.out; simp; omega
  · simp [hmm]), h5.keeps (hk2.trans (KeepsOthers.setCell _ _ _))⟩))
 case refine_5 => (
 rintro D W hD' ⟨h1, h2, h3, h4, h5⟩ hdd
 have hmk := h5.add (D := D) (by simp at hD'; omega) (by simp at hD'; omega) hdd
 have h4' := h4.congr (f' := wcnt l (k + 1)) (fun m _ => (wcnt_succ Hn.out m).symm)
 dsimp only
 go_wp2_with fail
 refine HK.out _ _ (Handed.intro (l.length - (k + 1)) (by have := Hgk.out; omega) (HJ.out _ _ _ ?_))
 exact ⟨_ :: ds, k + 1, _, _, _, _, _, _, _, _, _, _, _, _, _, _, _, _, _, _, _, _, _, _, _, _, _, ⟨by omega, rfl, h4', hmk⟩, rfl⟩))
 · (
 have hkk : k = l.length := by omega
 subst hkk
 have hCl := fun W (hW : Below wr.heap.size wr W) => Clone_any A l cap W ((hA.below hS.below).below hW) hlo (by omega)
 have HCl := hide hCl
 have hP1 := hS.p
 have lp1 := hP1.lt
 have hzs := hS.sz
 have HS := hide (hS.congr (f' := fun (m : Nat) => ways l m) (fun m _ => wcnt_all l m))
 have HD := hide hD
 clear hS hD hCl
 go_upto_region 15 with fail
 refine wp_normal (fun a' wx => ∃ (GQ : Nat) (v : Value), (g + 1 < GQ ∧ Blk wx GQ 24 #[.int .i64 regs, v] ∧ NRow wx w.heap.size 44 v l ∧ WySt 3 25 24 w.heap.size w regs (.slice A l.length cap) g l.length (fun (m : Nat) => ways l m) wx ∧ Marks w.heap.size wx.heap.size ds wx) ∧
  a' = { tmps := #[.agg #[.int .i64 regs, .slice A l.length cap], .pointer (some ⟨w.heap.size, 0, none⟩), .pointer (some ⟨w.heap.size + 1, 0, none⟩), .int .i64 0, .int .i64 (chk regs l), .pointer (some ⟨g + 1, 0, none⟩), undef, u7, u8, u9, .pointer (some ⟨GQ, 0, none⟩), undef, undef, undef, undef, undef, .agg #[.int .i64 regs, .slice A l.length cap], .int .i64 (chk regs l), .int .i64 (chk regs l), .bool false, undef, undef,
   .pointer (some ⟨w.heap.size, 1, none⟩), .slice A l.length cap, .int .i64 l.length, .slice (some ⟨g, 0, none⟩) l.length l.length, .pointer (some ⟨w.heap.size, 1, none⟩), .slice A l.length cap, .int .i64 l.length, .int .i64 l.length, .bool false, u31, u32, u33, u34, u35, u36, u37, u38, u39, u40, u41, u42, u43, u44, u45, u46, u47, u48, u49, u50, u51, .pointer (some ⟨w.heap.size, 0, none⟩), .int .i64 regs, .pointer (some ⟨w.heap.size, 1, none⟩), .slice A l.length cap, v, .agg #[.int .i64 regs, v], undef, undef, undef, undef, undef, undef, undef, undef, undef, undef, undef, undef, undef, undef, undef, undef, undef, undef, undef, undef, undef, undef, undef, undef, undef, undef, undef, undef, undef, undef, undef, undef, undef, undef, undef, undef, undef, undef, undef, undef, undef, undef, undef, undef, undef, undef, undef, undef, undef, undef, undef, undef, undef, undef, undef, undef, undef, undef, undef, undef, undef, undef, undef, undef, undef, undef, undef, undef, undef, undef], defers := ds }) ?first ?rest
 case first => (
 go_region_with (first
  | (go_at_call 20; (first | with_reducible show Calls _ _ _ (World.drew (World.alloc _ _)) _ | with_reducible show Calls _ _ _ (World.alloc _ _) _); refine (HCl.out _ (by (with_reducible repeat first | apply Qa | assumption | apply Qb | apply Qc | apply Qd | apply Qe | refine Qf ?_ (by assumption) ?_); all_goals (try simp only [Sz]); first | done | omega | (try simp only [Sz] at *); omega)).mono ?_; rintro e w2 ⟨v2, rfl, hr2, hb2⟩; obtain ⟨A2, c2, rfl, _, _⟩ := hr2.shape; have hz2 := hb2.size; simp only [World.size_alloc, World.size_drew] at hz2; have hP2 : Blk w2 w.heap.size 24 #[.int .i64 regs, .slice A l.length cap] := Blk.below (by repeat (first | exact hP1 | (with_reducible refine Blk.drew ?_) | (with_reducible refine Blk.drewN ?_ _) | (with_reducible refine Blk.alloc ?_ _))) hb2 (by simp <;> omega); have l2 := hP2.lt; have q0 := hP2.cell 0; have q1 := hP2.cell 1; simp only [Yl] at q0 q1; have hG2 : Blk w2 wr.heap.size 24 #[.int .i64 0, .slice none 0 0] := Blk.below (by repeat (first | ((with_reducible refine Blk.new' ?_); exact (by (try simp only [Sz]); first | done | omega | (try simp only [Sz] at *); omega)) | (with_reducible refine Blk.drew ?_) | (with_reducible refine Blk.drewN ?_ _) | (with_reducible refine Blk.alloc ?_ _) | with_reducible assumption)) hb2 (by simp <;> omega); have g0 := hG2.cell 0; have g1 := hG2.cell 1; have g2 := hG2.frozen 0; have g3 := hG2.frozen 1; simp only [Yl] at g0 g1)
  | (go_at_call 20; refine (HCl.out _ (by (with_reducible repeat first | apply Qa | assumption | apply Qb | apply Qc | apply Qd | apply Qe | refine Qf ?_ (by assumption) ?_); all_goals (try simp only [Sz]); first | done | omega | (try simp only [Sz] at *); omega)).mono ?_; rintro e w2 ⟨v2, rfl, hr2, hb2⟩; obtain ⟨A2, c2, rfl, _, _⟩ := hr2.shape; have hz2 := hb2.size; simp only [World.size_alloc, World.size_drew] at hz2; have hP2 : Blk w2 w.heap.size 24 #[.int .i64 regs, .slice A l.length cap] := Blk.below (by repeat (first | exact hP1 | (with_reducible refine Blk.drew ?_) | (with_reducible refine Blk.drewN ?_ _) | (with_reducible refine Blk.alloc ?_ _))) hb2 (by simp <;> omega); have l2 := hP2.lt; have q0 := hP2.cell 0; have q1 := hP2.cell 1; simp only [Yl] at q0 q1))
 all_goals (show ∃ (GQ : Nat) (v : Value), _)
 all_goals (first
  | (refine ⟨w2.heap.size, .slice A2 l.length c2, ⟨by omega, (by repeat (first | ((with_reducible refine Blk.new' ?_); exact (by (try simp only [Sz]); first | done | omega | (try simp only [Sz] at *); omega)) | (with_reducible refine Blk.drew ?_) | (with_reducible refine Blk.drewN ?_ _) | (with_reducible refine Blk.alloc ?_ _) | with_reducible assumption)), (hr2.alloc _).mono (by simp <;> omega), HS.out.later (by (with_reducible repeat first | apply Qa | assumption | apply Qb | apply Qc | apply Qd | apply Qe | refine Qf ?_ (by assumption) ?_); all_goals (try simp only [Sz]); first | done | omega | (try simp only [Sz] at *); omega), (HD.out.below (by (with_reducible repeat first | apply Qa | assumption | apply Qb | apply Qc | apply Qd | apply Qe | refine Qf ?_ (by assumption) ?_); all_goals (try simp only [Sz]); first | done | omega | (try simp only [Sz] at *); omega)).mono (by simp <;> omega)⟩, rfl⟩)
  | (refine ⟨wr.heap.size, .slice A2 l.length c2, ⟨by omega, (hG2.set_ 0 _).set_ 1 _, ((hr2.far (hr2.ne_blk hG2 (by decide)) _).far (hr2.ne_blk hG2 (by decide)) _).mono (by simp <;> omega), HS.out.later (by (with_reducible repeat first | apply Qa | assumption | apply Qb | apply Qc | apply Qd | apply Qe | refine Qf ?_ (by assumption) ?_); all_goals (try simp only [Sz]); first | done | omega | (try simp only [Sz] at *); omega), (HD.out.below (by (with_reducible repeat first | apply Qa | assumption | apply Qb | apply Qc | apply Qd | apply Qe | refine Qf ?_ (by assumption) ?_); all_goals (try simp only [Sz]); first | done | omega | (try simp only [Sz] at *); omega)).mono (by simp <;> omega)⟩, rfl⟩)
  | trace_state))
 case rest => (
 rintro a' wx ⟨GQ, v, ⟨hGQ, hQ, hN, hS, hD⟩, rfl⟩
 have p0 := hS.p.cell 0
 have p1 := hS.p.cell 1
 have lp := hS.p.lt
 simp only [Yl] at p0 p1
 go_wp2_with fail
 have lQ := hQ.lt
 refine wp_loop_ghost_k (fun gk a wr => ∃ (ds : List Deferred) (k : Nat) (u11 u12 u13 u14 u15 u62 u63 u64 u65 u66 u67 u68 u69 u70 u71 u72 u73 u74 u75 u76 u77 u78 u79 u80 u81 u82 u83 u84 u85 u86 u87 u88 u89 u90 u91 u92 u93 u94 u95 u96 u97 u98 u99 u100 u101 u102 u103 u104 u105 u106 u107 u108 u109 u110 u111 u112 u113 u114 u115 u116 u117 u118 u119 u120 u121 : Value), (k ≤ l.length ∧ gk = l.length - k ∧ ∃ v : Value, NRow wr w.heap.size 44 v (splitTo l k) ∧ Blk wr GQ 24 #[.int .i64 regs, v] ∧
  WySt 3 25 24 w.heap.size w regs (.slice A l.length cap) g l.length (fun (m : Nat) => ways l m) wr ∧ Marks w.heap.size wr.heap.size ds wr) ∧
 a = { tmps := #[.agg #[.int .i64 regs, .slice A l.length cap], .pointer (some ⟨w.heap.size, 0, none⟩), .pointer (some ⟨w.heap.size + 1, 0, none⟩), .int .i64 0, .int .i64 (chk regs l), .pointer (some ⟨g + 1, 0, none⟩), undef, u7, u8, u9, .pointer (some ⟨GQ, 0, none⟩), u11, u12, u13, u14, u15, .agg #[.int .i64 regs, .slice A l.length cap], .int .i64 (chk regs l), .int .i64 (chk regs l), .bool false, undef, undef,
  .pointer (some ⟨w.heap.size, 1, none⟩), .slice A l.length cap, .int .i64 l.length, .slice (some ⟨g, 0, none⟩) l.length l.length, .pointer (some ⟨w.heap.size, 1, none⟩), .slice A l.length cap, .int .i64 l.length, .int .i64 l.length, .bool false, u31, u32, u33, u34, u35, u36, u37, u38, u39, u40, u41, u42, u43, u44, u45, u46, u47, u48, u49, u50, u51, .pointer (some ⟨w.heap.size, 0, none⟩), .int .i64 regs, .pointer (some ⟨w.heap.size, 1, none⟩), .slice A l.length cap, v, .agg #[.int .i64 regs, v],
  .pointer (some ⟨w.heap.size, 1, none⟩), .slice A l.length cap, .int .i64 l.length, .int .i64 k, u62, u63, u64, u65, u66, u67, u68, u69, u70, u71, u72, u73, u74, u75, u76, u77, u78, u79, u80, u81, u82, u83, u84, u85, u86, u87, u88, u89, u90, u91, u92, u93, u94, u95, u96, u97, u98, u99, u100, u101, u102, u103, u104, u105, u106, u107, u108, u109, u110, u111, u112, u113, u114, u115, u116, u117, u118, u119, u120, u121, undef, undef, undef, undef, undef, undef], defers := ds }) l.length ?atStart ?round
 case atStart => exact ⟨ds, 0, _, _, _, _, _, _, _, _, _, _, _, _, _, _, _, _, _, _, _, _, _, _, _, _, _, _, _, _, _, _, _, _, _, _, _, _, _, _, _, _, _, _, _, _, _, _, _, _, _, _, _, _, _, _, _, _, _, _, _, _, _, _, _, _, _, ⟨Nat.zero_le _, rfl, v, hN, hQ, hS, hD⟩, rfl⟩
 case round => (
 rename_i v0
 clear hN hQ hS hD
 rintro gk a wr ⟨ds, k, hI⟩ J K hJ hK
 obtain ⟨u11, hI⟩ := hI; obtain ⟨u12, hI⟩ := hI; obtain ⟨u13, hI⟩ := hI; obtain ⟨u14, hI⟩ := hI; obtain ⟨u15, hI⟩ := hI; obtain ⟨u62, hI⟩ := hI; obtain ⟨u63, hI⟩ := hI; obtain ⟨u64, hI⟩ := hI; obtain ⟨u65, hI⟩ := hI; obtain ⟨u66, hI⟩ := hI; obtain ⟨u67, hI⟩ := hI; obtain ⟨u68, hI⟩ := hI; obtain ⟨u69, hI⟩ := hI; obtain ⟨u70, hI⟩ := hI; obtain ⟨u71, hI⟩ := hI; obtain ⟨u72, hI⟩ := hI; obtain ⟨u73, hI⟩ := hI; obtain ⟨u74, hI⟩ := hI; obtain ⟨u75, hI⟩ := hI; obtain ⟨u76, hI⟩ := hI; obtain ⟨u77, hI⟩ := hI; obtain ⟨u78, hI⟩ := hI; obtain ⟨u79, hI⟩ := hI; obtain ⟨u80, hI⟩ := hI; obtain ⟨u81, hI⟩ := hI; obtain ⟨u82, hI⟩ := hI; obtain ⟨u83, hI⟩ := hI; obtain ⟨u84, hI⟩ := hI; obtain ⟨u85, hI⟩ := hI; obtain ⟨u86, hI⟩ := hI; obtain ⟨u87, hI⟩ := hI; obtain ⟨u88, hI⟩ := hI; obtain ⟨u89, hI⟩ := hI; obtain ⟨u90, hI⟩ := hI; obtain ⟨u91, hI⟩ := hI; obtain ⟨u92, hI⟩ := hI; obtain ⟨u93, hI⟩ := hI; obtain ⟨u94, hI⟩ := hI; obtain ⟨u95, hI⟩ := hI; obtain ⟨u96, hI⟩ := hI; obtain ⟨u97, hI⟩ := hI; obtain ⟨u98, hI⟩ := hI; obtain ⟨u99, hI⟩ := hI; obtain ⟨u100, hI⟩ := hI; obtain ⟨u101, hI⟩ := hI; obtain ⟨u102, hI⟩ := hI; obtain ⟨u103, hI⟩ := hI; obtain ⟨u104, hI⟩ := hI; obtain ⟨u105, hI⟩ := hI; obtain ⟨u106, hI⟩ := hI; obtain ⟨u107, hI⟩ := hI; obtain ⟨u108, hI⟩ := hI; obtain ⟨u109, hI⟩ := hI; obtain ⟨u110, hI⟩ := hI; obtain ⟨u111, hI⟩ := hI; obtain ⟨u112, hI⟩ := hI; obtain ⟨u113, hI⟩ := hI; obtain ⟨u114, hI⟩ := hI; obtain ⟨u115, hI⟩ := hI; obtain ⟨u116, hI⟩ := hI; obtain ⟨u117, hI⟩ := hI; obtain ⟨u118, hI⟩ := hI; obtain ⟨u119, hI⟩ := hI; obtain ⟨u120, hI⟩ := hI; obtain ⟨u121, hI⟩ := hI
 obtain ⟨⟨hk, hgk, v, hN, hQ, hS, hD⟩, rfl⟩ := hI
 have HJ := hide hJ
 have HK := hide hK
 clear hJ hK
 have Hgk := hide hgk
 have b0 := hS.box.cell 0
 have lb := hS.box.lt
 have p0 := hS.p.cell 0
 have p1 := hS.p.cell 1
 have q0 := hQ.cell 0
 have q1 := hQ.cell 1
 have fq := hQ.frozen 1
 have lq := hQ.lt
 have hzs := hS.sz
 simp only [Yl] at b0 p0 p1 q0 q1
 have hle := splitTo_len l k
 clear hgk
 by_cases hlt : k < l.length
 · (
 obtain ⟨n, hn⟩ : ∃ n, l[k]? = some n := ⟨_, List.getElem?_eq_getElem hlt⟩
 obtain ⟨nb, no, n', rfl, hnb, hn', hnl⟩ := (hA.below hS.below).get (k := k) hlt
 rw [hn] at hn'
 injection hn' with hn'
 subst hn'
 obtain ⟨c0, c1, c2', c3, c4, c5⟩ := hnl
 have hm := List.mem_of_getElem? hn
 have u0' : (0 : Int) ≤ (k : Int) := by omega
 have u1' : (k : Int) < (l.length : Int) := by omega
 have hget : (splitTo l k)[k]? = some n := by rw [splitTo_get l k k (Nat.le_refl _) hlt]; exact hn
 obtain ⟨gv, cN, yy, rfl, hgb, hgl, _, _, _⟩ := hN.get (k := k) (by omega)
 have Hn := hide hn
 have HN := hide hN
 have HQ := hide hQ
 have HS := hide hS
 have HD := hide hD
 have Hget := hide hget
 clear hn hN hQ hS hD hA hget
 by_cases h00 : n.op = 0
 · (
 have t0 : (n.op == 0) = true := by simp [h00]
 have H00 := hide h00
 clear h00
 go_wp2_with fail
 refine HK.out _ _ (Handed.intro (l.length - (k + 1)) (by have := Hgk.out; omega) (HJ.out _ _ _ ?_))
 exact ⟨ds, k + 1, _, _, _, _, _, _, _, _, _, _, _, _, _, _, _, _, _, _, _, _, _, _, _, _, _, _, _, _, _, _, _, _, _, _, _, _, _, _, _, _, _, _, _, _, _, _, _, _, _, _, _, _, _, _, _, _, _, _, _, _, _, _, _, _, _, ⟨by omega, rfl, _, by rw [splitTo_succ Hn.out, splitStep_skip (.inl H00.out)]; exact HN.out.alloc _, HQ.out.alloc _, HS.out.later ((Below.refl _ _).alloc (Nat.le_refl _) _), (HD.out.below ((Below.refl _ _).alloc (Nat.le_refl _) _)).mono (by simp)⟩, rfl⟩)
 · (
 have t0 : (n.op == 0) = false := by simp [h00]
 have H00 := hide h00
 clear h00
 go_wp2_with (go_at_call 39; refine (exits_any _ _).mono ?_; rintro e w3 ⟨rfl, rfl⟩)
 obtain ⟨bx, hbx⟩ : ∃ bx, bx = wr.heap.size := ⟨_, rfl⟩
 obtain ⟨wn, hwn⟩ : ∃ wn : World, wn = ((wr.alloc (.cells #[.int .i64 n.op, .int .i64 n.d, .int .i64 n.a, .int .i64 n.b, .int .i64 n.t, .int .i64 n.e] 44)).alloc (.cells #[.int .i64 n.op, .int .i64 n.d, .int .i64 n.a, .int .i64 n.b, .int .i64 n.t, .int .i64 n.e] 44)).alloc (.cells #[.slice none 0 0] 22) := ⟨_, rfl⟩
 have hbW : Below wr.heap.size wr wn := by rw [hwn]; exact (by (with_reducible repeat first | apply Qa | assumption | apply Qb | apply Qc | apply Qd | apply Qe | refine Qf ?_ (by assumption) ?_); all_goals (try simp only [Sz]); first | done | omega | (try simp only [Sz] at *); omega)
 have hX1 : Blk wn bx 44 (ndA n) := by rw [hwn, hbx]; exact ((Blk.new' rfl).alloc _).alloc _
 have hX2 : Blk wn (bx + 1) 44 (ndA n) := by rw [hwn, hbx]; exact (Blk.new' (by simp)).alloc _
 have hX3 : Blk wn (bx + 1 + 1) 22 #[.slice none 0 0] := by rw [hwn, hbx]; exact Blk.new' (by simp)
 have hzn : wn.heap.size = bx + 1 + 1 + 1 := by rw [hwn, hbx]; simp
 have hN2 := HN.out.below' hbW
 have hQ2 := HQ.out.below hbW lq
 have hS2 := HS.out.later hbW
 have hD2 := HD.out.below hbW
 rw [← hwn, ← hbx]
 rw [← hbx] at hD2 lq lb hzs hgl
 have Hbx := hide hbx
 clear hwn hbx hbW
 generalize hout : splitTo l k = out at *
 have Hout := hide hout
 clear hout
 refine wp_range_exits (bx + 1 + 1 + 1) (bx + 1) n.op rfl (fun i W => Blk W (bx + 1 + 1 + 1) 84 #[.pointer (some ⟨bx + 1, 0, none⟩)] ∧ Blk W bx 44 (ndA n) ∧ Blk W (bx + 1) 44 (ndA (xmid l n out.length i)) ∧ (∃ vs : Value, Blk W (bx + 1 + 1) 22 #[vs] ∧ NRow W (bx + 1 + 1 + 1) 44 vs (smid l n i)) ∧
  NRow W w.heap.size 44 (.slice (some ⟨gv, 0, none⟩) out.length cN) out ∧ Blk W GQ 24 #[.int .i64 regs, .slice (some ⟨gv, 0, none⟩) out.length cN] ∧ WySt 3 25 24 w.heap.size w regs (.slice (some ⟨nb, no, none⟩) l.length cap) g l.length (fun (m : Nat) => ways l m) W ∧ Marks w.heap.size bx ds W) ?_ ?_ ?_ ?_ ?_
 case refine_1 => (
 rintro i W W' row ⟨h1, h2, h3, ⟨vs, h4, h4'⟩, h5, h6, h7, h8⟩ hg hr
 have hr' := fun r e => (hr r e).2
 exact ⟨h1.own hg hr', h2.own hg hr', h3.own hg hr', ⟨vs, h4.own hg hr', h4'.own hg hr'⟩, h5.own hg hr', h6.own hg hr', h7.own hg hr (by simp <;> omega), h8.own hg (fun r e => by have := (hr r e).1; simp at this; omega)⟩)
 case refine_2 => (
 rintro i W ⟨h1, h2, h3, h4, h5, h6, h7, h8⟩
 refine ⟨h1.cell 0, ?_⟩
 have := h3.cell 0
 rw [this]
 simp [ndA, xmid_op])
 case refine_3 => (
 exact ⟨Blk.new' hzn.symm, hX1.alloc _, hX2.alloc _, ⟨_, hX3.alloc _, NRow.nil_ _ _ _⟩, hN2.alloc _, hQ2.alloc _, hS2.later ((Below.refl _ _).alloc (Nat.le_refl _) _), hD2.keeps (KeepsOthers.alloc _ _)⟩)
 case refine_4 => (
 intro L i hi
 refine ⟨?act2, ?asg2, ?bdy2⟩
 case asg2 => (
 intro W K h
 gi_wp2
 exact h)
 rintro W ⟨h1, h2, h3, ⟨vs, h4, h4'⟩, h5, h6, h7, h8⟩
 obtain ⟨As, cs, rfl, _, _⟩ := h4'.shape
 have b0 := h7.box.cell 0
 have lb2 := h7.box.lt
 have w4 := h2.cell 4
 have w5 := h2.cell 5
 have lw := h2.lt
 have lx := h3.lt
 have lp := h1.lt
 have ls := h4.lt
 have s0 := h4.cell 0
 have fs := h4.frozen 0
 have q1 := h6.cell 1
 have lQ2 := h6.lt
 have hzW := h7.sz
 simp only [ndA, Yl] at b0 w4 w5 s0 q1
 have hskl := smid_len l n i
 have hB3 := h3
 unfold Blk at hB3
 have hg0 : GQ ≠ bx + 1 := by omega
 rcases hi with ⟨rfl, h12⟩ | ⟨rfl, h11⟩
 · (
 obtain ⟨t0', t1'⟩ := HR.out.then_ hm h12
 obtain ⟨mm, hmm⟩ := Int.eq_ofNat_of_zero_le (show 0 ≤ n.t by omega)
 have hE := run_eql_ptr_other (P := Tryz.prog) W (a := ⟨bx + 1, 4, none⟩) (b := ⟨bx + 1, 5, none⟩) Tryz.underlying85 hbi (by rw [hbs]; decide) (by simp) hB3 hB3
 have hway : (0 = 0 ∧ n.t = (mm : Int)) ∨ (0 = 1 ∧ n.e = (mm : Int) ∧ n.e ≠ n.t) := .inl ⟨rfl, hmm⟩
 have cz : W.cell? ⟨bx + 1, 4, none⟩ = some (.int .i64 (mm : Int)) := by rw [← hmm, h3.cell 4]; simp [ndA, xmid_t]
 simp only [Nat.add_zero]
 have fx := h3.frozen 4
 have H1 := hide h1
 have H2 := hide h2
 have H3 := hide h3
 have H4 := hide h4
 have H4' := hide h4'
 have H5 := hide h5
 have H6 := hide h6
 have H7 := hide h7
 have H8 := hide h8
 obtain ⟨cm, fm⟩ := h7.cell (m := mm) (by omega)
 have m0 : (0 : Int) ≤ (mm : Int) := by omega
 have m1 : (mm : Int) < (l.length : Int) := by omega
 clear h1 h2 h3 h4 h4' h5 h6 h7 h8 hB3
 by_cases hw : 2 ≤ ways l mm
 · (
 have t3 : decide ((ways l mm : Int) > 1) = true := by simp; omega
 have e12 := mid_more (N := out.length) hway hw
 have He1 := hide e12.1
 have He2 := hide e12.2
 clear e12
 gi_wp2
 apply wpIn_mid (W := W.drew)
 case h => gi_region; all_goals exact ⟨rfl, rfl, rfl⟩
 obtain ⟨W1, hW1⟩ : ∃ W1 : World, W1 = W.drew := ⟨_, rfl⟩
 rw [← hW1]
 have hk1 : KeepsOthers W W1 := by rw [hW1]; exact KeepsOthers.drew _
 have G1 := hide (by rw [hW1]; exact H1.out.drew : Blk W1 (bx + 1 + 1 + 1) 84 #[.pointer (some ⟨bx + 1, 0, none⟩)])
 have G2 := hide (by rw [hW1]; exact H2.out.drew : Blk W1 bx 44 (ndA n))
 have G3 := hide (by rw [hW1]; exact H3.out.drew : Blk W1 (bx + 1) 44 (ndA (xmid l n out.length 0)))
 have G4 := hide (by rw [hW1]; exact H4.out.drew : Blk W1 (bx + 1 + 1) 22 #[.slice As (smid l n 0).length cs])
 have G4' := hide (by rw [hW1]; exact H4'.out.drew : NRow W1 (bx + 1 + 1 + 1) 44 (.slice As (smid l n 0).length cs) (smid l n 0))
 have G5 := hide (by rw [hW1]; exact H5.out.drew : NRow W1 w.heap.size 44 (.slice (some ⟨gv, 0, none⟩) out.length cN) out)
 have G6 := hide (by rw [hW1]; exact H6.out.drew : Blk W1 GQ 24 #[.int .i64 regs, .slice (some ⟨gv, 0, none⟩) out.length cN])
 have G7 := hide (by rw [hW1]; exact H7.out.later ((Below.refl _ _).drew) : WySt 3 25 24 w.heap.size w regs (.slice (some ⟨nb, no, none⟩) l.length cap) g l.length (fun (m : Nat) => ways l m) W1)
 have G8 := hide (H8.out.keeps hk1)
 have cz1 : W1.cell? ⟨bx + 1, 4, none⟩ = some (.int .i64 (mm : Int)) := by rw [hW1]; exact cz
 clear hW1 cz cm fm b0 w4 w5 s0 fs q1 fx lw lx lp ls lQ2 lb2 H1 H2 H3 H4 H4' H5 H6 H7 H8
 have s0 := G4.out.cell 0
 have fs := G4.out.frozen 0
 have ls := G4.out.lt
 have lx := G3.out.lt
 have lQ2 := G6.out.lt
 have lp1 := G1.out.lt
 simp only [Yl] at s0
 gi_wp2
 have Hat := hide (nodes_one' (w := W1.drew) (n := skipN mm) (t := 44) (g := W1.heap.size) rfl)
 refine wpIn_region_any (by kernel_rfl) ?_; (try (change wpAnyIn _ _ _ _ _ _ _ _ _ (World.drew _)))
 (refine wpAnyIn_ready (rs := [0, 1]) (by kernel_rfl) (by simp) ?_; refine AllReadyIn.cons rfl (fun K hK => ?_) (AllReadyIn.cons rfl (fun K hK => ?_) AllReadyIn.nil) <;> (go_simp; (refine hK _ _ ?_; clear hK K)))
 rotate_left
 (refine wpAnyIn_ready (rs := [0, 2]) (by kernel_rfl) (by simp) ?_; refine AllReadyIn.cons rfl (fun K hK => ?_) (AllReadyIn.cons rfl (fun K hK => ?_) AllReadyIn.nil) <;> (go_simp; (refine hK _ _ ?_; clear hK K)))
 rotate_left
 (refine wpAnyIn_ready (rs := [0, 3]) (by kernel_rfl) (by simp) ?_; refine AllReadyIn.cons rfl (fun K hK => ?_) (AllReadyIn.cons rfl (fun K hK => ?_) AllReadyIn.nil) <;> (go_simp; (refine hK _ _ ?_; clear hK K)))
 rotate_left
 (refine wpAnyIn_ready (rs := [0, 4]) (by kernel_rfl) (by simp) ?_; refine AllReadyIn.cons rfl (fun K hK => ?_) (AllReadyIn.cons rfl (fun K hK => ?_) AllReadyIn.nil) <;> (go_simp; (refine hK _ _ ?_; clear hK K)))
 rotate_left
 (refine wpAnyIn_ready (rs := [0, 5]) (by kernel_rfl) (by simp) ?_; refine AllReadyIn.cons rfl (fun K hK => ?_) (AllReadyIn.cons rfl (fun K hK => ?_) AllReadyIn.nil) <;> (go_simp; (refine hK _ _ ?_; clear hK K)))
 rotate_left
 (refine wpAnyIn_ready (rs := [0]) (by kernel_rfl) (by simp) ?_; refine AllReadyIn.cons rfl (fun K hK => ?_) AllReadyIn.nil; (go_simp; (refine hK _ _ ?_; clear hK K)))
 rotate_left
 ((refine wpAnyIn_ready (rs := [1]) (by kernel_rfl) (by simp) ?_; refine AllReadyIn.cons rfl (fun K hK => ?_) AllReadyIn.nil; (go_simp; (refine hK _ _ ?_; clear hK K))); (refine wpAnyIn_ready (rs := [2]) (by kernel_rfl) (by simp) ?_; refine AllReadyIn.cons rfl (fun K hK => ?_) AllReadyIn.nil; (go_simp; (refine hK _ _ ?_; clear hK K))); (refine wpAnyIn_ready (rs := [3]) (by kernel_rfl) (by simp) ?_; refine AllReadyIn.cons rfl (fun K hK => ?_) AllReadyIn.nil; (go_simp; (refine hK _ _ ?_; clear hK K))); (refine wpAnyIn_ready (rs := [4]) (by kernel_rfl) (by simp) ?_; refine AllReadyIn.cons rfl (fun K hK => ?_) AllReadyIn.nil; (go_simp; (refine hK _ _ ?_; clear hK K))); (refine wpAnyIn_ready (rs := [5]) (by kernel_rfl) (by simp) ?_; refine AllReadyIn.cons rfl (fun K hK => ?_) AllReadyIn.nil; (go_simp; (refine hK _ _ ?_; clear hK K))))
 rotate_left
 ((refine wpAnyIn_ready (rs := [2]) (by kernel_rfl) (by simp) ?_; refine AllReadyIn.cons rfl (fun K hK => ?_) AllReadyIn.nil; (go_simp; (refine hK _ _ ?_; clear hK K))); (refine wpAnyIn_ready (rs := [3]) (by kernel_rfl) (by simp) ?_; refine AllReadyIn.cons rfl (fun K hK => ?_) AllReadyIn.nil; (go_simp; (refine hK _ _ ?_; clear hK K))); (refine wpAnyIn_ready (rs := [4]) (by kernel_rfl) (by simp) ?_; refine AllReadyIn.cons rfl (fun K hK => ?_) AllReadyIn.nil; (go_simp; (refine hK _ _ ?_; clear hK K))); (refine wpAnyIn_ready (rs := [5]) (by kernel_rfl) (by simp) ?_; refine AllReadyIn.cons rfl (fun K hK => ?_) AllReadyIn.nil; (go_simp; (refine hK _ _ ?_; clear hK K))))
 rotate_left
 ((refine wpAnyIn_ready (rs := [3]) (by kernel_rfl) (by simp) ?_; refine AllReadyIn.cons rfl (fun K hK => ?_) AllReadyIn.nil; (go_simp; (refine hK _ _ ?_; clear hK K))); (refine wpAnyIn_ready (rs := [4]) (by kernel_rfl) (by simp) ?_; refine AllReadyIn.cons rfl (fun K hK => ?_) AllReadyIn.nil; (go_simp; (refine hK _ _ ?_; clear hK K))); (refine wpAnyIn_ready (rs := [5]) (by kernel_rfl) (by simp) ?_; refine AllReadyIn.cons rfl (fun K hK => ?_) AllReadyIn.nil; (go_simp; (refine hK _ _ ?_; clear hK K))))
 rotate_left
 ((refine wpAnyIn_ready (rs := [4]) (by kernel_rfl) (by simp) ?_; refine AllReadyIn.cons rfl (fun K hK => ?_) AllReadyIn.nil; (go_simp; (refine hK _ _ ?_; clear hK K))); (refine wpAnyIn_ready (rs := [5]) (by kernel_rfl) (by simp) ?_; refine AllReadyIn.cons rfl (fun K hK => ?_) AllReadyIn.nil; (go_simp; (refine hK _ _ ?_; clear hK K))))
 rotate_left
 (refine wpAnyIn_ready (rs := [5]) (by kernel_rfl) (by simp) ?_; refine AllReadyIn.cons rfl (fun K hK => ?_) AllReadyIn.nil; (go_simp; (refine hK _ _ ?_; clear hK K)))
 all_goals as_aux_lemma =>
  refine wpAnyIn_ready (rs := [6]) (by kernel_rfl) (by simp) ?_
  refine AllReadyIn.cons rfl (fun K hK => ?_) AllReadyIn.nil
  refine stepIn_append_nodes (v := .slice As (smid l n 0).length cs) (l := smid l n 0) (base := bx + 1 + 1 + 1) rfl _ _ _ rfl i3 _ 48 Tryz.underlying22 h3i h3z h3s h3b rfl rfl ((G4'.out.drew).alloc _) (some ⟨W1.heap.size, 0, none⟩) 1 1 [skipN (mm : Int)] rfl rfl Hat.out (by simp [maxLen]; omega) (by simp; omega) (by simp; omega) ?_
  intro v4 w4 hr4 hg4 hat4
  obtain ⟨A4, c4, hv4, _, _⟩ := hr4.shape
  subst hv4
  have hlen4 : (smid l n 0 ++ [skipN (mm : Int)]).length = (smid l n 0).length + 1 := by simp
  rw [hlen4] at hr4 ⊢
  refine hK _ _ ?_
  clear hK K
  obtain ⟨W3, hW3⟩ : ∃ W3 : World, W3 = W1.drew.alloc (.cells #[.int .i64 0, .int .i64 0, .int .i64 0, .int .i64 0, .int .i64 (mm : Int), .int .i64 0] 44) := ⟨_, rfl⟩
  have hg4 : W3.grownBy w4 (Value.slice As (smid l n 0).length cs).ownBlock := by rw [hW3]; exact hg4
  have hb3 : Below W1.heap.size W1 W3 := by rw [hW3]; exact ((Below.refl _ _).drew).alloc (by simp) _
  have hk3 : KeepsOthers W1 W3 := by rw [hW3]; exact (KeepsOthers.drew _).trans (KeepsOthers.alloc _ _)
  clear hW3
  have E4' := G4'.out.below' hb3
  have hnb : ∀ b, b < bx + 1 + 1 + 1 → (Value.slice As (smid l n 0).length cs).ownBlock ≠ some b := fun b hb e => by have := (G4'.out.lt b e).1; omega
  have F1 := (G1.out.below hb3 G1.out.lt).grown hg4 (E4'.ne_blk (G1.out.below hb3 G1.out.lt) (by decide))
  have F2 := (G2.out.below hb3 G2.out.lt).grown hg4 (hnb _ (by omega))
  have F3 := (G3.out.below hb3 G3.out.lt).grown hg4 (hnb _ (by omega))
  have F4 := (G4.out.below hb3 G4.out.lt).grown hg4 (hnb _ (by omega))
  have F5 := (G5.out.below' hb3).kept hg4 (.inr (fun e => hnb gv (by omega) e.symm))
  have F6 := (G6.out.below hb3 G6.out.lt).grown hg4 (hnb _ (by omega))
  have F7 := (G7.out.later hb3).turn (E4'.mono (by omega)) (by decide) (by decide) (by decide) hg4
  have hk4 := hk3.trans (E4'.keeps hg4)
  have F8 := G8.out.keeps hk4
  clear s0 fs cz1 ls lx lQ2 lp1 Hat
  have r4 := F4.cell 0
  have q4 := F4.frozen 0
  have l4 := F4.lt
  have lx := F3.lt
  have fx := F3.frozen 4
  have q1 := F6.cell 1
  have lQ2 := F6.lt
  have x9 := F3.cell 4
  simp only [ndA, Yl] at r4 q1 x9
  have HF1 := hide F1
  have HF2 := hide F2
  have HF3 := hide F3
  have HF4 := hide F4
  have HF5 := hide F5
  have HF6 := hide F6
  have HF7 := hide F7
  have HF8 := hide F8
  have HR4 := hide hr4
  have hkk := hk1.trans hk4
  have hnv : ∀ b, b < bx + 1 + 1 + 1 → (Value.slice A4 ((smid l n 0).length + 1) c4).ownBlock ≠ some b := fun b hb e => by have := (hr4.lt b e).1; omega
  clear hg4 hat4 hr4 F1 F2 F3 F4 F5 F6 F7 F8 E4' hb3 hk3 hk4 hk1
  (refine wpAnyIn_ready (rs := [7]) (by kernel_rfl) (by simp) ?_; refine AllReadyIn.cons rfl (fun K hK => ?_) AllReadyIn.nil; (go_simp; (refine hK _ _ ?_; clear hK K)))
  refine wpAnyIn_done (by kernel_rfl) ?_ _
  have u1 : IntKind.i64.wrap ((out.length : Int) + (((smid l n 0).length + 1 : Nat) : Int)) = (out.length : Int) + (((smid l n 0).length + 1 : Nat) : Int) := by rw [IntKind.wrap_i64]; omega
  have u2 : IntKind.i64.wrap ((out.length : Int) + (((smid l n 0).length + 1 : Nat) : Int) - 1) = ((out.length + (smid l n 0).length : Nat) : Int) := by rw [IntKind.wrap_i64]; omega
  gi_wp2
  have ev : (out.length : Int) + (((smid l n 0).length : Int) + 1) - 1 = ((out.length + (smid l n 0).length : Nat) : Int) := by omega
  rw [ev]
  have h9 := (HF3.out.far (p := ⟨bx + 1 + 1, 0, none⟩) (by simp <;> omega) (.slice A4 ((smid l n 0).length + 1) c4)).set_ 4 (.int .i64 ((out.length + (smid l n 0).length : Nat) : Int))
  have He9 : xmid l n out.length (0 + 1) = (xmid l n out.length 0).put 4 ((out.length + (smid l n 0).length : Nat) : Int) := He1.out
  have He8 : smid l n (0 + 1) = smid l n 0 ++ [skipN (mm : Int)] := He2.out
  rw [ndA_put4, ← He9] at h9
  exact ⟨((hkk.trans (KeepsOthers.setCell _ _ _)).trans (KeepsOthers.setCell _ _ _)).from _, (HF1.out.far (by simp <;> omega) _).far (by simp <;> omega) _, (HF2.out.far (by simp <;> omega) _).far (by simp <;> omega) _, h9, ⟨.slice A4 ((smid l n 0).length + 1) c4, (HF4.out.set_ 0 _).far (by simp <;> omega) _, by rw [He8]; exact (HR4.out.far (hnv _ (by simp)) _).far (hnv _ (by simp <;> omega)) _⟩, (HF5.out.far (by simp [Value.ownBlock] <;> omega) _).far (by simp [Value.ownBlock] <;> omega) _, (HF6.out.far (by simp <;> omega) _).far (by simp <;> omega) _, (HF7.out.far (by simp <;> omega) _).far (by simp <;> omega) _, (HF8.out.keeps (KeepsOthers.setCell _ _ _)).keeps (KeepsOthers.setCell _ _ _)⟩)
 · (
 have t3 : decide ((ways l mm : Int) > 1) = false := by simp; omega
 have e12 := mid_one (N := out.length) hway hw
 have He1 := hide e12.1
 have He2 := hide e12.2
 clear e12
 gi_wp2
 apply wpIn_mid (W := W.drew)
 case h => gi_region; all_goals exact ⟨rfl, rfl, rfl⟩
 gi_wp2
 exact ⟨(KeepsOthers.drew _).from _, H1.out.drew, H2.out.drew, by rw [He1.out]; exact H3.out.drew, ⟨_, H4.out.drew, by rw [He2.out]; exact H4'.out.drew⟩, H5.out.drew, H6.out.drew, H7.out.later ((Below.refl _ _).drew), H8.out.keeps (KeepsOthers.drew _)⟩))
 · (
 obtain ⟨t0', t1'⟩ := HR.out.else_ hm h11
 obtain ⟨mm, hmm⟩ := Int.eq_ofNat_of_zero_le (show 0 ≤ n.e by omega)
 have hE := run_eql_ptr_same (P := Tryz.prog) W ⟨bx + 1, 5, none⟩ Tryz.underlying85 hbi
 by_cases het : n.e = n.t
 · (
 obtain ⟨e1, e2⟩ := mid_e_same (l := l) (N := out.length) het
 have t2 : (n.e == n.t) = true := by simp [het]
 have x4 := h3.cell 4
 have x5 := h3.cell 5
 have fx := h3.frozen 5
 have hP5 := h3.set_ 5 (.int .i64 (xmid l n out.length 1).t)
 rw [ndA_put5, ← e1] at hP5
 simp only [ndA, Yl] at x4 x5
 have HP5 := hide hP5
 have He2 := hide e2
 have H4' := hide h4'
 have H5 := hide h5
 have H7 := hide h7
 clear h3 het e1 e2 hmm hP5 h4' h5 h7
 simp only [Nat.reduceAdd]
 gi_wp2
 exact ⟨(KeepsOthers.setCell _ _ _).from _, h1.far (by simp <;> omega) _, h2.far (by simp <;> omega) _, HP5.out, ⟨_, h4.far (by simp <;> omega) _, by rw [He2.out]; exact H4'.out.far (fun e => by have : bx + 1 + 1 + 1 ≤ bx + 1 := (H4'.out.lt _ e).1; omega) _⟩, H5.out.far (by simp [Value.ownBlock] <;> omega) _, h6.far (by simpa using hg0) _, H7.out.far (by simp <;> omega) _, h8.keeps (KeepsOthers.setCell _ _ _)⟩)
 · (
 have hway : (1 = 0 ∧ n.t = (mm : Int)) ∨ (1 = 1 ∧ n.e = (mm : Int) ∧ n.e ≠ n.t) := .inr ⟨rfl, hmm, het⟩
 have t2 : (n.e == n.t) = false := by simpa using het
 have cz : W.cell? ⟨bx + 1, 5, none⟩ = some (.int .i64 (mm : Int)) := by rw [← hmm, h3.cell 5]; simp [ndA, xmid_e]
 simp only [Nat.reduceAdd]
 have fx := h3.frozen 5
 have H1 := hide h1
 have H2 := hide h2
 have H3 := hide h3
 have H4 := hide h4
 have H4' := hide h4'
 have H5 := hide h5
 have H6 := hide h6
 have H7 := hide h7
 have H8 := hide h8
 obtain ⟨cm, fm⟩ := h7.cell (m := mm) (by omega)
 have m0 : (0 : Int) ≤ (mm : Int) := by omega
 have m1 : (mm : Int) < (l.length : Int) := by omega
 clear h1 h2 h3 h4 h4' h5 h6 h7 h8 hB3
 by_cases hw : 2 ≤ ways l mm
 · (
 have t3 : decide ((ways l mm : Int) > 1) = true := by simp; omega
 have e12 := mid_more (N := out.length) hway hw
 have He1 := hide e12.1
 have He2 := hide e12.2
 clear e12
 gi_wp2
 apply wpIn_mid (W := W.drew)
 case h => gi_region; all_goals exact ⟨rfl, rfl, rfl⟩
 obtain ⟨W1, hW1⟩ : ∃ W1 : World, W1 = W.drew := ⟨_, rfl⟩
 rw [← hW1]
 have hk1 : KeepsOthers W W1 := by rw [hW1]; exact KeepsOthers.drew _
 have G1 := hide (by rw [hW1]; exact H1.out.drew : Blk W1 (bx + 1 + 1 + 1) 84 #[.pointer (some ⟨bx + 1, 0, none⟩)])
 have G2 := hide (by rw [hW1]; exact H2.out.drew : Blk W1 bx 44 (ndA n))
 have G3 := hide (by rw [hW1]; exact H3.out.drew : Blk W1 (bx + 1) 44 (ndA (xmid l n out.length 1)))
 have G4 := hide (by rw [hW1]; exact H4.out.drew : Blk W1 (bx + 1 + 1) 22 #[.slice As (smid l n 1).length cs])
 have G4' := hide (by rw [hW1]; exact H4'.out.drew : NRow W1 (bx + 1 + 1 + 1) 44 (.slice As (smid l n 1).length cs) (smid l n 1))
 have G5 := hide (by rw [hW1]; exact H5.out.drew : NRow W1 w.heap.size 44 (.slice (some ⟨gv, 0, none⟩) out.length cN) out)
 have G6 := hide (by rw [hW1]; exact H6.out.drew : Blk W1 GQ 24 #[.int .i64 regs, .slice (some ⟨gv, 0, none⟩) out.length cN])
 have G7 := hide (by rw [hW1]; exact H7.out.later ((Below.refl _ _).drew) : WySt 3 25 24 w.heap.size w regs (.slice (some ⟨nb, no, none⟩) l.length cap) g l.length (fun (m : Nat) => ways l m) W1)
 have G8 := hide (H8.out.keeps hk1)
 have cz1 : W1.cell? ⟨bx + 1, 5, none⟩ = some (.int .i64 (mm : Int)) := by rw [hW1]; exact cz
 clear hW1 cz cm fm b0 w4 w5 s0 fs q1 fx lw lx lp ls lQ2 lb2 H1 H2 H3 H4 H4' H5 H6 H7 H8
 have s0 := G4.out.cell 0
 have fs := G4.out.frozen 0
 have ls := G4.out.lt
 have lx := G3.out.lt
 have lQ2 := G6.out.lt
 have lp1 := G1.out.lt
 simp only [Yl] at s0
 gi_wp2
 have Hat := hide (nodes_one' (w := W1.drew) (n := skipN mm) (t := 44) (g := W1.heap.size) rfl)
 refine wpIn_region_any (by kernel_rfl) ?_; (try (change wpAnyIn _ _ _ _ _ _ _ _ _ (World.drew _)))
 (refine wpAnyIn_ready (rs := [0, 1]) (by kernel_rfl) (by simp) ?_; refine AllReadyIn.cons rfl (fun K hK => ?_) (AllReadyIn.cons rfl (fun K hK => ?_) AllReadyIn.nil) <;> (go_simp; (refine hK _ _ ?_; clear hK K)))
 rotate_left
 (refine wpAnyIn_ready (rs := [0, 2]) (by kernel_rfl) (by simp) ?_; refine AllReadyIn.cons rfl (fun K hK => ?_) (AllReadyIn.cons rfl (fun K hK => ?_) AllReadyIn.nil) <;> (go_simp; (refine hK _ _ ?_; clear hK K)))
 rotate_left
 (refine wpAnyIn_ready (rs := [0, 3]) (by kernel_rfl) (by simp) ?_; refine AllReadyIn.cons rfl (fun K hK => ?_) (AllReadyIn.cons rfl (fun K hK => ?_) AllReadyIn.nil) <;> (go_simp; (refine hK _ _ ?_; clear hK K)))
 rotate_left
 (refine wpAnyIn_ready (rs := [0, 4]) (by kernel_rfl) (by simp) ?_; refine AllReadyIn.cons rfl (fun K hK => ?_) (AllReadyIn.cons rfl (fun K hK => ?_) AllReadyIn.nil) <;> (go_simp; (refine hK _ _ ?_; clear hK K)))
 rotate_left
 (refine wpAnyIn_ready (rs := [0, 5]) (by kernel_rfl) (by simp) ?_; refine AllReadyIn.cons rfl (fun K hK => ?_) (AllReadyIn.cons rfl (fun K hK => ?_) AllReadyIn.nil) <;> (go_simp; (refine hK _ _ ?_; clear hK K)))
 rotate_left
 (refine wpAnyIn_ready (rs := [0]) (by kernel_rfl) (by simp) ?_; refine AllReadyIn.cons rfl (fun K hK => ?_) AllReadyIn.nil; (go_simp; (refine hK _ _ ?_; clear hK K)))
 rotate_left
 ((refine wpAnyIn_ready (rs := [1]) (by kernel_rfl) (by simp) ?_; refine AllReadyIn.cons rfl (fun K hK => ?_) AllReadyIn.nil; (go_simp; (refine hK _ _ ?_; clear hK K))); (refine wpAnyIn_ready (rs := [2]) (by kernel_rfl) (by simp) ?_; refine AllReadyIn.cons rfl (fun K hK => ?_) AllReadyIn.nil; (go_simp; (refine hK _ _ ?_; clear hK K))); (refine wpAnyIn_ready (rs := [3]) (by kernel_rfl) (by simp) ?_; refine AllReadyIn.cons rfl (fun K hK => ?_) AllReadyIn.nil; (go_simp; (refine hK _ _ ?_; clear hK K))); (refine wpAnyIn_ready (rs := [4]) (by kernel_rfl) (by simp) ?_; refine AllReadyIn.cons rfl (fun K hK => ?_) AllReadyIn.nil; (go_simp; (refine hK _ _ ?_; clear hK K))); (refine wpAnyIn_ready (rs := [5]) (by kernel_rfl) (by simp) ?_; refine AllReadyIn.cons rfl (fun K hK => ?_) AllReadyIn.nil; (go_simp; (refine hK _ _ ?_; clear hK K))))
 rotate_left
 ((refine wpAnyIn_ready (rs := [2]) (by kernel_rfl) (by simp) ?_; refine AllReadyIn.cons rfl (fun K hK => ?_) AllReadyIn.nil; (go_simp; (refine hK _ _ ?_; clear hK K))); (refine wpAnyIn_ready (rs := [3]) (by kernel_rfl) (by simp) ?_; refine AllReadyIn.cons rfl (fun K hK => ?_) AllReadyIn.nil; (go_simp; (refine hK _ _ ?_; clear hK K))); (refine wpAnyIn_ready (rs := [4]) (by kernel_rfl) (by simp) ?_; refine AllReadyIn.cons rfl (fun K hK => ?_) AllReadyIn.nil; (go_simp; (refine hK _ _ ?_; clear hK K))); (refine wpAnyIn_ready (rs := [5]) (by kernel_rfl) (by simp) ?_; refine AllReadyIn.cons rfl (fun K hK => ?_) AllReadyIn.nil; (go_simp; (refine hK _ _ ?_; clear hK K))))
 rotate_left
 ((refine wpAnyIn_ready (rs := [3]) (by kernel_rfl) (by simp) ?_; refine AllReadyIn.cons rfl (fun K hK => ?_) AllReadyIn.nil; (go_simp; (refine hK _ _ ?_; clear hK K))); (refine wpAnyIn_ready (rs := [4]) (by kernel_rfl) (by simp) ?_; refine AllReadyIn.cons rfl (fun K hK => ?_) AllReadyIn.nil; (go_simp; (refine hK _ _ ?_; clear hK K))); (refine wpAnyIn_ready (rs := [5]) (by kernel_rfl) (by simp) ?_; refine AllReadyIn.cons rfl (fun K hK => ?_) AllReadyIn.nil; (go_simp; (refine hK _ _ ?_; clear hK K))))
 rotate_left
 ((refine wpAnyIn_ready (rs := [4]) (by kernel_rfl) (by simp) ?_; refine AllReadyIn.cons rfl (fun K hK => ?_) AllReadyIn.nil; (go_simp; (refine hK _ _ ?_; clear hK K))); (refine wpAnyIn_ready (rs := [5]) (by kernel_rfl) (by simp) ?_; refine AllReadyIn.cons rfl (fun K hK => ?_) AllReadyIn.nil; (go_simp; (refine hK _ _ ?_; clear hK K))))
 rotate_left
 (refine wpAnyIn_ready (rs := [5]) (by kernel_rfl) (by simp) ?_; refine AllReadyIn.cons rfl (fun K hK => ?_) AllReadyIn.nil; (go_simp; (refine hK _ _ ?_; clear hK K)))
 all_goals as_aux_lemma =>
  refine wpAnyIn_ready (rs := [6]) (by kernel_rfl) (by simp) ?_
  refine AllReadyIn.cons rfl (fun K hK => ?_) AllReadyIn.nil
  refine stepIn_append_nodes (v := .slice As (smid l n 1).length cs) (l := smid l n 1) (base := bx + 1 + 1 + 1) rfl _ _ _ rfl i3 _ 48 Tryz.underlying22 h3i h3z h3s h3b rfl rfl ((G4'.out.drew).alloc _) (some ⟨W1.heap.size, 0, none⟩) 1 1 [skipN (mm : Int)] rfl rfl Hat.out (by simp [maxLen]; omega) (by simp; omega) (by simp; omega) ?_
  intro v4 w4 hr4 hg4 hat4
  obtain ⟨A4, c4, hv4, _, _⟩ := hr4.shape
  subst hv4
  have hlen4 : (smid l n 1 ++ [skipN (mm : Int)]).length = (smid l n 1).length + 1 := by simp
  rw [hlen4] at hr4 ⊢
  refine hK _ _ ?_
  clear hK K
  obtain ⟨W3, hW3⟩ : ∃ W3 : World, W3 = W1.drew.alloc (.cells #[.int .i64 0, .int .i64 0, .int .i64 0, .int .i64 0, .int .i64 (mm : Int), .int .i64 0] 44) := ⟨_, rfl⟩
  have hg4 : W3.grownBy w4 (Value.slice As (smid l n 1).length cs).ownBlock := by rw [hW3]; exact hg4
  have hb3 : Below W1.heap.size W1 W3 := by rw [hW3]; exact ((Below.refl _ _).drew).alloc (by simp) _
  have hk3 : KeepsOthers W1 W3 := by rw [hW3]; exact (KeepsOthers.drew _).trans (KeepsOthers.alloc _ _)
  clear hW3
  have E4' := G4'.out.below' hb3
  have hnb : ∀ b, b < bx + 1 + 1 + 1 → (Value.slice As (smid l n 1).length cs).ownBlock ≠ some b := fun b hb e => by have := (G4'.out.lt b e).1; omega
  have F1 := (G1.out.below hb3 G1.out.lt).grown hg4 (E4'.ne_blk (G1.out.below hb3 G1.out.lt) (by decide))
  have F2 := (G2.out.below hb3 G2.out.lt).grown hg4 (hnb _ (by omega))
  have F3 := (G3.out.below hb3 G3.out.lt).grown hg4 (hnb _ (by omega))
  have F4 := (G4.out.below hb3 G4.out.lt).grown hg4 (hnb _ (by omega))
  have F5 := (G5.out.below' hb3).kept hg4 (.inr (fun e => hnb gv (by omega) e.symm))
  have F6 := (G6.out.below hb3 G6.out.lt).grown hg4 (hnb _ (by omega))
  have F7 := (G7.out.later hb3).turn (E4'.mono (by omega)) (by decide) (by decide) (by decide) hg4
  have hk4 := hk3.trans (E4'.keeps hg4)
  have F8 := G8.out.keeps hk4
  clear s0 fs cz1 ls lx lQ2 lp1 Hat
  have r4 := F4.cell 0
  have q4 := F4.frozen 0
  have l4 := F4.lt
  have lx := F3.lt
  have fx := F3.frozen 5
  have q1 := F6.cell 1
  have lQ2 := F6.lt
  have x9 := F3.cell 5
  simp only [ndA, Yl] at r4 q1 x9
  have HF1 := hide F1
  have HF2 := hide F2
  have HF3 := hide F3
  have HF4 := hide F4
  have HF5 := hide F5
  have HF6 := hide F6
  have HF7 := hide F7
  have HF8 := hide F8
  have HR4 := hide hr4
  have hkk := hk1.trans hk4
  have hnv : ∀ b, b < bx + 1 + 1 + 1 → (Value.slice A4 ((smid l n 1).length + 1) c4).ownBlock ≠ some b := fun b hb e => by have := (hr4.lt b e).1; omega
  clear hg4 hat4 hr4 F1 F2 F3 F4 F5 F6 F7 F8 E4' hb3 hk3 hk4 hk1
  (refine wpAnyIn_ready (rs := [7]) (by kernel_rfl) (by simp) ?_; refine AllReadyIn.cons rfl (fun K hK => ?_) AllReadyIn.nil; (go_simp; (refine hK _ _ ?_; clear hK K)))
  refine wpAnyIn_done (by kernel_rfl) ?_ _
  have u1 : IntKind.i64.wrap ((out.length : Int) + (((smid l n 1).length + 1 : Nat) : Int)) = (out.length : Int) + (((smid l n 1).length + 1 : Nat) : Int) := by rw [IntKind.wrap_i64]; omega
  have u2 : IntKind.i64.wrap ((out.length : Int) + (((smid l n 1).length + 1 : Nat) : Int) - 1) = ((out.length + (smid l n 1).length : Nat) : Int) := by rw [IntKind.wrap_i64]; omega
  gi_wp2
  have ev : (out.length : Int) + (((smid l n 1).length : Int) + 1) - 1 = ((out.length + (smid l n 1).length : Nat) : Int) := by omega
  rw [ev]
  have h9 := (HF3.out.far (p := ⟨bx + 1 + 1, 0, none⟩) (by simp <;> omega) (.slice A4 ((smid l n 1).length + 1) c4)).set_ 5 (.int .i64 ((out.length + (smid l n 1).length : Nat) : Int))
  have He9 : xmid l n out.length (1 + 1) = (xmid l n out.length 1).put 5 ((out.length + (smid l n 1).length : Nat) : Int) := He1.out
  have He8 : smid l n (1 + 1) = smid l n 1 ++ [skipN (mm : Int)] := He2.out
  rw [ndA_put5, ← He9] at h9
  exact ⟨((hkk.trans (KeepsOthers.setCell _ _ _)).trans (KeepsOthers.setCell _ _ _)).from _, (HF1.out.far (by simp <;> omega) _).far (by simp <;> omega) _, (HF2.out.far (by simp <;> omega) _).far (by simp <;> omega) _, h9, ⟨.slice A4 ((smid l n 1).length + 1) c4, (HF4.out.set_ 0 _).far (by simp <;> omega) _, by rw [He8]; exact (HR4.out.far (hnv _ (by simp)) _).far (hnv _ (by simp <;> omega)) _⟩, (HF5.out.far (by simp [Value.ownBlock] <;> omega) _).far (by simp [Value.ownBlock] <;> omega) _, (HF6.out.far (by simp <;> omega) _).far (by simp <;> omega) _, (HF7.out.far (by simp <;> omega) _).far (by simp <;> omega) _, (HF8.out.keeps (KeepsOthers.setCell _ _ _)).keeps (KeepsOthers.setCell _ _ _)⟩)
 · (
 have t3 : decide ((ways l mm : Int) > 1) = false := by simp; omega
 have e12 := mid_one (N := out.length) hway hw
 have He1 := hide e12.1
 have He2 := hide e12.2
 clear e12
 gi_wp2
 apply wpIn_mid (W := W.drew)
 case h => gi_region; all_goals exact ⟨rfl, rfl, rfl⟩
 gi_wp2
 exact ⟨(KeepsOthers.drew _).from _, H1.out.drew, H2.out.drew, by rw [He1.out]; exact H3.out.drew, ⟨_, H4.out.drew, by rw [He2.out]; exact H4'.out.drew⟩, H5.out.drew, H6.out.drew, H7.out.later ((Below.refl _ _).drew), H8.out.keeps (KeepsOthers.drew _)⟩))))
 case refine_5 => (
 rintro D W hD' ⟨h1, h2, h3, ⟨vs, h4, h4'⟩, h5, h6, h7, h8⟩ hdd
 obtain ⟨y, hyy⟩ : ∃ y, y = xmid l n out.length (exitN n.op) := ⟨_, rfl⟩
 obtain ⟨sk, hsk⟩ : ∃ sk, sk = smid l n (exitN n.op) := ⟨_, rfl⟩
 have hskl : sk.length ≤ 2 := by rw [hsk]; exact smid_len _ _ _
 rw [← hyy] at h3
 rw [← hsk] at h4'
 have hstep : splitTo l (k + 1) = out.set k y ++ sk := by rw [splitTo_succ Hn.out, Hout.out, mid_end H00.out Hget.out, hyy, hsk]
 obtain ⟨As, cs, rfl, _, _⟩ := h4'.shape
 have y0 := h3.cell 0
 have y1 := h3.cell 1
 have y2 := h3.cell 2
 have y3 := h3.cell 3
 have y4 := h3.cell 4
 have y5 := h3.cell 5
 have s0 := h4.cell 0
 have q0 := h6.cell 0
 have q1 := h6.cell 1
 have fq := h6.frozen 1
 have lq2 := h6.lt
 simp only [ndA, Yl] at y0 y1 y2 y3 y4 y5 q0 q1 s0
 obtain ⟨⟨z0, z1, z2, z3, z4, z5⟩, hfr⟩ := h5.at_ Hget.out
 have f0 := hfr 0 (by omega)
 have f1 := hfr 1 (by omega)
 have f2 := hfr 2 (by omega)
 have f3 := hfr 3 (by omega)
 have f4 := hfr 4 (by omega)
 have f5 := hfr 5 (by omega)
 rw [Nat.add_zero] at f0
 have g1 : ¬ (gv = GQ) := fun e => h5.ne_blk h6 (by decide) (by rw [e]; rfl)
 have g2 : ¬ (GQ = gv) := fun e => g1 e.symm
 have hmk := h8.add (D := D) (by simp at hD'; omega) (by simp at hD'; omega) hdd
 have hko : k < out.length := (List.getElem?_eq_some_iff.1 Hget.out).1
 have v0' : (0 : Int) ≤ (k : Int) := by omega
 have v1' : (k : Int) < (out.length : Int) := by omega
 have H3 := hide h3
 have H4 := hide h4
 have H4' := hide h4'
 have H5 := hide h5
 have H6 := hide h6
 have H7 := hide h7
 have Hmk := hide hmk
 have Hstep := hide hstep
 have hsz7 := h7.sz
 clear h1 h2 h3 h4 h4' h5 h6 h7 h8 hmk hstep hyy hsk hdd hfr
 dsimp only
 go_upto_region 30 with fail
 obtain ⟨W6, hW6⟩ : ∃ W6 : World, W6 = (((((W.setCell ⟨gv, k * 6, none⟩ (.int .i64 y.op)).setCell ⟨gv, k * 6 + 1, none⟩ (.int .i64 y.d)).setCell ⟨gv, k * 6 + 2, none⟩ (.int .i64 y.a)).setCell ⟨gv, k * 6 + 3, none⟩ (.int .i64 y.b)).setCell ⟨gv, k * 6 + 4, none⟩ (.int .i64 y.t)).setCell ⟨gv, k * 6 + 5, none⟩ (.int .i64 y.e) := ⟨_, rfl⟩
 have hg6 := put6_grown W gv k y
 rw [← hW6] at hg6
 have hN6 := H5.out.put6 Hget.out y
 rw [← hW6] at hN6 ⊢
 clear hW6
 have hQ6 := H6.out.grown hg6 (H5.out.ne_blk H6.out (by decide))
 have hB6 := H4.out.grown hg6 (by simp <;> omega)
 have hK6 := H4'.out.kept hg6 (by
  rcases hA' : (Value.slice As sk.length cs).ownBlock with _ | q
  · exact .inl rfl
  · exact .inr (fun e => by have := (H4'.out.lt q hA').1; injection e with e; omega))
 have hS6 := H7.out.turn H5.out (by decide) (by decide) (by decide) hg6
 have hM6 := Hmk.out.keeps (H5.out.keeps hg6)
 have hz6 := hg6.size
 clear y0 y1 y2 y3 y4 y5 s0 q0 q1 fq z0 z1 z2 z3 z4 z5 f0 f1 f2 f3 f4 f5
 have s0 := hB6.cell 0
 have q0 := hQ6.cell 0
 have q1 := hQ6.cell 1
 have fq := hQ6.frozen 1
 simp only [Yl] at q0 q1 s0
 have HN6 := hide hN6
 have HQ6 := hide hQ6
 have HK6 := hide hK6
 have HS6 := hide hS6
 have HM6 := hide hM6
 have hne6 := hN6.ne_blk hQ6 (by decide)
 have Hne6 := hide hne6
 have Hg6 := hide hg6
 clear hN6 hQ6 hK6 hS6 hM6 hne6 hg6 hB6
 go_wp2_with (at_builtin; refine wpList_append_nodes (v := .slice (some ⟨gv, 0, none⟩) out.length cN) (l := out.set k y) (base := w.heap.size) rfl _ _ _ rfl i3 _ 48 Tryz.underlying22 h3i h3z h3s h3b rfl rfl HN6.out As sk.length cs sk rfl rfl HK6.out.nodes (by simp [maxLen]; omega) (by simp; omega) (by omega) ?_; intro v8 w8 hr8 hg8 hat8; obtain ⟨A8, c8, hv8, _, _⟩ := hr8.shape; subst hv8; have hQ8 := HQ6.out.grown hg8 Hne6.out; have r1 := hQ8.cell 1; have r2 := hQ8.frozen 1; simp only [Yl] at r1)
 have hlen8 : (out.set k y ++ sk).length = out.length + sk.length := by simp
 rw [hlen8] at hr8
 have hMK := (HM6.out.keeps (HN6.out.keeps hg8)).keeps (KeepsOthers.setCell _ ⟨GQ, 1, none⟩ (.slice A8 (out.length + sk.length) c8))
 have hMK2 := hMK.mono (S' := (w8.setCell ⟨GQ, 1, none⟩ (.slice A8 (out.length + sk.length) c8)).heap.size) (by rw [World.size_setCell]; exact Nat.le_trans hz6 hg8.size)
 have hS8 := HS6.out.turn HN6.out (by decide) (by decide) (by decide) hg8
 refine HK.out _ _ (Handed.intro (l.length - (k + 1)) (by have := Hgk.out; omega) (HJ.out _ _ _ ?_))
 exact ⟨_ :: ds, k + 1, _, _, _, _, _, _, _, _, _, _, _, _, _, _, _, _, _, _, _, _, _, _, _, _, _, _, _, _, _, _, _, _, _, _, _, _, _, _, _, _, _, _, _, _, _, _, _, _, _, _, _, _, _, _, _, _, _, _, _, _, _, _, _, _, _, ⟨by omega, rfl, .slice A8 (out.length + sk.length) c8, by rw [Hstep.out]; exact hr8.far (hr8.ne_blk hQ8 (by decide)) _, hQ8.set_ 1 _, hS8.far (by simpa using hGQ) _, hMK2⟩, rfl⟩)))
 · (
 have hkk : k = l.length := by omega
 subst hkk
 have r0 := hS.o.cell 0
 have r1 := hS.o.cell 1
 have r2 := hS.o.frozen 0
 have r3 := hS.o.frozen 1
 simp only [Yl] at r0 r1
 obtain ⟨A4, c4, hv4, _, _⟩ := hN.shape
 subst hv4
 have HN := hide hN
 have HQ := hide hQ
 have HS := hide hS
 have HD := hide hD
 have hne := hN.ne_blk hS.o (by decide)
 have Hne := hide hne
 clear hN hQ hS hD hA hne
 by_cases hbig : 256 < (splitTo l l.length).length
 · (
 go_wp2_with fail
 refine leaves_marks (B := w.heap.size) (fun W => Blk W (w.heap.size + 1) 24 #[.int .i64 0, .slice none 0 0] ∧ Below w.heap.size w W ∧ w.heap.size ≤ W.heap.size)
  (fun W D ⟨i1, i3, i4⟩ hB he => ?_) (fun W ⟨i1, i3, i4⟩ => ?_) ds _ _ ((HD.out.keeps (KeepsOthers.setCell _ _ _)).keeps (KeepsOthers.setCell _ _ _)) ⟨(HS.out.o.set_ 0 _).set_ 1 _, (HS.out.below.setCell (by simp) _).setCell (by simp) _, by have := HS.out.sz; simpa using this⟩
 · (
 have hr : ∀ r, some D = some r → ∃ o : Obj, W.heap[r]? = some o ∧ o.isCells = false := fun r e => by injection e with e; subst e; exact ⟨_, he, rfl⟩
 exact ⟨i1.own (grown_put _) hr, below_own i3 (grown_put _) i4 (D := w.heap.size) (fun r e => by injection e with e; omega) (Nat.le_refl _), Nat.le_trans i4 (grown_put (W := W) (D := D) _).size⟩)
 · (
 have j0 := i1.cell 0
 have j1 := i1.cell 1
 simp only [Yl] at j0 j1
 exact ⟨.tuple #[.agg #[.int .i64 0, .slice none 0 0], .int .i64 2], by simp [results, Tryz.results14, go_sem, j0, j1], i3, .inr (.inl ⟨H0.out, hbig, rfl⟩)⟩))
 · (
 go_wp2_with fail
 refine leaves_marks (B := w.heap.size) (fun W => Blk W (w.heap.size + 1) 24 #[.int .i64 regs, .slice A4 (splitTo l l.length).length c4] ∧ NRow W w.heap.size 44 (.slice A4 (splitTo l l.length).length c4) (splitTo l l.length) ∧ Below w.heap.size w W ∧ w.heap.size ≤ W.heap.size)
  (fun W D ⟨i1, i2, i3, i4⟩ hB he => ?_) (fun W ⟨i1, i2, i3, i4⟩ => ?_) ds _ _ ((HD.out.keeps (KeepsOthers.setCell _ _ _)).keeps (KeepsOthers.setCell _ _ _)) ⟨(HS.out.o.set_ 0 _).set_ 1 _, (HN.out.far Hne.out _).far Hne.out _, (HS.out.below.setCell (by simp) _).setCell (by simp) _, by have := HS.out.sz; simpa using this⟩
 · (
 have hr : ∀ r, some D = some r → ∃ o : Obj, W.heap[r]? = some o ∧ o.isCells = false := fun r e => by injection e with e; subst e; exact ⟨_, he, rfl⟩
 exact ⟨i1.own (grown_put _) hr, i2.own (grown_put _) hr, below_own i3 (grown_put _) i4 (D := w.heap.size) (fun r e => by injection e with e; omega) (Nat.le_refl _), Nat.le_trans i4 (grown_put (W := W) (D := D) _).size⟩)
 · (
 have j0 := i1.cell 0
 have j1 := i1.cell 1
 simp only [Yl] at j0 j1
 exact ⟨.tuple #[.agg #[.int .i64 regs, .slice A4 (splitTo l l.length).length c4], .int .i64 0], by simp [results, Tryz.results14, go_sem, j0, j1], i3, .inr (.inr ⟨H0.out, Nat.le_of_not_lt hbig, _, rfl, i2⟩)⟩))))))))
 · (
 have H0 := hide h0
 have h0' : ((chk regs l) != 0) = true := by simp [h0]
 clear h0
 go_wp2_with (go_at_call 18; refine (HC.out _ (by (with_reducible repeat first | apply Qa | assumption | apply Qb | apply Qc | apply Qd | apply Qe | refine Qf ?_ (by assumption) ?_); all_goals (try simp only [Sz]); first | done | omega | (try simp only [Sz] at *); omega)).mono ?_; rintro e w1 ⟨rfl, hb1⟩; have hO1 : Blk w1 (w.heap.size + 1) 24 #[.int .i64 0, .slice none 0 0] := Blk.below (by repeat (first | ((with_reducible refine Blk.new' ?_); exact (by (try simp only [Sz]); first | done | omega | (try simp only [Sz] at *); omega)) | (with_reducible refine Blk.drew ?_) | (with_reducible refine Blk.drewN ?_ _) | (with_reducible refine Blk.alloc ?_ _) | with_reducible assumption)) hb1 (by simp <;> omega); have lo1 := hO1.lt; have r0 := hO1.cell 0; have r1 := hO1.cell 1; have r2 := hO1.frozen 0; have r3 := hO1.frozen 1; have hz1 := hb1.size; simp only [World.size_alloc] at hz1; simp only [Yl] at r0 r1)
 go_tidy
 refine ⟨.tuple #[.agg #[.int .i64 0, .slice none 0 0], .int .i64 (chk regs l)], by simp [results, Tryz.results14, go_sem, r0, r1, World.cell?_setCell_same, World.cell?_setCell_other], ?_, ?_⟩
 · exact (Below.setCell (Below.setCell (by (with_reducible repeat first | apply Qa | assumption | apply Qb | apply Qc | apply Qd | apply Qe | refine Qf ?_ (by assumption) ?_); all_goals (try simp only [Sz]); first | done | omega | (try simp only [Sz] at *); omega) (by simp) _) (by simp) _)
 · exact .inl ⟨H0.out, rfl⟩))
end
end Go.Proofs.YtmghkonmfbpjcaaGreatDoor
