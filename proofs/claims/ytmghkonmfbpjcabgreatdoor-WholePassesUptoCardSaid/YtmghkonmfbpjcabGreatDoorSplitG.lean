/- Parts. -/
import Derived.Test.YtmghkonmfbpjcabGreatDoorTrimG
import Derived.Test.YtmghkonmfbpjcabGreatDoorSplitR
set_option linter.unusedVariables false
set_option linter.unusedSimpArgs false
set_option maxRecDepth 100000
set_option maxHeartbeats 8000000
namespace Go.Proofs.YtmghkonmfbpjcabGreatDoor
open Go.RowKit
open Go.Proofs.Tryz
section
attribute [local irreducible] Row madeCells bO
attribute [local go_sem] Oper.semAt_some
theorem Y2 {P : Prop} (h : P := by (
 have t3 : decide ((eE l mm : Int) > 1) = false := by simp; omega
 have e12 := bPL (N := out.length) hway hw
 have He1 := bA e12.1
 have He2 := bA e12.2
 clear e12
 gi_wp2
 apply iB (W := W.drew)
 case h => gi_region; all_goals exact ⟨rfl, rfl, rfl⟩
 gi_wp2
 exact ⟨(KeepsOthers.drew _).from _, H1.o.drew, H2.o.drew, by rw [He1.o]; exact H3.o.drew, ⟨_, H4.o.drew, by rw [He2.o]; exact H4'.o.drew⟩, H5.o.drew, H6.o.drew, H7.o.later ((Below.refl _ _).drew), H8.o.keeps (KeepsOthers.drew _)⟩)) : P := h
def bAO (f : Nat → Nat) (n : Nat) : List Value := (List.range n).map fun m => Value.int .i64 (Int.ofNat (f m))
structure jM (tI tSI tP : TypeId) (B : Nat) (w : World) (regs : Int) (pv : Value) (g n : Nat) (f : Nat → Nat) (W : World) : Prop where
 row : Row W B tI (.slice (some ⟨g, 0, none⟩) n n) (bAO f n)
 box : Blk W (g + 1) tSI #[.slice (some ⟨g, 0, none⟩) n n]
 p : Blk W B tP #[.int .i64 regs, pv]
 o : Blk W (B + 1) tP #[.int .i64 0, .slice none 0 0]
 below : Below B w W
 bg : B + 1 < g
 sz : B ≤ W.heap.size
section
variable {tI tSI tP : TypeId} {B : Nat} {w W W' : World} {regs : Int} {pv : Value} {g n : Nat} {f : Nat → Nat}
theorem jM.later (h : jM tI tSI tP B w regs pv g n f W) (hb : Below W.heap.size W W') : jM tI tSI tP B w regs pv g n f W' :=
 ⟨h.row.below' hb, h.box.below hb h.box.lt, h.p.below hb h.p.lt, h.o.below hb h.o.lt, h.below.trans (hb.mono h.sz), h.bg, Nat.le_trans h.sz hb.size⟩
theorem jM.own {row : Option Nat} {E : Nat} (h : jM tI tSI tP B w regs pv g n f W) (hg : W.grownBy W' row) (hr : ∀ r, row = some r → E ≤ r ∧ ∃ o : Obj, W.heap[r]? = some o ∧ o.isCells = false) (hE : B ≤ E) : jM tI tSI tP B w regs pv g n f W' :=
 have hr' := fun r e => (hr r e).2
 ⟨h.row.own hg hr', h.box.own hg hr', h.p.own hg hr', h.o.own hg hr', kR h.below hg h.sz (fun r e => (hr r e).1) hE, h.bg, Nat.le_trans h.sz hg.size⟩
theorem bNM (f : Nat → Nat) {n m : Nat} (hm : m < n) (z : Nat) : (bAO f n).set m (.int .i64 (z : Int)) = bAO (fun q => if q = m then z else f q) n := by (
 unfold bAO
 rw [fY _ _ hm]
 refine List.map_congr_left fun q _ => ?_
 by_cases hq : q = m
 · simp [upd, hq]
 · simp [upd, hq])
theorem bGT {f f' : Nat → Nat} {n : Nat} (h : ∀ m, m < n → f m = f' m) : bAO f n = bAO f' n := by (
 unfold bAO
 refine List.map_congr_left fun q hq => ?_
 rw [h q (by simpa using hq)])
theorem jM.congr {f' : Nat → Nat} (h : jM tI tSI tP B w regs pv g n f W) (e : ∀ m, m < n → f m = f' m) : jM tI tSI tP B w regs pv g n f' W := ⟨bGT e ▸ h.row, h.box, h.p, h.o, h.below, h.bg, h.sz⟩
theorem jM.cell (h : jM tI tSI tP B w regs pv g n f W) {m : Nat} (hm : m < n) : W.cell? ⟨g, m, none⟩ = some (.int .i64 (f m : Int)) ∧ W.frozen? ⟨g, m, none⟩ = false := ⟨fB h.row hm, jQ h.row hm⟩
theorem jM.put (h : jM tI tSI tP B w regs pv g n f W) {m : Nat} (hm : m < n) (z : Nat) : jM tI tSI tP B w regs pv g n (fun q => if q = m then z else f q) (W.setCell ⟨g, m, none⟩ (.int .i64 (z : Int))) := by (
 have hs := h.row.store m (.int .i64 (z : Int))
 rw [Nat.zero_add, bNM f hm z] at hs
 have := h.bg
 exact ⟨hs, h.box.far Zf _, h.p.far Zd _, h.o.far Zd _, h.below.setCell Zd _, h.bg, by simpa using h.sz⟩)
theorem jM.far {q : Addr} (h : jM tI tSI tP B w regs pv g n f W) (h1 : g + 1 < q.block) (u : Value) : jM tI tSI tP B w regs pv g n f (W.setCell q u) := by (
 have := h.bg
 exact ⟨h.row.far Zt _, h.box.far Zb _, h.p.far Zb _, h.o.far Zb _, h.below.setCell Zb _, h.bg, by simpa using h.sz⟩)
end
theorem bDL (W : World) (b o : Nat) (u : Value) : W.grownBy (W.setCell ⟨b, o, none⟩ u) (some b) :=
 ⟨rfl, rfl, rfl, Zf, fun k _ hk => Below.heap_setCell W ⟨b, o, none⟩ u k (by rintro rfl; exact hk rfl)⟩
theorem lS {W W2 : World} {b : Nat} (h : W.grownBy W2 (some b)) (o : Nat) (u : Value) : W.grownBy (W2.setCell ⟨b, o, none⟩ u) (some b) := h.trans (bDL W2 b o u)
theorem bGB (W : World) (g k : Nat) (y : Nd) : W.grownBy ((((((W.setCell ⟨g, k * 6, none⟩ (.int .i64 y.op)).setCell ⟨g, k * 6 + 1, none⟩ (.int .i64 y.d)).setCell ⟨g, k * 6 + 2, none⟩ (.int .i64 y.a)).setCell ⟨g, k * 6 + 3, none⟩ (.int .i64 y.b)).setCell ⟨g, k * 6 + 4, none⟩ (.int .i64 y.t)).setCell ⟨g, k * 6 + 5, none⟩ (.int .i64 y.e)) (some g) := by (
 exact lS (lS (lS (lS (lS (bDL W g _ _) _ _) _ _) _ _) _ _) _ _)
theorem jM.turn {tI tSI tP tN : TypeId} {B : Nat} {w W W2 : World} {regs : Int} {pv v : Value} {g n : Nat} {f : Nat → Nat} {out : List Nd} (h : jM tI tSI tP B w regs pv g n f W) (hN : cO W B tN v out) (n1 : tN ≠ tI) (n2 : tN ≠ tSI) (n3 : tN ≠ tP) (hg : W.grownBy W2 v.ownBlock) : jM tI tSI tP B w regs pv g n f W2 :=
 ⟨h.row.kept hg ((hN.ne_row h.row n1).elim (fun e => .inr (by rw [e]; simp [Value.ownBlock])) fun e => .inr (Ne.symm e)), h.box.grown hg (hN.ne_blk h.box n2), h.p.grown hg (hN.ne_blk h.p n3), h.o.grown hg (hN.ne_blk h.o n3), h.below.grown hg h.sz (fun q hq => (hN.lt q hq).1), h.bg, Nat.le_trans h.sz hg.size⟩
theorem bNA (n : Nd) (z : Int) : (ndA n).setIfInBounds 4 (.int .i64 z) = ndA (n.put 4 z) := by simp [ndA, Nd.put]
theorem bCU (n : Nd) (z : Int) : (ndA n).setIfInBounds 5 (.int .i64 z) = ndA (n.put 5 z) := by simp [ndA, Nd.put]
def bHQ (t : TypeId) (regs : Int) (l : List Nd) (w : World) (e : Ending) (w' : World) : Prop :=
 Below w.heap.size w w' ∧ ((chk regs l ≠ 0 ∧ e = .returned (.tuple #[.agg #[.int .i64 0, .slice none 0 0], .int .i64 (chk regs l)])) ∨
  (chk regs l = 0 ∧ 256 < (gA l).length ∧ e = .returned (.tuple #[.agg #[.int .i64 0, .slice none 0 0], .int .i64 2])) ∨
  (chk regs l = 0 ∧ (gA l).length ≤ 256 ∧ ∃ v, e = .returned (.tuple #[.agg #[.int .i64 regs, v], .int .i64 0]) ∧ cO w' w.heap.size t v (gA l)))
theorem zU (regs : Int) (A : Option Addr) (l : List Nd) (cap : Nat) (w : World) (hl : l.length ≤ maxLen) (hA : bH w A l) :
 Calls prog 35 #[.agg #[.int .i64 regs, .slice A l.length cap]] w (bHQ 39 regs l w) := by (
 refine Vp fun hC HC => ?_
 clear hC
 obtain ⟨ib, hbi, hbz, hbs, hbb⟩ := info_parts nS
 obtain ⟨i3, h3i, h3z, h3s, h3b⟩ := info_parts iG
 refine pO func35 rfl ?_
 simp only [ntmps35, List.size_toArray, List.length_cons, List.length_nil, Nat.reduceAdd, Nat.reduceSub, Array.replicate_succ, Array.replicate_zero, List.push_toArray, List.append_toArray, List.nil_append, List.cons_append]
 by_cases h0 : chk regs l = 0
 · (
 have H0 := bA h0
 have hR := bS h0
 have h0' : ((chk regs l) != 0) = false := by simp [h0]
 clear h0
 have hlo := hR.lo
 have hhi := hR.hi
 have HR := bA hR
 clear hR
 have hmk := dN (P := prog) 25 3 ib _ 8 underlying25 hbi hbz hbs hbb Zb rfl l.length Zb
 go_wp2_with (go_at_call 10; refine (HC.o _ Yc).mono ?_; rintro e w1 ⟨rfl, hb1⟩; have hP1 : Blk w1 w.heap.size 24 #[.int .i64 regs, .slice A l.length cap] := Blk.below Yd hb1 Zd; have hO1 : Blk w1 (w.heap.size + 1) 24 #[.int .i64 0, .slice none 0 0] := Blk.below Yd hb1 Zd; have lp1 := hP1.lt; have lo1 := hO1.lt; have p0 := hP1.cell 0; have p1 := hP1.cell 1; have hz1 := hb1.size; simp only [World.size_alloc] at hz1; simp only [Yl] at p0 p1)
 have hS0 : jM 3 25 24 w.heap.size w regs (.slice A l.length cap) w1.heap.size l.length (sR l 0) ((w1.alloc (.cells (madeCells #[.int .i64 0] l.length) 3)).alloc (.cells #[.slice (some ⟨w1.heap.size, 0, none⟩) l.length l.length] 25)) := by (
 refine ⟨?_, Blk.new' Zf, (hP1.alloc _).alloc _, (hO1.alloc _).alloc _, Yc, Zb, by simp <;> omega⟩
 have h : Row (w1.alloc (.cells (madeCells #[.int .i64 0] l.length) 3)) w.heap.size 3 (.slice (some ⟨w1.heap.size, 0, none⟩) l.length l.length) (List.replicate l.length (.int .i64 0)) := Row.made1' rfl Zb Zb
 have e : bAO (sR l 0) l.length = List.replicate l.length (.int .i64 0) := by (
 unfold bAO
 rw [show (fun m => Value.int .i64 (Int.ofNat (sR l 0 m))) = fun _ => Value.int .i64 0 from rfl, List.map_const', List.length_range])
 rw [e]
 exact h.alloc _)
 have lp := hP1.lt
 clear hP1 hO1 hmk
 obtain ⟨g, hg⟩ := Exq w1.heap.size
 rw [← hg] at hS0 ⊢
 have hbg : w.heap.size + 1 < g := Zb
 clear hg
 refine wp_loop_ghost_k (fun gk a wr => ∃ (ds : List Deferred) (k : Nat) (u7 u8 u9 u30 u31 u32 u33 u34 u35 u36 u37 u38 u39 u40 u41 u42 u43 u44 u45 u46 u47 u48 u49 u50 u51 : Value), (k ≤ l.length ∧ gk = l.length - k ∧ jM 3 25 24 w.heap.size w regs (.slice A l.length cap) g l.length (sR l k) wr ∧ eJ w.heap.size wr.heap.size ds wr) ∧
  a = { tmps := #[.agg #[.int .i64 regs, .slice A l.length cap], .pointer (some ⟨w.heap.size, 0, none⟩), .pointer (some ⟨w.heap.size + 1, 0, none⟩), .int .i64 0, .int .i64 (chk regs l), .pointer (some ⟨g + 1, 0, none⟩), undef, u7, u8, u9, undef, undef, undef, undef, undef, undef, .agg #[.int .i64 regs, .slice A l.length cap], .int .i64 (chk regs l), .int .i64 (chk regs l), .bool false, undef, undef,
   .pointer (some ⟨w.heap.size, 1, none⟩), .slice A l.length cap, .int .i64 l.length, .slice (some ⟨g, 0, none⟩) l.length l.length, .pointer (some ⟨w.heap.size, 1, none⟩), .slice A l.length cap, .int .i64 l.length, .int .i64 k, u30, u31, u32, u33, u34, u35, u36, u37, u38, u39, u40, u41, u42, u43, u44, u45, u46, u47, u48, u49, u50, u51, undef, undef, undef, undef, undef, undef, undef, undef, undef, undef, undef, undef, undef, undef, undef, undef, undef, undef, undef, undef, undef, undef, undef, undef, undef, undef, undef, undef, undef, undef, undef, undef, undef, undef, undef, undef, undef, undef, undef, undef, undef, undef, undef, undef, undef, undef, undef, undef, undef, undef, undef, undef, undef, undef, undef, undef, undef, undef, undef, undef, undef, undef, undef, undef, undef, undef, undef, undef, undef, undef, undef, undef, undef, undef, undef, undef], defers := ds }) l.length ?atStart ?round
 case atStart => (
 exact ⟨[], 0, _, _, _, _, _, _, _, _, _, _, _, _, _, _, _, _, _, _, _, _, _, _, _, _, _, ⟨Nat.zero_le _, rfl, hS0, trivial⟩, rfl⟩)
 case round => (
 rintro gk a wr ⟨ds, k, hI⟩ J K hJ hK
 obtain ⟨u7, hI⟩ := hI; obtain ⟨u8, hI⟩ := hI; obtain ⟨u9, hI⟩ := hI; obtain ⟨u30, hI⟩ := hI; obtain ⟨u31, hI⟩ := hI; obtain ⟨u32, hI⟩ := hI; obtain ⟨u33, hI⟩ := hI; obtain ⟨u34, hI⟩ := hI; obtain ⟨u35, hI⟩ := hI; obtain ⟨u36, hI⟩ := hI; obtain ⟨u37, hI⟩ := hI; obtain ⟨u38, hI⟩ := hI; obtain ⟨u39, hI⟩ := hI; obtain ⟨u40, hI⟩ := hI; obtain ⟨u41, hI⟩ := hI; obtain ⟨u42, hI⟩ := hI; obtain ⟨u43, hI⟩ := hI; obtain ⟨u44, hI⟩ := hI; obtain ⟨u45, hI⟩ := hI; obtain ⟨u46, hI⟩ := hI; obtain ⟨u47, hI⟩ := hI; obtain ⟨u48, hI⟩ := hI; obtain ⟨u49, hI⟩ := hI; obtain ⟨u50, hI⟩ := hI; obtain ⟨u51, hI⟩ := hI
 obtain ⟨⟨hk, hgk, hS, hD⟩, rfl⟩ := hI
 have HJ := bA hJ
 have HK := bA hK
 clear hJ hK
 have Hgk := bA hgk
 have b0 := hS.box.cell 0
 have lb := hS.box.lt
 have p0 := hS.p.cell 0
 have p1 := hS.p.cell 1
 simp only [Yl] at b0 p0 p1
 clear hgk hS0
 by_cases hlt : k < l.length
 · (
 obtain ⟨n, hn⟩ : ∃ n, l[k]? = some n := ⟨_, Vx hlt⟩
 obtain ⟨nb, no, n', rfl, hnb, hn', hnl⟩ := (hA.below hS.below).get (k := k) hlt
 rw [hn] at hn'
 injection hn' with hn'
 subst hn'
 obtain ⟨c0, c1, c2', c3, c4, c5⟩ := hnl
 have hm := V4 hn
 obtain ⟨u0', u1'⟩ := Ikq (k := k) (n := l.length) (by omega)
 have hwl := bOX l k
 have Hn := bA hn
 have HS := bA hS
 have HD := bA hD
 have Hwl := bA hwl
 clear hn hS hD hA hwl
 go_wp2_with (go_at_call 65; refine (qE _ _).mono ?_; rintro e w3 ⟨rfl, rfl⟩)
 obtain ⟨wn, hwn⟩ := Exq ((wr.alloc (.cells #[.int .i64 n.op, .int .i64 n.d, .int .i64 n.a, .int .i64 n.b, .int .i64 n.t, .int .i64 n.e] 39)).alloc (.cells #[.int .i64 0] 3))
 have hbW : Below wr.heap.size wr wn := by rw [hwn]; exact Yc
 have hX2 : Blk wn wr.heap.size 39 (ndA n) := by rw [hwn]; exact (Blk.new' rfl).alloc _
 have hL2 : Blk wn (wr.heap.size + 1) 3 #[.int .i64 0] := by rw [hwn]; exact Blk.new' Zf
 have hzn : wn.heap.size = wr.heap.size + 1 + 1 := by rw [hwn]; simp
 have hS2 := HS.o.later hbW
 have hD2 := HD.o.below hbW
 have hzs := HS.o.sz
 rw [← hwn]
 clear hwn
 refine iR (wr.heap.size + 1 + 1) wr.heap.size n.op rfl (fun i W => Blk W (wr.heap.size + 1 + 1) 96 #[.pointer (some ⟨wr.heap.size, 0, none⟩)] ∧ Blk W wr.heap.size 39 (ndA n) ∧ Blk W (wr.heap.size + 1) 3 #[.int .i64 (lK n i)] ∧
  jM 3 25 24 w.heap.size w regs (.slice (some ⟨nb, no, none⟩) l.length cap) g l.length (fun m => sR l k m + qL n i m) W ∧ eJ w.heap.size wr.heap.size ds W) ?_ ?_ ?_ ?_ ?_
 case refine_1 => (
 rintro i W W' row ⟨h1, h2, h3, h4, h5⟩ hg hr
 have hr' := fun r e => (hr r e).2
 exact ⟨h1.own hg hr', h2.own hg hr', h3.own hg hr', h4.own hg hr Za, h5.own hg (fun r e => by have := (hr r e).1; simp at this; omega)⟩)
 case refine_2 => (
 rintro i W ⟨h1, h2, h3, h4, h5⟩
 exact ⟨h1.cell 0, h2.cell 0⟩)
 case refine_3 => (
 exact ⟨Blk.new' hzn.symm, hX2.alloc _, hL2.alloc _, (hS2.later ((Bnq _ _))).congr (fun m _ => by rw [bIY]; rfl), hD2.keeps (KeepsOthers.alloc _ _)⟩)
 case refine_4 => (
 intro L i hi
 refine ⟨?act, ?asg, ?bdy⟩
 case asg => (
 intro W K h
 gi_wp2
 exact h)
 rintro W ⟨h1, h2, h3, h4, h5⟩
 obtain ⟨mm, cz, hm1, hml, hi2⟩ : ∃ mm : Nat, W.cell? ⟨wr.heap.size, 4 + i, none⟩ = some (.int .i64 (mm : Int)) ∧ 1 ≤ mm ∧ mm < l.length ∧ ((i = 0 ∧ n.t = mm) ∨ (i = 1 ∧ n.e = mm)) := by (
 rcases hi with ⟨rfl, h12⟩ | ⟨rfl, h11⟩
 · (
 obtain ⟨t0, t1⟩ := HR.o.then_ hm h12
 obtain ⟨tt, htt⟩ := V7 (show 0 ≤ n.t by omega)
 exact ⟨tt, by have := h2.cell 4; rw [← htt]; simpa [ndA] using this, Zb, Zb, .inl ⟨rfl, htt⟩⟩)
 · (
 obtain ⟨t0, t1⟩ := HR.o.else_ hm h11
 obtain ⟨tt, htt⟩ := V7 (show 0 ≤ n.e by omega)
 exact ⟨tt, by have := h2.cell 5; rw [← htt]; simpa [ndA] using this, Zb, Zb, .inr ⟨rfl, htt⟩⟩))
 have hcl := Nat.add_le_add (Hwl.o mm) (bOW n i mm)
 obtain ⟨cm, fm⟩ := h4.cell hml
 obtain ⟨c, hc⟩ := Exq (sR l k mm + qL n i mm)
 rw [← hc] at cm hcl
 have b0 := h4.box.cell 0
 have lb2 := h4.box.lt
 have z0 := h3.cell 0
 have fz := h3.frozen 0
 have lz := h3.lt
 have lx := h2.lt
 simp only [Yl] at b0 z0
 obtain ⟨v0, v1⟩ := Ikq (k := mm) (n := l.length) (by omega)
 have Hi2 := bA hi2
 have H4 := bA h4
 have Hc := bA hc
 clear hi2 h4 hc
 by_cases hll : (mm : Int) = lK n i
 · (
 have t1 : ((mm : Int) != lK n i) = false := by simp [hll]
 have Hll := bA hll
 clear hll
 gi_wp2
 apply iB (W := W.drew)
 case h => gi_region; all_goals exact ⟨rfl, rfl, rfl⟩
 gi_wp2
 exact ⟨((KeepsOthers.drew _).trans (KeepsOthers.setCell _ _ _)).from _, h1.drew.far Zf _, h2.drew.far Zf _, by rw [uH Hi2.o]; exact h3.drew.set_ 0 _, ((H4.o.later ((Below.refl _ _).drew)).far Zd _).congr (fun m _ => by rw [bLE Hi2.o hm1 Hll.o]), h5.keeps ((KeepsOthers.drew _).trans (KeepsOthers.setCell _ _ _))⟩)
 · (
 have t1 : ((mm : Int) != lK n i) = true := by simp [hll]
 have Hll := bA hll
 clear hll
 gi_wp2
 apply iB (W := W.drew)
 case h => gi_region; all_goals exact ⟨rfl, rfl, rfl⟩
 gi_wp2
 have e1 : IntKind.i64.wrap ((c : Int) + 1) = ((c + 1 : Nat) : Int) := by rw [IntKind.wrap_i64]; omega
 apply iB (W := W.drew.drew.setCell ⟨g, mm, none⟩ (.int .i64 ((c + 1 : Nat) : Int)))
 case h => gi_region; all_goals exact ⟨rfl, rfl, rfl⟩
 have hk2 : KeepsOthers W (W.drew.drew.setCell ⟨g, mm, none⟩ (.int .i64 ((c + 1 : Nat) : Int))) := ((KeepsOthers.drew _).trans (KeepsOthers.drew _)).trans (KeepsOthers.setCell _ _ _)
 have hP2 := (H4.o.later (((Below.refl _ _).drew).drew)).put hml (c + 1)
 have hX3 := (h2.drew.drew).far (p := ⟨g, mm, none⟩) Zd (.int .i64 ((c + 1 : Nat) : Int))
 have hG3 := (h1.drew.drew).far (p := ⟨g, mm, none⟩) Zd (.int .i64 ((c + 1 : Nat) : Int))
 have hL3 := (h3.drew.drew).far (p := ⟨g, mm, none⟩) Zd (.int .i64 ((c + 1 : Nat) : Int))
 obtain ⟨W2, hW2⟩ := Exq (W.drew.drew.setCell ⟨g, mm, none⟩ (.int .i64 ((c + 1 : Nat) : Int)))
 rw [← hW2] at hk2 hP2 hX3 hG3 hL3 ⊢
 have cz2 : W2.cell? ⟨wr.heap.size, 4 + i, none⟩ = some (.int .i64 (mm : Int)) := (hX3.cell (4 + i)).trans ((h2.cell (4 + i)).symm.trans cz)
 clear hW2
 have z9 := hL3.cell 0
 have fz9 := hL3.frozen 0
 have lz9 := hL3.lt
 have lx9 := hX3.lt
 simp only [Yl] at z9
 have HP2 := bA hP2
 clear hP2
 gi_wp2
 exact ⟨(hk2.trans (KeepsOthers.setCell _ _ _)).from _, hG3.far Zf _, hX3.far Zf _, by rw [uH Hi2.o]; exact hL3.set_ 0 _, (HP2.o.far Zd _).congr (fun m _ => by
  rw [bLF Hi2.o hm1 Hll.o]
  by_cases hmm : m = mm
  · subst hmm; have := Hc.o; simp; omega
  · simp [hmm]), h5.keeps (hk2.trans (KeepsOthers.setCell _ _ _))⟩))
 case refine_5 => (
 rintro D W hD' ⟨h1, h2, h3, h4, h5⟩ hdd
 have hmk := h5.add (D := D) Ya Ya hdd
 have h4' := h4.congr (f' := sR l (k + 1)) (fun m _ => (bIZ Hn.o m).symm)
 dsimp only
 go_wp2_with fail
 refine HK.o _ _ (Handed.intro (l.length - (k + 1)) Xp (HJ.o _ _ _ ?_))
 exact ⟨_ :: ds, k + 1, _, _, _, _, _, _, _, _, _, _, _, _, _, _, _, _, _, _, _, _, _, _, _, _, _, ⟨Zb, rfl, h4', hmk⟩, rfl⟩))
 · (
 have hkk : k = l.length := Zb
 subst hkk
 have hCl := fun W (hW : Below wr.heap.size wr W) => kU A l cap W ((hA.below hS.below).below hW) hlo Zb
 have HCl := bA hCl
 have hP1 := hS.p
 have lp1 := hP1.lt
 have hzs := hS.sz
 have HS := bA (hS.congr (f' := fun (m : Nat) => eE l m) (fun m _ => bLH l m))
 have HD := bA hD
 clear hS hD hCl
 go_upto_region 15 with fail
 refine bIX (fun a' wx => ∃ (GQ : Nat) (v : Value), (g + 1 < GQ ∧ Blk wx GQ 24 #[.int .i64 regs, v] ∧ cO wx w.heap.size 39 v l ∧ jM 3 25 24 w.heap.size w regs (.slice A l.length cap) g l.length (fun (m : Nat) => eE l m) wx ∧ eJ w.heap.size wx.heap.size ds wx) ∧
  a' = { tmps := #[.agg #[.int .i64 regs, .slice A l.length cap], .pointer (some ⟨w.heap.size, 0, none⟩), .pointer (some ⟨w.heap.size + 1, 0, none⟩), .int .i64 0, .int .i64 (chk regs l), .pointer (some ⟨g + 1, 0, none⟩), undef, u7, u8, u9, .pointer (some ⟨GQ, 0, none⟩), undef, undef, undef, undef, undef, .agg #[.int .i64 regs, .slice A l.length cap], .int .i64 (chk regs l), .int .i64 (chk regs l), .bool false, undef, undef,
   .pointer (some ⟨w.heap.size, 1, none⟩), .slice A l.length cap, .int .i64 l.length, .slice (some ⟨g, 0, none⟩) l.length l.length, .pointer (some ⟨w.heap.size, 1, none⟩), .slice A l.length cap, .int .i64 l.length, .int .i64 l.length, .bool false, u31, u32, u33, u34, u35, u36, u37, u38, u39, u40, u41, u42, u43, u44, u45, u46, u47, u48, u49, u50, u51, .pointer (some ⟨w.heap.size, 0, none⟩), .int .i64 regs, .pointer (some ⟨w.heap.size, 1, none⟩), .slice A l.length cap, v, .agg #[.int .i64 regs, v], undef, undef, undef, undef, undef, undef, undef, undef, undef, undef, undef, undef, undef, undef, undef, undef, undef, undef, undef, undef, undef, undef, undef, undef, undef, undef, undef, undef, undef, undef, undef, undef, undef, undef, undef, undef, undef, undef, undef, undef, undef, undef, undef, undef, undef, undef, undef, undef, undef, undef, undef, undef, undef, undef, undef, undef, undef, undef, undef, undef, undef, undef, undef, undef, undef, undef, undef, undef, undef, undef], defers := ds }) ?first ?rest
 case first => (
 go_region_with (first
  | (go_at_call 12; (first | with_reducible show Calls _ _ _ (World.drew (World.alloc _ _)) _ | with_reducible show Calls _ _ _ (World.alloc _ _) _); refine (HCl.o _ Yc).mono ?_; rintro e w2 ⟨v2, rfl, hr2, hb2⟩; obtain ⟨A2, c2, rfl, _, _⟩ := hr2.shape; have hz2 := hb2.size; simp only [World.size_alloc, World.size_drew] at hz2; have hP2 : Blk w2 w.heap.size 24 #[.int .i64 regs, .slice A l.length cap] := Blk.below Z1 hb2 Zd; have l2 := hP2.lt; have q0 := hP2.cell 0; have q1 := hP2.cell 1; simp only [Yl] at q0 q1; have hG2 : Blk w2 wr.heap.size 24 #[.int .i64 0, .slice none 0 0] := Blk.below Yd hb2 Zd; have g0 := hG2.cell 0; have g1 := hG2.cell 1; have g2 := hG2.frozen 0; have g3 := hG2.frozen 1; simp only [Yl] at g0 g1)
  | (go_at_call 12; refine (HCl.o _ Yc).mono ?_; rintro e w2 ⟨v2, rfl, hr2, hb2⟩; obtain ⟨A2, c2, rfl, _, _⟩ := hr2.shape; have hz2 := hb2.size; simp only [World.size_alloc, World.size_drew] at hz2; have hP2 : Blk w2 w.heap.size 24 #[.int .i64 regs, .slice A l.length cap] := Blk.below Z1 hb2 Zd; have l2 := hP2.lt; have q0 := hP2.cell 0; have q1 := hP2.cell 1; simp only [Yl] at q0 q1))
 all_goals (show ∃ (GQ : Nat) (v : Value), _)
 all_goals (first
  | (refine ⟨w2.heap.size, .slice A2 l.length c2, ⟨Zb, Yd, (hr2.alloc _).mono Zd, HS.o.later Yc, (HD.o.below Yc).mono Zd⟩, rfl⟩)
  | (refine ⟨wr.heap.size, .slice A2 l.length c2, ⟨Zb, (hG2.set_ 0 _).set_ 1 _, ((hr2.far (hr2.ne_blk hG2 Ze) _).far (hr2.ne_blk hG2 Ze) _).mono Zd, HS.o.later Yc, (HD.o.below Yc).mono Zd⟩, rfl⟩)
  | trace_state))
 case rest => (
 rintro a' wx ⟨GQ, v, ⟨hGQ, hQ, hN, hS, hD⟩, rfl⟩
 have p0 := hS.p.cell 0
 have p1 := hS.p.cell 1
 have lp := hS.p.lt
 simp only [Yl] at p0 p1
 go_wp2_with fail
 have lQ := hQ.lt
 refine wp_loop_ghost_k (fun gk a wr => ∃ (ds : List Deferred) (k : Nat) (u11 u12 u13 u14 u15 u62 u63 u64 u65 u66 u67 u68 u69 u70 u71 u72 u73 u74 u75 u76 u77 u78 u79 u80 u81 u82 u83 u84 u85 u86 u87 u88 u89 u90 u91 u92 u93 u94 u95 u96 u97 u98 u99 u100 u101 u102 u103 u104 u105 u106 u107 u108 u109 u110 u111 u112 u113 u114 u115 u116 u117 u118 u119 u120 u121 : Value), (k ≤ l.length ∧ gk = l.length - k ∧ ∃ v : Value, cO wr w.heap.size 39 v (cK l k) ∧ Blk wr GQ 24 #[.int .i64 regs, v] ∧
  jM 3 25 24 w.heap.size w regs (.slice A l.length cap) g l.length (fun (m : Nat) => eE l m) wr ∧ eJ w.heap.size wr.heap.size ds wr) ∧
 a = { tmps := #[.agg #[.int .i64 regs, .slice A l.length cap], .pointer (some ⟨w.heap.size, 0, none⟩), .pointer (some ⟨w.heap.size + 1, 0, none⟩), .int .i64 0, .int .i64 (chk regs l), .pointer (some ⟨g + 1, 0, none⟩), undef, u7, u8, u9, .pointer (some ⟨GQ, 0, none⟩), u11, u12, u13, u14, u15, .agg #[.int .i64 regs, .slice A l.length cap], .int .i64 (chk regs l), .int .i64 (chk regs l), .bool false, undef, undef,
  .pointer (some ⟨w.heap.size, 1, none⟩), .slice A l.length cap, .int .i64 l.length, .slice (some ⟨g, 0, none⟩) l.length l.length, .pointer (some ⟨w.heap.size, 1, none⟩), .slice A l.length cap, .int .i64 l.length, .int .i64 l.length, .bool false, u31, u32, u33, u34, u35, u36, u37, u38, u39, u40, u41, u42, u43, u44, u45, u46, u47, u48, u49, u50, u51, .pointer (some ⟨w.heap.size, 0, none⟩), .int .i64 regs, .pointer (some ⟨w.heap.size, 1, none⟩), .slice A l.length cap, v, .agg #[.int .i64 regs, v],
  .pointer (some ⟨w.heap.size, 1, none⟩), .slice A l.length cap, .int .i64 l.length, .int .i64 k, u62, u63, u64, u65, u66, u67, u68, u69, u70, u71, u72, u73, u74, u75, u76, u77, u78, u79, u80, u81, u82, u83, u84, u85, u86, u87, u88, u89, u90, u91, u92, u93, u94, u95, u96, u97, u98, u99, u100, u101, u102, u103, u104, u105, u106, u107, u108, u109, u110, u111, u112, u113, u114, u115, u116, u117, u118, u119, u120, u121, undef, undef, undef, undef, undef, undef], defers := ds }) l.length ?atStart ?round
 case atStart => exact ⟨ds, 0, _, _, _, _, _, _, _, _, _, _, _, _, _, _, _, _, _, _, _, _, _, _, _, _, _, _, _, _, _, _, _, _, _, _, _, _, _, _, _, _, _, _, _, _, _, _, _, _, _, _, _, _, _, _, _, _, _, _, _, _, _, _, _, _, _, ⟨Nat.zero_le _, rfl, v, hN, hQ, hS, hD⟩, rfl⟩
 case round => (
 rename_i v0
 clear hN hQ hS hD
 rintro gk a wr ⟨ds, k, hI⟩ J K hJ hK
 obtain ⟨u11, hI⟩ := hI; obtain ⟨u12, hI⟩ := hI; obtain ⟨u13, hI⟩ := hI; obtain ⟨u14, hI⟩ := hI; obtain ⟨u15, hI⟩ := hI; obtain ⟨u62, hI⟩ := hI; obtain ⟨u63, hI⟩ := hI; obtain ⟨u64, hI⟩ := hI; obtain ⟨u65, hI⟩ := hI; obtain ⟨u66, hI⟩ := hI; obtain ⟨u67, hI⟩ := hI; obtain ⟨u68, hI⟩ := hI; obtain ⟨u69, hI⟩ := hI; obtain ⟨u70, hI⟩ := hI; obtain ⟨u71, hI⟩ := hI; obtain ⟨u72, hI⟩ := hI; obtain ⟨u73, hI⟩ := hI; obtain ⟨u74, hI⟩ := hI; obtain ⟨u75, hI⟩ := hI; obtain ⟨u76, hI⟩ := hI; obtain ⟨u77, hI⟩ := hI; obtain ⟨u78, hI⟩ := hI; obtain ⟨u79, hI⟩ := hI; obtain ⟨u80, hI⟩ := hI; obtain ⟨u81, hI⟩ := hI; obtain ⟨u82, hI⟩ := hI; obtain ⟨u83, hI⟩ := hI; obtain ⟨u84, hI⟩ := hI; obtain ⟨u85, hI⟩ := hI; obtain ⟨u86, hI⟩ := hI; obtain ⟨u87, hI⟩ := hI; obtain ⟨u88, hI⟩ := hI; obtain ⟨u89, hI⟩ := hI; obtain ⟨u90, hI⟩ := hI; obtain ⟨u91, hI⟩ := hI; obtain ⟨u92, hI⟩ := hI; obtain ⟨u93, hI⟩ := hI; obtain ⟨u94, hI⟩ := hI; obtain ⟨u95, hI⟩ := hI; obtain ⟨u96, hI⟩ := hI; obtain ⟨u97, hI⟩ := hI; obtain ⟨u98, hI⟩ := hI; obtain ⟨u99, hI⟩ := hI; obtain ⟨u100, hI⟩ := hI; obtain ⟨u101, hI⟩ := hI; obtain ⟨u102, hI⟩ := hI; obtain ⟨u103, hI⟩ := hI; obtain ⟨u104, hI⟩ := hI; obtain ⟨u105, hI⟩ := hI; obtain ⟨u106, hI⟩ := hI; obtain ⟨u107, hI⟩ := hI; obtain ⟨u108, hI⟩ := hI; obtain ⟨u109, hI⟩ := hI; obtain ⟨u110, hI⟩ := hI; obtain ⟨u111, hI⟩ := hI; obtain ⟨u112, hI⟩ := hI; obtain ⟨u113, hI⟩ := hI; obtain ⟨u114, hI⟩ := hI; obtain ⟨u115, hI⟩ := hI; obtain ⟨u116, hI⟩ := hI; obtain ⟨u117, hI⟩ := hI; obtain ⟨u118, hI⟩ := hI; obtain ⟨u119, hI⟩ := hI; obtain ⟨u120, hI⟩ := hI; obtain ⟨u121, hI⟩ := hI
 obtain ⟨⟨hk, hgk, v, hN, hQ, hS, hD⟩, rfl⟩ := hI
 have HJ := bA hJ
 have HK := bA hK
 clear hJ hK
 have Hgk := bA hgk
 have b0 := hS.box.cell 0
 have lb := hS.box.lt
 have p0 := hS.p.cell 0
 have p1 := hS.p.cell 1
 have q0 := hQ.cell 0
 have q1 := hQ.cell 1
 have fq := hQ.frozen 1
 have lq := hQ.lt
 have hzs := hS.sz
 simp only [Yl] at b0 p0 p1 q0 q1
 have hle := mC l k
 clear hgk
 by_cases hlt : k < l.length
 · (
 obtain ⟨n, hn⟩ : ∃ n, l[k]? = some n := ⟨_, Vx hlt⟩
 obtain ⟨nb, no, n', rfl, hnb, hn', hnl⟩ := (hA.below hS.below).get (k := k) hlt
 rw [hn] at hn'
 injection hn' with hn'
 subst hn'
 obtain ⟨c0, c1, c2', c3, c4, c5⟩ := hnl
 have hm := V4 hn
 obtain ⟨u0', u1'⟩ := Ikq (k := k) (n := l.length) (by omega)
 have hget : (cK l k)[k]? = some n := by rw [oZ l k k (Nat.le_refl _) hlt]; exact hn
 obtain ⟨gv, cN, yy, rfl, hgb, hgl, _, _, _⟩ := hN.get (k := k) Zb
 have Hn := bA hn
 have HN := bA hN
 have HQ := bA hQ
 have HS := bA hS
 have HD := bA hD
 have Hget := bA hget
 clear hn hN hQ hS hD hA hget
 by_cases h00 : n.op = 0
 · (
 have t0 : (n.op == 0) = true := by simp [h00]
 have H00 := bA h00
 clear h00
 go_wp2_with fail
 refine HK.o _ _ (Handed.intro (l.length - (k + 1)) Xp (HJ.o _ _ _ ?_))
 exact ⟨ds, k + 1, _, _, _, _, _, _, _, _, _, _, _, _, _, _, _, _, _, _, _, _, _, _, _, _, _, _, _, _, _, _, _, _, _, _, _, _, _, _, _, _, _, _, _, _, _, _, _, _, _, _, _, _, _, _, _, _, _, _, _, _, _, _, _, _, _, ⟨Zb, rfl, _, by rw [cR Hn.o, gE (.inl H00.o)]; exact HN.o.alloc _, HQ.o.alloc _, HS.o.later ((Bnq _ _)), (HD.o.below ((Bnq _ _))).mono Zf⟩, rfl⟩)
 · (
 have t0 : (n.op == 0) = false := by simp [h00]
 have H00 := bA h00
 clear h00
 go_wp2_with (go_at_call 65; refine (qE _ _).mono ?_; rintro e w3 ⟨rfl, rfl⟩)
 obtain ⟨bx, hbx⟩ := Exq wr.heap.size
 obtain ⟨wn, hwn⟩ := Exq (((wr.alloc (.cells #[.int .i64 n.op, .int .i64 n.d, .int .i64 n.a, .int .i64 n.b, .int .i64 n.t, .int .i64 n.e] 39)).alloc (.cells #[.int .i64 n.op, .int .i64 n.d, .int .i64 n.a, .int .i64 n.b, .int .i64 n.t, .int .i64 n.e] 39)).alloc (.cells #[.slice none 0 0] 22))
 have hbW : Below wr.heap.size wr wn := by rw [hwn]; exact Yc
 have hX1 : Blk wn bx 39 (ndA n) := by rw [hwn, hbx]; exact ((Blk.new' rfl).alloc _).alloc _
 have hX2 : Blk wn (bx + 1) 39 (ndA n) := by rw [hwn, hbx]; exact (Blk.new' Zf).alloc _
 have hX3 : Blk wn (bx + 1 + 1) 22 #[.slice none 0 0] := by rw [hwn, hbx]; exact Blk.new' Zf
 have hzn : wn.heap.size = bx + 1 + 1 + 1 := by rw [hwn, hbx]; simp
 have hN2 := HN.o.below' hbW
 have hQ2 := HQ.o.below hbW lq
 have hS2 := HS.o.later hbW
 have hD2 := HD.o.below hbW
 rw [← hwn, ← hbx]
 rw [← hbx] at hD2 lq lb hzs hgl
 have Hbx := bA hbx
 clear hwn hbx hbW
 generalize hout : cK l k = out at *
 have Hout := bA hout
 clear hout
 refine iR (bx + 1 + 1 + 1) (bx + 1) n.op rfl (fun i W => Blk W (bx + 1 + 1 + 1) 96 #[.pointer (some ⟨bx + 1, 0, none⟩)] ∧ Blk W bx 39 (ndA n) ∧ Blk W (bx + 1) 39 (ndA (fS l n out.length i)) ∧ (∃ vs : Value, Blk W (bx + 1 + 1) 22 #[vs] ∧ cO W (bx + 1 + 1 + 1) 39 vs (cF l n i)) ∧
  cO W w.heap.size 39 (.slice (some ⟨gv, 0, none⟩) out.length cN) out ∧ Blk W GQ 24 #[.int .i64 regs, .slice (some ⟨gv, 0, none⟩) out.length cN] ∧ jM 3 25 24 w.heap.size w regs (.slice (some ⟨nb, no, none⟩) l.length cap) g l.length (fun (m : Nat) => eE l m) W ∧ eJ w.heap.size bx ds W) ?_ ?_ ?_ ?_ ?_
 case refine_1 => (
 rintro i W W' row ⟨h1, h2, h3, ⟨vs, h4, h4'⟩, h5, h6, h7, h8⟩ hg hr
 have hr' := fun r e => (hr r e).2
 exact ⟨h1.own hg hr', h2.own hg hr', h3.own hg hr', ⟨vs, h4.own hg hr', h4'.own hg hr'⟩, h5.own hg hr', h6.own hg hr', h7.own hg hr Zd, h8.own hg (fun r e => by have := (hr r e).1; simp at this; omega)⟩)
 case refine_2 => (
 rintro i W ⟨h1, h2, h3, h4, h5, h6, h7, h8⟩
 refine ⟨h1.cell 0, ?_⟩
 have := h3.cell 0
 rw [this]
 simp [ndA, bOV])
 case refine_3 => (
 exact ⟨Blk.new' hzn.symm, hX1.alloc _, hX2.alloc _, ⟨_, hX3.alloc _, bO.nil_ _ _ _⟩, hN2.alloc _, hQ2.alloc _, hS2.later ((Bnq _ _)), hD2.keeps (KeepsOthers.alloc _ _)⟩)
 case refine_4 => (
 intro L i hi
 refine ⟨?act2, ?asg2, ?bdy2⟩
 case asg2 => (
 intro W K h
 gi_wp2
 exact h)
 rintro W ⟨h1, h2, h3, ⟨vs, h4, h4'⟩, h5, h6, h7, h8⟩
 obtain ⟨As, cs, rfl, _, _⟩ := h4'.shape
 have b0 := h7.box.cell 0
 have lb2 := h7.box.lt
 have w4 := h2.cell 4
 have w5 := h2.cell 5
 have lw := h2.lt
 have lx := h3.lt
 have lp := h1.lt
 have ls := h4.lt
 have s0 := h4.cell 0
 have fs := h4.frozen 0
 have q1 := h6.cell 1
 have lQ2 := h6.lt
 have hzW := h7.sz
 simp only [ndA, Yl] at b0 w4 w5 s0 q1
 have hskl := bBZ l n i
 have hB3 := h3
 unfold Blk at hB3
 have hg0 : GQ ≠ bx + 1 := Zb
 rcases hi with ⟨rfl, h12⟩ | ⟨rfl, h11⟩
 · (
 obtain ⟨t0', t1'⟩ := HR.o.then_ hm h12
 obtain ⟨mm, hmm⟩ := V7 (show 0 ≤ n.t by omega)
 have hE := run_eql_ptr_other (P := prog) W (a := ⟨bx + 1, 4, none⟩) (b := ⟨bx + 1, 5, none⟩) underlying97 hbi (by rw [hbs]; decide) Zf hB3 hB3
 have hway : (0 = 0 ∧ n.t = (mm : Int)) ∨ (0 = 1 ∧ n.e = (mm : Int) ∧ n.e ≠ n.t) := .inl ⟨rfl, hmm⟩
 have cz : W.cell? ⟨bx + 1, 4, none⟩ = some (.int .i64 (mm : Int)) := by rw [← hmm, h3.cell 4]; simp [ndA, bQW]
 simp only [Nat.add_zero]
 have fx := h3.frozen 4
 have H1 := bA h1
 have H2 := bA h2
 have H3 := bA h3
 have H4 := bA h4
 have H4' := bA h4'
 have H5 := bA h5
 have H6 := bA h6
 have H7 := bA h7
 have H8 := bA h8
 obtain ⟨cm, fm⟩ := h7.cell (m := mm) Zb
 obtain ⟨m0, m1⟩ := Ikq (k := mm) (n := l.length) (by omega)
 clear h1 h2 h3 h4 h4' h5 h6 h7 h8 hB3
 by_cases hw : 2 ≤ eE l mm
 · (
 have t3 : decide ((eE l mm : Int) > 1) = true := by simp; omega
 have e12 := bCX (N := out.length) hway hw
 have He1 := bA e12.1
 have He2 := bA e12.2
 clear e12
 gi_wp2
 apply iB (W := W.drew)
 case h => gi_region; all_goals exact ⟨rfl, rfl, rfl⟩
 obtain ⟨W1, hW1⟩ := Exq W.drew
 rw [← hW1]
 refine Wx fun hk1 G1 G2 => ?_
 have G3 := bA (by rw [hW1]; exact H3.o.drew : Blk W1 (bx + 1) 39 (ndA (fS l n out.length 0)))
 have G4 := bA (by rw [hW1]; exact H4.o.drew : Blk W1 (bx + 1 + 1) 22 #[.slice As (cF l n 0).length cs])
 have G4' := bA (by rw [hW1]; exact H4'.o.drew : cO W1 (bx + 1 + 1 + 1) 39 (.slice As (cF l n 0).length cs) (cF l n 0))
 refine K4 fun G5 G6 G7 G8 => ?_
 have cz1 : W1.cell? ⟨bx + 1, 4, none⟩ = some (.int .i64 (mm : Int)) := by rw [hW1]; exact cz
 clear hW1 cz cm fm b0 w4 w5 s0 fs q1 fx lw lx lp ls lQ2 lb2 H1 H2 H3 H4 H4' H5 H6 H7 H8
 have s0 := G4.out.cell 0
 have fs := G4.out.frozen 0
 have ls := G4.out.lt
 have lx := G3.out.lt
 have lQ2 := G6.out.lt
 have lp1 := G1.out.lt
 simp only [Yl] at s0
 gi_wp2
 have Hat := bA (cH (w := W1.drew) (n := cM mm) (t := 39) (g := W1.heap.size) rfl)
 refine wpIn_region_any Zc ?_; (try (change wpAnyIn _ _ _ _ _ _ _ _ _ (World.drew _)))
 (refine wpAnyIn_ready (rs := [0, 1]) Zc Zf ?_; refine AllReadyIn.cons rfl (fun K hK => ?_) (AllReadyIn.cons rfl (fun K hK => ?_) AllReadyIn.nil) <;> (go_simp; (refine hK _ _ ?_; clear hK K)))
 rotate_left
 (refine wpAnyIn_ready (rs := [0, 2]) Zc Zf ?_; refine AllReadyIn.cons rfl (fun K hK => ?_) (AllReadyIn.cons rfl (fun K hK => ?_) AllReadyIn.nil) <;> (go_simp; (refine hK _ _ ?_; clear hK K)))
 rotate_left
 (refine wpAnyIn_ready (rs := [0, 3]) Zc Zf ?_; refine AllReadyIn.cons rfl (fun K hK => ?_) (AllReadyIn.cons rfl (fun K hK => ?_) AllReadyIn.nil) <;> (go_simp; (refine hK _ _ ?_; clear hK K)))
 rotate_left
 (refine wpAnyIn_ready (rs := [0, 4]) Zc Zf ?_; refine AllReadyIn.cons rfl (fun K hK => ?_) (AllReadyIn.cons rfl (fun K hK => ?_) AllReadyIn.nil) <;> (go_simp; (refine hK _ _ ?_; clear hK K)))
 rotate_left
 (refine wpAnyIn_ready (rs := [0, 5]) Zc Zf ?_; refine AllReadyIn.cons rfl (fun K hK => ?_) (AllReadyIn.cons rfl (fun K hK => ?_) AllReadyIn.nil) <;> (go_simp; (refine hK _ _ ?_; clear hK K)))
 rotate_left
 (refine wpAnyIn_ready (rs := [0]) Zc Zf ?_; refine AllReadyIn.cons rfl (fun K hK => ?_) AllReadyIn.nil; (go_simp; (refine hK _ _ ?_; clear hK K)))
 rotate_left
 ((refine wpAnyIn_ready (rs := [1]) Zc Zf ?_; refine AllReadyIn.cons rfl (fun K hK => ?_) AllReadyIn.nil; (go_simp; (refine hK _ _ ?_; clear hK K))); (refine wpAnyIn_ready (rs := [2]) Zc Zf ?_; refine AllReadyIn.cons rfl (fun K hK => ?_) AllReadyIn.nil; (go_simp; (refine hK _ _ ?_; clear hK K))); (refine wpAnyIn_ready (rs := [3]) Zc Zf ?_; refine AllReadyIn.cons rfl (fun K hK => ?_) AllReadyIn.nil; (go_simp; (refine hK _ _ ?_; clear hK K))); (refine wpAnyIn_ready (rs := [4]) Zc Zf ?_; refine AllReadyIn.cons rfl (fun K hK => ?_) AllReadyIn.nil; (go_simp; (refine hK _ _ ?_; clear hK K))); (refine wpAnyIn_ready (rs := [5]) Zc Zf ?_; refine AllReadyIn.cons rfl (fun K hK => ?_) AllReadyIn.nil; (go_simp; (refine hK _ _ ?_; clear hK K))))
 rotate_left
 ((refine wpAnyIn_ready (rs := [2]) Zc Zf ?_; refine AllReadyIn.cons rfl (fun K hK => ?_) AllReadyIn.nil; (go_simp; (refine hK _ _ ?_; clear hK K))); (refine wpAnyIn_ready (rs := [3]) Zc Zf ?_; refine AllReadyIn.cons rfl (fun K hK => ?_) AllReadyIn.nil; (go_simp; (refine hK _ _ ?_; clear hK K))); (refine wpAnyIn_ready (rs := [4]) Zc Zf ?_; refine AllReadyIn.cons rfl (fun K hK => ?_) AllReadyIn.nil; (go_simp; (refine hK _ _ ?_; clear hK K))); (refine wpAnyIn_ready (rs := [5]) Zc Zf ?_; refine AllReadyIn.cons rfl (fun K hK => ?_) AllReadyIn.nil; (go_simp; (refine hK _ _ ?_; clear hK K))))
 rotate_left
 ((refine wpAnyIn_ready (rs := [3]) Zc Zf ?_; refine AllReadyIn.cons rfl (fun K hK => ?_) AllReadyIn.nil; (go_simp; (refine hK _ _ ?_; clear hK K))); (refine wpAnyIn_ready (rs := [4]) Zc Zf ?_; refine AllReadyIn.cons rfl (fun K hK => ?_) AllReadyIn.nil; (go_simp; (refine hK _ _ ?_; clear hK K))); (refine wpAnyIn_ready (rs := [5]) Zc Zf ?_; refine AllReadyIn.cons rfl (fun K hK => ?_) AllReadyIn.nil; (go_simp; (refine hK _ _ ?_; clear hK K))))
 rotate_left
 ((refine wpAnyIn_ready (rs := [4]) Zc Zf ?_; refine AllReadyIn.cons rfl (fun K hK => ?_) AllReadyIn.nil; (go_simp; (refine hK _ _ ?_; clear hK K))); (refine wpAnyIn_ready (rs := [5]) Zc Zf ?_; refine AllReadyIn.cons rfl (fun K hK => ?_) AllReadyIn.nil; (go_simp; (refine hK _ _ ?_; clear hK K))))
 rotate_left
 (refine wpAnyIn_ready (rs := [5]) Zc Zf ?_; refine AllReadyIn.cons rfl (fun K hK => ?_) AllReadyIn.nil; (go_simp; (refine hK _ _ ?_; clear hK K)))
 all_goals as_aux_lemma =>
  refine wpAnyIn_ready (rs := [6]) Zc Zf ?_
  refine AllReadyIn.cons rfl (fun K hK => ?_) AllReadyIn.nil
  refine kL (v := .slice As (cF l n 0).length cs) (l := cF l n 0) (base := bx + 1 + 1 + 1) rfl _ _ _ rfl i3 _ 48 underlying22 h3i h3z h3s h3b rfl rfl ((G4'.out.drew).alloc _) (some ⟨W1.heap.size, 0, none⟩) 1 1 [cM (mm : Int)] rfl rfl Hat.o Zq Zh Zh ?_
  intro v4 w4 hr4 hg4 hat4
  obtain ⟨A4, c4, hv4, _, _⟩ := hr4.shape
  subst hv4
  have hlen4 : (cF l n 0 ++ [cM (mm : Int)]).length = (cF l n 0).length + 1 := Zf
  rw [hlen4] at hr4 ⊢
  refine hK _ _ ?_
  clear hK K
  obtain ⟨W3, hW3⟩ := Exq (W1.drew.alloc (.cells #[.int .i64 0, .int .i64 0, .int .i64 0, .int .i64 0, .int .i64 (mm : Int), .int .i64 0] 39))
  have hg4 : W3.grownBy w4 (Value.slice As (cF l n 0).length cs).ownBlock := by rw [hW3]; exact hg4
  refine Wj fun hb3 hk3 E4' => ?_; clear hW3
  have hnb : ∀ b, b < bx + 1 + 1 + 1 → (Value.slice As (cF l n 0).length cs).ownBlock ≠ some b := fun b hb e => by have := (G4'.out.lt b e).1; omega
  refine Kf ?_; clear s0 fs cz1 ls lx lQ2 lp1 Hat; intro F1 F2 F3 F4 F5 F6 F7 hk4 F8 r4 q4 l4 lx
  have fx := F3.frozen 4
  have q1 := F6.cell 1
  have lQ2 := F6.lt
  have x9 := F3.cell 4
  simp only [ndA, Yl] at r4 q1 x9
  have HF1 := bA F1
  have HF2 := bA F2
  have HF3 := bA F3
  have HF4 := bA F4
  have HF5 := bA F5
  have HF6 := bA F6
  have HF7 := bA F7
  have HF8 := bA F8
  have HR4 := bA hr4
  have hkk := hk1.trans hk4
  have hnv : ∀ b, b < bx + 1 + 1 + 1 → (Value.slice A4 ((cF l n 0).length + 1) c4).ownBlock ≠ some b := fun b hb e => by have := (hr4.lt b e).1; omega
  clear hg4 hat4 hr4 F1 F2 F3 F4 F5 F6 F7 F8 E4' hb3 hk3 hk4 hk1
  (refine wpAnyIn_ready (rs := [7]) Zc Zf ?_; refine AllReadyIn.cons rfl (fun K hK => ?_) AllReadyIn.nil; (go_simp; (refine hK _ _ ?_; clear hK K)))
  refine wpAnyIn_done Zc ?_ _
  have u1 : IntKind.i64.wrap ((out.length : Int) + (((cF l n 0).length + 1 : Nat) : Int)) = (out.length : Int) + (((cF l n 0).length + 1 : Nat) : Int) := by rw [IntKind.wrap_i64]; omega
  have u2 : IntKind.i64.wrap ((out.length : Int) + (((cF l n 0).length + 1 : Nat) : Int) - 1) = ((out.length + (cF l n 0).length : Nat) : Int) := by rw [IntKind.wrap_i64]; omega
  gi_wp2
  have ev : (out.length : Int) + (((cF l n 0).length : Int) + 1) - 1 = ((out.length + (cF l n 0).length : Nat) : Int) := Zb
  rw [ev]
  have h9 := (HF3.o.far (p := ⟨bx + 1 + 1, 0, none⟩) Zd (.slice A4 ((cF l n 0).length + 1) c4)).set_ 4 (.int .i64 ((out.length + (cF l n 0).length : Nat) : Int))
  have He9 : fS l n out.length (0 + 1) = (fS l n out.length 0).put 4 ((out.length + (cF l n 0).length : Nat) : Int) := He1.o
  have He8 : cF l n (0 + 1) = cF l n 0 ++ [cM (mm : Int)] := He2.o
  rw [bNA, ← He9] at h9
  exact ⟨((hkk.trans (KeepsOthers.setCell _ _ _)).trans (KeepsOthers.setCell _ _ _)).from _, (HF1.o.far Zd _).far Zd _, (HF2.o.far Zd _).far Zd _, h9, ⟨.slice A4 ((cF l n 0).length + 1) c4, (HF4.o.set_ 0 _).far Zd _, by rw [He8]; exact (HR4.o.far (hnv _ Zf) _).far (hnv _ Zd) _⟩, (HF5.o.far Zt _).far Zt _, (HF6.o.far Zd _).far Zd _, (HF7.o.far Zd _).far Zd _, (HF8.o.keeps (KeepsOthers.setCell _ _ _)).keeps (KeepsOthers.setCell _ _ _)⟩)
 · exact Y2)
 · (
 obtain ⟨t0', t1'⟩ := HR.o.else_ hm h11
 obtain ⟨mm, hmm⟩ := V7 (show 0 ≤ n.e by omega)
 have hE := run_eql_ptr_same (P := prog) W ⟨bx + 1, 5, none⟩ underlying97 hbi
 by_cases het : n.e = n.t
 · (
 obtain ⟨e1, e2⟩ := bGH (l := l) (N := out.length) het
 have t2 : (n.e == n.t) = true := by simp [het]
 have x4 := h3.cell 4
 have x5 := h3.cell 5
 have fx := h3.frozen 5
 have hP5 := h3.set_ 5 (.int .i64 (fS l n out.length 1).t)
 rw [bCU, ← e1] at hP5
 simp only [ndA, Yl] at x4 x5
 have HP5 := bA hP5
 have He2 := bA e2
 have H4' := bA h4'
 have H5 := bA h5
 have H7 := bA h7
 clear h3 het e1 e2 hmm hP5 h4' h5 h7
 simp only [Nat.reduceAdd]
 gi_wp2
 exact ⟨(KeepsOthers.setCell _ _ _).from _, h1.far Zd _, h2.far Zd _, HP5.o, ⟨_, h4.far Zd _, by rw [He2.o]; exact H4'.o.far (fun e => by have : bx + 1 + 1 + 1 ≤ bx + 1 := (H4'.o.lt _ e).1; omega) _⟩, H5.o.far Zt _, h6.far (by simpa using hg0) _, H7.o.far Zd _, h8.keeps (KeepsOthers.setCell _ _ _)⟩)
 · (
 have hway : (1 = 0 ∧ n.t = (mm : Int)) ∨ (1 = 1 ∧ n.e = (mm : Int) ∧ n.e ≠ n.t) := .inr ⟨rfl, hmm, het⟩
 have t2 : (n.e == n.t) = false := by simpa using het
 have cz : W.cell? ⟨bx + 1, 5, none⟩ = some (.int .i64 (mm : Int)) := by rw [← hmm, h3.cell 5]; simp [ndA, bQX]
 simp only [Nat.reduceAdd]
 have fx := h3.frozen 5
 have H1 := bA h1
 have H2 := bA h2
 have H3 := bA h3
 have H4 := bA h4
 have H4' := bA h4'
 have H5 := bA h5
 have H6 := bA h6
 have H7 := bA h7
 have H8 := bA h8
 obtain ⟨cm, fm⟩ := h7.cell (m := mm) Zb
 obtain ⟨m0, m1⟩ := Ikq (k := mm) (n := l.length) (by omega)
 clear h1 h2 h3 h4 h4' h5 h6 h7 h8 hB3
 by_cases hw : 2 ≤ eE l mm
 · (
 have t3 : decide ((eE l mm : Int) > 1) = true := by simp; omega
 have e12 := bCX (N := out.length) hway hw
 have He1 := bA e12.1
 have He2 := bA e12.2
 clear e12
 gi_wp2
 apply iB (W := W.drew)
 case h => gi_region; all_goals exact ⟨rfl, rfl, rfl⟩
 obtain ⟨W1, hW1⟩ := Exq W.drew
 rw [← hW1]
 refine Wx fun hk1 G1 G2 => ?_
 have G3 := bA (by rw [hW1]; exact H3.o.drew : Blk W1 (bx + 1) 39 (ndA (fS l n out.length 1)))
 have G4 := bA (by rw [hW1]; exact H4.o.drew : Blk W1 (bx + 1 + 1) 22 #[.slice As (cF l n 1).length cs])
 have G4' := bA (by rw [hW1]; exact H4'.o.drew : cO W1 (bx + 1 + 1 + 1) 39 (.slice As (cF l n 1).length cs) (cF l n 1))
 refine K4 fun G5 G6 G7 G8 => ?_
 have cz1 : W1.cell? ⟨bx + 1, 5, none⟩ = some (.int .i64 (mm : Int)) := by rw [hW1]; exact cz
 clear hW1 cz cm fm b0 w4 w5 s0 fs q1 fx lw lx lp ls lQ2 lb2 H1 H2 H3 H4 H4' H5 H6 H7 H8
 have s0 := G4.out.cell 0
 have fs := G4.out.frozen 0
 have ls := G4.out.lt
 have lx := G3.out.lt
 have lQ2 := G6.out.lt
 have lp1 := G1.out.lt
 simp only [Yl] at s0
 gi_wp2
 have Hat := bA (cH (w := W1.drew) (n := cM mm) (t := 39) (g := W1.heap.size) rfl)
 refine wpIn_region_any Zc ?_; (try (change wpAnyIn _ _ _ _ _ _ _ _ _ (World.drew _)))
 (refine wpAnyIn_ready (rs := [0, 1]) Zc Zf ?_; refine AllReadyIn.cons rfl (fun K hK => ?_) (AllReadyIn.cons rfl (fun K hK => ?_) AllReadyIn.nil) <;> (go_simp; (refine hK _ _ ?_; clear hK K)))
 rotate_left
 (refine wpAnyIn_ready (rs := [0, 2]) Zc Zf ?_; refine AllReadyIn.cons rfl (fun K hK => ?_) (AllReadyIn.cons rfl (fun K hK => ?_) AllReadyIn.nil) <;> (go_simp; (refine hK _ _ ?_; clear hK K)))
 rotate_left
 (refine wpAnyIn_ready (rs := [0, 3]) Zc Zf ?_; refine AllReadyIn.cons rfl (fun K hK => ?_) (AllReadyIn.cons rfl (fun K hK => ?_) AllReadyIn.nil) <;> (go_simp; (refine hK _ _ ?_; clear hK K)))
 rotate_left
 (refine wpAnyIn_ready (rs := [0, 4]) Zc Zf ?_; refine AllReadyIn.cons rfl (fun K hK => ?_) (AllReadyIn.cons rfl (fun K hK => ?_) AllReadyIn.nil) <;> (go_simp; (refine hK _ _ ?_; clear hK K)))
 rotate_left
 (refine wpAnyIn_ready (rs := [0, 5]) Zc Zf ?_; refine AllReadyIn.cons rfl (fun K hK => ?_) (AllReadyIn.cons rfl (fun K hK => ?_) AllReadyIn.nil) <;> (go_simp; (refine hK _ _ ?_; clear hK K)))
 rotate_left
 (refine wpAnyIn_ready (rs := [0]) Zc Zf ?_; refine AllReadyIn.cons rfl (fun K hK => ?_) AllReadyIn.nil; (go_simp; (refine hK _ _ ?_; clear hK K)))
 rotate_left
 ((refine wpAnyIn_ready (rs := [1]) Zc Zf ?_; refine AllReadyIn.cons rfl (fun K hK => ?_) AllReadyIn.nil; (go_simp; (refine hK _ _ ?_; clear hK K))); (refine wpAnyIn_ready (rs := [2]) Zc Zf ?_; refine AllReadyIn.cons rfl (fun K hK => ?_) AllReadyIn.nil; (go_simp; (refine hK _ _ ?_; clear hK K))); (refine wpAnyIn_ready (rs := [3]) Zc Zf ?_; refine AllReadyIn.cons rfl (fun K hK => ?_) AllReadyIn.nil; (go_simp; (refine hK _ _ ?_; clear hK K))); (refine wpAnyIn_ready (rs := [4]) Zc Zf ?_; refine AllReadyIn.cons rfl (fun K hK => ?_) AllReadyIn.nil; (go_simp; (refine hK _ _ ?_; clear hK K))); (refine wpAnyIn_ready (rs := [5]) Zc Zf ?_; refine AllReadyIn.cons rfl (fun K hK => ?_) AllReadyIn.nil; (go_simp; (refine hK _ _ ?_; clear hK K))))
 rotate_left
 ((refine wpAnyIn_ready (rs := [2]) Zc Zf ?_; refine AllReadyIn.cons rfl (fun K hK => ?_) AllReadyIn.nil; (go_simp; (refine hK _ _ ?_; clear hK K))); (refine wpAnyIn_ready (rs := [3]) Zc Zf ?_; refine AllReadyIn.cons rfl (fun K hK => ?_) AllReadyIn.nil; (go_simp; (refine hK _ _ ?_; clear hK K))); (refine wpAnyIn_ready (rs := [4]) Zc Zf ?_; refine AllReadyIn.cons rfl (fun K hK => ?_) AllReadyIn.nil; (go_simp; (refine hK _ _ ?_; clear hK K))); (refine wpAnyIn_ready (rs := [5]) Zc Zf ?_; refine AllReadyIn.cons rfl (fun K hK => ?_) AllReadyIn.nil; (go_simp; (refine hK _ _ ?_; clear hK K))))
 rotate_left
 ((refine wpAnyIn_ready (rs := [3]) Zc Zf ?_; refine AllReadyIn.cons rfl (fun K hK => ?_) AllReadyIn.nil; (go_simp; (refine hK _ _ ?_; clear hK K))); (refine wpAnyIn_ready (rs := [4]) Zc Zf ?_; refine AllReadyIn.cons rfl (fun K hK => ?_) AllReadyIn.nil; (go_simp; (refine hK _ _ ?_; clear hK K))); (refine wpAnyIn_ready (rs := [5]) Zc Zf ?_; refine AllReadyIn.cons rfl (fun K hK => ?_) AllReadyIn.nil; (go_simp; (refine hK _ _ ?_; clear hK K))))
 rotate_left
 ((refine wpAnyIn_ready (rs := [4]) Zc Zf ?_; refine AllReadyIn.cons rfl (fun K hK => ?_) AllReadyIn.nil; (go_simp; (refine hK _ _ ?_; clear hK K))); (refine wpAnyIn_ready (rs := [5]) Zc Zf ?_; refine AllReadyIn.cons rfl (fun K hK => ?_) AllReadyIn.nil; (go_simp; (refine hK _ _ ?_; clear hK K))))
 rotate_left
 (refine wpAnyIn_ready (rs := [5]) Zc Zf ?_; refine AllReadyIn.cons rfl (fun K hK => ?_) AllReadyIn.nil; (go_simp; (refine hK _ _ ?_; clear hK K)))
 all_goals as_aux_lemma =>
  refine wpAnyIn_ready (rs := [6]) Zc Zf ?_
  refine AllReadyIn.cons rfl (fun K hK => ?_) AllReadyIn.nil
  refine kL (v := .slice As (cF l n 1).length cs) (l := cF l n 1) (base := bx + 1 + 1 + 1) rfl _ _ _ rfl i3 _ 48 underlying22 h3i h3z h3s h3b rfl rfl ((G4'.out.drew).alloc _) (some ⟨W1.heap.size, 0, none⟩) 1 1 [cM (mm : Int)] rfl rfl Hat.o Zq Zh Zh ?_
  intro v4 w4 hr4 hg4 hat4
  obtain ⟨A4, c4, hv4, _, _⟩ := hr4.shape
  subst hv4
  have hlen4 : (cF l n 1 ++ [cM (mm : Int)]).length = (cF l n 1).length + 1 := Zf
  rw [hlen4] at hr4 ⊢
  refine hK _ _ ?_
  clear hK K
  obtain ⟨W3, hW3⟩ := Exq (W1.drew.alloc (.cells #[.int .i64 0, .int .i64 0, .int .i64 0, .int .i64 0, .int .i64 (mm : Int), .int .i64 0] 39))
  have hg4 : W3.grownBy w4 (Value.slice As (cF l n 1).length cs).ownBlock := by rw [hW3]; exact hg4
  refine Wj fun hb3 hk3 E4' => ?_; clear hW3
  have hnb : ∀ b, b < bx + 1 + 1 + 1 → (Value.slice As (cF l n 1).length cs).ownBlock ≠ some b := fun b hb e => by have := (G4'.out.lt b e).1; omega
  refine Kf ?_; clear s0 fs cz1 ls lx lQ2 lp1 Hat; intro F1 F2 F3 F4 F5 F6 F7 hk4 F8 r4 q4 l4 lx
  have fx := F3.frozen 5
  have q1 := F6.cell 1
  have lQ2 := F6.lt
  have x9 := F3.cell 5
  simp only [ndA, Yl] at r4 q1 x9
  have HF1 := bA F1
  have HF2 := bA F2
  have HF3 := bA F3
  have HF4 := bA F4
  have HF5 := bA F5
  have HF6 := bA F6
  have HF7 := bA F7
  have HF8 := bA F8
  have HR4 := bA hr4
  have hkk := hk1.trans hk4
  have hnv : ∀ b, b < bx + 1 + 1 + 1 → (Value.slice A4 ((cF l n 1).length + 1) c4).ownBlock ≠ some b := fun b hb e => by have := (hr4.lt b e).1; omega
  clear hg4 hat4 hr4 F1 F2 F3 F4 F5 F6 F7 F8 E4' hb3 hk3 hk4 hk1
  (refine wpAnyIn_ready (rs := [7]) Zc Zf ?_; refine AllReadyIn.cons rfl (fun K hK => ?_) AllReadyIn.nil; (go_simp; (refine hK _ _ ?_; clear hK K)))
  refine wpAnyIn_done Zc ?_ _
  have u1 : IntKind.i64.wrap ((out.length : Int) + (((cF l n 1).length + 1 : Nat) : Int)) = (out.length : Int) + (((cF l n 1).length + 1 : Nat) : Int) := by rw [IntKind.wrap_i64]; omega
  have u2 : IntKind.i64.wrap ((out.length : Int) + (((cF l n 1).length + 1 : Nat) : Int) - 1) = ((out.length + (cF l n 1).length : Nat) : Int) := by rw [IntKind.wrap_i64]; omega
  gi_wp2
  have ev : (out.length : Int) + (((cF l n 1).length : Int) + 1) - 1 = ((out.length + (cF l n 1).length : Nat) : Int) := Zb
  rw [ev]
  have h9 := (HF3.o.far (p := ⟨bx + 1 + 1, 0, none⟩) Zd (.slice A4 ((cF l n 1).length + 1) c4)).set_ 5 (.int .i64 ((out.length + (cF l n 1).length : Nat) : Int))
  have He9 : fS l n out.length (1 + 1) = (fS l n out.length 1).put 5 ((out.length + (cF l n 1).length : Nat) : Int) := He1.o
  have He8 : cF l n (1 + 1) = cF l n 1 ++ [cM (mm : Int)] := He2.o
  rw [bCU, ← He9] at h9
  exact ⟨((hkk.trans (KeepsOthers.setCell _ _ _)).trans (KeepsOthers.setCell _ _ _)).from _, (HF1.o.far Zd _).far Zd _, (HF2.o.far Zd _).far Zd _, h9, ⟨.slice A4 ((cF l n 1).length + 1) c4, (HF4.o.set_ 0 _).far Zd _, by rw [He8]; exact (HR4.o.far (hnv _ Zf) _).far (hnv _ Zd) _⟩, (HF5.o.far Zt _).far Zt _, (HF6.o.far Zd _).far Zd _, (HF7.o.far Zd _).far Zd _, (HF8.o.keeps (KeepsOthers.setCell _ _ _)).keeps (KeepsOthers.setCell _ _ _)⟩)
 · exact Y2)))
 case refine_5 => (
 rintro D W hD' ⟨h1, h2, h3, ⟨vs, h4, h4'⟩, h5, h6, h7, h8⟩ hdd
 obtain ⟨y, hyy⟩ := Exq (fS l n out.length (fM n.op))
 obtain ⟨sk, hsk⟩ := Exq (cF l n (fM n.op))
 have hskl : sk.length ≤ 2 := by rw [hsk]; exact bBZ _ _ _
 rw [← hyy] at h3
 rw [← hsk] at h4'
 have hstep : cK l (k + 1) = out.set k y ++ sk := by rw [cR Hn.o, Hout.o, bPM H00.o Hget.o, hyy, hsk]
 obtain ⟨As, cs, rfl, _, _⟩ := h4'.shape
 have y0 := h3.cell 0
 have y1 := h3.cell 1
 have y2 := h3.cell 2
 have y3 := h3.cell 3
 have y4 := h3.cell 4
 have y5 := h3.cell 5
 have s0 := h4.cell 0
 have q0 := h6.cell 0
 have q1 := h6.cell 1
 have fq := h6.frozen 1
 have lq2 := h6.lt
 simp only [ndA, Yl] at y0 y1 y2 y3 y4 y5 q0 q1 s0
 obtain ⟨⟨z0, z1, z2, z3, z4, z5⟩, hfr⟩ := h5.at_ Hget.o
 have f0 := hfr 0 Zb
 have f1 := hfr 1 Zb
 have f2 := hfr 2 Zb
 have f3 := hfr 3 Zb
 have f4 := hfr 4 Zb
 have f5 := hfr 5 Zb
 rw [Nat.add_zero] at f0
 have g1 : ¬ (gv = GQ) := fun e => h5.ne_blk h6 Ze Zv
 have g2 : ¬ (GQ = gv) := fun e => g1 e.symm
 have hmk := h8.add (D := D) Ya Ya hdd
 have hko : k < out.length := (List.getElem?_eq_some_iff.1 Hget.o).1
 obtain ⟨v0', v1'⟩ := Ikq (k := k) (n := out.length) (by omega)
 have H3 := bA h3
 have H4 := bA h4
 have H4' := bA h4'
 have H5 := bA h5
 have H6 := bA h6
 have H7 := bA h7
 have Hmk := bA hmk
 have Hstep := bA hstep
 have hsz7 := h7.sz
 clear h1 h2 h3 h4 h4' h5 h6 h7 h8 hmk hstep hyy hsk hdd hfr
 dsimp only
 go_upto_region 30 with fail
 obtain ⟨W6, hW6⟩ := Exq ((((((W.setCell ⟨gv, k * 6, none⟩ (.int .i64 y.op)).setCell ⟨gv, k * 6 + 1, none⟩ (.int .i64 y.d)).setCell ⟨gv, k * 6 + 2, none⟩ (.int .i64 y.a)).setCell ⟨gv, k * 6 + 3, none⟩ (.int .i64 y.b)).setCell ⟨gv, k * 6 + 4, none⟩ (.int .i64 y.t)).setCell ⟨gv, k * 6 + 5, none⟩ (.int .i64 y.e))
 have hg6 := bGB W gv k y
 rw [← hW6] at hg6
 have hN6 := H5.o.put6 Hget.o y
 rw [← hW6] at hN6 ⊢
 clear hW6
 have hQ6 := H6.o.grown hg6 (H5.o.ne_blk H6.o Ze)
 have hB6 := H4.o.grown hg6 Zd
 have hK6 := H4'.o.kept hg6 (by
  rcases hA' : (Value.slice As sk.length cs).ownBlock with _ | q
  · exact Jc
  · exact .inr (fun e => by have := (H4'.o.lt q hA').1; injection e with e; omega))
 have hS6 := H7.o.turn H5.o Ze Ze Ze hg6
 have hM6 := Hmk.o.keeps (H5.o.keeps hg6)
 have hz6 := hg6.size
 clear y0 y1 y2 y3 y4 y5 s0 q0 q1 fq z0 z1 z2 z3 z4 z5 f0 f1 f2 f3 f4 f5
 have s0 := hB6.cell 0
 have q0 := hQ6.cell 0
 have q1 := hQ6.cell 1
 have fq := hQ6.frozen 1
 simp only [Yl] at q0 q1 s0
 have HN6 := bA hN6
 have HQ6 := bA hQ6
 have HK6 := bA hK6
 have HS6 := bA hS6
 have HM6 := bA hM6
 have hne6 := hN6.ne_blk hQ6 Ze
 have Hne6 := bA hne6
 have Hg6 := bA hg6
 clear hN6 hQ6 hK6 hS6 hM6 hne6 hg6 hB6
 go_wp2_with (at_builtin; refine bK (v := .slice (some ⟨gv, 0, none⟩) out.length cN) (l := out.set k y) (base := w.heap.size) rfl _ _ _ rfl i3 _ 48 underlying22 h3i h3z h3s h3b rfl rfl HN6.o As sk.length cs sk rfl rfl HK6.o.nodes Zq Zh Zb ?_; intro v8 w8 hr8 hg8 hat8; obtain ⟨A8, c8, hv8, _, _⟩ := hr8.shape; subst hv8; have hQ8 := HQ6.o.grown hg8 Hne6.o; have r1 := hQ8.cell 1; have r2 := hQ8.frozen 1; simp only [Yl] at r1)
 have hlen8 : (out.set k y ++ sk).length = out.length + sk.length := Zf
 rw [hlen8] at hr8
 have hMK := (HM6.o.keeps (HN6.o.keeps hg8)).keeps (KeepsOthers.setCell _ ⟨GQ, 1, none⟩ (.slice A8 (out.length + sk.length) c8))
 have hMK2 := hMK.mono (S' := (w8.setCell ⟨GQ, 1, none⟩ (.slice A8 (out.length + sk.length) c8)).heap.size) (by rw [World.size_setCell]; exact Nat.le_trans hz6 hg8.size)
 have hS8 := HS6.o.turn HN6.o Ze Ze Ze hg8
 refine HK.o _ _ (Handed.intro (l.length - (k + 1)) Xp (HJ.o _ _ _ ?_))
 exact ⟨_ :: ds, k + 1, _, _, _, _, _, _, _, _, _, _, _, _, _, _, _, _, _, _, _, _, _, _, _, _, _, _, _, _, _, _, _, _, _, _, _, _, _, _, _, _, _, _, _, _, _, _, _, _, _, _, _, _, _, _, _, _, _, _, _, _, _, _, _, _, _, ⟨Zb, rfl, .slice A8 (out.length + sk.length) c8, by rw [Hstep.o]; exact hr8.far (hr8.ne_blk hQ8 Ze) _, hQ8.set_ 1 _, hS8.far (by simpa using hGQ) _, hMK2⟩, rfl⟩)))
 · (
 have hkk : k = l.length := Zb
 subst hkk
 have r0 := hS.o.cell 0
 have r1 := hS.o.cell 1
 have r2 := hS.o.frozen 0
 have r3 := hS.o.frozen 1
 simp only [Yl] at r0 r1
 obtain ⟨A4, c4, hv4, _, _⟩ := hN.shape
 subst hv4
 have HN := bA hN
 have HQ := bA hQ
 have HS := bA hS
 have HD := bA hD
 have hne := hN.ne_blk hS.o Ze
 have Hne := bA hne
 clear hN hQ hS hD hA hne
 by_cases hbig : 256 < (cK l l.length).length
 · (
 go_wp2_with fail
 refine iU (B := w.heap.size) (fun W => Blk W (w.heap.size + 1) 24 #[.int .i64 0, .slice none 0 0] ∧ Below w.heap.size w W ∧ w.heap.size ≤ W.heap.size)
  (fun W D ⟨i1, i3, i4⟩ hB he => ?_) (fun W ⟨i1, i3, i4⟩ => ?_) ds _ _ ((HD.o.keeps (KeepsOthers.setCell _ _ _)).keeps (KeepsOthers.setCell _ _ _)) ⟨(HS.o.o.set_ 0 _).set_ 1 _, (HS.o.below.setCell Zf _).setCell Zf _, by have := HS.o.sz; simpa using this⟩
 · (
 have hr : ∀ r, some D = some r → ∃ o : Obj, W.heap[r]? = some o ∧ o.isCells = false := fun r e => by injection e with e; subst e; exact ⟨_, he, rfl⟩
 exact ⟨i1.own (eW _) hr, kR i3 (eW _) i4 (D := w.heap.size) (fun r e => by injection e with e; omega) (Nat.le_refl _), Nat.le_trans i4 (eW (W := W) (D := D) _).size⟩)
 · (
 have j0 := i1.cell 0
 have j1 := i1.cell 1
 simp only [Yl] at j0 j1
 exact ⟨.tuple #[.agg #[.int .i64 0, .slice none 0 0], .int .i64 2], by simp [results, results35, go_sem, j0, j1], i3, .inr (.inl ⟨H0.o, hbig, rfl⟩)⟩))
 · (
 go_wp2_with fail
 refine iU (B := w.heap.size) (fun W => Blk W (w.heap.size + 1) 24 #[.int .i64 regs, .slice A4 (cK l l.length).length c4] ∧ cO W w.heap.size 39 (.slice A4 (cK l l.length).length c4) (cK l l.length) ∧ Below w.heap.size w W ∧ w.heap.size ≤ W.heap.size)
  (fun W D ⟨i1, i2, i3, i4⟩ hB he => ?_) (fun W ⟨i1, i2, i3, i4⟩ => ?_) ds _ _ ((HD.o.keeps (KeepsOthers.setCell _ _ _)).keeps (KeepsOthers.setCell _ _ _)) ⟨(HS.o.o.set_ 0 _).set_ 1 _, (HN.o.far Hne.o _).far Hne.o _, (HS.o.below.setCell Zf _).setCell Zf _, by have := HS.o.sz; simpa using this⟩
 · (
 have hr : ∀ r, some D = some r → ∃ o : Obj, W.heap[r]? = some o ∧ o.isCells = false := fun r e => by injection e with e; subst e; exact ⟨_, he, rfl⟩
 exact ⟨i1.own (eW _) hr, i2.own (eW _) hr, kR i3 (eW _) i4 (D := w.heap.size) (fun r e => by injection e with e; omega) (Nat.le_refl _), Nat.le_trans i4 (eW (W := W) (D := D) _).size⟩)
 · (
 have j0 := i1.cell 0
 have j1 := i1.cell 1
 simp only [Yl] at j0 j1
 exact ⟨.tuple #[.agg #[.int .i64 regs, .slice A4 (cK l l.length).length c4], .int .i64 0], by simp [results, results35, go_sem, j0, j1], i3, .inr (.inr ⟨H0.o, Nat.le_of_not_lt hbig, _, rfl, i2⟩)⟩))))))))
 · (
 have H0 := bA h0
 have h0' : ((chk regs l) != 0) = true := by simp [h0]
 clear h0
 go_wp2_with (go_at_call 10; refine (HC.o _ Yc).mono ?_; rintro e w1 ⟨rfl, hb1⟩; have hO1 : Blk w1 (w.heap.size + 1) 24 #[.int .i64 0, .slice none 0 0] := Blk.below Yd hb1 Zd; have lo1 := hO1.lt; have r0 := hO1.cell 0; have r1 := hO1.cell 1; have r2 := hO1.frozen 0; have r3 := hO1.frozen 1; have hz1 := hb1.size; simp only [World.size_alloc] at hz1; simp only [Yl] at r0 r1)
 go_tidy
 refine ⟨.tuple #[.agg #[.int .i64 0, .slice none 0 0], .int .i64 (chk regs l)], by simp [results, results35, go_sem, r0, r1, Vw, Vv], ?_, ?_⟩
 · exact (Below.setCell (Below.setCell Yc Zf _) Zf _)
 · exact .inl ⟨H0.o, rfl⟩))
end
end Go.Proofs.YtmghkonmfbpjcabGreatDoor
