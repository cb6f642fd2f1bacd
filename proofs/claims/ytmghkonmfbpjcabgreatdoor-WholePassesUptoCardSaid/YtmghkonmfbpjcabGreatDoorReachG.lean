/- Parts. -/
import Derived.Test.YtmghkonmfbpjcabGreatDoorGF
import Derived.Sort.CutIn
set_option linter.unusedVariables false
set_option linter.unusedSimpArgs false
set_option maxRecDepth 100000
set_option maxHeartbeats 4000000
namespace Go.Proofs.YtmghkonmfbpjcabGreatDoor
open Go.RowKit
open Go.Proofs.Tryz
section
attribute [local irreducible] Row madeCells
attribute [local go_sem] Oper.semAt_some
structure oF (tB tI tSB tSI tP : TypeId) (B : Nat) (w : World) (regs : Int) (A : Option Addr) (n cap : Nat) (x : List Bool) (wk : List Nat) (v : Value) (W : World) : Prop where
 row : Row W B tB (.slice (some ⟨B + 1, 0, none⟩) n n) (bE x)
 wrk : Row W B tI v (bCV wk)
 b3 : Blk W (B + 1 + 1) tSB #[.slice (some ⟨B + 1, 0, none⟩) n n]
 b4 : Blk W (B + 1 + 1 + 1 + 1) tSI #[v]
 p : Blk W B tP #[.int .i64 regs, .slice A n cap]
 below : Below B w W
 sz : B ≤ W.heap.size
section
variable {tB tI tSB tSI tP : TypeId} {B : Nat} {w W W' : World} {regs : Int} {A : Option Addr} {n cap : Nat} {x : List Bool} {wk : List Nat} {v : Value}
theorem oF.later (h : oF tB tI tSB tSI tP B w regs A n cap x wk v W) (hb : Below W.heap.size W W') : oF tB tI tSB tSI tP B w regs A n cap x wk v W' :=
 ⟨h.row.below' hb, h.wrk.below' hb, h.b3.below hb h.b3.lt, h.b4.below hb h.b4.lt, h.p.below hb h.p.lt, h.below.trans (hb.mono h.sz), Nat.le_trans h.sz hb.size⟩
theorem oF.own {row : Option Nat} {D : Nat} (h : oF tB tI tSB tSI tP B w regs A n cap x wk v W) (hg : W.grownBy W' row) (hr : ∀ r, row = some r → D ≤ r ∧ ∃ o : Obj, W.heap[r]? = some o ∧ o.isCells = false) (hD : B ≤ D) : oF tB tI tSB tSI tP B w regs A n cap x wk v W' :=
 have hr' := fun r e => (hr r e).2
 ⟨h.row.own hg hr', h.wrk.own hg hr', h.b3.own hg hr', h.b4.own hg hr', h.p.own hg hr', kR h.below hg h.sz (fun r e => (hr r e).1) hD, Nat.le_trans h.sz hg.size⟩
theorem oF.see (h : oF tB tI tSB tSI tP B w regs A n cap x wk v W) (n1 : tB ≠ tSB) (n2 : tB ≠ tSI) (n3 : tB ≠ tP) (n4 : tI ≠ tB) (m : Nat) : oF tB tI tSB tSI tP B w regs A n cap (x.set m true) wk v (W.setCell ⟨B + 1, m, none⟩ (.bool true)) := by (
 obtain ⟨cs, hc⟩ := h.row.blk
 exact ⟨h.row.setb0 m true, h.wrk.far (h.wrk.ne_blk hc n4) _, h.b3.far Zd _, h.b4.far Zd _, h.p.far Zd _, h.below.setCell Zd _, by simpa using h.sz⟩)
theorem oF.work {v2 : Value} {wk2 : List Nat} (h : oF tB tI tSB tSI tP B w regs A n cap x wk v W) (hr : Row W B tI v2 (bCV wk2)) (hne : tI ≠ tSI) : oF tB tI tSB tSI tP B w regs A n cap x wk2 v2 (W.setCell ⟨B + 1 + 1 + 1 + 1, 0, none⟩ v2) :=
 ⟨h.row.far Zt _, hr.far (hr.ne_blk h.b4 hne) _, h.b3.far Zf _, h.b4.set_ 0 _, h.p.far Zd _, h.below.setCell Zd _, by simpa using h.sz⟩
theorem oF.mid {W2 : World} (h : oF tB tI tSB tSI tP B w regs A n cap x wk v W) (n1 : tI ≠ tB) (n2 : tI ≠ tSB) (n3 : tI ≠ tSI) (n4 : tI ≠ tP) {v2 : Value} {wk2 : List Nat} (hr : Row W2 B tI v2 (bCV wk2)) (hg : W.grownBy W2 v.ownBlock) : oF tB tI tSB tSI tP B w regs A n cap x wk2 v2 (W2.setCell ⟨B + 1 + 1 + 1 + 1, 0, none⟩ v2) := by (
 have e1 := h.wrk.ne_row h.row n1
 have hrow : Row W2 B tB (.slice (some ⟨B + 1, 0, none⟩) n n) (bE x) := h.row.kept hg (e1.elim (fun e => .inr (by rw [e]; simp [Value.ownBlock])) fun e => .inr (Ne.symm e))
 have hb4 := h.b4.grown hg (h.wrk.ne_blk h.b4 n3)
 have hsz := hg.size
 have := h.sz
 exact ⟨hrow.far Zt _, hr.far (hr.ne_blk hb4 n3) _, (h.b3.grown hg (h.wrk.ne_blk h.b3 n2)).far Zf _, hb4.set_ 0 _, (h.p.grown hg (h.wrk.ne_blk h.p n4)).far Zd _,
  (h.below.grown hg h.sz (fun q hq => (h.wrk.lt q hq).1)).setCell Zd _, by simp <;> omega⟩)
end
theorem bJL (regs : Int) (A : Option Addr) (l : List Nd) (cap : Nat) (w : World) (hA : bH w A l) (hR : bM regs l) :
 Calls prog 71 #[.agg #[.int .i64 regs, .slice A l.length cap]] w (sM 4 (dO l) w) := by (
 have hlo := hR.lo
 have hhi := hR.hi
 have HR := bA hR
 clear hR
 obtain ⟨ib, hbi, hbz, hbs, hbb⟩ := info_parts gR
 obtain ⟨i3, h3i, h3z, h3s, h3b⟩ := info_parts nS
 have hmk := dN (P := prog) 74 4 ib _ 1 underlying74 hbi hbz hbs hbb Zb rfl l.length Zb
 have hm0 : Row ((w.alloc (.cells #[.int .i64 regs, .slice A l.length cap] 24)).alloc (.cells (madeCells #[.bool false] l.length) 4)) w.heap.size 4 (.slice (some ⟨w.heap.size + 1, 0, none⟩) l.length l.length) (bE (List.replicate l.length false)) := by (
 rw [bE, List.map_replicate]
 exact Yf)
 obtain ⟨cm, fm⟩ := hm0.bool_at_ (k := 0) Zh
 have hlp : (0 : Int) < (l.length : Int) := Zb
 have hm1 : Row ((w.alloc (.cells #[.int .i64 regs, .slice A l.length cap] 24)).alloc (.cells ((madeCells #[.bool false] l.length).setIfInBounds 0 (.bool true)) 4)) w.heap.size 4 (.slice (some ⟨w.heap.size + 1, 0, none⟩) l.length l.length) (bE ((List.replicate l.length false).set 0 true)) := by (
 refine Vm fun h => ?_
 rw [← tO, bE, List.map_replicate]
 simpa using h)
 have HM := bA hm1
 clear hm0 hm1
 refine pO func71 rfl ?_
 simp only [ntmps71, List.size_toArray, List.length_cons, List.length_nil, Nat.reduceAdd, Nat.reduceSub, Array.replicate_succ, Array.replicate_zero, List.push_toArray, List.append_toArray, List.nil_append, List.cons_append]
 go_wp2_with fail
 refine wp_loop_ghost_k (fun gk a wr => ∃ (ds : List Deferred) (u5 u6 u14 u15 u16 u17 u18 u19 u20 u21 u22 u23 u24 u25 u26 u27 u28 u29 u30 u31 u32 u33 u34 u35 u36 u37 u38 u39 u40 u41 u42 u43 u44 u45 u46 u47 u48 u49 u50 u51 u52 : Value), (∃ (x : List Bool) (wk : List Nat) (v : Value), xQ l x wk ≤ gk ∧ iI l x wk ∧ oF 4 3 74 25 24 w.heap.size w regs A l.length cap x wk v wr ∧ eJ w.heap.size wr.heap.size ds wr) ∧
  a = { tmps := #[.agg #[.int .i64 regs, .slice A l.length cap], .pointer (some ⟨w.heap.size, 0, none⟩), .slice none 0 0, .pointer (some ⟨w.heap.size + 1 + 1, 0, none⟩), .pointer (some ⟨w.heap.size + 1 + 1 + 1 + 1, 0, none⟩), u5, u6, .pointer (some ⟨w.heap.size, 1, none⟩), .slice A l.length cap,
   .int .i64 l.length, .slice (some ⟨w.heap.size + 1, 0, none⟩) l.length l.length, .slice (some ⟨w.heap.size + 1, 0, none⟩) l.length l.length, .pointer (some ⟨w.heap.size + 1, 0, none⟩), .slice (some ⟨w.heap.size + 1 + 1 + 1, 0, none⟩) 1 1, u14, u15, u16, u17, u18, u19, u20, u21, u22, u23, u24, u25, u26, u27, u28, u29, u30, u31, u32, u33, u34, u35, u36, u37, u38, u39, u40, u41, u42, u43, u44, u45, u46, u47, u48, u49, u50, u51, u52], defers := ds }) (2 * l.length + 1) ?atStart ?round
 case atStart => (
 refine ⟨[], _, _, _, _, _, _, _, _, _, _, _, _, _, _, _, _, _, _, _, _, _, _, _, _, _, _, _, _, _, _, _, _, _, _, _, _, _, _, _, _, _, ⟨_, [0], .slice (some ⟨w.heap.size + 1 + 1 + 1, 0, none⟩) 1 1, (by have := bAX (iI.start (l := l) hlo).zero; unfold xQ; simp; omega), iI.start hlo, ⟨((HM.o.alloc _).alloc _).alloc _, (Row.lit1 Za Za).alloc _, Yd, Yd, Yd, Yc, Za⟩, trivial⟩, rfl⟩)
 case round => (
 rintro gk a wr ⟨ds, u5, u6, u14, u15, u16, u17, u18, u19, u20, u21, u22, u23, u24, u25, u26, u27, u28, u29, u30, u31, u32, u33, u34, u35, u36, u37, u38, u39, u40, u41, u42, u43, u44, u45, u46, u47, u48, u49, u50, u51, u52, ⟨x, wk, v, hgk, hW, hS, hD⟩, rfl⟩ J K hJ hK
 as_aux_lemma =>
 clear hmk HM cm fm
 have HD := bA hD
 clear hD
 have b3 := hS.b3.cell 0
 have b4 := hS.b4.cell 0
 have p1 := hS.p.cell 1
 have fb := hS.b4.frozen 0
 have l3 := hS.b3.lt
 have l4 := hS.b4.lt
 have lp := hS.p.lt
 have l1 := cZ hS.row
 simp only [Yl] at b3 b4 p1
 obtain ⟨Av, cv, rfl, hcv, hcm⟩ := hS.wrk.shape
 rw [kB] at hcv b4
 have hle := hW.len
 have hcx := tM x
 rw [hW.under.1] at hcx
 have HS := bA hS
 clear hS
 rcases List.eq_nil_or_concat wk with rfl | ⟨wk, k, rfl⟩
 · (
 have HW := bA hW
 clear hW hgk hle hcx
 go_wp2_with fail
 refine iU (B := w.heap.size) (fun W => oF 4 3 74 25 24 w.heap.size w regs A l.length cap x [] _ W) (fun W D hI hB he => hI.own (D := w.heap.size) (eW _) (fun r e => by injection e with e; subst e; exact ⟨hB, _, he, rfl⟩) (Nat.le_refl _)) (fun W hI => ⟨_, results_tmp rfl _ _ _, _, rfl, ?_, hI.below⟩) ds _ _ HD.o HS.o
 rw [← HW.o.done]
 exact hI.row)
 · (
 rw [List.concat_eq_append] at *
 have hkl := hW.lt (j := k) Zf
 obtain ⟨n, hn⟩ : ∃ n, l[k]? = some n := ⟨_, Vx hkl⟩
 obtain ⟨nb, no, n', rfl, hnb, hn', hnl⟩ := (hA.below HS.o.below).get (k := k) hkl
 rw [hn] at hn'
 injection hn' with hn'
 subst hn'
 obtain ⟨c0, c1, c2, c3, c4, c5⟩ := hnl
 have hm := V4 hn
 have hwl : (wk ++ [k]).length = wk.length + 1 := Zf
 obtain ⟨gw, ow, cw, u, ew, hgw, hlw, hu, ck, fk⟩ := HS.o.wrk.get (k := wk.length) (by simp [kB])
 injection ew with ew e1 e2
 subst ew e2
 clear e1
 rw [tE, Ul (by rw [kB]; exact Nat.le_refl _), kB, Nat.sub_self] at hu
 injection hu with hu
 subst hu
 rw [hwl] at b4 hcv hle
 refine Vk fun u0 u1 => ?_
 have u2 : IntKind.i64.wrap (wk.length : Int) = (wk.length : Int) := by rw [IntKind.wrap_i64]; omega
 have u4 : (wk.length : Int) < (wk.length : Int) + 1 := Zb
 have u5 : (0 : Int) ≤ (wk.length : Int) := Zb
 have u3 : (0 : Int) < ((wk.length + 1 : Nat) : Int) := Zb
 have Hn := bA hn
 have HW := bA hW
 have Hg := bA hgk
 clear hn hW hgk hA
 go_upto_region 5 with fail
 go_region
 as_aux_lemma =>
 obtain ⟨wn, hwn⟩ := Exq ((wr.alloc (.cells #[.int .i64 n.op, .int .i64 n.d, .int .i64 n.a, .int .i64 n.b, .int .i64 n.t, .int .i64 n.e] 39)).drew)
 have hbW : Below wr.heap.size wr wn := by rw [hwn]; exact ((Bnq _ _)).drew
 have hXn : Blk wn wr.heap.size 39 #[.int .i64 n.op, .int .i64 n.d, .int .i64 n.a, .int .i64 n.b, .int .i64 n.t, .int .i64 n.e] := by rw [hwn]; exact Yd
 rw [← hwn]
 have hS2 := HS.o.later hbW
 have b3 := hS2.b3.cell 0
 have b4 := hS2.b4.cell 0
 have p1 := hS2.p.cell 1
 have fb := hS2.b4.frozen 0
 simp only [Yl, kB, hwl] at b3 b4 p1
 have hS3 := hS2.work (tE wk k ▸ hS2.wrk : Row wn w.heap.size 3 _ (bCV wk ++ [_])).pop Ze
 rw [kB] at hS3
 have HS3 := bA hS3
 have HXn := bA hXn
 have HD2 := bA (HD.o.below hbW)
 have hzz := hbW.size
 clear hwn hS2 hS3 hXn ck fk c0 c1 c2 c3 c4 c5 HS hbW
 go_wp2_with (go_at_call 65; refine (qE _ _).mono ?_; rintro e w2 ⟨rfl, rfl⟩)
 have hX2 := HXn.o
 have hgz : w.heap.size ≤ wn.heap.size := by have := HS3.o.sz; simpa using this
 refine iR wn.heap.size wr.heap.size n.op rfl (fun i W => ∃ (x : List Bool) (wk : List Nat) (v : Value), xQ l x wk + 1 ≤ gk ∧ oQ l x wk k n i ∧ eJ w.heap.size wr.heap.size ds W ∧ oF 4 3 74 25 24 w.heap.size w regs (some ⟨nb, no, none⟩) l.length cap x wk v W ∧ Blk W wn.heap.size 96 #[.pointer (some ⟨wr.heap.size, 0, none⟩)] ∧
  Blk W wr.heap.size 39 #[.int .i64 n.op, .int .i64 n.d, .int .i64 n.a, .int .i64 n.b, .int .i64 n.t, .int .i64 n.e]) ?_ ?_ ?_ ?_ ?_
 case refine_1 => (
 rintro i W W' row ⟨x, wk, v, h1, h2, h3, h4, h5, h6⟩ hg hr
 exact ⟨x, wk, v, h1, h2, h3.own hg (fun r e => by have := (hr r e).1; simp at this; omega), h4.own hg hr Za, h5.own hg (fun r e => (hr r e).2), h6.own hg (fun r e => (hr r e).2)⟩)
 case refine_2 => (
 rintro i W ⟨x, wk, v, h1, h2, h3, h4, h5, h6⟩
 exact ⟨h5.cell 0, h6.cell 0⟩)
 case refine_3 => exact ⟨x, wk, _, by have := Hg.o; rw [← bLQ] at this; exact this, HW.o.take n, HD2.o.keeps ((KeepsOthers.setCell _ _ _).trans (KeepsOthers.alloc _ _)), HS3.o.later ((Bnq _ _)), Blk.new' Zf, (HXn.o.far Zd _).alloc _⟩
 case refine_4 => (
 intro L i hi
 refine ⟨?act, ?asg, ?bdy⟩
 case asg => (
 intro W K h
 gi_wp2
 exact h)
 as_aux_lemma =>
 rintro W ⟨x, wk, v, h1, h2, h3, h4, h5, h6⟩
 obtain ⟨mm, cz, hml, hld, hi2⟩ : ∃ mm : Nat, W.cell? ⟨wr.heap.size, 4 + i, none⟩ = some (.int .i64 (mm : Int)) ∧ mm < l.length ∧ bU n mm = true ∧ ((i = 0 ∧ n.t = mm) ∨ (i = 1 ∧ n.e = mm)) := by (
 rcases hi with ⟨rfl, h12⟩ | ⟨rfl, h11⟩
 · (
 obtain ⟨t0, t1⟩ := HR.o.then_ hm h12
 obtain ⟨tt, htt⟩ := V7 (show 0 ≤ n.t by omega)
 have := gK h12
 rw [htt] at this
 exact ⟨tt, by have := h6.cell 4; rw [← htt]; exact this, Zb, this, .inl ⟨rfl, htt⟩⟩)
 · (
 obtain ⟨t0, t1⟩ := HR.o.else_ hm h11
 obtain ⟨tt, htt⟩ := V7 (show 0 ≤ n.e by omega)
 have := iK h11
 rw [htt] at this
 exact ⟨tt, by have := h6.cell 5; rw [← htt]; exact this, Zb, this, .inr ⟨rfl, htt⟩⟩))
 have hxl := h2.under.1
 obtain ⟨cm, fm⟩ := h4.row.bool_at_ (k := mm) (by rw [hxl]; exact hml)
 have b3 := h4.b3.cell 0
 have b4 := h4.b4.cell 0
 have fb := h4.b4.frozen 0
 have l4 := h4.b4.lt
 have l6 := h6.lt
 simp only [Yl] at b3 b4
 obtain ⟨u0, u1⟩ := Ikq (k := mm) (n := l.length) (by omega)
 have H2 := bA h2
 have H4 := bA h4
 clear h2 h4
 cases hy : yn x mm
 · (
 rw [hy] at cm
 have Hy := bA hy
 clear hy
 gi_wp2
 apply iB (W := W.drew)
 case h => gi_region; all_goals exact ⟨rfl, rfl, rfl⟩
 as_aux_lemma =>
 gi_wp2
 apply iB (W := W.drew.drew.setCell ⟨w.heap.size + 1, mm, none⟩ (.bool true))
 case h => gi_region; all_goals exact ⟨rfl, rfl, rfl⟩
 as_aux_lemma =>
 obtain ⟨W2, hW2⟩ := Exq (W.drew.drew.setCell ⟨w.heap.size + 1, mm, none⟩ (.bool true))
 rw [← hW2]
 have hk2 : KeepsOthers W W2 := by rw [hW2]; exact ((KeepsOthers.drew _).trans (KeepsOthers.drew _)).trans (KeepsOthers.setCell _ _ _)
 have l1 := cZ H4.o.row
 have hS2 : oF 4 3 74 25 24 w.heap.size w regs (some ⟨nb, no, none⟩) l.length cap (x.set mm true) wk v W2 := by (
 rw [hW2]
 exact (H4.o.later (((Below.refl _ _).drew).drew)).see Ze Ze Ze Ze mm)
 have hX2 : Blk W2 wr.heap.size 39 #[.int .i64 n.op, .int .i64 n.d, .int .i64 n.a, .int .i64 n.b, .int .i64 n.t, .int .i64 n.e] := by rw [hW2]; exact (h6.drew.drew).far Zd _
 have hG2 : Blk W2 wn.heap.size 96 #[.pointer (some ⟨wr.heap.size, 0, none⟩)] := by rw [hW2]; exact (h5.drew.drew).far Zd _
 have cz2 : W2.cell? ⟨wr.heap.size, 4 + i, none⟩ = some (.int .i64 (mm : Int)) := by (
 exact (hX2.cell (4 + i)).trans ((h6.cell (4 + i)).symm.trans cz))
 clear cz cm fm b3 b4 fb l4 l6
 have b4 := hS2.b4.cell 0
 have fb := hS2.b4.frozen 0
 have l4 := hS2.b4.lt
 have l6 := hX2.lt
 simp only [Yl] at b4
 have hc2 := tM x
 rw [hxl] at hc2
 have hlen := H2.o.len
 have hG3 := H2.o.new Hn.o hld hml Hy.o hi2
 have hT3 := H2.o.todo_new hml Hy.o
 obtain ⟨Av, cv2, hv, _, _⟩ := hS2.wrk.shape
 have HS2 := bA hS2
 have Hv := bA hv
 clear hW2 hS2 hv H4
 gi_wp2
 have hat : bG ((W2.drew).alloc (.cells #[.int .i64 (mm : Int)] 3)) (some ⟨W2.heap.size, 0, none⟩) [.int .i64 (mm : Int)] := dK W2.drew _ _
 have Hat := bA hat
 clear hat
 refine wpIn_region_any Zc ?_; (try (change wpAnyIn _ _ _ _ _ _ _ _ _ (World.drew _)))
 (refine wpAnyIn_ready (rs := [0, 1]) Zc Zf ?_; refine AllReadyIn.cons rfl (fun K hK => ?_) (AllReadyIn.cons rfl (fun K hK => ?_) AllReadyIn.nil) <;> (go_simp; (refine hK _ _ ?_; clear hK K)))
 rotate_left
 (refine wpAnyIn_ready (rs := [0, 2]) Zc Zf ?_; refine AllReadyIn.cons rfl (fun K hK => ?_) (AllReadyIn.cons rfl (fun K hK => ?_) AllReadyIn.nil) <;> (go_simp; (refine hK _ _ ?_; clear hK K)))
 rotate_left
 (refine wpAnyIn_ready (rs := [0, 3]) Zc Zf ?_; refine AllReadyIn.cons rfl (fun K hK => ?_) (AllReadyIn.cons rfl (fun K hK => ?_) AllReadyIn.nil) <;> (go_simp; (refine hK _ _ ?_; clear hK K)))
 rotate_left
 (refine wpAnyIn_ready (rs := [0, 4]) Zc Zf ?_; refine AllReadyIn.cons rfl (fun K hK => ?_) (AllReadyIn.cons rfl (fun K hK => ?_) AllReadyIn.nil) <;> (go_simp; (refine hK _ _ ?_; clear hK K)))
 rotate_left
 (refine wpAnyIn_ready (rs := [0]) Zc Zf ?_; refine AllReadyIn.cons rfl (fun K hK => ?_) AllReadyIn.nil; (go_simp; (refine hK _ _ ?_; clear hK K)))
 rotate_left
 ((refine wpAnyIn_ready (rs := [1]) Zc Zf ?_; refine AllReadyIn.cons rfl (fun K hK => ?_) AllReadyIn.nil; (go_simp; (refine hK _ _ ?_; clear hK K))); (refine wpAnyIn_ready (rs := [2]) Zc Zf ?_; refine AllReadyIn.cons rfl (fun K hK => ?_) AllReadyIn.nil; (go_simp; (refine hK _ _ ?_; clear hK K))); (refine wpAnyIn_ready (rs := [3]) Zc Zf ?_; refine AllReadyIn.cons rfl (fun K hK => ?_) AllReadyIn.nil; (go_simp; (refine hK _ _ ?_; clear hK K))); (refine wpAnyIn_ready (rs := [4]) Zc Zf ?_; refine AllReadyIn.cons rfl (fun K hK => ?_) AllReadyIn.nil; (go_simp; (refine hK _ _ ?_; clear hK K))))
 rotate_left
 ((refine wpAnyIn_ready (rs := [2]) Zc Zf ?_; refine AllReadyIn.cons rfl (fun K hK => ?_) AllReadyIn.nil; (go_simp; (refine hK _ _ ?_; clear hK K))); (refine wpAnyIn_ready (rs := [3]) Zc Zf ?_; refine AllReadyIn.cons rfl (fun K hK => ?_) AllReadyIn.nil; (go_simp; (refine hK _ _ ?_; clear hK K))); (refine wpAnyIn_ready (rs := [4]) Zc Zf ?_; refine AllReadyIn.cons rfl (fun K hK => ?_) AllReadyIn.nil; (go_simp; (refine hK _ _ ?_; clear hK K))))
 rotate_left
 ((refine wpAnyIn_ready (rs := [3]) Zc Zf ?_; refine AllReadyIn.cons rfl (fun K hK => ?_) AllReadyIn.nil; (go_simp; (refine hK _ _ ?_; clear hK K))); (refine wpAnyIn_ready (rs := [4]) Zc Zf ?_; refine AllReadyIn.cons rfl (fun K hK => ?_) AllReadyIn.nil; (go_simp; (refine hK _ _ ?_; clear hK K))))
 rotate_left
 (refine wpAnyIn_ready (rs := [4]) Zc Zf ?_; refine AllReadyIn.cons rfl (fun K hK => ?_) AllReadyIn.nil; (go_simp; (refine hK _ _ ?_; clear hK K)))
 all_goals as_aux_lemma =>
  refine wpAnyIn_ready (rs := [5]) Zc Zf ?_
  refine AllReadyIn.cons rfl (fun K hK => ?_) AllReadyIn.nil
  refine rR (v := v) rfl _ _ _ rfl i3 _ 8 underlying25 h3i h3z h3s h3b rfl rfl ((HS2.o.wrk.drew).alloc _) (some ⟨W2.heap.size, 0, none⟩) 1 1 [.int .i64 (mm : Int)] rfl rfl Hat.o Zk (by simp [maxLen, kB] <;> omega) (by simp [kB] <;> omega) (by have := HS2.o.sz; simp <;> omega) ?_
  intro v4 w4 hr4 hg4 hat4
  obtain ⟨A4, c4, hv4, _, _⟩ := hr4.shape
  subst hv4
  rw [Vz, V8] at hr4 ⊢
  refine hK _ _ ?_
  clear hK K
  have hS3 := HS2.o.later (((Below.refl _ _).drew).alloc Zf (.cells #[.int .i64 (mm : Int)] 3))
  have hb4 := hS3.b4.grown hg4 (hS3.wrk.ne_blk hS3.b4 Ze)
  have r4 := hb4.cell 0
  have q4 := hb4.frozen 0
  simp only [Yl] at r4
  have hk4 := hS3.wrk.keeps hg4
  have hX4 := ((hX2.drew).alloc (.cells #[.int .i64 (mm : Int)] 3)).grown hg4 (hS3.wrk.ne_blk ((hX2.drew).alloc _) Ze)
  have hG4 := ((hG2.drew).alloc (.cells #[.int .i64 (mm : Int)] 3)).grown hg4 (hS3.wrk.ne_blk ((hG2.drew).alloc _) Ze)
  have HF := bA (hS3.mid Ze Ze Ze Ze (wk2 := wk ++ [mm]) (by rw [tE]; exact hr4) hg4)
  clear hr4 hg4 hat4 hb4 hS3
  (refine wpAnyIn_ready (rs := [6]) Zc Zf ?_; refine AllReadyIn.cons rfl (fun K hK => ?_) AllReadyIn.nil; (go_simp; (refine hK _ _ ?_; clear hK K)))
  refine wpAnyIn_done Zc ?_ _
  gi_wp2
  exact ⟨(((hk2.trans (KeepsOthers.drew _)).trans (KeepsOthers.alloc _ _)).trans hk4 |>.trans (KeepsOthers.setCell _ _ _)).from _, _, _, _, Zb, hG3, h3.keeps ((((hk2.trans (KeepsOthers.drew _)).trans (KeepsOthers.alloc _ _)).trans hk4).trans (KeepsOthers.setCell _ _ _)), HF.o, hG4.far Zd _, hX4.far Zd _⟩)
 · (
 rw [hy] at cm
 have Hy := bA hy
 clear hy
 gi_wp2
 apply iB (W := W.drew)
 case h => gi_region; all_goals exact ⟨rfl, rfl, rfl⟩
 as_aux_lemma =>
 gi_wp2
 exact ⟨(KeepsOthers.drew _).from _, x, wk, v, h1, H2.o.old Hy.o hi2, h3.keeps (KeepsOthers.drew _), H4.o.later ((Below.refl _ _).drew), h5.drew, h6.drew⟩))
 case refine_5 => (
 as_aux_lemma =>
 rintro D W hD ⟨x, wk, v, h1, h2, h3, h4, h5, h6⟩ hdd
 have hzl : wr.heap.size ≤ D := by simp at hD; omega
 refine hK _ _ (Handed.intro (xQ l x wk) h1 (hJ _ _ _ ⟨_ :: ds, _, _, _, _, _, _, _, _, _, _, _, _, _, _, _, _, _, _, _, _, _, _, _, _, _, _, _, _, _, _, _, _, _, _, _, _, _, _, _, _, _, ⟨x, wk, v, Nat.le_refl _, h2.end_ Hn.o (fun h => by unfold fM; rw [if_neg h]; split <;> omega) (fun h => by unfold fM; rw [if_neg Zb, if_pos h]; omega), h4, h3.add hzl Zb hdd⟩, rfl⟩))))))
end
end Go.Proofs.YtmghkonmfbpjcabGreatDoor
