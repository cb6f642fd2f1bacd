/- MvG. -/
import Derived.Test.YtmghkonmfbpjcabGreatGD
import Derived.Test.YtmghkonmfbpjcabGreatFactR9
import Derived.Test.YtmghkonmfbpjcabGreatGA
set_option linter.unusedVariables false
set_option linter.unusedSimpArgs false
namespace Go.Proofs.YtmghkonmfbpjcabGreat
section
open Go.RowKit
set_option maxHeartbeats 8000000
attribute [local irreducible] Row madeCells
structure BzSt (W0 : World) (lb : Nat) (v1 v2 : Value) (y : List Bool) (W : World) : Prop where
 L : Blk W lb 29 #[v1, v2]
 r2 : Row W W0.heap.size 4 v2 (bools y)
 below : Below W0.heap.size W0 W
 low : W0.heap.size ≤ lb
section
variable {W0 : World} {lb : Nat} {v1 v2 : Value} {y : List Bool} {W : World}
theorem BzSt.later {W' : World} (h : BzSt W0 lb v1 v2 y W) (hb : Below W.heap.size W W') : BzSt W0 lb v1 v2 y W' :=
 ⟨h.L.below hb h.L.lt, h.r2.below' hb, h.below.trans (hb.mono h.below.size), h.low⟩
theorem BzSt.put {V w9 : World} {v9 : Value} {b : Bool} (h0 : BzSt W0 lb v1 v2 y W) (hb : Below W.heap.size W V) (hr : Row w9 W0.heap.size 4 v9 (bools y ++ [.bool b])) (hg : V.grownBy w9 v2.ownBlock) :
 BzSt W0 lb v1 v9 (y ++ [b]) (w9.setCell ⟨lb, 1, none⟩ v9) := by (
 have h := h0.later hb
 have hL := Blk.grown h.L hg (h.r2.ne_blk h.L (by decide))
 exact ⟨hL.set_ 1 _, by rw [bools_snoc]; exact hr.far (hr.ne_blk hL (by decide)) _, (h.below.grown hg h.below.size (fun q hq => (h.r2.lt q hq).1)).setCell h.low _, h.low⟩)
end
def BoPost (tB : TypeId) (l : List Nd) (t : Tm) (w : World) (e : Ending) (w' : World) : Prop :=
 Below w.heap.size w w' ∧ ∃ F v1 v2, IsFx t l F ∧ e = .returned (.agg #[v1, v2]) ∧ Row w' w.heap.size tB v1 (bools F.early) ∧ Row w' w.heap.size tB v2 (bools (recL t l))
set_option maxRecDepth 100000 in
theorem BusyOf_any (regs : Int) (A : Option Addr) (l : List Nd) (cap : Nat) (t : Tm) (w : World) (hA : NodesAt w A l) (hR : Right regs l) :
 Calls Tryz.prog 10 #[.agg #[.int .i64 regs, .slice A l.length cap], .agg #[.int .i64 t.op, .int .i64 t.a, .int .i64 t.b]] w (BoPost 4 l t w) := by (
 obtain ⟨ib, hbi, hbz, hbs, hbb⟩ := info_parts infoBoolG
 have hhi := hR.hi
 have HX := hide (fun W (hW : Below w.heap.size w W) => FactsOf_any regs A l cap t W (hA.below hW) hR)
 have HN := hide (fun W (hW : Below w.heap.size w W) => hA.below hW)
 clear hA hR
 go_enter Tryz.func10, Tryz.ntmps10
 go_wp2_with fail
 refine (HX.out _ (by (with_reducible repeat first | apply Qa | assumption | apply Qb | apply Qc | apply Qd | apply Qe | refine Qf ?_ (by assumption) ?_); all_goals (try simp only [Sz]); first | done | omega | (try simp only [Sz] at *); omega)).mono ?_
 rintro e w1 ⟨hb1, F, v0, v1, v2, v3, v4, v5, rfl, hF, r0, r1, r2, r3, r4, r5⟩
 obtain ⟨L0, L1, L2, L3, L4, L5⟩ := hF.len
 obtain ⟨A0, c0, e0, _, _⟩ := r0.shape
 rw [bools_length, L0] at e0
 subst e0
 obtain ⟨A1, c1, e1, _, _⟩ := r1.shape
 rw [bools_length, L1] at e1
 subst e1
 obtain ⟨A2, c2, e2, _, _⟩ := r2.shape
 rw [bools_length, L2] at e2
 subst e2
 obtain ⟨A3, c3, e3, _, _⟩ := r3.shape
 rw [bools_length, L3] at e3
 subst e3
 obtain ⟨A4, c4, e4, _, _⟩ := r4.shape
 rw [bools_length, L4] at e4
 subst e4
 obtain ⟨A5, c5, e5, _, _⟩ := r5.shape
 rw [bools_length, L5] at e5
 subst e5
 have hz1 := hb1.size
 simp only [World.size_alloc] at hz1
 have hB1 : Below w.heap.size w w1 := (by (with_reducible repeat first | apply Qa | assumption | apply Qb | apply Qc | apply Qd | apply Qe | refine Qf ?_ (by assumption) ?_); all_goals (try simp only [Sz]); first | done | omega | (try simp only [Sz] at *); omega)
 have hP1 : Blk w1 w.heap.size 24 #[.int .i64 regs, .slice A l.length cap] := Blk.below (by repeat (first | ((with_reducible refine Blk.new' ?_); exact (by (try simp only [Sz]); first | done | omega | (try simp only [Sz] at *); omega)) | (with_reducible refine Blk.alloc ?_ _))) hb1 (by simp <;> omega)
 have hT1 : Blk w1 (w.heap.size + 1) 26 (tmA t) := Blk.below (by unfold tmA; repeat (first | ((with_reducible refine Blk.new' ?_); exact (by (try simp only [Sz]); first | done | omega | (try simp only [Sz] at *); omega)) | (with_reducible refine Blk.alloc ?_ _))) hb1 (by simp <;> omega)
 have hO1 : Blk w1 (w.heap.size + 1 + 1) 29 #[.slice none 0 0, .slice none 0 0] := Blk.below (by repeat (first | ((with_reducible refine Blk.new' ?_); exact (by (try simp only [Sz]); first | done | omega | (try simp only [Sz] at *); omega)) | (with_reducible refine Blk.alloc ?_ _))) hb1 (by simp <;> omega)
 clear hb1 r0 r1 r3 r4 r5 L0 L1 L3 L4 L5
 have hfd : ∀ W, (Instr.field 49 (.agg #[.slice A0 l.length c0, .slice A1 l.length c1, .slice A2 l.length c2, .slice A3 l.length c3, .slice A4 l.length c4, .slice A5 l.length c5]) 2).run Tryz.prog W = .ok (.slice A2 l.length c2) W := fun W => by first | rfl | kernel_rfl | (simp [Instr.field, go_sem, Tryz.underlying49])
 go_upto_region 2 with fail
 obtain ⟨W2, hW2⟩ : ∃ W2 : World, W2 = w1.alloc (.cells #[.slice A2 l.length c2, .slice none 0 0] 29) := ⟨_, rfl⟩
 have hS2 : BzSt w1 w1.heap.size (.slice A2 l.length c2) (.slice none 0 0) (mk 0 fun k => recB t (nd l k)) W2 := by rw [hW2]; exact ⟨Blk.new' rfl, Row.nil_ _ _ _, (Below.refl _ _).alloc (Nat.le_refl _) _, Nat.le_refl _⟩
 rw [← hW2]
 obtain ⟨lb, hlb⟩ : ∃ b, b = w1.heap.size := ⟨_, rfl⟩
 rw [← hlb] at hS2 ⊢
 have HS2 := hide hS2
 have HP1 := hide hP1
 have HT1 := hide hT1
 have HO1 := hide hO1
 have HB1 := hide hB1
 have HR2 := hide r2
 have HF := hide hF
 have HL2 := hide L2
 clear hS2 hP1 hT1 hO1 hB1 r2 hF L2 hW2 hlb
 go_wp2_with fail
 go_loopg [6] (l.length) (fun gk i wr => ∃ (k : Nat) (v2 : Value), k ≤ l.length ∧ i = .int .i64 k ∧ gk = l.length - k ∧ BzSt w1 lb (.slice A2 l.length c2) v2 (mk k fun k => recB t (nd l k)) wr)
 case atStart => exact ⟨0, _, Nat.zero_le _, rfl, rfl, HS2.out⟩
 case round => (
 clear HS2
 obtain ⟨k, v2, hk, rfl, hgk, hS⟩ := hrel
 have Hgk := hide hgk
 clear hgk
 have hP := HP1.out.below hS.below HP1.out.lt
 have p1 := hP.cell 1
 have lp := HP1.out.lt
 simp only [Yl] at p1
 have hwz := hS.below.size
 have lpw := hP.lt
 by_cases hlt : k < l.length
 · (
 obtain ⟨nb, no, nn, rfl, hnb, hn, hnl⟩ := (HN.out _ HB1.out).get hlt
 obtain ⟨n0, n1, n2, n3, n4, n5⟩ := hnl
 have hTm := HT1.out.below hS.below HT1.out.lt
 have t0 := hTm.cell 0
 have t1 := hTm.cell 1
 have t2 := hTm.cell 2
 have ltb := HT1.out.lt
 have ln := hnb
 simp only [tmA, Yl] at t0 t1 t2
 have n0 := ((bcell hS.below).1 _ _ hnb).trans n0
 have n1 := ((bcell hS.below).1 _ _ hnb).trans n1
 have n2 := ((bcell hS.below).1 _ _ hnb).trans n2
 have n3 := ((bcell hS.below).1 _ _ hnb).trans n3
 have n4 := ((bcell hS.below).1 _ _ hnb).trans n4
 have n5 := ((bcell hS.below).1 _ _ hnb).trans n5
 have u0 : (0 : Int) ≤ (k : Int) := by omega
 have u1 : (k : Int) < (l.length : Int) := by omega
 have hlow := hS.low
 have q1 : ¬ (w.heap.size = lb) := by omega
 have q2 : ¬ (nb = lb) := by omega
 have q3 : ¬ (w.heap.size + 1 = lb) := by omega
 have hm : (mk k fun k => recB t (nd l k)).length = k := mk_len _ _
 have Hn := hide hn
 have HS := hide hS
 clear hn hS hTm hP lpw
 go_upto_region 5 with fail
 have HG : ∀ (V w9 : World), Below wr.heap.size wr V → V.grownBy w9 v2.ownBlock → (w9.cell? ⟨w.heap.size, 1, none⟩ = some (.slice (some ⟨nb, no, none⟩) l.length cap) ∧ w9.cell? ⟨nb, no + k * 6, none⟩ = some (.int .i64 nn.op) ∧ w9.cell? ⟨nb, no + k * 6 + 1, none⟩ = some (.int .i64 nn.d) ∧ w9.cell? ⟨nb, no + k * 6 + 2, none⟩ = some (.int .i64 nn.a) ∧ w9.cell? ⟨nb, no + k * 6 + 3, none⟩ = some (.int .i64 nn.b) ∧ w9.cell? ⟨nb, no + k * 6 + 4, none⟩ = some (.int .i64 nn.t) ∧ w9.cell? ⟨nb, no + k * 6 + 5, none⟩ = some (.int .i64 nn.e) ∧ w9.cell? ⟨w.heap.size + 1, 0, none⟩ = some (.int .i64 t.op) ∧ w9.cell? ⟨w.heap.size + 1, 1, none⟩ = some (.int .i64 t.a) ∧ w9.cell? ⟨w.heap.size + 1, 2, none⟩ = some (.int .i64 t.b)) := by (
 intro V w9 hV hg9
 have hown : ∀ b, b < w1.heap.size → (some b) ≠ v2.ownBlock := fun b hb e => by have := (HS.out.r2.lt b e.symm).1; omega
 have hsz2 := hV.size
 exact ⟨(hg9.cell_far ⟨w.heap.size, 1, none⟩ (by simp; omega) (hown _ (by omega))).trans (((bcell hV).1 _ _ (by omega)).trans p1), (hg9.cell_far ⟨nb, no + k * 6, none⟩ (by simp; omega) (hown _ (by omega))).trans (((bcell hV).1 _ _ (by omega)).trans n0), (hg9.cell_far ⟨nb, no + k * 6 + 1, none⟩ (by simp; omega) (hown _ (by omega))).trans (((bcell hV).1 _ _ (by omega)).trans n1), (hg9.cell_far ⟨nb, no + k * 6 + 2, none⟩ (by simp; omega) (hown _ (by omega))).trans (((bcell hV).1 _ _ (by omega)).trans n2), (hg9.cell_far ⟨nb, no + k * 6 + 3, none⟩ (by simp; omega) (hown _ (by omega))).trans (((bcell hV).1 _ _ (by omega)).trans n3), (hg9.cell_far ⟨nb, no + k * 6 + 4, none⟩ (by simp; omega) (hown _ (by omega))).trans (((bcell hV).1 _ _ (by omega)).trans n4), (hg9.cell_far ⟨nb, no + k * 6 + 5, none⟩ (by simp; omega) (hown _ (by omega))).trans (((bcell hV).1 _ _ (by omega)).trans n5), (hg9.cell_far ⟨w.heap.size + 1, 0, none⟩ (by simp; omega) (hown _ (by omega))).trans (((bcell hV).1 _ _ (by omega)).trans t0), (hg9.cell_far ⟨w.heap.size + 1, 1, none⟩ (by simp; omega) (hown _ (by omega))).trans (((bcell hV).1 _ _ (by omega)).trans t1), (hg9.cell_far ⟨w.heap.size + 1, 2, none⟩ (by simp; omega) (hown _ (by omega))).trans (((bcell hV).1 _ _ (by omega)).trans t2)⟩)
 have HZ : ∀ (V : World) (u : Value), (V.cell? ⟨w.heap.size, 1, none⟩ = some (.slice (some ⟨nb, no, none⟩) l.length cap) ∧ V.cell? ⟨nb, no + k * 6, none⟩ = some (.int .i64 nn.op) ∧ V.cell? ⟨nb, no + k * 6 + 1, none⟩ = some (.int .i64 nn.d) ∧ V.cell? ⟨nb, no + k * 6 + 2, none⟩ = some (.int .i64 nn.a) ∧ V.cell? ⟨nb, no + k * 6 + 3, none⟩ = some (.int .i64 nn.b) ∧ V.cell? ⟨nb, no + k * 6 + 4, none⟩ = some (.int .i64 nn.t) ∧ V.cell? ⟨nb, no + k * 6 + 5, none⟩ = some (.int .i64 nn.e) ∧ V.cell? ⟨w.heap.size + 1, 0, none⟩ = some (.int .i64 t.op) ∧ V.cell? ⟨w.heap.size + 1, 1, none⟩ = some (.int .i64 t.a) ∧ V.cell? ⟨w.heap.size + 1, 2, none⟩ = some (.int .i64 t.b)) → ((V.setCell ⟨lb, 1, none⟩ u).cell? ⟨w.heap.size, 1, none⟩ = some (.slice (some ⟨nb, no, none⟩) l.length cap) ∧ (V.setCell ⟨lb, 1, none⟩ u).cell? ⟨nb, no + k * 6, none⟩ = some (.int .i64 nn.op) ∧ (V.setCell ⟨lb, 1, none⟩ u).cell? ⟨nb, no + k * 6 + 1, none⟩ = some (.int .i64 nn.d) ∧ (V.setCell ⟨lb, 1, none⟩ u).cell? ⟨nb, no + k * 6 + 2, none⟩ = some (.int .i64 nn.a) ∧ (V.setCell ⟨lb, 1, none⟩ u).cell? ⟨nb, no + k * 6 + 3, none⟩ = some (.int .i64 nn.b) ∧ (V.setCell ⟨lb, 1, none⟩ u).cell? ⟨nb, no + k * 6 + 4, none⟩ = some (.int .i64 nn.t) ∧ (V.setCell ⟨lb, 1, none⟩ u).cell? ⟨nb, no + k * 6 + 5, none⟩ = some (.int .i64 nn.e) ∧ (V.setCell ⟨lb, 1, none⟩ u).cell? ⟨w.heap.size + 1, 0, none⟩ = some (.int .i64 t.op) ∧ (V.setCell ⟨lb, 1, none⟩ u).cell? ⟨w.heap.size + 1, 1, none⟩ = some (.int .i64 t.a) ∧ (V.setCell ⟨lb, 1, none⟩ u).cell? ⟨w.heap.size + 1, 2, none⟩ = some (.int .i64 t.b)) := fun V u ⟨p1, n0, n1, n2, n3, n4, n5, t0, t1, t2⟩ => ⟨(set1_cell (by omega) _ _).trans p1, (set1_cell (by omega) _ _).trans n0, (set1_cell (by omega) _ _).trans n1, (set1_cell (by omega) _ _).trans n2, (set1_cell (by omega) _ _).trans n3, (set1_cell (by omega) _ _).trans n4, (set1_cell (by omega) _ _).trans n5, (set1_cell (by omega) _ _).trans t0, (set1_cell (by omega) _ _).trans t1, (set1_cell (by omega) _ _).trans t2⟩
 have HH : ∀ (V : World), Below wr.heap.size wr V → (V.cell? ⟨w.heap.size, 1, none⟩ = some (.slice (some ⟨nb, no, none⟩) l.length cap) ∧ V.cell? ⟨nb, no + k * 6, none⟩ = some (.int .i64 nn.op) ∧ V.cell? ⟨nb, no + k * 6 + 1, none⟩ = some (.int .i64 nn.d) ∧ V.cell? ⟨nb, no + k * 6 + 2, none⟩ = some (.int .i64 nn.a) ∧ V.cell? ⟨nb, no + k * 6 + 3, none⟩ = some (.int .i64 nn.b) ∧ V.cell? ⟨nb, no + k * 6 + 4, none⟩ = some (.int .i64 nn.t) ∧ V.cell? ⟨nb, no + k * 6 + 5, none⟩ = some (.int .i64 nn.e) ∧ V.cell? ⟨w.heap.size + 1, 0, none⟩ = some (.int .i64 t.op) ∧ V.cell? ⟨w.heap.size + 1, 1, none⟩ = some (.int .i64 t.a) ∧ V.cell? ⟨w.heap.size + 1, 2, none⟩ = some (.int .i64 t.b)) := fun V hV => ⟨((bcell hV).1 _ _ (by omega)).trans p1, ((bcell hV).1 _ _ (by omega)).trans n0, ((bcell hV).1 _ _ (by omega)).trans n1, ((bcell hV).1 _ _ (by omega)).trans n2, ((bcell hV).1 _ _ (by omega)).trans n3, ((bcell hV).1 _ _ (by omega)).trans n4, ((bcell hV).1 _ _ (by omega)).trans n5, ((bcell hV).1 _ _ (by omega)).trans t0, ((bcell hV).1 _ _ (by omega)).trans t1, ((bcell hV).1 _ _ (by omega)).trans t2⟩
 refine wp_region_held_drew (S := fun w' => (w'.cell? ⟨w.heap.size, 1, none⟩ = some (.slice (some ⟨nb, no, none⟩) l.length cap) ∧ w'.cell? ⟨nb, no + k * 6, none⟩ = some (.int .i64 nn.op) ∧ w'.cell? ⟨nb, no + k * 6 + 1, none⟩ = some (.int .i64 nn.d) ∧ w'.cell? ⟨nb, no + k * 6 + 2, none⟩ = some (.int .i64 nn.a) ∧ w'.cell? ⟨nb, no + k * 6 + 3, none⟩ = some (.int .i64 nn.b) ∧ w'.cell? ⟨nb, no + k * 6 + 4, none⟩ = some (.int .i64 nn.t) ∧ w'.cell? ⟨nb, no + k * 6 + 5, none⟩ = some (.int .i64 nn.e) ∧ w'.cell? ⟨w.heap.size + 1, 0, none⟩ = some (.int .i64 t.op) ∧ w'.cell? ⟨w.heap.size + 1, 1, none⟩ = some (.int .i64 t.a) ∧ w'.cell? ⟨w.heap.size + 1, 2, none⟩ = some (.int .i64 t.b))) (by kernel_rfl) ?_ ?_
 · exact ⟨p1, n0, n1, n2, n3, n4, n5, t0, t1, t2⟩
 intro hH
 have hC0 : Below wr.heap.size wr wr.drew := (Below.refl _ _).drew
 generalize wr.drew = V0 at hH hC0 ⊢
 refine Up (fun _ _ _ _ _ => id) fun hP => ?_
 refine Vq 0 ?_ rfl (by kernel_rfl) hP (by rfl) ?r hH ?_; case r => intro w'; go_simp; try with_reducible rfl
 try simp only [Nm]
 refine Vq 2 ?_ rfl (by kernel_rfl) hP (by rfl) ?r hH ?_; case r => intro w'; go_simp; try with_reducible rfl
 try simp only [Nm]
 refine Vi 3 ?_ rfl (by kernel_rfl) hP (by rfl) ?r hH ?_; case r => intro w' h; (try dsimp only at h); (try go_split_ands); go_simp; try with_reducible rfl
 try simp only [Nm]
 refine Vq 4 ?_ rfl (by kernel_rfl) hP (by rfl) ?r hH ?_; case r => intro w'; go_simp; try with_reducible rfl
 try simp only [Nm]
 refine Vq 5 ?_ rfl (by kernel_rfl) hP (by rfl) ?r hH ?_; case r => intro w'; go_simp; try with_reducible rfl
 try simp only [Nm]
 refine Vi 6 ?_ rfl (by kernel_rfl) hP (by rfl) ?r hH ?_; case r => intro w' h; (try dsimp only at h); (try go_split_ands); go_simp; try with_reducible rfl
 try simp only [Nm]
 refine Vi 7 ?_ rfl (by kernel_rfl) hP (by rfl) ?r hH ?_; case r => intro w' h; (try dsimp only at h); (try go_split_ands); go_simp; try with_reducible rfl
 try simp only [Nm]
 refine wpAnyH_ready (rs := [1, 8]) (by kernel_rfl) (by simp) ?_
 refine AllReadyH.cons rfl (fun K hK => ?_) (AllReadyH.cons rfl (fun K hK => ?_) AllReadyH.nil)
 focus (
 have HK1 := hide hK
 clear hK
 have hx := (HS.out.L.below hC0 HS.out.L.lt).cell 1
 simp only [Yl] at hx
 go_simp
 clear hx hH
 refine Shut.out HK1.out _ _ (HH _ hC0) (fun hH => ?_)
 try simp only [Nm]
 clear HK1
 refine Rd 8 (by kernel_rfl) rfl (fun K hK => ?_)
 have HK8 := hide hK
 clear hK
 go_simp
 go_at_call 35
 refine (reckonsIt_any nn t _).mono ?_
 rintro e V1 ⟨rfl, hbV1⟩
 have hC1 : Below wr.heap.size wr V1 := hC0.trans (hbV1.mono hC0.size)
 clear hH
 refine Shut.out HK8.out _ _ (HH _ hC1) (fun hH => ?_)
 try simp only [Nm]
 clear HK8
 refine Rd 9 (by kernel_rfl) rfl (fun K hK => ?_)
 have HK9 := hide hK
 clear hK
 go_simp
 obtain ⟨V2, hV2⟩ : ∃ V : World, V = V1.alloc (.cells #[.bool (recB t nn)] 4) := ⟨_, rfl⟩
 rw [← hV2]
 have hC2 : Below wr.heap.size wr V2 := by rw [hV2]; exact Below.alloc hC1 hC1.size _
 have hv1 : ValsAt V2 (some ⟨V1.heap.size, 0, none⟩) [.bool (recB t nn)] := by rw [hV2]; exact vals_one _ _ _
 clear hH hV2
 refine Shut.out HK9.out _ _ (HH _ hC2) (fun hH => ?_)
 try simp only [Nm]
 clear HK9)
 rotate_left
 focus (
 have HK8 := hide hK
 clear hK
 go_simp
 go_at_call 35
 refine (reckonsIt_any nn t _).mono ?_
 rintro e V1 ⟨rfl, hbV1⟩
 have hC1 : Below wr.heap.size wr V1 := hC0.trans (hbV1.mono hC0.size)
 clear hH
 refine Shut.out HK8.out _ _ (HH _ hC1) (fun hH => ?_)
 try simp only [Nm]
 clear HK8
 refine wpAnyH_ready (rs := [1, 9]) (by kernel_rfl) (by simp) ?_
 refine AllReadyH.cons rfl (fun K hK => ?_) (AllReadyH.cons rfl (fun K hK => ?_) AllReadyH.nil)
 focus (
 have HK1 := hide hK
 clear hK
 have hx := (HS.out.L.below hC1 HS.out.L.lt).cell 1
 simp only [Yl] at hx
 go_simp
 clear hx hH
 refine Shut.out HK1.out _ _ (HH _ hC1) (fun hH => ?_)
 try simp only [Nm]
 clear HK1
 refine Rd 9 (by kernel_rfl) rfl (fun K hK => ?_)
 have HK9 := hide hK
 clear hK
 go_simp
 obtain ⟨V2, hV2⟩ : ∃ V : World, V = V1.alloc (.cells #[.bool (recB t nn)] 4) := ⟨_, rfl⟩
 rw [← hV2]
 have hC2 : Below wr.heap.size wr V2 := by rw [hV2]; exact Below.alloc hC1 hC1.size _
 have hv1 : ValsAt V2 (some ⟨V1.heap.size, 0, none⟩) [.bool (recB t nn)] := by rw [hV2]; exact vals_one _ _ _
 clear hH hV2
 refine Shut.out HK9.out _ _ (HH _ hC2) (fun hH => ?_)
 try simp only [Nm]
 clear HK9)
 rotate_left
 focus (
 have HK9 := hide hK
 clear hK
 go_simp
 obtain ⟨V2, hV2⟩ : ∃ V : World, V = V1.alloc (.cells #[.bool (recB t nn)] 4) := ⟨_, rfl⟩
 rw [← hV2]
 have hC2 : Below wr.heap.size wr V2 := by rw [hV2]; exact Below.alloc hC1 hC1.size _
 have hv1 : ValsAt V2 (some ⟨V1.heap.size, 0, none⟩) [.bool (recB t nn)] := by rw [hV2]; exact vals_one _ _ _
 clear hH hV2
 refine Shut.out HK9.out _ _ (HH _ hC2) (fun hH => ?_)
 try simp only [Nm]
 clear HK9
 refine Rd 1 (by kernel_rfl) rfl (fun K hK => ?_)
 have HK1 := hide hK
 clear hK
 have hx := (HS.out.L.below hC2 HS.out.L.lt).cell 1
 simp only [Yl] at hx
 go_simp
 clear hx hH
 refine Shut.out HK1.out _ _ (HH _ hC2) (fun hH => ?_)
 try simp only [Nm]
 clear HK1))
 all_goals (
 refine Rd 10 (by kernel_rfl) rfl (fun K hK => ?_)
 have HK10 := hide hK
 clear hK
 refine step_append_row (v := v2) (by rfl) _ _ _ (by rfl) ib _ 1 Tryz.underlying27 hbi hbz hbs hbb rfl (by rfl) (HS.out.r2.below' hC2) (some ⟨_, 0, none⟩) 1 1 [.bool (recB t nn)] (by rfl) (by rfl) hv1 (by simp [Value.oneCell']) (by rw [bools_length, hm]; simp [maxLen]; omega) (by rw [bools_length, hm]; simp; omega) (by have := hC2.size; omega) ?_
 intro v9 w9 hr9 hg9 hat9
 obtain ⟨A9, c9, hv9, _, _⟩ := hr9.shape
 subst hv9
 simp only [List.length_append, List.length_singleton, bools_length, hm] at hr9 hat9 ⊢
 have X9 := HG _ _ hC2 hg9
 have hq9 := Blk.grown (HS.out.L.below hC2 HS.out.L.lt) hg9 (HS.out.r2.ne_blk HS.out.L (by decide))
 have hP9 := HS.out.put hC2 hr9 hg9
 have HP9 := hide hP9
 clear hP9 hr9 hat9 hH
 refine Shut.out HK10.out _ _ X9 (fun hH => ?_)
 try simp only [Nm]
 clear HK10
 refine Vq 11 ?_ rfl (by kernel_rfl) hP (by rfl) ?r hH ?_; case r => intro w'; go_simp; try with_reducible rfl
 try simp only [Nm]
 refine Rd 12 (by kernel_rfl) rfl (fun K hK => ?_)
 have HK12 := hide hK
 clear hK
 have hx := hq9.cell 1
 have fx := hq9.frozen 1
 simp only [Yl] at hx
 go_simp
 refine Shut.out HK12.out _ _ (HZ _ _ X9) (fun hH => ?_)
 try simp only [Nm]
 clear HK12
 refine wpAnyH_done (by kernel_rfl) ?_ _
 go_wp2_with fail
 go_roundg (l.length - (k + 1))
 case measure => have := Hgk.out; omega
 case rel => exact ⟨k + 1, _, by omega, by go_num, rfl, by rw [mk_succ (f := fun k => recB t (nd l k)), nd_get Hn.out]; exact HP9.out⟩))
 · (
 have hkk : k = l.length := by omega
 subst hkk
 have hO := HO1.out.below hS.below HO1.out.lt
 obtain ⟨B2, b2, e2, _, _⟩ := hS.r2.shape
 rw [bools_length, mk_len] at e2
 subst e2
 have l0 := hS.L.cell 0
 have l1 := hS.L.cell 1
 have o0 := hO.cell 0
 have o1 := hO.cell 1
 have f0 := hO.frozen 0
 have f1 := hO.frozen 1
 simp only [Yl] at l0 l1 o0 o1
 have lO := hO.lt
 have lL := hS.L.lt
 have hn2 := hS.r2.ne_blk hO (by decide)
 have hr1 := HR2.out.below' hS.below
 have hn1 := hr1.ne_blk hO (by decide)
 have Q1 := hide ((hr1.far (p := ⟨w.heap.size + 1 + 1, 0, none⟩) hn1 (.slice A2 l.length c2)).far (p := ⟨w.heap.size + 1 + 1, 1, none⟩) hn1 (.slice B2 l.length b2))
 have Q2 := hide ((hS.r2.far (p := ⟨w.heap.size + 1 + 1, 0, none⟩) hn2 (.slice A2 l.length c2)).far (p := ⟨w.heap.size + 1 + 1, 1, none⟩) hn2 (.slice B2 l.length b2))
 have HBf := hide (HB1.out.trans (hS.below.mono HB1.out.size))
 clear hS hO hn2 hn1 hr1 hP
 go_wp2_with fail
 go_tidy
 refine bodyPost_ret (v := .agg #[.slice A2 l.length c2, .slice B2 l.length b2]) (by simp [results, Tryz.results10, go_sem, l0, l1, o0, o1, f0, f1, World.cell?_setCell_same, World.cell?_setCell_other]; try rfl) rfl ?_
 exact ⟨(HBf.out.setCell (by simp <;> omega) _).setCell (by simp <;> omega) _, F, _, _, HF.out, rfl, Q1.out.mono (by simp; omega), Q2.out.mono (by omega)⟩)))
end
end Go.Proofs.YtmghkonmfbpjcabGreat
