/- MvE. -/
import Derived.Test.YtmghkonmfbpjcabGF
import Derived.Deep.RegionLaw
import Derived.Test.YtmghkonmfbpjcabGA
set_option linter.unusedVariables false
set_option linter.unusedSimpArgs false
namespace Go.Proofs.Ytmghkonmfbpjcab
section
open Go.RowKit
set_option maxHeartbeats 8000000
attribute [local irreducible] Row madeCells
theorem RvSt.congr {W0 : World} {qb : Nat} {vs : Nat → Value} {xs ys : Nat → List Bool} {W : World} (h : RvSt W0 qb vs xs W) (he : ∀ i, i < 4 → xs i = ys i) : RvSt W0 qb vs ys W := by (
 refine ⟨h.q, ?_, h.below, h.low⟩
 have ht := h.tab
 unfold Tab at *
 exact ⟨fun i hi => by show Row W _ _ (vs i) (bools (ys i)); rw [← he i hi]; exact ht.1 i hi, ht.2⟩)
def rvF (t : Tm) (l : List Nd) (F : Fx) (x : List Bool) (i j : Nat) : Bool := if i = 0 then yn x j && yn F.down j else if i = 1 then true else if i = 2 then false else keepB t (nd l j)
set_option maxRecDepth 100000 in
theorem Rival_ok (regs : Int) (A : Option Addr) (l : List Nd) (cap : Nat) (t : Tm) (X : Option Addr) (x : List Bool) (xc : Nat) (w : World) (hl : l.length ≤ maxLen) (hA : NodesAt w A l) (hX : ValsAt w X (bools x)) (h0 : fxE regs l t = 0) (hx : x.length = l.length) :
 Calls Try.prog 23 #[.agg #[.int .i64 regs, .slice A l.length cap], .agg #[.int .i64 t.op, .int .i64 t.a, .int .i64 t.b], .slice X x.length xc] w (RvPost 4 regs l t x w) := by (
 obtain ⟨ib, hbi, hbz, hbs, hbb⟩ := info_parts infoBoolG
 have HFa := hide (fun W (hW : Below w.heap.size w W) => Facts_any regs A l cap t W hl (hA.below hW))
 have HN := hide (fun W (hW : Below w.heap.size w W) => hA.below hW)
 have HX := hide (fun W (hW : Below w.heap.size w W) => hX.below hW)
 have H0 := hide h0
 have hn64 : l.length ≤ 256 := fxE_hi h0
 have hc0 : chk regs l = 0 := by (
 by_cases hc : chk regs l = 0
 · exact hc
 · (
 unfold fxE at h0
 rw [if_pos hc] at h0
 exact h0))
 have Hc0 := hide hc0
 have Hx := hide hx
 have hne : ((l.length : Int) != (l.length : Int)) = false := by simp
 rw [hx]
 clear hA hX h0 hx hc0
 go_enter Try.func23, Try.ntmps23
 go_wp2_with fail
 refine (HFa.out _ (by (with_reducible repeat first | apply Qa | assumption | apply Qb | apply Qc | apply Qd | apply Qe | refine Qf ?_ (by assumption) ?_); all_goals (try simp only [Sz]); first | done | omega | (try simp only [Sz] at *); omega)).mono ?_
 rintro e w1 ⟨hb1, h⟩
 obtain ⟨-, F, v0, v1, v2, v3, v4, v5, rfl, hF, r0, r1, r2, r3, r4, r5⟩ := h.resolve_left (fun h => h.1 H0.out)
 clear h
 obtain ⟨L0, L1, L2, L3, L4, L5⟩ := hF.len
 obtain ⟨A0, c0, e0, _, _⟩ := r0.shape
 rw [bools_length, L0] at e0
 subst e0
 obtain ⟨A1, c1, e1, _, _⟩ := r1.shape
 rw [bools_length, L1] at e1
 subst e1
 obtain ⟨A2, c2, e2, _, _⟩ := r2.shape
 rw [bools_length, L2] at e2
 subst e2
 obtain ⟨A3, c3, e3, _, _⟩ := r3.shape
 rw [bools_length, L3] at e3
 subst e3
 obtain ⟨A4, c4, e4, _, _⟩ := r4.shape
 rw [bools_length, L4] at e4
 subst e4
 obtain ⟨A5, c5, e5, _, _⟩ := r5.shape
 rw [bools_length, L5] at e5
 subst e5
 have hz1 := hb1.size
 simp only [World.size_alloc] at hz1
 have hB1 : Below w.heap.size w w1 := (by (with_reducible repeat first | apply Qa | assumption | apply Qb | apply Qc | apply Qd | apply Qe | refine Qf ?_ (by assumption) ?_); all_goals (try simp only [Sz]); first | done | omega | (try simp only [Sz] at *); omega)
 have hP1 : Blk w1 w.heap.size 24 #[.int .i64 regs, .slice A l.length cap] := Blk.below (by repeat (first | ((with_reducible refine Blk.new' ?_); exact (by (try simp only [Sz]); first | done | omega | (try simp only [Sz] at *); omega)) | (with_reducible refine Blk.alloc ?_ _))) hb1 (by simp <;> omega)
 have hT1 : Blk w1 (w.heap.size + 1) 42 (tmA t) := Blk.below (by unfold tmA; repeat (first | ((with_reducible refine Blk.new' ?_); exact (by (try simp only [Sz]); first | done | omega | (try simp only [Sz] at *); omega)) | (with_reducible refine Blk.alloc ?_ _))) hb1 (by simp <;> omega)
 have hO1 : Blk w1 (w.heap.size + 1 + 1) 50 #[.slice none 0 0, .slice none 0 0] := Blk.below (by repeat (first | ((with_reducible refine Blk.new' ?_); exact (by (try simp only [Sz]); first | done | omega | (try simp only [Sz] at *); omega)) | (with_reducible refine Blk.alloc ?_ _))) hb1 (by simp <;> omega)
 clear hb1
 go_upto_region 2 with fail
 obtain ⟨W1, hW1⟩ : ∃ W1 : World, W1 = w1.alloc (.cells #[.slice A0 l.length c0, .slice A1 l.length c1, .slice A2 l.length c2, .slice A3 l.length c3, .slice A4 l.length c4, .slice A5 l.length c5] 82) := ⟨_, rfl⟩
 have hBW : Below w1.heap.size w1 W1 := by rw [hW1]; exact (Below.refl _ _).alloc (Nat.le_refl _) _
 have hbx : Blk W1 w1.heap.size 82 #[.slice A0 l.length c0, .slice A1 l.length c1, .slice A2 l.length c2, .slice A3 l.length c3, .slice A4 l.length c4, .slice A5 l.length c5] := by rw [hW1]; exact Blk.new' rfl
 rw [← hW1]
 obtain ⟨fb, hfb⟩ : ∃ b, b = w1.heap.size := ⟨_, rfl⟩
 rw [← hfb] at hbx ⊢
 have hFx : FxBox 82 fb l.length A0 A1 A2 A3 A4 A5 c0 c1 c2 c3 c4 c5 F W1 := ⟨hbx, ⟨(r0.below' hBW).vals, L0⟩, ⟨(r2.below' hBW).vals, L2⟩, ⟨(r4.below' hBW).vals, L4⟩, ⟨(r5.below' hBW).vals, L5⟩⟩
 have hB2 := hB1.trans (hBW.mono (by omega))
 have hP2 := hP1.below hBW hP1.lt
 have hT2 := hT1.below hBW hT1.lt
 have hO2 := hO1.below hBW hO1.lt
 have p0 := hP2.cell 0
 have p1 := hP2.cell 1
 simp only [Yl] at p0 p1
 have lp := hP2.lt
 have hz2 := hB2.size
 have HF := hide hF
 clear r0 r1 r2 r3 r4 r5 hF hbx hW1 hBW hP1 hT1 hO1 hB1 hfb L0 L1 L2 L3 L4 L5
 go_upto_region 7 with fail
 obtain ⟨W2, hW2⟩ : ∃ W2 : World, W2 = W1.alloc (.cells #[.bool false, .bool false, .slice none 0 0, .slice none 0 0, .slice none 0 0, .slice none 0 0] 92) := ⟨_, rfl⟩
 have hS2 : RvSt W1 W1.heap.size (fun _ => .slice none 0 0) (fun i => mk 0 (rvF t l F x i)) W2 := by rw [hW2]; exact ⟨Blk.new' rfl, Tab.nils _ _ _ _, (Below.refl _ _).alloc (Nat.le_refl _) _, Nat.le_refl _⟩
 rw [← hW2]
 obtain ⟨qb, hqb⟩ : ∃ b, b = W1.heap.size := ⟨_, rfl⟩
 rw [← hqb] at hS2 ⊢
 have HS2 := hide hS2
 have HFx := hide hFx
 have HP2 := hide hP2
 have HT2 := hide hT2
 have HO2 := hide hO2
 have HB2 := hide hB2
 have p1' := (hP2.below hS2.below hP2.lt).cell 1
 simp only [Yl] at p1'
 have lp' := (hP2.below hS2.below hP2.lt).lt
 clear hS2 hFx hP2 hT2 hO2 hB2 hW2 p0 p1 lp hqb
 go_wp2_with fail
 go_loopg [37] (l.length) (fun gk i wr => ∃ (k : Nat) (vs : Nat → Value), k ≤ l.length ∧ i = .int .i64 k ∧ gk = l.length - k ∧ RvSt W1 qb vs (fun i => mk k (rvF t l F x i)) wr)
 case atStart => exact ⟨0, _, Nat.zero_le _, rfl, rfl, HS2.out⟩
 case round => (
 clear HS2 p1' lp'
 obtain ⟨k, vs, hk, rfl, hgk, hS⟩ := hrel
 have Hgk := hide hgk
 clear hgk
 by_cases hlt : k < l.length
 · (
 have hB3 := HB2.out.trans (hS.below.mono hz2)
 obtain ⟨nb, no, nn, rfl, hnb, hn, hnl⟩ := (HN.out _ hB3).get hlt
 obtain ⟨n0, n1, n2, n3, n4, n5⟩ := hnl
 have hT3 := HT2.out.below hS.below HT2.out.lt
 have t1 := hT3.cell 1
 have t2 := hT3.cell 2
 have ltb := hT3.lt
 simp only [tmA, Yl] at t1 t2
 have u0 : (0 : Int) ≤ (k : Int) := by omega
 have u1 : (k : Int) < (l.length : Int) := by omega
 have Hn := hide hn
 have HS := hide hS
 have HB3 := hide hB3
 clear hn hS hB3 hT3
 go_upto_region 10 with fail
 obtain ⟨W3, hW3⟩ : ∃ W3 : World, W3 = wr.alloc (.cells #[.int .i64 nn.op, .int .i64 nn.d, .int .i64 nn.a, .int .i64 nn.b, .int .i64 nn.t, .int .i64 nn.e] 60) := ⟨_, rfl⟩
 have hnB : Blk W3 wr.heap.size 60 #[.int .i64 nn.op, .int .i64 nn.d, .int .i64 nn.a, .int .i64 nn.b, .int .i64 nn.t, .int .i64 nn.e] := by rw [hW3]; exact Blk.new' rfl
 have hBW : Below wr.heap.size wr W3 := by rw [hW3]; exact (Below.refl _ _).alloc (Nat.le_refl _) _
 rw [← hW3]
 have hS3 := HS.out.later hBW
 have hT3 := (HT2.out.below HS.out.below HT2.out.lt).below hBW (HT2.out.below HS.out.below HT2.out.lt).lt
 have t1 := hT3.cell 1
 have t2 := hT3.cell 2
 have m0 := hnB.cell 0
 have m1 := hnB.cell 1
 have lT := hT3.lt
 have lM := hnB.lt
 simp only [tmA, Yl] at t1 t2 m0 m1
 have hB4 := HB3.out.trans (hBW.mono HB3.out.size)
 obtain ⟨bn, hbn⟩ : ∃ b, b = wr.heap.size := ⟨_, rfl⟩
 rw [← hbn] at hnB m0 m1 lM ⊢
 clear n0 n1 n2 n3 n4 n5 ltb hW3 hBW hbn hT3 hnB
 go_cut [13] (fun s13 wx => s13 = .bool (!keepB t nn) ∧ wx = W3)
 case first => (
 have hd : hasD nn.op = (decide (nn.op ≥ 1) && decide (nn.op ≤ 9)) := by unfold hasD inB; rfl
 have Hd := hide hd
 clear hd
 have hkeep : (!keepB t nn) = (decide (nn.op ≥ 1) && decide (nn.op ≤ 9) && (nn.d == t.a || nn.d == t.b)) := by (
 unfold keepB; rw [Hd.out]; simp only [bne]; cases decide (nn.op ≥ 1) <;> cases decide (nn.op ≤ 9) <;> cases (nn.d == t.a) <;> cases (nn.d == t.b) <;> rfl)
 have Hk := hide hkeep
 clear hkeep
 cases d1 : decide (nn.op ≥ 1)
 case false => (
 go_wp2_with fail
 go_meet
 go_tidy
 exact ⟨by rw [Hk.out]; simp [*], rfl⟩)
 case true => (
 cases d2 : decide (nn.op ≤ 9)
 case false => (
 go_wp2_with fail
 go_meet
 go_tidy
 exact ⟨by rw [Hk.out]; simp [*], rfl⟩)
 case true => (
 cases d3 : (nn.d == t.a)
 case true => (
 go_wp2_with fail
 go_meet
 go_tidy
 exact ⟨by rw [Hk.out]; simp [*], rfl⟩)
 case false => (
 cases d4 : (nn.d == t.b)
 case true => (
 go_wp2_with fail
 go_meet
 go_tidy
 exact ⟨by rw [Hk.out]; simp [*], rfl⟩)
 case false => (
 go_wp2_with fail
 go_meet
 go_tidy
 exact ⟨by rw [Hk.out]; simp [*], rfl⟩)))))
 case rest => (
 obtain ⟨rfl, hwc⟩ := hcut
 rw [hwc]
 clear hwc
 clear m0 m1 lM t1 t2 lT
 have hW13 : Below W1.heap.size W1 W3 := hS3.below
 obtain ⟨dbk, dof, e0, ld, dc⟩ := HFx.out.down.1.bool (k := k) (by rw [HFx.out.down.2]; exact hlt)
 subst e0
 obtain ⟨xbk, xof, e0, lx, xcl⟩ := (HX.out _ HB2.out).bool (k := k) (by rw [Hx.out]; exact hlt)
 subst e0
 have f0 := HFx.out.box.cell 0
 have lf := HFx.out.box.lt
 simp only [Yl] at f0
 have dc := ((bcell hW13).1 _ _ ld).trans dc
 have xcl := ((bcell hW13).1 _ _ lx).trans xcl
 have f0 := ((bcell hW13).1 _ _ lf).trans f0
 have hlow := hS3.low
 have hz3 := hW13.size
 have nx : ¬ (xbk = qb) := by omega
 have nd_ : ¬ (dbk = qb) := by omega
 have nf : ¬ (fb = qb) := by omega
 have HS3 := hide hS3
 have HB4 := hide hB4
 clear hS3 hB4
 have hm : ∀ i, (mk k (rvF t l F x i)).length = k := fun i => mk_len _ _
 go_upto_region 11 with fail
 go_cut [13] (fun s13 wx => s13 = .bool (!keepB t nn) ∧ ∃ v', RvSt W1 qb (upd vs 0 v') (upd (fun i => mk k (rvF t l F x i)) 0 (mk k (rvF t l F x 0) ++ [yn x k && yn F.down k])) wx)
 case first => (
 cases px : yn x k
 case false => (
 rw [px] at xcl
 have Px := hide px
 clear px
 refine wp_region_held_drew (S := fun w' => (w'.cell? ⟨xbk, xof + k, none⟩ = some (.bool false) ∧ w'.cell? ⟨fb, 0, none⟩ = some (.slice (some ⟨dbk, dof, none⟩) l.length c0) ∧ w'.cell? ⟨dbk, dof + k, none⟩ = some (.bool (yn F.down k)))) (by kernel_rfl) ?_ ?_
 · exact ⟨xcl, f0, dc⟩
 intro hH
 have hC0 : Below W3.heap.size W3 W3.drew := (Below.refl _ _).drew
 refine Up (fun _ _ _ _ _ => id) fun hP => ?_
 refine Vq 0 ?_ rfl (by kernel_rfl) hP (by rfl) ?r hH ?_; case r => intro w'; go_simp; try with_reducible rfl
 try simp only [Nm]
 refine Vq 2 ?_ rfl (by kernel_rfl) hP (by rfl) ?r hH ?_; case r => intro w'; go_simp; try with_reducible rfl
 try simp only [Nm]
 refine Vq 3 ?_ rfl (by kernel_rfl) hP (by rfl) ?r hH ?_; case r => intro w'; go_simp; try with_reducible rfl
 try simp only [Nm]
 refine Vq 4 ?_ rfl (by kernel_rfl) hP (by rfl) ?r hH ?_; case r => intro w'; go_simp; try with_reducible rfl
 try simp only [Nm]
 refine Vi 5 ?_ rfl (by kernel_rfl) hP (by rfl) ?r hH ?_; case r => intro w' h; (try dsimp only at h); (try go_split_ands); go_simp; try with_reducible rfl
 try simp only [Nm]
 refine Vq 6 ?_ rfl (by kernel_rfl) hP (by rfl) ?r hH ?_; case r => intro w'; go_simp; try with_reducible rfl
 try simp only [Nm]
 refine Vn 7 rfl (by kernel_rfl) hP (by rfl) hH ?_
 try simp only [Nm]
 refine Vn 8 rfl (by kernel_rfl) hP (by rfl) hH ?_
 try simp only [Nm]
 refine Vn 9 rfl (by kernel_rfl) hP (by rfl) hH ?_
 try simp only [Nm]
 refine Vn 10 rfl (by kernel_rfl) hP (by rfl) hH ?_
 try simp only [Nm]
 refine Vn 11 rfl (by kernel_rfl) hP (by rfl) hH ?_
 try simp only [Nm]
 refine Vq 12 ?_ rfl (by kernel_rfl) hP (by rfl) ?r hH ?_; case r => intro w'; go_simp; try with_reducible rfl
 try simp only [Nm]
 refine wpAnyH_ready (rs := [1, 13]) (by kernel_rfl) (by simp) ?_
 refine AllReadyH.cons rfl (fun K hK => ?_) (AllReadyH.cons rfl (fun K hK => ?_) AllReadyH.nil)
 · (
 have HK1 := hide hK
 clear hK
 have hx := (HS3.out.q.below hC0 HS3.out.q.lt).cell 2
 simp only [Yl] at hx
 go_simp
 clear hx hH
 refine Shut.out HK1.out _ _ ⟨((bcell hC0).1 _ _ (by omega)).trans xcl, ((bcell hC0).1 _ _ (by omega)).trans f0, ((bcell hC0).1 _ _ (by omega)).trans dc⟩ (fun hH => ?_)
 try simp only [Nm]
 clear HK1
 refine Rd 13 (by kernel_rfl) rfl (fun K hK => ?_)
 have HK13 := hide hK
 clear hK
 go_simp
 obtain ⟨V1, hV1⟩ : ∃ V : World, V = (W3.alloc (.cells #[.bool false] 4)).drew := ⟨_, rfl⟩
 rw [← hV1]
 have hC1 : Below W3.heap.size W3 V1 := by rw [hV1]; exact Below.drew ((Below.refl _ _).alloc (Nat.le_refl _) _)
 have hv1 : ValsAt V1 (some ⟨W3.heap.size, 0, none⟩) [.bool false] := by rw [hV1]; exact vals_one_drew _ _ _
 clear hH hV1
 refine Shut.out HK13.out _ _ ⟨((bcell hC1).1 _ _ (by omega)).trans xcl, ((bcell hC1).1 _ _ (by omega)).trans f0, ((bcell hC1).1 _ _ (by omega)).trans dc⟩ (fun hH => ?_)
 try simp only [Nm]
 clear HK13
 refine Rd 14 (by kernel_rfl) rfl (fun K hK => ?_)
 have HK14 := hide hK
 clear hK
 refine step_append_row (v := vs 0) (by rfl) _ _ _ (by rfl) ib _ 1 Try.underlying48 hbi hbz hbs hbb rfl (by rfl) ((HS3.out.tab.row (i := 0) (by omega)).below' hC1) (some ⟨_, 0, none⟩) 1 1 [.bool false] (by rfl) (by rfl) hv1 (by simp [Value.oneCell']) (by rw [bools_length, hm]; simp [maxLen]; omega) (by rw [bools_length, hm]; simp; omega) (by have := hC1.size; omega) ?_
 intro v9 w9 hr9 hg9 hat9
 obtain ⟨A9, c9, hv9, _, _⟩ := hr9.shape
 subst hv9
 simp only [List.length_append, List.length_singleton, bools_length, hm] at hr9 hat9 ⊢
 have hrow := HS3.out.tab.row (i := 0) (by omega)
 have hown : ∀ b, b < W1.heap.size → (vs 0).ownBlock ≠ some b := fun b hb e => by have := (hrow.lt b e).1; omega
 have hsz1 := hC1.size
 have x9 := (hg9.cell_far ⟨xbk, xof + k, none⟩ (by simp; omega) (fun e => hown _ (by omega) e.symm)).trans (((bcell hC1).1 _ _ (by omega)).trans xcl)
 have f9 := (hg9.cell_far ⟨fb, 0, none⟩ (by simp; omega) (fun e => hown _ lf e.symm)).trans (((bcell hC1).1 _ _ (by omega)).trans f0)
 have d9 := (hg9.cell_far ⟨dbk, dof + k, none⟩ (by simp; omega) (fun e => hown _ ld e.symm)).trans (((bcell hC1).1 _ _ (by omega)).trans dc)
 have hq9 := Blk.grown (HS3.out.q.below hC1 HS3.out.q.lt) hg9 (hrow.ne_blk HS3.out.q (by decide))
 have hP9 := HS3.out.put (i := 0) (by omega) hC1 hr9 hg9 hat9
 have HP9 := hide hP9
 clear hP9 hr9 hat9 hH hrow hown
 refine Shut.out HK14.out _ _ ⟨x9, f9, d9⟩ (fun hH => ?_)
 try simp only [Nm]
 clear HK14
 refine Vq 15 ?_ rfl (by kernel_rfl) hP (by rfl) ?r hH ?_; case r => intro w'; go_simp; try with_reducible rfl
 try simp only [Nm]
 refine Rd 16 (by kernel_rfl) rfl (fun K hK => ?_)
 have HK16 := hide hK
 clear hK
 have hx := hq9.cell 2
 have fx := hq9.frozen 2
 simp only [Yl] at hx
 go_simp
 refine Shut.out HK16.out _ _ ⟨(set1_cell nx _ _).trans x9, (set1_cell nf _ _).trans f9, (set1_cell nd_ _ _).trans d9⟩ (fun _ => ?_)
 try simp only [Nm]
 clear HK16
 refine wpAnyH_done (by kernel_rfl) ?_ _
 go_wp2_with fail
 go_meet
 go_tidy
 exact ⟨rfl, _, by rw [Px.out, Bool.false_and]; exact HP9.out⟩)
 · (
 have HK13 := hide hK
 clear hK
 go_simp
 obtain ⟨V1, hV1⟩ : ∃ V : World, V = (W3.alloc (.cells #[.bool false] 4)).drew := ⟨_, rfl⟩
 rw [← hV1]
 have hC1 : Below W3.heap.size W3 V1 := by rw [hV1]; exact Below.drew ((Below.refl _ _).alloc (Nat.le_refl _) _)
 have hv1 : ValsAt V1 (some ⟨W3.heap.size, 0, none⟩) [.bool false] := by rw [hV1]; exact vals_one_drew _ _ _
 clear hH hV1
 refine Shut.out HK13.out _ _ ⟨((bcell hC1).1 _ _ (by omega)).trans xcl, ((bcell hC1).1 _ _ (by omega)).trans f0, ((bcell hC1).1 _ _ (by omega)).trans dc⟩ (fun hH => ?_)
 try simp only [Nm]
 clear HK13
 refine Rd 1 (by kernel_rfl) rfl (fun K hK => ?_)
 have HK1 := hide hK
 clear hK
 have hx := (HS3.out.q.below hC1 HS3.out.q.lt).cell 2
 simp only [Yl] at hx
 go_simp
 clear hx hH
 refine Shut.out HK1.out _ _ ⟨((bcell hC1).1 _ _ (by omega)).trans xcl, ((bcell hC1).1 _ _ (by omega)).trans f0, ((bcell hC1).1 _ _ (by omega)).trans dc⟩ (fun hH => ?_)
 try simp only [Nm]
 clear HK1
 refine Rd 14 (by kernel_rfl) rfl (fun K hK => ?_)
 have HK14 := hide hK
 clear hK
 refine step_append_row (v := vs 0) (by rfl) _ _ _ (by rfl) ib _ 1 Try.underlying48 hbi hbz hbs hbb rfl (by rfl) ((HS3.out.tab.row (i := 0) (by omega)).below' hC1) (some ⟨_, 0, none⟩) 1 1 [.bool false] (by rfl) (by rfl) hv1 (by simp [Value.oneCell']) (by rw [bools_length, hm]; simp [maxLen]; omega) (by rw [bools_length, hm]; simp; omega) (by have := hC1.size; omega) ?_
 intro v9 w9 hr9 hg9 hat9
 obtain ⟨A9, c9, hv9, _, _⟩ := hr9.shape
 subst hv9
 simp only [List.length_append, List.length_singleton, bools_length, hm] at hr9 hat9 ⊢
 have hrow := HS3.out.tab.row (i := 0) (by omega)
 have hown : ∀ b, b < W1.heap.size → (vs 0).ownBlock ≠ some b := fun b hb e => by have := (hrow.lt b e).1; omega
 have hsz1 := hC1.size
 have x9 := (hg9.cell_far ⟨xbk, xof + k, none⟩ (by simp; omega) (fun e => hown _ (by omega) e.symm)).trans (((bcell hC1).1 _ _ (by omega)).trans xcl)
 have f9 := (hg9.cell_far ⟨fb, 0, none⟩ (by simp; omega) (fun e => hown _ lf e.symm)).trans (((bcell hC1).1 _ _ (by omega)).trans f0)
 have d9 := (hg9.cell_far ⟨dbk, dof + k, none⟩ (by simp; omega) (fun e => hown _ ld e.symm)).trans (((bcell hC1).1 _ _ (by omega)).trans dc)
 have hq9 := Blk.grown (HS3.out.q.below hC1 HS3.out.q.lt) hg9 (hrow.ne_blk HS3.out.q (by decide))
 have hP9 := HS3.out.put (i := 0) (by omega) hC1 hr9 hg9 hat9
 have HP9 := hide hP9
 clear hP9 hr9 hat9 hH hrow hown
 refine Shut.out HK14.out _ _ ⟨x9, f9, d9⟩ (fun hH => ?_)
 try simp only [Nm]
 clear HK14
 refine Vq 15 ?_ rfl (by kernel_rfl) hP (by rfl) ?r hH ?_; case r => intro w'; go_simp; try with_reducible rfl
 try simp only [Nm]
 refine Rd 16 (by kernel_rfl) rfl (fun K hK => ?_)
 have HK16 := hide hK
 clear hK
 have hx := hq9.cell 2
 have fx := hq9.frozen 2
 simp only [Yl] at hx
 go_simp
 refine Shut.out HK16.out _ _ ⟨(set1_cell nx _ _).trans x9, (set1_cell nf _ _).trans f9, (set1_cell nd_ _ _).trans d9⟩ (fun _ => ?_)
 try simp only [Nm]
 clear HK16
 refine wpAnyH_done (by kernel_rfl) ?_ _
 go_wp2_with fail
 go_meet
 go_tidy
 exact ⟨rfl, _, by rw [Px.out, Bool.false_and]; exact HP9.out⟩))
 case true => (
 rw [px] at xcl
 have Px := hide px
 clear px
 refine wp_region_held_drew (S := fun w' => (w'.cell? ⟨xbk, xof + k, none⟩ = some (.bool true) ∧ w'.cell? ⟨fb, 0, none⟩ = some (.slice (some ⟨dbk, dof, none⟩) l.length c0) ∧ w'.cell? ⟨dbk, dof + k, none⟩ = some (.bool (yn F.down k)))) (by kernel_rfl) ?_ ?_
 · exact ⟨xcl, f0, dc⟩
 intro hH
 have hC0 : Below W3.heap.size W3 W3.drew := (Below.refl _ _).drew
 refine Up (fun _ _ _ _ _ => id) fun hP => ?_
 refine Vq 0 ?_ rfl (by kernel_rfl) hP (by rfl) ?r hH ?_; case r => intro w'; go_simp; try with_reducible rfl
 try simp only [Nm]
 refine Vq 2 ?_ rfl (by kernel_rfl) hP (by rfl) ?r hH ?_; case r => intro w'; go_simp; try with_reducible rfl
 try simp only [Nm]
 refine Vq 3 ?_ rfl (by kernel_rfl) hP (by rfl) ?r hH ?_; case r => intro w'; go_simp; try with_reducible rfl
 try simp only [Nm]
 refine Vq 4 ?_ rfl (by kernel_rfl) hP (by rfl) ?r hH ?_; case r => intro w'; go_simp; try with_reducible rfl
 try simp only [Nm]
 refine Vi 5 ?_ rfl (by kernel_rfl) hP (by rfl) ?r hH ?_; case r => intro w' h; (try dsimp only at h); (try go_split_ands); go_simp; try with_reducible rfl
 try simp only [Nm]
 refine Vq 6 ?_ rfl (by kernel_rfl) hP (by rfl) ?r hH ?_; case r => intro w'; go_simp; try with_reducible rfl
 try simp only [Nm]
 refine Vq 7 ?_ rfl (by kernel_rfl) hP (by rfl) ?r hH ?_; case r => intro w'; go_simp; try with_reducible rfl
 try simp only [Nm]
 refine Vi 8 ?_ rfl (by kernel_rfl) hP (by rfl) ?r hH ?_; case r => intro w' h; (try dsimp only at h); (try go_split_ands); go_simp; try with_reducible rfl
 try simp only [Nm]
 refine Vq 9 ?_ rfl (by kernel_rfl) hP (by rfl) ?r hH ?_; case r => intro w'; go_simp; try with_reducible rfl
 try simp only [Nm]
 refine Vq 10 ?_ rfl (by kernel_rfl) hP (by rfl) ?r hH ?_; case r => intro w'; go_simp; try with_reducible rfl
 try simp only [Nm]
 refine Vi 11 ?_ rfl (by kernel_rfl) hP (by rfl) ?r hH ?_; case r => intro w' h; (try dsimp only at h); (try go_split_ands); go_simp; try with_reducible rfl
 try simp only [Nm]
 refine Vq 12 ?_ rfl (by kernel_rfl) hP (by rfl) ?r hH ?_; case r => intro w'; go_simp; try with_reducible rfl
 try simp only [Nm]
 refine wpAnyH_ready (rs := [1, 13]) (by kernel_rfl) (by simp) ?_
 refine AllReadyH.cons rfl (fun K hK => ?_) (AllReadyH.cons rfl (fun K hK => ?_) AllReadyH.nil)
 · (
 have HK1 := hide hK
 clear hK
 have hx := (HS3.out.q.below hC0 HS3.out.q.lt).cell 2
 simp only [Yl] at hx
 go_simp
 clear hx hH
 refine Shut.out HK1.out _ _ ⟨((bcell hC0).1 _ _ (by omega)).trans xcl, ((bcell hC0).1 _ _ (by omega)).trans f0, ((bcell hC0).1 _ _ (by omega)).trans dc⟩ (fun hH => ?_)
 try simp only [Nm]
 clear HK1
 refine Rd 13 (by kernel_rfl) rfl (fun K hK => ?_)
 have HK13 := hide hK
 clear hK
 go_simp
 obtain ⟨V1, hV1⟩ : ∃ V : World, V = (W3.alloc (.cells #[.bool (yn F.down k)] 4)).drew := ⟨_, rfl⟩
 rw [← hV1]
 have hC1 : Below W3.heap.size W3 V1 := by rw [hV1]; exact Below.drew ((Below.refl _ _).alloc (Nat.le_refl _) _)
 have hv1 : ValsAt V1 (some ⟨W3.heap.size, 0, none⟩) [.bool (yn F.down k)] := by rw [hV1]; exact vals_one_drew _ _ _
 clear hH hV1
 refine Shut.out HK13.out _ _ ⟨((bcell hC1).1 _ _ (by omega)).trans xcl, ((bcell hC1).1 _ _ (by omega)).trans f0, ((bcell hC1).1 _ _ (by omega)).trans dc⟩ (fun hH => ?_)
 try simp only [Nm]
 clear HK13
 refine Rd 14 (by kernel_rfl) rfl (fun K hK => ?_)
 have HK14 := hide hK
 clear hK
 refine step_append_row (v := vs 0) (by rfl) _ _ _ (by rfl) ib _ 1 Try.underlying48 hbi hbz hbs hbb rfl (by rfl) ((HS3.out.tab.row (i := 0) (by omega)).below' hC1) (some ⟨_, 0, none⟩) 1 1 [.bool (yn F.down k)] (by rfl) (by rfl) hv1 (by simp [Value.oneCell']) (by rw [bools_length, hm]; simp [maxLen]; omega) (by rw [bools_length, hm]; simp; omega) (by have := hC1.size; omega) ?_
 intro v9 w9 hr9 hg9 hat9
 obtain ⟨A9, c9, hv9, _, _⟩ := hr9.shape
 subst hv9
 simp only [List.length_append, List.length_singleton, bools_length, hm] at hr9 hat9 ⊢
 have hrow := HS3.out.tab.row (i := 0) (by omega)
 have hown : ∀ b, b < W1.heap.size → (vs 0).ownBlock ≠ some b := fun b hb e => by have := (hrow.lt b e).1; omega
 have hsz1 := hC1.size
 have x9 := (hg9.cell_far ⟨xbk, xof + k, none⟩ (by simp; omega) (fun e => hown _ (by omega) e.symm)).trans (((bcell hC1).1 _ _ (by omega)).trans xcl)
 have f9 := (hg9.cell_far ⟨fb, 0, none⟩ (by simp; omega) (fun e => hown _ lf e.symm)).trans (((bcell hC1).1 _ _ (by omega)).trans f0)
 have d9 := (hg9.cell_far ⟨dbk, dof + k, none⟩ (by simp; omega) (fun e => hown _ ld e.symm)).trans (((bcell hC1).1 _ _ (by omega)).trans dc)
 have hq9 := Blk.grown (HS3.out.q.below hC1 HS3.out.q.lt) hg9 (hrow.ne_blk HS3.out.q (by decide))
 have hP9 := HS3.out.put (i := 0) (by omega) hC1 hr9 hg9 hat9
 have HP9 := hide hP9
 clear hP9 hr9 hat9 hH hrow hown
 refine Shut.out HK14.out _ _ ⟨x9, f9, d9⟩ (fun hH => ?_)
 try simp only [Nm]
 clear HK14
 refine Vq 15 ?_ rfl (by kernel_rfl) hP (by rfl) ?r hH ?_; case r => intro w'; go_simp; try with_reducible rfl
 try simp only [Nm]
 refine Rd 16 (by kernel_rfl) rfl (fun K hK => ?_)
 have HK16 := hide hK
 clear hK
 have hx := hq9.cell 2
 have fx := hq9.frozen 2
 simp only [Yl] at hx
 go_simp
 refine Shut.out HK16.out _ _ ⟨(set1_cell nx _ _).trans x9, (set1_cell nf _ _).trans f9, (set1_cell nd_ _ _).trans d9⟩ (fun _ => ?_)
 try simp only [Nm]
 clear HK16
 refine wpAnyH_done (by kernel_rfl) ?_ _
 go_wp2_with fail
 go_meet
 go_tidy
 exact ⟨rfl, _, by rw [Px.out, Bool.true_and]; exact HP9.out⟩)
 · (
 have HK13 := hide hK
 clear hK
 go_simp
 obtain ⟨V1, hV1⟩ : ∃ V : World, V = (W3.alloc (.cells #[.bool (yn F.down k)] 4)).drew := ⟨_, rfl⟩
 rw [← hV1]
 have hC1 : Below W3.heap.size W3 V1 := by rw [hV1]; exact Below.drew ((Below.refl _ _).alloc (Nat.le_refl _) _)
 have hv1 : ValsAt V1 (some ⟨W3.heap.size, 0, none⟩) [.bool (yn F.down k)] := by rw [hV1]; exact vals_one_drew _ _ _
 clear hH hV1
 refine Shut.out HK13.out _ _ ⟨((bcell hC1).1 _ _ (by omega)).trans xcl, ((bcell hC1).1 _ _ (by omega)).trans f0, ((bcell hC1).1 _ _ (by omega)).trans dc⟩ (fun hH => ?_)
 try simp only [Nm]
 clear HK13
 refine Rd 1 (by kernel_rfl) rfl (fun K hK => ?_)
 have HK1 := hide hK
 clear hK
 have hx := (HS3.out.q.below hC1 HS3.out.q.lt).cell 2
 simp only [Yl] at hx
 go_simp
 clear hx hH
 refine Shut.out HK1.out _ _ ⟨((bcell hC1).1 _ _ (by omega)).trans xcl, ((bcell hC1).1 _ _ (by omega)).trans f0, ((bcell hC1).1 _ _ (by omega)).trans dc⟩ (fun hH => ?_)
 try simp only [Nm]
 clear HK1
 refine Rd 14 (by kernel_rfl) rfl (fun K hK => ?_)
 have HK14 := hide hK
 clear hK
 refine step_append_row (v := vs 0) (by rfl) _ _ _ (by rfl) ib _ 1 Try.underlying48 hbi hbz hbs hbb rfl (by rfl) ((HS3.out.tab.row (i := 0) (by omega)).below' hC1) (some ⟨_, 0, none⟩) 1 1 [.bool (yn F.down k)] (by rfl) (by rfl) hv1 (by simp [Value.oneCell']) (by rw [bools_length, hm]; simp [maxLen]; omega) (by rw [bools_length, hm]; simp; omega) (by have := hC1.size; omega) ?_
 intro v9 w9 hr9 hg9 hat9
 obtain ⟨A9, c9, hv9, _, _⟩ := hr9.shape
 subst hv9
 simp only [List.length_append, List.length_singleton, bools_length, hm] at hr9 hat9 ⊢
 have hrow := HS3.out.tab.row (i := 0) (by omega)
 have hown : ∀ b, b < W1.heap.size → (vs 0).ownBlock ≠ some b := fun b hb e => by have := (hrow.lt b e).1; omega
 have hsz1 := hC1.size
 have x9 := (hg9.cell_far ⟨xbk, xof + k, none⟩ (by simp; omega) (fun e => hown _ (by omega) e.symm)).trans (((bcell hC1).1 _ _ (by omega)).trans xcl)
 have f9 := (hg9.cell_far ⟨fb, 0, none⟩ (by simp; omega) (fun e => hown _ lf e.symm)).trans (((bcell hC1).1 _ _ (by omega)).trans f0)
 have d9 := (hg9.cell_far ⟨dbk, dof + k, none⟩ (by simp; omega) (fun e => hown _ ld e.symm)).trans (((bcell hC1).1 _ _ (by omega)).trans dc)
 have hq9 := Blk.grown (HS3.out.q.below hC1 HS3.out.q.lt) hg9 (hrow.ne_blk HS3.out.q (by decide))
 have hP9 := HS3.out.put (i := 0) (by omega) hC1 hr9 hg9 hat9
 have HP9 := hide hP9
 clear hP9 hr9 hat9 hH hrow hown
 refine Shut.out HK14.out _ _ ⟨x9, f9, d9⟩ (fun hH => ?_)
 try simp only [Nm]
 clear HK14
 refine Vq 15 ?_ rfl (by kernel_rfl) hP (by rfl) ?r hH ?_; case r => intro w'; go_simp; try with_reducible rfl
 try simp only [Nm]
 refine Rd 16 (by kernel_rfl) rfl (fun K hK => ?_)
 have HK16 := hide hK
 clear hK
 have hx := hq9.cell 2
 have fx := hq9.frozen 2
 simp only [Yl] at hx
 go_simp
 refine Shut.out HK16.out _ _ ⟨(set1_cell nx _ _).trans x9, (set1_cell nf _ _).trans f9, (set1_cell nd_ _ _).trans d9⟩ (fun _ => ?_)
 try simp only [Nm]
 clear HK16
 refine wpAnyH_done (by kernel_rfl) ?_ _
 go_wp2_with fail
 go_meet
 go_tidy
 exact ⟨rfl, _, by rw [Px.out, Bool.true_and]; exact HP9.out⟩)))
 case rest => (
 obtain ⟨rfl, v0', hS4⟩ := hcut
 obtain ⟨W4, rfl⟩ : ∃ W4 : World, W4 = wc := ⟨_, rfl⟩
 have hW34 : True := trivial
 have Hkk := hide (show ∀ b, (upd (fun i => mk k (rvF t l F x i)) 0 (mk k (rvF t l F x 0) ++ [b])) = upd (fun i => mk k (rvF t l F x i)) 0 (mk k (rvF t l F x 0) ++ [b]) from fun _ => rfl)
 clear xcl f0 dc nx nd_ nf hW34 Hkk lx ld lf HS3 HB4
 obtain ⟨vs1, hvs1⟩ : ∃ v, v = upd vs 0 v0' := ⟨_, rfl⟩
 obtain ⟨xs1, hxs1⟩ : ∃ v, v = upd (fun i => mk k (rvF t l F x i)) 0 (mk k (rvF t l F x 0) ++ [yn x k && yn F.down k]) := ⟨_, rfl⟩
 rw [← hvs1, ← hxs1] at hS4
 have hl1 : ∀ i, i ≠ 0 → (xs1 i).length = k := fun i hi => by rw [hxs1, upd_other _ _ hi]; exact mk_len _ _
 have Hxs1 := hide hxs1
 clear hvs1 hxs1
 have HS4 := hide hS4
 clear hS4
 have hS4 := HS4.out
 have g1 := hS4.q.cell 3
 have lq := hS4.q.lt
 simp only [Yl] at g1
 have hle1 : (xs1 1).length = k := hl1 1 (by omega)
 clear hS4
 go_upto_region 13 with (at_builtin; refine wpList_append_row (v := vs1 1) rfl _ _ _ rfl ib _ 1 Try.underlying48 hbi hbz hbs hbb rfl rfl ((HS4.out.tab.row (i := 1) (by omega)).alloc _) (some ⟨_, 0, none⟩) 1 1 [.bool (true)] rfl rfl (vals_one _ _ _) (by simp [Value.oneCell']) (by rw [bools_length, hle1]; simp [maxLen]; omega) (by rw [bools_length, hle1]; simp; omega) (by have := HS4.out.below.size; simp <;> omega) ?_; intro v9 w9 hr9 hg9 hat9; obtain ⟨A9, c9, hv9, _, _⟩ := hr9.shape; subst hv9; have hq9 := Blk.grown (HS4.out.q.alloc _) hg9 ((HS4.out.tab.row (i := 1) (by omega)).ne_blk HS4.out.q (by decide)); have z2 := hq9.cell 3; have z3 := hq9.frozen 3; have hP9 := HS4.out.put (i := 1) (by omega) ((Below.refl _ _).alloc (Nat.le_refl _) _) hr9 hg9 hat9; simp only [List.length_append, List.length_singleton, bools_length, hle1] at hr9 hat9 hP9 ⊢; have HP9 := hide hP9; simp only [Yl] at z2; clear hP9 hr9 hat9 hg9)
 obtain ⟨W5, hW5⟩ : ∃ W : World, W = w9.setCell ⟨qb, 3, none⟩ (.slice A9 (k + 1) c9) := ⟨_, rfl⟩
 rw [← hW5]
 obtain ⟨vs2, hvs⟩ : ∃ v, v = upd vs1 1 (.slice A9 (k + 1) c9) := ⟨_, rfl⟩
 obtain ⟨xs2, hxs2⟩ : ∃ v, v = upd xs1 1 (xs1 1 ++ [true]) := ⟨_, rfl⟩
 have hS5 : RvSt W1 qb vs2 xs2 W5 := by rw [hW5, hvs, hxs2]; exact HP9.out
 have hl2 : ∀ i, i ≠ 0 ∧ i ≠ 1 → (xs2 i).length = k := fun i hi => by rw [hxs2, upd_other _ _ (by omega)]; exact hl1 i (by omega)
 have Hxs2 := hide hxs2
 have HS5 := hide hS5
 clear hS5 hvs hxs2 hW5 HP9 hq9 z2 z3 g1 lq HS4
 have hS5 := HS5.out
 have g2 := hS5.q.cell 4
 have lq := hS5.q.lt
 simp only [Yl] at g2
 have hle2 : (xs2 2).length = k := hl2 2 (by omega)
 clear hS5
 go_upto_region 14 with (at_builtin; refine wpList_append_row (v := vs2 2) rfl _ _ _ rfl ib _ 1 Try.underlying48 hbi hbz hbs hbb rfl rfl ((HS5.out.tab.row (i := 2) (by omega)).alloc _) (some ⟨_, 0, none⟩) 1 1 [.bool (false)] rfl rfl (vals_one _ _ _) (by simp [Value.oneCell']) (by rw [bools_length, hle2]; simp [maxLen]; omega) (by rw [bools_length, hle2]; simp; omega) (by have := HS5.out.below.size; simp <;> omega) ?_; intro v9 w9 hr9 hg9 hat9; obtain ⟨A9, c9, hv9, _, _⟩ := hr9.shape; subst hv9; have hq9 := Blk.grown (HS5.out.q.alloc _) hg9 ((HS5.out.tab.row (i := 2) (by omega)).ne_blk HS5.out.q (by decide)); have z2 := hq9.cell 4; have z3 := hq9.frozen 4; have hP9 := HS5.out.put (i := 2) (by omega) ((Below.refl _ _).alloc (Nat.le_refl _) _) hr9 hg9 hat9; simp only [List.length_append, List.length_singleton, bools_length, hle2] at hr9 hat9 hP9 ⊢; have HP9 := hide hP9; simp only [Yl] at z2; clear hP9 hr9 hat9 hg9)
 obtain ⟨W6, hW6⟩ : ∃ W : World, W = w9.setCell ⟨qb, 4, none⟩ (.slice A9 (k + 1) c9) := ⟨_, rfl⟩
 rw [← hW6]
 obtain ⟨vs3, hvs⟩ : ∃ v, v = upd vs2 2 (.slice A9 (k + 1) c9) := ⟨_, rfl⟩
 obtain ⟨xs3, hxs3⟩ : ∃ v, v = upd xs2 2 (xs2 2 ++ [false]) := ⟨_, rfl⟩
 have hS6 : RvSt W1 qb vs3 xs3 W6 := by rw [hW6, hvs, hxs3]; exact HP9.out
 have hl3 : ∀ i, i ≠ 0 ∧ i ≠ 1 ∧ i ≠ 2 → (xs3 i).length = k := fun i hi => by rw [hxs3, upd_other _ _ (by omega)]; exact hl2 i (by omega)
 have Hxs3 := hide hxs3
 have HS6 := hide hS6
 clear hS6 hvs hxs3 hW6 HP9 hq9 z2 z3 g2 lq HS5
 have hS6 := HS6.out
 have g3 := hS6.q.cell 5
 have lq := hS6.q.lt
 simp only [Yl] at g3
 have hle3 : (xs3 3).length = k := hl3 3 (by omega)
 clear hS6
 go_wp2_with (at_builtin; refine wpList_append_row (v := vs3 3) rfl _ _ _ rfl ib _ 1 Try.underlying48 hbi hbz hbs hbb rfl rfl ((HS6.out.tab.row (i := 3) (by omega)).alloc _) (some ⟨_, 0, none⟩) 1 1 [.bool (keepB t nn)] rfl rfl (vals_one _ _ _) (by simp [Value.oneCell']) (by rw [bools_length, hle3]; simp [maxLen]; omega) (by rw [bools_length, hle3]; simp; omega) (by have := HS6.out.below.size; simp <;> omega) ?_; intro v9 w9 hr9 hg9 hat9; obtain ⟨A9, c9, hv9, _, _⟩ := hr9.shape; subst hv9; have hq9 := Blk.grown (HS6.out.q.alloc _) hg9 ((HS6.out.tab.row (i := 3) (by omega)).ne_blk HS6.out.q (by decide)); have z2 := hq9.cell 5; have z3 := hq9.frozen 5; have hP9 := HS6.out.put (i := 3) (by omega) ((Below.refl _ _).alloc (Nat.le_refl _) _) hr9 hg9 hat9; simp only [List.length_append, List.length_singleton, bools_length, hle3] at hr9 hat9 hP9 ⊢; have HP9 := hide hP9; simp only [Yl] at z2; clear hP9 hr9 hat9 hg9)
 go_roundg (l.length - (k + 1))
 case measure => have := Hgk.out; omega
 case rel => (
 refine ⟨k + 1, _, by omega, by go_num, rfl, HP9.out.congr fun i hi => ?_⟩
 have hi4 : i = 0 ∨ i = 1 ∨ i = 2 ∨ i = 3 := by omega
 rw [Hxs3.out, Hxs2.out, Hxs1.out]
 rcases hi4 with rfl | rfl | rfl | rfl <;> simp [upd, mk_succ, rvF, nd_get Hn.out]))))
 · (
 have hkk : k = l.length := by omega
 subst hkk
 have m0 : mk l.length (rvF t l F x 0) = rivG l F x := rfl
 have m1 : mk l.length (rvF t l F x 1) = notL (noL l.length) := ext_yn (by rw [mk_len, notL_len]; simp [noL]) fun i hi => by rw [mk_len] at hi; rw [yn_mk hi, yn_yes hi]; rfl
 have m2 : mk l.length (rvF t l F x 2) = noL l.length := ext_yn (by rw [mk_len]; simp [noL]) fun i hi => by rw [mk_len] at hi; rw [yn_mk hi, yn_no]; rfl
 have m3 : mk l.length (rvF t l F x 3) = keepL t l := rfl
 have g0 := hS.tab.row (i := 0) (by omega)
 obtain ⟨G0, d0, e0, _, _⟩ := g0.shape
 rw [bools_length, mk_len] at e0
 simp only [m0] at g0
 rw [e0] at g0
 have g1 := hS.tab.row (i := 1) (by omega)
 obtain ⟨G1, d1, e1, _, _⟩ := g1.shape
 rw [bools_length, mk_len] at e1
 simp only [m1] at g1
 rw [e1] at g1
 have g2 := hS.tab.row (i := 2) (by omega)
 obtain ⟨G2, d2, e2, _, _⟩ := g2.shape
 rw [bools_length, mk_len] at e2
 simp only [m2] at g2
 rw [e2] at g2
 have g3 := hS.tab.row (i := 3) (by omega)
 obtain ⟨G3, d3, e3, _, _⟩ := g3.shape
 rw [bools_length, mk_len] at e3
 simp only [m3] at g3
 rw [e3] at g3
 have hq := hS.q
 rw [e0, e1, e2, e3] at hq
 have hB3 := HB2.out.trans (hS.below.mono hz2)
 have hP3 := HP2.out.below hS.below HP2.out.lt
 have hz3 := hB3.size
 have s0 := hq.cell 0
 have s1 := hq.cell 1
 have s2 := hq.cell 2
 have s3 := hq.cell 3
 have s4 := hq.cell 4
 have s5 := hq.cell 5
 have lq := hq.lt
 have p0 := hP3.cell 0
 have p1 := hP3.cell 1
 have lp := hP3.lt
 simp only [Yl] at s0 s1 s2 s3 s4 s5 p0 p1
 have hlq := hS.low
 have hSv := hide (Solve_ok regs A l cap false false G0 G1 G2 G3 l.length l.length l.length l.length d0 d1 d2 d3 wr (HN.out _ hB3) hl (rivG l F x) (notL (noL l.length)) (noL l.length) (keepL t l) g0.vals g1.vals g2.vals g3.vals (mk_len _ _) (by rw [notL_len]; simp [noL]) (by simp [noL]) (keepL_len t l) (by unfold fchk; rw [if_neg (by rw [Hc0.out]; simp), if_pos (by simp [okLens])]))
 have hG0 := hide g0.vals
 have Hq := hide hq
 have HB3 := hide hB3
 have HbS := hide hS.below
 clear hS g0 g1 g2 g3 hq hB3 hP3 m0 m1 m2 m3 e0 e1 e2 e3 Hgk
 go_wp2_with fail
 refine (hSv.out).mono ?_
 rintro e w5 ⟨th, v5, hGr, rfl, hr5, hb5⟩
 obtain ⟨T5, t5, e5, _, _⟩ := hr5.shape
 have hth : th.length = l.length := hGr.1.1
 rw [bools_length, hth] at e5
 subst e5
 have HGr := hide hGr
 have hz5 := hb5.size
 clear hSv s0 s1 s2 s3 s4 s5 p0 p1 lp hGr
 go_upto_region 17 with fail
 obtain ⟨W5, hW5⟩ : ∃ W5 : World, W5 = w5.alloc (.cells #[.slice T5 l.length t5] 48) := ⟨_, rfl⟩
 have hBW : Below w5.heap.size w5 W5 := by rw [hW5]; exact (Below.refl _ _).alloc (Nat.le_refl _) _
 have hbt : Blk W5 w5.heap.size 48 #[.slice T5 l.length t5] := by rw [hW5]; exact Blk.new' rfl
 rw [← hW5]
 obtain ⟨tb, htb⟩ : ∃ b, b = w5.heap.size := ⟨_, rfl⟩
 rw [← htb] at hbt ⊢
 have hb := hb5.trans (hBW.mono hz5)
 have hB5 := HB3.out.trans (hb.mono hz3)
 have hbS5 := HbS.out.trans (hb.mono HbS.out.size)
 have hq5 := Hq.out.below hb Hq.out.lt
 have hG5 := hG0.out.below hb
 have hT5 := (hr5.below' hBW).vals
 have hP5 := HP2.out.below hbS5 HP2.out.lt
 have hTm5 := HT2.out.below hbS5 HT2.out.lt
 have hO5 := HO2.out.below hbS5 HO2.out.lt
 have hz6 := hB5.size
 have p0 := hP5.cell 0
 have p1 := hP5.cell 1
 have t0 := hTm5.cell 0
 have t1 := hTm5.cell 1
 have t2 := hTm5.cell 2
 simp only [tmA, Yl] at p0 p1 t0 t1 t2
 have lp := hP5.lt
 have lt_ := hTm5.lt
 have HPl := hide (places_any 48 49 #[.pointer (some ⟨qb, 0, none⟩)] #[.pointer (some ⟨tb, 0, none⟩)] (fun k => yn (rivG l F x) k) (fun k => yn th k) regs A l cap t W5 (HN.out _ hB5) (by omega) enter_Rival1 enter_Rival2 (fun k hk => rival1_says hq5 hG5 (mk_len _ _) hk) (fun k hk => rival2_says hbt hT5 hth hk))
 have HO5 := hide hO5
 have HB5 := hide hB5
 unfold tmA at HPl
 clear hb hB5 hbS5 hq5 hG5 hT5 hP5 hTm5 hO5 hbt hr5 hb5 hBW hW5 htb lq hlq
 go_wp2_with fail
 refine (HPl.out).mono ?_
 rintro e w7 ⟨x1, x2, rfl, q1, q2, qne, hb7⟩
 have hO7 := HO5.out.below hb7 HO5.out.lt
 have hz7 := hb7.size
 obtain ⟨D1, d1', e1, _, _⟩ := q1.shape
 obtain ⟨D2, d2', e2, _, _⟩ := q2.shape
 rw [bools_length, mk_len] at e1 e2
 subst e1 e2
 rw [show mk l.length (fun k => yn (rivG l F x) k) = rivG l F x from mk_yn (mk_len _ _)] at q1
 have o0 := hO7.cell 0
 have o1 := hO7.cell 1
 have f0 := hO7.frozen 0
 have f1 := hO7.frozen 1
 simp only [Yl] at o0 o1
 have lO7 := hO7.lt
 have hB7 := HB5.out.trans (hb7.mono hz6)
 have hne1 := q1.ne_blk hO7 (by decide)
 have hne2 := q2.ne_blk hO7 (by decide)
 have Q1 := hide ((q1.far (p := ⟨w.heap.size + 1 + 1, 0, none⟩) hne1 (.slice D1 l.length d1')).far (p := ⟨w.heap.size + 1 + 1, 1, none⟩) hne1 (.slice D2 l.length d2'))
 have Q2 := hide ((q2.far (p := ⟨w.heap.size + 1 + 1, 0, none⟩) hne2 (.slice D1 l.length d1')).far (p := ⟨w.heap.size + 1 + 1, 1, none⟩) hne2 (.slice D2 l.length d2'))
 have Qne := hide qne
 have HB7 := hide hB7
 clear q1 q2 qne hb7 hB7 HPl hne1 hne2 p0 p1 t0 t1 t2 hO7
 go_wp2_with fail
 go_tidy
 refine bodyPost_ret (v := .tuple #[.agg #[.slice D1 l.length d1', .slice D2 l.length d2'], .int .i64 0]) (by simp [results, Try.results23, go_sem, o0, o1, f0, f1, World.cell?_setCell_same, World.cell?_setCell_other]; try rfl) rfl ?_
 exact ⟨(HB7.out.setCell (by simp <;> omega) _).setCell (by simp <;> omega) _, .inr (.inr ⟨H0.out, Hx.out, F, th, _, _, HF.out, HGr.out, rfl, Q1.out.mono (by omega), Q2.out.mono (by omega), Qne.out⟩)⟩)))
set_option maxRecDepth 100000 in
theorem Rival_len (regs : Int) (A : Option Addr) (l : List Nd) (cap : Nat) (t : Tm) (X : Option Addr) (x : List Bool) (xc : Nat) (w : World) (hl : l.length ≤ maxLen) (hA : NodesAt w A l) (hX : ValsAt w X (bools x)) (h0 : fxE regs l t = 0) (hx : x.length ≠ l.length) :
 Calls Try.prog 23 #[.agg #[.int .i64 regs, .slice A l.length cap], .agg #[.int .i64 t.op, .int .i64 t.a, .int .i64 t.b], .slice X x.length xc] w (RvPost 4 regs l t x w) := by (
 obtain ⟨ib, hbi, hbz, hbs, hbb⟩ := info_parts infoBoolG
 have HFa := hide (fun W (hW : Below w.heap.size w W) => Facts_any regs A l cap t W hl (hA.below hW))
 have HN := hide (fun W (hW : Below w.heap.size w W) => hA.below hW)
 have HX := hide (fun W (hW : Below w.heap.size w W) => hX.below hW)
 have H0 := hide h0
 have hn64 : l.length ≤ 256 := fxE_hi h0
 have hc0 : chk regs l = 0 := by (
 by_cases hc : chk regs l = 0
 · exact hc
 · (
 unfold fxE at h0
 rw [if_pos hc] at h0
 exact h0))
 have Hc0 := hide hc0
 have Hx := hide hx
 have hne : ((x.length : Int) != (l.length : Int)) = true := by simp; omega
 clear hA hX h0 hx hc0
 go_enter Try.func23, Try.ntmps23
 go_wp2_with fail
 refine (HFa.out _ (by (with_reducible repeat first | apply Qa | assumption | apply Qb | apply Qc | apply Qd | apply Qe | refine Qf ?_ (by assumption) ?_); all_goals (try simp only [Sz]); first | done | omega | (try simp only [Sz] at *); omega)).mono ?_
 rintro e w1 ⟨hb1, h⟩
 obtain ⟨-, F, v0, v1, v2, v3, v4, v5, rfl, hF, r0, r1, r2, r3, r4, r5⟩ := h.resolve_left (fun h => h.1 H0.out)
 clear h
 obtain ⟨L0, L1, L2, L3, L4, L5⟩ := hF.len
 obtain ⟨A0, c0, e0, _, _⟩ := r0.shape
 rw [bools_length, L0] at e0
 subst e0
 obtain ⟨A1, c1, e1, _, _⟩ := r1.shape
 rw [bools_length, L1] at e1
 subst e1
 obtain ⟨A2, c2, e2, _, _⟩ := r2.shape
 rw [bools_length, L2] at e2
 subst e2
 obtain ⟨A3, c3, e3, _, _⟩ := r3.shape
 rw [bools_length, L3] at e3
 subst e3
 obtain ⟨A4, c4, e4, _, _⟩ := r4.shape
 rw [bools_length, L4] at e4
 subst e4
 obtain ⟨A5, c5, e5, _, _⟩ := r5.shape
 rw [bools_length, L5] at e5
 subst e5
 have hz1 := hb1.size
 simp only [World.size_alloc] at hz1
 have hB1 : Below w.heap.size w w1 := (by (with_reducible repeat first | apply Qa | assumption | apply Qb | apply Qc | apply Qd | apply Qe | refine Qf ?_ (by assumption) ?_); all_goals (try simp only [Sz]); first | done | omega | (try simp only [Sz] at *); omega)
 have hP1 : Blk w1 w.heap.size 24 #[.int .i64 regs, .slice A l.length cap] := Blk.below (by repeat (first | ((with_reducible refine Blk.new' ?_); exact (by (try simp only [Sz]); first | done | omega | (try simp only [Sz] at *); omega)) | (with_reducible refine Blk.alloc ?_ _))) hb1 (by simp <;> omega)
 have hT1 : Blk w1 (w.heap.size + 1) 42 (tmA t) := Blk.below (by unfold tmA; repeat (first | ((with_reducible refine Blk.new' ?_); exact (by (try simp only [Sz]); first | done | omega | (try simp only [Sz] at *); omega)) | (with_reducible refine Blk.alloc ?_ _))) hb1 (by simp <;> omega)
 have hO1 : Blk w1 (w.heap.size + 1 + 1) 50 #[.slice none 0 0, .slice none 0 0] := Blk.below (by repeat (first | ((with_reducible refine Blk.new' ?_); exact (by (try simp only [Sz]); first | done | omega | (try simp only [Sz] at *); omega)) | (with_reducible refine Blk.alloc ?_ _))) hb1 (by simp <;> omega)
 clear hb1
 go_upto_region 2 with fail
 obtain ⟨W1, hW1⟩ : ∃ W1 : World, W1 = w1.alloc (.cells #[.slice A0 l.length c0, .slice A1 l.length c1, .slice A2 l.length c2, .slice A3 l.length c3, .slice A4 l.length c4, .slice A5 l.length c5] 82) := ⟨_, rfl⟩
 have hBW : Below w1.heap.size w1 W1 := by rw [hW1]; exact (Below.refl _ _).alloc (Nat.le_refl _) _
 have hbx : Blk W1 w1.heap.size 82 #[.slice A0 l.length c0, .slice A1 l.length c1, .slice A2 l.length c2, .slice A3 l.length c3, .slice A4 l.length c4, .slice A5 l.length c5] := by rw [hW1]; exact Blk.new' rfl
 rw [← hW1]
 obtain ⟨fb, hfb⟩ : ∃ b, b = w1.heap.size := ⟨_, rfl⟩
 rw [← hfb] at hbx ⊢
 have hFx : FxBox 82 fb l.length A0 A1 A2 A3 A4 A5 c0 c1 c2 c3 c4 c5 F W1 := ⟨hbx, ⟨(r0.below' hBW).vals, L0⟩, ⟨(r2.below' hBW).vals, L2⟩, ⟨(r4.below' hBW).vals, L4⟩, ⟨(r5.below' hBW).vals, L5⟩⟩
 have hB2 := hB1.trans (hBW.mono (by omega))
 have hP2 := hP1.below hBW hP1.lt
 have hT2 := hT1.below hBW hT1.lt
 have hO2 := hO1.below hBW hO1.lt
 have p0 := hP2.cell 0
 have p1 := hP2.cell 1
 simp only [Yl] at p0 p1
 have lp := hP2.lt
 have hz2 := hB2.size
 have o0 := hO2.cell 0
 have o1 := hO2.cell 1
 have f0 := hO2.frozen 0
 have f1 := hO2.frozen 1
 simp only [Yl] at o0 o1
 have lO := hO2.lt
 have HB2 := hide hB2
 clear r0 r1 r2 r3 r4 r5 hF hbx hW1 hBW hP1 hT1 hO1 hB1 hfb L0 L1 L2 L3 L4 L5 hFx hB2 hT2 hP2 hO2
 go_wp2_with fail
 go_tidy
 refine bodyPost_ret (v := .tuple #[.agg #[.slice none 0 0, .slice none 0 0], .int .i64 1]) (by simp [results, Try.results23, go_sem, o0, o1, f0, f1, World.cell?_setCell_same, World.cell?_setCell_other]; try rfl) rfl ?_
 exact ⟨(HB2.out.setCell (by simp <;> omega) _).setCell (by simp <;> omega) _, .inr (.inl ⟨H0.out, Hx.out, rfl⟩)⟩)
theorem Rival_any (regs : Int) (A : Option Addr) (l : List Nd) (cap : Nat) (t : Tm) (X : Option Addr) (x : List Bool) (xc : Nat) (w : World) (hl : l.length ≤ maxLen) (hA : NodesAt w A l) (hX : ValsAt w X (bools x)) :
 Calls Try.prog 23 #[.agg #[.int .i64 regs, .slice A l.length cap], .agg #[.int .i64 t.op, .int .i64 t.a, .int .i64 t.b], .slice X x.length xc] w (RvPost 4 regs l t x w) := by (
 by_cases h0 : fxE regs l t = 0
 · (
 by_cases hx : x.length = l.length
 · exact Rival_ok regs A l cap t X x xc w hl hA hX h0 hx
 · exact Rival_len regs A l cap t X x xc w hl hA hX h0 hx)
 · exact Rival_err regs A l cap t X x xc w hl hA h0)
end
end Go.Proofs.Ytmghkonmfbpjcab
