/- MsV. -/
import Derived.Test.YtmghkonmfbpjcabGK
import Derived.Test.YtmghkonmfbpjcabGL
import Derived.Test.YtmghkonmfbpjcabMvX
import Derived.Test.YtmghkonmfbpjcabGJ
import Derived.Test.YtmghkonmfbpjcabOth
import Derived.Test.YtmghkonmfbpjcabGA
set_option linter.unusedVariables false
set_option linter.unusedSimpArgs false
namespace Go.Proofs.Ytmghkonmfbpjcab
section
open Go.RowKit
set_option maxHeartbeats 8000000
attribute [local irreducible] Row CRow madeCells NRow
set_option maxRecDepth 100000 in
theorem saves_err (regs : Int) (A : Option Addr) (l : List Nd) (cap : Nat) (t : Tm) (Ai : Option Addr) (inp : List Int) (ci : Nat) (fuel : Int) (w : World) (hA : NodesAt w A l) (hml : l.length ≤ maxLen) (h0 : oneE regs l t ≠ 0) :
 Calls Try.prog 4 #[.agg #[.int .i64 regs, .slice A l.length cap], .agg #[.int .i64 t.op, .int .i64 t.a, .int .i64 t.b], .slice Ai inp.length ci, .int .i64 fuel] w fun e w' => e = .returned (.bool true) ∧ Below w.heap.size w w' := by (
 have H0 := hide h0
 have hne : (oneE regs l t != 0) = true := by simpa using h0
 clear h0
 have HOn := hide (fun W (hW : Below w.heap.size w W) => One_any regs A l cap t W hml (hA.below hW))
 clear hA
 go_enter Try.func4, Try.ntmps4
 go_wp2_with fail
 refine (HOn.out _ (by (with_reducible repeat first | apply Qa | assumption | apply Qb | apply Qc | apply Qd | apply Qe | refine Qf ?_ (by assumption) ?_); all_goals (try simp only [Sz]); first | done | omega | (try simp only [Sz] at *); omega)).mono ?_
 rintro e w1 ⟨hb, h1⟩
 have hz1 := hb.size
 simp only [World.size_alloc] at hz1
 have hB : Below w.heap.size w w1 := (by (with_reducible repeat first | apply Qa | assumption | apply Qb | apply Qc | apply Qd | apply Qe | refine Qf ?_ (by assumption) ?_); all_goals (try simp only [Sz]); first | done | omega | (try simp only [Sz] at *); omega)
 have hp : Blk w1 (w.heap.size) 24 #[.int .i64 regs, .slice A l.length cap] := Blk.below (by skip; repeat (first | ((with_reducible refine Blk.new' ?_); exact (by (try simp only [Sz]); first | done | omega | (try simp only [Sz] at *); omega)) | (with_reducible refine Blk.alloc ?_ _))) hb (by simp <;> omega)
 have ht : Blk w1 (w.heap.size + 1) 42 (tmA t) := Blk.below (by unfold tmA; repeat (first | ((with_reducible refine Blk.new' ?_); exact (by (try simp only [Sz]); first | done | omega | (try simp only [Sz] at *); omega)) | (with_reducible refine Blk.alloc ?_ _))) hb (by simp <;> omega)
 clear hb hz1
 obtain ⟨-, rfl⟩ := h1.resolve_right (fun h => H0.out h.1)
 clear h1 H0
 generalize oneE regs l t = er at *
 clear hp ht
 go_wp2_with fail
 refine (moveBegun_any _).mono ?_
 rintro e w3 ⟨rfl, hb3⟩
 have hz3 := hb3.size
 go_wp2_with fail
 go_ret
 exact ⟨rfl, (hB.alloc hB.size _).trans (hb3.mono (by have := hB.size; simp; omega))⟩)
set_option maxRecDepth 100000 in
theorem saves_ok (regs : Int) (A : Option Addr) (l : List Nd) (cap : Nat) (t : Tm) (Ai : Option Addr) (inp : List Int) (ci : Nat) (fuel : Int) (w : World) (hA : NodesAt w A l) (hml : l.length ≤ maxLen) (hI : ValsAt w Ai (ints inp)) (hic : inp.length ≤ ci ∧ ci ≤ maxLen) (hf : i64ok fuel) (h0 : oneE regs l t = 0) :
 Calls Try.prog 4 #[.agg #[.int .i64 regs, .slice A l.length cap], .agg #[.int .i64 t.op, .int .i64 t.a, .int .i64 t.b], .slice Ai inp.length ci, .int .i64 fuel] w fun e w' => e = .returned (.bool true) ∧ Below w.heap.size w w' := by (
 have hR := right_of_chk (fxE_chk (oneE_parts h0).1)
 have hc := hR.chk
 have hRq := One.right h0
 have hcq := hRq.chk
 have HCh := fun V => hide (choose_any fuel 400 (by omega) (by omega) hf V)
 have hn := chV_in fuel (show (0 : Int) < 400 by omega)
 generalize chV fuel 400 = n at *
 obtain ⟨n', rfl⟩ : ∃ n' : Nat, n = n' := ⟨n.toNat, by omega⟩
 have hn4 : n' ≤ 400 := by omega
 have hS := saves_told (fewL inp) h0 n'
 have hfi : (fewL inp).length ≤ ci ∧ ci ≤ maxLen := ⟨by have : (fewL inp).length ≤ inp.length := (by unfold fewL; rw [List.length_take]; omega); omega, hic.2⟩
 have hfl := fewL_len inp
 have HF := fun V => hide (few_any Ai inp ci V hic)
 have HOn := (fun W (hW : Below w.heap.size w W) => (One_any regs A l cap t W hml (hA.below hW)).mono fun _ _ h => OnePost.ok h h0)
 clear h0
 generalize oneL regs l t = qL at *
 generalize oneR regs l t = qR at *
 have hqh := hRq.hi
 have hqm : qL.length ≤ maxLen := by unfold maxLen; omega
 obtain ⟨N, hN⟩ : ∃ N : Nat, N = n' * (qL.length + 1) := ⟨_, rfl⟩
 have hNN : N ≤ 131072 := by (
 have : n' * (qL.length + 1) ≤ 400 * 257 := Nat.mul_le_mul hn4 (by omega)
 omega)
 have e1 : IntKind.i64.wrap ((qL.length : Int) + 1) = (qL.length : Int) + 1 := by rw [IntKind.wrap_i64]; omega
 have e2 : IntKind.i64.wrap ((n' : Int) * ((qL.length : Int) + 1)) = (N : Int) := by (
 have : (n' : Int) * ((qL.length : Int) + 1) = ((n' * (qL.length + 1) : Nat) : Int) := by simp
 rw [this, ← hN, IntKind.wrap_i64]; omega)
 rw [← hN] at hS
 have HR1 := fun (V : World) (hV : Below w.heap.size w V) => hide (Run_got (cap := cap) (n := n') (w := V) hml (hA.below hV) ((hI.below hV).few) hfi hc hfl (by omega))
 have HR2 := hide (fun (V : World) B bc (hM : NodesAt V B qL) (hV : Below w.heap.size w V) => Run_got (regs := qR) (cap := bc) (n := N) (w := V) hqm hM ((hI.below hV).few) hfi hcq hfl hNN)
 generalize (runR regs l (fewL inp) n').told = R1 at *
 generalize (runR qR qL (fewL inp) N).told = R2 at *
 have HS := hide hS
 have HOn := hide HOn
 have E1 := hide e1
 have E2 := hide e2
 clear hA hI hR hc hRq hcq hn hn4 hS hfi hfl hf hN hNN e1 e2
 go_enter Try.func4, Try.ntmps4
 go_wp2_with fail
 refine (HOn.out _ (by (with_reducible repeat first | apply Qa | assumption | apply Qb | apply Qc | apply Qd | apply Qe | refine Qf ?_ (by assumption) ?_); all_goals (try simp only [Sz]); first | done | omega | (try simp only [Sz] at *); omega)).mono ?_
 rintro e w1 ⟨hb, v, rfl, hr⟩
 have hz1 := hb.size
 simp only [World.size_alloc] at hz1
 have hB : Below w.heap.size w w1 := (by (with_reducible repeat first | apply Qa | assumption | apply Qb | apply Qc | apply Qd | apply Qe | refine Qf ?_ (by assumption) ?_); all_goals (try simp only [Sz]); first | done | omega | (try simp only [Sz] at *); omega)
 have hp : Blk w1 (w.heap.size) 24 #[.int .i64 regs, .slice A l.length cap] := Blk.below (by skip; repeat (first | ((with_reducible refine Blk.new' ?_); exact (by (try simp only [Sz]); first | done | omega | (try simp only [Sz] at *); omega)) | (with_reducible refine Blk.alloc ?_ _))) hb (by simp <;> omega)
 have ht : Blk w1 (w.heap.size + 1) 42 (tmA t) := Blk.below (by unfold tmA; repeat (first | ((with_reducible refine Blk.new' ?_); exact (by (try simp only [Sz]); first | done | omega | (try simp only [Sz] at *); omega)) | (with_reducible refine Blk.alloc ?_ _))) hb (by simp <;> omega)
 clear hb hz1
 obtain ⟨qA, qc, qe, _, _⟩ := hr.shape
 subst qe
 have qq := hr
 clear hr
 have hT0 := ht.lt
 go_upto_region 2 with fail
 obtain ⟨W1, hW1⟩ : ∃ W : World, W = w1.alloc (.cells #[.int .i64 qR, .slice qA qL.length qc] 24) := ⟨_, rfl⟩
 have hb : Below w1.heap.size w1 W1 := by rw [hW1]; exact (Below.refl _ _).alloc (Nat.le_refl _) _
 have hq : Blk W1 w1.heap.size 24 #[.int .i64 qR, .slice qA qL.length qc] := by rw [hW1]; exact Blk.new' rfl
 rw [← hW1]
 replace hp := hp.below hb hp.lt
 replace ht := ht.below hb ht.lt
 replace qq := qq.below' hb
 replace hB := hB.trans (hb.mono hB.size)
 obtain ⟨gq, hgq⟩ : ∃ b, b = w1.heap.size := ⟨_, rfl⟩
 rw [← hgq] at hq ⊢
 clear hW1 hgq hb hT0
 have hz := hB.size
 go_wp2_with (go_at_call 11; refine ((HCh _).out).mono ?_; rintro e w0 ⟨rfl, hw0⟩; rw [hw0]; clear hw0 w0)
 have p0 := hp.cell 0
 have p1 := hp.cell 1
 simp only [tmA, Yl] at p0 p1
 have lp := hp.lt
 have HRa := fun (V : World) (hV : Below W1.heap.size W1 V) => HR1 V (hB.trans (hV.mono hz))
 go_cut [12, 13] (fun s1 s2 wy => ∃ (b : Nat) (O : Option Addr) (oc : Nat) (C : Option Addr) (cc : Nat), s1 = .pointer (some ⟨b, 0, none⟩) ∧ s2 = .int .i64 0 ∧ ResSt 3 75 33 W1 b O oc C cc R1 wy)
 case first => (
 refine wp_region_held_drew (S := fun w' => w'.cell? ⟨w.heap.size, 0, none⟩ = some (.int .i64 regs) ∧ w'.cell? ⟨w.heap.size, 1, none⟩ = some (.slice A l.length cap)) (by kernel_rfl) ⟨p0, p1⟩ ?_
 intro hH
 have hC0 : Below W1.heap.size W1 W1.drew := (Below.refl _ _).drew
 refine Up (fun _ _ _ _ _ => id) fun hP => ?_
 refine Vi 0 ?_ rfl (by kernel_rfl) hP (by rfl) ?r hH ?_; case r => intro w' h; (try dsimp only at h); (try go_split_ands); go_simp; try with_reducible rfl
 try simp only [Nm]
 refine Vq 1 ?_ rfl (by kernel_rfl) hP (by rfl) ?r hH ?_; case r => intro w'; go_simp; try with_reducible rfl
 try simp only [Nm]
 refine Vq 3 ?_ rfl (by kernel_rfl) hP (by rfl) ?r hH ?_; case r => intro w'; go_simp; try with_reducible rfl
 try simp only [Nm]
 refine wpAnyH_ready (rs := [2, 8]) (by kernel_rfl) (by simp) ?_
 refine AllReadyH.cons rfl (fun K hK => ?_) (AllReadyH.cons rfl (fun K hK => ?_) AllReadyH.nil)
 · (
 have HK2 := hide hK
 clear hK
 go_simp
 go_at_call 13
 refine ((HF _).out).mono ?_
 rintro e w0 ⟨rfl, rfl⟩
 refine Shut.out HK2.out _ _ hH (fun _ => ?_)
 try simp only [Nm]
 clear HK2
 refine wpAnyH_ready (rs := [4, 8]) (by kernel_rfl) (by simp) ?_
 refine AllReadyH.cons rfl (fun K hK => ?_) (AllReadyH.cons rfl (fun K hK => ?_) AllReadyH.nil)
 · (
 have HK4 := hide hK
 clear hK
 go_simp
 go_at_call 12
 refine ((HRa _ hC0).out).mono ?_
 rintro e w5 ⟨hc5, O5, oc5, C5, cc5, rfl, hO5⟩
 have hC5 : Below W1.heap.size W1 w5 := hC0.trans (hc5.mono hC0.size)
 clear hH
 have hH : w5.cell? ⟨w.heap.size, 0, none⟩ = some (.int .i64 regs) ∧ w5.cell? ⟨w.heap.size, 1, none⟩ = some (.slice A l.length cap) := ⟨((bcell hC5).1 _ _ lp).trans p0, ((bcell hC5).1 _ _ lp).trans p1⟩
 refine Shut.out HK4.out _ _ hH (fun _ => ?_)
 try simp only [Nm]
 clear HK4
 refine Vq 5 ?_ rfl (by kernel_rfl) hP (by rfl) ?r hH ?_; case r => intro w'; go_simp; try with_reducible rfl
 try simp only [Nm]
 refine Vq 6 ?_ rfl (by kernel_rfl) hP (by rfl) ?r hH ?_; case r => intro w'; go_simp; try with_reducible rfl
 try simp only [Nm]
 refine Vq 7 ?_ rfl (by kernel_rfl) hP (by rfl) ?r hH ?_; case r => intro w'; go_simp; try with_reducible rfl
 try simp only [Nm]
 refine Rd 8 (by kernel_rfl) rfl (fun K hK => ?_)
 have HK8 := hide hK
 clear hK
 go_simp
 obtain ⟨V6, hV6⟩ : ∃ V : World, V = (w5).alloc (.cells #[.slice none 0 0, .int .i64 0, .bool false, .int .i64 0, .slice none 0 0] 33) := ⟨_, rfl⟩
 rw [← hV6]
 have hC6 : Below W1.heap.size W1 V6 := by rw [hV6]; exact Below.alloc hC5 hC5.size _
 have hzV6 : Blk V6 (w5).heap.size 33 #[.slice none 0 0, .int .i64 0, .bool false, .int .i64 0, .slice none 0 0] := by rw [hV6]; exact Blk.new' rfl
 have hbV6 : Below (w5).heap.size (w5) V6 := by rw [hV6]; exact (Below.refl _ _).alloc (Nat.le_refl _) _
 clear hH hV6
 have hH : V6.cell? ⟨w.heap.size, 0, none⟩ = some (.int .i64 regs) ∧ V6.cell? ⟨w.heap.size, 1, none⟩ = some (.slice A l.length cap) := ⟨((bcell hC6).1 _ _ lp).trans p0, ((bcell hC6).1 _ _ lp).trans p1⟩
 refine Shut.out HK8.out _ _ hH (fun _ => ?_)
 try simp only [Nm]
 clear HK8
 have hQz := hzV6
 have rQ := (hO5.mono_ (B' := W1.heap.size) (by have := hC0.size; omega)).below hbV6
 have n2 := hO5.ne (g := w5.heap.size) (.inr (Nat.le_refl _))
 have hwb : W1.heap.size ≤ w5.heap.size := hC5.size
 have nwb : ¬ (w.heap.size = w5.heap.size) := by have := hC5.size; have := lp; omega
 have nwb' : ¬ (w5.heap.size = w.heap.size) := fun e => nwb e.symm
 have hfin := ResSt.mk5 (R := R1) hQz rQ n2 hC6 hwb
 obtain ⟨b, hb⟩ : ∃ b, b = w5.heap.size := ⟨_, rfl⟩
 rw [← hb] at hQz hfin nwb nwb' ⊢
 have Hfin := hide hfin
 clear hzV6 hb hbV6 rQ n2 hfin hO5
 refine Rd 9 (by kernel_rfl) rfl (fun K hK => ?_)
 have d0 := hQz.cell 0
 have d1 := hQz.cell 1
 have d2 := hQz.cell 2
 have d3 := hQz.cell 3
 have d4 := hQz.cell 4
 have f0 := hQz.frozen 0
 have f1 := hQz.frozen 1
 have f2 := hQz.frozen 2
 have f3 := hQz.frozen 3
 have f4 := hQz.frozen 4
 simp only [Yl] at d0 d1 d2 d3 d4
 have HK9 := hide hK
 clear hK
 go_simp
 refine Shut.out HK9.out _ _ ?_ (fun hH => ?_)
 · (
 (try dsimp only)
 refine And.intro ?_ ?_
 · rw [set5_cell nwb]; exact hH.1
 · rw [set5_cell nwb]; exact hH.2)
 try simp only [Nm]
 clear HK9
 refine Vq 10 ?_ rfl (by kernel_rfl) hP (by rfl) ?r hH ?_; case r => intro w'; go_simp; try with_reducible rfl
 try simp only [Nm]
 refine wpAnyH_done (by kernel_rfl) ?_ _
 go_wp2_with fail
 go_meet
 go_tidy
 exact ⟨b, O5, oc5, C5, cc5, rfl, rfl, Hfin.out⟩)
 · (
 have HK8 := hide hK
 clear hK
 go_simp
 obtain ⟨V6, hV6⟩ : ∃ V : World, V = (W1.alloc (.cells #[.slice none 0 0, .int .i64 0, .bool false, .int .i64 0, .slice none 0 0] 33)).drew := ⟨_, rfl⟩
 rw [← hV6]
 have hC6 : Below W1.heap.size W1 V6 := by rw [hV6]; exact Below.drew ((Below.refl _ _).alloc (Nat.le_refl _) _)
 have hzV6 : Blk V6 W1.heap.size 33 #[.slice none 0 0, .int .i64 0, .bool false, .int .i64 0, .slice none 0 0] := by rw [hV6]; exact (Blk.new' rfl).drew
 clear hH hV6
 have hH : V6.cell? ⟨w.heap.size, 0, none⟩ = some (.int .i64 regs) ∧ V6.cell? ⟨w.heap.size, 1, none⟩ = some (.slice A l.length cap) := ⟨((bcell hC6).1 _ _ lp).trans p0, ((bcell hC6).1 _ _ lp).trans p1⟩
 refine Shut.out HK8.out _ _ hH (fun _ => ?_)
 try simp only [Nm]
 clear HK8
 refine Rd 4 (by kernel_rfl) rfl (fun K hK => ?_)
 have HK4 := hide hK
 clear hK
 go_simp
 go_at_call 12
 refine ((HRa _ hC6).out).mono ?_
 rintro e w5 ⟨hc5, O5, oc5, C5, cc5, rfl, hO5⟩
 have hC5 : Below W1.heap.size W1 w5 := hC6.trans (hc5.mono hC6.size)
 clear hH
 have hH : w5.cell? ⟨w.heap.size, 0, none⟩ = some (.int .i64 regs) ∧ w5.cell? ⟨w.heap.size, 1, none⟩ = some (.slice A l.length cap) := ⟨((bcell hC5).1 _ _ lp).trans p0, ((bcell hC5).1 _ _ lp).trans p1⟩
 refine Shut.out HK4.out _ _ hH (fun _ => ?_)
 try simp only [Nm]
 clear HK4
 refine Vq 5 ?_ rfl (by kernel_rfl) hP (by rfl) ?r hH ?_; case r => intro w'; go_simp; try with_reducible rfl
 try simp only [Nm]
 refine Vq 6 ?_ rfl (by kernel_rfl) hP (by rfl) ?r hH ?_; case r => intro w'; go_simp; try with_reducible rfl
 try simp only [Nm]
 refine Vq 7 ?_ rfl (by kernel_rfl) hP (by rfl) ?r hH ?_; case r => intro w'; go_simp; try with_reducible rfl
 try simp only [Nm]
 have hQz := hzV6.below hc5 hzV6.lt
 have rQ := hO5.mono_ (B' := W1.heap.size) (by have := hC6.size; omega)
 have n2 := hO5.ne (g := W1.heap.size) (.inl hzV6.lt)
 have nwb : ¬ (w.heap.size = W1.heap.size) := by have := lp; omega
 have nwb' : ¬ (W1.heap.size = w.heap.size) := fun e => nwb e.symm
 have hfin := ResSt.mk5 (R := R1) hQz rQ n2 hC5 (Nat.le_refl _)
 obtain ⟨b, hb⟩ : ∃ b, b = W1.heap.size := ⟨_, rfl⟩
 have hQz : Blk w5 W1.heap.size 33 #[.slice none 0 0, .int .i64 0, .bool false, .int .i64 0, .slice none 0 0] := hQz
 rw [← hb] at hQz hfin nwb nwb'
 try rw [← hb]
 have Hfin := hide hfin
 clear hzV6 hb rQ n2 hfin hO5
 refine Rd 9 (by kernel_rfl) rfl (fun K hK => ?_)
 have d0 := hQz.cell 0
 have d1 := hQz.cell 1
 have d2 := hQz.cell 2
 have d3 := hQz.cell 3
 have d4 := hQz.cell 4
 have f0 := hQz.frozen 0
 have f1 := hQz.frozen 1
 have f2 := hQz.frozen 2
 have f3 := hQz.frozen 3
 have f4 := hQz.frozen 4
 simp only [Yl] at d0 d1 d2 d3 d4
 have HK9 := hide hK
 clear hK
 go_simp
 refine Shut.out HK9.out _ _ ?_ (fun hH => ?_)
 · (
 (try dsimp only)
 refine And.intro ?_ ?_
 · rw [set5_cell nwb]; exact hH.1
 · rw [set5_cell nwb]; exact hH.2)
 try simp only [Nm]
 clear HK9
 refine Vq 10 ?_ rfl (by kernel_rfl) hP (by rfl) ?r hH ?_; case r => intro w'; go_simp; try with_reducible rfl
 try simp only [Nm]
 refine wpAnyH_done (by kernel_rfl) ?_ _
 go_wp2_with fail
 go_meet
 go_tidy
 exact ⟨b, O5, oc5, C5, cc5, rfl, rfl, Hfin.out⟩))
 · (
 have HK8 := hide hK
 clear hK
 go_simp
 obtain ⟨V6, hV6⟩ : ∃ V : World, V = (W1.alloc (.cells #[.slice none 0 0, .int .i64 0, .bool false, .int .i64 0, .slice none 0 0] 33)).drew := ⟨_, rfl⟩
 rw [← hV6]
 have hC6 : Below W1.heap.size W1 V6 := by rw [hV6]; exact Below.drew ((Below.refl _ _).alloc (Nat.le_refl _) _)
 have hzV6 : Blk V6 W1.heap.size 33 #[.slice none 0 0, .int .i64 0, .bool false, .int .i64 0, .slice none 0 0] := by rw [hV6]; exact (Blk.new' rfl).drew
 clear hH hV6
 have hH : V6.cell? ⟨w.heap.size, 0, none⟩ = some (.int .i64 regs) ∧ V6.cell? ⟨w.heap.size, 1, none⟩ = some (.slice A l.length cap) := ⟨((bcell hC6).1 _ _ lp).trans p0, ((bcell hC6).1 _ _ lp).trans p1⟩
 refine Shut.out HK8.out _ _ hH (fun _ => ?_)
 try simp only [Nm]
 clear HK8
 refine Rd 2 (by kernel_rfl) rfl (fun K hK => ?_)
 have HK2 := hide hK
 clear hK
 go_simp
 go_at_call 13
 refine ((HF _).out).mono ?_
 rintro e w0 ⟨rfl, rfl⟩
 refine Shut.out HK2.out _ _ hH (fun _ => ?_)
 try simp only [Nm]
 clear HK2
 refine Rd 4 (by kernel_rfl) rfl (fun K hK => ?_)
 have HK4 := hide hK
 clear hK
 go_simp
 go_at_call 12
 refine ((HRa _ hC6).out).mono ?_
 rintro e w5 ⟨hc5, O5, oc5, C5, cc5, rfl, hO5⟩
 have hC5 : Below W1.heap.size W1 w5 := hC6.trans (hc5.mono hC6.size)
 clear hH
 have hH : w5.cell? ⟨w.heap.size, 0, none⟩ = some (.int .i64 regs) ∧ w5.cell? ⟨w.heap.size, 1, none⟩ = some (.slice A l.length cap) := ⟨((bcell hC5).1 _ _ lp).trans p0, ((bcell hC5).1 _ _ lp).trans p1⟩
 refine Shut.out HK4.out _ _ hH (fun _ => ?_)
 try simp only [Nm]
 clear HK4
 refine Vq 5 ?_ rfl (by kernel_rfl) hP (by rfl) ?r hH ?_; case r => intro w'; go_simp; try with_reducible rfl
 try simp only [Nm]
 refine Vq 6 ?_ rfl (by kernel_rfl) hP (by rfl) ?r hH ?_; case r => intro w'; go_simp; try with_reducible rfl
 try simp only [Nm]
 refine Vq 7 ?_ rfl (by kernel_rfl) hP (by rfl) ?r hH ?_; case r => intro w'; go_simp; try with_reducible rfl
 try simp only [Nm]
 have hQz := hzV6.below hc5 hzV6.lt
 have rQ := hO5.mono_ (B' := W1.heap.size) (by have := hC6.size; omega)
 have n2 := hO5.ne (g := W1.heap.size) (.inl hzV6.lt)
 have nwb : ¬ (w.heap.size = W1.heap.size) := by have := lp; omega
 have nwb' : ¬ (W1.heap.size = w.heap.size) := fun e => nwb e.symm
 have hfin := ResSt.mk5 (R := R1) hQz rQ n2 hC5 (Nat.le_refl _)
 obtain ⟨b, hb⟩ : ∃ b, b = W1.heap.size := ⟨_, rfl⟩
 have hQz : Blk w5 W1.heap.size 33 #[.slice none 0 0, .int .i64 0, .bool false, .int .i64 0, .slice none 0 0] := hQz
 rw [← hb] at hQz hfin nwb nwb'
 try rw [← hb]
 have Hfin := hide hfin
 clear hzV6 hb rQ n2 hfin hO5
 refine Rd 9 (by kernel_rfl) rfl (fun K hK => ?_)
 have d0 := hQz.cell 0
 have d1 := hQz.cell 1
 have d2 := hQz.cell 2
 have d3 := hQz.cell 3
 have d4 := hQz.cell 4
 have f0 := hQz.frozen 0
 have f1 := hQz.frozen 1
 have f2 := hQz.frozen 2
 have f3 := hQz.frozen 3
 have f4 := hQz.frozen 4
 simp only [Yl] at d0 d1 d2 d3 d4
 have HK9 := hide hK
 clear hK
 go_simp
 refine Shut.out HK9.out _ _ ?_ (fun hH => ?_)
 · (
 (try dsimp only)
 refine And.intro ?_ ?_
 · rw [set5_cell nwb]; exact hH.1
 · rw [set5_cell nwb]; exact hH.2)
 try simp only [Nm]
 clear HK9
 refine Vq 10 ?_ rfl (by kernel_rfl) hP (by rfl) ?r hH ?_; case r => intro w'; go_simp; try with_reducible rfl
 try simp only [Nm]
 refine wpAnyH_done (by kernel_rfl) ?_ _
 go_wp2_with fail
 go_meet
 go_tidy
 exact ⟨b, O5, oc5, C5, cc5, rfl, rfl, Hfin.out⟩))
 case rest => (
 obtain ⟨W2, rfl⟩ : ∃ W : World, W = wc := ⟨_, rfl⟩
 obtain ⟨ga, Oa, oca, Ca, cca, rfl, rfl, hS1⟩ := hcut
 have hb := hS1.below
 clear p0 p1 lp
 replace hp := hp.below hb hp.lt
 replace ht := ht.below hb ht.lt
 replace hq := hq.below hb hq.lt
 replace qq := qq.below' hb
 replace hB := hB.trans (hb.mono hB.size)
 clear hb hz HRa HR1
 have hz := hB.size
 have q0 := hq.cell 0
 have q1 := hq.cell 1
 simp only [tmA, Yl] at q0 q1
 have lq := hq.lt
 have HRb := fun (V : World) (hV : Below W2.heap.size W2 V) => hide (HR2.out V qA qc (qq.nodes.below hV) (hB.trans (hV.mono hz)))
 have HS1 := hide hS1
 clear hS1
 have e1 := E1.out
 have e2 := E2.out
 go_upto_region 6 with fail
 go_cut [14, 15] (fun s1 s2 wy => ∃ (b : Nat) (O : Option Addr) (oc : Nat) (C : Option Addr) (cc : Nat), s1 = .pointer (some ⟨b, 0, none⟩) ∧ s2 = .int .i64 0 ∧ ResSt 3 75 33 W2 b O oc C cc R2 wy)
 case first => (
 refine wp_region_held_drew (S := fun w' => w'.cell? ⟨gq, 0, none⟩ = some (.int .i64 qR) ∧ w'.cell? ⟨gq, 1, none⟩ = some (.slice qA qL.length qc)) (by kernel_rfl) ⟨q0, q1⟩ ?_
 intro hH
 have hC0 : Below W2.heap.size W2 W2.drew := (Below.refl _ _).drew
 refine Up (fun _ _ _ _ _ => id) fun hP => ?_
 refine Vi 0 ?_ rfl (by kernel_rfl) hP (by rfl) ?r hH ?_; case r => intro w' h; (try dsimp only at h); (try go_split_ands); go_simp; try with_reducible rfl
 try simp only [Nm]
 refine Vq 1 ?_ rfl (by kernel_rfl) hP (by rfl) ?r hH ?_; case r => intro w'; go_simp; try with_reducible rfl
 try simp only [Nm]
 refine Vq 3 ?_ rfl (by kernel_rfl) hP (by rfl) ?r hH ?_; case r => intro w'; go_simp; try with_reducible rfl
 try simp only [Nm]
 refine Vq 4 ?_ rfl (by kernel_rfl) hP (by rfl) ?r hH ?_; case r => intro w'; go_simp; try with_reducible rfl
 try simp only [Nm]
 refine Vi 5 ?_ rfl (by kernel_rfl) hP (by rfl) ?r hH ?_; case r => intro w' h; (try dsimp only at h); (try go_split_ands); go_simp; try with_reducible rfl
 try simp only [Nm]
 refine Vq 6 ?_ rfl (by kernel_rfl) hP (by rfl) ?r hH ?_; case r => intro w'; go_simp; try with_reducible rfl
 try simp only [Nm]
 refine Vq 7 ?_ rfl (by kernel_rfl) hP (by rfl) ?r hH ?_; case r => intro w'; go_simp; try with_reducible rfl
 try simp only [Nm]
 try simp only [e1]
 refine Vq 8 ?_ rfl (by kernel_rfl) hP (by rfl) ?r hH ?_; case r => intro w'; go_simp; try with_reducible rfl
 try simp only [Nm]
 try simp only [e2]
 refine wpAnyH_ready (rs := [2, 13]) (by kernel_rfl) (by simp) ?_
 refine AllReadyH.cons rfl (fun K hK => ?_) (AllReadyH.cons rfl (fun K hK => ?_) AllReadyH.nil)
 · (
 have HK2 := hide hK
 clear hK
 go_simp
 go_at_call 13
 refine ((HF _).out).mono ?_
 rintro e w0 ⟨rfl, rfl⟩
 refine Shut.out HK2.out _ _ hH (fun _ => ?_)
 try simp only [Nm]
 clear HK2
 refine wpAnyH_ready (rs := [9, 13]) (by kernel_rfl) (by simp) ?_
 refine AllReadyH.cons rfl (fun K hK => ?_) (AllReadyH.cons rfl (fun K hK => ?_) AllReadyH.nil)
 · (
 have HK9 := hide hK
 clear hK
 go_simp
 go_at_call 12
 refine ((HRb _ hC0).out).mono ?_
 rintro e w5 ⟨hc5, O5, oc5, C5, cc5, rfl, hO5⟩
 have hC5 : Below W2.heap.size W2 w5 := hC0.trans (hc5.mono hC0.size)
 clear hH
 have hH : w5.cell? ⟨gq, 0, none⟩ = some (.int .i64 qR) ∧ w5.cell? ⟨gq, 1, none⟩ = some (.slice qA qL.length qc) := ⟨((bcell hC5).1 _ _ lq).trans q0, ((bcell hC5).1 _ _ lq).trans q1⟩
 refine Shut.out HK9.out _ _ hH (fun _ => ?_)
 try simp only [Nm]
 clear HK9
 refine Vq 10 ?_ rfl (by kernel_rfl) hP (by rfl) ?r hH ?_; case r => intro w'; go_simp; try with_reducible rfl
 try simp only [Nm]
 refine Vq 11 ?_ rfl (by kernel_rfl) hP (by rfl) ?r hH ?_; case r => intro w'; go_simp; try with_reducible rfl
 try simp only [Nm]
 refine Vq 12 ?_ rfl (by kernel_rfl) hP (by rfl) ?r hH ?_; case r => intro w'; go_simp; try with_reducible rfl
 try simp only [Nm]
 refine Rd 13 (by kernel_rfl) rfl (fun K hK => ?_)
 have HK13 := hide hK
 clear hK
 go_simp
 obtain ⟨V6, hV6⟩ : ∃ V : World, V = (w5).alloc (.cells #[.slice none 0 0, .int .i64 0, .bool false, .int .i64 0, .slice none 0 0] 33) := ⟨_, rfl⟩
 rw [← hV6]
 have hC6 : Below W2.heap.size W2 V6 := by rw [hV6]; exact Below.alloc hC5 hC5.size _
 have hzV6 : Blk V6 (w5).heap.size 33 #[.slice none 0 0, .int .i64 0, .bool false, .int .i64 0, .slice none 0 0] := by rw [hV6]; exact Blk.new' rfl
 have hbV6 : Below (w5).heap.size (w5) V6 := by rw [hV6]; exact (Below.refl _ _).alloc (Nat.le_refl _) _
 clear hH hV6
 have hH : V6.cell? ⟨gq, 0, none⟩ = some (.int .i64 qR) ∧ V6.cell? ⟨gq, 1, none⟩ = some (.slice qA qL.length qc) := ⟨((bcell hC6).1 _ _ lq).trans q0, ((bcell hC6).1 _ _ lq).trans q1⟩
 refine Shut.out HK13.out _ _ hH (fun _ => ?_)
 try simp only [Nm]
 clear HK13
 have hQz := hzV6
 have rQ := (hO5.mono_ (B' := W2.heap.size) (by have := hC0.size; omega)).below hbV6
 have n2 := hO5.ne (g := w5.heap.size) (.inr (Nat.le_refl _))
 have hwb : W2.heap.size ≤ w5.heap.size := hC5.size
 have nwb : ¬ (gq = w5.heap.size) := by have := hC5.size; have := lq; omega
 have nwb' : ¬ (w5.heap.size = gq) := fun e => nwb e.symm
 have hfin := ResSt.mk5 (R := R2) hQz rQ n2 hC6 hwb
 obtain ⟨b, hb⟩ : ∃ b, b = w5.heap.size := ⟨_, rfl⟩
 rw [← hb] at hQz hfin nwb nwb' ⊢
 have Hfin := hide hfin
 clear hzV6 hb hbV6 rQ n2 hfin hO5
 refine Rd 14 (by kernel_rfl) rfl (fun K hK => ?_)
 have d0 := hQz.cell 0
 have d1 := hQz.cell 1
 have d2 := hQz.cell 2
 have d3 := hQz.cell 3
 have d4 := hQz.cell 4
 have f0 := hQz.frozen 0
 have f1 := hQz.frozen 1
 have f2 := hQz.frozen 2
 have f3 := hQz.frozen 3
 have f4 := hQz.frozen 4
 simp only [Yl] at d0 d1 d2 d3 d4
 have HK14 := hide hK
 clear hK
 go_simp
 refine Shut.out HK14.out _ _ ?_ (fun hH => ?_)
 · (
 (try dsimp only)
 refine And.intro ?_ ?_
 · rw [set5_cell nwb]; exact hH.1
 · rw [set5_cell nwb]; exact hH.2)
 try simp only [Nm]
 clear HK14
 refine Vq 15 ?_ rfl (by kernel_rfl) hP (by rfl) ?r hH ?_; case r => intro w'; go_simp; try with_reducible rfl
 try simp only [Nm]
 refine wpAnyH_done (by kernel_rfl) ?_ _
 go_wp2_with fail
 go_meet
 go_tidy
 exact ⟨b, O5, oc5, C5, cc5, rfl, rfl, Hfin.out⟩)
 · (
 have HK13 := hide hK
 clear hK
 go_simp
 obtain ⟨V6, hV6⟩ : ∃ V : World, V = (W2.alloc (.cells #[.slice none 0 0, .int .i64 0, .bool false, .int .i64 0, .slice none 0 0] 33)).drew := ⟨_, rfl⟩
 rw [← hV6]
 have hC6 : Below W2.heap.size W2 V6 := by rw [hV6]; exact Below.drew ((Below.refl _ _).alloc (Nat.le_refl _) _)
 have hzV6 : Blk V6 W2.heap.size 33 #[.slice none 0 0, .int .i64 0, .bool false, .int .i64 0, .slice none 0 0] := by rw [hV6]; exact (Blk.new' rfl).drew
 clear hH hV6
 have hH : V6.cell? ⟨gq, 0, none⟩ = some (.int .i64 qR) ∧ V6.cell? ⟨gq, 1, none⟩ = some (.slice qA qL.length qc) := ⟨((bcell hC6).1 _ _ lq).trans q0, ((bcell hC6).1 _ _ lq).trans q1⟩
 refine Shut.out HK13.out _ _ hH (fun _ => ?_)
 try simp only [Nm]
 clear HK13
 refine Rd 9 (by kernel_rfl) rfl (fun K hK => ?_)
 have HK9 := hide hK
 clear hK
 go_simp
 go_at_call 12
 refine ((HRb _ hC6).out).mono ?_
 rintro e w5 ⟨hc5, O5, oc5, C5, cc5, rfl, hO5⟩
 have hC5 : Below W2.heap.size W2 w5 := hC6.trans (hc5.mono hC6.size)
 clear hH
 have hH : w5.cell? ⟨gq, 0, none⟩ = some (.int .i64 qR) ∧ w5.cell? ⟨gq, 1, none⟩ = some (.slice qA qL.length qc) := ⟨((bcell hC5).1 _ _ lq).trans q0, ((bcell hC5).1 _ _ lq).trans q1⟩
 refine Shut.out HK9.out _ _ hH (fun _ => ?_)
 try simp only [Nm]
 clear HK9
 refine Vq 10 ?_ rfl (by kernel_rfl) hP (by rfl) ?r hH ?_; case r => intro w'; go_simp; try with_reducible rfl
 try simp only [Nm]
 refine Vq 11 ?_ rfl (by kernel_rfl) hP (by rfl) ?r hH ?_; case r => intro w'; go_simp; try with_reducible rfl
 try simp only [Nm]
 refine Vq 12 ?_ rfl (by kernel_rfl) hP (by rfl) ?r hH ?_; case r => intro w'; go_simp; try with_reducible rfl
 try simp only [Nm]
 have hQz := hzV6.below hc5 hzV6.lt
 have rQ := hO5.mono_ (B' := W2.heap.size) (by have := hC6.size; omega)
 have n2 := hO5.ne (g := W2.heap.size) (.inl hzV6.lt)
 have nwb : ¬ (gq = W2.heap.size) := by have := lq; omega
 have nwb' : ¬ (W2.heap.size = gq) := fun e => nwb e.symm
 have hfin := ResSt.mk5 (R := R2) hQz rQ n2 hC5 (Nat.le_refl _)
 obtain ⟨b, hb⟩ : ∃ b, b = W2.heap.size := ⟨_, rfl⟩
 have hQz : Blk w5 W2.heap.size 33 #[.slice none 0 0, .int .i64 0, .bool false, .int .i64 0, .slice none 0 0] := hQz
 rw [← hb] at hQz hfin nwb nwb'
 try rw [← hb]
 have Hfin := hide hfin
 clear hzV6 hb rQ n2 hfin hO5
 refine Rd 14 (by kernel_rfl) rfl (fun K hK => ?_)
 have d0 := hQz.cell 0
 have d1 := hQz.cell 1
 have d2 := hQz.cell 2
 have d3 := hQz.cell 3
 have d4 := hQz.cell 4
 have f0 := hQz.frozen 0
 have f1 := hQz.frozen 1
 have f2 := hQz.frozen 2
 have f3 := hQz.frozen 3
 have f4 := hQz.frozen 4
 simp only [Yl] at d0 d1 d2 d3 d4
 have HK14 := hide hK
 clear hK
 go_simp
 refine Shut.out HK14.out _ _ ?_ (fun hH => ?_)
 · (
 (try dsimp only)
 refine And.intro ?_ ?_
 · rw [set5_cell nwb]; exact hH.1
 · rw [set5_cell nwb]; exact hH.2)
 try simp only [Nm]
 clear HK14
 refine Vq 15 ?_ rfl (by kernel_rfl) hP (by rfl) ?r hH ?_; case r => intro w'; go_simp; try with_reducible rfl
 try simp only [Nm]
 refine wpAnyH_done (by kernel_rfl) ?_ _
 go_wp2_with fail
 go_meet
 go_tidy
 exact ⟨b, O5, oc5, C5, cc5, rfl, rfl, Hfin.out⟩))
 · (
 have HK13 := hide hK
 clear hK
 go_simp
 obtain ⟨V6, hV6⟩ : ∃ V : World, V = (W2.alloc (.cells #[.slice none 0 0, .int .i64 0, .bool false, .int .i64 0, .slice none 0 0] 33)).drew := ⟨_, rfl⟩
 rw [← hV6]
 have hC6 : Below W2.heap.size W2 V6 := by rw [hV6]; exact Below.drew ((Below.refl _ _).alloc (Nat.le_refl _) _)
 have hzV6 : Blk V6 W2.heap.size 33 #[.slice none 0 0, .int .i64 0, .bool false, .int .i64 0, .slice none 0 0] := by rw [hV6]; exact (Blk.new' rfl).drew
 clear hH hV6
 have hH : V6.cell? ⟨gq, 0, none⟩ = some (.int .i64 qR) ∧ V6.cell? ⟨gq, 1, none⟩ = some (.slice qA qL.length qc) := ⟨((bcell hC6).1 _ _ lq).trans q0, ((bcell hC6).1 _ _ lq).trans q1⟩
 refine Shut.out HK13.out _ _ hH (fun _ => ?_)
 try simp only [Nm]
 clear HK13
 refine Rd 2 (by kernel_rfl) rfl (fun K hK => ?_)
 have HK2 := hide hK
 clear hK
 go_simp
 go_at_call 13
 refine ((HF _).out).mono ?_
 rintro e w0 ⟨rfl, rfl⟩
 refine Shut.out HK2.out _ _ hH (fun _ => ?_)
 try simp only [Nm]
 clear HK2
 refine Rd 9 (by kernel_rfl) rfl (fun K hK => ?_)
 have HK9 := hide hK
 clear hK
 go_simp
 go_at_call 12
 refine ((HRb _ hC6).out).mono ?_
 rintro e w5 ⟨hc5, O5, oc5, C5, cc5, rfl, hO5⟩
 have hC5 : Below W2.heap.size W2 w5 := hC6.trans (hc5.mono hC6.size)
 clear hH
 have hH : w5.cell? ⟨gq, 0, none⟩ = some (.int .i64 qR) ∧ w5.cell? ⟨gq, 1, none⟩ = some (.slice qA qL.length qc) := ⟨((bcell hC5).1 _ _ lq).trans q0, ((bcell hC5).1 _ _ lq).trans q1⟩
 refine Shut.out HK9.out _ _ hH (fun _ => ?_)
 try simp only [Nm]
 clear HK9
 refine Vq 10 ?_ rfl (by kernel_rfl) hP (by rfl) ?r hH ?_; case r => intro w'; go_simp; try with_reducible rfl
 try simp only [Nm]
 refine Vq 11 ?_ rfl (by kernel_rfl) hP (by rfl) ?r hH ?_; case r => intro w'; go_simp; try with_reducible rfl
 try simp only [Nm]
 refine Vq 12 ?_ rfl (by kernel_rfl) hP (by rfl) ?r hH ?_; case r => intro w'; go_simp; try with_reducible rfl
 try simp only [Nm]
 have hQz := hzV6.below hc5 hzV6.lt
 have rQ := hO5.mono_ (B' := W2.heap.size) (by have := hC6.size; omega)
 have n2 := hO5.ne (g := W2.heap.size) (.inl hzV6.lt)
 have nwb : ¬ (gq = W2.heap.size) := by have := lq; omega
 have nwb' : ¬ (W2.heap.size = gq) := fun e => nwb e.symm
 have hfin := ResSt.mk5 (R := R2) hQz rQ n2 hC5 (Nat.le_refl _)
 obtain ⟨b, hb⟩ : ∃ b, b = W2.heap.size := ⟨_, rfl⟩
 have hQz : Blk w5 W2.heap.size 33 #[.slice none 0 0, .int .i64 0, .bool false, .int .i64 0, .slice none 0 0] := hQz
 rw [← hb] at hQz hfin nwb nwb'
 try rw [← hb]
 have Hfin := hide hfin
 clear hzV6 hb rQ n2 hfin hO5
 refine Rd 14 (by kernel_rfl) rfl (fun K hK => ?_)
 have d0 := hQz.cell 0
 have d1 := hQz.cell 1
 have d2 := hQz.cell 2
 have d3 := hQz.cell 3
 have d4 := hQz.cell 4
 have f0 := hQz.frozen 0
 have f1 := hQz.frozen 1
 have f2 := hQz.frozen 2
 have f3 := hQz.frozen 3
 have f4 := hQz.frozen 4
 simp only [Yl] at d0 d1 d2 d3 d4
 have HK14 := hide hK
 clear hK
 go_simp
 refine Shut.out HK14.out _ _ ?_ (fun hH => ?_)
 · (
 (try dsimp only)
 refine And.intro ?_ ?_
 · rw [set5_cell nwb]; exact hH.1
 · rw [set5_cell nwb]; exact hH.2)
 try simp only [Nm]
 clear HK14
 refine Vq 15 ?_ rfl (by kernel_rfl) hP (by rfl) ?r hH ?_; case r => intro w'; go_simp; try with_reducible rfl
 try simp only [Nm]
 refine wpAnyH_done (by kernel_rfl) ?_ _
 go_wp2_with fail
 go_meet
 go_tidy
 exact ⟨b, O5, oc5, C5, cc5, rfl, rfl, Hfin.out⟩))
 case rest => (
 obtain ⟨W3, rfl⟩ : ∃ W : World, W = wc := ⟨_, rfl⟩
 obtain ⟨gb, Ob, ocb, Cb, ccb, rfl, rfl, hS2⟩ := hcut
 have hb := hS2.below
 have hS1 := HS1.out.later hb
 clear q0 q1 lq
 replace hp := hp.below hb hp.lt
 replace ht := ht.below hb ht.lt
 replace hq := hq.below hb hq.lt
 replace qq := qq.below' hb
 replace hB := hB.trans (hb.mono hB.size)
 clear hb hz HRb HR2 HS1 e1 e2 E1 E2
 have hz := hB.size
 obtain ⟨_, la2⟩ := hS1.row.lens
 obtain ⟨_, lb2⟩ := hS2.row.lens
 have a0 := hS1.box.cell 0
 have a1 := hS1.box.cell 1
 have a2 := hS1.box.cell 2
 have a3 := hS1.box.cell 3
 have a4 := hS1.box.cell 4
 simp only [tmA, Yl] at a0 a1 a2 a3 a4
 have la := hS1.box.lt
 have b0 := hS2.box.cell 0
 have b1 := hS2.box.cell 1
 have b2 := hS2.box.cell 2
 have b3 := hS2.box.cell 3
 have b4 := hS2.box.cell 4
 simp only [tmA, Yl] at b0 b1 b2 b3 b4
 have lb := hS2.box.lt
 have t0 := ht.cell 0
 have t1 := ht.cell 1
 have t2 := ht.cell 2
 simp only [tmA, Yl] at t0 t1 t2
 have lt := ht.lt
 have HTa := fun (V : World) (hV : Below W3.heap.size W3 V) => hide (Times_any Oa R1.out.length oca R1.ret R1.ended (R1.steps : Int) Ca cca R1.cts t V (hS1.row.cts.nodes.below hV) la2)
 have HTb := fun (V : World) (hV : Below W3.heap.size W3 V) => hide (Times_any Ob R2.out.length ocb R2.ret R2.ended (R2.steps : Int) Cb ccb R2.cts t V (hS2.row.cts.nodes.below hV) lb2)
 cases hE : R1.ended
 case false => (
 rw [hE] at a2
 clear hE HTa HTb hS1 hS2
 go_wp2_with fail
 refine (moveBegun_any _).mono ?_
 rintro e w9 ⟨rfl, hb9⟩
 go_wp2_with fail
 go_ret
 exact ⟨rfl, hB.trans (hb9.mono hz)⟩)
 case true => (
 obtain ⟨s1, s2, s3, s4⟩ := HS.out hE
 have HOt := fun (V : World) (hV : Below W3.heap.size W3 V) => hide (others_any (O1 := Oa) (O2 := Ob) (on1 := R1.out.length) (oc1 := oca) (on2 := R2.out.length) (oc2 := ocb) (rt1 := R1.ret) (rt2 := R2.ret) (en1 := R1.ended) (en2 := R2.ended) (st1 := (R1.steps : Int)) (st2 := (R2.steps : Int)) (cc1 := cca) (cc2 := ccb) t V (hS1.row.cts.nodes.below hV) (hS2.row.cts.nodes.below hV) la2 lb2 s3 s4)
 rw [hE] at a2 HOt HTa
 rw [s1] at b2 HOt HTb
 have hle : decide (cntOf R2.cts t ≤ cntOf R1.cts t) = true := decide_eq_true s2
 clear hE s1 s2 s3 s4 hS1 hS2 HS
 go_upto_region 11 with fail
 refine wp_region_held_drew (S := fun w' => w'.cell? ⟨ga, 0, none⟩ = some (.slice Oa R1.out.length oca) ∧ w'.cell? ⟨ga, 1, none⟩ = some (.int .i64 R1.ret) ∧ w'.cell? ⟨ga, 2, none⟩ = some (.bool true) ∧ w'.cell? ⟨ga, 3, none⟩ = some (.int .i64 R1.steps) ∧ w'.cell? ⟨ga, 4, none⟩ = some (.slice Ca R1.cts.length cca) ∧ w'.cell? ⟨gb, 0, none⟩ = some (.slice Ob R2.out.length ocb) ∧ w'.cell? ⟨gb, 1, none⟩ = some (.int .i64 R2.ret) ∧ w'.cell? ⟨gb, 2, none⟩ = some (.bool true) ∧ w'.cell? ⟨gb, 3, none⟩ = some (.int .i64 R2.steps) ∧ w'.cell? ⟨gb, 4, none⟩ = some (.slice Cb R2.cts.length ccb) ∧ w'.cell? ⟨w.heap.size + 1, 0, none⟩ = some (.int .i64 t.op) ∧ w'.cell? ⟨w.heap.size + 1, 1, none⟩ = some (.int .i64 t.a) ∧ w'.cell? ⟨w.heap.size + 1, 2, none⟩ = some (.int .i64 t.b)) (by kernel_rfl) ⟨a0, a1, a2, a3, a4, b0, b1, b2, b3, b4, t0, t1, t2⟩ ?_
 intro hH
 have hC0 : Below W3.heap.size W3 W3.drew := (Below.refl _ _).drew
 refine Rd 0 (by kernel_rfl) rfl (fun K hK => ?_)
 have HK0 := hide hK
 clear hK
 go_simp
 go_at_call 18
 refine (moveBegun_any _).mono ?_
 rintro e V1 ⟨rfl, hbV1⟩
 have hC1 : Below W3.heap.size W3 V1 := hC0.trans (hbV1.mono hC0.size)
 clear hH
 have hH : V1.cell? ⟨ga, 0, none⟩ = some (.slice Oa R1.out.length oca) ∧ V1.cell? ⟨ga, 1, none⟩ = some (.int .i64 R1.ret) ∧ V1.cell? ⟨ga, 2, none⟩ = some (.bool true) ∧ V1.cell? ⟨ga, 3, none⟩ = some (.int .i64 R1.steps) ∧ V1.cell? ⟨ga, 4, none⟩ = some (.slice Ca R1.cts.length cca) ∧ V1.cell? ⟨gb, 0, none⟩ = some (.slice Ob R2.out.length ocb) ∧ V1.cell? ⟨gb, 1, none⟩ = some (.int .i64 R2.ret) ∧ V1.cell? ⟨gb, 2, none⟩ = some (.bool true) ∧ V1.cell? ⟨gb, 3, none⟩ = some (.int .i64 R2.steps) ∧ V1.cell? ⟨gb, 4, none⟩ = some (.slice Cb R2.cts.length ccb) ∧ V1.cell? ⟨w.heap.size + 1, 0, none⟩ = some (.int .i64 t.op) ∧ V1.cell? ⟨w.heap.size + 1, 1, none⟩ = some (.int .i64 t.a) ∧ V1.cell? ⟨w.heap.size + 1, 2, none⟩ = some (.int .i64 t.b) := ⟨((bcell hC1).1 _ _ la).trans a0, ((bcell hC1).1 _ _ la).trans a1, ((bcell hC1).1 _ _ la).trans a2, ((bcell hC1).1 _ _ la).trans a3, ((bcell hC1).1 _ _ la).trans a4, ((bcell hC1).1 _ _ lb).trans b0, ((bcell hC1).1 _ _ lb).trans b1, ((bcell hC1).1 _ _ lb).trans b2, ((bcell hC1).1 _ _ lb).trans b3, ((bcell hC1).1 _ _ lb).trans b4, ((bcell hC1).1 _ _ lt).trans t0, ((bcell hC1).1 _ _ lt).trans t1, ((bcell hC1).1 _ _ lt).trans t2⟩
 refine Shut.out HK0.out _ _ hH (fun _ => ?_)
 try simp only [Nm]
 clear HK0
 refine Up (fun _ _ _ _ _ => id) fun hP => ?_
 refine Vq 1 ?_ rfl (by kernel_rfl) hP (by rfl) ?r hH ?_; case r => intro w'; go_simp; try with_reducible rfl
 try simp only [Nm]
 refine Vq 2 ?_ rfl (by kernel_rfl) hP (by rfl) ?r hH ?_; case r => intro w'; go_simp; try with_reducible rfl
 try simp only [Nm]
 refine Vi 3 ?_ rfl (by kernel_rfl) hP (by rfl) ?r hH ?_; case r => intro w' h; (try dsimp only at h); (try go_split_ands); go_simp; try with_reducible rfl
 try simp only [Nm]
 refine Vq 4 ?_ rfl (by kernel_rfl) hP (by rfl) ?r hH ?_; case r => intro w'; go_simp; try with_reducible rfl
 try simp only [Nm]
 refine Vq 5 ?_ rfl (by kernel_rfl) hP (by rfl) ?r hH ?_; case r => intro w'; go_simp; try with_reducible rfl
 try simp only [Nm]
 refine Vi 6 ?_ rfl (by kernel_rfl) hP (by rfl) ?r hH ?_; case r => intro w' h; (try dsimp only at h); (try go_split_ands); go_simp; try with_reducible rfl
 try simp only [Nm]
 refine Vi 7 ?_ rfl (by kernel_rfl) hP (by rfl) ?r hH ?_; case r => intro w' h; (try dsimp only at h); (try go_split_ands); go_simp; try with_reducible rfl
 try simp only [Nm]
 refine Vi 9 ?_ rfl (by kernel_rfl) hP (by rfl) ?r hH ?_; case r => intro w' h; (try dsimp only at h); (try go_split_ands); go_simp; try with_reducible rfl
 try simp only [Nm]
 refine Vi 10 ?_ rfl (by kernel_rfl) hP (by rfl) ?r hH ?_; case r => intro w' h; (try dsimp only at h); (try go_split_ands); go_simp; try with_reducible rfl
 try simp only [Nm]
 refine Rd 8 (by kernel_rfl) rfl (fun K hK => ?_)
 have HK8 := hide hK
 clear hK
 go_simp
 go_at_call 19
 refine ((HTb _ hC1).out).mono ?_
 rintro e V2 ⟨rfl, hbV2⟩
 have hC2 : Below W3.heap.size W3 V2 := hC1.trans (hbV2.mono hC1.size)
 clear hH
 have hH : V2.cell? ⟨ga, 0, none⟩ = some (.slice Oa R1.out.length oca) ∧ V2.cell? ⟨ga, 1, none⟩ = some (.int .i64 R1.ret) ∧ V2.cell? ⟨ga, 2, none⟩ = some (.bool true) ∧ V2.cell? ⟨ga, 3, none⟩ = some (.int .i64 R1.steps) ∧ V2.cell? ⟨ga, 4, none⟩ = some (.slice Ca R1.cts.length cca) ∧ V2.cell? ⟨gb, 0, none⟩ = some (.slice Ob R2.out.length ocb) ∧ V2.cell? ⟨gb, 1, none⟩ = some (.int .i64 R2.ret) ∧ V2.cell? ⟨gb, 2, none⟩ = some (.bool true) ∧ V2.cell? ⟨gb, 3, none⟩ = some (.int .i64 R2.steps) ∧ V2.cell? ⟨gb, 4, none⟩ = some (.slice Cb R2.cts.length ccb) ∧ V2.cell? ⟨w.heap.size + 1, 0, none⟩ = some (.int .i64 t.op) ∧ V2.cell? ⟨w.heap.size + 1, 1, none⟩ = some (.int .i64 t.a) ∧ V2.cell? ⟨w.heap.size + 1, 2, none⟩ = some (.int .i64 t.b) := ⟨((bcell hC2).1 _ _ la).trans a0, ((bcell hC2).1 _ _ la).trans a1, ((bcell hC2).1 _ _ la).trans a2, ((bcell hC2).1 _ _ la).trans a3, ((bcell hC2).1 _ _ la).trans a4, ((bcell hC2).1 _ _ lb).trans b0, ((bcell hC2).1 _ _ lb).trans b1, ((bcell hC2).1 _ _ lb).trans b2, ((bcell hC2).1 _ _ lb).trans b3, ((bcell hC2).1 _ _ lb).trans b4, ((bcell hC2).1 _ _ lt).trans t0, ((bcell hC2).1 _ _ lt).trans t1, ((bcell hC2).1 _ _ lt).trans t2⟩
 refine Shut.out HK8.out _ _ hH (fun _ => ?_)
 try simp only [Nm]
 clear HK8
 refine Rd 11 (by kernel_rfl) rfl (fun K hK => ?_)
 have HK11 := hide hK
 clear hK
 go_simp
 go_at_call 19
 refine ((HTa _ hC2).out).mono ?_
 rintro e V3 ⟨rfl, hbV3⟩
 have hC3 : Below W3.heap.size W3 V3 := hC2.trans (hbV3.mono hC2.size)
 clear hH
 have hH : V3.cell? ⟨ga, 0, none⟩ = some (.slice Oa R1.out.length oca) ∧ V3.cell? ⟨ga, 1, none⟩ = some (.int .i64 R1.ret) ∧ V3.cell? ⟨ga, 2, none⟩ = some (.bool true) ∧ V3.cell? ⟨ga, 3, none⟩ = some (.int .i64 R1.steps) ∧ V3.cell? ⟨ga, 4, none⟩ = some (.slice Ca R1.cts.length cca) ∧ V3.cell? ⟨gb, 0, none⟩ = some (.slice Ob R2.out.length ocb) ∧ V3.cell? ⟨gb, 1, none⟩ = some (.int .i64 R2.ret) ∧ V3.cell? ⟨gb, 2, none⟩ = some (.bool true) ∧ V3.cell? ⟨gb, 3, none⟩ = some (.int .i64 R2.steps) ∧ V3.cell? ⟨gb, 4, none⟩ = some (.slice Cb R2.cts.length ccb) ∧ V3.cell? ⟨w.heap.size + 1, 0, none⟩ = some (.int .i64 t.op) ∧ V3.cell? ⟨w.heap.size + 1, 1, none⟩ = some (.int .i64 t.a) ∧ V3.cell? ⟨w.heap.size + 1, 2, none⟩ = some (.int .i64 t.b) := ⟨((bcell hC3).1 _ _ la).trans a0, ((bcell hC3).1 _ _ la).trans a1, ((bcell hC3).1 _ _ la).trans a2, ((bcell hC3).1 _ _ la).trans a3, ((bcell hC3).1 _ _ la).trans a4, ((bcell hC3).1 _ _ lb).trans b0, ((bcell hC3).1 _ _ lb).trans b1, ((bcell hC3).1 _ _ lb).trans b2, ((bcell hC3).1 _ _ lb).trans b3, ((bcell hC3).1 _ _ lb).trans b4, ((bcell hC3).1 _ _ lt).trans t0, ((bcell hC3).1 _ _ lt).trans t1, ((bcell hC3).1 _ _ lt).trans t2⟩
 refine Shut.out HK11.out _ _ hH (fun _ => ?_)
 try simp only [Nm]
 clear HK11
 refine Vq 12 ?_ rfl (by kernel_rfl) hP (by rfl) ?r hH ?_; case r => intro w'; go_simp; try with_reducible rfl
 try simp only [Nm]
 try simp only [hle]
 refine Vq 13 ?_ rfl (by kernel_rfl) hP (by rfl) ?r hH ?_; case r => intro w'; go_simp; try with_reducible rfl
 try simp only [Nm]
 refine Vq 14 ?_ rfl (by kernel_rfl) hP (by rfl) ?r hH ?_; case r => intro w'; go_simp; try with_reducible rfl
 try simp only [Nm]
 refine Vi 15 ?_ rfl (by kernel_rfl) hP (by rfl) ?r hH ?_; case r => intro w' h; (try dsimp only at h); (try go_split_ands); go_simp; try with_reducible rfl
 try simp only [Nm]
 refine Vi 16 ?_ rfl (by kernel_rfl) hP (by rfl) ?r hH ?_; case r => intro w' h; (try dsimp only at h); (try go_split_ands); go_simp; try with_reducible rfl
 try simp only [Nm]
 refine Vi 17 ?_ rfl (by kernel_rfl) hP (by rfl) ?r hH ?_; case r => intro w' h; (try dsimp only at h); (try go_split_ands); go_simp; try with_reducible rfl
 try simp only [Nm]
 refine Rd 18 (by kernel_rfl) rfl (fun K hK => ?_)
 have HK18 := hide hK
 clear hK
 go_simp
 go_at_call 20
 refine ((HOt _ hC3).out).mono ?_
 rintro e V4 ⟨rfl, hbV4⟩
 have hC4 : Below W3.heap.size W3 V4 := hC3.trans (hbV4.mono hC3.size)
 clear hH
 have hH : V4.cell? ⟨ga, 0, none⟩ = some (.slice Oa R1.out.length oca) ∧ V4.cell? ⟨ga, 1, none⟩ = some (.int .i64 R1.ret) ∧ V4.cell? ⟨ga, 2, none⟩ = some (.bool true) ∧ V4.cell? ⟨ga, 3, none⟩ = some (.int .i64 R1.steps) ∧ V4.cell? ⟨ga, 4, none⟩ = some (.slice Ca R1.cts.length cca) ∧ V4.cell? ⟨gb, 0, none⟩ = some (.slice Ob R2.out.length ocb) ∧ V4.cell? ⟨gb, 1, none⟩ = some (.int .i64 R2.ret) ∧ V4.cell? ⟨gb, 2, none⟩ = some (.bool true) ∧ V4.cell? ⟨gb, 3, none⟩ = some (.int .i64 R2.steps) ∧ V4.cell? ⟨gb, 4, none⟩ = some (.slice Cb R2.cts.length ccb) ∧ V4.cell? ⟨w.heap.size + 1, 0, none⟩ = some (.int .i64 t.op) ∧ V4.cell? ⟨w.heap.size + 1, 1, none⟩ = some (.int .i64 t.a) ∧ V4.cell? ⟨w.heap.size + 1, 2, none⟩ = some (.int .i64 t.b) := ⟨((bcell hC4).1 _ _ la).trans a0, ((bcell hC4).1 _ _ la).trans a1, ((bcell hC4).1 _ _ la).trans a2, ((bcell hC4).1 _ _ la).trans a3, ((bcell hC4).1 _ _ la).trans a4, ((bcell hC4).1 _ _ lb).trans b0, ((bcell hC4).1 _ _ lb).trans b1, ((bcell hC4).1 _ _ lb).trans b2, ((bcell hC4).1 _ _ lb).trans b3, ((bcell hC4).1 _ _ lb).trans b4, ((bcell hC4).1 _ _ lt).trans t0, ((bcell hC4).1 _ _ lt).trans t1, ((bcell hC4).1 _ _ lt).trans t2⟩
 refine Shut.out HK18.out _ _ hH (fun _ => ?_)
 try simp only [Nm]
 clear HK18
 refine Vq 19 ?_ rfl (by kernel_rfl) hP (by rfl) ?r hH ?_; case r => intro w'; go_simp; try with_reducible rfl
 try simp only [Nm]
 refine Vq 20 ?_ rfl (by kernel_rfl) hP (by rfl) ?r hH ?_; case r => intro w'; go_simp; try with_reducible rfl
 try simp only [Nm]
 refine wpAnyH_done (by kernel_rfl) ?_ _
 go_wp2_with fail
 go_ret
 exact ⟨rfl, hB.trans (hC4.mono hz)⟩))))
theorem MoveSaves_any (regs : Int) (A : Option Addr) (l : List Nd) (cap : Nat) (t : Tm) (Ai : Option Addr) (inp : List Int) (ci : Nat) (fuel : Int) (w : World) (hA : NodesAt w A l) (hml : l.length ≤ maxLen) (hI : ValsAt w Ai (ints inp)) (hic : inp.length ≤ ci ∧ ci ≤ maxLen) (hf : i64ok fuel) :
 Calls Try.prog 4 #[.agg #[.int .i64 regs, .slice A l.length cap], tmV t, .slice Ai inp.length ci, .int .i64 fuel] w fun e w' => e = .returned (.bool true) ∧ Below w.heap.size w w' := by (
 by_cases h0 : oneE regs l t = 0
 · exact saves_ok regs A l cap t Ai inp ci fuel w hA hml hI hic hf h0
 · exact saves_err regs A l cap t Ai inp ci fuel w hA hml h0)
end
end Go.Proofs.Ytmghkonmfbpjcab
