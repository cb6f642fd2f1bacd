/- MsS. -/
import Derived.Test.YtmghkonmfbpjcabGK
import Derived.Test.YtmghkonmfbpjcabMvX
import Derived.Test.YtmghkonmfbpjcabGA
set_option linter.unusedVariables false
set_option linter.unusedSimpArgs false
namespace Go.Proofs.Ytmghkonmfbpjcab
section
open Go.RowKit
set_option maxHeartbeats 8000000
attribute [local irreducible] Row CRow madeCells NRow
set_option maxRecDepth 100000 in
theorem sameLaw_any (regs : Int) (A : Option Addr) (l : List Nd) (cap : Nat) (t : Tm) (X : Option Addr) (x : List Bool) (xc : Nat) (Ai : Option Addr) (inp : List Int) (ci : Nat) (fuel : Int) (w : World) (hA : NodesAt w A l) (hml : l.length ≤ maxLen) (hX : ValsAt w X (bools x)) (hI : ValsAt w Ai (ints inp)) (hic : inp.length ≤ ci ∧ ci ≤ maxLen) (hf : i64ok fuel) :
 Calls Try.prog 7 #[.agg #[.int .i64 regs, .slice A l.length cap], .agg #[.int .i64 t.op, .int .i64 t.a, .int .i64 t.b], .slice X x.length xc, .slice Ai inp.length ci, .int .i64 fuel] w fun e w' => e = .returned (.bool true) ∧ Below w.heap.size w w' := by (
 have HOn := hide (fun W (hW : Below w.heap.size w W) => (One_any regs A l cap t W hml (hA.below hW)).mono fun _ _ h => OnePost.pg h)
 have HAl := hide (fun W (hW : Below w.heap.size w W) => (All_any regs A l cap W hml (hA.below hW)).mono fun _ _ h => AllPost.pg h)
 have HBu := hide (fun W (hW : Below w.heap.size w W) => (Busy_any regs A l cap t W hml (hA.below hW)).mono fun _ _ h => busy_pl h)
 have HRi := hide (fun W (hW : Below w.heap.size w W) => (Rival_any regs A l cap t X x xc W hml (hA.below hW) (hX.below hW)).mono fun _ _ h => rival_pl h)
 have HAp := hide (fun W (hW : Below w.heap.size w W) Xp Yp pt tk pc kc (hp : ValsAt W Xp (bools pt)) (hk : ValsAt W Yp (bools tk)) => (Apply_any regs A l cap t Xp Yp pt tk pc kc W hml (hA.below hW) hp hk).mono fun _ _ h => MaPost.pg h)
 have HCh := fun V => hide (choose_any fuel 400 (by omega) (by omega) hf V)
 have hn := chV_in fuel (show (0 : Int) < 400 by omega)
 generalize chV fuel 400 = n at *
 obtain ⟨n', rfl⟩ : ∃ n' : Nat, n = n' := ⟨n.toNat, by omega⟩
 have hn4 : n' ≤ 400 := by omega
 have hfi : (fewL inp).length ≤ ci ∧ ci ≤ maxLen := ⟨by have : (fewL inp).length ≤ inp.length := (by unfold fewL; rw [List.length_take]; omega); omega, hic.2⟩
 have hfl := fewL_len inp
 have HF := fun V => hide (few_any Ai inp ci V hic)
 have HDo := hide (fun (V : World) (hV : Below w.heap.size w V) (r : Int) (m : List Nd) (B : Option Addr) (mc : Nat) (hB : NodesAt V B m) (hD : DoesOk regs l r m (fewL inp) n') => does_any (cap := cap) (mcap := mc) hml hD.len (hA.below hV) hB ((hI.below hV).few) hfi hD.chkl hD.chkm hfl hn4 hD.does)
 clear hA hX hI hf hfi hn hn4 hfl
 go_enter Try.func7, Try.ntmps7
 go_wp2_with (go_at_call 11; refine ((HCh _).out).mono ?_; rintro e w0 ⟨rfl, hw0⟩; rw [hw0]; clear hw0 w0)
 refine (HOn.out _ (by (with_reducible repeat first | apply Qa | assumption | apply Qb | apply Qc | apply Qd | apply Qe | refine Qf ?_ (by assumption) ?_); all_goals (try simp only [Sz]); first | done | omega | (try simp only [Sz] at *); omega)).mono ?_
 rintro e w1 ⟨hb1, v, rfl, hr⟩
 have hz1 := hb1.size
 simp only [World.size_alloc] at hz1
 have hB : Below w.heap.size w w1 := (by (with_reducible repeat first | apply Qa | assumption | apply Qb | apply Qc | apply Qd | apply Qe | refine Qf ?_ (by assumption) ?_); all_goals (try simp only [Sz]); first | done | omega | (try simp only [Sz] at *); omega)
 have hP : Blk w1 w.heap.size 24 #[.int .i64 regs, .slice A l.length cap] := Blk.below (by repeat (first | ((with_reducible refine Blk.new' ?_); exact (by (try simp only [Sz]); first | done | omega | (try simp only [Sz] at *); omega)) | (with_reducible refine Blk.alloc ?_ _))) hb1 (by simp <;> omega)
 have hT : Blk w1 (w.heap.size + 1) 42 (tmA t) := Blk.below (by unfold tmA; repeat (first | ((with_reducible refine Blk.new' ?_); exact (by (try simp only [Sz]); first | done | omega | (try simp only [Sz] at *); omega)) | (with_reducible refine Blk.alloc ?_ _))) hb1 (by simp <;> omega)
 clear hb1 hz1
 have da := on_does (regs := regs) (l := l) (t := t) (fewL inp) n'
 generalize oneE regs l t = aE at *
 obtain ⟨aL, haL⟩ : ∃ z, z = onL regs l t := ⟨_, rfl⟩
 obtain ⟨aR, haR⟩ : ∃ z, z = onR regs l t := ⟨_, rfl⟩
 rw [← haL] at hr da
 rw [← haR] at da ⊢
 obtain ⟨aA, aa, ae, am, an⟩ := hr.shape
 subst ae
 have qa := hr
 have Da := hide da
 clear hr haL haR da am an
 have hT0 := hT.lt
 go_upto_region 3 with fail
 obtain ⟨W1, hW1⟩ : ∃ W : World, W = w1.alloc (.cells #[.int .i64 aR, .slice aA aL.length aa] 24) := ⟨_, rfl⟩
 have hbW1 : Below w1.heap.size w1 W1 := by rw [hW1]; exact (Below.refl _ _).alloc (Nat.le_refl _) _
 have hKa : Blk W1 w1.heap.size 24 #[.int .i64 aR, .slice aA aL.length aa] := by rw [hW1]; exact Blk.new' rfl
 rw [← hW1]
 replace hP := hP.below hbW1 hP.lt
 replace hT := hT.below hbW1 hT.lt
 replace qa := qa.below' hbW1
 replace hB := hB.trans (hbW1.mono hB.size)
 obtain ⟨ga, hga⟩ : ∃ b, b = w1.heap.size := ⟨_, rfl⟩
 rw [← hga] at hKa ⊢
 clear hW1 hga hbW1 hT0
 have p0 := hP.cell 0
 have p1 := hP.cell 1
 have t0 := hT.cell 0
 have t1 := hT.cell 1
 have t2 := hT.cell 2
 simp only [tmA, Yl] at p0 p1 t0 t1 t2
 have lp := hP.lt
 have lt' := hT.lt
 go_wp2_with fail
 refine (HAl.out _ hB).mono ?_
 rintro e w2 ⟨hbw2, v, rfl, hr⟩
 clear p0 p1 t0 t1 t2 lp lt'
 replace hP := hP.below hbw2 hP.lt
 replace hT := hT.below hbw2 hT.lt
 replace hKa := hKa.below hbw2 hKa.lt
 replace qa := qa.below' hbw2
 replace hB := hB.trans (hbw2.mono hB.size)
 clear hbw2
 have db := al_does (regs := regs) (l := l) (fewL inp) n'
 generalize allE regs l = bE at *
 obtain ⟨bL, hbL⟩ : ∃ z, z = alL regs l := ⟨_, rfl⟩
 obtain ⟨bR, hbR⟩ : ∃ z, z = alR regs l := ⟨_, rfl⟩
 rw [← hbL] at hr db
 rw [← hbR] at db ⊢
 obtain ⟨bA, ba, be, bm, bn⟩ := hr.shape
 subst be
 have qb := hr
 have Db := hide db
 clear hr hbL hbR db bm bn
 have hT0 := hT.lt
 go_upto_region 4 with fail
 obtain ⟨W2, hW2⟩ : ∃ W : World, W = w2.alloc (.cells #[.int .i64 bR, .slice bA bL.length ba] 24) := ⟨_, rfl⟩
 have hbW2 : Below w2.heap.size w2 W2 := by rw [hW2]; exact (Below.refl _ _).alloc (Nat.le_refl _) _
 have hKb : Blk W2 w2.heap.size 24 #[.int .i64 bR, .slice bA bL.length ba] := by rw [hW2]; exact Blk.new' rfl
 rw [← hW2]
 replace hP := hP.below hbW2 hP.lt
 replace hT := hT.below hbW2 hT.lt
 replace hKa := hKa.below hbW2 hKa.lt
 replace qa := qa.below' hbW2
 replace qb := qb.below' hbW2
 replace hB := hB.trans (hbW2.mono hB.size)
 obtain ⟨gb, hgb⟩ : ∃ b, b = w2.heap.size := ⟨_, rfl⟩
 rw [← hgb] at hKb ⊢
 clear hW2 hgb hbW2 hT0
 have a0 := hKa.cell 0
 have a1 := hKa.cell 1
 simp only [tmA, Yl] at a0 a1
 have la := hKa.lt
 have b0 := hKb.cell 0
 have b1 := hKb.cell 1
 simp only [tmA, Yl] at b0 b1
 have lb := hKb.lt
 have p0 := hP.cell 0
 have p1 := hP.cell 1
 simp only [tmA, Yl] at p0 p1
 have lp := hP.lt
 have hz := hB.size
 have HDoa := fun (h : aE = 0) (V : World) (hV : Below W2.heap.size W2 V) => hide (HDo.out V (hB.trans (hV.mono hz)) aR aL aA aa (qa.nodes.below hV) (Da.out h))
 have HDob := fun (h : bE = 0) (V : World) (hV : Below W2.heap.size W2 V) => hide (HDo.out V (hB.trans (hV.mono hz)) bR bL bA ba (qb.nodes.below hV) (Db.out h))
 go_cut [60] (fun s60 wy => s60 = .bool false ∧ Below W2.heap.size W2 wy)
 case first => (
 clear hP hT hKa hKb qa qb hB hz
 by_cases hza : aE = 0
 · (
 have hda : (aE == 0) = true := by simp [hza]
 replace HDoa := HDoa hza
 clear hza
 by_cases hzb : bE = 0
 · (
 have hdb : (bE == 0) = true := by simp [hzb]
 replace HDob := HDob hzb
 clear hzb
 refine wp_region_held_drew (S := fun w' => w'.cell? ⟨w.heap.size, 0, none⟩ = some (.int .i64 regs) ∧ w'.cell? ⟨w.heap.size, 1, none⟩ = some (.slice A l.length cap) ∧ w'.cell? ⟨ga, 0, none⟩ = some (.int .i64 aR) ∧ w'.cell? ⟨ga, 1, none⟩ = some (.slice aA aL.length aa) ∧ w'.cell? ⟨gb, 0, none⟩ = some (.int .i64 bR) ∧ w'.cell? ⟨gb, 1, none⟩ = some (.slice bA bL.length ba)) (by kernel_rfl) ⟨p0, p1, a0, a1, b0, b1⟩ ?_
 intro hH
 have hC0 : Below W2.heap.size W2 W2.drew := (Below.refl _ _).drew
 refine Up (fun _ _ _ _ _ => id) fun hP => ?_
 refine Vq 0 ?_ rfl (by kernel_rfl) hP (by rfl) ?r hH ?_; case r => intro w'; go_simp; try with_reducible rfl
 try simp only [Nm]
 refine Vq 1 ?_ rfl (by kernel_rfl) hP (by rfl) ?r hH ?_; case r => intro w'; go_simp; try with_reducible rfl
 try simp only [Nm]
 try simp only [hda]
 refine Vq 2 ?_ rfl (by kernel_rfl) hP (by rfl) ?r hH ?_; case r => intro w'; go_simp; try with_reducible rfl
 try simp only [Nm]
 refine Vi 3 ?_ rfl (by kernel_rfl) hP (by rfl) ?r hH ?_; case r => intro w' h; (try dsimp only at h); (try go_split_ands); go_simp; try with_reducible rfl
 try simp only [Nm]
 refine Vi 4 ?_ rfl (by kernel_rfl) hP (by rfl) ?r hH ?_; case r => intro w' h; (try dsimp only at h); (try go_split_ands); go_simp; try with_reducible rfl
 try simp only [Nm]
 refine Vq 5 ?_ rfl (by kernel_rfl) hP (by rfl) ?r hH ?_; case r => intro w'; go_simp; try with_reducible rfl
 try simp only [Nm]
 refine Vq 7 ?_ rfl (by kernel_rfl) hP (by rfl) ?r hH ?_; case r => intro w'; go_simp; try with_reducible rfl
 try simp only [Nm]
 refine Rd 6 (by kernel_rfl) rfl (fun K hK => ?_)
 have HK6 := hide hK
 clear hK
 go_simp
 go_at_call 13
 refine ((HF _).out).mono ?_
 rintro e w0 ⟨rfl, rfl⟩
 refine Shut.out HK6.out _ _ hH (fun _ => ?_)
 try simp only [Nm]
 clear HK6
 refine Rd 8 (by kernel_rfl) rfl (fun K hK => ?_)
 have HK8 := hide hK
 clear hK
 go_simp
 go_at_call 16
 refine ((HDoa _ hC0).out).mono ?_
 rintro e V1 ⟨rfl, hbV1⟩
 have hC1 : Below W2.heap.size W2 V1 := hC0.trans (hbV1.mono hC0.size)
 clear hH
 have hH : V1.cell? ⟨w.heap.size, 0, none⟩ = some (.int .i64 regs) ∧ V1.cell? ⟨w.heap.size, 1, none⟩ = some (.slice A l.length cap) ∧ V1.cell? ⟨ga, 0, none⟩ = some (.int .i64 aR) ∧ V1.cell? ⟨ga, 1, none⟩ = some (.slice aA aL.length aa) ∧ V1.cell? ⟨gb, 0, none⟩ = some (.int .i64 bR) ∧ V1.cell? ⟨gb, 1, none⟩ = some (.slice bA bL.length ba) := ⟨((bcell hC1).1 _ _ lp).trans p0, ((bcell hC1).1 _ _ lp).trans p1, ((bcell hC1).1 _ _ la).trans a0, ((bcell hC1).1 _ _ la).trans a1, ((bcell hC1).1 _ _ lb).trans b0, ((bcell hC1).1 _ _ lb).trans b1⟩
 refine Shut.out HK8.out _ _ hH (fun _ => ?_)
 try simp only [Nm]
 clear HK8
 refine Vq 9 ?_ rfl (by kernel_rfl) hP (by rfl) ?r hH ?_; case r => intro w'; go_simp; try with_reducible rfl
 try simp only [Nm]
 refine Vq 10 ?_ rfl (by kernel_rfl) hP (by rfl) ?r hH ?_; case r => intro w'; go_simp; try with_reducible rfl
 try simp only [Nm]
 refine Vq 11 ?_ rfl (by kernel_rfl) hP (by rfl) ?r hH ?_; case r => intro w'; go_simp; try with_reducible rfl
 try simp only [Nm]
 refine Vq 12 ?_ rfl (by kernel_rfl) hP (by rfl) ?r hH ?_; case r => intro w'; go_simp; try with_reducible rfl
 try simp only [Nm]
 refine Vq 13 ?_ rfl (by kernel_rfl) hP (by rfl) ?r hH ?_; case r => intro w'; go_simp; try with_reducible rfl
 try simp only [Nm]
 try simp only [hdb]
 refine Vq 14 ?_ rfl (by kernel_rfl) hP (by rfl) ?r hH ?_; case r => intro w'; go_simp; try with_reducible rfl
 try simp only [Nm]
 refine Vi 15 ?_ rfl (by kernel_rfl) hP (by rfl) ?r hH ?_; case r => intro w' h; (try dsimp only at h); (try go_split_ands); go_simp; try with_reducible rfl
 try simp only [Nm]
 refine Vi 16 ?_ rfl (by kernel_rfl) hP (by rfl) ?r hH ?_; case r => intro w' h; (try dsimp only at h); (try go_split_ands); go_simp; try with_reducible rfl
 try simp only [Nm]
 refine Vq 17 ?_ rfl (by kernel_rfl) hP (by rfl) ?r hH ?_; case r => intro w'; go_simp; try with_reducible rfl
 try simp only [Nm]
 refine Vq 19 ?_ rfl (by kernel_rfl) hP (by rfl) ?r hH ?_; case r => intro w'; go_simp; try with_reducible rfl
 try simp only [Nm]
 refine Rd 18 (by kernel_rfl) rfl (fun K hK => ?_)
 have HK18 := hide hK
 clear hK
 go_simp
 go_at_call 13
 refine ((HF _).out).mono ?_
 rintro e w0 ⟨rfl, rfl⟩
 refine Shut.out HK18.out _ _ hH (fun _ => ?_)
 try simp only [Nm]
 clear HK18
 refine Rd 20 (by kernel_rfl) rfl (fun K hK => ?_)
 have HK20 := hide hK
 clear hK
 go_simp
 go_at_call 16
 refine ((HDob _ hC1).out).mono ?_
 rintro e V2 ⟨rfl, hbV2⟩
 have hC2 : Below W2.heap.size W2 V2 := hC1.trans (hbV2.mono hC1.size)
 clear hH
 have hH : V2.cell? ⟨w.heap.size, 0, none⟩ = some (.int .i64 regs) ∧ V2.cell? ⟨w.heap.size, 1, none⟩ = some (.slice A l.length cap) ∧ V2.cell? ⟨ga, 0, none⟩ = some (.int .i64 aR) ∧ V2.cell? ⟨ga, 1, none⟩ = some (.slice aA aL.length aa) ∧ V2.cell? ⟨gb, 0, none⟩ = some (.int .i64 bR) ∧ V2.cell? ⟨gb, 1, none⟩ = some (.slice bA bL.length ba) := ⟨((bcell hC2).1 _ _ lp).trans p0, ((bcell hC2).1 _ _ lp).trans p1, ((bcell hC2).1 _ _ la).trans a0, ((bcell hC2).1 _ _ la).trans a1, ((bcell hC2).1 _ _ lb).trans b0, ((bcell hC2).1 _ _ lb).trans b1⟩
 refine Shut.out HK20.out _ _ hH (fun _ => ?_)
 try simp only [Nm]
 clear HK20
 refine Vq 21 ?_ rfl (by kernel_rfl) hP (by rfl) ?r hH ?_; case r => intro w'; go_simp; try with_reducible rfl
 try simp only [Nm]
 refine Vq 22 ?_ rfl (by kernel_rfl) hP (by rfl) ?r hH ?_; case r => intro w'; go_simp; try with_reducible rfl
 try simp only [Nm]
 refine Vq 23 ?_ rfl (by kernel_rfl) hP (by rfl) ?r hH ?_; case r => intro w'; go_simp; try with_reducible rfl
 try simp only [Nm]
 refine wpAnyH_done (by kernel_rfl) ?_ _
 go_wp2_with fail
 go_meet
 go_tidy
 exact ⟨rfl, hC2⟩)
 · (
 have hdb : (bE == 0) = false := by simp [hzb]
 clear hzb
 refine wp_region_held_drew (S := fun w' => w'.cell? ⟨w.heap.size, 0, none⟩ = some (.int .i64 regs) ∧ w'.cell? ⟨w.heap.size, 1, none⟩ = some (.slice A l.length cap) ∧ w'.cell? ⟨ga, 0, none⟩ = some (.int .i64 aR) ∧ w'.cell? ⟨ga, 1, none⟩ = some (.slice aA aL.length aa) ∧ w'.cell? ⟨gb, 0, none⟩ = some (.int .i64 bR) ∧ w'.cell? ⟨gb, 1, none⟩ = some (.slice bA bL.length ba)) (by kernel_rfl) ⟨p0, p1, a0, a1, b0, b1⟩ ?_
 intro hH
 have hC0 : Below W2.heap.size W2 W2.drew := (Below.refl _ _).drew
 refine Up (fun _ _ _ _ _ => id) fun hP => ?_
 refine Vq 0 ?_ rfl (by kernel_rfl) hP (by rfl) ?r hH ?_; case r => intro w'; go_simp; try with_reducible rfl
 try simp only [Nm]
 refine Vq 1 ?_ rfl (by kernel_rfl) hP (by rfl) ?r hH ?_; case r => intro w'; go_simp; try with_reducible rfl
 try simp only [Nm]
 try simp only [hda]
 refine Vq 2 ?_ rfl (by kernel_rfl) hP (by rfl) ?r hH ?_; case r => intro w'; go_simp; try with_reducible rfl
 try simp only [Nm]
 refine Vi 3 ?_ rfl (by kernel_rfl) hP (by rfl) ?r hH ?_; case r => intro w' h; (try dsimp only at h); (try go_split_ands); go_simp; try with_reducible rfl
 try simp only [Nm]
 refine Vi 4 ?_ rfl (by kernel_rfl) hP (by rfl) ?r hH ?_; case r => intro w' h; (try dsimp only at h); (try go_split_ands); go_simp; try with_reducible rfl
 try simp only [Nm]
 refine Vq 5 ?_ rfl (by kernel_rfl) hP (by rfl) ?r hH ?_; case r => intro w'; go_simp; try with_reducible rfl
 try simp only [Nm]
 refine Vq 7 ?_ rfl (by kernel_rfl) hP (by rfl) ?r hH ?_; case r => intro w'; go_simp; try with_reducible rfl
 try simp only [Nm]
 refine Rd 6 (by kernel_rfl) rfl (fun K hK => ?_)
 have HK6 := hide hK
 clear hK
 go_simp
 go_at_call 13
 refine ((HF _).out).mono ?_
 rintro e w0 ⟨rfl, rfl⟩
 refine Shut.out HK6.out _ _ hH (fun _ => ?_)
 try simp only [Nm]
 clear HK6
 refine Rd 8 (by kernel_rfl) rfl (fun K hK => ?_)
 have HK8 := hide hK
 clear hK
 go_simp
 go_at_call 16
 refine ((HDoa _ hC0).out).mono ?_
 rintro e V1 ⟨rfl, hbV1⟩
 have hC1 : Below W2.heap.size W2 V1 := hC0.trans (hbV1.mono hC0.size)
 clear hH
 have hH : V1.cell? ⟨w.heap.size, 0, none⟩ = some (.int .i64 regs) ∧ V1.cell? ⟨w.heap.size, 1, none⟩ = some (.slice A l.length cap) ∧ V1.cell? ⟨ga, 0, none⟩ = some (.int .i64 aR) ∧ V1.cell? ⟨ga, 1, none⟩ = some (.slice aA aL.length aa) ∧ V1.cell? ⟨gb, 0, none⟩ = some (.int .i64 bR) ∧ V1.cell? ⟨gb, 1, none⟩ = some (.slice bA bL.length ba) := ⟨((bcell hC1).1 _ _ lp).trans p0, ((bcell hC1).1 _ _ lp).trans p1, ((bcell hC1).1 _ _ la).trans a0, ((bcell hC1).1 _ _ la).trans a1, ((bcell hC1).1 _ _ lb).trans b0, ((bcell hC1).1 _ _ lb).trans b1⟩
 refine Shut.out HK8.out _ _ hH (fun _ => ?_)
 try simp only [Nm]
 clear HK8
 refine Vq 9 ?_ rfl (by kernel_rfl) hP (by rfl) ?r hH ?_; case r => intro w'; go_simp; try with_reducible rfl
 try simp only [Nm]
 refine Vq 10 ?_ rfl (by kernel_rfl) hP (by rfl) ?r hH ?_; case r => intro w'; go_simp; try with_reducible rfl
 try simp only [Nm]
 refine Vq 11 ?_ rfl (by kernel_rfl) hP (by rfl) ?r hH ?_; case r => intro w'; go_simp; try with_reducible rfl
 try simp only [Nm]
 refine Vq 12 ?_ rfl (by kernel_rfl) hP (by rfl) ?r hH ?_; case r => intro w'; go_simp; try with_reducible rfl
 try simp only [Nm]
 refine Vq 13 ?_ rfl (by kernel_rfl) hP (by rfl) ?r hH ?_; case r => intro w'; go_simp; try with_reducible rfl
 try simp only [Nm]
 try simp only [hdb]
 refine Vq 14 ?_ rfl (by kernel_rfl) hP (by rfl) ?r hH ?_; case r => intro w'; go_simp; try with_reducible rfl
 try simp only [Nm]
 refine Vn 15 rfl (by kernel_rfl) hP (by rfl) hH ?_
 try simp only [Nm]
 refine Vn 16 rfl (by kernel_rfl) hP (by rfl) hH ?_
 try simp only [Nm]
 refine Vn 17 rfl (by kernel_rfl) hP (by rfl) hH ?_
 try simp only [Nm]
 refine Vn 18 rfl (by kernel_rfl) hP (by rfl) hH ?_
 try simp only [Nm]
 refine Vn 19 rfl (by kernel_rfl) hP (by rfl) hH ?_
 try simp only [Nm]
 refine Vn 20 rfl (by kernel_rfl) hP (by rfl) hH ?_
 try simp only [Nm]
 refine Vn 21 rfl (by kernel_rfl) hP (by rfl) hH ?_
 try simp only [Nm]
 refine Vq 22 ?_ rfl (by kernel_rfl) hP (by rfl) ?r hH ?_; case r => intro w'; go_simp; try with_reducible rfl
 try simp only [Nm]
 refine Vq 23 ?_ rfl (by kernel_rfl) hP (by rfl) ?r hH ?_; case r => intro w'; go_simp; try with_reducible rfl
 try simp only [Nm]
 refine wpAnyH_done (by kernel_rfl) ?_ _
 go_wp2_with fail
 go_meet
 go_tidy
 exact ⟨rfl, hC1⟩))
 · (
 have hda : (aE == 0) = false := by simp [hza]
 clear hza
 by_cases hzb : bE = 0
 · (
 have hdb : (bE == 0) = true := by simp [hzb]
 replace HDob := HDob hzb
 clear hzb
 refine wp_region_held_drew (S := fun w' => w'.cell? ⟨w.heap.size, 0, none⟩ = some (.int .i64 regs) ∧ w'.cell? ⟨w.heap.size, 1, none⟩ = some (.slice A l.length cap) ∧ w'.cell? ⟨ga, 0, none⟩ = some (.int .i64 aR) ∧ w'.cell? ⟨ga, 1, none⟩ = some (.slice aA aL.length aa) ∧ w'.cell? ⟨gb, 0, none⟩ = some (.int .i64 bR) ∧ w'.cell? ⟨gb, 1, none⟩ = some (.slice bA bL.length ba)) (by kernel_rfl) ⟨p0, p1, a0, a1, b0, b1⟩ ?_
 intro hH
 have hC0 : Below W2.heap.size W2 W2.drew := (Below.refl _ _).drew
 refine Up (fun _ _ _ _ _ => id) fun hP => ?_
 refine Vq 0 ?_ rfl (by kernel_rfl) hP (by rfl) ?r hH ?_; case r => intro w'; go_simp; try with_reducible rfl
 try simp only [Nm]
 refine Vq 1 ?_ rfl (by kernel_rfl) hP (by rfl) ?r hH ?_; case r => intro w'; go_simp; try with_reducible rfl
 try simp only [Nm]
 try simp only [hda]
 refine Vq 2 ?_ rfl (by kernel_rfl) hP (by rfl) ?r hH ?_; case r => intro w'; go_simp; try with_reducible rfl
 try simp only [Nm]
 refine Vn 3 rfl (by kernel_rfl) hP (by rfl) hH ?_
 try simp only [Nm]
 refine Vn 4 rfl (by kernel_rfl) hP (by rfl) hH ?_
 try simp only [Nm]
 refine Vn 5 rfl (by kernel_rfl) hP (by rfl) hH ?_
 try simp only [Nm]
 refine Vn 6 rfl (by kernel_rfl) hP (by rfl) hH ?_
 try simp only [Nm]
 refine Vn 7 rfl (by kernel_rfl) hP (by rfl) hH ?_
 try simp only [Nm]
 refine Vn 8 rfl (by kernel_rfl) hP (by rfl) hH ?_
 try simp only [Nm]
 refine Vn 9 rfl (by kernel_rfl) hP (by rfl) hH ?_
 try simp only [Nm]
 refine Vq 10 ?_ rfl (by kernel_rfl) hP (by rfl) ?r hH ?_; case r => intro w'; go_simp; try with_reducible rfl
 try simp only [Nm]
 refine Vq 11 ?_ rfl (by kernel_rfl) hP (by rfl) ?r hH ?_; case r => intro w'; go_simp; try with_reducible rfl
 try simp only [Nm]
 refine Vq 12 ?_ rfl (by kernel_rfl) hP (by rfl) ?r hH ?_; case r => intro w'; go_simp; try with_reducible rfl
 try simp only [Nm]
 refine Vq 13 ?_ rfl (by kernel_rfl) hP (by rfl) ?r hH ?_; case r => intro w'; go_simp; try with_reducible rfl
 try simp only [Nm]
 try simp only [hdb]
 refine Vq 14 ?_ rfl (by kernel_rfl) hP (by rfl) ?r hH ?_; case r => intro w'; go_simp; try with_reducible rfl
 try simp only [Nm]
 refine Vi 15 ?_ rfl (by kernel_rfl) hP (by rfl) ?r hH ?_; case r => intro w' h; (try dsimp only at h); (try go_split_ands); go_simp; try with_reducible rfl
 try simp only [Nm]
 refine Vi 16 ?_ rfl (by kernel_rfl) hP (by rfl) ?r hH ?_; case r => intro w' h; (try dsimp only at h); (try go_split_ands); go_simp; try with_reducible rfl
 try simp only [Nm]
 refine Vq 17 ?_ rfl (by kernel_rfl) hP (by rfl) ?r hH ?_; case r => intro w'; go_simp; try with_reducible rfl
 try simp only [Nm]
 refine Vq 19 ?_ rfl (by kernel_rfl) hP (by rfl) ?r hH ?_; case r => intro w'; go_simp; try with_reducible rfl
 try simp only [Nm]
 refine Rd 18 (by kernel_rfl) rfl (fun K hK => ?_)
 have HK18 := hide hK
 clear hK
 go_simp
 go_at_call 13
 refine ((HF _).out).mono ?_
 rintro e w0 ⟨rfl, rfl⟩
 refine Shut.out HK18.out _ _ hH (fun _ => ?_)
 try simp only [Nm]
 clear HK18
 refine Rd 20 (by kernel_rfl) rfl (fun K hK => ?_)
 have HK20 := hide hK
 clear hK
 go_simp
 go_at_call 16
 refine ((HDob _ hC0).out).mono ?_
 rintro e V1 ⟨rfl, hbV1⟩
 have hC1 : Below W2.heap.size W2 V1 := hC0.trans (hbV1.mono hC0.size)
 clear hH
 have hH : V1.cell? ⟨w.heap.size, 0, none⟩ = some (.int .i64 regs) ∧ V1.cell? ⟨w.heap.size, 1, none⟩ = some (.slice A l.length cap) ∧ V1.cell? ⟨ga, 0, none⟩ = some (.int .i64 aR) ∧ V1.cell? ⟨ga, 1, none⟩ = some (.slice aA aL.length aa) ∧ V1.cell? ⟨gb, 0, none⟩ = some (.int .i64 bR) ∧ V1.cell? ⟨gb, 1, none⟩ = some (.slice bA bL.length ba) := ⟨((bcell hC1).1 _ _ lp).trans p0, ((bcell hC1).1 _ _ lp).trans p1, ((bcell hC1).1 _ _ la).trans a0, ((bcell hC1).1 _ _ la).trans a1, ((bcell hC1).1 _ _ lb).trans b0, ((bcell hC1).1 _ _ lb).trans b1⟩
 refine Shut.out HK20.out _ _ hH (fun _ => ?_)
 try simp only [Nm]
 clear HK20
 refine Vq 21 ?_ rfl (by kernel_rfl) hP (by rfl) ?r hH ?_; case r => intro w'; go_simp; try with_reducible rfl
 try simp only [Nm]
 refine Vq 22 ?_ rfl (by kernel_rfl) hP (by rfl) ?r hH ?_; case r => intro w'; go_simp; try with_reducible rfl
 try simp only [Nm]
 refine Vq 23 ?_ rfl (by kernel_rfl) hP (by rfl) ?r hH ?_; case r => intro w'; go_simp; try with_reducible rfl
 try simp only [Nm]
 refine wpAnyH_done (by kernel_rfl) ?_ _
 go_wp2_with fail
 go_meet
 go_tidy
 exact ⟨rfl, hC1⟩)
 · (
 have hdb : (bE == 0) = false := by simp [hzb]
 clear hzb
 refine wp_region_held_drew (S := fun w' => w'.cell? ⟨w.heap.size, 0, none⟩ = some (.int .i64 regs) ∧ w'.cell? ⟨w.heap.size, 1, none⟩ = some (.slice A l.length cap) ∧ w'.cell? ⟨ga, 0, none⟩ = some (.int .i64 aR) ∧ w'.cell? ⟨ga, 1, none⟩ = some (.slice aA aL.length aa) ∧ w'.cell? ⟨gb, 0, none⟩ = some (.int .i64 bR) ∧ w'.cell? ⟨gb, 1, none⟩ = some (.slice bA bL.length ba)) (by kernel_rfl) ⟨p0, p1, a0, a1, b0, b1⟩ ?_
 intro hH
 have hC0 : Below W2.heap.size W2 W2.drew := (Below.refl _ _).drew
 refine Up (fun _ _ _ _ _ => id) fun hP => ?_
 refine Vq 0 ?_ rfl (by kernel_rfl) hP (by rfl) ?r hH ?_; case r => intro w'; go_simp; try with_reducible rfl
 try simp only [Nm]
 refine Vq 1 ?_ rfl (by kernel_rfl) hP (by rfl) ?r hH ?_; case r => intro w'; go_simp; try with_reducible rfl
 try simp only [Nm]
 try simp only [hda]
 refine Vq 2 ?_ rfl (by kernel_rfl) hP (by rfl) ?r hH ?_; case r => intro w'; go_simp; try with_reducible rfl
 try simp only [Nm]
 refine Vn 3 rfl (by kernel_rfl) hP (by rfl) hH ?_
 try simp only [Nm]
 refine Vn 4 rfl (by kernel_rfl) hP (by rfl) hH ?_
 try simp only [Nm]
 refine Vn 5 rfl (by kernel_rfl) hP (by rfl) hH ?_
 try simp only [Nm]
 refine Vn 6 rfl (by kernel_rfl) hP (by rfl) hH ?_
 try simp only [Nm]
 refine Vn 7 rfl (by kernel_rfl) hP (by rfl) hH ?_
 try simp only [Nm]
 refine Vn 8 rfl (by kernel_rfl) hP (by rfl) hH ?_
 try simp only [Nm]
 refine Vn 9 rfl (by kernel_rfl) hP (by rfl) hH ?_
 try simp only [Nm]
 refine Vq 10 ?_ rfl (by kernel_rfl) hP (by rfl) ?r hH ?_; case r => intro w'; go_simp; try with_reducible rfl
 try simp only [Nm]
 refine Vq 11 ?_ rfl (by kernel_rfl) hP (by rfl) ?r hH ?_; case r => intro w'; go_simp; try with_reducible rfl
 try simp only [Nm]
 refine Vq 12 ?_ rfl (by kernel_rfl) hP (by rfl) ?r hH ?_; case r => intro w'; go_simp; try with_reducible rfl
 try simp only [Nm]
 refine Vq 13 ?_ rfl (by kernel_rfl) hP (by rfl) ?r hH ?_; case r => intro w'; go_simp; try with_reducible rfl
 try simp only [Nm]
 try simp only [hdb]
 refine Vq 14 ?_ rfl (by kernel_rfl) hP (by rfl) ?r hH ?_; case r => intro w'; go_simp; try with_reducible rfl
 try simp only [Nm]
 refine Vn 15 rfl (by kernel_rfl) hP (by rfl) hH ?_
 try simp only [Nm]
 refine Vn 16 rfl (by kernel_rfl) hP (by rfl) hH ?_
 try simp only [Nm]
 refine Vn 17 rfl (by kernel_rfl) hP (by rfl) hH ?_
 try simp only [Nm]
 refine Vn 18 rfl (by kernel_rfl) hP (by rfl) hH ?_
 try simp only [Nm]
 refine Vn 19 rfl (by kernel_rfl) hP (by rfl) hH ?_
 try simp only [Nm]
 refine Vn 20 rfl (by kernel_rfl) hP (by rfl) hH ?_
 try simp only [Nm]
 refine Vn 21 rfl (by kernel_rfl) hP (by rfl) hH ?_
 try simp only [Nm]
 refine Vq 22 ?_ rfl (by kernel_rfl) hP (by rfl) ?r hH ?_; case r => intro w'; go_simp; try with_reducible rfl
 try simp only [Nm]
 refine Vq 23 ?_ rfl (by kernel_rfl) hP (by rfl) ?r hH ?_; case r => intro w'; go_simp; try with_reducible rfl
 try simp only [Nm]
 refine wpAnyH_done (by kernel_rfl) ?_ _
 go_wp2_with fail
 go_meet
 go_tidy
 exact ⟨rfl, hC0⟩)))
 case rest => (
 obtain ⟨rfl, hbc⟩ := hcut
 obtain ⟨W3, rfl⟩ : ∃ W : World, W = wc := ⟨_, rfl⟩
 clear p0 p1 lp a0 a1 la b0 b1 lb hz HDoa HDob hKa hKb qa qb Da Db
 replace hP := hP.below hbc hP.lt
 replace hT := hT.below hbc hT.lt
 replace hB := hB.trans (hbc.mono hB.size)
 clear hbc
 have p0 := hP.cell 0
 have p1 := hP.cell 1
 have t0 := hT.cell 0
 have t1 := hT.cell 1
 have t2 := hT.cell 2
 simp only [tmA, Yl] at p0 p1 t0 t1 t2
 have lp := hP.lt
 have lt' := hT.lt
 go_wp2_with fail
 refine (HBu.out _ hB).mono ?_
 rintro e w3 ⟨hbw3, v1, v2, kX, kY, dk, rfl, hr1, hr2⟩
 clear p0 p1 t0 t1 t2 lp lt'
 replace hP := hP.below hbw3 hP.lt
 replace hT := hT.below hbw3 hT.lt
 replace hB := hB.trans (hbw3.mono hB.size)
 clear hbw3
 obtain ⟨Ak1, ck1, e1, _, _⟩ := hr1.shape
 rw [bools_length] at e1
 subst e1
 have qk1 := hr1
 obtain ⟨Ak2, ck2, e2, _, _⟩ := hr2.shape
 rw [bools_length] at e2
 subst e2
 have qk2 := hr2
 have Dk := hide dk
 clear hr1 hr2 dk
 have hT0 := hT.lt
 go_upto_region 7 with fail
 obtain ⟨W4, hW4⟩ : ∃ W : World, W = w3.alloc (.cells #[.slice Ak1 kX.length ck1, .slice Ak2 kY.length ck2] 50) := ⟨_, rfl⟩
 have hbW4 : Below w3.heap.size w3 W4 := by rw [hW4]; exact (Below.refl _ _).alloc (Nat.le_refl _) _
 have hKk : Blk W4 w3.heap.size 50 #[.slice Ak1 kX.length ck1, .slice Ak2 kY.length ck2] := by rw [hW4]; exact Blk.new' rfl
 rw [← hW4]
 replace hP := hP.below hbW4 hP.lt
 replace hT := hT.below hbW4 hT.lt
 replace qk1 := qk1.below' hbW4
 replace qk2 := qk2.below' hbW4
 replace hB := hB.trans (hbW4.mono hB.size)
 obtain ⟨gk, hgk⟩ : ∃ b, b = w3.heap.size := ⟨_, rfl⟩
 rw [← hgk] at hKk ⊢
 clear hW4 hgk hbW4 hT0
 have p0 := hP.cell 0
 have p1 := hP.cell 1
 have t0 := hT.cell 0
 have t1 := hT.cell 1
 have t2 := hT.cell 2
 simp only [tmA, Yl] at p0 p1 t0 t1 t2
 have lp := hP.lt
 have lt' := hT.lt
 go_wp2_with fail
 refine (HRi.out _ hB).mono ?_
 rintro e w4 ⟨hbw4, v1, v2, mX, mY, dm, rfl, hr1, hr2⟩
 clear p0 p1 t0 t1 t2 lp lt'
 replace hP := hP.below hbw4 hP.lt
 replace hT := hT.below hbw4 hT.lt
 replace hKk := hKk.below hbw4 hKk.lt
 replace qk1 := qk1.below' hbw4
 replace qk2 := qk2.below' hbw4
 replace hB := hB.trans (hbw4.mono hB.size)
 clear hbw4
 obtain ⟨Am1, cm1, e1, _, _⟩ := hr1.shape
 rw [bools_length] at e1
 subst e1
 have qm1 := hr1
 obtain ⟨Am2, cm2, e2, _, _⟩ := hr2.shape
 rw [bools_length] at e2
 subst e2
 have qm2 := hr2
 have Dm := hide dm
 clear hr1 hr2 dm
 have hT0 := hT.lt
 go_upto_region 8 with fail
 obtain ⟨W5, hW5⟩ : ∃ W : World, W = w4.alloc (.cells #[.slice Am1 mX.length cm1, .slice Am2 mY.length cm2] 50) := ⟨_, rfl⟩
 have hbW5 : Below w4.heap.size w4 W5 := by rw [hW5]; exact (Below.refl _ _).alloc (Nat.le_refl _) _
 have hKm : Blk W5 w4.heap.size 50 #[.slice Am1 mX.length cm1, .slice Am2 mY.length cm2] := by rw [hW5]; exact Blk.new' rfl
 rw [← hW5]
 replace hP := hP.below hbW5 hP.lt
 replace hT := hT.below hbW5 hT.lt
 replace hKk := hKk.below hbW5 hKk.lt
 replace qk1 := qk1.below' hbW5
 replace qk2 := qk2.below' hbW5
 replace qm1 := qm1.below' hbW5
 replace qm2 := qm2.below' hbW5
 replace hB := hB.trans (hbW5.mono hB.size)
 obtain ⟨gm, hgm⟩ : ∃ b, b = w4.heap.size := ⟨_, rfl⟩
 rw [← hgm] at hKm ⊢
 clear hW5 hgm hbW5 hT0
 have k0 := hKk.cell 0
 have k1 := hKk.cell 1
 simp only [tmA, Yl] at k0 k1
 have lk := hKk.lt
 have p0 := hP.cell 0
 have p1 := hP.cell 1
 have t0 := hT.cell 0
 have t1 := hT.cell 1
 have t2 := hT.cell 2
 simp only [tmA, Yl] at p0 p1 t0 t1 t2
 have lp := hP.lt
 have lt' := hT.lt
 go_wp2_with fail
 refine (HAp.out _ hB Ak1 Ak2 kX kY ck1 ck2 qk1.vals qk2.vals).mono ?_
 rintro e w5 ⟨hbw5, v, rfl, hr⟩
 clear p0 p1 t0 t1 t2 lp lt'
 replace hP := hP.below hbw5 hP.lt
 replace hT := hT.below hbw5 hT.lt
 replace hKk := hKk.below hbw5 hKk.lt
 replace hKm := hKm.below hbw5 hKm.lt
 replace qk1 := qk1.below' hbw5
 replace qk2 := qk2.below' hbw5
 replace qm1 := qm1.below' hbw5
 replace qm2 := qm2.below' hbw5
 replace hB := hB.trans (hbw5.mono hB.size)
 clear hbw5
 have dc := ma_does (regs := regs) (l := l) (t := t) (fewL inp) n' Dk.out
 generalize maE regs l t kX kY = cE at *
 obtain ⟨cL, hcL⟩ : ∃ z, z = maL regs l t kX kY := ⟨_, rfl⟩
 obtain ⟨cR, hcR⟩ : ∃ z, z = maR regs l t kX kY := ⟨_, rfl⟩
 rw [← hcL] at hr dc
 rw [← hcR] at dc ⊢
 obtain ⟨cA, ca, ce, cm, cn⟩ := hr.shape
 subst ce
 have qc := hr
 have Dc := hide dc
 clear hr hcL hcR dc cm cn
 clear k0 k1 lk
 have hT0 := hT.lt
 go_upto_region 9 with fail
 obtain ⟨W6, hW6⟩ : ∃ W : World, W = w5.alloc (.cells #[.int .i64 cR, .slice cA cL.length ca] 24) := ⟨_, rfl⟩
 have hbW6 : Below w5.heap.size w5 W6 := by rw [hW6]; exact (Below.refl _ _).alloc (Nat.le_refl _) _
 have hKc : Blk W6 w5.heap.size 24 #[.int .i64 cR, .slice cA cL.length ca] := by rw [hW6]; exact Blk.new' rfl
 rw [← hW6]
 replace hP := hP.below hbW6 hP.lt
 replace hT := hT.below hbW6 hT.lt
 replace hKk := hKk.below hbW6 hKk.lt
 replace hKm := hKm.below hbW6 hKm.lt
 replace qk1 := qk1.below' hbW6
 replace qk2 := qk2.below' hbW6
 replace qm1 := qm1.below' hbW6
 replace qm2 := qm2.below' hbW6
 replace qc := qc.below' hbW6
 replace hB := hB.trans (hbW6.mono hB.size)
 obtain ⟨gc, hgc⟩ : ∃ b, b = w5.heap.size := ⟨_, rfl⟩
 rw [← hgc] at hKc ⊢
 clear hW6 hgc hbW6 hT0
 have m0 := hKm.cell 0
 have m1 := hKm.cell 1
 simp only [tmA, Yl] at m0 m1
 have lm := hKm.lt
 have p0 := hP.cell 0
 have p1 := hP.cell 1
 have t0 := hT.cell 0
 have t1 := hT.cell 1
 have t2 := hT.cell 2
 simp only [tmA, Yl] at p0 p1 t0 t1 t2
 have lp := hP.lt
 have lt' := hT.lt
 go_wp2_with fail
 refine (HAp.out _ hB Am1 Am2 mX mY cm1 cm2 qm1.vals qm2.vals).mono ?_
 rintro e w6 ⟨hbw6, v, rfl, hr⟩
 clear p0 p1 t0 t1 t2 lp lt'
 replace hP := hP.below hbw6 hP.lt
 replace hT := hT.below hbw6 hT.lt
 replace hKk := hKk.below hbw6 hKk.lt
 replace hKm := hKm.below hbw6 hKm.lt
 replace hKc := hKc.below hbw6 hKc.lt
 replace qk1 := qk1.below' hbw6
 replace qk2 := qk2.below' hbw6
 replace qm1 := qm1.below' hbw6
 replace qm2 := qm2.below' hbw6
 replace qc := qc.below' hbw6
 replace hB := hB.trans (hbw6.mono hB.size)
 clear hbw6
 have dd := fun h0 : rvE regs l t x = 0 => ma_does (regs := regs) (l := l) (t := t) (fewL inp) n' (fun _ => Dm.out h0)
 generalize maE regs l t mX mY = dE at *
 obtain ⟨dL, hdL⟩ : ∃ z, z = maL regs l t mX mY := ⟨_, rfl⟩
 obtain ⟨dR, hdR⟩ : ∃ z, z = maR regs l t mX mY := ⟨_, rfl⟩
 rw [← hdL] at hr dd
 rw [← hdR] at dd ⊢
 obtain ⟨dA, da, de, dm, dn⟩ := hr.shape
 subst de
 have qd := hr
 have Dd := hide dd
 clear hr hdL hdR dd dm dn
 clear m0 m1 lm
 have hT0 := hT.lt
 go_upto_region 10 with fail
 obtain ⟨W7, hW7⟩ : ∃ W : World, W = w6.alloc (.cells #[.int .i64 dR, .slice dA dL.length da] 24) := ⟨_, rfl⟩
 have hbW7 : Below w6.heap.size w6 W7 := by rw [hW7]; exact (Below.refl _ _).alloc (Nat.le_refl _) _
 have hKd : Blk W7 w6.heap.size 24 #[.int .i64 dR, .slice dA dL.length da] := by rw [hW7]; exact Blk.new' rfl
 rw [← hW7]
 replace hP := hP.below hbW7 hP.lt
 replace hT := hT.below hbW7 hT.lt
 replace hKk := hKk.below hbW7 hKk.lt
 replace hKm := hKm.below hbW7 hKm.lt
 replace hKc := hKc.below hbW7 hKc.lt
 replace qk1 := qk1.below' hbW7
 replace qk2 := qk2.below' hbW7
 replace qm1 := qm1.below' hbW7
 replace qm2 := qm2.below' hbW7
 replace qc := qc.below' hbW7
 replace qd := qd.below' hbW7
 replace hB := hB.trans (hbW7.mono hB.size)
 obtain ⟨gd, hgd⟩ : ∃ b, b = w6.heap.size := ⟨_, rfl⟩
 rw [← hgd] at hKd ⊢
 clear hW7 hgd hbW7 hT0
 have c0 := hKc.cell 0
 have c1 := hKc.cell 1
 simp only [tmA, Yl] at c0 c1
 have lc := hKc.lt
 have d0 := hKd.cell 0
 have d1 := hKd.cell 1
 simp only [tmA, Yl] at d0 d1
 have ld := hKd.lt
 have p0 := hP.cell 0
 have p1 := hP.cell 1
 simp only [tmA, Yl] at p0 p1
 have lp := hP.lt
 have hz := hB.size
 have HDoc := fun (h : cE = 0) (V : World) (hV : Below W7.heap.size W7 V) => hide (HDo.out V (hB.trans (hV.mono hz)) cR cL cA ca (qc.nodes.below hV) (Dc.out h))
 have HDod := fun (h0 : rvE regs l t x = 0) (h : dE = 0) (V : World) (hV : Below W7.heap.size W7 V) => hide (HDo.out V (hB.trans (hV.mono hz)) dR dL dA da (qd.nodes.below hV) (Dd.out h0 h))
 have Hg : fxE regs l t ≠ 0 → rvE regs l t x ≠ 0 := fun h e => h (rvE_zero e)
 clear Dk Dm Dc Dd
 generalize fxE regs l t = gE at *
 generalize rvE regs l t x = hE at *
 clear hKc hKd hKk hKm qc qd qk1 qk2 qm1 qm2 hP hT
 by_cases hzg : gE = 0
 · (
 have hdg : (gE == 0) = true := by simp [hzg]
 clear hzg Hg
 by_cases hzc : cE = 0
 · (
 have hdc : (cE == 0) = true := by simp [hzc]
 replace HDoc := HDoc hzc
 clear hzc
 by_cases hzh : hE = 0
 · (
 have hdh : (hE == 0) = true := by simp [hzh]
 by_cases hzd : dE = 0
 · (
 have hdd : (dE == 0) = true := by simp [hzd]
 replace HDod := HDod hzh hzd
 clear hzd hzh
 refine wp_region_held_drew (S := fun w' => w'.cell? ⟨w.heap.size, 0, none⟩ = some (.int .i64 regs) ∧ w'.cell? ⟨w.heap.size, 1, none⟩ = some (.slice A l.length cap) ∧ w'.cell? ⟨gc, 0, none⟩ = some (.int .i64 cR) ∧ w'.cell? ⟨gc, 1, none⟩ = some (.slice cA cL.length ca) ∧ w'.cell? ⟨gd, 0, none⟩ = some (.int .i64 dR) ∧ w'.cell? ⟨gd, 1, none⟩ = some (.slice dA dL.length da)) (by kernel_rfl) ⟨p0, p1, c0, c1, d0, d1⟩ ?_
 intro hH
 have hC0 : Below W7.heap.size W7 W7.drew := (Below.refl _ _).drew
 refine Up (fun _ _ _ _ _ => id) fun hP => ?_
 refine Vq 0 ?_ rfl (by kernel_rfl) hP (by rfl) ?r hH ?_; case r => intro w'; go_simp; try with_reducible rfl
 try simp only [Nm]
 refine Vq 1 ?_ rfl (by kernel_rfl) hP (by rfl) ?r hH ?_; case r => intro w'; go_simp; try with_reducible rfl
 try simp only [Nm]
 try simp only [hdg]
 refine Vq 2 ?_ rfl (by kernel_rfl) hP (by rfl) ?r hH ?_; case r => intro w'; go_simp; try with_reducible rfl
 try simp only [Nm]
 refine Vq 3 ?_ rfl (by kernel_rfl) hP (by rfl) ?r hH ?_; case r => intro w'; go_simp; try with_reducible rfl
 try simp only [Nm]
 refine Vq 4 ?_ rfl (by kernel_rfl) hP (by rfl) ?r hH ?_; case r => intro w'; go_simp; try with_reducible rfl
 try simp only [Nm]
 try simp only [hdc]
 refine Vq 5 ?_ rfl (by kernel_rfl) hP (by rfl) ?r hH ?_; case r => intro w'; go_simp; try with_reducible rfl
 try simp only [Nm]
 refine Vq 6 ?_ rfl (by kernel_rfl) hP (by rfl) ?r hH ?_; case r => intro w'; go_simp; try with_reducible rfl
 try simp only [Nm]
 refine Vi 7 ?_ rfl (by kernel_rfl) hP (by rfl) ?r hH ?_; case r => intro w' h; (try dsimp only at h); (try go_split_ands); go_simp; try with_reducible rfl
 try simp only [Nm]
 refine Vi 8 ?_ rfl (by kernel_rfl) hP (by rfl) ?r hH ?_; case r => intro w' h; (try dsimp only at h); (try go_split_ands); go_simp; try with_reducible rfl
 try simp only [Nm]
 refine Vq 9 ?_ rfl (by kernel_rfl) hP (by rfl) ?r hH ?_; case r => intro w'; go_simp; try with_reducible rfl
 try simp only [Nm]
 refine Vq 11 ?_ rfl (by kernel_rfl) hP (by rfl) ?r hH ?_; case r => intro w'; go_simp; try with_reducible rfl
 try simp only [Nm]
 refine Rd 10 (by kernel_rfl) rfl (fun K hK => ?_)
 have HK10 := hide hK
 clear hK
 go_simp
 go_at_call 13
 refine ((HF _).out).mono ?_
 rintro e w0 ⟨rfl, rfl⟩
 refine Shut.out HK10.out _ _ hH (fun _ => ?_)
 try simp only [Nm]
 clear HK10
 refine Rd 12 (by kernel_rfl) rfl (fun K hK => ?_)
 have HK12 := hide hK
 clear hK
 go_simp
 go_at_call 16
 refine ((HDoc _ hC0).out).mono ?_
 rintro e V1 ⟨rfl, hbV1⟩
 have hC1 : Below W7.heap.size W7 V1 := hC0.trans (hbV1.mono hC0.size)
 clear hH
 have hH : V1.cell? ⟨w.heap.size, 0, none⟩ = some (.int .i64 regs) ∧ V1.cell? ⟨w.heap.size, 1, none⟩ = some (.slice A l.length cap) ∧ V1.cell? ⟨gc, 0, none⟩ = some (.int .i64 cR) ∧ V1.cell? ⟨gc, 1, none⟩ = some (.slice cA cL.length ca) ∧ V1.cell? ⟨gd, 0, none⟩ = some (.int .i64 dR) ∧ V1.cell? ⟨gd, 1, none⟩ = some (.slice dA dL.length da) := ⟨((bcell hC1).1 _ _ lp).trans p0, ((bcell hC1).1 _ _ lp).trans p1, ((bcell hC1).1 _ _ lc).trans c0, ((bcell hC1).1 _ _ lc).trans c1, ((bcell hC1).1 _ _ ld).trans d0, ((bcell hC1).1 _ _ ld).trans d1⟩
 refine Shut.out HK12.out _ _ hH (fun _ => ?_)
 try simp only [Nm]
 clear HK12
 refine Vq 13 ?_ rfl (by kernel_rfl) hP (by rfl) ?r hH ?_; case r => intro w'; go_simp; try with_reducible rfl
 try simp only [Nm]
 refine Vq 14 ?_ rfl (by kernel_rfl) hP (by rfl) ?r hH ?_; case r => intro w'; go_simp; try with_reducible rfl
 try simp only [Nm]
 refine Vq 15 ?_ rfl (by kernel_rfl) hP (by rfl) ?r hH ?_; case r => intro w'; go_simp; try with_reducible rfl
 try simp only [Nm]
 refine Vq 16 ?_ rfl (by kernel_rfl) hP (by rfl) ?r hH ?_; case r => intro w'; go_simp; try with_reducible rfl
 try simp only [Nm]
 refine Vq 17 ?_ rfl (by kernel_rfl) hP (by rfl) ?r hH ?_; case r => intro w'; go_simp; try with_reducible rfl
 try simp only [Nm]
 try simp only [hdh]
 refine Vq 18 ?_ rfl (by kernel_rfl) hP (by rfl) ?r hH ?_; case r => intro w'; go_simp; try with_reducible rfl
 try simp only [Nm]
 refine Vq 19 ?_ rfl (by kernel_rfl) hP (by rfl) ?r hH ?_; case r => intro w'; go_simp; try with_reducible rfl
 try simp only [Nm]
 refine Vq 20 ?_ rfl (by kernel_rfl) hP (by rfl) ?r hH ?_; case r => intro w'; go_simp; try with_reducible rfl
 try simp only [Nm]
 try simp only [hdd]
 refine Vq 21 ?_ rfl (by kernel_rfl) hP (by rfl) ?r hH ?_; case r => intro w'; go_simp; try with_reducible rfl
 try simp only [Nm]
 refine Vq 22 ?_ rfl (by kernel_rfl) hP (by rfl) ?r hH ?_; case r => intro w'; go_simp; try with_reducible rfl
 try simp only [Nm]
 refine Vi 23 ?_ rfl (by kernel_rfl) hP (by rfl) ?r hH ?_; case r => intro w' h; (try dsimp only at h); (try go_split_ands); go_simp; try with_reducible rfl
 try simp only [Nm]
 refine Vi 24 ?_ rfl (by kernel_rfl) hP (by rfl) ?r hH ?_; case r => intro w' h; (try dsimp only at h); (try go_split_ands); go_simp; try with_reducible rfl
 try simp only [Nm]
 refine Vq 25 ?_ rfl (by kernel_rfl) hP (by rfl) ?r hH ?_; case r => intro w'; go_simp; try with_reducible rfl
 try simp only [Nm]
 refine Vq 27 ?_ rfl (by kernel_rfl) hP (by rfl) ?r hH ?_; case r => intro w'; go_simp; try with_reducible rfl
 try simp only [Nm]
 refine Rd 26 (by kernel_rfl) rfl (fun K hK => ?_)
 have HK26 := hide hK
 clear hK
 go_simp
 go_at_call 13
 refine ((HF _).out).mono ?_
 rintro e w0 ⟨rfl, rfl⟩
 refine Shut.out HK26.out _ _ hH (fun _ => ?_)
 try simp only [Nm]
 clear HK26
 refine Rd 28 (by kernel_rfl) rfl (fun K hK => ?_)
 have HK28 := hide hK
 clear hK
 go_simp
 go_at_call 16
 refine ((HDod _ hC1).out).mono ?_
 rintro e V2 ⟨rfl, hbV2⟩
 have hC2 : Below W7.heap.size W7 V2 := hC1.trans (hbV2.mono hC1.size)
 clear hH
 have hH : V2.cell? ⟨w.heap.size, 0, none⟩ = some (.int .i64 regs) ∧ V2.cell? ⟨w.heap.size, 1, none⟩ = some (.slice A l.length cap) ∧ V2.cell? ⟨gc, 0, none⟩ = some (.int .i64 cR) ∧ V2.cell? ⟨gc, 1, none⟩ = some (.slice cA cL.length ca) ∧ V2.cell? ⟨gd, 0, none⟩ = some (.int .i64 dR) ∧ V2.cell? ⟨gd, 1, none⟩ = some (.slice dA dL.length da) := ⟨((bcell hC2).1 _ _ lp).trans p0, ((bcell hC2).1 _ _ lp).trans p1, ((bcell hC2).1 _ _ lc).trans c0, ((bcell hC2).1 _ _ lc).trans c1, ((bcell hC2).1 _ _ ld).trans d0, ((bcell hC2).1 _ _ ld).trans d1⟩
 refine Shut.out HK28.out _ _ hH (fun _ => ?_)
 try simp only [Nm]
 clear HK28
 refine Vq 29 ?_ rfl (by kernel_rfl) hP (by rfl) ?r hH ?_; case r => intro w'; go_simp; try with_reducible rfl
 try simp only [Nm]
 refine Vq 30 ?_ rfl (by kernel_rfl) hP (by rfl) ?r hH ?_; case r => intro w'; go_simp; try with_reducible rfl
 try simp only [Nm]
 refine Vq 31 ?_ rfl (by kernel_rfl) hP (by rfl) ?r hH ?_; case r => intro w'; go_simp; try with_reducible rfl
 try simp only [Nm]
 refine wpAnyH_done (by kernel_rfl) ?_ _
 go_wp2_with fail
 refine (moveBegun_any _).mono ?_
 rintro e w9 ⟨rfl, hb9⟩
 go_wp2_with fail
 go_ret
 exact ⟨rfl, hB.trans ((hC2.trans (hb9.mono hC2.size)).mono hB.size)⟩)
 · (
 have hdd : (dE == 0) = false := by simp [hzd]
 clear hzd hzh
 refine wp_region_held_drew (S := fun w' => w'.cell? ⟨w.heap.size, 0, none⟩ = some (.int .i64 regs) ∧ w'.cell? ⟨w.heap.size, 1, none⟩ = some (.slice A l.length cap) ∧ w'.cell? ⟨gc, 0, none⟩ = some (.int .i64 cR) ∧ w'.cell? ⟨gc, 1, none⟩ = some (.slice cA cL.length ca) ∧ w'.cell? ⟨gd, 0, none⟩ = some (.int .i64 dR) ∧ w'.cell? ⟨gd, 1, none⟩ = some (.slice dA dL.length da)) (by kernel_rfl) ⟨p0, p1, c0, c1, d0, d1⟩ ?_
 intro hH
 have hC0 : Below W7.heap.size W7 W7.drew := (Below.refl _ _).drew
 refine Up (fun _ _ _ _ _ => id) fun hP => ?_
 refine Vq 0 ?_ rfl (by kernel_rfl) hP (by rfl) ?r hH ?_; case r => intro w'; go_simp; try with_reducible rfl
 try simp only [Nm]
 refine Vq 1 ?_ rfl (by kernel_rfl) hP (by rfl) ?r hH ?_; case r => intro w'; go_simp; try with_reducible rfl
 try simp only [Nm]
 try simp only [hdg]
 refine Vq 2 ?_ rfl (by kernel_rfl) hP (by rfl) ?r hH ?_; case r => intro w'; go_simp; try with_reducible rfl
 try simp only [Nm]
 refine Vq 3 ?_ rfl (by kernel_rfl) hP (by rfl) ?r hH ?_; case r => intro w'; go_simp; try with_reducible rfl
 try simp only [Nm]
 refine Vq 4 ?_ rfl (by kernel_rfl) hP (by rfl) ?r hH ?_; case r => intro w'; go_simp; try with_reducible rfl
 try simp only [Nm]
 try simp only [hdc]
 refine Vq 5 ?_ rfl (by kernel_rfl) hP (by rfl) ?r hH ?_; case r => intro w'; go_simp; try with_reducible rfl
 try simp only [Nm]
 refine Vq 6 ?_ rfl (by kernel_rfl) hP (by rfl) ?r hH ?_; case r => intro w'; go_simp; try with_reducible rfl
 try simp only [Nm]
 refine Vi 7 ?_ rfl (by kernel_rfl) hP (by rfl) ?r hH ?_; case r => intro w' h; (try dsimp only at h); (try go_split_ands); go_simp; try with_reducible rfl
 try simp only [Nm]
 refine Vi 8 ?_ rfl (by kernel_rfl) hP (by rfl) ?r hH ?_; case r => intro w' h; (try dsimp only at h); (try go_split_ands); go_simp; try with_reducible rfl
 try simp only [Nm]
 refine Vq 9 ?_ rfl (by kernel_rfl) hP (by rfl) ?r hH ?_; case r => intro w'; go_simp; try with_reducible rfl
 try simp only [Nm]
 refine Vq 11 ?_ rfl (by kernel_rfl) hP (by rfl) ?r hH ?_; case r => intro w'; go_simp; try with_reducible rfl
 try simp only [Nm]
 refine Rd 10 (by kernel_rfl) rfl (fun K hK => ?_)
 have HK10 := hide hK
 clear hK
 go_simp
 go_at_call 13
 refine ((HF _).out).mono ?_
 rintro e w0 ⟨rfl, rfl⟩
 refine Shut.out HK10.out _ _ hH (fun _ => ?_)
 try simp only [Nm]
 clear HK10
 refine Rd 12 (by kernel_rfl) rfl (fun K hK => ?_)
 have HK12 := hide hK
 clear hK
 go_simp
 go_at_call 16
 refine ((HDoc _ hC0).out).mono ?_
 rintro e V1 ⟨rfl, hbV1⟩
 have hC1 : Below W7.heap.size W7 V1 := hC0.trans (hbV1.mono hC0.size)
 clear hH
 have hH : V1.cell? ⟨w.heap.size, 0, none⟩ = some (.int .i64 regs) ∧ V1.cell? ⟨w.heap.size, 1, none⟩ = some (.slice A l.length cap) ∧ V1.cell? ⟨gc, 0, none⟩ = some (.int .i64 cR) ∧ V1.cell? ⟨gc, 1, none⟩ = some (.slice cA cL.length ca) ∧ V1.cell? ⟨gd, 0, none⟩ = some (.int .i64 dR) ∧ V1.cell? ⟨gd, 1, none⟩ = some (.slice dA dL.length da) := ⟨((bcell hC1).1 _ _ lp).trans p0, ((bcell hC1).1 _ _ lp).trans p1, ((bcell hC1).1 _ _ lc).trans c0, ((bcell hC1).1 _ _ lc).trans c1, ((bcell hC1).1 _ _ ld).trans d0, ((bcell hC1).1 _ _ ld).trans d1⟩
 refine Shut.out HK12.out _ _ hH (fun _ => ?_)
 try simp only [Nm]
 clear HK12
 refine Vq 13 ?_ rfl (by kernel_rfl) hP (by rfl) ?r hH ?_; case r => intro w'; go_simp; try with_reducible rfl
 try simp only [Nm]
 refine Vq 14 ?_ rfl (by kernel_rfl) hP (by rfl) ?r hH ?_; case r => intro w'; go_simp; try with_reducible rfl
 try simp only [Nm]
 refine Vq 15 ?_ rfl (by kernel_rfl) hP (by rfl) ?r hH ?_; case r => intro w'; go_simp; try with_reducible rfl
 try simp only [Nm]
 refine Vq 16 ?_ rfl (by kernel_rfl) hP (by rfl) ?r hH ?_; case r => intro w'; go_simp; try with_reducible rfl
 try simp only [Nm]
 refine Vq 17 ?_ rfl (by kernel_rfl) hP (by rfl) ?r hH ?_; case r => intro w'; go_simp; try with_reducible rfl
 try simp only [Nm]
 try simp only [hdh]
 refine Vq 18 ?_ rfl (by kernel_rfl) hP (by rfl) ?r hH ?_; case r => intro w'; go_simp; try with_reducible rfl
 try simp only [Nm]
 refine Vq 19 ?_ rfl (by kernel_rfl) hP (by rfl) ?r hH ?_; case r => intro w'; go_simp; try with_reducible rfl
 try simp only [Nm]
 refine Vq 20 ?_ rfl (by kernel_rfl) hP (by rfl) ?r hH ?_; case r => intro w'; go_simp; try with_reducible rfl
 try simp only [Nm]
 try simp only [hdd]
 refine Vq 21 ?_ rfl (by kernel_rfl) hP (by rfl) ?r hH ?_; case r => intro w'; go_simp; try with_reducible rfl
 try simp only [Nm]
 refine Vq 22 ?_ rfl (by kernel_rfl) hP (by rfl) ?r hH ?_; case r => intro w'; go_simp; try with_reducible rfl
 try simp only [Nm]
 refine Vn 23 rfl (by kernel_rfl) hP (by rfl) hH ?_
 try simp only [Nm]
 refine Vn 24 rfl (by kernel_rfl) hP (by rfl) hH ?_
 try simp only [Nm]
 refine Vn 25 rfl (by kernel_rfl) hP (by rfl) hH ?_
 try simp only [Nm]
 refine Vn 26 rfl (by kernel_rfl) hP (by rfl) hH ?_
 try simp only [Nm]
 refine Vn 27 rfl (by kernel_rfl) hP (by rfl) hH ?_
 try simp only [Nm]
 refine Vn 28 rfl (by kernel_rfl) hP (by rfl) hH ?_
 try simp only [Nm]
 refine Vn 29 rfl (by kernel_rfl) hP (by rfl) hH ?_
 try simp only [Nm]
 refine Vq 30 ?_ rfl (by kernel_rfl) hP (by rfl) ?r hH ?_; case r => intro w'; go_simp; try with_reducible rfl
 try simp only [Nm]
 refine Vq 31 ?_ rfl (by kernel_rfl) hP (by rfl) ?r hH ?_; case r => intro w'; go_simp; try with_reducible rfl
 try simp only [Nm]
 refine wpAnyH_done (by kernel_rfl) ?_ _
 go_wp2_with fail
 refine (moveBegun_any _).mono ?_
 rintro e w9 ⟨rfl, hb9⟩
 go_wp2_with fail
 go_ret
 exact ⟨rfl, hB.trans ((hC1.trans (hb9.mono hC1.size)).mono hB.size)⟩))
 · (
 have hdh : (hE == 0) = false := by simp [hzh]
 clear hzh
 refine wp_region_held_drew (S := fun w' => w'.cell? ⟨w.heap.size, 0, none⟩ = some (.int .i64 regs) ∧ w'.cell? ⟨w.heap.size, 1, none⟩ = some (.slice A l.length cap) ∧ w'.cell? ⟨gc, 0, none⟩ = some (.int .i64 cR) ∧ w'.cell? ⟨gc, 1, none⟩ = some (.slice cA cL.length ca) ∧ w'.cell? ⟨gd, 0, none⟩ = some (.int .i64 dR) ∧ w'.cell? ⟨gd, 1, none⟩ = some (.slice dA dL.length da)) (by kernel_rfl) ⟨p0, p1, c0, c1, d0, d1⟩ ?_
 intro hH
 have hC0 : Below W7.heap.size W7 W7.drew := (Below.refl _ _).drew
 refine Up (fun _ _ _ _ _ => id) fun hP => ?_
 refine Vq 0 ?_ rfl (by kernel_rfl) hP (by rfl) ?r hH ?_; case r => intro w'; go_simp; try with_reducible rfl
 try simp only [Nm]
 refine Vq 1 ?_ rfl (by kernel_rfl) hP (by rfl) ?r hH ?_; case r => intro w'; go_simp; try with_reducible rfl
 try simp only [Nm]
 try simp only [hdg]
 refine Vq 2 ?_ rfl (by kernel_rfl) hP (by rfl) ?r hH ?_; case r => intro w'; go_simp; try with_reducible rfl
 try simp only [Nm]
 refine Vq 3 ?_ rfl (by kernel_rfl) hP (by rfl) ?r hH ?_; case r => intro w'; go_simp; try with_reducible rfl
 try simp only [Nm]
 refine Vq 4 ?_ rfl (by kernel_rfl) hP (by rfl) ?r hH ?_; case r => intro w'; go_simp; try with_reducible rfl
 try simp only [Nm]
 try simp only [hdc]
 refine Vq 5 ?_ rfl (by kernel_rfl) hP (by rfl) ?r hH ?_; case r => intro w'; go_simp; try with_reducible rfl
 try simp only [Nm]
 refine Vq 6 ?_ rfl (by kernel_rfl) hP (by rfl) ?r hH ?_; case r => intro w'; go_simp; try with_reducible rfl
 try simp only [Nm]
 refine Vi 7 ?_ rfl (by kernel_rfl) hP (by rfl) ?r hH ?_; case r => intro w' h; (try dsimp only at h); (try go_split_ands); go_simp; try with_reducible rfl
 try simp only [Nm]
 refine Vi 8 ?_ rfl (by kernel_rfl) hP (by rfl) ?r hH ?_; case r => intro w' h; (try dsimp only at h); (try go_split_ands); go_simp; try with_reducible rfl
 try simp only [Nm]
 refine Vq 9 ?_ rfl (by kernel_rfl) hP (by rfl) ?r hH ?_; case r => intro w'; go_simp; try with_reducible rfl
 try simp only [Nm]
 refine Vq 11 ?_ rfl (by kernel_rfl) hP (by rfl) ?r hH ?_; case r => intro w'; go_simp; try with_reducible rfl
 try simp only [Nm]
 refine Rd 10 (by kernel_rfl) rfl (fun K hK => ?_)
 have HK10 := hide hK
 clear hK
 go_simp
 go_at_call 13
 refine ((HF _).out).mono ?_
 rintro e w0 ⟨rfl, rfl⟩
 refine Shut.out HK10.out _ _ hH (fun _ => ?_)
 try simp only [Nm]
 clear HK10
 refine Rd 12 (by kernel_rfl) rfl (fun K hK => ?_)
 have HK12 := hide hK
 clear hK
 go_simp
 go_at_call 16
 refine ((HDoc _ hC0).out).mono ?_
 rintro e V1 ⟨rfl, hbV1⟩
 have hC1 : Below W7.heap.size W7 V1 := hC0.trans (hbV1.mono hC0.size)
 clear hH
 have hH : V1.cell? ⟨w.heap.size, 0, none⟩ = some (.int .i64 regs) ∧ V1.cell? ⟨w.heap.size, 1, none⟩ = some (.slice A l.length cap) ∧ V1.cell? ⟨gc, 0, none⟩ = some (.int .i64 cR) ∧ V1.cell? ⟨gc, 1, none⟩ = some (.slice cA cL.length ca) ∧ V1.cell? ⟨gd, 0, none⟩ = some (.int .i64 dR) ∧ V1.cell? ⟨gd, 1, none⟩ = some (.slice dA dL.length da) := ⟨((bcell hC1).1 _ _ lp).trans p0, ((bcell hC1).1 _ _ lp).trans p1, ((bcell hC1).1 _ _ lc).trans c0, ((bcell hC1).1 _ _ lc).trans c1, ((bcell hC1).1 _ _ ld).trans d0, ((bcell hC1).1 _ _ ld).trans d1⟩
 refine Shut.out HK12.out _ _ hH (fun _ => ?_)
 try simp only [Nm]
 clear HK12
 refine Vq 13 ?_ rfl (by kernel_rfl) hP (by rfl) ?r hH ?_; case r => intro w'; go_simp; try with_reducible rfl
 try simp only [Nm]
 refine Vq 14 ?_ rfl (by kernel_rfl) hP (by rfl) ?r hH ?_; case r => intro w'; go_simp; try with_reducible rfl
 try simp only [Nm]
 refine Vq 15 ?_ rfl (by kernel_rfl) hP (by rfl) ?r hH ?_; case r => intro w'; go_simp; try with_reducible rfl
 try simp only [Nm]
 refine Vq 16 ?_ rfl (by kernel_rfl) hP (by rfl) ?r hH ?_; case r => intro w'; go_simp; try with_reducible rfl
 try simp only [Nm]
 refine Vq 17 ?_ rfl (by kernel_rfl) hP (by rfl) ?r hH ?_; case r => intro w'; go_simp; try with_reducible rfl
 try simp only [Nm]
 try simp only [hdh]
 refine Vq 18 ?_ rfl (by kernel_rfl) hP (by rfl) ?r hH ?_; case r => intro w'; go_simp; try with_reducible rfl
 try simp only [Nm]
 refine Vn 19 rfl (by kernel_rfl) hP (by rfl) hH ?_
 try simp only [Nm]
 refine Vn 20 rfl (by kernel_rfl) hP (by rfl) hH ?_
 try simp only [Nm]
 refine Vq 21 ?_ rfl (by kernel_rfl) hP (by rfl) ?r hH ?_; case r => intro w'; go_simp; try with_reducible rfl
 try simp only [Nm]
 refine Vq 22 ?_ rfl (by kernel_rfl) hP (by rfl) ?r hH ?_; case r => intro w'; go_simp; try with_reducible rfl
 try simp only [Nm]
 refine Vn 23 rfl (by kernel_rfl) hP (by rfl) hH ?_
 try simp only [Nm]
 refine Vn 24 rfl (by kernel_rfl) hP (by rfl) hH ?_
 try simp only [Nm]
 refine Vn 25 rfl (by kernel_rfl) hP (by rfl) hH ?_
 try simp only [Nm]
 refine Vn 26 rfl (by kernel_rfl) hP (by rfl) hH ?_
 try simp only [Nm]
 refine Vn 27 rfl (by kernel_rfl) hP (by rfl) hH ?_
 try simp only [Nm]
 refine Vn 28 rfl (by kernel_rfl) hP (by rfl) hH ?_
 try simp only [Nm]
 refine Vn 29 rfl (by kernel_rfl) hP (by rfl) hH ?_
 try simp only [Nm]
 refine Vq 30 ?_ rfl (by kernel_rfl) hP (by rfl) ?r hH ?_; case r => intro w'; go_simp; try with_reducible rfl
 try simp only [Nm]
 refine Vq 31 ?_ rfl (by kernel_rfl) hP (by rfl) ?r hH ?_; case r => intro w'; go_simp; try with_reducible rfl
 try simp only [Nm]
 refine wpAnyH_done (by kernel_rfl) ?_ _
 go_wp2_with fail
 refine (moveBegun_any _).mono ?_
 rintro e w9 ⟨rfl, hb9⟩
 go_wp2_with fail
 go_ret
 exact ⟨rfl, hB.trans ((hC1.trans (hb9.mono hC1.size)).mono hB.size)⟩))
 · (
 have hdc : (cE == 0) = false := by simp [hzc]
 clear hzc
 by_cases hzh : hE = 0
 · (
 have hdh : (hE == 0) = true := by simp [hzh]
 by_cases hzd : dE = 0
 · (
 have hdd : (dE == 0) = true := by simp [hzd]
 replace HDod := HDod hzh hzd
 clear hzd hzh
 refine wp_region_held_drew (S := fun w' => w'.cell? ⟨w.heap.size, 0, none⟩ = some (.int .i64 regs) ∧ w'.cell? ⟨w.heap.size, 1, none⟩ = some (.slice A l.length cap) ∧ w'.cell? ⟨gc, 0, none⟩ = some (.int .i64 cR) ∧ w'.cell? ⟨gc, 1, none⟩ = some (.slice cA cL.length ca) ∧ w'.cell? ⟨gd, 0, none⟩ = some (.int .i64 dR) ∧ w'.cell? ⟨gd, 1, none⟩ = some (.slice dA dL.length da)) (by kernel_rfl) ⟨p0, p1, c0, c1, d0, d1⟩ ?_
 intro hH
 have hC0 : Below W7.heap.size W7 W7.drew := (Below.refl _ _).drew
 refine Up (fun _ _ _ _ _ => id) fun hP => ?_
 refine Vq 0 ?_ rfl (by kernel_rfl) hP (by rfl) ?r hH ?_; case r => intro w'; go_simp; try with_reducible rfl
 try simp only [Nm]
 refine Vq 1 ?_ rfl (by kernel_rfl) hP (by rfl) ?r hH ?_; case r => intro w'; go_simp; try with_reducible rfl
 try simp only [Nm]
 try simp only [hdg]
 refine Vq 2 ?_ rfl (by kernel_rfl) hP (by rfl) ?r hH ?_; case r => intro w'; go_simp; try with_reducible rfl
 try simp only [Nm]
 refine Vq 3 ?_ rfl (by kernel_rfl) hP (by rfl) ?r hH ?_; case r => intro w'; go_simp; try with_reducible rfl
 try simp only [Nm]
 refine Vq 4 ?_ rfl (by kernel_rfl) hP (by rfl) ?r hH ?_; case r => intro w'; go_simp; try with_reducible rfl
 try simp only [Nm]
 try simp only [hdc]
 refine Vq 5 ?_ rfl (by kernel_rfl) hP (by rfl) ?r hH ?_; case r => intro w'; go_simp; try with_reducible rfl
 try simp only [Nm]
 refine Vq 6 ?_ rfl (by kernel_rfl) hP (by rfl) ?r hH ?_; case r => intro w'; go_simp; try with_reducible rfl
 try simp only [Nm]
 refine Vn 7 rfl (by kernel_rfl) hP (by rfl) hH ?_
 try simp only [Nm]
 refine Vn 8 rfl (by kernel_rfl) hP (by rfl) hH ?_
 try simp only [Nm]
 refine Vn 9 rfl (by kernel_rfl) hP (by rfl) hH ?_
 try simp only [Nm]
 refine Vn 10 rfl (by kernel_rfl) hP (by rfl) hH ?_
 try simp only [Nm]
 refine Vn 11 rfl (by kernel_rfl) hP (by rfl) hH ?_
 try simp only [Nm]
 refine Vn 12 rfl (by kernel_rfl) hP (by rfl) hH ?_
 try simp only [Nm]
 refine Vn 13 rfl (by kernel_rfl) hP (by rfl) hH ?_
 try simp only [Nm]
 refine Vq 14 ?_ rfl (by kernel_rfl) hP (by rfl) ?r hH ?_; case r => intro w'; go_simp; try with_reducible rfl
 try simp only [Nm]
 refine Vq 15 ?_ rfl (by kernel_rfl) hP (by rfl) ?r hH ?_; case r => intro w'; go_simp; try with_reducible rfl
 try simp only [Nm]
 refine Vq 16 ?_ rfl (by kernel_rfl) hP (by rfl) ?r hH ?_; case r => intro w'; go_simp; try with_reducible rfl
 try simp only [Nm]
 refine Vq 17 ?_ rfl (by kernel_rfl) hP (by rfl) ?r hH ?_; case r => intro w'; go_simp; try with_reducible rfl
 try simp only [Nm]
 try simp only [hdh]
 refine Vq 18 ?_ rfl (by kernel_rfl) hP (by rfl) ?r hH ?_; case r => intro w'; go_simp; try with_reducible rfl
 try simp only [Nm]
 refine Vq 19 ?_ rfl (by kernel_rfl) hP (by rfl) ?r hH ?_; case r => intro w'; go_simp; try with_reducible rfl
 try simp only [Nm]
 refine Vq 20 ?_ rfl (by kernel_rfl) hP (by rfl) ?r hH ?_; case r => intro w'; go_simp; try with_reducible rfl
 try simp only [Nm]
 try simp only [hdd]
 refine Vq 21 ?_ rfl (by kernel_rfl) hP (by rfl) ?r hH ?_; case r => intro w'; go_simp; try with_reducible rfl
 try simp only [Nm]
 refine Vq 22 ?_ rfl (by kernel_rfl) hP (by rfl) ?r hH ?_; case r => intro w'; go_simp; try with_reducible rfl
 try simp only [Nm]
 refine Vi 23 ?_ rfl (by kernel_rfl) hP (by rfl) ?r hH ?_; case r => intro w' h; (try dsimp only at h); (try go_split_ands); go_simp; try with_reducible rfl
 try simp only [Nm]
 refine Vi 24 ?_ rfl (by kernel_rfl) hP (by rfl) ?r hH ?_; case r => intro w' h; (try dsimp only at h); (try go_split_ands); go_simp; try with_reducible rfl
 try simp only [Nm]
 refine Vq 25 ?_ rfl (by kernel_rfl) hP (by rfl) ?r hH ?_; case r => intro w'; go_simp; try with_reducible rfl
 try simp only [Nm]
 refine Vq 27 ?_ rfl (by kernel_rfl) hP (by rfl) ?r hH ?_; case r => intro w'; go_simp; try with_reducible rfl
 try simp only [Nm]
 refine Rd 26 (by kernel_rfl) rfl (fun K hK => ?_)
 have HK26 := hide hK
 clear hK
 go_simp
 go_at_call 13
 refine ((HF _).out).mono ?_
 rintro e w0 ⟨rfl, rfl⟩
 refine Shut.out HK26.out _ _ hH (fun _ => ?_)
 try simp only [Nm]
 clear HK26
 refine Rd 28 (by kernel_rfl) rfl (fun K hK => ?_)
 have HK28 := hide hK
 clear hK
 go_simp
 go_at_call 16
 refine ((HDod _ hC0).out).mono ?_
 rintro e V1 ⟨rfl, hbV1⟩
 have hC1 : Below W7.heap.size W7 V1 := hC0.trans (hbV1.mono hC0.size)
 clear hH
 have hH : V1.cell? ⟨w.heap.size, 0, none⟩ = some (.int .i64 regs) ∧ V1.cell? ⟨w.heap.size, 1, none⟩ = some (.slice A l.length cap) ∧ V1.cell? ⟨gc, 0, none⟩ = some (.int .i64 cR) ∧ V1.cell? ⟨gc, 1, none⟩ = some (.slice cA cL.length ca) ∧ V1.cell? ⟨gd, 0, none⟩ = some (.int .i64 dR) ∧ V1.cell? ⟨gd, 1, none⟩ = some (.slice dA dL.length da) := ⟨((bcell hC1).1 _ _ lp).trans p0, ((bcell hC1).1 _ _ lp).trans p1, ((bcell hC1).1 _ _ lc).trans c0, ((bcell hC1).1 _ _ lc).trans c1, ((bcell hC1).1 _ _ ld).trans d0, ((bcell hC1).1 _ _ ld).trans d1⟩
 refine Shut.out HK28.out _ _ hH (fun _ => ?_)
 try simp only [Nm]
 clear HK28
 refine Vq 29 ?_ rfl (by kernel_rfl) hP (by rfl) ?r hH ?_; case r => intro w'; go_simp; try with_reducible rfl
 try simp only [Nm]
 refine Vq 30 ?_ rfl (by kernel_rfl) hP (by rfl) ?r hH ?_; case r => intro w'; go_simp; try with_reducible rfl
 try simp only [Nm]
 refine Vq 31 ?_ rfl (by kernel_rfl) hP (by rfl) ?r hH ?_; case r => intro w'; go_simp; try with_reducible rfl
 try simp only [Nm]
 refine wpAnyH_done (by kernel_rfl) ?_ _
 go_wp2_with fail
 refine (moveBegun_any _).mono ?_
 rintro e w9 ⟨rfl, hb9⟩
 go_wp2_with fail
 go_ret
 exact ⟨rfl, hB.trans ((hC1.trans (hb9.mono hC1.size)).mono hB.size)⟩)
 · (
 have hdd : (dE == 0) = false := by simp [hzd]
 clear hzd hzh
 refine wp_region_held_drew (S := fun w' => w'.cell? ⟨w.heap.size, 0, none⟩ = some (.int .i64 regs) ∧ w'.cell? ⟨w.heap.size, 1, none⟩ = some (.slice A l.length cap) ∧ w'.cell? ⟨gc, 0, none⟩ = some (.int .i64 cR) ∧ w'.cell? ⟨gc, 1, none⟩ = some (.slice cA cL.length ca) ∧ w'.cell? ⟨gd, 0, none⟩ = some (.int .i64 dR) ∧ w'.cell? ⟨gd, 1, none⟩ = some (.slice dA dL.length da)) (by kernel_rfl) ⟨p0, p1, c0, c1, d0, d1⟩ ?_
 intro hH
 have hC0 : Below W7.heap.size W7 W7.drew := (Below.refl _ _).drew
 refine Up (fun _ _ _ _ _ => id) fun hP => ?_
 refine Vq 0 ?_ rfl (by kernel_rfl) hP (by rfl) ?r hH ?_; case r => intro w'; go_simp; try with_reducible rfl
 try simp only [Nm]
 refine Vq 1 ?_ rfl (by kernel_rfl) hP (by rfl) ?r hH ?_; case r => intro w'; go_simp; try with_reducible rfl
 try simp only [Nm]
 try simp only [hdg]
 refine Vq 2 ?_ rfl (by kernel_rfl) hP (by rfl) ?r hH ?_; case r => intro w'; go_simp; try with_reducible rfl
 try simp only [Nm]
 refine Vq 3 ?_ rfl (by kernel_rfl) hP (by rfl) ?r hH ?_; case r => intro w'; go_simp; try with_reducible rfl
 try simp only [Nm]
 refine Vq 4 ?_ rfl (by kernel_rfl) hP (by rfl) ?r hH ?_; case r => intro w'; go_simp; try with_reducible rfl
 try simp only [Nm]
 try simp only [hdc]
 refine Vq 5 ?_ rfl (by kernel_rfl) hP (by rfl) ?r hH ?_; case r => intro w'; go_simp; try with_reducible rfl
 try simp only [Nm]
 refine Vq 6 ?_ rfl (by kernel_rfl) hP (by rfl) ?r hH ?_; case r => intro w'; go_simp; try with_reducible rfl
 try simp only [Nm]
 refine Vn 7 rfl (by kernel_rfl) hP (by rfl) hH ?_
 try simp only [Nm]
 refine Vn 8 rfl (by kernel_rfl) hP (by rfl) hH ?_
 try simp only [Nm]
 refine Vn 9 rfl (by kernel_rfl) hP (by rfl) hH ?_
 try simp only [Nm]
 refine Vn 10 rfl (by kernel_rfl) hP (by rfl) hH ?_
 try simp only [Nm]
 refine Vn 11 rfl (by kernel_rfl) hP (by rfl) hH ?_
 try simp only [Nm]
 refine Vn 12 rfl (by kernel_rfl) hP (by rfl) hH ?_
 try simp only [Nm]
 refine Vn 13 rfl (by kernel_rfl) hP (by rfl) hH ?_
 try simp only [Nm]
 refine Vq 14 ?_ rfl (by kernel_rfl) hP (by rfl) ?r hH ?_; case r => intro w'; go_simp; try with_reducible rfl
 try simp only [Nm]
 refine Vq 15 ?_ rfl (by kernel_rfl) hP (by rfl) ?r hH ?_; case r => intro w'; go_simp; try with_reducible rfl
 try simp only [Nm]
 refine Vq 16 ?_ rfl (by kernel_rfl) hP (by rfl) ?r hH ?_; case r => intro w'; go_simp; try with_reducible rfl
 try simp only [Nm]
 refine Vq 17 ?_ rfl (by kernel_rfl) hP (by rfl) ?r hH ?_; case r => intro w'; go_simp; try with_reducible rfl
 try simp only [Nm]
 try simp only [hdh]
 refine Vq 18 ?_ rfl (by kernel_rfl) hP (by rfl) ?r hH ?_; case r => intro w'; go_simp; try with_reducible rfl
 try simp only [Nm]
 refine Vq 19 ?_ rfl (by kernel_rfl) hP (by rfl) ?r hH ?_; case r => intro w'; go_simp; try with_reducible rfl
 try simp only [Nm]
 refine Vq 20 ?_ rfl (by kernel_rfl) hP (by rfl) ?r hH ?_; case r => intro w'; go_simp; try with_reducible rfl
 try simp only [Nm]
 try simp only [hdd]
 refine Vq 21 ?_ rfl (by kernel_rfl) hP (by rfl) ?r hH ?_; case r => intro w'; go_simp; try with_reducible rfl
 try simp only [Nm]
 refine Vq 22 ?_ rfl (by kernel_rfl) hP (by rfl) ?r hH ?_; case r => intro w'; go_simp; try with_reducible rfl
 try simp only [Nm]
 refine Vn 23 rfl (by kernel_rfl) hP (by rfl) hH ?_
 try simp only [Nm]
 refine Vn 24 rfl (by kernel_rfl) hP (by rfl) hH ?_
 try simp only [Nm]
 refine Vn 25 rfl (by kernel_rfl) hP (by rfl) hH ?_
 try simp only [Nm]
 refine Vn 26 rfl (by kernel_rfl) hP (by rfl) hH ?_
 try simp only [Nm]
 refine Vn 27 rfl (by kernel_rfl) hP (by rfl) hH ?_
 try simp only [Nm]
 refine Vn 28 rfl (by kernel_rfl) hP (by rfl) hH ?_
 try simp only [Nm]
 refine Vn 29 rfl (by kernel_rfl) hP (by rfl) hH ?_
 try simp only [Nm]
 refine Vq 30 ?_ rfl (by kernel_rfl) hP (by rfl) ?r hH ?_; case r => intro w'; go_simp; try with_reducible rfl
 try simp only [Nm]
 refine Vq 31 ?_ rfl (by kernel_rfl) hP (by rfl) ?r hH ?_; case r => intro w'; go_simp; try with_reducible rfl
 try simp only [Nm]
 refine wpAnyH_done (by kernel_rfl) ?_ _
 go_wp2_with fail
 refine (moveBegun_any _).mono ?_
 rintro e w9 ⟨rfl, hb9⟩
 go_wp2_with fail
 go_ret
 exact ⟨rfl, hB.trans ((hC0.trans (hb9.mono hC0.size)).mono hB.size)⟩))
 · (
 have hdh : (hE == 0) = false := by simp [hzh]
 clear hzh
 refine wp_region_held_drew (S := fun w' => w'.cell? ⟨w.heap.size, 0, none⟩ = some (.int .i64 regs) ∧ w'.cell? ⟨w.heap.size, 1, none⟩ = some (.slice A l.length cap) ∧ w'.cell? ⟨gc, 0, none⟩ = some (.int .i64 cR) ∧ w'.cell? ⟨gc, 1, none⟩ = some (.slice cA cL.length ca) ∧ w'.cell? ⟨gd, 0, none⟩ = some (.int .i64 dR) ∧ w'.cell? ⟨gd, 1, none⟩ = some (.slice dA dL.length da)) (by kernel_rfl) ⟨p0, p1, c0, c1, d0, d1⟩ ?_
 intro hH
 have hC0 : Below W7.heap.size W7 W7.drew := (Below.refl _ _).drew
 refine Up (fun _ _ _ _ _ => id) fun hP => ?_
 refine Vq 0 ?_ rfl (by kernel_rfl) hP (by rfl) ?r hH ?_; case r => intro w'; go_simp; try with_reducible rfl
 try simp only [Nm]
 refine Vq 1 ?_ rfl (by kernel_rfl) hP (by rfl) ?r hH ?_; case r => intro w'; go_simp; try with_reducible rfl
 try simp only [Nm]
 try simp only [hdg]
 refine Vq 2 ?_ rfl (by kernel_rfl) hP (by rfl) ?r hH ?_; case r => intro w'; go_simp; try with_reducible rfl
 try simp only [Nm]
 refine Vq 3 ?_ rfl (by kernel_rfl) hP (by rfl) ?r hH ?_; case r => intro w'; go_simp; try with_reducible rfl
 try simp only [Nm]
 refine Vq 4 ?_ rfl (by kernel_rfl) hP (by rfl) ?r hH ?_; case r => intro w'; go_simp; try with_reducible rfl
 try simp only [Nm]
 try simp only [hdc]
 refine Vq 5 ?_ rfl (by kernel_rfl) hP (by rfl) ?r hH ?_; case r => intro w'; go_simp; try with_reducible rfl
 try simp only [Nm]
 refine Vq 6 ?_ rfl (by kernel_rfl) hP (by rfl) ?r hH ?_; case r => intro w'; go_simp; try with_reducible rfl
 try simp only [Nm]
 refine Vn 7 rfl (by kernel_rfl) hP (by rfl) hH ?_
 try simp only [Nm]
 refine Vn 8 rfl (by kernel_rfl) hP (by rfl) hH ?_
 try simp only [Nm]
 refine Vn 9 rfl (by kernel_rfl) hP (by rfl) hH ?_
 try simp only [Nm]
 refine Vn 10 rfl (by kernel_rfl) hP (by rfl) hH ?_
 try simp only [Nm]
 refine Vn 11 rfl (by kernel_rfl) hP (by rfl) hH ?_
 try simp only [Nm]
 refine Vn 12 rfl (by kernel_rfl) hP (by rfl) hH ?_
 try simp only [Nm]
 refine Vn 13 rfl (by kernel_rfl) hP (by rfl) hH ?_
 try simp only [Nm]
 refine Vq 14 ?_ rfl (by kernel_rfl) hP (by rfl) ?r hH ?_; case r => intro w'; go_simp; try with_reducible rfl
 try simp only [Nm]
 refine Vq 15 ?_ rfl (by kernel_rfl) hP (by rfl) ?r hH ?_; case r => intro w'; go_simp; try with_reducible rfl
 try simp only [Nm]
 refine Vq 16 ?_ rfl (by kernel_rfl) hP (by rfl) ?r hH ?_; case r => intro w'; go_simp; try with_reducible rfl
 try simp only [Nm]
 refine Vq 17 ?_ rfl (by kernel_rfl) hP (by rfl) ?r hH ?_; case r => intro w'; go_simp; try with_reducible rfl
 try simp only [Nm]
 try simp only [hdh]
 refine Vq 18 ?_ rfl (by kernel_rfl) hP (by rfl) ?r hH ?_; case r => intro w'; go_simp; try with_reducible rfl
 try simp only [Nm]
 refine Vn 19 rfl (by kernel_rfl) hP (by rfl) hH ?_
 try simp only [Nm]
 refine Vn 20 rfl (by kernel_rfl) hP (by rfl) hH ?_
 try simp only [Nm]
 refine Vq 21 ?_ rfl (by kernel_rfl) hP (by rfl) ?r hH ?_; case r => intro w'; go_simp; try with_reducible rfl
 try simp only [Nm]
 refine Vq 22 ?_ rfl (by kernel_rfl) hP (by rfl) ?r hH ?_; case r => intro w'; go_simp; try with_reducible rfl
 try simp only [Nm]
 refine Vn 23 rfl (by kernel_rfl) hP (by rfl) hH ?_
 try simp only [Nm]
 refine Vn 24 rfl (by kernel_rfl) hP (by rfl) hH ?_
 try simp only [Nm]
 refine Vn 25 rfl (by kernel_rfl) hP (by rfl) hH ?_
 try simp only [Nm]
 refine Vn 26 rfl (by kernel_rfl) hP (by rfl) hH ?_
 try simp only [Nm]
 refine Vn 27 rfl (by kernel_rfl) hP (by rfl) hH ?_
 try simp only [Nm]
 refine Vn 28 rfl (by kernel_rfl) hP (by rfl) hH ?_
 try simp only [Nm]
 refine Vn 29 rfl (by kernel_rfl) hP (by rfl) hH ?_
 try simp only [Nm]
 refine Vq 30 ?_ rfl (by kernel_rfl) hP (by rfl) ?r hH ?_; case r => intro w'; go_simp; try with_reducible rfl
 try simp only [Nm]
 refine Vq 31 ?_ rfl (by kernel_rfl) hP (by rfl) ?r hH ?_; case r => intro w'; go_simp; try with_reducible rfl
 try simp only [Nm]
 refine wpAnyH_done (by kernel_rfl) ?_ _
 go_wp2_with fail
 refine (moveBegun_any _).mono ?_
 rintro e w9 ⟨rfl, hb9⟩
 go_wp2_with fail
 go_ret
 exact ⟨rfl, hB.trans ((hC0.trans (hb9.mono hC0.size)).mono hB.size)⟩)))
 · (
 have hdg : (gE == 0) = false := by simp [hzg]
 have hzh := Hg hzg
 have hdh : (hE == 0) = false := by simp [hzh]
 clear hzg Hg hzh
 refine wp_region_held_drew (S := fun w' => w'.cell? ⟨w.heap.size, 0, none⟩ = some (.int .i64 regs) ∧ w'.cell? ⟨w.heap.size, 1, none⟩ = some (.slice A l.length cap) ∧ w'.cell? ⟨gc, 0, none⟩ = some (.int .i64 cR) ∧ w'.cell? ⟨gc, 1, none⟩ = some (.slice cA cL.length ca) ∧ w'.cell? ⟨gd, 0, none⟩ = some (.int .i64 dR) ∧ w'.cell? ⟨gd, 1, none⟩ = some (.slice dA dL.length da)) (by kernel_rfl) ⟨p0, p1, c0, c1, d0, d1⟩ ?_
 intro hH
 have hC0 : Below W7.heap.size W7 W7.drew := (Below.refl _ _).drew
 refine Up (fun _ _ _ _ _ => id) fun hP => ?_
 refine Vq 0 ?_ rfl (by kernel_rfl) hP (by rfl) ?r hH ?_; case r => intro w'; go_simp; try with_reducible rfl
 try simp only [Nm]
 refine Vq 1 ?_ rfl (by kernel_rfl) hP (by rfl) ?r hH ?_; case r => intro w'; go_simp; try with_reducible rfl
 try simp only [Nm]
 try simp only [hdg]
 refine Vq 2 ?_ rfl (by kernel_rfl) hP (by rfl) ?r hH ?_; case r => intro w'; go_simp; try with_reducible rfl
 try simp only [Nm]
 refine Vn 3 rfl (by kernel_rfl) hP (by rfl) hH ?_
 try simp only [Nm]
 refine Vn 4 rfl (by kernel_rfl) hP (by rfl) hH ?_
 try simp only [Nm]
 refine Vq 5 ?_ rfl (by kernel_rfl) hP (by rfl) ?r hH ?_; case r => intro w'; go_simp; try with_reducible rfl
 try simp only [Nm]
 refine Vq 6 ?_ rfl (by kernel_rfl) hP (by rfl) ?r hH ?_; case r => intro w'; go_simp; try with_reducible rfl
 try simp only [Nm]
 refine Vn 7 rfl (by kernel_rfl) hP (by rfl) hH ?_
 try simp only [Nm]
 refine Vn 8 rfl (by kernel_rfl) hP (by rfl) hH ?_
 try simp only [Nm]
 refine Vn 9 rfl (by kernel_rfl) hP (by rfl) hH ?_
 try simp only [Nm]
 refine Vn 10 rfl (by kernel_rfl) hP (by rfl) hH ?_
 try simp only [Nm]
 refine Vn 11 rfl (by kernel_rfl) hP (by rfl) hH ?_
 try simp only [Nm]
 refine Vn 12 rfl (by kernel_rfl) hP (by rfl) hH ?_
 try simp only [Nm]
 refine Vn 13 rfl (by kernel_rfl) hP (by rfl) hH ?_
 try simp only [Nm]
 refine Vq 14 ?_ rfl (by kernel_rfl) hP (by rfl) ?r hH ?_; case r => intro w'; go_simp; try with_reducible rfl
 try simp only [Nm]
 refine Vq 15 ?_ rfl (by kernel_rfl) hP (by rfl) ?r hH ?_; case r => intro w'; go_simp; try with_reducible rfl
 try simp only [Nm]
 refine Vq 16 ?_ rfl (by kernel_rfl) hP (by rfl) ?r hH ?_; case r => intro w'; go_simp; try with_reducible rfl
 try simp only [Nm]
 refine Vq 17 ?_ rfl (by kernel_rfl) hP (by rfl) ?r hH ?_; case r => intro w'; go_simp; try with_reducible rfl
 try simp only [Nm]
 try simp only [hdh]
 refine Vq 18 ?_ rfl (by kernel_rfl) hP (by rfl) ?r hH ?_; case r => intro w'; go_simp; try with_reducible rfl
 try simp only [Nm]
 refine Vn 19 rfl (by kernel_rfl) hP (by rfl) hH ?_
 try simp only [Nm]
 refine Vn 20 rfl (by kernel_rfl) hP (by rfl) hH ?_
 try simp only [Nm]
 refine Vq 21 ?_ rfl (by kernel_rfl) hP (by rfl) ?r hH ?_; case r => intro w'; go_simp; try with_reducible rfl
 try simp only [Nm]
 refine Vq 22 ?_ rfl (by kernel_rfl) hP (by rfl) ?r hH ?_; case r => intro w'; go_simp; try with_reducible rfl
 try simp only [Nm]
 refine Vn 23 rfl (by kernel_rfl) hP (by rfl) hH ?_
 try simp only [Nm]
 refine Vn 24 rfl (by kernel_rfl) hP (by rfl) hH ?_
 try simp only [Nm]
 refine Vn 25 rfl (by kernel_rfl) hP (by rfl) hH ?_
 try simp only [Nm]
 refine Vn 26 rfl (by kernel_rfl) hP (by rfl) hH ?_
 try simp only [Nm]
 refine Vn 27 rfl (by kernel_rfl) hP (by rfl) hH ?_
 try simp only [Nm]
 refine Vn 28 rfl (by kernel_rfl) hP (by rfl) hH ?_
 try simp only [Nm]
 refine Vn 29 rfl (by kernel_rfl) hP (by rfl) hH ?_
 try simp only [Nm]
 refine Vq 30 ?_ rfl (by kernel_rfl) hP (by rfl) ?r hH ?_; case r => intro w'; go_simp; try with_reducible rfl
 try simp only [Nm]
 refine Vq 31 ?_ rfl (by kernel_rfl) hP (by rfl) ?r hH ?_; case r => intro w'; go_simp; try with_reducible rfl
 try simp only [Nm]
 refine wpAnyH_done (by kernel_rfl) ?_ _
 go_wp2_with fail
 refine (moveBegun_any _).mono ?_
 rintro e w9 ⟨rfl, hb9⟩
 go_wp2_with fail
 go_ret
 exact ⟨rfl, hB.trans ((hC0.trans (hb9.mono hC0.size)).mono hB.size)⟩)))
theorem MoveSame_any (regs : Int) (A : Option Addr) (l : List Nd) (cap : Nat) (t : Tm) (X : Option Addr) (x : List Bool) (xc : Nat) (Ai : Option Addr) (inp : List Int) (ci : Nat) (fuel : Int) (w : World) (hA : NodesAt w A l) (hml : l.length ≤ maxLen) (hX : ValsAt w X (bools x)) (hI : ValsAt w Ai (ints inp)) (hic : inp.length ≤ ci ∧ ci ≤ maxLen) (hf : i64ok fuel) :
 Calls Try.prog 7 #[.agg #[.int .i64 regs, .slice A l.length cap], tmV t, .slice X x.length xc, .slice Ai inp.length ci, .int .i64 fuel] w fun e w' => e = .returned (.bool true) ∧ Below w.heap.size w w' := by (
 exact sameLaw_any regs A l cap t X x xc Ai inp ci fuel w hA hml hX hI hic hf)
end
end Go.Proofs.Ytmghkonmfbpjcab
