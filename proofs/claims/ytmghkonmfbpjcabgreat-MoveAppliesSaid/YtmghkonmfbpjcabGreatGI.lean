/- Mo Mb Mq RunK RunM RunS. -/
import Derived.Test.YtmghkonmfbpjcabGreatMvW
import Derived.Test.YtmghkonmfbpjcabGreatGH
import Derived.Test.YtmghkonmfbpjcabGreatGE
import Derived.Test.YtmghkonmfbpjcabGreatGG
import Derived.Test.YtmghkonmfbpjcabGreatSplitR
import Derived.Test.YtmghkonmfbpjcabGreatGA
import Derived.Test.YtmghkonmfbpjcabGreatMvI
import Derived.Test.YtmghkonmfbpjcabGreatGD
import Derived.Test.YtmghkonmfbpjcabGreatGB
import Derived.Deep.RegionHeld3
import Derived.Deep.QuietTactic
import Derived.Deep.DeepCutAuto
set_option linter.unusedVariables false
set_option linter.unusedSimpArgs false
set_option maxRecDepth 100000
namespace Go.Proofs.YtmghkonmfbpjcabGreat
section
open Go.RowKit
set_option maxHeartbeats 8000000
attribute [local irreducible] Row madeCells NRow
theorem NRow.far2_is {w W : World} {a base : Nat} {u1 u2 v : Value} {t : TypeId} {ls : List Nd} (e : W = (w.setCell ⟨a, 0, none⟩ u1).setCell ⟨a, 1, none⟩ u2) (h : NRow w base t v ls) (n1 : v.ownBlock ≠ some a) : NRow W base t v ls := by rw [e]; exact (h.far (p := ⟨a, 0, none⟩) n1 _).far (p := ⟨a, 1, none⟩) n1 _
theorem OneOf_any (regs : Int) (A : Option Addr) (l : List Nd) (cap : Nat) (t : Tm) (w : World) (hA : NodesAt w A l) :
 Calls Tryz.prog 19 #[.agg #[.int .i64 regs, .slice A l.length cap], .agg #[.int .i64 t.op, .int .i64 t.a, .int .i64 t.b]] w (OnePost 57 regs l t w) := by (
 have HFE := hide (fun W (hW : Below w.heap.size w W) => factsError_any regs A l cap t W (hA.below hW))
 have HN := hide (fun W (hW : Below w.heap.size w W) => hA.below hW)
 clear hA
 go_enter Tryz.func19, Tryz.ntmps19
 go_wp2_with fail
 refine (HFE.out _ (by (with_reducible repeat first | apply Qa | assumption | apply Qb | apply Qc | apply Qd | apply Qe | refine Qf ?_ (by assumption) ?_); all_goals (try simp only [Sz]); first | done | omega | (try simp only [Sz] at *); omega)).mono ?_
 rintro e w1 ⟨rfl, hb1⟩
 have hz1 := hb1.size
 simp only [World.size_alloc] at hz1
 have hB : Below w.heap.size w w1 := (by (with_reducible repeat first | apply Qa | assumption | apply Qb | apply Qc | apply Qd | apply Qe | refine Qf ?_ (by assumption) ?_); all_goals (try simp only [Sz]); first | done | omega | (try simp only [Sz] at *); omega)
 have hP : Blk w1 w.heap.size 24 #[.int .i64 regs, .slice A l.length cap] := Blk.below (by repeat (first | ((with_reducible refine Blk.new' ?_); exact (by (try simp only [Sz]); first | done | omega | (try simp only [Sz] at *); omega)) | (with_reducible refine Blk.alloc ?_ _))) hb1 (by simp <;> omega)
 have hT : Blk w1 (w.heap.size + 1) 26 (tmA t) := Blk.below (by unfold tmA; repeat (first | ((with_reducible refine Blk.new' ?_); exact (by (try simp only [Sz]); first | done | omega | (try simp only [Sz] at *); omega)) | (with_reducible refine Blk.alloc ?_ _))) hb1 (by simp <;> omega)
 have hO : Blk w1 (w.heap.size + 1 + 1) 24 #[.int .i64 0, .slice none 0 0] := Blk.below (by repeat (first | ((with_reducible refine Blk.new' ?_); exact (by (try simp only [Sz]); first | done | omega | (try simp only [Sz] at *); omega)) | (with_reducible refine Blk.alloc ?_ _))) hb1 (by simp <;> omega)
 clear hb1 hz1
 by_cases h0 : fxE regs l t = 0
 case neg => (
 have hE : oneE regs l t = fxE regs l t := by unfold oneE; rw [if_pos h0]
 have h0' : (fxE regs l t != 0) = true := by simp [h0]
 have H0 := hide h0
 have HE := hide hE
 clear h0 hE hP hT
 have o0 := hO.cell 0
 have o1 := hO.cell 1
 have f0 := hO.frozen 0
 have f1 := hO.frozen 1
 simp only [Yl] at o0 o1
 have lO := hO.lt
 go_wp2_with fail
 go_tidy
 refine bodyPost_ret (v := .tuple #[.agg #[.int .i64 0, .slice none 0 0], .int .i64 (fxE regs l t)]) (by simp [results, Tryz.results19, go_sem, o0, o1, f0, f1, World.cell?_setCell_same, World.cell?_setCell_other]; try rfl) rfl ?_
 exact ⟨(hB.setCell (by simp <;> omega) _).setCell (by simp <;> omega) _, .inl ⟨by rw [HE.out]; exact H0.out, by rw [HE.out]⟩⟩)
 case pos => (
 have hc0 := fxE_chk h0
 have hR := right_of_chk hc0
 have hlo := hR.lo
 have hhi := hR.hi
 have htl := trimL_len l
 have hop := fxE_op h0
 have Hop := hide hop
 have hRt := hR.trim
 have HTr := hide (fun W (hW : Below w.heap.size w W) => TrimOf_any regs A l cap W (HN.out _ hW) hR)
 have HOw := hide (fun W (hW : Below w.heap.size w W) => OwnProg_any regs A l cap W (HN.out _ hW) (by omega))
 have HRt := hide hRt
 have HC := hide hc0
 have H0 := hide h0
 rw [h0]
 clear hc0 hR hop hRt h0
 have p0 := hP.cell 0
 have p1 := hP.cell 1
 have t0 := hT.cell 0
 have t1 := hT.cell 1
 have t2 := hT.cell 2
 simp only [tmA, Yl] at p0 p1 t0 t1 t2
 have lp := hP.lt
 have lt' := hT.lt
 go_wp2_with fail
 refine (HTr.out _ hB).mono ?_
 rintro e w2 ⟨v, rfl, hr, hb2⟩
 obtain ⟨Tq, qc, hv, _, _⟩ := hr.shape
 subst hv
 clear p0 p1 t0 t1 t2 lp lt'
 replace hP := hP.below hb2 hP.lt
 replace hT := hT.below hb2 hT.lt
 replace hO := hO.below hb2 hO.lt
 replace hB := hB.trans (hb2.mono hB.size)
 clear hb2
 have hnq := hr.nodes
 clear hr
 have HSp := hide (SplitOf_any regs Tq (trimL l) qc w2 hnq HRt.out)
 go_wp2_with fail
 refine (HSp.out).mono ?_
 rintro e w3 ⟨hb3, h⟩
 replace hP := hP.below hb3 hP.lt
 replace hT := hT.below hb3 hT.lt
 replace hO := hO.below hb3 hO.lt
 replace hB := hB.trans (hb3.mono hB.size)
 clear hb3 HSp hnq
 rcases h with ⟨h256, rfl⟩ | ⟨h256, v, rfl, hr⟩
 · (
 change 256 < (oneQ l).length at h256
 have hE : oneE regs l t = 2 := by unfold oneE; rw [if_neg (by simp [H0.out]), if_pos h256]
 have HE := hide hE
 clear h256 hE
 go_upto_region 5 with fail
 obtain ⟨W3, hW3⟩ : ∃ W : World, W = w3.alloc (.cells #[.int .i64 0, .slice none 0 0] 24) := ⟨_, rfl⟩
 have hbW : Below w3.heap.size w3 W3 := by rw [hW3]; exact (Below.refl _ _).alloc (Nat.le_refl _) _
 rw [← hW3]
 replace hO := hO.below hbW hO.lt
 replace hB := hB.trans (hbW.mono hB.size)
 clear hW3 hbW hP hT
 have o0 := hO.cell 0
 have o1 := hO.cell 1
 have f0 := hO.frozen 0
 have f1 := hO.frozen 1
 simp only [Yl] at o0 o1
 have lO := hO.lt
 go_wp2_with fail
 go_tidy
 refine bodyPost_ret (v := .tuple #[.agg #[.int .i64 0, .slice none 0 0], .int .i64 2]) (by simp [results, Tryz.results19, go_sem, o0, o1, f0, f1, World.cell?_setCell_same, World.cell?_setCell_other]; try rfl) rfl ?_
 exact ⟨(hB.setCell (by simp <;> omega) _).setCell (by simp <;> omega) _, .inl ⟨by rw [HE.out]; decide, by rw [HE.out]⟩⟩)
 · (
 change (oneQ l).length ≤ 256 at h256
 change NRow w3 w2.heap.size _ v (oneQ l) at hr
 have hRq := oneQ_right HC.out h256
 have hqlo := hRq.lo
 have HRq := hide hRq
 have h6 : ¬ 256 < (oneQ l).length := by omega
 have H6 := hide h6
 clear hRq h6
 obtain ⟨Sq, sc, hv, _, _⟩ := hr.shape
 subst hv
 go_upto_region 5 with fail
 obtain ⟨W3, hW3⟩ : ∃ W : World, W = w3.alloc (.cells #[.int .i64 regs, .slice Sq (oneQ l).length sc] 24) := ⟨_, rfl⟩
 have hbW : Below w3.heap.size w3 W3 := by rw [hW3]; exact (Below.refl _ _).alloc (Nat.le_refl _) _
 have hQ : Blk W3 w3.heap.size 24 #[.int .i64 regs, .slice Sq (oneQ l).length sc] := by rw [hW3]; exact Blk.new' rfl
 rw [← hW3]
 replace hP := hP.below hbW hP.lt
 replace hT := hT.below hbW hT.lt
 replace hO := hO.below hbW hO.lt
 replace hr := hr.below' hbW
 replace hB := hB.trans (hbW.mono hB.size)
 clear hW3 hbW
 have hnq := hr.nodes
 clear hr
 have p0 := hP.cell 0
 have p1 := hP.cell 1
 have t0 := hT.cell 0
 have t1 := hT.cell 1
 have t2 := hT.cell 2
 simp only [tmA, Yl] at p0 p1 t0 t1 t2
 have lp := hP.lt
 have lt' := hT.lt
 have q0 := hQ.cell 0
 have q1 := hQ.cell 1
 have lq := hQ.lt
 simp only [Yl] at q0 q1
 have HLz := hide (LazyOf_any regs Sq (oneQ l) sc t W3 hnq HRq.out)
 go_wp2_with fail
 refine (HLz.out).mono ?_
 rintro e w4 ⟨hb4, F, v1, v2, hF, rfl, r1, r2⟩
 have hFe : F = fxOf t (oneQ l) := hF.unique (fxOf_is _ _)
 subst hFe
 clear hF HLz p0 p1 t0 t1 t2 lp lt' q0 q1 lq
 rw [lazyZ_eq _ HRq.out Hop.out] at r2
 change Row w4 W3.heap.size _ v1 (bools (oneX t l)) at r1
 change Row w4 W3.heap.size _ v2 (bools (oneY t l)) at r2
 obtain ⟨A1, c1, e1, _, _⟩ := r1.shape
 rw [bools_length] at e1
 subst e1
 obtain ⟨A2, c2, e2, _, _⟩ := r2.shape
 rw [bools_length] at e2
 subst e2
 have hnq := hnq.below hb4
 replace hP := hP.below hb4 hP.lt
 replace hT := hT.below hb4 hT.lt
 replace hO := hO.below hb4 hO.lt
 replace hQ := hQ.below hb4 hQ.lt
 replace hB := hB.trans (hb4.mono hB.size)
 clear hb4
 go_upto_region 8 with fail
 obtain ⟨W4, hW4⟩ : ∃ W : World, W = w4.alloc (.cells #[.slice A1 (oneX t l).length c1, .slice A2 (oneY t l).length c2] 29) := ⟨_, rfl⟩
 have hbW : Below w4.heap.size w4 W4 := by rw [hW4]; exact (Below.refl _ _).alloc (Nat.le_refl _) _
 have hL : Blk W4 w4.heap.size 29 #[.slice A1 (oneX t l).length c1, .slice A2 (oneY t l).length c2] := by rw [hW4]; exact Blk.new' rfl
 rw [← hW4]
 replace hP := hP.below hbW hP.lt
 replace hT := hT.below hbW hT.lt
 replace hO := hO.below hbW hO.lt
 replace hQ := hQ.below hbW hQ.lt
 replace r1 := r1.below' hbW
 replace r2 := r2.below' hbW
 replace hB := hB.trans (hbW.mono hB.size)
 have hnq := hnq.below hbW
 clear hW4 hbW
 have xv := r1.vals
 have yv := r2.vals
 have l0 := hL.cell 0
 have l1 := hL.cell 1
 simp only [Yl] at l0 l1
 have lL := hL.lt
 have HA1 := hide (anyOf_any A1 c1 (oneX t l) W4 xv (by rw [oneX_len]; simp [maxLen]; omega))
 have HA2 := hide (anyOf_any A2 c2 (oneY t l) W4 yv (by rw [oneY_len]; simp [maxLen]; omega))
 have han : oneAny t l = ((oneX t l).any id || (oneY t l).any id) := by unfold oneAny; rw [List.any_append]
 obtain ⟨ax, hax⟩ : ∃ b, b = (oneX t l).any id := ⟨_, rfl⟩
 obtain ⟨ay, hay⟩ : ∃ b, b = (oneY t l).any id := ⟨_, rfl⟩
 rw [← hax, ← hay] at han
 rw [← hax] at HA1
 rw [← hay] at HA2
 have Han := hide han
 clear han hax hay
 go_wp2_with fail
 refine (HA1.out).mono ?_
 rintro e w5 ⟨rfl, rfl⟩
 cases ax
 case true => (
 have han : oneAny t l = true := Han.out
 have hE : oneE regs l t = apE regs (oneQ l) t (oneX t l) (oneY t l) := by unfold oneE; rw [if_neg (by simp [H0.out]), if_neg H6.out, if_pos han, ap_ma]
 have hRr : oneR regs l t = regs + 1 := by unfold oneR; rw [if_pos han]
 have hLl : oneL regs l t = applyL regs t (oneX t l) (oneY t l) (oneQ l) := by unfold oneL; rw [if_pos han]
 have HE := hide hE
 have HRr := hide hRr
 have HLl := hide hLl
 clear hE hRr hLl han l0 l1 lL xv yv HA1 HA2
 have t0 := hT.cell 0
 have t1 := hT.cell 1
 have t2 := hT.cell 2
 have q0 := hQ.cell 0
 have q1 := hQ.cell 1
 have l0 := hL.cell 0
 have l1 := hL.cell 1
 simp only [tmA, Yl] at t0 t1 t2 q0 q1 l0 l1
 have lt' := hT.lt
 have lq := hQ.lt
 have lL := hL.lt
 have HAe := hide (ApplyError_any regs Sq (oneQ l) sc t A1 A2 (oneX t l) (oneY t l) c1 c2 w5 hnq r1.vals r2.vals)
 go_wp2_with fail
 refine (HAe.out).mono ?_
 rintro e w6 ⟨rfl, hb6⟩
 have hnq := hnq.below hb6
 clear HAe t0 t1 t2 q0 q1 l0 l1 lt' lq lL
 replace hT := hT.below hb6 hT.lt
 replace hO := hO.below hb6 hO.lt
 replace hQ := hQ.below hb6 hQ.lt
 replace hL := hL.below hb6 hL.lt
 replace r1 := r1.below' hb6
 replace r2 := r2.below' hb6
 replace hB := hB.trans (hb6.mono hB.size)
 clear hb6 hP
 by_cases hz : apE regs (oneQ l) t (oneX t l) (oneY t l) = 0
 case neg => (
 have hz' : (apE regs (oneQ l) t (oneX t l) (oneY t l) != 0) = true := by simp [hz]
 have HZ := hide hz
 clear hz hT hQ hL r1 r2
 have o0 := hO.cell 0
 have o1 := hO.cell 1
 have f0 := hO.frozen 0
 have f1 := hO.frozen 1
 simp only [Yl] at o0 o1
 have lO := hO.lt
 go_wp2_with fail
 go_tidy
 refine bodyPost_ret (v := .tuple #[.agg #[.int .i64 0, .slice none 0 0], .int .i64 (apE regs (oneQ l) t (oneX t l) (oneY t l))]) (by simp [results, Tryz.results19, go_sem, o0, o1, f0, f1, World.cell?_setCell_same, World.cell?_setCell_other]; try rfl) rfl ?_
 exact ⟨(hB.setCell (by simp <;> omega) _).setCell (by simp <;> omega) _, .inl ⟨by rw [HE.out]; exact HZ.out, by rw [HE.out]⟩⟩)
 case pos => (
 rw [hz]
 have HZ := hide hz
 clear hz
 have t0 := hT.cell 0
 have t1 := hT.cell 1
 have t2 := hT.cell 2
 have q0 := hQ.cell 0
 have q1 := hQ.cell 1
 have l0 := hL.cell 0
 have l1 := hL.cell 1
 simp only [tmA, Yl] at t0 t1 t2 q0 q1 l0 l1
 have lt' := hT.lt
 have lq := hQ.lt
 have lL := hL.lt
 have HAo := hide (ApplyOf_any regs Sq (oneQ l) sc t A1 A2 (oneX t l) (oneY t l) c1 c2 w6 hnq r1.vals r2.vals HRq.out (oneX_len t l) (oneY_len t l))
 go_wp2_with fail
 refine (HAo.out).mono ?_
 rintro e w7 ⟨v, rfl, hr, hb7⟩
 clear HAo t0 t1 t2 q0 q1 l0 l1 lt' lq lL hT hQ hL r1 r2
 replace hr := hr.mono hB.size
 replace hO := hO.below hb7 hO.lt
 replace hB := hB.trans (hb7.mono hB.size)
 obtain ⟨Ac, cc, ev, _, _⟩ := hr.shape
 subst ev
 obtain ⟨N, hN⟩ : ∃ N, N = (applyL regs t (oneX t l) (oneY t l) (oneQ l)).length := ⟨_, rfl⟩
 rw [← hN] at hr ⊢
 have hnO := hr.ne_blk hO (by decide)
 have Q := hide ((hr.far (p := ⟨w.heap.size + 1 + 1, 0, none⟩) hnO (.int .i64 (regs + 1))).far (p := ⟨w.heap.size + 1 + 1, 1, none⟩) hnO (.slice Ac N cc))
 clear hb7 hr hnO hN
 have o0 := hO.cell 0
 have o1 := hO.cell 1
 have f0 := hO.frozen 0
 have f1 := hO.frozen 1
 simp only [Yl] at o0 o1
 have lO := hO.lt
 go_wp2_with fail
 go_tidy
 refine bodyPost_ret (v := .tuple #[.agg #[.int .i64 (regs + 1), .slice Ac N cc], .int .i64 0]) (by simp [results, Tryz.results19, go_sem, o0, o1, f0, f1, World.cell?_setCell_same, World.cell?_setCell_other]; try rfl) rfl ?_
 exact ⟨(hB.setCell (by simp <;> omega) _).setCell (by simp <;> omega) _, .inr ⟨by rw [HE.out]; exact HZ.out, _, by rw [HRr.out], by rw [HLl.out]; exact Q.out⟩⟩))
 case false => (
 go_wp2_with fail
 refine (HA2.out).mono ?_
 rintro e w8 ⟨rfl, rfl⟩
 cases ay
 case false => (
 have han : oneAny t l = false := Han.out
 have hE : oneE regs l t = 0 := by unfold oneE; rw [if_neg (by simp [H0.out]), if_neg H6.out, if_neg (by rw [han]; simp)]
 have hRr : oneR regs l t = regs := by unfold oneR; rw [if_neg (by rw [han]; simp)]
 have hLl : oneL regs l t = l := by unfold oneL; rw [if_neg (by rw [han]; simp)]
 have HE := hide hE
 have HRr := hide hRr
 have HLl := hide hLl
 clear hE hRr hLl han l0 l1 lL xv yv hL hQ r1 r2 HA1 HA2 hnq
 have p0 := hP.cell 0
 have p1 := hP.cell 1
 have t0 := hT.cell 0
 have t1 := hT.cell 1
 have t2 := hT.cell 2
 simp only [tmA, Yl] at p0 p1 t0 t1 t2
 have lp := hP.lt
 have lt' := hT.lt
 go_wp2_with fail
 refine (HOw.out _ hB).mono ?_
 rintro e w6 ⟨v, rfl, hr, hb6⟩
 clear p0 p1 t0 t1 t2 lp lt'
 replace hr := hr.mono hB.size
 replace hO := hO.below hb6 hO.lt
 replace hB := hB.trans (hb6.mono hB.size)
 obtain ⟨Ac, cc, ev, _, _⟩ := hr.shape
 subst ev
 have hnO := hr.ne_blk hO (by decide)
 have Q := hide ((hr.far (p := ⟨w.heap.size + 1 + 1, 0, none⟩) hnO (.int .i64 regs)).far (p := ⟨w.heap.size + 1 + 1, 1, none⟩) hnO (.slice Ac l.length cc))
 clear hb6 hr hnO
 have o0 := hO.cell 0
 have o1 := hO.cell 1
 have f0 := hO.frozen 0
 have f1 := hO.frozen 1
 simp only [Yl] at o0 o1
 have lO := hO.lt
 go_wp2_with fail
 go_tidy
 refine bodyPost_ret (v := .tuple #[.agg #[.int .i64 regs, .slice Ac l.length cc], .int .i64 0]) (by simp [results, Tryz.results19, go_sem, o0, o1, f0, f1, World.cell?_setCell_same, World.cell?_setCell_other]; try rfl) rfl ?_
 exact ⟨(hB.setCell (by simp <;> omega) _).setCell (by simp <;> omega) _, .inr ⟨HE.out, _, by rw [HRr.out], by rw [HLl.out]; exact Q.out⟩⟩)
 case true => (
 have han : oneAny t l = true := Han.out
 have hE : oneE regs l t = apE regs (oneQ l) t (oneX t l) (oneY t l) := by unfold oneE; rw [if_neg (by simp [H0.out]), if_neg H6.out, if_pos han, ap_ma]
 have hRr : oneR regs l t = regs + 1 := by unfold oneR; rw [if_pos han]
 have hLl : oneL regs l t = applyL regs t (oneX t l) (oneY t l) (oneQ l) := by unfold oneL; rw [if_pos han]
 have HE := hide hE
 have HRr := hide hRr
 have HLl := hide hLl
 clear hE hRr hLl han l0 l1 lL xv yv HA1 HA2
 have t0 := hT.cell 0
 have t1 := hT.cell 1
 have t2 := hT.cell 2
 have q0 := hQ.cell 0
 have q1 := hQ.cell 1
 have l0 := hL.cell 0
 have l1 := hL.cell 1
 simp only [tmA, Yl] at t0 t1 t2 q0 q1 l0 l1
 have lt' := hT.lt
 have lq := hQ.lt
 have lL := hL.lt
 have HAe := hide (ApplyError_any regs Sq (oneQ l) sc t A1 A2 (oneX t l) (oneY t l) c1 c2 w8 hnq r1.vals r2.vals)
 go_wp2_with fail
 refine (HAe.out).mono ?_
 rintro e w6 ⟨rfl, hb6⟩
 have hnq := hnq.below hb6
 clear HAe t0 t1 t2 q0 q1 l0 l1 lt' lq lL
 replace hT := hT.below hb6 hT.lt
 replace hO := hO.below hb6 hO.lt
 replace hQ := hQ.below hb6 hQ.lt
 replace hL := hL.below hb6 hL.lt
 replace r1 := r1.below' hb6
 replace r2 := r2.below' hb6
 replace hB := hB.trans (hb6.mono hB.size)
 clear hb6 hP
 by_cases hz : apE regs (oneQ l) t (oneX t l) (oneY t l) = 0
 case neg => (
 have hz' : (apE regs (oneQ l) t (oneX t l) (oneY t l) != 0) = true := by simp [hz]
 have HZ := hide hz
 clear hz hT hQ hL r1 r2
 have o0 := hO.cell 0
 have o1 := hO.cell 1
 have f0 := hO.frozen 0
 have f1 := hO.frozen 1
 simp only [Yl] at o0 o1
 have lO := hO.lt
 go_wp2_with fail
 go_tidy
 refine bodyPost_ret (v := .tuple #[.agg #[.int .i64 0, .slice none 0 0], .int .i64 (apE regs (oneQ l) t (oneX t l) (oneY t l))]) (by simp [results, Tryz.results19, go_sem, o0, o1, f0, f1, World.cell?_setCell_same, World.cell?_setCell_other]; try rfl) rfl ?_
 exact ⟨(hB.setCell (by simp <;> omega) _).setCell (by simp <;> omega) _, .inl ⟨by rw [HE.out]; exact HZ.out, by rw [HE.out]⟩⟩)
 case pos => (
 rw [hz]
 have HZ := hide hz
 clear hz
 have t0 := hT.cell 0
 have t1 := hT.cell 1
 have t2 := hT.cell 2
 have q0 := hQ.cell 0
 have q1 := hQ.cell 1
 have l0 := hL.cell 0
 have l1 := hL.cell 1
 simp only [tmA, Yl] at t0 t1 t2 q0 q1 l0 l1
 have lt' := hT.lt
 have lq := hQ.lt
 have lL := hL.lt
 have HAo := hide (ApplyOf_any regs Sq (oneQ l) sc t A1 A2 (oneX t l) (oneY t l) c1 c2 w6 hnq r1.vals r2.vals HRq.out (oneX_len t l) (oneY_len t l))
 go_wp2_with fail
 refine (HAo.out).mono ?_
 rintro e w7 ⟨v, rfl, hr, hb7⟩
 clear HAo t0 t1 t2 q0 q1 l0 l1 lt' lq lL hT hQ hL r1 r2
 replace hr := hr.mono hB.size
 replace hO := hO.below hb7 hO.lt
 replace hB := hB.trans (hb7.mono hB.size)
 obtain ⟨Ac, cc, ev, _, _⟩ := hr.shape
 subst ev
 obtain ⟨N, hN⟩ : ∃ N, N = (applyL regs t (oneX t l) (oneY t l) (oneQ l)).length := ⟨_, rfl⟩
 rw [← hN] at hr ⊢
 have hnO := hr.ne_blk hO (by decide)
 have Q := hide ((hr.far (p := ⟨w.heap.size + 1 + 1, 0, none⟩) hnO (.int .i64 (regs + 1))).far (p := ⟨w.heap.size + 1 + 1, 1, none⟩) hnO (.slice Ac N cc))
 clear hb7 hr hnO hN
 have o0 := hO.cell 0
 have o1 := hO.cell 1
 have f0 := hO.frozen 0
 have f1 := hO.frozen 1
 simp only [Yl] at o0 o1
 have lO := hO.lt
 go_wp2_with fail
 go_tidy
 refine bodyPost_ret (v := .tuple #[.agg #[.int .i64 (regs + 1), .slice Ac N cc], .int .i64 0]) (by simp [results, Tryz.results19, go_sem, o0, o1, f0, f1, World.cell?_setCell_same, World.cell?_setCell_other]; try rfl) rfl ?_
 exact ⟨(hB.setCell (by simp <;> omega) _).setCell (by simp <;> omega) _, .inr ⟨by rw [HE.out]; exact HZ.out, _, by rw [HRr.out], by rw [HLl.out]; exact Q.out⟩⟩))))))
end
section
open Go.RowKit
set_option maxHeartbeats 8000000
attribute [local irreducible] Row madeCells NRow TRow
theorem AllOf_any (regs : Int) (A : Option Addr) (l : List Nd) (cap : Nat) (w : World) (hl : l.length ≤ maxLen) (hA : NodesAt w A l) :
 Calls Tryz.prog 20 #[.agg #[.int .i64 regs, .slice A l.length cap]] w (AllPost 57 regs l w) := by (
 have HCk := hide (fun W (hW : Below w.heap.size w W) => CheckProg_any regs A l cap W (hA.below hW))
 have HN := hide (fun W (hW : Below w.heap.size w W) => hA.below hW)
 clear hA
 go_enter Tryz.func20, Tryz.ntmps20
 go_wp2_with fail
 refine (HCk.out _ (by (with_reducible repeat first | apply Qa | assumption | apply Qb | apply Qc | apply Qd | apply Qe | refine Qf ?_ (by assumption) ?_); all_goals (try simp only [Sz]); first | done | omega | (try simp only [Sz] at *); omega)).mono ?_
 rintro e w1 ⟨rfl, hb1⟩
 have hz1 := hb1.size
 simp only [World.size_alloc] at hz1
 have hB : Below w.heap.size w w1 := (by (with_reducible repeat first | apply Qa | assumption | apply Qb | apply Qc | apply Qd | apply Qe | refine Qf ?_ (by assumption) ?_); all_goals (try simp only [Sz]); first | done | omega | (try simp only [Sz] at *); omega)
 have hP : Blk w1 w.heap.size 24 #[.int .i64 regs, .slice A l.length cap] := Blk.below (by repeat (first | ((with_reducible refine Blk.new' ?_); exact (by (try simp only [Sz]); first | done | omega | (try simp only [Sz] at *); omega)) | (with_reducible refine Blk.alloc ?_ _))) hb1 (by simp <;> omega)
 have hO : Blk w1 (w.heap.size + 1) 24 #[.int .i64 0, .slice none 0 0] := Blk.below (by repeat (first | ((with_reducible refine Blk.new' ?_); exact (by (try simp only [Sz]); first | done | omega | (try simp only [Sz] at *); omega)) | (with_reducible refine Blk.alloc ?_ _))) hb1 (by simp <;> omega)
 clear hb1
 by_cases hc : chk regs l = 0
 case neg => (
 have hE : allE regs l = chk regs l := by unfold allE; rw [if_pos hc]
 have hc' : (chk regs l != 0) = true := by simp [hc]
 have H0 := hide hc
 have HE := hide hE
 clear hc hE hP
 have o0 := hO.cell 0
 have o1 := hO.cell 1
 have f0 := hO.frozen 0
 have f1 := hO.frozen 1
 simp only [Yl] at o0 o1
 have lO := hO.lt
 go_wp2_with fail
 go_tidy
 refine bodyPost_ret (v := .tuple #[.agg #[.int .i64 0, .slice none 0 0], .int .i64 (chk regs l)]) (by simp [results, Tryz.results20, go_sem, o0, o1, f0, f1, World.cell?_setCell_same, World.cell?_setCell_other]; try rfl) rfl ?_
 exact ⟨(hB.setCell (by simp <;> omega) _).setCell (by simp <;> omega) _, .inl ⟨by rw [HE.out]; exact H0.out, by rw [HE.out]⟩⟩)
 case pos => (
 have hR := right_of_chk hc
 have hlo := hR.lo
 have hhi := hR.hi
 have hE : allE regs l = (allGo (allT l) regs l).1 := by unfold allE; rw [if_neg (by simp [hc])]
 have HE := hide hE
 rw [hc]
 have HTm := hide (fun W (hW : Below w.heap.size w W) => TermsOf_any regs A l cap W hhi (HN.out _ hW))
 have HOw := hide (fun W (hW : Below w.heap.size w W) => OwnProg_any regs A l cap W (HN.out _ hW) (by omega))
 clear hc hR hE
 have p0 := hP.cell 0
 have p1 := hP.cell 1
 simp only [Yl] at p0 p1
 have lp := hP.lt
 go_wp2_with fail
 refine (HTm.out _ hB).mono ?_
 rintro e w2 ⟨hb2, v, rfl, hr⟩
 clear p0 p1 lp
 replace hP := hP.below hb2 hP.lt
 replace hO := hO.below hb2 hO.lt
 replace hB := hB.trans (hb2.mono hB.size)
 clear hb2
 obtain ⟨ts, hts⟩ : ∃ ts, ts = allT l := ⟨_, rfl⟩
 change TRow w2 w1.heap.size _ v (allT l) at hr
 rw [← hts] at hr
 have htl : ts.length ≤ 256 := by rw [hts]; exact Nat.le_trans (tmsOf_len l l.length) hhi
 have Hts := hide hts
 obtain ⟨Tv, tc, ev, _, _⟩ := hr.shape
 subst ev
 have hTs := hr.nodes
 clear hts hr
 have p0 := hP.cell 0
 have p1 := hP.cell 1
 simp only [Yl] at p0 p1
 have lp := hP.lt
 go_wp2_with fail
 refine (HOw.out _ hB).mono ?_
 rintro e w3 ⟨v, rfl, hr, hb3⟩
 clear p0 p1 lp
 replace hr := hr.mono hB.size
 replace hTs := hTs.below hb3
 replace hP := hP.below hb3 hP.lt
 replace hO := hO.below hb3 hO.lt
 replace hB := hB.trans (hb3.mono hB.size)
 clear hb3
 obtain ⟨Cv, cc, ev, _, _⟩ := hr.shape
 subst ev
 go_upto_region 6 with fail
 obtain ⟨W2, hW2⟩ : ∃ W : World, W = w3.alloc (.cells #[.int .i64 regs, .slice Cv l.length cc] 24) := ⟨_, rfl⟩
 have hS2 : AlSt w3 w.heap.size w3.heap.size regs (.slice Cv l.length cc) l W2 := by rw [hW2]; exact ⟨Blk.new' rfl, hr.alloc _, (Below.refl _ _).alloc (Nat.le_refl _) _, Nat.le_refl _⟩
 rw [← hW2]
 obtain ⟨qb, hqb⟩ : ∃ b, b = w3.heap.size := ⟨_, rfl⟩
 rw [← hqb] at hS2 ⊢
 have HS2 := hide hS2
 have HO := hide hO
 have HB := hide hB
 have HTs := hide hTs
 have lo0 := hO.lt
 have hbw := hB.size
 clear hr hP hO hB hTs hW2 hqb hS2
 go_wp2_with fail
 go_loopg [7] (ts.length) (fun gk i wr => ∃ (k : Nat) (r : Int) (v : Value) (ls : List Nd), k ≤ ts.length ∧ i = .int .i64 k ∧ gk = ts.length - k ∧ allGo (ts.drop k) r ls = allGo ts regs l ∧ AlSt w3 w.heap.size qb r v ls wr)
 case atStart => exact ⟨0, _, _, _, Nat.zero_le _, rfl, rfl, rfl, HS2.out⟩
 case round => (
 clear HS2
 obtain ⟨k, r, v, ls, hk, rfl, hgk, hgo, hS⟩ := hrel
 have Hgk := hide hgk
 have Hgo := hide hgo
 clear hgk hgo
 have hwz := hS.below.size
 have hlq := hS.box.lt
 have hlow := hS.low
 obtain ⟨Lv, lc, ev, hm1, hm2⟩ := hS.row.shape
 subst ev
 have hlm : ls.length ≤ maxLen := Nat.le_trans hm1 hm2
 by_cases hlt : k < ts.length
 · (
 obtain ⟨tb, tof, tm, rfl, htb, htk, c0, c1, c2⟩ := HTs.out.get hlt
 have Htk := hide htk
 have hlt1 := Nat.lt_of_lt_of_le htb hwz
 replace c0 := ((bcell hS.below).1 _ _ htb).trans c0
 replace c1 := ((bcell hS.below).1 _ _ htb).trans c1
 replace c2 := ((bcell hS.below).1 _ _ htb).trans c2
 have u0 : (0 : Int) ≤ (k : Int) := by omega
 have u1 : (k : Int) < (ts.length : Int) := by omega
 have q0 := hS.box.cell 0
 have q1 := hS.box.cell 1
 simp only [Yl] at q0 q1
 clear htk
 have hqt : ¬ (tb = qb) := by omega
 have HS := hide hS
 clear hS
 go_upto_region 10 with fail
 clear q0 q1
 have HH : ∀ (V : World), Below wr.heap.size wr V → (V.cell? ⟨tb, tof + k * 3, none⟩ = some (.int .i64 tm.op) ∧ V.cell? ⟨tb, tof + k * 3 + 1, none⟩ = some (.int .i64 tm.a) ∧ V.cell? ⟨tb, tof + k * 3 + 2, none⟩ = some (.int .i64 tm.b)) := fun V hV => ⟨((bcell hV).1 _ _ (by omega)).trans c0, ((bcell hV).1 _ _ (by omega)).trans c1, ((bcell hV).1 _ _ (by omega)).trans c2⟩
 refine wp_region_held_drew (S := fun w' => (w'.cell? ⟨tb, tof + k * 3, none⟩ = some (.int .i64 tm.op) ∧ w'.cell? ⟨tb, tof + k * 3 + 1, none⟩ = some (.int .i64 tm.a) ∧ w'.cell? ⟨tb, tof + k * 3 + 2, none⟩ = some (.int .i64 tm.b))) (by kernel_rfl) ?_ ?_
 · exact ⟨c0, c1, c2⟩
 intro hH
 have hC0 : Below wr.heap.size wr wr.drew := (Below.refl _ _).drew
 generalize wr.drew = V0 at hH hC0 ⊢
 refine Up (fun _ _ _ _ _ => id) fun hP => ?_
 refine Vq 1 ?_ rfl (by kernel_rfl) hP (by rfl) ?r hH ?_; case r => intro w'; go_simp; try with_reducible rfl
 try simp only [Nm]
 refine Vq 2 ?_ rfl (by kernel_rfl) hP (by rfl) ?r hH ?_; case r => intro w'; go_simp; try with_reducible rfl
 try simp only [Nm]
 refine Vq 3 ?_ rfl (by kernel_rfl) hP (by rfl) ?r hH ?_; case r => intro w'; go_simp; try with_reducible rfl
 try simp only [Nm]
 refine Vi 4 ?_ rfl (by kernel_rfl) hP (by rfl) ?r hH ?_; case r => intro w' h; (try dsimp only at h); (try go_split_ands); go_simp; try with_reducible rfl
 try simp only [Nm]
 refine Rd 0 (by kernel_rfl) rfl (fun K hK => ?_)
 have HK0 := hide hK
 clear hK
 have hS0 := HS.out.later hC0
 have q0 := hS0.box.cell 0
 have q1 := hS0.box.cell 1
 simp only [Yl] at q0 q1
 go_simp
 clear q0 q1 hS0 hH
 refine Shut.out HK0.out _ _ (HH _ hC0) (fun hH => ?_)
 try simp only [Nm]
 clear HK0
 refine Rd 5 (by kernel_rfl) rfl (fun K hK => ?_)
 have HK5 := hide hK
 clear hK
 go_simp
 go_at_call 19
 refine (OneOf_any r Lv ls lc tm V0 ((HS.out.later hC0).row.nodes)).mono ?_
 rintro e V1 ⟨hbV1, h⟩
 have hC1 : Below wr.heap.size wr V1 := hC0.trans (hbV1.mono hC0.size)
 clear hH
 have hstep := allGo_drop Htk.out r ls
 have hS4 := HS.out.later hC1
 have q0 := hS4.box.cell 0
 have q1 := hS4.box.cell 1
 have fq0 := hS4.box.frozen 0
 have fq1 := hS4.box.frozen 1
 simp only [Yl] at q0 q1
 have lq := hS4.box.lt
 have hO := HO.out.below hS4.below lo0
 have o0 := hO.cell 0
 have o1 := hO.cell 1
 have f0 := hO.frozen 0
 have f1 := hO.frozen 1
 simp only [Yl] at o0 o1
 have lO := hO.lt
 have HS4 := hide hS4
 clear hS4 hO
 rcases h with ⟨hne, rfl⟩ | ⟨h0, v', rfl, hr⟩
 · (
 refine Shut.out HK5.out _ _ (HH _ hC1) (fun hH => ?_)
 try simp only [Nm]
 clear HK5
 refine Vq 6 ?_ rfl (by kernel_rfl) hP (by rfl) ?r hH ?_; case r => intro w'; go_simp; try with_reducible rfl
 try simp only [Nm]
 refine Vq 7 ?_ rfl (by kernel_rfl) hP (by rfl) ?r hH ?_; case r => intro w'; go_simp; try with_reducible rfl
 try simp only [Nm]
 refine Vq 8 ?_ rfl (by kernel_rfl) hP (by rfl) ?r hH ?_; case r => intro w'; go_simp; try with_reducible rfl
 try simp only [Nm]
 refine Rd 9 (by kernel_rfl) rfl (fun K hK => ?_)
 have HK9 := hide hK
 clear hK
 go_simp
 refine Shut.out HK9.out _ _ ⟨(set1_cell (by omega) _ _).trans ((set1_cell (by omega) _ _).trans (((bcell hC1).1 _ _ (by omega)).trans c0)), (set1_cell (by omega) _ _).trans ((set1_cell (by omega) _ _).trans (((bcell hC1).1 _ _ (by omega)).trans c1)), (set1_cell (by omega) _ _).trans ((set1_cell (by omega) _ _).trans (((bcell hC1).1 _ _ (by omega)).trans c2))⟩ (fun hH => ?_)
 try simp only [Nm]
 clear HK9
 refine Vq 10 ?_ rfl (by kernel_rfl) hP (by rfl) ?r hH ?_; case r => intro w'; go_simp; try with_reducible rfl
 try simp only [Nm]
 refine wpAnyH_done (by kernel_rfl) ?_ _
 rw [if_pos hne] at hstep
 have hne' : (oneE r ls tm != 0) = true := by simp [hne]
 have hE : allE regs l = oneE r ls tm := by rw [HE.out, ← Hts.out, ← Hgo.out, hstep]
 have Hne := hide hne
 have HE2 := hide hE
 have hB := HB.out.trans (HS4.out.below.mono hbw)
 have hB4 := hB.size
 clear hne hstep hE hH c0 c1 c2
 go_wp2_with fail
 go_tidy
 refine bodyPost_ret (v := .tuple #[.agg #[.int .i64 0, .slice none 0 0], .int .i64 (oneE r ls tm)]) (by simp [results, Tryz.results20, go_sem, o0, o1, f0, f1, World.cell?_setCell_same, World.cell?_setCell_other]; try rfl) rfl ?_
 exact ⟨(((hB.setCell (by simp <;> omega) _).setCell (by simp <;> omega) _).setCell (by simp <;> omega) _).setCell (by simp <;> omega) _, .inl ⟨by rw [HE2.out]; exact Hne.out, by rw [HE2.out]⟩⟩)
 · (
 replace hr := hr.mono (base' := w.heap.size) (by have := hC0.size; omega)
 obtain ⟨Rv, rc, ev, _, _⟩ := hr.shape
 subst ev
 refine Shut.out HK5.out _ _ (HH _ hC1) (fun hH => ?_)
 try simp only [Nm]
 clear HK5
 refine Vq 6 ?_ rfl (by kernel_rfl) hP (by rfl) ?r hH ?_; case r => intro w'; go_simp; try with_reducible rfl
 try simp only [Nm]
 refine Vq 7 ?_ rfl (by kernel_rfl) hP (by rfl) ?r hH ?_; case r => intro w'; go_simp; try with_reducible rfl
 try simp only [Nm]
 refine Vq 8 ?_ rfl (by kernel_rfl) hP (by rfl) ?r hH ?_; case r => intro w'; go_simp; try with_reducible rfl
 try simp only [Nm]
 refine Rd 9 (by kernel_rfl) rfl (fun K hK => ?_)
 have HK9 := hide hK
 clear hK
 go_simp
 refine Shut.out HK9.out _ _ ⟨(set1_cell (by omega) _ _).trans ((set1_cell (by omega) _ _).trans (((bcell hC1).1 _ _ (by omega)).trans c0)), (set1_cell (by omega) _ _).trans ((set1_cell (by omega) _ _).trans (((bcell hC1).1 _ _ (by omega)).trans c1)), (set1_cell (by omega) _ _).trans ((set1_cell (by omega) _ _).trans (((bcell hC1).1 _ _ (by omega)).trans c2))⟩ (fun hH => ?_)
 try simp only [Nm]
 clear HK9
 refine Vq 10 ?_ rfl (by kernel_rfl) hP (by rfl) ?r hH ?_; case r => intro w'; go_simp; try with_reducible rfl
 try simp only [Nm]
 refine wpAnyH_done (by kernel_rfl) ?_ _
 rw [if_neg (by simp [h0])] at hstep
 have hS5 := HS.out.put (r' := oneR r ls tm) hC1 hr
 obtain ⟨r2, hr2⟩ : ∃ z, z = oneR r ls tm := ⟨_, rfl⟩
 obtain ⟨l2, hl2⟩ : ∃ z, z = oneL r ls tm := ⟨_, rfl⟩
 rw [← hr2, ← hl2] at hstep hS5
 rw [← hl2] at hr
 rw [← hr2, ← hl2]
 rw [Hgo.out] at hstep
 have HS5 := hide hS5
 have Hst := hide hstep
 clear hstep hS5 hr2 hl2 hr h0 o0 o1 f0 f1 lO hbV1 hH
 go_wp2_with fail
 go_roundg (ts.length - (k + 1))
 case measure => have := Hgk.out; omega
 case rel => exact ⟨k + 1, _, _, _, by omega, by go_num, rfl, Hst.out.symm, HS5.out⟩))
 · (
 have hkk : k = ts.length := by omega
 subst hkk
 have hg := Hgo.out
 rw [List.drop_length] at hg
 have hgo : allGo (allT l) regs l = (0, r, ls) := by rw [← Hts.out, ← hg]; rfl
 have hE : allE regs l = 0 := by rw [HE.out, hgo]
 have HE2 := hide hE
 have Hgo2 := hide hgo
 have hO := HO.out.below hS.below lo0
 have q0 := hS.box.cell 0
 have q1 := hS.box.cell 1
 simp only [Yl] at q0 q1
 have hnO := hS.row.ne_blk hO (by decide)
 have Q := hide ((hS.row.far (p := ⟨w.heap.size + 1, 0, none⟩) hnO (.int .i64 r)).far (p := ⟨w.heap.size + 1, 1, none⟩) hnO (.slice Lv ls.length lc))
 have hB := HB.out.trans (hS.below.mono hbw)
 have o0 := hO.cell 0
 have o1 := hO.cell 1
 have f0 := hO.frozen 0
 have f1 := hO.frozen 1
 simp only [Yl] at o0 o1
 have lO := hO.lt
 have HBf := hide hB
 clear hg hgo hE hS hnO hB hO
 go_wp2_with fail
 go_tidy
 refine bodyPost_ret (v := .tuple #[.agg #[.int .i64 r, .slice Lv ls.length lc], .int .i64 0]) (by simp [results, Tryz.results20, go_sem, q0, q1, o0, o1, f0, f1, World.cell?_setCell_same, World.cell?_setCell_other]; try rfl) rfl ?_
 exact ⟨(HBf.out.setCell (by simp <;> omega) _).setCell (by simp <;> omega) _, .inr ⟨HE2.out, _, by rw [Hgo2.out], by rw [Hgo2.out]; exact Q.out⟩⟩))))
end
section
open Go.RowKit
def PgPost (tN : TypeId) (er r : Int) (ls : List Nd) (w : World) (e : Ending) (w' : World) : Prop :=
  Below w.heap.size w w' ∧ ∃ v, e = .returned (.tuple #[.agg #[.int .i64 r, v], .int .i64 er]) ∧ NRow w' w.heap.size tN v ls
def maR (regs : Int) (l : List Nd) (t : Tm) (pt tk : List Bool) : Int := if maE regs l t pt tk = 0 then regs + 1 else 0
def maL (regs : Int) (l : List Nd) (t : Tm) (pt tk : List Bool) : List Nd := if maE regs l t pt tk = 0 then applyL regs t pt tk l else []
theorem MaPost.pg {tN : TypeId} {regs : Int} {l : List Nd} {t : Tm} {pt tk : List Bool} {w w' : World} {e : Ending} (h : MaPost tN regs l t pt tk w e w') : PgPost tN (maE regs l t pt tk) (maR regs l t pt tk) (maL regs l t pt tk) w e w' := by
  obtain ⟨hb, ⟨h0, rfl⟩ | ⟨h0, v, rfl, hr⟩⟩ := h
  · unfold maR maL; rw [if_neg h0, if_neg h0]; exact ⟨hb, _, rfl, NRow.nil_ _ _ _⟩
  · unfold maR maL; rw [if_pos h0, if_pos h0, h0]; exact ⟨hb, v, rfl, hr⟩
def onR (regs : Int) (l : List Nd) (t : Tm) : Int := if oneE regs l t = 0 then oneR regs l t else 0
def onL (regs : Int) (l : List Nd) (t : Tm) : List Nd := if oneE regs l t = 0 then oneL regs l t else []
theorem OnePost.pg {tN : TypeId} {regs : Int} {l : List Nd} {t : Tm} {w w' : World} {e : Ending} (h : OnePost tN regs l t w e w') : PgPost tN (oneE regs l t) (onR regs l t) (onL regs l t) w e w' := by
  obtain ⟨hb, ⟨h0, rfl⟩ | ⟨h0, v, rfl, hr⟩⟩ := h
  · unfold onR onL; rw [if_neg h0, if_neg h0]; exact ⟨hb, _, rfl, NRow.nil_ _ _ _⟩
  · unfold onR onL; rw [if_pos h0, if_pos h0, h0]; exact ⟨hb, v, rfl, hr⟩
def alR (regs : Int) (l : List Nd) : Int := if allE regs l = 0 then (allGo (allT l) regs l).2.1 else 0
def alL (regs : Int) (l : List Nd) : List Nd := if allE regs l = 0 then (allGo (allT l) regs l).2.2 else []
theorem AllPost.pg {tN : TypeId} {regs : Int} {l : List Nd} {w w' : World} {e : Ending} (h : AllPost tN regs l w e w') : PgPost tN (allE regs l) (alR regs l) (alL regs l) w e w' := by
  obtain ⟨hb, ⟨h0, rfl⟩ | ⟨h0, v, rfl, hr⟩⟩ := h
  · unfold alR alL; rw [if_neg h0, if_neg h0]; exact ⟨hb, _, rfl, NRow.nil_ _ _ _⟩
  · unfold alR alL; rw [if_pos h0, if_pos h0, h0]; exact ⟨hb, v, rfl, hr⟩
theorem maE_len {regs : Int} {l : List Nd} {t : Tm} {pt tk : List Bool} (h : maE regs l t pt tk = 0) : fxE regs l t = 0 ∧ pt.length = l.length ∧ tk.length = l.length := by
  unfold maE at h
  by_cases h0 : fxE regs l t = 0
  · rw [if_neg (by simp [h0])] at h
    by_cases h1 : pt.length ≠ l.length ∨ tk.length ≠ l.length
    · rw [if_pos h1] at h; cases h
    · exact ⟨h0, by omega, by omega⟩
  · rw [if_pos h0] at h; exact absurd h h0
end
section
open Go.RowKit
set_option maxHeartbeats 2000000
end
section
open Go.RowKit
open Go.Maps
set_option maxHeartbeats 4000000
def TCount (W : World) (g : Nat) (ts : List Tm) : Prop :=
 ∃ D : DataW Unit, W.ownsMap Tryz.prog 26 (plainElem Tryz.prog 3) g ts.length D ∧ (∀ (t : Tm) (l : Lit), keyOf Tryz.prog 26 t.val = some l → D.atKey l (.lit (.int .i64 0)) = .lit (.int .i64 (ts.count t)))
  ∧ (∀ l, Maps.has D l = true → ∃ t ∈ ts, keyOf Tryz.prog 26 t.val = some l) ∧ (∀ t ∈ ts, ∀ l, keyOf Tryz.prog 26 t.val = some l → Maps.has D l = true)
section
variable {W W' : World} {g : Nat} {ts : List Tm}
theorem TCount.own {row : Option Nat} (h : TCount W g ts) (hg : W.grownBy W' row) (hr : row ≠ some g) : TCount W' g ts := by (
 obtain ⟨D, h1, h2⟩ := h
 exact ⟨D, h1.kept hg (Ne.symm hr), h2⟩)
theorem TCount.below (h : TCount W g ts) (hb : Below W.heap.size W W') : TCount W' g ts := by (
 obtain ⟨D, ⟨es, clock, hh, F, r⟩, h2⟩ := h
 exact ⟨D, ⟨es, clock, (hb.block g (lt_of_heap hh)).trans hh, F, r⟩, h2⟩)
theorem TCount.drew (h : TCount W g ts) : TCount W.drew g ts := h
theorem TCount.drewN (h : TCount W g ts) (d : Nat) : TCount (W.drewN d) g ts := h
theorem TCount.set (h : TCount W g ts) {p : Addr} (hp : g ≠ p.block) (u : Value) : TCount (W.setCell p u) g ts := by (
 obtain ⟨D, h1, h2⟩ := h
 exact ⟨D, h1.setCell hp u, h2⟩)
theorem TCount.lt (h : TCount W g ts) : g < W.heap.size := by (
 obtain ⟨D, h1, h2⟩ := h
 exact h1.lt)
theorem TCount.ne_row {B : Nat} {e : TypeId} {v : Value} {xs : List Value} (h : TCount W g ts) (hr : Row W B e v xs) : v.ownBlock ≠ some g := by (
 obtain ⟨D, ⟨es, clock, hh, F, r⟩, h2⟩ := h
 rcases hr with ⟨rfl, _⟩ | ⟨g', o, cap, cur, rfl, _, hh', _⟩
 · simp [Value.ownBlock]
 · (
 intro he
 simp [Value.ownBlock] at he
 subst he
 rw [hh] at hh'
 cases hh'))
theorem TCount.ne_blk {b : Nat} {t : TypeId} {cs : Array Value} (h : TCount W g ts) (hb : Blk W b t cs) : ¬ (b = g) := by (
 obtain ⟨D, ⟨es, clock, hh, F, r⟩, h2⟩ := h
 intro e
 subst e
 unfold Blk at hb
 rw [hh] at hb
 cases hb)
theorem TCount.start : TCount (W.alloc (.map #[] 0)) W.heap.size [] :=
 ⟨.map [], World.ownsMap_made _ _ _ _, fun t l hl => rfl, fun l h => (by cases h), fun t ht => (by cases ht)⟩
theorem TCount.bump (h : TCount W g ts) (hn : ts.length < 1000000) {t : Tm} {l : Lit} (hl : keyOf Tryz.prog 26 t.val = some l) :
 (Instr.lookup 98 (.map (some g)) t.val false).run Tryz.prog W = .ok (.int .i64 (ts.count t)) W ∧
  ∃ v0 st w1, (Instr.mapEntry 98 (.map (some g)) t.val).run Tryz.prog W = .ok (.tuple #[v0, goInt st]) w1 ∧ W.grownBy w1 (some g) ∧ (Instr.lookup 98 (.map (some g)) t.val false).run Tryz.prog w1 = .ok (.int .i64 (ts.count t)) w1 ∧
   ∃ w3, (Instr.entryStore 98 (.map (some g)) (goInt st) (.int .i64 ((ts.count t : Int) + 1))).run Tryz.prog w1 = .ok () w3 ∧ w1.grownBy w3 (some g) ∧ TCount w3 g (ts ++ [t]) := by (
 obtain ⟨D, hD, hc, hh1, hh2⟩ := h
 have e1 := hc t l hl
 have hcl : ts.count t ≤ ts.length := List.count_le_length
 have hmax : ts.length < maxLen := by unfold maxLen; omega
 obtain ⟨c', p1, p2, v0, st, w1, p3, p4, p5, p6⟩ := map_bump lawTerm Tryz.underlying98 Tryz.underlying3 zero47 hD hmax hl
 rw [e1] at p2
 have hcc := lint_inj p2
 rw [← hcc] at p1 p5
 have hwf : (Lit.int .i64 ((ts.count t : Int) + 1)).wf = true := by (
 unfold Lit.wf
 rw [Bool.and_eq_true]
 exact ⟨decide_eq_true (by show (-9223372036854775808 : Int) ≤ _; omega), decide_eq_true (by show _ ≤ (9223372036854775807 : Int); omega)⟩)
 obtain ⟨w3, q1, q2, q3⟩ := p6 _ hwf
 refine ⟨p1, v0, st, w1, p3, p4, p5, w3, q1, q3, ⟨_, by rw [List.length_append]; exact q2, fun t' l' hl' => ?_, fun l' h => ?_, fun t' ht l' hl' => ?_⟩⟩
 · (
 by_cases htt : t' = t
 · (
 subst htt
 rw [hl] at hl'
 have hl' := Option.some.inj hl'
 subst hl'
 rw [atKey_put_same hD.isMap ((Keyed.of_law lawTerm).key hl)]
 simp [List.count_append])
 · (
 have hne : l' ≠ l := fun e => htt (tm_inj (lawTerm.inj (e ▸ hl') hl))
 rw [atKey_put_other hne, hc t' l' hl']
 have : (t == t') = false := by simpa using Ne.symm htt
 simp [List.count_append, List.count_singleton, this]))
 · (
 by_cases hll : l' = l
 · exact ⟨t, by simp, by rw [hll]; exact hl⟩
 · (
 rw [has_put_other hll] at h
 obtain ⟨u, hu, hk⟩ := hh1 l' h
 exact ⟨u, by simp [hu], hk⟩))
 · (
 by_cases hll : l' = l
 · (
 rw [hll]
 exact has_put_same hD.isMap ((Keyed.of_law lawTerm).key hl) _)
 · (
 rw [has_put_other hll]
 rcases List.mem_append.1 ht with e | e
 · exact hh2 t' e l' hl'
 · (
 simp at e
 subst e
 rw [hl] at hl'
 have hl' := Option.some.inj hl'
 exact absurd hl'.symm hll))))
end
abbrev mcells (regs : Int) (A : Option Addr) (l : List Nd) (cap : Nat) (Ai : Option Addr) (ci : Nat) (inp : List Int) (gr gm : Nat) (ov : Value) (s : Rn) : Array Value :=
 #[.int .i64 regs, .slice A l.length cap, .slice Ai (inp.length - s.read) ci, .slice (some ⟨gr, 0, none⟩) regs.toNat regs.toNat, .map (some gm), ov, .int .i64 s.ret, .bool s.ended, .int .i64 s.steps, .slice none 0 0]
structure MSt (w : World) (regs : Int) (A : Option Addr) (l : List Nd) (cap : Nat) (inp : List Int) (mb gr gm : Nat) (Ai : Option Addr) (ci : Nat) (ov : Value) (s : Rn) (W : World) : Prop where
 box : Blk W mb 100 (mcells regs A l cap Ai ci inp gr gm ov s)
 regs : Row W w.heap.size 3 (.slice (some ⟨gr, 0, none⟩) regs.toNat regs.toNat) (ints s.regs)
 out : Row W w.heap.size 3 ov (ints s.out)
 cnt : TCount W gm s.ts
 inv : ValsAt w Ai (ints (inp.drop s.read))
 icap : inp.length - s.read ≤ ci ∧ ci ≤ maxLen
 ne : ov.ownBlock ≠ some gr
 mlo : w.heap.size ≤ mb
 glo : w.heap.size ≤ gm
 below : Below w.heap.size w W
section
variable {w : World} {regs : Int} {A : Option Addr} {l : List Nd} {cap : Nat} {inp : List Int} {mb gr gm : Nat} {Ai : Option Addr} {ci : Nat} {ov : Value} {s : Rn} {W W' : World}
theorem MSt.later (h : MSt w regs A l cap inp mb gr gm Ai ci ov s W) (hb : Below W.heap.size W W') : MSt w regs A l cap inp mb gr gm Ai ci ov s W' :=
 ⟨h.box.below hb h.box.lt, h.regs.below' hb, h.out.below' hb, h.cnt.below hb, h.inv, h.icap, h.ne, h.mlo, h.glo, h.below.trans (hb.mono h.below.size)⟩
theorem MSt.counted (h : MSt w regs A l cap inp mb gr gm Ai ci ov s W) (hg : W.grownBy W' (some gm)) {ts : List Tm} (hc : TCount W' gm ts) : MSt w regs A l cap inp mb gr gm Ai ci ov { s with ts := ts } W' :=
 ⟨h.box.grown hg (by have := h.cnt.ne_blk h.box; simp; exact fun e => this e.symm), h.regs.kept hg (.inr (h.cnt.ne_row h.regs)), h.out.kept hg (.inr (h.cnt.ne_row h.out)), hc, h.inv, h.icap, h.ne, h.mlo, h.glo, h.below.grown hg h.below.size (fun q hq => by have := Option.some.inj hq; have := h.glo; omega)⟩
theorem MSt.ins (h : MSt w regs A l cap inp mb gr gm Ai ci ov s W) : ValsAt W Ai (ints (inp.drop s.read)) := h.inv.below h.below
end
end
section
open Go.RowKit
open Go.Maps
set_option maxHeartbeats 8000000
attribute [local irreducible] Row madeCells TCount
theorem Row.int_ {w : World} {B g n c : Nat} {e : TypeId} {es : List Int} (h : Row w B e (.slice (some ⟨g, 0, none⟩) n c) (ints es)) {k : Nat} (hk : k < es.length) :
 w.cell? ⟨g, k, none⟩ = some (.int .i64 (rg es (k : Int))) ∧ w.frozen? ⟨g, k, none⟩ = false := by (
 obtain ⟨g', o', cp, u, e1, _, _, hu, hc, hf⟩ := h.get (k := k) (by rw [ints_length]; exact hk)
 injection e1 with e1 _ _
 injection e1 with e1
 injection e1 with ea eb _
 subst ea eb
 rw [ints_get, List.getElem?_eq_getElem hk] at hu
 have hr : rg es (k : Int) = es[k] := rg_get (List.getElem?_eq_getElem hk)
 rw [hr]
 simp only [Nat.zero_add] at hc hf
 exact ⟨by rw [hc]; exact hu.symm, hf⟩)
theorem mreckon_any (w : World) (regs : Int) (A : Option Addr) (l : List Nd) (cap : Nat) (inp : List Int) (mb gr gm : Nat) (Ai : Option Addr) (ci : Nat) (ov : Value) (s : Rn) (W : World) (hM : MSt w regs A l cap inp mb gr gm Ai ci ov s W) (t : Tm) (kl : Lit)
 (hkl : keyOf Tryz.prog 26 t.val = some kl) (hts : s.ts.length < 1000000) (hlen : s.regs.length = regs.toNat) (hr : regs.toNat ≤ 64) (ha : 0 ≤ t.a ∧ t.a < (regs.toNat : Int)) (hb : 0 ≤ t.b ∧ t.b < (regs.toNat : Int)) :
 Calls Tryz.prog 95 #[.pointer (some ⟨mb, 0, none⟩), .agg #[.int .i64 t.op, .int .i64 t.a, .int .i64 t.b]] W fun e W' => e = .returned (.int .i64 (reckV t.op (rg s.regs t.a) (rg s.regs t.b))) ∧ MSt w regs A l cap inp mb gr gm Ai ci ov { s with ts := s.ts ++ [t] } W' ∧ W.grownBy W' (some gm) := by (
 obtain ⟨g3, hg3⟩ : ∃ g, g = W.heap.size := ⟨_, rfl⟩
 obtain ⟨W0, hW0⟩ : ∃ W0, W0 = W.alloc (.cells #[.int .i64 t.op, .int .i64 t.a, .int .i64 t.b] 26) := ⟨_, rfl⟩
 have hM0 : MSt w regs A l cap inp mb gr gm Ai ci ov s W0 := by rw [hW0]; exact hM.later ((Below.refl _ _).alloc (Nat.le_refl _) _)
 have hT : Blk W0 g3 26 #[.int .i64 t.op, .int .i64 t.a, .int .i64 t.b] := by rw [hW0]; exact Blk.new' hg3
 obtain ⟨hlook, v0, st, W1, hme, hg1, hlook1, W3, hst, hgw, hc3⟩ := (hM0.cnt.drew).bump hts hkl
 have hlook : (Instr.lookup 98 (.map (some gm)) (.agg #[.int .i64 t.op, .int .i64 t.a, .int .i64 t.b]) false).run Tryz.prog W0.drew = .ok (.int .i64 (s.ts.count t)) W0.drew := hlook
 have hlook1 : (Instr.lookup 98 (.map (some gm)) (.agg #[.int .i64 t.op, .int .i64 t.a, .int .i64 t.b]) false).run Tryz.prog W1 = .ok (.int .i64 (s.ts.count t)) W1 := hlook1
 have hme : (Instr.mapEntry 98 (.map (some gm)) (.agg #[.int .i64 t.op, .int .i64 t.a, .int .i64 t.b])).run Tryz.prog W0.drew = .ok (.tuple #[v0, .int .i64 (st : Int)]) W1 := hme
 have hcl : s.ts.count t ≤ s.ts.length := List.count_le_length
 have hst : (Instr.entryStore 98 (.map (some gm)) (.int .i64 (st : Int)) (.int .i64 (IntKind.i64.wrap ((s.ts.count t : Int) + 1)))).run Tryz.prog W1 = .ok () W3 := by rw [show IntKind.i64.wrap ((s.ts.count t : Int) + 1) = (s.ts.count t : Int) + 1 by rw [IntKind.wrap_i64]; omega]; exact hst
 have hM3 : MSt w regs A l cap inp mb gr gm Ai ci ov { s with ts := s.ts ++ [t] } W3 := by (
 have h0 : MSt w regs A l cap inp mb gr gm Ai ci ov s W0.drew := hM0.later ((Below.refl _ _).drew)
 have hc1 : W0.drew.grownBy W3 (some gm) := hg1.trans hgw
 exact h0.counted hc1 hc3)
 have hgr : W.grownBy W3 (some gm) := by (
 have h1 : W.grownBy W0.drew (some gm) := by rw [hW0]; exact ⟨rfl, rfl, rfl, by simp, fun k hk _ => Below.heap_alloc W _ k hk⟩
 exact h1.trans (hg1.trans hgw))
 have Hgr := hide hgr
 clear hgr
 have c4 := hM0.box.cell 4
 have t0 := hT.cell 0
 have t1 := hT.cell 1
 have t2 := hT.cell 2
 have lm := hM0.box.lt
 have lt3 := hT.lt
 have nm := hM0.cnt.ne_blk hM0.box
 have nt := hM0.cnt.ne_blk hT
 simp only [Yl] at c4 t0 t1 t2
 have e4 : W1.cell? ⟨mb, 4, none⟩ = some (.map (some gm)) := by rw [hg1.cell_far _ (by simp <;> omega) (by simp; omega)]; exact c4
 have e0 : W1.cell? ⟨g3, 0, none⟩ = some (.int .i64 t.op) := by rw [hg1.cell_far _ (by simp <;> omega) (by simp; omega)]; exact t0
 have e1 : W1.cell? ⟨g3, 1, none⟩ = some (.int .i64 t.a) := by rw [hg1.cell_far _ (by simp <;> omega) (by simp; omega)]; exact t1
 have e2 : W1.cell? ⟨g3, 2, none⟩ = some (.int .i64 t.b) := by rw [hg1.cell_far _ (by simp <;> omega) (by simp; omega)]; exact t2
 have hs1 := hg1.size
 simp only [World.size_drew] at hs1
 have f4 : W3.cell? ⟨mb, 4, none⟩ = some (.map (some gm)) := by rw [hgw.cell_far _ (by simp <;> omega) (by simp; omega)]; exact e4
 have f0 : W3.cell? ⟨g3, 0, none⟩ = some (.int .i64 t.op) := by rw [hgw.cell_far _ (by simp <;> omega) (by simp; omega)]; exact e0
 have f1 : W3.cell? ⟨g3, 1, none⟩ = some (.int .i64 t.a) := by rw [hgw.cell_far _ (by simp <;> omega) (by simp; omega)]; exact e1
 have f2 : W3.cell? ⟨g3, 2, none⟩ = some (.int .i64 t.b) := by rw [hgw.cell_far _ (by simp <;> omega) (by simp; omega)]; exact e2
 have f3 := hM3.box.cell 3
 simp only [Yl] at f3
 have ra := (hM3.regs.int_ (k := t.a.toNat) (by show _ < s.regs.length; omega)).1
 have rb := (hM3.regs.int_ (k := t.b.toNat) (by show _ < s.regs.length; omega)).1
 rw [Int.toNat_of_nonneg ha.1] at ra
 rw [Int.toNat_of_nonneg hb.1] at rb
 obtain ⟨ha0, ha1⟩ := ha
 obtain ⟨hb0, hb1⟩ := hb
 generalize hxa : rg s.regs t.a = xa at ra ⊢
 generalize hxb : rg s.regs t.b = xb at rb ⊢
 have HM3 := hide hM3
 have HW0 := hide hW0
 have Hg3 := hide hg3
 clear hg3
 obtain ⟨cn, hcn⟩ : ∃ c, c = s.ts.count t := ⟨_, rfl⟩
 rw [← hcn] at hlook hlook1 hst hcl
 clear hM hM0 hT hg1 hgw hc3 hM3 hW0 hs1 hkl hxa hxb hcn
 go_enter Tryz.func95, Tryz.ntmps95
 go_upto_region 1 with fail
 rw [← HW0.out, ← Hg3.out]
 refine wp_region_held_drew (S := fun w' => w'.cell? ⟨mb, 4, none⟩ = some (.map (some gm)) ∧ w'.cell? ⟨g3, 0, none⟩ = some (.int .i64 t.op) ∧ w'.cell? ⟨g3, 1, none⟩ = some (.int .i64 t.a) ∧ w'.cell? ⟨g3, 2, none⟩ = some (.int .i64 t.b)) (by kernel_rfl) ⟨c4, t0, t1, t2⟩ ?_
 intro hH
 refine Up (fun _ _ _ _ _ => id) fun hP => ?_
 refine Vi 0 ?_ rfl (by kernel_rfl) hP (by rfl) ?r hH ?_; case r => intro w' h; (try dsimp only at h); go_simp; try with_reducible rfl
 try simp only [Nm]
 refine Vi 1 ?_ rfl (by kernel_rfl) hP (by rfl) ?r hH ?_; case r => intro w' h; (try dsimp only at h); go_simp; try with_reducible rfl
 try simp only [Nm]
 refine Vi 2 ?_ rfl (by kernel_rfl) hP (by rfl) ?r hH ?_; case r => intro w' h; (try dsimp only at h); go_simp; try with_reducible rfl
 try simp only [Nm]
 refine Vi 3 ?_ rfl (by kernel_rfl) hP (by rfl) ?r hH ?_; case r => intro w' h; (try dsimp only at h); go_simp; try with_reducible rfl
 try simp only [Nm]
 refine Vi 4 ?_ rfl (by kernel_rfl) hP (by rfl) ?r hH ?_; case r => intro w' h; (try dsimp only at h); go_simp; try with_reducible rfl
 try simp only [Nm]
 refine wpAnyH_ready (rs := [5, 7]) (by kernel_rfl) (by simp) ?_
 refine AllReadyH.cons rfl (fun K hK => ?_) (AllReadyH.cons rfl (fun K hK => ?_) AllReadyH.nil)
 · (
 have HK5 := hide hK
 clear hK
 go_simp
 refine Shut.out HK5.out _ _ hH (fun _ => ?_)
 try simp only [Nm]
 refine Vi 6 ?_ rfl (by kernel_rfl) hP (by rfl) ?r hH ?_; case r => intro w' h; (try dsimp only at h); go_simp; try with_reducible rfl
 try simp only [Nm]
 refine Rd 7 (by kernel_rfl) rfl (fun K hK => ?_)
 have HK7 := hide hK
 clear hK
 go_simp
 refine Shut.out HK7.out _ _ ⟨e4, e0, e1, e2⟩ (fun hH => ?_)
 try simp only [Nm]
 refine Vi 8 ?_ rfl (by kernel_rfl) hP (by rfl) ?r hH ?_; case r => intro w' h; (try dsimp only at h); go_simp; try with_reducible rfl
 try simp only [Nm]
 refine Rd 9 (by kernel_rfl) rfl (fun K hK => ?_)
 have HK9 := hide hK
 clear hK
 go_simp
 refine Shut.out HK9.out _ _ ⟨f4, f0, f1, f2⟩ (fun hH => ?_)
 try simp only [Nm]
 refine wpAnyH_done (by kernel_rfl) ?_ _
 clear hH HK5 HK7 HK9 t0 t1 t2 c4 e0 e1 e2 e4 hlook hme hlook1 hst
 go_upto_region 2 with fail
 go_quiet (fail)
 go_wp2
 all_goals go_tidy
 all_goals go_ret
 all_goals exact ⟨ret_int (by simp_all [reckV]), HM3.out.later (below_drewN (Below.refl _ _) _), Hgr.out.trans ⟨rfl, rfl, rfl, Nat.le_refl _, fun _ _ _ => rfl⟩⟩)
 · (
 have HK7 := hide hK
 clear hK
 go_simp
 refine Shut.out HK7.out _ _ ⟨e4, e0, e1, e2⟩ (fun hH => ?_)
 try simp only [Nm]
 refine Vi 8 ?_ rfl (by kernel_rfl) hP (by rfl) ?r hH ?_; case r => intro w' h; (try dsimp only at h); go_simp; try with_reducible rfl
 try simp only [Nm]
 refine Rd 5 (by kernel_rfl) rfl (fun K hK => ?_)
 have HK5 := hide hK
 clear hK
 go_simp
 refine Shut.out HK5.out _ _ hH (fun _ => ?_)
 try simp only [Nm]
 refine Vi 6 ?_ rfl (by kernel_rfl) hP (by rfl) ?r hH ?_; case r => intro w' h; (try dsimp only at h); go_simp; try with_reducible rfl
 try simp only [Nm]
 refine Rd 9 (by kernel_rfl) rfl (fun K hK => ?_)
 have HK9 := hide hK
 clear hK
 go_simp
 refine Shut.out HK9.out _ _ ⟨f4, f0, f1, f2⟩ (fun hH => ?_)
 try simp only [Nm]
 refine wpAnyH_done (by kernel_rfl) ?_ _
 clear hH HK5 HK7 HK9 t0 t1 t2 c4 e0 e1 e2 e4 hlook hme hlook1 hst
 go_upto_region 2 with fail
 go_quiet (fail)
 go_wp2
 all_goals go_tidy
 all_goals go_ret
 all_goals exact ⟨ret_int (by simp_all [reckV]), HM3.out.later (below_drewN (Below.refl _ _) _), Hgr.out.trans ⟨rfl, rfl, rfl, Nat.le_refl _, fun _ _ _ => rfl⟩⟩))
end
end Go.Proofs.YtmghkonmfbpjcabGreat
