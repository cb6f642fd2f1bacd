/- Parts. -/
import Derived.Test.YtmghkonmfbpjcabGreatDoorFactR1
set_option linter.unusedVariables false
set_option linter.unusedSimpArgs false
set_option maxRecDepth 100000
set_option maxHeartbeats 8000000
namespace Go.Proofs.YtmghkonmfbpjcabGreatDoor
open Go.RowKit
open Go.Proofs.Tryz
section
attribute [local irreducible] Row madeCells
attribute [local go_sem] tD
set_option maxRecDepth 1000000 in
theorem bRD (regs : Int) (A : Option Addr) (l : List Nd) (cap : Nat) (t : Tm) (w : World) (hA : bH w A l) (hR : bM regs l) (g0 g1 g2 g3 g4 g5 : Nat) (nx ax : Value) (x : Nat → List Bool) (a : Act) (W : World) (Rx : Act → World → Prop)
 (hd : a.defers = []) (ha : a.tmps = rfr regs A l cap t w.heap.size g0 g1 g2 g3 g4 g5 nx ax (fK a.tmps)) (hi : fK a.tmps 25 = .int .i64 0)
 (hS : RS regs A l cap t w g0 g1 g2 g3 g4 g5 nx ax l.length l.length x W)
 (hexit : ∀ (a' : Act) (W' : World) (y : List Bool), a'.defers = [] → a'.tmps = rfr regs A l cap t w.heap.size g0 g1 g2 g3 g4 g5 nx ax (fK a'.tmps) → y = iY t l (x 0) (x 1) → RS regs A l cap t w g0 g1 g2 g3 g4 g5 nx ax l.length l.length (upd x 2 y) W' → Rx a' W') :
 Code.wp prog (Code.loop (vS 3)) (lI 14 Rx) a W := by (
 conv => arg 2; arg 1; whnf
 obtain ⟨tm, df⟩ := a
 simp only at hd ha hi
 subst hd
 generalize fK tm = u at ha hi
 subst ha
 dsimp only [rfr]
 rw [hi]
 have hlo := hR.lo
 have hhi := hR.hi
 have HX := bA hexit
 obtain ⟨Y, hY⟩ := Exq (iY t l (x 0) (x 1))
 have hYl : Y.length = l.length := by rw [hY]; exact dD _ _
 have HY := bA hY
 have hst : ∃ y, y.length = l.length ∧ (∀ i, i < 0 → yn y i = yn Y i) ∧ RS regs A l cap t w g0 g1 g2 g3 g4 g5 nx ax l.length l.length (upd x 2 y) W := ⟨x 2, (hS.rows 2 Zb).2, fun i hi => by omega, by rw [oW]; exact hS⟩
 have Hst := bA hst
 obtain ⟨vn, e1, e2, e3⟩ := hS.ahd
 obtain ⟨gn, on, cn, _, hnx, _, _, _, _, _⟩ := e2.get (k := 0) Zb
 rw [e1] at hnx
 subst hnx
 clear hi hexit hY hst hS e1 e2 e3
 go_loopg [25] (l.length) (fun gk i wr => ∃ (k : Nat) (y : List Bool), k ≤ l.length ∧ i = .int .i64 k ∧ gk = l.length - k ∧ y.length = l.length ∧ (∀ i, i < k → yn y i = yn Y i) ∧ RS regs A l cap t w g0 g1 g2 g3 g4 g5 nx (.slice (some ⟨gn, on, none⟩) l.length cn) l.length l.length (upd x 2 y) wr)
 case atStart => obtain ⟨y, h1, h2, h3⟩ := Hst.o; exact ⟨0, y, Nat.zero_le _, rfl, rfl, h1, h2, h3⟩
 case round => (
 obtain ⟨k, y, hk, rfl, hgk, hyl, hyY, hS1⟩ := hrel
 have Hgk := bA hgk
 have HyY := bA hyY
 clear hgk Hst hyY
 have s0 := hS1.s.cell 0
 have ls := hS1.s.lt
 simp only [List.getElem?_toArray, List.getElem?_cons_zero] at s0
 by_cases hlt : k < l.length
 · (
 obtain ⟨vn, e1, e2, e3⟩ := hS1.ahd
 obtain ⟨gn', on', cn', z, hnx, _, hgl, hz, hcz, _⟩ := e2.get (k := k) Zb
 obtain ⟨ea, eb⟩ : gn = gn' ∧ on = on' := by (
 injection hnx with hnx _ _
 injection hnx with hnx
 injection hnx with ea eb _
 exact ⟨ea, eb⟩)
 subst ea eb
 clear hnx
 obtain ⟨R, rc, ez, hrow⟩ := e3 k hlt
 rw [hz] at ez
 injection ez with ez
 subst ez
 refine Kz fun u0 u1 hel hS2 => ?_; clear hz e1 e2 e3 hS1
 obtain ⟨es, hes⟩ := Exq (bF false l k)
 rw [← hes] at hrow hcz hel
 have Hes := bA hes
 clear hes
 have Hrow := bA hrow
 have HS2 := bA hS2
 clear hS2 hrow
 go_wp2_with fail
 obtain ⟨wi, rfl⟩ := Exq wr
 go_loopg [27, 28] (es.length) (fun gk s27 i wr => ∃ j : Nat, j ≤ es.length ∧ i = .int .i64 j ∧ gk = es.length - j ∧ s27 = .bool (nW t l (x 0) (x 1) k j) ∧ RS regs A l cap t w g0 g1 g2 g3 g4 g5 nx (.slice (some ⟨gn, on, none⟩) l.length cn) l.length l.length (upd x 2 y) wr ∧ Row wr w.heap.size 3 (.slice R es.length rc) (bN es))
 case atStart => exact ⟨0, Nat.zero_le _, rfl, rfl, by (rw [bDT, ← Hes.o]; congr 1; rw [Bool.eq_iff_iff]; simp), HS2.o, Hrow.o⟩
 case round => (
 clear HS2 Hrow hcz s0 ls
 obtain ⟨j, hj, rfl, hgk3, rfl, hS3, hE3⟩ := hrel
 have Hgk3 := bA hgk3
 clear hgk3
 obtain ⟨a0, ha0⟩ := Exq (nW t l (x 0) (x 1) k j)
 rw [← ha0]
 by_cases hjl : j < es.length
 · (
 obtain ⟨mm, n, hjm, hmm, hnm⟩ := sC (bk := false) (l := l) (k := k) (j := j) Xj
 have hstA := bDU (t := t) (d := x 0) (u := x 1) hjm hnm
 rw [← ha0] at hstA
 rw [← Hes.o] at hjm
 obtain ⟨rb, ro, rfl, lr, es0⟩ := hE3.int_at_ hjm
 obtain ⟨nb, no, n', rfl, hnb, hn', hnl⟩ := hA.get hmm
 obtain rfl : n = n' := by rw [hnm] at hn'; injection hn'
 obtain ⟨d0, d1, d2, d3, d4, d5⟩ := hnl
 refine K5 fun v0 v1 m0 m1 => ?_
 obtain ⟨vd, hvd⟩ := Exq (yn (x 0) mm)
 obtain ⟨vu, hvu⟩ := Exq (yn (x 1) mm)
 rw [← hvd, ← hvu] at hstA
 have Hb := bA hstA
 have Hvd := bA hvd
 have Hvu := bA hvu
 clear hstA hvd hvu ha0 hn' hnm
 refine Ka fun lp lt' p1 t0 t1 t2 n0 n1 n2 n3 n4 n5 ln => ?_; clear es0 lr
 obtain ⟨cd, fd, lgd⟩ := hS3.at_ (i := 0) Zb hmm (gi := g0) rfl
 rw [bC _ _ Ze, ← Hvd.o] at cd
 obtain ⟨cu, fu, lgu⟩ := hS3.at_ (i := 1) Zb hmm (gi := g1) rfl
 rw [bC _ _ Ze, ← Hvu.o] at cu
 have es0 := hE3.cell_at hjm
 have lr := cZ hE3
 go_upto_region 43 with fail
 cases a0
 case true => (
 refine Jw ?_
 intro hH
 refine Up (fun _ _ _ _ _ => id) fun hP => ?_
 iterate 35 ((first | refine Wd hP hH ?_ | refine Wa hP hH ?_); try simp only [Nm])
 refine wpAnyH_done Zc ?_ _
 clear hH  p1 t0 t1 t2 n0 n1 n2 n3 n4 n5 ln lp lt' cd fd lgd cu fu lgu es0 lr
 have HSn := bA ((hS3).later ((Below.refl _ _).drew))
 have HEn := bA (hE3.drew)
 go_wp2_with fail
 go_roundg (es.length - (j + 1))
 case measure => exact Jl
 case rel => exact ⟨j + 1, Zb, by go_num, rfl, by rw [Hb.o]; rfl, HSn.o, HEn.o⟩)
 case false => (
 cases h2 : lM t n
 case false => (
 refine Jw ?_
 intro hH
 refine Up (fun _ _ _ _ _ => id) fun hP => ?_
 iterate 11 (refine Wa hP hH ?_; try simp only [Nm])
 refine Rd 11 Zc rfl (fun K hK => ?_)
 have HK11 := bA hK
 clear hK
 go_simp
 go_at_call 150
 refine (fE n t _).mono ?_
 rw [h2]
 rintro e w6 ⟨rfl, hbw6⟩
 refine J7 ?_; clear p1 t0 t1 t2 n0 n1 n2 n3 n4 n5 ln lp lt' cd fd lgd cu fu lgu es0 lr hH; intro hS6 hE6 lp lt' p1 t0 t1 t2 n0 n1 n2 n3 n4 n5 ln
 obtain ⟨cd, fd, lgd⟩ := hS6.at_ (i := 0) Zb hmm (gi := g0) rfl
 rw [bC _ _ Ze, ← Hvd.o] at cd
 obtain ⟨cu, fu, lgu⟩ := hS6.at_ (i := 1) Zb hmm (gi := g1) rfl
 rw [bC _ _ Ze, ← Hvu.o] at cu
 have es0 := hE6.cell_at hjm
 have lr := cZ hE6
 refine Shut.out HK11.o _ _ ⟨p1, t0, t1, t2, n0, n1, n2, n3, n4, n5, es0⟩ (fun hH => ?_)
 try simp only [Nm]
 iterate 23 ((first | refine Wd hP hH ?_ | refine Wa hP hH ?_); try simp only [Nm])
 refine wpAnyH_done Zc ?_ _
 clear hH HK11 p1 t0 t1 t2 n0 n1 n2 n3 n4 n5 ln lp lt' cd fd lgd cu fu lgu es0 lr
 have HSn := bA (hS6)
 have HEn := bA (hE6)
 go_wp2_with fail
 go_roundg (es.length - (j + 1))
 case measure => exact Jl
 case rel => exact ⟨j + 1, Zb, by go_num, rfl, by rw [Hb.o, h2]; rfl, HSn.o, HEn.o⟩)
 case true => (
 cases vd
 case true => (
 refine Jw ?_
 intro hH
 refine Up (fun _ _ _ _ _ => id) fun hP => ?_
 iterate 11 (refine Wa hP hH ?_; try simp only [Nm])
 refine Rd 11 Zc rfl (fun K hK => ?_)
 have HK11 := bA hK
 clear hK
 go_simp
 go_at_call 150
 refine (fE n t _).mono ?_
 rw [h2]
 rintro e w6 ⟨rfl, hbw6⟩
 refine J7 ?_; clear p1 t0 t1 t2 n0 n1 n2 n3 n4 n5 ln lp lt' cd fd lgd cu fu lgu es0 lr hH; intro hS6 hE6 lp lt' p1 t0 t1 t2 n0 n1 n2 n3 n4 n5 ln
 obtain ⟨cd, fd, lgd⟩ := hS6.at_ (i := 0) Zb hmm (gi := g0) rfl
 rw [bC _ _ Ze, ← Hvd.o] at cd
 obtain ⟨cu, fu, lgu⟩ := hS6.at_ (i := 1) Zb hmm (gi := g1) rfl
 rw [bC _ _ Ze, ← Hvu.o] at cu
 have es0 := hE6.cell_at hjm
 have lr := cZ hE6
 refine Shut.out HK11.o _ _ ⟨p1, t0, t1, t2, n0, n1, n2, n3, n4, n5, es0⟩ (fun hH => ?_)
 try simp only [Nm]
 iterate 9 (refine Wa hP hH ?_; try simp only [Nm])
 refine Rd 21 Zc rfl (fun K hK => ?_)
 have HK21 := bA hK
 clear hK
 go_simp
 refine Shut.out HK21.o _ _ hH (fun _ => ?_)
 try simp only [Nm]
 iterate 13 ((first | refine Wd hP hH ?_ | refine Wa hP hH ?_); try simp only [Nm])
 refine wpAnyH_done Zc ?_ _
 clear hH HK11 HK21 p1 t0 t1 t2 n0 n1 n2 n3 n4 n5 ln lp lt' cd fd lgd cu fu lgu es0 lr
 have HSn := bA (hS6)
 have HEn := bA (hE6)
 go_wp2_with fail
 go_roundg (es.length - (j + 1))
 case measure => exact Jl
 case rel => exact ⟨j + 1, Zb, by go_num, rfl, by rw [Hb.o, h2]; rfl, HSn.o, HEn.o⟩)
 case false => (
 refine Jw ?_
 intro hH
 refine Up (fun _ _ _ _ _ => id) fun hP => ?_
 iterate 11 (refine Wa hP hH ?_; try simp only [Nm])
 refine Rd 11 Zc rfl (fun K hK => ?_)
 have HK11 := bA hK
 clear hK
 go_simp
 go_at_call 150
 refine (fE n t _).mono ?_
 rw [h2]
 rintro e w6 ⟨rfl, hbw6⟩
 refine J7 ?_; clear p1 t0 t1 t2 n0 n1 n2 n3 n4 n5 ln lp lt' cd fd lgd cu fu lgu es0 lr hH; intro hS6 hE6 lp lt' p1 t0 t1 t2 n0 n1 n2 n3 n4 n5 ln
 obtain ⟨cd, fd, lgd⟩ := hS6.at_ (i := 0) Zb hmm (gi := g0) rfl
 rw [bC _ _ Ze, ← Hvd.o] at cd
 obtain ⟨cu, fu, lgu⟩ := hS6.at_ (i := 1) Zb hmm (gi := g1) rfl
 rw [bC _ _ Ze, ← Hvu.o] at cu
 have es0 := hE6.cell_at hjm
 have lr := cZ hE6
 refine Shut.out HK11.o _ _ ⟨p1, t0, t1, t2, n0, n1, n2, n3, n4, n5, es0⟩ (fun hH => ?_)
 try simp only [Nm]
 iterate 9 (refine Wa hP hH ?_; try simp only [Nm])
 refine Rd 21 Zc rfl (fun K hK => ?_)
 have HK21 := bA hK
 clear hK
 go_simp
 refine Shut.out HK21.o _ _ hH (fun _ => ?_)
 try simp only [Nm]
 iterate 8 (refine Wa hP hH ?_; try simp only [Nm])
 refine Rd 30 Zc rfl (fun K hK => ?_)
 have HK30 := bA hK
 clear hK
 go_simp
 refine Shut.out HK30.o _ _ hH (fun _ => ?_)
 try simp only [Nm]
 iterate 4 (refine Wa hP hH ?_; try simp only [Nm])
 refine wpAnyH_done Zc ?_ _
 clear hH HK11 HK21 HK30 p1 t0 t1 t2 n0 n1 n2 n3 n4 n5 ln lp lt' cd fd lgd cu fu lgu es0 lr
 have HSn := bA (hS6)
 have HEn := bA (hE6)
 go_wp2_with fail
 go_roundg (es.length - (j + 1))
 case measure => exact Jl
 case rel => exact ⟨j + 1, Zb, by go_num, rfl, by rw [Hb.o, h2]; rfl, HSn.o, HEn.o⟩))))
 · (
 obtain ⟨dk, hdk⟩ := Exq (yn (x 0) k)
 have hend : yn Y k = (dk && a0) := by rw [HY.o, bHB t l (x 0) (x 1) k j Xs hlt, ← ha0, ← hdk]
 obtain ⟨bb, hbb⟩ := Exq ((dk && a0))
 have hbY : bb = yn Y k := by rw [hend, hbb]
 have HbY := bA hbY
 have Hbb := bA hbb
 obtain ⟨ck, fk, lg⟩ := hS3.at_ (i := 2) Zb hlt (gi := g2) rfl
 have ce := (hS3.at_ (i := 0) Zb hlt (gi := g0) rfl).1
 rw [bC _ _ Ze, ← hdk] at ce
 have HS3 := bA hS3
 clear hend hbY hbb hS3 hE3 ha0 hdk
 cases dk
 case true => (
 go_wp2_with fail
 go_roundg (l.length - (k + 1))
 case measure => exact Jg
 case rel => (
 have h := HS3.o.set (i := 2) Zb k bb
 rw [bI, eZ] at h
 have hv : bb = a0 := by rw [Hbb.o]; simp
 refine ⟨k + 1, y.set k bb, Zb, by go_num, rfl, by rw [List.length_set]; exact hyl, fun i hi => Yh, ?_⟩
 rw [hv] at h ⊢
 exact h))
 case false => (
 go_wp2_with fail
 go_roundg (l.length - (k + 1))
 case measure => exact Jg
 case rel => (
 have h := HS3.o.set (i := 2) Zb k bb
 rw [bI, eZ] at h
 have hv : bb = false := by rw [Hbb.o]; simp
 refine ⟨k + 1, y.set k bb, Zb, by go_num, rfl, by rw [List.length_set]; exact hyl, fun i hi => Yh, ?_⟩
 rw [hv] at h ⊢
 exact h)))))
 · (
 have hkk : k = l.length := Zb
 have he : y = Y := nV (by rw [hyl, hYl]) fun i hi => HyY.o i Zb
 have He := bA he
 have HS1 := bA hS1
 clear hS1 he hkk
 go_wp2_with fail
 refine ⟨rfl, ?_⟩
 refine HX.o _ _ y ?_ ?_ ?_ HS1.o
 · rfl
 · kernel_rfl
 · rw [← HY.o]; exact He.o)))
end
end Go.Proofs.YtmghkonmfbpjcabGreatDoor
