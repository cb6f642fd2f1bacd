/- Parts. -/
import Derived.Test.YtmghkonmfbpjcabGreatDoorFactR1
set_option linter.unusedVariables false
set_option linter.unusedSimpArgs false
set_option maxRecDepth 100000
set_option maxHeartbeats 8000000
namespace Go.Proofs.YtmghkonmfbpjcabGreatDoor
open Go.RowKit
open Go.Proofs.Tryz
section
attribute [local irreducible] Row madeCells
attribute [local go_sem] tD
theorem Yw {P : Prop} (h : P := by (
 go_wp2_with fail
 go_roundg (es.length - (j + 1))
 case measure => exact Jl
 case rel => exact ⟨j + 1, Zb, by go_num, rfl, by rw [Hb.o]; rfl, rfl⟩)) : P := h
set_option maxRecDepth 1000000 in
theorem bRB (regs : Int) (A : Option Addr) (l : List Nd) (cap : Nat) (t : Tm) (w : World) (hA : bH w A l) (hR : bM regs l) (g0 g1 g2 g3 g4 g5 : Nat) (nx ax : Value) (x : Nat → List Bool) (a : Act) (W : World) (Rx : Act → World → Prop)
 (hd : a.defers = []) (ha : a.tmps = rfr regs A l cap t w.heap.size g0 g1 g2 g3 g4 g5 nx ax (fK a.tmps)) (hi : fK a.tmps 34 = .int .i64 0)
 (hS : RS regs A l cap t w g0 g1 g2 g3 g4 g5 nx ax l.length l.length x W)
 (hexit : ∀ (a' : Act) (W' : World) (y : List Bool), a'.defers = [] → a'.tmps = rfr regs A l cap t w.heap.size g0 g1 g2 g3 g4 g5 nx ax (fK a'.tmps) → y = nK t l (x 3) → RS regs A l cap t w g0 g1 g2 g3 g4 g5 nx ax l.length l.length (upd x 4 y) W' → Rx a' W') :
 Code.wp prog (Code.loop (vS 5)) (lI 24 Rx) a W := by (
 conv => arg 2; arg 1; whnf
 obtain ⟨tm, df⟩ := a
 simp only at hd ha hi
 subst hd
 generalize fK tm = u at ha hi
 subst ha
 dsimp only [rfr]
 rw [hi]
 have hlo := hR.lo
 have hhi := hR.hi
 have HX := bA hexit
 obtain ⟨Y, hY⟩ := Exq (nK t l (x 3))
 have hYl : Y.length = l.length := by rw [hY]; exact dD _ _
 have HY := bA hY
 have hst : ∃ y, y.length = l.length ∧ (∀ i, i < 0 → yn y i = yn Y i) ∧ RS regs A l cap t w g0 g1 g2 g3 g4 g5 nx ax l.length l.length (upd x 4 y) W := ⟨x 4, (hS.rows 4 Zb).2, fun i hi => by omega, by rw [oW]; exact hS⟩
 have Hst := bA hst
 obtain ⟨vn, e1, e2, e3⟩ := hS.nxt
 obtain ⟨gn, on, cn, _, hnx, _, _, _, _, _⟩ := e2.get (k := 0) Zb
 rw [e1] at hnx
 subst hnx
 clear hi hexit hY hst hS e1 e2 e3
 go_loopg [34] (l.length) (fun gk i wr => ∃ (k : Nat) (y : List Bool), k ≤ l.length ∧ i = .int .i64 k ∧ gk = l.length - k ∧ y.length = l.length ∧ (∀ i, i < k → yn y i = yn Y i) ∧ RS regs A l cap t w g0 g1 g2 g3 g4 g5 (.slice (some ⟨gn, on, none⟩) l.length cn) ax l.length l.length (upd x 4 y) wr)
 case atStart => obtain ⟨y, h1, h2, h3⟩ := Hst.o; exact ⟨0, y, Nat.zero_le _, rfl, rfl, h1, h2, h3⟩
 case round => (
 obtain ⟨k, y, hk, rfl, hgk, hyl, hyY, hS1⟩ := hrel
 have Hgk := bA hgk
 have HyY := bA hyY
 clear hgk Hst hyY
 have s0 := hS1.s.cell 0
 have ls := hS1.s.lt
 simp only [List.getElem?_toArray, List.getElem?_cons_zero] at s0
 by_cases hlt : k < l.length
 · (
 obtain ⟨vn, e1, e2, e3⟩ := hS1.nxt
 obtain ⟨gn', on', cn', z, hnx, _, hgl, hz, hcz, _⟩ := e2.get (k := k) Zb
 obtain ⟨ea, eb⟩ : gn = gn' ∧ on = on' := by (
 injection hnx with hnx _ _
 injection hnx with hnx
 injection hnx with ea eb _
 exact ⟨ea, eb⟩)
 subst ea eb
 clear hnx
 obtain ⟨R, rc, ez, hrow⟩ := e3 k hlt
 rw [hz] at ez
 injection ez with ez
 subst ez
 refine Vk fun u0 u1 => ?_
 have hel : (bF true l k).length ≤ l.length := wU _ _ _
 have hS2 := hS1
 clear hz e1 e2 e3 hS1
 obtain ⟨es, hes⟩ := Exq (bF true l k)
 rw [← hes] at hrow hcz hel
 have Hes := bA hes
 clear hes
 have h3row := (hS2.rows 3 Zb).1
 have h3len := (hS2.rows 3 Zb).2
 rw [bC _ _ Ze] at h3row h3len
 have h3row : Row wr w.heap.size 4 (.slice (some ⟨g3, 0, none⟩) l.length l.length) (bE (x 3)) := h3row
 have H3row := bA h3row
 have lg := cZ h3row
 have Hrow := bA hrow
 have HS2 := bA hS2
 clear hS2 hrow h3row
 go_wp2_with fail
 obtain ⟨wi, rfl⟩ := Exq wr
 go_loopg [36, 37] (es.length) (fun gk s36 i wr => ∃ j : Nat, j ≤ es.length ∧ i = .int .i64 j ∧ gk = es.length - j ∧ s36 = .bool (sA l (x 3) k j) ∧ wr = wi)
 case atStart => exact ⟨0, Nat.zero_le _, rfl, rfl, by rw [bGN], rfl⟩
 case round => (
 obtain ⟨j, hj, rfl, hgk3, rfl, rfl⟩ := hrel
 have Hgk3 := bA hgk3
 clear hgk3
 obtain ⟨a0, ha0⟩ := Exq (sA l (x 3) k j)
 rw [← ha0]
 by_cases hjl : j < es.length
 · (
 obtain ⟨mm, n, hjm, hmm, hnm⟩ := sC (bk := true) (l := l) (k := k) (j := j) Xj
 have hstA := bGO (y := x 3) hjm
 rw [← ha0] at hstA
 rw [← Hes.o] at hjm
 obtain ⟨rb, ro, rfl, lr, es0⟩ := Hrow.o.int_at_ hjm
 obtain ⟨cm, fm⟩ := H3row.o.bool_at_ (k := mm) (by rw [h3len]; exact hmm)
 have Hb := bA hstA
 obtain ⟨v0, v1⟩ := Ikq (k := j) (n := es.length) (by omega)
 clear hstA ha0 hjm hnm
 cases a0
 case true => exact Yw
 case false => exact Yw)
 · (
 obtain ⟨nb, no, n, rfl, hnb, hn, hnl⟩ := hA.get hlt
 obtain ⟨d0, d1, d2, d3, d4, d5⟩ := hnl
 obtain ⟨dk, hdk⟩ := Exq (yn (x 3) k)
 have hend : yn Y k = (dk && (fJ t n || a0)) := by rw [HY.o, bJZ (j := j) Xs hlt hn, ← ha0, ← hdk]
 obtain ⟨bb, hbb⟩ := Exq ((dk && (fJ t n || a0)))
 have hbY : bb = yn Y k := by rw [hend, hbb]
 have HbY := bA hbY
 have Hbb := bA hbb
 have Hdk := bA hdk
 have hS3 := HS2.o
 have nP : ¬ (w.heap.size = g4) := fun e => by have h := Blk.ne_ hS3.p (hS3.rows 4 Zb).1.blk.choose_spec Ze; exact h e
 have nP' : ¬ (g4 = w.heap.size) := fun e => nP e.symm
 have nT : ¬ (w.heap.size + 1 = g4) := fun e => by have h := Blk.ne_ hS3.t (hS3.rows 4 Zb).1.blk.choose_spec Ze; exact h e
 have nT' : ¬ (g4 = w.heap.size + 1) := fun e => nT e.symm
 have nN : ¬ (nb = g4) := fun e => by have h := qQ (hS3.rows 4 Zb).1; have h2 : w.heap.size ≤ g4 := h; omega
 have nN' : ¬ (g4 = nb) := fun e => nN e.symm
 clear hend hbY hbb ha0 hdk hn H3row Hrow HS2 hcz s0 ls lg
 have p1 := hS3.p.cell 1
 have t0 := hS3.t.cell 0
 have t1 := hS3.t.cell 1
 have t2 := hS3.t.cell 2
 have lp := hS3.p.lt
 have lt' := hS3.t.lt
 simp only [Yl] at p1 t0 t1 t2
 have n0 := ((bB hS3.below).1 nb _ hnb).trans d0
 have n1 := ((bB hS3.below).1 nb _ hnb).trans d1
 have n2 := ((bB hS3.below).1 nb _ hnb).trans d2
 have n3 := ((bB hS3.below).1 nb _ hnb).trans d3
 have n4 := ((bB hS3.below).1 nb _ hnb).trans d4
 have n5 := ((bB hS3.below).1 nb _ hnb).trans d5
 have ln := V6 hnb hS3.below.size
 obtain ⟨ck, fk, lgk⟩ := hS3.at_ (i := 4) Zb hlt (gi := g4) rfl
 obtain ⟨cd, fd, lgd⟩ := hS3.at_ (i := 3) Zb hlt (gi := g3) rfl
 rw [bC _ _ Ze, ← Hdk.o] at cd
 go_upto_region 67 with fail
 cases dk
 case false => (
 refine Jv ?_
 intro hH
 refine Up (fun _ _ _ _ _ => id) fun hP => ?_
 iterate 5 (refine Wa hP hH ?_; try simp only [Nm])
 refine Rd 5 Zc rfl (fun K hK => ?_)
 have HK5 := bA hK
 clear hK
 go_simp
 refine Shut.out HK5.o _ _ hH (fun _ => ?_)
 try simp only [Nm]
 iterate 13 ((first | refine Wd hP hH ?_ | refine Wa hP hH ?_); try simp only [Nm])
 refine Rd 19 Zc rfl (fun K hK => ?_)
 have HK19 := bA hK
 clear hK
 go_simp
 refine Shut.out HK19.o _ _ ?_ (fun _ => ?_)
 · refine ⟨?_, ?_, ?_, ?_, ?_, ?_, ?_, ?_, ?_, ?_⟩ <;> first | assumption | go_keep
 try simp only [Nm]
 refine wpAnyH_done Zc ?_ _
 clear hH HK5 HK19 p1 t0 t1 t2 n0 n1 n2 n3 n4 n5 ln lp lt' ck fk lgk cd fd lgd
 go_wp2_with fail
 go_roundg (l.length - (k + 1))
 case measure => exact Jg
 case rel => (
 have h := ((hS3).later ((Below.refl _ _).drew)).set (i := 4) Zb k bb
 rw [bI, eZ] at h
 have hv : bb = false := by rw [Hbb.o]; rfl
 refine ⟨k + 1, y.set k bb, Zb, by go_num, rfl, by rw [List.length_set]; exact hyl, fun i hi => Yh, ?_⟩
 rw [hv] at h ⊢
 exact h))
 case true => (
 cases h2 : fJ t n
 case true => (
 refine Jv ?_
 intro hH
 refine Up (fun _ _ _ _ _ => id) fun hP => ?_
 iterate 5 (refine Wa hP hH ?_; try simp only [Nm])
 refine Rd 5 Zc rfl (fun K hK => ?_)
 have HK5 := bA hK
 clear hK
 go_simp
 refine Shut.out HK5.o _ _ hH (fun _ => ?_)
 try simp only [Nm]
 iterate 7 (refine Wa hP hH ?_; try simp only [Nm])
 refine Rd 13 Zc rfl (fun K hK => ?_)
 have HK13 := bA hK
 clear hK
 go_simp
 go_at_call 105
 refine (bW n t _).mono ?_
 rw [h2]
 rintro e w6 ⟨rfl, hbw6⟩
 refine J9 ?_; clear p1 t0 t1 t2 n0 n1 n2 n3 n4 n5 ln lp lt' ck fk lgk cd fd lgd hH; intro hS6 lp lt' p1 t0 t1 t2 n0 n1 n2 n3 n4 n5 ln
 obtain ⟨ck, fk, lgk⟩ := hS6.at_ (i := 4) Zb hlt (gi := g4) rfl
 obtain ⟨cd, fd, lgd⟩ := hS6.at_ (i := 3) Zb hlt (gi := g3) rfl
 rw [bC _ _ Ze, ← Hdk.o] at cd
 refine Shut.out HK13.o _ _ ⟨p1, t0, t1, t2, n0, n1, n2, n3, n4, n5⟩ (fun hH => ?_)
 try simp only [Nm]
 iterate 5 ((first | refine Wd hP hH ?_ | refine Wa hP hH ?_); try simp only [Nm])
 refine Rd 19 Zc rfl (fun K hK => ?_)
 have HK19 := bA hK
 clear hK
 go_simp
 refine Shut.out HK19.o _ _ ?_ (fun _ => ?_)
 · refine ⟨?_, ?_, ?_, ?_, ?_, ?_, ?_, ?_, ?_, ?_⟩ <;> first | assumption | go_keep
 try simp only [Nm]
 refine wpAnyH_done Zc ?_ _
 clear hH HK5 HK13 HK19 p1 t0 t1 t2 n0 n1 n2 n3 n4 n5 ln lp lt' ck fk lgk cd fd lgd
 go_wp2_with fail
 go_roundg (l.length - (k + 1))
 case measure => exact Jg
 case rel => (
 have h := (hS6).set (i := 4) Zb k bb
 rw [bI, eZ] at h
 have hv : bb = true := by rw [Hbb.o, h2]; rfl
 refine ⟨k + 1, y.set k bb, Zb, by go_num, rfl, by rw [List.length_set]; exact hyl, fun i hi => Yh, ?_⟩
 rw [hv] at h ⊢
 exact h))
 case false => (
 refine Jv ?_
 intro hH
 refine Up (fun _ _ _ _ _ => id) fun hP => ?_
 iterate 5 (refine Wa hP hH ?_; try simp only [Nm])
 refine Rd 5 Zc rfl (fun K hK => ?_)
 have HK5 := bA hK
 clear hK
 go_simp
 refine Shut.out HK5.o _ _ hH (fun _ => ?_)
 try simp only [Nm]
 iterate 7 (refine Wa hP hH ?_; try simp only [Nm])
 refine Rd 13 Zc rfl (fun K hK => ?_)
 have HK13 := bA hK
 clear hK
 go_simp
 go_at_call 105
 refine (bW n t _).mono ?_
 rw [h2]
 rintro e w6 ⟨rfl, hbw6⟩
 refine J9 ?_; clear p1 t0 t1 t2 n0 n1 n2 n3 n4 n5 ln lp lt' ck fk lgk cd fd lgd hH; intro hS6 lp lt' p1 t0 t1 t2 n0 n1 n2 n3 n4 n5 ln
 obtain ⟨ck, fk, lgk⟩ := hS6.at_ (i := 4) Zb hlt (gi := g4) rfl
 obtain ⟨cd, fd, lgd⟩ := hS6.at_ (i := 3) Zb hlt (gi := g3) rfl
 rw [bC _ _ Ze, ← Hdk.o] at cd
 refine Shut.out HK13.o _ _ ⟨p1, t0, t1, t2, n0, n1, n2, n3, n4, n5⟩ (fun hH => ?_)
 try simp only [Nm]
 iterate 5 (refine Wa hP hH ?_; try simp only [Nm])
 refine Rd 19 Zc rfl (fun K hK => ?_)
 have HK19 := bA hK
 clear hK
 go_simp
 refine Shut.out HK19.o _ _ ?_ (fun _ => ?_)
 · refine ⟨?_, ?_, ?_, ?_, ?_, ?_, ?_, ?_, ?_, ?_⟩ <;> first | assumption | go_keep
 try simp only [Nm]
 refine wpAnyH_done Zc ?_ _
 clear hH HK5 HK13 HK19 p1 t0 t1 t2 n0 n1 n2 n3 n4 n5 ln lp lt' ck fk lgk cd fd lgd
 go_wp2_with fail
 go_roundg (l.length - (k + 1))
 case measure => exact Jg
 case rel => (
 have h := (hS6).set (i := 4) Zb k bb
 rw [bI, eZ] at h
 have hv : bb = a0 := by rw [Hbb.o, h2]; rfl
 refine ⟨k + 1, y.set k bb, Zb, by go_num, rfl, by rw [List.length_set]; exact hyl, fun i hi => Yh, ?_⟩
 rw [hv] at h ⊢
 exact h))))))
 · (
 have hkk : k = l.length := Zb
 have he : y = Y := nV (by rw [hyl, hYl]) fun i hi => HyY.o i Zb
 have He := bA he
 have HS1 := bA hS1
 clear hS1 he hkk
 go_wp2_with fail
 refine ⟨rfl, ?_⟩
 refine HX.o _ _ y ?_ ?_ ?_ HS1.o
 · rfl
 · kernel_rfl
 · rw [← HY.o]; exact He.o)))
end
end Go.Proofs.YtmghkonmfbpjcabGreatDoor
