/- Parts. -/
import Derived.Test.YtmghkonmfbpjcabGreatDoorFactR1
set_option linter.unusedVariables false
set_option linter.unusedSimpArgs false
set_option maxRecDepth 100000
set_option maxHeartbeats 8000000
namespace Go.Proofs.YtmghkonmfbpjcabGreatDoor
open Go.RowKit
open Go.Proofs.Tryz
section
attribute [local irreducible] Row madeCells
attribute [local go_sem] tD
set_option maxRecDepth 1000000 in
theorem bRA (regs : Int) (A : Option Addr) (l : List Nd) (cap : Nat) (t : Tm) (w : World) (hA : bH w A l) (hR : bM regs l) (g0 g1 g2 g3 g4 g5 : Nat) (nx ax : Value) (x : Nat → List Bool) (a : Act) (W : World) (Rx : Act → World → Prop)
 (hd : a.defers = []) (ha : a.tmps = rfr regs A l cap t w.heap.size g0 g1 g2 g3 g4 g5 nx ax (fK a.tmps)) (hi : fK a.tmps 38 = .int .i64 0)
 (hS : RS regs A l cap t w g0 g1 g2 g3 g4 g5 nx ax l.length l.length x W) (hx : ∀ i, i < l.length → yn (x 5) i = true)
 (hexit : ∀ (a' : Act) (W' : World) (y : List Bool), a'.defers = [] → a'.tmps = rfr regs A l cap t w.heap.size g0 g1 g2 g3 g4 g5 nx ax (fK a'.tmps) → eU (lE (cU true true (noL l.length) (cX (noL l.length)) (x 4) (cX (cQ t l)) l) l.length) l.length y → RS regs A l cap t w g0 g1 g2 g3 g4 g5 nx ax l.length l.length (upd x 5 y) W' → Rx a' W') :
 Code.wp prog (Code.loop (vS 6)) (lI 28 Rx) a W := by (
 conv => arg 2; arg 1; whnf
 obtain ⟨tm, df⟩ := a
 simp only at hd ha hi
 subst hd
 generalize fK tm = u at ha hi
 subst ha
 dsimp only [rfr]
 rw [hi]
 have hlo := hR.lo
 have hhi := hR.hi
 have HX := bA hexit
 obtain ⟨Sf, hSf⟩ := Exq (lE (cU true true (noL l.length) (cX (noL l.length)) (x 4) (cX (cQ t l)) l) l.length)
 have hm : jN Sf := by rw [hSf]; exact vR (dP _ _ _ _ _ _ _)
 have HSf := bA hSf
 have HM := bA hm
 have hst : ∃ y, dT Sf l.length 0 0 y ∧ RS regs A l cap t w g0 g1 g2 g3 g4 g5 nx ax l.length l.length (upd x 5 y) W := ⟨x 5, dT.start (hS.rows 5 Zb).2 hx, by rw [oW]; exact hS⟩
 have Hst := bA hst
 obtain ⟨vn, e1, e2, e3⟩ := hS.nxt
 obtain ⟨gn, on, cn, _, hnx, _, _, _, _, _⟩ := e2.get (k := 0) Zb
 rw [e1] at hnx
 subst hnx
 clear hi hexit hSf hm hst hS hx e1 e2 e3
 go_loopg [38] (l.length + 1) (fun gk i wr => ∃ (c : Nat) (y : List Bool), c ≤ l.length + 1 ∧ i = .int .i64 c ∧ gk = l.length + 1 - c ∧ dT Sf l.length c 0 y ∧ RS regs A l cap t w g0 g1 g2 g3 g4 g5 (.slice (some ⟨gn, on, none⟩) l.length cn) ax l.length l.length (upd x 5 y) wr)
 case atStart => obtain ⟨y, h1, h2⟩ := Hst.o; exact ⟨0, y, Nat.zero_le _, rfl, rfl, h1, h2⟩
 case round => (
 obtain ⟨c, y, hc, rfl, hgk, h, hS1⟩ := hrel
 have Hgk := bA hgk
 have HSw := bA h
 clear hgk Hst h
 have s0 := hS1.s.cell 0
 have ls := hS1.s.lt
 simp only [List.getElem?_toArray, List.getElem?_cons_zero] at s0
 have HS1 := bA hS1
 clear hS1
 by_cases hcl : c ≤ l.length
 · (
 have cc : (c : Int) ≤ (l.length : Int) := Zb
 obtain ⟨wo, rfl⟩ := Exq wr
 obtain ⟨gk0, rfl⟩ := Exq gk
 go_wp2_with fail
 go_loopg [39] (l.length) (fun gk i wr => ∃ (k : Nat) (y : List Bool), k ≤ l.length ∧ i = .int .i64 k ∧ gk = l.length - k ∧ dT Sf l.length c k y ∧ RS regs A l cap t w g0 g1 g2 g3 g4 g5 (.slice (some ⟨gn, on, none⟩) l.length cn) ax l.length l.length (upd x 5 y) wr)
 case atStart => exact Jm
 case round => (
 clear HS1 HSw s0 ls
 obtain ⟨k, y, hk, rfl, hgk2, h, hS1⟩ := hrel
 have Hgk2 := bA hgk2
 have HSw := bA h
 clear hgk2 h
 have s0 := hS1.s.cell 0
 have ls := hS1.s.lt
 simp only [List.getElem?_toArray, List.getElem?_cons_zero] at s0
 by_cases hlt : k < l.length
 · (
 obtain ⟨vn, e1, e2, e3⟩ := hS1.nxt
 obtain ⟨gn', on', cn', z, hnx, _, hgl, hz, hcz, _⟩ := e2.get (k := k) Zb
 obtain ⟨ea, eb⟩ : gn = gn' ∧ on = on' := by (
 injection hnx with hnx _ _
 injection hnx with hnx
 injection hnx with ea eb _
 exact ⟨ea, eb⟩)
 subst ea eb
 clear hnx
 obtain ⟨R, rc, ez, hrow⟩ := e3 k hlt
 rw [hz] at ez
 injection ez with ez
 subst ez
 refine Vk fun u0 u1 => ?_
 have hel : (bF true l k).length ≤ l.length := wU _ _ _
 have hS2 := hS1
 clear hz e1 e2 e3 hS1
 obtain ⟨es, hes⟩ := Exq (bF true l k)
 rw [← hes] at hrow hcz hel
 have Hes := bA hes
 clear hes
 have hyl : y.length = l.length := HSw.o.len
 have h1row := (hS2.rows 5 Zb).1
 rw [bI] at h1row
 have h1row : Row wr w.heap.size 4 (.slice (some ⟨g5, 0, none⟩) l.length l.length) (bE y) := h1row
 obtain ⟨ck, fk⟩ := h1row.bool_at_ (k := k) Z5
 have lg := cZ h1row
 have ngR : (Value.slice R es.length rc).ownBlock ≠ some g5 := hrow.ne_blk h1row.blk.choose_spec Ze
 have Hng := bA ngR
 have Hrow := bA hrow
 have HS2 := bA hS2
 clear hS2 hrow ngR h1row
 go_wp2_with fail
 obtain ⟨wi, rfl⟩ := Exq wr
 go_loopg [41] (es.length) (fun gk i wr => ∃ j : Nat, j ≤ es.length ∧ i = .int .i64 j ∧ gk = es.length - j ∧ RS regs A l cap t w g0 g1 g2 g3 g4 g5 (.slice (some ⟨gn, on, none⟩) l.length cn) ax l.length l.length (upd x 5 (y.set k (gZ t l (x 4) y k j))) wr ∧ Row wr w.heap.size 3 (.slice R es.length rc) (bN es))
 case atStart => have h := HS2.o.set (i := 5) Zb k true; rw [bI, eZ] at h; exact ⟨0, Nat.zero_le _, rfl, rfl, by rw [bEP]; exact h, Hrow.o.far (p := ⟨g5, k, none⟩) Hng.o _⟩
 case round => (
 clear HS2 Hrow ck fk lg hcz s0 ls
 obtain ⟨j, hj, rfl, hgk3, hS3, hE3⟩ := hrel
 have Hgk3 := bA hgk3
 clear hgk3
 by_cases hjl : j < es.length
 · (
 obtain ⟨mm, n, hjm, hmm, hnm⟩ := sC (bk := true) (l := l) (k := k) (j := j) Xj
 have hstA := bEQ (t := t) (f := x 4) (y := y) hjm hnm
 rw [← Hes.o] at hjm
 obtain ⟨rb, ro, rfl, lr, es0⟩ := hE3.int_at_ hjm
 obtain ⟨nb, no, n', rfl, hnb, hn', hnl⟩ := hA.get hmm
 obtain rfl : n = n' := by rw [hnm] at hn'; injection hn'
 obtain ⟨d0, d1, d2, d3, d4, d5⟩ := hnl
 refine K5 fun v0 v1 m0 m1 => ?_
 obtain ⟨a0, ha0⟩ := Exq (gZ t l (x 4) y k j)
 rw [← ha0] at hS3 hstA
 obtain ⟨z, hz⟩ := Exq (y.set k a0)
 rw [← hz] at hS3
 have hzk : yn z k = a0 := by rw [hz, cL _ _ _ _ Z5, if_pos rfl]
 obtain ⟨vm, hvm⟩ := Exq (yn z mm)
 obtain ⟨vf, hvf⟩ := Exq (yn (x 4) mm)
 have hb : gZ t l (x 4) y k (j + 1) = (a0 && (vf || !fJ t n && vm)) := by (
 rw [hstA]
 cases a0 with
 | false => rfl
 | true => rw [hvm, hz, bCG hyl hlt, hvf])
 have Hb := bA hb
 have Hz := bA hz
 have Hvm := bA hvm
 have Hvf := bA hvf
 have nP : ¬ (w.heap.size = g5) := fun e => by have h := Blk.ne_ hS3.p (hS3.rows 5 Zb).1.blk.choose_spec Ze; exact h e
 have nP' : ¬ (g5 = w.heap.size) := fun e => nP e.symm
 have nT : ¬ (w.heap.size + 1 = g5) := fun e => by have h := Blk.ne_ hS3.t (hS3.rows 5 Zb).1.blk.choose_spec Ze; exact h e
 have nT' : ¬ (g5 = w.heap.size + 1) := fun e => nT e.symm
 have nN : ¬ (nb = g5) := fun e => by have h := qQ (hS3.rows 5 Zb).1; have h2 : w.heap.size ≤ g5 := h; omega
 have nN' : ¬ (g5 = nb) := fun e => nN e.symm
 have nR : ¬ (rb = g5) := fun e => Hng.o (by rw [← e]; rfl)
 have nR' : ¬ (g5 = rb) := fun e => nR e.symm
 clear hb hz hvm hvf ha0 hstA hn' hnm
 refine Ka fun lp lt' p1 t0 t1 t2 n0 n1 n2 n3 n4 n5 ln => ?_; clear es0 lr
 obtain ⟨ck, fk, lgk⟩ := hS3.at_ (i := 5) Zb hlt (gi := g5) rfl
 rw [bI, hzk] at ck
 obtain ⟨cm, fm, lgm⟩ := hS3.at_ (i := 5) Zb hmm (gi := g5) rfl
 rw [bI, ← Hvm.o] at cm
 obtain ⟨cv, fv, lgv⟩ := hS3.at_ (i := 4) Zb hmm (gi := g4) rfl
 rw [bC _ _ Ze, ← Hvf.o] at cv
 have es0 := hE3.cell_at hjm
 have lr := cZ hE3
 go_upto_region 79 with fail
 cases a0
 case false => (
 refine Jw ?_
 intro hH
 refine Up (fun _ _ _ _ _ => id) fun hP => ?_
 iterate 5 (refine Wa hP hH ?_; try simp only [Nm])
 refine Rd 5 Zc rfl (fun K hK => ?_)
 have HK5 := bA hK
 clear hK
 go_simp
 refine Shut.out HK5.o _ _ hH (fun _ => ?_)
 try simp only [Nm]
 iterate 32 ((first | refine Wd hP hH ?_ | refine Wa hP hH ?_); try simp only [Nm])
 refine Rd 38 Zc rfl (fun K hK => ?_)
 have HK38 := bA hK
 clear hK
 go_simp
 refine Shut.out HK38.o _ _ ?_ (fun _ => ?_)
 · refine ⟨?_, ?_, ?_, ?_, ?_, ?_, ?_, ?_, ?_, ?_, ?_⟩ <;> first | assumption | go_keep
 try simp only [Nm]
 refine wpAnyH_done Zc ?_ _
 clear hH HK5 HK38 p1 t0 t1 t2 n0 n1 n2 n3 n4 n5 ln lp lt' ck fk lgk cm fm lgm cv fv lgv es0 lr
 go_wp2_with fail
 go_roundg (es.length - (j + 1))
 case measure => exact Jl
 case rel => (
 have h := ((hS3).later ((Below.refl _ _).drew)).set (i := 5) Zb k false
 rw [bI, eZ, Hz.o, List.set_set] at h
 refine ⟨j + 1, Zb, by go_num, rfl, ?_, (hE3.drew).far (p := ⟨g5, k, none⟩) Hng.o _⟩
 have hval : gZ t l (x 4) y k (j + 1) = false := by rw [Hb.o]; rfl
 rw [hval]
 exact h))
 case true => (
 cases vf
 case true => (
 refine Jw ?_
 intro hH
 refine Up (fun _ _ _ _ _ => id) fun hP => ?_
 iterate 5 (refine Wa hP hH ?_; try simp only [Nm])
 refine Rd 5 Zc rfl (fun K hK => ?_)
 have HK5 := bA hK
 clear hK
 go_simp
 refine Shut.out HK5.o _ _ hH (fun _ => ?_)
 try simp only [Nm]
 iterate 7 (refine Wa hP hH ?_; try simp only [Nm])
 refine Rd 13 Zc rfl (fun K hK => ?_)
 have HK13 := bA hK
 clear hK
 go_simp
 refine Shut.out HK13.o _ _ hH (fun _ => ?_)
 try simp only [Nm]
 iterate 24 ((first | refine Wd hP hH ?_ | refine Wa hP hH ?_); try simp only [Nm])
 refine Rd 38 Zc rfl (fun K hK => ?_)
 have HK38 := bA hK
 clear hK
 go_simp
 refine Shut.out HK38.o _ _ ?_ (fun _ => ?_)
 · refine ⟨?_, ?_, ?_, ?_, ?_, ?_, ?_, ?_, ?_, ?_, ?_⟩ <;> first | assumption | go_keep
 try simp only [Nm]
 refine wpAnyH_done Zc ?_ _
 clear hH HK5 HK13 HK38 p1 t0 t1 t2 n0 n1 n2 n3 n4 n5 ln lp lt' ck fk lgk cm fm lgm cv fv lgv es0 lr
 go_wp2_with fail
 go_roundg (es.length - (j + 1))
 case measure => exact Jl
 case rel => (
 have h := ((hS3).later ((Below.refl _ _).drew)).set (i := 5) Zb k true
 rw [bI, eZ, Hz.o, List.set_set] at h
 refine ⟨j + 1, Zb, by go_num, rfl, ?_, (hE3.drew).far (p := ⟨g5, k, none⟩) Hng.o _⟩
 have hval : gZ t l (x 4) y k (j + 1) = true := by rw [Hb.o]; rfl
 rw [hval]
 exact h))
 case false => (
 cases h2 : fJ t n
 case true => (
 refine Jw ?_
 intro hH
 refine Up (fun _ _ _ _ _ => id) fun hP => ?_
 iterate 5 (refine Wa hP hH ?_; try simp only [Nm])
 refine Rd 5 Zc rfl (fun K hK => ?_)
 have HK5 := bA hK
 clear hK
 go_simp
 refine Shut.out HK5.o _ _ hH (fun _ => ?_)
 try simp only [Nm]
 iterate 7 (refine Wa hP hH ?_; try simp only [Nm])
 refine Rd 13 Zc rfl (fun K hK => ?_)
 have HK13 := bA hK
 clear hK
 go_simp
 refine Shut.out HK13.o _ _ hH (fun _ => ?_)
 try simp only [Nm]
 iterate 10 (refine Wa hP hH ?_; try simp only [Nm])
 refine Rd 24 Zc rfl (fun K hK => ?_)
 have HK24 := bA hK
 clear hK
 go_simp
 go_at_call 105
 refine (bW n t _).mono ?_
 rw [h2]
 rintro e w6 ⟨rfl, hbw6⟩
 refine J8 ?_; clear p1 t0 t1 t2 n0 n1 n2 n3 n4 n5 ln lp lt' ck fk lgk cm fm lgm cv fv lgv es0 lr hH; intro hS6 hE6 lp lt' p1 t0 t1 t2 n0 n1 n2 n3 n4 n5 ln
 obtain ⟨ck, fk, lgk⟩ := hS6.at_ (i := 5) Zb hlt (gi := g5) rfl
 rw [bI, hzk] at ck
 obtain ⟨cm, fm, lgm⟩ := hS6.at_ (i := 5) Zb hmm (gi := g5) rfl
 rw [bI, ← Hvm.o] at cm
 obtain ⟨cv, fv, lgv⟩ := hS6.at_ (i := 4) Zb hmm (gi := g4) rfl
 rw [bC _ _ Ze, ← Hvf.o] at cv
 have es0 := hE6.cell_at hjm
 have lr := cZ hE6
 refine Shut.out HK24.o _ _ ⟨p1, t0, t1, t2, n0, n1, n2, n3, n4, n5, es0⟩ (fun hH => ?_)
 try simp only [Nm]
 iterate 13 ((first | refine Wd hP hH ?_ | refine Wa hP hH ?_); try simp only [Nm])
 refine Rd 38 Zc rfl (fun K hK => ?_)
 have HK38 := bA hK
 clear hK
 go_simp
 refine Shut.out HK38.o _ _ ?_ (fun _ => ?_)
 · refine ⟨?_, ?_, ?_, ?_, ?_, ?_, ?_, ?_, ?_, ?_, ?_⟩ <;> first | assumption | go_keep
 try simp only [Nm]
 refine wpAnyH_done Zc ?_ _
 clear hH HK5 HK13 HK24 HK38 p1 t0 t1 t2 n0 n1 n2 n3 n4 n5 ln lp lt' ck fk lgk cm fm lgm cv fv lgv es0 lr
 go_wp2_with fail
 go_roundg (es.length - (j + 1))
 case measure => exact Jl
 case rel => (
 have h := (hS6).set (i := 5) Zb k false
 rw [bI, eZ, Hz.o, List.set_set] at h
 refine ⟨j + 1, Zb, by go_num, rfl, ?_, (hE6).far (p := ⟨g5, k, none⟩) Hng.o _⟩
 have hval : gZ t l (x 4) y k (j + 1) = false := by rw [Hb.o, h2]; rfl
 rw [hval]
 exact h))
 case false => (
 refine Jw ?_
 intro hH
 refine Up (fun _ _ _ _ _ => id) fun hP => ?_
 iterate 5 (refine Wa hP hH ?_; try simp only [Nm])
 refine Rd 5 Zc rfl (fun K hK => ?_)
 have HK5 := bA hK
 clear hK
 go_simp
 refine Shut.out HK5.o _ _ hH (fun _ => ?_)
 try simp only [Nm]
 iterate 7 (refine Wa hP hH ?_; try simp only [Nm])
 refine Rd 13 Zc rfl (fun K hK => ?_)
 have HK13 := bA hK
 clear hK
 go_simp
 refine Shut.out HK13.o _ _ hH (fun _ => ?_)
 try simp only [Nm]
 iterate 10 (refine Wa hP hH ?_; try simp only [Nm])
 refine Rd 24 Zc rfl (fun K hK => ?_)
 have HK24 := bA hK
 clear hK
 go_simp
 go_at_call 105
 refine (bW n t _).mono ?_
 rw [h2]
 rintro e w6 ⟨rfl, hbw6⟩
 refine J8 ?_; clear p1 t0 t1 t2 n0 n1 n2 n3 n4 n5 ln lp lt' ck fk lgk cm fm lgm cv fv lgv es0 lr hH; intro hS6 hE6 lp lt' p1 t0 t1 t2 n0 n1 n2 n3 n4 n5 ln
 obtain ⟨ck, fk, lgk⟩ := hS6.at_ (i := 5) Zb hlt (gi := g5) rfl
 rw [bI, hzk] at ck
 obtain ⟨cm, fm, lgm⟩ := hS6.at_ (i := 5) Zb hmm (gi := g5) rfl
 rw [bI, ← Hvm.o] at cm
 obtain ⟨cv, fv, lgv⟩ := hS6.at_ (i := 4) Zb hmm (gi := g4) rfl
 rw [bC _ _ Ze, ← Hvf.o] at cv
 have es0 := hE6.cell_at hjm
 have lr := cZ hE6
 refine Shut.out HK24.o _ _ ⟨p1, t0, t1, t2, n0, n1, n2, n3, n4, n5, es0⟩ (fun hH => ?_)
 try simp only [Nm]
 iterate 8 (refine Wa hP hH ?_; try simp only [Nm])
 refine Rd 33 Zc rfl (fun K hK => ?_)
 have HK33 := bA hK
 clear hK
 go_simp
 refine Shut.out HK33.o _ _ hH (fun _ => ?_)
 try simp only [Nm]
 iterate 4 (refine Wa hP hH ?_; try simp only [Nm])
 refine Rd 38 Zc rfl (fun K hK => ?_)
 have HK38 := bA hK
 clear hK
 go_simp
 refine Shut.out HK38.o _ _ ?_ (fun _ => ?_)
 · refine ⟨?_, ?_, ?_, ?_, ?_, ?_, ?_, ?_, ?_, ?_, ?_⟩ <;> first | assumption | go_keep
 try simp only [Nm]
 refine wpAnyH_done Zc ?_ _
 clear hH HK5 HK13 HK24 HK33 HK38 p1 t0 t1 t2 n0 n1 n2 n3 n4 n5 ln lp lt' ck fk lgk cm fm lgm cv fv lgv es0 lr
 go_wp2_with fail
 go_roundg (es.length - (j + 1))
 case measure => exact Jl
 case rel => (
 have h := (hS6).set (i := 5) Zb k vm
 rw [bI, eZ, Hz.o, List.set_set] at h
 refine ⟨j + 1, Zb, by go_num, rfl, ?_, (hE6).far (p := ⟨g5, k, none⟩) Hng.o _⟩
 have hval : gZ t l (x 4) y k (j + 1) = vm := by rw [Hb.o, h2]; rfl
 rw [hval]
 exact h)))))
 · (
 have hend : gZ t l (x 4) y k j = Sf y k := by rw [bHO t l (x 4) y k j Xs, HSf.o]; exact (bOC t l (x 4) y hlt).symm
 have hstep := HSw.o.step HM.o hlt (b := gZ t l (x 4) y k j) hend
 have Hstep := bA hstep
 have HS3 := bA hS3
 clear hend hstep hS3 hE3
 go_wp2_with fail
 go_roundg (l.length - (k + 1))
 case measure => exact Jf
 case rel => exact ⟨k + 1, _, Zb, by go_num, rfl, Hstep.o, HS3.o⟩)))
 · (
 have hkk : k = l.length := Zb
 subst hkk
 have HS1 := bA hS1
 clear hS1
 go_wp2_with fail
 go_roundg (l.length + 1 - (c + 1))
 case measure => exact Jg
 case rel => exact ⟨c + 1, y, Zb, by go_num, rfl, HSw.o.turn, HS1.o⟩)))
 · (
 refine Vg fun HG => ?_
 go_wp2_with fail
 refine ⟨rfl, ?_⟩
 refine HX.o _ _ y ?_ ?_ ?_ HS1.o
 · rfl
 · kernel_rfl
 · rw [← HSf.o]; exact HG.o)))
end
end Go.Proofs.YtmghkonmfbpjcabGreatDoor
