/- Parts. -/
import Derived.Test.YtmghkonmfbpjcabGreatDoorFactR1
set_option linter.unusedVariables false
set_option linter.unusedSimpArgs false
set_option maxRecDepth 100000
set_option maxHeartbeats 8000000
namespace Go.Proofs.YtmghkonmfbpjcabGreatDoor
open Go.RowKit
open Go.Proofs.Tryz
section
attribute [local irreducible] Row madeCells
attribute [local go_sem] tD
set_option maxRecDepth 1000000 in
theorem bRE (regs : Int) (A : Option Addr) (l : List Nd) (cap : Nat) (t : Tm) (w : World) (hA : bH w A l) (hR : bM regs l) (g0 g1 g2 g3 g4 g5 : Nat) (nx ax : Value) (x : Nat → List Bool) (a : Act) (W : World) (Rx : Act → World → Prop)
 (hd : a.defers = []) (ha : a.tmps = rfr regs A l cap t w.heap.size g0 g1 g2 g3 g4 g5 nx ax (fK a.tmps)) (hi : fK a.tmps 21 = .int .i64 0)
 (hS : RS regs A l cap t w g0 g1 g2 g3 g4 g5 nx ax l.length l.length x W) (hx : ∀ i, i < l.length → yn (x 1) i = true)
 (hexit : ∀ (a' : Act) (W' : World) (y : List Bool), a'.defers = [] → a'.tmps = rfr regs A l cap t w.heap.size g0 g1 g2 g3 g4 g5 nx ax (fK a'.tmps) → eU (lE (cU false false (noL l.length) (cX (noL l.length)) (mk l.length fun k => yn (cI t l) k && yn (cQ t l) k) (cI t l) l) l.length) l.length y → RS regs A l cap t w g0 g1 g2 g3 g4 g5 nx ax l.length l.length (upd x 1 y) W' → Rx a' W') :
 Code.wp prog (Code.loop (vS 2)) (lI 8 Rx) a W := by (
 conv => arg 2; arg 1; whnf
 obtain ⟨tm, df⟩ := a
 simp only at hd ha hi
 subst hd
 generalize fK tm = u at ha hi
 subst ha
 dsimp only [rfr]
 rw [hi]
 have hlo := hR.lo
 have hhi := hR.hi
 have HX := bA hexit
 obtain ⟨Sf, hSf⟩ := Exq (lE (cU false false (noL l.length) (cX (noL l.length)) (mk l.length fun k => yn (cI t l) k && yn (cQ t l) k) (cI t l) l) l.length)
 have hm : jN Sf := by rw [hSf]; exact vR (dP _ _ _ _ _ _ _)
 have HSf := bA hSf
 have HM := bA hm
 have hst : ∃ y, dT Sf l.length 0 0 y ∧ RS regs A l cap t w g0 g1 g2 g3 g4 g5 nx ax l.length l.length (upd x 1 y) W := ⟨x 1, dT.start (hS.rows 1 Zb).2 hx, by rw [oW]; exact hS⟩
 have Hst := bA hst
 obtain ⟨vn, e1, e2, e3⟩ := hS.ahd
 obtain ⟨gn, on, cn, _, hnx, _, _, _, _, _⟩ := e2.get (k := 0) Zb
 rw [e1] at hnx
 subst hnx
 clear hi hexit hSf hm hst hS hx e1 e2 e3
 go_loopg [21] (l.length + 1) (fun gk i wr => ∃ (c : Nat) (y : List Bool), c ≤ l.length + 1 ∧ i = .int .i64 c ∧ gk = l.length + 1 - c ∧ dT Sf l.length c 0 y ∧ RS regs A l cap t w g0 g1 g2 g3 g4 g5 nx (.slice (some ⟨gn, on, none⟩) l.length cn) l.length l.length (upd x 1 y) wr)
 case atStart => obtain ⟨y, h1, h2⟩ := Hst.o; exact ⟨0, y, Nat.zero_le _, rfl, rfl, h1, h2⟩
 case round => (
 obtain ⟨c, y, hc, rfl, hgk, h, hS1⟩ := hrel
 have Hgk := bA hgk
 have HSw := bA h
 clear hgk Hst h
 have s0 := hS1.s.cell 0
 have ls := hS1.s.lt
 simp only [List.getElem?_toArray, List.getElem?_cons_zero] at s0
 have HS1 := bA hS1
 clear hS1
 by_cases hcl : c ≤ l.length
 · (
 have cc : (c : Int) ≤ (l.length : Int) := Zb
 obtain ⟨wo, rfl⟩ := Exq wr
 obtain ⟨gk0, rfl⟩ := Exq gk
 go_wp2_with fail
 go_loopg [22] (l.length) (fun gk i wr => ∃ (k : Nat) (y : List Bool), k ≤ l.length ∧ i = .int .i64 k ∧ gk = l.length - k ∧ dT Sf l.length c k y ∧ RS regs A l cap t w g0 g1 g2 g3 g4 g5 nx (.slice (some ⟨gn, on, none⟩) l.length cn) l.length l.length (upd x 1 y) wr)
 case atStart => exact Jm
 case round => (
 clear HS1 HSw s0 ls
 obtain ⟨k, y, hk, rfl, hgk2, h, hS1⟩ := hrel
 have Hgk2 := bA hgk2
 have HSw := bA h
 clear hgk2 h
 have s0 := hS1.s.cell 0
 have ls := hS1.s.lt
 simp only [List.getElem?_toArray, List.getElem?_cons_zero] at s0
 by_cases hlt : k < l.length
 · (
 obtain ⟨vn, e1, e2, e3⟩ := hS1.ahd
 obtain ⟨gn', on', cn', z, hnx, _, hgl, hz, hcz, _⟩ := e2.get (k := k) Zb
 obtain ⟨ea, eb⟩ : gn = gn' ∧ on = on' := by (
 injection hnx with hnx _ _
 injection hnx with hnx
 injection hnx with ea eb _
 exact ⟨ea, eb⟩)
 subst ea eb
 clear hnx
 obtain ⟨R, rc, ez, hrow⟩ := e3 k hlt
 rw [hz] at ez
 injection ez with ez
 subst ez
 refine Kz fun u0 u1 hel hS2 => ?_; clear hz e1 e2 e3 hS1
 obtain ⟨es, hes⟩ := Exq (bF false l k)
 rw [← hes] at hrow hcz hel
 have Hes := bA hes
 clear hes
 have hyl : y.length = l.length := HSw.o.len
 have h1row := (hS2.rows 1 Zb).1
 rw [bI] at h1row
 have h1row : Row wr w.heap.size 4 (.slice (some ⟨g1, 0, none⟩) l.length l.length) (bE y) := h1row
 obtain ⟨ck, fk⟩ := h1row.bool_at_ (k := k) Z5
 have lg := cZ h1row
 have ngR : (Value.slice R es.length rc).ownBlock ≠ some g1 := hrow.ne_blk h1row.blk.choose_spec Ze
 have Hng := bA ngR
 have Hrow := bA hrow
 have HS2 := bA hS2
 clear hS2 hrow ngR h1row
 go_wp2_with fail
 obtain ⟨wi, rfl⟩ := Exq wr
 go_loopg [24] (es.length) (fun gk i wr => ∃ j : Nat, j ≤ es.length ∧ i = .int .i64 j ∧ gk = es.length - j ∧ RS regs A l cap t w g0 g1 g2 g3 g4 g5 nx (.slice (some ⟨gn, on, none⟩) l.length cn) l.length l.length (upd x 1 (y.set k (upA t l y k j))) wr ∧ Row wr w.heap.size 3 (.slice R es.length rc) (bN es))
 case atStart => have h := HS2.o.set (i := 1) Zb k (decide (0 < es.length)); rw [bI, eZ] at h; exact ⟨0, Nat.zero_le _, rfl, rfl, by rw [bLL, ← Hes.o]; exact h, Hrow.o.far (p := ⟨g1, k, none⟩) Hng.o _⟩
 case round => (
 clear HS2 Hrow ck fk lg hcz s0 ls
 obtain ⟨j, hj, rfl, hgk3, hS3, hE3⟩ := hrel
 have Hgk3 := bA hgk3
 clear hgk3
 by_cases hjl : j < es.length
 · (
 obtain ⟨mm, n, hjm, hmm, hnm⟩ := sC (bk := false) (l := l) (k := k) (j := j) Xj
 have hstA := bLM (t := t) (y := y) hjm hnm
 rw [← Hes.o] at hjm
 obtain ⟨rb, ro, rfl, lr, es0⟩ := hE3.int_at_ hjm
 obtain ⟨nb, no, n', rfl, hnb, hn', hnl⟩ := hA.get hmm
 obtain rfl : n = n' := by rw [hnm] at hn'; injection hn'
 obtain ⟨d0, d1, d2, d3, d4, d5⟩ := hnl
 refine K5 fun v0 v1 m0 m1 => ?_
 obtain ⟨a0, ha0⟩ := Exq (upA t l y k j)
 rw [← ha0] at hS3 hstA
 obtain ⟨z, hz⟩ := Exq (y.set k a0)
 rw [← hz] at hS3
 have hzk : yn z k = a0 := by rw [hz, cL _ _ _ _ Z5, if_pos rfl]
 obtain ⟨vm, hvm⟩ := Exq (yn z mm)
 have hb : upA t l y k (j + 1) = (a0 && (lM t n && (vm || fJ t n))) := by (
 rw [hstA]
 cases a0 with
 | false => rfl
 | true => rw [hvm, hz, bCG hyl hlt])
 have Hb := bA hb
 have Hz := bA hz
 have Hvm := bA hvm
 have nP : ¬ (w.heap.size = g1) := fun e => by have h := Blk.ne_ hS3.p (hS3.rows 1 Zb).1.blk.choose_spec Ze; exact h e
 have nP' : ¬ (g1 = w.heap.size) := fun e => nP e.symm
 have nT : ¬ (w.heap.size + 1 = g1) := fun e => by have h := Blk.ne_ hS3.t (hS3.rows 1 Zb).1.blk.choose_spec Ze; exact h e
 have nT' : ¬ (g1 = w.heap.size + 1) := fun e => nT e.symm
 have nN : ¬ (nb = g1) := fun e => by have h := qQ (hS3.rows 1 Zb).1; have h2 : w.heap.size ≤ g1 := h; omega
 have nN' : ¬ (g1 = nb) := fun e => nN e.symm
 have nR : ¬ (rb = g1) := fun e => Hng.o (by rw [← e]; rfl)
 have nR' : ¬ (g1 = rb) := fun e => nR e.symm
 clear hb hz hvm ha0 hstA hn' hnm
 refine Ka fun lp lt' p1 t0 t1 t2 n0 n1 n2 n3 n4 n5 ln => ?_; clear es0 lr
 obtain ⟨ck, fk, lgk⟩ := hS3.at_ (i := 1) Zb hlt (gi := g1) rfl
 rw [bI, hzk] at ck
 obtain ⟨cm, fm, lgm⟩ := hS3.at_ (i := 1) Zb hmm (gi := g1) rfl
 rw [bI, ← Hvm.o] at cm
 have es0 := hE3.cell_at hjm
 have lr := cZ hE3
 go_upto_region 34 with fail
 cases a0
 case false => (
 refine Jw ?_
 intro hH
 refine Up (fun _ _ _ _ _ => id) fun hP => ?_
 iterate 5 (refine Wa hP hH ?_; try simp only [Nm])
 refine Rd 5 Zc rfl (fun K hK => ?_)
 have HK5 := bA hK
 clear hK
 go_simp
 refine Shut.out HK5.o _ _ hH (fun _ => ?_)
 try simp only [Nm]
 iterate 34 ((first | refine Wd hP hH ?_ | refine Wa hP hH ?_); try simp only [Nm])
 refine Rd 40 Zc rfl (fun K hK => ?_)
 have HK40 := bA hK
 clear hK
 go_simp
 refine Shut.out HK40.o _ _ ?_ (fun _ => ?_)
 · refine ⟨?_, ?_, ?_, ?_, ?_, ?_, ?_, ?_, ?_, ?_, ?_⟩ <;> first | assumption | go_keep
 try simp only [Nm]
 refine wpAnyH_done Zc ?_ _
 clear hH HK5 HK40 p1 t0 t1 t2 n0 n1 n2 n3 n4 n5 ln lp lt' ck fk lgk cm fm lgm es0 lr
 go_wp2_with fail
 go_roundg (es.length - (j + 1))
 case measure => exact Jl
 case rel => (
 have h := ((hS3).later ((Below.refl _ _).drew)).set (i := 1) Zb k false
 rw [bI, eZ, Hz.o, List.set_set] at h
 refine ⟨j + 1, Zb, by go_num, rfl, ?_, (hE3.drew).far (p := ⟨g1, k, none⟩) Hng.o _⟩
 rw [Hb.o, Bool.false_and]
 exact h))
 case true => (
 cases h2 : lM t n
 case false => (
 refine Jw ?_
 intro hH
 refine Up (fun _ _ _ _ _ => id) fun hP => ?_
 iterate 5 (refine Wa hP hH ?_; try simp only [Nm])
 refine Rd 5 Zc rfl (fun K hK => ?_)
 have HK5 := bA hK
 clear hK
 go_simp
 refine Shut.out HK5.o _ _ hH (fun _ => ?_)
 try simp only [Nm]
 iterate 10 (refine Wa hP hH ?_; try simp only [Nm])
 refine Rd 16 Zc rfl (fun K hK => ?_)
 have HK16 := bA hK
 clear hK
 go_simp
 go_at_call 150
 refine (fE n t _).mono ?_
 rw [h2]
 rintro e w6 ⟨rfl, hbw6⟩
 refine J6 ?_; clear p1 t0 t1 t2 n0 n1 n2 n3 n4 n5 ln lp lt' ck fk lgk cm fm lgm es0 lr hH; intro hS6 hE6 lp lt' p1 t0 t1 t2 n0 n1 n2 n3 n4 n5 ln
 obtain ⟨ck, fk, lgk⟩ := hS6.at_ (i := 1) Zb hlt (gi := g1) rfl
 rw [bI, hzk] at ck
 obtain ⟨cm, fm, lgm⟩ := hS6.at_ (i := 1) Zb hmm (gi := g1) rfl
 rw [bI, ← Hvm.o] at cm
 have es0 := hE6.cell_at hjm
 have lr := cZ hE6
 refine Shut.out HK16.o _ _ ⟨p1, t0, t1, t2, n0, n1, n2, n3, n4, n5, es0⟩ (fun hH => ?_)
 try simp only [Nm]
 iterate 23 ((first | refine Wd hP hH ?_ | refine Wa hP hH ?_); try simp only [Nm])
 refine Rd 40 Zc rfl (fun K hK => ?_)
 have HK40 := bA hK
 clear hK
 go_simp
 refine Shut.out HK40.o _ _ ?_ (fun _ => ?_)
 · refine ⟨?_, ?_, ?_, ?_, ?_, ?_, ?_, ?_, ?_, ?_, ?_⟩ <;> first | assumption | go_keep
 try simp only [Nm]
 refine wpAnyH_done Zc ?_ _
 clear hH HK5 HK16 HK40 p1 t0 t1 t2 n0 n1 n2 n3 n4 n5 ln lp lt' ck fk lgk cm fm lgm es0 lr
 go_wp2_with fail
 go_roundg (es.length - (j + 1))
 case measure => exact Jl
 case rel => (
 have h := (hS6).set (i := 1) Zb k false
 rw [bI, eZ, Hz.o, List.set_set] at h
 refine ⟨j + 1, Zb, by go_num, rfl, ?_, (hE6).far (p := ⟨g1, k, none⟩) Hng.o _⟩
 rw [Hb.o, h2, Bool.true_and, Bool.false_and]
 exact h))
 case true => (
 cases vm
 case true => (
 refine Jw ?_
 intro hH
 refine Up (fun _ _ _ _ _ => id) fun hP => ?_
 iterate 5 (refine Wa hP hH ?_; try simp only [Nm])
 refine Rd 5 Zc rfl (fun K hK => ?_)
 have HK5 := bA hK
 clear hK
 go_simp
 refine Shut.out HK5.o _ _ hH (fun _ => ?_)
 try simp only [Nm]
 iterate 10 (refine Wa hP hH ?_; try simp only [Nm])
 refine Rd 16 Zc rfl (fun K hK => ?_)
 have HK16 := bA hK
 clear hK
 go_simp
 go_at_call 150
 refine (fE n t _).mono ?_
 rw [h2]
 rintro e w6 ⟨rfl, hbw6⟩
 refine J6 ?_; clear p1 t0 t1 t2 n0 n1 n2 n3 n4 n5 ln lp lt' ck fk lgk cm fm lgm es0 lr hH; intro hS6 hE6 lp lt' p1 t0 t1 t2 n0 n1 n2 n3 n4 n5 ln
 obtain ⟨ck, fk, lgk⟩ := hS6.at_ (i := 1) Zb hlt (gi := g1) rfl
 rw [bI, hzk] at ck
 obtain ⟨cm, fm, lgm⟩ := hS6.at_ (i := 1) Zb hmm (gi := g1) rfl
 rw [bI, ← Hvm.o] at cm
 have es0 := hE6.cell_at hjm
 have lr := cZ hE6
 refine Shut.out HK16.o _ _ ⟨p1, t0, t1, t2, n0, n1, n2, n3, n4, n5, es0⟩ (fun hH => ?_)
 try simp only [Nm]
 iterate 8 (refine Wa hP hH ?_; try simp only [Nm])
 refine Rd 25 Zc rfl (fun K hK => ?_)
 have HK25 := bA hK
 clear hK
 go_simp
 refine Shut.out HK25.o _ _ hH (fun _ => ?_)
 try simp only [Nm]
 iterate 14 ((first | refine Wd hP hH ?_ | refine Wa hP hH ?_); try simp only [Nm])
 refine Rd 40 Zc rfl (fun K hK => ?_)
 have HK40 := bA hK
 clear hK
 go_simp
 refine Shut.out HK40.o _ _ ?_ (fun _ => ?_)
 · refine ⟨?_, ?_, ?_, ?_, ?_, ?_, ?_, ?_, ?_, ?_, ?_⟩ <;> first | assumption | go_keep
 try simp only [Nm]
 refine wpAnyH_done Zc ?_ _
 clear hH HK5 HK16 HK25 HK40 p1 t0 t1 t2 n0 n1 n2 n3 n4 n5 ln lp lt' ck fk lgk cm fm lgm es0 lr
 go_wp2_with fail
 go_roundg (es.length - (j + 1))
 case measure => exact Jl
 case rel => (
 have h := (hS6).set (i := 1) Zb k true
 rw [bI, eZ, Hz.o, List.set_set] at h
 refine ⟨j + 1, Zb, by go_num, rfl, ?_, (hE6).far (p := ⟨g1, k, none⟩) Hng.o _⟩
 rw [Hb.o, h2, Bool.true_and, Bool.true_and, Bool.true_or]
 exact h))
 case false => (
 refine Jw ?_
 intro hH
 refine Up (fun _ _ _ _ _ => id) fun hP => ?_
 iterate 5 (refine Wa hP hH ?_; try simp only [Nm])
 refine Rd 5 Zc rfl (fun K hK => ?_)
 have HK5 := bA hK
 clear hK
 go_simp
 refine Shut.out HK5.o _ _ hH (fun _ => ?_)
 try simp only [Nm]
 iterate 10 (refine Wa hP hH ?_; try simp only [Nm])
 refine Rd 16 Zc rfl (fun K hK => ?_)
 have HK16 := bA hK
 clear hK
 go_simp
 go_at_call 150
 refine (fE n t _).mono ?_
 rw [h2]
 rintro e w6 ⟨rfl, hbw6⟩
 refine J6 ?_; clear p1 t0 t1 t2 n0 n1 n2 n3 n4 n5 ln lp lt' ck fk lgk cm fm lgm es0 lr hH; intro hS6 hE6 lp lt' p1 t0 t1 t2 n0 n1 n2 n3 n4 n5 ln
 obtain ⟨ck, fk, lgk⟩ := hS6.at_ (i := 1) Zb hlt (gi := g1) rfl
 rw [bI, hzk] at ck
 obtain ⟨cm, fm, lgm⟩ := hS6.at_ (i := 1) Zb hmm (gi := g1) rfl
 rw [bI, ← Hvm.o] at cm
 have es0 := hE6.cell_at hjm
 have lr := cZ hE6
 refine Shut.out HK16.o _ _ ⟨p1, t0, t1, t2, n0, n1, n2, n3, n4, n5, es0⟩ (fun hH => ?_)
 try simp only [Nm]
 iterate 8 (refine Wa hP hH ?_; try simp only [Nm])
 refine Rd 25 Zc rfl (fun K hK => ?_)
 have HK25 := bA hK
 clear hK
 go_simp
 refine Shut.out HK25.o _ _ hH (fun _ => ?_)
 try simp only [Nm]
 iterate 10 (refine Wa hP hH ?_; try simp only [Nm])
 refine Rd 36 Zc rfl (fun K hK => ?_)
 have HK36 := bA hK
 clear hK
 go_simp
 go_at_call 105
 refine (bW n t _).mono ?_
 rintro e w7 ⟨rfl, hbw7⟩
 have hS7 := (hS6).later hbw7
 have hE7 := hE6.below' hbw7
 clear p1 t0 t1 t2 n0 n1 n2 n3 n4 n5 ln lp lt' ck fk lgk cm fm lgm es0 lr hH
 have p1 := hS7.p.cell 1
 have t0 := hS7.t.cell 0
 have t1 := hS7.t.cell 1
 have t2 := hS7.t.cell 2
 have lp := hS7.p.lt
 have lt' := hS7.t.lt
 simp only [Yl] at p1 t0 t1 t2
 have n0 := ((bB hS7.below).1 nb _ hnb).trans d0
 have n1 := ((bB hS7.below).1 nb _ hnb).trans d1
 have n2 := ((bB hS7.below).1 nb _ hnb).trans d2
 have n3 := ((bB hS7.below).1 nb _ hnb).trans d3
 have n4 := ((bB hS7.below).1 nb _ hnb).trans d4
 have n5 := ((bB hS7.below).1 nb _ hnb).trans d5
 have ln := V6 hnb hS7.below.size
 obtain ⟨ck, fk, lgk⟩ := hS7.at_ (i := 1) Zb hlt (gi := g1) rfl
 rw [bI, hzk] at ck
 obtain ⟨cm, fm, lgm⟩ := hS7.at_ (i := 1) Zb hmm (gi := g1) rfl
 rw [bI, ← Hvm.o] at cm
 have es0 := hE7.cell_at hjm
 have lr := cZ hE7
 refine Shut.out HK36.o _ _ ⟨p1, t0, t1, t2, n0, n1, n2, n3, n4, n5, es0⟩ (fun hH => ?_)
 try simp only [Nm]
 iterate 3 (refine Wa hP hH ?_; try simp only [Nm])
 refine Rd 40 Zc rfl (fun K hK => ?_)
 have HK40 := bA hK
 clear hK
 go_simp
 refine Shut.out HK40.o _ _ ?_ (fun _ => ?_)
 · refine ⟨?_, ?_, ?_, ?_, ?_, ?_, ?_, ?_, ?_, ?_, ?_⟩ <;> first | assumption | go_keep
 try simp only [Nm]
 refine wpAnyH_done Zc ?_ _
 clear hH HK5 HK16 HK25 HK36 HK40 p1 t0 t1 t2 n0 n1 n2 n3 n4 n5 ln lp lt' ck fk lgk cm fm lgm es0 lr
 go_wp2_with fail
 go_roundg (es.length - (j + 1))
 case measure => exact Jl
 case rel => (
 have h := (hS7).set (i := 1) Zb k (fJ t n)
 rw [bI, eZ, Hz.o, List.set_set] at h
 refine ⟨j + 1, Zb, by go_num, rfl, ?_, (hE7).far (p := ⟨g1, k, none⟩) Hng.o _⟩
 rw [Hb.o, h2, Bool.true_and, Bool.true_and, Bool.false_or]
 exact h)))))
 · (
 have hend : upA t l y k j = Sf y k := by rw [bOY t l y k j Xs, HSf.o]; exact (up_eq t l y hlt).symm
 have hstep := HSw.o.step HM.o hlt (b := upA t l y k j) hend
 have Hstep := bA hstep
 have HS3 := bA hS3
 clear hend hstep hS3 hE3
 go_wp2_with fail
 go_roundg (l.length - (k + 1))
 case measure => exact Jf
 case rel => exact ⟨k + 1, _, Zb, by go_num, rfl, Hstep.o, HS3.o⟩)))
 · (
 have hkk : k = l.length := Zb
 subst hkk
 have HS1 := bA hS1
 clear hS1
 go_wp2_with fail
 go_roundg (l.length + 1 - (c + 1))
 case measure => exact Jg
 case rel => exact ⟨c + 1, y, Zb, by go_num, rfl, HSw.o.turn, HS1.o⟩)))
 · (
 refine Vg fun HG => ?_
 go_wp2_with fail
 refine ⟨rfl, ?_⟩
 refine HX.o _ _ y ?_ ?_ ?_ HS1.o
 · rfl
 · kernel_rfl
 · rw [← HSf.o]; exact HG.o)))
end
end Go.Proofs.YtmghkonmfbpjcabGreatDoor
