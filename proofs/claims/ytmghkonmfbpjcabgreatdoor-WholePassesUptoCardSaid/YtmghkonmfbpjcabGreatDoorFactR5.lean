/- Parts. -/
import Derived.Test.YtmghkonmfbpjcabGreatDoorFactR1
set_option linter.unusedVariables false
set_option linter.unusedSimpArgs false
set_option maxRecDepth 100000
set_option maxHeartbeats 8000000
namespace Go.Proofs.YtmghkonmfbpjcabGreatDoor
open Go.RowKit
open Go.Proofs.Tryz
section
attribute [local irreducible] Row madeCells
attribute [local go_sem] tD
set_option maxRecDepth 1000000 in
theorem bRC (regs : Int) (A : Option Addr) (l : List Nd) (cap : Nat) (t : Tm) (w : World) (hA : bH w A l) (hR : bM regs l) (g0 g1 g2 g3 g4 g5 : Nat) (nx ax : Value) (x : Nat → List Bool) (a : Act) (W : World) (Rx : Act → World → Prop)
 (hd : a.defers = []) (ha : a.tmps = rfr regs A l cap t w.heap.size g0 g1 g2 g3 g4 g5 nx ax (fK a.tmps)) (hi : fK a.tmps 29 = .int .i64 0)
 (hS : RS regs A l cap t w g0 g1 g2 g3 g4 g5 nx ax l.length l.length x W) (hx : ∀ i, i < l.length → yn (x 3) i = true)
 (hexit : ∀ (a' : Act) (W' : World) (y : List Bool), a'.defers = [] → a'.tmps = rfr regs A l cap t w.heap.size g0 g1 g2 g3 g4 g5 nx ax (fK a'.tmps) → eU (cU false false (x 2) (cX (noL l.length)) (noL l.length) (cX (cQ t l)) l) l.length y → RS regs A l cap t w g0 g1 g2 g3 g4 g5 nx ax l.length l.length (upd x 3 y) W' → Rx a' W') :
 Code.wp prog (Code.loop (vS 4)) (lI 18 Rx) a W := by (
 conv => arg 2; arg 1; whnf
 obtain ⟨tm, df⟩ := a
 simp only at hd ha hi
 subst hd
 generalize fK tm = u at ha hi
 subst ha
 dsimp only [rfr]
 rw [hi]
 have hlo := hR.lo
 have hhi := hR.hi
 have HX := bA hexit
 obtain ⟨Sf, hSf⟩ := Exq (cU false false (x 2) (cX (noL l.length)) (noL l.length) (cX (cQ t l)) l)
 have hm : jN Sf := by rw [hSf]; exact dP _ _ _ _ _ _ _
 have HSf := bA hSf
 have HM := bA hm
 have hst : ∃ y, dT Sf l.length 0 0 y ∧ RS regs A l cap t w g0 g1 g2 g3 g4 g5 nx ax l.length l.length (upd x 3 y) W := ⟨x 3, dT.start (hS.rows 3 Zb).2 hx, by rw [oW]; exact hS⟩
 have Hst := bA hst
 obtain ⟨vn, e1, e2, e3⟩ := hS.ahd
 obtain ⟨gn, on, cn, _, hnx, _, _, _, _, _⟩ := e2.get (k := 0) Zb
 rw [e1] at hnx
 subst hnx
 clear hi hexit hSf hm hst hS hx e1 e2 e3
 go_loopg [29] (l.length + 1) (fun gk i wr => ∃ (c : Nat) (y : List Bool), c ≤ l.length + 1 ∧ i = .int .i64 c ∧ gk = l.length + 1 - c ∧ dT Sf l.length c 0 y ∧ RS regs A l cap t w g0 g1 g2 g3 g4 g5 nx (.slice (some ⟨gn, on, none⟩) l.length cn) l.length l.length (upd x 3 y) wr)
 case atStart => obtain ⟨y, h1, h2⟩ := Hst.o; exact ⟨0, y, Nat.zero_le _, rfl, rfl, h1, h2⟩
 case round => (
 obtain ⟨c, y, hc, rfl, hgk, h, hS1⟩ := hrel
 have Hgk := bA hgk
 have HSw := bA h
 clear hgk Hst h
 have s0 := hS1.s.cell 0
 have ls := hS1.s.lt
 simp only [List.getElem?_toArray, List.getElem?_cons_zero] at s0
 have HS1 := bA hS1
 clear hS1
 by_cases hcl : c ≤ l.length
 · (
 have cc : (c : Int) ≤ (l.length : Int) := Zb
 obtain ⟨wo, rfl⟩ := Exq wr
 obtain ⟨gk0, rfl⟩ := Exq gk
 go_wp2_with fail
 go_loopg [30] (l.length) (fun gk i wr => ∃ (k : Nat) (y : List Bool), k ≤ l.length ∧ i = .int .i64 k ∧ gk = l.length - k ∧ dT Sf l.length c k y ∧ RS regs A l cap t w g0 g1 g2 g3 g4 g5 nx (.slice (some ⟨gn, on, none⟩) l.length cn) l.length l.length (upd x 3 y) wr)
 case atStart => exact Jm
 case round => (
 clear HS1 HSw s0 ls
 obtain ⟨k, y, hk, rfl, hgk2, h, hS1⟩ := hrel
 have Hgk2 := bA hgk2
 have HSw := bA h
 clear hgk2 h
 have s0 := hS1.s.cell 0
 have ls := hS1.s.lt
 simp only [List.getElem?_toArray, List.getElem?_cons_zero] at s0
 by_cases hlt : k < l.length
 · (
 obtain ⟨vn, e1, e2, e3⟩ := hS1.ahd
 obtain ⟨gn', on', cn', z, hnx, _, hgl, hz, hcz, _⟩ := e2.get (k := k) Zb
 obtain ⟨ea, eb⟩ : gn = gn' ∧ on = on' := by (
 injection hnx with hnx _ _
 injection hnx with hnx
 injection hnx with ea eb _
 exact ⟨ea, eb⟩)
 subst ea eb
 clear hnx
 obtain ⟨R, rc, ez, hrow⟩ := e3 k hlt
 rw [hz] at ez
 injection ez with ez
 subst ez
 refine Kz fun u0 u1 hel hS2 => ?_; clear hz e1 e2 e3 hS1
 obtain ⟨es, hes⟩ := Exq (bF false l k)
 rw [← hes] at hrow hcz hel
 have Hes := bA hes
 clear hes
 have hyl : y.length = l.length := HSw.o.len
 have Hrow := bA hrow
 have HS2 := bA hS2
 clear hS2 hrow
 go_wp2_with fail
 obtain ⟨wi, rfl⟩ := Exq wr
 go_loopg [32, 33] (es.length) (fun gk s32 i wr => ∃ j : Nat, j ≤ es.length ∧ i = .int .i64 j ∧ gk = es.length - j ∧ s32 = .bool (nX t l y k j) ∧ RS regs A l cap t w g0 g1 g2 g3 g4 g5 nx (.slice (some ⟨gn, on, none⟩) l.length cn) l.length l.length (upd x 3 y) wr ∧ Row wr w.heap.size 3 (.slice R es.length rc) (bN es))
 case atStart => exact ⟨0, Nat.zero_le _, rfl, rfl, by rw [bDW, ← Hes.o], HS2.o, Hrow.o⟩
 case round => (
 clear HS2 Hrow hcz s0 ls
 obtain ⟨j, hj, rfl, hgk3, rfl, hS3, hE3⟩ := hrel
 have Hgk3 := bA hgk3
 clear hgk3
 obtain ⟨a0, ha0⟩ := Exq (nX t l y k j)
 rw [← ha0]
 by_cases hjl : j < es.length
 · (
 obtain ⟨mm, n, hjm, hmm, hnm⟩ := sC (bk := false) (l := l) (k := k) (j := j) Xj
 have hstA := bDX (t := t) (x := y) hjm hnm
 rw [← ha0] at hstA
 rw [← Hes.o] at hjm
 obtain ⟨rb, ro, rfl, lr, es0⟩ := hE3.int_at_ hjm
 obtain ⟨nb, no, n', rfl, hnb, hn', hnl⟩ := hA.get hmm
 obtain rfl : n = n' := by rw [hnm] at hn'; injection hn'
 obtain ⟨d0, d1, d2, d3, d4, d5⟩ := hnl
 refine K5 fun v0 v1 m0 m1 => ?_
 obtain ⟨vm, hvm⟩ := Exq (yn y mm)
 rw [← hvm] at hstA
 have Hb := bA hstA
 have Hvm := bA hvm
 clear hstA hvm ha0 hn' hnm
 refine Ka fun lp lt' p1 t0 t1 t2 n0 n1 n2 n3 n4 n5 ln => ?_; clear es0 lr
 obtain ⟨cm, fm, lgm⟩ := hS3.at_ (i := 3) Zb hmm (gi := g3) rfl
 rw [bI, ← Hvm.o] at cm
 have es0 := hE3.cell_at hjm
 have lr := cZ hE3
 go_upto_region 56 with fail
 cases a0
 case false => (
 refine Jw ?_
 intro hH
 refine Up (fun _ _ _ _ _ => id) fun hP => ?_
 iterate 24 ((first | refine Wd hP hH ?_ | refine Wa hP hH ?_); try simp only [Nm])
 refine wpAnyH_done Zc ?_ _
 clear hH  p1 t0 t1 t2 n0 n1 n2 n3 n4 n5 ln lp lt' cm fm lgm es0 lr
 have HSn := bA ((hS3).later ((Below.refl _ _).drew))
 have HEn := bA (hE3.drew)
 go_wp2_with fail
 go_roundg (es.length - (j + 1))
 case measure => exact Jl
 case rel => exact ⟨j + 1, Zb, by go_num, rfl, by rw [Hb.o]; rfl, HSn.o, HEn.o⟩)
 case true => (
 cases vm
 case false => (
 refine Jw ?_
 intro hH
 refine Up (fun _ _ _ _ _ => id) fun hP => ?_
 iterate 8 (refine Wa hP hH ?_; try simp only [Nm])
 refine Rd 8 Zc rfl (fun K hK => ?_)
 have HK8 := bA hK
 clear hK
 go_simp
 refine Shut.out HK8.o _ _ hH (fun _ => ?_)
 try simp only [Nm]
 iterate 15 ((first | refine Wd hP hH ?_ | refine Wa hP hH ?_); try simp only [Nm])
 refine wpAnyH_done Zc ?_ _
 clear hH HK8 p1 t0 t1 t2 n0 n1 n2 n3 n4 n5 ln lp lt' cm fm lgm es0 lr
 have HSn := bA ((hS3).later ((Below.refl _ _).drew))
 have HEn := bA (hE3.drew)
 go_wp2_with fail
 go_roundg (es.length - (j + 1))
 case measure => exact Jl
 case rel => exact ⟨j + 1, Zb, by go_num, rfl, by rw [Hb.o]; rfl, HSn.o, HEn.o⟩)
 case true => (
 refine Jw ?_
 intro hH
 refine Up (fun _ _ _ _ _ => id) fun hP => ?_
 iterate 8 (refine Wa hP hH ?_; try simp only [Nm])
 refine Rd 8 Zc rfl (fun K hK => ?_)
 have HK8 := bA hK
 clear hK
 go_simp
 refine Shut.out HK8.o _ _ hH (fun _ => ?_)
 try simp only [Nm]
 iterate 11 (refine Wa hP hH ?_; try simp only [Nm])
 refine Rd 20 Zc rfl (fun K hK => ?_)
 have HK20 := bA hK
 clear hK
 go_simp
 go_at_call 105
 refine (bW n t _).mono ?_
 rintro e w6 ⟨rfl, hbw6⟩
 have hS6 := ((hS3).later ((Below.refl _ _).drew)).later hbw6
 have hE6 := hE3.drew.below' hbw6
 clear p1 t0 t1 t2 n0 n1 n2 n3 n4 n5 ln lp lt' cm fm lgm es0 lr hH
 have p1 := hS6.p.cell 1
 have t0 := hS6.t.cell 0
 have t1 := hS6.t.cell 1
 have t2 := hS6.t.cell 2
 have lp := hS6.p.lt
 have lt' := hS6.t.lt
 simp only [Yl] at p1 t0 t1 t2
 have n0 := ((bB hS6.below).1 nb _ hnb).trans d0
 have n1 := ((bB hS6.below).1 nb _ hnb).trans d1
 have n2 := ((bB hS6.below).1 nb _ hnb).trans d2
 have n3 := ((bB hS6.below).1 nb _ hnb).trans d3
 have n4 := ((bB hS6.below).1 nb _ hnb).trans d4
 have n5 := ((bB hS6.below).1 nb _ hnb).trans d5
 have ln := V6 hnb hS6.below.size
 obtain ⟨cm, fm, lgm⟩ := hS6.at_ (i := 3) Zb hmm (gi := g3) rfl
 rw [bI, ← Hvm.o] at cm
 have es0 := hE6.cell_at hjm
 have lr := cZ hE6
 refine Shut.out HK20.o _ _ ⟨p1, t0, t1, t2, n0, n1, n2, n3, n4, n5, es0⟩ (fun hH => ?_)
 try simp only [Nm]
 iterate 3 (refine Wa hP hH ?_; try simp only [Nm])
 refine wpAnyH_done Zc ?_ _
 clear hH HK8 HK20 p1 t0 t1 t2 n0 n1 n2 n3 n4 n5 ln lp lt' cm fm lgm es0 lr
 have HSn := bA (hS6)
 have HEn := bA (hE6)
 go_wp2_with fail
 go_roundg (es.length - (j + 1))
 case measure => exact Jl
 case rel => exact ⟨j + 1, Zb, by go_num, rfl, by rw [Hb.o]; rfl, HSn.o, HEn.o⟩)))
 · (
 obtain ⟨ek, hek⟩ := Exq (yn (x 2) k)
 have hend : Sf y k = (ek || a0) := by rw [HSf.o, bNV t l (x 2) y hlt, bHC t l (x 2) y k j Xs, ← ha0, ← hek]
 obtain ⟨bb, hbb⟩ := Exq ((ek || a0))
 have hstep := HSw.o.step HM.o hlt (b := bb) (by rw [hend, hbb])
 have Hstep := bA hstep
 have Hbb := bA hbb
 obtain ⟨ck, fk, lg⟩ := hS3.at_ (i := 3) Zb hlt (gi := g3) rfl
 have ce := (hS3.at_ (i := 2) Zb hlt (gi := g2) rfl).1
 rw [bC _ _ Ze, ← hek] at ce
 have HS3 := bA hS3
 clear hend hstep hbb hS3 hE3 ha0 hek
 cases ek
 case true => (
 go_wp2_with fail
 go_roundg (l.length - (k + 1))
 case measure => exact Jf
 case rel => (
 have h := HS3.o.set (i := 3) Zb k bb
 rw [bI, eZ] at h
 have hv : bb = true := by rw [Hbb.o]; simp
 refine ⟨k + 1, y.set k bb, Zb, by go_num, rfl, Hstep.o, ?_⟩
 rw [hv] at h ⊢
 exact h))
 case false => (
 go_wp2_with fail
 go_roundg (l.length - (k + 1))
 case measure => exact Jf
 case rel => (
 have h := HS3.o.set (i := 3) Zb k bb
 rw [bI, eZ] at h
 have hv : bb = a0 := by rw [Hbb.o]; simp
 refine ⟨k + 1, y.set k bb, Zb, by go_num, rfl, Hstep.o, ?_⟩
 rw [hv] at h ⊢
 exact h)))))
 · (
 have hkk : k = l.length := Zb
 subst hkk
 have HS1 := bA hS1
 clear hS1
 go_wp2_with fail
 go_roundg (l.length + 1 - (c + 1))
 case measure => exact Jg
 case rel => exact ⟨c + 1, y, Zb, by go_num, rfl, HSw.o.turn, HS1.o⟩)))
 · (
 refine Vg fun HG => ?_
 go_wp2_with fail
 refine ⟨rfl, ?_⟩
 refine HX.o _ _ y ?_ ?_ ?_ HS1.o
 · rfl
 · kernel_rfl
 · rw [← HSf.o]; exact HG.o)))
end
end Go.Proofs.YtmghkonmfbpjcabGreatDoor
