/- Parts. -/
import Derived.Test.YtmghkonmfbpjcabGreatDoorFactR1
set_option linter.unusedVariables false
set_option linter.unusedSimpArgs false
set_option maxRecDepth 100000
set_option maxHeartbeats 8000000
namespace Go.Proofs.YtmghkonmfbpjcabGreatDoor
open Go.RowKit
open Go.Proofs.Tryz
section
attribute [local irreducible] Row madeCells
attribute [local go_sem] tD
theorem Yv {P : Prop} (h : P := by (
 go_wp2_with fail
 go_roundg (es.length - (j + 1))
 case measure => exact Jl
 case rel => exact ⟨j + 1, Zb, by go_num, rfl, by rw [Hta.o, hac]; rfl, rfl⟩)) : P := h
set_option maxRecDepth 1000000 in
theorem bRF (regs : Int) (A : Option Addr) (l : List Nd) (cap : Nat) (t : Tm) (w : World) (hA : bH w A l) (hR : bM regs l) (g0 g1 g2 g3 g4 g5 : Nat) (nx ax : Value) (x : Nat → List Bool) (a : Act) (W : World) (Rx : Act → World → Prop)
 (hd : a.defers = []) (ha : a.tmps = rfr regs A l cap t w.heap.size g0 g1 g2 g3 g4 g5 nx ax (fK a.tmps)) (hi : fK a.tmps 16 = .int .i64 0)
 (hS : RS regs A l cap t w g0 g1 g2 g3 g4 g5 nx ax l.length l.length x W) (hx : ∀ i, i < l.length → yn (x 0) i = true)
 (hexit : ∀ (a' : Act) (W' : World) (y : List Bool), a'.defers = [] → a'.tmps = rfr regs A l cap t w.heap.size g0 g1 g2 g3 g4 g5 nx ax (fK a'.tmps) → eU (cU true false (cQ t l) (cI t l) (noL l.length) (cX (noL l.length)) l) l.length y → RS regs A l cap t w g0 g1 g2 g3 g4 g5 nx ax l.length l.length (upd x 0 y) W' → Rx a' W') :
 Code.wp prog (Code.loop (vS 1)) (lI 2 Rx) a W := by (
 conv => arg 2; arg 1; whnf
 obtain ⟨tm, df⟩ := a
 simp only at hd ha hi
 subst hd
 generalize fK tm = u at ha hi
 subst ha
 dsimp only [rfr]
 rw [hi]
 have hlo := hR.lo
 have hhi := hR.hi
 have HX := bA hexit
 obtain ⟨Sf, hSf⟩ := Exq (cU true false (cQ t l) (cI t l) (noL l.length) (cX (noL l.length)) l)
 have hm : jN Sf := by rw [hSf]; exact dP _ _ _ _ _ _ _
 have HSf := bA hSf
 have HM := bA hm
 have hst : ∃ y, dT Sf l.length 0 0 y ∧ RS regs A l cap t w g0 g1 g2 g3 g4 g5 nx ax l.length l.length (upd x 0 y) W := ⟨x 0, dT.start (hS.rows 0 Zb).2 hx, by
  rw [show upd x 0 (x 0) = x from funext fun i => by
   by_cases h : i = 0
   · rw [h, bI]
   · rw [bC _ _ h]]
  exact hS⟩
 have Hst := bA hst
 obtain ⟨vn, e1, e2, e3⟩ := hS.nxt
 obtain ⟨gn, on, cn, _, hnx, _, _, _, _, _⟩ := e2.get (k := 0) Zb
 rw [e1] at hnx
 subst hnx
 clear hi hexit hSf hm hst hS hx e1 e2 e3
 go_loopg [16] (l.length + 1) (fun gk i wr => ∃ (c : Nat) (y : List Bool), c ≤ l.length + 1 ∧ i = .int .i64 c ∧ gk = l.length + 1 - c ∧ dT Sf l.length c 0 y ∧ RS regs A l cap t w g0 g1 g2 g3 g4 g5 (.slice (some ⟨gn, on, none⟩) l.length cn) ax l.length l.length (upd x 0 y) wr)
 case atStart => obtain ⟨y, h1, h2⟩ := Hst.o; exact ⟨0, y, Nat.zero_le _, rfl, rfl, h1, h2⟩
 case round => (
 obtain ⟨c, y, hc, rfl, hgk, h, hS1⟩ := hrel
 have Hgk := bA hgk
 have HSw := bA h
 clear hgk Hst h
 have s0 := hS1.s.cell 0
 have ls := hS1.s.lt
 simp only [List.getElem?_toArray, List.getElem?_cons_zero] at s0
 have HS1 := bA hS1
 clear hS1
 by_cases hcl : c ≤ l.length
 · (
 have cc : (c : Int) ≤ (l.length : Int) := Zb
 obtain ⟨wo, rfl⟩ := Exq wr
 obtain ⟨gk0, rfl⟩ := Exq gk
 go_wp2_with fail
 go_loopg [17] (l.length) (fun gk i wr => ∃ (k : Nat) (y : List Bool), k ≤ l.length ∧ i = .int .i64 k ∧ gk = l.length - k ∧ dT Sf l.length c k y ∧ RS regs A l cap t w g0 g1 g2 g3 g4 g5 (.slice (some ⟨gn, on, none⟩) l.length cn) ax l.length l.length (upd x 0 y) wr)
 case atStart => exact Jm
 case round => (
 clear HS1 HSw s0 ls
 obtain ⟨k, y, hk, rfl, hgk2, h, hS1⟩ := hrel
 have Hgk2 := bA hgk2
 have HSw := bA h
 clear hgk2 h
 have s0 := hS1.s.cell 0
 have ls := hS1.s.lt
 simp only [List.getElem?_toArray, List.getElem?_cons_zero] at s0
 by_cases hlt : k < l.length
 · (
 obtain ⟨nb, no, n, rfl, hnb, hn, hnl⟩ := hA.get hlt
 obtain ⟨d0, d1, d2, d3, d4, d5⟩ := hnl
 have Hn := bA hn
 obtain ⟨vn, e1, e2, e3⟩ := hS1.nxt
 obtain ⟨gn', on', cn', z, hnx, _, hgl, hz, hcz, _⟩ := e2.get (k := k) Zb
 obtain ⟨ea, eb⟩ : gn = gn' ∧ on = on' := by (
 injection hnx with hnx _ _
 injection hnx with hnx
 injection hnx with ea eb _
 exact ⟨ea, eb⟩)
 subst ea eb
 clear hnx
 obtain ⟨R, rc, ez, hrow⟩ := e3 k hlt
 rw [hz] at ez
 injection ez with ez
 subst ez
 have hrv := hrow.vals
 refine Vk fun u0 u1 => ?_
 have hrl := kP (qT l k) l.length
 have hel : (bF true l k).length ≤ l.length := hrl
 have Hrv := bA hrv
 have hS2 := hS1
 clear hn hz hrow e1 e2 e3 hrv hrl hS1
 obtain ⟨es, hes⟩ := Exq (bF true l k)
 have hlt2 : ∀ m ∈ es, 0 ≤ m ∧ m < (l.length : Int) := fun m hm => by (
 rw [hes] at hm
 have := nL hm
 unfold bF at hm
 obtain ⟨i, hi, _, rfl⟩ := jS.1 hm
 omega)
 rw [← hes] at Hrv hcz hel
 have Hes := bA hes
 have Hlt := bA hlt2
 have HS2 := bA hS2
 clear hes hlt2
 have h0row := (hS2.rows 0 Zb).1
 have h0len := (hS2.rows 0 Zb).2
 rw [bI] at h0row h0len
 have h0row : Row wr w.heap.size 4 (.slice (some ⟨g0, 0, none⟩) l.length l.length) (bE y) := h0row
 have H0row := bA h0row
 have lg := cZ h0row
 clear h0row hS2
 go_wp2_with fail
 obtain ⟨wi, rfl⟩ := Exq wr
 go_loopg [19, 20] (es.length) (fun gk s19 i wr => ∃ j : Nat, j ≤ es.length ∧ i = .int .i64 j ∧ gk = es.length - j ∧ s19 = .bool ((es.take j).all fun m => yn y m.toNat) ∧ wr = wi)
 case atStart => exact ⟨0, Nat.zero_le _, rfl, rfl, Zf, rfl⟩
 case round => (
 obtain ⟨j, hj, rfl, hgk3, rfl, rfl⟩ := hrel
 have Hgk3 := bA hgk3
 clear hgk3
 by_cases hjl : j < es.length
 · (
 obtain ⟨rb, ro, v, rfl, hrb, hrk, hrc⟩ := Hrv.o.get (k := j) (by rw [bJ]; exact hjl)
 rw [kC] at hrk
 obtain ⟨m, hm, rfl⟩ : ∃ m, es[j]? = some m ∧ .int .i64 m = v := by simpa using hrk
 obtain ⟨q0, q1⟩ := Hlt.o m (V4 hm)
 obtain ⟨mm, rfl⟩ := V7 q0
 obtain ⟨cm, fm⟩ := H0row.o.bool_at_ (k := mm) (by rw [h0len]; omega)
 have hta : ((es.take (j + 1)).all fun m => yn y m.toNat) = (((es.take j).all fun m => yn y m.toNat) && yn y mm) := by (
 rw [List.take_add_one, hm, List.all_append]
 simp)
 have Hta := bA hta
 obtain ⟨v0, v1⟩ := Ikq (k := j) (n := es.length) (by omega)
 clear hrk hm hta
 cases hac : ((es.take j).all fun m => yn y m.toNat)
 · exact Yv
 · exact Yv)
 · (
 have hjj : (es.take j) = es := List.take_of_length_le Zb
 rw [hjj]
 clear hjj
 obtain ⟨acc, hacc⟩ := Exq (es.all fun m => yn y m.toNat)
 rw [← hacc]
 have Hacc := bA hacc
 clear hacc
 go_upto_region 22 with fail
 have hv : bDV t l y k = (fJ t n || lM t n && decide (0 < es.length) && acc) := by (
 unfold bDV
 rw [vD Hn.o, zZ Hn.o, ← Hes.o, Hacc.o])
 have hsf : Sf y k = bDV t l y k := by rw [HSf.o]; exact bQB t l y hlt
 obtain ⟨b, hb⟩ := Exq ((fJ t n || lM t n && decide (0 < es.length) && acc))
 have hstep : dT Sf l.length c (k + 1) (y.set k b) := HSw.o.step HM.o hlt (by rw [hsf, hv, hb])
 have Hstep := bA hstep
 have Hb := bA hb
 have nP : ¬ (w.heap.size = g0) := fun e => by have h := Blk.ne_ HS2.o.p (HS2.o.rows 0 Zb).1.blk.choose_spec Ze; exact h e
 have nP' : ¬ (g0 = w.heap.size) := fun e => nP e.symm
 have nT : ¬ (w.heap.size + 1 = g0) := fun e => by have h := Blk.ne_ HS2.o.t (HS2.o.rows 0 Zb).1.blk.choose_spec Ze; exact h e
 have nT' : ¬ (g0 = w.heap.size + 1) := fun e => nT e.symm
 have nN : ¬ (nb = g0) := fun e => by have h := qQ (HS2.o.rows 0 Zb).1; have h2 : w.heap.size ≤ g0 := h; omega
 have nN' : ¬ (g0 = nb) := fun e => nN e.symm
 clear hv hsf hstep hb H0row h0len Hacc Hrv Hlt hcz s0 ls HSw lg
 have hS1 := HS2.o
 have p1 := hS1.p.cell 1; have t0 := hS1.t.cell 0; have t1 := hS1.t.cell 1; have t2 := hS1.t.cell 2; have lp := hS1.p.lt; have lt' := hS1.t.lt; simp only [Yl] at p1 t0 t1 t2; have n0 := ((bB hS1.below).1 nb _ hnb).trans d0; have n1 := ((bB hS1.below).1 nb _ hnb).trans d1; have n2 := ((bB hS1.below).1 nb _ hnb).trans d2; have n3 := ((bB hS1.below).1 nb _ hnb).trans d3; have n4 := ((bB hS1.below).1 nb _ hnb).trans d4; have n5 := ((bB hS1.below).1 nb _ hnb).trans d5; have ln := V6 hnb hS1.below.size; obtain ⟨cx, fx, lg⟩ := hS1.at_ (i := 0) Zb hlt (gi := g0) rfl
 cases h1 : fJ t n
 case true => (
 refine Jv ?_
 intro hH
 iterate 8 (refine Ta hH ?_; try simp only [Nm])
 refine Rd 8 Zc rfl (fun K hK => ?_)
 have HK8 := bA hK
 clear hK
 go_simp
 go_at_call 105
 refine (bW n t _).mono ?_
 rw [h1]
 rintro e w6 ⟨rfl, hbw6⟩
 have hS6 := (hS1.later ((Below.refl _ _).drew)).later hbw6
 clear p1 t0 t1 t2 n0 n1 n2 n3 n4 n5 cx fx lg lp lt' ln hH
 have p1 := hS6.p.cell 1; have t0 := hS6.t.cell 0; have t1 := hS6.t.cell 1; have t2 := hS6.t.cell 2; have lp := hS6.p.lt; have lt' := hS6.t.lt; simp only [Yl] at p1 t0 t1 t2; have n0 := ((bB hS6.below).1 nb _ hnb).trans d0; have n1 := ((bB hS6.below).1 nb _ hnb).trans d1; have n2 := ((bB hS6.below).1 nb _ hnb).trans d2; have n3 := ((bB hS6.below).1 nb _ hnb).trans d3; have n4 := ((bB hS6.below).1 nb _ hnb).trans d4; have n5 := ((bB hS6.below).1 nb _ hnb).trans d5; have ln := V6 hnb hS6.below.size; obtain ⟨cx, fx, lg⟩ := hS6.at_ (i := 0) Zb hlt (gi := g0) rfl
 refine Shut.out HK8.o _ _ ⟨p1, t0, t1, t2, n0, n1, n2, n3, n4, n5⟩ (fun hH => ?_)
 try simp only [Nm]
 iterate 18 ((first | refine Td hH ?_ | refine Ta hH ?_); try simp only [Nm])
 refine Rd 27 Zc rfl (fun K hK => ?_)
 have HK27 := bA hK
 clear hK
 go_simp
 refine Shut.out HK27.o _ _ ?_ (fun _ => ?_)
 · refine ⟨?_, ?_, ?_, ?_, ?_, ?_, ?_, ?_, ?_, ?_⟩ <;> first | assumption | go_keep
 try simp only [Nm]
 refine wpAnyH_done Zc ?_ _
 clear hH HK27 p1 t0 t1 t2 n0 n1 n2 n3 n4 n5 cx fx
 go_wp2_with fail
 go_roundg (l.length - (k + 1))
 case measure => exact Jf
 case rel => (
 refine ⟨k + 1, y.set k b, Zb, by go_num, rfl, Hstep.o, ?_⟩
 have hbt : b = true := by rw [Hb.o, h1, Bool.true_or]
 have h := hS6.set (i := 0) Zb k true
 rw [bI, show upd (upd x 0 y) 0 (y.set k true) = upd x 0 (y.set k true) from funext fun i => by
  by_cases h : i = 0
  · exact Jj
  · rw [bC _ _ h, bC _ _ h, bC _ _ h]] at h
 rw [hbt]
 exact h))
 case false => (
 cases h2 : lM t n
 case false => (
 refine Jv ?_
 intro hH
 iterate 8 (refine Ta hH ?_; try simp only [Nm])
 refine Rd 8 Zc rfl (fun K hK => ?_)
 have HK8 := bA hK
 clear hK
 go_simp
 go_at_call 105
 refine (bW n t _).mono ?_
 rw [h1]
 rintro e w6 ⟨rfl, hbw6⟩
 have hS6 := (hS1.later ((Below.refl _ _).drew)).later hbw6
 clear p1 t0 t1 t2 n0 n1 n2 n3 n4 n5 cx fx lg lp lt' ln hH
 have p1 := hS6.p.cell 1; have t0 := hS6.t.cell 0; have t1 := hS6.t.cell 1; have t2 := hS6.t.cell 2; have lp := hS6.p.lt; have lt' := hS6.t.lt; simp only [Yl] at p1 t0 t1 t2; have n0 := ((bB hS6.below).1 nb _ hnb).trans d0; have n1 := ((bB hS6.below).1 nb _ hnb).trans d1; have n2 := ((bB hS6.below).1 nb _ hnb).trans d2; have n3 := ((bB hS6.below).1 nb _ hnb).trans d3; have n4 := ((bB hS6.below).1 nb _ hnb).trans d4; have n5 := ((bB hS6.below).1 nb _ hnb).trans d5; have ln := V6 hnb hS6.below.size; obtain ⟨cx, fx, lg⟩ := hS6.at_ (i := 0) Zb hlt (gi := g0) rfl
 refine Shut.out HK8.o _ _ ⟨p1, t0, t1, t2, n0, n1, n2, n3, n4, n5⟩ (fun hH => ?_)
 try simp only [Nm]
 iterate 7 (refine Ta hH ?_; try simp only [Nm])
 refine Rd 16 Zc rfl (fun K hK => ?_)
 have HK16 := bA hK
 clear hK
 go_simp
 go_at_call 150
 refine (fE n t _).mono ?_
 rw [h2]
 rintro e w7 ⟨rfl, hbw7⟩
 have hS7 := (hS6).later hbw7
 clear p1 t0 t1 t2 n0 n1 n2 n3 n4 n5 cx fx lg lp lt' ln hH
 have p1 := hS7.p.cell 1; have t0 := hS7.t.cell 0; have t1 := hS7.t.cell 1; have t2 := hS7.t.cell 2; have lp := hS7.p.lt; have lt' := hS7.t.lt; simp only [Yl] at p1 t0 t1 t2; have n0 := ((bB hS7.below).1 nb _ hnb).trans d0; have n1 := ((bB hS7.below).1 nb _ hnb).trans d1; have n2 := ((bB hS7.below).1 nb _ hnb).trans d2; have n3 := ((bB hS7.below).1 nb _ hnb).trans d3; have n4 := ((bB hS7.below).1 nb _ hnb).trans d4; have n5 := ((bB hS7.below).1 nb _ hnb).trans d5; have ln := V6 hnb hS7.below.size; obtain ⟨cx, fx, lg⟩ := hS7.at_ (i := 0) Zb hlt (gi := g0) rfl
 refine Shut.out HK16.o _ _ ⟨p1, t0, t1, t2, n0, n1, n2, n3, n4, n5⟩ (fun hH => ?_)
 try simp only [Nm]
 iterate 10 ((first | refine Td hH ?_ | refine Ta hH ?_); try simp only [Nm])
 refine Rd 27 Zc rfl (fun K hK => ?_)
 have HK27 := bA hK
 clear hK
 go_simp
 refine Shut.out HK27.o _ _ ?_ (fun _ => ?_)
 · refine ⟨?_, ?_, ?_, ?_, ?_, ?_, ?_, ?_, ?_, ?_⟩ <;> first | assumption | go_keep
 try simp only [Nm]
 refine wpAnyH_done Zc ?_ _
 clear hH HK27 p1 t0 t1 t2 n0 n1 n2 n3 n4 n5 cx fx
 go_wp2_with fail
 go_roundg (l.length - (k + 1))
 case measure => exact Jf
 case rel => (
 refine ⟨k + 1, y.set k b, Zb, by go_num, rfl, Hstep.o, ?_⟩
 have hbt : b = false := by rw [Hb.o, h1, h2, Bool.false_or, Bool.false_and, Bool.false_and]
 have h := hS7.set (i := 0) Zb k false
 rw [bI, show upd (upd x 0 y) 0 (y.set k false) = upd x 0 (y.set k false) from funext fun i => by
  by_cases h : i = 0
  · exact Jj
  · rw [bC _ _ h, bC _ _ h, bC _ _ h]] at h
 rw [hbt]
 exact h))
 case true => (
 by_cases h3 : 0 < es.length
 · (
 have t3 : decide ((es.length : Int) > 0) = true := decide_eq_true Zb
 refine Jv ?_
 intro hH
 iterate 8 (refine Ta hH ?_; try simp only [Nm])
 refine Rd 8 Zc rfl (fun K hK => ?_)
 have HK8 := bA hK
 clear hK
 go_simp
 go_at_call 105
 refine (bW n t _).mono ?_
 rw [h1]
 rintro e w6 ⟨rfl, hbw6⟩
 have hS6 := (hS1.later ((Below.refl _ _).drew)).later hbw6
 clear p1 t0 t1 t2 n0 n1 n2 n3 n4 n5 cx fx lg lp lt' ln hH
 have p1 := hS6.p.cell 1; have t0 := hS6.t.cell 0; have t1 := hS6.t.cell 1; have t2 := hS6.t.cell 2; have lp := hS6.p.lt; have lt' := hS6.t.lt; simp only [Yl] at p1 t0 t1 t2; have n0 := ((bB hS6.below).1 nb _ hnb).trans d0; have n1 := ((bB hS6.below).1 nb _ hnb).trans d1; have n2 := ((bB hS6.below).1 nb _ hnb).trans d2; have n3 := ((bB hS6.below).1 nb _ hnb).trans d3; have n4 := ((bB hS6.below).1 nb _ hnb).trans d4; have n5 := ((bB hS6.below).1 nb _ hnb).trans d5; have ln := V6 hnb hS6.below.size; obtain ⟨cx, fx, lg⟩ := hS6.at_ (i := 0) Zb hlt (gi := g0) rfl
 refine Shut.out HK8.o _ _ ⟨p1, t0, t1, t2, n0, n1, n2, n3, n4, n5⟩ (fun hH => ?_)
 try simp only [Nm]
 iterate 7 (refine Ta hH ?_; try simp only [Nm])
 refine Rd 16 Zc rfl (fun K hK => ?_)
 have HK16 := bA hK
 clear hK
 go_simp
 go_at_call 150
 refine (fE n t _).mono ?_
 rw [h2]
 rintro e w7 ⟨rfl, hbw7⟩
 have hS7 := (hS6).later hbw7
 clear p1 t0 t1 t2 n0 n1 n2 n3 n4 n5 cx fx lg lp lt' ln hH
 have p1 := hS7.p.cell 1; have t0 := hS7.t.cell 0; have t1 := hS7.t.cell 1; have t2 := hS7.t.cell 2; have lp := hS7.p.lt; have lt' := hS7.t.lt; simp only [Yl] at p1 t0 t1 t2; have n0 := ((bB hS7.below).1 nb _ hnb).trans d0; have n1 := ((bB hS7.below).1 nb _ hnb).trans d1; have n2 := ((bB hS7.below).1 nb _ hnb).trans d2; have n3 := ((bB hS7.below).1 nb _ hnb).trans d3; have n4 := ((bB hS7.below).1 nb _ hnb).trans d4; have n5 := ((bB hS7.below).1 nb _ hnb).trans d5; have ln := V6 hnb hS7.below.size; obtain ⟨cx, fx, lg⟩ := hS7.at_ (i := 0) Zb hlt (gi := g0) rfl
 refine Shut.out HK16.o _ _ ⟨p1, t0, t1, t2, n0, n1, n2, n3, n4, n5⟩ (fun hH => ?_)
 try simp only [Nm]
 iterate 10 (refine Ta hH ?_; try simp only [Nm])
 refine Rd 27 Zc rfl (fun K hK => ?_)
 have HK27 := bA hK
 clear hK
 go_simp
 refine Shut.out HK27.o _ _ ?_ (fun _ => ?_)
 · refine ⟨?_, ?_, ?_, ?_, ?_, ?_, ?_, ?_, ?_, ?_⟩ <;> first | assumption | go_keep
 try simp only [Nm]
 refine wpAnyH_done Zc ?_ _
 clear hH HK27 p1 t0 t1 t2 n0 n1 n2 n3 n4 n5 cx fx
 go_wp2_with fail
 go_roundg (l.length - (k + 1))
 case measure => exact Jf
 case rel => (
 refine ⟨k + 1, y.set k b, Zb, by go_num, rfl, Hstep.o, ?_⟩
 have hbt : b = acc := by rw [Hb.o, h1, h2, decide_eq_true h3, Bool.false_or, Bool.true_and, Bool.true_and]
 have h := hS7.set (i := 0) Zb k acc
 rw [bI, show upd (upd x 0 y) 0 (y.set k acc) = upd x 0 (y.set k acc) from funext fun i => by
  by_cases h : i = 0
  · exact Jj
  · rw [bC _ _ h, bC _ _ h, bC _ _ h]] at h
 rw [hbt]
 exact h))
 · (
 have t3 : decide ((es.length : Int) > 0) = false := decide_eq_false Zb
 refine Jv ?_
 intro hH
 iterate 8 (refine Ta hH ?_; try simp only [Nm])
 refine Rd 8 Zc rfl (fun K hK => ?_)
 have HK8 := bA hK
 clear hK
 go_simp
 go_at_call 105
 refine (bW n t _).mono ?_
 rw [h1]
 rintro e w6 ⟨rfl, hbw6⟩
 have hS6 := (hS1.later ((Below.refl _ _).drew)).later hbw6
 clear p1 t0 t1 t2 n0 n1 n2 n3 n4 n5 cx fx lg lp lt' ln hH
 have p1 := hS6.p.cell 1; have t0 := hS6.t.cell 0; have t1 := hS6.t.cell 1; have t2 := hS6.t.cell 2; have lp := hS6.p.lt; have lt' := hS6.t.lt; simp only [Yl] at p1 t0 t1 t2; have n0 := ((bB hS6.below).1 nb _ hnb).trans d0; have n1 := ((bB hS6.below).1 nb _ hnb).trans d1; have n2 := ((bB hS6.below).1 nb _ hnb).trans d2; have n3 := ((bB hS6.below).1 nb _ hnb).trans d3; have n4 := ((bB hS6.below).1 nb _ hnb).trans d4; have n5 := ((bB hS6.below).1 nb _ hnb).trans d5; have ln := V6 hnb hS6.below.size; obtain ⟨cx, fx, lg⟩ := hS6.at_ (i := 0) Zb hlt (gi := g0) rfl
 refine Shut.out HK8.o _ _ ⟨p1, t0, t1, t2, n0, n1, n2, n3, n4, n5⟩ (fun hH => ?_)
 try simp only [Nm]
 iterate 7 (refine Ta hH ?_; try simp only [Nm])
 refine Rd 16 Zc rfl (fun K hK => ?_)
 have HK16 := bA hK
 clear hK
 go_simp
 go_at_call 150
 refine (fE n t _).mono ?_
 rw [h2]
 rintro e w7 ⟨rfl, hbw7⟩
 have hS7 := (hS6).later hbw7
 clear p1 t0 t1 t2 n0 n1 n2 n3 n4 n5 cx fx lg lp lt' ln hH
 have p1 := hS7.p.cell 1; have t0 := hS7.t.cell 0; have t1 := hS7.t.cell 1; have t2 := hS7.t.cell 2; have lp := hS7.p.lt; have lt' := hS7.t.lt; simp only [Yl] at p1 t0 t1 t2; have n0 := ((bB hS7.below).1 nb _ hnb).trans d0; have n1 := ((bB hS7.below).1 nb _ hnb).trans d1; have n2 := ((bB hS7.below).1 nb _ hnb).trans d2; have n3 := ((bB hS7.below).1 nb _ hnb).trans d3; have n4 := ((bB hS7.below).1 nb _ hnb).trans d4; have n5 := ((bB hS7.below).1 nb _ hnb).trans d5; have ln := V6 hnb hS7.below.size; obtain ⟨cx, fx, lg⟩ := hS7.at_ (i := 0) Zb hlt (gi := g0) rfl
 refine Shut.out HK16.o _ _ ⟨p1, t0, t1, t2, n0, n1, n2, n3, n4, n5⟩ (fun hH => ?_)
 try simp only [Nm]
 iterate 10 ((first | refine Td hH ?_ | refine Ta hH ?_); try simp only [Nm])
 refine Rd 27 Zc rfl (fun K hK => ?_)
 have HK27 := bA hK
 clear hK
 go_simp
 refine Shut.out HK27.o _ _ ?_ (fun _ => ?_)
 · refine ⟨?_, ?_, ?_, ?_, ?_, ?_, ?_, ?_, ?_, ?_⟩ <;> first | assumption | go_keep
 try simp only [Nm]
 refine wpAnyH_done Zc ?_ _
 clear hH HK27 p1 t0 t1 t2 n0 n1 n2 n3 n4 n5 cx fx
 go_wp2_with fail
 go_roundg (l.length - (k + 1))
 case measure => exact Jf
 case rel => (
 refine ⟨k + 1, y.set k b, Zb, by go_num, rfl, Hstep.o, ?_⟩
 have hbt : b = false := by rw [Hb.o, h1, h2, decide_eq_false h3, Bool.false_or, Bool.true_and, Bool.false_and]
 have h := hS7.set (i := 0) Zb k false
 rw [bI, show upd (upd x 0 y) 0 (y.set k false) = upd x 0 (y.set k false) from funext fun i => by
  by_cases h : i = 0
  · exact Jj
  · rw [bC _ _ h, bC _ _ h, bC _ _ h]] at h
 rw [hbt]
 exact h)))))))
 · (
 have hkk : k = l.length := Zb
 subst hkk
 have HS1 := bA hS1
 clear hS1
 go_wp2_with fail
 go_roundg (l.length + 1 - (c + 1))
 case measure => exact Jg
 case rel => exact ⟨c + 1, y, Zb, by go_num, rfl, HSw.o.turn, HS1.o⟩)))
 · (
 refine Vg fun HG => ?_
 go_wp2_with fail
 refine ⟨rfl, ?_⟩
 refine HX.o _ _ y ?_ ?_ ?_ HS1.o
 · rfl
 · kernel_rfl
 · rw [← HSf.o]; exact HG.o)))
end
end Go.Proofs.YtmghkonmfbpjcabGreatDoor
