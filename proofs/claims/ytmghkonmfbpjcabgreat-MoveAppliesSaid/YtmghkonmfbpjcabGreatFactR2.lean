/- FactR2. -/
import Derived.Test.YtmghkonmfbpjcabGreatFactR1
import Derived.Test.YtmghkonmfbpjcabGreatGA
set_option linter.unusedVariables false
set_option linter.unusedSimpArgs false
namespace Go.Proofs.YtmghkonmfbpjcabGreat
section
open Go.RowKit
set_option maxHeartbeats 8000000
attribute [local irreducible] Row madeCells
attribute [local go_sem] no_yes
set_option maxRecDepth 1000000 in
theorem rloop1 (regs : Int) (A : Option Addr) (l : List Nd) (cap : Nat) (t : Tm) (w : World) (hA : NodesAt w A l) (hR : Right regs l) (g0 g1 g2 g3 g4 g5 : Nat) (nx ax : Value) (x : Nat → List Bool) (a : Act) (W : World) (Rx : Act → World → Prop)
 (hd : a.defers = []) (ha : a.tmps = rfr regs A l cap t w.heap.size g0 g1 g2 g3 g4 g5 nx ax (lets a.tmps)) (hi : lets a.tmps 16 = .int .i64 0)
 (hS : RS regs A l cap t w g0 g1 g2 g3 g4 g5 nx ax l.length l.length x W) (hx : ∀ i, i < l.length → yn (x 0) i = true)
 (hexit : ∀ (a' : Act) (W' : World) (y : List Bool), a'.defers = [] → a'.tmps = rfr regs A l cap t w.heap.size g0 g1 g2 g3 g4 g5 nx ax (lets a'.tmps) → Great (flowS true false (recL t l) (keepL t l) (noL l.length) (notL (noL l.length)) l) l.length y → RS regs A l cap t w g0 g1 g2 g3 g4 g5 nx ax l.length l.length (upd x 0 y) W' → Rx a' W') :
 Code.wp Tryz.prog (Code.loop (rloop 1)) (onlyExit 2 Rx) a W := by (
 conv => arg 2; arg 1; whnf
 obtain ⟨tm, df⟩ := a
 simp only at hd ha hi
 subst hd
 generalize lets tm = u at ha hi
 subst ha
 dsimp only [rfr]
 rw [hi]
 have hlo := hR.lo
 have hhi := hR.hi
 have HX := hide hexit
 obtain ⟨Sf, hSf⟩ : ∃ Sf, Sf = flowS true false (recL t l) (keepL t l) (noL l.length) (notL (noL l.length)) l := ⟨_, rfl⟩
 have hm : Mono Sf := by rw [hSf]; exact flowS_mono _ _ _ _ _ _ _
 have HSf := hide hSf
 have HM := hide hm
 have hst : ∃ y, Sweep Sf l.length 0 0 y ∧ RS regs A l cap t w g0 g1 g2 g3 g4 g5 nx ax l.length l.length (upd x 0 y) W := ⟨x 0, Sweep.start (hS.rows 0 (by omega)).2 hx, by
  rw [show upd x 0 (x 0) = x from funext fun i => by
   by_cases h : i = 0
   · rw [h, upd_same]
   · rw [upd_other _ _ h]]
  exact hS⟩
 have Hst := hide hst
 obtain ⟨vn, e1, e2, e3⟩ := hS.nxt
 obtain ⟨gn, on, cn, _, hnx, _, _, _, _, _⟩ := e2.get (k := 0) (by omega)
 rw [e1] at hnx
 subst hnx
 clear hi hexit hSf hm hst hS hx e1 e2 e3
 go_loopg [16] (l.length + 1) (fun gk i wr => ∃ (c : Nat) (y : List Bool), c ≤ l.length + 1 ∧ i = .int .i64 c ∧ gk = l.length + 1 - c ∧ Sweep Sf l.length c 0 y ∧ RS regs A l cap t w g0 g1 g2 g3 g4 g5 (.slice (some ⟨gn, on, none⟩) l.length cn) ax l.length l.length (upd x 0 y) wr)
 case atStart => obtain ⟨y, h1, h2⟩ := Hst.out; exact ⟨0, y, Nat.zero_le _, rfl, rfl, h1, h2⟩
 case round => (
 obtain ⟨c, y, hc, rfl, hgk, h, hS1⟩ := hrel
 have Hgk := hide hgk
 have HSw := hide h
 clear hgk Hst h
 have s0 := hS1.s.cell 0
 have ls := hS1.s.lt
 simp only [List.getElem?_toArray, List.getElem?_cons_zero] at s0
 have HS1 := hide hS1
 clear hS1
 by_cases hcl : c ≤ l.length
 · (
 have cc : (c : Int) ≤ (l.length : Int) := by omega
 obtain ⟨wo, rfl⟩ : ∃ wo : World, wo = wr := ⟨_, rfl⟩
 obtain ⟨gk0, rfl⟩ : ∃ gk0 : Nat, gk0 = gk := ⟨_, rfl⟩
 go_wp2_with fail
 go_loopg [17] (l.length) (fun gk i wr => ∃ (k : Nat) (y : List Bool), k ≤ l.length ∧ i = .int .i64 k ∧ gk = l.length - k ∧ Sweep Sf l.length c k y ∧ RS regs A l cap t w g0 g1 g2 g3 g4 g5 (.slice (some ⟨gn, on, none⟩) l.length cn) ax l.length l.length (upd x 0 y) wr)
 case atStart => exact ⟨0, y, Nat.zero_le _, rfl, rfl, HSw.out, HS1.out⟩
 case round => (
 clear HS1 HSw s0 ls
 obtain ⟨k, y, hk, rfl, hgk2, h, hS1⟩ := hrel
 have Hgk2 := hide hgk2
 have HSw := hide h
 clear hgk2 h
 have s0 := hS1.s.cell 0
 have ls := hS1.s.lt
 simp only [List.getElem?_toArray, List.getElem?_cons_zero] at s0
 by_cases hlt : k < l.length
 · (
 obtain ⟨nb, no, n, rfl, hnb, hn, hnl⟩ := hA.get hlt
 obtain ⟨d0, d1, d2, d3, d4, d5⟩ := hnl
 have Hn := hide hn
 obtain ⟨vn, e1, e2, e3⟩ := hS1.nxt
 obtain ⟨gn', on', cn', z, hnx, _, hgl, hz, hcz, _⟩ := e2.get (k := k) (by omega)
 obtain ⟨ea, eb⟩ : gn = gn' ∧ on = on' := by (
 injection hnx with hnx _ _
 injection hnx with hnx
 injection hnx with ea eb _
 exact ⟨ea, eb⟩)
 subst ea eb
 clear hnx
 obtain ⟨R, rc, ez, hrow⟩ := e3 k hlt
 rw [hz] at ez
 injection ez with ez
 subst ez
 have hrv := hrow.vals
 have u0 : (0 : Int) ≤ (k : Int) := by omega
 have u1 : (k : Int) < (l.length : Int) := by omega
 have hrl := sel_len (nextP l k) l.length
 have hel : (edgesOf true l k).length ≤ l.length := hrl
 have Hrv := hide hrv
 have hS2 := hS1
 clear hn hz hrow e1 e2 e3 hrv hrl hS1
 obtain ⟨es, hes⟩ : ∃ es, es = edgesOf true l k := ⟨_, rfl⟩
 have hlt2 : ∀ m ∈ es, 0 ≤ m ∧ m < (l.length : Int) := fun m hm => by (
 rw [hes] at hm
 have := edges_lt hm
 unfold edgesOf at hm
 obtain ⟨i, hi, _, rfl⟩ := mem_sel.1 hm
 omega)
 rw [← hes] at Hrv hcz hel
 have Hes := hide hes
 have Hlt := hide hlt2
 have HS2 := hide hS2
 clear hes hlt2
 have h0row := (hS2.rows 0 (by omega)).1
 have h0len := (hS2.rows 0 (by omega)).2
 rw [upd_same] at h0row h0len
 have h0row : Row wr w.heap.size 4 (.slice (some ⟨g0, 0, none⟩) l.length l.length) (bools y) := h0row
 have H0row := hide h0row
 have lg := rowlt h0row
 clear h0row hS2
 go_wp2_with fail
 obtain ⟨wi, rfl⟩ : ∃ wi : World, wi = wr := ⟨_, rfl⟩
 go_loopg [19, 20] (es.length) (fun gk s19 i wr => ∃ j : Nat, j ≤ es.length ∧ i = .int .i64 j ∧ gk = es.length - j ∧ s19 = .bool ((es.take j).all fun m => yn y m.toNat) ∧ wr = wi)
 case atStart => exact ⟨0, Nat.zero_le _, rfl, rfl, by simp, rfl⟩
 case round => (
 obtain ⟨j, hj, rfl, hgk3, rfl, rfl⟩ := hrel
 have Hgk3 := hide hgk3
 clear hgk3
 by_cases hjl : j < es.length
 · (
 obtain ⟨rb, ro, v, rfl, hrb, hrk, hrc⟩ := Hrv.out.get (k := j) (by rw [ints_length]; exact hjl)
 rw [ints_get] at hrk
 obtain ⟨m, hm, rfl⟩ : ∃ m, es[j]? = some m ∧ .int .i64 m = v := by simpa using hrk
 obtain ⟨q0, q1⟩ := Hlt.out m (List.mem_of_getElem? hm)
 obtain ⟨mm, rfl⟩ := Int.eq_ofNat_of_zero_le q0
 obtain ⟨cm, fm⟩ := H0row.out.bool_at_ (k := mm) (by rw [h0len]; omega)
 have hta : ((es.take (j + 1)).all fun m => yn y m.toNat) = (((es.take j).all fun m => yn y m.toNat) && yn y mm) := by (
 rw [List.take_add_one, hm, List.all_append]
 simp)
 have Hta := hide hta
 have v0 : (0 : Int) ≤ (j : Int) := by omega
 have v1 : (j : Int) < (es.length : Int) := by omega
 clear hrk hm hta
 cases hac : ((es.take j).all fun m => yn y m.toNat)
 · (
 go_wp2_with fail
 go_roundg (es.length - (j + 1))
 case measure => have := Hgk3.out; omega
 case rel => exact ⟨j + 1, by omega, by go_num, rfl, by rw [Hta.out, hac]; rfl, rfl⟩)
 · (
 go_wp2_with fail
 go_roundg (es.length - (j + 1))
 case measure => have := Hgk3.out; omega
 case rel => exact ⟨j + 1, by omega, by go_num, rfl, by rw [Hta.out, hac]; rfl, rfl⟩))
 · (
 have hjj : (es.take j) = es := List.take_of_length_le (by omega)
 rw [hjj]
 clear hjj
 obtain ⟨acc, hacc⟩ : ∃ acc, acc = es.all fun m => yn y m.toNat := ⟨_, rfl⟩
 rw [← hacc]
 have Hacc := hide hacc
 clear hacc
 go_upto_region 22 with fail
 have hv : downV t l y k = (recB t n || keepB t n && decide (0 < es.length) && acc) := by (
 unfold downV
 rw [yn_rec Hn.out, yn_keep Hn.out, ← Hes.out, Hacc.out])
 have hsf : Sf y k = downV t l y k := by rw [HSf.out]; exact down_eq t l y hlt
 obtain ⟨b, hb⟩ : ∃ b, b = (recB t n || keepB t n && decide (0 < es.length) && acc) := ⟨_, rfl⟩
 have hstep : Sweep Sf l.length c (k + 1) (y.set k b) := HSw.out.step HM.out hlt (by rw [hsf, hv, hb])
 have Hstep := hide hstep
 have Hb := hide hb
 have nP : ¬ (w.heap.size = g0) := fun e => by have h := Blk.ne_ HS2.out.p (HS2.out.rows 0 (by omega)).1.blk.choose_spec (by decide); exact h e
 have nP' : ¬ (g0 = w.heap.size) := fun e => nP e.symm
 have nT : ¬ (w.heap.size + 1 = g0) := fun e => by have h := Blk.ne_ HS2.out.t (HS2.out.rows 0 (by omega)).1.blk.choose_spec (by decide); exact h e
 have nT' : ¬ (g0 = w.heap.size + 1) := fun e => nT e.symm
 have nN : ¬ (nb = g0) := fun e => by have h := rowge (HS2.out.rows 0 (by omega)).1; have h2 : w.heap.size ≤ g0 := h; omega
 have nN' : ¬ (g0 = nb) := fun e => nN e.symm
 clear hv hsf hstep hb H0row h0len Hacc Hrv Hlt hcz s0 ls HSw lg
 have hS1 := HS2.out
 have p1 := hS1.p.cell 1; have t0 := hS1.t.cell 0; have t1 := hS1.t.cell 1; have t2 := hS1.t.cell 2; have lp := hS1.p.lt; have lt' := hS1.t.lt; simp only [Yl] at p1 t0 t1 t2; have n0 := ((bcell hS1.below).1 nb _ hnb).trans d0; have n1 := ((bcell hS1.below).1 nb _ hnb).trans d1; have n2 := ((bcell hS1.below).1 nb _ hnb).trans d2; have n3 := ((bcell hS1.below).1 nb _ hnb).trans d3; have n4 := ((bcell hS1.below).1 nb _ hnb).trans d4; have n5 := ((bcell hS1.below).1 nb _ hnb).trans d5; have ln := Nat.lt_of_lt_of_le hnb hS1.below.size; obtain ⟨cx, fx, lg⟩ := hS1.at_ (i := 0) (by omega) hlt (gi := g0) rfl
 cases h1 : recB t n
 case true => (
 refine wp_region_held_drew (S := fun w' => (w'.cell? ⟨w.heap.size, 1, none⟩ = some (.slice (some ⟨nb, no, none⟩) l.length cap) ∧ w'.cell? ⟨w.heap.size + 1, 0, none⟩ = some (.int .i64 t.op) ∧ w'.cell? ⟨w.heap.size + 1, 1, none⟩ = some (.int .i64 t.a) ∧ w'.cell? ⟨w.heap.size + 1, 2, none⟩ = some (.int .i64 t.b) ∧ w'.cell? ⟨nb, no + k * 6, none⟩ = some (.int .i64 n.op) ∧ w'.cell? ⟨nb, no + k * 6 + 1, none⟩ = some (.int .i64 n.d) ∧ w'.cell? ⟨nb, no + k * 6 + 2, none⟩ = some (.int .i64 n.a) ∧ w'.cell? ⟨nb, no + k * 6 + 3, none⟩ = some (.int .i64 n.b) ∧ w'.cell? ⟨nb, no + k * 6 + 4, none⟩ = some (.int .i64 n.t) ∧ w'.cell? ⟨nb, no + k * 6 + 5, none⟩ = some (.int .i64 n.e))) (by kernel_rfl) ?_ ?_
 · exact ⟨p1, t0, t1, t2, n0, n1, n2, n3, n4, n5⟩
 intro hH
 (refine Ui 0 ?_ rfl (by kernel_rfl) (fun _ _ _ h => h) (by rfl) ?_ hH ?_; rotate_left; (focus (intro w' h; (try dsimp only at h); go_simp; try with_reducible rfl)); try simp only [Nm])
 (refine Ui 1 ?_ rfl (by kernel_rfl) (fun _ _ _ h => h) (by rfl) ?_ hH ?_; rotate_left; (focus (intro w' h; (try dsimp only at h); go_simp; try with_reducible rfl)); try simp only [Nm])
 (refine Ui 2 ?_ rfl (by kernel_rfl) (fun _ _ _ h => h) (by rfl) ?_ hH ?_; rotate_left; (focus (intro w' h; (try dsimp only at h); go_simp; try with_reducible rfl)); try simp only [Nm])
 (refine Ui 3 ?_ rfl (by kernel_rfl) (fun _ _ _ h => h) (by rfl) ?_ hH ?_; rotate_left; (focus (intro w' h; (try dsimp only at h); go_simp; try with_reducible rfl)); try simp only [Nm])
 (refine Ui 4 ?_ rfl (by kernel_rfl) (fun _ _ _ h => h) (by rfl) ?_ hH ?_; rotate_left; (focus (intro w' h; (try dsimp only at h); go_simp; try with_reducible rfl)); try simp only [Nm])
 (refine Ui 5 ?_ rfl (by kernel_rfl) (fun _ _ _ h => h) (by rfl) ?_ hH ?_; rotate_left; (focus (intro w' h; (try dsimp only at h); go_simp; try with_reducible rfl)); try simp only [Nm])
 (refine Ui 6 ?_ rfl (by kernel_rfl) (fun _ _ _ h => h) (by rfl) ?_ hH ?_; rotate_left; (focus (intro w' h; (try dsimp only at h); go_simp; try with_reducible rfl)); try simp only [Nm])
 (refine Ui 7 ?_ rfl (by kernel_rfl) (fun _ _ _ h => h) (by rfl) ?_ hH ?_; rotate_left; (focus (intro w' h; (try dsimp only at h); go_simp; try with_reducible rfl)); try simp only [Nm])
 refine Rd 8 (by kernel_rfl) rfl (fun K hK => ?_)
 have HK8 := hide hK
 clear hK
 go_simp
 go_at_call 35
 refine (reckonsIt_any n t _).mono ?_
 rw [h1]
 rintro e w6 ⟨rfl, hbw6⟩
 have hS6 := (hS1.later ((Below.refl _ _).drew)).later hbw6
 clear p1 t0 t1 t2 n0 n1 n2 n3 n4 n5 cx fx lg lp lt' ln hH
 have p1 := hS6.p.cell 1; have t0 := hS6.t.cell 0; have t1 := hS6.t.cell 1; have t2 := hS6.t.cell 2; have lp := hS6.p.lt; have lt' := hS6.t.lt; simp only [Yl] at p1 t0 t1 t2; have n0 := ((bcell hS6.below).1 nb _ hnb).trans d0; have n1 := ((bcell hS6.below).1 nb _ hnb).trans d1; have n2 := ((bcell hS6.below).1 nb _ hnb).trans d2; have n3 := ((bcell hS6.below).1 nb _ hnb).trans d3; have n4 := ((bcell hS6.below).1 nb _ hnb).trans d4; have n5 := ((bcell hS6.below).1 nb _ hnb).trans d5; have ln := Nat.lt_of_lt_of_le hnb hS6.below.size; obtain ⟨cx, fx, lg⟩ := hS6.at_ (i := 0) (by omega) hlt (gi := g0) rfl
 refine Shut.out HK8.out _ _ ⟨p1, t0, t1, t2, n0, n1, n2, n3, n4, n5⟩ (fun hH => ?_)
 try simp only [Nm]
 (refine Ui 9 ?_ rfl (by kernel_rfl) (fun _ _ _ h => h) (by rfl) ?_ hH ?_; rotate_left; (focus (intro w' h; (try dsimp only at h); go_simp; try with_reducible rfl)); try simp only [Nm])
 (refine Un 10 rfl (by kernel_rfl) (fun _ _ _ h => h) (by rfl) hH ?_; try simp only [Nm])
 (refine Un 11 rfl (by kernel_rfl) (fun _ _ _ h => h) (by rfl) hH ?_; try simp only [Nm])
 (refine Un 12 rfl (by kernel_rfl) (fun _ _ _ h => h) (by rfl) hH ?_; try simp only [Nm])
 (refine Un 13 rfl (by kernel_rfl) (fun _ _ _ h => h) (by rfl) hH ?_; try simp only [Nm])
 (refine Un 14 rfl (by kernel_rfl) (fun _ _ _ h => h) (by rfl) hH ?_; try simp only [Nm])
 (refine Un 15 rfl (by kernel_rfl) (fun _ _ _ h => h) (by rfl) hH ?_; try simp only [Nm])
 (refine Un 16 rfl (by kernel_rfl) (fun _ _ _ h => h) (by rfl) hH ?_; try simp only [Nm])
 (refine Un 17 rfl (by kernel_rfl) (fun _ _ _ h => h) (by rfl) hH ?_; try simp only [Nm])
 (refine Un 18 rfl (by kernel_rfl) (fun _ _ _ h => h) (by rfl) hH ?_; try simp only [Nm])
 (refine Un 19 rfl (by kernel_rfl) (fun _ _ _ h => h) (by rfl) hH ?_; try simp only [Nm])
 (refine Un 20 rfl (by kernel_rfl) (fun _ _ _ h => h) (by rfl) hH ?_; try simp only [Nm])
 (refine Un 21 rfl (by kernel_rfl) (fun _ _ _ h => h) (by rfl) hH ?_; try simp only [Nm])
 (refine Un 22 rfl (by kernel_rfl) (fun _ _ _ h => h) (by rfl) hH ?_; try simp only [Nm])
 (refine Un 23 rfl (by kernel_rfl) (fun _ _ _ h => h) (by rfl) hH ?_; try simp only [Nm])
 (refine Un 24 rfl (by kernel_rfl) (fun _ _ _ h => h) (by rfl) hH ?_; try simp only [Nm])
 (refine Ui 25 ?_ rfl (by kernel_rfl) (fun _ _ _ h => h) (by rfl) ?_ hH ?_; rotate_left; (focus (intro w' h; (try dsimp only at h); go_simp; try with_reducible rfl)); try simp only [Nm])
 (refine Ui 26 ?_ rfl (by kernel_rfl) (fun _ _ _ h => h) (by rfl) ?_ hH ?_; rotate_left; (focus (intro w' h; (try dsimp only at h); go_simp; try with_reducible rfl)); try simp only [Nm])
 refine Rd 27 (by kernel_rfl) rfl (fun K hK => ?_)
 have HK27 := hide hK
 clear hK
 go_simp
 refine Shut.out HK27.out _ _ ?_ (fun _ => ?_)
 · refine ⟨?_, ?_, ?_, ?_, ?_, ?_, ?_, ?_, ?_, ?_⟩ <;> first | assumption | go_keep
 try simp only [Nm]
 refine wpAnyH_done (by kernel_rfl) ?_ _
 clear hH HK27 p1 t0 t1 t2 n0 n1 n2 n3 n4 n5 cx fx
 go_wp2_with fail
 go_roundg (l.length - (k + 1))
 case measure => have := Hgk2.out; omega
 case rel => (
 refine ⟨k + 1, y.set k b, by omega, by go_num, rfl, Hstep.out, ?_⟩
 have hbt : b = true := by rw [Hb.out, h1, Bool.true_or]
 have h := hS6.set (i := 0) (by omega) k true
 rw [upd_same, show upd (upd x 0 y) 0 (y.set k true) = upd x 0 (y.set k true) from funext fun i => by
  by_cases h : i = 0
  · rw [h, upd_same, upd_same]
  · rw [upd_other _ _ h, upd_other _ _ h, upd_other _ _ h]] at h
 rw [hbt]
 exact h))
 case false => (
 cases h2 : keepB t n
 case false => (
 refine wp_region_held_drew (S := fun w' => (w'.cell? ⟨w.heap.size, 1, none⟩ = some (.slice (some ⟨nb, no, none⟩) l.length cap) ∧ w'.cell? ⟨w.heap.size + 1, 0, none⟩ = some (.int .i64 t.op) ∧ w'.cell? ⟨w.heap.size + 1, 1, none⟩ = some (.int .i64 t.a) ∧ w'.cell? ⟨w.heap.size + 1, 2, none⟩ = some (.int .i64 t.b) ∧ w'.cell? ⟨nb, no + k * 6, none⟩ = some (.int .i64 n.op) ∧ w'.cell? ⟨nb, no + k * 6 + 1, none⟩ = some (.int .i64 n.d) ∧ w'.cell? ⟨nb, no + k * 6 + 2, none⟩ = some (.int .i64 n.a) ∧ w'.cell? ⟨nb, no + k * 6 + 3, none⟩ = some (.int .i64 n.b) ∧ w'.cell? ⟨nb, no + k * 6 + 4, none⟩ = some (.int .i64 n.t) ∧ w'.cell? ⟨nb, no + k * 6 + 5, none⟩ = some (.int .i64 n.e))) (by kernel_rfl) ?_ ?_
 · exact ⟨p1, t0, t1, t2, n0, n1, n2, n3, n4, n5⟩
 intro hH
 (refine Ui 0 ?_ rfl (by kernel_rfl) (fun _ _ _ h => h) (by rfl) ?_ hH ?_; rotate_left; (focus (intro w' h; (try dsimp only at h); go_simp; try with_reducible rfl)); try simp only [Nm])
 (refine Ui 1 ?_ rfl (by kernel_rfl) (fun _ _ _ h => h) (by rfl) ?_ hH ?_; rotate_left; (focus (intro w' h; (try dsimp only at h); go_simp; try with_reducible rfl)); try simp only [Nm])
 (refine Ui 2 ?_ rfl (by kernel_rfl) (fun _ _ _ h => h) (by rfl) ?_ hH ?_; rotate_left; (focus (intro w' h; (try dsimp only at h); go_simp; try with_reducible rfl)); try simp only [Nm])
 (refine Ui 3 ?_ rfl (by kernel_rfl) (fun _ _ _ h => h) (by rfl) ?_ hH ?_; rotate_left; (focus (intro w' h; (try dsimp only at h); go_simp; try with_reducible rfl)); try simp only [Nm])
 (refine Ui 4 ?_ rfl (by kernel_rfl) (fun _ _ _ h => h) (by rfl) ?_ hH ?_; rotate_left; (focus (intro w' h; (try dsimp only at h); go_simp; try with_reducible rfl)); try simp only [Nm])
 (refine Ui 5 ?_ rfl (by kernel_rfl) (fun _ _ _ h => h) (by rfl) ?_ hH ?_; rotate_left; (focus (intro w' h; (try dsimp only at h); go_simp; try with_reducible rfl)); try simp only [Nm])
 (refine Ui 6 ?_ rfl (by kernel_rfl) (fun _ _ _ h => h) (by rfl) ?_ hH ?_; rotate_left; (focus (intro w' h; (try dsimp only at h); go_simp; try with_reducible rfl)); try simp only [Nm])
 (refine Ui 7 ?_ rfl (by kernel_rfl) (fun _ _ _ h => h) (by rfl) ?_ hH ?_; rotate_left; (focus (intro w' h; (try dsimp only at h); go_simp; try with_reducible rfl)); try simp only [Nm])
 refine Rd 8 (by kernel_rfl) rfl (fun K hK => ?_)
 have HK8 := hide hK
 clear hK
 go_simp
 go_at_call 35
 refine (reckonsIt_any n t _).mono ?_
 rw [h1]
 rintro e w6 ⟨rfl, hbw6⟩
 have hS6 := (hS1.later ((Below.refl _ _).drew)).later hbw6
 clear p1 t0 t1 t2 n0 n1 n2 n3 n4 n5 cx fx lg lp lt' ln hH
 have p1 := hS6.p.cell 1; have t0 := hS6.t.cell 0; have t1 := hS6.t.cell 1; have t2 := hS6.t.cell 2; have lp := hS6.p.lt; have lt' := hS6.t.lt; simp only [Yl] at p1 t0 t1 t2; have n0 := ((bcell hS6.below).1 nb _ hnb).trans d0; have n1 := ((bcell hS6.below).1 nb _ hnb).trans d1; have n2 := ((bcell hS6.below).1 nb _ hnb).trans d2; have n3 := ((bcell hS6.below).1 nb _ hnb).trans d3; have n4 := ((bcell hS6.below).1 nb _ hnb).trans d4; have n5 := ((bcell hS6.below).1 nb _ hnb).trans d5; have ln := Nat.lt_of_lt_of_le hnb hS6.below.size; obtain ⟨cx, fx, lg⟩ := hS6.at_ (i := 0) (by omega) hlt (gi := g0) rfl
 refine Shut.out HK8.out _ _ ⟨p1, t0, t1, t2, n0, n1, n2, n3, n4, n5⟩ (fun hH => ?_)
 try simp only [Nm]
 (refine Ui 9 ?_ rfl (by kernel_rfl) (fun _ _ _ h => h) (by rfl) ?_ hH ?_; rotate_left; (focus (intro w' h; (try dsimp only at h); go_simp; try with_reducible rfl)); try simp only [Nm])
 (refine Ui 10 ?_ rfl (by kernel_rfl) (fun _ _ _ h => h) (by rfl) ?_ hH ?_; rotate_left; (focus (intro w' h; (try dsimp only at h); go_simp; try with_reducible rfl)); try simp only [Nm])
 (refine Ui 11 ?_ rfl (by kernel_rfl) (fun _ _ _ h => h) (by rfl) ?_ hH ?_; rotate_left; (focus (intro w' h; (try dsimp only at h); go_simp; try with_reducible rfl)); try simp only [Nm])
 (refine Ui 12 ?_ rfl (by kernel_rfl) (fun _ _ _ h => h) (by rfl) ?_ hH ?_; rotate_left; (focus (intro w' h; (try dsimp only at h); go_simp; try with_reducible rfl)); try simp only [Nm])
 (refine Ui 13 ?_ rfl (by kernel_rfl) (fun _ _ _ h => h) (by rfl) ?_ hH ?_; rotate_left; (focus (intro w' h; (try dsimp only at h); go_simp; try with_reducible rfl)); try simp only [Nm])
 (refine Ui 14 ?_ rfl (by kernel_rfl) (fun _ _ _ h => h) (by rfl) ?_ hH ?_; rotate_left; (focus (intro w' h; (try dsimp only at h); go_simp; try with_reducible rfl)); try simp only [Nm])
 (refine Ui 15 ?_ rfl (by kernel_rfl) (fun _ _ _ h => h) (by rfl) ?_ hH ?_; rotate_left; (focus (intro w' h; (try dsimp only at h); go_simp; try with_reducible rfl)); try simp only [Nm])
 refine Rd 16 (by kernel_rfl) rfl (fun K hK => ?_)
 have HK16 := hide hK
 clear hK
 go_simp
 go_at_call 37
 refine (keepsIt_any n t _).mono ?_
 rw [h2]
 rintro e w7 ⟨rfl, hbw7⟩
 have hS7 := (hS6).later hbw7
 clear p1 t0 t1 t2 n0 n1 n2 n3 n4 n5 cx fx lg lp lt' ln hH
 have p1 := hS7.p.cell 1; have t0 := hS7.t.cell 0; have t1 := hS7.t.cell 1; have t2 := hS7.t.cell 2; have lp := hS7.p.lt; have lt' := hS7.t.lt; simp only [Yl] at p1 t0 t1 t2; have n0 := ((bcell hS7.below).1 nb _ hnb).trans d0; have n1 := ((bcell hS7.below).1 nb _ hnb).trans d1; have n2 := ((bcell hS7.below).1 nb _ hnb).trans d2; have n3 := ((bcell hS7.below).1 nb _ hnb).trans d3; have n4 := ((bcell hS7.below).1 nb _ hnb).trans d4; have n5 := ((bcell hS7.below).1 nb _ hnb).trans d5; have ln := Nat.lt_of_lt_of_le hnb hS7.below.size; obtain ⟨cx, fx, lg⟩ := hS7.at_ (i := 0) (by omega) hlt (gi := g0) rfl
 refine Shut.out HK16.out _ _ ⟨p1, t0, t1, t2, n0, n1, n2, n3, n4, n5⟩ (fun hH => ?_)
 try simp only [Nm]
 (refine Ui 17 ?_ rfl (by kernel_rfl) (fun _ _ _ h => h) (by rfl) ?_ hH ?_; rotate_left; (focus (intro w' h; (try dsimp only at h); go_simp; try with_reducible rfl)); try simp only [Nm])
 (refine Un 18 rfl (by kernel_rfl) (fun _ _ _ h => h) (by rfl) hH ?_; try simp only [Nm])
 (refine Un 19 rfl (by kernel_rfl) (fun _ _ _ h => h) (by rfl) hH ?_; try simp only [Nm])
 (refine Un 20 rfl (by kernel_rfl) (fun _ _ _ h => h) (by rfl) hH ?_; try simp only [Nm])
 (refine Ui 21 ?_ rfl (by kernel_rfl) (fun _ _ _ h => h) (by rfl) ?_ hH ?_; rotate_left; (focus (intro w' h; (try dsimp only at h); go_simp; try with_reducible rfl)); try simp only [Nm])
 (refine Ui 22 ?_ rfl (by kernel_rfl) (fun _ _ _ h => h) (by rfl) ?_ hH ?_; rotate_left; (focus (intro w' h; (try dsimp only at h); go_simp; try with_reducible rfl)); try simp only [Nm])
 (refine Un 23 rfl (by kernel_rfl) (fun _ _ _ h => h) (by rfl) hH ?_; try simp only [Nm])
 (refine Ui 24 ?_ rfl (by kernel_rfl) (fun _ _ _ h => h) (by rfl) ?_ hH ?_; rotate_left; (focus (intro w' h; (try dsimp only at h); go_simp; try with_reducible rfl)); try simp only [Nm])
 (refine Ui 25 ?_ rfl (by kernel_rfl) (fun _ _ _ h => h) (by rfl) ?_ hH ?_; rotate_left; (focus (intro w' h; (try dsimp only at h); go_simp; try with_reducible rfl)); try simp only [Nm])
 (refine Ui 26 ?_ rfl (by kernel_rfl) (fun _ _ _ h => h) (by rfl) ?_ hH ?_; rotate_left; (focus (intro w' h; (try dsimp only at h); go_simp; try with_reducible rfl)); try simp only [Nm])
 refine Rd 27 (by kernel_rfl) rfl (fun K hK => ?_)
 have HK27 := hide hK
 clear hK
 go_simp
 refine Shut.out HK27.out _ _ ?_ (fun _ => ?_)
 · refine ⟨?_, ?_, ?_, ?_, ?_, ?_, ?_, ?_, ?_, ?_⟩ <;> first | assumption | go_keep
 try simp only [Nm]
 refine wpAnyH_done (by kernel_rfl) ?_ _
 clear hH HK27 p1 t0 t1 t2 n0 n1 n2 n3 n4 n5 cx fx
 go_wp2_with fail
 go_roundg (l.length - (k + 1))
 case measure => have := Hgk2.out; omega
 case rel => (
 refine ⟨k + 1, y.set k b, by omega, by go_num, rfl, Hstep.out, ?_⟩
 have hbt : b = false := by rw [Hb.out, h1, h2, Bool.false_or, Bool.false_and, Bool.false_and]
 have h := hS7.set (i := 0) (by omega) k false
 rw [upd_same, show upd (upd x 0 y) 0 (y.set k false) = upd x 0 (y.set k false) from funext fun i => by
  by_cases h : i = 0
  · rw [h, upd_same, upd_same]
  · rw [upd_other _ _ h, upd_other _ _ h, upd_other _ _ h]] at h
 rw [hbt]
 exact h))
 case true => (
 by_cases h3 : 0 < es.length
 · (
 have t3 : decide ((es.length : Int) > 0) = true := decide_eq_true (by omega)
 refine wp_region_held_drew (S := fun w' => (w'.cell? ⟨w.heap.size, 1, none⟩ = some (.slice (some ⟨nb, no, none⟩) l.length cap) ∧ w'.cell? ⟨w.heap.size + 1, 0, none⟩ = some (.int .i64 t.op) ∧ w'.cell? ⟨w.heap.size + 1, 1, none⟩ = some (.int .i64 t.a) ∧ w'.cell? ⟨w.heap.size + 1, 2, none⟩ = some (.int .i64 t.b) ∧ w'.cell? ⟨nb, no + k * 6, none⟩ = some (.int .i64 n.op) ∧ w'.cell? ⟨nb, no + k * 6 + 1, none⟩ = some (.int .i64 n.d) ∧ w'.cell? ⟨nb, no + k * 6 + 2, none⟩ = some (.int .i64 n.a) ∧ w'.cell? ⟨nb, no + k * 6 + 3, none⟩ = some (.int .i64 n.b) ∧ w'.cell? ⟨nb, no + k * 6 + 4, none⟩ = some (.int .i64 n.t) ∧ w'.cell? ⟨nb, no + k * 6 + 5, none⟩ = some (.int .i64 n.e))) (by kernel_rfl) ?_ ?_
 · exact ⟨p1, t0, t1, t2, n0, n1, n2, n3, n4, n5⟩
 intro hH
 (refine Ui 0 ?_ rfl (by kernel_rfl) (fun _ _ _ h => h) (by rfl) ?_ hH ?_; rotate_left; (focus (intro w' h; (try dsimp only at h); go_simp; try with_reducible rfl)); try simp only [Nm])
 (refine Ui 1 ?_ rfl (by kernel_rfl) (fun _ _ _ h => h) (by rfl) ?_ hH ?_; rotate_left; (focus (intro w' h; (try dsimp only at h); go_simp; try with_reducible rfl)); try simp only [Nm])
 (refine Ui 2 ?_ rfl (by kernel_rfl) (fun _ _ _ h => h) (by rfl) ?_ hH ?_; rotate_left; (focus (intro w' h; (try dsimp only at h); go_simp; try with_reducible rfl)); try simp only [Nm])
 (refine Ui 3 ?_ rfl (by kernel_rfl) (fun _ _ _ h => h) (by rfl) ?_ hH ?_; rotate_left; (focus (intro w' h; (try dsimp only at h); go_simp; try with_reducible rfl)); try simp only [Nm])
 (refine Ui 4 ?_ rfl (by kernel_rfl) (fun _ _ _ h => h) (by rfl) ?_ hH ?_; rotate_left; (focus (intro w' h; (try dsimp only at h); go_simp; try with_reducible rfl)); try simp only [Nm])
 (refine Ui 5 ?_ rfl (by kernel_rfl) (fun _ _ _ h => h) (by rfl) ?_ hH ?_; rotate_left; (focus (intro w' h; (try dsimp only at h); go_simp; try with_reducible rfl)); try simp only [Nm])
 (refine Ui 6 ?_ rfl (by kernel_rfl) (fun _ _ _ h => h) (by rfl) ?_ hH ?_; rotate_left; (focus (intro w' h; (try dsimp only at h); go_simp; try with_reducible rfl)); try simp only [Nm])
 (refine Ui 7 ?_ rfl (by kernel_rfl) (fun _ _ _ h => h) (by rfl) ?_ hH ?_; rotate_left; (focus (intro w' h; (try dsimp only at h); go_simp; try with_reducible rfl)); try simp only [Nm])
 refine Rd 8 (by kernel_rfl) rfl (fun K hK => ?_)
 have HK8 := hide hK
 clear hK
 go_simp
 go_at_call 35
 refine (reckonsIt_any n t _).mono ?_
 rw [h1]
 rintro e w6 ⟨rfl, hbw6⟩
 have hS6 := (hS1.later ((Below.refl _ _).drew)).later hbw6
 clear p1 t0 t1 t2 n0 n1 n2 n3 n4 n5 cx fx lg lp lt' ln hH
 have p1 := hS6.p.cell 1; have t0 := hS6.t.cell 0; have t1 := hS6.t.cell 1; have t2 := hS6.t.cell 2; have lp := hS6.p.lt; have lt' := hS6.t.lt; simp only [Yl] at p1 t0 t1 t2; have n0 := ((bcell hS6.below).1 nb _ hnb).trans d0; have n1 := ((bcell hS6.below).1 nb _ hnb).trans d1; have n2 := ((bcell hS6.below).1 nb _ hnb).trans d2; have n3 := ((bcell hS6.below).1 nb _ hnb).trans d3; have n4 := ((bcell hS6.below).1 nb _ hnb).trans d4; have n5 := ((bcell hS6.below).1 nb _ hnb).trans d5; have ln := Nat.lt_of_lt_of_le hnb hS6.below.size; obtain ⟨cx, fx, lg⟩ := hS6.at_ (i := 0) (by omega) hlt (gi := g0) rfl
 refine Shut.out HK8.out _ _ ⟨p1, t0, t1, t2, n0, n1, n2, n3, n4, n5⟩ (fun hH => ?_)
 try simp only [Nm]
 (refine Ui 9 ?_ rfl (by kernel_rfl) (fun _ _ _ h => h) (by rfl) ?_ hH ?_; rotate_left; (focus (intro w' h; (try dsimp only at h); go_simp; try with_reducible rfl)); try simp only [Nm])
 (refine Ui 10 ?_ rfl (by kernel_rfl) (fun _ _ _ h => h) (by rfl) ?_ hH ?_; rotate_left; (focus (intro w' h; (try dsimp only at h); go_simp; try with_reducible rfl)); try simp only [Nm])
 (refine Ui 11 ?_ rfl (by kernel_rfl) (fun _ _ _ h => h) (by rfl) ?_ hH ?_; rotate_left; (focus (intro w' h; (try dsimp only at h); go_simp; try with_reducible rfl)); try simp only [Nm])
 (refine Ui 12 ?_ rfl (by kernel_rfl) (fun _ _ _ h => h) (by rfl) ?_ hH ?_; rotate_left; (focus (intro w' h; (try dsimp only at h); go_simp; try with_reducible rfl)); try simp only [Nm])
 (refine Ui 13 ?_ rfl (by kernel_rfl) (fun _ _ _ h => h) (by rfl) ?_ hH ?_; rotate_left; (focus (intro w' h; (try dsimp only at h); go_simp; try with_reducible rfl)); try simp only [Nm])
 (refine Ui 14 ?_ rfl (by kernel_rfl) (fun _ _ _ h => h) (by rfl) ?_ hH ?_; rotate_left; (focus (intro w' h; (try dsimp only at h); go_simp; try with_reducible rfl)); try simp only [Nm])
 (refine Ui 15 ?_ rfl (by kernel_rfl) (fun _ _ _ h => h) (by rfl) ?_ hH ?_; rotate_left; (focus (intro w' h; (try dsimp only at h); go_simp; try with_reducible rfl)); try simp only [Nm])
 refine Rd 16 (by kernel_rfl) rfl (fun K hK => ?_)
 have HK16 := hide hK
 clear hK
 go_simp
 go_at_call 37
 refine (keepsIt_any n t _).mono ?_
 rw [h2]
 rintro e w7 ⟨rfl, hbw7⟩
 have hS7 := (hS6).later hbw7
 clear p1 t0 t1 t2 n0 n1 n2 n3 n4 n5 cx fx lg lp lt' ln hH
 have p1 := hS7.p.cell 1; have t0 := hS7.t.cell 0; have t1 := hS7.t.cell 1; have t2 := hS7.t.cell 2; have lp := hS7.p.lt; have lt' := hS7.t.lt; simp only [Yl] at p1 t0 t1 t2; have n0 := ((bcell hS7.below).1 nb _ hnb).trans d0; have n1 := ((bcell hS7.below).1 nb _ hnb).trans d1; have n2 := ((bcell hS7.below).1 nb _ hnb).trans d2; have n3 := ((bcell hS7.below).1 nb _ hnb).trans d3; have n4 := ((bcell hS7.below).1 nb _ hnb).trans d4; have n5 := ((bcell hS7.below).1 nb _ hnb).trans d5; have ln := Nat.lt_of_lt_of_le hnb hS7.below.size; obtain ⟨cx, fx, lg⟩ := hS7.at_ (i := 0) (by omega) hlt (gi := g0) rfl
 refine Shut.out HK16.out _ _ ⟨p1, t0, t1, t2, n0, n1, n2, n3, n4, n5⟩ (fun hH => ?_)
 try simp only [Nm]
 (refine Ui 17 ?_ rfl (by kernel_rfl) (fun _ _ _ h => h) (by rfl) ?_ hH ?_; rotate_left; (focus (intro w' h; (try dsimp only at h); go_simp; try with_reducible rfl)); try simp only [Nm])
 (refine Ui 18 ?_ rfl (by kernel_rfl) (fun _ _ _ h => h) (by rfl) ?_ hH ?_; rotate_left; (focus (intro w' h; (try dsimp only at h); go_simp; try with_reducible rfl)); try simp only [Nm])
 (refine Ui 19 ?_ rfl (by kernel_rfl) (fun _ _ _ h => h) (by rfl) ?_ hH ?_; rotate_left; (focus (intro w' h; (try dsimp only at h); go_simp; try with_reducible rfl)); try simp only [Nm])
 (refine Ui 20 ?_ rfl (by kernel_rfl) (fun _ _ _ h => h) (by rfl) ?_ hH ?_; rotate_left; (focus (intro w' h; (try dsimp only at h); go_simp; try with_reducible rfl)); try simp only [Nm])
 (refine Ui 21 ?_ rfl (by kernel_rfl) (fun _ _ _ h => h) (by rfl) ?_ hH ?_; rotate_left; (focus (intro w' h; (try dsimp only at h); go_simp; try with_reducible rfl)); try simp only [Nm])
 (refine Ui 22 ?_ rfl (by kernel_rfl) (fun _ _ _ h => h) (by rfl) ?_ hH ?_; rotate_left; (focus (intro w' h; (try dsimp only at h); go_simp; try with_reducible rfl)); try simp only [Nm])
 (refine Ui 23 ?_ rfl (by kernel_rfl) (fun _ _ _ h => h) (by rfl) ?_ hH ?_; rotate_left; (focus (intro w' h; (try dsimp only at h); go_simp; try with_reducible rfl)); try simp only [Nm])
 (refine Ui 24 ?_ rfl (by kernel_rfl) (fun _ _ _ h => h) (by rfl) ?_ hH ?_; rotate_left; (focus (intro w' h; (try dsimp only at h); go_simp; try with_reducible rfl)); try simp only [Nm])
 (refine Ui 25 ?_ rfl (by kernel_rfl) (fun _ _ _ h => h) (by rfl) ?_ hH ?_; rotate_left; (focus (intro w' h; (try dsimp only at h); go_simp; try with_reducible rfl)); try simp only [Nm])
 (refine Ui 26 ?_ rfl (by kernel_rfl) (fun _ _ _ h => h) (by rfl) ?_ hH ?_; rotate_left; (focus (intro w' h; (try dsimp only at h); go_simp; try with_reducible rfl)); try simp only [Nm])
 refine Rd 27 (by kernel_rfl) rfl (fun K hK => ?_)
 have HK27 := hide hK
 clear hK
 go_simp
 refine Shut.out HK27.out _ _ ?_ (fun _ => ?_)
 · refine ⟨?_, ?_, ?_, ?_, ?_, ?_, ?_, ?_, ?_, ?_⟩ <;> first | assumption | go_keep
 try simp only [Nm]
 refine wpAnyH_done (by kernel_rfl) ?_ _
 clear hH HK27 p1 t0 t1 t2 n0 n1 n2 n3 n4 n5 cx fx
 go_wp2_with fail
 go_roundg (l.length - (k + 1))
 case measure => have := Hgk2.out; omega
 case rel => (
 refine ⟨k + 1, y.set k b, by omega, by go_num, rfl, Hstep.out, ?_⟩
 have hbt : b = acc := by rw [Hb.out, h1, h2, decide_eq_true h3, Bool.false_or, Bool.true_and, Bool.true_and]
 have h := hS7.set (i := 0) (by omega) k acc
 rw [upd_same, show upd (upd x 0 y) 0 (y.set k acc) = upd x 0 (y.set k acc) from funext fun i => by
  by_cases h : i = 0
  · rw [h, upd_same, upd_same]
  · rw [upd_other _ _ h, upd_other _ _ h, upd_other _ _ h]] at h
 rw [hbt]
 exact h))
 · (
 have t3 : decide ((es.length : Int) > 0) = false := decide_eq_false (by omega)
 refine wp_region_held_drew (S := fun w' => (w'.cell? ⟨w.heap.size, 1, none⟩ = some (.slice (some ⟨nb, no, none⟩) l.length cap) ∧ w'.cell? ⟨w.heap.size + 1, 0, none⟩ = some (.int .i64 t.op) ∧ w'.cell? ⟨w.heap.size + 1, 1, none⟩ = some (.int .i64 t.a) ∧ w'.cell? ⟨w.heap.size + 1, 2, none⟩ = some (.int .i64 t.b) ∧ w'.cell? ⟨nb, no + k * 6, none⟩ = some (.int .i64 n.op) ∧ w'.cell? ⟨nb, no + k * 6 + 1, none⟩ = some (.int .i64 n.d) ∧ w'.cell? ⟨nb, no + k * 6 + 2, none⟩ = some (.int .i64 n.a) ∧ w'.cell? ⟨nb, no + k * 6 + 3, none⟩ = some (.int .i64 n.b) ∧ w'.cell? ⟨nb, no + k * 6 + 4, none⟩ = some (.int .i64 n.t) ∧ w'.cell? ⟨nb, no + k * 6 + 5, none⟩ = some (.int .i64 n.e))) (by kernel_rfl) ?_ ?_
 · exact ⟨p1, t0, t1, t2, n0, n1, n2, n3, n4, n5⟩
 intro hH
 (refine Ui 0 ?_ rfl (by kernel_rfl) (fun _ _ _ h => h) (by rfl) ?_ hH ?_; rotate_left; (focus (intro w' h; (try dsimp only at h); go_simp; try with_reducible rfl)); try simp only [Nm])
 (refine Ui 1 ?_ rfl (by kernel_rfl) (fun _ _ _ h => h) (by rfl) ?_ hH ?_; rotate_left; (focus (intro w' h; (try dsimp only at h); go_simp; try with_reducible rfl)); try simp only [Nm])
 (refine Ui 2 ?_ rfl (by kernel_rfl) (fun _ _ _ h => h) (by rfl) ?_ hH ?_; rotate_left; (focus (intro w' h; (try dsimp only at h); go_simp; try with_reducible rfl)); try simp only [Nm])
 (refine Ui 3 ?_ rfl (by kernel_rfl) (fun _ _ _ h => h) (by rfl) ?_ hH ?_; rotate_left; (focus (intro w' h; (try dsimp only at h); go_simp; try with_reducible rfl)); try simp only [Nm])
 (refine Ui 4 ?_ rfl (by kernel_rfl) (fun _ _ _ h => h) (by rfl) ?_ hH ?_; rotate_left; (focus (intro w' h; (try dsimp only at h); go_simp; try with_reducible rfl)); try simp only [Nm])
 (refine Ui 5 ?_ rfl (by kernel_rfl) (fun _ _ _ h => h) (by rfl) ?_ hH ?_; rotate_left; (focus (intro w' h; (try dsimp only at h); go_simp; try with_reducible rfl)); try simp only [Nm])
 (refine Ui 6 ?_ rfl (by kernel_rfl) (fun _ _ _ h => h) (by rfl) ?_ hH ?_; rotate_left; (focus (intro w' h; (try dsimp only at h); go_simp; try with_reducible rfl)); try simp only [Nm])
 (refine Ui 7 ?_ rfl (by kernel_rfl) (fun _ _ _ h => h) (by rfl) ?_ hH ?_; rotate_left; (focus (intro w' h; (try dsimp only at h); go_simp; try with_reducible rfl)); try simp only [Nm])
 refine Rd 8 (by kernel_rfl) rfl (fun K hK => ?_)
 have HK8 := hide hK
 clear hK
 go_simp
 go_at_call 35
 refine (reckonsIt_any n t _).mono ?_
 rw [h1]
 rintro e w6 ⟨rfl, hbw6⟩
 have hS6 := (hS1.later ((Below.refl _ _).drew)).later hbw6
 clear p1 t0 t1 t2 n0 n1 n2 n3 n4 n5 cx fx lg lp lt' ln hH
 have p1 := hS6.p.cell 1; have t0 := hS6.t.cell 0; have t1 := hS6.t.cell 1; have t2 := hS6.t.cell 2; have lp := hS6.p.lt; have lt' := hS6.t.lt; simp only [Yl] at p1 t0 t1 t2; have n0 := ((bcell hS6.below).1 nb _ hnb).trans d0; have n1 := ((bcell hS6.below).1 nb _ hnb).trans d1; have n2 := ((bcell hS6.below).1 nb _ hnb).trans d2; have n3 := ((bcell hS6.below).1 nb _ hnb).trans d3; have n4 := ((bcell hS6.below).1 nb _ hnb).trans d4; have n5 := ((bcell hS6.below).1 nb _ hnb).trans d5; have ln := Nat.lt_of_lt_of_le hnb hS6.below.size; obtain ⟨cx, fx, lg⟩ := hS6.at_ (i := 0) (by omega) hlt (gi := g0) rfl
 refine Shut.out HK8.out _ _ ⟨p1, t0, t1, t2, n0, n1, n2, n3, n4, n5⟩ (fun hH => ?_)
 try simp only [Nm]
 (refine Ui 9 ?_ rfl (by kernel_rfl) (fun _ _ _ h => h) (by rfl) ?_ hH ?_; rotate_left; (focus (intro w' h; (try dsimp only at h); go_simp; try with_reducible rfl)); try simp only [Nm])
 (refine Ui 10 ?_ rfl (by kernel_rfl) (fun _ _ _ h => h) (by rfl) ?_ hH ?_; rotate_left; (focus (intro w' h; (try dsimp only at h); go_simp; try with_reducible rfl)); try simp only [Nm])
 (refine Ui 11 ?_ rfl (by kernel_rfl) (fun _ _ _ h => h) (by rfl) ?_ hH ?_; rotate_left; (focus (intro w' h; (try dsimp only at h); go_simp; try with_reducible rfl)); try simp only [Nm])
 (refine Ui 12 ?_ rfl (by kernel_rfl) (fun _ _ _ h => h) (by rfl) ?_ hH ?_; rotate_left; (focus (intro w' h; (try dsimp only at h); go_simp; try with_reducible rfl)); try simp only [Nm])
 (refine Ui 13 ?_ rfl (by kernel_rfl) (fun _ _ _ h => h) (by rfl) ?_ hH ?_; rotate_left; (focus (intro w' h; (try dsimp only at h); go_simp; try with_reducible rfl)); try simp only [Nm])
 (refine Ui 14 ?_ rfl (by kernel_rfl) (fun _ _ _ h => h) (by rfl) ?_ hH ?_; rotate_left; (focus (intro w' h; (try dsimp only at h); go_simp; try with_reducible rfl)); try simp only [Nm])
 (refine Ui 15 ?_ rfl (by kernel_rfl) (fun _ _ _ h => h) (by rfl) ?_ hH ?_; rotate_left; (focus (intro w' h; (try dsimp only at h); go_simp; try with_reducible rfl)); try simp only [Nm])
 refine Rd 16 (by kernel_rfl) rfl (fun K hK => ?_)
 have HK16 := hide hK
 clear hK
 go_simp
 go_at_call 37
 refine (keepsIt_any n t _).mono ?_
 rw [h2]
 rintro e w7 ⟨rfl, hbw7⟩
 have hS7 := (hS6).later hbw7
 clear p1 t0 t1 t2 n0 n1 n2 n3 n4 n5 cx fx lg lp lt' ln hH
 have p1 := hS7.p.cell 1; have t0 := hS7.t.cell 0; have t1 := hS7.t.cell 1; have t2 := hS7.t.cell 2; have lp := hS7.p.lt; have lt' := hS7.t.lt; simp only [Yl] at p1 t0 t1 t2; have n0 := ((bcell hS7.below).1 nb _ hnb).trans d0; have n1 := ((bcell hS7.below).1 nb _ hnb).trans d1; have n2 := ((bcell hS7.below).1 nb _ hnb).trans d2; have n3 := ((bcell hS7.below).1 nb _ hnb).trans d3; have n4 := ((bcell hS7.below).1 nb _ hnb).trans d4; have n5 := ((bcell hS7.below).1 nb _ hnb).trans d5; have ln := Nat.lt_of_lt_of_le hnb hS7.below.size; obtain ⟨cx, fx, lg⟩ := hS7.at_ (i := 0) (by omega) hlt (gi := g0) rfl
 refine Shut.out HK16.out _ _ ⟨p1, t0, t1, t2, n0, n1, n2, n3, n4, n5⟩ (fun hH => ?_)
 try simp only [Nm]
 (refine Ui 17 ?_ rfl (by kernel_rfl) (fun _ _ _ h => h) (by rfl) ?_ hH ?_; rotate_left; (focus (intro w' h; (try dsimp only at h); go_simp; try with_reducible rfl)); try simp only [Nm])
 (refine Ui 18 ?_ rfl (by kernel_rfl) (fun _ _ _ h => h) (by rfl) ?_ hH ?_; rotate_left; (focus (intro w' h; (try dsimp only at h); go_simp; try with_reducible rfl)); try simp only [Nm])
 (refine Ui 19 ?_ rfl (by kernel_rfl) (fun _ _ _ h => h) (by rfl) ?_ hH ?_; rotate_left; (focus (intro w' h; (try dsimp only at h); go_simp; try with_reducible rfl)); try simp only [Nm])
 (refine Ui 20 ?_ rfl (by kernel_rfl) (fun _ _ _ h => h) (by rfl) ?_ hH ?_; rotate_left; (focus (intro w' h; (try dsimp only at h); go_simp; try with_reducible rfl)); try simp only [Nm])
 (refine Ui 21 ?_ rfl (by kernel_rfl) (fun _ _ _ h => h) (by rfl) ?_ hH ?_; rotate_left; (focus (intro w' h; (try dsimp only at h); go_simp; try with_reducible rfl)); try simp only [Nm])
 (refine Ui 22 ?_ rfl (by kernel_rfl) (fun _ _ _ h => h) (by rfl) ?_ hH ?_; rotate_left; (focus (intro w' h; (try dsimp only at h); go_simp; try with_reducible rfl)); try simp only [Nm])
 (refine Un 23 rfl (by kernel_rfl) (fun _ _ _ h => h) (by rfl) hH ?_; try simp only [Nm])
 (refine Ui 24 ?_ rfl (by kernel_rfl) (fun _ _ _ h => h) (by rfl) ?_ hH ?_; rotate_left; (focus (intro w' h; (try dsimp only at h); go_simp; try with_reducible rfl)); try simp only [Nm])
 (refine Ui 25 ?_ rfl (by kernel_rfl) (fun _ _ _ h => h) (by rfl) ?_ hH ?_; rotate_left; (focus (intro w' h; (try dsimp only at h); go_simp; try with_reducible rfl)); try simp only [Nm])
 (refine Ui 26 ?_ rfl (by kernel_rfl) (fun _ _ _ h => h) (by rfl) ?_ hH ?_; rotate_left; (focus (intro w' h; (try dsimp only at h); go_simp; try with_reducible rfl)); try simp only [Nm])
 refine Rd 27 (by kernel_rfl) rfl (fun K hK => ?_)
 have HK27 := hide hK
 clear hK
 go_simp
 refine Shut.out HK27.out _ _ ?_ (fun _ => ?_)
 · refine ⟨?_, ?_, ?_, ?_, ?_, ?_, ?_, ?_, ?_, ?_⟩ <;> first | assumption | go_keep
 try simp only [Nm]
 refine wpAnyH_done (by kernel_rfl) ?_ _
 clear hH HK27 p1 t0 t1 t2 n0 n1 n2 n3 n4 n5 cx fx
 go_wp2_with fail
 go_roundg (l.length - (k + 1))
 case measure => have := Hgk2.out; omega
 case rel => (
 refine ⟨k + 1, y.set k b, by omega, by go_num, rfl, Hstep.out, ?_⟩
 have hbt : b = false := by rw [Hb.out, h1, h2, decide_eq_false h3, Bool.false_or, Bool.true_and, Bool.false_and]
 have h := hS7.set (i := 0) (by omega) k false
 rw [upd_same, show upd (upd x 0 y) 0 (y.set k false) = upd x 0 (y.set k false) from funext fun i => by
  by_cases h : i = 0
  · rw [h, upd_same, upd_same]
  · rw [upd_other _ _ h, upd_other _ _ h, upd_other _ _ h]] at h
 rw [hbt]
 exact h)))))))
 · (
 have hkk : k = l.length := by omega
 subst hkk
 have HS1 := hide hS1
 clear hS1
 go_wp2_with fail
 go_roundg (l.length + 1 - (c + 1))
 case measure => have := Hgk.out; omega
 case rel => exact ⟨c + 1, y, by omega, by go_num, rfl, HSw.out.turn, HS1.out⟩)))
 · (
 have hG : Great Sf l.length y := HSw.out.great HM.out (by omega)
 have HG := hide hG
 clear hG
 go_wp2_with fail
 refine ⟨rfl, ?_⟩
 refine HX.out _ _ y ?_ ?_ ?_ HS1.out
 · rfl
 · kernel_rfl
 · rw [← HSf.out]; exact HG.out)))
end
end Go.Proofs.YtmghkonmfbpjcabGreat
