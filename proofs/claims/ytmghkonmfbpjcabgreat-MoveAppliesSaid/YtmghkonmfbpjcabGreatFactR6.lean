/- FactR6. -/
import Derived.Test.YtmghkonmfbpjcabGreatFactR1
import Derived.Test.YtmghkonmfbpjcabGreatGE
import Derived.Test.YtmghkonmfbpjcabGreatGA
set_option linter.unusedVariables false
set_option linter.unusedSimpArgs false
namespace Go.Proofs.YtmghkonmfbpjcabGreat
section
open Go.RowKit
set_option maxHeartbeats 8000000
attribute [local irreducible] Row madeCells
attribute [local go_sem] no_yes
set_option maxRecDepth 1000000 in
theorem rloop5 (regs : Int) (A : Option Addr) (l : List Nd) (cap : Nat) (t : Tm) (w : World) (hA : NodesAt w A l) (hR : Right regs l) (g0 g1 g2 g3 g4 g5 : Nat) (nx ax : Value) (x : Nat → List Bool) (a : Act) (W : World) (Rx : Act → World → Prop)
 (hd : a.defers = []) (ha : a.tmps = rfr regs A l cap t w.heap.size g0 g1 g2 g3 g4 g5 nx ax (lets a.tmps)) (hi : lets a.tmps 34 = .int .i64 0)
 (hS : RS regs A l cap t w g0 g1 g2 g3 g4 g5 nx ax l.length l.length x W)
 (hexit : ∀ (a' : Act) (W' : World) (y : List Bool), a'.defers = [] → a'.tmps = rfr regs A l cap t w.heap.size g0 g1 g2 g3 g4 g5 nx ax (lets a'.tmps) → y = lateL t l (x 3) → RS regs A l cap t w g0 g1 g2 g3 g4 g5 nx ax l.length l.length (upd x 4 y) W' → Rx a' W') :
 Code.wp Tryz.prog (Code.loop (rloop 5)) (onlyExit 24 Rx) a W := by (
 conv => arg 2; arg 1; whnf
 obtain ⟨tm, df⟩ := a
 simp only at hd ha hi
 subst hd
 generalize lets tm = u at ha hi
 subst ha
 dsimp only [rfr]
 rw [hi]
 have hlo := hR.lo
 have hhi := hR.hi
 have HX := hide hexit
 obtain ⟨Y, hY⟩ : ∃ Y, Y = lateL t l (x 3) := ⟨_, rfl⟩
 have hYl : Y.length = l.length := by rw [hY]; exact mk_len _ _
 have HY := hide hY
 have hst : ∃ y, y.length = l.length ∧ (∀ i, i < 0 → yn y i = yn Y i) ∧ RS regs A l cap t w g0 g1 g2 g3 g4 g5 nx ax l.length l.length (upd x 4 y) W := ⟨x 4, (hS.rows 4 (by omega)).2, fun i hi => by omega, by rw [upd_self]; exact hS⟩
 have Hst := hide hst
 obtain ⟨vn, e1, e2, e3⟩ := hS.nxt
 obtain ⟨gn, on, cn, _, hnx, _, _, _, _, _⟩ := e2.get (k := 0) (by omega)
 rw [e1] at hnx
 subst hnx
 clear hi hexit hY hst hS e1 e2 e3
 go_loopg [34] (l.length) (fun gk i wr => ∃ (k : Nat) (y : List Bool), k ≤ l.length ∧ i = .int .i64 k ∧ gk = l.length - k ∧ y.length = l.length ∧ (∀ i, i < k → yn y i = yn Y i) ∧ RS regs A l cap t w g0 g1 g2 g3 g4 g5 (.slice (some ⟨gn, on, none⟩) l.length cn) ax l.length l.length (upd x 4 y) wr)
 case atStart => obtain ⟨y, h1, h2, h3⟩ := Hst.out; exact ⟨0, y, Nat.zero_le _, rfl, rfl, h1, h2, h3⟩
 case round => (
 obtain ⟨k, y, hk, rfl, hgk, hyl, hyY, hS1⟩ := hrel
 have Hgk := hide hgk
 have HyY := hide hyY
 clear hgk Hst hyY
 have s0 := hS1.s.cell 0
 have ls := hS1.s.lt
 simp only [List.getElem?_toArray, List.getElem?_cons_zero] at s0
 by_cases hlt : k < l.length
 · (
 obtain ⟨vn, e1, e2, e3⟩ := hS1.nxt
 obtain ⟨gn', on', cn', z, hnx, _, hgl, hz, hcz, _⟩ := e2.get (k := k) (by omega)
 obtain ⟨ea, eb⟩ : gn = gn' ∧ on = on' := by (
 injection hnx with hnx _ _
 injection hnx with hnx
 injection hnx with ea eb _
 exact ⟨ea, eb⟩)
 subst ea eb
 clear hnx
 obtain ⟨R, rc, ez, hrow⟩ := e3 k hlt
 rw [hz] at ez
 injection ez with ez
 subst ez
 have u0 : (0 : Int) ≤ (k : Int) := by omega
 have u1 : (k : Int) < (l.length : Int) := by omega
 have hel : (edgesOf true l k).length ≤ l.length := edges_le _ _ _
 have hS2 := hS1
 clear hz e1 e2 e3 hS1
 obtain ⟨es, hes⟩ : ∃ es, es = edgesOf true l k := ⟨_, rfl⟩
 rw [← hes] at hrow hcz hel
 have Hes := hide hes
 clear hes
 have h3row := (hS2.rows 3 (by omega)).1
 have h3len := (hS2.rows 3 (by omega)).2
 rw [upd_other _ _ (by decide)] at h3row h3len
 have h3row : Row wr w.heap.size 4 (.slice (some ⟨g3, 0, none⟩) l.length l.length) (bools (x 3)) := h3row
 have H3row := hide h3row
 have lg := rowlt h3row
 have Hrow := hide hrow
 have HS2 := hide hS2
 clear hS2 hrow h3row
 go_wp2_with fail
 obtain ⟨wi, rfl⟩ : ∃ wi : World, wi = wr := ⟨_, rfl⟩
 go_loopg [36, 37] (es.length) (fun gk s36 i wr => ∃ j : Nat, j ≤ es.length ∧ i = .int .i64 j ∧ gk = es.length - j ∧ s36 = .bool (lateA l (x 3) k j) ∧ wr = wi)
 case atStart => exact ⟨0, Nat.zero_le _, rfl, rfl, by rw [lateA_zero], rfl⟩
 case round => (
 obtain ⟨j, hj, rfl, hgk3, rfl, rfl⟩ := hrel
 have Hgk3 := hide hgk3
 clear hgk3
 obtain ⟨a0, ha0⟩ : ∃ a, a = lateA l (x 3) k j := ⟨_, rfl⟩
 rw [← ha0]
 by_cases hjl : j < es.length
 · (
 obtain ⟨mm, n, hjm, hmm, hnm⟩ := edge_in (bk := true) (l := l) (k := k) (j := j) (by rw [← Hes.out]; exact hjl)
 have hstA := lateA_step (y := x 3) hjm
 rw [← ha0] at hstA
 rw [← Hes.out] at hjm
 obtain ⟨rb, ro, rfl, lr, es0⟩ := Hrow.out.int_at_ hjm
 obtain ⟨cm, fm⟩ := H3row.out.bool_at_ (k := mm) (by rw [h3len]; exact hmm)
 have Hb := hide hstA
 have v0 : (0 : Int) ≤ (j : Int) := by omega
 have v1 : (j : Int) < (es.length : Int) := by omega
 clear hstA ha0 hjm hnm
 cases a0
 case true => (
 go_wp2_with fail
 go_roundg (es.length - (j + 1))
 case measure => have := Hgk3.out; omega
 case rel => exact ⟨j + 1, by omega, by go_num, rfl, by rw [Hb.out]; rfl, rfl⟩)
 case false => (
 go_wp2_with fail
 go_roundg (es.length - (j + 1))
 case measure => have := Hgk3.out; omega
 case rel => exact ⟨j + 1, by omega, by go_num, rfl, by rw [Hb.out]; rfl, rfl⟩))
 · (
 obtain ⟨nb, no, n, rfl, hnb, hn, hnl⟩ := hA.get hlt
 obtain ⟨d0, d1, d2, d3, d4, d5⟩ := hnl
 obtain ⟨dk, hdk⟩ : ∃ b, b = yn (x 3) k := ⟨_, rfl⟩
 have hend : yn Y k = (dk && (recB t n || a0)) := by rw [HY.out, lateA_end (j := j) (by rw [← Hes.out]; omega) hlt hn, ← ha0, ← hdk]
 obtain ⟨bb, hbb⟩ : ∃ b, b = (dk && (recB t n || a0)) := ⟨_, rfl⟩
 have hbY : bb = yn Y k := by rw [hend, hbb]
 have HbY := hide hbY
 have Hbb := hide hbb
 have Hdk := hide hdk
 have hS3 := HS2.out
 have nP : ¬ (w.heap.size = g4) := fun e => by have h := Blk.ne_ hS3.p (hS3.rows 4 (by omega)).1.blk.choose_spec (by decide); exact h e
 have nP' : ¬ (g4 = w.heap.size) := fun e => nP e.symm
 have nT : ¬ (w.heap.size + 1 = g4) := fun e => by have h := Blk.ne_ hS3.t (hS3.rows 4 (by omega)).1.blk.choose_spec (by decide); exact h e
 have nT' : ¬ (g4 = w.heap.size + 1) := fun e => nT e.symm
 have nN : ¬ (nb = g4) := fun e => by have h := rowge (hS3.rows 4 (by omega)).1; have h2 : w.heap.size ≤ g4 := h; omega
 have nN' : ¬ (g4 = nb) := fun e => nN e.symm
 clear hend hbY hbb ha0 hdk hn H3row Hrow HS2 hcz s0 ls lg
 have p1 := hS3.p.cell 1
 have t0 := hS3.t.cell 0
 have t1 := hS3.t.cell 1
 have t2 := hS3.t.cell 2
 have lp := hS3.p.lt
 have lt' := hS3.t.lt
 simp only [Yl] at p1 t0 t1 t2
 have n0 := ((bcell hS3.below).1 nb _ hnb).trans d0
 have n1 := ((bcell hS3.below).1 nb _ hnb).trans d1
 have n2 := ((bcell hS3.below).1 nb _ hnb).trans d2
 have n3 := ((bcell hS3.below).1 nb _ hnb).trans d3
 have n4 := ((bcell hS3.below).1 nb _ hnb).trans d4
 have n5 := ((bcell hS3.below).1 nb _ hnb).trans d5
 have ln := Nat.lt_of_lt_of_le hnb hS3.below.size
 obtain ⟨ck, fk, lgk⟩ := hS3.at_ (i := 4) (by omega) hlt (gi := g4) rfl
 obtain ⟨cd, fd, lgd⟩ := hS3.at_ (i := 3) (by omega) hlt (gi := g3) rfl
 rw [upd_other _ _ (by decide), ← Hdk.out] at cd
 go_upto_region 67 with fail
 cases dk
 case false => (
 refine wp_region_held_drew (S := fun w' => (w'.cell? ⟨w.heap.size, 1, none⟩ = some (.slice (some ⟨nb, no, none⟩) l.length cap) ∧ w'.cell? ⟨w.heap.size + 1, 0, none⟩ = some (.int .i64 t.op) ∧ w'.cell? ⟨w.heap.size + 1, 1, none⟩ = some (.int .i64 t.a) ∧ w'.cell? ⟨w.heap.size + 1, 2, none⟩ = some (.int .i64 t.b) ∧ w'.cell? ⟨nb, no + k * 6, none⟩ = some (.int .i64 n.op) ∧ w'.cell? ⟨nb, no + k * 6 + 1, none⟩ = some (.int .i64 n.d) ∧ w'.cell? ⟨nb, no + k * 6 + 2, none⟩ = some (.int .i64 n.a) ∧ w'.cell? ⟨nb, no + k * 6 + 3, none⟩ = some (.int .i64 n.b) ∧ w'.cell? ⟨nb, no + k * 6 + 4, none⟩ = some (.int .i64 n.t) ∧ w'.cell? ⟨nb, no + k * 6 + 5, none⟩ = some (.int .i64 n.e))) (by kernel_rfl) ?_ ?_
 · exact ⟨p1, t0, t1, t2, n0, n1, n2, n3, n4, n5⟩
 intro hH
 refine Up (fun _ _ _ _ _ => id) fun hP => ?_
 refine Vi 0 ?_ rfl (by kernel_rfl) hP (by rfl) ?r hH ?_; case r => intro w' h; (try dsimp only at h); go_simp; try with_reducible rfl
 try simp only [Nm]
 refine Vi 1 ?_ rfl (by kernel_rfl) hP (by rfl) ?r hH ?_; case r => intro w' h; (try dsimp only at h); go_simp; try with_reducible rfl
 try simp only [Nm]
 refine Vi 2 ?_ rfl (by kernel_rfl) hP (by rfl) ?r hH ?_; case r => intro w' h; (try dsimp only at h); go_simp; try with_reducible rfl
 try simp only [Nm]
 refine Vi 3 ?_ rfl (by kernel_rfl) hP (by rfl) ?r hH ?_; case r => intro w' h; (try dsimp only at h); go_simp; try with_reducible rfl
 try simp only [Nm]
 refine Vi 4 ?_ rfl (by kernel_rfl) hP (by rfl) ?r hH ?_; case r => intro w' h; (try dsimp only at h); go_simp; try with_reducible rfl
 try simp only [Nm]
 refine Rd 5 (by kernel_rfl) rfl (fun K hK => ?_)
 have HK5 := hide hK
 clear hK
 go_simp
 refine Shut.out HK5.out _ _ hH (fun _ => ?_)
 try simp only [Nm]
 refine Vi 6 ?_ rfl (by kernel_rfl) hP (by rfl) ?r hH ?_; case r => intro w' h; (try dsimp only at h); go_simp; try with_reducible rfl
 try simp only [Nm]
 refine Vn 7 rfl (by kernel_rfl) hP (by rfl) hH ?_
 try simp only [Nm]
 refine Vn 8 rfl (by kernel_rfl) hP (by rfl) hH ?_
 try simp only [Nm]
 refine Vn 9 rfl (by kernel_rfl) hP (by rfl) hH ?_
 try simp only [Nm]
 refine Vn 10 rfl (by kernel_rfl) hP (by rfl) hH ?_
 try simp only [Nm]
 refine Vn 11 rfl (by kernel_rfl) hP (by rfl) hH ?_
 try simp only [Nm]
 refine Vn 12 rfl (by kernel_rfl) hP (by rfl) hH ?_
 try simp only [Nm]
 refine Vn 13 rfl (by kernel_rfl) hP (by rfl) hH ?_
 try simp only [Nm]
 refine Vn 14 rfl (by kernel_rfl) hP (by rfl) hH ?_
 try simp only [Nm]
 refine Vn 15 rfl (by kernel_rfl) hP (by rfl) hH ?_
 try simp only [Nm]
 refine Vn 16 rfl (by kernel_rfl) hP (by rfl) hH ?_
 try simp only [Nm]
 refine Vi 17 ?_ rfl (by kernel_rfl) hP (by rfl) ?r hH ?_; case r => intro w' h; (try dsimp only at h); go_simp; try with_reducible rfl
 try simp only [Nm]
 refine Vi 18 ?_ rfl (by kernel_rfl) hP (by rfl) ?r hH ?_; case r => intro w' h; (try dsimp only at h); go_simp; try with_reducible rfl
 try simp only [Nm]
 refine Rd 19 (by kernel_rfl) rfl (fun K hK => ?_)
 have HK19 := hide hK
 clear hK
 go_simp
 refine Shut.out HK19.out _ _ ?_ (fun _ => ?_)
 · refine ⟨?_, ?_, ?_, ?_, ?_, ?_, ?_, ?_, ?_, ?_⟩ <;> first | assumption | go_keep
 try simp only [Nm]
 refine wpAnyH_done (by kernel_rfl) ?_ _
 clear hH HK5 HK19 p1 t0 t1 t2 n0 n1 n2 n3 n4 n5 ln lp lt' ck fk lgk cd fd lgd
 go_wp2_with fail
 go_roundg (l.length - (k + 1))
 case measure => have := Hgk.out; omega
 case rel => (
 have h := ((hS3).later ((Below.refl _ _).drew)).set (i := 4) (by omega) k bb
 rw [upd_same, upd_upd] at h
 have hv : bb = false := by rw [Hbb.out]; rfl
 refine ⟨k + 1, y.set k bb, by omega, by go_num, rfl, by rw [List.length_set]; exact hyl, fun i hi => (by rw [yn_set _ _ _ _ (by rw [hyl]; exact hlt)]; (by_cases h : i = k); (rw [if_pos h, h]; exact HbY.out); (rw [if_neg h]; exact HyY.out i (by omega))), ?_⟩
 rw [hv] at h ⊢
 exact h))
 case true => (
 cases h2 : recB t n
 case true => (
 refine wp_region_held_drew (S := fun w' => (w'.cell? ⟨w.heap.size, 1, none⟩ = some (.slice (some ⟨nb, no, none⟩) l.length cap) ∧ w'.cell? ⟨w.heap.size + 1, 0, none⟩ = some (.int .i64 t.op) ∧ w'.cell? ⟨w.heap.size + 1, 1, none⟩ = some (.int .i64 t.a) ∧ w'.cell? ⟨w.heap.size + 1, 2, none⟩ = some (.int .i64 t.b) ∧ w'.cell? ⟨nb, no + k * 6, none⟩ = some (.int .i64 n.op) ∧ w'.cell? ⟨nb, no + k * 6 + 1, none⟩ = some (.int .i64 n.d) ∧ w'.cell? ⟨nb, no + k * 6 + 2, none⟩ = some (.int .i64 n.a) ∧ w'.cell? ⟨nb, no + k * 6 + 3, none⟩ = some (.int .i64 n.b) ∧ w'.cell? ⟨nb, no + k * 6 + 4, none⟩ = some (.int .i64 n.t) ∧ w'.cell? ⟨nb, no + k * 6 + 5, none⟩ = some (.int .i64 n.e))) (by kernel_rfl) ?_ ?_
 · exact ⟨p1, t0, t1, t2, n0, n1, n2, n3, n4, n5⟩
 intro hH
 refine Up (fun _ _ _ _ _ => id) fun hP => ?_
 refine Vi 0 ?_ rfl (by kernel_rfl) hP (by rfl) ?r hH ?_; case r => intro w' h; (try dsimp only at h); go_simp; try with_reducible rfl
 try simp only [Nm]
 refine Vi 1 ?_ rfl (by kernel_rfl) hP (by rfl) ?r hH ?_; case r => intro w' h; (try dsimp only at h); go_simp; try with_reducible rfl
 try simp only [Nm]
 refine Vi 2 ?_ rfl (by kernel_rfl) hP (by rfl) ?r hH ?_; case r => intro w' h; (try dsimp only at h); go_simp; try with_reducible rfl
 try simp only [Nm]
 refine Vi 3 ?_ rfl (by kernel_rfl) hP (by rfl) ?r hH ?_; case r => intro w' h; (try dsimp only at h); go_simp; try with_reducible rfl
 try simp only [Nm]
 refine Vi 4 ?_ rfl (by kernel_rfl) hP (by rfl) ?r hH ?_; case r => intro w' h; (try dsimp only at h); go_simp; try with_reducible rfl
 try simp only [Nm]
 refine Rd 5 (by kernel_rfl) rfl (fun K hK => ?_)
 have HK5 := hide hK
 clear hK
 go_simp
 refine Shut.out HK5.out _ _ hH (fun _ => ?_)
 try simp only [Nm]
 refine Vi 6 ?_ rfl (by kernel_rfl) hP (by rfl) ?r hH ?_; case r => intro w' h; (try dsimp only at h); go_simp; try with_reducible rfl
 try simp only [Nm]
 refine Vi 7 ?_ rfl (by kernel_rfl) hP (by rfl) ?r hH ?_; case r => intro w' h; (try dsimp only at h); go_simp; try with_reducible rfl
 try simp only [Nm]
 refine Vi 8 ?_ rfl (by kernel_rfl) hP (by rfl) ?r hH ?_; case r => intro w' h; (try dsimp only at h); go_simp; try with_reducible rfl
 try simp only [Nm]
 refine Vi 9 ?_ rfl (by kernel_rfl) hP (by rfl) ?r hH ?_; case r => intro w' h; (try dsimp only at h); go_simp; try with_reducible rfl
 try simp only [Nm]
 refine Vi 10 ?_ rfl (by kernel_rfl) hP (by rfl) ?r hH ?_; case r => intro w' h; (try dsimp only at h); go_simp; try with_reducible rfl
 try simp only [Nm]
 refine Vi 11 ?_ rfl (by kernel_rfl) hP (by rfl) ?r hH ?_; case r => intro w' h; (try dsimp only at h); go_simp; try with_reducible rfl
 try simp only [Nm]
 refine Vi 12 ?_ rfl (by kernel_rfl) hP (by rfl) ?r hH ?_; case r => intro w' h; (try dsimp only at h); go_simp; try with_reducible rfl
 try simp only [Nm]
 refine Rd 13 (by kernel_rfl) rfl (fun K hK => ?_)
 have HK13 := hide hK
 clear hK
 go_simp
 go_at_call 35
 refine (reckonsIt_any n t _).mono ?_
 rw [h2]
 rintro e w6 ⟨rfl, hbw6⟩
 have hS6 := ((hS3).later ((Below.refl _ _).drew)).later hbw6
 clear p1 t0 t1 t2 n0 n1 n2 n3 n4 n5 ln lp lt' ck fk lgk cd fd lgd hH
 have p1 := hS6.p.cell 1
 have t0 := hS6.t.cell 0
 have t1 := hS6.t.cell 1
 have t2 := hS6.t.cell 2
 have lp := hS6.p.lt
 have lt' := hS6.t.lt
 simp only [Yl] at p1 t0 t1 t2
 have n0 := ((bcell hS6.below).1 nb _ hnb).trans d0
 have n1 := ((bcell hS6.below).1 nb _ hnb).trans d1
 have n2 := ((bcell hS6.below).1 nb _ hnb).trans d2
 have n3 := ((bcell hS6.below).1 nb _ hnb).trans d3
 have n4 := ((bcell hS6.below).1 nb _ hnb).trans d4
 have n5 := ((bcell hS6.below).1 nb _ hnb).trans d5
 have ln := Nat.lt_of_lt_of_le hnb hS6.below.size
 obtain ⟨ck, fk, lgk⟩ := hS6.at_ (i := 4) (by omega) hlt (gi := g4) rfl
 obtain ⟨cd, fd, lgd⟩ := hS6.at_ (i := 3) (by omega) hlt (gi := g3) rfl
 rw [upd_other _ _ (by decide), ← Hdk.out] at cd
 refine Shut.out HK13.out _ _ ⟨p1, t0, t1, t2, n0, n1, n2, n3, n4, n5⟩ (fun hH => ?_)
 try simp only [Nm]
 refine Vi 14 ?_ rfl (by kernel_rfl) hP (by rfl) ?r hH ?_; case r => intro w' h; (try dsimp only at h); go_simp; try with_reducible rfl
 try simp only [Nm]
 refine Vn 15 rfl (by kernel_rfl) hP (by rfl) hH ?_
 try simp only [Nm]
 refine Vi 16 ?_ rfl (by kernel_rfl) hP (by rfl) ?r hH ?_; case r => intro w' h; (try dsimp only at h); go_simp; try with_reducible rfl
 try simp only [Nm]
 refine Vi 17 ?_ rfl (by kernel_rfl) hP (by rfl) ?r hH ?_; case r => intro w' h; (try dsimp only at h); go_simp; try with_reducible rfl
 try simp only [Nm]
 refine Vi 18 ?_ rfl (by kernel_rfl) hP (by rfl) ?r hH ?_; case r => intro w' h; (try dsimp only at h); go_simp; try with_reducible rfl
 try simp only [Nm]
 refine Rd 19 (by kernel_rfl) rfl (fun K hK => ?_)
 have HK19 := hide hK
 clear hK
 go_simp
 refine Shut.out HK19.out _ _ ?_ (fun _ => ?_)
 · refine ⟨?_, ?_, ?_, ?_, ?_, ?_, ?_, ?_, ?_, ?_⟩ <;> first | assumption | go_keep
 try simp only [Nm]
 refine wpAnyH_done (by kernel_rfl) ?_ _
 clear hH HK5 HK13 HK19 p1 t0 t1 t2 n0 n1 n2 n3 n4 n5 ln lp lt' ck fk lgk cd fd lgd
 go_wp2_with fail
 go_roundg (l.length - (k + 1))
 case measure => have := Hgk.out; omega
 case rel => (
 have h := (hS6).set (i := 4) (by omega) k bb
 rw [upd_same, upd_upd] at h
 have hv : bb = true := by rw [Hbb.out, h2]; rfl
 refine ⟨k + 1, y.set k bb, by omega, by go_num, rfl, by rw [List.length_set]; exact hyl, fun i hi => (by rw [yn_set _ _ _ _ (by rw [hyl]; exact hlt)]; (by_cases h : i = k); (rw [if_pos h, h]; exact HbY.out); (rw [if_neg h]; exact HyY.out i (by omega))), ?_⟩
 rw [hv] at h ⊢
 exact h))
 case false => (
 refine wp_region_held_drew (S := fun w' => (w'.cell? ⟨w.heap.size, 1, none⟩ = some (.slice (some ⟨nb, no, none⟩) l.length cap) ∧ w'.cell? ⟨w.heap.size + 1, 0, none⟩ = some (.int .i64 t.op) ∧ w'.cell? ⟨w.heap.size + 1, 1, none⟩ = some (.int .i64 t.a) ∧ w'.cell? ⟨w.heap.size + 1, 2, none⟩ = some (.int .i64 t.b) ∧ w'.cell? ⟨nb, no + k * 6, none⟩ = some (.int .i64 n.op) ∧ w'.cell? ⟨nb, no + k * 6 + 1, none⟩ = some (.int .i64 n.d) ∧ w'.cell? ⟨nb, no + k * 6 + 2, none⟩ = some (.int .i64 n.a) ∧ w'.cell? ⟨nb, no + k * 6 + 3, none⟩ = some (.int .i64 n.b) ∧ w'.cell? ⟨nb, no + k * 6 + 4, none⟩ = some (.int .i64 n.t) ∧ w'.cell? ⟨nb, no + k * 6 + 5, none⟩ = some (.int .i64 n.e))) (by kernel_rfl) ?_ ?_
 · exact ⟨p1, t0, t1, t2, n0, n1, n2, n3, n4, n5⟩
 intro hH
 refine Up (fun _ _ _ _ _ => id) fun hP => ?_
 refine Vi 0 ?_ rfl (by kernel_rfl) hP (by rfl) ?r hH ?_; case r => intro w' h; (try dsimp only at h); go_simp; try with_reducible rfl
 try simp only [Nm]
 refine Vi 1 ?_ rfl (by kernel_rfl) hP (by rfl) ?r hH ?_; case r => intro w' h; (try dsimp only at h); go_simp; try with_reducible rfl
 try simp only [Nm]
 refine Vi 2 ?_ rfl (by kernel_rfl) hP (by rfl) ?r hH ?_; case r => intro w' h; (try dsimp only at h); go_simp; try with_reducible rfl
 try simp only [Nm]
 refine Vi 3 ?_ rfl (by kernel_rfl) hP (by rfl) ?r hH ?_; case r => intro w' h; (try dsimp only at h); go_simp; try with_reducible rfl
 try simp only [Nm]
 refine Vi 4 ?_ rfl (by kernel_rfl) hP (by rfl) ?r hH ?_; case r => intro w' h; (try dsimp only at h); go_simp; try with_reducible rfl
 try simp only [Nm]
 refine Rd 5 (by kernel_rfl) rfl (fun K hK => ?_)
 have HK5 := hide hK
 clear hK
 go_simp
 refine Shut.out HK5.out _ _ hH (fun _ => ?_)
 try simp only [Nm]
 refine Vi 6 ?_ rfl (by kernel_rfl) hP (by rfl) ?r hH ?_; case r => intro w' h; (try dsimp only at h); go_simp; try with_reducible rfl
 try simp only [Nm]
 refine Vi 7 ?_ rfl (by kernel_rfl) hP (by rfl) ?r hH ?_; case r => intro w' h; (try dsimp only at h); go_simp; try with_reducible rfl
 try simp only [Nm]
 refine Vi 8 ?_ rfl (by kernel_rfl) hP (by rfl) ?r hH ?_; case r => intro w' h; (try dsimp only at h); go_simp; try with_reducible rfl
 try simp only [Nm]
 refine Vi 9 ?_ rfl (by kernel_rfl) hP (by rfl) ?r hH ?_; case r => intro w' h; (try dsimp only at h); go_simp; try with_reducible rfl
 try simp only [Nm]
 refine Vi 10 ?_ rfl (by kernel_rfl) hP (by rfl) ?r hH ?_; case r => intro w' h; (try dsimp only at h); go_simp; try with_reducible rfl
 try simp only [Nm]
 refine Vi 11 ?_ rfl (by kernel_rfl) hP (by rfl) ?r hH ?_; case r => intro w' h; (try dsimp only at h); go_simp; try with_reducible rfl
 try simp only [Nm]
 refine Vi 12 ?_ rfl (by kernel_rfl) hP (by rfl) ?r hH ?_; case r => intro w' h; (try dsimp only at h); go_simp; try with_reducible rfl
 try simp only [Nm]
 refine Rd 13 (by kernel_rfl) rfl (fun K hK => ?_)
 have HK13 := hide hK
 clear hK
 go_simp
 go_at_call 35
 refine (reckonsIt_any n t _).mono ?_
 rw [h2]
 rintro e w6 ⟨rfl, hbw6⟩
 have hS6 := ((hS3).later ((Below.refl _ _).drew)).later hbw6
 clear p1 t0 t1 t2 n0 n1 n2 n3 n4 n5 ln lp lt' ck fk lgk cd fd lgd hH
 have p1 := hS6.p.cell 1
 have t0 := hS6.t.cell 0
 have t1 := hS6.t.cell 1
 have t2 := hS6.t.cell 2
 have lp := hS6.p.lt
 have lt' := hS6.t.lt
 simp only [Yl] at p1 t0 t1 t2
 have n0 := ((bcell hS6.below).1 nb _ hnb).trans d0
 have n1 := ((bcell hS6.below).1 nb _ hnb).trans d1
 have n2 := ((bcell hS6.below).1 nb _ hnb).trans d2
 have n3 := ((bcell hS6.below).1 nb _ hnb).trans d3
 have n4 := ((bcell hS6.below).1 nb _ hnb).trans d4
 have n5 := ((bcell hS6.below).1 nb _ hnb).trans d5
 have ln := Nat.lt_of_lt_of_le hnb hS6.below.size
 obtain ⟨ck, fk, lgk⟩ := hS6.at_ (i := 4) (by omega) hlt (gi := g4) rfl
 obtain ⟨cd, fd, lgd⟩ := hS6.at_ (i := 3) (by omega) hlt (gi := g3) rfl
 rw [upd_other _ _ (by decide), ← Hdk.out] at cd
 refine Shut.out HK13.out _ _ ⟨p1, t0, t1, t2, n0, n1, n2, n3, n4, n5⟩ (fun hH => ?_)
 try simp only [Nm]
 refine Vi 14 ?_ rfl (by kernel_rfl) hP (by rfl) ?r hH ?_; case r => intro w' h; (try dsimp only at h); go_simp; try with_reducible rfl
 try simp only [Nm]
 refine Vi 15 ?_ rfl (by kernel_rfl) hP (by rfl) ?r hH ?_; case r => intro w' h; (try dsimp only at h); go_simp; try with_reducible rfl
 try simp only [Nm]
 refine Vi 16 ?_ rfl (by kernel_rfl) hP (by rfl) ?r hH ?_; case r => intro w' h; (try dsimp only at h); go_simp; try with_reducible rfl
 try simp only [Nm]
 refine Vi 17 ?_ rfl (by kernel_rfl) hP (by rfl) ?r hH ?_; case r => intro w' h; (try dsimp only at h); go_simp; try with_reducible rfl
 try simp only [Nm]
 refine Vi 18 ?_ rfl (by kernel_rfl) hP (by rfl) ?r hH ?_; case r => intro w' h; (try dsimp only at h); go_simp; try with_reducible rfl
 try simp only [Nm]
 refine Rd 19 (by kernel_rfl) rfl (fun K hK => ?_)
 have HK19 := hide hK
 clear hK
 go_simp
 refine Shut.out HK19.out _ _ ?_ (fun _ => ?_)
 · refine ⟨?_, ?_, ?_, ?_, ?_, ?_, ?_, ?_, ?_, ?_⟩ <;> first | assumption | go_keep
 try simp only [Nm]
 refine wpAnyH_done (by kernel_rfl) ?_ _
 clear hH HK5 HK13 HK19 p1 t0 t1 t2 n0 n1 n2 n3 n4 n5 ln lp lt' ck fk lgk cd fd lgd
 go_wp2_with fail
 go_roundg (l.length - (k + 1))
 case measure => have := Hgk.out; omega
 case rel => (
 have h := (hS6).set (i := 4) (by omega) k bb
 rw [upd_same, upd_upd] at h
 have hv : bb = a0 := by rw [Hbb.out, h2]; rfl
 refine ⟨k + 1, y.set k bb, by omega, by go_num, rfl, by rw [List.length_set]; exact hyl, fun i hi => (by rw [yn_set _ _ _ _ (by rw [hyl]; exact hlt)]; (by_cases h : i = k); (rw [if_pos h, h]; exact HbY.out); (rw [if_neg h]; exact HyY.out i (by omega))), ?_⟩
 rw [hv] at h ⊢
 exact h))))))
 · (
 have hkk : k = l.length := by omega
 have he : y = Y := ext_yn (by rw [hyl, hYl]) fun i hi => HyY.out i (by omega)
 have He := hide he
 have HS1 := hide hS1
 clear hS1 he hkk
 go_wp2_with fail
 refine ⟨rfl, ?_⟩
 refine HX.out _ _ y ?_ ?_ ?_ HS1.out
 · rfl
 · kernel_rfl
 · rw [← HY.out]; exact He.out)))
end
end Go.Proofs.YtmghkonmfbpjcabGreat
