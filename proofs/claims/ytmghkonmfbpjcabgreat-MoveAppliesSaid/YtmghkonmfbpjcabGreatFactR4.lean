/- FactR4. -/
import Derived.Test.YtmghkonmfbpjcabGreatFactR1
import Derived.Test.YtmghkonmfbpjcabGreatGE
import Derived.Test.YtmghkonmfbpjcabGreatGA
set_option linter.unusedVariables false
set_option linter.unusedSimpArgs false
namespace Go.Proofs.YtmghkonmfbpjcabGreat
section
open Go.RowKit
set_option maxHeartbeats 8000000
attribute [local irreducible] Row madeCells
attribute [local go_sem] no_yes
set_option maxRecDepth 1000000 in
theorem rloop3 (regs : Int) (A : Option Addr) (l : List Nd) (cap : Nat) (t : Tm) (w : World) (hA : NodesAt w A l) (hR : Right regs l) (g0 g1 g2 g3 g4 g5 : Nat) (nx ax : Value) (x : Nat → List Bool) (a : Act) (W : World) (Rx : Act → World → Prop)
 (hd : a.defers = []) (ha : a.tmps = rfr regs A l cap t w.heap.size g0 g1 g2 g3 g4 g5 nx ax (lets a.tmps)) (hi : lets a.tmps 25 = .int .i64 0)
 (hS : RS regs A l cap t w g0 g1 g2 g3 g4 g5 nx ax l.length l.length x W)
 (hexit : ∀ (a' : Act) (W' : World) (y : List Bool), a'.defers = [] → a'.tmps = rfr regs A l cap t w.heap.size g0 g1 g2 g3 g4 g5 nx ax (lets a'.tmps) → y = earlyL t l (x 0) (x 1) → RS regs A l cap t w g0 g1 g2 g3 g4 g5 nx ax l.length l.length (upd x 2 y) W' → Rx a' W') :
 Code.wp Tryz.prog (Code.loop (rloop 3)) (onlyExit 14 Rx) a W := by (
 conv => arg 2; arg 1; whnf
 obtain ⟨tm, df⟩ := a
 simp only at hd ha hi
 subst hd
 generalize lets tm = u at ha hi
 subst ha
 dsimp only [rfr]
 rw [hi]
 have hlo := hR.lo
 have hhi := hR.hi
 have HX := hide hexit
 obtain ⟨Y, hY⟩ : ∃ Y, Y = earlyL t l (x 0) (x 1) := ⟨_, rfl⟩
 have hYl : Y.length = l.length := by rw [hY]; exact mk_len _ _
 have HY := hide hY
 have hst : ∃ y, y.length = l.length ∧ (∀ i, i < 0 → yn y i = yn Y i) ∧ RS regs A l cap t w g0 g1 g2 g3 g4 g5 nx ax l.length l.length (upd x 2 y) W := ⟨x 2, (hS.rows 2 (by omega)).2, fun i hi => by omega, by rw [upd_self]; exact hS⟩
 have Hst := hide hst
 obtain ⟨vn, e1, e2, e3⟩ := hS.ahd
 obtain ⟨gn, on, cn, _, hnx, _, _, _, _, _⟩ := e2.get (k := 0) (by omega)
 rw [e1] at hnx
 subst hnx
 clear hi hexit hY hst hS e1 e2 e3
 go_loopg [25] (l.length) (fun gk i wr => ∃ (k : Nat) (y : List Bool), k ≤ l.length ∧ i = .int .i64 k ∧ gk = l.length - k ∧ y.length = l.length ∧ (∀ i, i < k → yn y i = yn Y i) ∧ RS regs A l cap t w g0 g1 g2 g3 g4 g5 nx (.slice (some ⟨gn, on, none⟩) l.length cn) l.length l.length (upd x 2 y) wr)
 case atStart => obtain ⟨y, h1, h2, h3⟩ := Hst.out; exact ⟨0, y, Nat.zero_le _, rfl, rfl, h1, h2, h3⟩
 case round => (
 obtain ⟨k, y, hk, rfl, hgk, hyl, hyY, hS1⟩ := hrel
 have Hgk := hide hgk
 have HyY := hide hyY
 clear hgk Hst hyY
 have s0 := hS1.s.cell 0
 have ls := hS1.s.lt
 simp only [List.getElem?_toArray, List.getElem?_cons_zero] at s0
 by_cases hlt : k < l.length
 · (
 obtain ⟨vn, e1, e2, e3⟩ := hS1.ahd
 obtain ⟨gn', on', cn', z, hnx, _, hgl, hz, hcz, _⟩ := e2.get (k := k) (by omega)
 obtain ⟨ea, eb⟩ : gn = gn' ∧ on = on' := by (
 injection hnx with hnx _ _
 injection hnx with hnx
 injection hnx with ea eb _
 exact ⟨ea, eb⟩)
 subst ea eb
 clear hnx
 obtain ⟨R, rc, ez, hrow⟩ := e3 k hlt
 rw [hz] at ez
 injection ez with ez
 subst ez
 have u0 : (0 : Int) ≤ (k : Int) := by omega
 have u1 : (k : Int) < (l.length : Int) := by omega
 have hel : (edgesOf false l k).length ≤ l.length := edges_le _ _ _
 have hS2 := hS1
 clear hz e1 e2 e3 hS1
 obtain ⟨es, hes⟩ : ∃ es, es = edgesOf false l k := ⟨_, rfl⟩
 rw [← hes] at hrow hcz hel
 have Hes := hide hes
 clear hes
 have Hrow := hide hrow
 have HS2 := hide hS2
 clear hS2 hrow
 go_wp2_with fail
 obtain ⟨wi, rfl⟩ : ∃ wi : World, wi = wr := ⟨_, rfl⟩
 go_loopg [27, 28] (es.length) (fun gk s27 i wr => ∃ j : Nat, j ≤ es.length ∧ i = .int .i64 j ∧ gk = es.length - j ∧ s27 = .bool (earlyA t l (x 0) (x 1) k j) ∧ RS regs A l cap t w g0 g1 g2 g3 g4 g5 nx (.slice (some ⟨gn, on, none⟩) l.length cn) l.length l.length (upd x 2 y) wr ∧ Row wr w.heap.size 3 (.slice R es.length rc) (ints es))
 case atStart => exact ⟨0, Nat.zero_le _, rfl, rfl, by (rw [earlyA_zero, ← Hes.out]; congr 1; rw [Bool.eq_iff_iff]; simp), HS2.out, Hrow.out⟩
 case round => (
 clear HS2 Hrow hcz s0 ls
 obtain ⟨j, hj, rfl, hgk3, rfl, hS3, hE3⟩ := hrel
 have Hgk3 := hide hgk3
 clear hgk3
 obtain ⟨a0, ha0⟩ : ∃ a, a = earlyA t l (x 0) (x 1) k j := ⟨_, rfl⟩
 rw [← ha0]
 by_cases hjl : j < es.length
 · (
 obtain ⟨mm, n, hjm, hmm, hnm⟩ := edge_in (bk := false) (l := l) (k := k) (j := j) (by rw [← Hes.out]; exact hjl)
 have hstA := earlyA_step (t := t) (d := x 0) (u := x 1) hjm hnm
 rw [← ha0] at hstA
 rw [← Hes.out] at hjm
 obtain ⟨rb, ro, rfl, lr, es0⟩ := hE3.int_at_ hjm
 obtain ⟨nb, no, n', rfl, hnb, hn', hnl⟩ := hA.get hmm
 obtain rfl : n = n' := by rw [hnm] at hn'; injection hn'
 obtain ⟨d0, d1, d2, d3, d4, d5⟩ := hnl
 have v0 : (0 : Int) ≤ (j : Int) := by omega
 have v1 : (j : Int) < (es.length : Int) := by omega
 have m0 : (0 : Int) ≤ (mm : Int) := by omega
 have m1 : (mm : Int) < (l.length : Int) := by omega
 obtain ⟨vd, hvd⟩ : ∃ b, b = yn (x 0) mm := ⟨_, rfl⟩
 obtain ⟨vu, hvu⟩ : ∃ b, b = yn (x 1) mm := ⟨_, rfl⟩
 rw [← hvd, ← hvu] at hstA
 have Hb := hide hstA
 have Hvd := hide hvd
 have Hvu := hide hvu
 clear hstA hvd hvu ha0 hn' hnm
 clear es0 lr
 have p1 := hS3.p.cell 1
 have t0 := hS3.t.cell 0
 have t1 := hS3.t.cell 1
 have t2 := hS3.t.cell 2
 have lp := hS3.p.lt
 have lt' := hS3.t.lt
 simp only [Yl] at p1 t0 t1 t2
 have n0 := ((bcell hS3.below).1 nb _ hnb).trans d0
 have n1 := ((bcell hS3.below).1 nb _ hnb).trans d1
 have n2 := ((bcell hS3.below).1 nb _ hnb).trans d2
 have n3 := ((bcell hS3.below).1 nb _ hnb).trans d3
 have n4 := ((bcell hS3.below).1 nb _ hnb).trans d4
 have n5 := ((bcell hS3.below).1 nb _ hnb).trans d5
 have ln := Nat.lt_of_lt_of_le hnb hS3.below.size
 obtain ⟨cd, fd, lgd⟩ := hS3.at_ (i := 0) (by omega) hmm (gi := g0) rfl
 rw [upd_other _ _ (by decide), ← Hvd.out] at cd
 obtain ⟨cu, fu, lgu⟩ := hS3.at_ (i := 1) (by omega) hmm (gi := g1) rfl
 rw [upd_other _ _ (by decide), ← Hvu.out] at cu
 have es0 := hE3.cell_at hjm
 have lr := rowlt hE3
 go_upto_region 43 with fail
 cases a0
 case true => (
 refine wp_region_held_drew (S := fun w' => (w'.cell? ⟨w.heap.size, 1, none⟩ = some (.slice (some ⟨nb, no, none⟩) l.length cap) ∧ w'.cell? ⟨w.heap.size + 1, 0, none⟩ = some (.int .i64 t.op) ∧ w'.cell? ⟨w.heap.size + 1, 1, none⟩ = some (.int .i64 t.a) ∧ w'.cell? ⟨w.heap.size + 1, 2, none⟩ = some (.int .i64 t.b) ∧ w'.cell? ⟨nb, no + mm * 6, none⟩ = some (.int .i64 n.op) ∧ w'.cell? ⟨nb, no + mm * 6 + 1, none⟩ = some (.int .i64 n.d) ∧ w'.cell? ⟨nb, no + mm * 6 + 2, none⟩ = some (.int .i64 n.a) ∧ w'.cell? ⟨nb, no + mm * 6 + 3, none⟩ = some (.int .i64 n.b) ∧ w'.cell? ⟨nb, no + mm * 6 + 4, none⟩ = some (.int .i64 n.t) ∧ w'.cell? ⟨nb, no + mm * 6 + 5, none⟩ = some (.int .i64 n.e) ∧ w'.cell? ⟨rb, ro + j, none⟩ = some (.int .i64 (mm : Int)))) (by kernel_rfl) ?_ ?_
 · exact ⟨p1, t0, t1, t2, n0, n1, n2, n3, n4, n5, es0⟩
 intro hH
 refine Up (fun _ _ _ _ _ => id) fun hP => ?_
 refine Vi 0 ?_ rfl (by kernel_rfl) hP (by rfl) ?r hH ?_; case r => intro w' h; (try dsimp only at h); go_simp; try with_reducible rfl
 try simp only [Nm]
 refine Vi 1 ?_ rfl (by kernel_rfl) hP (by rfl) ?r hH ?_; case r => intro w' h; (try dsimp only at h); go_simp; try with_reducible rfl
 try simp only [Nm]
 refine Vn 2 rfl (by kernel_rfl) hP (by rfl) hH ?_
 try simp only [Nm]
 refine Vn 3 rfl (by kernel_rfl) hP (by rfl) hH ?_
 try simp only [Nm]
 refine Vn 4 rfl (by kernel_rfl) hP (by rfl) hH ?_
 try simp only [Nm]
 refine Vn 5 rfl (by kernel_rfl) hP (by rfl) hH ?_
 try simp only [Nm]
 refine Vn 6 rfl (by kernel_rfl) hP (by rfl) hH ?_
 try simp only [Nm]
 refine Vn 7 rfl (by kernel_rfl) hP (by rfl) hH ?_
 try simp only [Nm]
 refine Vn 8 rfl (by kernel_rfl) hP (by rfl) hH ?_
 try simp only [Nm]
 refine Vn 9 rfl (by kernel_rfl) hP (by rfl) hH ?_
 try simp only [Nm]
 refine Vn 10 rfl (by kernel_rfl) hP (by rfl) hH ?_
 try simp only [Nm]
 refine Vn 11 rfl (by kernel_rfl) hP (by rfl) hH ?_
 try simp only [Nm]
 refine Vn 12 rfl (by kernel_rfl) hP (by rfl) hH ?_
 try simp only [Nm]
 refine Vi 13 ?_ rfl (by kernel_rfl) hP (by rfl) ?r hH ?_; case r => intro w' h; (try dsimp only at h); go_simp; try with_reducible rfl
 try simp only [Nm]
 refine Vi 14 ?_ rfl (by kernel_rfl) hP (by rfl) ?r hH ?_; case r => intro w' h; (try dsimp only at h); go_simp; try with_reducible rfl
 try simp only [Nm]
 refine Vn 15 rfl (by kernel_rfl) hP (by rfl) hH ?_
 try simp only [Nm]
 refine Vn 16 rfl (by kernel_rfl) hP (by rfl) hH ?_
 try simp only [Nm]
 refine Vn 17 rfl (by kernel_rfl) hP (by rfl) hH ?_
 try simp only [Nm]
 refine Vn 18 rfl (by kernel_rfl) hP (by rfl) hH ?_
 try simp only [Nm]
 refine Vn 19 rfl (by kernel_rfl) hP (by rfl) hH ?_
 try simp only [Nm]
 refine Vn 20 rfl (by kernel_rfl) hP (by rfl) hH ?_
 try simp only [Nm]
 refine Vn 21 rfl (by kernel_rfl) hP (by rfl) hH ?_
 try simp only [Nm]
 refine Vn 22 rfl (by kernel_rfl) hP (by rfl) hH ?_
 try simp only [Nm]
 refine Vn 23 rfl (by kernel_rfl) hP (by rfl) hH ?_
 try simp only [Nm]
 refine Vn 24 rfl (by kernel_rfl) hP (by rfl) hH ?_
 try simp only [Nm]
 refine Vn 25 rfl (by kernel_rfl) hP (by rfl) hH ?_
 try simp only [Nm]
 refine Vn 26 rfl (by kernel_rfl) hP (by rfl) hH ?_
 try simp only [Nm]
 refine Vn 27 rfl (by kernel_rfl) hP (by rfl) hH ?_
 try simp only [Nm]
 refine Vn 28 rfl (by kernel_rfl) hP (by rfl) hH ?_
 try simp only [Nm]
 refine Vn 29 rfl (by kernel_rfl) hP (by rfl) hH ?_
 try simp only [Nm]
 refine Vn 30 rfl (by kernel_rfl) hP (by rfl) hH ?_
 try simp only [Nm]
 refine Vn 31 rfl (by kernel_rfl) hP (by rfl) hH ?_
 try simp only [Nm]
 refine Vn 32 rfl (by kernel_rfl) hP (by rfl) hH ?_
 try simp only [Nm]
 refine Vi 33 ?_ rfl (by kernel_rfl) hP (by rfl) ?r hH ?_; case r => intro w' h; (try dsimp only at h); go_simp; try with_reducible rfl
 try simp only [Nm]
 refine Vi 34 ?_ rfl (by kernel_rfl) hP (by rfl) ?r hH ?_; case r => intro w' h; (try dsimp only at h); go_simp; try with_reducible rfl
 try simp only [Nm]
 refine wpAnyH_done (by kernel_rfl) ?_ _
 clear hH  p1 t0 t1 t2 n0 n1 n2 n3 n4 n5 ln lp lt' cd fd lgd cu fu lgu es0 lr
 have HSn := hide ((hS3).later ((Below.refl _ _).drew))
 have HEn := hide (hE3.drew)
 go_wp2_with fail
 go_roundg (es.length - (j + 1))
 case measure => have := Hgk3.out; omega
 case rel => exact ⟨j + 1, by omega, by go_num, rfl, by rw [Hb.out]; rfl, HSn.out, HEn.out⟩)
 case false => (
 cases h2 : keepB t n
 case false => (
 refine wp_region_held_drew (S := fun w' => (w'.cell? ⟨w.heap.size, 1, none⟩ = some (.slice (some ⟨nb, no, none⟩) l.length cap) ∧ w'.cell? ⟨w.heap.size + 1, 0, none⟩ = some (.int .i64 t.op) ∧ w'.cell? ⟨w.heap.size + 1, 1, none⟩ = some (.int .i64 t.a) ∧ w'.cell? ⟨w.heap.size + 1, 2, none⟩ = some (.int .i64 t.b) ∧ w'.cell? ⟨nb, no + mm * 6, none⟩ = some (.int .i64 n.op) ∧ w'.cell? ⟨nb, no + mm * 6 + 1, none⟩ = some (.int .i64 n.d) ∧ w'.cell? ⟨nb, no + mm * 6 + 2, none⟩ = some (.int .i64 n.a) ∧ w'.cell? ⟨nb, no + mm * 6 + 3, none⟩ = some (.int .i64 n.b) ∧ w'.cell? ⟨nb, no + mm * 6 + 4, none⟩ = some (.int .i64 n.t) ∧ w'.cell? ⟨nb, no + mm * 6 + 5, none⟩ = some (.int .i64 n.e) ∧ w'.cell? ⟨rb, ro + j, none⟩ = some (.int .i64 (mm : Int)))) (by kernel_rfl) ?_ ?_
 · exact ⟨p1, t0, t1, t2, n0, n1, n2, n3, n4, n5, es0⟩
 intro hH
 refine Up (fun _ _ _ _ _ => id) fun hP => ?_
 refine Vi 0 ?_ rfl (by kernel_rfl) hP (by rfl) ?r hH ?_; case r => intro w' h; (try dsimp only at h); go_simp; try with_reducible rfl
 try simp only [Nm]
 refine Vi 1 ?_ rfl (by kernel_rfl) hP (by rfl) ?r hH ?_; case r => intro w' h; (try dsimp only at h); go_simp; try with_reducible rfl
 try simp only [Nm]
 refine Vi 2 ?_ rfl (by kernel_rfl) hP (by rfl) ?r hH ?_; case r => intro w' h; (try dsimp only at h); go_simp; try with_reducible rfl
 try simp only [Nm]
 refine Vi 3 ?_ rfl (by kernel_rfl) hP (by rfl) ?r hH ?_; case r => intro w' h; (try dsimp only at h); go_simp; try with_reducible rfl
 try simp only [Nm]
 refine Vi 4 ?_ rfl (by kernel_rfl) hP (by rfl) ?r hH ?_; case r => intro w' h; (try dsimp only at h); go_simp; try with_reducible rfl
 try simp only [Nm]
 refine Vi 5 ?_ rfl (by kernel_rfl) hP (by rfl) ?r hH ?_; case r => intro w' h; (try dsimp only at h); go_simp; try with_reducible rfl
 try simp only [Nm]
 refine Vi 6 ?_ rfl (by kernel_rfl) hP (by rfl) ?r hH ?_; case r => intro w' h; (try dsimp only at h); go_simp; try with_reducible rfl
 try simp only [Nm]
 refine Vi 7 ?_ rfl (by kernel_rfl) hP (by rfl) ?r hH ?_; case r => intro w' h; (try dsimp only at h); go_simp; try with_reducible rfl
 try simp only [Nm]
 refine Vi 8 ?_ rfl (by kernel_rfl) hP (by rfl) ?r hH ?_; case r => intro w' h; (try dsimp only at h); go_simp; try with_reducible rfl
 try simp only [Nm]
 refine Vi 9 ?_ rfl (by kernel_rfl) hP (by rfl) ?r hH ?_; case r => intro w' h; (try dsimp only at h); go_simp; try with_reducible rfl
 try simp only [Nm]
 refine Vi 10 ?_ rfl (by kernel_rfl) hP (by rfl) ?r hH ?_; case r => intro w' h; (try dsimp only at h); go_simp; try with_reducible rfl
 try simp only [Nm]
 refine Rd 11 (by kernel_rfl) rfl (fun K hK => ?_)
 have HK11 := hide hK
 clear hK
 go_simp
 go_at_call 37
 refine (keepsIt_any n t _).mono ?_
 rw [h2]
 rintro e w6 ⟨rfl, hbw6⟩
 have hS6 := ((hS3).later ((Below.refl _ _).drew)).later hbw6
 have hE6 := hE3.drew.below' hbw6
 clear p1 t0 t1 t2 n0 n1 n2 n3 n4 n5 ln lp lt' cd fd lgd cu fu lgu es0 lr hH
 have p1 := hS6.p.cell 1
 have t0 := hS6.t.cell 0
 have t1 := hS6.t.cell 1
 have t2 := hS6.t.cell 2
 have lp := hS6.p.lt
 have lt' := hS6.t.lt
 simp only [Yl] at p1 t0 t1 t2
 have n0 := ((bcell hS6.below).1 nb _ hnb).trans d0
 have n1 := ((bcell hS6.below).1 nb _ hnb).trans d1
 have n2 := ((bcell hS6.below).1 nb _ hnb).trans d2
 have n3 := ((bcell hS6.below).1 nb _ hnb).trans d3
 have n4 := ((bcell hS6.below).1 nb _ hnb).trans d4
 have n5 := ((bcell hS6.below).1 nb _ hnb).trans d5
 have ln := Nat.lt_of_lt_of_le hnb hS6.below.size
 obtain ⟨cd, fd, lgd⟩ := hS6.at_ (i := 0) (by omega) hmm (gi := g0) rfl
 rw [upd_other _ _ (by decide), ← Hvd.out] at cd
 obtain ⟨cu, fu, lgu⟩ := hS6.at_ (i := 1) (by omega) hmm (gi := g1) rfl
 rw [upd_other _ _ (by decide), ← Hvu.out] at cu
 have es0 := hE6.cell_at hjm
 have lr := rowlt hE6
 refine Shut.out HK11.out _ _ ⟨p1, t0, t1, t2, n0, n1, n2, n3, n4, n5, es0⟩ (fun hH => ?_)
 try simp only [Nm]
 refine Vi 12 ?_ rfl (by kernel_rfl) hP (by rfl) ?r hH ?_; case r => intro w' h; (try dsimp only at h); go_simp; try with_reducible rfl
 try simp only [Nm]
 refine Vi 13 ?_ rfl (by kernel_rfl) hP (by rfl) ?r hH ?_; case r => intro w' h; (try dsimp only at h); go_simp; try with_reducible rfl
 try simp only [Nm]
 refine Vi 14 ?_ rfl (by kernel_rfl) hP (by rfl) ?r hH ?_; case r => intro w' h; (try dsimp only at h); go_simp; try with_reducible rfl
 try simp only [Nm]
 refine Vn 15 rfl (by kernel_rfl) hP (by rfl) hH ?_
 try simp only [Nm]
 refine Vn 16 rfl (by kernel_rfl) hP (by rfl) hH ?_
 try simp only [Nm]
 refine Vn 17 rfl (by kernel_rfl) hP (by rfl) hH ?_
 try simp only [Nm]
 refine Vn 18 rfl (by kernel_rfl) hP (by rfl) hH ?_
 try simp only [Nm]
 refine Vn 19 rfl (by kernel_rfl) hP (by rfl) hH ?_
 try simp only [Nm]
 refine Vn 20 rfl (by kernel_rfl) hP (by rfl) hH ?_
 try simp only [Nm]
 refine Vn 21 rfl (by kernel_rfl) hP (by rfl) hH ?_
 try simp only [Nm]
 refine Vn 22 rfl (by kernel_rfl) hP (by rfl) hH ?_
 try simp only [Nm]
 refine Vn 23 rfl (by kernel_rfl) hP (by rfl) hH ?_
 try simp only [Nm]
 refine Vn 24 rfl (by kernel_rfl) hP (by rfl) hH ?_
 try simp only [Nm]
 refine Vn 25 rfl (by kernel_rfl) hP (by rfl) hH ?_
 try simp only [Nm]
 refine Vn 26 rfl (by kernel_rfl) hP (by rfl) hH ?_
 try simp only [Nm]
 refine Vn 27 rfl (by kernel_rfl) hP (by rfl) hH ?_
 try simp only [Nm]
 refine Vn 28 rfl (by kernel_rfl) hP (by rfl) hH ?_
 try simp only [Nm]
 refine Vn 29 rfl (by kernel_rfl) hP (by rfl) hH ?_
 try simp only [Nm]
 refine Vn 30 rfl (by kernel_rfl) hP (by rfl) hH ?_
 try simp only [Nm]
 refine Vn 31 rfl (by kernel_rfl) hP (by rfl) hH ?_
 try simp only [Nm]
 refine Vn 32 rfl (by kernel_rfl) hP (by rfl) hH ?_
 try simp only [Nm]
 refine Vi 33 ?_ rfl (by kernel_rfl) hP (by rfl) ?r hH ?_; case r => intro w' h; (try dsimp only at h); go_simp; try with_reducible rfl
 try simp only [Nm]
 refine Vi 34 ?_ rfl (by kernel_rfl) hP (by rfl) ?r hH ?_; case r => intro w' h; (try dsimp only at h); go_simp; try with_reducible rfl
 try simp only [Nm]
 refine wpAnyH_done (by kernel_rfl) ?_ _
 clear hH HK11 p1 t0 t1 t2 n0 n1 n2 n3 n4 n5 ln lp lt' cd fd lgd cu fu lgu es0 lr
 have HSn := hide (hS6)
 have HEn := hide (hE6)
 go_wp2_with fail
 go_roundg (es.length - (j + 1))
 case measure => have := Hgk3.out; omega
 case rel => exact ⟨j + 1, by omega, by go_num, rfl, by rw [Hb.out, h2]; rfl, HSn.out, HEn.out⟩)
 case true => (
 cases vd
 case true => (
 refine wp_region_held_drew (S := fun w' => (w'.cell? ⟨w.heap.size, 1, none⟩ = some (.slice (some ⟨nb, no, none⟩) l.length cap) ∧ w'.cell? ⟨w.heap.size + 1, 0, none⟩ = some (.int .i64 t.op) ∧ w'.cell? ⟨w.heap.size + 1, 1, none⟩ = some (.int .i64 t.a) ∧ w'.cell? ⟨w.heap.size + 1, 2, none⟩ = some (.int .i64 t.b) ∧ w'.cell? ⟨nb, no + mm * 6, none⟩ = some (.int .i64 n.op) ∧ w'.cell? ⟨nb, no + mm * 6 + 1, none⟩ = some (.int .i64 n.d) ∧ w'.cell? ⟨nb, no + mm * 6 + 2, none⟩ = some (.int .i64 n.a) ∧ w'.cell? ⟨nb, no + mm * 6 + 3, none⟩ = some (.int .i64 n.b) ∧ w'.cell? ⟨nb, no + mm * 6 + 4, none⟩ = some (.int .i64 n.t) ∧ w'.cell? ⟨nb, no + mm * 6 + 5, none⟩ = some (.int .i64 n.e) ∧ w'.cell? ⟨rb, ro + j, none⟩ = some (.int .i64 (mm : Int)))) (by kernel_rfl) ?_ ?_
 · exact ⟨p1, t0, t1, t2, n0, n1, n2, n3, n4, n5, es0⟩
 intro hH
 refine Up (fun _ _ _ _ _ => id) fun hP => ?_
 refine Vi 0 ?_ rfl (by kernel_rfl) hP (by rfl) ?r hH ?_; case r => intro w' h; (try dsimp only at h); go_simp; try with_reducible rfl
 try simp only [Nm]
 refine Vi 1 ?_ rfl (by kernel_rfl) hP (by rfl) ?r hH ?_; case r => intro w' h; (try dsimp only at h); go_simp; try with_reducible rfl
 try simp only [Nm]
 refine Vi 2 ?_ rfl (by kernel_rfl) hP (by rfl) ?r hH ?_; case r => intro w' h; (try dsimp only at h); go_simp; try with_reducible rfl
 try simp only [Nm]
 refine Vi 3 ?_ rfl (by kernel_rfl) hP (by rfl) ?r hH ?_; case r => intro w' h; (try dsimp only at h); go_simp; try with_reducible rfl
 try simp only [Nm]
 refine Vi 4 ?_ rfl (by kernel_rfl) hP (by rfl) ?r hH ?_; case r => intro w' h; (try dsimp only at h); go_simp; try with_reducible rfl
 try simp only [Nm]
 refine Vi 5 ?_ rfl (by kernel_rfl) hP (by rfl) ?r hH ?_; case r => intro w' h; (try dsimp only at h); go_simp; try with_reducible rfl
 try simp only [Nm]
 refine Vi 6 ?_ rfl (by kernel_rfl) hP (by rfl) ?r hH ?_; case r => intro w' h; (try dsimp only at h); go_simp; try with_reducible rfl
 try simp only [Nm]
 refine Vi 7 ?_ rfl (by kernel_rfl) hP (by rfl) ?r hH ?_; case r => intro w' h; (try dsimp only at h); go_simp; try with_reducible rfl
 try simp only [Nm]
 refine Vi 8 ?_ rfl (by kernel_rfl) hP (by rfl) ?r hH ?_; case r => intro w' h; (try dsimp only at h); go_simp; try with_reducible rfl
 try simp only [Nm]
 refine Vi 9 ?_ rfl (by kernel_rfl) hP (by rfl) ?r hH ?_; case r => intro w' h; (try dsimp only at h); go_simp; try with_reducible rfl
 try simp only [Nm]
 refine Vi 10 ?_ rfl (by kernel_rfl) hP (by rfl) ?r hH ?_; case r => intro w' h; (try dsimp only at h); go_simp; try with_reducible rfl
 try simp only [Nm]
 refine Rd 11 (by kernel_rfl) rfl (fun K hK => ?_)
 have HK11 := hide hK
 clear hK
 go_simp
 go_at_call 37
 refine (keepsIt_any n t _).mono ?_
 rw [h2]
 rintro e w6 ⟨rfl, hbw6⟩
 have hS6 := ((hS3).later ((Below.refl _ _).drew)).later hbw6
 have hE6 := hE3.drew.below' hbw6
 clear p1 t0 t1 t2 n0 n1 n2 n3 n4 n5 ln lp lt' cd fd lgd cu fu lgu es0 lr hH
 have p1 := hS6.p.cell 1
 have t0 := hS6.t.cell 0
 have t1 := hS6.t.cell 1
 have t2 := hS6.t.cell 2
 have lp := hS6.p.lt
 have lt' := hS6.t.lt
 simp only [Yl] at p1 t0 t1 t2
 have n0 := ((bcell hS6.below).1 nb _ hnb).trans d0
 have n1 := ((bcell hS6.below).1 nb _ hnb).trans d1
 have n2 := ((bcell hS6.below).1 nb _ hnb).trans d2
 have n3 := ((bcell hS6.below).1 nb _ hnb).trans d3
 have n4 := ((bcell hS6.below).1 nb _ hnb).trans d4
 have n5 := ((bcell hS6.below).1 nb _ hnb).trans d5
 have ln := Nat.lt_of_lt_of_le hnb hS6.below.size
 obtain ⟨cd, fd, lgd⟩ := hS6.at_ (i := 0) (by omega) hmm (gi := g0) rfl
 rw [upd_other _ _ (by decide), ← Hvd.out] at cd
 obtain ⟨cu, fu, lgu⟩ := hS6.at_ (i := 1) (by omega) hmm (gi := g1) rfl
 rw [upd_other _ _ (by decide), ← Hvu.out] at cu
 have es0 := hE6.cell_at hjm
 have lr := rowlt hE6
 refine Shut.out HK11.out _ _ ⟨p1, t0, t1, t2, n0, n1, n2, n3, n4, n5, es0⟩ (fun hH => ?_)
 try simp only [Nm]
 refine Vi 12 ?_ rfl (by kernel_rfl) hP (by rfl) ?r hH ?_; case r => intro w' h; (try dsimp only at h); go_simp; try with_reducible rfl
 try simp only [Nm]
 refine Vi 13 ?_ rfl (by kernel_rfl) hP (by rfl) ?r hH ?_; case r => intro w' h; (try dsimp only at h); go_simp; try with_reducible rfl
 try simp only [Nm]
 refine Vi 14 ?_ rfl (by kernel_rfl) hP (by rfl) ?r hH ?_; case r => intro w' h; (try dsimp only at h); go_simp; try with_reducible rfl
 try simp only [Nm]
 refine Vi 15 ?_ rfl (by kernel_rfl) hP (by rfl) ?r hH ?_; case r => intro w' h; (try dsimp only at h); go_simp; try with_reducible rfl
 try simp only [Nm]
 refine Vi 16 ?_ rfl (by kernel_rfl) hP (by rfl) ?r hH ?_; case r => intro w' h; (try dsimp only at h); go_simp; try with_reducible rfl
 try simp only [Nm]
 refine Vi 17 ?_ rfl (by kernel_rfl) hP (by rfl) ?r hH ?_; case r => intro w' h; (try dsimp only at h); go_simp; try with_reducible rfl
 try simp only [Nm]
 refine Vi 18 ?_ rfl (by kernel_rfl) hP (by rfl) ?r hH ?_; case r => intro w' h; (try dsimp only at h); go_simp; try with_reducible rfl
 try simp only [Nm]
 refine Vi 19 ?_ rfl (by kernel_rfl) hP (by rfl) ?r hH ?_; case r => intro w' h; (try dsimp only at h); go_simp; try with_reducible rfl
 try simp only [Nm]
 refine Vi 20 ?_ rfl (by kernel_rfl) hP (by rfl) ?r hH ?_; case r => intro w' h; (try dsimp only at h); go_simp; try with_reducible rfl
 try simp only [Nm]
 refine Rd 21 (by kernel_rfl) rfl (fun K hK => ?_)
 have HK21 := hide hK
 clear hK
 go_simp
 refine Shut.out HK21.out _ _ hH (fun _ => ?_)
 try simp only [Nm]
 refine Vi 22 ?_ rfl (by kernel_rfl) hP (by rfl) ?r hH ?_; case r => intro w' h; (try dsimp only at h); go_simp; try with_reducible rfl
 try simp only [Nm]
 refine Vi 23 ?_ rfl (by kernel_rfl) hP (by rfl) ?r hH ?_; case r => intro w' h; (try dsimp only at h); go_simp; try with_reducible rfl
 try simp only [Nm]
 refine Vn 24 rfl (by kernel_rfl) hP (by rfl) hH ?_
 try simp only [Nm]
 refine Vn 25 rfl (by kernel_rfl) hP (by rfl) hH ?_
 try simp only [Nm]
 refine Vn 26 rfl (by kernel_rfl) hP (by rfl) hH ?_
 try simp only [Nm]
 refine Vn 27 rfl (by kernel_rfl) hP (by rfl) hH ?_
 try simp only [Nm]
 refine Vn 28 rfl (by kernel_rfl) hP (by rfl) hH ?_
 try simp only [Nm]
 refine Vn 29 rfl (by kernel_rfl) hP (by rfl) hH ?_
 try simp only [Nm]
 refine Vn 30 rfl (by kernel_rfl) hP (by rfl) hH ?_
 try simp only [Nm]
 refine Vn 31 rfl (by kernel_rfl) hP (by rfl) hH ?_
 try simp only [Nm]
 refine Vi 32 ?_ rfl (by kernel_rfl) hP (by rfl) ?r hH ?_; case r => intro w' h; (try dsimp only at h); go_simp; try with_reducible rfl
 try simp only [Nm]
 refine Vi 33 ?_ rfl (by kernel_rfl) hP (by rfl) ?r hH ?_; case r => intro w' h; (try dsimp only at h); go_simp; try with_reducible rfl
 try simp only [Nm]
 refine Vi 34 ?_ rfl (by kernel_rfl) hP (by rfl) ?r hH ?_; case r => intro w' h; (try dsimp only at h); go_simp; try with_reducible rfl
 try simp only [Nm]
 refine wpAnyH_done (by kernel_rfl) ?_ _
 clear hH HK11 HK21 p1 t0 t1 t2 n0 n1 n2 n3 n4 n5 ln lp lt' cd fd lgd cu fu lgu es0 lr
 have HSn := hide (hS6)
 have HEn := hide (hE6)
 go_wp2_with fail
 go_roundg (es.length - (j + 1))
 case measure => have := Hgk3.out; omega
 case rel => exact ⟨j + 1, by omega, by go_num, rfl, by rw [Hb.out, h2]; rfl, HSn.out, HEn.out⟩)
 case false => (
 refine wp_region_held_drew (S := fun w' => (w'.cell? ⟨w.heap.size, 1, none⟩ = some (.slice (some ⟨nb, no, none⟩) l.length cap) ∧ w'.cell? ⟨w.heap.size + 1, 0, none⟩ = some (.int .i64 t.op) ∧ w'.cell? ⟨w.heap.size + 1, 1, none⟩ = some (.int .i64 t.a) ∧ w'.cell? ⟨w.heap.size + 1, 2, none⟩ = some (.int .i64 t.b) ∧ w'.cell? ⟨nb, no + mm * 6, none⟩ = some (.int .i64 n.op) ∧ w'.cell? ⟨nb, no + mm * 6 + 1, none⟩ = some (.int .i64 n.d) ∧ w'.cell? ⟨nb, no + mm * 6 + 2, none⟩ = some (.int .i64 n.a) ∧ w'.cell? ⟨nb, no + mm * 6 + 3, none⟩ = some (.int .i64 n.b) ∧ w'.cell? ⟨nb, no + mm * 6 + 4, none⟩ = some (.int .i64 n.t) ∧ w'.cell? ⟨nb, no + mm * 6 + 5, none⟩ = some (.int .i64 n.e) ∧ w'.cell? ⟨rb, ro + j, none⟩ = some (.int .i64 (mm : Int)))) (by kernel_rfl) ?_ ?_
 · exact ⟨p1, t0, t1, t2, n0, n1, n2, n3, n4, n5, es0⟩
 intro hH
 refine Up (fun _ _ _ _ _ => id) fun hP => ?_
 refine Vi 0 ?_ rfl (by kernel_rfl) hP (by rfl) ?r hH ?_; case r => intro w' h; (try dsimp only at h); go_simp; try with_reducible rfl
 try simp only [Nm]
 refine Vi 1 ?_ rfl (by kernel_rfl) hP (by rfl) ?r hH ?_; case r => intro w' h; (try dsimp only at h); go_simp; try with_reducible rfl
 try simp only [Nm]
 refine Vi 2 ?_ rfl (by kernel_rfl) hP (by rfl) ?r hH ?_; case r => intro w' h; (try dsimp only at h); go_simp; try with_reducible rfl
 try simp only [Nm]
 refine Vi 3 ?_ rfl (by kernel_rfl) hP (by rfl) ?r hH ?_; case r => intro w' h; (try dsimp only at h); go_simp; try with_reducible rfl
 try simp only [Nm]
 refine Vi 4 ?_ rfl (by kernel_rfl) hP (by rfl) ?r hH ?_; case r => intro w' h; (try dsimp only at h); go_simp; try with_reducible rfl
 try simp only [Nm]
 refine Vi 5 ?_ rfl (by kernel_rfl) hP (by rfl) ?r hH ?_; case r => intro w' h; (try dsimp only at h); go_simp; try with_reducible rfl
 try simp only [Nm]
 refine Vi 6 ?_ rfl (by kernel_rfl) hP (by rfl) ?r hH ?_; case r => intro w' h; (try dsimp only at h); go_simp; try with_reducible rfl
 try simp only [Nm]
 refine Vi 7 ?_ rfl (by kernel_rfl) hP (by rfl) ?r hH ?_; case r => intro w' h; (try dsimp only at h); go_simp; try with_reducible rfl
 try simp only [Nm]
 refine Vi 8 ?_ rfl (by kernel_rfl) hP (by rfl) ?r hH ?_; case r => intro w' h; (try dsimp only at h); go_simp; try with_reducible rfl
 try simp only [Nm]
 refine Vi 9 ?_ rfl (by kernel_rfl) hP (by rfl) ?r hH ?_; case r => intro w' h; (try dsimp only at h); go_simp; try with_reducible rfl
 try simp only [Nm]
 refine Vi 10 ?_ rfl (by kernel_rfl) hP (by rfl) ?r hH ?_; case r => intro w' h; (try dsimp only at h); go_simp; try with_reducible rfl
 try simp only [Nm]
 refine Rd 11 (by kernel_rfl) rfl (fun K hK => ?_)
 have HK11 := hide hK
 clear hK
 go_simp
 go_at_call 37
 refine (keepsIt_any n t _).mono ?_
 rw [h2]
 rintro e w6 ⟨rfl, hbw6⟩
 have hS6 := ((hS3).later ((Below.refl _ _).drew)).later hbw6
 have hE6 := hE3.drew.below' hbw6
 clear p1 t0 t1 t2 n0 n1 n2 n3 n4 n5 ln lp lt' cd fd lgd cu fu lgu es0 lr hH
 have p1 := hS6.p.cell 1
 have t0 := hS6.t.cell 0
 have t1 := hS6.t.cell 1
 have t2 := hS6.t.cell 2
 have lp := hS6.p.lt
 have lt' := hS6.t.lt
 simp only [Yl] at p1 t0 t1 t2
 have n0 := ((bcell hS6.below).1 nb _ hnb).trans d0
 have n1 := ((bcell hS6.below).1 nb _ hnb).trans d1
 have n2 := ((bcell hS6.below).1 nb _ hnb).trans d2
 have n3 := ((bcell hS6.below).1 nb _ hnb).trans d3
 have n4 := ((bcell hS6.below).1 nb _ hnb).trans d4
 have n5 := ((bcell hS6.below).1 nb _ hnb).trans d5
 have ln := Nat.lt_of_lt_of_le hnb hS6.below.size
 obtain ⟨cd, fd, lgd⟩ := hS6.at_ (i := 0) (by omega) hmm (gi := g0) rfl
 rw [upd_other _ _ (by decide), ← Hvd.out] at cd
 obtain ⟨cu, fu, lgu⟩ := hS6.at_ (i := 1) (by omega) hmm (gi := g1) rfl
 rw [upd_other _ _ (by decide), ← Hvu.out] at cu
 have es0 := hE6.cell_at hjm
 have lr := rowlt hE6
 refine Shut.out HK11.out _ _ ⟨p1, t0, t1, t2, n0, n1, n2, n3, n4, n5, es0⟩ (fun hH => ?_)
 try simp only [Nm]
 refine Vi 12 ?_ rfl (by kernel_rfl) hP (by rfl) ?r hH ?_; case r => intro w' h; (try dsimp only at h); go_simp; try with_reducible rfl
 try simp only [Nm]
 refine Vi 13 ?_ rfl (by kernel_rfl) hP (by rfl) ?r hH ?_; case r => intro w' h; (try dsimp only at h); go_simp; try with_reducible rfl
 try simp only [Nm]
 refine Vi 14 ?_ rfl (by kernel_rfl) hP (by rfl) ?r hH ?_; case r => intro w' h; (try dsimp only at h); go_simp; try with_reducible rfl
 try simp only [Nm]
 refine Vi 15 ?_ rfl (by kernel_rfl) hP (by rfl) ?r hH ?_; case r => intro w' h; (try dsimp only at h); go_simp; try with_reducible rfl
 try simp only [Nm]
 refine Vi 16 ?_ rfl (by kernel_rfl) hP (by rfl) ?r hH ?_; case r => intro w' h; (try dsimp only at h); go_simp; try with_reducible rfl
 try simp only [Nm]
 refine Vi 17 ?_ rfl (by kernel_rfl) hP (by rfl) ?r hH ?_; case r => intro w' h; (try dsimp only at h); go_simp; try with_reducible rfl
 try simp only [Nm]
 refine Vi 18 ?_ rfl (by kernel_rfl) hP (by rfl) ?r hH ?_; case r => intro w' h; (try dsimp only at h); go_simp; try with_reducible rfl
 try simp only [Nm]
 refine Vi 19 ?_ rfl (by kernel_rfl) hP (by rfl) ?r hH ?_; case r => intro w' h; (try dsimp only at h); go_simp; try with_reducible rfl
 try simp only [Nm]
 refine Vi 20 ?_ rfl (by kernel_rfl) hP (by rfl) ?r hH ?_; case r => intro w' h; (try dsimp only at h); go_simp; try with_reducible rfl
 try simp only [Nm]
 refine Rd 21 (by kernel_rfl) rfl (fun K hK => ?_)
 have HK21 := hide hK
 clear hK
 go_simp
 refine Shut.out HK21.out _ _ hH (fun _ => ?_)
 try simp only [Nm]
 refine Vi 22 ?_ rfl (by kernel_rfl) hP (by rfl) ?r hH ?_; case r => intro w' h; (try dsimp only at h); go_simp; try with_reducible rfl
 try simp only [Nm]
 refine Vi 23 ?_ rfl (by kernel_rfl) hP (by rfl) ?r hH ?_; case r => intro w' h; (try dsimp only at h); go_simp; try with_reducible rfl
 try simp only [Nm]
 refine Vi 24 ?_ rfl (by kernel_rfl) hP (by rfl) ?r hH ?_; case r => intro w' h; (try dsimp only at h); go_simp; try with_reducible rfl
 try simp only [Nm]
 refine Vi 25 ?_ rfl (by kernel_rfl) hP (by rfl) ?r hH ?_; case r => intro w' h; (try dsimp only at h); go_simp; try with_reducible rfl
 try simp only [Nm]
 refine Vi 26 ?_ rfl (by kernel_rfl) hP (by rfl) ?r hH ?_; case r => intro w' h; (try dsimp only at h); go_simp; try with_reducible rfl
 try simp only [Nm]
 refine Vi 27 ?_ rfl (by kernel_rfl) hP (by rfl) ?r hH ?_; case r => intro w' h; (try dsimp only at h); go_simp; try with_reducible rfl
 try simp only [Nm]
 refine Vi 28 ?_ rfl (by kernel_rfl) hP (by rfl) ?r hH ?_; case r => intro w' h; (try dsimp only at h); go_simp; try with_reducible rfl
 try simp only [Nm]
 refine Vi 29 ?_ rfl (by kernel_rfl) hP (by rfl) ?r hH ?_; case r => intro w' h; (try dsimp only at h); go_simp; try with_reducible rfl
 try simp only [Nm]
 refine Rd 30 (by kernel_rfl) rfl (fun K hK => ?_)
 have HK30 := hide hK
 clear hK
 go_simp
 refine Shut.out HK30.out _ _ hH (fun _ => ?_)
 try simp only [Nm]
 refine Vi 31 ?_ rfl (by kernel_rfl) hP (by rfl) ?r hH ?_; case r => intro w' h; (try dsimp only at h); go_simp; try with_reducible rfl
 try simp only [Nm]
 refine Vi 32 ?_ rfl (by kernel_rfl) hP (by rfl) ?r hH ?_; case r => intro w' h; (try dsimp only at h); go_simp; try with_reducible rfl
 try simp only [Nm]
 refine Vi 33 ?_ rfl (by kernel_rfl) hP (by rfl) ?r hH ?_; case r => intro w' h; (try dsimp only at h); go_simp; try with_reducible rfl
 try simp only [Nm]
 refine Vi 34 ?_ rfl (by kernel_rfl) hP (by rfl) ?r hH ?_; case r => intro w' h; (try dsimp only at h); go_simp; try with_reducible rfl
 try simp only [Nm]
 refine wpAnyH_done (by kernel_rfl) ?_ _
 clear hH HK11 HK21 HK30 p1 t0 t1 t2 n0 n1 n2 n3 n4 n5 ln lp lt' cd fd lgd cu fu lgu es0 lr
 have HSn := hide (hS6)
 have HEn := hide (hE6)
 go_wp2_with fail
 go_roundg (es.length - (j + 1))
 case measure => have := Hgk3.out; omega
 case rel => exact ⟨j + 1, by omega, by go_num, rfl, by rw [Hb.out, h2]; rfl, HSn.out, HEn.out⟩))))
 · (
 obtain ⟨dk, hdk⟩ : ∃ b, b = yn (x 0) k := ⟨_, rfl⟩
 have hend : yn Y k = (dk && a0) := by rw [HY.out, earlyA_end t l (x 0) (x 1) k j (by rw [← Hes.out]; omega) hlt, ← ha0, ← hdk]
 obtain ⟨bb, hbb⟩ : ∃ b, b = (dk && a0) := ⟨_, rfl⟩
 have hbY : bb = yn Y k := by rw [hend, hbb]
 have HbY := hide hbY
 have Hbb := hide hbb
 obtain ⟨ck, fk, lg⟩ := hS3.at_ (i := 2) (by omega) hlt (gi := g2) rfl
 have ce := (hS3.at_ (i := 0) (by omega) hlt (gi := g0) rfl).1
 rw [upd_other _ _ (by decide), ← hdk] at ce
 have HS3 := hide hS3
 clear hend hbY hbb hS3 hE3 ha0 hdk
 cases dk
 case true => (
 go_wp2_with fail
 go_roundg (l.length - (k + 1))
 case measure => have := Hgk.out; omega
 case rel => (
 have h := HS3.out.set (i := 2) (by omega) k bb
 rw [upd_same, upd_upd] at h
 have hv : bb = a0 := by rw [Hbb.out]; simp
 refine ⟨k + 1, y.set k bb, by omega, by go_num, rfl, by rw [List.length_set]; exact hyl, fun i hi => (by rw [yn_set _ _ _ _ (by rw [hyl]; exact hlt)]; (by_cases h : i = k); (rw [if_pos h, h]; exact HbY.out); (rw [if_neg h]; exact HyY.out i (by omega))), ?_⟩
 rw [hv] at h ⊢
 exact h))
 case false => (
 go_wp2_with fail
 go_roundg (l.length - (k + 1))
 case measure => have := Hgk.out; omega
 case rel => (
 have h := HS3.out.set (i := 2) (by omega) k bb
 rw [upd_same, upd_upd] at h
 have hv : bb = false := by rw [Hbb.out]; simp
 refine ⟨k + 1, y.set k bb, by omega, by go_num, rfl, by rw [List.length_set]; exact hyl, fun i hi => (by rw [yn_set _ _ _ _ (by rw [hyl]; exact hlt)]; (by_cases h : i = k); (rw [if_pos h, h]; exact HbY.out); (rw [if_neg h]; exact HyY.out i (by omega))), ?_⟩
 rw [hv] at h ⊢
 exact h)))))
 · (
 have hkk : k = l.length := by omega
 have he : y = Y := ext_yn (by rw [hyl, hYl]) fun i hi => HyY.out i (by omega)
 have He := hide he
 have HS1 := hide hS1
 clear hS1 he hkk
 go_wp2_with fail
 refine ⟨rfl, ?_⟩
 refine HX.out _ _ y ?_ ?_ ?_ HS1.out
 · rfl
 · kernel_rfl
 · rw [← HY.out]; exact He.out)))
end
end Go.Proofs.YtmghkonmfbpjcabGreat
