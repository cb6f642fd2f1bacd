/- FactR5. -/
import Derived.Test.YtmghkonmfbpjcabGreatFactR1
import Derived.Test.YtmghkonmfbpjcabGreatGE
import Derived.Test.YtmghkonmfbpjcabGreatGA
set_option linter.unusedVariables false
set_option linter.unusedSimpArgs false
namespace Go.Proofs.YtmghkonmfbpjcabGreat
section
open Go.RowKit
set_option maxHeartbeats 8000000
attribute [local irreducible] Row madeCells
attribute [local go_sem] no_yes
set_option maxRecDepth 1000000 in
theorem rloop4 (regs : Int) (A : Option Addr) (l : List Nd) (cap : Nat) (t : Tm) (w : World) (hA : NodesAt w A l) (hR : Right regs l) (g0 g1 g2 g3 g4 g5 : Nat) (nx ax : Value) (x : Nat → List Bool) (a : Act) (W : World) (Rx : Act → World → Prop)
 (hd : a.defers = []) (ha : a.tmps = rfr regs A l cap t w.heap.size g0 g1 g2 g3 g4 g5 nx ax (lets a.tmps)) (hi : lets a.tmps 29 = .int .i64 0)
 (hS : RS regs A l cap t w g0 g1 g2 g3 g4 g5 nx ax l.length l.length x W) (hx : ∀ i, i < l.length → yn (x 3) i = true)
 (hexit : ∀ (a' : Act) (W' : World) (y : List Bool), a'.defers = [] → a'.tmps = rfr regs A l cap t w.heap.size g0 g1 g2 g3 g4 g5 nx ax (lets a'.tmps) → Great (flowS false false (x 2) (notL (noL l.length)) (noL l.length) (notL (recL t l)) l) l.length y → RS regs A l cap t w g0 g1 g2 g3 g4 g5 nx ax l.length l.length (upd x 3 y) W' → Rx a' W') :
 Code.wp Tryz.prog (Code.loop (rloop 4)) (onlyExit 18 Rx) a W := by (
 conv => arg 2; arg 1; whnf
 obtain ⟨tm, df⟩ := a
 simp only at hd ha hi
 subst hd
 generalize lets tm = u at ha hi
 subst ha
 dsimp only [rfr]
 rw [hi]
 have hlo := hR.lo
 have hhi := hR.hi
 have HX := hide hexit
 obtain ⟨Sf, hSf⟩ : ∃ Sf, Sf = flowS false false (x 2) (notL (noL l.length)) (noL l.length) (notL (recL t l)) l := ⟨_, rfl⟩
 have hm : Mono Sf := by rw [hSf]; exact flowS_mono _ _ _ _ _ _ _
 have HSf := hide hSf
 have HM := hide hm
 have hst : ∃ y, Sweep Sf l.length 0 0 y ∧ RS regs A l cap t w g0 g1 g2 g3 g4 g5 nx ax l.length l.length (upd x 3 y) W := ⟨x 3, Sweep.start (hS.rows 3 (by omega)).2 hx, by rw [upd_self]; exact hS⟩
 have Hst := hide hst
 obtain ⟨vn, e1, e2, e3⟩ := hS.ahd
 obtain ⟨gn, on, cn, _, hnx, _, _, _, _, _⟩ := e2.get (k := 0) (by omega)
 rw [e1] at hnx
 subst hnx
 clear hi hexit hSf hm hst hS hx e1 e2 e3
 go_loopg [29] (l.length + 1) (fun gk i wr => ∃ (c : Nat) (y : List Bool), c ≤ l.length + 1 ∧ i = .int .i64 c ∧ gk = l.length + 1 - c ∧ Sweep Sf l.length c 0 y ∧ RS regs A l cap t w g0 g1 g2 g3 g4 g5 nx (.slice (some ⟨gn, on, none⟩) l.length cn) l.length l.length (upd x 3 y) wr)
 case atStart => obtain ⟨y, h1, h2⟩ := Hst.out; exact ⟨0, y, Nat.zero_le _, rfl, rfl, h1, h2⟩
 case round => (
 obtain ⟨c, y, hc, rfl, hgk, h, hS1⟩ := hrel
 have Hgk := hide hgk
 have HSw := hide h
 clear hgk Hst h
 have s0 := hS1.s.cell 0
 have ls := hS1.s.lt
 simp only [List.getElem?_toArray, List.getElem?_cons_zero] at s0
 have HS1 := hide hS1
 clear hS1
 by_cases hcl : c ≤ l.length
 · (
 have cc : (c : Int) ≤ (l.length : Int) := by omega
 obtain ⟨wo, rfl⟩ : ∃ wo : World, wo = wr := ⟨_, rfl⟩
 obtain ⟨gk0, rfl⟩ : ∃ gk0 : Nat, gk0 = gk := ⟨_, rfl⟩
 go_wp2_with fail
 go_loopg [30] (l.length) (fun gk i wr => ∃ (k : Nat) (y : List Bool), k ≤ l.length ∧ i = .int .i64 k ∧ gk = l.length - k ∧ Sweep Sf l.length c k y ∧ RS regs A l cap t w g0 g1 g2 g3 g4 g5 nx (.slice (some ⟨gn, on, none⟩) l.length cn) l.length l.length (upd x 3 y) wr)
 case atStart => exact ⟨0, y, Nat.zero_le _, rfl, rfl, HSw.out, HS1.out⟩
 case round => (
 clear HS1 HSw s0 ls
 obtain ⟨k, y, hk, rfl, hgk2, h, hS1⟩ := hrel
 have Hgk2 := hide hgk2
 have HSw := hide h
 clear hgk2 h
 have s0 := hS1.s.cell 0
 have ls := hS1.s.lt
 simp only [List.getElem?_toArray, List.getElem?_cons_zero] at s0
 by_cases hlt : k < l.length
 · (
 obtain ⟨vn, e1, e2, e3⟩ := hS1.ahd
 obtain ⟨gn', on', cn', z, hnx, _, hgl, hz, hcz, _⟩ := e2.get (k := k) (by omega)
 obtain ⟨ea, eb⟩ : gn = gn' ∧ on = on' := by (
 injection hnx with hnx _ _
 injection hnx with hnx
 injection hnx with ea eb _
 exact ⟨ea, eb⟩)
 subst ea eb
 clear hnx
 obtain ⟨R, rc, ez, hrow⟩ := e3 k hlt
 rw [hz] at ez
 injection ez with ez
 subst ez
 have u0 : (0 : Int) ≤ (k : Int) := by omega
 have u1 : (k : Int) < (l.length : Int) := by omega
 have hel : (edgesOf false l k).length ≤ l.length := edges_le _ _ _
 have hS2 := hS1
 clear hz e1 e2 e3 hS1
 obtain ⟨es, hes⟩ : ∃ es, es = edgesOf false l k := ⟨_, rfl⟩
 rw [← hes] at hrow hcz hel
 have Hes := hide hes
 clear hes
 have hyl : y.length = l.length := HSw.out.len
 have Hrow := hide hrow
 have HS2 := hide hS2
 clear hS2 hrow
 go_wp2_with fail
 obtain ⟨wi, rfl⟩ : ∃ wi : World, wi = wr := ⟨_, rfl⟩
 go_loopg [32, 33] (es.length) (fun gk s32 i wr => ∃ j : Nat, j ≤ es.length ∧ i = .int .i64 j ∧ gk = es.length - j ∧ s32 = .bool (delayA t l y k j) ∧ RS regs A l cap t w g0 g1 g2 g3 g4 g5 nx (.slice (some ⟨gn, on, none⟩) l.length cn) l.length l.length (upd x 3 y) wr ∧ Row wr w.heap.size 3 (.slice R es.length rc) (ints es))
 case atStart => exact ⟨0, Nat.zero_le _, rfl, rfl, by rw [delayA_zero, ← Hes.out], HS2.out, Hrow.out⟩
 case round => (
 clear HS2 Hrow hcz s0 ls
 obtain ⟨j, hj, rfl, hgk3, rfl, hS3, hE3⟩ := hrel
 have Hgk3 := hide hgk3
 clear hgk3
 obtain ⟨a0, ha0⟩ : ∃ a, a = delayA t l y k j := ⟨_, rfl⟩
 rw [← ha0]
 by_cases hjl : j < es.length
 · (
 obtain ⟨mm, n, hjm, hmm, hnm⟩ := edge_in (bk := false) (l := l) (k := k) (j := j) (by rw [← Hes.out]; exact hjl)
 have hstA := delayA_step (t := t) (x := y) hjm hnm
 rw [← ha0] at hstA
 rw [← Hes.out] at hjm
 obtain ⟨rb, ro, rfl, lr, es0⟩ := hE3.int_at_ hjm
 obtain ⟨nb, no, n', rfl, hnb, hn', hnl⟩ := hA.get hmm
 obtain rfl : n = n' := by rw [hnm] at hn'; injection hn'
 obtain ⟨d0, d1, d2, d3, d4, d5⟩ := hnl
 have v0 : (0 : Int) ≤ (j : Int) := by omega
 have v1 : (j : Int) < (es.length : Int) := by omega
 have m0 : (0 : Int) ≤ (mm : Int) := by omega
 have m1 : (mm : Int) < (l.length : Int) := by omega
 obtain ⟨vm, hvm⟩ : ∃ b, b = yn y mm := ⟨_, rfl⟩
 rw [← hvm] at hstA
 have Hb := hide hstA
 have Hvm := hide hvm
 clear hstA hvm ha0 hn' hnm
 clear es0 lr
 have p1 := hS3.p.cell 1
 have t0 := hS3.t.cell 0
 have t1 := hS3.t.cell 1
 have t2 := hS3.t.cell 2
 have lp := hS3.p.lt
 have lt' := hS3.t.lt
 simp only [Yl] at p1 t0 t1 t2
 have n0 := ((bcell hS3.below).1 nb _ hnb).trans d0
 have n1 := ((bcell hS3.below).1 nb _ hnb).trans d1
 have n2 := ((bcell hS3.below).1 nb _ hnb).trans d2
 have n3 := ((bcell hS3.below).1 nb _ hnb).trans d3
 have n4 := ((bcell hS3.below).1 nb _ hnb).trans d4
 have n5 := ((bcell hS3.below).1 nb _ hnb).trans d5
 have ln := Nat.lt_of_lt_of_le hnb hS3.below.size
 obtain ⟨cm, fm, lgm⟩ := hS3.at_ (i := 3) (by omega) hmm (gi := g3) rfl
 rw [upd_same, ← Hvm.out] at cm
 have es0 := hE3.cell_at hjm
 have lr := rowlt hE3
 go_upto_region 56 with fail
 cases a0
 case false => (
 refine wp_region_held_drew (S := fun w' => (w'.cell? ⟨w.heap.size, 1, none⟩ = some (.slice (some ⟨nb, no, none⟩) l.length cap) ∧ w'.cell? ⟨w.heap.size + 1, 0, none⟩ = some (.int .i64 t.op) ∧ w'.cell? ⟨w.heap.size + 1, 1, none⟩ = some (.int .i64 t.a) ∧ w'.cell? ⟨w.heap.size + 1, 2, none⟩ = some (.int .i64 t.b) ∧ w'.cell? ⟨nb, no + mm * 6, none⟩ = some (.int .i64 n.op) ∧ w'.cell? ⟨nb, no + mm * 6 + 1, none⟩ = some (.int .i64 n.d) ∧ w'.cell? ⟨nb, no + mm * 6 + 2, none⟩ = some (.int .i64 n.a) ∧ w'.cell? ⟨nb, no + mm * 6 + 3, none⟩ = some (.int .i64 n.b) ∧ w'.cell? ⟨nb, no + mm * 6 + 4, none⟩ = some (.int .i64 n.t) ∧ w'.cell? ⟨nb, no + mm * 6 + 5, none⟩ = some (.int .i64 n.e) ∧ w'.cell? ⟨rb, ro + j, none⟩ = some (.int .i64 (mm : Int)))) (by kernel_rfl) ?_ ?_
 · exact ⟨p1, t0, t1, t2, n0, n1, n2, n3, n4, n5, es0⟩
 intro hH
 refine Up (fun _ _ _ _ _ => id) fun hP => ?_
 refine Vi 0 ?_ rfl (by kernel_rfl) hP (by rfl) ?r hH ?_; case r => intro w' h; (try dsimp only at h); go_simp; try with_reducible rfl
 try simp only [Nm]
 refine Vi 1 ?_ rfl (by kernel_rfl) hP (by rfl) ?r hH ?_; case r => intro w' h; (try dsimp only at h); go_simp; try with_reducible rfl
 try simp only [Nm]
 refine Vn 2 rfl (by kernel_rfl) hP (by rfl) hH ?_
 try simp only [Nm]
 refine Vn 3 rfl (by kernel_rfl) hP (by rfl) hH ?_
 try simp only [Nm]
 refine Vn 4 rfl (by kernel_rfl) hP (by rfl) hH ?_
 try simp only [Nm]
 refine Vn 5 rfl (by kernel_rfl) hP (by rfl) hH ?_
 try simp only [Nm]
 refine Vn 6 rfl (by kernel_rfl) hP (by rfl) hH ?_
 try simp only [Nm]
 refine Vn 7 rfl (by kernel_rfl) hP (by rfl) hH ?_
 try simp only [Nm]
 refine Vn 8 rfl (by kernel_rfl) hP (by rfl) hH ?_
 try simp only [Nm]
 refine Vi 9 ?_ rfl (by kernel_rfl) hP (by rfl) ?r hH ?_; case r => intro w' h; (try dsimp only at h); go_simp; try with_reducible rfl
 try simp only [Nm]
 refine Vi 10 ?_ rfl (by kernel_rfl) hP (by rfl) ?r hH ?_; case r => intro w' h; (try dsimp only at h); go_simp; try with_reducible rfl
 try simp only [Nm]
 refine Vn 11 rfl (by kernel_rfl) hP (by rfl) hH ?_
 try simp only [Nm]
 refine Vn 12 rfl (by kernel_rfl) hP (by rfl) hH ?_
 try simp only [Nm]
 refine Vn 13 rfl (by kernel_rfl) hP (by rfl) hH ?_
 try simp only [Nm]
 refine Vn 14 rfl (by kernel_rfl) hP (by rfl) hH ?_
 try simp only [Nm]
 refine Vn 15 rfl (by kernel_rfl) hP (by rfl) hH ?_
 try simp only [Nm]
 refine Vn 16 rfl (by kernel_rfl) hP (by rfl) hH ?_
 try simp only [Nm]
 refine Vn 17 rfl (by kernel_rfl) hP (by rfl) hH ?_
 try simp only [Nm]
 refine Vn 18 rfl (by kernel_rfl) hP (by rfl) hH ?_
 try simp only [Nm]
 refine Vn 19 rfl (by kernel_rfl) hP (by rfl) hH ?_
 try simp only [Nm]
 refine Vn 20 rfl (by kernel_rfl) hP (by rfl) hH ?_
 try simp only [Nm]
 refine Vn 21 rfl (by kernel_rfl) hP (by rfl) hH ?_
 try simp only [Nm]
 refine Vi 22 ?_ rfl (by kernel_rfl) hP (by rfl) ?r hH ?_; case r => intro w' h; (try dsimp only at h); go_simp; try with_reducible rfl
 try simp only [Nm]
 refine Vi 23 ?_ rfl (by kernel_rfl) hP (by rfl) ?r hH ?_; case r => intro w' h; (try dsimp only at h); go_simp; try with_reducible rfl
 try simp only [Nm]
 refine wpAnyH_done (by kernel_rfl) ?_ _
 clear hH  p1 t0 t1 t2 n0 n1 n2 n3 n4 n5 ln lp lt' cm fm lgm es0 lr
 have HSn := hide ((hS3).later ((Below.refl _ _).drew))
 have HEn := hide (hE3.drew)
 go_wp2_with fail
 go_roundg (es.length - (j + 1))
 case measure => have := Hgk3.out; omega
 case rel => exact ⟨j + 1, by omega, by go_num, rfl, by rw [Hb.out]; rfl, HSn.out, HEn.out⟩)
 case true => (
 cases vm
 case false => (
 refine wp_region_held_drew (S := fun w' => (w'.cell? ⟨w.heap.size, 1, none⟩ = some (.slice (some ⟨nb, no, none⟩) l.length cap) ∧ w'.cell? ⟨w.heap.size + 1, 0, none⟩ = some (.int .i64 t.op) ∧ w'.cell? ⟨w.heap.size + 1, 1, none⟩ = some (.int .i64 t.a) ∧ w'.cell? ⟨w.heap.size + 1, 2, none⟩ = some (.int .i64 t.b) ∧ w'.cell? ⟨nb, no + mm * 6, none⟩ = some (.int .i64 n.op) ∧ w'.cell? ⟨nb, no + mm * 6 + 1, none⟩ = some (.int .i64 n.d) ∧ w'.cell? ⟨nb, no + mm * 6 + 2, none⟩ = some (.int .i64 n.a) ∧ w'.cell? ⟨nb, no + mm * 6 + 3, none⟩ = some (.int .i64 n.b) ∧ w'.cell? ⟨nb, no + mm * 6 + 4, none⟩ = some (.int .i64 n.t) ∧ w'.cell? ⟨nb, no + mm * 6 + 5, none⟩ = some (.int .i64 n.e) ∧ w'.cell? ⟨rb, ro + j, none⟩ = some (.int .i64 (mm : Int)))) (by kernel_rfl) ?_ ?_
 · exact ⟨p1, t0, t1, t2, n0, n1, n2, n3, n4, n5, es0⟩
 intro hH
 refine Up (fun _ _ _ _ _ => id) fun hP => ?_
 refine Vi 0 ?_ rfl (by kernel_rfl) hP (by rfl) ?r hH ?_; case r => intro w' h; (try dsimp only at h); go_simp; try with_reducible rfl
 try simp only [Nm]
 refine Vi 1 ?_ rfl (by kernel_rfl) hP (by rfl) ?r hH ?_; case r => intro w' h; (try dsimp only at h); go_simp; try with_reducible rfl
 try simp only [Nm]
 refine Vi 2 ?_ rfl (by kernel_rfl) hP (by rfl) ?r hH ?_; case r => intro w' h; (try dsimp only at h); go_simp; try with_reducible rfl
 try simp only [Nm]
 refine Vi 3 ?_ rfl (by kernel_rfl) hP (by rfl) ?r hH ?_; case r => intro w' h; (try dsimp only at h); go_simp; try with_reducible rfl
 try simp only [Nm]
 refine Vi 4 ?_ rfl (by kernel_rfl) hP (by rfl) ?r hH ?_; case r => intro w' h; (try dsimp only at h); go_simp; try with_reducible rfl
 try simp only [Nm]
 refine Vi 5 ?_ rfl (by kernel_rfl) hP (by rfl) ?r hH ?_; case r => intro w' h; (try dsimp only at h); go_simp; try with_reducible rfl
 try simp only [Nm]
 refine Vi 6 ?_ rfl (by kernel_rfl) hP (by rfl) ?r hH ?_; case r => intro w' h; (try dsimp only at h); go_simp; try with_reducible rfl
 try simp only [Nm]
 refine Vi 7 ?_ rfl (by kernel_rfl) hP (by rfl) ?r hH ?_; case r => intro w' h; (try dsimp only at h); go_simp; try with_reducible rfl
 try simp only [Nm]
 refine Rd 8 (by kernel_rfl) rfl (fun K hK => ?_)
 have HK8 := hide hK
 clear hK
 go_simp
 refine Shut.out HK8.out _ _ hH (fun _ => ?_)
 try simp only [Nm]
 refine Vi 9 ?_ rfl (by kernel_rfl) hP (by rfl) ?r hH ?_; case r => intro w' h; (try dsimp only at h); go_simp; try with_reducible rfl
 try simp only [Nm]
 refine Vi 10 ?_ rfl (by kernel_rfl) hP (by rfl) ?r hH ?_; case r => intro w' h; (try dsimp only at h); go_simp; try with_reducible rfl
 try simp only [Nm]
 refine Vn 11 rfl (by kernel_rfl) hP (by rfl) hH ?_
 try simp only [Nm]
 refine Vn 12 rfl (by kernel_rfl) hP (by rfl) hH ?_
 try simp only [Nm]
 refine Vn 13 rfl (by kernel_rfl) hP (by rfl) hH ?_
 try simp only [Nm]
 refine Vn 14 rfl (by kernel_rfl) hP (by rfl) hH ?_
 try simp only [Nm]
 refine Vn 15 rfl (by kernel_rfl) hP (by rfl) hH ?_
 try simp only [Nm]
 refine Vn 16 rfl (by kernel_rfl) hP (by rfl) hH ?_
 try simp only [Nm]
 refine Vn 17 rfl (by kernel_rfl) hP (by rfl) hH ?_
 try simp only [Nm]
 refine Vn 18 rfl (by kernel_rfl) hP (by rfl) hH ?_
 try simp only [Nm]
 refine Vn 19 rfl (by kernel_rfl) hP (by rfl) hH ?_
 try simp only [Nm]
 refine Vn 20 rfl (by kernel_rfl) hP (by rfl) hH ?_
 try simp only [Nm]
 refine Vn 21 rfl (by kernel_rfl) hP (by rfl) hH ?_
 try simp only [Nm]
 refine Vi 22 ?_ rfl (by kernel_rfl) hP (by rfl) ?r hH ?_; case r => intro w' h; (try dsimp only at h); go_simp; try with_reducible rfl
 try simp only [Nm]
 refine Vi 23 ?_ rfl (by kernel_rfl) hP (by rfl) ?r hH ?_; case r => intro w' h; (try dsimp only at h); go_simp; try with_reducible rfl
 try simp only [Nm]
 refine wpAnyH_done (by kernel_rfl) ?_ _
 clear hH HK8 p1 t0 t1 t2 n0 n1 n2 n3 n4 n5 ln lp lt' cm fm lgm es0 lr
 have HSn := hide ((hS3).later ((Below.refl _ _).drew))
 have HEn := hide (hE3.drew)
 go_wp2_with fail
 go_roundg (es.length - (j + 1))
 case measure => have := Hgk3.out; omega
 case rel => exact ⟨j + 1, by omega, by go_num, rfl, by rw [Hb.out]; rfl, HSn.out, HEn.out⟩)
 case true => (
 refine wp_region_held_drew (S := fun w' => (w'.cell? ⟨w.heap.size, 1, none⟩ = some (.slice (some ⟨nb, no, none⟩) l.length cap) ∧ w'.cell? ⟨w.heap.size + 1, 0, none⟩ = some (.int .i64 t.op) ∧ w'.cell? ⟨w.heap.size + 1, 1, none⟩ = some (.int .i64 t.a) ∧ w'.cell? ⟨w.heap.size + 1, 2, none⟩ = some (.int .i64 t.b) ∧ w'.cell? ⟨nb, no + mm * 6, none⟩ = some (.int .i64 n.op) ∧ w'.cell? ⟨nb, no + mm * 6 + 1, none⟩ = some (.int .i64 n.d) ∧ w'.cell? ⟨nb, no + mm * 6 + 2, none⟩ = some (.int .i64 n.a) ∧ w'.cell? ⟨nb, no + mm * 6 + 3, none⟩ = some (.int .i64 n.b) ∧ w'.cell? ⟨nb, no + mm * 6 + 4, none⟩ = some (.int .i64 n.t) ∧ w'.cell? ⟨nb, no + mm * 6 + 5, none⟩ = some (.int .i64 n.e) ∧ w'.cell? ⟨rb, ro + j, none⟩ = some (.int .i64 (mm : Int)))) (by kernel_rfl) ?_ ?_
 · exact ⟨p1, t0, t1, t2, n0, n1, n2, n3, n4, n5, es0⟩
 intro hH
 refine Up (fun _ _ _ _ _ => id) fun hP => ?_
 refine Vi 0 ?_ rfl (by kernel_rfl) hP (by rfl) ?r hH ?_; case r => intro w' h; (try dsimp only at h); go_simp; try with_reducible rfl
 try simp only [Nm]
 refine Vi 1 ?_ rfl (by kernel_rfl) hP (by rfl) ?r hH ?_; case r => intro w' h; (try dsimp only at h); go_simp; try with_reducible rfl
 try simp only [Nm]
 refine Vi 2 ?_ rfl (by kernel_rfl) hP (by rfl) ?r hH ?_; case r => intro w' h; (try dsimp only at h); go_simp; try with_reducible rfl
 try simp only [Nm]
 refine Vi 3 ?_ rfl (by kernel_rfl) hP (by rfl) ?r hH ?_; case r => intro w' h; (try dsimp only at h); go_simp; try with_reducible rfl
 try simp only [Nm]
 refine Vi 4 ?_ rfl (by kernel_rfl) hP (by rfl) ?r hH ?_; case r => intro w' h; (try dsimp only at h); go_simp; try with_reducible rfl
 try simp only [Nm]
 refine Vi 5 ?_ rfl (by kernel_rfl) hP (by rfl) ?r hH ?_; case r => intro w' h; (try dsimp only at h); go_simp; try with_reducible rfl
 try simp only [Nm]
 refine Vi 6 ?_ rfl (by kernel_rfl) hP (by rfl) ?r hH ?_; case r => intro w' h; (try dsimp only at h); go_simp; try with_reducible rfl
 try simp only [Nm]
 refine Vi 7 ?_ rfl (by kernel_rfl) hP (by rfl) ?r hH ?_; case r => intro w' h; (try dsimp only at h); go_simp; try with_reducible rfl
 try simp only [Nm]
 refine Rd 8 (by kernel_rfl) rfl (fun K hK => ?_)
 have HK8 := hide hK
 clear hK
 go_simp
 refine Shut.out HK8.out _ _ hH (fun _ => ?_)
 try simp only [Nm]
 refine Vi 9 ?_ rfl (by kernel_rfl) hP (by rfl) ?r hH ?_; case r => intro w' h; (try dsimp only at h); go_simp; try with_reducible rfl
 try simp only [Nm]
 refine Vi 10 ?_ rfl (by kernel_rfl) hP (by rfl) ?r hH ?_; case r => intro w' h; (try dsimp only at h); go_simp; try with_reducible rfl
 try simp only [Nm]
 refine Vi 11 ?_ rfl (by kernel_rfl) hP (by rfl) ?r hH ?_; case r => intro w' h; (try dsimp only at h); go_simp; try with_reducible rfl
 try simp only [Nm]
 refine Vi 12 ?_ rfl (by kernel_rfl) hP (by rfl) ?r hH ?_; case r => intro w' h; (try dsimp only at h); go_simp; try with_reducible rfl
 try simp only [Nm]
 refine Vi 13 ?_ rfl (by kernel_rfl) hP (by rfl) ?r hH ?_; case r => intro w' h; (try dsimp only at h); go_simp; try with_reducible rfl
 try simp only [Nm]
 refine Vi 14 ?_ rfl (by kernel_rfl) hP (by rfl) ?r hH ?_; case r => intro w' h; (try dsimp only at h); go_simp; try with_reducible rfl
 try simp only [Nm]
 refine Vi 15 ?_ rfl (by kernel_rfl) hP (by rfl) ?r hH ?_; case r => intro w' h; (try dsimp only at h); go_simp; try with_reducible rfl
 try simp only [Nm]
 refine Vi 16 ?_ rfl (by kernel_rfl) hP (by rfl) ?r hH ?_; case r => intro w' h; (try dsimp only at h); go_simp; try with_reducible rfl
 try simp only [Nm]
 refine Vi 17 ?_ rfl (by kernel_rfl) hP (by rfl) ?r hH ?_; case r => intro w' h; (try dsimp only at h); go_simp; try with_reducible rfl
 try simp only [Nm]
 refine Vi 18 ?_ rfl (by kernel_rfl) hP (by rfl) ?r hH ?_; case r => intro w' h; (try dsimp only at h); go_simp; try with_reducible rfl
 try simp only [Nm]
 refine Vi 19 ?_ rfl (by kernel_rfl) hP (by rfl) ?r hH ?_; case r => intro w' h; (try dsimp only at h); go_simp; try with_reducible rfl
 try simp only [Nm]
 refine Rd 20 (by kernel_rfl) rfl (fun K hK => ?_)
 have HK20 := hide hK
 clear hK
 go_simp
 go_at_call 35
 refine (reckonsIt_any n t _).mono ?_
 rintro e w6 ⟨rfl, hbw6⟩
 have hS6 := ((hS3).later ((Below.refl _ _).drew)).later hbw6
 have hE6 := hE3.drew.below' hbw6
 clear p1 t0 t1 t2 n0 n1 n2 n3 n4 n5 ln lp lt' cm fm lgm es0 lr hH
 have p1 := hS6.p.cell 1
 have t0 := hS6.t.cell 0
 have t1 := hS6.t.cell 1
 have t2 := hS6.t.cell 2
 have lp := hS6.p.lt
 have lt' := hS6.t.lt
 simp only [Yl] at p1 t0 t1 t2
 have n0 := ((bcell hS6.below).1 nb _ hnb).trans d0
 have n1 := ((bcell hS6.below).1 nb _ hnb).trans d1
 have n2 := ((bcell hS6.below).1 nb _ hnb).trans d2
 have n3 := ((bcell hS6.below).1 nb _ hnb).trans d3
 have n4 := ((bcell hS6.below).1 nb _ hnb).trans d4
 have n5 := ((bcell hS6.below).1 nb _ hnb).trans d5
 have ln := Nat.lt_of_lt_of_le hnb hS6.below.size
 obtain ⟨cm, fm, lgm⟩ := hS6.at_ (i := 3) (by omega) hmm (gi := g3) rfl
 rw [upd_same, ← Hvm.out] at cm
 have es0 := hE6.cell_at hjm
 have lr := rowlt hE6
 refine Shut.out HK20.out _ _ ⟨p1, t0, t1, t2, n0, n1, n2, n3, n4, n5, es0⟩ (fun hH => ?_)
 try simp only [Nm]
 refine Vi 21 ?_ rfl (by kernel_rfl) hP (by rfl) ?r hH ?_; case r => intro w' h; (try dsimp only at h); go_simp; try with_reducible rfl
 try simp only [Nm]
 refine Vi 22 ?_ rfl (by kernel_rfl) hP (by rfl) ?r hH ?_; case r => intro w' h; (try dsimp only at h); go_simp; try with_reducible rfl
 try simp only [Nm]
 refine Vi 23 ?_ rfl (by kernel_rfl) hP (by rfl) ?r hH ?_; case r => intro w' h; (try dsimp only at h); go_simp; try with_reducible rfl
 try simp only [Nm]
 refine wpAnyH_done (by kernel_rfl) ?_ _
 clear hH HK8 HK20 p1 t0 t1 t2 n0 n1 n2 n3 n4 n5 ln lp lt' cm fm lgm es0 lr
 have HSn := hide (hS6)
 have HEn := hide (hE6)
 go_wp2_with fail
 go_roundg (es.length - (j + 1))
 case measure => have := Hgk3.out; omega
 case rel => exact ⟨j + 1, by omega, by go_num, rfl, by rw [Hb.out]; rfl, HSn.out, HEn.out⟩)))
 · (
 obtain ⟨ek, hek⟩ : ∃ b, b = yn (x 2) k := ⟨_, rfl⟩
 have hend : Sf y k = (ek || a0) := by rw [HSf.out, delay_eq t l (x 2) y hlt, delayA_end t l (x 2) y k j (by rw [← Hes.out]; omega), ← ha0, ← hek]
 obtain ⟨bb, hbb⟩ : ∃ b, b = (ek || a0) := ⟨_, rfl⟩
 have hstep := HSw.out.step HM.out hlt (b := bb) (by rw [hend, hbb])
 have Hstep := hide hstep
 have Hbb := hide hbb
 obtain ⟨ck, fk, lg⟩ := hS3.at_ (i := 3) (by omega) hlt (gi := g3) rfl
 have ce := (hS3.at_ (i := 2) (by omega) hlt (gi := g2) rfl).1
 rw [upd_other _ _ (by decide), ← hek] at ce
 have HS3 := hide hS3
 clear hend hstep hbb hS3 hE3 ha0 hek
 cases ek
 case true => (
 go_wp2_with fail
 go_roundg (l.length - (k + 1))
 case measure => have := Hgk2.out; omega
 case rel => (
 have h := HS3.out.set (i := 3) (by omega) k bb
 rw [upd_same, upd_upd] at h
 have hv : bb = true := by rw [Hbb.out]; simp
 refine ⟨k + 1, y.set k bb, by omega, by go_num, rfl, Hstep.out, ?_⟩
 rw [hv] at h ⊢
 exact h))
 case false => (
 go_wp2_with fail
 go_roundg (l.length - (k + 1))
 case measure => have := Hgk2.out; omega
 case rel => (
 have h := HS3.out.set (i := 3) (by omega) k bb
 rw [upd_same, upd_upd] at h
 have hv : bb = a0 := by rw [Hbb.out]; simp
 refine ⟨k + 1, y.set k bb, by omega, by go_num, rfl, Hstep.out, ?_⟩
 rw [hv] at h ⊢
 exact h)))))
 · (
 have hkk : k = l.length := by omega
 subst hkk
 have HS1 := hide hS1
 clear hS1
 go_wp2_with fail
 go_roundg (l.length + 1 - (c + 1))
 case measure => have := Hgk.out; omega
 case rel => exact ⟨c + 1, y, by omega, by go_num, rfl, HSw.out.turn, HS1.out⟩)))
 · (
 have hG : Great Sf l.length y := HSw.out.great HM.out (by omega)
 have HG := hide hG
 clear hG
 go_wp2_with fail
 refine ⟨rfl, ?_⟩
 refine HX.out _ _ y ?_ ?_ ?_ HS1.out
 · rfl
 · kernel_rfl
 · rw [← HSf.out]; exact HG.out)))
end
end Go.Proofs.YtmghkonmfbpjcabGreat
