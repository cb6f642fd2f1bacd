/- FactR3. -/
import Derived.Test.YtmghkonmfbpjcabGreatFactR1
import Derived.Test.YtmghkonmfbpjcabGreatGE
import Derived.Test.YtmghkonmfbpjcabGreatGA
set_option linter.unusedVariables false
set_option linter.unusedSimpArgs false
namespace Go.Proofs.YtmghkonmfbpjcabGreat
section
open Go.RowKit
set_option maxHeartbeats 8000000
attribute [local irreducible] Row madeCells
attribute [local go_sem] no_yes
set_option maxRecDepth 1000000 in
theorem rloop2 (regs : Int) (A : Option Addr) (l : List Nd) (cap : Nat) (t : Tm) (w : World) (hA : NodesAt w A l) (hR : Right regs l) (g0 g1 g2 g3 g4 g5 : Nat) (nx ax : Value) (x : Nat → List Bool) (a : Act) (W : World) (Rx : Act → World → Prop)
 (hd : a.defers = []) (ha : a.tmps = rfr regs A l cap t w.heap.size g0 g1 g2 g3 g4 g5 nx ax (lets a.tmps)) (hi : lets a.tmps 21 = .int .i64 0)
 (hS : RS regs A l cap t w g0 g1 g2 g3 g4 g5 nx ax l.length l.length x W) (hx : ∀ i, i < l.length → yn (x 1) i = true)
 (hexit : ∀ (a' : Act) (W' : World) (y : List Bool), a'.defers = [] → a'.tmps = rfr regs A l cap t w.heap.size g0 g1 g2 g3 g4 g5 nx ax (lets a'.tmps) → Great (selfT (flowS false false (noL l.length) (notL (noL l.length)) (mk l.length fun k => yn (keepL t l) k && yn (recL t l) k) (keepL t l) l) l.length) l.length y → RS regs A l cap t w g0 g1 g2 g3 g4 g5 nx ax l.length l.length (upd x 1 y) W' → Rx a' W') :
 Code.wp Tryz.prog (Code.loop (rloop 2)) (onlyExit 8 Rx) a W := by (
 conv => arg 2; arg 1; whnf
 obtain ⟨tm, df⟩ := a
 simp only at hd ha hi
 subst hd
 generalize lets tm = u at ha hi
 subst ha
 dsimp only [rfr]
 rw [hi]
 have hlo := hR.lo
 have hhi := hR.hi
 have HX := hide hexit
 obtain ⟨Sf, hSf⟩ : ∃ Sf, Sf = selfT (flowS false false (noL l.length) (notL (noL l.length)) (mk l.length fun k => yn (keepL t l) k && yn (recL t l) k) (keepL t l) l) l.length := ⟨_, rfl⟩
 have hm : Mono Sf := by rw [hSf]; exact selfT_mono (flowS_mono _ _ _ _ _ _ _)
 have HSf := hide hSf
 have HM := hide hm
 have hst : ∃ y, Sweep Sf l.length 0 0 y ∧ RS regs A l cap t w g0 g1 g2 g3 g4 g5 nx ax l.length l.length (upd x 1 y) W := ⟨x 1, Sweep.start (hS.rows 1 (by omega)).2 hx, by rw [upd_self]; exact hS⟩
 have Hst := hide hst
 obtain ⟨vn, e1, e2, e3⟩ := hS.ahd
 obtain ⟨gn, on, cn, _, hnx, _, _, _, _, _⟩ := e2.get (k := 0) (by omega)
 rw [e1] at hnx
 subst hnx
 clear hi hexit hSf hm hst hS hx e1 e2 e3
 go_loopg [21] (l.length + 1) (fun gk i wr => ∃ (c : Nat) (y : List Bool), c ≤ l.length + 1 ∧ i = .int .i64 c ∧ gk = l.length + 1 - c ∧ Sweep Sf l.length c 0 y ∧ RS regs A l cap t w g0 g1 g2 g3 g4 g5 nx (.slice (some ⟨gn, on, none⟩) l.length cn) l.length l.length (upd x 1 y) wr)
 case atStart => obtain ⟨y, h1, h2⟩ := Hst.out; exact ⟨0, y, Nat.zero_le _, rfl, rfl, h1, h2⟩
 case round => (
 obtain ⟨c, y, hc, rfl, hgk, h, hS1⟩ := hrel
 have Hgk := hide hgk
 have HSw := hide h
 clear hgk Hst h
 have s0 := hS1.s.cell 0
 have ls := hS1.s.lt
 simp only [List.getElem?_toArray, List.getElem?_cons_zero] at s0
 have HS1 := hide hS1
 clear hS1
 by_cases hcl : c ≤ l.length
 · (
 have cc : (c : Int) ≤ (l.length : Int) := by omega
 obtain ⟨wo, rfl⟩ : ∃ wo : World, wo = wr := ⟨_, rfl⟩
 obtain ⟨gk0, rfl⟩ : ∃ gk0 : Nat, gk0 = gk := ⟨_, rfl⟩
 go_wp2_with fail
 go_loopg [22] (l.length) (fun gk i wr => ∃ (k : Nat) (y : List Bool), k ≤ l.length ∧ i = .int .i64 k ∧ gk = l.length - k ∧ Sweep Sf l.length c k y ∧ RS regs A l cap t w g0 g1 g2 g3 g4 g5 nx (.slice (some ⟨gn, on, none⟩) l.length cn) l.length l.length (upd x 1 y) wr)
 case atStart => exact ⟨0, y, Nat.zero_le _, rfl, rfl, HSw.out, HS1.out⟩
 case round => (
 clear HS1 HSw s0 ls
 obtain ⟨k, y, hk, rfl, hgk2, h, hS1⟩ := hrel
 have Hgk2 := hide hgk2
 have HSw := hide h
 clear hgk2 h
 have s0 := hS1.s.cell 0
 have ls := hS1.s.lt
 simp only [List.getElem?_toArray, List.getElem?_cons_zero] at s0
 by_cases hlt : k < l.length
 · (
 obtain ⟨vn, e1, e2, e3⟩ := hS1.ahd
 obtain ⟨gn', on', cn', z, hnx, _, hgl, hz, hcz, _⟩ := e2.get (k := k) (by omega)
 obtain ⟨ea, eb⟩ : gn = gn' ∧ on = on' := by (
 injection hnx with hnx _ _
 injection hnx with hnx
 injection hnx with ea eb _
 exact ⟨ea, eb⟩)
 subst ea eb
 clear hnx
 obtain ⟨R, rc, ez, hrow⟩ := e3 k hlt
 rw [hz] at ez
 injection ez with ez
 subst ez
 have u0 : (0 : Int) ≤ (k : Int) := by omega
 have u1 : (k : Int) < (l.length : Int) := by omega
 have hel : (edgesOf false l k).length ≤ l.length := edges_le _ _ _
 have hS2 := hS1
 clear hz e1 e2 e3 hS1
 obtain ⟨es, hes⟩ : ∃ es, es = edgesOf false l k := ⟨_, rfl⟩
 rw [← hes] at hrow hcz hel
 have Hes := hide hes
 clear hes
 have hyl : y.length = l.length := HSw.out.len
 have h1row := (hS2.rows 1 (by omega)).1
 rw [upd_same] at h1row
 have h1row : Row wr w.heap.size 4 (.slice (some ⟨g1, 0, none⟩) l.length l.length) (bools y) := h1row
 obtain ⟨ck, fk⟩ := h1row.bool_at_ (k := k) (by rw [hyl]; exact hlt)
 have lg := rowlt h1row
 have ngR : (Value.slice R es.length rc).ownBlock ≠ some g1 := hrow.ne_blk h1row.blk.choose_spec (by decide)
 have Hng := hide ngR
 have Hrow := hide hrow
 have HS2 := hide hS2
 clear hS2 hrow ngR h1row
 go_wp2_with fail
 obtain ⟨wi, rfl⟩ : ∃ wi : World, wi = wr := ⟨_, rfl⟩
 go_loopg [24] (es.length) (fun gk i wr => ∃ j : Nat, j ≤ es.length ∧ i = .int .i64 j ∧ gk = es.length - j ∧ RS regs A l cap t w g0 g1 g2 g3 g4 g5 nx (.slice (some ⟨gn, on, none⟩) l.length cn) l.length l.length (upd x 1 (y.set k (upA t l y k j))) wr ∧ Row wr w.heap.size 3 (.slice R es.length rc) (ints es))
 case atStart => have h := HS2.out.set (i := 1) (by omega) k (decide (0 < es.length)); rw [upd_same, upd_upd] at h; exact ⟨0, Nat.zero_le _, rfl, rfl, by rw [upA_zero, ← Hes.out]; exact h, Hrow.out.far (p := ⟨g1, k, none⟩) Hng.out _⟩
 case round => (
 clear HS2 Hrow ck fk lg hcz s0 ls
 obtain ⟨j, hj, rfl, hgk3, hS3, hE3⟩ := hrel
 have Hgk3 := hide hgk3
 clear hgk3
 by_cases hjl : j < es.length
 · (
 obtain ⟨mm, n, hjm, hmm, hnm⟩ := edge_in (bk := false) (l := l) (k := k) (j := j) (by rw [← Hes.out]; exact hjl)
 have hstA := upA_step (t := t) (y := y) hjm hnm
 rw [← Hes.out] at hjm
 obtain ⟨rb, ro, rfl, lr, es0⟩ := hE3.int_at_ hjm
 obtain ⟨nb, no, n', rfl, hnb, hn', hnl⟩ := hA.get hmm
 obtain rfl : n = n' := by rw [hnm] at hn'; injection hn'
 obtain ⟨d0, d1, d2, d3, d4, d5⟩ := hnl
 have v0 : (0 : Int) ≤ (j : Int) := by omega
 have v1 : (j : Int) < (es.length : Int) := by omega
 have m0 : (0 : Int) ≤ (mm : Int) := by omega
 have m1 : (mm : Int) < (l.length : Int) := by omega
 obtain ⟨a0, ha0⟩ : ∃ a, a = upA t l y k j := ⟨_, rfl⟩
 rw [← ha0] at hS3 hstA
 obtain ⟨z, hz⟩ : ∃ z, z = y.set k a0 := ⟨_, rfl⟩
 rw [← hz] at hS3
 have hzk : yn z k = a0 := by rw [hz, yn_set _ _ _ _ (by rw [hyl]; exact hlt), if_pos rfl]
 obtain ⟨vm, hvm⟩ : ∃ b, b = yn z mm := ⟨_, rfl⟩
 have hb : upA t l y k (j + 1) = (a0 && (keepB t n && (vm || recB t n))) := by (
 rw [hstA]
 cases a0 with
 | false => rfl
 | true => rw [hvm, hz, run_read hyl hlt])
 have Hb := hide hb
 have Hz := hide hz
 have Hvm := hide hvm
 have nP : ¬ (w.heap.size = g1) := fun e => by have h := Blk.ne_ hS3.p (hS3.rows 1 (by omega)).1.blk.choose_spec (by decide); exact h e
 have nP' : ¬ (g1 = w.heap.size) := fun e => nP e.symm
 have nT : ¬ (w.heap.size + 1 = g1) := fun e => by have h := Blk.ne_ hS3.t (hS3.rows 1 (by omega)).1.blk.choose_spec (by decide); exact h e
 have nT' : ¬ (g1 = w.heap.size + 1) := fun e => nT e.symm
 have nN : ¬ (nb = g1) := fun e => by have h := rowge (hS3.rows 1 (by omega)).1; have h2 : w.heap.size ≤ g1 := h; omega
 have nN' : ¬ (g1 = nb) := fun e => nN e.symm
 have nR : ¬ (rb = g1) := fun e => Hng.out (by rw [← e]; rfl)
 have nR' : ¬ (g1 = rb) := fun e => nR e.symm
 clear hb hz hvm ha0 hstA hn' hnm
 clear es0 lr
 have p1 := hS3.p.cell 1
 have t0 := hS3.t.cell 0
 have t1 := hS3.t.cell 1
 have t2 := hS3.t.cell 2
 have lp := hS3.p.lt
 have lt' := hS3.t.lt
 simp only [Yl] at p1 t0 t1 t2
 have n0 := ((bcell hS3.below).1 nb _ hnb).trans d0
 have n1 := ((bcell hS3.below).1 nb _ hnb).trans d1
 have n2 := ((bcell hS3.below).1 nb _ hnb).trans d2
 have n3 := ((bcell hS3.below).1 nb _ hnb).trans d3
 have n4 := ((bcell hS3.below).1 nb _ hnb).trans d4
 have n5 := ((bcell hS3.below).1 nb _ hnb).trans d5
 have ln := Nat.lt_of_lt_of_le hnb hS3.below.size
 obtain ⟨ck, fk, lgk⟩ := hS3.at_ (i := 1) (by omega) hlt (gi := g1) rfl
 rw [upd_same, hzk] at ck
 obtain ⟨cm, fm, lgm⟩ := hS3.at_ (i := 1) (by omega) hmm (gi := g1) rfl
 rw [upd_same, ← Hvm.out] at cm
 have es0 := hE3.cell_at hjm
 have lr := rowlt hE3
 go_upto_region 34 with fail
 cases a0
 case false => (
 refine wp_region_held_drew (S := fun w' => (w'.cell? ⟨w.heap.size, 1, none⟩ = some (.slice (some ⟨nb, no, none⟩) l.length cap) ∧ w'.cell? ⟨w.heap.size + 1, 0, none⟩ = some (.int .i64 t.op) ∧ w'.cell? ⟨w.heap.size + 1, 1, none⟩ = some (.int .i64 t.a) ∧ w'.cell? ⟨w.heap.size + 1, 2, none⟩ = some (.int .i64 t.b) ∧ w'.cell? ⟨nb, no + mm * 6, none⟩ = some (.int .i64 n.op) ∧ w'.cell? ⟨nb, no + mm * 6 + 1, none⟩ = some (.int .i64 n.d) ∧ w'.cell? ⟨nb, no + mm * 6 + 2, none⟩ = some (.int .i64 n.a) ∧ w'.cell? ⟨nb, no + mm * 6 + 3, none⟩ = some (.int .i64 n.b) ∧ w'.cell? ⟨nb, no + mm * 6 + 4, none⟩ = some (.int .i64 n.t) ∧ w'.cell? ⟨nb, no + mm * 6 + 5, none⟩ = some (.int .i64 n.e) ∧ w'.cell? ⟨rb, ro + j, none⟩ = some (.int .i64 (mm : Int)))) (by kernel_rfl) ?_ ?_
 · exact ⟨p1, t0, t1, t2, n0, n1, n2, n3, n4, n5, es0⟩
 intro hH
 refine Up (fun _ _ _ _ _ => id) fun hP => ?_
 refine Vi 0 ?_ rfl (by kernel_rfl) hP (by rfl) ?r hH ?_; case r => intro w' h; (try dsimp only at h); go_simp; try with_reducible rfl
 try simp only [Nm]
 refine Vi 1 ?_ rfl (by kernel_rfl) hP (by rfl) ?r hH ?_; case r => intro w' h; (try dsimp only at h); go_simp; try with_reducible rfl
 try simp only [Nm]
 refine Vi 2 ?_ rfl (by kernel_rfl) hP (by rfl) ?r hH ?_; case r => intro w' h; (try dsimp only at h); go_simp; try with_reducible rfl
 try simp only [Nm]
 refine Vi 3 ?_ rfl (by kernel_rfl) hP (by rfl) ?r hH ?_; case r => intro w' h; (try dsimp only at h); go_simp; try with_reducible rfl
 try simp only [Nm]
 refine Vi 4 ?_ rfl (by kernel_rfl) hP (by rfl) ?r hH ?_; case r => intro w' h; (try dsimp only at h); go_simp; try with_reducible rfl
 try simp only [Nm]
 refine Rd 5 (by kernel_rfl) rfl (fun K hK => ?_)
 have HK5 := hide hK
 clear hK
 go_simp
 refine Shut.out HK5.out _ _ hH (fun _ => ?_)
 try simp only [Nm]
 refine Vi 6 ?_ rfl (by kernel_rfl) hP (by rfl) ?r hH ?_; case r => intro w' h; (try dsimp only at h); go_simp; try with_reducible rfl
 try simp only [Nm]
 refine Vn 7 rfl (by kernel_rfl) hP (by rfl) hH ?_
 try simp only [Nm]
 refine Vn 8 rfl (by kernel_rfl) hP (by rfl) hH ?_
 try simp only [Nm]
 refine Vn 9 rfl (by kernel_rfl) hP (by rfl) hH ?_
 try simp only [Nm]
 refine Vn 10 rfl (by kernel_rfl) hP (by rfl) hH ?_
 try simp only [Nm]
 refine Vn 11 rfl (by kernel_rfl) hP (by rfl) hH ?_
 try simp only [Nm]
 refine Vn 12 rfl (by kernel_rfl) hP (by rfl) hH ?_
 try simp only [Nm]
 refine Vn 13 rfl (by kernel_rfl) hP (by rfl) hH ?_
 try simp only [Nm]
 refine Vn 14 rfl (by kernel_rfl) hP (by rfl) hH ?_
 try simp only [Nm]
 refine Vn 15 rfl (by kernel_rfl) hP (by rfl) hH ?_
 try simp only [Nm]
 refine Vn 16 rfl (by kernel_rfl) hP (by rfl) hH ?_
 try simp only [Nm]
 refine Vi 17 ?_ rfl (by kernel_rfl) hP (by rfl) ?r hH ?_; case r => intro w' h; (try dsimp only at h); go_simp; try with_reducible rfl
 try simp only [Nm]
 refine Vi 18 ?_ rfl (by kernel_rfl) hP (by rfl) ?r hH ?_; case r => intro w' h; (try dsimp only at h); go_simp; try with_reducible rfl
 try simp only [Nm]
 refine Vn 19 rfl (by kernel_rfl) hP (by rfl) hH ?_
 try simp only [Nm]
 refine Vn 20 rfl (by kernel_rfl) hP (by rfl) hH ?_
 try simp only [Nm]
 refine Vn 21 rfl (by kernel_rfl) hP (by rfl) hH ?_
 try simp only [Nm]
 refine Vn 22 rfl (by kernel_rfl) hP (by rfl) hH ?_
 try simp only [Nm]
 refine Vn 23 rfl (by kernel_rfl) hP (by rfl) hH ?_
 try simp only [Nm]
 refine Vn 24 rfl (by kernel_rfl) hP (by rfl) hH ?_
 try simp only [Nm]
 refine Vn 25 rfl (by kernel_rfl) hP (by rfl) hH ?_
 try simp only [Nm]
 refine Vn 26 rfl (by kernel_rfl) hP (by rfl) hH ?_
 try simp only [Nm]
 refine Vn 27 rfl (by kernel_rfl) hP (by rfl) hH ?_
 try simp only [Nm]
 refine Vn 28 rfl (by kernel_rfl) hP (by rfl) hH ?_
 try simp only [Nm]
 refine Vn 29 rfl (by kernel_rfl) hP (by rfl) hH ?_
 try simp only [Nm]
 refine Vn 30 rfl (by kernel_rfl) hP (by rfl) hH ?_
 try simp only [Nm]
 refine Vn 31 rfl (by kernel_rfl) hP (by rfl) hH ?_
 try simp only [Nm]
 refine Vn 32 rfl (by kernel_rfl) hP (by rfl) hH ?_
 try simp only [Nm]
 refine Vn 33 rfl (by kernel_rfl) hP (by rfl) hH ?_
 try simp only [Nm]
 refine Vn 34 rfl (by kernel_rfl) hP (by rfl) hH ?_
 try simp only [Nm]
 refine Vn 35 rfl (by kernel_rfl) hP (by rfl) hH ?_
 try simp only [Nm]
 refine Vn 36 rfl (by kernel_rfl) hP (by rfl) hH ?_
 try simp only [Nm]
 refine Vn 37 rfl (by kernel_rfl) hP (by rfl) hH ?_
 try simp only [Nm]
 refine Vi 38 ?_ rfl (by kernel_rfl) hP (by rfl) ?r hH ?_; case r => intro w' h; (try dsimp only at h); go_simp; try with_reducible rfl
 try simp only [Nm]
 refine Vi 39 ?_ rfl (by kernel_rfl) hP (by rfl) ?r hH ?_; case r => intro w' h; (try dsimp only at h); go_simp; try with_reducible rfl
 try simp only [Nm]
 refine Rd 40 (by kernel_rfl) rfl (fun K hK => ?_)
 have HK40 := hide hK
 clear hK
 go_simp
 refine Shut.out HK40.out _ _ ?_ (fun _ => ?_)
 · refine ⟨?_, ?_, ?_, ?_, ?_, ?_, ?_, ?_, ?_, ?_, ?_⟩ <;> first | assumption | go_keep
 try simp only [Nm]
 refine wpAnyH_done (by kernel_rfl) ?_ _
 clear hH HK5 HK40 p1 t0 t1 t2 n0 n1 n2 n3 n4 n5 ln lp lt' ck fk lgk cm fm lgm es0 lr
 go_wp2_with fail
 go_roundg (es.length - (j + 1))
 case measure => have := Hgk3.out; omega
 case rel => (
 have h := ((hS3).later ((Below.refl _ _).drew)).set (i := 1) (by omega) k false
 rw [upd_same, upd_upd, Hz.out, List.set_set] at h
 refine ⟨j + 1, by omega, by go_num, rfl, ?_, (hE3.drew).far (p := ⟨g1, k, none⟩) Hng.out _⟩
 rw [Hb.out, Bool.false_and]
 exact h))
 case true => (
 cases h2 : keepB t n
 case false => (
 refine wp_region_held_drew (S := fun w' => (w'.cell? ⟨w.heap.size, 1, none⟩ = some (.slice (some ⟨nb, no, none⟩) l.length cap) ∧ w'.cell? ⟨w.heap.size + 1, 0, none⟩ = some (.int .i64 t.op) ∧ w'.cell? ⟨w.heap.size + 1, 1, none⟩ = some (.int .i64 t.a) ∧ w'.cell? ⟨w.heap.size + 1, 2, none⟩ = some (.int .i64 t.b) ∧ w'.cell? ⟨nb, no + mm * 6, none⟩ = some (.int .i64 n.op) ∧ w'.cell? ⟨nb, no + mm * 6 + 1, none⟩ = some (.int .i64 n.d) ∧ w'.cell? ⟨nb, no + mm * 6 + 2, none⟩ = some (.int .i64 n.a) ∧ w'.cell? ⟨nb, no + mm * 6 + 3, none⟩ = some (.int .i64 n.b) ∧ w'.cell? ⟨nb, no + mm * 6 + 4, none⟩ = some (.int .i64 n.t) ∧ w'.cell? ⟨nb, no + mm * 6 + 5, none⟩ = some (.int .i64 n.e) ∧ w'.cell? ⟨rb, ro + j, none⟩ = some (.int .i64 (mm : Int)))) (by kernel_rfl) ?_ ?_
 · exact ⟨p1, t0, t1, t2, n0, n1, n2, n3, n4, n5, es0⟩
 intro hH
 refine Up (fun _ _ _ _ _ => id) fun hP => ?_
 refine Vi 0 ?_ rfl (by kernel_rfl) hP (by rfl) ?r hH ?_; case r => intro w' h; (try dsimp only at h); go_simp; try with_reducible rfl
 try simp only [Nm]
 refine Vi 1 ?_ rfl (by kernel_rfl) hP (by rfl) ?r hH ?_; case r => intro w' h; (try dsimp only at h); go_simp; try with_reducible rfl
 try simp only [Nm]
 refine Vi 2 ?_ rfl (by kernel_rfl) hP (by rfl) ?r hH ?_; case r => intro w' h; (try dsimp only at h); go_simp; try with_reducible rfl
 try simp only [Nm]
 refine Vi 3 ?_ rfl (by kernel_rfl) hP (by rfl) ?r hH ?_; case r => intro w' h; (try dsimp only at h); go_simp; try with_reducible rfl
 try simp only [Nm]
 refine Vi 4 ?_ rfl (by kernel_rfl) hP (by rfl) ?r hH ?_; case r => intro w' h; (try dsimp only at h); go_simp; try with_reducible rfl
 try simp only [Nm]
 refine Rd 5 (by kernel_rfl) rfl (fun K hK => ?_)
 have HK5 := hide hK
 clear hK
 go_simp
 refine Shut.out HK5.out _ _ hH (fun _ => ?_)
 try simp only [Nm]
 refine Vi 6 ?_ rfl (by kernel_rfl) hP (by rfl) ?r hH ?_; case r => intro w' h; (try dsimp only at h); go_simp; try with_reducible rfl
 try simp only [Nm]
 refine Vi 7 ?_ rfl (by kernel_rfl) hP (by rfl) ?r hH ?_; case r => intro w' h; (try dsimp only at h); go_simp; try with_reducible rfl
 try simp only [Nm]
 refine Vi 8 ?_ rfl (by kernel_rfl) hP (by rfl) ?r hH ?_; case r => intro w' h; (try dsimp only at h); go_simp; try with_reducible rfl
 try simp only [Nm]
 refine Vi 9 ?_ rfl (by kernel_rfl) hP (by rfl) ?r hH ?_; case r => intro w' h; (try dsimp only at h); go_simp; try with_reducible rfl
 try simp only [Nm]
 refine Vi 10 ?_ rfl (by kernel_rfl) hP (by rfl) ?r hH ?_; case r => intro w' h; (try dsimp only at h); go_simp; try with_reducible rfl
 try simp only [Nm]
 refine Vi 11 ?_ rfl (by kernel_rfl) hP (by rfl) ?r hH ?_; case r => intro w' h; (try dsimp only at h); go_simp; try with_reducible rfl
 try simp only [Nm]
 refine Vi 12 ?_ rfl (by kernel_rfl) hP (by rfl) ?r hH ?_; case r => intro w' h; (try dsimp only at h); go_simp; try with_reducible rfl
 try simp only [Nm]
 refine Vi 13 ?_ rfl (by kernel_rfl) hP (by rfl) ?r hH ?_; case r => intro w' h; (try dsimp only at h); go_simp; try with_reducible rfl
 try simp only [Nm]
 refine Vi 14 ?_ rfl (by kernel_rfl) hP (by rfl) ?r hH ?_; case r => intro w' h; (try dsimp only at h); go_simp; try with_reducible rfl
 try simp only [Nm]
 refine Vi 15 ?_ rfl (by kernel_rfl) hP (by rfl) ?r hH ?_; case r => intro w' h; (try dsimp only at h); go_simp; try with_reducible rfl
 try simp only [Nm]
 refine Rd 16 (by kernel_rfl) rfl (fun K hK => ?_)
 have HK16 := hide hK
 clear hK
 go_simp
 go_at_call 37
 refine (keepsIt_any n t _).mono ?_
 rw [h2]
 rintro e w6 ⟨rfl, hbw6⟩
 have hS6 := ((hS3).later ((Below.refl _ _).drew)).later hbw6
 have hE6 := hE3.drew.below' hbw6
 clear p1 t0 t1 t2 n0 n1 n2 n3 n4 n5 ln lp lt' ck fk lgk cm fm lgm es0 lr hH
 have p1 := hS6.p.cell 1
 have t0 := hS6.t.cell 0
 have t1 := hS6.t.cell 1
 have t2 := hS6.t.cell 2
 have lp := hS6.p.lt
 have lt' := hS6.t.lt
 simp only [Yl] at p1 t0 t1 t2
 have n0 := ((bcell hS6.below).1 nb _ hnb).trans d0
 have n1 := ((bcell hS6.below).1 nb _ hnb).trans d1
 have n2 := ((bcell hS6.below).1 nb _ hnb).trans d2
 have n3 := ((bcell hS6.below).1 nb _ hnb).trans d3
 have n4 := ((bcell hS6.below).1 nb _ hnb).trans d4
 have n5 := ((bcell hS6.below).1 nb _ hnb).trans d5
 have ln := Nat.lt_of_lt_of_le hnb hS6.below.size
 obtain ⟨ck, fk, lgk⟩ := hS6.at_ (i := 1) (by omega) hlt (gi := g1) rfl
 rw [upd_same, hzk] at ck
 obtain ⟨cm, fm, lgm⟩ := hS6.at_ (i := 1) (by omega) hmm (gi := g1) rfl
 rw [upd_same, ← Hvm.out] at cm
 have es0 := hE6.cell_at hjm
 have lr := rowlt hE6
 refine Shut.out HK16.out _ _ ⟨p1, t0, t1, t2, n0, n1, n2, n3, n4, n5, es0⟩ (fun hH => ?_)
 try simp only [Nm]
 refine Vi 17 ?_ rfl (by kernel_rfl) hP (by rfl) ?r hH ?_; case r => intro w' h; (try dsimp only at h); go_simp; try with_reducible rfl
 try simp only [Nm]
 refine Vi 18 ?_ rfl (by kernel_rfl) hP (by rfl) ?r hH ?_; case r => intro w' h; (try dsimp only at h); go_simp; try with_reducible rfl
 try simp only [Nm]
 refine Vn 19 rfl (by kernel_rfl) hP (by rfl) hH ?_
 try simp only [Nm]
 refine Vn 20 rfl (by kernel_rfl) hP (by rfl) hH ?_
 try simp only [Nm]
 refine Vn 21 rfl (by kernel_rfl) hP (by rfl) hH ?_
 try simp only [Nm]
 refine Vn 22 rfl (by kernel_rfl) hP (by rfl) hH ?_
 try simp only [Nm]
 refine Vn 23 rfl (by kernel_rfl) hP (by rfl) hH ?_
 try simp only [Nm]
 refine Vn 24 rfl (by kernel_rfl) hP (by rfl) hH ?_
 try simp only [Nm]
 refine Vn 25 rfl (by kernel_rfl) hP (by rfl) hH ?_
 try simp only [Nm]
 refine Vn 26 rfl (by kernel_rfl) hP (by rfl) hH ?_
 try simp only [Nm]
 refine Vn 27 rfl (by kernel_rfl) hP (by rfl) hH ?_
 try simp only [Nm]
 refine Vn 28 rfl (by kernel_rfl) hP (by rfl) hH ?_
 try simp only [Nm]
 refine Vn 29 rfl (by kernel_rfl) hP (by rfl) hH ?_
 try simp only [Nm]
 refine Vn 30 rfl (by kernel_rfl) hP (by rfl) hH ?_
 try simp only [Nm]
 refine Vn 31 rfl (by kernel_rfl) hP (by rfl) hH ?_
 try simp only [Nm]
 refine Vn 32 rfl (by kernel_rfl) hP (by rfl) hH ?_
 try simp only [Nm]
 refine Vn 33 rfl (by kernel_rfl) hP (by rfl) hH ?_
 try simp only [Nm]
 refine Vn 34 rfl (by kernel_rfl) hP (by rfl) hH ?_
 try simp only [Nm]
 refine Vn 35 rfl (by kernel_rfl) hP (by rfl) hH ?_
 try simp only [Nm]
 refine Vn 36 rfl (by kernel_rfl) hP (by rfl) hH ?_
 try simp only [Nm]
 refine Vn 37 rfl (by kernel_rfl) hP (by rfl) hH ?_
 try simp only [Nm]
 refine Vi 38 ?_ rfl (by kernel_rfl) hP (by rfl) ?r hH ?_; case r => intro w' h; (try dsimp only at h); go_simp; try with_reducible rfl
 try simp only [Nm]
 refine Vi 39 ?_ rfl (by kernel_rfl) hP (by rfl) ?r hH ?_; case r => intro w' h; (try dsimp only at h); go_simp; try with_reducible rfl
 try simp only [Nm]
 refine Rd 40 (by kernel_rfl) rfl (fun K hK => ?_)
 have HK40 := hide hK
 clear hK
 go_simp
 refine Shut.out HK40.out _ _ ?_ (fun _ => ?_)
 · refine ⟨?_, ?_, ?_, ?_, ?_, ?_, ?_, ?_, ?_, ?_, ?_⟩ <;> first | assumption | go_keep
 try simp only [Nm]
 refine wpAnyH_done (by kernel_rfl) ?_ _
 clear hH HK5 HK16 HK40 p1 t0 t1 t2 n0 n1 n2 n3 n4 n5 ln lp lt' ck fk lgk cm fm lgm es0 lr
 go_wp2_with fail
 go_roundg (es.length - (j + 1))
 case measure => have := Hgk3.out; omega
 case rel => (
 have h := (hS6).set (i := 1) (by omega) k false
 rw [upd_same, upd_upd, Hz.out, List.set_set] at h
 refine ⟨j + 1, by omega, by go_num, rfl, ?_, (hE6).far (p := ⟨g1, k, none⟩) Hng.out _⟩
 rw [Hb.out, h2, Bool.true_and, Bool.false_and]
 exact h))
 case true => (
 cases vm
 case true => (
 refine wp_region_held_drew (S := fun w' => (w'.cell? ⟨w.heap.size, 1, none⟩ = some (.slice (some ⟨nb, no, none⟩) l.length cap) ∧ w'.cell? ⟨w.heap.size + 1, 0, none⟩ = some (.int .i64 t.op) ∧ w'.cell? ⟨w.heap.size + 1, 1, none⟩ = some (.int .i64 t.a) ∧ w'.cell? ⟨w.heap.size + 1, 2, none⟩ = some (.int .i64 t.b) ∧ w'.cell? ⟨nb, no + mm * 6, none⟩ = some (.int .i64 n.op) ∧ w'.cell? ⟨nb, no + mm * 6 + 1, none⟩ = some (.int .i64 n.d) ∧ w'.cell? ⟨nb, no + mm * 6 + 2, none⟩ = some (.int .i64 n.a) ∧ w'.cell? ⟨nb, no + mm * 6 + 3, none⟩ = some (.int .i64 n.b) ∧ w'.cell? ⟨nb, no + mm * 6 + 4, none⟩ = some (.int .i64 n.t) ∧ w'.cell? ⟨nb, no + mm * 6 + 5, none⟩ = some (.int .i64 n.e) ∧ w'.cell? ⟨rb, ro + j, none⟩ = some (.int .i64 (mm : Int)))) (by kernel_rfl) ?_ ?_
 · exact ⟨p1, t0, t1, t2, n0, n1, n2, n3, n4, n5, es0⟩
 intro hH
 refine Up (fun _ _ _ _ _ => id) fun hP => ?_
 refine Vi 0 ?_ rfl (by kernel_rfl) hP (by rfl) ?r hH ?_; case r => intro w' h; (try dsimp only at h); go_simp; try with_reducible rfl
 try simp only [Nm]
 refine Vi 1 ?_ rfl (by kernel_rfl) hP (by rfl) ?r hH ?_; case r => intro w' h; (try dsimp only at h); go_simp; try with_reducible rfl
 try simp only [Nm]
 refine Vi 2 ?_ rfl (by kernel_rfl) hP (by rfl) ?r hH ?_; case r => intro w' h; (try dsimp only at h); go_simp; try with_reducible rfl
 try simp only [Nm]
 refine Vi 3 ?_ rfl (by kernel_rfl) hP (by rfl) ?r hH ?_; case r => intro w' h; (try dsimp only at h); go_simp; try with_reducible rfl
 try simp only [Nm]
 refine Vi 4 ?_ rfl (by kernel_rfl) hP (by rfl) ?r hH ?_; case r => intro w' h; (try dsimp only at h); go_simp; try with_reducible rfl
 try simp only [Nm]
 refine Rd 5 (by kernel_rfl) rfl (fun K hK => ?_)
 have HK5 := hide hK
 clear hK
 go_simp
 refine Shut.out HK5.out _ _ hH (fun _ => ?_)
 try simp only [Nm]
 refine Vi 6 ?_ rfl (by kernel_rfl) hP (by rfl) ?r hH ?_; case r => intro w' h; (try dsimp only at h); go_simp; try with_reducible rfl
 try simp only [Nm]
 refine Vi 7 ?_ rfl (by kernel_rfl) hP (by rfl) ?r hH ?_; case r => intro w' h; (try dsimp only at h); go_simp; try with_reducible rfl
 try simp only [Nm]
 refine Vi 8 ?_ rfl (by kernel_rfl) hP (by rfl) ?r hH ?_; case r => intro w' h; (try dsimp only at h); go_simp; try with_reducible rfl
 try simp only [Nm]
 refine Vi 9 ?_ rfl (by kernel_rfl) hP (by rfl) ?r hH ?_; case r => intro w' h; (try dsimp only at h); go_simp; try with_reducible rfl
 try simp only [Nm]
 refine Vi 10 ?_ rfl (by kernel_rfl) hP (by rfl) ?r hH ?_; case r => intro w' h; (try dsimp only at h); go_simp; try with_reducible rfl
 try simp only [Nm]
 refine Vi 11 ?_ rfl (by kernel_rfl) hP (by rfl) ?r hH ?_; case r => intro w' h; (try dsimp only at h); go_simp; try with_reducible rfl
 try simp only [Nm]
 refine Vi 12 ?_ rfl (by kernel_rfl) hP (by rfl) ?r hH ?_; case r => intro w' h; (try dsimp only at h); go_simp; try with_reducible rfl
 try simp only [Nm]
 refine Vi 13 ?_ rfl (by kernel_rfl) hP (by rfl) ?r hH ?_; case r => intro w' h; (try dsimp only at h); go_simp; try with_reducible rfl
 try simp only [Nm]
 refine Vi 14 ?_ rfl (by kernel_rfl) hP (by rfl) ?r hH ?_; case r => intro w' h; (try dsimp only at h); go_simp; try with_reducible rfl
 try simp only [Nm]
 refine Vi 15 ?_ rfl (by kernel_rfl) hP (by rfl) ?r hH ?_; case r => intro w' h; (try dsimp only at h); go_simp; try with_reducible rfl
 try simp only [Nm]
 refine Rd 16 (by kernel_rfl) rfl (fun K hK => ?_)
 have HK16 := hide hK
 clear hK
 go_simp
 go_at_call 37
 refine (keepsIt_any n t _).mono ?_
 rw [h2]
 rintro e w6 ⟨rfl, hbw6⟩
 have hS6 := ((hS3).later ((Below.refl _ _).drew)).later hbw6
 have hE6 := hE3.drew.below' hbw6
 clear p1 t0 t1 t2 n0 n1 n2 n3 n4 n5 ln lp lt' ck fk lgk cm fm lgm es0 lr hH
 have p1 := hS6.p.cell 1
 have t0 := hS6.t.cell 0
 have t1 := hS6.t.cell 1
 have t2 := hS6.t.cell 2
 have lp := hS6.p.lt
 have lt' := hS6.t.lt
 simp only [Yl] at p1 t0 t1 t2
 have n0 := ((bcell hS6.below).1 nb _ hnb).trans d0
 have n1 := ((bcell hS6.below).1 nb _ hnb).trans d1
 have n2 := ((bcell hS6.below).1 nb _ hnb).trans d2
 have n3 := ((bcell hS6.below).1 nb _ hnb).trans d3
 have n4 := ((bcell hS6.below).1 nb _ hnb).trans d4
 have n5 := ((bcell hS6.below).1 nb _ hnb).trans d5
 have ln := Nat.lt_of_lt_of_le hnb hS6.below.size
 obtain ⟨ck, fk, lgk⟩ := hS6.at_ (i := 1) (by omega) hlt (gi := g1) rfl
 rw [upd_same, hzk] at ck
 obtain ⟨cm, fm, lgm⟩ := hS6.at_ (i := 1) (by omega) hmm (gi := g1) rfl
 rw [upd_same, ← Hvm.out] at cm
 have es0 := hE6.cell_at hjm
 have lr := rowlt hE6
 refine Shut.out HK16.out _ _ ⟨p1, t0, t1, t2, n0, n1, n2, n3, n4, n5, es0⟩ (fun hH => ?_)
 try simp only [Nm]
 refine Vi 17 ?_ rfl (by kernel_rfl) hP (by rfl) ?r hH ?_; case r => intro w' h; (try dsimp only at h); go_simp; try with_reducible rfl
 try simp only [Nm]
 refine Vi 18 ?_ rfl (by kernel_rfl) hP (by rfl) ?r hH ?_; case r => intro w' h; (try dsimp only at h); go_simp; try with_reducible rfl
 try simp only [Nm]
 refine Vi 19 ?_ rfl (by kernel_rfl) hP (by rfl) ?r hH ?_; case r => intro w' h; (try dsimp only at h); go_simp; try with_reducible rfl
 try simp only [Nm]
 refine Vi 20 ?_ rfl (by kernel_rfl) hP (by rfl) ?r hH ?_; case r => intro w' h; (try dsimp only at h); go_simp; try with_reducible rfl
 try simp only [Nm]
 refine Vi 21 ?_ rfl (by kernel_rfl) hP (by rfl) ?r hH ?_; case r => intro w' h; (try dsimp only at h); go_simp; try with_reducible rfl
 try simp only [Nm]
 refine Vi 22 ?_ rfl (by kernel_rfl) hP (by rfl) ?r hH ?_; case r => intro w' h; (try dsimp only at h); go_simp; try with_reducible rfl
 try simp only [Nm]
 refine Vi 23 ?_ rfl (by kernel_rfl) hP (by rfl) ?r hH ?_; case r => intro w' h; (try dsimp only at h); go_simp; try with_reducible rfl
 try simp only [Nm]
 refine Vi 24 ?_ rfl (by kernel_rfl) hP (by rfl) ?r hH ?_; case r => intro w' h; (try dsimp only at h); go_simp; try with_reducible rfl
 try simp only [Nm]
 refine Rd 25 (by kernel_rfl) rfl (fun K hK => ?_)
 have HK25 := hide hK
 clear hK
 go_simp
 refine Shut.out HK25.out _ _ hH (fun _ => ?_)
 try simp only [Nm]
 refine Vi 26 ?_ rfl (by kernel_rfl) hP (by rfl) ?r hH ?_; case r => intro w' h; (try dsimp only at h); go_simp; try with_reducible rfl
 try simp only [Nm]
 refine Vn 27 rfl (by kernel_rfl) hP (by rfl) hH ?_
 try simp only [Nm]
 refine Vn 28 rfl (by kernel_rfl) hP (by rfl) hH ?_
 try simp only [Nm]
 refine Vn 29 rfl (by kernel_rfl) hP (by rfl) hH ?_
 try simp only [Nm]
 refine Vn 30 rfl (by kernel_rfl) hP (by rfl) hH ?_
 try simp only [Nm]
 refine Vn 31 rfl (by kernel_rfl) hP (by rfl) hH ?_
 try simp only [Nm]
 refine Vn 32 rfl (by kernel_rfl) hP (by rfl) hH ?_
 try simp only [Nm]
 refine Vn 33 rfl (by kernel_rfl) hP (by rfl) hH ?_
 try simp only [Nm]
 refine Vn 34 rfl (by kernel_rfl) hP (by rfl) hH ?_
 try simp only [Nm]
 refine Vn 35 rfl (by kernel_rfl) hP (by rfl) hH ?_
 try simp only [Nm]
 refine Vn 36 rfl (by kernel_rfl) hP (by rfl) hH ?_
 try simp only [Nm]
 refine Vi 37 ?_ rfl (by kernel_rfl) hP (by rfl) ?r hH ?_; case r => intro w' h; (try dsimp only at h); go_simp; try with_reducible rfl
 try simp only [Nm]
 refine Vi 38 ?_ rfl (by kernel_rfl) hP (by rfl) ?r hH ?_; case r => intro w' h; (try dsimp only at h); go_simp; try with_reducible rfl
 try simp only [Nm]
 refine Vi 39 ?_ rfl (by kernel_rfl) hP (by rfl) ?r hH ?_; case r => intro w' h; (try dsimp only at h); go_simp; try with_reducible rfl
 try simp only [Nm]
 refine Rd 40 (by kernel_rfl) rfl (fun K hK => ?_)
 have HK40 := hide hK
 clear hK
 go_simp
 refine Shut.out HK40.out _ _ ?_ (fun _ => ?_)
 · refine ⟨?_, ?_, ?_, ?_, ?_, ?_, ?_, ?_, ?_, ?_, ?_⟩ <;> first | assumption | go_keep
 try simp only [Nm]
 refine wpAnyH_done (by kernel_rfl) ?_ _
 clear hH HK5 HK16 HK25 HK40 p1 t0 t1 t2 n0 n1 n2 n3 n4 n5 ln lp lt' ck fk lgk cm fm lgm es0 lr
 go_wp2_with fail
 go_roundg (es.length - (j + 1))
 case measure => have := Hgk3.out; omega
 case rel => (
 have h := (hS6).set (i := 1) (by omega) k true
 rw [upd_same, upd_upd, Hz.out, List.set_set] at h
 refine ⟨j + 1, by omega, by go_num, rfl, ?_, (hE6).far (p := ⟨g1, k, none⟩) Hng.out _⟩
 rw [Hb.out, h2, Bool.true_and, Bool.true_and, Bool.true_or]
 exact h))
 case false => (
 refine wp_region_held_drew (S := fun w' => (w'.cell? ⟨w.heap.size, 1, none⟩ = some (.slice (some ⟨nb, no, none⟩) l.length cap) ∧ w'.cell? ⟨w.heap.size + 1, 0, none⟩ = some (.int .i64 t.op) ∧ w'.cell? ⟨w.heap.size + 1, 1, none⟩ = some (.int .i64 t.a) ∧ w'.cell? ⟨w.heap.size + 1, 2, none⟩ = some (.int .i64 t.b) ∧ w'.cell? ⟨nb, no + mm * 6, none⟩ = some (.int .i64 n.op) ∧ w'.cell? ⟨nb, no + mm * 6 + 1, none⟩ = some (.int .i64 n.d) ∧ w'.cell? ⟨nb, no + mm * 6 + 2, none⟩ = some (.int .i64 n.a) ∧ w'.cell? ⟨nb, no + mm * 6 + 3, none⟩ = some (.int .i64 n.b) ∧ w'.cell? ⟨nb, no + mm * 6 + 4, none⟩ = some (.int .i64 n.t) ∧ w'.cell? ⟨nb, no + mm * 6 + 5, none⟩ = some (.int .i64 n.e) ∧ w'.cell? ⟨rb, ro + j, none⟩ = some (.int .i64 (mm : Int)))) (by kernel_rfl) ?_ ?_
 · exact ⟨p1, t0, t1, t2, n0, n1, n2, n3, n4, n5, es0⟩
 intro hH
 refine Up (fun _ _ _ _ _ => id) fun hP => ?_
 refine Vi 0 ?_ rfl (by kernel_rfl) hP (by rfl) ?r hH ?_; case r => intro w' h; (try dsimp only at h); go_simp; try with_reducible rfl
 try simp only [Nm]
 refine Vi 1 ?_ rfl (by kernel_rfl) hP (by rfl) ?r hH ?_; case r => intro w' h; (try dsimp only at h); go_simp; try with_reducible rfl
 try simp only [Nm]
 refine Vi 2 ?_ rfl (by kernel_rfl) hP (by rfl) ?r hH ?_; case r => intro w' h; (try dsimp only at h); go_simp; try with_reducible rfl
 try simp only [Nm]
 refine Vi 3 ?_ rfl (by kernel_rfl) hP (by rfl) ?r hH ?_; case r => intro w' h; (try dsimp only at h); go_simp; try with_reducible rfl
 try simp only [Nm]
 refine Vi 4 ?_ rfl (by kernel_rfl) hP (by rfl) ?r hH ?_; case r => intro w' h; (try dsimp only at h); go_simp; try with_reducible rfl
 try simp only [Nm]
 refine Rd 5 (by kernel_rfl) rfl (fun K hK => ?_)
 have HK5 := hide hK
 clear hK
 go_simp
 refine Shut.out HK5.out _ _ hH (fun _ => ?_)
 try simp only [Nm]
 refine Vi 6 ?_ rfl (by kernel_rfl) hP (by rfl) ?r hH ?_; case r => intro w' h; (try dsimp only at h); go_simp; try with_reducible rfl
 try simp only [Nm]
 refine Vi 7 ?_ rfl (by kernel_rfl) hP (by rfl) ?r hH ?_; case r => intro w' h; (try dsimp only at h); go_simp; try with_reducible rfl
 try simp only [Nm]
 refine Vi 8 ?_ rfl (by kernel_rfl) hP (by rfl) ?r hH ?_; case r => intro w' h; (try dsimp only at h); go_simp; try with_reducible rfl
 try simp only [Nm]
 refine Vi 9 ?_ rfl (by kernel_rfl) hP (by rfl) ?r hH ?_; case r => intro w' h; (try dsimp only at h); go_simp; try with_reducible rfl
 try simp only [Nm]
 refine Vi 10 ?_ rfl (by kernel_rfl) hP (by rfl) ?r hH ?_; case r => intro w' h; (try dsimp only at h); go_simp; try with_reducible rfl
 try simp only [Nm]
 refine Vi 11 ?_ rfl (by kernel_rfl) hP (by rfl) ?r hH ?_; case r => intro w' h; (try dsimp only at h); go_simp; try with_reducible rfl
 try simp only [Nm]
 refine Vi 12 ?_ rfl (by kernel_rfl) hP (by rfl) ?r hH ?_; case r => intro w' h; (try dsimp only at h); go_simp; try with_reducible rfl
 try simp only [Nm]
 refine Vi 13 ?_ rfl (by kernel_rfl) hP (by rfl) ?r hH ?_; case r => intro w' h; (try dsimp only at h); go_simp; try with_reducible rfl
 try simp only [Nm]
 refine Vi 14 ?_ rfl (by kernel_rfl) hP (by rfl) ?r hH ?_; case r => intro w' h; (try dsimp only at h); go_simp; try with_reducible rfl
 try simp only [Nm]
 refine Vi 15 ?_ rfl (by kernel_rfl) hP (by rfl) ?r hH ?_; case r => intro w' h; (try dsimp only at h); go_simp; try with_reducible rfl
 try simp only [Nm]
 refine Rd 16 (by kernel_rfl) rfl (fun K hK => ?_)
 have HK16 := hide hK
 clear hK
 go_simp
 go_at_call 37
 refine (keepsIt_any n t _).mono ?_
 rw [h2]
 rintro e w6 ⟨rfl, hbw6⟩
 have hS6 := ((hS3).later ((Below.refl _ _).drew)).later hbw6
 have hE6 := hE3.drew.below' hbw6
 clear p1 t0 t1 t2 n0 n1 n2 n3 n4 n5 ln lp lt' ck fk lgk cm fm lgm es0 lr hH
 have p1 := hS6.p.cell 1
 have t0 := hS6.t.cell 0
 have t1 := hS6.t.cell 1
 have t2 := hS6.t.cell 2
 have lp := hS6.p.lt
 have lt' := hS6.t.lt
 simp only [Yl] at p1 t0 t1 t2
 have n0 := ((bcell hS6.below).1 nb _ hnb).trans d0
 have n1 := ((bcell hS6.below).1 nb _ hnb).trans d1
 have n2 := ((bcell hS6.below).1 nb _ hnb).trans d2
 have n3 := ((bcell hS6.below).1 nb _ hnb).trans d3
 have n4 := ((bcell hS6.below).1 nb _ hnb).trans d4
 have n5 := ((bcell hS6.below).1 nb _ hnb).trans d5
 have ln := Nat.lt_of_lt_of_le hnb hS6.below.size
 obtain ⟨ck, fk, lgk⟩ := hS6.at_ (i := 1) (by omega) hlt (gi := g1) rfl
 rw [upd_same, hzk] at ck
 obtain ⟨cm, fm, lgm⟩ := hS6.at_ (i := 1) (by omega) hmm (gi := g1) rfl
 rw [upd_same, ← Hvm.out] at cm
 have es0 := hE6.cell_at hjm
 have lr := rowlt hE6
 refine Shut.out HK16.out _ _ ⟨p1, t0, t1, t2, n0, n1, n2, n3, n4, n5, es0⟩ (fun hH => ?_)
 try simp only [Nm]
 refine Vi 17 ?_ rfl (by kernel_rfl) hP (by rfl) ?r hH ?_; case r => intro w' h; (try dsimp only at h); go_simp; try with_reducible rfl
 try simp only [Nm]
 refine Vi 18 ?_ rfl (by kernel_rfl) hP (by rfl) ?r hH ?_; case r => intro w' h; (try dsimp only at h); go_simp; try with_reducible rfl
 try simp only [Nm]
 refine Vi 19 ?_ rfl (by kernel_rfl) hP (by rfl) ?r hH ?_; case r => intro w' h; (try dsimp only at h); go_simp; try with_reducible rfl
 try simp only [Nm]
 refine Vi 20 ?_ rfl (by kernel_rfl) hP (by rfl) ?r hH ?_; case r => intro w' h; (try dsimp only at h); go_simp; try with_reducible rfl
 try simp only [Nm]
 refine Vi 21 ?_ rfl (by kernel_rfl) hP (by rfl) ?r hH ?_; case r => intro w' h; (try dsimp only at h); go_simp; try with_reducible rfl
 try simp only [Nm]
 refine Vi 22 ?_ rfl (by kernel_rfl) hP (by rfl) ?r hH ?_; case r => intro w' h; (try dsimp only at h); go_simp; try with_reducible rfl
 try simp only [Nm]
 refine Vi 23 ?_ rfl (by kernel_rfl) hP (by rfl) ?r hH ?_; case r => intro w' h; (try dsimp only at h); go_simp; try with_reducible rfl
 try simp only [Nm]
 refine Vi 24 ?_ rfl (by kernel_rfl) hP (by rfl) ?r hH ?_; case r => intro w' h; (try dsimp only at h); go_simp; try with_reducible rfl
 try simp only [Nm]
 refine Rd 25 (by kernel_rfl) rfl (fun K hK => ?_)
 have HK25 := hide hK
 clear hK
 go_simp
 refine Shut.out HK25.out _ _ hH (fun _ => ?_)
 try simp only [Nm]
 refine Vi 26 ?_ rfl (by kernel_rfl) hP (by rfl) ?r hH ?_; case r => intro w' h; (try dsimp only at h); go_simp; try with_reducible rfl
 try simp only [Nm]
 refine Vi 27 ?_ rfl (by kernel_rfl) hP (by rfl) ?r hH ?_; case r => intro w' h; (try dsimp only at h); go_simp; try with_reducible rfl
 try simp only [Nm]
 refine Vi 28 ?_ rfl (by kernel_rfl) hP (by rfl) ?r hH ?_; case r => intro w' h; (try dsimp only at h); go_simp; try with_reducible rfl
 try simp only [Nm]
 refine Vi 29 ?_ rfl (by kernel_rfl) hP (by rfl) ?r hH ?_; case r => intro w' h; (try dsimp only at h); go_simp; try with_reducible rfl
 try simp only [Nm]
 refine Vi 30 ?_ rfl (by kernel_rfl) hP (by rfl) ?r hH ?_; case r => intro w' h; (try dsimp only at h); go_simp; try with_reducible rfl
 try simp only [Nm]
 refine Vi 31 ?_ rfl (by kernel_rfl) hP (by rfl) ?r hH ?_; case r => intro w' h; (try dsimp only at h); go_simp; try with_reducible rfl
 try simp only [Nm]
 refine Vi 32 ?_ rfl (by kernel_rfl) hP (by rfl) ?r hH ?_; case r => intro w' h; (try dsimp only at h); go_simp; try with_reducible rfl
 try simp only [Nm]
 refine Vi 33 ?_ rfl (by kernel_rfl) hP (by rfl) ?r hH ?_; case r => intro w' h; (try dsimp only at h); go_simp; try with_reducible rfl
 try simp only [Nm]
 refine Vi 34 ?_ rfl (by kernel_rfl) hP (by rfl) ?r hH ?_; case r => intro w' h; (try dsimp only at h); go_simp; try with_reducible rfl
 try simp only [Nm]
 refine Vi 35 ?_ rfl (by kernel_rfl) hP (by rfl) ?r hH ?_; case r => intro w' h; (try dsimp only at h); go_simp; try with_reducible rfl
 try simp only [Nm]
 refine Rd 36 (by kernel_rfl) rfl (fun K hK => ?_)
 have HK36 := hide hK
 clear hK
 go_simp
 go_at_call 35
 refine (reckonsIt_any n t _).mono ?_
 rintro e w7 ⟨rfl, hbw7⟩
 have hS7 := (hS6).later hbw7
 have hE7 := hE6.below' hbw7
 clear p1 t0 t1 t2 n0 n1 n2 n3 n4 n5 ln lp lt' ck fk lgk cm fm lgm es0 lr hH
 have p1 := hS7.p.cell 1
 have t0 := hS7.t.cell 0
 have t1 := hS7.t.cell 1
 have t2 := hS7.t.cell 2
 have lp := hS7.p.lt
 have lt' := hS7.t.lt
 simp only [Yl] at p1 t0 t1 t2
 have n0 := ((bcell hS7.below).1 nb _ hnb).trans d0
 have n1 := ((bcell hS7.below).1 nb _ hnb).trans d1
 have n2 := ((bcell hS7.below).1 nb _ hnb).trans d2
 have n3 := ((bcell hS7.below).1 nb _ hnb).trans d3
 have n4 := ((bcell hS7.below).1 nb _ hnb).trans d4
 have n5 := ((bcell hS7.below).1 nb _ hnb).trans d5
 have ln := Nat.lt_of_lt_of_le hnb hS7.below.size
 obtain ⟨ck, fk, lgk⟩ := hS7.at_ (i := 1) (by omega) hlt (gi := g1) rfl
 rw [upd_same, hzk] at ck
 obtain ⟨cm, fm, lgm⟩ := hS7.at_ (i := 1) (by omega) hmm (gi := g1) rfl
 rw [upd_same, ← Hvm.out] at cm
 have es0 := hE7.cell_at hjm
 have lr := rowlt hE7
 refine Shut.out HK36.out _ _ ⟨p1, t0, t1, t2, n0, n1, n2, n3, n4, n5, es0⟩ (fun hH => ?_)
 try simp only [Nm]
 refine Vi 37 ?_ rfl (by kernel_rfl) hP (by rfl) ?r hH ?_; case r => intro w' h; (try dsimp only at h); go_simp; try with_reducible rfl
 try simp only [Nm]
 refine Vi 38 ?_ rfl (by kernel_rfl) hP (by rfl) ?r hH ?_; case r => intro w' h; (try dsimp only at h); go_simp; try with_reducible rfl
 try simp only [Nm]
 refine Vi 39 ?_ rfl (by kernel_rfl) hP (by rfl) ?r hH ?_; case r => intro w' h; (try dsimp only at h); go_simp; try with_reducible rfl
 try simp only [Nm]
 refine Rd 40 (by kernel_rfl) rfl (fun K hK => ?_)
 have HK40 := hide hK
 clear hK
 go_simp
 refine Shut.out HK40.out _ _ ?_ (fun _ => ?_)
 · refine ⟨?_, ?_, ?_, ?_, ?_, ?_, ?_, ?_, ?_, ?_, ?_⟩ <;> first | assumption | go_keep
 try simp only [Nm]
 refine wpAnyH_done (by kernel_rfl) ?_ _
 clear hH HK5 HK16 HK25 HK36 HK40 p1 t0 t1 t2 n0 n1 n2 n3 n4 n5 ln lp lt' ck fk lgk cm fm lgm es0 lr
 go_wp2_with fail
 go_roundg (es.length - (j + 1))
 case measure => have := Hgk3.out; omega
 case rel => (
 have h := (hS7).set (i := 1) (by omega) k (recB t n)
 rw [upd_same, upd_upd, Hz.out, List.set_set] at h
 refine ⟨j + 1, by omega, by go_num, rfl, ?_, (hE7).far (p := ⟨g1, k, none⟩) Hng.out _⟩
 rw [Hb.out, h2, Bool.true_and, Bool.true_and, Bool.false_or]
 exact h)))))
 · (
 have hend : upA t l y k j = Sf y k := by rw [upA_end t l y k j (by rw [← Hes.out]; omega), HSf.out]; exact (up_eq t l y hlt).symm
 have hstep := HSw.out.step HM.out hlt (b := upA t l y k j) hend
 have Hstep := hide hstep
 have HS3 := hide hS3
 clear hend hstep hS3 hE3
 go_wp2_with fail
 go_roundg (l.length - (k + 1))
 case measure => have := Hgk2.out; omega
 case rel => exact ⟨k + 1, _, by omega, by go_num, rfl, Hstep.out, HS3.out⟩)))
 · (
 have hkk : k = l.length := by omega
 subst hkk
 have HS1 := hide hS1
 clear hS1
 go_wp2_with fail
 go_roundg (l.length + 1 - (c + 1))
 case measure => have := Hgk.out; omega
 case rel => exact ⟨c + 1, y, by omega, by go_num, rfl, HSw.out.turn, HS1.out⟩)))
 · (
 have hG : Great Sf l.length y := HSw.out.great HM.out (by omega)
 have HG := hide hG
 clear hG
 go_wp2_with fail
 refine ⟨rfl, ?_⟩
 refine HX.out _ _ y ?_ ?_ ?_ HS1.out
 · rfl
 · kernel_rfl
 · rw [← HSf.out]; exact HG.out)))
end
end Go.Proofs.YtmghkonmfbpjcabGreat
