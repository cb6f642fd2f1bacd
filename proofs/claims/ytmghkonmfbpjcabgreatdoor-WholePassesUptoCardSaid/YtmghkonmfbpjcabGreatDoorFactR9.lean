/- Parts. -/
import Derived.Test.YtmghkonmfbpjcabGreatDoorFactR2
import Derived.Test.YtmghkonmfbpjcabGreatDoorFactR3
import Derived.Test.YtmghkonmfbpjcabGreatDoorFactR4
import Derived.Test.YtmghkonmfbpjcabGreatDoorFactR5
import Derived.Test.YtmghkonmfbpjcabGreatDoorFactR6
import Derived.Test.YtmghkonmfbpjcabGreatDoorFactR7
set_option linter.unusedVariables false
set_option linter.unusedSimpArgs false
set_option maxRecDepth 100000
set_option maxHeartbeats 8000000
namespace Go.Proofs.YtmghkonmfbpjcabGreatDoor
open Go.RowKit
open Go.Proofs.Tryz
section
attribute [local irreducible] Row madeCells
theorem bFG (regs : Int) (A : Option Addr) (l : List Nd) (cap : Nat) (t : Tm) (w : World) (hA : bH w A l) (hR : bM regs l) :
 Calls prog 104 #[.agg #[.int .i64 regs, .slice A l.length cap], .agg #[.int .i64 t.op, .int .i64 t.a, .int .i64 t.b]] w (bQN 4 l t w) := by (
 have hlo := hR.lo
 have hhi := hR.hi
 obtain ⟨ii, hii, hiz, his, hib⟩ := info_parts wJ
 obtain ⟨ib, hbi, hbz, hbs, hbb⟩ := info_parts gR
 have hmk1 := dN (P := prog) 74 4 ib _ 1 underlying74 hbi hbz hbs hbb Zb rfl l.length Zb
 have HMK1 := bA hmk1
 have HR := bA hR
 clear hmk1 hR
 go_enter func104, ntmps104
 go_wp2_with fail
 obtain ⟨W0, hW0⟩ := Exq ((((w.alloc (.cells #[.int .i64 regs, .slice A l.length cap] 24)).alloc (.cells #[.int .i64 t.op, .int .i64 t.a, .int .i64 t.b] 56)).alloc (.cells nil6 152)).alloc (.cells #[.int .i64 (l.length : Int)] 3))
 have hWn : (((w.alloc (.cells #[.int .i64 regs, .slice A l.length cap] 24)).alloc (.cells #[.int .i64 t.op, .int .i64 t.a, .int .i64 t.b] 56)).alloc (.cells #[.slice none 0 0, .slice none 0 0, .slice none 0 0, .slice none 0 0, .slice none 0 0, .slice none 0 0] 152)).alloc (.cells #[.int .i64 (l.length : Int)] 3) = W0 := hW0.symm
 rw [hWn]
 have hp : Blk W0 w.heap.size 24 #[.int .i64 regs, .slice A l.length cap] := by rw [hW0]; exact (((Blk.new' rfl).alloc _).alloc _).alloc _
 have ht : Blk W0 (w.heap.size + 1) 56 #[.int .i64 t.op, .int .i64 t.a, .int .i64 t.b] := by rw [hW0]; exact ((Blk.new' Zf).alloc _).alloc _
 have ho : Blk W0 (w.heap.size + 1 + 1) 152 nil6 := by rw [hW0]; exact (Blk.new' Zf).alloc _
 have hs : Blk W0 (w.heap.size + 1 + 1 + 1) 3 #[.int .i64 (l.length : Int)] := by rw [hW0]; exact Blk.new' Zf
 have hB : Below w.heap.size w W0 := by rw [hW0]; exact Yc
 have hz0 : W0.heap.size = w.heap.size + 1 + 1 + 1 + 1 := by rw [hW0]; simp
 clear hW0 hWn
 obtain ⟨g0, hg0⟩ := Exq W0.heap.size
 refine (rO l.length (w.heap.size + 1 + 1 + 1) W0 hhi hs).mono ?_
 rintro e w1 ⟨rfl, hr0, hb1⟩
 rw [← hg0] at hr0 ⊢
 have hz1 := hb1.size
 have hs := hs.below hb1 hs.lt
 have hp := hp.below hb1 hp.lt
 have ht := ht.below hb1 ht.lt
 have ho := ho.below hb1 ho.lt
 have hB := hB.trans (hb1.mono Zb)
 have l0 := cZ hr0
 obtain ⟨g1, hg1⟩ := Exq w1.heap.size
 have m1 : g0 < g1 := Zb
 have q0 : w.heap.size ≤ g0 := Zb
 clear hb1 hg0
 go_wp2_with fail
 refine (rO l.length (w.heap.size + 1 + 1 + 1) w1 hhi hs).mono ?_
 rintro e w2 ⟨rfl, hr1, hb2⟩
 rw [← hg1] at hr1 ⊢
 have hz2 := hb2.size
 have hs := hs.below hb2 hs.lt
 have hp := hp.below hb2 hp.lt
 have ht := ht.below hb2 ht.lt
 have ho := ho.below hb2 ho.lt
 have hB := hB.trans (hb2.mono Zb)
 have hr0 := hr0.below' hb2
 have l1 := cZ hr1
 obtain ⟨g3, hg3⟩ := Exq w2.heap.size
 have m2 : g1 < g3 := Zb
 have q1 : w.heap.size ≤ g1 := Zb
 clear hb2 hg1
 go_wp2_with fail
 refine (rO l.length (w.heap.size + 1 + 1 + 1) w2 hhi hs).mono ?_
 rintro e w3 ⟨rfl, hr3, hb3⟩
 rw [← hg3] at hr3 ⊢
 have hz3 := hb3.size
 have hs := hs.below hb3 hs.lt
 have hp := hp.below hb3 hp.lt
 have ht := ht.below hb3 ht.lt
 have ho := ho.below hb3 ho.lt
 have hB := hB.trans (hb3.mono Zb)
 have hr0 := hr0.below' hb3
 have hr1 := hr1.below' hb3
 have l3 := cZ hr3
 obtain ⟨g5, hg5⟩ := Exq w3.heap.size
 have m3 : g3 < g5 := Zb
 have q3 : w.heap.size ≤ g3 := Zb
 clear hb3 hg3
 go_wp2_with fail
 refine (rO l.length (w.heap.size + 1 + 1 + 1) w3 hhi hs).mono ?_
 rintro e w4 ⟨rfl, hr5, hb4⟩
 rw [← hg5] at hr5 ⊢
 have hz4 := hb4.size
 have hs := hs.below hb4 hs.lt
 have hp := hp.below hb4 hp.lt
 have ht := ht.below hb4 ht.lt
 have ho := ho.below hb4 ho.lt
 have hB := hB.trans (hb4.mono Zb)
 have hr0 := hr0.below' hb4
 have hr1 := hr1.below' hb4
 have hr3 := hr3.below' hb4
 have l5 := cZ hr5
 have q5 : w.heap.size ≤ g5 := Zb
 clear hb4 hg5
 have s0 := hs.cell 0
 have ls := hs.lt
 simp only [List.getElem?_toArray, List.getElem?_cons_zero] at s0
 have hmk1 := HMK1.o
 go_wp2_with fail
 have ls2 : w.heap.size + 1 + 1 + 1 < w4.heap.size + 1 := Zb
 go_cut [11, 12] (fun s11 s12 wx => ∃ g2 g4 : Nat, s11 = .slice (some ⟨g2, 0, none⟩) l.length l.length ∧ s12 = .slice (some ⟨g4, 0, none⟩) l.length l.length ∧ Row wx w.heap.size 4 (.slice (some ⟨g2, 0, none⟩) l.length l.length) (List.replicate l.length (.bool false)) ∧ Row wx w.heap.size 4 (.slice (some ⟨g4, 0, none⟩) l.length l.length) (List.replicate l.length (.bool false)) ∧
  g2 ≠ g4 ∧ w4.heap.size ≤ g2 ∧ w4.heap.size ≤ g4 ∧ Below w4.heap.size w4 wx)
 case first => (
 go_region
 all_goals as_aux_lemma =>
  go_wp2_with fail
  go_meet
  go_tidy
  apply Exists.intro
  apply Exists.intro
  refine ⟨rfl, rfl, ?_, ?_, ?_, ?_, ?_, ?_⟩
  all_goals first
   | ((repeat (first | ((with_reducible refine Row.made1' ?_ ?_ ?_); exact Za; exact Za; exact Za) | (with_reducible refine Row.drew ?_) | (with_reducible refine Row.drewN ?_ _) | (with_reducible refine Row.alloc ?_ _))); done)
   | ((repeat (first | (with_reducible exact Below.refl _ _) | (with_reducible assumption) | (with_reducible refine Below.drew ?_) | (with_reducible refine bZ ?_ _) | (with_reducible refine Below.alloc ?_ Za _) | (with_reducible refine Below.setCell ?_ Za _) | (with_reducible refine Below.trans ?_ (Below.mono Zg Za)))); done)
   | omega)
 case rest => (
 obtain ⟨g2, g4, rfl, rfl, hr2, hr4, h24, m4, m5, hbx⟩ := hcut
 have hSt : RSt 24 56 152 3 4 25 3 w.heap.size w #[.int .i64 regs, .slice A l.length cap] #[.int .i64 t.op, .int .i64 t.a, .int .i64 t.b] l.length l (.slice none 0 0) (.slice none 0 0) 0 0 (six g0 g1 g2 g3 g4 g5)
  (six (List.replicate l.length true) (List.replicate l.length true) (List.replicate l.length false) (List.replicate l.length true) (List.replicate l.length false) (List.replicate l.length true)) wc := by (
 refine ⟨hp.below hbx hp.lt, ht.below hbx ht.lt, ho.below hbx ho.lt, hs.below hbx hs.lt, fun i hi => ?_, fun i j hi hj he => ?_, oG.nil _ _ _ _ _ _, oG.nil _ _ _ _ _ _, .inl rfl, hB.trans (hbx.mono Zb), by have := hbx.size; omega, Ze⟩
 · (
 have hi' : i = 0 ∨ i = 1 ∨ i = 2 ∨ i = 3 ∨ i = 4 ∨ i = 5 := Zb
 rcases hi' with rfl | rfl | rfl | rfl | rfl | rfl
 · exact ⟨(hr0.below' hbx).mono Zb, by simp [six]⟩
 · exact ⟨(hr1.below' hbx).mono Zb, by simp [six]⟩
 · exact ⟨by rw [show six (List.replicate l.length true) (List.replicate l.length true) (List.replicate l.length false) (List.replicate l.length true) (List.replicate l.length false) (List.replicate l.length true) 2 = List.replicate l.length false from rfl, bE, List.map_replicate]; exact hr2, by simp [six]⟩
 · exact ⟨(hr3.below' hbx).mono Zb, by simp [six]⟩
 · exact ⟨by rw [show six (List.replicate l.length true) (List.replicate l.length true) (List.replicate l.length false) (List.replicate l.length true) (List.replicate l.length false) (List.replicate l.length true) 4 = List.replicate l.length false from rfl, bE, List.map_replicate]; exact hr4, by simp [six]⟩
 · exact ⟨(hr5.below' hbx).mono Zb, by simp [six]⟩)
 · (
 have hi' : i = 0 ∨ i = 1 ∨ i = 2 ∨ i = 3 ∨ i = 4 ∨ i = 5 := Zb
 have hj' : j = 0 ∨ j = 1 ∨ j = 2 ∨ j = 3 ∨ j = 4 ∨ j = 5 := Zb
 rcases hi' with rfl | rfl | rfl | rfl | rfl | rfl <;> rcases hj' with rfl | rfl | rfl | rfl | rfl | rfl <;> simp only [six] at he <;> omega))
 generalize hx0 : six (List.replicate l.length true) (List.replicate l.length true) (List.replicate l.length false) (List.replicate l.length true) (List.replicate l.length false) (List.replicate l.length true) = x at hSt
 have Hx0 := bA hx0
 have HSt := bA hSt
 clear hx0 hSt hr0 hr1 hr2 hr3 hr4 hr5 hp ht ho hs hB hbx s0 ls ls2 hmk1
 go_wp2_with fail
 refine bRG regs A l cap t w hA HR.o g0 g1 g2 g3 g4 g5 x _ _ _ ?_ ?_ ?_ HSt.o ?_
 · rfl
 · kernel_rfl
 · rfl
 intro a1 W1 nx ax hd1 ha1 hS1
 obtain ⟨tm1, df1⟩ := a1
 simp only at hd1 ha1
 subst hd1
 generalize fK tm1 = u1 at ha1
 subst ha1
 dsimp only [rfr]
 have HS1 := bA hS1
 clear hS1 HSt
 go_wp2_with fail
 refine iO (n := 2) (fun a' W' => a'.defers = [] ∧ a'.tmps = rfr regs A l cap t w.heap.size g0 g1 g2 g3 g4 g5 nx ax (fK a'.tmps) ∧ ∃ y, eU (cU true false (cQ t l) (cI t l) (noL l.length) (cX (noL l.length)) l) l.length y ∧ RS regs A l cap t w g0 g1 g2 g3 g4 g5 nx ax l.length l.length (upd x 0 y) W')
  (bRF regs A l cap t w hA HR.o g0 g1 g2 g3 g4 g5 nx ax x _ _ _ ?_ ?_ ?_ HS1.o ?_ (fun a' W' y e1 e2 e3 e4 => ⟨e1, e2, y, e3, e4⟩)) ?_
 · rfl
 · kernel_rfl
 · rfl
 · (
 intro i hi
 rw [← Hx0.o]
 show yn (List.replicate l.length true) i = true
 simp [yn, Vy, List.getElem?_replicate, hi])
 rintro a2 W2 ⟨hd2, ha2, y0, hy0, hS2⟩
 obtain ⟨tm2, df2⟩ := a2
 simp only at hd2 ha2
 subst hd2
 generalize fK tm2 = u2 at ha2
 subst ha2
 dsimp only [rfr]
 have HS2 := bA hS2
 have HY0 := bA hy0
 clear hS2 HS1 hy0
 go_wp2_with fail
 refine iO (n := 8) (fun a' W' => a'.defers = [] ∧ a'.tmps = rfr regs A l cap t w.heap.size g0 g1 g2 g3 g4 g5 nx ax (fK a'.tmps) ∧ ∃ y, eU (lE (cU false false (noL l.length) (cX (noL l.length)) (mk l.length fun k => yn (cI t l) k && yn (cQ t l) k) (cI t l) l) l.length) l.length y ∧ RS regs A l cap t w g0 g1 g2 g3 g4 g5 nx ax l.length l.length (upd (upd x 0 y0) 1 y) W')
  (bRE regs A l cap t w hA HR.o g0 g1 g2 g3 g4 g5 nx ax (upd x 0 y0) _ _ _ ?_ ?_ ?_ HS2.o ?_ (fun a' W' y e1 e2 e3 e4 => ⟨e1, e2, y, e3, e4⟩)) ?_
 · rfl
 · kernel_rfl
 · rfl
 · (
 intro i hi
 rw [show (upd x 0 y0) 1 = x 1 from rfl, ← Hx0.o]
 show yn (List.replicate l.length true) i = true
 simp [yn, Vy, List.getElem?_replicate, hi])
 rintro a3 W3 ⟨hd3, ha3, y1, hy1, hS3⟩
 obtain ⟨tm3, df3⟩ := a3
 simp only at hd3 ha3
 subst hd3
 generalize fK tm3 = u3 at ha3
 subst ha3
 dsimp only [rfr]
 have HS3 := bA hS3
 have HY1 := bA hy1
 clear hS3 HS2 hy1
 go_wp2_with fail
 refine iO (n := 14) (fun a' W' => a'.defers = [] ∧ a'.tmps = rfr regs A l cap t w.heap.size g0 g1 g2 g3 g4 g5 nx ax (fK a'.tmps) ∧ ∃ y, y = iY t l y0 y1 ∧ RS regs A l cap t w g0 g1 g2 g3 g4 g5 nx ax l.length l.length (upd (upd (upd x 0 y0) 1 y1) 2 y) W')
  (bRD regs A l cap t w hA HR.o g0 g1 g2 g3 g4 g5 nx ax (upd (upd x 0 y0) 1 y1) _ _ _ ?_ ?_ ?_ HS3.o (fun a' W' y e1 e2 e3 e4 => ⟨e1, e2, y, e3, e4⟩)) ?_
 · rfl
 · kernel_rfl
 · rfl
 rintro a4 W4 ⟨hd4, ha4, y2, hy2, hS4⟩
 obtain ⟨tm4, df4⟩ := a4
 simp only at hd4 ha4
 subst hd4
 generalize fK tm4 = u4 at ha4
 subst ha4
 dsimp only [rfr]
 have HS4 := bA hS4
 have HY2 := bA hy2
 clear hS4 HS3 hy2
 go_wp2_with fail
 refine iO (n := 18) (fun a' W' => a'.defers = [] ∧ a'.tmps = rfr regs A l cap t w.heap.size g0 g1 g2 g3 g4 g5 nx ax (fK a'.tmps) ∧ ∃ y, eU (cU false false y2 (cX (noL l.length)) (noL l.length) (cX (cQ t l)) l) l.length y ∧ RS regs A l cap t w g0 g1 g2 g3 g4 g5 nx ax l.length l.length (upd (upd (upd (upd x 0 y0) 1 y1) 2 y2) 3 y) W')
  (bRC regs A l cap t w hA HR.o g0 g1 g2 g3 g4 g5 nx ax (upd (upd (upd x 0 y0) 1 y1) 2 y2) _ _ _ ?_ ?_ ?_ HS4.o ?_ (fun a' W' y e1 e2 e3 e4 => ⟨e1, e2, y, e3, e4⟩)) ?_
 · rfl
 · kernel_rfl
 · rfl
 · (
 intro i hi
 rw [show (upd (upd (upd x 0 y0) 1 y1) 2 y2) 3 = x 3 from rfl, ← Hx0.o]
 show yn (List.replicate l.length true) i = true
 simp [yn, Vy, List.getElem?_replicate, hi])
 rintro a5 W5 ⟨hd5, ha5, y3, hy3, hS5⟩
 obtain ⟨tm5, df5⟩ := a5
 simp only at hd5 ha5
 subst hd5
 generalize fK tm5 = u5 at ha5
 subst ha5
 dsimp only [rfr]
 have HS5 := bA hS5
 have HY3 := bA hy3
 clear hS5 HS4 hy3
 go_wp2_with fail
 refine iO (n := 24) (fun a' W' => a'.defers = [] ∧ a'.tmps = rfr regs A l cap t w.heap.size g0 g1 g2 g3 g4 g5 nx ax (fK a'.tmps) ∧ ∃ y, y = nK t l y3 ∧ RS regs A l cap t w g0 g1 g2 g3 g4 g5 nx ax l.length l.length (upd (upd (upd (upd (upd x 0 y0) 1 y1) 2 y2) 3 y3) 4 y) W')
  (bRB regs A l cap t w hA HR.o g0 g1 g2 g3 g4 g5 nx ax (upd (upd (upd (upd x 0 y0) 1 y1) 2 y2) 3 y3) _ _ _ ?_ ?_ ?_ HS5.o (fun a' W' y e1 e2 e3 e4 => ⟨e1, e2, y, e3, e4⟩)) ?_
 · rfl
 · kernel_rfl
 · rfl
 rintro a6 W6 ⟨hd6, ha6, y4, hy4, hS6⟩
 obtain ⟨tm6, df6⟩ := a6
 simp only at hd6 ha6
 subst hd6
 generalize fK tm6 = u6 at ha6
 subst ha6
 dsimp only [rfr]
 have HS6 := bA hS6
 have HY4 := bA hy4
 clear hS6 HS5 hy4
 go_wp2_with fail
 refine iO (n := 28) (fun a' W' => a'.defers = [] ∧ a'.tmps = rfr regs A l cap t w.heap.size g0 g1 g2 g3 g4 g5 nx ax (fK a'.tmps) ∧ ∃ y, eU (lE (cU true true (noL l.length) (cX (noL l.length)) y4 (cX (cQ t l)) l) l.length) l.length y ∧ RS regs A l cap t w g0 g1 g2 g3 g4 g5 nx ax l.length l.length (upd (upd (upd (upd (upd (upd x 0 y0) 1 y1) 2 y2) 3 y3) 4 y4) 5 y) W')
  (bRA regs A l cap t w hA HR.o g0 g1 g2 g3 g4 g5 nx ax (upd (upd (upd (upd (upd x 0 y0) 1 y1) 2 y2) 3 y3) 4 y4) _ _ _ ?_ ?_ ?_ HS6.o ?_ (fun a' W' y e1 e2 e3 e4 => ⟨e1, e2, y, e3, e4⟩)) ?_
 · rfl
 · kernel_rfl
 · rfl
 · (
 intro i hi
 rw [show (upd (upd (upd (upd (upd x 0 y0) 1 y1) 2 y2) 3 y3) 4 y4) 5 = x 5 from rfl, ← Hx0.o]
 show yn (List.replicate l.length true) i = true
 simp [yn, Vy, List.getElem?_replicate, hi])
 rintro a7 W7 ⟨hd7, ha7, y5, hy5, hS7⟩
 obtain ⟨tm7, df7⟩ := a7
 simp only at hd7 ha7
 subst hd7
 generalize fK tm7 = u7 at ha7
 subst ha7
 dsimp only [rfr]
 have HS7 := bA hS7
 have HY5 := bA hy5
 clear hS7 HS6 hy5
 have hO := HS7.o.o
 have o0 := hO.cell 0
 have o1 := hO.cell 1
 have o2 := hO.cell 2
 have o3 := hO.cell 3
 have o4 := hO.cell 4
 have o5 := hO.cell 5
 have f0 := hO.frozen 0
 have f1 := hO.frozen 1
 have f2 := hO.frozen 2
 have f3 := hO.frozen 3
 have f4 := hO.frozen 4
 have f5 := hO.frozen 5
 have lO := hO.lt
 simp only [Yl] at o0 o1 o2 o3 o4 o5
 have hr0 : Row W7 w.heap.size 4 (.slice (some ⟨g0, 0, none⟩) l.length l.length) (bE y0) := (HS7.o.rows 0 Zb).1
 have hr1 : Row W7 w.heap.size 4 (.slice (some ⟨g1, 0, none⟩) l.length l.length) (bE y1) := (HS7.o.rows 1 Zb).1
 have hr2 : Row W7 w.heap.size 4 (.slice (some ⟨g2, 0, none⟩) l.length l.length) (bE y2) := (HS7.o.rows 2 Zb).1
 have hr3 : Row W7 w.heap.size 4 (.slice (some ⟨g3, 0, none⟩) l.length l.length) (bE y3) := (HS7.o.rows 3 Zb).1
 have hr4 : Row W7 w.heap.size 4 (.slice (some ⟨g4, 0, none⟩) l.length l.length) (bE y4) := (HS7.o.rows 4 Zb).1
 have hr5 : Row W7 w.heap.size 4 (.slice (some ⟨g5, 0, none⟩) l.length l.length) (bE y5) := (HS7.o.rows 5 Zb).1
 have hq0 := uR hr0 (hr0.ne_blk hO Ze) (.slice (some ⟨g0, 0, none⟩) l.length l.length) (.slice (some ⟨g1, 0, none⟩) l.length l.length) (.slice (some ⟨g2, 0, none⟩) l.length l.length) (.slice (some ⟨g3, 0, none⟩) l.length l.length) (.slice (some ⟨g4, 0, none⟩) l.length l.length) (.slice (some ⟨g5, 0, none⟩) l.length l.length)
 have hq1 := uR hr1 (hr1.ne_blk hO Ze) (.slice (some ⟨g0, 0, none⟩) l.length l.length) (.slice (some ⟨g1, 0, none⟩) l.length l.length) (.slice (some ⟨g2, 0, none⟩) l.length l.length) (.slice (some ⟨g3, 0, none⟩) l.length l.length) (.slice (some ⟨g4, 0, none⟩) l.length l.length) (.slice (some ⟨g5, 0, none⟩) l.length l.length)
 have hq2 := uR hr2 (hr2.ne_blk hO Ze) (.slice (some ⟨g0, 0, none⟩) l.length l.length) (.slice (some ⟨g1, 0, none⟩) l.length l.length) (.slice (some ⟨g2, 0, none⟩) l.length l.length) (.slice (some ⟨g3, 0, none⟩) l.length l.length) (.slice (some ⟨g4, 0, none⟩) l.length l.length) (.slice (some ⟨g5, 0, none⟩) l.length l.length)
 have hq3 := uR hr3 (hr3.ne_blk hO Ze) (.slice (some ⟨g0, 0, none⟩) l.length l.length) (.slice (some ⟨g1, 0, none⟩) l.length l.length) (.slice (some ⟨g2, 0, none⟩) l.length l.length) (.slice (some ⟨g3, 0, none⟩) l.length l.length) (.slice (some ⟨g4, 0, none⟩) l.length l.length) (.slice (some ⟨g5, 0, none⟩) l.length l.length)
 have hq4 := uR hr4 (hr4.ne_blk hO Ze) (.slice (some ⟨g0, 0, none⟩) l.length l.length) (.slice (some ⟨g1, 0, none⟩) l.length l.length) (.slice (some ⟨g2, 0, none⟩) l.length l.length) (.slice (some ⟨g3, 0, none⟩) l.length l.length) (.slice (some ⟨g4, 0, none⟩) l.length l.length) (.slice (some ⟨g5, 0, none⟩) l.length l.length)
 have hq5 := uR hr5 (hr5.ne_blk hO Ze) (.slice (some ⟨g0, 0, none⟩) l.length l.length) (.slice (some ⟨g1, 0, none⟩) l.length l.length) (.slice (some ⟨g2, 0, none⟩) l.length l.length) (.slice (some ⟨g3, 0, none⟩) l.length l.length) (.slice (some ⟨g4, 0, none⟩) l.length l.length) (.slice (some ⟨g5, 0, none⟩) l.length l.length)
 have HB := bA HS7.o.below
 have HO := bA hO
 obtain ⟨Wn, hWn⟩ := Exq (bCC W7 (w.heap.size + 1 + 1) (.slice (some ⟨g0, 0, none⟩) l.length l.length) (.slice (some ⟨g1, 0, none⟩) l.length l.length) (.slice (some ⟨g2, 0, none⟩) l.length l.length) (.slice (some ⟨g3, 0, none⟩) l.length l.length) (.slice (some ⟨g4, 0, none⟩) l.length l.length) (.slice (some ⟨g5, 0, none⟩) l.length l.length))
 rw [← hWn] at hq0 hq1 hq2 hq3 hq4 hq5
 have HQ0 := bA hq0
 have HQ1 := bA hq1
 have HQ2 := bA hq2
 have HQ3 := bA hq3
 have HQ4 := bA hq4
 have HQ5 := bA hq5
 have HWn := bA hWn
 clear hq0 hq1 hq2 hq3 hq4 hq5 hr0 hr1 hr2 hr3 hr4 hr5 hO hWn
 go_wp2_with fail
 have hWn := HWn.o
 have hWn' := hWn
 unfold bCC at hWn'
 rw [← hWn']
 clear hWn' o0 o1 o2 o3 o4 o5 f0 f1 f2 f3 f4 f5
 have hOn : Blk Wn (w.heap.size + 1 + 1) 152 #[.slice (some ⟨g0, 0, none⟩) l.length l.length, .slice (some ⟨g1, 0, none⟩) l.length l.length, .slice (some ⟨g2, 0, none⟩) l.length l.length, .slice (some ⟨g3, 0, none⟩) l.length l.length, .slice (some ⟨g4, 0, none⟩) l.length l.length, .slice (some ⟨g5, 0, none⟩) l.length l.length] := by (
 rw [hWn]
 exact ((((((HO.o.set_ 0 (.slice (some ⟨g0, 0, none⟩) l.length l.length)).set_ 1 (.slice (some ⟨g1, 0, none⟩) l.length l.length)).set_ 2 (.slice (some ⟨g2, 0, none⟩) l.length l.length)).set_ 3 (.slice (some ⟨g3, 0, none⟩) l.length l.length)).set_ 4 (.slice (some ⟨g4, 0, none⟩) l.length l.length)).set_ 5 (.slice (some ⟨g5, 0, none⟩) l.length l.length)))
 have hBn : Below w.heap.size w Wn := by (
 rw [hWn]
 exact bHL HB.o Zb _ _ _ _ _ _)
 refine Kn fun n0 n1 n2 n3 n4 n5 => ?_
 as_aux_lemma =>
 go_tidy
 refine bodyPost_ret (v := .agg #[.slice (some ⟨g0, 0, none⟩) l.length l.length, .slice (some ⟨g1, 0, none⟩) l.length l.length, .slice (some ⟨g2, 0, none⟩) l.length l.length, .slice (some ⟨g3, 0, none⟩) l.length l.length, .slice (some ⟨g4, 0, none⟩) l.length l.length, .slice (some ⟨g5, 0, none⟩) l.length l.length]) (by simp [results, results104, go_sem, n0, n1, n2, n3, n4, n5]) rfl ?_
 exact ⟨hBn, ⟨y0, y1, y2, y3, y4, y5⟩, _, _, _, _, _, _, rfl, ⟨HY0.o, HY1.o.unself (dP _ _ _ _ _ _ _), HY2.o, HY3.o, HY4.o, HY5.o.unself (dP _ _ _ _ _ _ _)⟩, HQ0.o, HQ1.o, HQ2.o, HQ3.o, HQ4.o, HQ5.o⟩))
end
end Go.Proofs.YtmghkonmfbpjcabGreatDoor
