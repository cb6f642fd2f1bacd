/- RunT. -/
import Derived.Test.YtmghkonmfbpjcaaGreatDoorGL
import Derived.Test.YtmghkonmfbpjcaaGreatDoorGD
import Derived.Test.YtmghkonmfbpjcaaGreatDoorGB
import Derived.Test.YtmghkonmfbpjcaaGreatDoorGA
set_option linter.unusedVariables false
set_option linter.unusedSimpArgs false
namespace Go.Proofs.YtmghkonmfbpjcaaGreatDoor
section
open Go.RowKit
open Go.Maps
set_option maxHeartbeats 8000000
section
variable {w : World} {regs : Int} {A : Option Addr} {l : List Nd} {cap : Nat} {inp : List Int} {mb gr gm : Nat} {Ai : Option Addr} {ci : Nat} {ov : Value} {s : Rn} {W W' : World}
theorem MSt.nbr (h : MSt w regs A l cap inp mb gr gm Ai ci ov s W) : ¬ (mb = gr) := fun e => h.regs.ne_blk h.box (by decide) (by rw [e]; rfl)
theorem MSt.nmr (h : MSt w regs A l cap inp mb gr gm Ai ci ov s W) : ¬ (gm = gr) := fun e => h.cnt.ne_row h.regs (by rw [e]; rfl)
theorem MSt.nmb (h : MSt w regs A l cap inp mb gr gm Ai ci ov s W) : ¬ (mb = gm) := h.cnt.ne_blk h.box
theorem MSt.grlo (h : MSt w regs A l cap inp mb gr gm Ai ci ov s W) : w.heap.size ≤ gr := rowge h.regs
theorem MSt.setReg (h : MSt w regs A l cap inp mb gr gm Ai ci ov s W) (k : Nat) (z : Int) : MSt w regs A l cap inp mb gr gm Ai ci ov { s with regs := s.regs.set k z } (W.setCell ⟨gr, k, none⟩ (.int .i64 z)) := by (
 refine ⟨h.box.far (p := ⟨gr, k, none⟩) h.nbr _, ?_, h.out.far (p := ⟨gr, k, none⟩) h.ne _, h.cnt.set (p := ⟨gr, k, none⟩) h.nmr _, h.inv, h.icap, h.ne, h.mlo, h.glo, h.below.setCell h.grlo _⟩
 have hr := h.regs.store k (.int .i64 z)
 rw [Nat.zero_add] at hr
 have e : (ints s.regs).set k (.int .i64 z) = ints (s.regs.set k z) := by unfold ints; rw [List.map_set]
 rw [e] at hr
 exact hr)
theorem MSt.put (h : MSt w regs A l cap inp mb gr gm Ai ci ov s W) (i : Nat) (u : Value) (Ai' : Option Addr) (ci' : Nat) (ov' : Value) (s' : Rn) (hc : (mcells regs A l cap Ai ci inp gr gm ov s).setIfInBounds i u = mcells regs A l cap Ai' ci' inp gr gm ov' s') (h1 : s'.regs = s.regs) (h2 : s'.ts = s.ts)
 (hO : Row W w.heap.size 3 ov' (ints s'.out)) (hne : ov'.ownBlock ≠ some gr) (hI : ValsAt w Ai' (ints (inp.drop s'.read))) (hcap : inp.length - s'.read ≤ ci' ∧ ci' ≤ maxLen) : MSt w regs A l cap inp mb gr gm Ai' ci' ov' s' (W.setCell ⟨mb, i, none⟩ u) :=
⟨by have hb := h.box.set_ i u; rw [hc] at hb; exact hb, by rw [h1]; exact h.regs.far (p := ⟨mb, i, none⟩) (h.regs.ne_blk h.box (by decide)) _, hO.far (p := ⟨mb, i, none⟩) (hO.ne_blk h.box (by decide)) _, by rw [h2]; exact h.cnt.set (p := ⟨mb, i, none⟩) (Ne.symm h.nmb) _, hI, hcap, hne, h.mlo, h.glo, h.below.setCell h.mlo _⟩
theorem MSt.pos_ (h : MSt w regs A l cap inp mb gr gm Ai ci ov s W) (p : Nat) : MSt w regs A l cap inp mb gr gm Ai ci ov { s with pos := p } W := ⟨h.1, h.2, h.3, h.4, h.5, h.6, h.7, h.8, h.9, h.10⟩
theorem MSt.steps_ (h : MSt w regs A l cap inp mb gr gm Ai ci ov s W) (k : Nat) : MSt w regs A l cap inp mb gr gm Ai ci ov { s with steps := k } (W.setCell ⟨mb, 8, none⟩ (.int .i64 (k : Int))) := h.put 8 _ Ai ci ov _ rfl rfl rfl h.out h.ne h.inv h.icap
end
attribute [local irreducible] Row madeCells TCount
-- STEPS
theorem ValsAt.tail_ {w : World} {b o : Nat} {x : Value} {xs : List Value} (h : ValsAt w (some ⟨b, o, none⟩) (x :: xs)) : ValsAt w (some ⟨b, o + 1, none⟩) xs := fun _ => by (
 obtain ⟨b', o', e, hb, hc⟩ := h (by simp)
 injection e with e
 injection e with e1 e2 _
 subst e1 e2
 exact ⟨b, o + 1, rfl, hb, fun i v hi => by rw [show o + 1 + i = o + (i + 1) by omega]; exact hc (i + 1) v (by simpa using hi)⟩)
theorem MSt.readOne {w : World} {regs : Int} {A : Option Addr} {l : List Nd} {cap : Nat} {inp : List Int} {mb gr gm : Nat} {ib io : Nat} {ci : Nat} {ov : Value} {s : Rn} {W : World} (h : MSt w regs A l cap inp mb gr gm (some ⟨ib, io, none⟩) ci ov s W) {z : Int} (hd : inp.drop s.read = z :: inp.drop (s.read + 1)) (hI : ValsAt w (some ⟨ib, io, none⟩) (ints (inp.drop s.read))) :
 (ci = 1 → MSt w regs A l cap inp mb gr gm (some ⟨ib, io, none⟩) 0 ov { s with read := s.read + 1 } (W.setCell ⟨mb, 2, none⟩ (.slice (some ⟨ib, io, none⟩) (inp.length - s.read - 1) 0))) ∧
 (¬ ci = 1 → MSt w regs A l cap inp mb gr gm (some ⟨ib, io + 1, none⟩) (ci - 1) ov { s with read := s.read + 1 } (W.setCell ⟨mb, 2, none⟩ (.slice (some ⟨ib, io + 1, none⟩) (inp.length - s.read - 1) (ci - 1)))) := by (
 have hc := h.icap
 have hln : inp.length - s.read = (inp.drop (s.read + 1)).length + 1 := by rw [← List.length_drop, hd]; rfl
 rw [List.length_drop] at hln
 refine ⟨fun h1 => ?_, fun h1 => ?_⟩
 · (
 subst h1
 have h0 : inp.drop (s.read + 1) = [] := List.drop_eq_nil_of_le (by omega)
 exact h.put 2 _ (some ⟨ib, io, none⟩) 0 ov _ (by simp [mcells]; omega) rfl rfl h.out h.ne (by show ValsAt w _ (ints (inp.drop (s.read + 1))); rw [h0]; exact ValsAt.nil) ⟨by show inp.length - (s.read + 1) ≤ 0; omega, Nat.zero_le _⟩)
 · (
 rw [hd] at hI
 exact h.put 2 _ (some ⟨ib, io + 1, none⟩) (ci - 1) ov _ (by simp [mcells]; omega) rfl rfl h.out h.ne hI.tail_ ⟨by show inp.length - (s.read + 1) ≤ ci - 1; omega, by omega⟩))
theorem MSt.outGrown {w : World} {regs : Int} {A : Option Addr} {l : List Nd} {cap : Nat} {inp : List Int} {mb gr gm : Nat} {Ai : Option Addr} {ci : Nat} {ov : Value} {s : Rn} {W W' : World} (h : MSt w regs A l cap inp mb gr gm Ai ci ov s W) (hg : W.grownBy W' ov.ownBlock) (hob : ¬ ov.ownBlock = some mb)
 {ov' : Value} {z : Int} (hO : Row W' w.heap.size 3 ov' (ints (s.out ++ [z]))) (hat : ov'.ownBlock = ov.ownBlock ∨ ∀ k, ov'.ownBlock = some k → W.heap.size ≤ k) : MSt w regs A l cap inp mb gr gm Ai ci ov' { s with out := s.out ++ [z] } (W'.setCell ⟨mb, 5, none⟩ ov') := by (
 have hb : Blk W' mb 63 (mcells regs A l cap Ai ci inp gr gm ov s) := h.box.grown hg hob
 refine ⟨hb.set_ 5 ov', (h.regs.kept hg (.inr fun e => h.ne e.symm)).far (p := ⟨mb, 5, none⟩) (h.regs.ne_blk h.box (by decide)) _, hO.far (p := ⟨mb, 5, none⟩) (hO.ne_blk hb (by decide)) _, (h.cnt.own hg (h.cnt.ne_row h.out)).set (p := ⟨mb, 5, none⟩) (Ne.symm h.nmb) _, h.inv, h.icap, fun e => ?_, h.mlo, h.glo, (h.below.grown hg h.below.size fun q hq => (h.out.lt q hq).1).setCell h.mlo _⟩
 rcases hat with h1 | h1
 · exact h.ne (h1.symm.trans e)
 · (
 have := h1 gr e
 have := h.regs.lt gr rfl
 omega))
set_option maxRecDepth 100000 in
theorem step_skip (w : World) (regs : Int) (A : Option Addr) (l : List Nd) (cap : Nat) (inp : List Int) (mb gr gm : Nat) (Ai : Option Addr) (ci : Nat) (ov : Value) (s : Rn) (W : World) (hM : MSt w regs A l cap inp mb gr gm Ai ci ov s W) (hA : NodesAt w A l) (hhi : l.length ≤ 256) (hpos : s.pos < l.length) (hst : s.steps < 1000000) (hrl : s.regs.length = regs.toNat) (hr64 : regs.toNat ≤ 64)
 (d a b t e : Int) (hn : l[s.pos]? = some ⟨0, d, a, b, t, e⟩) :
 Calls Tryz.prog 28 #[.pointer (some ⟨mb, 0, none⟩), .int .i64 s.pos] W fun e' W' => e' = .returned (.int .i64 t) ∧ ∃ Ai' ci' ov', MSt w regs A l cap inp mb gr gm Ai' ci' ov' { s with steps := s.steps + 1 } W' := by (
 obtain ⟨nb, no, n', rfl, hnb, hn', hnl⟩ := hA.get hpos
 have hnn : n' = ⟨0, d, a, b, t, e⟩ := Option.some.inj (hn'.symm.trans hn)
 subst hnn
 obtain ⟨n0, n1, n2, n3, n4, n5⟩ := hnl.below hM.below hnb
 have lnb := Nat.lt_of_lt_of_le hnb hM.below.size
 simp only at n0 n1 n2 n3 n4 n5
 have u0 : (0 : Int) ≤ (s.pos : Int) := by omega
 have u1 : (s.pos : Int) < (l.length : Int) := by omega
 obtain ⟨W2, hW2⟩ : ∃ W2, W2 = (W.setCell ⟨mb, 8, none⟩ (.int .i64 ((s.steps : Int) + 1))).alloc (.cells #[.int .i64 0, .int .i64 d, .int .i64 a, .int .i64 b, .int .i64 t, .int .i64 e] 44) := ⟨_, rfl⟩
 obtain ⟨g5, hg5⟩ : ∃ g, g = W.heap.size := ⟨_, rfl⟩
 have hM2 : MSt w regs (some ⟨nb, no, none⟩) l cap inp mb gr gm Ai ci ov { s with steps := s.steps + 1 } W2 := by rw [hW2]; exact (hM.steps_ (s.steps + 1)).later ((Below.refl _ _).alloc (Nat.le_refl _) _)
 have hmg : ¬ (g5 = mb) := by have := hM.box.lt; omega
 have hN : Blk W2 g5 44 #[.int .i64 0, .int .i64 d, .int .i64 a, .int .i64 b, .int .i64 t, .int .i64 e] := by (
 rw [hW2]; exact Blk.new' (by rw [hg5]; simp))
 have k1 := hM.box.cell 1
 have k8 := hM.box.cell 8
 have kf := hM.box.frozen 8
 have lmb := hM.box.lt
 simp only [Yl] at k1 k8
 have q0 := hN.cell 0
 have q1 := hN.cell 1
 have q2 := hN.cell 2
 have q3 := hN.cell 3
 have q4 := hN.cell 4
 have q5 := hN.cell 5
 have c1 := hM2.box.cell 1
 have c2 := hM2.box.cell 2
 have c3 := hM2.box.cell 3
 have c5 := hM2.box.cell 5
 have c6 := hM2.box.cell 6
 have c7 := hM2.box.cell 7
 have cf2 := hM2.box.frozen 2
 have cf5 := hM2.box.frozen 5
 have cf6 := hM2.box.frozen 6
 have cf7 := hM2.box.frozen 7
 have lN := hN.lt
 have lM2 := hM2.box.lt
 simp only [Yl] at q0 q1 q2 q3 q4 q5 c1 c2 c3 c5 c6 c7
 have nbr := hM2.nbr
 have nbr' : ¬ (gr = mb) := fun e => nbr e.symm
 have ngr : ¬ (g5 = gr) := fun e => (hM2.regs.ne_blk hN (by decide)) (by rw [e]; rfl)
 have ngr' : ¬ (gr = g5) := fun e => ngr e.symm
 have hmg' : ¬ (mb = g5) := fun e => hmg e.symm
 have HM2 := hide hM2
 have HW2 := hide hW2
 have Hg5 := hide hg5
 clear hM hA hM2 hW2 hg5 hN hnl hn hn'
 go_enter Tryz.func28, Tryz.ntmps28
 go_upto_region 3 with fail
 rw [← HW2.out, ← Hg5.out]
 go_wp2_with fail
 go_tidy
 go_ret
 exact ⟨rfl, Ai, ci, ov, HM2.out⟩)
set_option maxRecDepth 100000 in
theorem step_set (w : World) (regs : Int) (A : Option Addr) (l : List Nd) (cap : Nat) (inp : List Int) (mb gr gm : Nat) (Ai : Option Addr) (ci : Nat) (ov : Value) (s : Rn) (W : World) (hM : MSt w regs A l cap inp mb gr gm Ai ci ov s W) (hA : NodesAt w A l) (hhi : l.length ≤ 256) (hpos : s.pos < l.length) (hst : s.steps < 1000000) (hrl : s.regs.length = regs.toNat) (hr64 : regs.toNat ≤ 64)
 (d a b t e : Int) (hn : l[s.pos]? = some ⟨1, d, a, b, t, e⟩) (hd : 0 ≤ d ∧ d < (regs.toNat : Int)) :
 Calls Tryz.prog 28 #[.pointer (some ⟨mb, 0, none⟩), .int .i64 s.pos] W fun e' W' => e' = .returned (.int .i64 t) ∧ ∃ Ai' ci' ov', MSt w regs A l cap inp mb gr gm Ai' ci' ov' { s with steps := s.steps + 1, regs := s.regs.set d.toNat a } W' := by (
 obtain ⟨nb, no, n', rfl, hnb, hn', hnl⟩ := hA.get hpos
 have hnn : n' = ⟨1, d, a, b, t, e⟩ := Option.some.inj (hn'.symm.trans hn)
 subst hnn
 obtain ⟨n0, n1, n2, n3, n4, n5⟩ := hnl.below hM.below hnb
 have lnb := Nat.lt_of_lt_of_le hnb hM.below.size
 simp only at n0 n1 n2 n3 n4 n5
 have u0 : (0 : Int) ≤ (s.pos : Int) := by omega
 have u1 : (s.pos : Int) < (l.length : Int) := by omega
 obtain ⟨W2, hW2⟩ : ∃ W2, W2 = (W.setCell ⟨mb, 8, none⟩ (.int .i64 ((s.steps : Int) + 1))).alloc (.cells #[.int .i64 1, .int .i64 d, .int .i64 a, .int .i64 b, .int .i64 t, .int .i64 e] 44) := ⟨_, rfl⟩
 obtain ⟨g5, hg5⟩ : ∃ g, g = W.heap.size := ⟨_, rfl⟩
 have hM2 : MSt w regs (some ⟨nb, no, none⟩) l cap inp mb gr gm Ai ci ov { s with steps := s.steps + 1 } W2 := by rw [hW2]; exact (hM.steps_ (s.steps + 1)).later ((Below.refl _ _).alloc (Nat.le_refl _) _)
 have hmg : ¬ (g5 = mb) := by have := hM.box.lt; omega
 have hN : Blk W2 g5 44 #[.int .i64 1, .int .i64 d, .int .i64 a, .int .i64 b, .int .i64 t, .int .i64 e] := by (
 rw [hW2]; exact Blk.new' (by rw [hg5]; simp))
 have k1 := hM.box.cell 1
 have k8 := hM.box.cell 8
 have kf := hM.box.frozen 8
 have lmb := hM.box.lt
 simp only [Yl] at k1 k8
 have q0 := hN.cell 0
 have q1 := hN.cell 1
 have q2 := hN.cell 2
 have q3 := hN.cell 3
 have q4 := hN.cell 4
 have q5 := hN.cell 5
 have c1 := hM2.box.cell 1
 have c2 := hM2.box.cell 2
 have c3 := hM2.box.cell 3
 have c5 := hM2.box.cell 5
 have c6 := hM2.box.cell 6
 have c7 := hM2.box.cell 7
 have cf2 := hM2.box.frozen 2
 have cf5 := hM2.box.frozen 5
 have cf6 := hM2.box.frozen 6
 have cf7 := hM2.box.frozen 7
 have lN := hN.lt
 have lM2 := hM2.box.lt
 simp only [Yl] at q0 q1 q2 q3 q4 q5 c1 c2 c3 c5 c6 c7
 have nbr := hM2.nbr
 have nbr' : ¬ (gr = mb) := fun e => nbr e.symm
 have ngr : ¬ (g5 = gr) := fun e => (hM2.regs.ne_blk hN (by decide)) (by rw [e]; rfl)
 have ngr' : ¬ (gr = g5) := fun e => ngr e.symm
 have hmg' : ¬ (mb = g5) := fun e => hmg e.symm
 have rdf := (hM2.regs.int_ (k := d.toNat) (by show _ < s.regs.length; omega)).2
 have rdc := (hM2.regs.int_ (k := d.toNat) (by show _ < s.regs.length; omega)).1
 obtain ⟨hd0, hd1⟩ := hd
 have HM2 := hide hM2
 have HW2 := hide hW2
 have Hg5 := hide hg5
 clear hM hA hM2 hW2 hg5 hN hnl hn hn'
 go_enter Tryz.func28, Tryz.ntmps28
 go_upto_region 3 with fail
 rw [← HW2.out, ← Hg5.out]
 go_upto_region 7 with fail
 go_region
 all_goals go_wp2_with fail
 all_goals go_tidy
 all_goals go_ret
 all_goals exact ⟨rfl, Ai, ci, ov, (HM2.out.later ((Below.refl _ _).drew)).setReg d.toNat a⟩)
set_option maxRecDepth 100000 in
theorem step_copy (w : World) (regs : Int) (A : Option Addr) (l : List Nd) (cap : Nat) (inp : List Int) (mb gr gm : Nat) (Ai : Option Addr) (ci : Nat) (ov : Value) (s : Rn) (W : World) (hM : MSt w regs A l cap inp mb gr gm Ai ci ov s W) (hA : NodesAt w A l) (hhi : l.length ≤ 256) (hpos : s.pos < l.length) (hst : s.steps < 1000000) (hrl : s.regs.length = regs.toNat) (hr64 : regs.toNat ≤ 64)
 (d a b t e : Int) (hn : l[s.pos]? = some ⟨2, d, a, b, t, e⟩) (hd : 0 ≤ d ∧ d < (regs.toNat : Int)) (ha : 0 ≤ a ∧ a < (regs.toNat : Int)) :
 Calls Tryz.prog 28 #[.pointer (some ⟨mb, 0, none⟩), .int .i64 s.pos] W fun e' W' => e' = .returned (.int .i64 t) ∧ ∃ Ai' ci' ov', MSt w regs A l cap inp mb gr gm Ai' ci' ov' { s with steps := s.steps + 1, regs := s.regs.set d.toNat (rg s.regs a) } W' := by (
 obtain ⟨nb, no, n', rfl, hnb, hn', hnl⟩ := hA.get hpos
 have hnn : n' = ⟨2, d, a, b, t, e⟩ := Option.some.inj (hn'.symm.trans hn)
 subst hnn
 obtain ⟨n0, n1, n2, n3, n4, n5⟩ := hnl.below hM.below hnb
 have lnb := Nat.lt_of_lt_of_le hnb hM.below.size
 simp only at n0 n1 n2 n3 n4 n5
 have u0 : (0 : Int) ≤ (s.pos : Int) := by omega
 have u1 : (s.pos : Int) < (l.length : Int) := by omega
 obtain ⟨W2, hW2⟩ : ∃ W2, W2 = (W.setCell ⟨mb, 8, none⟩ (.int .i64 ((s.steps : Int) + 1))).alloc (.cells #[.int .i64 2, .int .i64 d, .int .i64 a, .int .i64 b, .int .i64 t, .int .i64 e] 44) := ⟨_, rfl⟩
 obtain ⟨g5, hg5⟩ : ∃ g, g = W.heap.size := ⟨_, rfl⟩
 have hM2 : MSt w regs (some ⟨nb, no, none⟩) l cap inp mb gr gm Ai ci ov { s with steps := s.steps + 1 } W2 := by rw [hW2]; exact (hM.steps_ (s.steps + 1)).later ((Below.refl _ _).alloc (Nat.le_refl _) _)
 have hmg : ¬ (g5 = mb) := by have := hM.box.lt; omega
 have hN : Blk W2 g5 44 #[.int .i64 2, .int .i64 d, .int .i64 a, .int .i64 b, .int .i64 t, .int .i64 e] := by (
 rw [hW2]; exact Blk.new' (by rw [hg5]; simp))
 have k1 := hM.box.cell 1
 have k8 := hM.box.cell 8
 have kf := hM.box.frozen 8
 have lmb := hM.box.lt
 simp only [Yl] at k1 k8
 have q0 := hN.cell 0
 have q1 := hN.cell 1
 have q2 := hN.cell 2
 have q3 := hN.cell 3
 have q4 := hN.cell 4
 have q5 := hN.cell 5
 have c1 := hM2.box.cell 1
 have c2 := hM2.box.cell 2
 have c3 := hM2.box.cell 3
 have c5 := hM2.box.cell 5
 have c6 := hM2.box.cell 6
 have c7 := hM2.box.cell 7
 have cf2 := hM2.box.frozen 2
 have cf5 := hM2.box.frozen 5
 have cf6 := hM2.box.frozen 6
 have cf7 := hM2.box.frozen 7
 have lN := hN.lt
 have lM2 := hM2.box.lt
 simp only [Yl] at q0 q1 q2 q3 q4 q5 c1 c2 c3 c5 c6 c7
 have nbr := hM2.nbr
 have nbr' : ¬ (gr = mb) := fun e => nbr e.symm
 have ngr : ¬ (g5 = gr) := fun e => (hM2.regs.ne_blk hN (by decide)) (by rw [e]; rfl)
 have ngr' : ¬ (gr = g5) := fun e => ngr e.symm
 have hmg' : ¬ (mb = g5) := fun e => hmg e.symm
 have rdf := (hM2.regs.int_ (k := d.toNat) (by show _ < s.regs.length; omega)).2
 have rdc := (hM2.regs.int_ (k := d.toNat) (by show _ < s.regs.length; omega)).1
 obtain ⟨hd0, hd1⟩ := hd
 have ra := (hM2.regs.int_ (k := a.toNat) (by show _ < s.regs.length; omega)).1
 rw [Int.toNat_of_nonneg ha.1] at ra
 obtain ⟨ha0, ha1⟩ := ha
 have HM2 := hide hM2
 have HW2 := hide hW2
 have Hg5 := hide hg5
 clear hM hA hM2 hW2 hg5 hN hnl hn hn'
 go_enter Tryz.func28, Tryz.ntmps28
 go_upto_region 3 with fail
 rw [← HW2.out, ← Hg5.out]
 go_upto_region 9 with fail
 go_region
 all_goals go_wp2_with fail
 all_goals go_tidy
 all_goals go_ret
 all_goals exact ⟨rfl, Ai, ci, ov, (HM2.out.later ((Below.refl _ _).drew)).setReg d.toNat (rg s.regs a)⟩)
set_option maxRecDepth 100000 in
theorem step_in0 (w : World) (regs : Int) (A : Option Addr) (l : List Nd) (cap : Nat) (inp : List Int) (mb gr gm : Nat) (Ai : Option Addr) (ci : Nat) (ov : Value) (s : Rn) (W : World) (hM : MSt w regs A l cap inp mb gr gm Ai ci ov s W) (hA : NodesAt w A l) (hhi : l.length ≤ 256) (hpos : s.pos < l.length) (hst : s.steps < 1000000) (hrl : s.regs.length = regs.toNat) (hr64 : regs.toNat ≤ 64)
 (d a b t e : Int) (hn : l[s.pos]? = some ⟨9, d, a, b, t, e⟩) (hd : 0 ≤ d ∧ d < (regs.toNat : Int)) (hno : inp.length ≤ s.read) :
 Calls Tryz.prog 28 #[.pointer (some ⟨mb, 0, none⟩), .int .i64 s.pos] W fun e' W' => e' = .returned (.int .i64 t) ∧ ∃ Ai' ci' ov', MSt w regs A l cap inp mb gr gm Ai' ci' ov' { s with steps := s.steps + 1, regs := s.regs.set d.toNat 0 } W' := by (
 obtain ⟨nb, no, n', rfl, hnb, hn', hnl⟩ := hA.get hpos
 have hnn : n' = ⟨9, d, a, b, t, e⟩ := Option.some.inj (hn'.symm.trans hn)
 subst hnn
 obtain ⟨n0, n1, n2, n3, n4, n5⟩ := hnl.below hM.below hnb
 have lnb := Nat.lt_of_lt_of_le hnb hM.below.size
 simp only at n0 n1 n2 n3 n4 n5
 have u0 : (0 : Int) ≤ (s.pos : Int) := by omega
 have u1 : (s.pos : Int) < (l.length : Int) := by omega
 obtain ⟨W2, hW2⟩ : ∃ W2, W2 = (W.setCell ⟨mb, 8, none⟩ (.int .i64 ((s.steps : Int) + 1))).alloc (.cells #[.int .i64 9, .int .i64 d, .int .i64 a, .int .i64 b, .int .i64 t, .int .i64 e] 44) := ⟨_, rfl⟩
 obtain ⟨g5, hg5⟩ : ∃ g, g = W.heap.size := ⟨_, rfl⟩
 have hM2 : MSt w regs (some ⟨nb, no, none⟩) l cap inp mb gr gm Ai ci ov { s with steps := s.steps + 1 } W2 := by rw [hW2]; exact (hM.steps_ (s.steps + 1)).later ((Below.refl _ _).alloc (Nat.le_refl _) _)
 have hmg : ¬ (g5 = mb) := by have := hM.box.lt; omega
 have hN : Blk W2 g5 44 #[.int .i64 9, .int .i64 d, .int .i64 a, .int .i64 b, .int .i64 t, .int .i64 e] := by (
 rw [hW2]; exact Blk.new' (by rw [hg5]; simp))
 have k1 := hM.box.cell 1
 have k8 := hM.box.cell 8
 have kf := hM.box.frozen 8
 have lmb := hM.box.lt
 simp only [Yl] at k1 k8
 have q0 := hN.cell 0
 have q1 := hN.cell 1
 have q2 := hN.cell 2
 have q3 := hN.cell 3
 have q4 := hN.cell 4
 have q5 := hN.cell 5
 have c1 := hM2.box.cell 1
 have c2 := hM2.box.cell 2
 have c3 := hM2.box.cell 3
 have c5 := hM2.box.cell 5
 have c6 := hM2.box.cell 6
 have c7 := hM2.box.cell 7
 have cf2 := hM2.box.frozen 2
 have cf5 := hM2.box.frozen 5
 have cf6 := hM2.box.frozen 6
 have cf7 := hM2.box.frozen 7
 have lN := hN.lt
 have lM2 := hM2.box.lt
 simp only [Yl] at q0 q1 q2 q3 q4 q5 c1 c2 c3 c5 c6 c7
 have nbr := hM2.nbr
 have nbr' : ¬ (gr = mb) := fun e => nbr e.symm
 have ngr : ¬ (g5 = gr) := fun e => (hM2.regs.ne_blk hN (by decide)) (by rw [e]; rfl)
 have ngr' : ¬ (gr = g5) := fun e => ngr e.symm
 have hmg' : ¬ (mb = g5) := fun e => hmg e.symm
 have rdf := (hM2.regs.int_ (k := d.toNat) (by show _ < s.regs.length; omega)).2
 have rdc := (hM2.regs.int_ (k := d.toNat) (by show _ < s.regs.length; omega)).1
 obtain ⟨hd0, hd1⟩ := hd
 have hin : inp.length - s.read = 0 := by omega
 rw [hin] at c2
 have HM2 := hide hM2
 have HW2 := hide hW2
 have Hg5 := hide hg5
 clear hM hA hM2 hW2 hg5 hN hnl hn hn'
 go_enter Tryz.func28, Tryz.ntmps28
 go_upto_region 3 with fail
 rw [← HW2.out, ← Hg5.out]
 go_upto_region 11 with fail
 go_region
 all_goals go_wp2_with fail
 all_goals go_tidy
 all_goals go_ret
 all_goals exact ⟨rfl, Ai, ci, ov, (HM2.out.later ((Below.refl _ _).drew)).setReg d.toNat 0⟩)
set_option maxRecDepth 100000 in
theorem step_in1 (w : World) (regs : Int) (A : Option Addr) (l : List Nd) (cap : Nat) (inp : List Int) (mb gr gm : Nat) (Ai : Option Addr) (ci : Nat) (ov : Value) (s : Rn) (W : World) (hM : MSt w regs A l cap inp mb gr gm Ai ci ov s W) (hA : NodesAt w A l) (hhi : l.length ≤ 256) (hpos : s.pos < l.length) (hst : s.steps < 1000000) (hrl : s.regs.length = regs.toNat) (hr64 : regs.toNat ≤ 64)
 (d a b t e : Int) (hn : l[s.pos]? = some ⟨9, d, a, b, t, e⟩) (hd : 0 ≤ d ∧ d < (regs.toNat : Int)) (hyes : s.read < inp.length) :
 Calls Tryz.prog 28 #[.pointer (some ⟨mb, 0, none⟩), .int .i64 s.pos] W fun e' W' => e' = .returned (.int .i64 t) ∧ ∃ Ai' ci' ov', MSt w regs A l cap inp mb gr gm Ai' ci' ov' { s with steps := s.steps + 1, regs := s.regs.set d.toNat (inp.getD s.read 0), read := s.read + 1 } W' := by (
 obtain ⟨nb, no, n', rfl, hnb, hn', hnl⟩ := hA.get hpos
 have hnn : n' = ⟨9, d, a, b, t, e⟩ := Option.some.inj (hn'.symm.trans hn)
 subst hnn
 obtain ⟨n0, n1, n2, n3, n4, n5⟩ := hnl.below hM.below hnb
 have lnb := Nat.lt_of_lt_of_le hnb hM.below.size
 simp only at n0 n1 n2 n3 n4 n5
 have u0 : (0 : Int) ≤ (s.pos : Int) := by omega
 have u1 : (s.pos : Int) < (l.length : Int) := by omega
 obtain ⟨W2, hW2⟩ : ∃ W2, W2 = (W.setCell ⟨mb, 8, none⟩ (.int .i64 ((s.steps : Int) + 1))).alloc (.cells #[.int .i64 9, .int .i64 d, .int .i64 a, .int .i64 b, .int .i64 t, .int .i64 e] 44) := ⟨_, rfl⟩
 obtain ⟨g5, hg5⟩ : ∃ g, g = W.heap.size := ⟨_, rfl⟩
 have hM2 : MSt w regs (some ⟨nb, no, none⟩) l cap inp mb gr gm Ai ci ov { s with steps := s.steps + 1 } W2 := by rw [hW2]; exact (hM.steps_ (s.steps + 1)).later ((Below.refl _ _).alloc (Nat.le_refl _) _)
 have hmg : ¬ (g5 = mb) := by have := hM.box.lt; omega
 have hN : Blk W2 g5 44 #[.int .i64 9, .int .i64 d, .int .i64 a, .int .i64 b, .int .i64 t, .int .i64 e] := by (
 rw [hW2]; exact Blk.new' (by rw [hg5]; simp))
 have k1 := hM.box.cell 1
 have k8 := hM.box.cell 8
 have kf := hM.box.frozen 8
 have lmb := hM.box.lt
 simp only [Yl] at k1 k8
 have q0 := hN.cell 0
 have q1 := hN.cell 1
 have q2 := hN.cell 2
 have q3 := hN.cell 3
 have q4 := hN.cell 4
 have q5 := hN.cell 5
 have c1 := hM2.box.cell 1
 have c2 := hM2.box.cell 2
 have c3 := hM2.box.cell 3
 have c5 := hM2.box.cell 5
 have c6 := hM2.box.cell 6
 have c7 := hM2.box.cell 7
 have cf2 := hM2.box.frozen 2
 have cf5 := hM2.box.frozen 5
 have cf6 := hM2.box.frozen 6
 have cf7 := hM2.box.frozen 7
 have lN := hN.lt
 have lM2 := hM2.box.lt
 simp only [Yl] at q0 q1 q2 q3 q4 q5 c1 c2 c3 c5 c6 c7
 have nbr := hM2.nbr
 have nbr' : ¬ (gr = mb) := fun e => nbr e.symm
 have ngr : ¬ (g5 = gr) := fun e => (hM2.regs.ne_blk hN (by decide)) (by rw [e]; rfl)
 have ngr' : ¬ (gr = g5) := fun e => ngr e.symm
 have hmg' : ¬ (mb = g5) := fun e => hmg e.symm
 have rdf := (hM2.regs.int_ (k := d.toNat) (by show _ < s.regs.length; omega)).2
 have rdc := (hM2.regs.int_ (k := d.toNat) (by show _ < s.regs.length; omega)).1
 obtain ⟨hd0, hd1⟩ := hd
 obtain ⟨ib, io, z, rfl, hib, hiz, ciz⟩ := hM2.ins.int (k := 0) (by simp; omega)
 have hz2 : inp.getD s.read 0 = z := by (
 rw [List.getElem?_drop, Nat.add_zero] at hiz
 rw [List.getD_eq_getElem?_getD, hiz]; rfl)
 rw [Nat.add_zero] at ciz
 have hiw : ValsAt w (some ⟨ib, io, none⟩) (ints (inp.drop s.read)) := hM.inv
 obtain ⟨ib', io', _, e1, hib2, _, _⟩ := hiw.int (k := 0) (by simp; omega)
 have hci := hM.icap
 injection e1 with e1
 injection e1 with e1 e2 _
 subst e1 e2
 have nig : ¬ (ib = gr) := by have := hM.grlo; omega
 have nim : ¬ (ib = mb) := by have := hM.mlo; omega
 have hpos2 : (0 : Int) < ((inp.length - s.read : Nat) : Int) := by omega
 have hne0 : inp.length - s.read ≠ 0 := by omega
 have HC := hide hci
 have hdrop : inp.drop s.read = z :: inp.drop (s.read + 1) := by (
 rw [List.drop_eq_getElem_cons hyes]
 have := hiz
 rw [List.getElem?_drop, Nat.add_zero, List.getElem?_eq_getElem hyes] at this
 rw [Option.some.inj this])
 have Hdr := hide hdrop
 have Hz2 := hide hz2
 have Hiw := hide hiw
 clear hiw hdrop hz2 hiz hci
 have HM2 := hide hM2
 have HW2 := hide hW2
 have Hg5 := hide hg5
 clear hM hA hM2 hW2 hg5 hN hnl hn hn'
 go_enter Tryz.func28, Tryz.ntmps28
 go_upto_region 3 with fail
 rw [← HW2.out, ← Hg5.out]
 go_upto_region 11 with fail
 go_region
 go_upto_region 13 with fail
 go_region
 go_wp2_with fail
 all_goals go_tidy
 all_goals go_ret
 all_goals have hr1 := ((HM2.out.setReg d.toNat 0).setReg d.toNat z)
 all_goals simp only [List.set_set] at hr1
 all_goals have hr2 := hr1.readOne Hdr.out Hiw.out
 all_goals rw [show inp[s.read] = z by have h0 := Hz2.out; rw [List.getD_eq_getElem?_getD, List.getElem?_eq_getElem hyes] at h0; exact h0]
 all_goals first | exact ⟨rfl, _, _, _, (hr2.1 (by omega)).later ((Below.refl _ _).drew.drew)⟩ | exact ⟨rfl, _, _, _, (hr2.2 (by omega)).later ((Below.refl _ _).drew.drew)⟩)
set_option maxRecDepth 100000 in
theorem step_if0 (w : World) (regs : Int) (A : Option Addr) (l : List Nd) (cap : Nat) (inp : List Int) (mb gr gm : Nat) (Ai : Option Addr) (ci : Nat) (ov : Value) (s : Rn) (W : World) (hM : MSt w regs A l cap inp mb gr gm Ai ci ov s W) (hA : NodesAt w A l) (hhi : l.length ≤ 256) (hpos : s.pos < l.length) (hst : s.steps < 1000000) (hrl : s.regs.length = regs.toNat) (hr64 : regs.toNat ≤ 64)
 (d a b t e : Int) (hn : l[s.pos]? = some ⟨11, d, a, b, t, e⟩) (ha : 0 ≤ a ∧ a < (regs.toNat : Int)) (hz : rg s.regs a = 0) :
 Calls Tryz.prog 28 #[.pointer (some ⟨mb, 0, none⟩), .int .i64 s.pos] W fun e' W' => e' = .returned (.int .i64 e) ∧ ∃ Ai' ci' ov', MSt w regs A l cap inp mb gr gm Ai' ci' ov' { s with steps := s.steps + 1 } W' := by (
 obtain ⟨nb, no, n', rfl, hnb, hn', hnl⟩ := hA.get hpos
 have hnn : n' = ⟨11, d, a, b, t, e⟩ := Option.some.inj (hn'.symm.trans hn)
 subst hnn
 obtain ⟨n0, n1, n2, n3, n4, n5⟩ := hnl.below hM.below hnb
 have lnb := Nat.lt_of_lt_of_le hnb hM.below.size
 simp only at n0 n1 n2 n3 n4 n5
 have u0 : (0 : Int) ≤ (s.pos : Int) := by omega
 have u1 : (s.pos : Int) < (l.length : Int) := by omega
 obtain ⟨W2, hW2⟩ : ∃ W2, W2 = (W.setCell ⟨mb, 8, none⟩ (.int .i64 ((s.steps : Int) + 1))).alloc (.cells #[.int .i64 11, .int .i64 d, .int .i64 a, .int .i64 b, .int .i64 t, .int .i64 e] 44) := ⟨_, rfl⟩
 obtain ⟨g5, hg5⟩ : ∃ g, g = W.heap.size := ⟨_, rfl⟩
 have hM2 : MSt w regs (some ⟨nb, no, none⟩) l cap inp mb gr gm Ai ci ov { s with steps := s.steps + 1 } W2 := by rw [hW2]; exact (hM.steps_ (s.steps + 1)).later ((Below.refl _ _).alloc (Nat.le_refl _) _)
 have hmg : ¬ (g5 = mb) := by have := hM.box.lt; omega
 have hN : Blk W2 g5 44 #[.int .i64 11, .int .i64 d, .int .i64 a, .int .i64 b, .int .i64 t, .int .i64 e] := by (
 rw [hW2]; exact Blk.new' (by rw [hg5]; simp))
 have k1 := hM.box.cell 1
 have k8 := hM.box.cell 8
 have kf := hM.box.frozen 8
 have lmb := hM.box.lt
 simp only [Yl] at k1 k8
 have q0 := hN.cell 0
 have q1 := hN.cell 1
 have q2 := hN.cell 2
 have q3 := hN.cell 3
 have q4 := hN.cell 4
 have q5 := hN.cell 5
 have c1 := hM2.box.cell 1
 have c2 := hM2.box.cell 2
 have c3 := hM2.box.cell 3
 have c5 := hM2.box.cell 5
 have c6 := hM2.box.cell 6
 have c7 := hM2.box.cell 7
 have cf2 := hM2.box.frozen 2
 have cf5 := hM2.box.frozen 5
 have cf6 := hM2.box.frozen 6
 have cf7 := hM2.box.frozen 7
 have lN := hN.lt
 have lM2 := hM2.box.lt
 simp only [Yl] at q0 q1 q2 q3 q4 q5 c1 c2 c3 c5 c6 c7
 have nbr := hM2.nbr
 have nbr' : ¬ (gr = mb) := fun e => nbr e.symm
 have ngr : ¬ (g5 = gr) := fun e => (hM2.regs.ne_blk hN (by decide)) (by rw [e]; rfl)
 have ngr' : ¬ (gr = g5) := fun e => ngr e.symm
 have hmg' : ¬ (mb = g5) := fun e => hmg e.symm
 have ra := (hM2.regs.int_ (k := a.toNat) (by show _ < s.regs.length; omega)).1
 rw [Int.toNat_of_nonneg ha.1] at ra
 obtain ⟨ha0, ha1⟩ := ha
 rw [hz] at ra
 clear hz
 have HM2 := hide hM2
 have HW2 := hide hW2
 have Hg5 := hide hg5
 clear hM hA hM2 hW2 hg5 hN hnl hn hn'
 go_enter Tryz.func28, Tryz.ntmps28
 go_upto_region 3 with fail
 rw [← HW2.out, ← Hg5.out]
 go_upto_region 18 with fail
 go_quiet (fail)
 go_wp2_with fail
 go_tidy
 go_ret
 exact ⟨rfl, Ai, ci, ov, HM2.out.later (below_drewN (Below.refl _ _) _)⟩)
set_option maxRecDepth 100000 in
theorem step_if1 (w : World) (regs : Int) (A : Option Addr) (l : List Nd) (cap : Nat) (inp : List Int) (mb gr gm : Nat) (Ai : Option Addr) (ci : Nat) (ov : Value) (s : Rn) (W : World) (hM : MSt w regs A l cap inp mb gr gm Ai ci ov s W) (hA : NodesAt w A l) (hhi : l.length ≤ 256) (hpos : s.pos < l.length) (hst : s.steps < 1000000) (hrl : s.regs.length = regs.toNat) (hr64 : regs.toNat ≤ 64)
 (d a b t e : Int) (hn : l[s.pos]? = some ⟨11, d, a, b, t, e⟩) (ha : 0 ≤ a ∧ a < (regs.toNat : Int)) (hz : ¬ rg s.regs a = 0) :
 Calls Tryz.prog 28 #[.pointer (some ⟨mb, 0, none⟩), .int .i64 s.pos] W fun e' W' => e' = .returned (.int .i64 t) ∧ ∃ Ai' ci' ov', MSt w regs A l cap inp mb gr gm Ai' ci' ov' { s with steps := s.steps + 1 } W' := by (
 obtain ⟨nb, no, n', rfl, hnb, hn', hnl⟩ := hA.get hpos
 have hnn : n' = ⟨11, d, a, b, t, e⟩ := Option.some.inj (hn'.symm.trans hn)
 subst hnn
 obtain ⟨n0, n1, n2, n3, n4, n5⟩ := hnl.below hM.below hnb
 have lnb := Nat.lt_of_lt_of_le hnb hM.below.size
 simp only at n0 n1 n2 n3 n4 n5
 have u0 : (0 : Int) ≤ (s.pos : Int) := by omega
 have u1 : (s.pos : Int) < (l.length : Int) := by omega
 obtain ⟨W2, hW2⟩ : ∃ W2, W2 = (W.setCell ⟨mb, 8, none⟩ (.int .i64 ((s.steps : Int) + 1))).alloc (.cells #[.int .i64 11, .int .i64 d, .int .i64 a, .int .i64 b, .int .i64 t, .int .i64 e] 44) := ⟨_, rfl⟩
 obtain ⟨g5, hg5⟩ : ∃ g, g = W.heap.size := ⟨_, rfl⟩
 have hM2 : MSt w regs (some ⟨nb, no, none⟩) l cap inp mb gr gm Ai ci ov { s with steps := s.steps + 1 } W2 := by rw [hW2]; exact (hM.steps_ (s.steps + 1)).later ((Below.refl _ _).alloc (Nat.le_refl _) _)
 have hmg : ¬ (g5 = mb) := by have := hM.box.lt; omega
 have hN : Blk W2 g5 44 #[.int .i64 11, .int .i64 d, .int .i64 a, .int .i64 b, .int .i64 t, .int .i64 e] := by (
 rw [hW2]; exact Blk.new' (by rw [hg5]; simp))
 have k1 := hM.box.cell 1
 have k8 := hM.box.cell 8
 have kf := hM.box.frozen 8
 have lmb := hM.box.lt
 simp only [Yl] at k1 k8
 have q0 := hN.cell 0
 have q1 := hN.cell 1
 have q2 := hN.cell 2
 have q3 := hN.cell 3
 have q4 := hN.cell 4
 have q5 := hN.cell 5
 have c1 := hM2.box.cell 1
 have c2 := hM2.box.cell 2
 have c3 := hM2.box.cell 3
 have c5 := hM2.box.cell 5
 have c6 := hM2.box.cell 6
 have c7 := hM2.box.cell 7
 have cf2 := hM2.box.frozen 2
 have cf5 := hM2.box.frozen 5
 have cf6 := hM2.box.frozen 6
 have cf7 := hM2.box.frozen 7
 have lN := hN.lt
 have lM2 := hM2.box.lt
 simp only [Yl] at q0 q1 q2 q3 q4 q5 c1 c2 c3 c5 c6 c7
 have nbr := hM2.nbr
 have nbr' : ¬ (gr = mb) := fun e => nbr e.symm
 have ngr : ¬ (g5 = gr) := fun e => (hM2.regs.ne_blk hN (by decide)) (by rw [e]; rfl)
 have ngr' : ¬ (gr = g5) := fun e => ngr e.symm
 have hmg' : ¬ (mb = g5) := fun e => hmg e.symm
 have ra := (hM2.regs.int_ (k := a.toNat) (by show _ < s.regs.length; omega)).1
 rw [Int.toNat_of_nonneg ha.1] at ra
 obtain ⟨ha0, ha1⟩ := ha
 generalize rg s.regs a = xa at ra hz
 have hz2 : (xa == 0) = false := by simpa using hz
 have HM2 := hide hM2
 have HW2 := hide hW2
 have Hg5 := hide hg5
 clear hM hA hM2 hW2 hg5 hN hnl hn hn'
 go_enter Tryz.func28, Tryz.ntmps28
 go_upto_region 3 with fail
 rw [← HW2.out, ← Hg5.out]
 go_upto_region 18 with fail
 go_quiet (fail)
 go_wp2_with fail
 go_tidy
 go_ret
 exact ⟨rfl, Ai, ci, ov, HM2.out.later (below_drewN (Below.refl _ _) _)⟩)
set_option maxRecDepth 100000 in
theorem step_end (w : World) (regs : Int) (A : Option Addr) (l : List Nd) (cap : Nat) (inp : List Int) (mb gr gm : Nat) (Ai : Option Addr) (ci : Nat) (ov : Value) (s : Rn) (W : World) (hM : MSt w regs A l cap inp mb gr gm Ai ci ov s W) (hA : NodesAt w A l) (hhi : l.length ≤ 256) (hpos : s.pos < l.length) (hst : s.steps < 1000000) (hrl : s.regs.length = regs.toNat) (hr64 : regs.toNat ≤ 64)
 (d a b t e : Int) (hn : l[s.pos]? = some ⟨12, d, a, b, t, e⟩) (ha : 0 ≤ a ∧ a < (regs.toNat : Int)) :
 Calls Tryz.prog 28 #[.pointer (some ⟨mb, 0, none⟩), .int .i64 s.pos] W fun e' W' => e' = .returned (.int .i64 t) ∧ ∃ Ai' ci' ov', MSt w regs A l cap inp mb gr gm Ai' ci' ov' { s with steps := s.steps + 1, ret := rg s.regs a, ended := true } W' := by (
 obtain ⟨nb, no, n', rfl, hnb, hn', hnl⟩ := hA.get hpos
 have hnn : n' = ⟨12, d, a, b, t, e⟩ := Option.some.inj (hn'.symm.trans hn)
 subst hnn
 obtain ⟨n0, n1, n2, n3, n4, n5⟩ := hnl.below hM.below hnb
 have lnb := Nat.lt_of_lt_of_le hnb hM.below.size
 simp only at n0 n1 n2 n3 n4 n5
 have u0 : (0 : Int) ≤ (s.pos : Int) := by omega
 have u1 : (s.pos : Int) < (l.length : Int) := by omega
 obtain ⟨W2, hW2⟩ : ∃ W2, W2 = (W.setCell ⟨mb, 8, none⟩ (.int .i64 ((s.steps : Int) + 1))).alloc (.cells #[.int .i64 12, .int .i64 d, .int .i64 a, .int .i64 b, .int .i64 t, .int .i64 e] 44) := ⟨_, rfl⟩
 obtain ⟨g5, hg5⟩ : ∃ g, g = W.heap.size := ⟨_, rfl⟩
 have hM2 : MSt w regs (some ⟨nb, no, none⟩) l cap inp mb gr gm Ai ci ov { s with steps := s.steps + 1 } W2 := by rw [hW2]; exact (hM.steps_ (s.steps + 1)).later ((Below.refl _ _).alloc (Nat.le_refl _) _)
 have hmg : ¬ (g5 = mb) := by have := hM.box.lt; omega
 have hN : Blk W2 g5 44 #[.int .i64 12, .int .i64 d, .int .i64 a, .int .i64 b, .int .i64 t, .int .i64 e] := by (
 rw [hW2]; exact Blk.new' (by rw [hg5]; simp))
 have k1 := hM.box.cell 1
 have k8 := hM.box.cell 8
 have kf := hM.box.frozen 8
 have lmb := hM.box.lt
 simp only [Yl] at k1 k8
 have q0 := hN.cell 0
 have q1 := hN.cell 1
 have q2 := hN.cell 2
 have q3 := hN.cell 3
 have q4 := hN.cell 4
 have q5 := hN.cell 5
 have c1 := hM2.box.cell 1
 have c2 := hM2.box.cell 2
 have c3 := hM2.box.cell 3
 have c5 := hM2.box.cell 5
 have c6 := hM2.box.cell 6
 have c7 := hM2.box.cell 7
 have cf2 := hM2.box.frozen 2
 have cf5 := hM2.box.frozen 5
 have cf6 := hM2.box.frozen 6
 have cf7 := hM2.box.frozen 7
 have lN := hN.lt
 have lM2 := hM2.box.lt
 simp only [Yl] at q0 q1 q2 q3 q4 q5 c1 c2 c3 c5 c6 c7
 have nbr := hM2.nbr
 have nbr' : ¬ (gr = mb) := fun e => nbr e.symm
 have ngr : ¬ (g5 = gr) := fun e => (hM2.regs.ne_blk hN (by decide)) (by rw [e]; rfl)
 have ngr' : ¬ (gr = g5) := fun e => ngr e.symm
 have hmg' : ¬ (mb = g5) := fun e => hmg e.symm
 have ra := (hM2.regs.int_ (k := a.toNat) (by show _ < s.regs.length; omega)).1
 rw [Int.toNat_of_nonneg ha.1] at ra
 obtain ⟨ha0, ha1⟩ := ha
 have HM2 := hide hM2
 have HW2 := hide hW2
 have Hg5 := hide hg5
 clear hM hA hM2 hW2 hg5 hN hnl hn hn'
 go_enter Tryz.func28, Tryz.ntmps28
 go_upto_region 3 with fail
 rw [← HW2.out, ← Hg5.out]
 go_upto_region 21 with fail
 go_region
 all_goals go_wp2_with fail
 all_goals go_tidy
 all_goals go_ret
 all_goals have h1 := HM2.out.put 6 (.int .i64 (rg s.regs a)) Ai ci ov { s with steps := s.steps + 1, ret := rg s.regs a } rfl rfl rfl HM2.out.out HM2.out.ne HM2.out.inv HM2.out.icap
 all_goals have h2 := h1.put 7 (.bool true) Ai ci ov { s with steps := s.steps + 1, ret := rg s.regs a, ended := true } rfl rfl rfl h1.out h1.ne h1.inv h1.icap
 all_goals exact ⟨rfl, Ai, ci, ov, h2.later ((Below.refl _ _).drew)⟩)
set_option maxRecDepth 100000 in
theorem step_out (w : World) (regs : Int) (A : Option Addr) (l : List Nd) (cap : Nat) (inp : List Int) (mb gr gm : Nat) (Ai : Option Addr) (ci : Nat) (ov : Value) (s : Rn) (W : World) (hM : MSt w regs A l cap inp mb gr gm Ai ci ov s W) (hA : NodesAt w A l) (hhi : l.length ≤ 256) (hpos : s.pos < l.length) (hst : s.steps < 1000000) (hrl : s.regs.length = regs.toNat) (hr64 : regs.toNat ≤ 64)
 (d a b t e : Int) (hn : l[s.pos]? = some ⟨10, d, a, b, t, e⟩) (ha : 0 ≤ a ∧ a < (regs.toNat : Int)) (hol : s.out.length < 1000000) :
 Calls Tryz.prog 28 #[.pointer (some ⟨mb, 0, none⟩), .int .i64 s.pos] W fun e' W' => e' = .returned (.int .i64 t) ∧ ∃ Ai' ci' ov', MSt w regs A l cap inp mb gr gm Ai' ci' ov' { s with steps := s.steps + 1, out := s.out ++ [rg s.regs a] } W' := by (
 obtain ⟨nb, no, n', rfl, hnb, hn', hnl⟩ := hA.get hpos
 have hnn : n' = ⟨10, d, a, b, t, e⟩ := Option.some.inj (hn'.symm.trans hn)
 subst hnn
 obtain ⟨n0, n1, n2, n3, n4, n5⟩ := hnl.below hM.below hnb
 have lnb := Nat.lt_of_lt_of_le hnb hM.below.size
 simp only at n0 n1 n2 n3 n4 n5
 have u0 : (0 : Int) ≤ (s.pos : Int) := by omega
 have u1 : (s.pos : Int) < (l.length : Int) := by omega
 obtain ⟨W2, hW2⟩ : ∃ W2, W2 = (W.setCell ⟨mb, 8, none⟩ (.int .i64 ((s.steps : Int) + 1))).alloc (.cells #[.int .i64 10, .int .i64 d, .int .i64 a, .int .i64 b, .int .i64 t, .int .i64 e] 44) := ⟨_, rfl⟩
 obtain ⟨g5, hg5⟩ : ∃ g, g = W.heap.size := ⟨_, rfl⟩
 have hM2 : MSt w regs (some ⟨nb, no, none⟩) l cap inp mb gr gm Ai ci ov { s with steps := s.steps + 1 } W2 := by rw [hW2]; exact (hM.steps_ (s.steps + 1)).later ((Below.refl _ _).alloc (Nat.le_refl _) _)
 have hmg : ¬ (g5 = mb) := by have := hM.box.lt; omega
 have hN : Blk W2 g5 44 #[.int .i64 10, .int .i64 d, .int .i64 a, .int .i64 b, .int .i64 t, .int .i64 e] := by (
 rw [hW2]; exact Blk.new' (by rw [hg5]; simp))
 have k1 := hM.box.cell 1
 have k8 := hM.box.cell 8
 have kf := hM.box.frozen 8
 have lmb := hM.box.lt
 simp only [Yl] at k1 k8
 have q0 := hN.cell 0
 have q1 := hN.cell 1
 have q2 := hN.cell 2
 have q3 := hN.cell 3
 have q4 := hN.cell 4
 have q5 := hN.cell 5
 have c1 := hM2.box.cell 1
 have c2 := hM2.box.cell 2
 have c3 := hM2.box.cell 3
 have c5 := hM2.box.cell 5
 have c6 := hM2.box.cell 6
 have c7 := hM2.box.cell 7
 have cf2 := hM2.box.frozen 2
 have cf5 := hM2.box.frozen 5
 have cf6 := hM2.box.frozen 6
 have cf7 := hM2.box.frozen 7
 have lN := hN.lt
 have lM2 := hM2.box.lt
 simp only [Yl] at q0 q1 q2 q3 q4 q5 c1 c2 c3 c5 c6 c7
 have nbr := hM2.nbr
 have nbr' : ¬ (gr = mb) := fun e => nbr e.symm
 have ngr : ¬ (g5 = gr) := fun e => (hM2.regs.ne_blk hN (by decide)) (by rw [e]; rfl)
 have ngr' : ¬ (gr = g5) := fun e => ngr e.symm
 have hmg' : ¬ (mb = g5) := fun e => hmg e.symm
 obtain ⟨i3, h3i, h3z, h3s, h3b⟩ := info_parts infoInt
 have hO2 := hM2.out
 have hob : ¬ (ov.ownBlock = some mb) := fun e => hM2.out.ne_blk hM2.box (by decide) e
 have hon : ¬ (ov.ownBlock = some g5) := fun e => hM2.out.ne_blk hN (by decide) e
 obtain ⟨OA, oc, hov, hoc1, hoc2⟩ := hO2.shape
 rw [ints_length] at hov hoc1
 subst hov
 have hlo := ints_length s.out
 have hwz := hM2.below.size
 have ra := (hM2.regs.int_ (k := a.toNat) (by show _ < s.regs.length; omega)).1
 rw [Int.toNat_of_nonneg ha.1] at ra
 obtain ⟨ha0, ha1⟩ := ha
 have ha2 : a < max regs 0 := by omega
 have HM2 := hide hM2
 have HW2 := hide hW2
 have Hg5 := hide hg5
 clear hM hA hM2 hW2 hg5 hN hnl hn hn'
 go_enter Tryz.func28, Tryz.ntmps28
 go_upto_region 3 with fail
 rw [← HW2.out, ← Hg5.out]
 go_upto_region 16 with fail
 go_region_law (refine step_append_row (v := .slice OA s.out.length oc) (by rfl) _ _ _ (by rfl) i3 _ 8 Tryz.underlying25 h3i h3z h3s h3b rfl (by rfl) ((hO2.alloc _).drew) (some ⟨W2.heap.size, 0, none⟩) 1 1 [.int .i64 (rg s.regs a)] (by rfl) (by rfl) (vals_one' (by simp)) (by simp [Value.oneCell']) (by simp [maxLen] <;> omega) (by simp <;> omega) (by simp <;> omega) ?_; intro v1 w1 hr1 hg1 hat1; have f5 : w1.frozen? ⟨mb, 5, none⟩ = false := (by rw [hg1.frozen_far _ (by simp <;> omega) (by simp; exact fun e => hob e.symm)]; exact (fpast lM2).trans cf5); have x5 : w1.cell? ⟨mb, 5, none⟩ = some (.slice OA s.out.length oc) := (by rw [hg1.cell_far _ (by simp <;> omega) (by simp; exact fun e => hob e.symm)]; exact (cpast lM2).trans c5); have y4 : w1.cell? ⟨g5, 4, none⟩ = some (.int .i64 t) := (by rw [hg1.cell_far _ (by simp <;> omega) (by simp; exact fun e => hon e.symm)]; exact (cpast lN).trans q4); obtain ⟨A1, cp1, hv1, _, _⟩ := hr1.shape; subst hv1)
 all_goals simp only [Exit.inBlock]
 all_goals go_wp2_with fail
 all_goals go_tidy
 all_goals go_ret
 all_goals (simp only [List.length_append, List.length_singleton, ints_length] at hr1 hat1)
 all_goals have hr1 : Row w1 w.heap.size 3 _ (ints (s.out ++ [rg s.regs a])) := (by rw [show ints (s.out ++ [rg s.regs a]) = ints s.out ++ [.int .i64 (rg s.regs a)] by simp [ints]]; exact hr1)
 all_goals exact ⟨rfl, Ai, ci, _, ((HM2.out.later ((Below.refl _ _).alloc (Nat.le_refl _) _)).later ((Below.refl _ _).drew)).outGrown hg1 hob hr1 (by simpa using hat1)⟩)
set_option maxRecDepth 100000 in
theorem step_reckon (w : World) (regs : Int) (A : Option Addr) (l : List Nd) (cap : Nat) (inp : List Int) (mb gr gm : Nat) (Ai : Option Addr) (ci : Nat) (ov : Value) (s : Rn) (W : World) (hM : MSt w regs A l cap inp mb gr gm Ai ci ov s W) (hA : NodesAt w A l) (hhi : l.length ≤ 256) (hpos : s.pos < l.length) (hst : s.steps < 1000000) (hrl : s.regs.length = regs.toNat) (hr64 : regs.toNat ≤ 64)
 (op d a b t e : Int) (hn : l[s.pos]? = some ⟨op, d, a, b, t, e⟩) (hd : 0 ≤ d ∧ d < (regs.toNat : Int)) (ha : 0 ≤ a ∧ a < (regs.toNat : Int)) (hb : 0 ≤ b ∧ b < (regs.toNat : Int)) (hB : hasB op = true) (kl : Lit) (hkl : keyOf Tryz.prog 41 (Tm.val ⟨op, a, b⟩) = some kl) (hts : s.ts.length < 1000000) :
 Calls Tryz.prog 28 #[.pointer (some ⟨mb, 0, none⟩), .int .i64 s.pos] W fun e' W' => e' = .returned (.int .i64 t) ∧ ∃ Ai' ci' ov', MSt w regs A l cap inp mb gr gm Ai' ci' ov' { s with steps := s.steps + 1, regs := s.regs.set d.toNat (reckV op (rg s.regs a) (rg s.regs b)), ts := s.ts ++ [⟨op, a, b⟩] } W' := by (
 obtain ⟨nb, no, n', rfl, hnb, hn', hnl⟩ := hA.get hpos
 have hnn : n' = ⟨op, d, a, b, t, e⟩ := Option.some.inj (hn'.symm.trans hn)
 subst hnn
 obtain ⟨n0, n1, n2, n3, n4, n5⟩ := hnl.below hM.below hnb
 have lnb := Nat.lt_of_lt_of_le hnb hM.below.size
 simp only at n0 n1 n2 n3 n4 n5
 have u0 : (0 : Int) ≤ (s.pos : Int) := by omega
 have u1 : (s.pos : Int) < (l.length : Int) := by omega
 obtain ⟨W2, hW2⟩ : ∃ W2, W2 = (W.setCell ⟨mb, 8, none⟩ (.int .i64 ((s.steps : Int) + 1))).alloc (.cells #[.int .i64 op, .int .i64 d, .int .i64 a, .int .i64 b, .int .i64 t, .int .i64 e] 44) := ⟨_, rfl⟩
 obtain ⟨g5, hg5⟩ : ∃ g, g = W.heap.size := ⟨_, rfl⟩
 have hM2 : MSt w regs (some ⟨nb, no, none⟩) l cap inp mb gr gm Ai ci ov { s with steps := s.steps + 1 } W2 := by rw [hW2]; exact (hM.steps_ (s.steps + 1)).later ((Below.refl _ _).alloc (Nat.le_refl _) _)
 have hmg : ¬ (g5 = mb) := by have := hM.box.lt; omega
 have hN : Blk W2 g5 44 #[.int .i64 op, .int .i64 d, .int .i64 a, .int .i64 b, .int .i64 t, .int .i64 e] := by (
 rw [hW2]; exact Blk.new' (by rw [hg5]; simp))
 have k1 := hM.box.cell 1
 have k8 := hM.box.cell 8
 have kf := hM.box.frozen 8
 have lmb := hM.box.lt
 simp only [Yl] at k1 k8
 have q0 := hN.cell 0
 have q1 := hN.cell 1
 have q2 := hN.cell 2
 have q3 := hN.cell 3
 have q4 := hN.cell 4
 have q5 := hN.cell 5
 have c1 := hM2.box.cell 1
 have c2 := hM2.box.cell 2
 have c3 := hM2.box.cell 3
 have c5 := hM2.box.cell 5
 have c6 := hM2.box.cell 6
 have c7 := hM2.box.cell 7
 have cf2 := hM2.box.frozen 2
 have cf5 := hM2.box.frozen 5
 have cf6 := hM2.box.frozen 6
 have cf7 := hM2.box.frozen 7
 have lN := hN.lt
 have lM2 := hM2.box.lt
 simp only [Yl] at q0 q1 q2 q3 q4 q5 c1 c2 c3 c5 c6 c7
 have nbr := hM2.nbr
 have nbr' : ¬ (gr = mb) := fun e => nbr e.symm
 have ngr : ¬ (g5 = gr) := fun e => (hM2.regs.ne_blk hN (by decide)) (by rw [e]; rfl)
 have ngr' : ¬ (gr = g5) := fun e => ngr e.symm
 have hmg' : ¬ (mb = g5) := fun e => hmg e.symm
 have o0 : (op == 0) = false := by simp [hasB, inB] at hB ⊢; omega
 have o1 : (op == 1) = false := by simp [hasB, inB] at hB ⊢; omega
 have o2 : (op == 2) = false := by simp [hasB, inB] at hB ⊢; omega
 have o9 : (op == 9) = false := by simp [hasB, inB] at hB ⊢; omega
 have o10 : (op == 10) = false := by simp [hasB, inB] at hB ⊢; omega
 have o11 : (op == 11) = false := by simp [hasB, inB] at hB ⊢; omega
 have o12 : (op == 12) = false := by simp [hasB, inB] at hB ⊢; omega
 have hd2 : d < max regs 0 := by have := hd.2; omega
 have rdf := (hM2.regs.int_ (k := d.toNat) (by show _ < s.regs.length; omega)).2
 have rdc := (hM2.regs.int_ (k := d.toNat) (by show _ < s.regs.length; omega)).1
 obtain ⟨hd0, hd1⟩ := hd
 have HR := fun V (hV : MSt w regs (some ⟨nb, no, none⟩) l cap inp mb gr gm Ai ci ov { s with steps := s.steps + 1 } V) => mreckon_any w regs (some ⟨nb, no, none⟩) l cap inp mb gr gm Ai ci ov { s with steps := s.steps + 1 } V hV ⟨op, a, b⟩ kl hkl hts hrl hr64 ha hb
 have HR := hide HR
 have hmr := hM2.later ((Below.refl _ _).drew)
 have HR2 := hide (HR.out _ hmr)
 have hgmb : ¬ (gm = mb) := Ne.symm hM2.nmb
 have hgm5 : ¬ (gm = g5) := Ne.symm (hM2.cnt.ne_blk hN)
 clear HR hmr ha hb hkl
 have HM2 := hide hM2
 have HW2 := hide hW2
 have Hg5 := hide hg5
 clear hM hA hM2 hW2 hg5 hN hnl hn hn'
 go_enter Tryz.func28, Tryz.ntmps28
 go_upto_region 3 with fail
 rw [← HW2.out, ← Hg5.out]
 go_upto_region 4 with fail
 go_region_held3 (fun w' => w'.cell? ⟨mb, 3, none⟩ = some (.slice (some ⟨gr, 0, none⟩) regs.toNat regs.toNat) ∧ w'.cell? ⟨g5, 0, none⟩ = some (.int .i64 op) ∧ w'.cell? ⟨g5, 1, none⟩ = some (.int .i64 d) ∧ w'.cell? ⟨g5, 2, none⟩ = some (.int .i64 a) ∧ w'.cell? ⟨g5, 3, none⟩ = some (.int .i64 b)) (((try go_split_ands); (try dsimp only); (repeat' apply And.intro) <;> (first | assumption | go_keep)))
  (first | (go_at_call 69; refine (HR2.out).mono ?_; rintro e w3 ⟨rfl, hm3, hg3⟩; have z2 : w3.cell? ⟨mb, 3, none⟩ = some (.slice (some ⟨gr, 0, none⟩) regs.toNat regs.toNat) := hm3.box.cell 3; have y0 : w3.cell? ⟨g5, 0, none⟩ = some (.int .i64 op) := (by rw [hg3.cell_far _ (by simp <;> omega) (by simp; exact fun e => hgm5 e.symm)]; exact q0); have y1 : w3.cell? ⟨g5, 1, none⟩ = some (.int .i64 d) := (by rw [hg3.cell_far _ (by simp <;> omega) (by simp; exact fun e => hgm5 e.symm)]; exact q1); have y2 : w3.cell? ⟨g5, 2, none⟩ = some (.int .i64 a) := (by rw [hg3.cell_far _ (by simp <;> omega) (by simp; exact fun e => hgm5 e.symm)]; exact q2); have y3 : w3.cell? ⟨g5, 3, none⟩ = some (.int .i64 b) := (by rw [hg3.cell_far _ (by simp <;> omega) (by simp; exact fun e => hgm5 e.symm)]; exact q3); have y4 : w3.cell? ⟨g5, 4, none⟩ = some (.int .i64 t) := (by rw [hg3.cell_far _ (by simp <;> omega) (by simp; exact fun e => hgm5 e.symm)]; exact q4); have rdf3 := (hm3.regs.int_ (k := d.toNat) (by show _ < s.regs.length; omega)).2; have rdc3 := (hm3.regs.int_ (k := d.toNat) (by show _ < s.regs.length; omega)).1))
 all_goals (try go_split_ands)
 all_goals (try simp only [Exit.inBlock])
 all_goals go_wp2_with fail
 all_goals go_tidy
 all_goals go_ret
 all_goals exact ⟨rfl, Ai, ci, ov, hm3.setReg d.toNat _⟩)
end
end Go.Proofs.YtmghkonmfbpjcaaGreatDoor
