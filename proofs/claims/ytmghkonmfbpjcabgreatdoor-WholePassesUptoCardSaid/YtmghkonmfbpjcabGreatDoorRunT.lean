/- Parts. -/
import Derived.Test.YtmghkonmfbpjcabGreatDoorGL
set_option linter.unusedVariables false
set_option linter.unusedSimpArgs false
set_option maxRecDepth 100000
set_option maxHeartbeats 8000000
namespace Go.Proofs.YtmghkonmfbpjcabGreatDoor
open Go.RowKit
open Go.Proofs.Tryz
section
open Go.Maps
theorem Y8 {P : Prop} (h : P := by (
 rw [hW2]; exact Blk.new' Xa)) : P := h
section
variable {w : World} {regs : Int} {A : Option Addr} {l : List Nd} {cap : Nat} {inp : List Int} {mb gr gm : Nat} {Ai : Option Addr} {ci : Nat} {ov : Value} {s : Rn} {W W' : World}
theorem MSt.nbr (h : MSt w regs A l cap inp mb gr gm Ai ci ov s W) : ¬ (mb = gr) := fun e => h.regs.ne_blk h.box Ze Zv
theorem MSt.nmr (h : MSt w regs A l cap inp mb gr gm Ai ci ov s W) : ¬ (gm = gr) := fun e => h.cnt.ne_row h.regs Zv
theorem MSt.nmb (h : MSt w regs A l cap inp mb gr gm Ai ci ov s W) : ¬ (mb = gm) := h.cnt.ne_blk h.box
theorem MSt.grlo (h : MSt w regs A l cap inp mb gr gm Ai ci ov s W) : w.heap.size ≤ gr := qQ h.regs
theorem MSt.setReg (h : MSt w regs A l cap inp mb gr gm Ai ci ov s W) (k : Nat) (z : Int) : MSt w regs A l cap inp mb gr gm Ai ci ov { s with regs := s.regs.set k z } (W.setCell ⟨gr, k, none⟩ (.int .i64 z)) := by (
 refine ⟨h.box.far (p := ⟨gr, k, none⟩) h.nbr _, ?_, h.out.far (p := ⟨gr, k, none⟩) h.ne _, h.cnt.set (p := ⟨gr, k, none⟩) h.nmr _, h.inv, h.icap, h.ne, h.mlo, h.glo, h.below.setCell h.grlo _⟩
 have hr := h.regs.store k (.int .i64 z)
 rw [Nat.zero_add] at hr
 have e : (bN s.regs).set k (.int .i64 z) = bN (s.regs.set k z) := by unfold bN; rw [List.map_set]
 rw [e] at hr
 exact hr)
theorem MSt.put (h : MSt w regs A l cap inp mb gr gm Ai ci ov s W) (i : Nat) (u : Value) (Ai' : Option Addr) (ci' : Nat) (ov' : Value) (s' : Rn) (hc : (tH regs A l cap Ai ci inp gr gm ov s).setIfInBounds i u = tH regs A l cap Ai' ci' inp gr gm ov' s') (h1 : s'.regs = s.regs) (h2 : s'.ts = s.ts)
 (hO : Row W w.heap.size 3 ov' (bN s'.out)) (hne : ov'.ownBlock ≠ some gr) (hI : bG w Ai' (bN (inp.drop s'.read))) (hcap : inp.length - s'.read ≤ ci' ∧ ci' ≤ maxLen) : MSt w regs A l cap inp mb gr gm Ai' ci' ov' s' (W.setCell ⟨mb, i, none⟩ u) :=
⟨by have hb := h.box.set_ i u; rw [hc] at hb; exact hb, by rw [h1]; exact h.regs.far (p := ⟨mb, i, none⟩) (h.regs.ne_blk h.box Ze) _, hO.far (p := ⟨mb, i, none⟩) (hO.ne_blk h.box Ze) _, by rw [h2]; exact h.cnt.set (p := ⟨mb, i, none⟩) (Ne.symm h.nmb) _, hI, hcap, hne, h.mlo, h.glo, h.below.setCell h.mlo _⟩
theorem MSt.pos_ (h : MSt w regs A l cap inp mb gr gm Ai ci ov s W) (p : Nat) : MSt w regs A l cap inp mb gr gm Ai ci ov { s with pos := p } W := ⟨h.1, h.2, h.3, h.4, h.5, h.6, h.7, h.8, h.9, h.10⟩
theorem MSt.steps_ (h : MSt w regs A l cap inp mb gr gm Ai ci ov s W) (k : Nat) : MSt w regs A l cap inp mb gr gm Ai ci ov { s with steps := k } (W.setCell ⟨mb, 8, none⟩ (.int .i64 (k : Int))) := h.put 8 _ Ai ci ov _ rfl rfl rfl h.out h.ne h.inv h.icap
end
attribute [local irreducible] Row madeCells cV
-- STEPS
theorem bG.tail_ {w : World} {b o : Nat} {x : Value} {xs : List Value} (h : bG w (some ⟨b, o, none⟩) (x :: xs)) : bG w (some ⟨b, o + 1, none⟩) xs := fun _ => by (
 obtain ⟨b', o', e, hb, hc⟩ := h Zf
 injection e with e
 injection e with e1 e2 _
 subst e1 e2
 exact ⟨b, o + 1, rfl, hb, fun i v hi => by rw [show o + 1 + i = o + (i + 1) by omega]; exact hc (i + 1) v (by simpa using hi)⟩)
theorem MSt.readOne {w : World} {regs : Int} {A : Option Addr} {l : List Nd} {cap : Nat} {inp : List Int} {mb gr gm : Nat} {ib io : Nat} {ci : Nat} {ov : Value} {s : Rn} {W : World} (h : MSt w regs A l cap inp mb gr gm (some ⟨ib, io, none⟩) ci ov s W) {z : Int} (hd : inp.drop s.read = z :: inp.drop (s.read + 1)) (hI : bG w (some ⟨ib, io, none⟩) (bN (inp.drop s.read))) :
 (ci = 1 → MSt w regs A l cap inp mb gr gm (some ⟨ib, io, none⟩) 0 ov { s with read := s.read + 1 } (W.setCell ⟨mb, 2, none⟩ (.slice (some ⟨ib, io, none⟩) (inp.length - s.read - 1) 0))) ∧
 (¬ ci = 1 → MSt w regs A l cap inp mb gr gm (some ⟨ib, io + 1, none⟩) (ci - 1) ov { s with read := s.read + 1 } (W.setCell ⟨mb, 2, none⟩ (.slice (some ⟨ib, io + 1, none⟩) (inp.length - s.read - 1) (ci - 1)))) := by (
 have hc := h.icap
 have hln : inp.length - s.read = (inp.drop (s.read + 1)).length + 1 := by rw [← List.length_drop, hd]; rfl
 rw [List.length_drop] at hln
 refine ⟨fun h1 => ?_, fun h1 => ?_⟩
 · (
 subst h1
 have h0 : inp.drop (s.read + 1) = [] := List.drop_eq_nil_of_le Zb
 exact h.put 2 _ (some ⟨ib, io, none⟩) 0 ov _ (by simp [tH]; omega) rfl rfl h.out h.ne (by show bG w _ (bN (inp.drop (s.read + 1))); rw [h0]; exact bG.nil) ⟨by show inp.length - (s.read + 1) ≤ 0; omega, Nat.zero_le _⟩)
 · (
 rw [hd] at hI
 exact h.put 2 _ (some ⟨ib, io + 1, none⟩) (ci - 1) ov _ (by simp [tH]; omega) rfl rfl h.out h.ne hI.tail_ ⟨by show inp.length - (s.read + 1) ≤ ci - 1; omega, Zb⟩))
theorem MSt.outGrown {w : World} {regs : Int} {A : Option Addr} {l : List Nd} {cap : Nat} {inp : List Int} {mb gr gm : Nat} {Ai : Option Addr} {ci : Nat} {ov : Value} {s : Rn} {W W' : World} (h : MSt w regs A l cap inp mb gr gm Ai ci ov s W) (hg : W.grownBy W' ov.ownBlock) (hob : ¬ ov.ownBlock = some mb)
 {ov' : Value} {z : Int} (hO : Row W' w.heap.size 3 ov' (bN (s.out ++ [z]))) (hat : ov'.ownBlock = ov.ownBlock ∨ ∀ k, ov'.ownBlock = some k → W.heap.size ≤ k) : MSt w regs A l cap inp mb gr gm Ai ci ov' { s with out := s.out ++ [z] } (W'.setCell ⟨mb, 5, none⟩ ov') := by (
 have hb : Blk W' mb 111 (tH regs A l cap Ai ci inp gr gm ov s) := h.box.grown hg hob
 refine ⟨hb.set_ 5 ov', (h.regs.kept hg (.inr fun e => h.ne e.symm)).far (p := ⟨mb, 5, none⟩) (h.regs.ne_blk h.box Ze) _, hO.far (p := ⟨mb, 5, none⟩) (hO.ne_blk hb Ze) _, (h.cnt.own hg (h.cnt.ne_row h.out)).set (p := ⟨mb, 5, none⟩) (Ne.symm h.nmb) _, h.inv, h.icap, fun e => ?_, h.mlo, h.glo, (h.below.grown hg h.below.size fun q hq => (h.out.lt q hq).1).setCell h.mlo _⟩
 rcases hat with h1 | h1
 · exact h.ne (h1.symm.trans e)
 · (
 have := h1 gr e
 have := h.regs.lt gr rfl
 omega))
theorem bJB (w : World) (regs : Int) (A : Option Addr) (l : List Nd) (cap : Nat) (inp : List Int) (mb gr gm : Nat) (Ai : Option Addr) (ci : Nat) (ov : Value) (s : Rn) (W : World) (hM : MSt w regs A l cap inp mb gr gm Ai ci ov s W) (hA : bH w A l) (hhi : l.length ≤ 256) (hpos : s.pos < l.length) (hst : s.steps < 1000000) (hrl : s.regs.length = regs.toNat) (hr64 : regs.toNat ≤ 64)
 (d a b t e : Int) (hn : l[s.pos]? = some ⟨0, d, a, b, t, e⟩) :
 Calls prog 60 #[.pointer (some ⟨mb, 0, none⟩), .int .i64 s.pos] W fun e' W' => e' = .returned (.int .i64 t) ∧ ∃ Ai' ci' ov', MSt w regs A l cap inp mb gr gm Ai' ci' ov' { s with steps := s.steps + 1 } W' := by (
 obtain ⟨nb, no, n', rfl, hnb, hn', hnl⟩ := hA.get hpos
 have hnn : n' = ⟨0, d, a, b, t, e⟩ := Option.some.inj (hn'.symm.trans hn)
 subst hnn
 obtain ⟨n0, n1, n2, n3, n4, n5⟩ := hnl.below hM.below hnb
 have lnb := V6 hnb hM.below.size
 simp only at n0 n1 n2 n3 n4 n5
 refine Vj fun u0 u1 => ?_
 obtain ⟨W2, hW2⟩ := Exq ((W.setCell ⟨mb, 8, none⟩ (.int .i64 ((s.steps : Int) + 1))).alloc (.cells #[.int .i64 0, .int .i64 d, .int .i64 a, .int .i64 b, .int .i64 t, .int .i64 e] 39))
 obtain ⟨g5, hg5⟩ := Exq W.heap.size
 refine Vh fun hM2 hmg => ?_
 have hN : Blk W2 g5 39 #[.int .i64 0, .int .i64 d, .int .i64 a, .int .i64 b, .int .i64 t, .int .i64 e] := by exact Y8
 refine J2 fun kf lmb k1 k8 cf2 cf5 cf6 cf7 lN lM2 q0 q1 q2 q3 q4 q5 c1 c2 c3 c5 c6 c7 nbr nbr' ngr ngr' hmg' => ?_
 refine Wi fun HM2 HW2 Hg5 => ?_; clear hM hA hM2 hW2 hg5 hN hnl hn hn'
 go_enter func60, ntmps60
 go_upto_region 3 with fail
 rw [← HW2.o, ← Hg5.o]
 go_wp2_with fail
 go_tidy
 go_ret
 exact ⟨rfl, Ai, ci, ov, HM2.o⟩)
theorem bLS (w : World) (regs : Int) (A : Option Addr) (l : List Nd) (cap : Nat) (inp : List Int) (mb gr gm : Nat) (Ai : Option Addr) (ci : Nat) (ov : Value) (s : Rn) (W : World) (hM : MSt w regs A l cap inp mb gr gm Ai ci ov s W) (hA : bH w A l) (hhi : l.length ≤ 256) (hpos : s.pos < l.length) (hst : s.steps < 1000000) (hrl : s.regs.length = regs.toNat) (hr64 : regs.toNat ≤ 64)
 (d a b t e : Int) (hn : l[s.pos]? = some ⟨1, d, a, b, t, e⟩) (hd : 0 ≤ d ∧ d < (regs.toNat : Int)) :
 Calls prog 60 #[.pointer (some ⟨mb, 0, none⟩), .int .i64 s.pos] W fun e' W' => e' = .returned (.int .i64 t) ∧ ∃ Ai' ci' ov', MSt w regs A l cap inp mb gr gm Ai' ci' ov' { s with steps := s.steps + 1, regs := s.regs.set d.toNat a } W' := by (
 obtain ⟨nb, no, n', rfl, hnb, hn', hnl⟩ := hA.get hpos
 have hnn : n' = ⟨1, d, a, b, t, e⟩ := Option.some.inj (hn'.symm.trans hn)
 subst hnn
 obtain ⟨n0, n1, n2, n3, n4, n5⟩ := hnl.below hM.below hnb
 have lnb := V6 hnb hM.below.size
 simp only at n0 n1 n2 n3 n4 n5
 refine Vj fun u0 u1 => ?_
 obtain ⟨W2, hW2⟩ := Exq ((W.setCell ⟨mb, 8, none⟩ (.int .i64 ((s.steps : Int) + 1))).alloc (.cells #[.int .i64 1, .int .i64 d, .int .i64 a, .int .i64 b, .int .i64 t, .int .i64 e] 39))
 obtain ⟨g5, hg5⟩ := Exq W.heap.size
 refine Vh fun hM2 hmg => ?_
 have hN : Blk W2 g5 39 #[.int .i64 1, .int .i64 d, .int .i64 a, .int .i64 b, .int .i64 t, .int .i64 e] := by exact Y8
 have k1 := hM.box.cell 1
 refine J0 ?_; clear k1; intro kf lmb k1 k8 cf2 cf5 cf6 cf7 lN lM2 q0 q1 q2 q3 q4 q5 c1 c2 c3 c5 c6 c7 nbr nbr' ngr ngr' hmg' rdf rdc
 obtain ⟨hd0, hd1⟩ := hd
 refine Wi fun HM2 HW2 Hg5 => ?_; clear hM hA hM2 hW2 hg5 hN hnl hn hn'
 go_enter func60, ntmps60
 go_upto_region 3 with fail
 rw [← HW2.o, ← Hg5.o]
 go_upto_region 7 with fail
 go_region
 all_goals go_wp2_with fail
 all_goals go_tidy
 all_goals go_ret
 all_goals exact ⟨rfl, Ai, ci, ov, (HM2.o.later ((Below.refl _ _).drew)).setReg d.toNat a⟩)
theorem bJC (w : World) (regs : Int) (A : Option Addr) (l : List Nd) (cap : Nat) (inp : List Int) (mb gr gm : Nat) (Ai : Option Addr) (ci : Nat) (ov : Value) (s : Rn) (W : World) (hM : MSt w regs A l cap inp mb gr gm Ai ci ov s W) (hA : bH w A l) (hhi : l.length ≤ 256) (hpos : s.pos < l.length) (hst : s.steps < 1000000) (hrl : s.regs.length = regs.toNat) (hr64 : regs.toNat ≤ 64)
 (d a b t e : Int) (hn : l[s.pos]? = some ⟨2, d, a, b, t, e⟩) (hd : 0 ≤ d ∧ d < (regs.toNat : Int)) (ha : 0 ≤ a ∧ a < (regs.toNat : Int)) :
 Calls prog 60 #[.pointer (some ⟨mb, 0, none⟩), .int .i64 s.pos] W fun e' W' => e' = .returned (.int .i64 t) ∧ ∃ Ai' ci' ov', MSt w regs A l cap inp mb gr gm Ai' ci' ov' { s with steps := s.steps + 1, regs := s.regs.set d.toNat (rg s.regs a) } W' := by (
 obtain ⟨nb, no, n', rfl, hnb, hn', hnl⟩ := hA.get hpos
 have hnn : n' = ⟨2, d, a, b, t, e⟩ := Option.some.inj (hn'.symm.trans hn)
 subst hnn
 obtain ⟨n0, n1, n2, n3, n4, n5⟩ := hnl.below hM.below hnb
 have lnb := V6 hnb hM.below.size
 simp only at n0 n1 n2 n3 n4 n5
 refine Vj fun u0 u1 => ?_
 obtain ⟨W2, hW2⟩ := Exq ((W.setCell ⟨mb, 8, none⟩ (.int .i64 ((s.steps : Int) + 1))).alloc (.cells #[.int .i64 2, .int .i64 d, .int .i64 a, .int .i64 b, .int .i64 t, .int .i64 e] 39))
 obtain ⟨g5, hg5⟩ := Exq W.heap.size
 refine Vh fun hM2 hmg => ?_
 have hN : Blk W2 g5 39 #[.int .i64 2, .int .i64 d, .int .i64 a, .int .i64 b, .int .i64 t, .int .i64 e] := by exact Y8
 have k1 := hM.box.cell 1
 refine J0 ?_; clear k1; intro kf lmb k1 k8 cf2 cf5 cf6 cf7 lN lM2 q0 q1 q2 q3 q4 q5 c1 c2 c3 c5 c6 c7 nbr nbr' ngr ngr' hmg' rdf rdc
 obtain ⟨hd0, hd1⟩ := hd
 have ra := (hM2.regs.int_ (k := a.toNat) Zp).1
 rw [Ue ha.1] at ra
 obtain ⟨ha0, ha1⟩ := ha
 refine Wi fun HM2 HW2 Hg5 => ?_; clear hM hA hM2 hW2 hg5 hN hnl hn hn'
 go_enter func60, ntmps60
 go_upto_region 3 with fail
 rw [← HW2.o, ← Hg5.o]
 go_upto_region 9 with fail
 go_region
 all_goals go_wp2_with fail
 all_goals go_tidy
 all_goals go_ret
 all_goals exact ⟨rfl, Ai, ci, ov, (HM2.o.later ((Below.refl _ _).drew)).setReg d.toNat (rg s.regs a)⟩)
theorem bLV (w : World) (regs : Int) (A : Option Addr) (l : List Nd) (cap : Nat) (inp : List Int) (mb gr gm : Nat) (Ai : Option Addr) (ci : Nat) (ov : Value) (s : Rn) (W : World) (hM : MSt w regs A l cap inp mb gr gm Ai ci ov s W) (hA : bH w A l) (hhi : l.length ≤ 256) (hpos : s.pos < l.length) (hst : s.steps < 1000000) (hrl : s.regs.length = regs.toNat) (hr64 : regs.toNat ≤ 64)
 (d a b t e : Int) (hn : l[s.pos]? = some ⟨9, d, a, b, t, e⟩) (hd : 0 ≤ d ∧ d < (regs.toNat : Int)) (hno : inp.length ≤ s.read) :
 Calls prog 60 #[.pointer (some ⟨mb, 0, none⟩), .int .i64 s.pos] W fun e' W' => e' = .returned (.int .i64 t) ∧ ∃ Ai' ci' ov', MSt w regs A l cap inp mb gr gm Ai' ci' ov' { s with steps := s.steps + 1, regs := s.regs.set d.toNat 0 } W' := by (
 obtain ⟨nb, no, n', rfl, hnb, hn', hnl⟩ := hA.get hpos
 have hnn : n' = ⟨9, d, a, b, t, e⟩ := Option.some.inj (hn'.symm.trans hn)
 subst hnn
 obtain ⟨n0, n1, n2, n3, n4, n5⟩ := hnl.below hM.below hnb
 have lnb := V6 hnb hM.below.size
 simp only at n0 n1 n2 n3 n4 n5
 refine Vj fun u0 u1 => ?_
 obtain ⟨W2, hW2⟩ := Exq ((W.setCell ⟨mb, 8, none⟩ (.int .i64 ((s.steps : Int) + 1))).alloc (.cells #[.int .i64 9, .int .i64 d, .int .i64 a, .int .i64 b, .int .i64 t, .int .i64 e] 39))
 obtain ⟨g5, hg5⟩ := Exq W.heap.size
 refine K7 fun hM2 hmg hN k1 => ?_
 refine J0 ?_; clear k1; intro kf lmb k1 k8 cf2 cf5 cf6 cf7 lN lM2 q0 q1 q2 q3 q4 q5 c1 c2 c3 c5 c6 c7 nbr nbr' ngr ngr' hmg' rdf rdc
 obtain ⟨hd0, hd1⟩ := hd
 have hin : inp.length - s.read = 0 := Zb
 rw [hin] at c2
 refine Wi fun HM2 HW2 Hg5 => ?_; clear hM hA hM2 hW2 hg5 hN hnl hn hn'
 go_enter func60, ntmps60
 go_upto_region 3 with fail
 rw [← HW2.o, ← Hg5.o]
 go_upto_region 11 with fail
 go_region
 all_goals go_wp2_with fail
 all_goals go_tidy
 all_goals go_ret
 all_goals exact ⟨rfl, Ai, ci, ov, (HM2.o.later ((Below.refl _ _).drew)).setReg d.toNat 0⟩)
theorem bLU (w : World) (regs : Int) (A : Option Addr) (l : List Nd) (cap : Nat) (inp : List Int) (mb gr gm : Nat) (Ai : Option Addr) (ci : Nat) (ov : Value) (s : Rn) (W : World) (hM : MSt w regs A l cap inp mb gr gm Ai ci ov s W) (hA : bH w A l) (hhi : l.length ≤ 256) (hpos : s.pos < l.length) (hst : s.steps < 1000000) (hrl : s.regs.length = regs.toNat) (hr64 : regs.toNat ≤ 64)
 (d a b t e : Int) (hn : l[s.pos]? = some ⟨9, d, a, b, t, e⟩) (hd : 0 ≤ d ∧ d < (regs.toNat : Int)) (hyes : s.read < inp.length) :
 Calls prog 60 #[.pointer (some ⟨mb, 0, none⟩), .int .i64 s.pos] W fun e' W' => e' = .returned (.int .i64 t) ∧ ∃ Ai' ci' ov', MSt w regs A l cap inp mb gr gm Ai' ci' ov' { s with steps := s.steps + 1, regs := s.regs.set d.toNat (inp.getD s.read 0), read := s.read + 1 } W' := by (
 obtain ⟨nb, no, n', rfl, hnb, hn', hnl⟩ := hA.get hpos
 have hnn : n' = ⟨9, d, a, b, t, e⟩ := Option.some.inj (hn'.symm.trans hn)
 subst hnn
 obtain ⟨n0, n1, n2, n3, n4, n5⟩ := hnl.below hM.below hnb
 have lnb := V6 hnb hM.below.size
 simp only at n0 n1 n2 n3 n4 n5
 refine Vj fun u0 u1 => ?_
 obtain ⟨W2, hW2⟩ := Exq ((W.setCell ⟨mb, 8, none⟩ (.int .i64 ((s.steps : Int) + 1))).alloc (.cells #[.int .i64 9, .int .i64 d, .int .i64 a, .int .i64 b, .int .i64 t, .int .i64 e] 39))
 obtain ⟨g5, hg5⟩ := Exq W.heap.size
 refine K7 fun hM2 hmg hN k1 => ?_
 refine J0 ?_; clear k1; intro kf lmb k1 k8 cf2 cf5 cf6 cf7 lN lM2 q0 q1 q2 q3 q4 q5 c1 c2 c3 c5 c6 c7 nbr nbr' ngr ngr' hmg' rdf rdc
 obtain ⟨hd0, hd1⟩ := hd
 obtain ⟨ib, io, z, rfl, hib, hiz, ciz⟩ := hM2.ins.int (k := 0) Zh
 have hz2 : inp.getD s.read 0 = z := by (
 rw [List.getElem?_drop, Nat.add_zero] at hiz
 rw [Vy, hiz]; rfl)
 rw [Nat.add_zero] at ciz
 have hiw : bG w (some ⟨ib, io, none⟩) (bN (inp.drop s.read)) := hM.inv
 obtain ⟨ib', io', _, e1, hib2, _, _⟩ := hiw.int (k := 0) Zh
 have hci := hM.icap
 injection e1 with e1
 injection e1 with e1 e2 _
 subst e1 e2
 have nig : ¬ (ib = gr) := by have := hM.grlo; omega
 have nim : ¬ (ib = mb) := by have := hM.mlo; omega
 have hpos2 : (0 : Int) < ((inp.length - s.read : Nat) : Int) := Zb
 have hne0 : inp.length - s.read ≠ 0 := Zb
 have HC := bA hci
 have hdrop : inp.drop s.read = z :: inp.drop (s.read + 1) := by (
 rw [List.drop_eq_getElem_cons hyes]
 have := hiz
 rw [List.getElem?_drop, Nat.add_zero, Vx hyes] at this
 rw [Option.some.inj this])
 have Hdr := bA hdrop
 have Hz2 := bA hz2
 have Hiw := bA hiw
 clear hiw hdrop hz2 hiz hci
 refine Wi fun HM2 HW2 Hg5 => ?_; clear hM hA hM2 hW2 hg5 hN hnl hn hn'
 go_enter func60, ntmps60
 go_upto_region 3 with fail
 rw [← HW2.o, ← Hg5.o]
 go_upto_region 11 with fail
 go_region
 go_upto_region 13 with fail
 go_region
 go_wp2_with fail
 all_goals go_tidy
 all_goals go_ret
 all_goals have hr1 := ((HM2.o.setReg d.toNat 0).setReg d.toNat z)
 all_goals simp only [List.set_set] at hr1
 all_goals have hr2 := hr1.readOne Hdr.o Hiw.o
 all_goals rw [show inp[s.read] = z by have h0 := Hz2.o; rw [Vy, Vx hyes] at h0; exact h0]
 all_goals first | exact ⟨rfl, _, _, _, (hr2.1 Zb).later ((Below.refl _ _).drew.drew)⟩ | exact ⟨rfl, _, _, _, (hr2.2 Zb).later ((Below.refl _ _).drew.drew)⟩)
theorem bLX (w : World) (regs : Int) (A : Option Addr) (l : List Nd) (cap : Nat) (inp : List Int) (mb gr gm : Nat) (Ai : Option Addr) (ci : Nat) (ov : Value) (s : Rn) (W : World) (hM : MSt w regs A l cap inp mb gr gm Ai ci ov s W) (hA : bH w A l) (hhi : l.length ≤ 256) (hpos : s.pos < l.length) (hst : s.steps < 1000000) (hrl : s.regs.length = regs.toNat) (hr64 : regs.toNat ≤ 64)
 (d a b t e : Int) (hn : l[s.pos]? = some ⟨11, d, a, b, t, e⟩) (ha : 0 ≤ a ∧ a < (regs.toNat : Int)) (hz : rg s.regs a = 0) :
 Calls prog 60 #[.pointer (some ⟨mb, 0, none⟩), .int .i64 s.pos] W fun e' W' => e' = .returned (.int .i64 e) ∧ ∃ Ai' ci' ov', MSt w regs A l cap inp mb gr gm Ai' ci' ov' { s with steps := s.steps + 1 } W' := by (
 obtain ⟨nb, no, n', rfl, hnb, hn', hnl⟩ := hA.get hpos
 have hnn : n' = ⟨11, d, a, b, t, e⟩ := Option.some.inj (hn'.symm.trans hn)
 subst hnn
 obtain ⟨n0, n1, n2, n3, n4, n5⟩ := hnl.below hM.below hnb
 have lnb := V6 hnb hM.below.size
 simp only at n0 n1 n2 n3 n4 n5
 refine Vj fun u0 u1 => ?_
 obtain ⟨W2, hW2⟩ := Exq ((W.setCell ⟨mb, 8, none⟩ (.int .i64 ((s.steps : Int) + 1))).alloc (.cells #[.int .i64 11, .int .i64 d, .int .i64 a, .int .i64 b, .int .i64 t, .int .i64 e] 39))
 obtain ⟨g5, hg5⟩ := Exq W.heap.size
 refine K6 fun hM2 hmg hN k1 => ?_
 refine J1 ?_; clear k1; intro kf lmb k1 k8 cf2 cf5 cf6 cf7 lN lM2 q0 q1 q2 q3 q4 q5 c1 c2 c3 c5 c6 c7 nbr nbr' ngr ngr' hmg' ra
 obtain ⟨ha0, ha1⟩ := ha
 rw [hz] at ra
 clear hz
 refine Wi fun HM2 HW2 Hg5 => ?_; clear hM hA hM2 hW2 hg5 hN hnl hn hn'
 go_enter func60, ntmps60
 go_upto_region 3 with fail
 rw [← HW2.o, ← Hg5.o]
 go_upto_region 18 with fail
 go_quiet (fail)
 go_wp2_with fail
 go_tidy
 go_ret
 exact ⟨rfl, Ai, ci, ov, HM2.o.later (bZ (Below.refl _ _) _)⟩)
theorem bLW (w : World) (regs : Int) (A : Option Addr) (l : List Nd) (cap : Nat) (inp : List Int) (mb gr gm : Nat) (Ai : Option Addr) (ci : Nat) (ov : Value) (s : Rn) (W : World) (hM : MSt w regs A l cap inp mb gr gm Ai ci ov s W) (hA : bH w A l) (hhi : l.length ≤ 256) (hpos : s.pos < l.length) (hst : s.steps < 1000000) (hrl : s.regs.length = regs.toNat) (hr64 : regs.toNat ≤ 64)
 (d a b t e : Int) (hn : l[s.pos]? = some ⟨11, d, a, b, t, e⟩) (ha : 0 ≤ a ∧ a < (regs.toNat : Int)) (hz : ¬ rg s.regs a = 0) :
 Calls prog 60 #[.pointer (some ⟨mb, 0, none⟩), .int .i64 s.pos] W fun e' W' => e' = .returned (.int .i64 t) ∧ ∃ Ai' ci' ov', MSt w regs A l cap inp mb gr gm Ai' ci' ov' { s with steps := s.steps + 1 } W' := by (
 obtain ⟨nb, no, n', rfl, hnb, hn', hnl⟩ := hA.get hpos
 have hnn : n' = ⟨11, d, a, b, t, e⟩ := Option.some.inj (hn'.symm.trans hn)
 subst hnn
 obtain ⟨n0, n1, n2, n3, n4, n5⟩ := hnl.below hM.below hnb
 have lnb := V6 hnb hM.below.size
 simp only at n0 n1 n2 n3 n4 n5
 refine Vj fun u0 u1 => ?_
 obtain ⟨W2, hW2⟩ := Exq ((W.setCell ⟨mb, 8, none⟩ (.int .i64 ((s.steps : Int) + 1))).alloc (.cells #[.int .i64 11, .int .i64 d, .int .i64 a, .int .i64 b, .int .i64 t, .int .i64 e] 39))
 obtain ⟨g5, hg5⟩ := Exq W.heap.size
 refine K6 fun hM2 hmg hN k1 => ?_
 refine J1 ?_; clear k1; intro kf lmb k1 k8 cf2 cf5 cf6 cf7 lN lM2 q0 q1 q2 q3 q4 q5 c1 c2 c3 c5 c6 c7 nbr nbr' ngr ngr' hmg' ra
 obtain ⟨ha0, ha1⟩ := ha
 generalize rg s.regs a = xa at ra hz
 have hz2 : (xa == 0) = false := by simpa using hz
 refine Wi fun HM2 HW2 Hg5 => ?_; clear hM hA hM2 hW2 hg5 hN hnl hn hn'
 go_enter func60, ntmps60
 go_upto_region 3 with fail
 rw [← HW2.o, ← Hg5.o]
 go_upto_region 18 with fail
 go_quiet (fail)
 go_wp2_with fail
 go_tidy
 go_ret
 exact ⟨rfl, Ai, ci, ov, HM2.o.later (bZ (Below.refl _ _) _)⟩)
theorem bLY (w : World) (regs : Int) (A : Option Addr) (l : List Nd) (cap : Nat) (inp : List Int) (mb gr gm : Nat) (Ai : Option Addr) (ci : Nat) (ov : Value) (s : Rn) (W : World) (hM : MSt w regs A l cap inp mb gr gm Ai ci ov s W) (hA : bH w A l) (hhi : l.length ≤ 256) (hpos : s.pos < l.length) (hst : s.steps < 1000000) (hrl : s.regs.length = regs.toNat) (hr64 : regs.toNat ≤ 64)
 (d a b t e : Int) (hn : l[s.pos]? = some ⟨12, d, a, b, t, e⟩) (ha : 0 ≤ a ∧ a < (regs.toNat : Int)) :
 Calls prog 60 #[.pointer (some ⟨mb, 0, none⟩), .int .i64 s.pos] W fun e' W' => e' = .returned (.int .i64 t) ∧ ∃ Ai' ci' ov', MSt w regs A l cap inp mb gr gm Ai' ci' ov' { s with steps := s.steps + 1, ret := rg s.regs a, ended := true } W' := by (
 obtain ⟨nb, no, n', rfl, hnb, hn', hnl⟩ := hA.get hpos
 have hnn : n' = ⟨12, d, a, b, t, e⟩ := Option.some.inj (hn'.symm.trans hn)
 subst hnn
 obtain ⟨n0, n1, n2, n3, n4, n5⟩ := hnl.below hM.below hnb
 have lnb := V6 hnb hM.below.size
 simp only at n0 n1 n2 n3 n4 n5
 refine Vj fun u0 u1 => ?_
 obtain ⟨W2, hW2⟩ := Exq ((W.setCell ⟨mb, 8, none⟩ (.int .i64 ((s.steps : Int) + 1))).alloc (.cells #[.int .i64 12, .int .i64 d, .int .i64 a, .int .i64 b, .int .i64 t, .int .i64 e] 39))
 obtain ⟨g5, hg5⟩ := Exq W.heap.size
 refine Vh fun hM2 hmg => ?_
 have hN : Blk W2 g5 39 #[.int .i64 12, .int .i64 d, .int .i64 a, .int .i64 b, .int .i64 t, .int .i64 e] := by exact Y8
 have k1 := hM.box.cell 1
 refine J1 ?_; clear k1; intro kf lmb k1 k8 cf2 cf5 cf6 cf7 lN lM2 q0 q1 q2 q3 q4 q5 c1 c2 c3 c5 c6 c7 nbr nbr' ngr ngr' hmg' ra
 obtain ⟨ha0, ha1⟩ := ha
 refine Wi fun HM2 HW2 Hg5 => ?_; clear hM hA hM2 hW2 hg5 hN hnl hn hn'
 go_enter func60, ntmps60
 go_upto_region 3 with fail
 rw [← HW2.o, ← Hg5.o]
 go_upto_region 21 with fail
 go_region
 all_goals go_wp2_with fail
 all_goals go_tidy
 all_goals go_ret
 all_goals have h1 := HM2.o.put 6 (.int .i64 (rg s.regs a)) Ai ci ov { s with steps := s.steps + 1, ret := rg s.regs a } rfl rfl rfl HM2.o.out HM2.o.ne HM2.o.inv HM2.o.icap
 all_goals have h2 := h1.put 7 (.bool true) Ai ci ov { s with steps := s.steps + 1, ret := rg s.regs a, ended := true } rfl rfl rfl h1.out h1.ne h1.inv h1.icap
 all_goals exact ⟨rfl, Ai, ci, ov, h2.later ((Below.refl _ _).drew)⟩)
theorem bLT (w : World) (regs : Int) (A : Option Addr) (l : List Nd) (cap : Nat) (inp : List Int) (mb gr gm : Nat) (Ai : Option Addr) (ci : Nat) (ov : Value) (s : Rn) (W : World) (hM : MSt w regs A l cap inp mb gr gm Ai ci ov s W) (hA : bH w A l) (hhi : l.length ≤ 256) (hpos : s.pos < l.length) (hst : s.steps < 1000000) (hrl : s.regs.length = regs.toNat) (hr64 : regs.toNat ≤ 64)
 (d a b t e : Int) (hn : l[s.pos]? = some ⟨10, d, a, b, t, e⟩) (ha : 0 ≤ a ∧ a < (regs.toNat : Int)) (hol : s.out.length < 1000000) :
 Calls prog 60 #[.pointer (some ⟨mb, 0, none⟩), .int .i64 s.pos] W fun e' W' => e' = .returned (.int .i64 t) ∧ ∃ Ai' ci' ov', MSt w regs A l cap inp mb gr gm Ai' ci' ov' { s with steps := s.steps + 1, out := s.out ++ [rg s.regs a] } W' := by (
 obtain ⟨nb, no, n', rfl, hnb, hn', hnl⟩ := hA.get hpos
 have hnn : n' = ⟨10, d, a, b, t, e⟩ := Option.some.inj (hn'.symm.trans hn)
 subst hnn
 obtain ⟨n0, n1, n2, n3, n4, n5⟩ := hnl.below hM.below hnb
 have lnb := V6 hnb hM.below.size
 simp only at n0 n1 n2 n3 n4 n5
 refine Vj fun u0 u1 => ?_
 obtain ⟨W2, hW2⟩ := Exq ((W.setCell ⟨mb, 8, none⟩ (.int .i64 ((s.steps : Int) + 1))).alloc (.cells #[.int .i64 10, .int .i64 d, .int .i64 a, .int .i64 b, .int .i64 t, .int .i64 e] 39))
 obtain ⟨g5, hg5⟩ := Exq W.heap.size
 refine Vh fun hM2 hmg => ?_
 have hN : Blk W2 g5 39 #[.int .i64 10, .int .i64 d, .int .i64 a, .int .i64 b, .int .i64 t, .int .i64 e] := by exact Y8
 refine J2 fun kf lmb k1 k8 cf2 cf5 cf6 cf7 lN lM2 q0 q1 q2 q3 q4 q5 c1 c2 c3 c5 c6 c7 nbr nbr' ngr ngr' hmg' => ?_
 obtain ⟨i3, h3i, h3z, h3s, h3b⟩ := info_parts nS
 have hO2 := hM2.out
 have hob : ¬ (ov.ownBlock = some mb) := fun e => hM2.out.ne_blk hM2.box Ze e
 have hon : ¬ (ov.ownBlock = some g5) := fun e => hM2.out.ne_blk hN Ze e
 obtain ⟨OA, oc, hov, hoc1, hoc2⟩ := hO2.shape
 rw [bJ] at hov hoc1
 subst hov
 have hlo := bJ s.out
 have hwz := hM2.below.size
 have ra := (hM2.regs.int_ (k := a.toNat) Zp).1
 rw [Ue ha.1] at ra
 obtain ⟨ha0, ha1⟩ := ha
 have ha2 : a < max regs 0 := Zb
 refine Wi fun HM2 HW2 Hg5 => ?_; clear hM hA hM2 hW2 hg5 hN hnl hn hn'
 go_enter func60, ntmps60
 go_upto_region 3 with fail
 rw [← HW2.o, ← Hg5.o]
 go_upto_region 16 with fail
 go_region_law (refine bP (v := .slice OA s.out.length oc) Zj _ _ _ Zj i3 _ 8 underlying25 h3i h3z h3s h3b rfl Zj ((hO2.alloc _).drew) (some ⟨W2.heap.size, 0, none⟩) 1 1 [.int .i64 (rg s.regs a)] Zj Zj (dU Zf) Zk Zr Zd Zd ?_; intro v1 w1 hr1 hg1 hat1; have f5 : w1.frozen? ⟨mb, 5, none⟩ = false := (by rw [hg1.frozen_far _ Zd Z6]; exact (bIN lM2).trans cf5); have x5 : w1.cell? ⟨mb, 5, none⟩ = some (.slice OA s.out.length oc) := (by rw [hg1.cell_far _ Zd Z6]; exact (oN lM2).trans c5); have y4 : w1.cell? ⟨g5, 4, none⟩ = some (.int .i64 t) := (by rw [hg1.cell_far _ Zd (by simp; exact fun e => hon e.symm)]; exact (oN lN).trans q4); obtain ⟨A1, cp1, hv1, _, _⟩ := hr1.shape; subst hv1)
 all_goals simp only [Exit.inBlock]
 all_goals go_wp2_with fail
 all_goals go_tidy
 all_goals go_ret
 all_goals (simp only [Vz, V8, bJ] at hr1 hat1)
 all_goals have hr1 : Row w1 w.heap.size 3 _ (bN (s.out ++ [rg s.regs a])) := (by rw [show bN (s.out ++ [rg s.regs a]) = bN s.out ++ [.int .i64 (rg s.regs a)] by simp [bN]]; exact hr1)
 all_goals exact ⟨rfl, Ai, ci, _, ((HM2.o.later ((Bnq _ _))).later ((Below.refl _ _).drew)).outGrown hg1 hob hr1 (by simpa using hat1)⟩)
theorem bBW (w : World) (regs : Int) (A : Option Addr) (l : List Nd) (cap : Nat) (inp : List Int) (mb gr gm : Nat) (Ai : Option Addr) (ci : Nat) (ov : Value) (s : Rn) (W : World) (hM : MSt w regs A l cap inp mb gr gm Ai ci ov s W) (hA : bH w A l) (hhi : l.length ≤ 256) (hpos : s.pos < l.length) (hst : s.steps < 1000000) (hrl : s.regs.length = regs.toNat) (hr64 : regs.toNat ≤ 64)
 (op d a b t e : Int) (hn : l[s.pos]? = some ⟨op, d, a, b, t, e⟩) (hd : 0 ≤ d ∧ d < (regs.toNat : Int)) (ha : 0 ≤ a ∧ a < (regs.toNat : Int)) (hb : 0 ≤ b ∧ b < (regs.toNat : Int)) (hB : cG op = true) (kl : Lit) (hkl : keyOf prog 56 (Tm.val ⟨op, a, b⟩) = some kl) (hts : s.ts.length < 1000000) :
 Calls prog 60 #[.pointer (some ⟨mb, 0, none⟩), .int .i64 s.pos] W fun e' W' => e' = .returned (.int .i64 t) ∧ ∃ Ai' ci' ov', MSt w regs A l cap inp mb gr gm Ai' ci' ov' { s with steps := s.steps + 1, regs := s.regs.set d.toNat (bCJ op (rg s.regs a) (rg s.regs b)), ts := s.ts ++ [⟨op, a, b⟩] } W' := by (
 obtain ⟨nb, no, n', rfl, hnb, hn', hnl⟩ := hA.get hpos
 have hnn : n' = ⟨op, d, a, b, t, e⟩ := Option.some.inj (hn'.symm.trans hn)
 subst hnn
 obtain ⟨n0, n1, n2, n3, n4, n5⟩ := hnl.below hM.below hnb
 have lnb := V6 hnb hM.below.size
 simp only at n0 n1 n2 n3 n4 n5
 refine Vj fun u0 u1 => ?_
 obtain ⟨W2, hW2⟩ := Exq ((W.setCell ⟨mb, 8, none⟩ (.int .i64 ((s.steps : Int) + 1))).alloc (.cells #[.int .i64 op, .int .i64 d, .int .i64 a, .int .i64 b, .int .i64 t, .int .i64 e] 39))
 obtain ⟨g5, hg5⟩ := Exq W.heap.size
 refine Vh fun hM2 hmg => ?_
 have hN : Blk W2 g5 39 #[.int .i64 op, .int .i64 d, .int .i64 a, .int .i64 b, .int .i64 t, .int .i64 e] := by exact Y8
 refine J2 fun kf lmb k1 k8 cf2 cf5 cf6 cf7 lN lM2 q0 q1 q2 q3 q4 q5 c1 c2 c3 c5 c6 c7 nbr nbr' ngr ngr' hmg' => ?_
 have o0 : (op == 0) = false := by simp [cG, inB] at hB ⊢; omega
 have o1 : (op == 1) = false := by simp [cG, inB] at hB ⊢; omega
 have o2 : (op == 2) = false := by simp [cG, inB] at hB ⊢; omega
 have o9 : (op == 9) = false := by simp [cG, inB] at hB ⊢; omega
 have o10 : (op == 10) = false := by simp [cG, inB] at hB ⊢; omega
 have o11 : (op == 11) = false := by simp [cG, inB] at hB ⊢; omega
 have o12 : (op == 12) = false := by simp [cG, inB] at hB ⊢; omega
 have hd2 : d < max regs 0 := by have := hd.2; omega
 have rdf := (hM2.regs.int_ (k := d.toNat) Zp).2
 have rdc := (hM2.regs.int_ (k := d.toNat) Zp).1
 obtain ⟨hd0, hd1⟩ := hd
 have HR := fun V (hV : MSt w regs (some ⟨nb, no, none⟩) l cap inp mb gr gm Ai ci ov { s with steps := s.steps + 1 } V) => bCW w regs (some ⟨nb, no, none⟩) l cap inp mb gr gm Ai ci ov { s with steps := s.steps + 1 } V hV ⟨op, a, b⟩ kl hkl hts hrl hr64 ha hb
 have HR := bA HR
 have hmr := hM2.later ((Below.refl _ _).drew)
 have HR2 := bA (HR.o _ hmr)
 have hgmb : ¬ (gm = mb) := Ne.symm hM2.nmb
 have hgm5 : ¬ (gm = g5) := Ne.symm (hM2.cnt.ne_blk hN)
 clear HR hmr ha hb hkl
 refine Wi fun HM2 HW2 Hg5 => ?_; clear hM hA hM2 hW2 hg5 hN hnl hn hn'
 go_enter func60, ntmps60
 go_upto_region 3 with fail
 rw [← HW2.o, ← Hg5.o]
 go_upto_region 4 with fail
 go_region_held3 (fun w' => w'.cell? ⟨mb, 3, none⟩ = some (.slice (some ⟨gr, 0, none⟩) regs.toNat regs.toNat) ∧ w'.cell? ⟨g5, 0, none⟩ = some (.int .i64 op) ∧ w'.cell? ⟨g5, 1, none⟩ = some (.int .i64 d) ∧ w'.cell? ⟨g5, 2, none⟩ = some (.int .i64 a) ∧ w'.cell? ⟨g5, 3, none⟩ = some (.int .i64 b)) (((try go_split_ands); (try dsimp only); (repeat' apply And.intro) <;> (first | assumption | go_keep)))
  (first | (go_at_call 90; refine (HR2.o).mono ?_; rintro e w3 ⟨rfl, hm3, hg3⟩; have z2 : w3.cell? ⟨mb, 3, none⟩ = some (.slice (some ⟨gr, 0, none⟩) regs.toNat regs.toNat) := hm3.box.cell 3; have y0 : w3.cell? ⟨g5, 0, none⟩ = some (.int .i64 op) := (by rw [hg3.cell_far _ Zd Xd]; exact q0); have y1 : w3.cell? ⟨g5, 1, none⟩ = some (.int .i64 d) := (by rw [hg3.cell_far _ Zd Xd]; exact q1); have y2 : w3.cell? ⟨g5, 2, none⟩ = some (.int .i64 a) := (by rw [hg3.cell_far _ Zd Xd]; exact q2); have y3 : w3.cell? ⟨g5, 3, none⟩ = some (.int .i64 b) := (by rw [hg3.cell_far _ Zd Xd]; exact q3); have y4 : w3.cell? ⟨g5, 4, none⟩ = some (.int .i64 t) := (by rw [hg3.cell_far _ Zd Xd]; exact q4); have rdf3 := (hm3.regs.int_ (k := d.toNat) Zp).2; have rdc3 := (hm3.regs.int_ (k := d.toNat) Zp).1))
 all_goals (try go_split_ands)
 all_goals (try simp only [Exit.inBlock])
 all_goals go_wp2_with fail
 all_goals go_tidy
 all_goals go_ret
 all_goals exact ⟨rfl, Ai, ci, ov, hm3.setReg d.toNat _⟩)
end
end Go.Proofs.YtmghkonmfbpjcabGreatDoor
