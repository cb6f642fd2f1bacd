/- Parts. -/
import Derived.Test.YtmghkonmfbpjcabGreatDoorSolve
set_option linter.unusedVariables false
set_option linter.unusedSimpArgs false
set_option maxRecDepth 100000
set_option maxHeartbeats 4000000
namespace Go.Proofs.YtmghkonmfbpjcabGreatDoor
open Go.RowKit
open Go.Proofs.Tryz
section
attribute [local irreducible] Row madeCells
def bSJ (tB : TypeId) (regs : Int) (l : List Nd) (t : Tm) (w : World) (e : Ending) (w' : World) : Prop :=
 Below w.heap.size w w' ∧ ((fxE regs l t ≠ 0 ∧ e = .returned (.tuple #[.agg nil6, .int .i64 (fxE regs l t)])) ∨
  (fxE regs l t = 0 ∧ ∃ (F : Fx) (v0 v1 v2 v3 v4 v5 : Value), e = .returned (.tuple #[.agg #[v0, v1, v2, v3, v4, v5], .int .i64 0]) ∧ yG t l F ∧ Row w' w.heap.size tB v0 (bE F.down) ∧ Row w' w.heap.size tB v1 (bE F.up) ∧ Row w' w.heap.size tB v2 (bE F.early) ∧ Row w' w.heap.size tB v3 (bE F.delay) ∧ Row w' w.heap.size tB v4 (bE F.late) ∧ Row w' w.heap.size tB v5 (bE F.alone)))
def bCC (W : World) (g : Nat) (v0 v1 v2 v3 v4 v5 : Value) : World := (((((W.setCell ⟨g, 0, none⟩ v0).setCell ⟨g, 1, none⟩ v1).setCell ⟨g, 2, none⟩ v2).setCell ⟨g, 3, none⟩ v3).setCell ⟨g, 4, none⟩ v4).setCell ⟨g, 5, none⟩ v5
theorem uR {W : World} {B g : Nat} {e : TypeId} {v : Value} {xs : List Value} (h : Row W B e v xs) (hne : v.ownBlock ≠ some g) (v0 v1 v2 v3 v4 v5 : Value) : Row (bCC W g v0 v1 v2 v3 v4 v5) B e v xs :=
 (((((h.far (p := ⟨g, 0, none⟩) hne _).far (p := ⟨g, 1, none⟩) hne _).far (p := ⟨g, 2, none⟩) hne _).far (p := ⟨g, 3, none⟩) hne _).far (p := ⟨g, 4, none⟩) hne _).far (p := ⟨g, 5, none⟩) hne _
theorem bHL {w W : World} {B g : Nat} (h : Below B w W) (hg : B ≤ g) (v0 v1 v2 v3 v4 v5 : Value) : Below B w (bCC W g v0 v1 v2 v3 v4 v5) :=
 (((((h.setCell (p := ⟨g, 0, none⟩) hg _).setCell (p := ⟨g, 1, none⟩) hg _).setCell (p := ⟨g, 2, none⟩) hg _).setCell (p := ⟨g, 3, none⟩) hg _).setCell (p := ⟨g, 4, none⟩) hg _).setCell (p := ⟨g, 5, none⟩) hg _
structure FSt (tB tX tF : TypeId) (wL : World) (G13 G14 G18 n : Nat) (A2 A3 A4 A5 : Option Addr) (c2 c3 c5 : Nat) (x2 x3 x4 x5 : List Bool) (cs : Array Value) (W : World) : Prop where
 r2 : Row W wL.heap.size tB (.slice A2 n c2) (bE x2)
 r3 : Row W wL.heap.size tB (.slice A3 n c3) (bE x3)
 r4 : Row W wL.heap.size tB (.slice A4 n n) (bE x4)
 r5 : Row W wL.heap.size tB (.slice A5 n c5) (bE x5)
 b13 : Blk W G13 tX #[.slice A2 n c2]
 b14 : Blk W G14 tX #[.slice A3 n c3]
 b18 : Blk W G18 tF cs
 low : Below wL.heap.size wL W
 g18 : wL.heap.size ≤ G18
section
variable {tB tX tF : TypeId} {wL : World} {G13 G14 G18 n : Nat} {A2 A3 A4 A5 : Option Addr} {c2 c3 c5 : Nat} {x2 x3 x4 x5 : List Bool} {cs : Array Value} {W W' : World}
theorem FSt.later (h : FSt tB tX tF wL G13 G14 G18 n A2 A3 A4 A5 c2 c3 c5 x2 x3 x4 x5 cs W) (hb : Below W.heap.size W W') : FSt tB tX tF wL G13 G14 G18 n A2 A3 A4 A5 c2 c3 c5 x2 x3 x4 x5 cs W' :=
 ⟨h.r2.below' hb, h.r3.below' hb, h.r4.below' hb, h.r5.below' hb, h.b13.below hb h.b13.lt, h.b14.below hb h.b14.lt, h.b18.below hb h.b18.lt, h.low.trans (hb.mono h.low.size), h.g18⟩
theorem FSt.set (h : FSt tB tX tF wL G13 G14 G18 n A2 A3 A4 A5 c2 c3 c5 x2 x3 x4 x5 cs W) (n1 : tB ≠ tF) (n2 : tX ≠ tF) (i : Nat) (v : Value) : FSt tB tX tF wL G13 G14 G18 n A2 A3 A4 A5 c2 c3 c5 x2 x3 x4 x5 (cs.setIfInBounds i v) (W.setCell ⟨G18, i, none⟩ v) :=
 ⟨h.r2.far (h.r2.ne_blk h.b18 n1) _, h.r3.far (h.r3.ne_blk h.b18 n1) _, h.r4.far (h.r4.ne_blk h.b18 n1) _, h.r5.far (h.r5.ne_blk h.b18 n1) _, h.b13.far (Blk.ne_ h.b13 h.b18 n2) _, h.b14.far (Blk.ne_ h.b14 h.b18 n2) _, h.b18.set_ i v, h.low.setCell h.g18 _, h.g18⟩
end
theorem kT (regs : Int) (A : Option Addr) (l : List Nd) (cap : Nat) (t : Tm) (w : World) (hl : l.length ≤ maxLen) (hA : bH w A l) :
 Calls prog 96 #[.agg #[.int .i64 regs, .slice A l.length cap], .agg #[.int .i64 t.op, .int .i64 t.a, .int .i64 t.b]] w (bSJ 4 regs l t w) := by (
 have hC := fun W (hW : Below w.heap.size w W) => bDN regs A l cap t W hl (hA.below hW)
 have HC := bA hC
 clear hC
 obtain ⟨ii, hii, hiz, his, hib⟩ := info_parts zK
 obtain ⟨i3, h3i, h3z, h3s, h3b⟩ := info_parts wK
 obtain ⟨ib, hbi, hbz, hbs, hbb⟩ := info_parts gR
 by_cases h0 : fxE regs l t = 0
 · (
 have h0' : (fxE regs l t != 0) = false := by simp [h0]
 have hc : chk regs l = 0 := by (
 unfold fxE at h0
 by_cases hc : chk regs l = 0
 · exact hc
 · rw [if_pos hc] at h0; exact absurd h0 hc)
 have hR := bS hc
 have hlo := hR.lo
 have hhi := hR.hi
 have HR := bA hR
 have H0 := bA h0
 have hck := hc
 clear h0 hc hR
 have hmk := dN (P := prog) 72 25 ii _ 24 underlying72 hii hiz his hib Zb rfl l.length Zb
 have hmk1 := dN (P := prog) 74 4 ib _ 1 underlying74 hbi hbz hbs hbb Zb rfl l.length Zb
 have HMK1 := bA hmk1
 clear hmk1
 go_enter func96, ntmps96
 go_upto_region 4 with (go_at_call 129; refine (HC.o _ Yc).mono ?_; rintro e w1 ⟨rfl, hb1⟩; have hP1 : Blk w1 w.heap.size 24 #[.int .i64 regs, .slice A l.length cap] := Blk.below Yd hb1 Zd; have hT1 : Blk w1 (w.heap.size + 1) 56 #[.int .i64 t.op, .int .i64 t.a, .int .i64 t.b] := Blk.below Yd hb1 Zd; have hO1 : Blk w1 (w.heap.size + 1 + 1) 152 nil6 := Blk.below Yd hb1 Zd)
 have hB1 : Below w.heap.size w w1 := Yc
 have hz1 := hb1.size
 simp only [World.size_alloc] at hz1
 clear hb1
 have p0 := hP1.cell 0
 have p1 := hP1.cell 1
 have lp := hP1.lt
 have lt := hT1.lt
 have lo := hO1.lt
 have lp2 : w.heap.size < w1.heap.size + 1 := Zb
 have lp3 : w.heap.size < w1.heap.size + 1 + 1 := Zb
 have lp4 : w.heap.size < w1.heap.size + 1 + 1 + 1 := Zb
 simp only [Yl] at p0 p1
 go_cut [7, 8] (fun s7 s8 wx => ∃ G7 G8 GA GB : Nat, s7 = .pointer (some ⟨G7, 0, none⟩) ∧ s8 = .pointer (some ⟨G8, 0, none⟩) ∧ Blk wx G7 72 #[.slice (some ⟨GA, 0, none⟩) l.length l.length] ∧ Blk wx G8 72 #[.slice (some ⟨GB, 0, none⟩) l.length l.length] ∧
  Row wx w.heap.size 25 (.slice (some ⟨GA, 0, none⟩) l.length l.length) (List.replicate l.length (.slice none 0 0)) ∧ Row wx w.heap.size 25 (.slice (some ⟨GB, 0, none⟩) l.length l.length) (List.replicate l.length (.slice none 0 0)) ∧ GA ≠ GB ∧ Below w1.heap.size w1 wx)
 case first => (
 go_region
 all_goals as_aux_lemma =>
  go_wp2_with fail
  go_meet
  go_tidy
  apply Exists.intro
  apply Exists.intro
  apply Exists.intro
  apply Exists.intro
  refine ⟨rfl, rfl, ?_, ?_, ?_, ?_, ?_, ?_⟩
  all_goals first
   | ((repeat (first | ((with_reducible refine Blk.new' ?_); exact Za) | (with_reducible refine Blk.drew ?_) | (with_reducible refine Blk.drewN ?_ _) | (with_reducible refine Blk.alloc ?_ _))); done)
   | ((repeat (first | ((with_reducible refine Row.made1' ?_ ?_ ?_); exact Za; exact Za; exact Za) | (with_reducible refine Row.drew ?_) | (with_reducible refine Row.drewN ?_ _) | (with_reducible refine Row.alloc ?_ _))); done)
   | ((repeat (first | (with_reducible exact Below.refl _ _) | (with_reducible assumption) | (with_reducible refine Below.drew ?_) | (with_reducible refine bZ ?_ _) | (with_reducible refine Below.alloc ?_ Za _) | (with_reducible refine Below.setCell ?_ Za _) | (with_reducible refine Below.trans ?_ (Below.mono Zg Za)))); done)
   | omega)
 case rest => (
 obtain ⟨G7, G8, GA, GB, rfl, rfl, h7, h8, hRA, hRB, hne, hbx⟩ := hcut
 obtain ⟨ks, hks⟩ := Exq ([(G7, 72, #[.slice (some ⟨GA, 0, none⟩) l.length l.length]), (G8, 72, #[.slice (some ⟨GB, 0, none⟩) l.length l.length]), (w.heap.size, 24, #[.int .i64 regs, .slice A l.length cap]), (w.heap.size + 1, 56, #[.int .i64 t.op, .int .i64 t.a, .int .i64 t.b]), (w.heap.size + 1 + 1, 152, nil6)] : List Box)
 have m7 : (G7, 72, #[.slice (some ⟨GA, 0, none⟩) l.length l.length]) ∈ ks := by rw [hks]; simp
 have m8 : (G8, 72, #[.slice (some ⟨GB, 0, none⟩) l.length l.length]) ∈ ks := by rw [hks]; simp
 have mP : (w.heap.size, 24, #[.int .i64 regs, .slice A l.length cap]) ∈ ks := by rw [hks]; simp
 have mT : (w.heap.size + 1, 56, #[.int .i64 t.op, .int .i64 t.a, .int .i64 t.b]) ∈ ks := by rw [hks]; simp
 have mO : (w.heap.size + 1 + 1, 152, nil6) ∈ ks := by rw [hks]; simp
 have hB9 := hB1.trans (hbx.mono Zb)
 have hT0 : kJ 25 3 w.heap.size w GA GB l.length ks wc (fun _ => .slice none 0 0) (fun _ => []) := by (
 refine ⟨by rw [iH]; exact hRA, by rw [iH]; exact hRB, Tab.nils _ _ _ _, fun q hq => ?_, hne, hB9, hB9.size⟩
 rw [hks] at hq
 simp only [Uo, List.not_mem_nil, or_false] at hq
 rcases hq with rfl | rfl | rfl | rfl | rfl
 · exact ⟨h7, Zf, Zf⟩
 · exact ⟨h8, Zf, Zf⟩
 · exact ⟨hP1.below hbx lp, Zf, Zf⟩
 · exact ⟨hT1.below hbx lt, Zf, Zf⟩
 · exact ⟨hO1.below hbx lo, Zf, Zf⟩)
 have hpc := (hT0.blk mP).cell 1
 have lpc := (hT0.blk mP).lt
 simp only [Yl] at hpc
 clear hks h7 h8 hRA hRB hbx hP1 hT1 hO1 lp lp2 lp3 lp4 lt lo p0 p1 hB1 hz1 hmk
 go_wp2_with fail
 have hst : ∃ vs ys, kJ 25 3 w.heap.size w GA GB l.length ks wc vs ys ∧ (∀ i, i < l.length → ys i = bN (nxL l 0 i)) ∧ ∀ m, m < l.length → ys (l.length + m) = bN (ahL l 0 m) :=
  ⟨_, _, hT0, fun i hi => by simp [nxL, bN], fun m hm => by simp [ahL, sel, bN]⟩
 have Hst := bA hst
 clear hst hT0 hpc lpc
 go_loopg [37] (l.length) (fun gk i wr => ∃ k : Nat, k ≤ l.length ∧ i = .int .i64 k ∧ gk = l.length - k ∧ ∃ vs ys, kJ 25 3 w.heap.size w GA GB l.length ks wr vs ys ∧ (∀ i, i < l.length → ys i = bN (nxL l k i)) ∧ ∀ m, m < l.length → ys (l.length + m) = bN (ahL l k m))
 case atStart => exact ⟨0, Nat.zero_le _, rfl, rfl, Hst.o⟩
 case round => (
 obtain ⟨k, hk, rfl, hgk, vs, ys, hT, hyn, hya⟩ := hrel
 have Hgk := bA hgk
 clear hgk Hst
 by_cases hlt : k < l.length
 · (
 obtain ⟨nb, no, n, rfl, hnb, hn, hnl⟩ := (hA.below hT.below).get hlt
 obtain ⟨c0, c1, c2, c3, c4, c5⟩ := hnl
 have Hn := bA hn
 obtain ⟨u0', u1'⟩ := Ikq (k := k) (n := l.length) (by omega)
 clear hn
 have Hyn := bA hyn
 have Hya := bA hya
 clear hyn hya
 go_upto_region 8 with fail
 obtain ⟨wn, hwn⟩ := Exq (wr.alloc (.cells #[.int .i64 n.op, .int .i64 n.d, .int .i64 n.a, .int .i64 n.b, .int .i64 n.t, .int .i64 n.e] 39))
 have hbn : Below wr.heap.size wr wn := by rw [hwn]; exact (Bnq _ _)
 have hX : Blk wn wr.heap.size 39 #[.int .i64 n.op, .int .i64 n.d, .int .i64 n.a, .int .i64 n.b, .int .i64 n.t, .int .i64 n.e] := by rw [hwn]; exact Blk.new' rfl
 rw [← hwn]
 clear hwn c0 c1 c2 c3 c4 c5
 have hT1 := (hT.later hbn).cons hX Ze Ze
 have mX : (wr.heap.size, 39, #[.int .i64 n.op, .int .i64 n.d, .int .i64 n.a, .int .i64 n.b, .int .i64 n.t, .int .i64 n.e]) ∈ (wr.heap.size, 39, #[.int .i64 n.op, .int .i64 n.d, .int .i64 n.a, .int .i64 n.b, .int .i64 n.t, .int .i64 n.e]) :: ks := List.mem_cons_self
 obtain ⟨gX, hgX⟩ := Exq wr.heap.size
 rw [← hgX] at hT1 mX ⊢
 obtain ⟨kx, hkx⟩ := Exq ((gX, 39, #[.int .i64 n.op, .int .i64 n.d, .int .i64 n.a, .int .i64 n.b, .int .i64 n.t, .int .i64 n.e]) :: ks : List Box)
 rw [← hkx] at hT1 mX
 have m7' : (G7, 72, #[.slice (some ⟨GA, 0, none⟩) l.length l.length]) ∈ kx := by rw [hkx]; exact List.mem_cons_of_mem _ m7
 have m8' : (G8, 72, #[.slice (some ⟨GB, 0, none⟩) l.length l.length]) ∈ kx := by rw [hkx]; exact List.mem_cons_of_mem _ m8
 have Hkx := bA hkx
 have HgX := bA hgX
 have hyk : ys k = [] := by rw [Hyn.o k hlt]; simp [nxL, bN]
 clear hkx hgX hT hX hbn
 have x0 := (hT1.blk mX).cell 0
 have x4 := (hT1.blk mX).cell 4
 have lx := (hT1.blk mX).lt
 simp only [Yl] at x0 x4
 obtain ⟨e1, he1⟩ := Exq (if n.op = 12 then [] else [n.t] : List Int)
 have He1 := bA he1
 clear he1
 go_upto_if 44 with fail
 go_cut [] (fun wx => ∃ vs', kJ 25 3 w.heap.size w GA GB l.length kx wx vs' (upd ys k (bN e1)))
 case first => (
 by_cases h12 : n.op = 12
 · (
 have d1 : (n.op != 12) = false := by simp [h12]
 have hee : e1 = [] := by rw [He1.o, if_pos h12]
 have Hee := bA hee
 clear h12 hee
 go_wp2_with fail
 go_meet
 go_tidy
 refine ⟨vs, ?_⟩
 rw [Hee.o, show upd ys k (bN []) = ys from funext fun i => by
  by_cases h : i = k
  · rw [h, bI, hyk]; rfl
  · rw [bC _ _ h]]
 exact hT1)
 · (
 have d1 : (n.op != 12) = true := by simp [h12]
 have hee : e1 = [n.t] := by rw [He1.o, if_neg h12]
 have Hee := bA hee
 clear h12 hee
 have hlk : (ys k).length = 0 := by rw [hyk]; rfl
 (go_upto_region 9 with fail; have r0 := (hT1.blk m7').cell 0; have q0 := fB hT1.ra (i := k) hlt; have f0 := jQ hT1.ra (i := k) hlt; simp only [List.getElem?_toArray, List.getElem?_cons_zero] at r0; have lG := (hT1.blk m7').lt; have lA := cZ hT1.ra; have rA := hT1.tab.row (i := k) Zb; have dG := rA.ne_blk (hT1.blk m7') Ze; have dX := rA.ne_blk (hT1.blk mX) Ze; have dA := rA.ne_blk hT1.ra.blk.choose_spec Ze; have hzn := hT1.sz; have eG := Blk.ne_ (hT1.blk m7') hT1.ra.blk.choose_spec Ze; have eX := Blk.ne_ (hT1.blk mX) hT1.ra.blk.choose_spec Ze; have eG' := Ne.symm eG; have eX' := Ne.symm eX; refine wp_region_held_drew (S := fun w' => w'.cell? ⟨G7, 0, none⟩ = some (.slice (some ⟨GA, 0, none⟩) l.length l.length) ∧ w'.cell? ⟨gX, 4, none⟩ = some (.int .i64 n.t)) Zc (by (((try go_split_ands); (try dsimp only); (repeat' apply And.intro) <;> (first | assumption | go_keep)))) ?_; intro hH; (refine Ua 0 _ rfl hH ?_; (try simp only [Nm])); (refine Ua 1 _ rfl hH ?_; (try simp only [Nm])); (refine Ua 2 _ rfl hH ?_; (try simp only [Nm])); (refine Ua 3 _ rfl hH ?_; (try simp only [Nm])); (refine Ua 4 _ rfl hH ?_; (try simp only [Nm])); (refine Ua 6 _ rfl hH ?_; (try simp only [Nm])); (refine Ua 7 _ rfl hH ?_; (try simp only [Nm])); refine wpAnyH_ready (rs := [5, 8]) Zc Zf ?_; refine Ug rfl (fun K hK => ?_) (Ug rfl (fun K hK => ?_) Uh); (focus (have HK5 := bA hK; clear hK; go_simp; refine Shut.out HK5.o _ _ hH (fun _ => ?_); (try simp only [Nm]); refine wpAnyH_ready (rs := [8]) Zc Zf ?_; refine Ug rfl (fun K hK => ?_) Uh; have HK8 := bA hK; clear hK; go_simp; refine Shut.out HK8.o _ _ (by (((try go_split_ands); (try dsimp only); (repeat' apply And.intro) <;> (first | assumption | go_keep)))) (fun hH => ?_); (try simp only [Nm]); refine wpAnyH_ready (rs := [9]) Zc Zf ?_; refine Ug rfl (fun K hK => ?_) Uh; have HK9 := bA hK; clear hK; refine bP (v := (vs k)) Zj _ _ _ Zj i3 _ 8 underlying25 h3i h3z h3s h3b rfl Zj ((rA.alloc _).drew) (some ⟨wn.heap.size, 0, none⟩) 1 1 [.int .i64 n.t] Zj Zj (dU Zf) Zk Zr Zd Zd ?_; intro v1 w1 hr1 hg1 hat1; have r1 : w1.cell? ⟨G7, 0, none⟩ = some (.slice (some ⟨GA, 0, none⟩) l.length l.length) := Yj; have rx : w1.cell? ⟨gX, 4, none⟩ = some (.int .i64 n.t) := (by rw [hg1.cell_far _ Zd Xm]; exact (oN lx).trans x4); have q1 : w1.cell? ⟨GA, k, none⟩ = some (vs k) := Yk; have f1 : w1.frozen? ⟨GA, k, none⟩ = false := Yi; obtain ⟨A1, cp1, hv1, _, _⟩ := hr1.shape; subst hv1; simp only [Vz, V8] at hr1 hat1 ⊢; refine Shut.out HK9.o _ _ ⟨r1, rx⟩ (fun hH => ?_); (try simp only [Nm]); (refine Ua 10 _ rfl hH ?_; (try simp only [Nm])); refine wpAnyH_ready (rs := [11]) Zc Zf ?_; refine Ug rfl (fun K hK => ?_) Uh; have HK11 := bA hK; clear hK; go_simp; refine Shut.out HK11.o _ _ (by (((try go_split_ands); (try dsimp only); (repeat' apply And.intro) <;> (first | assumption | go_keep)))) (fun _ => ?_); (try simp only [Nm]); refine wpAnyH_done Zc ?_ _; clear hH HK5 HK8 HK9 HK11)); rotate_left; (focus (have HK8 := bA hK; clear hK; go_simp; refine Shut.out HK8.o _ _ (by (((try go_split_ands); (try dsimp only); (repeat' apply And.intro) <;> (first | assumption | go_keep)))) (fun hH => ?_); (try simp only [Nm]); refine wpAnyH_ready (rs := [5]) Zc Zf ?_; refine Ug rfl (fun K hK => ?_) Uh; have HK5 := bA hK; clear hK; go_simp; refine Shut.out HK5.o _ _ hH (fun _ => ?_); (try simp only [Nm]); refine wpAnyH_ready (rs := [9]) Zc Zf ?_; refine Ug rfl (fun K hK => ?_) Uh; have HK9 := bA hK; clear hK; refine bP (v := (vs k)) Zj _ _ _ Zj i3 _ 8 underlying25 h3i h3z h3s h3b rfl Zj ((rA.alloc _).drew) (some ⟨wn.heap.size, 0, none⟩) 1 1 [.int .i64 n.t] Zj Zj (dU Zf) Zk Zr Zd Zd ?_; intro v1 w1 hr1 hg1 hat1; have r1 : w1.cell? ⟨G7, 0, none⟩ = some (.slice (some ⟨GA, 0, none⟩) l.length l.length) := Yj; have rx : w1.cell? ⟨gX, 4, none⟩ = some (.int .i64 n.t) := (by rw [hg1.cell_far _ Zd Xm]; exact (oN lx).trans x4); have q1 : w1.cell? ⟨GA, k, none⟩ = some (vs k) := Yk; have f1 : w1.frozen? ⟨GA, k, none⟩ = false := Yi; obtain ⟨A1, cp1, hv1, _, _⟩ := hr1.shape; subst hv1; simp only [Vz, V8] at hr1 hat1 ⊢; refine Shut.out HK9.o _ _ ⟨r1, rx⟩ (fun hH => ?_); (try simp only [Nm]); (refine Ua 10 _ rfl hH ?_; (try simp only [Nm])); refine wpAnyH_ready (rs := [11]) Zc Zf ?_; refine Ug rfl (fun K hK => ?_) Uh; have HK11 := bA hK; clear hK; go_simp; refine Shut.out HK11.o _ _ (by (((try go_split_ands); (try dsimp only); (repeat' apply And.intro) <;> (first | assumption | go_keep)))) (fun _ => ?_); (try simp only [Nm]); refine wpAnyH_done Zc ?_ _; clear hH HK5 HK8 HK9 HK11)))
 all_goals as_aux_lemma =>
  go_wp2_with fail
  go_meet
  go_tidy
  have hp := (hT1.later (((Bnq _ _)).drew)).putA Ze hlt hr1 hg1 hat1
  rw [hyk, List.nil_append] at hp
  exact ⟨_, by rw [Hee.o]; exact hp⟩))
 case rest => (
 obtain ⟨vs1, hT2⟩ := hcut
 obtain ⟨wb, rfl⟩ := Exq wc
 clear hT1 x0 x4 lx
 have x0 := (hT2.blk mX).cell 0
 have x4 := (hT2.blk mX).cell 4
 have x5 := (hT2.blk mX).cell 5
 have lx := (hT2.blk mX).lt
 simp only [Yl] at x0 x4 x5
 go_upto_region 10 with fail
 go_cut [65] (fun s65 wx => s65 = .bool (n.op == 11 && n.e != n.t) ∧ wx = wb)
 case first => (
 go_wp2_with fail
 all_goals go_meet
 all_goals go_tidy
 all_goals simp_all)
 case rest => (
 obtain ⟨rfl, rfl⟩ := hcut
 go_upto_if 65 with fail
 go_cut [] (fun wx => ∃ vs', kJ 25 3 w.heap.size w GA GB l.length kx wx vs' (upd ys k (bN (bT n))))
 case first => (
 generalize hys2 : upd ys k (bN e1) = ys2 at *
 have hyk2 : ys2 k = bN e1 := by rw [← hys2, bI]
 have hys3 : ∀ z, upd ys2 k z = upd ys k z := fun z => by (
 rw [← hys2]
 funext i
 by_cases h : i = k
 · exact Jj
 · rw [bC _ _ h, bC _ _ h, bC _ _ h])
 have Hys2 := bA hys2
 have Hys3 := bA hys3
 clear hys2 hys3
 have hT1 := hT2
 clear hT2
 cases hq : (n.op == 11 && n.e != n.t)
 case true => (
 have hq' : n.op = 11 ∧ n.e ≠ n.t := by simpa using hq
 have he1 : e1 = [n.t] := by rw [He1.o, if_neg Zb]
 have hex : bT n = e1 ++ [n.e] := by (
 rw [he1]
 unfold bT
 rw [if_neg Zb, if_pos hq']
 rfl)
 have Hex := bA hex
 have hlk : (ys2 k).length = 1 := by rw [hyk2, he1]; rfl
 clear hex hq' he1
 (go_upto_region 11 with fail; have r0 := (hT1.blk m7').cell 0; have q0 := fB hT1.ra (i := k) hlt; have f0 := jQ hT1.ra (i := k) hlt; simp only [List.getElem?_toArray, List.getElem?_cons_zero] at r0; have lG := (hT1.blk m7').lt; have lA := cZ hT1.ra; have rA := hT1.tab.row (i := k) Zb; have dG := rA.ne_blk (hT1.blk m7') Ze; have dX := rA.ne_blk (hT1.blk mX) Ze; have dA := rA.ne_blk hT1.ra.blk.choose_spec Ze; have hzn := hT1.sz; have eG := Blk.ne_ (hT1.blk m7') hT1.ra.blk.choose_spec Ze; have eX := Blk.ne_ (hT1.blk mX) hT1.ra.blk.choose_spec Ze; have eG' := Ne.symm eG; have eX' := Ne.symm eX; refine wp_region_held_drew (S := fun w' => w'.cell? ⟨G7, 0, none⟩ = some (.slice (some ⟨GA, 0, none⟩) l.length l.length) ∧ w'.cell? ⟨gX, 5, none⟩ = some (.int .i64 n.e)) Zc (by (((try go_split_ands); (try dsimp only); (repeat' apply And.intro) <;> (first | assumption | go_keep)))) ?_; intro hH; (refine Ua 0 _ rfl hH ?_; (try simp only [Nm])); (refine Ua 1 _ rfl hH ?_; (try simp only [Nm])); (refine Ua 2 _ rfl hH ?_; (try simp only [Nm])); (refine Ua 3 _ rfl hH ?_; (try simp only [Nm])); (refine Ua 4 _ rfl hH ?_; (try simp only [Nm])); (refine Ua 6 _ rfl hH ?_; (try simp only [Nm])); (refine Ua 7 _ rfl hH ?_; (try simp only [Nm])); refine wpAnyH_ready (rs := [5, 8]) Zc Zf ?_; refine Ug rfl (fun K hK => ?_) (Ug rfl (fun K hK => ?_) Uh); (focus (have HK5 := bA hK; clear hK; go_simp; refine Shut.out HK5.o _ _ hH (fun _ => ?_); (try simp only [Nm]); refine wpAnyH_ready (rs := [8]) Zc Zf ?_; refine Ug rfl (fun K hK => ?_) Uh; have HK8 := bA hK; clear hK; go_simp; refine Shut.out HK8.o _ _ (by (((try go_split_ands); (try dsimp only); (repeat' apply And.intro) <;> (first | assumption | go_keep)))) (fun hH => ?_); (try simp only [Nm]); refine wpAnyH_ready (rs := [9]) Zc Zf ?_; refine Ug rfl (fun K hK => ?_) Uh; have HK9 := bA hK; clear hK; refine bP (v := (vs1 k)) Zj _ _ _ Zj i3 _ 8 underlying25 h3i h3z h3s h3b rfl Zj ((rA.alloc _).drew) (some ⟨wc.heap.size, 0, none⟩) 1 1 [.int .i64 n.e] Zj Zj (dU Zf) Zk Zr Zd Zd ?_; intro v1 w1 hr1 hg1 hat1; have r1 : w1.cell? ⟨G7, 0, none⟩ = some (.slice (some ⟨GA, 0, none⟩) l.length l.length) := Yj; have rx : w1.cell? ⟨gX, 5, none⟩ = some (.int .i64 n.e) := (by rw [hg1.cell_far _ Zd Xm]; exact (oN lx).trans x5); have q1 : w1.cell? ⟨GA, k, none⟩ = some (vs1 k) := Yk; have f1 : w1.frozen? ⟨GA, k, none⟩ = false := Yi; obtain ⟨A1, cp1, hv1, _, _⟩ := hr1.shape; subst hv1; simp only [Vz, V8] at hr1 hat1 ⊢; refine Shut.out HK9.o _ _ ⟨r1, rx⟩ (fun hH => ?_); (try simp only [Nm]); (refine Ua 10 _ rfl hH ?_; (try simp only [Nm])); refine wpAnyH_ready (rs := [11]) Zc Zf ?_; refine Ug rfl (fun K hK => ?_) Uh; have HK11 := bA hK; clear hK; go_simp; refine Shut.out HK11.o _ _ (by (((try go_split_ands); (try dsimp only); (repeat' apply And.intro) <;> (first | assumption | go_keep)))) (fun _ => ?_); (try simp only [Nm]); refine wpAnyH_done Zc ?_ _; clear hH HK5 HK8 HK9 HK11)); rotate_left; (focus (have HK8 := bA hK; clear hK; go_simp; refine Shut.out HK8.o _ _ (by (((try go_split_ands); (try dsimp only); (repeat' apply And.intro) <;> (first | assumption | go_keep)))) (fun hH => ?_); (try simp only [Nm]); refine wpAnyH_ready (rs := [5]) Zc Zf ?_; refine Ug rfl (fun K hK => ?_) Uh; have HK5 := bA hK; clear hK; go_simp; refine Shut.out HK5.o _ _ hH (fun _ => ?_); (try simp only [Nm]); refine wpAnyH_ready (rs := [9]) Zc Zf ?_; refine Ug rfl (fun K hK => ?_) Uh; have HK9 := bA hK; clear hK; refine bP (v := (vs1 k)) Zj _ _ _ Zj i3 _ 8 underlying25 h3i h3z h3s h3b rfl Zj ((rA.alloc _).drew) (some ⟨wc.heap.size, 0, none⟩) 1 1 [.int .i64 n.e] Zj Zj (dU Zf) Zk Zr Zd Zd ?_; intro v1 w1 hr1 hg1 hat1; have r1 : w1.cell? ⟨G7, 0, none⟩ = some (.slice (some ⟨GA, 0, none⟩) l.length l.length) := Yj; have rx : w1.cell? ⟨gX, 5, none⟩ = some (.int .i64 n.e) := (by rw [hg1.cell_far _ Zd Xm]; exact (oN lx).trans x5); have q1 : w1.cell? ⟨GA, k, none⟩ = some (vs1 k) := Yk; have f1 : w1.frozen? ⟨GA, k, none⟩ = false := Yi; obtain ⟨A1, cp1, hv1, _, _⟩ := hr1.shape; subst hv1; simp only [Vz, V8] at hr1 hat1 ⊢; refine Shut.out HK9.o _ _ ⟨r1, rx⟩ (fun hH => ?_); (try simp only [Nm]); (refine Ua 10 _ rfl hH ?_; (try simp only [Nm])); refine wpAnyH_ready (rs := [11]) Zc Zf ?_; refine Ug rfl (fun K hK => ?_) Uh; have HK11 := bA hK; clear hK; go_simp; refine Shut.out HK11.o _ _ (by (((try go_split_ands); (try dsimp only); (repeat' apply And.intro) <;> (first | assumption | go_keep)))) (fun _ => ?_); (try simp only [Nm]); refine wpAnyH_done Zc ?_ _; clear hH HK5 HK8 HK9 HK11)))
 all_goals as_aux_lemma =>
  go_wp2_with fail
  go_meet
  go_tidy
  have hp := (hT1.later (((Bnq _ _)).drew)).putA Ze hlt hr1 hg1 hat1
  rw [hyk2, Hys3.o] at hp
  exact ⟨_, by rw [Hex.o, eI]; exact hp⟩)
 case false => (
 have hex : bT n = e1 := by (
 rw [He1.o]
 unfold bT
 by_cases h12 : n.op = 12
 · rw [if_pos h12, if_pos h12]
 · rw [if_neg h12, if_neg h12, if_neg (fun h => by simp [h.1, h.2] at hq)])
 have Hex := bA hex
 clear hex
 go_wp2_with fail
 go_meet
 go_tidy
 refine ⟨vs1, ?_⟩
 rw [Hex.o, Hys2.o]
 exact hT1))
 case rest => (
 obtain ⟨vs2, hT3⟩ := hcut
 obtain ⟨wk, rfl⟩ := Exq wc
 have hyk3 : upd ys k (bN (bT n)) k = bN (bT n) := bI _ _ _
 have r0 := (hT3.blk m7').cell 0
 have q0 := fB hT3.ra (i := k) hlt
 have lG := (hT3.blk m7').lt
 have lA := cZ hT3.ra
 simp only [List.getElem?_toArray, List.getElem?_cons_zero] at r0
 have hsh := (hT3.tab.row (i := k) Zb).shape
 rw [hyk3, bJ] at hsh
 obtain ⟨A8, cap8, hv8, hc8, hm8⟩ := hsh
 rw [hv8] at q0
 have hes := HR.o.exits k n Hn.o
 have hes2 := rL n
 have hal : ∀ m, m < l.length → upd ys k (bN (bT n)) (l.length + m) = bN (ahJ l n k 0 m) := fun m hm => by rw [bC _ _ Zb, Hya.o m hm, bOE]
 have Hal := bA hal
 have Hv8 := bA hv8
 have Hyk3 := bA hyk3
 have Hes := bA hes
 clear hal hv8 hyk3 hes x0 x4 x5 lx hyk
 go_wp2_with fail
 obtain ⟨wr0, rfl⟩ := Exq wr
 go_loopg [82] ((bT n).length) (fun gk i w2 => ∃ j : Nat, j ≤ (bT n).length ∧ i = .int .i64 j ∧ gk = (bT n).length - j ∧ ∃ vs' ys', kJ 25 3 w.heap.size w GA GB l.length kx w2 vs' ys' ∧ (∀ i, i < l.length → vs' i = vs2 i ∧ ys' i = upd ys k (bN (bT n)) i) ∧ ∀ m, m < l.length → ys' (l.length + m) = bN (ahJ l n k j m))
 case atStart => exact ⟨0, Nat.zero_le _, rfl, Zb, vs2, _, hT3, fun i hi => ⟨rfl, rfl⟩, Hal.o⟩
 case round => (
 obtain ⟨j, hj, rfl, hgk2, vs3, ys3, hT4, hsm, hah⟩ := hrel
 have Hgk2 := bA hgk2
 have Hsm := bA hsm
 have Hah := bA hah
 clear hgk2 hsm hah hT3 r0 q0 lG lA
 by_cases hjl : j < (bT n).length
 · (
 have hrow := hT4.tab.row (i := k) Zb
 rw [(Hsm.o k hlt).1, (Hsm.o k hlt).2, Hv8.o, Hyk3.o] at hrow
 obtain ⟨g8, o8, cp8, x8, hA8, hg8B, hg8l, hx8, hcell8, _⟩ := hrow.get (k := j) (by rw [bJ]; exact hjl)
 injection hA8 with ea eb ec
 subst ea ec
 rw [kC] at hx8
 obtain ⟨m, hm, rfl⟩ : ∃ m, (bT n)[j]? = some m ∧ .int .i64 m = x8 := by simpa using hx8
 have hmr := Hes.o m (V4 hm)
 obtain ⟨mm, rfl⟩ := V7 hmr.1
 have hml : mm < l.length := Zb
 have Hm := bA hm
 have Hrow := bA hrow
 clear hm hx8 hmr eb hrow
 have v0' : (0 : Int) ≤ (j : Int) := Zb
 have v1' : (j : Int) < ((bT n).length : Int) := Zb
 obtain ⟨w0', w1'⟩ := Ikq (k := mm) (n := l.length) (by omega)
 go_upto_region 15 with fail
 have hlm : (ys3 (l.length + mm)).length ≤ 257 := by rw [Hah.o mm hml, bJ]; have := bQG l n k j mm; omega
 (have r0 := (hT4.blk m8').cell 0; have q0 : wr.cell? ⟨GB, mm, none⟩ = some (vs3 (l.length + mm)) := fB hT4.rb hml; have f0 : wr.frozen? ⟨GB, mm, none⟩ = false := jQ hT4.rb hml; simp only [List.getElem?_toArray, List.getElem?_cons_zero] at r0; have lG := (hT4.blk m8').lt; have lA := cZ hT4.rb; have rA := hT4.tab.row (i := l.length + mm) Zb; have dG := rA.ne_blk (hT4.blk m8') Ze; have dA := rA.ne_blk hT4.rb.blk.choose_spec Ze; have hzn := hT4.sz; have eG := Blk.ne_ (hT4.blk m8') hT4.rb.blk.choose_spec Ze; have eG' := Ne.symm eG; refine wp_region_held_drew (S := fun w' => w'.cell? ⟨G8, 0, none⟩ = some (.slice (some ⟨GB, 0, none⟩) l.length l.length)) Zc (by (((try go_split_ands); (try dsimp only); (repeat' apply And.intro) <;> (first | assumption | go_keep)))) ?_; intro hH; (refine Ua 0 _ rfl hH ?_; (try simp only [Nm])); (refine Ua 1 _ rfl hH ?_; (try simp only [Nm])); (refine Ua 2 _ rfl hH ?_; (try simp only [Nm])); (refine Ua 3 _ rfl hH ?_; (try simp only [Nm])); (refine Ua 4 _ rfl hH ?_; (try simp only [Nm])); (refine Ua 6 _ rfl hH ?_; (try simp only [Nm])); refine wpAnyH_ready (rs := [5, 7]) Zc Zf ?_; refine Ug rfl (fun K hK => ?_) (Ug rfl (fun K hK => ?_) Uh); (focus (have HK5 := bA hK; clear hK; go_simp; refine Shut.out HK5.o _ _ hH (fun _ => ?_); (try simp only [Nm]); refine wpAnyH_ready (rs := [7]) Zc Zf ?_; refine Ug rfl (fun K hK => ?_) Uh; have HK7 := bA hK; clear hK; go_simp; refine Shut.out HK7.o _ _ (by (((try go_split_ands); (try dsimp only); (repeat' apply And.intro) <;> (first | assumption | go_keep)))) (fun hH => ?_); (try simp only [Nm]); refine wpAnyH_ready (rs := [8]) Zc Zf ?_; refine Ug rfl (fun K hK => ?_) Uh; have HK8 := bA hK; clear hK; refine bP (v := vs3 (l.length + mm)) Zj _ _ _ Zj i3 _ 8 underlying25 h3i h3z h3s h3b rfl Zj ((rA.alloc _).drew) (some ⟨wr.heap.size, 0, none⟩) 1 1 [.int .i64 (k : Int)] Zj Zj (dU Zf) Zk Zr Zd Zd ?_; intro v1 w1 hr1 hg1 hat1; have r1 : w1.cell? ⟨G8, 0, none⟩ = some (.slice (some ⟨GB, 0, none⟩) l.length l.length) := Yj; have q1 : w1.cell? ⟨GB, mm, none⟩ = some (vs3 (l.length + mm)) := Yk; have f1 : w1.frozen? ⟨GB, mm, none⟩ = false := Yi; obtain ⟨A1, cp1, hv1, _, _⟩ := hr1.shape; subst hv1; simp only [Vz, V8] at hr1 hat1 ⊢; refine Shut.out HK8.o _ _ r1 (fun hH => ?_); (try simp only [Nm]); (refine Ua 9 _ rfl hH ?_; (try simp only [Nm])); refine wpAnyH_ready (rs := [10]) Zc Zf ?_; refine Ug rfl (fun K hK => ?_) Uh; have HK10 := bA hK; clear hK; go_simp; refine Shut.out HK10.o _ _ (by (((try go_split_ands); (try dsimp only); (repeat' apply And.intro) <;> (first | assumption | go_keep)))) (fun _ => ?_); (try simp only [Nm]); refine wpAnyH_done Zc ?_ _; clear hH HK5 HK7 HK8 HK10)); rotate_left; (focus (have HK7 := bA hK; clear hK; go_simp; refine Shut.out HK7.o _ _ (by (((try go_split_ands); (try dsimp only); (repeat' apply And.intro) <;> (first | assumption | go_keep)))) (fun hH => ?_); (try simp only [Nm]); refine wpAnyH_ready (rs := [5]) Zc Zf ?_; refine Ug rfl (fun K hK => ?_) Uh; have HK5 := bA hK; clear hK; go_simp; refine Shut.out HK5.o _ _ hH (fun _ => ?_); (try simp only [Nm]); refine wpAnyH_ready (rs := [8]) Zc Zf ?_; refine Ug rfl (fun K hK => ?_) Uh; have HK8 := bA hK; clear hK; refine bP (v := vs3 (l.length + mm)) Zj _ _ _ Zj i3 _ 8 underlying25 h3i h3z h3s h3b rfl Zj ((rA.alloc _).drew) (some ⟨wr.heap.size, 0, none⟩) 1 1 [.int .i64 (k : Int)] Zj Zj (dU Zf) Zk Zr Zd Zd ?_; intro v1 w1 hr1 hg1 hat1; have r1 : w1.cell? ⟨G8, 0, none⟩ = some (.slice (some ⟨GB, 0, none⟩) l.length l.length) := Yj; have q1 : w1.cell? ⟨GB, mm, none⟩ = some (vs3 (l.length + mm)) := Yk; have f1 : w1.frozen? ⟨GB, mm, none⟩ = false := Yi; obtain ⟨A1, cp1, hv1, _, _⟩ := hr1.shape; subst hv1; simp only [Vz, V8] at hr1 hat1 ⊢; refine Shut.out HK8.o _ _ r1 (fun hH => ?_); (try simp only [Nm]); (refine Ua 9 _ rfl hH ?_; (try simp only [Nm])); refine wpAnyH_ready (rs := [10]) Zc Zf ?_; refine Ug rfl (fun K hK => ?_) Uh; have HK10 := bA hK; clear hK; go_simp; refine Shut.out HK10.o _ _ (by (((try go_split_ands); (try dsimp only); (repeat' apply And.intro) <;> (first | assumption | go_keep)))) (fun _ => ?_); (try simp only [Nm]); refine wpAnyH_done Zc ?_ _; clear hH HK5 HK7 HK8 HK10)))
 all_goals as_aux_lemma =>
  go_wp2_with fail
  go_roundg ((bT n).length - (j + 1))
  case measure => exact Jf
  case rel => (
 refine ⟨j + 1, Zb, by go_num, rfl, _, _, (hT4.later (((Bnq _ _)).drew)).putB Ze hml hr1 hg1 hat1, fun i hi => ?_, fun m hm => ?_⟩
 · (
 rw [bC _ _ Zb, bC _ _ Zb]
 exact Hsm.o i hi)
 · (
 rw [bOF Hm.o]
 by_cases hmm : m = mm
 · (
 subst hmm
 rw [bI, if_pos rfl, Hah.o m hm, eI]
 rfl)
 · (
 rw [bC _ _ Zb, if_neg hmm]
 exact Hah.o m hm))))
 · (
 have hjj : j = (bT n).length := Zb
 have Hjj := bA hjj
 clear hjj
 go_wp2_with fail
 go_roundg (l.length - (k + 1))
 case measure => exact Jg
 case rel => (
 have hT5 := hT4
 rw [Hkx.o] at hT5
 refine ⟨k + 1, Zb, by go_num, rfl, vs3, ys3, hT5.tail, fun i hi => ?_, fun m hm => ?_⟩
 · (
 rw [(Hsm.o i hi).2, bMW Hn.o]
 by_cases h : i = k
 · subst h; rw [bI, if_pos rfl]
 · rw [bC _ _ h, if_neg h, Hyn.o i hi])
 · rw [Hah.o m hm, bQH Hn.o m (by rw [Hjj.o]; exact Nat.le_refl _)])))))))
 · (
 have hkk : k = l.length := Zb
 subst hkk
 have hE7 : oI wr 72 G7 GA l.length (bF true l) := by (
 refine ⟨hT.blk m7, cZ hT.ra, fun k hk => ?_⟩
 obtain ⟨n, hn⟩ : ∃ n, l[k]? = some n := ⟨_, Vx hk⟩
 have hrow := hT.tab.row (i := k) Zb
 rw [hyn k hk] at hrow
 obtain ⟨R, c, hv, _, _⟩ := hrow.shape
 rw [bJ] at hv
 have hx : nxL l l.length k = bT n := by unfold nxL; rw [if_pos hk, dJ hn]
 rw [hx] at hv hrow
 rw [hv] at hrow
 refine ⟨R, bT n, c, by rw [fB hT.ra hk, hv], hrow.vals, by have := rL n; omega, fun m => bDQ hn (HR.o.exits k n hn) m⟩)
 have hE8 : oI wr 72 G8 GB l.length (bF false l) := by (
 refine ⟨hT.blk m8, cZ hT.rb, fun k hk => ?_⟩
 have hrow := hT.tab.row (i := l.length + k) Zb
 rw [hya k hk] at hrow
 obtain ⟨R, c, hv, _, _⟩ := hrow.shape
 rw [bJ] at hv
 rw [hv] at hrow
 have hx : ahL l l.length k = bF false l k := by simp [ahL, bF]
 rw [hx] at hv hrow
 have hc : wr.cell? ⟨GB, k, none⟩ = some (vs (l.length + k)) := fB hT.rb hk
 refine ⟨R, bF false l k, c, by rw [hc, hv], hrow.vals, ?_, fun m => Iff.rfl⟩
 have := kP (fO l k) l.length
 simp only [bF]
 exact Nat.le_trans this Zb)
 have hP := hT.blk mP
 have hTm := hT.blk mT
 have hO := hT.blk mO
 have hB := hT.below
 have hED : ∀ b k m, m ∈ bF b l k → 0 ≤ m ∧ m < (l.length : Int) := fun b k m hm => by (
 have := nL hm
 unfold bF at hm
 obtain ⟨i, hi, _, rfl⟩ := jS.1 hm
 omega)
 have HED := bA hED
 have HE7 := bA hE7
 have HE8 := bA hE8
 have HP := bA hP
 have HTm := bA hTm
 have HO := bA hO
 have HB := bA hB
 clear hyn hya hT hE7 hE8 hTm hO hED m7 m8 mP mT mO hlt hk
 have p0 := hP.cell 0
 have p1 := hP.cell 1
 have lp := hP.lt
 simp only [Yl] at p0 p1
 clear hP
 obtain ⟨wL, rfl⟩ := Exq wr
 go_wp2_with fail
 refine (nM 131 _ (fun k => fJ t (nd l k)) regs A l.length cap _ Zb bRY (fun k hk => bMV regs A l cap w.heap.size (w.heap.size + 1) t _ HP.o HTm.o (hA.below HB.o) hk)).mono ?_
 rintro e w2 ⟨v2, rfl, hr2, hb2⟩
 obtain ⟨A2, c2, rfl, _, _⟩ := hr2.shape
 rw [bD, dD] at hr2 ⊢
 have hz2 := hb2.size
 (clear p0 p1 lp; have p0 := (HP.o.below hb2 HP.o.lt).cell 0; have p1 := (HP.o.below hb2 HP.o.lt).cell 1; have lp := (HP.o.below hb2 HP.o.lt).lt; simp only [Yl] at p0 p1)
 go_wp2_with fail
 obtain ⟨W2, hW2⟩ := Exq (w2.alloc (.cells #[.slice A2 l.length c2] 74))
 rw [← hW2]
 have hL2 : Below wL.heap.size wL W2 := by rw [hW2]; exact hb2.alloc hz2 _
 have h13 : Blk W2 w2.heap.size 74 #[.slice A2 l.length c2] := by rw [hW2]; exact Blk.new' rfl
 have hr2 : Row W2 wL.heap.size 4 (.slice A2 l.length c2) (bE (cQ t l)) := by rw [hW2]; exact hr2.alloc _
 obtain ⟨G13, hG13⟩ := Exq w2.heap.size
 rw [← hG13] at h13 ⊢
 have hg13 : wL.heap.size ≤ G13 := Zb
 clear hW2 hG13 hb2 hz2
 refine (nM 132 _ (fun k => lM t (nd l k)) regs A l.length cap _ Zb bRX (fun k hk => bMU regs A l cap w.heap.size (w.heap.size + 1) t _ (HP.o.below hL2 HP.o.lt) (HTm.o.below hL2 HTm.o.lt) (hA.below (HB.o.trans (hL2.mono HB.o.size))) hk)).mono ?_
 rintro e w3 ⟨v3, rfl, hr3, hb3⟩
 obtain ⟨A3, c3, rfl, _, _⟩ := hr3.shape
 rw [bD, dD] at hr3 ⊢
 have hL3 := hL2.trans (hb3.mono hL2.size)
 have hz3 := hb3.size
 have hzL := hL3.size
 (clear p0 p1 lp; have p0 := (HP.o.below hL3 HP.o.lt).cell 0; have p1 := (HP.o.below hL3 HP.o.lt).cell 1; have lp := (HP.o.below hL3 HP.o.lt).lt; simp only [Yl] at p0 p1)
 have hmk1 := HMK1.o
 go_wp2_with fail
 clear hmk1
 obtain ⟨W3, hW3⟩ := Exq (w3.alloc (.cells #[.slice A3 l.length c3] 74))
 rw [← hW3]
 have hb23 : Below W2.heap.size W2 W3 := by rw [hW3]; exact hb3.alloc hz3 _
 have hL3 : Below wL.heap.size wL W3 := by rw [hW3]; exact hL3.alloc hzL _
 have h13 := h13.below hb23 h13.lt
 have h14 : Blk W3 w3.heap.size 74 #[.slice A3 l.length c3] := by rw [hW3]; exact Blk.new' rfl
 have hr2 := hr2.below' hb23
 have hr3 : Row W3 wL.heap.size 4 (.slice A3 l.length c3) (bE (cI t l)) := by rw [hW3]; exact (hr3.alloc _).mono hL2.size
 obtain ⟨G14, hG14⟩ := Exq w3.heap.size
 rw [← hG14] at h14 ⊢
 have hg14 : wL.heap.size ≤ G14 := Zb
 have hzW3 : W3.heap.size = G14 + 1 := by rw [hW3, hG14]; simp
 clear hW3 hG14 hb3 hz3 hb23 hL2 hzL
 (clear p0 p1 lp; have p0 := (HP.o.below hL3 HP.o.lt).cell 0; have p1 := (HP.o.below hL3 HP.o.lt).cell 1; have lp := (HP.o.below hL3 HP.o.lt).lt; simp only [Yl] at p0 p1)
 obtain ⟨W4, hW4⟩ := Exq (W3.alloc (.cells (madeCells #[.bool false] l.length) 4))
 rw [← hW4]
 have hb34 : Below W3.heap.size W3 W4 := by rw [hW4]; exact (Bnq _ _)
 have hL4 : Below wL.heap.size wL W4 := hL3.trans (hb34.mono hL3.size)
 have hr4 : Row W4 wL.heap.size 4 (.slice (some ⟨G14 + 1, 0, none⟩) l.length l.length) (bE (noL l.length)) := by (
 rw [hW4, noL, bE, List.map_replicate]
 exact Row.made1' hzW3.symm hL3.size Zb)
 have h13 := h13.below hb34 h13.lt
 have h14 := h14.below hb34 h14.lt
 have hr2 := hr2.below' hb34
 have hr3 := hr3.below' hb34
 obtain ⟨A4, hA4⟩ := Exq (some ⟨G14 + 1, 0, none⟩ : Option Addr)
 rw [← hA4] at hr4 ⊢
 clear hW4 hA4 hb34 hL3
 refine (bAH regs A l.length cap w.heap.size A4 (noL l.length) l.length _ Zb (by simp [noL]) (HP.o.below hL4 HP.o.lt) hr4.vals).mono ?_
 rintro e w5 ⟨v5, rfl, hr5, hb5⟩
 obtain ⟨A5, c5, rfl, _, _⟩ := hr5.shape
 have hln : (cX (noL l.length)).length = l.length := by rw [bCR]; simp [noL]
 rw [bD, hln] at hr5 ⊢
 have hL5 := hL4.trans (hb5.mono hL4.size)
 have hr5 := hr5.mono hL4.size
 have h13 := h13.below hb5 h13.lt
 have h14 := h14.below hb5 h14.lt
 have hr2 := hr2.below' hb5
 have hr3 := hr3.below' hb5
 have hr4 := hr4.below' hb5
 clear hb5 hL4
 (clear p0 p1 lp; have p0 := (HP.o.below hL5 HP.o.lt).cell 0; have p1 := (HP.o.below hL5 HP.o.lt).cell 1; have lp := (HP.o.below hL5 HP.o.lt).lt; simp only [Yl] at p0 p1)
 have b13 := h13.cell 0
 have b14 := h14.cell 0
 have l13 := h13.lt
 have l14 := h14.lt
 simp only [List.getElem?_toArray, List.getElem?_cons_zero] at b13 b14
 have HS1 := bA h13
 have HS2 := bA h14
 clear h13 h14
 go_wp2_with fail
 obtain ⟨W5, hW5⟩ := Exq (w5.alloc (.cells nil6 152))
 have hF5 : FSt 4 74 152 wL G13 G14 w5.heap.size l.length A2 A3 A4 A5 c2 c3 c5 (cQ t l) (cI t l) (noL l.length) (cX (noL l.length)) nil6 W5 := by (
 rw [hW5]
 exact ⟨hr2.alloc _, hr3.alloc _, hr4.alloc _, hr5.alloc _, HS1.o.alloc _, HS2.o.alloc _, Blk.new' rfl, hL5.alloc hL5.size _, hL5.size⟩)
 have hWn : w5.alloc (.cells #[.slice none 0 0, .slice none 0 0, .slice none 0 0, .slice none 0 0, .slice none 0 0, .slice none 0 0] 152) = W5 := hW5.symm
 rw [hWn]
 obtain ⟨G18, hG18⟩ := Exq w5.heap.size
 rw [← hG18] at hF5 ⊢
 clear hW5 hWn hG18 hr2 hr3 hr4 hr5 hL5 HS1 HS2 b13 b14 l13 l14 p0 p1 lp hg13 hg14 hzW3
 have hfe : xZ regs l l.length l.length l.length l.length = 0 := by (
 unfold xZ rF
 rw [if_neg (by simp [hck])]
 simp)
 have Hfe := bA hfe
 clear hfe
 have hAw := fun W (h : Below wL.heap.size wL W) => hA.below (HB.o.trans (h.mono HB.o.size))
 have HAw := bA hAw
 clear hAw
 have hl2 : (cQ t l).length = l.length := vU t l
 have hl3 : (cI t l).length = l.length := bKA t l
 have hl4 : (noL l.length).length = l.length := by simp [noL]
 refine (sG regs A l cap true false A2 A3 A4 A5 l.length l.length l.length l.length c2 c3 l.length c5 W5 (HAw.o _ hF5.low) hl (cQ t l) (cI t l) (noL l.length) (cX (noL l.length)) hF5.r2.vals hF5.r3.vals hF5.r4.vals hF5.r5.vals hl2 hl3 hl4 hln Hfe.o).mono ?_
 rintro e w6 ⟨y0, v0, hg0, rfl, hd0, hb6⟩
 obtain ⟨D0, k0, rfl, _, _⟩ := hd0.shape
 have hy0 : y0.length = l.length := hg0.1.1
 rw [bD, hy0] at hd0 ⊢
 have hd0 := hd0.mono hF5.low.size
 have hF6 := hF5.later hb6
 have HG0 := bA hg0
 clear hb6 hF5 hg0
 have z0 := hF6.b18.cell 0; have e0 := hF6.b18.frozen 0; have l18 := hF6.b18.lt; simp only [Yl] at z0
 have hFs : FSt 4 74 152 wL G13 G14 G18 l.length A2 A3 A4 A5 c2 c3 c5 (cQ t l) (cI t l) (noL l.length) (cX (noL l.length)) #[.slice D0 l.length k0, .slice none 0 0, .slice none 0 0, .slice none 0 0, .slice none 0 0, .slice none 0 0] (w6.setCell ⟨G18, 0, none⟩ (.slice D0 l.length k0)) := hF6.set Ze Ze 0 (.slice D0 l.length k0)
 have hds := hd0.far (hd0.ne_blk hF6.b18 Ze) (p := ⟨G18, 0, none⟩) (.slice D0 l.length k0)
 clear hF6 hd0
 go_wp2_with fail
 obtain ⟨W6, hW6⟩ := Exq (w6.setCell ⟨G18, 0, none⟩ (.slice D0 l.length k0))
 rw [← hW6] at hFs hds ⊢
 clear hW6 z0 e0 l18
 have nB : ¬ (w.heap.size = G18) := fun e => by have := HP.o.lt; have := hFs.g18; omega
 have nB' : ¬ (G18 = w.heap.size) := fun e => nB e.symm
 have nG : ¬ (G14 = G18) := Blk.ne_ hFs.b14 hFs.b18 Ze
 have nG' : ¬ (G18 = G14) := fun e => nG e.symm
 have nH : ¬ (G13 = G18) := Blk.ne_ hFs.b13 hFs.b18 Ze
 have nH' : ¬ (G18 = G13) := fun e => nH e.symm
 have p0 := (HP.o.below hFs.low HP.o.lt).cell 0; have p1 := (HP.o.below hFs.low HP.o.lt).cell 1; have lp := (HP.o.below hFs.low HP.o.lt).lt; have b13 := hFs.b13.cell 0; have b14 := hFs.b14.cell 0; have l13 := hFs.b13.lt; have l14 := hFs.b14.lt; simp only [Yl] at p0 p1 b13 b14
 have HF6 := bA hFs
 have HD0 := bA hds
 clear hFs hds
 go_cut [] (fun wx => ∃ (y1 : List Bool) (D1 : Option Addr) (k1 : Nat), eU (cU false false (noL l.length) (cX (noL l.length)) (mk l.length fun k => yn (cI t l) k && yn (cQ t l) k) (cI t l) l) l.length y1 ∧ Row wx wL.heap.size 4 (.slice D0 l.length k0) (bE y0) ∧ Row wx wL.heap.size 4 (.slice D1 l.length k1) (bE y1) ∧
  FSt 4 74 152 wL G13 G14 G18 l.length A2 A3 A4 A5 c2 c3 c5 (cQ t l) (cI t l) (noL l.length) (cX (noL l.length)) #[.slice D0 l.length k0, .slice D1 l.length k1, .slice none 0 0, .slice none 0 0, .slice none 0 0, .slice none 0 0] wx)
 case first => (
 go_region_held3 (fun w' => w'.cell? ⟨w.heap.size, 0, none⟩ = some (.int .i64 regs) ∧ w'.cell? ⟨w.heap.size, 1, none⟩ = some (.slice A l.length cap) ∧ w'.cell? ⟨G14, 0, none⟩ = some (.slice A3 l.length c3)) (((try go_split_ands); (try dsimp only); (repeat' apply And.intro) <;> (first | assumption | go_keep))) (first
  | (go_at_call 130; have hFd := HF6.o.later ((Below.refl _ _).drew); refine (nM 136 _ (fun k => yn (cI t l) k && yn (cQ t l) k) regs A l.length cap _ Zb bRW (fun k hk => bMT A3 A2 (cI t l) (cQ t l) c3 c2 G14 G13 _ (by rw [hl3]; exact hFd.b14) (by rw [hl2]; exact hFd.b13) hFd.r3.vals hFd.r2.vals (by rw [hl3]; exact hk) (by rw [hl2]; exact hk))).mono ?_; rintro e w7 ⟨v7, rfl, hr7, hb7⟩; obtain ⟨A7, c7, rfl, _, _⟩ := hr7.shape; rw [bD, dD] at hr7 ⊢; have hF7 := hFd.later hb7; have hd7 := HD0.o.drew.below' hb7; clear hFd; have p0 := (HP.o.below hF7.low HP.o.lt).cell 0; have p1 := (HP.o.below hF7.low HP.o.lt).cell 1; have lp := (HP.o.below hF7.low HP.o.lt).lt; have b13 := hF7.b13.cell 0; have b14 := hF7.b14.cell 0; have l13 := hF7.b13.lt; have l14 := hF7.b14.lt; simp only [Yl] at p0 p1 b13 b14)
  | (go_at_call 135; refine (sG regs A l cap false false A4 A5 A7 A3 l.length l.length l.length l.length l.length c5 c7 c3 w7 (HAw.o _ hF7.low) hl (noL l.length) (cX (noL l.length)) (mk l.length fun k => yn (cI t l) k && yn (cQ t l) k) (cI t l) hF7.r4.vals hF7.r5.vals hr7.vals hF7.r3.vals hl4 hln (dD _ _) hl3 Hfe.o).mono ?_; rintro e w8 ⟨y1, v1, hg1, rfl, hd1, hb8⟩; obtain ⟨D1, k1, rfl, _, _⟩ := hd1.shape; have hy1 : y1.length = l.length := hg1.1.1; rw [bD, hy1] at hd1 ⊢; have hF8 := hF7.later hb8; have hd8 := hd7.below' hb8; have p0 := (HP.o.below hF8.low HP.o.lt).cell 0; have p1 := (HP.o.below hF8.low HP.o.lt).cell 1; have lp := (HP.o.below hF8.low HP.o.lt).lt; have b13 := hF8.b13.cell 0; have b14 := hF8.b14.cell 0; have l13 := hF8.b13.lt; have l14 := hF8.b14.lt; simp only [Yl] at p0 p1 b13 b14; have z1 := hF8.b18.cell 1; have e1 := hF8.b18.frozen 1; have l18 := hF8.b18.lt; simp only [Yl] at z1))
 all_goals as_aux_lemma =>
  go_wp2_with fail
  go_meet
  go_tidy
  exact ⟨y1, D1, k1, hg1, hd8.far (hd8.ne_blk hF8.b18 Ze) _, (hd1.mono hF7.low.size).far (hd1.ne_blk hF8.b18 Ze) _, hF8.set Ze Ze 1 (.slice D1 l.length k1)⟩)
 case rest => (
 obtain ⟨y1, D1, k1, hg1, hd0, hd1, hF8⟩ := hcut
 have hF8 : FSt 4 74 152 wL G13 G14 G18 l.length A2 A3 A4 A5 c2 c3 c5 (cQ t l) (cI t l) (noL l.length) (cX (noL l.length)) #[.slice D0 l.length k0, .slice D1 l.length k1, .slice none 0 0, .slice none 0 0, .slice none 0 0, .slice none 0 0] wc := hF8
 have hy1 : y1.length = l.length := hg1.1.1
 have HG1 := bA hg1
 clear hg1 HF6 HD0 p0 p1 lp b13 b14 l13 l14
 have p0 := (HP.o.below hF8.low HP.o.lt).cell 0; have p1 := (HP.o.below hF8.low HP.o.lt).cell 1; have lp := (HP.o.below hF8.low HP.o.lt).lt; have b13 := hF8.b13.cell 0; have b14 := hF8.b14.cell 0; have l13 := hF8.b13.lt; have l14 := hF8.b14.lt; simp only [Yl] at p0 p1 b13 b14
 have HF8 := bA hF8
 have HD0 := bA hd0
 have HD1 := bA hd1
 clear hF8 hd0 hd1
 go_wp2_with fail
 refine (nM 137 _ (fun k => yn y0 k && ((bF false l k).length == 0 || (bF false l k).any fun m => !yn (cI t l) m.toNat || !yn y0 m.toNat && !yn y1 m.toNat)) regs A l.length cap _ Zb bRV (fun k hk => bMS A3 D0 D1 (cI t l) y0 y1 c3 k0 k1 G14 G18 G8 GB l.length (bF false l) _ _ (by rw [hl3]; exact HF8.o.b14) HF8.o.b18 (by rw [hy0]; rfl) (by rw [hy1]; rfl) (HE8.o.below HF8.o.low) HF8.o.r3.vals HD0.o.vals HD1.o.vals hl3 hy0 hy1 (HED.o false) hk)).mono ?_
 rintro e w9 ⟨v2, rfl, hd2, hb9⟩
 obtain ⟨D2, k2, rfl, _, _⟩ := hd2.shape
 rw [bD, dD] at hd2 ⊢
 have hF9 := HF8.o.later hb9
 have hd2 : Row w9 wL.heap.size 4 (.slice D2 l.length k2) (bE (iY t l y0 y1)) := hd2.mono HF8.o.low.size
 have hd0 := HD0.o.below' hb9
 have hd1 := HD1.o.below' hb9
 clear hb9 HF8 HD0 HD1
 have z2 := hF9.b18.cell 2; have e2 := hF9.b18.frozen 2; have l18 := hF9.b18.lt; simp only [Yl] at z2
 go_wp2_with fail
 obtain ⟨W9, hW9⟩ := Exq (w9.setCell ⟨G18, 2, none⟩ (.slice D2 l.length k2))
 rw [← hW9]
 have hFs : FSt 4 74 152 wL G13 G14 G18 l.length A2 A3 A4 A5 c2 c3 c5 (cQ t l) (cI t l) (noL l.length) (cX (noL l.length)) #[.slice D0 l.length k0, .slice D1 l.length k1, .slice D2 l.length k2, .slice none 0 0, .slice none 0 0, .slice none 0 0] W9 := by rw [hW9]; exact hF9.set Ze Ze 2 (.slice D2 l.length k2)
 have hd0 := hd0.far (p := ⟨G18, 2, none⟩) (hd0.ne_blk hF9.b18 Ze) (.slice D2 l.length k2)
 have hd1 := hd1.far (p := ⟨G18, 2, none⟩) (hd1.ne_blk hF9.b18 Ze) (.slice D2 l.length k2)
 have hd2 := hd2.far (p := ⟨G18, 2, none⟩) (hd2.ne_blk hF9.b18 Ze) (.slice D2 l.length k2)
 rw [← hW9] at hd0 hd1 hd2
 clear hW9 z2 e2 l18 hF9 p0 p1 lp b13 b14 l13 l14
 have hle : (iY t l y0 y1).length = l.length := dD _ _
 have hlr : (cX (cQ t l)).length = l.length := by rw [bCR, hl2]
 have p0 := (HP.o.below hFs.low HP.o.lt).cell 0; have p1 := (HP.o.below hFs.low HP.o.lt).cell 1; have lp := (HP.o.below hFs.low HP.o.lt).lt; have b13 := hFs.b13.cell 0; have b14 := hFs.b14.cell 0; have l13 := hFs.b13.lt; have l14 := hFs.b14.lt; simp only [Yl] at p0 p1 b13 b14
 have z2 := hFs.b18.cell 2; have e2 := hFs.b18.frozen 2; have l18 := hFs.b18.lt; simp only [Yl] at z2
 have HF9 := bA hFs
 have HD0 := bA hd0
 have HD1 := bA hd1
 have HD2 := bA hd2
 clear hFs hd0 hd1 hd2 e2
 go_cut [] (fun wx => ∃ (y3 : List Bool) (D3 : Option Addr) (k3 : Nat), eU (cU false false (iY t l y0 y1) (cX (noL l.length)) (noL l.length) (cX (cQ t l)) l) l.length y3 ∧ Row wx wL.heap.size 4 (.slice D0 l.length k0) (bE y0) ∧ Row wx wL.heap.size 4 (.slice D1 l.length k1) (bE y1) ∧ Row wx wL.heap.size 4 (.slice D2 l.length k2) (bE (iY t l y0 y1)) ∧ Row wx wL.heap.size 4 (.slice D3 l.length k3) (bE y3) ∧ FSt 4 74 152 wL G13 G14 G18 l.length A2 A3 A4 A5 c2 c3 c5 (cQ t l) (cI t l) (noL l.length) (cX (noL l.length)) #[.slice D0 l.length k0, .slice D1 l.length k1, .slice D2 l.length k2, .slice D3 l.length k3, .slice none 0 0, .slice none 0 0] wx)
 case first => (
 go_region_held3 (fun w' => w'.cell? ⟨w.heap.size, 0, none⟩ = some (.int .i64 regs) ∧ w'.cell? ⟨w.heap.size, 1, none⟩ = some (.slice A l.length cap) ∧ w'.cell? ⟨G13, 0, none⟩ = some (.slice A2 l.length c2) ∧ w'.cell? ⟨G18, 2, none⟩ = some (.slice D2 l.length k2)) (((try go_split_ands); (try dsimp only); (repeat' apply And.intro) <;> (first | assumption | go_keep | (simp [Vv]; assumption) | (rw [Vv Zf]; assumption)))) (first
  | (go_at_call 133; have hFd := HF9.o.later ((Below.refl _ _).drew); refine (bAH regs A l.length cap w.heap.size A2 (cQ t l) c2 _ Zb hl2 (HP.o.below hFd.low HP.o.lt) hFd.r2.vals).mono ?_; rintro e w10 ⟨v10, rfl, hr10, hb10⟩; obtain ⟨A10, c10, rfl, _, _⟩ := hr10.shape; rw [bD, hlr] at hr10 ⊢; have hF10 := hFd.later hb10; have hd0 := HD0.o.drew.below' hb10; have hd1 := HD1.o.drew.below' hb10; have hd2 := HD2.o.drew.below' hb10; clear hFd; have p0 := (HP.o.below hF10.low HP.o.lt).cell 0; have p1 := (HP.o.below hF10.low HP.o.lt).cell 1; have lp := (HP.o.below hF10.low HP.o.lt).lt; have b13 := hF10.b13.cell 0; have b14 := hF10.b14.cell 0; have l13 := hF10.b13.lt; have l14 := hF10.b14.lt; simp only [Yl] at p0 p1 b13 b14; have z2 := hF10.b18.cell 2; have e2 := hF10.b18.frozen 2; have l18 := hF10.b18.lt; simp only [Yl] at z2)
  | (go_at_call 135; refine (sG regs A l cap false false D2 A5 A4 A10 l.length l.length l.length l.length k2 c5 l.length c10 w10 (HAw.o _ hF10.low) hl (iY t l y0 y1) (cX (noL l.length)) (noL l.length) (cX (cQ t l)) hd2.vals hF10.r5.vals hF10.r4.vals hr10.vals hle hln hl4 hlr Hfe.o).mono ?_; rintro e w11 ⟨y3, v3, hg3, rfl, hd3, hb11⟩; obtain ⟨D3, k3, rfl, _, _⟩ := hd3.shape; have hy3 : y3.length = l.length := hg3.1.1; rw [bD, hy3] at hd3 ⊢; have hF11 := hF10.later hb11; have hd0' := hd0.below' hb11; have hd1' := hd1.below' hb11; have hd2' := hd2.below' hb11; have p0 := (HP.o.below hF11.low HP.o.lt).cell 0; have p1 := (HP.o.below hF11.low HP.o.lt).cell 1; have lp := (HP.o.below hF11.low HP.o.lt).lt; have b13 := hF11.b13.cell 0; have b14 := hF11.b14.cell 0; have l13 := hF11.b13.lt; have l14 := hF11.b14.lt; simp only [Yl] at p0 p1 b13 b14; have z2 := hF11.b18.cell 2; have e2 := hF11.b18.frozen 2; have l18 := hF11.b18.lt; simp only [Yl] at z2; have z3 := hF11.b18.cell 3; have e3 := hF11.b18.frozen 3; have l18 := hF11.b18.lt; simp only [Yl] at z3))
 all_goals as_aux_lemma =>
  go_wp2_with fail
  go_meet
  go_tidy
  exact ⟨y3, D3, k3, hg3, hd0'.far (hd0'.ne_blk hF11.b18 Ze) _, hd1'.far (hd1'.ne_blk hF11.b18 Ze) _, hd2'.far (hd2'.ne_blk hF11.b18 Ze) _, (hd3.mono hF10.low.size).far (hd3.ne_blk hF11.b18 Ze) _, hF11.set Ze Ze 3 (.slice D3 l.length k3)⟩)
 case rest => (
 obtain ⟨y3, D3, k3, hg3, hd0, hd1, hd2, hd3, hF11⟩ := hcut
 have hF11 : FSt 4 74 152 wL G13 G14 G18 l.length A2 A3 A4 A5 c2 c3 c5 (cQ t l) (cI t l) (noL l.length) (cX (noL l.length)) #[.slice D0 l.length k0, .slice D1 l.length k1, .slice D2 l.length k2, .slice D3 l.length k3, .slice none 0 0, .slice none 0 0] wc := hF11
 have hy3 : y3.length = l.length := hg3.1.1
 have HG3 := bA hg3
 clear hg3 HF9 HD0 HD1 HD2 p0 p1 lp b13 b14 l13 l14 z2 l18
 have p0 := (HP.o.below hF11.low HP.o.lt).cell 0; have p1 := (HP.o.below hF11.low HP.o.lt).cell 1; have lp := (HP.o.below hF11.low HP.o.lt).lt; have b13 := hF11.b13.cell 0; have b14 := hF11.b14.cell 0; have l13 := hF11.b13.lt; have l14 := hF11.b14.lt; simp only [Yl] at p0 p1 b13 b14
 have HF11 := bA hF11
 have HD0 := bA hd0
 have HD1 := bA hd1
 have HD2 := bA hd2
 have HD3 := bA hd3
 clear hF11 hd0 hd1 hd2 hd3
 go_wp2_with fail
 refine (nM 140 _ (fun k => yn y3 k && (yn (cQ t l) k || (bF true l k).any fun m => !yn y3 m.toNat)) regs A l.length cap _ Zb bRU (fun k hk => bMR D3 A2 y3 (cQ t l) k3 c2 G13 G18 G7 GA l.length (bF true l) _ _ (by rw [hl2]; exact HF11.o.b13) HF11.o.b18 (by rw [hy3]; rfl) (HE7.o.below HF11.o.low) HF11.o.r2.vals HD3.o.vals hl2 hy3 (HED.o true) hk)).mono ?_
 rintro e w12 ⟨v4, rfl, hd4, hb12⟩
 obtain ⟨D4, k4, rfl, _, _⟩ := hd4.shape
 rw [bD, dD] at hd4 ⊢
 have hF12 := HF11.o.later hb12
 have hd4 : Row w12 wL.heap.size 4 (.slice D4 l.length k4) (bE (nK t l y3)) := hd4.mono HF11.o.low.size
 have hd0 := HD0.o.below' hb12
 have hd1 := HD1.o.below' hb12
 have hd2 := HD2.o.below' hb12
 have hd3 := HD3.o.below' hb12
 clear hb12 HF11 HD0 HD1 HD2 HD3
 have z4 := hF12.b18.cell 4; have e4 := hF12.b18.frozen 4; have l18 := hF12.b18.lt; simp only [Yl] at z4
 go_wp2_with fail
 obtain ⟨W12, hW12⟩ := Exq (w12.setCell ⟨G18, 4, none⟩ (.slice D4 l.length k4))
 rw [← hW12]
 have hFs : FSt 4 74 152 wL G13 G14 G18 l.length A2 A3 A4 A5 c2 c3 c5 (cQ t l) (cI t l) (noL l.length) (cX (noL l.length)) #[.slice D0 l.length k0, .slice D1 l.length k1, .slice D2 l.length k2, .slice D3 l.length k3, .slice D4 l.length k4, .slice none 0 0] W12 := by rw [hW12]; exact hF12.set Ze Ze 4 (.slice D4 l.length k4)
 have hd0 := hd0.far (p := ⟨G18, 4, none⟩) (hd0.ne_blk hF12.b18 Ze) (.slice D4 l.length k4)
 have hd1 := hd1.far (p := ⟨G18, 4, none⟩) (hd1.ne_blk hF12.b18 Ze) (.slice D4 l.length k4)
 have hd2 := hd2.far (p := ⟨G18, 4, none⟩) (hd2.ne_blk hF12.b18 Ze) (.slice D4 l.length k4)
 have hd3 := hd3.far (p := ⟨G18, 4, none⟩) (hd3.ne_blk hF12.b18 Ze) (.slice D4 l.length k4)
 have hd4 := hd4.far (p := ⟨G18, 4, none⟩) (hd4.ne_blk hF12.b18 Ze) (.slice D4 l.length k4)
 rw [← hW12] at hd0 hd1 hd2 hd3 hd4
 clear hW12 z4 e4 l18 hF12 p0 p1 lp b13 b14 l13 l14
 have hll : (nK t l y3).length = l.length := dD _ _
 have p0 := (HP.o.below hFs.low HP.o.lt).cell 0; have p1 := (HP.o.below hFs.low HP.o.lt).cell 1; have lp := (HP.o.below hFs.low HP.o.lt).lt; have b13 := hFs.b13.cell 0; have b14 := hFs.b14.cell 0; have l13 := hFs.b13.lt; have l14 := hFs.b14.lt; simp only [Yl] at p0 p1 b13 b14
 have z4 := hFs.b18.cell 4; have e4 := hFs.b18.frozen 4; have l18 := hFs.b18.lt; simp only [Yl] at z4
 have HF12 := bA hFs
 have HD0 := bA hd0
 have HD1 := bA hd1
 have HD2 := bA hd2
 have HD3 := bA hd3
 have HD4 := bA hd4
 clear hFs hd0 hd1 hd2 hd3 hd4 e4
 go_cut [] (fun wx => ∃ (y5 : List Bool) (D5 : Option Addr) (k5 : Nat), eU (cU true true (noL l.length) (cX (noL l.length)) (nK t l y3) (cX (cQ t l)) l) l.length y5 ∧ Row wx wL.heap.size 4 (.slice D0 l.length k0) (bE y0) ∧ Row wx wL.heap.size 4 (.slice D1 l.length k1) (bE y1) ∧ Row wx wL.heap.size 4 (.slice D2 l.length k2) (bE (iY t l y0 y1)) ∧ Row wx wL.heap.size 4 (.slice D3 l.length k3) (bE y3) ∧ Row wx wL.heap.size 4 (.slice D4 l.length k4) (bE (nK t l y3)) ∧ Row wx wL.heap.size 4 (.slice D5 l.length k5) (bE y5) ∧ FSt 4 74 152 wL G13 G14 G18 l.length A2 A3 A4 A5 c2 c3 c5 (cQ t l) (cI t l) (noL l.length) (cX (noL l.length)) #[.slice D0 l.length k0, .slice D1 l.length k1, .slice D2 l.length k2, .slice D3 l.length k3, .slice D4 l.length k4, .slice D5 l.length k5] wx)
 case first => (
 go_region_held3 (fun w' => w'.cell? ⟨w.heap.size, 0, none⟩ = some (.int .i64 regs) ∧ w'.cell? ⟨w.heap.size, 1, none⟩ = some (.slice A l.length cap) ∧ w'.cell? ⟨G13, 0, none⟩ = some (.slice A2 l.length c2) ∧ w'.cell? ⟨G18, 4, none⟩ = some (.slice D4 l.length k4)) (((try go_split_ands); (try dsimp only); (repeat' apply And.intro) <;> (first | assumption | go_keep | (simp [Vv]; assumption) | (rw [Vv Zf]; assumption)))) (first
  | (go_at_call 133; have hFd := HF12.o.later ((Below.refl _ _).drew); refine (bAH regs A l.length cap w.heap.size A2 (cQ t l) c2 _ Zb hl2 (HP.o.below hFd.low HP.o.lt) hFd.r2.vals).mono ?_; rintro e w13 ⟨v13, rfl, hr13, hb13⟩; obtain ⟨A13, c13, rfl, _, _⟩ := hr13.shape; rw [bD, hlr] at hr13 ⊢; have hF13 := hFd.later hb13; have hd0 := HD0.o.drew.below' hb13; have hd1 := HD1.o.drew.below' hb13; have hd2 := HD2.o.drew.below' hb13; have hd3 := HD3.o.drew.below' hb13; have hd4 := HD4.o.drew.below' hb13; clear hFd; have p0 := (HP.o.below hF13.low HP.o.lt).cell 0; have p1 := (HP.o.below hF13.low HP.o.lt).cell 1; have lp := (HP.o.below hF13.low HP.o.lt).lt; have b13 := hF13.b13.cell 0; have b14 := hF13.b14.cell 0; have l13 := hF13.b13.lt; have l14 := hF13.b14.lt; simp only [Yl] at p0 p1 b13 b14; have z4 := hF13.b18.cell 4; have e4 := hF13.b18.frozen 4; have l18 := hF13.b18.lt; simp only [Yl] at z4)
  | (go_at_call 135; refine (sG regs A l cap true true A4 A5 D4 A13 l.length l.length l.length l.length l.length c5 k4 c13 w13 (HAw.o _ hF13.low) hl (noL l.length) (cX (noL l.length)) (nK t l y3) (cX (cQ t l)) hF13.r4.vals hF13.r5.vals hd4.vals hr13.vals hl4 hln hll hlr Hfe.o).mono ?_; rintro e w14 ⟨y5, v5, hg5, rfl, hd5, hb14⟩; obtain ⟨D5, k5, rfl, _, _⟩ := hd5.shape; have hy5 : y5.length = l.length := hg5.1.1; rw [bD, hy5] at hd5 ⊢; have hF14 := hF13.later hb14; have hd0' := hd0.below' hb14; have hd1' := hd1.below' hb14; have hd2' := hd2.below' hb14; have hd3' := hd3.below' hb14; have hd4' := hd4.below' hb14; have p0 := (HP.o.below hF14.low HP.o.lt).cell 0; have p1 := (HP.o.below hF14.low HP.o.lt).cell 1; have lp := (HP.o.below hF14.low HP.o.lt).lt; have b13 := hF14.b13.cell 0; have b14 := hF14.b14.cell 0; have l13 := hF14.b13.lt; have l14 := hF14.b14.lt; simp only [Yl] at p0 p1 b13 b14; have z4 := hF14.b18.cell 4; have e4 := hF14.b18.frozen 4; have l18 := hF14.b18.lt; simp only [Yl] at z4; have z5 := hF14.b18.cell 5; have e5 := hF14.b18.frozen 5; have l18 := hF14.b18.lt; simp only [Yl] at z5))
 all_goals as_aux_lemma =>
  go_wp2_with fail
  go_meet
  go_tidy
  exact ⟨y5, D5, k5, hg5, hd0'.far (hd0'.ne_blk hF14.b18 Ze) _, hd1'.far (hd1'.ne_blk hF14.b18 Ze) _, hd2'.far (hd2'.ne_blk hF14.b18 Ze) _, hd3'.far (hd3'.ne_blk hF14.b18 Ze) _, hd4'.far (hd4'.ne_blk hF14.b18 Ze) _, (hd5.mono hF13.low.size).far (hd5.ne_blk hF14.b18 Ze) _, hF14.set Ze Ze 5 (.slice D5 l.length k5)⟩)
 case rest => (
 obtain ⟨y5, D5, k5, hg5, hd0, hd1, hd2, hd3, hd4, hd5, hF14⟩ := hcut
 have hF14 : FSt 4 74 152 wL G13 G14 G18 l.length A2 A3 A4 A5 c2 c3 c5 (cQ t l) (cI t l) (noL l.length) (cX (noL l.length)) #[.slice D0 l.length k0, .slice D1 l.length k1, .slice D2 l.length k2, .slice D3 l.length k3, .slice D4 l.length k4, .slice D5 l.length k5] wc := hF14
 clear HF12 HD0 HD1 HD2 HD3 HD4 p0 p1 lp b13 b14 l13 l14 z4 l18
 have z0 := hF14.b18.cell 0
 have z1 := hF14.b18.cell 1
 have z2 := hF14.b18.cell 2
 have z3 := hF14.b18.cell 3
 have z4 := hF14.b18.cell 4
 have z5 := hF14.b18.cell 5
 have l18 := hF14.b18.lt
 have hO14 := HO.o.below hF14.low HO.o.lt
 have o0 := hO14.cell 0
 have o1 := hO14.cell 1
 have o2 := hO14.cell 2
 have o3 := hO14.cell 3
 have o4 := hO14.cell 4
 have o5 := hO14.cell 5
 have f0 := hO14.frozen 0
 have f1 := hO14.frozen 1
 have f2 := hO14.frozen 2
 have f3 := hO14.frozen 3
 have f4 := hO14.frozen 4
 have f5 := hO14.frozen 5
 have lO := hO14.lt
 simp only [Yl] at z0 z1 z2 z3 z4 z5 o0 o1 o2 o3 o4 o5
 have HF14 := bA hF14
 have HO14 := bA hO14
 have HG5 := bA hg5
 have HD0 := bA hd0
 have HD1 := bA hd1
 have HD2 := bA hd2
 have HD3 := bA hd3
 have HD4 := bA hd4
 have HD5 := bA hd5
 clear hF14 hO14 hg5 hd0 hd1 hd2 hd3 hd4 hd5
 go_wp2_with fail
 obtain ⟨Wn, hWn⟩ := Exq (bCC wc (w.heap.size + 1 + 1) (.slice D0 l.length k0) (.slice D1 l.length k1) (.slice D2 l.length k2) (.slice D3 l.length k3) (.slice D4 l.length k4) (.slice D5 l.length k5))
 have hWn' := hWn
 unfold bCC at hWn'
 rw [← hWn']
 clear hWn'
 have hOn : Blk Wn (w.heap.size + 1 + 1) 152 #[.slice D0 l.length k0, .slice D1 l.length k1, .slice D2 l.length k2, .slice D3 l.length k3, .slice D4 l.length k4, .slice D5 l.length k5] := by (
 rw [hWn]
 exact (((((HO14.o.set_ 0 (.slice D0 l.length k0)).set_ 1 (.slice D1 l.length k1)).set_ 2 (.slice D2 l.length k2)).set_ 3 (.slice D3 l.length k3)).set_ 4 (.slice D4 l.length k4)).set_ 5 (.slice D5 l.length k5))
 have hsz : w.heap.size ≤ wL.heap.size := HB.o.size
 have hBn : Below w.heap.size w Wn := by (
 rw [hWn]
 exact bHL (HB.o.trans (HF14.o.low.mono hsz)) Zb _ _ _ _ _ _)
 have hq0 := uR HD0.o (HD0.o.ne_blk HO14.o Ze) (.slice D0 l.length k0) (.slice D1 l.length k1) (.slice D2 l.length k2) (.slice D3 l.length k3) (.slice D4 l.length k4) (.slice D5 l.length k5)
 have hq1 := uR HD1.o (HD1.o.ne_blk HO14.o Ze) (.slice D0 l.length k0) (.slice D1 l.length k1) (.slice D2 l.length k2) (.slice D3 l.length k3) (.slice D4 l.length k4) (.slice D5 l.length k5)
 have hq2 := uR HD2.o (HD2.o.ne_blk HO14.o Ze) (.slice D0 l.length k0) (.slice D1 l.length k1) (.slice D2 l.length k2) (.slice D3 l.length k3) (.slice D4 l.length k4) (.slice D5 l.length k5)
 have hq3 := uR HD3.o (HD3.o.ne_blk HO14.o Ze) (.slice D0 l.length k0) (.slice D1 l.length k1) (.slice D2 l.length k2) (.slice D3 l.length k3) (.slice D4 l.length k4) (.slice D5 l.length k5)
 have hq4 := uR HD4.o (HD4.o.ne_blk HO14.o Ze) (.slice D0 l.length k0) (.slice D1 l.length k1) (.slice D2 l.length k2) (.slice D3 l.length k3) (.slice D4 l.length k4) (.slice D5 l.length k5)
 have hq5 := uR HD5.o (HD5.o.ne_blk HO14.o Ze) (.slice D0 l.length k0) (.slice D1 l.length k1) (.slice D2 l.length k2) (.slice D3 l.length k3) (.slice D4 l.length k4) (.slice D5 l.length k5)
 rw [← hWn] at hq0 hq1 hq2 hq3 hq4 hq5
 refine Kn fun n0 n1 n2 n3 n4 n5 => ?_
 as_aux_lemma =>
 go_tidy
 refine bodyPost_ret (v := .tuple #[.agg #[.slice D0 l.length k0, .slice D1 l.length k1, .slice D2 l.length k2, .slice D3 l.length k3, .slice D4 l.length k4, .slice D5 l.length k5], .int .i64 0]) (by simp [results, results96, go_sem, n0, n1, n2, n3, n4, n5]) rfl ?_
 exact ⟨hBn, .inr ⟨H0.o, ⟨y0, y1, iY t l y0 y1, y3, nK t l y3, y5⟩, _, _, _, _, _, _, rfl, ⟨HG0.o, HG1.o, rfl, HG3.o, rfl, HG5.o⟩, hq0.mono hsz, hq1.mono hsz, hq2.mono hsz, hq3.mono hsz, hq4.mono hsz, hq5.mono hsz⟩⟩)))))))
 · (
 have H0 := bA h0
 have h0' : (fxE regs l t != 0) = true := by simp [h0]
 clear h0
 go_enter func96, ntmps96
 go_wp2_with (go_at_call 129; refine (HC.o _ Yc).mono ?_; rintro e w1 ⟨rfl, hb1⟩; have hO1 : Blk w1 (w.heap.size + 1 + 1) 152 nil6 := Blk.below Yd hb1 Zd; have hB1 : Below w.heap.size w w1 := Yc; have o0 := hO1.cell 0; have o1 := hO1.cell 1; have o2 := hO1.cell 2; have o3 := hO1.cell 3; have o4 := hO1.cell 4; have o5 := hO1.cell 5; have f0 := hO1.frozen 0; have f1 := hO1.frozen 1; have f2 := hO1.frozen 2; have f3 := hO1.frozen 3; have f4 := hO1.frozen 4; have f5 := hO1.frozen 5; have lO := hO1.lt; simp only [Yl] at o0 o1 o2 o3 o4 o5)
 obtain ⟨Wn, hWn⟩ := Exq (bCC w1 (w.heap.size + 1 + 1) (.slice none 0 0) (.slice none 0 0) (.slice none 0 0) (.slice none 0 0) (.slice none 0 0) (.slice none 0 0))
 have hWn' := hWn
 unfold bCC at hWn'
 rw [← hWn']
 clear hWn'
 have hOn : Blk Wn (w.heap.size + 1 + 1) 152 nil6 := by (
 rw [hWn]
 exact (((((hO1.set_ 0 (.slice none 0 0)).set_ 1 (.slice none 0 0)).set_ 2 (.slice none 0 0)).set_ 3 (.slice none 0 0)).set_ 4 (.slice none 0 0)).set_ 5 (.slice none 0 0))
 have hBn : Below w.heap.size w Wn := by (
 rw [hWn]
 exact bHL hB1 Zb _ _ _ _ _ _)
 refine Kn fun n0 n1 n2 n3 n4 n5 => ?_
 go_tidy
 refine bodyPost_ret (v := .tuple #[.agg nil6, .int .i64 (fxE regs l t)]) (by simp [results, results96, go_sem, n0, n1, n2, n3, n4, n5]) rfl ?_
 exact ⟨hBn, .inl ⟨H0.o, rfl⟩⟩))
end
end Go.Proofs.YtmghkonmfbpjcabGreatDoor
